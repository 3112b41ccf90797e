/- The helpers of the laws on casts: size, comparisons. Lists of at most 1048576 layers. -/
import Derived.Test.YtfmlfeokdaahmaaDr
import Derived.Test.YtfmlfeokdaahmaaS7b
import Derived.Deep.Cut
import Derived.BigGuardPart
set_option linter.unusedVariables false
set_option linter.unusedSimpArgs false
namespace Go.Proofs.Ytfmlfeokdaahmaa
open Go.RowKit
set_option maxHeartbeats 2000000
set_option maxRecDepth 100000
theorem rBig (A : Option Addr) (n c : Nat) (w : World) :
    Calls Try.prog 44 #[.slice A n c] w fun e w' => e = .returned (.bool (decide ((65536 : Int) < (n : Int)))) ∧ w = w' := by
  go_enter Try.func44, Try.ntmps44
  go_wp2
  go_ret
  exact ⟨rfl, rfl⟩
theorem rLayers (A B : Option Addr) (c d : Nat) (l : List Ly) (w : World) (h : Sl 2 Ly.enc w A l) (h2 : Sl 2 Ly.enc w B l) (hn : l.length ≤ 1048576) :
    Calls Try.prog 86 #[.slice A l.length c, .slice B l.length d] w fun e w' => e = .returned (.bool true) ∧ Below w.heap.size w w' := by
  go_enter Try.func86, Try.ntmps86
  go_wp2
  go_loopw [5] (fun i wr => ∃ k : Nat, k ≤ l.length ∧ i = .int .i64 k ∧ Below w.heap.size w wr) (fun i _ => l.length - (intOf i).toNat)
  case atStart => exact ⟨0, Nat.zero_le _, rfl, Below.refl _ _⟩
  case round =>
    obtain ⟨k, hk, rfl, hb⟩ := hrel
    by_cases hlt : k < l.length
    · obtain ⟨b, off, rfl⟩ := h.addr (by omega)
      obtain ⟨b', off', rfl⟩ := h2.addr (by omega)
      obtain ⟨hbl, c0, c1⟩ := Ly.get (h.below hb) hlt
      obtain ⟨hbl', d0, d1⟩ := Ly.get (h2.below hb) hlt
      go_wp2
      go_quiet (fail)
      go_wp2
      go_roundw
      case rel => exact ⟨k + 1, by omega, by go_num, bdrew hb _⟩
      case measure => simp [intOf]; omega
    · go_wp2
      go_ret
      exact ⟨rfl, hb⟩
theorem rCast (t : Ct) (A B : Option Addr) (c d : Nat) (w : World) (h : Sl 2 Ly.enc w A t.lay) (h2 : Sl 2 Ly.enc w B t.lay) (hn : t.lay.length ≤ 1048576) :
    Calls Try.prog 47 #[.agg #[.int .i64 t.id, .int .i64 t.time, .int .i64 t.x, .int .i64 t.y, .slice A t.lay.length c], .agg #[.int .i64 t.id, .int .i64 t.time, .int .i64 t.x, .int .i64 t.y, .slice B t.lay.length d]] w fun e w' => e = .returned (.bool true) ∧ Below w.heap.size w w' := by
  go_enter Try.func47, Try.ntmps47
  go_upto_region 1 with (fail)
  generalize hW : World.alloc w _ = W1
  obtain ⟨bW, kW, _⟩ := alloc_facts hW
  have eW : W1.heap.size = w.heap.size + 1 := by rw [← hW]; simp
  clear hW
  generalize hW2 : World.alloc W1 _ = W2
  obtain ⟨bW2, kW2, _⟩ := alloc_facts hW2
  clear hW2
  rw [eW] at kW2
  clear eW
  have kW := kW.below bW2
  have bW := bth bW bW2
  have c0 := kW.2.1 0 _ rfl
  have c1 := kW.2.1 1 _ rfl
  have c2 := kW.2.1 2 _ rfl
  have c3 := kW.2.1 3 _ rfl
  have c4 := kW.2.1 4 _ rfl
  have d0 := kW2.2.1 0 _ rfl
  have d1 := kW2.2.1 1 _ rfl
  have d2 := kW2.2.1 2 _ rfl
  have d3 := kW2.2.1 3 _ rfl
  have d4 := kW2.2.1 4 _ rfl
  go_wp2_with (fail)
  refine (rLayers A B c d t.lay _ (h.below bW) (h2.below bW) hn).mono ?_; rintro e w2 ⟨rfl, b2⟩
  go_wp2_with (fail)
  go_ret
  exact ⟨rfl, bth bW b2⟩
end Go.Proofs.Ytfmlfeokdaahmaa
