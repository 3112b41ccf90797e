/- The helpers of the great laws at soundings: size, comparison; the square of a distance. Lists of at most 1048576. -/
import Derived.Test.YthnoknmijelcmaaDr
import Derived.Test.YthnoknmijelcmaaS8a
import Derived.Test.YthnoknmijelcmaaW2
import Derived.Deep.Cut
set_option linter.unusedVariables false
set_option linter.unusedSimpArgs false
namespace Go.Proofs.Ythnoknmijelcmaa
open Go.RowKit
set_option maxHeartbeats 2000000
theorem vBig (A : Option Addr) (n c : Nat) (w : World) :
    Calls Try.prog 36 #[.slice A n c] w fun e w' => e = .returned (.bool (decide ((65536 : Int) < (n : Int)))) ∧ w = w' := by
  go_enter Try.func36, Try.ntmps36
  go_wp2_with (fail)
  go_ret
  exact ⟨rfl, rfl⟩
theorem vSoundings (A B : Option Addr) (c d : Nat) (l : List Sd) (w : World) (h : Sl 5 Sd.enc w A l) (h2 : Sl 5 Sd.enc w B l) (hn : l.length ≤ 1048576) :
    Calls Try.prog 42 #[.slice A l.length c, .slice B l.length d] w fun e w' => e = .returned (.bool true) ∧ Below w.heap.size w w' := by
  go_enter Try.func42, Try.ntmps42
  go_wp2
  go_loopw [5] (fun i wr => ∃ k : Nat, k ≤ l.length ∧ i = .int .i64 k ∧ Below w.heap.size w wr) (fun i _ => l.length - (intOf i).toNat)
  case atStart => exact ⟨0, Nat.zero_le _, rfl, Below.refl _ _⟩
  case round =>
    obtain ⟨k, hk, rfl, hb⟩ := hrel
    by_cases hlt : k < l.length
    · obtain ⟨b, off, rfl⟩ := h.addr (by omega)
      obtain ⟨b', off', rfl⟩ := h2.addr (by omega)
      obtain ⟨hbl, c0, c1, c2, c3, c4⟩ := Sd.get (h.below hb) hlt
      obtain ⟨hbl', d0, d1, d2, d3, d4⟩ := Sd.get (h2.below hb) hlt
      go_wp2
      go_quiet (fail)
      go_wp2
      go_roundw
      case rel => exact ⟨k + 1, by omega, by go_num, bdrew hb _⟩
      case measure => simp [intOf]; omega
    · go_wp2
      go_ret
      exact ⟨rfl, hb⟩
theorem iSqB (a b c d : Int) (w : World) (h1 : spOk a b = true) (h2 : spOk c d = true) :
    Calls Try.prog 38 #[.agg #[.int .i64 a, .int .i64 b], .agg #[.int .i64 c, .int .i64 d]] w fun e w' => e = .returned (.tuple #[.int .i64 (sqr a b c d), .bool true]) ∧ Below w.heap.size w w' := by
  go_enter Try.func38, Try.ntmps38
  go_upto_region 1 with (fail)
  generalize hW : World.alloc (World.alloc w _) _ = W1
  have k1 : Bk W1 w.heap.size [.int .i64 a, .int .i64 b] := by
    rw [← hW]
    exact (Bk.new w [.int .i64 a, .int .i64 b] _).below (below_alloc _ _)
  have k2 : Bk W1 (w.heap.size + 1) [.int .i64 c, .int .i64 d] := by
    rw [← hW]
    have := Bk.new (w.alloc (.cells #[.int .i64 a, .int .i64 b] 27)) [.int .i64 c, .int .i64 d] 27
    simpa using this
  have b1 : Below w.heap.size w W1 := by rw [← hW]; exact bth (below_alloc _ _) (below_alloc _ _)
  clear hW
  have m0 := k1.2.1 0 _ rfl
  have m1 := k1.2.1 1 _ rfl
  go_wp2_with (fail)
  refine (implSpot a b _).mono ?_; rintro e w2 ⟨rfl, b2⟩; rw [h1]
  have k12 := k1.below b2
  have k22 := k2.below b2
  clear m0 m1 k1 k2
  have n0 := k22.2.1 0 _ rfl
  have n1 := k22.2.1 1 _ rfl
  go_wp2_with (fail)
  refine (implSpot c d _).mono ?_; rintro e w3 ⟨rfl, b3⟩; rw [h2]
  have k13 := k12.below b3
  have k23 := k22.below b3
  clear n0 n1 k12 k22
  have m0 := k13.2.1 0 _ rfl
  have m1 := k13.2.1 1 _ rfl
  have n0 := k23.2.1 0 _ rfl
  have n1 := k23.2.1 1 _ rfl
  go_wp2_with (fail)
  refine (implSqr a b c d _ h1 h2).mono ?_; rintro e w4 ⟨rfl, b4⟩
  go_wp2_with (fail)
  go_ret2
  exact ⟨rfl, bth b1 (bth b2 (bth b3 b4))⟩
end Go.Proofs.Ythnoknmijelcmaa
