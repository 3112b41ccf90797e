/- The helpers of the law on fleets: size, comparisons, search. Lists of at most 1048576. -/
import Derived.Test.YtanmkjjclpplkaaDr
import Derived.Test.YtanmkjjclpplkaaInts
import Derived.Test.YtanmkjjclpplkaaW5e
set_option linter.unusedVariables false
set_option linter.unusedSimpArgs false
namespace Go.Proofs.Ytanmkjjclpplkaa
open Go.RowKit
set_option maxHeartbeats 2000000
theorem rBig (A : Option Addr) (n c : Nat) (w : World) :
    Calls Try.prog 18 #[.slice A n c] w fun e w' => e = .returned (.bool (decide ((65536 : Int) < (n : Int)))) ∧ w = w' := by
  go_enter Try.func18, Try.ntmps18
  go_wp2
  go_ret
  exact ⟨rfl, rfl⟩
theorem rInts (A B : Option Addr) (c d : Nat) (l : List Int) (w : World) (h : Sl 1 encI w A l) (h2 : Sl 1 encI w B l) (hn : l.length ≤ 1048576) :
    Calls Try.prog 27 #[.slice A l.length c, .slice B l.length d] w fun e w' => e = .returned (.bool true) ∧ Below w.heap.size w w' := by
  go_enter Try.func27, Try.ntmps27
  go_wp2
  go_loopw [5] (fun i wr => ∃ k : Nat, k ≤ l.length ∧ i = .int .i64 k ∧ Below w.heap.size w wr) (fun i _ => l.length - (intOf i).toNat)
  case atStart => exact ⟨0, Nat.zero_le _, rfl, Below.refl _ _⟩
  case round =>
    obtain ⟨k, hk, rfl, hb⟩ := hrel
    by_cases hlt : k < l.length
    · obtain ⟨b, off, rfl⟩ := h.addr (by omega)
      obtain ⟨b', off', rfl⟩ := h2.addr (by omega)
      obtain ⟨hbl, c0⟩ := getI (h.below hb) hlt
      obtain ⟨hbl', d0⟩ := getI (h2.below hb) hlt
      go_wp2
      go_quiet (fail)
      go_wp2
      go_roundw
      case rel => exact ⟨k + 1, by omega, by go_num, bdrew hb _⟩
      case measure => simp [intOf]; omega
    · go_wp2
      go_ret
      exact ⟨rfl, hb⟩
theorem rHas (A : Option Addr) (c : Nat) (l : List Int) (z : Int) (w : World) (h : Sl 1 encI w A l) (hn : l.length ≤ 1048576) (hz : z ∈ l) :
    Calls Try.prog 25 #[.slice A l.length c, .int .i64 z] w fun e w' => e = .returned (.bool true) ∧ Below w.heap.size w w' := by
  obtain ⟨j, hj, ej⟩ := List.mem_iff_getElem.1 hz
  have EJ := Lib.hid ej
  clear ej hz
  go_enter Try.func25, Try.ntmps25
  go_wp2
  go_loopw [5] (fun i wr => ∃ k : Nat, k ≤ j ∧ i = .int .i64 k ∧ Below w.heap.size w wr) (fun i _ => l.length - (intOf i).toNat)
  case atStart => exact ⟨0, Nat.zero_le _, rfl, Below.refl _ _⟩
  case round =>
    obtain ⟨k, hk, rfl, hb⟩ := hrel
    have hlt : k < l.length := by omega
    obtain ⟨b, off, rfl⟩ := h.addr (by omega)
    obtain ⟨hbl, c0⟩ := getI (h.below hb) hlt
    by_cases hx : l[k] = z
    · go_wp2
      go_ret
      exact ⟨rfl, hb⟩
    · have hkj : k < j := by
        rcases Nat.lt_or_ge k j with h | h
        · exact h
        · obtain rfl : k = j := by omega
          exact absurd EJ.out hx
      go_wp2
      go_roundw
      case rel => exact ⟨k + 1, by omega, by go_num, hb⟩
      case measure => simp [intOf]; omega
theorem rFleet (A B : Option Addr) (c d : Nat) (l : List Cr) (w : World) (h : Sl 7 Cr.enc w A l) (h2 : Sl 7 Cr.enc w B l) (hn : l.length ≤ 1048576) :
    Calls Try.prog 20 #[.slice A l.length c, .slice B l.length d] w fun e w' => e = .returned (.bool true) ∧ Below w.heap.size w w' := by
  go_enter Try.func20, Try.ntmps20
  go_wp2
  go_loopw [5] (fun i wr => ∃ k : Nat, k ≤ l.length ∧ i = .int .i64 k ∧ Below w.heap.size w wr) (fun i _ => l.length - (intOf i).toNat)
  case atStart => exact ⟨0, Nat.zero_le _, rfl, Below.refl _ _⟩
  case round =>
    obtain ⟨k, hk, rfl, hb⟩ := hrel
    by_cases hlt : k < l.length
    · obtain ⟨b, off, rfl⟩ := h.addr (by omega)
      obtain ⟨b', off', rfl⟩ := h2.addr (by omega)
      obtain ⟨hbl, c0, c1, c2, c3, c4, c5, c6⟩ := Cr.get (h.below hb) hlt
      obtain ⟨hbl', d0, d1, d2, d3, d4, d5, d6⟩ := Cr.get (h2.below hb) hlt
      go_wp2
      go_quiet (fail)
      go_wp2
      go_roundw
      case rel => exact ⟨k + 1, by omega, by go_num, bdrew hb _⟩
      case measure => simp [intOf]; omega
    · go_wp2
      go_ret
      exact ⟨rfl, hb⟩
end Go.Proofs.Ytanmkjjclpplkaa
