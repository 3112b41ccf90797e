/- The helpers of the laws at lists of ints: comparison, marks. Lists of at most 1048576 ints. -/
import Derived.Test.YtanmkjjclpplkaaProg
import Derived.Test.YtanmkjjclpplkaaMore
set_option linter.unusedVariables false
set_option linter.unusedSimpArgs false
namespace Go.Proofs.Ytanmkjjclpplkaa
open Go.RowKit
set_option maxHeartbeats 1000000
def encI (n : Int) : List Value := [.int .i64 n]
theorem encI_len (n : Int) : (encI n).length = 1 := rfl
theorem encI_one (n : Int) : ∀ u ∈ encI n, u.oneCell' = true := by intro u hu; simp [encI] at hu; subst hu; rfl
theorem getI {w : World} {b off : Nat} {l : List Int} (h : Sl 1 encI w (some ⟨b, off, none⟩) l) {k : Nat} (hk : k < l.length) : b < w.heap.size ∧ w.cell? ⟨b, off + k, none⟩ = some (.int .i64 l[k]) := by
  obtain ⟨hlt, hc⟩ := Sl.get h hk
  have := hc 0 _ rfl
  rw [Nat.mul_one] at this
  exact ⟨hlt, this⟩
theorem eqI (A B : Option Addr) (c d : Nat) (l : List Int) (w : World) (h : Sl 1 encI w A l) (h2 : Sl 1 encI w B l) (hn : l.length ≤ 1048576) :
    Calls Try.prog 10 #[.slice A l.length c, .slice B l.length d] w fun e w' => e = .returned (.bool true) ∧ Below w.heap.size w w' := by
  go_enter Try.func10, Try.ntmps10
  go_wp2
  go_loopw [5] (fun i wr => ∃ k : Nat, k ≤ l.length ∧ i = .int .i64 k ∧ Below w.heap.size w wr) (fun i _ => l.length - (intOf i).toNat)
  case atStart => exact ⟨0, Nat.zero_le _, rfl, Below.refl _ _⟩
  case round =>
    obtain ⟨k, hk, rfl, hb⟩ := hrel
    by_cases hlt : k < l.length
    · obtain ⟨b, off, rfl⟩ := h.addr (by omega)
      obtain ⟨b', off', rfl⟩ := h2.addr (by omega)
      obtain ⟨hbl, c0⟩ := getI (h.below hb) hlt
      obtain ⟨hbl', d0⟩ := getI (h2.below hb) hlt
      go_wp2
      go_quiet (fail)
      go_wp2
      go_roundw
      case rel => exact ⟨k + 1, by omega, by go_num, bdrew hb _⟩
      case measure => simp [intOf]; omega
    · go_wp2
      go_ret
      exact ⟨rfl, hb⟩
def mkI (n : Nat) : List Int := (List.range n).map fun (i : Nat) => 1 + (i : Int)
theorem mkI_length (n : Nat) : (mkI n).length = n := by simp [mkI]
theorem mkI_get {n m : Nat} (h : m < (mkI n).length) : (mkI n)[m] = 1 + (m : Int) := by simp [mkI]
theorem markI (A : Option Addr) (c n : Nat) (w : World) (h : Own 1 w A n) (hn : n ≤ 1048576) :
    Calls Try.prog 13 #[.slice A n c, .int .i64 1] w fun e w' => e = .returned (.int .i64 (1 + (n : Int) * 1)) ∧ OnlyN A n w w' ∧ Sl 1 encI w' A (mkI n) ∧ Own 1 w' A n := by
  go_enter Try.func13, Try.ntmps13
  go_wp2
  go_loopw [1, 5] (fun t i wr => ∃ k : Nat, k ≤ n ∧ i = .int .i64 k ∧ t = .int .i64 (1 + (k : Int)) ∧ OnlyN A n w wr ∧ Sl 1 encI wr A ((mkI n).take k) ∧ Own 1 wr A n) (fun _ i _ => n - (intOf i).toNat)
  case atStart => exact ⟨0, Nat.zero_le _, rfl, by go_num, OnlyN.refl _ _ _, Sl.nil, h⟩
  case round =>
    obtain ⟨k, hk, rfl, rfl, ho, hs, hA⟩ := hrel
    by_cases hlt : k < n
    · obtain ⟨g, rfl, hA'⟩ := hA (by omega)
      have hlk : k < (mkI n).length := by rw [mkI_length]; exact hlt
      obtain ⟨v0, g0⟩ := hA'.2.1 k (by omega)
      have f0 := hA'.2.2 k
      have P := hs.put (by rw [mkI_length]; exact hA') hlk encI_len
      rw [mkI_get, Nat.mul_one] at P
      have P := Lib.hid P
      go_wp2_with (fail)
      go_roundw
      case rel => exact ⟨k + 1, by omega, by go_num, by go_num, ho.put (by omega) (encI (1 + (k : Int))) k, P.out, fun _ => ⟨g, rfl, hA'.put (encI (1 + (k : Int))) k (by show k + 1 ≤ _; omega)⟩⟩
      case measure => simp [intOf]; omega
    · obtain rfl : k = n := by omega
      go_wp2
      go_ret
      exact ⟨ret_int (by omega), ho, by rwa [List.take_of_length_le (by rw [mkI_length]; omega)] at hs, hA⟩
theorem heldI (A : Option Addr) (c n : Nat) (w : World) (h : Sl 1 encI w A (mkI n)) (hn : n ≤ 1048576) :
    Calls Try.prog 14 #[.slice A n c, .int .i64 1] w fun e w' => e = .returned (.int .i64 (1 + (n : Int) * 1)) ∧ w = w' := by
  go_enter Try.func14, Try.ntmps14
  go_wp2
  go_loop [1, 5] (fun t i => ∃ k : Nat, k ≤ n ∧ i = .int .i64 k ∧ t = .int .i64 (1 + (k : Int))) (fun _ i => n - (intOf i).toNat)
  case atStart => exact ⟨0, Nat.zero_le _, rfl, by go_num⟩
  case round =>
    obtain ⟨k, hk, rfl, rfl⟩ := hrel
    by_cases hlt : k < n
    · have hlk : k < (mkI n).length := by rw [mkI_length]; exact hlt
      obtain ⟨b, off, rfl⟩ := h.addr (by omega)
      obtain ⟨hbl, c0⟩ := getI h hlk
      rw [mkI_get] at c0
      go_wp2
      go_round
      case rel => exact ⟨k + 1, by omega, by go_num, by go_num⟩
      case measure => simp [intOf]; omega
    · obtain rfl : k = n := by omega
      go_wp2
      go_ret
      exact ⟨ret_int (by omega), rfl⟩
end Go.Proofs.Ytanmkjjclpplkaa
