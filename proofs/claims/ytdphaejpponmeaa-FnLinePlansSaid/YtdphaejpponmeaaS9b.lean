/- The helpers of the laws at lists of pairs of numbers: comparison, marks. Lists of at most 1048576 pairs. -/
import Derived.Test.YtdphaejpponmeaaProg
import Derived.Test.YtdphaejpponmeaaP9b
import Derived.Test.YtdphaejpponmeaaAft
set_option linter.unusedVariables false
set_option linter.unusedSimpArgs false
namespace Go.Proofs.Ytdphaejpponmeaa
open Go.RowKit
set_option maxHeartbeats 2000000
theorem Ce.get {w : World} {b off : Nat} {l : List Ce} (h : Sl 2 Ce.enc w (some ⟨b, off, none⟩) l) {k : Nat} (hk : k < l.length) :
    b < w.heap.size ∧ w.cell? ⟨b, off + k * 2, none⟩ = some (.int .i64 l[k].row) ∧ w.cell? ⟨b, off + k * 2 + 1, none⟩ = some (.int .i64 l[k].col) := by
  obtain ⟨hlt, hc⟩ := Sl.get h hk
  exact ⟨hlt, hc 0 _ rfl, hc 1 _ rfl⟩
theorem eqCe (x : Ce) (w : World) :
    Calls Try.prog 81 #[.agg #[.int .i64 x.row, .int .i64 x.col], .agg #[.int .i64 x.row, .int .i64 x.col]] w fun e w' => e = .returned (.bool true) ∧ Below w.heap.size w w' := by
  go_enter Try.func81, Try.ntmps81
  go_wp2_with (fail)
  generalize hW : World.alloc w _ = W1
  obtain ⟨bW, kW, _⟩ := alloc_facts hW
  have eW : W1.heap.size = w.heap.size + 1 := by rw [← hW]; simp
  clear hW
  generalize hW2 : World.alloc W1 _ = W2
  obtain ⟨bW2, kW2, _⟩ := alloc_facts hW2
  clear hW2
  rw [eW] at kW2
  clear eW
  have kW := kW.below bW2
  have bW := bth bW bW2
  go_loopw [5] (fun i wr => ∃ k : Nat, k ≤ 2 ∧ i = .int .i64 k ∧ Below W2.heap.size W2 wr) (fun i _ => 2 - (intOf i).toNat)
  case atStart => exact ⟨0, by omega, rfl, Below.refl _ _⟩
  case round =>
    obtain ⟨k, hk, rfl, hb⟩ := hrel
    have k1 := kW.below hb
    have k2 := kW2.below hb
    have l1 := aft_cell k1.1
    have l2 := aft_cell k2.1
    have c0 := k1.2.1 0 _ rfl
    have c1 := k1.2.1 1 _ rfl
    have d0 := k2.2.1 0 _ rfl
    have d1 := k2.2.1 1 _ rfl
    obtain rfl | rfl | rfl : k = 0 ∨ k = 1 ∨ k = 2 := by omega
    · go_wp2_with (fail)
      refine wp_region_aft (by kernel_rfl) (by kernel_rfl) ?_
      repeat (go_big_quiet_step ((fail)))
      refine wpQuiet_nil ?_
      intro w9 b9
      go_wp2
      go_roundw
      case rel => exact ⟨1, by omega, rfl, bth hb b9⟩
      case measure => simp [intOf]
    · go_wp2_with (fail)
      refine wp_region_aft (by kernel_rfl) (by kernel_rfl) ?_
      repeat (go_big_quiet_step ((fail)))
      refine wpQuiet_nil ?_
      intro w9 b9
      go_wp2
      go_roundw
      case rel => exact ⟨2, by omega, rfl, bth hb b9⟩
      case measure => simp [intOf]
    · go_wp2
      go_ret
      exact ⟨rfl, bth bW hb⟩
theorem eqCeS (A B : Option Addr) (c d : Nat) (l : List Ce) (w : World) (h : Sl 2 Ce.enc w A l) (h2 : Sl 2 Ce.enc w B l) (hn : l.length ≤ 1048576) :
    Calls Try.prog 37 #[.slice A l.length c, .slice B l.length d] w fun e w' => e = .returned (.bool true) ∧ Below w.heap.size w w' := by
  go_enter Try.func37, Try.ntmps37
  go_wp2
  go_loopw [5] (fun i wr => ∃ k : Nat, k ≤ l.length ∧ i = .int .i64 k ∧ Below w.heap.size w wr) (fun i _ => l.length - (intOf i).toNat)
  case atStart => exact ⟨0, Nat.zero_le _, rfl, Below.refl _ _⟩
  case round =>
    obtain ⟨k, hk, rfl, hb⟩ := hrel
    by_cases hlt : k < l.length
    · obtain ⟨b, off, rfl⟩ := h.addr (by omega)
      obtain ⟨b', off', rfl⟩ := h2.addr (by omega)
      obtain ⟨hbl, c0, c1⟩ := Ce.get (h.below hb) hlt
      obtain ⟨hbl', d0, d1⟩ := Ce.get (h2.below hb) hlt
      have l1 := aft_cell hbl
      have l2 := aft_cell hbl'
      have u1 : (0 : Int) ≤ (k : Int) := by omega
      have u2 : (k : Int) < (l.length : Int) := by omega
      go_wp2_with (fail)
      refine wp_region_aft (by kernel_rfl) (by kernel_rfl) ?_
      repeat (go_big_quiet_step ((go_at_call 81; exact Aft.calls _ (eqCe _ _))))
      refine wpQuiet_nil ?_
      intro w9 b9
      go_wp2
      go_roundw
      case rel => exact ⟨k + 1, by omega, by go_num, bth hb b9⟩
      case measure => simp [intOf]; omega
    · go_wp2
      go_ret
      exact ⟨rfl, hb⟩
def Ce.mk_ (n : Nat) : List Ce := (List.range n).map fun (i : Nat) => ⟨1 + (i : Int) * 2, 1 + (i : Int) * 2 + 1⟩
theorem Ce.mk_length (n : Nat) : (Ce.mk_ n).length = n := by simp [Ce.mk_]
theorem Ce.mk_get {n m : Nat} (h : m < (Ce.mk_ n).length) : (Ce.mk_ n)[m] = ⟨1 + (m : Int) * 2, 1 + (m : Int) * 2 + 1⟩ := by simp [Ce.mk_]
theorem markCe (A : Option Addr) (c n : Nat) (w : World) (h : Own 2 w A n) (hn : n ≤ 1048576) :
    Calls Try.prog 38 #[.slice A n c, .int .i64 1] w fun e w' => e = .returned (.int .i64 (1 + (n : Int) * 2)) ∧ OnlyN A n w w' ∧ Sl 2 Ce.enc w' A (Ce.mk_ n) ∧ Own 2 w' A n := by
  go_enter Try.func38, Try.ntmps38
  go_wp2
  go_loopw [1, 5] (fun t i wr => ∃ k : Nat, k ≤ n ∧ i = .int .i64 k ∧ t = .int .i64 (1 + (k : Int) * 2) ∧ OnlyN A n w wr ∧ Sl 2 Ce.enc wr A ((Ce.mk_ n).take k) ∧ Own 2 wr A n) (fun _ i _ => n - (intOf i).toNat)
  case atStart => exact ⟨0, Nat.zero_le _, rfl, by go_num, OnlyN.refl _ _ _, Sl.nil, h⟩
  case round =>
    obtain ⟨k, hk, rfl, rfl, ho, hs, hA⟩ := hrel
    by_cases hlt : k < n
    · obtain ⟨g, rfl, hA'⟩ := hA (by omega)
      have hlk : k < (Ce.mk_ n).length := by rw [Ce.mk_length]; exact hlt
      obtain ⟨v0, g0⟩ := hA'.2.1 (k * 2) (by omega)
      obtain ⟨v1, g1⟩ := hA'.2.1 (k * 2 + 1) (by omega)
      have f0 := hA'.2.2 (k * 2)
      have f1 := hA'.2.2 (k * 2 + 1)
      have P := Lib.hid (hs.put (by rw [Ce.mk_length]; exact hA') hlk (fun _ => rfl))
      rw [Ce.mk_get] at P
      go_wp2_with (fail)
      go_rounds 3
      go_roundw
      case rel => exact ⟨k + 1, by omega, by go_num, by go_num, ho.put (by omega) (Ce.enc ⟨1 + (k : Int) * 2, 1 + (k : Int) * 2 + 1⟩) (k * 2), P.out, fun _ => ⟨g, rfl, hA'.put (Ce.enc ⟨1 + (k : Int) * 2, 1 + (k : Int) * 2 + 1⟩) (k * 2) (by show k * 2 + 2 ≤ _; omega)⟩⟩
      case measure => simp [intOf]; omega
    · obtain rfl : k = n := by omega
      go_wp2
      go_ret
      exact ⟨rfl, ho, by rwa [List.take_of_length_le (by rw [Ce.mk_length]; omega)] at hs, hA⟩
theorem heldCe (A : Option Addr) (c n : Nat) (w : World) (h : Sl 2 Ce.enc w A (Ce.mk_ n)) (hn : n ≤ 1048576) :
    Calls Try.prog 39 #[.slice A n c, .int .i64 1] w fun e w' => e = .returned (.int .i64 (1 + (n : Int) * 2)) ∧ w = w' := by
  go_enter Try.func39, Try.ntmps39
  go_wp2
  go_loop [1, 5] (fun t i => ∃ k : Nat, k ≤ n ∧ i = .int .i64 k ∧ t = .int .i64 (1 + (k : Int) * 2)) (fun _ i => n - (intOf i).toNat)
  case atStart => exact ⟨0, Nat.zero_le _, rfl, by go_num⟩
  case round =>
    obtain ⟨k, hk, rfl, rfl⟩ := hrel
    by_cases hlt : k < n
    · have hlk : k < (Ce.mk_ n).length := by rw [Ce.mk_length]; exact hlt
      obtain ⟨b, off, rfl⟩ := h.addr (by omega)
      obtain ⟨hbl, c0, c1⟩ := Ce.get h hlk
      simp only [Ce.mk_get] at c0 c1
      go_wp2_with (fail)
      go_rounds 3
      go_round
      case rel => exact ⟨k + 1, by omega, by go_num, by go_num⟩
      case measure => simp [intOf]; omega
    · obtain rfl : k = n := by omega
      go_wp2
      go_ret
      exact ⟨rfl, rfl⟩
end Go.Proofs.Ytdphaejpponmeaa
