/- CraftText of both texts, and the law over it: what they return. The program's reads one table of the library's. No condition on the argument but that its text has a length that a text can have. -/
import Derived.Test.YtanmkjjclpplkaaDoorW5a
import Derived.Test.YtanmkjjclpplkaaDoorNm
import Derived.Deep.Cut
set_option linter.unusedVariables false
set_option linter.unusedSimpArgs false
namespace Go.Proofs.YtanmkjjclpplkaaDoor
open Go.RowKit
set_option maxHeartbeats 4000000
set_option maxRecDepth 100000
@[irreducible] def tx5 (v : Cr) : ByteArray := v.name ++ ⟨#[32, 40]⟩ ++ num v.id ++ ⟨#[41, 44, 32, 100, 114, 97, 117, 103, 104, 116, 32]⟩ ++ num v.draught ++ ⟨#[32, 99, 109, 44, 32, 115, 111, 117, 110, 100, 101, 114, 32]⟩ ++ num v.ahead ++ ⟨#[47]⟩ ++ num v.beside
theorem word_size {s : ByteArray} (h : wordB s = true) : s.size ≤ 1000 := by
  unfold wordB at h
  simp only [Bool.and_eq_true, inB_true] at h
  omega
theorem l5Sig (z : Int) (h0 : -1000000000 ≤ z) (h1 : z ≤ 1000000000) (w : World) :
    Calls Tryd.prog 22 #[.int .i64 z] w fun e w' => e = .returned (.string (num z)) ∧ Below w.heap.size w w' := by
  by_cases h : z < 0
  · have hs := num_neg z h
    have hz : (num (-z)).size ≤ 21 := num_size _ (by omega) (by omega)
    have I := Lib.hid (fun w => l1NumC (-z) (by omega) (by omega) w)
    rw [hs]
    clear hs
    go_enter Tryd.func22, Tryd.ntmps22
    go_wp2_with (fail)
    refine (I.out _).mono ?_; rintro e w1 ⟨rfl, b1⟩
    go_wp2_with (fail)
    go_ret
    exact ⟨rfl, b1⟩
  · go_enter Tryd.func22, Tryd.ntmps22
    go_wp2_with (fail)
    refine (l1NumC z h0 h1 _).mono ?_; rintro e w1 ⟨rfl, b1⟩
    go_wp2_with (fail)
    go_ret
    exact ⟨rfl, b1⟩
def stx5 (v : Cr) : ByteArray := if crOk v = true then tx5 v else ByteArray.empty
theorem sCText (v : Cr) (w : World) (hq : v.name.size ≤ 9223372036854775807) :
    Calls Tryd.prog 6 #[.agg #[.int .i64 v.id, .string v.name, .int .i64 v.draught, .int .i64 v.ahead, .int .i64 v.beside, .int .i64 v.speed, .int .i64 v.fuel]] w fun e w' => e = .returned (.tuple #[.string (stx5 v), .bool (crOk v)]) ∧ Below w.heap.size w w' := by
  go_enter Tryd.func6, Tryd.ntmps6
  go_wp2_with (fail)
  generalize hW : World.alloc w _ = W1
  obtain ⟨bW, kW, _⟩ := alloc_facts hW
  clear hW
  have m0 := kW.2.1 0 _ rfl
  have m1 := kW.2.1 1 _ rfl
  have m2 := kW.2.1 2 _ rfl
  have m3 := kW.2.1 3 _ rfl
  have m4 := kW.2.1 4 _ rfl
  have m5 := kW.2.1 5 _ rfl
  have m6 := kW.2.1 6 _ rfl
  refine (s5One v _ hq).mono ?_; rintro e w2 ⟨rfl, b2⟩
  have kW := kW.below b2
  have b2 := bth bW b2
  clear m0 m1 m2 m3 m4 m5 m6
  have n0 := kW.2.1 0 _ rfl
  have n1 := kW.2.1 1 _ rfl
  have n2 := kW.2.1 2 _ rfl
  have n3 := kW.2.1 3 _ rfl
  have n4 := kW.2.1 4 _ rfl
  have n5 := kW.2.1 5 _ rfl
  have n6 := kW.2.1 6 _ rfl
  cases h : crOk v with
  | false =>
    have HS := Lib.hid (show stx5 v = ByteArray.empty by unfold stx5; rw [h]; rfl)
    have HB := Lib.hid h
    clear h
    go_wp2_with (fail)
    go_ret2
    rw [HS.out, HB.out]
    exact ⟨rfl, b2⟩
  | true =>
    have HS := Lib.hid (show stx5 v = tx5 v by unfold stx5; rw [if_pos h])
    have HB := Lib.hid h
    have bd := crOk_bd h
    have z1 := num_size v.id (by omega) (by omega)
    have z2 := num_size v.draught (by omega) (by omega)
    have z3 := num_size v.ahead (by omega) (by omega)
    have z4 := num_size v.beside (by omega) (by omega)
    have z5 := word_size bd.2.2.2.2.2.2.2.2.2.2.2.2
    have hA := aft_cell kW.1
    clear h
    go_wp2_with (fail)
    have I := Lib.hid (show ∀ (y : Aft w2) (z : Int), z = v.id ∨ z = v.draught → Calls Tryd.prog 21 #[.int .i64 z] y.val fun e w' => e = .returned (.string (num z)) ∧ Below y.val.heap.size y.val w' from fun y z hz => l1NumC z (by omega) (by omega) y.val)
    have J := Lib.hid (show ∀ (y : Aft w2) (z : Int), z = v.ahead ∨ z = v.beside → Calls Tryd.prog 22 #[.int .i64 z] y.val fun e w' => e = .returned (.string (num z)) ∧ Below y.val.heap.size y.val w' from fun y z hz => l5Sig z (by omega) (by omega) y.val)
    clear bd
    refine wp_region_aft (by kernel_rfl) (by kernel_rfl) ?_
    repeat (go_big_quiet_step ((first | (go_at_call 21; exact Aft.calls _ (I.out _ _ (by simp))) | (go_at_call 22; exact Aft.calls _ (J.out _ _ (by simp))))))
    refine wpQuiet_nil ?_
    intro w9 b9
    go_wp2
    go_ret2
    rw [HS.out, HB.out]
    exact ⟨by unfold tx5; simp [ByteArray.append_assoc], bth b2 b9⟩
theorem iCText (v : Cr) (w : World) (hq : v.name.size ≤ 9223372036854775807) (T : TabOk w) :
    Calls Tryd.prog 8 #[.agg #[.int .i64 v.id, .string v.name, .int .i64 v.draught, .int .i64 v.ahead, .int .i64 v.beside, .int .i64 v.speed, .int .i64 v.fuel]] w fun e w' => e = .returned (.tuple #[.string (stx5 v), .bool (crOk v)]) ∧ Below w.heap.size w w' := by
  go_enter Tryd.func8, Tryd.ntmps8
  go_wp2_with (fail)
  generalize hW : World.alloc w _ = W1
  obtain ⟨bW, kW, _⟩ := alloc_facts hW
  clear hW
  have m0 := kW.2.1 0 _ rfl
  have m1 := kW.2.1 1 _ rfl
  have m2 := kW.2.1 2 _ rfl
  have m3 := kW.2.1 3 _ rfl
  have m4 := kW.2.1 4 _ rfl
  have m5 := kW.2.1 5 _ rfl
  have m6 := kW.2.1 6 _ rfl
  refine (i5One v _ hq).mono ?_; rintro e w2 ⟨rfl, b2⟩
  have kW := kW.below b2
  have b2 := bth bW b2
  clear m0 m1 m2 m3 m4 m5 m6
  have n0 := kW.2.1 0 _ rfl
  have n1 := kW.2.1 1 _ rfl
  have n2 := kW.2.1 2 _ rfl
  have n3 := kW.2.1 3 _ rfl
  have n4 := kW.2.1 4 _ rfl
  have n5 := kW.2.1 5 _ rfl
  have n6 := kW.2.1 6 _ rfl
  have T2 := T.below b2
  cases h : crOk v with
  | false =>
    have HS := Lib.hid (show stx5 v = ByteArray.empty by unfold stx5; rw [h]; rfl)
    have HB := Lib.hid h
    clear h
    go_wp2_with (fail)
    go_ret2
    rw [HS.out, HB.out]
    exact ⟨rfl, b2⟩
  | true =>
    have HS := Lib.hid (show stx5 v = tx5 v by unfold stx5; rw [if_pos h])
    have HB := Lib.hid h
    have bd := crOk_bd h
    have z1 := num_size v.id (by omega) (by omega)
    have z2 := num_size v.draught (by omega) (by omega)
    have z3 := num_size v.ahead (by omega) (by omega)
    have z4 := num_size v.beside (by omega) (by omega)
    have z5 := word_size bd.2.2.2.2.2.2.2.2.2.2.2.2
    have hA := aft_cell kW.1
    clear h
    go_wp2_with (fail)
    have I := Lib.hid (show ∀ (y : Aft w2) (z : Int), z = v.id ∨ z = v.draught ∨ z = v.ahead ∨ z = v.beside → Calls Tryd.prog 23 #[.int .i64 z] y.val fun e w' => e = .returned (.string (num z)) ∧ Below y.val.heap.size y.val w' from fun y z hz => itoaC z (by omega) (by omega) y.val (T2.below y.bel))
    clear bd
    refine wp_region_aft (by kernel_rfl) (by kernel_rfl) ?_
    repeat (go_big_quiet_step ((go_at_call 23; exact Aft.calls _ (I.out _ _ (by simp)))))
    refine wpQuiet_nil ?_
    intro w9 b9
    go_wp2
    go_ret2
    rw [HS.out, HB.out]
    exact ⟨by unfold tx5; simp [ByteArray.append_assoc], bth b2 b9⟩
theorem lawTx5 (v : Cr) (w : World) (hq : v.name.size ≤ 9223372036854775807) (T : TabOk w) :
    Calls Tryd.prog 3 #[.agg #[.int .i64 v.id, .string v.name, .int .i64 v.draught, .int .i64 v.ahead, .int .i64 v.beside, .int .i64 v.speed, .int .i64 v.fuel]] w fun e w' => e = .returned (.bool true) ∧ Below w.heap.size w w' := by
  go_enter Tryd.func3, Tryd.ntmps3
  go_wp2_with (fail)
  generalize hW : World.alloc w _ = W1
  obtain ⟨bW, kW, _⟩ := alloc_facts hW
  clear hW
  have m0 := kW.2.1 0 _ rfl
  have m1 := kW.2.1 1 _ rfl
  have m2 := kW.2.1 2 _ rfl
  have m3 := kW.2.1 3 _ rfl
  have m4 := kW.2.1 4 _ rfl
  have m5 := kW.2.1 5 _ rfl
  have m6 := kW.2.1 6 _ rfl
  by_cases hz : (v.name.size : Int) ≤ 1048576
  · have hr : ¬ (1048576 - (v.name.size : Int) < 0) := by omega
    refine (szCrYes v _ _ (by omega) hz).mono ?_; rintro e w0 ⟨rfl, b2⟩
    have kW := kW.below b2
    have b2 := bth bW b2
    clear m0 m1 m2 m3 m4 m5 m6
    have n0 := kW.2.1 0 _ rfl
    have n1 := kW.2.1 1 _ rfl
    have n2 := kW.2.1 2 _ rfl
    have n3 := kW.2.1 3 _ rfl
    have n4 := kW.2.1 4 _ rfl
    have n5 := kW.2.1 5 _ rfl
    have n6 := kW.2.1 6 _ rfl
    clear bW
    go_wp2_with (fail)
    refine (toCr v _).mono ?_; rintro e w1 ⟨rfl, b1⟩
    have kW := kW.below b1
    have b1 := bth b2 b1
    go_wp2_with (fail)
    refine (sCText v _ hq).mono ?_; rintro e w2 ⟨rfl, b2⟩
    have kW := kW.below b2
    have b2 := bth b1 b2
    clear n0 n1 n2 n3 n4 n5 n6
    have m0 := kW.2.1 0 _ rfl
    have m1 := kW.2.1 1 _ rfl
    have m2 := kW.2.1 2 _ rfl
    have m3 := kW.2.1 3 _ rfl
    have m4 := kW.2.1 4 _ rfl
    have m5 := kW.2.1 5 _ rfl
    have m6 := kW.2.1 6 _ rfl
    go_wp2_with (fail)
    refine (toCr v _).mono ?_; rintro e w3 ⟨rfl, b3⟩
    have b3 := bth b2 b3
    go_wp2_with (fail)
    refine (iCText v _ hq (T.below b3)).mono ?_; rintro e w4 ⟨rfl, b4⟩
    have b4 := bth b3 b4
    go_wp2_with (fail)
    go_ret
    exact ⟨rfl, b4⟩
  · refine (szCrNo v _ _ (by omega) hq (by omega)).mono ?_; rintro e w0 ⟨rfl, b2⟩
    have b2 := bth bW b2
    go_wp2_with (fail)
    go_ret
    exact ⟨rfl, b2⟩
end Go.Proofs.YtanmkjjclpplkaaDoor
