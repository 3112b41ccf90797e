/- SoundingText of both texts, and the law over it: what they return. The program's reads one table of the library's. No condition on the argument. -/
import Derived.Test.YtllionelhbjadaaDoorW8b
import Derived.Test.YtllionelhbjadaaDoorNm
import Derived.Deep.Cut
set_option linter.unusedVariables false
set_option linter.unusedSimpArgs false
namespace Go.Proofs.YtllionelhbjadaaDoor
open Go.RowKit
set_option maxHeartbeats 4000000
set_option maxRecDepth 100000
@[irreducible] def tx8 (x : Sd) : ByteArray := num x.id ++ ⟨#[64]⟩ ++ num x.x ++ ⟨#[44]⟩ ++ num x.y ++ ⟨#[58]⟩ ++ num x.depth ++ ⟨#[43, 45]⟩ ++ num x.doubt
theorem sd_bd {x : Sd} (h : sdOk x = true) : (-1000000000 ≤ x.id ∧ x.id ≤ 1000000000) ∧ (-1000000000 ≤ x.x ∧ x.x ≤ 1000000000) ∧ (-1000000000 ≤ x.y ∧ x.y ≤ 1000000000) ∧ (-1000000000 ≤ x.depth ∧ x.depth ≤ 1000000000) ∧ (-1000000000 ≤ x.doubt ∧ x.doubt ≤ 1000000000) := by
  rw [sdOk_def] at h
  simp only [Bool.and_eq_true, inB_true] at h
  omega
theorem sText8 (x : Sd) (w : World) (h : sdOk x = true) :
    Calls Tryd.prog 25 #[.agg #[.int .i64 x.id, .int .i64 x.x, .int .i64 x.y, .int .i64 x.depth, .int .i64 x.doubt]] w fun e w' => e = .returned (.string (tx8 x)) ∧ Below w.heap.size w w' := by
  obtain ⟨p1, p2, p3, p4, p5⟩ := sd_bd h
  have z1 := num_size x.id p1.1 p1.2
  have z2 := num_size x.x p2.1 p2.2
  have z3 := num_size x.y p3.1 p3.2
  have z4 := num_size x.depth p4.1 p4.2
  have z5 := num_size x.doubt p5.1 p5.2
  go_enter Tryd.func25, Tryd.ntmps25
  go_upto_region 1 with (fail)
  generalize hW : World.alloc w _ = W1
  obtain ⟨bW, kW, _⟩ := alloc_facts hW
  clear hW
  have m0 := kW.2.1 0 _ rfl
  have m1 := kW.2.1 1 _ rfl
  have m2 := kW.2.1 2 _ rfl
  have m3 := kW.2.1 3 _ rfl
  have m4 := kW.2.1 4 _ rfl
  have hA := aft_cell kW.1
  have I := Lib.hid (show ∀ (y : Aft W1) (z : Int), z = x.id ∨ z = x.x ∨ z = x.y ∨ z = x.depth ∨ z = x.doubt → Calls Tryd.prog 56 #[.int .i64 z] y.val fun e w' => e = .returned (.string (num z)) ∧ Below y.val.heap.size y.val w' from fun y z hz => l1NumC z (by omega) (by omega) y.val)
  clear p1 p2 p3 p4 p5 h
  refine wp_region_aft (by kernel_rfl) (by kernel_rfl) ?_
  repeat (go_big_quiet_step ((go_at_call 56; exact Aft.calls _ (I.out _ _ (by simp)))))
  refine wpQuiet_nil ?_
  intro w9 b9
  go_wp2
  go_ret
  exact ⟨by unfold tx8; simp [ByteArray.append_assoc], bth bW b9⟩
theorem iText8 (x : Sd) (w : World) (h : sdOk x = true) (T : TabOk w) :
    Calls Tryd.prog 27 #[.agg #[.int .i64 x.id, .int .i64 x.x, .int .i64 x.y, .int .i64 x.depth, .int .i64 x.doubt]] w fun e w' => e = .returned (.string (tx8 x)) ∧ Below w.heap.size w w' := by
  obtain ⟨p1, p2, p3, p4, p5⟩ := sd_bd h
  have z1 := num_size x.id p1.1 p1.2
  have z2 := num_size x.x p2.1 p2.2
  have z3 := num_size x.y p3.1 p3.2
  have z4 := num_size x.depth p4.1 p4.2
  have z5 := num_size x.doubt p5.1 p5.2
  go_enter Tryd.func27, Tryd.ntmps27
  go_upto_region 1 with (fail)
  generalize hW : World.alloc w _ = W1
  obtain ⟨bW, kW, _⟩ := alloc_facts hW
  clear hW
  have m0 := kW.2.1 0 _ rfl
  have m1 := kW.2.1 1 _ rfl
  have m2 := kW.2.1 2 _ rfl
  have m3 := kW.2.1 3 _ rfl
  have m4 := kW.2.1 4 _ rfl
  have hA := aft_cell kW.1
  have T1 := T.below bW
  have I := Lib.hid (show ∀ (y : Aft W1) (z : Int), z = x.id ∨ z = x.x ∨ z = x.y ∨ z = x.depth ∨ z = x.doubt → Calls Tryd.prog 57 #[.int .i64 z] y.val fun e w' => e = .returned (.string (num z)) ∧ Below y.val.heap.size y.val w' from fun y z hz => itoaC z (by omega) (by omega) y.val (T1.below y.bel))
  clear p1 p2 p3 p4 p5 h
  refine wp_region_aft (by kernel_rfl) (by kernel_rfl) ?_
  repeat (go_big_quiet_step ((go_at_call 57; exact Aft.calls _ (I.out _ _ (by simp)))))
  refine wpQuiet_nil ?_
  intro w9 b9
  go_wp2
  go_ret
  exact ⟨by unfold tx8; simp [ByteArray.append_assoc], bth bW b9⟩
def stx (x : Sd) : ByteArray := if sdOk x = true then tx8 x else ByteArray.empty
theorem sSText (x : Sd) (w : World) :
    Calls Tryd.prog 6 #[.agg #[.int .i64 x.id, .int .i64 x.x, .int .i64 x.y, .int .i64 x.depth, .int .i64 x.doubt]] w fun e w' => e = .returned (.tuple #[.string (stx x), .bool (sdOk x)]) ∧ Below w.heap.size w w' := by
  go_enter Tryd.func6, Tryd.ntmps6
  go_wp2_with (fail)
  generalize hW : World.alloc w _ = W1
  obtain ⟨bW, kW, _⟩ := alloc_facts hW
  clear hW
  have m0 := kW.2.1 0 _ rfl
  have m1 := kW.2.1 1 _ rfl
  have m2 := kW.2.1 2 _ rfl
  have m3 := kW.2.1 3 _ rfl
  have m4 := kW.2.1 4 _ rfl
  have hA := aft_cell kW.1
  refine (specOne x _).mono ?_; rintro e w2 ⟨rfl, b2⟩
  have kW := kW.below b2
  have b2 := bth bW b2
  have n0 := kW.2.1 0 _ rfl
  have n1 := kW.2.1 1 _ rfl
  have n2 := kW.2.1 2 _ rfl
  have n3 := kW.2.1 3 _ rfl
  have n4 := kW.2.1 4 _ rfl
  clear m0 m1 m2 m3 m4 hA
  cases h : sdOk x with
  | false =>
    have HS := Lib.hid (show stx x = ByteArray.empty by unfold stx; rw [h]; rfl)
    have HB := Lib.hid h
    clear h
    go_wp2_with (fail)
    go_ret2
    rw [HS.out, HB.out]
    exact ⟨rfl, b2⟩
  | true =>
    go_wp2_with (fail)
    refine (sText8 x _ h).mono ?_; rintro e w3 ⟨rfl, b3⟩
    have HS := Lib.hid (show stx x = tx8 x by unfold stx; rw [if_pos h])
    have HB := Lib.hid h
    clear h
    go_wp2_with (fail)
    go_ret2
    rw [HS.out, HB.out]
    exact ⟨rfl, bth b2 b3⟩
theorem iSText (x : Sd) (w : World) (T : TabOk w) :
    Calls Tryd.prog 8 #[.agg #[.int .i64 x.id, .int .i64 x.x, .int .i64 x.y, .int .i64 x.depth, .int .i64 x.doubt]] w fun e w' => e = .returned (.tuple #[.string (stx x), .bool (sdOk x)]) ∧ Below w.heap.size w w' := by
  go_enter Tryd.func8, Tryd.ntmps8
  go_wp2_with (fail)
  generalize hW : World.alloc w _ = W1
  obtain ⟨bW, kW, _⟩ := alloc_facts hW
  clear hW
  have m0 := kW.2.1 0 _ rfl
  have m1 := kW.2.1 1 _ rfl
  have m2 := kW.2.1 2 _ rfl
  have m3 := kW.2.1 3 _ rfl
  have m4 := kW.2.1 4 _ rfl
  have hA := aft_cell kW.1
  refine (implOne x _).mono ?_; rintro e w2 ⟨rfl, b2⟩
  have kW := kW.below b2
  have b2 := bth bW b2
  have n0 := kW.2.1 0 _ rfl
  have n1 := kW.2.1 1 _ rfl
  have n2 := kW.2.1 2 _ rfl
  have n3 := kW.2.1 3 _ rfl
  have n4 := kW.2.1 4 _ rfl
  clear m0 m1 m2 m3 m4 hA
  cases h : sdOk x with
  | false =>
    have HS := Lib.hid (show stx x = ByteArray.empty by unfold stx; rw [h]; rfl)
    have HB := Lib.hid h
    clear h
    go_wp2_with (fail)
    go_ret2
    rw [HS.out, HB.out]
    exact ⟨rfl, b2⟩
  | true =>
    go_wp2_with (fail)
    refine (iText8 x _ h (T.below b2)).mono ?_; rintro e w3 ⟨rfl, b3⟩
    have HS := Lib.hid (show stx x = tx8 x by unfold stx; rw [if_pos h])
    have HB := Lib.hid h
    clear h
    go_wp2_with (fail)
    go_ret2
    rw [HS.out, HB.out]
    exact ⟨rfl, bth b2 b3⟩
theorem lawTx8 (x : Sd) (w : World) (T : TabOk w) :
    Calls Tryd.prog 3 #[.agg #[.int .i64 x.id, .int .i64 x.x, .int .i64 x.y, .int .i64 x.depth, .int .i64 x.doubt]] w fun e w' => e = .returned (.bool true) ∧ Below w.heap.size w w' := by
  go_enter Tryd.func3, Tryd.ntmps3
  go_wp2_with (fail)
  generalize hW : World.alloc w _ = W1
  obtain ⟨bW, kW, _⟩ := alloc_facts hW
  clear hW
  refine (toSd x _).mono ?_; rintro e w1 ⟨rfl, b1⟩
  have kW := kW.below b1
  have b1 := bth bW b1
  go_wp2_with (fail)
  refine (sSText x _).mono ?_; rintro e w2 ⟨rfl, b2⟩
  have kW := kW.below b2
  have b2 := bth b1 b2
  have m0 := kW.2.1 0 _ rfl
  have m1 := kW.2.1 1 _ rfl
  have m2 := kW.2.1 2 _ rfl
  have m3 := kW.2.1 3 _ rfl
  have m4 := kW.2.1 4 _ rfl
  go_wp2_with (fail)
  refine (toSd x _).mono ?_; rintro e w3 ⟨rfl, b3⟩
  have b3 := bth b2 b3
  go_wp2_with (fail)
  refine (iSText x _ (T.below b3)).mono ?_; rintro e w4 ⟨rfl, b4⟩
  have b4 := bth b3 b4
  go_wp2_with (fail)
  go_ret
  exact ⟨rfl, b4⟩
end Go.Proofs.YtllionelhbjadaaDoor
