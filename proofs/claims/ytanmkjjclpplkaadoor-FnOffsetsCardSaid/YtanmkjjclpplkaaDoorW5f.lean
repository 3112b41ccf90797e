/- Where the sounder and the antenna of a craft are, and how many seconds a craft runs: both texts return the same. The only condition: a name of a length that a text can have. -/
import Derived.Test.YtanmkjjclpplkaaDoorW5a
import Derived.Test.YtanmkjjclpplkaaDoorP5b
import Derived.Deep.Cut
set_option linter.unusedVariables false
set_option linter.unusedSimpArgs false
namespace Go.Proofs.YtanmkjjclpplkaaDoor
open Go.RowKit
set_option maxHeartbeats 4000000
set_option maxRecDepth 100000
theorem sTurn (v : Cr) (h : Int) (w : World) (g : crOk v = true) (h0 : 0 ≤ h) (h1 : h ≤ 3) :
    Calls Tryd.prog 30 #[.agg #[.int .i64 v.id, .string v.name, .int .i64 v.draught, .int .i64 v.ahead, .int .i64 v.beside, .int .i64 v.speed, .int .i64 v.fuel], .int .i64 h] w fun e w' => e = .returned (.tuple #[.int .i64 (ofE v h), .int .i64 (ofN v h)]) ∧ Below w.heap.size w w' := by
  have bd := crOk_bd g
  have y1 : IntKind.i64.wrap (-v.ahead) = -v.ahead := IntWalk.i64_in _ (by omega)
  have y2 : IntKind.i64.wrap (-v.beside) = -v.beside := IntWalk.i64_in _ (by omega)
  clear bd g
  obtain rfl | rfl | rfl | rfl : h = 0 ∨ h = 1 ∨ h = 2 ∨ h = 3 := by omega
  · go_enter Tryd.func30, Tryd.ntmps30
    go_upto_region 1 with (fail)
    generalize hW : World.alloc w _ = W1
    obtain ⟨bW, kW, _⟩ := alloc_facts hW
    clear hW
    have m0 := kW.2.1 0 _ rfl
    have m1 := kW.2.1 1 _ rfl
    have m2 := kW.2.1 2 _ rfl
    have m3 := kW.2.1 3 _ rfl
    have m4 := kW.2.1 4 _ rfl
    have m5 := kW.2.1 5 _ rfl
    have m6 := kW.2.1 6 _ rfl
    have hA := aft_cell kW.1
    go_wp2_with (fail)
    refine wp_region_aft (by kernel_rfl) (by kernel_rfl) ?_
    repeat (go_big_quiet_step ((fail)))
    refine wpQuiet_nil ?_
    intro w9 b9
    go_wp2
    go_ret2
    exact ⟨rfl, bth bW b9⟩
  · go_enter Tryd.func30, Tryd.ntmps30
    go_upto_region 1 with (fail)
    generalize hW : World.alloc w _ = W1
    obtain ⟨bW, kW, _⟩ := alloc_facts hW
    clear hW
    have m0 := kW.2.1 0 _ rfl
    have m1 := kW.2.1 1 _ rfl
    have m2 := kW.2.1 2 _ rfl
    have m3 := kW.2.1 3 _ rfl
    have m4 := kW.2.1 4 _ rfl
    have m5 := kW.2.1 5 _ rfl
    have m6 := kW.2.1 6 _ rfl
    have hA := aft_cell kW.1
    go_wp2_with (fail)
    refine wp_region_aft (by kernel_rfl) (by kernel_rfl) ?_
    repeat (go_big_quiet_step ((fail)))
    refine wpQuiet_nil ?_
    intro w9 b9
    go_wp2
    go_ret2
    exact ⟨rfl, bth bW b9⟩
  · go_enter Tryd.func30, Tryd.ntmps30
    go_upto_region 1 with (fail)
    generalize hW : World.alloc w _ = W1
    obtain ⟨bW, kW, _⟩ := alloc_facts hW
    clear hW
    have m0 := kW.2.1 0 _ rfl
    have m1 := kW.2.1 1 _ rfl
    have m2 := kW.2.1 2 _ rfl
    have m3 := kW.2.1 3 _ rfl
    have m4 := kW.2.1 4 _ rfl
    have m5 := kW.2.1 5 _ rfl
    have m6 := kW.2.1 6 _ rfl
    have hA := aft_cell kW.1
    go_wp2_with (fail)
    refine wp_region_aft (by kernel_rfl) (by kernel_rfl) ?_
    repeat (go_big_quiet_step ((fail)))
    refine wpQuiet_nil ?_
    intro w9 b9
    go_wp2
    go_ret2
    exact ⟨rfl, bth bW b9⟩
  · go_enter Tryd.func30, Tryd.ntmps30
    go_upto_region 1 with (fail)
    generalize hW : World.alloc w _ = W1
    obtain ⟨bW, kW, _⟩ := alloc_facts hW
    clear hW
    have m0 := kW.2.1 0 _ rfl
    have m1 := kW.2.1 1 _ rfl
    have m2 := kW.2.1 2 _ rfl
    have m3 := kW.2.1 3 _ rfl
    have m4 := kW.2.1 4 _ rfl
    have m5 := kW.2.1 5 _ rfl
    have m6 := kW.2.1 6 _ rfl
    have hA := aft_cell kW.1
    go_wp2_with (fail)
    refine wp_region_aft (by kernel_rfl) (by kernel_rfl) ?_
    repeat (go_big_quiet_step ((fail)))
    refine wpQuiet_nil ?_
    intro w9 b9
    go_wp2
    go_ret2
    exact ⟨rfl, bth bW b9⟩
theorem iTurn (v : Cr) (h : Int) (w : World) (g : crOk v = true) (h0 : 0 ≤ h) (h1 : h ≤ 3) :
    Calls Tryd.prog 28 #[.agg #[.int .i64 v.id, .string v.name, .int .i64 v.draught, .int .i64 v.ahead, .int .i64 v.beside, .int .i64 v.speed, .int .i64 v.fuel], .int .i64 h] w fun e w' => e = .returned (.tuple #[.int .i64 (ofE v h), .int .i64 (ofN v h)]) ∧ Below w.heap.size w w' := by
  have bd := crOk_bd g
  have y1 : IntKind.i64.wrap (-v.ahead) = -v.ahead := IntWalk.i64_in _ (by omega)
  have y2 : IntKind.i64.wrap (-v.beside) = -v.beside := IntWalk.i64_in _ (by omega)
  clear bd g
  obtain rfl | rfl | rfl | rfl : h = 0 ∨ h = 1 ∨ h = 2 ∨ h = 3 := by omega
  · go_enter Tryd.func28, Tryd.ntmps28
    go_upto_region 1 with (fail)
    generalize hW : World.alloc w _ = W1
    obtain ⟨bW, kW, _⟩ := alloc_facts hW
    clear hW
    have m0 := kW.2.1 0 _ rfl
    have m1 := kW.2.1 1 _ rfl
    have m2 := kW.2.1 2 _ rfl
    have m3 := kW.2.1 3 _ rfl
    have m4 := kW.2.1 4 _ rfl
    have m5 := kW.2.1 5 _ rfl
    have m6 := kW.2.1 6 _ rfl
    have hA := aft_cell kW.1
    go_wp2_with (fail)
    refine wp_region_aft (by kernel_rfl) (by kernel_rfl) ?_
    repeat (go_big_quiet_step ((fail)))
    refine wpQuiet_nil ?_
    intro w9 b9
    go_wp2
    go_ret2
    exact ⟨rfl, bth bW b9⟩
  · go_enter Tryd.func28, Tryd.ntmps28
    go_upto_region 1 with (fail)
    generalize hW : World.alloc w _ = W1
    obtain ⟨bW, kW, _⟩ := alloc_facts hW
    clear hW
    have m0 := kW.2.1 0 _ rfl
    have m1 := kW.2.1 1 _ rfl
    have m2 := kW.2.1 2 _ rfl
    have m3 := kW.2.1 3 _ rfl
    have m4 := kW.2.1 4 _ rfl
    have m5 := kW.2.1 5 _ rfl
    have m6 := kW.2.1 6 _ rfl
    have hA := aft_cell kW.1
    go_wp2_with (fail)
    refine wp_region_aft (by kernel_rfl) (by kernel_rfl) ?_
    repeat (go_big_quiet_step ((fail)))
    refine wpQuiet_nil ?_
    intro w9 b9
    go_wp2
    go_ret2
    exact ⟨rfl, bth bW b9⟩
  · go_enter Tryd.func28, Tryd.ntmps28
    go_upto_region 1 with (fail)
    generalize hW : World.alloc w _ = W1
    obtain ⟨bW, kW, _⟩ := alloc_facts hW
    clear hW
    have m0 := kW.2.1 0 _ rfl
    have m1 := kW.2.1 1 _ rfl
    have m2 := kW.2.1 2 _ rfl
    have m3 := kW.2.1 3 _ rfl
    have m4 := kW.2.1 4 _ rfl
    have m5 := kW.2.1 5 _ rfl
    have m6 := kW.2.1 6 _ rfl
    have hA := aft_cell kW.1
    go_wp2_with (fail)
    refine wp_region_aft (by kernel_rfl) (by kernel_rfl) ?_
    repeat (go_big_quiet_step ((fail)))
    refine wpQuiet_nil ?_
    intro w9 b9
    go_wp2
    go_ret2
    exact ⟨rfl, bth bW b9⟩
  · go_enter Tryd.func28, Tryd.ntmps28
    go_upto_region 1 with (fail)
    generalize hW : World.alloc w _ = W1
    obtain ⟨bW, kW, _⟩ := alloc_facts hW
    clear hW
    have m0 := kW.2.1 0 _ rfl
    have m1 := kW.2.1 1 _ rfl
    have m2 := kW.2.1 2 _ rfl
    have m3 := kW.2.1 3 _ rfl
    have m4 := kW.2.1 4 _ rfl
    have m5 := kW.2.1 5 _ rfl
    have m6 := kW.2.1 6 _ rfl
    have hA := aft_cell kW.1
    go_wp2_with (fail)
    refine wp_region_aft (by kernel_rfl) (by kernel_rfl) ?_
    repeat (go_big_quiet_step ((fail)))
    refine wpQuiet_nil ?_
    intro w9 b9
    go_wp2
    go_ret2
    exact ⟨rfl, bth bW b9⟩
theorem sPlace (v : Cr) (x y h : Int) (w : World) (hs : v.name.size ≤ 9223372036854775807) :
    Calls Tryd.prog 29 #[.agg #[.int .i64 v.id, .string v.name, .int .i64 v.draught, .int .i64 v.ahead, .int .i64 v.beside, .int .i64 v.speed, .int .i64 v.fuel], .int .i64 x, .int .i64 y, .int .i64 h] w fun e w' => e = .returned (.bool (plOk v x y h)) ∧ Below w.heap.size w w' := by
  go_enter Tryd.func29, Tryd.ntmps29
  go_wp2_with (first
    | (go_at_call 20; refine (s5One v _ hs).mono ?_; rintro e w1 ⟨rfl, b1⟩)
    | (go_at_call 38; refine (specIn _ _ _ _).mono ?_; rintro e w' ⟨rfl, rfl⟩))
  all_goals
    go_ret
    exact ⟨ret_bool (by rw [plOk_def]; simp [*]), (below_alloc w _).trans (b1.mono (by simp))⟩
theorem iPlace (v : Cr) (x y h : Int) (w : World) (hs : v.name.size ≤ 9223372036854775807) :
    Calls Tryd.prog 27 #[.agg #[.int .i64 v.id, .string v.name, .int .i64 v.draught, .int .i64 v.ahead, .int .i64 v.beside, .int .i64 v.speed, .int .i64 v.fuel], .int .i64 x, .int .i64 y, .int .i64 h] w fun e w' => e = .returned (.bool (plOk v x y h)) ∧ Below w.heap.size w w' := by
  go_enter Tryd.func27, Tryd.ntmps27
  go_wp2_with (first
    | (go_at_call 19; refine (i5One v _ hs).mono ?_; rintro e w1 ⟨rfl, b1⟩)
    | (go_at_call 36; refine (implIn _ _ _ _).mono ?_; rintro e w' ⟨rfl, rfl⟩))
  all_goals
    go_ret
    exact ⟨ret_bool (by rw [plOk_def]; simp [*]), (below_alloc w _).trans (b1.mono (by simp))⟩
theorem sSounder (v : Cr) (x y h : Int) (w : World) (hs : v.name.size ≤ 9223372036854775807) :
    Calls Tryd.prog 12 #[.agg #[.int .i64 v.id, .string v.name, .int .i64 v.draught, .int .i64 v.ahead, .int .i64 v.beside, .int .i64 v.speed, .int .i64 v.fuel], .int .i64 x, .int .i64 y, .int .i64 h] w fun e w' => e = .returned (.tuple #[.int .i64 (saX v x y h), .int .i64 (saY v x y h), .bool (plOk v x y h)]) ∧ Below w.heap.size w w' := by
  go_enter Tryd.func12, Tryd.ntmps12
  go_wp2_with (fail)
  generalize hW : World.alloc w _ = W1
  obtain ⟨bW, kW, _⟩ := alloc_facts hW
  clear hW
  have m0 := kW.2.1 0 _ rfl
  have m1 := kW.2.1 1 _ rfl
  have m2 := kW.2.1 2 _ rfl
  have m3 := kW.2.1 3 _ rfl
  have m4 := kW.2.1 4 _ rfl
  have m5 := kW.2.1 5 _ rfl
  have m6 := kW.2.1 6 _ rfl
  refine (sPlace v x y h _ hs).mono ?_; rintro e w2 ⟨rfl, b2⟩
  have kW := kW.below b2
  have b2 := bth bW b2
  clear m0 m1 m2 m3 m4 m5 m6
  have n0 := kW.2.1 0 _ rfl
  have n1 := kW.2.1 1 _ rfl
  have n2 := kW.2.1 2 _ rfl
  have n3 := kW.2.1 3 _ rfl
  have n4 := kW.2.1 4 _ rfl
  have n5 := kW.2.1 5 _ rfl
  have n6 := kW.2.1 6 _ rfl
  cases g : plOk v x y h with
  | false =>
    have G := Lib.hid (pl_bad g)
    have HB := Lib.hid g
    clear g
    go_wp2_with (fail)
    go_ret3
    rw [HB.out]
    exact ⟨by rw [G.out.1, G.out.2.1]; rfl, b2⟩
  | true =>
    have G := Lib.hid (pl_good g)
    have HB := Lib.hid g
    have bd := plOk_bd g
    have hc : crOk v = true := by rw [plOk_def] at g; simp only [Bool.and_eq_true] at g; exact g.1.1.1
    clear g
    have y1 : IntKind.i64.wrap (x + ofE v h) = x + ofE v h := IntWalk.i64_in _ (by omega)
    have y2 : IntKind.i64.wrap (y + ofN v h) = y + ofN v h := IntWalk.i64_in _ (by omega)
    go_wp2_with (fail)
    refine (sTurn v h _ hc (by omega) (by omega)).mono ?_; rintro e w3 ⟨rfl, b3⟩
    go_wp2_with (fail)
    go_ret3
    rw [HB.out]
    exact ⟨by rw [G.out.1, G.out.2.1]; rfl, bth b2 b3⟩
theorem iSounder (v : Cr) (x y h : Int) (w : World) (hs : v.name.size ≤ 9223372036854775807) :
    Calls Tryd.prog 11 #[.agg #[.int .i64 v.id, .string v.name, .int .i64 v.draught, .int .i64 v.ahead, .int .i64 v.beside, .int .i64 v.speed, .int .i64 v.fuel], .int .i64 x, .int .i64 y, .int .i64 h] w fun e w' => e = .returned (.tuple #[.int .i64 (saX v x y h), .int .i64 (saY v x y h), .bool (plOk v x y h)]) ∧ Below w.heap.size w w' := by
  go_enter Tryd.func11, Tryd.ntmps11
  go_wp2_with (fail)
  generalize hW : World.alloc w _ = W1
  obtain ⟨bW, kW, _⟩ := alloc_facts hW
  clear hW
  have m0 := kW.2.1 0 _ rfl
  have m1 := kW.2.1 1 _ rfl
  have m2 := kW.2.1 2 _ rfl
  have m3 := kW.2.1 3 _ rfl
  have m4 := kW.2.1 4 _ rfl
  have m5 := kW.2.1 5 _ rfl
  have m6 := kW.2.1 6 _ rfl
  refine (iPlace v x y h _ hs).mono ?_; rintro e w2 ⟨rfl, b2⟩
  have kW := kW.below b2
  have b2 := bth bW b2
  clear m0 m1 m2 m3 m4 m5 m6
  have n0 := kW.2.1 0 _ rfl
  have n1 := kW.2.1 1 _ rfl
  have n2 := kW.2.1 2 _ rfl
  have n3 := kW.2.1 3 _ rfl
  have n4 := kW.2.1 4 _ rfl
  have n5 := kW.2.1 5 _ rfl
  have n6 := kW.2.1 6 _ rfl
  cases g : plOk v x y h with
  | false =>
    have G := Lib.hid (pl_bad g)
    have HB := Lib.hid g
    clear g
    go_wp2_with (fail)
    go_ret3
    rw [HB.out]
    exact ⟨by rw [G.out.1, G.out.2.1]; rfl, b2⟩
  | true =>
    have G := Lib.hid (pl_good g)
    have HB := Lib.hid g
    have bd := plOk_bd g
    have hc : crOk v = true := by rw [plOk_def] at g; simp only [Bool.and_eq_true] at g; exact g.1.1.1
    clear g
    have y1 : IntKind.i64.wrap (x + ofE v h) = x + ofE v h := IntWalk.i64_in _ (by omega)
    have y2 : IntKind.i64.wrap (y + ofN v h) = y + ofN v h := IntWalk.i64_in _ (by omega)
    go_wp2_with (fail)
    refine (iTurn v h _ hc (by omega) (by omega)).mono ?_; rintro e w3 ⟨rfl, b3⟩
    go_wp2_with (fail)
    go_ret3
    rw [HB.out]
    exact ⟨by rw [G.out.1, G.out.2.1]; rfl, bth b2 b3⟩
theorem sAntenna (v : Cr) (x y h : Int) (w : World) (hs : v.name.size ≤ 9223372036854775807) :
    Calls Tryd.prog 14 #[.agg #[.int .i64 v.id, .string v.name, .int .i64 v.draught, .int .i64 v.ahead, .int .i64 v.beside, .int .i64 v.speed, .int .i64 v.fuel], .int .i64 x, .int .i64 y, .int .i64 h] w fun e w' => e = .returned (.tuple #[.int .i64 (anX v x y h), .int .i64 (anY v x y h), .bool (plOk v x y h)]) ∧ Below w.heap.size w w' := by
  go_enter Tryd.func14, Tryd.ntmps14
  go_wp2_with (fail)
  generalize hW : World.alloc w _ = W1
  obtain ⟨bW, kW, _⟩ := alloc_facts hW
  clear hW
  have m0 := kW.2.1 0 _ rfl
  have m1 := kW.2.1 1 _ rfl
  have m2 := kW.2.1 2 _ rfl
  have m3 := kW.2.1 3 _ rfl
  have m4 := kW.2.1 4 _ rfl
  have m5 := kW.2.1 5 _ rfl
  have m6 := kW.2.1 6 _ rfl
  refine (sPlace v x y h _ hs).mono ?_; rintro e w2 ⟨rfl, b2⟩
  have kW := kW.below b2
  have b2 := bth bW b2
  clear m0 m1 m2 m3 m4 m5 m6
  have n0 := kW.2.1 0 _ rfl
  have n1 := kW.2.1 1 _ rfl
  have n2 := kW.2.1 2 _ rfl
  have n3 := kW.2.1 3 _ rfl
  have n4 := kW.2.1 4 _ rfl
  have n5 := kW.2.1 5 _ rfl
  have n6 := kW.2.1 6 _ rfl
  cases g : plOk v x y h with
  | false =>
    have G := Lib.hid (pl_bad g)
    have HB := Lib.hid g
    clear g
    go_wp2_with (fail)
    go_ret3
    rw [HB.out]
    exact ⟨by rw [G.out.2.2.1, G.out.2.2.2]; rfl, b2⟩
  | true =>
    have G := Lib.hid (pl_good g)
    have HB := Lib.hid g
    have bd := plOk_bd g
    have hc : crOk v = true := by rw [plOk_def] at g; simp only [Bool.and_eq_true] at g; exact g.1.1.1
    clear g
    have y1 : IntKind.i64.wrap (x - ofE v h) = x - ofE v h := IntWalk.i64_in _ (by omega)
    have y2 : IntKind.i64.wrap (y - ofN v h) = y - ofN v h := IntWalk.i64_in _ (by omega)
    go_wp2_with (fail)
    refine (sTurn v h _ hc (by omega) (by omega)).mono ?_; rintro e w3 ⟨rfl, b3⟩
    go_wp2_with (fail)
    go_ret3
    rw [HB.out]
    exact ⟨by rw [G.out.2.2.1, G.out.2.2.2]; rfl, bth b2 b3⟩
theorem iAntenna (v : Cr) (x y h : Int) (w : World) (hs : v.name.size ≤ 9223372036854775807) :
    Calls Tryd.prog 13 #[.agg #[.int .i64 v.id, .string v.name, .int .i64 v.draught, .int .i64 v.ahead, .int .i64 v.beside, .int .i64 v.speed, .int .i64 v.fuel], .int .i64 x, .int .i64 y, .int .i64 h] w fun e w' => e = .returned (.tuple #[.int .i64 (anX v x y h), .int .i64 (anY v x y h), .bool (plOk v x y h)]) ∧ Below w.heap.size w w' := by
  go_enter Tryd.func13, Tryd.ntmps13
  go_wp2_with (fail)
  generalize hW : World.alloc w _ = W1
  obtain ⟨bW, kW, _⟩ := alloc_facts hW
  clear hW
  have m0 := kW.2.1 0 _ rfl
  have m1 := kW.2.1 1 _ rfl
  have m2 := kW.2.1 2 _ rfl
  have m3 := kW.2.1 3 _ rfl
  have m4 := kW.2.1 4 _ rfl
  have m5 := kW.2.1 5 _ rfl
  have m6 := kW.2.1 6 _ rfl
  refine (iPlace v x y h _ hs).mono ?_; rintro e w2 ⟨rfl, b2⟩
  have kW := kW.below b2
  have b2 := bth bW b2
  clear m0 m1 m2 m3 m4 m5 m6
  have n0 := kW.2.1 0 _ rfl
  have n1 := kW.2.1 1 _ rfl
  have n2 := kW.2.1 2 _ rfl
  have n3 := kW.2.1 3 _ rfl
  have n4 := kW.2.1 4 _ rfl
  have n5 := kW.2.1 5 _ rfl
  have n6 := kW.2.1 6 _ rfl
  cases g : plOk v x y h with
  | false =>
    have G := Lib.hid (pl_bad g)
    have HB := Lib.hid g
    clear g
    go_wp2_with (fail)
    go_ret3
    rw [HB.out]
    exact ⟨by rw [G.out.2.2.1, G.out.2.2.2]; rfl, b2⟩
  | true =>
    have G := Lib.hid (pl_good g)
    have HB := Lib.hid g
    have bd := plOk_bd g
    have hc : crOk v = true := by rw [plOk_def] at g; simp only [Bool.and_eq_true] at g; exact g.1.1.1
    clear g
    have y1 : IntKind.i64.wrap (x - ofE v h) = x - ofE v h := IntWalk.i64_in _ (by omega)
    have y2 : IntKind.i64.wrap (y - ofN v h) = y - ofN v h := IntWalk.i64_in _ (by omega)
    go_wp2_with (fail)
    refine (iTurn v h _ hc (by omega) (by omega)).mono ?_; rintro e w3 ⟨rfl, b3⟩
    go_wp2_with (fail)
    go_ret3
    rw [HB.out]
    exact ⟨by rw [G.out.2.2.1, G.out.2.2.2]; rfl, bth b2 b3⟩
theorem sSecs1 (v : Cr) (m : Int) (w : World) (g : crOk v = true) (h0 : 0 ≤ m) (h1 : m ≤ 100000) :
    Calls Tryd.prog 34 #[.agg #[.int .i64 v.id, .string v.name, .int .i64 v.draught, .int .i64 v.ahead, .int .i64 v.beside, .int .i64 v.speed, .int .i64 v.fuel], .int .i64 m] w fun e w' => e = .returned (.int .i64 (secs v m)) ∧ Below w.heap.size w w' := by
  have bd := crOk_bd g
  have sb := secs_by (v := v) (m := m) (by omega) h0 h1
  have HS := Lib.hid (show secs v m = (10 * m + v.speed - 1) / v.speed from rfl)
  have y1 : IntKind.i64.wrap (10 * m) = 10 * m := IntWalk.i64_in _ (by omega)
  have y2 : IntKind.i64.wrap (10 * m + v.speed) = 10 * m + v.speed := IntWalk.i64_in _ (by omega)
  have y3 : IntKind.i64.wrap (10 * m + v.speed - 1) = 10 * m + v.speed - 1 := IntWalk.i64_in _ (by omega)
  have y4 : v.speed ≠ 0 := by omega
  have y5 : (0 : Int) ≤ 10 * m + v.speed - 1 := by omega
  have y6 : (0 : Int) ≤ v.speed := by omega
  have y7 : IntKind.i64.wrap ((10 * m + v.speed - 1) / v.speed) = (10 * m + v.speed - 1) / v.speed := by
    unfold secs at sb
    exact IntWalk.i64_in _ (by omega)
  have y8 : Int.tdiv (10 * m + v.speed - 1) v.speed = (10 * m + v.speed - 1) / v.speed := Int.tdiv_eq_ediv_of_nonneg y5
  clear bd sb g h0 h1
  go_enter Tryd.func34, Tryd.ntmps34
  go_wp2_with (fail)
  go_ret
  exact ⟨by rw [HS.out]; rfl, by go_grown⟩
theorem iSecs1 (v : Cr) (m : Int) (w : World) (g : crOk v = true) (h0 : 0 ≤ m) (h1 : m ≤ 100000) :
    Calls Tryd.prog 32 #[.agg #[.int .i64 v.id, .string v.name, .int .i64 v.draught, .int .i64 v.ahead, .int .i64 v.beside, .int .i64 v.speed, .int .i64 v.fuel], .int .i64 m] w fun e w' => e = .returned (.int .i64 (secs v m)) ∧ Below w.heap.size w w' := by
  have bd := crOk_bd g
  have sb := secs_by (v := v) (m := m) (by omega) h0 h1
  have HS := Lib.hid (show secs v m = (10 * m + v.speed - 1) / v.speed from rfl)
  have y1 : IntKind.i64.wrap (10 * m) = 10 * m := IntWalk.i64_in _ (by omega)
  have y2 : IntKind.i64.wrap (10 * m + v.speed) = 10 * m + v.speed := IntWalk.i64_in _ (by omega)
  have y3 : IntKind.i64.wrap (10 * m + v.speed - 1) = 10 * m + v.speed - 1 := IntWalk.i64_in _ (by omega)
  have y4 : v.speed ≠ 0 := by omega
  have y5 : (0 : Int) ≤ 10 * m + v.speed - 1 := by omega
  have y6 : (0 : Int) ≤ v.speed := by omega
  have y7 : IntKind.i64.wrap ((10 * m + v.speed - 1) / v.speed) = (10 * m + v.speed - 1) / v.speed := by
    unfold secs at sb
    exact IntWalk.i64_in _ (by omega)
  have y8 : Int.tdiv (10 * m + v.speed - 1) v.speed = (10 * m + v.speed - 1) / v.speed := Int.tdiv_eq_ediv_of_nonneg y5
  clear bd sb g h0 h1
  go_enter Tryd.func32, Tryd.ntmps32
  go_wp2_with (fail)
  go_ret
  exact ⟨by rw [HS.out]; rfl, by go_grown⟩
theorem sMet (n : Int) (w : World) :
    Calls Tryd.prog 33 #[.int .i64 n] w fun e w' => e = .returned (.bool (inB n 0 100000)) ∧ w = w' := by
  go_enter Tryd.func33, Tryd.ntmps33
  go_wp2_with (go_at_call 38; refine (specIn _ _ _ _).mono ?_; rintro e w' ⟨rfl, rfl⟩)
  go_ret
  exact ⟨rfl, rfl⟩
theorem iMet (n : Int) (w : World) :
    Calls Tryd.prog 31 #[.int .i64 n] w fun e w' => e = .returned (.bool (inB n 0 100000)) ∧ w = w' := by
  go_enter Tryd.func31, Tryd.ntmps31
  go_wp2_with (go_at_call 36; refine (implIn _ _ _ _).mono ?_; rintro e w' ⟨rfl, rfl⟩)
  go_ret
  exact ⟨rfl, rfl⟩
theorem sSecs (v : Cr) (m : Int) (w : World) (hs : v.name.size ≤ 9223372036854775807) :
    Calls Tryd.prog 17 #[.agg #[.int .i64 v.id, .string v.name, .int .i64 v.draught, .int .i64 v.ahead, .int .i64 v.beside, .int .i64 v.speed, .int .i64 v.fuel], .int .i64 m] w fun e w' => e = .returned (.tuple #[.int .i64 (seV v m), .bool (seOk v m)]) ∧ Below w.heap.size w w' := by
  go_enter Tryd.func17, Tryd.ntmps17
  go_wp2_with (fail)
  generalize hW : World.alloc w _ = W1
  obtain ⟨bW, kW, _⟩ := alloc_facts hW
  clear hW
  have m0 := kW.2.1 0 _ rfl
  have m1 := kW.2.1 1 _ rfl
  have m2 := kW.2.1 2 _ rfl
  have m3 := kW.2.1 3 _ rfl
  have m4 := kW.2.1 4 _ rfl
  have m5 := kW.2.1 5 _ rfl
  have m6 := kW.2.1 6 _ rfl
  refine (s5One v _ hs).mono ?_; rintro e w2 ⟨rfl, b2⟩
  have kW := kW.below b2
  have b2 := bth bW b2
  clear m0 m1 m2 m3 m4 m5 m6
  have n0 := kW.2.1 0 _ rfl
  have n1 := kW.2.1 1 _ rfl
  have n2 := kW.2.1 2 _ rfl
  have n3 := kW.2.1 3 _ rfl
  have n4 := kW.2.1 4 _ rfl
  have n5 := kW.2.1 5 _ rfl
  have n6 := kW.2.1 6 _ rfl
  cases g : crOk v with
  | false =>
    have G := Lib.hid (se_bad (v := v) (m := m) (.inl g))
    clear g
    go_wp2_with (fail)
    go_ret2
    rw [G.out.1, G.out.2]
    exact ⟨rfl, b2⟩
  | true =>
    go_wp2_with (fail)
    refine (sMet m _).mono ?_; rintro e w' ⟨rfl, rfl⟩
    cases g2 : inB m 0 100000 with
    | false =>
      have G := Lib.hid (se_bad (v := v) (m := m) (.inr g2))
      clear g g2
      go_wp2_with (fail)
      go_ret2
      rw [G.out.1, G.out.2]
      exact ⟨rfl, b2⟩
    | true =>
      have G := Lib.hid (se_good g g2)
      have hb := inB_true.1 g2
      clear g2
      go_wp2_with (fail)
      refine (sSecs1 v m _ g hb.1 hb.2).mono ?_; rintro e w3 ⟨rfl, b3⟩
      clear g
      go_wp2_with (fail)
      go_ret2
      rw [G.out.1, G.out.2]
      exact ⟨rfl, bth b2 b3⟩
theorem iSecs (v : Cr) (m : Int) (w : World) (hs : v.name.size ≤ 9223372036854775807) :
    Calls Tryd.prog 16 #[.agg #[.int .i64 v.id, .string v.name, .int .i64 v.draught, .int .i64 v.ahead, .int .i64 v.beside, .int .i64 v.speed, .int .i64 v.fuel], .int .i64 m] w fun e w' => e = .returned (.tuple #[.int .i64 (seV v m), .bool (seOk v m)]) ∧ Below w.heap.size w w' := by
  go_enter Tryd.func16, Tryd.ntmps16
  go_wp2_with (fail)
  generalize hW : World.alloc w _ = W1
  obtain ⟨bW, kW, _⟩ := alloc_facts hW
  clear hW
  have m0 := kW.2.1 0 _ rfl
  have m1 := kW.2.1 1 _ rfl
  have m2 := kW.2.1 2 _ rfl
  have m3 := kW.2.1 3 _ rfl
  have m4 := kW.2.1 4 _ rfl
  have m5 := kW.2.1 5 _ rfl
  have m6 := kW.2.1 6 _ rfl
  refine (i5One v _ hs).mono ?_; rintro e w2 ⟨rfl, b2⟩
  have kW := kW.below b2
  have b2 := bth bW b2
  clear m0 m1 m2 m3 m4 m5 m6
  have n0 := kW.2.1 0 _ rfl
  have n1 := kW.2.1 1 _ rfl
  have n2 := kW.2.1 2 _ rfl
  have n3 := kW.2.1 3 _ rfl
  have n4 := kW.2.1 4 _ rfl
  have n5 := kW.2.1 5 _ rfl
  have n6 := kW.2.1 6 _ rfl
  cases g : crOk v with
  | false =>
    have G := Lib.hid (se_bad (v := v) (m := m) (.inl g))
    clear g
    go_wp2_with (fail)
    go_ret2
    rw [G.out.1, G.out.2]
    exact ⟨rfl, b2⟩
  | true =>
    go_wp2_with (fail)
    refine (iMet m _).mono ?_; rintro e w' ⟨rfl, rfl⟩
    cases g2 : inB m 0 100000 with
    | false =>
      have G := Lib.hid (se_bad (v := v) (m := m) (.inr g2))
      clear g g2
      go_wp2_with (fail)
      go_ret2
      rw [G.out.1, G.out.2]
      exact ⟨rfl, b2⟩
    | true =>
      have G := Lib.hid (se_good g g2)
      have hb := inB_true.1 g2
      clear g2
      go_wp2_with (fail)
      refine (iSecs1 v m _ g hb.1 hb.2).mono ?_; rintro e w3 ⟨rfl, b3⟩
      clear g
      go_wp2_with (fail)
      go_ret2
      rw [G.out.1, G.out.2]
      exact ⟨rfl, bth b2 b3⟩
end Go.Proofs.YtanmkjjclpplkaaDoor
