/- The great law on offsets as the program runs it: it returns true and changes nothing that was there, where the library's table reads as its initialiser lays it. -/
import Derived.Test.YtanmkjjclpplkaaDoorV5
import Derived.Test.YtanmkjjclpplkaaDoorW5f
import Derived.Test.YtanmkjjclpplkaaDoorT5
set_option linter.unusedVariables false
set_option linter.unusedSimpArgs false
namespace Go.Proofs.YtanmkjjclpplkaaDoor
open Go.RowKit
set_option maxHeartbeats 4000000
set_option maxRecDepth 100000
theorem rBig (A : Option Addr) (n c : Nat) (w : World) :
    Calls Tryd.prog 9 #[.slice A n c] w fun e w' => e = .returned (.bool (decide ((65536 : Int) < (n : Int)))) ∧ w = w' := by
  go_enter Tryd.func9, Tryd.ntmps9
  go_wp2
  go_ret
  exact ⟨rfl, rfl⟩
theorem pl_back {v : Cr} {x y h : Int} (g : plOk v x y h = true) : (plOk v (x - ofE v h) (y - ofN v h) h = true → saX v (x - ofE v h) (y - ofN v h) h = x ∧ saY v (x - ofE v h) (y - ofN v h) h = y) ∧ (plOk v (x - ofE v h) (y - ofN v h) h = false → saX v (x - ofE v h) (y - ofN v h) h = 0 ∧ saY v (x - ofE v h) (y - ofN v h) h = 0) :=
  ⟨fun g2 => ⟨by rw [(pl_good g2).1]; omega, by rw [(pl_good g2).2.1]; omega⟩, fun g2 => ⟨(pl_bad g2).1, (pl_bad g2).2.1⟩⟩
def DrSnd : Prop := ∀ (X : Option Addr) (x : Nat) (k : List UInt8) (w : World), Sl 1 encU w X k → k.length ≤ 1048576 →
    Calls Tryd.prog 10 #[.slice X k.length x] w fun e w' => ∃ (v : Cr) (a b c : Int), v.name.size ≤ 100 ∧ e = .returned (.tuple #[.agg #[.int .i64 v.id, .string v.name, .int .i64 v.draught, .int .i64 v.ahead, .int .i64 v.beside, .int .i64 v.speed, .int .i64 v.fuel], .int .i64 a, .int .i64 b, .int .i64 c]) ∧ Below w.heap.size w w'
def DrSecs : Prop := ∀ (X : Option Addr) (x : Nat) (k : List UInt8) (w : World), Sl 1 encU w X k → k.length ≤ 1048576 →
    Calls Tryd.prog 15 #[.slice X k.length x] w fun e w' => ∃ (v : Cr) (z : Int), v.name.size ≤ 100 ∧ e = .returned (.tuple #[.agg #[.int .i64 v.id, .string v.name, .int .i64 v.draught, .int .i64 v.ahead, .int .i64 v.beside, .int .i64 v.speed, .int .i64 v.fuel], .int .i64 z]) ∧ Below w.heap.size w w'
theorem se_law {u : Cr} {m : Int} (g : seOk u m = true) : ∃ s : Int, (0 ≤ s ∧ s ≤ 1000000) ∧ seV u m = s ∧ (1 ≤ u.speed ∧ u.speed ≤ 60 ∧ 0 ≤ m ∧ m ≤ 100000) ∧ 10 * m ≤ s * u.speed ∧ s * u.speed ≤ 10 * m + u.speed - 1 := by
  have g0 := g
  unfold seOk at g0
  simp only [Bool.and_eq_true, inB_true] at g0
  have bd := crOk_bd g0.1
  have sb := secs_by (v := u) (m := m) (by omega) g0.2.1 g0.2.2
  exact ⟨secs u m, ⟨sb.1, sb.2.1⟩, (se_good g0.1 (inB_true.2 g0.2)).2, by omega, sb.2.2.1, sb.2.2.2⟩
theorem lawOffs (drSnd : DrSnd) (drSecs : DrSecs) (X : Option Addr) (x : Nat) (k : List UInt8) (w : World) (h : Sl 1 encU w X k) (hm : k.length ≤ 9223372036854775807) (_hc : k.length ≤ x) (T : TabOk w) :
    Calls Tryd.prog 4 #[.slice X k.length x] w fun e w' => e = .returned (.bool true) ∧ Below w.heap.size w w' := by
  by_cases hb : (65536 : Int) < (k.length : Int)
  · go_enter Tryd.func4, Tryd.ntmps4
    go_wp2_with (go_at_call 9; refine (rBig _ _ _ _).mono ?_; rintro e w' ⟨rfl, rfl⟩)
    go_ret
    exact ⟨rfl, Below.refl _ _⟩
  · have hn : k.length ≤ 1048576 := by omega
    go_enter Tryd.func4, Tryd.ntmps4
    go_wp2_with (go_at_call 9; refine (rBig _ _ _ _).mono ?_; rintro e w' ⟨rfl, rfl⟩)
    refine (drSnd X x k w h hn).mono ?_; rintro e w1 ⟨v, a, b, c, hv, rfl, b1⟩
    have hv : v.name.size ≤ 9223372036854775807 := by omega
    go_wp2_with (fail)
    generalize hW : World.alloc w1 _ = W2
    have kW : Bk W2 w1.heap.size (Cr.enc v) := by rw [← hW]; exact Bk.new w1 (Cr.enc v) _
    have bW : Below w1.heap.size w1 W2 := by rw [← hW]; exact below_alloc _ _
    have B2 := bth b1 bW
    clear hW bW
    clear b1
    have m0 := kW.2.1 0 _ rfl
    have m1 := kW.2.1 1 _ rfl
    have m2 := kW.2.1 2 _ rfl
    have m3 := kW.2.1 3 _ rfl
    have m4 := kW.2.1 4 _ rfl
    have m5 := kW.2.1 5 _ rfl
    have m6 := kW.2.1 6 _ rfl
    cases g : plOk v a b c with
    | false =>
      have PB := pl_bad g
      have CI0 := fun w => iSounder v a b c w hv
      have CS0 := fun w => sSounder v a b c w hv
      have AI0 := fun w => iAntenna v a b c w hv
      have AS0 := fun w => sAntenna v a b c w hv
      simp only [PB.1, PB.2.1, g] at CI0
      simp only [PB.1, PB.2.1, g] at CS0
      simp only [PB.2.2.1, PB.2.2.2, g] at AI0
      simp only [PB.2.2.1, PB.2.2.2, g] at AS0
      have CI := Lib.hid CI0
      have CS := Lib.hid CS0
      have AI := Lib.hid AI0
      have AS := Lib.hid AS0
      clear CI0 CS0 AI0 AS0 PB
      have BK := Lib.hid (fun w => iSounder v 0 0 c w hv)
      clear g
      refine (CI.out _).mono ?_; rintro e w3 ⟨rfl, b3⟩
      have kW := kW.below b3
      have B3 := bth B2 b3
      clear m0 m1 m2 m3 m4 m5 m6
      have m0 := kW.2.1 0 _ rfl
      have m1 := kW.2.1 1 _ rfl
      have m2 := kW.2.1 2 _ rfl
      have m3 := kW.2.1 3 _ rfl
      have m4 := kW.2.1 4 _ rfl
      have m5 := kW.2.1 5 _ rfl
      have m6 := kW.2.1 6 _ rfl
      clear B2 CI
      go_wp2_with (fail)
      refine (CS.out _).mono ?_; rintro e w4 ⟨rfl, b4⟩
      have kW := kW.below b4
      have B4 := bth B3 b4
      clear m0 m1 m2 m3 m4 m5 m6
      have m0 := kW.2.1 0 _ rfl
      have m1 := kW.2.1 1 _ rfl
      have m2 := kW.2.1 2 _ rfl
      have m3 := kW.2.1 3 _ rfl
      have m4 := kW.2.1 4 _ rfl
      have m5 := kW.2.1 5 _ rfl
      have m6 := kW.2.1 6 _ rfl
      clear B3 CS
      go_wp2_with (fail)
      refine (AI.out _).mono ?_; rintro e w5 ⟨rfl, b5⟩
      have kW := kW.below b5
      have B5 := bth B4 b5
      clear m0 m1 m2 m3 m4 m5 m6
      have m0 := kW.2.1 0 _ rfl
      have m1 := kW.2.1 1 _ rfl
      have m2 := kW.2.1 2 _ rfl
      have m3 := kW.2.1 3 _ rfl
      have m4 := kW.2.1 4 _ rfl
      have m5 := kW.2.1 5 _ rfl
      have m6 := kW.2.1 6 _ rfl
      clear B4 AI
      go_wp2_with (fail)
      refine (AS.out _).mono ?_; rintro e w6 ⟨rfl, b6⟩
      have kW := kW.below b6
      have B6 := bth B5 b6
      clear m0 m1 m2 m3 m4 m5 m6
      have m0 := kW.2.1 0 _ rfl
      have m1 := kW.2.1 1 _ rfl
      have m2 := kW.2.1 2 _ rfl
      have m3 := kW.2.1 3 _ rfl
      have m4 := kW.2.1 4 _ rfl
      have m5 := kW.2.1 5 _ rfl
      have m6 := kW.2.1 6 _ rfl
      clear B5 AS
      go_wp2_with (fail)
      refine (BK.out _).mono ?_; rintro e w7 ⟨rfl, b7⟩
      have B7 := bth B6 b7
      clear B6 BK kW m0 m1 m2 m3 m4 m5 m6 b3 b4 b5 b6 b7
      go_wp2_with (fail)
      refine (drSecs X x k w7 (h.below B7) hn).mono ?_; rintro e w8 ⟨u, mt, hu, rfl, b8⟩
      have hu : u.name.size ≤ 9223372036854775807 := by omega
      have B8 := bth B7 b8
      clear B7 b8
      have SI := Lib.hid (fun w => iSecs u mt w hu)
      have SS := Lib.hid (fun w => sSecs u mt w hu)
      cases g8 : seOk u mt with
      | false =>
        have G8 := Lib.hid g8
        clear g8
        go_wp2_with (fail)
        generalize hW : World.alloc w8 _ = W9
        have kW : Bk W9 w8.heap.size (Cr.enc u) := by rw [← hW]; exact Bk.new w8 (Cr.enc u) _
        have bW : Below w8.heap.size w8 W9 := by rw [← hW]; exact below_alloc _ _
        have B9 := bth B8 bW
        clear hW bW
        have m0 := kW.2.1 0 _ rfl
        have m1 := kW.2.1 1 _ rfl
        have m2 := kW.2.1 2 _ rfl
        have m3 := kW.2.1 3 _ rfl
        have m4 := kW.2.1 4 _ rfl
        have m5 := kW.2.1 5 _ rfl
        have m6 := kW.2.1 6 _ rfl
        refine (SI.out _).mono ?_; rintro e w10 ⟨rfl, b10⟩; rw [G8.out]
        have kW := kW.below b10
        have B10 := bth B9 b10
        clear m0 m1 m2 m3 m4 m5 m6
        have m0 := kW.2.1 0 _ rfl
        have m1 := kW.2.1 1 _ rfl
        have m2 := kW.2.1 2 _ rfl
        have m3 := kW.2.1 3 _ rfl
        have m4 := kW.2.1 4 _ rfl
        have m5 := kW.2.1 5 _ rfl
        have m6 := kW.2.1 6 _ rfl
        clear B9 B8 SI
        go_wp2_with (fail)
        refine (SS.out _).mono ?_; rintro e w11 ⟨rfl, b11⟩; rw [G8.out]
        have kW := kW.below b11
        have B11 := bth B10 b11
        clear m0 m1 m2 m3 m4 m5 m6
        have m0 := kW.2.1 0 _ rfl
        have m1 := kW.2.1 1 _ rfl
        have m2 := kW.2.1 2 _ rfl
        have m3 := kW.2.1 3 _ rfl
        have m4 := kW.2.1 4 _ rfl
        have m5 := kW.2.1 5 _ rfl
        have m6 := kW.2.1 6 _ rfl
        clear B10 SS
        go_wp2_with (fail)
        clear kW m0 m1 m2 m3 m4 m5 m6 b10 b11
        refine (drCraftText X x k w11 (h.below B11) hn).mono ?_; rintro e w12 ⟨t, ht, rfl, b12⟩
        have ht : t.name.size ≤ 9223372036854775807 := by omega
        have B12 := bth B11 b12
        clear B11 b12
        go_wp2_with (fail)
        generalize hW : World.alloc w12 _ = W13
        have kW : Bk W13 w12.heap.size (Cr.enc t) := by rw [← hW]; exact Bk.new w12 (Cr.enc t) _
        have bW : Below w12.heap.size w12 W13 := by rw [← hW]; exact below_alloc _ _
        have B13 := bth B12 bW
        clear hW bW
        clear B12
        have m0 := kW.2.1 0 _ rfl
        have m1 := kW.2.1 1 _ rfl
        have m2 := kW.2.1 2 _ rfl
        have m3 := kW.2.1 3 _ rfl
        have m4 := kW.2.1 4 _ rfl
        have m5 := kW.2.1 5 _ rfl
        have m6 := kW.2.1 6 _ rfl
        refine (iCText t _ ht (T.below B13)).mono ?_; rintro e w14 ⟨rfl, b14⟩
        have kW := kW.below b14
        have B14 := bth B13 b14
        clear m0 m1 m2 m3 m4 m5 m6
        have m0 := kW.2.1 0 _ rfl
        have m1 := kW.2.1 1 _ rfl
        have m2 := kW.2.1 2 _ rfl
        have m3 := kW.2.1 3 _ rfl
        have m4 := kW.2.1 4 _ rfl
        have m5 := kW.2.1 5 _ rfl
        have m6 := kW.2.1 6 _ rfl
        clear B13
        go_wp2_with (fail)
        refine (sCText t _ ht).mono ?_; rintro e w15 ⟨rfl, b15⟩
        have kW := kW.below b15
        have B15 := bth B14 b15
        clear m0 m1 m2 m3 m4 m5 m6
        have m0 := kW.2.1 0 _ rfl
        have m1 := kW.2.1 1 _ rfl
        have m2 := kW.2.1 2 _ rfl
        have m3 := kW.2.1 3 _ rfl
        have m4 := kW.2.1 4 _ rfl
        have m5 := kW.2.1 5 _ rfl
        have m6 := kW.2.1 6 _ rfl
        clear B14
        go_wp2_with (fail)
        refine (i5One t _ ht).mono ?_; rintro e w16 ⟨rfl, b16⟩
        have B16 := bth B15 b16
        go_wp2_with (fail)
        go_ret
        exact ⟨ret_bool (by simp), B16⟩
      | true =>
        obtain ⟨s, hs0, hs, hl, hm2⟩ := se_law g8
        have G8 := Lib.hid (And.intro g8 hs)
        have y1 : IntKind.i64.wrap (s * u.speed) = s * u.speed := IntWalk.i64_in _ (by omega)
        have y2 : IntKind.i64.wrap (10 * mt) = 10 * mt := IntWalk.i64_in _ (by omega)
        have y3 : ¬ s * u.speed < 10 * mt := by omega
        have y4 : decide (s * u.speed < 10 * mt) = false := decide_eq_false y3
        have y5 : IntKind.i64.wrap (s - 1) = s - 1 := IntWalk.i64_in _ (by omega)
        have e5 : (s - 1) * u.speed = s * u.speed - u.speed := by rw [Int.sub_mul, Int.one_mul]
        have y6 : IntKind.i64.wrap ((s - 1) * u.speed) = (s - 1) * u.speed := IntWalk.i64_in _ (by omega)
        have y7 : ¬ 10 * mt ≤ (s - 1) * u.speed := by omega
        have y8 : decide (10 * mt ≤ (s - 1) * u.speed) = false := decide_eq_false y7
        clear e5 hm2 hl g8
        by_cases hs1 : 0 < s
        · have hs2 : decide (0 < s) = true := decide_eq_true hs1
          go_wp2_with (fail)
          generalize hW : World.alloc w8 _ = W9
          have kW : Bk W9 w8.heap.size (Cr.enc u) := by rw [← hW]; exact Bk.new w8 (Cr.enc u) _
          have bW : Below w8.heap.size w8 W9 := by rw [← hW]; exact below_alloc _ _
          have B9 := bth B8 bW
          clear hW bW
          have m0 := kW.2.1 0 _ rfl
          have m1 := kW.2.1 1 _ rfl
          have m2 := kW.2.1 2 _ rfl
          have m3 := kW.2.1 3 _ rfl
          have m4 := kW.2.1 4 _ rfl
          have m5 := kW.2.1 5 _ rfl
          have m6 := kW.2.1 6 _ rfl
          refine (SI.out _).mono ?_; rintro e w10 ⟨rfl, b10⟩; rw [G8.out.1, G8.out.2]
          have kW := kW.below b10
          have B10 := bth B9 b10
          clear m0 m1 m2 m3 m4 m5 m6
          have m0 := kW.2.1 0 _ rfl
          have m1 := kW.2.1 1 _ rfl
          have m2 := kW.2.1 2 _ rfl
          have m3 := kW.2.1 3 _ rfl
          have m4 := kW.2.1 4 _ rfl
          have m5 := kW.2.1 5 _ rfl
          have m6 := kW.2.1 6 _ rfl
          clear B9 B8 SI
          go_wp2_with (fail)
          refine (SS.out _).mono ?_; rintro e w11 ⟨rfl, b11⟩; rw [G8.out.1, G8.out.2]
          have kW := kW.below b11
          have B11 := bth B10 b11
          clear m0 m1 m2 m3 m4 m5 m6
          have m0 := kW.2.1 0 _ rfl
          have m1 := kW.2.1 1 _ rfl
          have m2 := kW.2.1 2 _ rfl
          have m3 := kW.2.1 3 _ rfl
          have m4 := kW.2.1 4 _ rfl
          have m5 := kW.2.1 5 _ rfl
          have m6 := kW.2.1 6 _ rfl
          clear B10 SS
          go_wp2_with (fail)
          clear kW m0 m1 m2 m3 m4 m5 m6 b10 b11
          refine (drCraftText X x k w11 (h.below B11) hn).mono ?_; rintro e w12 ⟨t, ht, rfl, b12⟩
          have ht : t.name.size ≤ 9223372036854775807 := by omega
          have B12 := bth B11 b12
          clear B11 b12
          go_wp2_with (fail)
          generalize hW : World.alloc w12 _ = W13
          have kW : Bk W13 w12.heap.size (Cr.enc t) := by rw [← hW]; exact Bk.new w12 (Cr.enc t) _
          have bW : Below w12.heap.size w12 W13 := by rw [← hW]; exact below_alloc _ _
          have B13 := bth B12 bW
          clear hW bW
          clear B12
          have m0 := kW.2.1 0 _ rfl
          have m1 := kW.2.1 1 _ rfl
          have m2 := kW.2.1 2 _ rfl
          have m3 := kW.2.1 3 _ rfl
          have m4 := kW.2.1 4 _ rfl
          have m5 := kW.2.1 5 _ rfl
          have m6 := kW.2.1 6 _ rfl
          refine (iCText t _ ht (T.below B13)).mono ?_; rintro e w14 ⟨rfl, b14⟩
          have kW := kW.below b14
          have B14 := bth B13 b14
          clear m0 m1 m2 m3 m4 m5 m6
          have m0 := kW.2.1 0 _ rfl
          have m1 := kW.2.1 1 _ rfl
          have m2 := kW.2.1 2 _ rfl
          have m3 := kW.2.1 3 _ rfl
          have m4 := kW.2.1 4 _ rfl
          have m5 := kW.2.1 5 _ rfl
          have m6 := kW.2.1 6 _ rfl
          clear B13
          go_wp2_with (fail)
          refine (sCText t _ ht).mono ?_; rintro e w15 ⟨rfl, b15⟩
          have kW := kW.below b15
          have B15 := bth B14 b15
          clear m0 m1 m2 m3 m4 m5 m6
          have m0 := kW.2.1 0 _ rfl
          have m1 := kW.2.1 1 _ rfl
          have m2 := kW.2.1 2 _ rfl
          have m3 := kW.2.1 3 _ rfl
          have m4 := kW.2.1 4 _ rfl
          have m5 := kW.2.1 5 _ rfl
          have m6 := kW.2.1 6 _ rfl
          clear B14
          go_wp2_with (fail)
          refine (i5One t _ ht).mono ?_; rintro e w16 ⟨rfl, b16⟩
          have B16 := bth B15 b16
          go_wp2_with (fail)
          go_ret
          exact ⟨ret_bool (by simp), B16⟩
        · have hs2 : decide (0 < s) = false := decide_eq_false hs1
          go_wp2_with (fail)
          generalize hW : World.alloc w8 _ = W9
          have kW : Bk W9 w8.heap.size (Cr.enc u) := by rw [← hW]; exact Bk.new w8 (Cr.enc u) _
          have bW : Below w8.heap.size w8 W9 := by rw [← hW]; exact below_alloc _ _
          have B9 := bth B8 bW
          clear hW bW
          have m0 := kW.2.1 0 _ rfl
          have m1 := kW.2.1 1 _ rfl
          have m2 := kW.2.1 2 _ rfl
          have m3 := kW.2.1 3 _ rfl
          have m4 := kW.2.1 4 _ rfl
          have m5 := kW.2.1 5 _ rfl
          have m6 := kW.2.1 6 _ rfl
          refine (SI.out _).mono ?_; rintro e w10 ⟨rfl, b10⟩; rw [G8.out.1, G8.out.2]
          have kW := kW.below b10
          have B10 := bth B9 b10
          clear m0 m1 m2 m3 m4 m5 m6
          have m0 := kW.2.1 0 _ rfl
          have m1 := kW.2.1 1 _ rfl
          have m2 := kW.2.1 2 _ rfl
          have m3 := kW.2.1 3 _ rfl
          have m4 := kW.2.1 4 _ rfl
          have m5 := kW.2.1 5 _ rfl
          have m6 := kW.2.1 6 _ rfl
          clear B9 B8 SI
          go_wp2_with (fail)
          refine (SS.out _).mono ?_; rintro e w11 ⟨rfl, b11⟩; rw [G8.out.1, G8.out.2]
          have kW := kW.below b11
          have B11 := bth B10 b11
          clear m0 m1 m2 m3 m4 m5 m6
          have m0 := kW.2.1 0 _ rfl
          have m1 := kW.2.1 1 _ rfl
          have m2 := kW.2.1 2 _ rfl
          have m3 := kW.2.1 3 _ rfl
          have m4 := kW.2.1 4 _ rfl
          have m5 := kW.2.1 5 _ rfl
          have m6 := kW.2.1 6 _ rfl
          clear B10 SS
          go_wp2_with (fail)
          clear kW m0 m1 m2 m3 m4 m5 m6 b10 b11
          refine (drCraftText X x k w11 (h.below B11) hn).mono ?_; rintro e w12 ⟨t, ht, rfl, b12⟩
          have ht : t.name.size ≤ 9223372036854775807 := by omega
          have B12 := bth B11 b12
          clear B11 b12
          go_wp2_with (fail)
          generalize hW : World.alloc w12 _ = W13
          have kW : Bk W13 w12.heap.size (Cr.enc t) := by rw [← hW]; exact Bk.new w12 (Cr.enc t) _
          have bW : Below w12.heap.size w12 W13 := by rw [← hW]; exact below_alloc _ _
          have B13 := bth B12 bW
          clear hW bW
          clear B12
          have m0 := kW.2.1 0 _ rfl
          have m1 := kW.2.1 1 _ rfl
          have m2 := kW.2.1 2 _ rfl
          have m3 := kW.2.1 3 _ rfl
          have m4 := kW.2.1 4 _ rfl
          have m5 := kW.2.1 5 _ rfl
          have m6 := kW.2.1 6 _ rfl
          refine (iCText t _ ht (T.below B13)).mono ?_; rintro e w14 ⟨rfl, b14⟩
          have kW := kW.below b14
          have B14 := bth B13 b14
          clear m0 m1 m2 m3 m4 m5 m6
          have m0 := kW.2.1 0 _ rfl
          have m1 := kW.2.1 1 _ rfl
          have m2 := kW.2.1 2 _ rfl
          have m3 := kW.2.1 3 _ rfl
          have m4 := kW.2.1 4 _ rfl
          have m5 := kW.2.1 5 _ rfl
          have m6 := kW.2.1 6 _ rfl
          clear B13
          go_wp2_with (fail)
          refine (sCText t _ ht).mono ?_; rintro e w15 ⟨rfl, b15⟩
          have kW := kW.below b15
          have B15 := bth B14 b15
          clear m0 m1 m2 m3 m4 m5 m6
          have m0 := kW.2.1 0 _ rfl
          have m1 := kW.2.1 1 _ rfl
          have m2 := kW.2.1 2 _ rfl
          have m3 := kW.2.1 3 _ rfl
          have m4 := kW.2.1 4 _ rfl
          have m5 := kW.2.1 5 _ rfl
          have m6 := kW.2.1 6 _ rfl
          clear B14
          go_wp2_with (fail)
          refine (i5One t _ ht).mono ?_; rintro e w16 ⟨rfl, b16⟩
          have B16 := bth B15 b16
          go_wp2_with (fail)
          go_ret
          exact ⟨ret_bool (by simp), B16⟩
    | true =>
      have PB := pl_good g
      have bd := plOk_bd g
      have bk := pl_back g
      have CI0 := fun w => iSounder v a b c w hv
      have CS0 := fun w => sSounder v a b c w hv
      have AI0 := fun w => iAntenna v a b c w hv
      have AS0 := fun w => sAntenna v a b c w hv
      simp only [PB.1, PB.2.1, g] at CI0
      simp only [PB.1, PB.2.1, g] at CS0
      simp only [PB.2.2.1, PB.2.2.2, g] at AI0
      simp only [PB.2.2.1, PB.2.2.2, g] at AS0
      have CI := Lib.hid CI0
      have CS := Lib.hid CS0
      have AI := Lib.hid AI0
      have AS := Lib.hid AS0
      clear CI0 CS0 AI0 AS0 PB
      clear g
      generalize ofE v c = E at *
      generalize ofN v c = N at *
      have y1 : IntKind.i64.wrap (a + E + (a - E)) = 2 * a := by rw [show a + E + (a - E) = 2 * a by omega]; exact IntWalk.i64_in _ (by omega)
      have y2 : IntKind.i64.wrap (b + N + (b - N)) = 2 * b := by rw [show b + N + (b - N) = 2 * b by omega]; exact IntWalk.i64_in _ (by omega)
      have y3 : IntKind.i64.wrap (2 * a) = 2 * a := IntWalk.i64_in _ (by omega)
      have y4 : IntKind.i64.wrap (2 * b) = 2 * b := IntWalk.i64_in _ (by omega)
      have y5 : a + E + (a - E) = 2 * a := by omega
      have y6 : b + N + (b - N) = 2 * b := by omega
      clear bd
      cases g2 : plOk v (a - E) (b - N) c with
      | false =>
        have q := bk.2 g2
        have BK0 := fun w => iSounder v (a - E) (b - N) c w hv
        simp only [q.1, q.2, g2] at BK0
        have BK := Lib.hid BK0
        clear BK0 q bk g2
        refine (CI.out _).mono ?_; rintro e w3 ⟨rfl, b3⟩
        have kW := kW.below b3
        have B3 := bth B2 b3
        clear m0 m1 m2 m3 m4 m5 m6
        have m0 := kW.2.1 0 _ rfl
        have m1 := kW.2.1 1 _ rfl
        have m2 := kW.2.1 2 _ rfl
        have m3 := kW.2.1 3 _ rfl
        have m4 := kW.2.1 4 _ rfl
        have m5 := kW.2.1 5 _ rfl
        have m6 := kW.2.1 6 _ rfl
        clear B2 CI
        go_wp2_with (fail)
        refine (CS.out _).mono ?_; rintro e w4 ⟨rfl, b4⟩
        have kW := kW.below b4
        have B4 := bth B3 b4
        clear m0 m1 m2 m3 m4 m5 m6
        have m0 := kW.2.1 0 _ rfl
        have m1 := kW.2.1 1 _ rfl
        have m2 := kW.2.1 2 _ rfl
        have m3 := kW.2.1 3 _ rfl
        have m4 := kW.2.1 4 _ rfl
        have m5 := kW.2.1 5 _ rfl
        have m6 := kW.2.1 6 _ rfl
        clear B3 CS
        go_wp2_with (fail)
        refine (AI.out _).mono ?_; rintro e w5 ⟨rfl, b5⟩
        have kW := kW.below b5
        have B5 := bth B4 b5
        clear m0 m1 m2 m3 m4 m5 m6
        have m0 := kW.2.1 0 _ rfl
        have m1 := kW.2.1 1 _ rfl
        have m2 := kW.2.1 2 _ rfl
        have m3 := kW.2.1 3 _ rfl
        have m4 := kW.2.1 4 _ rfl
        have m5 := kW.2.1 5 _ rfl
        have m6 := kW.2.1 6 _ rfl
        clear B4 AI
        go_wp2_with (fail)
        refine (AS.out _).mono ?_; rintro e w6 ⟨rfl, b6⟩
        have kW := kW.below b6
        have B6 := bth B5 b6
        clear m0 m1 m2 m3 m4 m5 m6
        have m0 := kW.2.1 0 _ rfl
        have m1 := kW.2.1 1 _ rfl
        have m2 := kW.2.1 2 _ rfl
        have m3 := kW.2.1 3 _ rfl
        have m4 := kW.2.1 4 _ rfl
        have m5 := kW.2.1 5 _ rfl
        have m6 := kW.2.1 6 _ rfl
        clear B5 AS
        go_wp2_with (fail)
        refine (BK.out _).mono ?_; rintro e w7 ⟨rfl, b7⟩
        have B7 := bth B6 b7
        clear B6 BK kW m0 m1 m2 m3 m4 m5 m6 b3 b4 b5 b6 b7
        go_wp2_with (fail)
        refine (drSecs X x k w7 (h.below B7) hn).mono ?_; rintro e w8 ⟨u, mt, hu, rfl, b8⟩
        have hu : u.name.size ≤ 9223372036854775807 := by omega
        have B8 := bth B7 b8
        clear B7 b8
        have SI := Lib.hid (fun w => iSecs u mt w hu)
        have SS := Lib.hid (fun w => sSecs u mt w hu)
        cases g8 : seOk u mt with
        | false =>
          have G8 := Lib.hid g8
          clear g8
          go_wp2_with (fail)
          generalize hW : World.alloc w8 _ = W9
          have kW : Bk W9 w8.heap.size (Cr.enc u) := by rw [← hW]; exact Bk.new w8 (Cr.enc u) _
          have bW : Below w8.heap.size w8 W9 := by rw [← hW]; exact below_alloc _ _
          have B9 := bth B8 bW
          clear hW bW
          have m0 := kW.2.1 0 _ rfl
          have m1 := kW.2.1 1 _ rfl
          have m2 := kW.2.1 2 _ rfl
          have m3 := kW.2.1 3 _ rfl
          have m4 := kW.2.1 4 _ rfl
          have m5 := kW.2.1 5 _ rfl
          have m6 := kW.2.1 6 _ rfl
          refine (SI.out _).mono ?_; rintro e w10 ⟨rfl, b10⟩; rw [G8.out]
          have kW := kW.below b10
          have B10 := bth B9 b10
          clear m0 m1 m2 m3 m4 m5 m6
          have m0 := kW.2.1 0 _ rfl
          have m1 := kW.2.1 1 _ rfl
          have m2 := kW.2.1 2 _ rfl
          have m3 := kW.2.1 3 _ rfl
          have m4 := kW.2.1 4 _ rfl
          have m5 := kW.2.1 5 _ rfl
          have m6 := kW.2.1 6 _ rfl
          clear B9 B8 SI
          go_wp2_with (fail)
          refine (SS.out _).mono ?_; rintro e w11 ⟨rfl, b11⟩; rw [G8.out]
          have kW := kW.below b11
          have B11 := bth B10 b11
          clear m0 m1 m2 m3 m4 m5 m6
          have m0 := kW.2.1 0 _ rfl
          have m1 := kW.2.1 1 _ rfl
          have m2 := kW.2.1 2 _ rfl
          have m3 := kW.2.1 3 _ rfl
          have m4 := kW.2.1 4 _ rfl
          have m5 := kW.2.1 5 _ rfl
          have m6 := kW.2.1 6 _ rfl
          clear B10 SS
          go_wp2_with (fail)
          clear kW m0 m1 m2 m3 m4 m5 m6 b10 b11
          refine (drCraftText X x k w11 (h.below B11) hn).mono ?_; rintro e w12 ⟨t, ht, rfl, b12⟩
          have ht : t.name.size ≤ 9223372036854775807 := by omega
          have B12 := bth B11 b12
          clear B11 b12
          go_wp2_with (fail)
          generalize hW : World.alloc w12 _ = W13
          have kW : Bk W13 w12.heap.size (Cr.enc t) := by rw [← hW]; exact Bk.new w12 (Cr.enc t) _
          have bW : Below w12.heap.size w12 W13 := by rw [← hW]; exact below_alloc _ _
          have B13 := bth B12 bW
          clear hW bW
          clear B12
          have m0 := kW.2.1 0 _ rfl
          have m1 := kW.2.1 1 _ rfl
          have m2 := kW.2.1 2 _ rfl
          have m3 := kW.2.1 3 _ rfl
          have m4 := kW.2.1 4 _ rfl
          have m5 := kW.2.1 5 _ rfl
          have m6 := kW.2.1 6 _ rfl
          refine (iCText t _ ht (T.below B13)).mono ?_; rintro e w14 ⟨rfl, b14⟩
          have kW := kW.below b14
          have B14 := bth B13 b14
          clear m0 m1 m2 m3 m4 m5 m6
          have m0 := kW.2.1 0 _ rfl
          have m1 := kW.2.1 1 _ rfl
          have m2 := kW.2.1 2 _ rfl
          have m3 := kW.2.1 3 _ rfl
          have m4 := kW.2.1 4 _ rfl
          have m5 := kW.2.1 5 _ rfl
          have m6 := kW.2.1 6 _ rfl
          clear B13
          go_wp2_with (fail)
          refine (sCText t _ ht).mono ?_; rintro e w15 ⟨rfl, b15⟩
          have kW := kW.below b15
          have B15 := bth B14 b15
          clear m0 m1 m2 m3 m4 m5 m6
          have m0 := kW.2.1 0 _ rfl
          have m1 := kW.2.1 1 _ rfl
          have m2 := kW.2.1 2 _ rfl
          have m3 := kW.2.1 3 _ rfl
          have m4 := kW.2.1 4 _ rfl
          have m5 := kW.2.1 5 _ rfl
          have m6 := kW.2.1 6 _ rfl
          clear B14
          go_wp2_with (fail)
          refine (i5One t _ ht).mono ?_; rintro e w16 ⟨rfl, b16⟩
          have B16 := bth B15 b16
          go_wp2_with (fail)
          go_ret
          exact ⟨ret_bool (by simp), B16⟩
        | true =>
          obtain ⟨s, hs0, hs, hl, hm2⟩ := se_law g8
          have G8 := Lib.hid (And.intro g8 hs)
          have y1 : IntKind.i64.wrap (s * u.speed) = s * u.speed := IntWalk.i64_in _ (by omega)
          have y2 : IntKind.i64.wrap (10 * mt) = 10 * mt := IntWalk.i64_in _ (by omega)
          have y3 : ¬ s * u.speed < 10 * mt := by omega
          have y4 : decide (s * u.speed < 10 * mt) = false := decide_eq_false y3
          have y5 : IntKind.i64.wrap (s - 1) = s - 1 := IntWalk.i64_in _ (by omega)
          have e5 : (s - 1) * u.speed = s * u.speed - u.speed := by rw [Int.sub_mul, Int.one_mul]
          have y6 : IntKind.i64.wrap ((s - 1) * u.speed) = (s - 1) * u.speed := IntWalk.i64_in _ (by omega)
          have y7 : ¬ 10 * mt ≤ (s - 1) * u.speed := by omega
          have y8 : decide (10 * mt ≤ (s - 1) * u.speed) = false := decide_eq_false y7
          clear e5 hm2 hl g8
          by_cases hs1 : 0 < s
          · have hs2 : decide (0 < s) = true := decide_eq_true hs1
            go_wp2_with (fail)
            generalize hW : World.alloc w8 _ = W9
            have kW : Bk W9 w8.heap.size (Cr.enc u) := by rw [← hW]; exact Bk.new w8 (Cr.enc u) _
            have bW : Below w8.heap.size w8 W9 := by rw [← hW]; exact below_alloc _ _
            have B9 := bth B8 bW
            clear hW bW
            have m0 := kW.2.1 0 _ rfl
            have m1 := kW.2.1 1 _ rfl
            have m2 := kW.2.1 2 _ rfl
            have m3 := kW.2.1 3 _ rfl
            have m4 := kW.2.1 4 _ rfl
            have m5 := kW.2.1 5 _ rfl
            have m6 := kW.2.1 6 _ rfl
            refine (SI.out _).mono ?_; rintro e w10 ⟨rfl, b10⟩; rw [G8.out.1, G8.out.2]
            have kW := kW.below b10
            have B10 := bth B9 b10
            clear m0 m1 m2 m3 m4 m5 m6
            have m0 := kW.2.1 0 _ rfl
            have m1 := kW.2.1 1 _ rfl
            have m2 := kW.2.1 2 _ rfl
            have m3 := kW.2.1 3 _ rfl
            have m4 := kW.2.1 4 _ rfl
            have m5 := kW.2.1 5 _ rfl
            have m6 := kW.2.1 6 _ rfl
            clear B9 B8 SI
            go_wp2_with (fail)
            refine (SS.out _).mono ?_; rintro e w11 ⟨rfl, b11⟩; rw [G8.out.1, G8.out.2]
            have kW := kW.below b11
            have B11 := bth B10 b11
            clear m0 m1 m2 m3 m4 m5 m6
            have m0 := kW.2.1 0 _ rfl
            have m1 := kW.2.1 1 _ rfl
            have m2 := kW.2.1 2 _ rfl
            have m3 := kW.2.1 3 _ rfl
            have m4 := kW.2.1 4 _ rfl
            have m5 := kW.2.1 5 _ rfl
            have m6 := kW.2.1 6 _ rfl
            clear B10 SS
            go_wp2_with (fail)
            clear kW m0 m1 m2 m3 m4 m5 m6 b10 b11
            refine (drCraftText X x k w11 (h.below B11) hn).mono ?_; rintro e w12 ⟨t, ht, rfl, b12⟩
            have ht : t.name.size ≤ 9223372036854775807 := by omega
            have B12 := bth B11 b12
            clear B11 b12
            go_wp2_with (fail)
            generalize hW : World.alloc w12 _ = W13
            have kW : Bk W13 w12.heap.size (Cr.enc t) := by rw [← hW]; exact Bk.new w12 (Cr.enc t) _
            have bW : Below w12.heap.size w12 W13 := by rw [← hW]; exact below_alloc _ _
            have B13 := bth B12 bW
            clear hW bW
            clear B12
            have m0 := kW.2.1 0 _ rfl
            have m1 := kW.2.1 1 _ rfl
            have m2 := kW.2.1 2 _ rfl
            have m3 := kW.2.1 3 _ rfl
            have m4 := kW.2.1 4 _ rfl
            have m5 := kW.2.1 5 _ rfl
            have m6 := kW.2.1 6 _ rfl
            refine (iCText t _ ht (T.below B13)).mono ?_; rintro e w14 ⟨rfl, b14⟩
            have kW := kW.below b14
            have B14 := bth B13 b14
            clear m0 m1 m2 m3 m4 m5 m6
            have m0 := kW.2.1 0 _ rfl
            have m1 := kW.2.1 1 _ rfl
            have m2 := kW.2.1 2 _ rfl
            have m3 := kW.2.1 3 _ rfl
            have m4 := kW.2.1 4 _ rfl
            have m5 := kW.2.1 5 _ rfl
            have m6 := kW.2.1 6 _ rfl
            clear B13
            go_wp2_with (fail)
            refine (sCText t _ ht).mono ?_; rintro e w15 ⟨rfl, b15⟩
            have kW := kW.below b15
            have B15 := bth B14 b15
            clear m0 m1 m2 m3 m4 m5 m6
            have m0 := kW.2.1 0 _ rfl
            have m1 := kW.2.1 1 _ rfl
            have m2 := kW.2.1 2 _ rfl
            have m3 := kW.2.1 3 _ rfl
            have m4 := kW.2.1 4 _ rfl
            have m5 := kW.2.1 5 _ rfl
            have m6 := kW.2.1 6 _ rfl
            clear B14
            go_wp2_with (fail)
            refine (i5One t _ ht).mono ?_; rintro e w16 ⟨rfl, b16⟩
            have B16 := bth B15 b16
            go_wp2_with (fail)
            go_ret
            exact ⟨ret_bool (by simp), B16⟩
          · have hs2 : decide (0 < s) = false := decide_eq_false hs1
            go_wp2_with (fail)
            generalize hW : World.alloc w8 _ = W9
            have kW : Bk W9 w8.heap.size (Cr.enc u) := by rw [← hW]; exact Bk.new w8 (Cr.enc u) _
            have bW : Below w8.heap.size w8 W9 := by rw [← hW]; exact below_alloc _ _
            have B9 := bth B8 bW
            clear hW bW
            have m0 := kW.2.1 0 _ rfl
            have m1 := kW.2.1 1 _ rfl
            have m2 := kW.2.1 2 _ rfl
            have m3 := kW.2.1 3 _ rfl
            have m4 := kW.2.1 4 _ rfl
            have m5 := kW.2.1 5 _ rfl
            have m6 := kW.2.1 6 _ rfl
            refine (SI.out _).mono ?_; rintro e w10 ⟨rfl, b10⟩; rw [G8.out.1, G8.out.2]
            have kW := kW.below b10
            have B10 := bth B9 b10
            clear m0 m1 m2 m3 m4 m5 m6
            have m0 := kW.2.1 0 _ rfl
            have m1 := kW.2.1 1 _ rfl
            have m2 := kW.2.1 2 _ rfl
            have m3 := kW.2.1 3 _ rfl
            have m4 := kW.2.1 4 _ rfl
            have m5 := kW.2.1 5 _ rfl
            have m6 := kW.2.1 6 _ rfl
            clear B9 B8 SI
            go_wp2_with (fail)
            refine (SS.out _).mono ?_; rintro e w11 ⟨rfl, b11⟩; rw [G8.out.1, G8.out.2]
            have kW := kW.below b11
            have B11 := bth B10 b11
            clear m0 m1 m2 m3 m4 m5 m6
            have m0 := kW.2.1 0 _ rfl
            have m1 := kW.2.1 1 _ rfl
            have m2 := kW.2.1 2 _ rfl
            have m3 := kW.2.1 3 _ rfl
            have m4 := kW.2.1 4 _ rfl
            have m5 := kW.2.1 5 _ rfl
            have m6 := kW.2.1 6 _ rfl
            clear B10 SS
            go_wp2_with (fail)
            clear kW m0 m1 m2 m3 m4 m5 m6 b10 b11
            refine (drCraftText X x k w11 (h.below B11) hn).mono ?_; rintro e w12 ⟨t, ht, rfl, b12⟩
            have ht : t.name.size ≤ 9223372036854775807 := by omega
            have B12 := bth B11 b12
            clear B11 b12
            go_wp2_with (fail)
            generalize hW : World.alloc w12 _ = W13
            have kW : Bk W13 w12.heap.size (Cr.enc t) := by rw [← hW]; exact Bk.new w12 (Cr.enc t) _
            have bW : Below w12.heap.size w12 W13 := by rw [← hW]; exact below_alloc _ _
            have B13 := bth B12 bW
            clear hW bW
            clear B12
            have m0 := kW.2.1 0 _ rfl
            have m1 := kW.2.1 1 _ rfl
            have m2 := kW.2.1 2 _ rfl
            have m3 := kW.2.1 3 _ rfl
            have m4 := kW.2.1 4 _ rfl
            have m5 := kW.2.1 5 _ rfl
            have m6 := kW.2.1 6 _ rfl
            refine (iCText t _ ht (T.below B13)).mono ?_; rintro e w14 ⟨rfl, b14⟩
            have kW := kW.below b14
            have B14 := bth B13 b14
            clear m0 m1 m2 m3 m4 m5 m6
            have m0 := kW.2.1 0 _ rfl
            have m1 := kW.2.1 1 _ rfl
            have m2 := kW.2.1 2 _ rfl
            have m3 := kW.2.1 3 _ rfl
            have m4 := kW.2.1 4 _ rfl
            have m5 := kW.2.1 5 _ rfl
            have m6 := kW.2.1 6 _ rfl
            clear B13
            go_wp2_with (fail)
            refine (sCText t _ ht).mono ?_; rintro e w15 ⟨rfl, b15⟩
            have kW := kW.below b15
            have B15 := bth B14 b15
            clear m0 m1 m2 m3 m4 m5 m6
            have m0 := kW.2.1 0 _ rfl
            have m1 := kW.2.1 1 _ rfl
            have m2 := kW.2.1 2 _ rfl
            have m3 := kW.2.1 3 _ rfl
            have m4 := kW.2.1 4 _ rfl
            have m5 := kW.2.1 5 _ rfl
            have m6 := kW.2.1 6 _ rfl
            clear B14
            go_wp2_with (fail)
            refine (i5One t _ ht).mono ?_; rintro e w16 ⟨rfl, b16⟩
            have B16 := bth B15 b16
            go_wp2_with (fail)
            go_ret
            exact ⟨ret_bool (by simp), B16⟩
      | true =>
        have q := bk.1 g2
        have BK0 := fun w => iSounder v (a - E) (b - N) c w hv
        simp only [q.1, q.2, g2] at BK0
        have BK := Lib.hid BK0
        clear BK0 q bk g2
        refine (CI.out _).mono ?_; rintro e w3 ⟨rfl, b3⟩
        have kW := kW.below b3
        have B3 := bth B2 b3
        clear m0 m1 m2 m3 m4 m5 m6
        have m0 := kW.2.1 0 _ rfl
        have m1 := kW.2.1 1 _ rfl
        have m2 := kW.2.1 2 _ rfl
        have m3 := kW.2.1 3 _ rfl
        have m4 := kW.2.1 4 _ rfl
        have m5 := kW.2.1 5 _ rfl
        have m6 := kW.2.1 6 _ rfl
        clear B2 CI
        go_wp2_with (fail)
        refine (CS.out _).mono ?_; rintro e w4 ⟨rfl, b4⟩
        have kW := kW.below b4
        have B4 := bth B3 b4
        clear m0 m1 m2 m3 m4 m5 m6
        have m0 := kW.2.1 0 _ rfl
        have m1 := kW.2.1 1 _ rfl
        have m2 := kW.2.1 2 _ rfl
        have m3 := kW.2.1 3 _ rfl
        have m4 := kW.2.1 4 _ rfl
        have m5 := kW.2.1 5 _ rfl
        have m6 := kW.2.1 6 _ rfl
        clear B3 CS
        go_wp2_with (fail)
        refine (AI.out _).mono ?_; rintro e w5 ⟨rfl, b5⟩
        have kW := kW.below b5
        have B5 := bth B4 b5
        clear m0 m1 m2 m3 m4 m5 m6
        have m0 := kW.2.1 0 _ rfl
        have m1 := kW.2.1 1 _ rfl
        have m2 := kW.2.1 2 _ rfl
        have m3 := kW.2.1 3 _ rfl
        have m4 := kW.2.1 4 _ rfl
        have m5 := kW.2.1 5 _ rfl
        have m6 := kW.2.1 6 _ rfl
        clear B4 AI
        go_wp2_with (fail)
        refine (AS.out _).mono ?_; rintro e w6 ⟨rfl, b6⟩
        have kW := kW.below b6
        have B6 := bth B5 b6
        clear m0 m1 m2 m3 m4 m5 m6
        have m0 := kW.2.1 0 _ rfl
        have m1 := kW.2.1 1 _ rfl
        have m2 := kW.2.1 2 _ rfl
        have m3 := kW.2.1 3 _ rfl
        have m4 := kW.2.1 4 _ rfl
        have m5 := kW.2.1 5 _ rfl
        have m6 := kW.2.1 6 _ rfl
        clear B5 AS
        go_wp2_with (fail)
        refine (BK.out _).mono ?_; rintro e w7 ⟨rfl, b7⟩
        have B7 := bth B6 b7
        clear B6 BK kW m0 m1 m2 m3 m4 m5 m6 b3 b4 b5 b6 b7
        go_wp2_with (fail)
        refine (drSecs X x k w7 (h.below B7) hn).mono ?_; rintro e w8 ⟨u, mt, hu, rfl, b8⟩
        have hu : u.name.size ≤ 9223372036854775807 := by omega
        have B8 := bth B7 b8
        clear B7 b8
        have SI := Lib.hid (fun w => iSecs u mt w hu)
        have SS := Lib.hid (fun w => sSecs u mt w hu)
        cases g8 : seOk u mt with
        | false =>
          have G8 := Lib.hid g8
          clear g8
          go_wp2_with (fail)
          generalize hW : World.alloc w8 _ = W9
          have kW : Bk W9 w8.heap.size (Cr.enc u) := by rw [← hW]; exact Bk.new w8 (Cr.enc u) _
          have bW : Below w8.heap.size w8 W9 := by rw [← hW]; exact below_alloc _ _
          have B9 := bth B8 bW
          clear hW bW
          have m0 := kW.2.1 0 _ rfl
          have m1 := kW.2.1 1 _ rfl
          have m2 := kW.2.1 2 _ rfl
          have m3 := kW.2.1 3 _ rfl
          have m4 := kW.2.1 4 _ rfl
          have m5 := kW.2.1 5 _ rfl
          have m6 := kW.2.1 6 _ rfl
          refine (SI.out _).mono ?_; rintro e w10 ⟨rfl, b10⟩; rw [G8.out]
          have kW := kW.below b10
          have B10 := bth B9 b10
          clear m0 m1 m2 m3 m4 m5 m6
          have m0 := kW.2.1 0 _ rfl
          have m1 := kW.2.1 1 _ rfl
          have m2 := kW.2.1 2 _ rfl
          have m3 := kW.2.1 3 _ rfl
          have m4 := kW.2.1 4 _ rfl
          have m5 := kW.2.1 5 _ rfl
          have m6 := kW.2.1 6 _ rfl
          clear B9 B8 SI
          go_wp2_with (fail)
          refine (SS.out _).mono ?_; rintro e w11 ⟨rfl, b11⟩; rw [G8.out]
          have kW := kW.below b11
          have B11 := bth B10 b11
          clear m0 m1 m2 m3 m4 m5 m6
          have m0 := kW.2.1 0 _ rfl
          have m1 := kW.2.1 1 _ rfl
          have m2 := kW.2.1 2 _ rfl
          have m3 := kW.2.1 3 _ rfl
          have m4 := kW.2.1 4 _ rfl
          have m5 := kW.2.1 5 _ rfl
          have m6 := kW.2.1 6 _ rfl
          clear B10 SS
          go_wp2_with (fail)
          clear kW m0 m1 m2 m3 m4 m5 m6 b10 b11
          refine (drCraftText X x k w11 (h.below B11) hn).mono ?_; rintro e w12 ⟨t, ht, rfl, b12⟩
          have ht : t.name.size ≤ 9223372036854775807 := by omega
          have B12 := bth B11 b12
          clear B11 b12
          go_wp2_with (fail)
          generalize hW : World.alloc w12 _ = W13
          have kW : Bk W13 w12.heap.size (Cr.enc t) := by rw [← hW]; exact Bk.new w12 (Cr.enc t) _
          have bW : Below w12.heap.size w12 W13 := by rw [← hW]; exact below_alloc _ _
          have B13 := bth B12 bW
          clear hW bW
          clear B12
          have m0 := kW.2.1 0 _ rfl
          have m1 := kW.2.1 1 _ rfl
          have m2 := kW.2.1 2 _ rfl
          have m3 := kW.2.1 3 _ rfl
          have m4 := kW.2.1 4 _ rfl
          have m5 := kW.2.1 5 _ rfl
          have m6 := kW.2.1 6 _ rfl
          refine (iCText t _ ht (T.below B13)).mono ?_; rintro e w14 ⟨rfl, b14⟩
          have kW := kW.below b14
          have B14 := bth B13 b14
          clear m0 m1 m2 m3 m4 m5 m6
          have m0 := kW.2.1 0 _ rfl
          have m1 := kW.2.1 1 _ rfl
          have m2 := kW.2.1 2 _ rfl
          have m3 := kW.2.1 3 _ rfl
          have m4 := kW.2.1 4 _ rfl
          have m5 := kW.2.1 5 _ rfl
          have m6 := kW.2.1 6 _ rfl
          clear B13
          go_wp2_with (fail)
          refine (sCText t _ ht).mono ?_; rintro e w15 ⟨rfl, b15⟩
          have kW := kW.below b15
          have B15 := bth B14 b15
          clear m0 m1 m2 m3 m4 m5 m6
          have m0 := kW.2.1 0 _ rfl
          have m1 := kW.2.1 1 _ rfl
          have m2 := kW.2.1 2 _ rfl
          have m3 := kW.2.1 3 _ rfl
          have m4 := kW.2.1 4 _ rfl
          have m5 := kW.2.1 5 _ rfl
          have m6 := kW.2.1 6 _ rfl
          clear B14
          go_wp2_with (fail)
          refine (i5One t _ ht).mono ?_; rintro e w16 ⟨rfl, b16⟩
          have B16 := bth B15 b16
          go_wp2_with (fail)
          go_ret
          exact ⟨ret_bool (by simp), B16⟩
        | true =>
          obtain ⟨s, hs0, hs, hl, hm2⟩ := se_law g8
          have G8 := Lib.hid (And.intro g8 hs)
          have y1 : IntKind.i64.wrap (s * u.speed) = s * u.speed := IntWalk.i64_in _ (by omega)
          have y2 : IntKind.i64.wrap (10 * mt) = 10 * mt := IntWalk.i64_in _ (by omega)
          have y3 : ¬ s * u.speed < 10 * mt := by omega
          have y4 : decide (s * u.speed < 10 * mt) = false := decide_eq_false y3
          have y5 : IntKind.i64.wrap (s - 1) = s - 1 := IntWalk.i64_in _ (by omega)
          have e5 : (s - 1) * u.speed = s * u.speed - u.speed := by rw [Int.sub_mul, Int.one_mul]
          have y6 : IntKind.i64.wrap ((s - 1) * u.speed) = (s - 1) * u.speed := IntWalk.i64_in _ (by omega)
          have y7 : ¬ 10 * mt ≤ (s - 1) * u.speed := by omega
          have y8 : decide (10 * mt ≤ (s - 1) * u.speed) = false := decide_eq_false y7
          clear e5 hm2 hl g8
          by_cases hs1 : 0 < s
          · have hs2 : decide (0 < s) = true := decide_eq_true hs1
            go_wp2_with (fail)
            generalize hW : World.alloc w8 _ = W9
            have kW : Bk W9 w8.heap.size (Cr.enc u) := by rw [← hW]; exact Bk.new w8 (Cr.enc u) _
            have bW : Below w8.heap.size w8 W9 := by rw [← hW]; exact below_alloc _ _
            have B9 := bth B8 bW
            clear hW bW
            have m0 := kW.2.1 0 _ rfl
            have m1 := kW.2.1 1 _ rfl
            have m2 := kW.2.1 2 _ rfl
            have m3 := kW.2.1 3 _ rfl
            have m4 := kW.2.1 4 _ rfl
            have m5 := kW.2.1 5 _ rfl
            have m6 := kW.2.1 6 _ rfl
            refine (SI.out _).mono ?_; rintro e w10 ⟨rfl, b10⟩; rw [G8.out.1, G8.out.2]
            have kW := kW.below b10
            have B10 := bth B9 b10
            clear m0 m1 m2 m3 m4 m5 m6
            have m0 := kW.2.1 0 _ rfl
            have m1 := kW.2.1 1 _ rfl
            have m2 := kW.2.1 2 _ rfl
            have m3 := kW.2.1 3 _ rfl
            have m4 := kW.2.1 4 _ rfl
            have m5 := kW.2.1 5 _ rfl
            have m6 := kW.2.1 6 _ rfl
            clear B9 B8 SI
            go_wp2_with (fail)
            refine (SS.out _).mono ?_; rintro e w11 ⟨rfl, b11⟩; rw [G8.out.1, G8.out.2]
            have kW := kW.below b11
            have B11 := bth B10 b11
            clear m0 m1 m2 m3 m4 m5 m6
            have m0 := kW.2.1 0 _ rfl
            have m1 := kW.2.1 1 _ rfl
            have m2 := kW.2.1 2 _ rfl
            have m3 := kW.2.1 3 _ rfl
            have m4 := kW.2.1 4 _ rfl
            have m5 := kW.2.1 5 _ rfl
            have m6 := kW.2.1 6 _ rfl
            clear B10 SS
            go_wp2_with (fail)
            clear kW m0 m1 m2 m3 m4 m5 m6 b10 b11
            refine (drCraftText X x k w11 (h.below B11) hn).mono ?_; rintro e w12 ⟨t, ht, rfl, b12⟩
            have ht : t.name.size ≤ 9223372036854775807 := by omega
            have B12 := bth B11 b12
            clear B11 b12
            go_wp2_with (fail)
            generalize hW : World.alloc w12 _ = W13
            have kW : Bk W13 w12.heap.size (Cr.enc t) := by rw [← hW]; exact Bk.new w12 (Cr.enc t) _
            have bW : Below w12.heap.size w12 W13 := by rw [← hW]; exact below_alloc _ _
            have B13 := bth B12 bW
            clear hW bW
            clear B12
            have m0 := kW.2.1 0 _ rfl
            have m1 := kW.2.1 1 _ rfl
            have m2 := kW.2.1 2 _ rfl
            have m3 := kW.2.1 3 _ rfl
            have m4 := kW.2.1 4 _ rfl
            have m5 := kW.2.1 5 _ rfl
            have m6 := kW.2.1 6 _ rfl
            refine (iCText t _ ht (T.below B13)).mono ?_; rintro e w14 ⟨rfl, b14⟩
            have kW := kW.below b14
            have B14 := bth B13 b14
            clear m0 m1 m2 m3 m4 m5 m6
            have m0 := kW.2.1 0 _ rfl
            have m1 := kW.2.1 1 _ rfl
            have m2 := kW.2.1 2 _ rfl
            have m3 := kW.2.1 3 _ rfl
            have m4 := kW.2.1 4 _ rfl
            have m5 := kW.2.1 5 _ rfl
            have m6 := kW.2.1 6 _ rfl
            clear B13
            go_wp2_with (fail)
            refine (sCText t _ ht).mono ?_; rintro e w15 ⟨rfl, b15⟩
            have kW := kW.below b15
            have B15 := bth B14 b15
            clear m0 m1 m2 m3 m4 m5 m6
            have m0 := kW.2.1 0 _ rfl
            have m1 := kW.2.1 1 _ rfl
            have m2 := kW.2.1 2 _ rfl
            have m3 := kW.2.1 3 _ rfl
            have m4 := kW.2.1 4 _ rfl
            have m5 := kW.2.1 5 _ rfl
            have m6 := kW.2.1 6 _ rfl
            clear B14
            go_wp2_with (fail)
            refine (i5One t _ ht).mono ?_; rintro e w16 ⟨rfl, b16⟩
            have B16 := bth B15 b16
            go_wp2_with (fail)
            go_ret
            exact ⟨ret_bool (by simp), B16⟩
          · have hs2 : decide (0 < s) = false := decide_eq_false hs1
            go_wp2_with (fail)
            generalize hW : World.alloc w8 _ = W9
            have kW : Bk W9 w8.heap.size (Cr.enc u) := by rw [← hW]; exact Bk.new w8 (Cr.enc u) _
            have bW : Below w8.heap.size w8 W9 := by rw [← hW]; exact below_alloc _ _
            have B9 := bth B8 bW
            clear hW bW
            have m0 := kW.2.1 0 _ rfl
            have m1 := kW.2.1 1 _ rfl
            have m2 := kW.2.1 2 _ rfl
            have m3 := kW.2.1 3 _ rfl
            have m4 := kW.2.1 4 _ rfl
            have m5 := kW.2.1 5 _ rfl
            have m6 := kW.2.1 6 _ rfl
            refine (SI.out _).mono ?_; rintro e w10 ⟨rfl, b10⟩; rw [G8.out.1, G8.out.2]
            have kW := kW.below b10
            have B10 := bth B9 b10
            clear m0 m1 m2 m3 m4 m5 m6
            have m0 := kW.2.1 0 _ rfl
            have m1 := kW.2.1 1 _ rfl
            have m2 := kW.2.1 2 _ rfl
            have m3 := kW.2.1 3 _ rfl
            have m4 := kW.2.1 4 _ rfl
            have m5 := kW.2.1 5 _ rfl
            have m6 := kW.2.1 6 _ rfl
            clear B9 B8 SI
            go_wp2_with (fail)
            refine (SS.out _).mono ?_; rintro e w11 ⟨rfl, b11⟩; rw [G8.out.1, G8.out.2]
            have kW := kW.below b11
            have B11 := bth B10 b11
            clear m0 m1 m2 m3 m4 m5 m6
            have m0 := kW.2.1 0 _ rfl
            have m1 := kW.2.1 1 _ rfl
            have m2 := kW.2.1 2 _ rfl
            have m3 := kW.2.1 3 _ rfl
            have m4 := kW.2.1 4 _ rfl
            have m5 := kW.2.1 5 _ rfl
            have m6 := kW.2.1 6 _ rfl
            clear B10 SS
            go_wp2_with (fail)
            clear kW m0 m1 m2 m3 m4 m5 m6 b10 b11
            refine (drCraftText X x k w11 (h.below B11) hn).mono ?_; rintro e w12 ⟨t, ht, rfl, b12⟩
            have ht : t.name.size ≤ 9223372036854775807 := by omega
            have B12 := bth B11 b12
            clear B11 b12
            go_wp2_with (fail)
            generalize hW : World.alloc w12 _ = W13
            have kW : Bk W13 w12.heap.size (Cr.enc t) := by rw [← hW]; exact Bk.new w12 (Cr.enc t) _
            have bW : Below w12.heap.size w12 W13 := by rw [← hW]; exact below_alloc _ _
            have B13 := bth B12 bW
            clear hW bW
            clear B12
            have m0 := kW.2.1 0 _ rfl
            have m1 := kW.2.1 1 _ rfl
            have m2 := kW.2.1 2 _ rfl
            have m3 := kW.2.1 3 _ rfl
            have m4 := kW.2.1 4 _ rfl
            have m5 := kW.2.1 5 _ rfl
            have m6 := kW.2.1 6 _ rfl
            refine (iCText t _ ht (T.below B13)).mono ?_; rintro e w14 ⟨rfl, b14⟩
            have kW := kW.below b14
            have B14 := bth B13 b14
            clear m0 m1 m2 m3 m4 m5 m6
            have m0 := kW.2.1 0 _ rfl
            have m1 := kW.2.1 1 _ rfl
            have m2 := kW.2.1 2 _ rfl
            have m3 := kW.2.1 3 _ rfl
            have m4 := kW.2.1 4 _ rfl
            have m5 := kW.2.1 5 _ rfl
            have m6 := kW.2.1 6 _ rfl
            clear B13
            go_wp2_with (fail)
            refine (sCText t _ ht).mono ?_; rintro e w15 ⟨rfl, b15⟩
            have kW := kW.below b15
            have B15 := bth B14 b15
            clear m0 m1 m2 m3 m4 m5 m6
            have m0 := kW.2.1 0 _ rfl
            have m1 := kW.2.1 1 _ rfl
            have m2 := kW.2.1 2 _ rfl
            have m3 := kW.2.1 3 _ rfl
            have m4 := kW.2.1 4 _ rfl
            have m5 := kW.2.1 5 _ rfl
            have m6 := kW.2.1 6 _ rfl
            clear B14
            go_wp2_with (fail)
            refine (i5One t _ ht).mono ?_; rintro e w16 ⟨rfl, b16⟩
            have B16 := bth B15 b16
            go_wp2_with (fail)
            go_ret
            exact ⟨ret_bool (by simp), B16⟩
end Go.Proofs.YtanmkjjclpplkaaDoor
