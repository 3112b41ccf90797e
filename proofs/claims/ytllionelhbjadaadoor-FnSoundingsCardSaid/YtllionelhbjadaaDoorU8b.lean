/- The reference's ParseSounding: what it returns. Texts of a length that a text can have. -/
import Derived.Test.YtllionelhbjadaaDoorU8a
set_option linter.unusedVariables false
set_option linter.unusedSimpArgs false
namespace Go.Proofs.YtllionelhbjadaaDoor
open Go.RowKit
set_option maxHeartbeats 8000000
set_option maxRecDepth 100000
theorem Bk.putA {w : World} {g : Nat} {cs : List Value} (h : Bk w g cs) (ds : List Value) (hl : ds.length = cs.length) : Bk (w.setCells g 0 ds) g ds := by
  refine ⟨by rw [size_setCells]; exact h.1, fun i v hv => ?_, fun i => by rw [World.frozen?_setCells]; exact h.2.2 i⟩
  have hi := (List.getElem?_eq_some_iff.1 hv).1
  have := World.cell?_setCells_in g ds 0 w (fun j hj => by rw [Nat.zero_add, h.2.1 j _ (List.getElem?_eq_getElem (by omega))]; rfl) i hi
  rw [Nat.zero_add] at this
  rw [this]
  rw [List.getElem?_eq_getElem hi] at hv
  exact hv
theorem Bk.cset1 {w : World} {g : Nat} {cs : List Value} (h : Bk w g cs) (i : Nat) (u : Value) (hi : i < cs.length) : Bk (w.setCell ⟨g, i, none⟩ u) g (cs.set i u) := by
  have hA := h.ar.put [u] i (by simp; omega)
  refine ⟨hA.1, fun j v hv => ?_, hA.2.2⟩
  show (w.setCells g i [u]).cell? ⟨g, j, none⟩ = some v
  by_cases e : j = i
  · subst e
    have := World.cell?_setCells_in g [u] j w (fun m hm => by
      obtain rfl : m = 0 := by simpa using hm
      rw [Nat.add_zero, h.2.1 j _ (List.getElem?_eq_getElem hi)]; rfl) 0 (by simp)
    rw [Nat.add_zero] at this
    rw [this]
    rw [List.getElem?_set_self hi] at hv
    simpa using hv
  · rw [World.cell?_setCells_out g [u] i w _ (fun _ _ => by show j < i ∨ i + [u].length ≤ j; simp; omega)]
    rw [List.getElem?_set_ne (by omega)] at hv
    exact h.2.1 j v hv
theorem sp_fields {s u0 v0 u1 v1 u2 v2 u3 v3 v4 : ByteArray} (a0 : u0.data.toList = cuL 64 s.data.toList) (b0 : v0.data.toList = cuR 64 s.data.toList) (a1 : u1.data.toList = cuL 44 v0.data.toList) (b1 : v1.data.toList = cuR 44 v0.data.toList)
    (a2 : u2.data.toList = cuL 58 v1.data.toList) (b2 : v2.data.toList = cuR 58 v1.data.toList) (a3 : u3.data.toList = cuL 43 v2.data.toList) (b3 : v3.data.toList = cuR 43 v2.data.toList) (b4 : v4.data.toList = cuR 45 v3.data.toList) {x : Sd} (h : tx8 x = s) :
    u0.data.toList = Lib.itoa x.id ∧ u1.data.toList = Lib.itoa x.x ∧ u2.data.toList = Lib.itoa x.y ∧ u3.data.toList = Lib.itoa x.depth ∧ v4.data.toList = Lib.itoa x.doubt := by
  have e := tx8_parts h
  rw [e] at a0 b0
  have c0 := cu_hit (v := t1 x) (no64 x.id)
  have d0 : v0.data.toList = t1 x := b0.trans c0.2
  rw [d0] at a1 b1
  have c1 := cu_hit (v := t2 x) (no44 x.x)
  have d1 : v1.data.toList = t2 x := b1.trans c1.2
  rw [d1] at a2 b2
  have c2 := cu_hit (v := t3 x) (no58 x.y)
  have d2 : v2.data.toList = t3 x := b2.trans c2.2
  rw [d2] at a3 b3
  have c3 := cu_hit (v := t4 x) (no43 x.depth)
  have d3 : v3.data.toList = t4 x := b3.trans c3.2
  rw [d3] at b4
  have c4 := cu_hit (b := 45) (u := []) (v := t5 x) (by simp)
  exact ⟨a0.trans c0.1, a1.trans c1.1, a2.trans c2.1, a3.trans c3.1, b4.trans c4.2⟩
theorem sParse (s : ByteArray) (w : World) (hs : s.size ≤ 9223372036854775807) :
    Calls Tryd.prog 9 #[.string s] w fun e w' => e = .returned (.tuple #[.agg #[.int .i64 (psY s).id, .int .i64 (psY s).x, .int .i64 (psY s).y, .int .i64 (psY s).depth, .int .i64 (psY s).doubt], .bool (psB s)]) ∧ Below w.heap.size w w' := by
  by_cases hl : s.size ≤ 40
  · have t1 : ¬ (40 : Int) < (s.size : Int) := by omega
    go_enter Tryd.func9, Tryd.ntmps9
    go_upto_region 1 with (fail)
    generalize hW : World.alloc w _ = W1
    have I : Bk W1 w.heap.size (Sd.enc z8) := by rw [← hW]; exact Bk.new w (Sd.enc z8) _
    have B : Below w.heap.size w W1 := by rw [← hW]; exact below_alloc _ _
    clear hW
    go_upto_region 4 with (fail)
    generalize hW : World.alloc W1 _ = W2
    have J : Bk W2 W1.heap.size (Sd.enc z8) := by rw [← hW]; exact Bk.new W1 (Sd.enc z8) _
    have b2 : Below W1.heap.size W1 W2 := by rw [← hW]; exact below_alloc _ _
    have hgr : w.heap.size ≠ W1.heap.size := by have := I.1; omega
    have hwg : w.heap.size ≤ W1.heap.size := B.size
    have I := I.below b2
    have B := bth B b2
    clear hW b2
    generalize W1.heap.size = g at *
    go_wp2_with (fail)
    refine (sCut s 64 64 rfl _ (by omega)).mono ?_; rintro e w0 ⟨u0, v0, rfl, eu0, ev0, zu0, zv0, c0⟩
    have B := bth B c0
    have I := I.below c0
    have J := J.below c0
    clear c0
    go_wp2_with (fail)
    refine (sCut v0 44 44 rfl _ (by omega)).mono ?_; rintro e w1 ⟨u1, v1, rfl, eu1, ev1, zu1, zv1, c1⟩
    have B := bth B c1
    have I := I.below c1
    have J := J.below c1
    clear c1
    go_wp2_with (fail)
    refine (sCut v1 58 58 rfl _ (by omega)).mono ?_; rintro e w2 ⟨u2, v2, rfl, eu2, ev2, zu2, zv2, c2⟩
    have B := bth B c2
    have I := I.below c2
    have J := J.below c2
    clear c2
    go_wp2_with (fail)
    refine (sCut v2 43 43 rfl _ (by omega)).mono ?_; rintro e w3 ⟨u3, v3, rfl, eu3, ev3, zu3, zv3, c3⟩
    have B := bth B c3
    have I := I.below c3
    have J := J.below c3
    clear c3
    go_wp2_with (fail)
    refine (sCut v3 45 45 rfl _ (by omega)).mono ?_; rintro e w4 ⟨u4, v4, rfl, eu4, ev4, zu4, zv4, c4⟩
    have B := bth B c4
    have I := I.below c4
    have J := J.below c4
    clear c4
    have SF := Lib.hid (fun (x : Sd) (h : tx8 x = s) => sp_fields eu0 ev0 eu1 ev1 eu2 ev2 eu3 ev3 ev4 h)
    clear eu0 ev0 eu1 ev1 eu2 ev2 eu3 ev3 eu4 ev4
    go_wp2_with (fail)
    refine (sRead u0 _ (by omega)).mono ?_; rintro e x0 ⟨r0, k0, rfl, R0, c0⟩
    have B := bth B c0
    have I := I.below c0
    have J := J.below c0
    have m := J.2.1 0 _ rfl
    have f := J.2.2 0
    have hz := J.1
    clear c0
    go_upto_region 10 with (fail)
    have J2 := J.cset1 0 (.int .i64 r0) (by show 0 < 5; omega)
    have I2 := I.far hgr [.int .i64 r0] 0
    have B2 := B.setCell (p := ⟨g, 0, none⟩) hwg (.int .i64 r0)
    simp only [World.setCells] at I2
    generalize World.setCell x0 _ _ = y0 at *
    clear J I B m f hz
    have J : Bk y0 g (Sd.enc ⟨r0, 0, 0, 0, 0⟩) := J2
    have I := I2
    have B := B2
    clear J2 I2 B2
    go_wp2_with (fail)
    refine (sRead u1 _ (by omega)).mono ?_; rintro e x1 ⟨r1, k1, rfl, R1, c1⟩
    have B := bth B c1
    have I := I.below c1
    have J := J.below c1
    have m := J.2.1 1 _ rfl
    have f := J.2.2 1
    have hz := J.1
    clear c1
    go_upto_region 11 with (fail)
    have J2 := J.cset1 1 (.int .i64 r1) (by show 1 < 5; omega)
    have I2 := I.far hgr [.int .i64 r1] 1
    have B2 := B.setCell (p := ⟨g, 1, none⟩) hwg (.int .i64 r1)
    simp only [World.setCells] at I2
    generalize World.setCell x1 _ _ = y1 at *
    clear J I B m f hz
    have J : Bk y1 g (Sd.enc ⟨r0, r1, 0, 0, 0⟩) := J2
    have I := I2
    have B := B2
    clear J2 I2 B2
    go_wp2_with (fail)
    refine (sRead u2 _ (by omega)).mono ?_; rintro e x2 ⟨r2, k2, rfl, R2, c2⟩
    have B := bth B c2
    have I := I.below c2
    have J := J.below c2
    have m := J.2.1 2 _ rfl
    have f := J.2.2 2
    have hz := J.1
    clear c2
    go_upto_region 12 with (fail)
    have J2 := J.cset1 2 (.int .i64 r2) (by show 2 < 5; omega)
    have I2 := I.far hgr [.int .i64 r2] 2
    have B2 := B.setCell (p := ⟨g, 2, none⟩) hwg (.int .i64 r2)
    simp only [World.setCells] at I2
    generalize World.setCell x2 _ _ = y2 at *
    clear J I B m f hz
    have J : Bk y2 g (Sd.enc ⟨r0, r1, r2, 0, 0⟩) := J2
    have I := I2
    have B := B2
    clear J2 I2 B2
    go_wp2_with (fail)
    refine (sRead u3 _ (by omega)).mono ?_; rintro e x3 ⟨r3, k3, rfl, R3, c3⟩
    have B := bth B c3
    have I := I.below c3
    have J := J.below c3
    have m := J.2.1 3 _ rfl
    have f := J.2.2 3
    have hz := J.1
    clear c3
    go_upto_region 13 with (fail)
    have J2 := J.cset1 3 (.int .i64 r3) (by show 3 < 5; omega)
    have I2 := I.far hgr [.int .i64 r3] 3
    have B2 := B.setCell (p := ⟨g, 3, none⟩) hwg (.int .i64 r3)
    simp only [World.setCells] at I2
    generalize World.setCell x3 _ _ = y3 at *
    clear J I B m f hz
    have J : Bk y3 g (Sd.enc ⟨r0, r1, r2, r3, 0⟩) := J2
    have I := I2
    have B := B2
    clear J2 I2 B2
    go_wp2_with (fail)
    refine (sRead v4 _ (by omega)).mono ?_; rintro e x4 ⟨r4, k4, rfl, R4, c4⟩
    have B := bth B c4
    have I := I.below c4
    have J := J.below c4
    have m := J.2.1 4 _ rfl
    have f := J.2.2 4
    have hz := J.1
    clear c4
    go_upto_region 14 with (fail)
    have J2 := J.cset1 4 (.int .i64 r4) (by show 4 < 5; omega)
    have I2 := I.far hgr [.int .i64 r4] 4
    have B2 := B.setCell (p := ⟨g, 4, none⟩) hwg (.int .i64 r4)
    simp only [World.setCells] at I2
    generalize World.setCell x4 _ _ = y4 at *
    clear J I B m f hz
    have J : Bk y4 g (Sd.enc ⟨r0, r1, r2, r3, r4⟩) := J2
    have I := I2
    have B := B2
    clear J2 I2 B2
    have XS := Lib.hid (show ∀ x, sdOk x = true → tx8 x = s → x = ⟨r0, r1, r2, r3, r4⟩ from fun x hx h => by
      have sm := sd_sm hx
      obtain ⟨p0, p1, p2, p3, p4⟩ := SF.out x h
      rw [R0 x.id sm.1.1 sm.1.2 p0, R1 x.x sm.2.1.1 sm.2.1.2 p1, R2 x.y sm.2.2.1.1 sm.2.2.1.2 p2, R3 x.depth sm.2.2.2.1.1 sm.2.2.2.1.2 p3, R4 x.doubt sm.2.2.2.2.1 sm.2.2.2.2.2 p4])
    clear R0 R1 R2 R3 R4 SF
    generalize (⟨r0, r1, r2, r3, r4⟩ : Sd) = x at *
    have j0 := J.2.1 0 _ rfl
    have j1 := J.2.1 1 _ rfl
    have j2 := J.2.1 2 _ rfl
    have j3 := J.2.1 3 _ rfl
    have j4 := J.2.1 4 _ rfl
    go_wp2_with (fail)
    refine (specOne x _).mono ?_; rintro e w5 ⟨rfl, c5⟩
    have B := bth B c5
    have I := I.below c5
    have J := J.below c5
    clear j0 j1 j2 j3 j4 c5
    cases h : sdOk x with
    | false =>
      have HP := Lib.hid (ps_of (.inr ⟨rfl, rfl, fun y hy e => by rw [← XS.out y hy e, hy] at h; cases h⟩ : PR s z8 false))
      clear h J XS
      have i0 := I.2.1 0 _ rfl
      have i1 := I.2.1 1 _ rfl
      have i2 := I.2.1 2 _ rfl
      have i3 := I.2.1 3 _ rfl
      have i4 := I.2.1 4 _ rfl
      have f0 := I.2.2 0
      have f1 := I.2.2 1
      have f2 := I.2.2 2
      have f3 := I.2.2 3
      have f4 := I.2.2 4
      have hzr := I.1
      go_wp2_with (fail)
      have I9 := I.putA (Sd.enc (z8)) rfl
      have b9 := bset B (Nat.le_refl _) (Sd.enc (z8)) 0
      simp only [Sd.enc, z8, World.setCells, Nat.zero_add, Nat.reduceAdd] at I9 b9
      have e0 := I9.2.1 0 _ rfl
      have e1 := I9.2.1 1 _ rfl
      have e2 := I9.2.1 2 _ rfl
      have e3 := I9.2.1 3 _ rfl
      have e4 := I9.2.1 4 _ rfl
      exact bodyPost_ret (v := .tuple #[.agg #[.int .i64 (z8).id, .int .i64 (z8).x, .int .i64 (z8).y, .int .i64 (z8).depth, .int .i64 (z8).doubt], .bool false]) (by simp [results, Tryd.results9, go_sem, e0, e1, e2, e3, e4, z8]) rfl ⟨by rw [HP.out.1, HP.out.2], b9⟩
    | true =>
      have j0 := J.2.1 0 _ rfl
      have j1 := J.2.1 1 _ rfl
      have j2 := J.2.1 2 _ rfl
      have j3 := J.2.1 3 _ rfl
      have j4 := J.2.1 4 _ rfl
      go_wp2_with (fail)
      refine (sText8 x _ h).mono ?_; rintro e w6 ⟨rfl, c6⟩
      have B := bth B c6
      have I := I.below c6
      have J := J.below c6
      clear j0 j1 j2 j3 j4 c6
      by_cases he : tx8 x = s
      · have HP := Lib.hid (ps_of (.inl ⟨rfl, h, he⟩ : PR s x true))
        clear h XS
        rw [he]
        clear he
        have i0 := I.2.1 0 _ rfl
        have i1 := I.2.1 1 _ rfl
        have i2 := I.2.1 2 _ rfl
        have i3 := I.2.1 3 _ rfl
        have i4 := I.2.1 4 _ rfl
        have f0 := I.2.2 0
        have f1 := I.2.2 1
        have f2 := I.2.2 2
        have f3 := I.2.2 3
        have f4 := I.2.2 4
        have hzr := I.1
        have j0 := J.2.1 0 _ rfl
        have j1 := J.2.1 1 _ rfl
        have j2 := J.2.1 2 _ rfl
        have j3 := J.2.1 3 _ rfl
        have j4 := J.2.1 4 _ rfl
        go_wp2_with (fail)
        have I9 := I.putA (Sd.enc (x)) rfl
        have b9 := bset B (Nat.le_refl _) (Sd.enc (x)) 0
        simp only [Sd.enc, z8, World.setCells, Nat.zero_add, Nat.reduceAdd] at I9 b9
        have e0 := I9.2.1 0 _ rfl
        have e1 := I9.2.1 1 _ rfl
        have e2 := I9.2.1 2 _ rfl
        have e3 := I9.2.1 3 _ rfl
        have e4 := I9.2.1 4 _ rfl
        exact bodyPost_ret (v := .tuple #[.agg #[.int .i64 (x).id, .int .i64 (x).x, .int .i64 (x).y, .int .i64 (x).depth, .int .i64 (x).doubt], .bool true]) (by simp [results, Tryd.results9, go_sem, e0, e1, e2, e3, e4, z8]) rfl ⟨by rw [HP.out.1, HP.out.2], b9⟩
      · have HP := Lib.hid (ps_of (.inr ⟨rfl, rfl, fun y hy e => he (by rw [← XS.out y hy e]; exact e)⟩ : PR s z8 false))
        obtain ⟨q1, q2⟩ := ba_ne he
        clear h J XS he
        have i0 := I.2.1 0 _ rfl
        have i1 := I.2.1 1 _ rfl
        have i2 := I.2.1 2 _ rfl
        have i3 := I.2.1 3 _ rfl
        have i4 := I.2.1 4 _ rfl
        have f0 := I.2.2 0
        have f1 := I.2.2 1
        have f2 := I.2.2 2
        have f3 := I.2.2 3
        have f4 := I.2.2 4
        have hzr := I.1
        go_wp2_with (fail)
        have I9 := I.putA (Sd.enc (z8)) rfl
        have b9 := bset B (Nat.le_refl _) (Sd.enc (z8)) 0
        simp only [Sd.enc, z8, World.setCells, Nat.zero_add, Nat.reduceAdd] at I9 b9
        have e0 := I9.2.1 0 _ rfl
        have e1 := I9.2.1 1 _ rfl
        have e2 := I9.2.1 2 _ rfl
        have e3 := I9.2.1 3 _ rfl
        have e4 := I9.2.1 4 _ rfl
        exact bodyPost_ret (v := .tuple #[.agg #[.int .i64 (z8).id, .int .i64 (z8).x, .int .i64 (z8).y, .int .i64 (z8).depth, .int .i64 (z8).doubt], .bool false]) (by simp [results, Tryd.results9, go_sem, e0, e1, e2, e3, e4, z8]) rfl ⟨by rw [HP.out.1, HP.out.2], b9⟩
  · have t1 : (40 : Int) < (s.size : Int) := by omega
    have HP := Lib.hid (ps_of (.inr ⟨rfl, rfl, fun y hy e => by have := tx8_len hy; rw [e] at this; omega⟩ : PR s z8 false))
    go_enter Tryd.func9, Tryd.ntmps9
    go_upto_region 1 with (fail)
    generalize hW : World.alloc w _ = W1
    have I : Bk W1 w.heap.size (Sd.enc z8) := by rw [← hW]; exact Bk.new w (Sd.enc z8) _
    have B : Below w.heap.size w W1 := by rw [← hW]; exact below_alloc _ _
    clear hW
    have i0 := I.2.1 0 _ rfl
    have i1 := I.2.1 1 _ rfl
    have i2 := I.2.1 2 _ rfl
    have i3 := I.2.1 3 _ rfl
    have i4 := I.2.1 4 _ rfl
    have f0 := I.2.2 0
    have f1 := I.2.2 1
    have f2 := I.2.2 2
    have f3 := I.2.2 3
    have f4 := I.2.2 4
    have hzr := I.1
    go_wp2_with (fail)
    have I9 := I.putA (Sd.enc (z8)) rfl
    have b9 := bset B (Nat.le_refl _) (Sd.enc (z8)) 0
    simp only [Sd.enc, z8, World.setCells, Nat.zero_add, Nat.reduceAdd] at I9 b9
    have e0 := I9.2.1 0 _ rfl
    have e1 := I9.2.1 1 _ rfl
    have e2 := I9.2.1 2 _ rfl
    have e3 := I9.2.1 3 _ rfl
    have e4 := I9.2.1 4 _ rfl
    exact bodyPost_ret (v := .tuple #[.agg #[.int .i64 (z8).id, .int .i64 (z8).x, .int .i64 (z8).y, .int .i64 (z8).depth, .int .i64 (z8).doubt], .bool false]) (by simp [results, Tryd.results9, go_sem, e0, e1, e2, e3, e4, z8]) rfl ⟨by rw [HP.out.1, HP.out.2], b9⟩
end Go.Proofs.YtllionelhbjadaaDoor
