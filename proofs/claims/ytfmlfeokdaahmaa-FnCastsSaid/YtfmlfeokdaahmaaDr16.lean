/- The draws of the laws on casts: some cast or casts of at most ten layers, some numbers; they change nothing that was there. -/
import Derived.Test.YtfmlfeokdaahmaaDr15
import Derived.Deep.RegionHeld3
set_option linter.unusedVariables false
set_option linter.unusedSimpArgs false
namespace Go.Proofs.Ytfmlfeokdaahmaa
open Go.RowKit
set_option maxHeartbeats 4000000
set_option maxRecDepth 100000
theorem ChO.base {b b' : Nat} {w : World} {x : Ch} (h : ChO b w x) (hb : b' ≤ b) : ChO b' w x := ⟨h.s, h.n, h.c, fun a ha => Nat.le_trans hb (h.b a ha)⟩
theorem ChO.far {b g : Nat} {w : World} {x : Ch} (h : ChO b w x) (hg : g < b) (vs : List Value) (o : Nat) : ChO b (w.setCells g o vs) x := ⟨h.s.far (fun a ha => by have := h.b a ha; omega) vs o, h.n, h.c, h.b⟩
theorem dCastH {p B : Nat} {q : Cd} {m : Nat} {w0 w5 w : World} (h : Dr p B q m w0 w5) (hg : Below w5.heap.size w5 w) (hm : m ≤ 700000000) (id time : Int) :
    Calls Try.prog 82 #[.pointer (some ⟨p, 0, none⟩), .int .i64 id, .int .i64 time] w fun e w' => ∃ v : Ch, e = .returned (.agg #[.int .i64 v.t.id, .int .i64 v.t.time, .int .i64 v.t.x, .int .i64 v.t.y, .slice v.A v.t.lay.length v.cp]) ∧ ChO w.heap.size w' v ∧ Dr p B q (m + 100) w0 w' ∧ LB p w.heap.size w w' := by
  refine (dCast h hg hm id time).mono ?_
  rintro e w' ⟨t, A, c, rfl, s, n, k, b, D, L⟩
  exact ⟨⟨t, A, c⟩, rfl, ⟨s, n, k, b⟩, D, L⟩
/-- What a draw of a cast returns. -/
def ChP (w : World) (e : Ending) (w' : World) : Prop := ∃ v : Ch, e = .returned (.agg #[.int .i64 v.t.id, .int .i64 v.t.time, .int .i64 v.t.x, .int .i64 v.t.y, .slice v.A v.t.lay.length v.cp]) ∧ ChO w.heap.size w' v ∧ Below w.heap.size w w'
theorem drIsCast (X : Option Addr) (x : Nat) (k : List UInt8) (w : World) (h : Sl 1 encU w X k) (hn : k.length ≤ 1048576) :
    Calls Try.prog 85 #[.slice X k.length x] w (ChP w) := by
  go_enter Try.func85, Try.ntmps85
  go_upto_region 1 with (fail)
  generalize hr : w.heap.size = r
  generalize hW : World.alloc w _ = W1
  have I1 : Bk W1 r (Ch.enc ⟨⟨0, 0, 0, 0, []⟩, none, 0⟩) := by rw [← hW, ← hr]; exact Bk.new _ _ _
  have b1 : Below r w W1 := by rw [← hW, ← hr]; exact below_alloc _ _
  have h1 : Sl 1 encU W1 X k := by rw [← hW]; exact h.below (below_alloc _ _)
  clear hW
  go_upto_region 2 with (fail)
  have D0 := Dr.new (c := x) 92 h1 hn
  have hrp : r < W1.heap.size := I1.1
  generalize hp : W1.heap.size = p at *
  generalize hW : World.alloc W1 _ = W0 at *
  clear hW
  have I2 := I1.below (hp ▸ D0.done)
  have hz0 := D0.lt
  go_wp2_with (fail)
  refine (dAmongN D0 (Below.refl _ _) (by omega) rfl (by decide) (by decide) (by simp) (by simp [isI])).mono ?_; rintro e w1 ⟨z1, rfl, -, D1, l1⟩
  have hz1 := l1.size
  go_wp2_with (fail)
  refine (dAmongN D1 (Below.refl _ _) (by omega) rfl (by decide) (by decide) (by simp) (by simp [isI])).mono ?_; rintro e w2 ⟨z2, rfl, -, D2, l2⟩
  have hz2 := D2.lt
  go_wp2_with (fail)
  refine (dCastH D2 (Below.refl _ _) (by omega) _ _).mono ?_; rintro e w3 ⟨v, rfl, ov, D3, l3⟩
  have I3 := I1.below (hp ▸ D3.done)
  have m0 := I3.2.1 0 _ rfl
  have m1 := I3.2.1 1 _ rfl
  have m2 := I3.2.1 2 _ rfl
  have m3 := I3.2.1 3 _ rfl
  have m4 := I3.2.1 4 _ rfl
  have f0 := I3.2.2 0
  have f1 := I3.2.2 1
  have f2 := I3.2.2 2
  have f3 := I3.2.2 3
  have f4 := I3.2.2 4
  have hz := I3.1
  clear I2 D0 D1 D2 l1 l2 l3
  go_wp2_with (fail)
  have I9 := I3.put (Ch.enc v) rfl
  have b9 := bset (b1.trans (D3.done.mono (by omega))) (Nat.le_refl r) (Ch.enc v) 0
  have O9 := ov.far (g := r) (by omega) (Ch.enc v) 0
  simp only [Ch.enc, World.setCells, Nat.zero_add, Nat.reduceAdd] at I9 b9 O9
  have e0 := I9.2.1 0 _ rfl
  have e1 := I9.2.1 1 _ rfl
  have e2 := I9.2.1 2 _ rfl
  have e3 := I9.2.1 3 _ rfl
  have e4 := I9.2.1 4 _ rfl
  exact bodyPost_ret (v := .agg #[.int .i64 v.t.id, .int .i64 v.t.time, .int .i64 v.t.x, .int .i64 v.t.y, .slice v.A v.t.lay.length v.cp]) (by simp [results, Try.results85, go_sem, e0, e1, e2, e3, e4]) rfl ⟨v, rfl, O9.base (b' := w.heap.size) (by omega), hr ▸ b9⟩
theorem drThin (X : Option Addr) (x : Nat) (k : List UInt8) (w : World) (h : Sl 1 encU w X k) (hn : k.length ≤ 1048576) :
    Calls Try.prog 46 #[.slice X k.length x] w (ChP w) := by
  go_enter Try.func46, Try.ntmps46
  go_upto_region 1 with (fail)
  generalize hr : w.heap.size = r
  generalize hW : World.alloc w _ = W1
  have I1 : Bk W1 r (Ch.enc ⟨⟨0, 0, 0, 0, []⟩, none, 0⟩) := by rw [← hW, ← hr]; exact Bk.new _ _ _
  have b1 : Below r w W1 := by rw [← hW, ← hr]; exact below_alloc _ _
  have h1 : Sl 1 encU W1 X k := by rw [← hW]; exact h.below (below_alloc _ _)
  clear hW
  have hrp : r < W1.heap.size := I1.1
  go_wp2_with (fail)
  refine (drIsCast X x k _ h1 hn).mono ?_; rintro e w2 ⟨v, rfl, ov, b2⟩
  have I3 := I1.below b2
  have m0 := I3.2.1 0 _ rfl
  have m1 := I3.2.1 1 _ rfl
  have m2 := I3.2.1 2 _ rfl
  have m3 := I3.2.1 3 _ rfl
  have m4 := I3.2.1 4 _ rfl
  have f0 := I3.2.2 0
  have f1 := I3.2.2 1
  have f2 := I3.2.2 2
  have f3 := I3.2.2 3
  have f4 := I3.2.2 4
  have hz := I3.1
  go_wp2_with (fail)
  have I9 := I3.put (Ch.enc v) rfl
  have b9 := bset (b1.trans (b2.mono (by omega))) (Nat.le_refl r) (Ch.enc v) 0
  have O9 := ov.far (g := r) (by omega) (Ch.enc v) 0
  simp only [Ch.enc, World.setCells, Nat.zero_add, Nat.reduceAdd] at I9 b9 O9
  have e0 := I9.2.1 0 _ rfl
  have e1 := I9.2.1 1 _ rfl
  have e2 := I9.2.1 2 _ rfl
  have e3 := I9.2.1 3 _ rfl
  have e4 := I9.2.1 4 _ rfl
  exact bodyPost_ret (v := .agg #[.int .i64 v.t.id, .int .i64 v.t.time, .int .i64 v.t.x, .int .i64 v.t.y, .slice v.A v.t.lay.length v.cp]) (by simp [results, Try.results46, go_sem, e0, e1, e2, e3, e4]) rfl ⟨v, rfl, O9.base (b' := w.heap.size) (by omega), hr ▸ b9⟩
/-- What a draw of a cast and a number returns. -/
def ChzP (w : World) (e : Ending) (w' : World) : Prop := ∃ (v : Ch) (z : Int), e = .returned (.tuple #[.agg #[.int .i64 v.t.id, .int .i64 v.t.time, .int .i64 v.t.x, .int .i64 v.t.y, .slice v.A v.t.lay.length v.cp], .int .i64 z]) ∧ ChO w.heap.size w' v ∧ Below w.heap.size w w'
theorem celHBk {w' : World} {g : Nat} {v : Ch} (h : Bk w' g v.enc) : w'.cell? ⟨g, 0, none⟩ = some (.int .i64 v.t.id) ∧ w'.cell? ⟨g, 1, none⟩ = some (.int .i64 v.t.time) ∧ w'.cell? ⟨g, 2, none⟩ = some (.int .i64 v.t.x) ∧ w'.cell? ⟨g, 3, none⟩ = some (.int .i64 v.t.y) ∧ w'.cell? ⟨g, 4, none⟩ = some (.slice v.A v.t.lay.length v.cp) :=
  ⟨h.2.1 0 _ rfl, h.2.1 1 _ rfl, h.2.1 2 _ rfl, h.2.1 3 _ rfl, h.2.1 4 _ rfl⟩
theorem drSpeed (X : Option Addr) (x : Nat) (k : List UInt8) (w : World) (h : Sl 1 encU w X k) (hn : k.length ≤ 1048576) :
    Calls Try.prog 48 #[.slice X k.length x] w (ChzP w) := by
  go_enter Try.func48, Try.ntmps48
  go_upto_region 1 with (fail)
  generalize hr : w.heap.size = r
  generalize hW : World.alloc w _ = W1
  have I1 : Bk W1 r (Ch.enc ⟨⟨0, 0, 0, 0, []⟩, none, 0⟩) := by rw [← hW, ← hr]; exact Bk.new _ _ _
  have b1 : Below r w W1 := by rw [← hW, ← hr]; exact below_alloc _ _
  have h1 : Sl 1 encU W1 X k := by rw [← hW]; exact h.below (below_alloc _ _)
  clear hW
  go_upto_region 2 with (fail)
  have D0 := Dr.new (c := x) 92 h1 hn
  have hrp : r < W1.heap.size := I1.1
  generalize hp : W1.heap.size = p at *
  generalize hW : World.alloc W1 _ = W0 at *
  clear hW
  have hz0 := D0.lt
  go_wp2_with (fail)
  refine (dCastH D0 (Below.refl _ _) (by omega) _ _).mono ?_; rintro e w2 ⟨v, rfl, ov, D2, l2⟩
  have hz2 := l2.size
  have ov := ov.base (b' := p + 1) (by omega)
  go_upto_region 3 with (fail)
  have hp2 := D2.lt
  generalize hW : World.alloc w2 _ = W3
  have J3 : Bk W3 w2.heap.size v.enc := by rw [← hW]; exact Bk.new w2 v.enc _
  have b3 : Below w2.heap.size w2 W3 := by rw [← hW]; exact below_alloc _ _
  clear hW
  have D3 := D2.grown b3
  have o3 := ov.below b3
  have I3 := (I1.below (hp ▸ D2.done)).below b3
  have hz3 := I3.1
  have hj3 := J3.1
  generalize hgg : w2.heap.size = g at *
  have hgp : g ≠ p := by omega
  have hgr : g ≠ r := by omega
  have hrp2 : r ≠ p := by omega
  have KS := Lib.hid (fun (w' : World) (hl : LB p W3.heap.size W3 w') => celHBk (J3.lb hl hgp))
  have K9 := Lib.hid (fun (w' : World) (hl : LB p W3.heap.size W3 w') => celHBk ((J3.lb hl hgp).far hgr (Ch.enc v) 0))
  simp only [Ch.enc, World.setCells, Nat.zero_add, Nat.reduceAdd] at K9
  go_region_held3 (fun w' => w'.cell? ⟨g, 0, none⟩ = some (.int .i64 v.t.id) ∧ w'.cell? ⟨g, 1, none⟩ = some (.int .i64 v.t.time) ∧ w'.cell? ⟨g, 2, none⟩ = some (.int .i64 v.t.x) ∧ w'.cell? ⟨g, 3, none⟩ = some (.int .i64 v.t.y) ∧ w'.cell? ⟨g, 4, none⟩ = some (.slice v.A v.t.lay.length v.cp))
    (first | with_reducible exact S7 | with_reducible exact KS.out _ (LB.of (Below.refl _ _)) | with_reducible exact KS.out _ (LB.of (Below.refl _ _).drew) | with_reducible exact KS.out _ K6)
    (first | (go_at_call 87; refine (dDepth7 D3 (Below.refl _ _).drew (by omega)).mono ?_; rintro e w6 ⟨z, rfl, -, D6, l6⟩; have K6 := LB.next (LB.of (Below.refl _ _)) (Below.refl _ _).drew l6; have I6 := I3.lb K6 hrp2; have m0 := I6.2.1 0 _ rfl; have m1 := I6.2.1 1 _ rfl; have m2 := I6.2.1 2 _ rfl; have m3 := I6.2.1 3 _ rfl; have m4 := I6.2.1 4 _ rfl; have f0 := I6.2.2 0; have f1 := I6.2.2 1; have f2 := I6.2.2 2; have f3 := I6.2.2 3; have f4 := I6.2.2 4; have hz := I6.1; have S7 := K9.out _ K6))
  all_goals
    go_wp2_with (fail)
    have o6 := o3.lb K6 (Nat.lt_succ_self p)
    have I9 := I6.put (Ch.enc v) rfl
    have b9 := bset (b1.trans (D6.done.mono (by omega))) (Nat.le_refl r) (Ch.enc v) 0
    have O9 := o6.far (g := r) (by omega) (Ch.enc v) 0
    simp only [Ch.enc, World.setCells, Nat.zero_add, Nat.reduceAdd] at I9 b9 O9
    have e0 := I9.2.1 0 _ rfl
    have e1 := I9.2.1 1 _ rfl
    have e2 := I9.2.1 2 _ rfl
    have e3 := I9.2.1 3 _ rfl
    have e4 := I9.2.1 4 _ rfl
    exact bodyPost_ret (v := .tuple #[.agg #[.int .i64 v.t.id, .int .i64 v.t.time, .int .i64 v.t.x, .int .i64 v.t.y, .slice v.A v.t.lay.length v.cp], .int .i64 z]) (by simp [results, Try.results48, go_sem, e0, e1, e2, e3, e4]) rfl ⟨v, z, rfl, O9.base (b' := w.heap.size) (by omega), hr ▸ b9⟩
theorem drTravel (X : Option Addr) (x : Nat) (k : List UInt8) (w : World) (h : Sl 1 encU w X k) (hn : k.length ≤ 1048576) :
    Calls Try.prog 49 #[.slice X k.length x] w (ChzP w) := by
  go_enter Try.func49, Try.ntmps49
  go_upto_region 1 with (fail)
  generalize hr : w.heap.size = r
  generalize hW : World.alloc w _ = W1
  have I1 : Bk W1 r (Ch.enc ⟨⟨0, 0, 0, 0, []⟩, none, 0⟩) := by rw [← hW, ← hr]; exact Bk.new _ _ _
  have b1 : Below r w W1 := by rw [← hW, ← hr]; exact below_alloc _ _
  have h1 : Sl 1 encU W1 X k := by rw [← hW]; exact h.below (below_alloc _ _)
  clear hW
  have hrp : r < W1.heap.size := I1.1
  go_wp2_with (fail)
  refine (drSpeed X x k _ h1 hn).mono ?_; rintro e w2 ⟨v, z, rfl, ov, b2⟩
  have I3 := I1.below b2
  have m0 := I3.2.1 0 _ rfl
  have m1 := I3.2.1 1 _ rfl
  have m2 := I3.2.1 2 _ rfl
  have m3 := I3.2.1 3 _ rfl
  have m4 := I3.2.1 4 _ rfl
  have f0 := I3.2.2 0
  have f1 := I3.2.2 1
  have f2 := I3.2.2 2
  have f3 := I3.2.2 3
  have f4 := I3.2.2 4
  have hz := I3.1
  go_wp2_with (fail)
  have I9 := I3.put (Ch.enc v) rfl
  have b9 := bset (b1.trans (b2.mono (by omega))) (Nat.le_refl r) (Ch.enc v) 0
  have O9 := ov.far (g := r) (by omega) (Ch.enc v) 0
  simp only [Ch.enc, World.setCells, Nat.zero_add, Nat.reduceAdd] at I9 b9 O9
  have e0 := I9.2.1 0 _ rfl
  have e1 := I9.2.1 1 _ rfl
  have e2 := I9.2.1 2 _ rfl
  have e3 := I9.2.1 3 _ rfl
  have e4 := I9.2.1 4 _ rfl
  exact bodyPost_ret (v := .tuple #[.agg #[.int .i64 v.t.id, .int .i64 v.t.time, .int .i64 v.t.x, .int .i64 v.t.y, .slice v.A v.t.lay.length v.cp], .int .i64 z]) (by simp [results, Try.results49, go_sem, e0, e1, e2, e3, e4]) rfl ⟨v, z, rfl, O9.base (b' := w.heap.size) (by omega), hr ▸ b9⟩
theorem drMean (X : Option Addr) (x : Nat) (k : List UInt8) (w : World) (h : Sl 1 encU w X k) (hn : k.length ≤ 1048576) :
    Calls Try.prog 50 #[.slice X k.length x] w (ChzP w) := by
  go_enter Try.func50, Try.ntmps50
  go_upto_region 1 with (fail)
  generalize hr : w.heap.size = r
  generalize hW : World.alloc w _ = W1
  have I1 : Bk W1 r (Ch.enc ⟨⟨0, 0, 0, 0, []⟩, none, 0⟩) := by rw [← hW, ← hr]; exact Bk.new _ _ _
  have b1 : Below r w W1 := by rw [← hW, ← hr]; exact below_alloc _ _
  have h1 : Sl 1 encU W1 X k := by rw [← hW]; exact h.below (below_alloc _ _)
  clear hW
  have hrp : r < W1.heap.size := I1.1
  go_wp2_with (fail)
  refine (drSpeed X x k _ h1 hn).mono ?_; rintro e w2 ⟨v, z, rfl, ov, b2⟩
  have I3 := I1.below b2
  have m0 := I3.2.1 0 _ rfl
  have m1 := I3.2.1 1 _ rfl
  have m2 := I3.2.1 2 _ rfl
  have m3 := I3.2.1 3 _ rfl
  have m4 := I3.2.1 4 _ rfl
  have f0 := I3.2.2 0
  have f1 := I3.2.2 1
  have f2 := I3.2.2 2
  have f3 := I3.2.2 3
  have f4 := I3.2.2 4
  have hz := I3.1
  go_wp2_with (fail)
  have I9 := I3.put (Ch.enc v) rfl
  have b9 := bset (b1.trans (b2.mono (by omega))) (Nat.le_refl r) (Ch.enc v) 0
  have O9 := ov.far (g := r) (by omega) (Ch.enc v) 0
  simp only [Ch.enc, World.setCells, Nat.zero_add, Nat.reduceAdd] at I9 b9 O9
  have e0 := I9.2.1 0 _ rfl
  have e1 := I9.2.1 1 _ rfl
  have e2 := I9.2.1 2 _ rfl
  have e3 := I9.2.1 3 _ rfl
  have e4 := I9.2.1 4 _ rfl
  exact bodyPost_ret (v := .tuple #[.agg #[.int .i64 v.t.id, .int .i64 v.t.time, .int .i64 v.t.x, .int .i64 v.t.y, .slice v.A v.t.lay.length v.cp], .int .i64 z]) (by simp [results, Try.results50, go_sem, e0, e1, e2, e3, e4]) rfl ⟨v, z, rfl, O9.base (b' := w.heap.size) (by omega), hr ▸ b9⟩
theorem drDepth (X : Option Addr) (x : Nat) (k : List UInt8) (w : World) (h : Sl 1 encU w X k) (hn : k.length ≤ 1048576) :
    Calls Try.prog 45 #[.slice X k.length x] w (ChzP w) := by
  go_enter Try.func45, Try.ntmps45
  go_upto_region 1 with (fail)
  generalize hr : w.heap.size = r
  generalize hW : World.alloc w _ = W1
  have I1 : Bk W1 r (Ch.enc ⟨⟨0, 0, 0, 0, []⟩, none, 0⟩) := by rw [← hW, ← hr]; exact Bk.new _ _ _
  have b1 : Below r w W1 := by rw [← hW, ← hr]; exact below_alloc _ _
  have h1 : Sl 1 encU W1 X k := by rw [← hW]; exact h.below (below_alloc _ _)
  clear hW
  go_upto_region 2 with (fail)
  have D0 := Dr.new (c := x) 92 h1 hn
  have hrp : r < W1.heap.size := I1.1
  generalize hp : W1.heap.size = p at *
  generalize hW : World.alloc W1 _ = W0 at *
  clear hW
  have hz0 := D0.lt
  go_wp2_with (fail)
  refine (dCastH D0 (Below.refl _ _) (by omega) _ _).mono ?_; rintro e w2 ⟨v, rfl, ov, D2, l2⟩
  have hz2 := l2.size
  have ov := ov.base (b' := p + 1) (by omega)
  go_upto_region 3 with (fail)
  have hp2 := D2.lt
  generalize hW : World.alloc w2 _ = W3
  have J3 : Bk W3 w2.heap.size v.enc := by rw [← hW]; exact Bk.new w2 v.enc _
  have b3 : Below w2.heap.size w2 W3 := by rw [← hW]; exact below_alloc _ _
  clear hW
  have D3 := D2.grown b3
  have o3 := ov.below b3
  have I3 := (I1.below (hp ▸ D2.done)).below b3
  have hz3 := I3.1
  have hj3 := J3.1
  generalize hgg : w2.heap.size = g at *
  have hgp : g ≠ p := by omega
  have hgr : g ≠ r := by omega
  have hrp2 : r ≠ p := by omega
  have KS := Lib.hid (fun (w' : World) (hl : LB p W3.heap.size W3 w') => celHBk (J3.lb hl hgp))
  have K9 := Lib.hid (fun (w' : World) (hl : LB p W3.heap.size W3 w') => celHBk ((J3.lb hl hgp).far hgr (Ch.enc v) 0))
  simp only [Ch.enc, World.setCells, Nat.zero_add, Nat.reduceAdd] at K9
  have hcs : 9 ≤ (#[.int .i64 0, .int .i64 6, .int .i64 7, .int .i64 1000, .int .i64 10000, .int .i64 140000, .int .i64 1000000, .int .i64 (-1), .int .i64 1000001] : Array Value).size := by decide
  have hal : (#[.int .i64 0, .int .i64 6, .int .i64 7, .int .i64 1000, .int .i64 10000, .int .i64 140000, .int .i64 1000000, .int .i64 (-1), .int .i64 1000001] : Array Value).all isI = true := by simp [isI]
  have h05 : (0 : Int) ≤ 7 := by omega
  have h57 : (7 : Int) + 2 ≤ 9 := by omega
  have h7k : (9 : Int) ≤ 1000 := by omega
  have h15 : (1 : Int) ≤ 7 + 0 := by omega
  have h011 : (0 : Int) ≤ 11 := by omega
  have h24 : (24 : Int) ≤ 1048577 := by omega
  have hn9 : 9 ≤ 1000 := by omega
  have hWp : W3.heap.size ≠ p := by have := J3.1; omega
  have hm8 : 0 + 100 ≤ 900000000 := by omega
  have hm9 : 0 + 100 + 2 ≤ 900000000 := by omega
  go_region_held3 (fun w' => w'.cell? ⟨g, 0, none⟩ = some (.int .i64 v.t.id) ∧ w'.cell? ⟨g, 1, none⟩ = some (.int .i64 v.t.time) ∧ w'.cell? ⟨g, 2, none⟩ = some (.int .i64 v.t.x) ∧ w'.cell? ⟨g, 3, none⟩ = some (.int .i64 v.t.y) ∧ w'.cell? ⟨g, 4, none⟩ = some (.slice v.A v.t.lay.length v.cp)) (first | with_reducible exact S7 | with_reducible exact KS.out _ (LB.of (Below.refl _ _)) | with_reducible exact KS.out _ (LB.of (Below.refl _ _).drew) | with_reducible exact KS.out _ (LB.of (below_alloc _ _)) | with_reducible exact KS.out _ (LB.of (below_alloc _ _).drew) | with_reducible exact KS.out _ K6 | with_reducible exact KS.out _ K7 | with_reducible exact KS.out _ (K6.grown (below_alloc _ _))) (first | (go_at_call 84; first | ((with_reducible refine (dPickA 9 D3 (Below.refl _ _).drew hm8 hcs hal 24 h24).mono ?_); rintro e w6 ⟨o, rfl, ho, D6, K6, N6, z6⟩; obtain ⟨o0, ot, oz, oa, ob, ow⟩ := by24 7 9 ho h05 h57 h7k; have o1 := Int.le_trans h15 (Int.add_le_add_left (Int.ediv_nonneg o0 h011) 7); have ob2 : 7 + o / 11 ≤ ((9 : Nat) : Int) := ob) | ((with_reducible refine (dPick D3 (Below.refl _ _).drew hm8 24 h24).mono ?_); rintro e w6 ⟨o, rfl, ho, D6, l6⟩; have K6 := LB.next (LB.of (Below.refl _ _)) (Below.refl _ _).drew l6; obtain ⟨o0, ot, oz, oa, ob, ow⟩ := by24 7 9 ho h05 h57 h7k; have o1 := Int.le_trans h15 (Int.add_le_add_left (Int.ediv_nonneg o0 h011) 7); have ob2 : 7 + o / 11 ≤ ((9 : Nat) : Int) := ob)) | (go_at_call 83; first | ((with_reducible refine (dAmongZ D6 (Below.refl _ _) hm9 N6 hWp z6 ob2 o1 hn9).mono ?_); rintro e w7 ⟨z, rfl, -, D7, l7⟩; have K7 := K6.next (Below.refl _ _) l7; have I7 := I3.lb K7 hrp2; have m0 := I7.2.1 0 _ rfl; have m1 := I7.2.1 1 _ rfl; have m2 := I7.2.1 2 _ rfl; have m3 := I7.2.1 3 _ rfl; have m4 := I7.2.1 4 _ rfl; have f0 := I7.2.2 0; have f1 := I7.2.2 1; have f2 := I7.2.2 2; have f3 := I7.2.2 3; have f4 := I7.2.2 4; have hz := I7.1; have S7 := K9.out _ K7) | ((with_reducible refine (dAmongY D6 hm9 hcs hal ob2 o1 hn9).mono ?_); rintro e w7 ⟨z, rfl, -, D7, l7⟩; have K7 := K6.next (below_alloc _ _) l7; have I7 := I3.lb K7 hrp2; have m0 := I7.2.1 0 _ rfl; have m1 := I7.2.1 1 _ rfl; have m2 := I7.2.1 2 _ rfl; have m3 := I7.2.1 3 _ rfl; have m4 := I7.2.1 4 _ rfl; have f0 := I7.2.2 0; have f1 := I7.2.2 1; have f2 := I7.2.2 2; have f3 := I7.2.2 3; have f4 := I7.2.2 4; have hz := I7.1; have S7 := K9.out _ K7)))
  all_goals
    go_wp2_with (fail)
    have o7 := o3.lb K7 (Nat.lt_succ_self p)
    have I9 := I7.put (Ch.enc v) rfl
    have b9 := bset (b1.trans (D7.done.mono (by omega))) (Nat.le_refl r) (Ch.enc v) 0
    have O9 := o7.far (g := r) (by omega) (Ch.enc v) 0
    simp only [Ch.enc, World.setCells, Nat.zero_add, Nat.reduceAdd] at I9 b9 O9
    have e0 := I9.2.1 0 _ rfl
    have e1 := I9.2.1 1 _ rfl
    have e2 := I9.2.1 2 _ rfl
    have e3 := I9.2.1 3 _ rfl
    have e4 := I9.2.1 4 _ rfl
    exact bodyPost_ret (v := .tuple #[.agg #[.int .i64 v.t.id, .int .i64 v.t.time, .int .i64 v.t.x, .int .i64 v.t.y, .slice v.A v.t.lay.length v.cp], .int .i64 z]) (by simp [results, Try.results45, go_sem, e0, e1, e2, e3, e4]) rfl ⟨v, z, rfl, O9.base (b' := w.heap.size) (by omega), hr ▸ b9⟩
/-- What a draw of casts and a number returns. -/
def CszP (w : World) (e : Ending) (w' : World) : Prop := ∃ (hs : List Ch) (A : Option Addr) (c : Nat) (z : Int), e = .returned (.tuple #[.slice A hs.length c, .int .i64 z]) ∧ Sl 5 Ch.enc w' A hs ∧ (∀ x ∈ hs, ChO w.heap.size w' x) ∧ hs.length ≤ 10 ∧ hs.length ≤ c ∧ Below w.heap.size w w'
theorem drCastAt (X : Option Addr) (x : Nat) (k : List UInt8) (w : World) (h : Sl 1 encU w X k) (hn : k.length ≤ 1048576) :
    Calls Try.prog 52 #[.slice X k.length x] w (CszP w) := by
  go_enter Try.func52, Try.ntmps52
  go_wp2_with (fail)
  have D0 := Dr.new (c := x) 92 h hn
  generalize hp : w.heap.size = p at *
  generalize hW : World.alloc w _ = W0 at *
  clear hW
  have hz0 := D0.lt
  refine (dCasts D0 (Below.refl _ _) (by omega)).mono ?_; rintro e w1 ⟨hs, A, c, rfl, s1, o1, hl, hc, hA, D1, l1⟩
  go_wp2_with (fail)
  refine (dTime7 D1 (Below.refl _ _) (by omega)).mono ?_; rintro e w2 ⟨z, rfl, -, D2, l2⟩
  go_wp2_with (fail)
  go_ret2
  exact ⟨hs, A, c, z, rfl, s1.lb l2 (fun _ a ha => by have := hA a ha; omega), fun y hy => ((o1 y hy).lb l2 (by omega)).base (by omega), hl, hc, hp ▸ D2.done⟩
end Go.Proofs.Ytfmlfeokdaahmaa
