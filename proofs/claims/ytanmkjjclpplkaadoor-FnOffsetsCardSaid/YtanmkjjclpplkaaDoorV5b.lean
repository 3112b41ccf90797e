/- The draw of a craft and of meters. -/
import Derived.Test.YtanmkjjclpplkaaDoorV5
set_option linter.unusedVariables false
set_option linter.unusedSimpArgs false
namespace Go.Proofs.YtanmkjjclpplkaaDoor
open Go.RowKit
set_option maxHeartbeats 4000000
set_option maxRecDepth 100000
theorem dAmongZ {p B : Nat} {q : Cd} {m n7 g c : Nat} {o : Int} {w0 w6 w : World} (h : Dr p B q m w0 w6) (hw : Below w6.heap.size w6 w) (hm : m ≤ 900000000) (N : Ints w6 g 0 n7) (hp : g ≠ p) (hg : g < w6.heap.size) (hn : o ≤ (n7 : Int)) (h1 : 1 ≤ o) (hn2 : n7 ≤ 1000) :
    Calls Tryd.prog 25 #[.pointer (some ⟨p, 0, none⟩), .slice (some ⟨g, 0, none⟩) o.toNat c] w (drI p B q (m + 2) w0 w (fun _ => True)) :=
  dAmongB h hw hm N hp hg (by omega) (by omega) (by omega)
theorem celBk {w' : World} {g : Nat} {v : Cr} (h : Bk w' g v.enc) : w'.cell? ⟨g, 0, none⟩ = some (.int .i64 v.id) ∧ w'.cell? ⟨g, 1, none⟩ = some (.string v.name) ∧ w'.cell? ⟨g, 2, none⟩ = some (.int .i64 v.draught) ∧ w'.cell? ⟨g, 3, none⟩ = some (.int .i64 v.ahead) ∧ w'.cell? ⟨g, 4, none⟩ = some (.int .i64 v.beside) ∧ w'.cell? ⟨g, 5, none⟩ = some (.int .i64 v.speed) ∧ w'.cell? ⟨g, 6, none⟩ = some (.int .i64 v.fuel) :=
  ⟨h.2.1 0 _ rfl, h.2.1 1 _ rfl, h.2.1 2 _ rfl, h.2.1 3 _ rfl, h.2.1 4 _ rfl, h.2.1 5 _ rfl, h.2.1 6 _ rfl⟩
theorem dAmongY {p B : Nat} {q : Cd} {m n7 c : Nat} {o : Int} {w0 W : World} {cs : Array Value} {t : TypeId} (h : Dr p B q m w0 W) (hm : m ≤ 900000000) (hn7 : n7 ≤ cs.size) (hall : cs.all isI = true) (hn : o ≤ (n7 : Int)) (h1 : 1 ≤ o) (hn2 : n7 ≤ 1000) :
    Calls Tryd.prog 25 #[.pointer (some ⟨p, 0, none⟩), .slice (some ⟨W.heap.size, 0, none⟩) o.toNat c] (W.alloc (.cells cs t)) (drI p B q (m + 2) w0 (W.alloc (.cells cs t)) (fun _ => True)) := by
  have hp := h.lt
  exact dAmongZ (h.grown (below_alloc _ _)) (Below.refl _ _) hm (ints_app rfl hn7 hall) (by omega) (by simp) hn h1 hn2
theorem drSecs (X : Option Addr) (x : Nat) (k : List UInt8) (w : World) (h : Sl 1 encU w X k) (hn : k.length ≤ 1048576) :
    Calls Tryd.prog 15 #[.slice X k.length x] w fun e w' => ∃ (v : Cr) (z : Int), v.name.size ≤ 100 ∧ e = .returned (.tuple #[.agg #[.int .i64 v.id, .string v.name, .int .i64 v.draught, .int .i64 v.ahead, .int .i64 v.beside, .int .i64 v.speed, .int .i64 v.fuel], .int .i64 z]) ∧ Below w.heap.size w w' := by
  go_enter Tryd.func15, Tryd.ntmps15
  go_upto_region 1 with (fail)
  generalize hr : w.heap.size = r
  generalize hW : World.alloc w _ = W1
  have I1 : Bk W1 r (Cr.enc ⟨0, ByteArray.empty, 0, 0, 0, 0, 0⟩) := by rw [← hW, ← hr]; exact Bk.new _ _ _
  have b1 : Below r w W1 := by rw [← hW, ← hr]; exact below_alloc _ _
  have h1 : Sl 1 encU W1 X k := by rw [← hW]; exact h.below (below_alloc _ _)
  clear hW
  go_upto_region 2 with (fail)
  have D0 := Dr.new (c := x) 46 h1 hn
  have hrp : r < W1.heap.size := I1.1
  generalize hp : W1.heap.size = p at *
  generalize hW : World.alloc W1 _ = W0 at *
  clear hW
  go_wp2_with (fail)
  refine (dCraft D0 (Below.refl _ _) (by omega) _).mono ?_; rintro e w2 ⟨v, hv, rfl, D2, l2⟩
  have I2 := I1.below (hp ▸ D2.done)
  go_upto_region 3 with (fail)
  have hp2 := D2.lt
  generalize hW : World.alloc w2 _ = W3
  have J3 : Bk W3 w2.heap.size v.enc := by rw [← hW]; exact Bk.new w2 v.enc _
  have b3 : Below w2.heap.size w2 W3 := by rw [← hW]; exact below_alloc _ _
  clear hW
  have D3 := D2.grown b3
  generalize hgg : w2.heap.size = g at *
  have hgp : g ≠ p := by omega
  have I3 := I2.below (hgg.symm ▸ b3)
  have KS := Lib.hid (fun (w' : World) (hl : LB p W3.heap.size W3 w') => (show w'.cell? ⟨g, 0, none⟩ = some (.int .i64 v.id) ∧ w'.cell? ⟨g, 1, none⟩ = some (.string v.name) ∧ w'.cell? ⟨g, 2, none⟩ = some (.int .i64 v.draught) ∧ w'.cell? ⟨g, 3, none⟩ = some (.int .i64 v.ahead) ∧ w'.cell? ⟨g, 4, none⟩ = some (.int .i64 v.beside) ∧ w'.cell? ⟨g, 5, none⟩ = some (.int .i64 v.speed) ∧ w'.cell? ⟨g, 6, none⟩ = some (.int .i64 v.fuel) from And.intro ((J3.lb hl hgp).2.1 0 _ rfl) (And.intro ((J3.lb hl hgp).2.1 1 _ rfl) (And.intro ((J3.lb hl hgp).2.1 2 _ rfl) (And.intro ((J3.lb hl hgp).2.1 3 _ rfl) (And.intro ((J3.lb hl hgp).2.1 4 _ rfl) (And.intro ((J3.lb hl hgp).2.1 5 _ rfl) ((J3.lb hl hgp).2.1 6 _ rfl))))))))
  have hcs : 7 ≤ (#[.int .i64 0, .int .i64 1, .int .i64 100, .int .i64 12345, .int .i64 100000, .int .i64 (-1), .int .i64 100001] : Array Value).size := by decide
  have hal : (#[.int .i64 0, .int .i64 1, .int .i64 100, .int .i64 12345, .int .i64 100000, .int .i64 (-1), .int .i64 100001] : Array Value).all isI = true := by simp [isI]
  have h05 : (0 : Int) ≤ 5 := by omega
  have h57 : (5 : Int) + 2 ≤ 7 := by omega
  have h7k : (7 : Int) ≤ 1000 := by omega
  have h15 : (1 : Int) ≤ 5 + 0 := by omega
  have h011 : (0 : Int) ≤ 11 := by omega
  have hm8 : 0 + 20 ≤ 900000000 := by omega
  have h24 : (24 : Int) ≤ 1048577 := by omega
  have hm9 : 0 + 20 + 2 ≤ 900000000 := by omega
  have hn9 : 7 ≤ 1000 := by omega
  have hWp : W3.heap.size ≠ p := by have := J3.1; omega
  have hrp2 : r ≠ p := by omega
  have hgr : g ≠ r := by omega
  have K9 := Lib.hid (fun (w' : World) (hl : LB p W3.heap.size W3 w') => celBk ((J3.lb hl hgp).far hgr (Cr.enc v) 0))
  simp only [Cr.enc, World.setCells, Nat.zero_add, Nat.reduceAdd] at K9
  go_region_held3 (fun w' => w'.cell? ⟨g, 0, none⟩ = some (.int .i64 v.id) ∧ w'.cell? ⟨g, 1, none⟩ = some (.string v.name) ∧ w'.cell? ⟨g, 2, none⟩ = some (.int .i64 v.draught) ∧ w'.cell? ⟨g, 3, none⟩ = some (.int .i64 v.ahead) ∧ w'.cell? ⟨g, 4, none⟩ = some (.int .i64 v.beside) ∧ w'.cell? ⟨g, 5, none⟩ = some (.int .i64 v.speed) ∧ w'.cell? ⟨g, 6, none⟩ = some (.int .i64 v.fuel))
    (first | with_reducible exact S7 | with_reducible exact KS.out _ (LB.of (Below.refl _ _)) | with_reducible exact KS.out _ (LB.of (Below.refl _ _).drew) | with_reducible exact KS.out _ (LB.of (below_alloc _ _)) | with_reducible exact KS.out _ (LB.of (below_alloc _ _).drew) | with_reducible exact KS.out _ K6 | with_reducible exact KS.out _ K7 | with_reducible exact KS.out _ (K6.grown (below_alloc _ _)))
    (first | (go_at_call 26; first | ((with_reducible refine (dPickA 7 D3 (Below.refl _ _).drew hm8 hcs hal 24 h24).mono ?_); rintro e w6 ⟨o, rfl, ho, D6, K6, N6, z6⟩; obtain ⟨o0, ot, oz, oa, ob, ow⟩ := by24 5 7 ho h05 h57 h7k; have o1 := Int.le_trans h15 (Int.add_le_add_left (Int.ediv_nonneg o0 h011) 5); have ob2 : 5 + o / 11 ≤ ((7 : Nat) : Int) := ob) | ((with_reducible refine (dPick D3 (Below.refl _ _).drew hm8 24 h24).mono ?_); rintro e w6 ⟨o, rfl, ho, D6, l6⟩; have K6 := LB.next (LB.of (Below.refl _ _)) (Below.refl _ _).drew l6; obtain ⟨o0, ot, oz, oa, ob, ow⟩ := by24 5 7 ho h05 h57 h7k; have o1 := Int.le_trans h15 (Int.add_le_add_left (Int.ediv_nonneg o0 h011) 5); have ob2 : 5 + o / 11 ≤ ((7 : Nat) : Int) := ob)) | (go_at_call 25; first | ((with_reducible refine (dAmongZ D6 (Below.refl _ _) hm9 N6 hWp z6 ob2 o1 hn9).mono ?_); rintro e w7 ⟨z, rfl, -, D7, l7⟩; have K7 := K6.next (Below.refl _ _) l7; have I7 := I3.lb K7 hrp2; have m0 := I7.2.1 0 _ rfl; have m1 := I7.2.1 1 _ rfl; have m2 := I7.2.1 2 _ rfl; have m3 := I7.2.1 3 _ rfl; have m4 := I7.2.1 4 _ rfl; have m5 := I7.2.1 5 _ rfl; have m6 := I7.2.1 6 _ rfl; have f0 := I7.2.2 0; have f1 := I7.2.2 1; have f2 := I7.2.2 2; have f3 := I7.2.2 3; have f4 := I7.2.2 4; have f5 := I7.2.2 5; have f6 := I7.2.2 6; have hz := I7.1; have S7 := K9.out _ K7) | ((with_reducible refine (dAmongY D6 hm9 hcs hal ob2 o1 hn9).mono ?_); rintro e w7 ⟨z, rfl, -, D7, l7⟩; have K7 := K6.next (below_alloc _ _) l7; have I7 := I3.lb K7 hrp2; have m0 := I7.2.1 0 _ rfl; have m1 := I7.2.1 1 _ rfl; have m2 := I7.2.1 2 _ rfl; have m3 := I7.2.1 3 _ rfl; have m4 := I7.2.1 4 _ rfl; have m5 := I7.2.1 5 _ rfl; have m6 := I7.2.1 6 _ rfl; have f0 := I7.2.2 0; have f1 := I7.2.2 1; have f2 := I7.2.2 2; have f3 := I7.2.2 3; have f4 := I7.2.2 4; have f5 := I7.2.2 5; have f6 := I7.2.2 6; have hz := I7.1; have S7 := K9.out _ K7)))
  all_goals
    go_wp2_with (fail)
    have I9 := I7.putAll (Cr.enc v) rfl
    have b9 := bset (b1.trans (D7.done.mono (by omega))) (Nat.le_refl r) (Cr.enc v) 0
    simp only [Cr.enc, World.setCells, Nat.zero_add, Nat.reduceAdd] at I9 b9
    have e0 := I9.2.1 0 _ rfl
    have e1 := I9.2.1 1 _ rfl
    have e2 := I9.2.1 2 _ rfl
    have e3 := I9.2.1 3 _ rfl
    have e4 := I9.2.1 4 _ rfl
    have e5 := I9.2.1 5 _ rfl
    have e6 := I9.2.1 6 _ rfl
    exact bodyPost_ret (v := .tuple #[.agg #[.int .i64 v.id, .string v.name, .int .i64 v.draught, .int .i64 v.ahead, .int .i64 v.beside, .int .i64 v.speed, .int .i64 v.fuel], .int .i64 z]) (by simp [results, Tryd.results15, go_sem, e0, e1, e2, e3, e4, e5, e6]) rfl ⟨v, z, hv, rfl, hr ▸ b9⟩
end Go.Proofs.YtanmkjjclpplkaaDoor
