/- Draws of a craft; they change the cursor alone. -/
import Derived.Test.YtanmkjjclpplkaaDoorDrL
import Derived.Test.YtanmkjjclpplkaaDoorDr2
import Derived.Test.YtanmkjjclpplkaaDoorS5a
set_option linter.unusedVariables false
set_option linter.unusedSimpArgs false
namespace Go.Proofs.YtanmkjjclpplkaaDoor
open Go.RowKit
set_option maxHeartbeats 4000000
set_option maxRecDepth 100000
def isS : Value → Bool
  | .string s => decide (s.size ≤ 100)
  | _ => false
def Strs (w : World) (g off n : Nat) : Prop := ∀ i, i < n → ∃ z : ByteArray, z.size ≤ 100 ∧ w.cell? ⟨g, off + i, none⟩ = some (.string z)
theorem strs_app {W : World} {cs : Array Value} {t g n : Nat} (hg : g = W.heap.size) (hn : n ≤ cs.size) (h : cs.all isS = true) : Strs (W.alloc (.cells cs t)) g 0 n := by
  intro i hi
  have hi' : i < cs.size := by omega
  have hv := Array.all_eq_true.1 h i hi'
  have hc : (W.alloc (.cells cs t)).cell? ⟨g, 0 + i, none⟩ = some cs[i] := app_cell hg (by simp [hi'])
  rw [hc]
  cases hcs : cs[i] with
  | string z =>
    rw [hcs] at hv
    exact ⟨z, by simpa [isS] using hv, rfl⟩
  | _ => rw [hcs] at hv; simp [isS] at hv
theorem dOf {p B : Nat} {q : Cd} {m : Nat} {w0 w5 w : World} (h : Dr p B q m w0 w5) (hg : Below w5.heap.size w5 w) (hm : m ≤ 900000000) (g off n c : Nat) (hp : g ≠ p) (hgl : g < w.heap.size) (hI : Strs w g off n) (h1 : 1 ≤ n) (hn : n ≤ 1000) :
    Calls Tryd.prog 41 #[.pointer (some ⟨p, 0, none⟩), .slice (some ⟨g, off, none⟩) n c] w fun e w' => ∃ z : ByteArray, e = .returned (.string z) ∧ z.size ≤ 100 ∧ Dr p B q (m + 2) w0 w' ∧ LB p w.heap.size w w' := by
  go_enter Tryd.func41, Tryd.ntmps41
  go_wp2_with (fail)
  refine (dPick h hg hm _ (by omega)).mono ?_; rintro e w1 ⟨r, rfl, hr, D, hl⟩
  obtain ⟨j, rfl⟩ : ∃ j : Nat, r = (j : Int) := ⟨r.toNat, by omega⟩
  have hj : j < n := by omega
  have u1 : (0 : Int) ≤ (j : Int) := by omega
  have u2 : (j : Int) < (n : Int) := by omega
  obtain ⟨z, hs, hz⟩ := hI j hj
  have hz := (hl.cell hgl hp _).trans hz
  go_wp2_with (fail)
  go_ret
  exact ⟨z, rfl, hs, D, hl⟩
theorem dOfN {p B : Nat} {q : Cd} {m : Nat} {w0 w5 W : World} (h : Dr p B q m w0 w5) (hg : Below w5.heap.size w5 W) (hm : m ≤ 900000000) {cs : Array Value} {t g n c : Nat} (hgW : g = W.heap.size) (h1 : 1 ≤ n) (hn : n ≤ 1000) (hcs : n ≤ cs.size) (hall : cs.all isS = true) :
    Calls Tryd.prog 41 #[.pointer (some ⟨p, 0, none⟩), .slice (some ⟨g, 0, none⟩) n c] (W.alloc (.cells cs t)) fun e w' => ∃ z : ByteArray, e = .returned (.string z) ∧ z.size ≤ 100 ∧ Dr p B q (m + 2) w0 w' ∧ LB p (W.alloc (.cells cs t)).heap.size (W.alloc (.cells cs t)) w' :=
  dOf h (bth hg (below_alloc _ _)) hm g 0 n c (by have := h.lt; have := hg.size; omega) (by subst hgW; simp) (strs_app hgW hcs hall) h1 hn
theorem Bk.putAll {w : World} {g : Nat} {cs : List Value} (h : Bk w g cs) (ds : List Value) (hl : ds.length = cs.length) : Bk (w.setCells g 0 ds) g ds := by
  refine ⟨by rw [size_setCells]; exact h.1, fun i v hv => ?_, fun i => by rw [World.frozen?_setCells]; exact h.2.2 i⟩
  have hi := (List.getElem?_eq_some_iff.1 hv).1
  have := World.cell?_setCells_in g ds 0 w (fun j hj => by rw [Nat.zero_add, h.2.1 j _ (List.getElem?_eq_getElem (by omega))]; rfl) i hi
  rw [Nat.zero_add] at this
  rw [this]
  rw [List.getElem?_eq_getElem hi] at hv
  exact hv
theorem dCraft {p B : Nat} {q : Cd} {m : Nat} {w0 w5 w : World} (h : Dr p B q m w0 w5) (hg : Below w5.heap.size w5 w) (hm : m ≤ 800000000) (id : Int) :
    Calls Tryd.prog 24 #[.pointer (some ⟨p, 0, none⟩), .int .i64 id] w fun e w' => ∃ v : Cr, v.name.size ≤ 100 ∧ e = .returned (.agg #[.int .i64 v.id, .string v.name, .int .i64 v.draught, .int .i64 v.ahead, .int .i64 v.beside, .int .i64 v.speed, .int .i64 v.fuel]) ∧ Dr p B q (m + 20) w0 w' ∧ LB p w.heap.size w w' := by
  have h := h.grown hg
  have hp := h.lt
  clear hg
  go_enter Tryd.func24, Tryd.ntmps24
  go_upto_region 1 with (fail)
  generalize hW : World.alloc w _ = W1
  have I1 : Bk W1 w.heap.size (Cr.enc ⟨0, ByteArray.empty, 0, 0, 0, 0, 0⟩) := by rw [← hW]; exact Bk.new _ _ _
  have b1 : Below w.heap.size w W1 := by rw [← hW]; exact below_alloc _ _
  clear hW
  go_wp2_with (fail)
  refine (dOfN h b1 (by omega) rfl (by decide) (by decide) (by simp) (by simp [isS]; try decide)).mono ?_; rintro e w2 ⟨s, rfl, hs, D2, l2⟩
  have I2 := (I1.below (below_alloc _ _)).lb l2 (by omega)
  have L2 := (LB.of (p := p) b1).next (below_alloc _ _) l2
  clear I1 b1 l2
  go_wp2_with (fail)
  refine (dAmongN D2 (Below.refl _ _) (by omega) rfl (by decide) (by decide) (by simp) (by simp [isI])).mono ?_; rintro e w3 ⟨zd, rfl, -, D3, l3⟩
  have I3 := (I2.below (below_alloc _ _)).lb l3 (by omega)
  have L3 := L2.next (below_alloc _ _) l3
  clear D2 I2 L2 l3
  go_wp2_with (fail)
  refine (dAmongN D3 (Below.refl _ _) (by omega) rfl (by decide) (by decide) (by simp) (by simp [isI])).mono ?_; rintro e w4 ⟨za, rfl, -, D4, l4⟩
  have I4 := (I3.below (below_alloc _ _)).lb l4 (by omega)
  have L4 := L3.next (below_alloc _ _) l4
  clear D3 I3 L3 l4
  go_wp2_with (fail)
  refine (dAmongN D4 (Below.refl _ _) (by omega) rfl (by decide) (by decide) (by simp) (by simp [isI])).mono ?_; rintro e w5 ⟨zb, rfl, -, D5, l5⟩
  have I5 := (I4.below (below_alloc _ _)).lb l5 (by omega)
  have L5 := L4.next (below_alloc _ _) l5
  clear D4 I4 L4 l5
  go_wp2_with (fail)
  refine (dAmongN D5 (Below.refl _ _) (by omega) rfl (by decide) (by decide) (by simp) (by simp [isI])).mono ?_; rintro e w6 ⟨zsp, rfl, -, D6, l6⟩
  have I6 := (I5.below (below_alloc _ _)).lb l6 (by omega)
  have L6 := L5.next (below_alloc _ _) l6
  clear D5 I5 L5 l6
  go_wp2_with (fail)
  refine (dAmongN D6 (Below.refl _ _) (by omega) rfl (by decide) (by decide) (by simp) (by simp [isI])).mono ?_; rintro e w7 ⟨zfu, rfl, -, D7, l7⟩
  have I7 := (I6.below (below_alloc _ _)).lb l7 (by omega)
  have L7 := L6.next (below_alloc _ _) l7
  clear D6 I6 L6 l7
  go_upto_region 2 with (fail)
  have h3 := I7.1
  have hg3 : w7.heap.size ≠ p := by omega
  have hg0 : w.heap.size ≠ p := by omega
  generalize hW : World.alloc w7 _ = W5
  obtain ⟨v, hv, hve⟩ : ∃ v : Cr, v.name.size ≤ 100 ∧ v.enc = Cr.enc ⟨id, s, zd, za, zb, zsp, zfu⟩ := ⟨_, hs, rfl⟩
  have J5 : Bk W5 w7.heap.size v.enc := by rw [hve, ← hW]; exact Bk.new _ _ _
  clear hve
  have b5 : Below w7.heap.size w7 W5 := by rw [← hW]; exact below_alloc _ _
  clear hW
  have I5 := I7.below b5
  generalize hgg : w7.heap.size = g at *
  have D5 := D7.grown (hgg ▸ b5)
  have L5 := L7.grown (hgg ▸ b5)
  clear D7 I7 L7 b5
  go_wp2_with (fail)
  refine (dPick D5 (Below.refl _ _) (by omega) _ (by omega)).mono ?_; rintro e w8 ⟨o, rfl, ho, D6, l6⟩
  have I6 := I5.lb l6 hg0
  have J6 := J5.lb l6 hg3
  have L6 := L5.next (Below.refl _ _) l6
  clear D5 I5 J5 L5 l6
  have D5 := D6
  have I5 := I6
  have J5 := J6
  have L5 := L6
  clear D6 I6 J6 L6
  by_cases q0 : o = 0
  · subst q0
    go_wp2_with (fail)
    refine (dAmongN D5 (Below.refl _ _) (by omega) rfl (by decide) (by decide) (by simp) (by simp [isI])).mono ?_; rintro e w7 ⟨z3, rfl, -, D6, l6⟩
    have I6 := (I5.below (below_alloc _ _)).lb l6 hg0
    have J6 := (J5.below (below_alloc _ _)).lb l6 hg3
    have L6 := L5.next (below_alloc _ _) l6
    have j0 := J6.2.1 0 _ rfl
    have f0 := J6.2.2 0
    have hz := J6.1
    clear I5 J5 L5 D5 l6
    go_upto_region 17 with (fail)
    have D := D6.sets (g := g) (by omega) [.int .i64 z3] 0
    have L := L6.sets (g := g) (by omega) [.int .i64 z3] 0
    have I := I6.far (show w.heap.size ≠ g by omega) [.int .i64 z3] 0
    have J := J6.cset 0 (.int .i64 z3) (by show 0 < 7; omega)
    replace J : Bk _ g (Cr.enc ⟨z3, v.name, v.draught, v.ahead, v.beside, v.speed, v.fuel⟩) := J
    simp only [World.setCells] at D L I J
    clear D6 L6 I6 J6 j0 f0 hz
    generalize World.setCell w7 _ _ = W7 at *
    go_upto_region 17 with (fail)
    have g0 := J.2.1 0 _ rfl
    have g1 := J.2.1 1 _ rfl
    have g2 := J.2.1 2 _ rfl
    have g3 := J.2.1 3 _ rfl
    have g4 := J.2.1 4 _ rfl
    have g5 := J.2.1 5 _ rfl
    have g6 := J.2.1 6 _ rfl
    have m0 := I.2.1 0 _ rfl
    have m1 := I.2.1 1 _ rfl
    have m2 := I.2.1 2 _ rfl
    have m3 := I.2.1 3 _ rfl
    have m4 := I.2.1 4 _ rfl
    have m5 := I.2.1 5 _ rfl
    have m6 := I.2.1 6 _ rfl
    have f0 := I.2.2 0
    have f1 := I.2.2 1
    have f2 := I.2.2 2
    have f3 := I.2.2 3
    have f4 := I.2.2 4
    have f5 := I.2.2 5
    have f6 := I.2.2 6
    have hz := I.1
    have hzg := J.1
    go_wp2_with (fail)
    have I9 := I.putAll (Cr.enc ⟨z3, v.name, v.draught, v.ahead, v.beside, v.speed, v.fuel⟩) rfl
    have D9 := D.sets (g := w.heap.size) (by omega) (Cr.enc ⟨z3, v.name, v.draught, v.ahead, v.beside, v.speed, v.fuel⟩) 0
    have L9 := L.sets (g := w.heap.size) (Nat.le_refl _) (Cr.enc ⟨z3, v.name, v.draught, v.ahead, v.beside, v.speed, v.fuel⟩) 0
    simp only [Cr.enc, World.setCells, Nat.zero_add, Nat.reduceAdd] at I9 D9 L9
    have e0 := I9.2.1 0 _ rfl
    have e1 := I9.2.1 1 _ rfl
    have e2 := I9.2.1 2 _ rfl
    have e3 := I9.2.1 3 _ rfl
    have e4 := I9.2.1 4 _ rfl
    have e5 := I9.2.1 5 _ rfl
    have e6 := I9.2.1 6 _ rfl
    exact bodyPost_ret (v := (Value.agg #[.int .i64 (⟨z3, v.name, v.draught, v.ahead, v.beside, v.speed, v.fuel⟩ : Cr).id, .string (⟨z3, v.name, v.draught, v.ahead, v.beside, v.speed, v.fuel⟩ : Cr).name, .int .i64 (⟨z3, v.name, v.draught, v.ahead, v.beside, v.speed, v.fuel⟩ : Cr).draught, .int .i64 (⟨z3, v.name, v.draught, v.ahead, v.beside, v.speed, v.fuel⟩ : Cr).ahead, .int .i64 (⟨z3, v.name, v.draught, v.ahead, v.beside, v.speed, v.fuel⟩ : Cr).beside, .int .i64 (⟨z3, v.name, v.draught, v.ahead, v.beside, v.speed, v.fuel⟩ : Cr).speed, .int .i64 (⟨z3, v.name, v.draught, v.ahead, v.beside, v.speed, v.fuel⟩ : Cr).fuel])) (by simp [results, Tryd.results24, go_sem, e0, e1, e2, e3, e4, e5, e6]) rfl ⟨⟨z3, v.name, v.draught, v.ahead, v.beside, v.speed, v.fuel⟩, hv, rfl, D9.mono (by omega), L9⟩
  · skip
    by_cases q1 : o = 1
    · subst q1
      go_wp2_with (fail)
      refine (dOfN D5 (Below.refl _ _) (by omega) rfl (by decide) (by decide) (by simp) (by simp [isS]; try decide)).mono ?_; rintro e w7 ⟨z3, rfl, hz3, D6, l6⟩
      have I6 := (I5.below (below_alloc _ _)).lb l6 hg0
      have J6 := (J5.below (below_alloc _ _)).lb l6 hg3
      have L6 := L5.next (below_alloc _ _) l6
      have j0 := J6.2.1 1 _ rfl
      have f0 := J6.2.2 1
      have hz := J6.1
      clear I5 J5 L5 D5 l6
      go_upto_region 17 with (fail)
      have D := D6.sets (g := g) (by omega) [.string z3] 1
      have L := L6.sets (g := g) (by omega) [.string z3] 1
      have I := I6.far (show w.heap.size ≠ g by omega) [.string z3] 1
      have J := J6.cset 1 (.string z3) (by show 1 < 7; omega)
      replace J : Bk _ g (Cr.enc ⟨v.id, z3, v.draught, v.ahead, v.beside, v.speed, v.fuel⟩) := J
      simp only [World.setCells] at D L I J
      clear D6 L6 I6 J6 j0 f0 hz
      generalize World.setCell w7 _ _ = W7 at *
      go_upto_region 17 with (fail)
      have g0 := J.2.1 0 _ rfl
      have g1 := J.2.1 1 _ rfl
      have g2 := J.2.1 2 _ rfl
      have g3 := J.2.1 3 _ rfl
      have g4 := J.2.1 4 _ rfl
      have g5 := J.2.1 5 _ rfl
      have g6 := J.2.1 6 _ rfl
      have m0 := I.2.1 0 _ rfl
      have m1 := I.2.1 1 _ rfl
      have m2 := I.2.1 2 _ rfl
      have m3 := I.2.1 3 _ rfl
      have m4 := I.2.1 4 _ rfl
      have m5 := I.2.1 5 _ rfl
      have m6 := I.2.1 6 _ rfl
      have f0 := I.2.2 0
      have f1 := I.2.2 1
      have f2 := I.2.2 2
      have f3 := I.2.2 3
      have f4 := I.2.2 4
      have f5 := I.2.2 5
      have f6 := I.2.2 6
      have hz := I.1
      have hzg := J.1
      go_wp2_with (fail)
      have I9 := I.putAll (Cr.enc ⟨v.id, z3, v.draught, v.ahead, v.beside, v.speed, v.fuel⟩) rfl
      have D9 := D.sets (g := w.heap.size) (by omega) (Cr.enc ⟨v.id, z3, v.draught, v.ahead, v.beside, v.speed, v.fuel⟩) 0
      have L9 := L.sets (g := w.heap.size) (Nat.le_refl _) (Cr.enc ⟨v.id, z3, v.draught, v.ahead, v.beside, v.speed, v.fuel⟩) 0
      simp only [Cr.enc, World.setCells, Nat.zero_add, Nat.reduceAdd] at I9 D9 L9
      have e0 := I9.2.1 0 _ rfl
      have e1 := I9.2.1 1 _ rfl
      have e2 := I9.2.1 2 _ rfl
      have e3 := I9.2.1 3 _ rfl
      have e4 := I9.2.1 4 _ rfl
      have e5 := I9.2.1 5 _ rfl
      have e6 := I9.2.1 6 _ rfl
      exact bodyPost_ret (v := (Value.agg #[.int .i64 (⟨v.id, z3, v.draught, v.ahead, v.beside, v.speed, v.fuel⟩ : Cr).id, .string (⟨v.id, z3, v.draught, v.ahead, v.beside, v.speed, v.fuel⟩ : Cr).name, .int .i64 (⟨v.id, z3, v.draught, v.ahead, v.beside, v.speed, v.fuel⟩ : Cr).draught, .int .i64 (⟨v.id, z3, v.draught, v.ahead, v.beside, v.speed, v.fuel⟩ : Cr).ahead, .int .i64 (⟨v.id, z3, v.draught, v.ahead, v.beside, v.speed, v.fuel⟩ : Cr).beside, .int .i64 (⟨v.id, z3, v.draught, v.ahead, v.beside, v.speed, v.fuel⟩ : Cr).speed, .int .i64 (⟨v.id, z3, v.draught, v.ahead, v.beside, v.speed, v.fuel⟩ : Cr).fuel])) (by simp [results, Tryd.results24, go_sem, e0, e1, e2, e3, e4, e5, e6]) rfl ⟨⟨v.id, z3, v.draught, v.ahead, v.beside, v.speed, v.fuel⟩, hz3, rfl, D9.mono (by omega), L9⟩
    · skip
      by_cases q2 : o = 2
      · subst q2
        go_wp2_with (fail)
        refine (dAmongN D5 (Below.refl _ _) (by omega) rfl (by decide) (by decide) (by simp) (by simp [isI])).mono ?_; rintro e w7 ⟨z3, rfl, -, D6, l6⟩
        have I6 := (I5.below (below_alloc _ _)).lb l6 hg0
        have J6 := (J5.below (below_alloc _ _)).lb l6 hg3
        have L6 := L5.next (below_alloc _ _) l6
        have j0 := J6.2.1 2 _ rfl
        have f0 := J6.2.2 2
        have hz := J6.1
        clear I5 J5 L5 D5 l6
        go_upto_region 17 with (fail)
        have D := D6.sets (g := g) (by omega) [.int .i64 z3] 2
        have L := L6.sets (g := g) (by omega) [.int .i64 z3] 2
        have I := I6.far (show w.heap.size ≠ g by omega) [.int .i64 z3] 2
        have J := J6.cset 2 (.int .i64 z3) (by show 2 < 7; omega)
        replace J : Bk _ g (Cr.enc ⟨v.id, v.name, z3, v.ahead, v.beside, v.speed, v.fuel⟩) := J
        simp only [World.setCells] at D L I J
        clear D6 L6 I6 J6 j0 f0 hz
        generalize World.setCell w7 _ _ = W7 at *
        go_upto_region 17 with (fail)
        have g0 := J.2.1 0 _ rfl
        have g1 := J.2.1 1 _ rfl
        have g2 := J.2.1 2 _ rfl
        have g3 := J.2.1 3 _ rfl
        have g4 := J.2.1 4 _ rfl
        have g5 := J.2.1 5 _ rfl
        have g6 := J.2.1 6 _ rfl
        have m0 := I.2.1 0 _ rfl
        have m1 := I.2.1 1 _ rfl
        have m2 := I.2.1 2 _ rfl
        have m3 := I.2.1 3 _ rfl
        have m4 := I.2.1 4 _ rfl
        have m5 := I.2.1 5 _ rfl
        have m6 := I.2.1 6 _ rfl
        have f0 := I.2.2 0
        have f1 := I.2.2 1
        have f2 := I.2.2 2
        have f3 := I.2.2 3
        have f4 := I.2.2 4
        have f5 := I.2.2 5
        have f6 := I.2.2 6
        have hz := I.1
        have hzg := J.1
        go_wp2_with (fail)
        have I9 := I.putAll (Cr.enc ⟨v.id, v.name, z3, v.ahead, v.beside, v.speed, v.fuel⟩) rfl
        have D9 := D.sets (g := w.heap.size) (by omega) (Cr.enc ⟨v.id, v.name, z3, v.ahead, v.beside, v.speed, v.fuel⟩) 0
        have L9 := L.sets (g := w.heap.size) (Nat.le_refl _) (Cr.enc ⟨v.id, v.name, z3, v.ahead, v.beside, v.speed, v.fuel⟩) 0
        simp only [Cr.enc, World.setCells, Nat.zero_add, Nat.reduceAdd] at I9 D9 L9
        have e0 := I9.2.1 0 _ rfl
        have e1 := I9.2.1 1 _ rfl
        have e2 := I9.2.1 2 _ rfl
        have e3 := I9.2.1 3 _ rfl
        have e4 := I9.2.1 4 _ rfl
        have e5 := I9.2.1 5 _ rfl
        have e6 := I9.2.1 6 _ rfl
        exact bodyPost_ret (v := (Value.agg #[.int .i64 (⟨v.id, v.name, z3, v.ahead, v.beside, v.speed, v.fuel⟩ : Cr).id, .string (⟨v.id, v.name, z3, v.ahead, v.beside, v.speed, v.fuel⟩ : Cr).name, .int .i64 (⟨v.id, v.name, z3, v.ahead, v.beside, v.speed, v.fuel⟩ : Cr).draught, .int .i64 (⟨v.id, v.name, z3, v.ahead, v.beside, v.speed, v.fuel⟩ : Cr).ahead, .int .i64 (⟨v.id, v.name, z3, v.ahead, v.beside, v.speed, v.fuel⟩ : Cr).beside, .int .i64 (⟨v.id, v.name, z3, v.ahead, v.beside, v.speed, v.fuel⟩ : Cr).speed, .int .i64 (⟨v.id, v.name, z3, v.ahead, v.beside, v.speed, v.fuel⟩ : Cr).fuel])) (by simp [results, Tryd.results24, go_sem, e0, e1, e2, e3, e4, e5, e6]) rfl ⟨⟨v.id, v.name, z3, v.ahead, v.beside, v.speed, v.fuel⟩, hv, rfl, D9.mono (by omega), L9⟩
      · skip
        by_cases q3 : o = 3
        · subst q3
          go_wp2_with (fail)
          refine (dAmongN D5 (Below.refl _ _) (by omega) rfl (by decide) (by decide) (by simp) (by simp [isI])).mono ?_; rintro e w7 ⟨z3, rfl, -, D6, l6⟩
          have I6 := (I5.below (below_alloc _ _)).lb l6 hg0
          have J6 := (J5.below (below_alloc _ _)).lb l6 hg3
          have L6 := L5.next (below_alloc _ _) l6
          have j0 := J6.2.1 3 _ rfl
          have f0 := J6.2.2 3
          have hz := J6.1
          clear I5 J5 L5 D5 l6
          go_upto_region 17 with (fail)
          have D := D6.sets (g := g) (by omega) [.int .i64 z3] 3
          have L := L6.sets (g := g) (by omega) [.int .i64 z3] 3
          have I := I6.far (show w.heap.size ≠ g by omega) [.int .i64 z3] 3
          have J := J6.cset 3 (.int .i64 z3) (by show 3 < 7; omega)
          replace J : Bk _ g (Cr.enc ⟨v.id, v.name, v.draught, z3, v.beside, v.speed, v.fuel⟩) := J
          simp only [World.setCells] at D L I J
          clear D6 L6 I6 J6 j0 f0 hz
          generalize World.setCell w7 _ _ = W7 at *
          go_upto_region 17 with (fail)
          have g0 := J.2.1 0 _ rfl
          have g1 := J.2.1 1 _ rfl
          have g2 := J.2.1 2 _ rfl
          have g3 := J.2.1 3 _ rfl
          have g4 := J.2.1 4 _ rfl
          have g5 := J.2.1 5 _ rfl
          have g6 := J.2.1 6 _ rfl
          have m0 := I.2.1 0 _ rfl
          have m1 := I.2.1 1 _ rfl
          have m2 := I.2.1 2 _ rfl
          have m3 := I.2.1 3 _ rfl
          have m4 := I.2.1 4 _ rfl
          have m5 := I.2.1 5 _ rfl
          have m6 := I.2.1 6 _ rfl
          have f0 := I.2.2 0
          have f1 := I.2.2 1
          have f2 := I.2.2 2
          have f3 := I.2.2 3
          have f4 := I.2.2 4
          have f5 := I.2.2 5
          have f6 := I.2.2 6
          have hz := I.1
          have hzg := J.1
          go_wp2_with (fail)
          have I9 := I.putAll (Cr.enc ⟨v.id, v.name, v.draught, z3, v.beside, v.speed, v.fuel⟩) rfl
          have D9 := D.sets (g := w.heap.size) (by omega) (Cr.enc ⟨v.id, v.name, v.draught, z3, v.beside, v.speed, v.fuel⟩) 0
          have L9 := L.sets (g := w.heap.size) (Nat.le_refl _) (Cr.enc ⟨v.id, v.name, v.draught, z3, v.beside, v.speed, v.fuel⟩) 0
          simp only [Cr.enc, World.setCells, Nat.zero_add, Nat.reduceAdd] at I9 D9 L9
          have e0 := I9.2.1 0 _ rfl
          have e1 := I9.2.1 1 _ rfl
          have e2 := I9.2.1 2 _ rfl
          have e3 := I9.2.1 3 _ rfl
          have e4 := I9.2.1 4 _ rfl
          have e5 := I9.2.1 5 _ rfl
          have e6 := I9.2.1 6 _ rfl
          exact bodyPost_ret (v := (Value.agg #[.int .i64 (⟨v.id, v.name, v.draught, z3, v.beside, v.speed, v.fuel⟩ : Cr).id, .string (⟨v.id, v.name, v.draught, z3, v.beside, v.speed, v.fuel⟩ : Cr).name, .int .i64 (⟨v.id, v.name, v.draught, z3, v.beside, v.speed, v.fuel⟩ : Cr).draught, .int .i64 (⟨v.id, v.name, v.draught, z3, v.beside, v.speed, v.fuel⟩ : Cr).ahead, .int .i64 (⟨v.id, v.name, v.draught, z3, v.beside, v.speed, v.fuel⟩ : Cr).beside, .int .i64 (⟨v.id, v.name, v.draught, z3, v.beside, v.speed, v.fuel⟩ : Cr).speed, .int .i64 (⟨v.id, v.name, v.draught, z3, v.beside, v.speed, v.fuel⟩ : Cr).fuel])) (by simp [results, Tryd.results24, go_sem, e0, e1, e2, e3, e4, e5, e6]) rfl ⟨⟨v.id, v.name, v.draught, z3, v.beside, v.speed, v.fuel⟩, hv, rfl, D9.mono (by omega), L9⟩
        · skip
          by_cases q4 : o = 4
          · subst q4
            go_wp2_with (fail)
            refine (dAmongN D5 (Below.refl _ _) (by omega) rfl (by decide) (by decide) (by simp) (by simp [isI])).mono ?_; rintro e w7 ⟨z3, rfl, -, D6, l6⟩
            have I6 := (I5.below (below_alloc _ _)).lb l6 hg0
            have J6 := (J5.below (below_alloc _ _)).lb l6 hg3
            have L6 := L5.next (below_alloc _ _) l6
            have j0 := J6.2.1 4 _ rfl
            have f0 := J6.2.2 4
            have hz := J6.1
            clear I5 J5 L5 D5 l6
            go_upto_region 17 with (fail)
            have D := D6.sets (g := g) (by omega) [.int .i64 z3] 4
            have L := L6.sets (g := g) (by omega) [.int .i64 z3] 4
            have I := I6.far (show w.heap.size ≠ g by omega) [.int .i64 z3] 4
            have J := J6.cset 4 (.int .i64 z3) (by show 4 < 7; omega)
            replace J : Bk _ g (Cr.enc ⟨v.id, v.name, v.draught, v.ahead, z3, v.speed, v.fuel⟩) := J
            simp only [World.setCells] at D L I J
            clear D6 L6 I6 J6 j0 f0 hz
            generalize World.setCell w7 _ _ = W7 at *
            go_upto_region 17 with (fail)
            have g0 := J.2.1 0 _ rfl
            have g1 := J.2.1 1 _ rfl
            have g2 := J.2.1 2 _ rfl
            have g3 := J.2.1 3 _ rfl
            have g4 := J.2.1 4 _ rfl
            have g5 := J.2.1 5 _ rfl
            have g6 := J.2.1 6 _ rfl
            have m0 := I.2.1 0 _ rfl
            have m1 := I.2.1 1 _ rfl
            have m2 := I.2.1 2 _ rfl
            have m3 := I.2.1 3 _ rfl
            have m4 := I.2.1 4 _ rfl
            have m5 := I.2.1 5 _ rfl
            have m6 := I.2.1 6 _ rfl
            have f0 := I.2.2 0
            have f1 := I.2.2 1
            have f2 := I.2.2 2
            have f3 := I.2.2 3
            have f4 := I.2.2 4
            have f5 := I.2.2 5
            have f6 := I.2.2 6
            have hz := I.1
            have hzg := J.1
            go_wp2_with (fail)
            have I9 := I.putAll (Cr.enc ⟨v.id, v.name, v.draught, v.ahead, z3, v.speed, v.fuel⟩) rfl
            have D9 := D.sets (g := w.heap.size) (by omega) (Cr.enc ⟨v.id, v.name, v.draught, v.ahead, z3, v.speed, v.fuel⟩) 0
            have L9 := L.sets (g := w.heap.size) (Nat.le_refl _) (Cr.enc ⟨v.id, v.name, v.draught, v.ahead, z3, v.speed, v.fuel⟩) 0
            simp only [Cr.enc, World.setCells, Nat.zero_add, Nat.reduceAdd] at I9 D9 L9
            have e0 := I9.2.1 0 _ rfl
            have e1 := I9.2.1 1 _ rfl
            have e2 := I9.2.1 2 _ rfl
            have e3 := I9.2.1 3 _ rfl
            have e4 := I9.2.1 4 _ rfl
            have e5 := I9.2.1 5 _ rfl
            have e6 := I9.2.1 6 _ rfl
            exact bodyPost_ret (v := (Value.agg #[.int .i64 (⟨v.id, v.name, v.draught, v.ahead, z3, v.speed, v.fuel⟩ : Cr).id, .string (⟨v.id, v.name, v.draught, v.ahead, z3, v.speed, v.fuel⟩ : Cr).name, .int .i64 (⟨v.id, v.name, v.draught, v.ahead, z3, v.speed, v.fuel⟩ : Cr).draught, .int .i64 (⟨v.id, v.name, v.draught, v.ahead, z3, v.speed, v.fuel⟩ : Cr).ahead, .int .i64 (⟨v.id, v.name, v.draught, v.ahead, z3, v.speed, v.fuel⟩ : Cr).beside, .int .i64 (⟨v.id, v.name, v.draught, v.ahead, z3, v.speed, v.fuel⟩ : Cr).speed, .int .i64 (⟨v.id, v.name, v.draught, v.ahead, z3, v.speed, v.fuel⟩ : Cr).fuel])) (by simp [results, Tryd.results24, go_sem, e0, e1, e2, e3, e4, e5, e6]) rfl ⟨⟨v.id, v.name, v.draught, v.ahead, z3, v.speed, v.fuel⟩, hv, rfl, D9.mono (by omega), L9⟩
          · skip
            by_cases q5 : o = 5
            · subst q5
              go_wp2_with (fail)
              refine (dAmongN D5 (Below.refl _ _) (by omega) rfl (by decide) (by decide) (by simp) (by simp [isI])).mono ?_; rintro e w7 ⟨z3, rfl, -, D6, l6⟩
              have I6 := (I5.below (below_alloc _ _)).lb l6 hg0
              have J6 := (J5.below (below_alloc _ _)).lb l6 hg3
              have L6 := L5.next (below_alloc _ _) l6
              have j0 := J6.2.1 5 _ rfl
              have f0 := J6.2.2 5
              have hz := J6.1
              clear I5 J5 L5 D5 l6
              go_upto_region 17 with (fail)
              have D := D6.sets (g := g) (by omega) [.int .i64 z3] 5
              have L := L6.sets (g := g) (by omega) [.int .i64 z3] 5
              have I := I6.far (show w.heap.size ≠ g by omega) [.int .i64 z3] 5
              have J := J6.cset 5 (.int .i64 z3) (by show 5 < 7; omega)
              replace J : Bk _ g (Cr.enc ⟨v.id, v.name, v.draught, v.ahead, v.beside, z3, v.fuel⟩) := J
              simp only [World.setCells] at D L I J
              clear D6 L6 I6 J6 j0 f0 hz
              generalize World.setCell w7 _ _ = W7 at *
              go_upto_region 17 with (fail)
              have g0 := J.2.1 0 _ rfl
              have g1 := J.2.1 1 _ rfl
              have g2 := J.2.1 2 _ rfl
              have g3 := J.2.1 3 _ rfl
              have g4 := J.2.1 4 _ rfl
              have g5 := J.2.1 5 _ rfl
              have g6 := J.2.1 6 _ rfl
              have m0 := I.2.1 0 _ rfl
              have m1 := I.2.1 1 _ rfl
              have m2 := I.2.1 2 _ rfl
              have m3 := I.2.1 3 _ rfl
              have m4 := I.2.1 4 _ rfl
              have m5 := I.2.1 5 _ rfl
              have m6 := I.2.1 6 _ rfl
              have f0 := I.2.2 0
              have f1 := I.2.2 1
              have f2 := I.2.2 2
              have f3 := I.2.2 3
              have f4 := I.2.2 4
              have f5 := I.2.2 5
              have f6 := I.2.2 6
              have hz := I.1
              have hzg := J.1
              go_wp2_with (fail)
              have I9 := I.putAll (Cr.enc ⟨v.id, v.name, v.draught, v.ahead, v.beside, z3, v.fuel⟩) rfl
              have D9 := D.sets (g := w.heap.size) (by omega) (Cr.enc ⟨v.id, v.name, v.draught, v.ahead, v.beside, z3, v.fuel⟩) 0
              have L9 := L.sets (g := w.heap.size) (Nat.le_refl _) (Cr.enc ⟨v.id, v.name, v.draught, v.ahead, v.beside, z3, v.fuel⟩) 0
              simp only [Cr.enc, World.setCells, Nat.zero_add, Nat.reduceAdd] at I9 D9 L9
              have e0 := I9.2.1 0 _ rfl
              have e1 := I9.2.1 1 _ rfl
              have e2 := I9.2.1 2 _ rfl
              have e3 := I9.2.1 3 _ rfl
              have e4 := I9.2.1 4 _ rfl
              have e5 := I9.2.1 5 _ rfl
              have e6 := I9.2.1 6 _ rfl
              exact bodyPost_ret (v := (Value.agg #[.int .i64 (⟨v.id, v.name, v.draught, v.ahead, v.beside, z3, v.fuel⟩ : Cr).id, .string (⟨v.id, v.name, v.draught, v.ahead, v.beside, z3, v.fuel⟩ : Cr).name, .int .i64 (⟨v.id, v.name, v.draught, v.ahead, v.beside, z3, v.fuel⟩ : Cr).draught, .int .i64 (⟨v.id, v.name, v.draught, v.ahead, v.beside, z3, v.fuel⟩ : Cr).ahead, .int .i64 (⟨v.id, v.name, v.draught, v.ahead, v.beside, z3, v.fuel⟩ : Cr).beside, .int .i64 (⟨v.id, v.name, v.draught, v.ahead, v.beside, z3, v.fuel⟩ : Cr).speed, .int .i64 (⟨v.id, v.name, v.draught, v.ahead, v.beside, z3, v.fuel⟩ : Cr).fuel])) (by simp [results, Tryd.results24, go_sem, e0, e1, e2, e3, e4, e5, e6]) rfl ⟨⟨v.id, v.name, v.draught, v.ahead, v.beside, z3, v.fuel⟩, hv, rfl, D9.mono (by omega), L9⟩
            · skip
              by_cases q6 : o = 6
              · subst q6
                go_wp2_with (fail)
                refine (dAmongN D5 (Below.refl _ _) (by omega) rfl (by decide) (by decide) (by simp) (by simp [isI])).mono ?_; rintro e w7 ⟨z3, rfl, -, D6, l6⟩
                have I6 := (I5.below (below_alloc _ _)).lb l6 hg0
                have J6 := (J5.below (below_alloc _ _)).lb l6 hg3
                have L6 := L5.next (below_alloc _ _) l6
                have j0 := J6.2.1 6 _ rfl
                have f0 := J6.2.2 6
                have hz := J6.1
                clear I5 J5 L5 D5 l6
                go_upto_region 17 with (fail)
                have D := D6.sets (g := g) (by omega) [.int .i64 z3] 6
                have L := L6.sets (g := g) (by omega) [.int .i64 z3] 6
                have I := I6.far (show w.heap.size ≠ g by omega) [.int .i64 z3] 6
                have J := J6.cset 6 (.int .i64 z3) (by show 6 < 7; omega)
                replace J : Bk _ g (Cr.enc ⟨v.id, v.name, v.draught, v.ahead, v.beside, v.speed, z3⟩) := J
                simp only [World.setCells] at D L I J
                clear D6 L6 I6 J6 j0 f0 hz
                generalize World.setCell w7 _ _ = W7 at *
                go_upto_region 17 with (fail)
                have g0 := J.2.1 0 _ rfl
                have g1 := J.2.1 1 _ rfl
                have g2 := J.2.1 2 _ rfl
                have g3 := J.2.1 3 _ rfl
                have g4 := J.2.1 4 _ rfl
                have g5 := J.2.1 5 _ rfl
                have g6 := J.2.1 6 _ rfl
                have m0 := I.2.1 0 _ rfl
                have m1 := I.2.1 1 _ rfl
                have m2 := I.2.1 2 _ rfl
                have m3 := I.2.1 3 _ rfl
                have m4 := I.2.1 4 _ rfl
                have m5 := I.2.1 5 _ rfl
                have m6 := I.2.1 6 _ rfl
                have f0 := I.2.2 0
                have f1 := I.2.2 1
                have f2 := I.2.2 2
                have f3 := I.2.2 3
                have f4 := I.2.2 4
                have f5 := I.2.2 5
                have f6 := I.2.2 6
                have hz := I.1
                have hzg := J.1
                go_wp2_with (fail)
                have I9 := I.putAll (Cr.enc ⟨v.id, v.name, v.draught, v.ahead, v.beside, v.speed, z3⟩) rfl
                have D9 := D.sets (g := w.heap.size) (by omega) (Cr.enc ⟨v.id, v.name, v.draught, v.ahead, v.beside, v.speed, z3⟩) 0
                have L9 := L.sets (g := w.heap.size) (Nat.le_refl _) (Cr.enc ⟨v.id, v.name, v.draught, v.ahead, v.beside, v.speed, z3⟩) 0
                simp only [Cr.enc, World.setCells, Nat.zero_add, Nat.reduceAdd] at I9 D9 L9
                have e0 := I9.2.1 0 _ rfl
                have e1 := I9.2.1 1 _ rfl
                have e2 := I9.2.1 2 _ rfl
                have e3 := I9.2.1 3 _ rfl
                have e4 := I9.2.1 4 _ rfl
                have e5 := I9.2.1 5 _ rfl
                have e6 := I9.2.1 6 _ rfl
                exact bodyPost_ret (v := (Value.agg #[.int .i64 (⟨v.id, v.name, v.draught, v.ahead, v.beside, v.speed, z3⟩ : Cr).id, .string (⟨v.id, v.name, v.draught, v.ahead, v.beside, v.speed, z3⟩ : Cr).name, .int .i64 (⟨v.id, v.name, v.draught, v.ahead, v.beside, v.speed, z3⟩ : Cr).draught, .int .i64 (⟨v.id, v.name, v.draught, v.ahead, v.beside, v.speed, z3⟩ : Cr).ahead, .int .i64 (⟨v.id, v.name, v.draught, v.ahead, v.beside, v.speed, z3⟩ : Cr).beside, .int .i64 (⟨v.id, v.name, v.draught, v.ahead, v.beside, v.speed, z3⟩ : Cr).speed, .int .i64 (⟨v.id, v.name, v.draught, v.ahead, v.beside, v.speed, z3⟩ : Cr).fuel])) (by simp [results, Tryd.results24, go_sem, e0, e1, e2, e3, e4, e5, e6]) rfl ⟨⟨v.id, v.name, v.draught, v.ahead, v.beside, v.speed, z3⟩, hv, rfl, D9.mono (by omega), L9⟩
              · skip
                have D := D5
                have L := L5
                have I := I5
                have J := J5
                clear D5 L5 I5 J5
                go_upto_region 17 with (fail)
                have g0 := J.2.1 0 _ rfl
                have g1 := J.2.1 1 _ rfl
                have g2 := J.2.1 2 _ rfl
                have g3 := J.2.1 3 _ rfl
                have g4 := J.2.1 4 _ rfl
                have g5 := J.2.1 5 _ rfl
                have g6 := J.2.1 6 _ rfl
                have m0 := I.2.1 0 _ rfl
                have m1 := I.2.1 1 _ rfl
                have m2 := I.2.1 2 _ rfl
                have m3 := I.2.1 3 _ rfl
                have m4 := I.2.1 4 _ rfl
                have m5 := I.2.1 5 _ rfl
                have m6 := I.2.1 6 _ rfl
                have f0 := I.2.2 0
                have f1 := I.2.2 1
                have f2 := I.2.2 2
                have f3 := I.2.2 3
                have f4 := I.2.2 4
                have f5 := I.2.2 5
                have f6 := I.2.2 6
                have hz := I.1
                have hzg := J.1
                go_wp2_with (fail)
                have I9 := I.putAll (Cr.enc v) rfl
                have D9 := D.sets (g := w.heap.size) (by omega) (Cr.enc v) 0
                have L9 := L.sets (g := w.heap.size) (Nat.le_refl _) (Cr.enc v) 0
                simp only [Cr.enc, World.setCells, Nat.zero_add, Nat.reduceAdd] at I9 D9 L9
                have e0 := I9.2.1 0 _ rfl
                have e1 := I9.2.1 1 _ rfl
                have e2 := I9.2.1 2 _ rfl
                have e3 := I9.2.1 3 _ rfl
                have e4 := I9.2.1 4 _ rfl
                have e5 := I9.2.1 5 _ rfl
                have e6 := I9.2.1 6 _ rfl
                exact bodyPost_ret (v := (Value.agg #[.int .i64 (v : Cr).id, .string (v : Cr).name, .int .i64 (v : Cr).draught, .int .i64 (v : Cr).ahead, .int .i64 (v : Cr).beside, .int .i64 (v : Cr).speed, .int .i64 (v : Cr).fuel])) (by simp [results, Tryd.results24, go_sem, e0, e1, e2, e3, e4, e5, e6]) rfl ⟨v, hv, rfl, D9.mono (by omega), L9⟩
end Go.Proofs.YtanmkjjclpplkaaDoor
