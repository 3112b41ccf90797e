/- Draws of a sounding and of soundings; they change the cursor alone. -/
import Derived.Test.YtllionelhbjadaaDoorDrL
import Derived.Test.YtllionelhbjadaaDoorDr5
import Derived.Test.YtllionelhbjadaaDoorS8a
set_option linter.unusedVariables false
set_option linter.unusedSimpArgs false
namespace Go.Proofs.YtllionelhbjadaaDoor
open Go.RowKit
set_option maxHeartbeats 4000000
set_option maxRecDepth 100000
theorem dSounding {p B : Nat} {q : Cd} {m : Nat} {w0 w5 w : World} (h : Dr p B q m w0 w5) (hg : Below w5.heap.size w5 w) (hm : m ≤ 800000000) (id : Int) :
    Calls Tryd.prog 37 #[.pointer (some ⟨p, 0, none⟩), .int .i64 id] w fun e w' => ∃ s : Sd, e = .returned (.agg #[.int .i64 s.id, .int .i64 s.x, .int .i64 s.y, .int .i64 s.depth, .int .i64 s.doubt]) ∧ Dr p B q (m + 40) w0 w' ∧ LB p w.heap.size w w' := by
  have h := h.grown hg
  have hp := h.lt
  clear hg
  go_enter Tryd.func37, Tryd.ntmps37
  go_upto_region 1 with (fail)
  generalize hW : World.alloc w _ = W1
  have I1 : IB W1 w.heap.size 5 := by rw [← hW]; exact IB.new _ _ (by decide) (by simp [isI])
  have b1 : Below w.heap.size w W1 := by rw [← hW]; exact below_alloc _ _
  clear hW
  go_wp2_with (fail)
  refine (dSpot h b1 (by omega)).mono ?_; rintro e w2 ⟨sx, sy, rfl, D2, l2⟩
  have I2 := I1.lb l2 (by omega)
  have L2 := (LB.of (p := p) b1).next (Below.refl _ _) l2
  go_wp2_with (fail)
  refine (dAmongN D2 (Below.refl _ _) (by omega) rfl (by decide) (by decide) (by simp) (by simp [isI])).mono ?_; rintro e w3 ⟨z1, rfl, -, D3, l3⟩
  have I3 := (I2.below (below_alloc _ _)).lb l3 (by omega)
  have L3 := L2.next (below_alloc _ _) l3
  go_wp2_with (fail)
  refine (dAmongN D3 (Below.refl _ _) (by omega) rfl (by decide) (by decide) (by simp) (by simp [isI])).mono ?_; rintro e w4 ⟨z2, rfl, -, D4, l4⟩
  have I4 := (I3.below (below_alloc _ _)).lb l4 (by omega)
  have L4 := L3.next (below_alloc _ _) l4
  clear I1 b1 D2 l2 I2 L2 l3 D3 I3 L3 l4
  go_upto_region 2 with (fail)
  have h3 := I4.1
  have hg3 : w4.heap.size ≠ p := by omega
  have hg0 : w.heap.size ≠ p := by omega
  generalize hW : World.alloc w4 _ = W5
  have J5 : IB W5 w4.heap.size 5 := by rw [← hW]; exact IB.new _ _ (by simp) (by simp [isI])
  have b5 : Below w4.heap.size w4 W5 := by rw [← hW]; exact below_alloc _ _
  clear hW
  have I5 := I4.below b5
  generalize hgg : w4.heap.size = g at *
  have D5 := D4.grown (hgg ▸ b5)
  have L5 := L4.grown (hgg ▸ b5)
  clear D4 I4 L4 b5
  go_wp2_with (fail)
  refine (dPick D5 (Below.refl _ _) (by omega) _ (by omega)).mono ?_; rintro e w6 ⟨o, rfl, ho, D6, l6⟩
  have I6 := I5.lb l6 hg0
  have J6 := J5.lb l6 hg3
  have L6 := L5.next (Below.refl _ _) l6
  clear D5 I5 J5 L5 l6
  have D5 := D6
  have I5 := I6
  have J5 := J6
  have L5 := L6
  clear D6 I6 J6 L6
  by_cases q0 : o = 0
  · subst q0
    go_wp2_with (fail)
    refine (dAmongN D5 (Below.refl _ _) (by omega) rfl (by decide) (by decide) (by simp) (by simp [isI])).mono ?_; rintro e w7 ⟨z3, rfl, -, D6, l6⟩
    have I6 := (I5.below (below_alloc _ _)).lb l6 hg0
    have J6 := (J5.below (below_alloc _ _)).lb l6 hg3
    have L6 := L5.next (below_alloc _ _) l6
    obtain ⟨v0, m0⟩ := J6.2.1 3 (by omega)
    have f0 := J6.2.2 3
    have hz := J6.1
    clear I5 J5 L5 D5 l6
    go_upto_region 7 with (fail)
    have D := D6.sets (g := g) (by omega) [.int .i64 z3] 3
    have L := L6.sets (g := g) (by omega) [.int .i64 z3] 3
    have I := I6.far (show w.heap.size ≠ g by omega) [.int .i64 z3] 3
    have J := J6.put [.int .i64 z3] 3 (by simp) (by simp [isI])
    simp only [World.setCells] at D L I J
    clear D6 L6 I6 J6 m0 f0 hz
    generalize World.setCell w7 _ _ = W7 at *
    go_upto_region 7 with (fail)
    obtain ⟨x0, c0⟩ := J.2.1 0 (by omega)
    obtain ⟨x1, c1⟩ := J.2.1 1 (by omega)
    obtain ⟨x2, c2⟩ := J.2.1 2 (by omega)
    obtain ⟨x3, c3⟩ := J.2.1 3 (by omega)
    obtain ⟨x4, c4⟩ := J.2.1 4 (by omega)
    obtain ⟨v0, m0⟩ := I.2.1 0 (by omega)
    obtain ⟨v1, m1⟩ := I.2.1 1 (by omega)
    obtain ⟨v2, m2⟩ := I.2.1 2 (by omega)
    obtain ⟨v3, m3⟩ := I.2.1 3 (by omega)
    obtain ⟨v4, m4⟩ := I.2.1 4 (by omega)
    have f0 := I.2.2 0
    have f1 := I.2.2 1
    have f2 := I.2.2 2
    have f3 := I.2.2 3
    have f4 := I.2.2 4
    have hz := I.1
    have hzg := J.1
    go_wp2_with (fail)
    have I9 := I.put [.int .i64 x0, .int .i64 x1, .int .i64 x2, .int .i64 x3, .int .i64 x4] 0 (by simp) (by simp [isI])
    have D9 := D.sets (g := w.heap.size) (by omega) [.int .i64 x0, .int .i64 x1, .int .i64 x2, .int .i64 x3, .int .i64 x4] 0
    have L9 := L.sets (g := w.heap.size) (Nat.le_refl _) [.int .i64 x0, .int .i64 x1, .int .i64 x2, .int .i64 x3, .int .i64 x4] 0
    simp only [World.setCells, Nat.zero_add, Nat.reduceAdd] at I9 D9 L9
    obtain ⟨y0, e0⟩ := I9.2.1 0 (by omega)
    obtain ⟨y1, e1⟩ := I9.2.1 1 (by omega)
    obtain ⟨y2, e2⟩ := I9.2.1 2 (by omega)
    obtain ⟨y3, e3⟩ := I9.2.1 3 (by omega)
    obtain ⟨y4, e4⟩ := I9.2.1 4 (by omega)
    exact bodyPost_ret (v := .agg #[.int .i64 y0, .int .i64 y1, .int .i64 y2, .int .i64 y3, .int .i64 y4]) (by simp [results, Tryd.results37, go_sem, e0, e1, e2, e3, e4]) rfl ⟨⟨y0, y1, y2, y3, y4⟩, rfl, D9.mono (by omega), L9⟩
  · by_cases q1 : o = 1
    · subst q1
      go_wp2_with (fail)
      refine (dAmongN D5 (Below.refl _ _) (by omega) rfl (by decide) (by decide) (by simp) (by simp [isI])).mono ?_; rintro e w7 ⟨z3, rfl, -, D6, l6⟩
      have I6 := (I5.below (below_alloc _ _)).lb l6 hg0
      have J6 := (J5.below (below_alloc _ _)).lb l6 hg3
      have L6 := L5.next (below_alloc _ _) l6
      obtain ⟨v0, m0⟩ := J6.2.1 4 (by omega)
      have f0 := J6.2.2 4
      have hz := J6.1
      clear I5 J5 L5 D5 l6
      go_upto_region 7 with (fail)
      have D := D6.sets (g := g) (by omega) [.int .i64 z3] 4
      have L := L6.sets (g := g) (by omega) [.int .i64 z3] 4
      have I := I6.far (show w.heap.size ≠ g by omega) [.int .i64 z3] 4
      have J := J6.put [.int .i64 z3] 4 (by simp) (by simp [isI])
      simp only [World.setCells] at D L I J
      clear D6 L6 I6 J6 m0 f0 hz
      generalize World.setCell w7 _ _ = W7 at *
      go_upto_region 7 with (fail)
      obtain ⟨x0, c0⟩ := J.2.1 0 (by omega)
      obtain ⟨x1, c1⟩ := J.2.1 1 (by omega)
      obtain ⟨x2, c2⟩ := J.2.1 2 (by omega)
      obtain ⟨x3, c3⟩ := J.2.1 3 (by omega)
      obtain ⟨x4, c4⟩ := J.2.1 4 (by omega)
      obtain ⟨v0, m0⟩ := I.2.1 0 (by omega)
      obtain ⟨v1, m1⟩ := I.2.1 1 (by omega)
      obtain ⟨v2, m2⟩ := I.2.1 2 (by omega)
      obtain ⟨v3, m3⟩ := I.2.1 3 (by omega)
      obtain ⟨v4, m4⟩ := I.2.1 4 (by omega)
      have f0 := I.2.2 0
      have f1 := I.2.2 1
      have f2 := I.2.2 2
      have f3 := I.2.2 3
      have f4 := I.2.2 4
      have hz := I.1
      have hzg := J.1
      go_wp2_with (fail)
      have I9 := I.put [.int .i64 x0, .int .i64 x1, .int .i64 x2, .int .i64 x3, .int .i64 x4] 0 (by simp) (by simp [isI])
      have D9 := D.sets (g := w.heap.size) (by omega) [.int .i64 x0, .int .i64 x1, .int .i64 x2, .int .i64 x3, .int .i64 x4] 0
      have L9 := L.sets (g := w.heap.size) (Nat.le_refl _) [.int .i64 x0, .int .i64 x1, .int .i64 x2, .int .i64 x3, .int .i64 x4] 0
      simp only [World.setCells, Nat.zero_add, Nat.reduceAdd] at I9 D9 L9
      obtain ⟨y0, e0⟩ := I9.2.1 0 (by omega)
      obtain ⟨y1, e1⟩ := I9.2.1 1 (by omega)
      obtain ⟨y2, e2⟩ := I9.2.1 2 (by omega)
      obtain ⟨y3, e3⟩ := I9.2.1 3 (by omega)
      obtain ⟨y4, e4⟩ := I9.2.1 4 (by omega)
      exact bodyPost_ret (v := .agg #[.int .i64 y0, .int .i64 y1, .int .i64 y2, .int .i64 y3, .int .i64 y4]) (by simp [results, Tryd.results37, go_sem, e0, e1, e2, e3, e4]) rfl ⟨⟨y0, y1, y2, y3, y4⟩, rfl, D9.mono (by omega), L9⟩
    · have D := D5
      have L := L5
      have I := I5
      have J := J5
      clear D5 L5 I5 J5
      go_upto_region 7 with (fail)
      obtain ⟨x0, c0⟩ := J.2.1 0 (by omega)
      obtain ⟨x1, c1⟩ := J.2.1 1 (by omega)
      obtain ⟨x2, c2⟩ := J.2.1 2 (by omega)
      obtain ⟨x3, c3⟩ := J.2.1 3 (by omega)
      obtain ⟨x4, c4⟩ := J.2.1 4 (by omega)
      obtain ⟨v0, m0⟩ := I.2.1 0 (by omega)
      obtain ⟨v1, m1⟩ := I.2.1 1 (by omega)
      obtain ⟨v2, m2⟩ := I.2.1 2 (by omega)
      obtain ⟨v3, m3⟩ := I.2.1 3 (by omega)
      obtain ⟨v4, m4⟩ := I.2.1 4 (by omega)
      have f0 := I.2.2 0
      have f1 := I.2.2 1
      have f2 := I.2.2 2
      have f3 := I.2.2 3
      have f4 := I.2.2 4
      have hz := I.1
      have hzg := J.1
      go_wp2_with (fail)
      have I9 := I.put [.int .i64 x0, .int .i64 x1, .int .i64 x2, .int .i64 x3, .int .i64 x4] 0 (by simp) (by simp [isI])
      have D9 := D.sets (g := w.heap.size) (by omega) [.int .i64 x0, .int .i64 x1, .int .i64 x2, .int .i64 x3, .int .i64 x4] 0
      have L9 := L.sets (g := w.heap.size) (Nat.le_refl _) [.int .i64 x0, .int .i64 x1, .int .i64 x2, .int .i64 x3, .int .i64 x4] 0
      simp only [World.setCells, Nat.zero_add, Nat.reduceAdd] at I9 D9 L9
      obtain ⟨y0, e0⟩ := I9.2.1 0 (by omega)
      obtain ⟨y1, e1⟩ := I9.2.1 1 (by omega)
      obtain ⟨y2, e2⟩ := I9.2.1 2 (by omega)
      obtain ⟨y3, e3⟩ := I9.2.1 3 (by omega)
      obtain ⟨y4, e4⟩ := I9.2.1 4 (by omega)
      exact bodyPost_ret (v := .agg #[.int .i64 y0, .int .i64 y1, .int .i64 y2, .int .i64 y3, .int .i64 y4]) (by simp [results, Tryd.results37, go_sem, e0, e1, e2, e3, e4]) rfl ⟨⟨y0, y1, y2, y3, y4⟩, rfl, D9.mono (by omega), L9⟩
end Go.Proofs.YtllionelhbjadaaDoor
