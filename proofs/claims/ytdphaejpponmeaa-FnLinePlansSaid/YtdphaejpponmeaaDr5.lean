/- The draw of a box: four ints; it changes the cursor alone. -/
import Derived.Test.YtdphaejpponmeaaDr2
set_option linter.unusedVariables false
set_option linter.unusedSimpArgs false
namespace Go.Proofs.Ytdphaejpponmeaa
open Go.RowKit
set_option maxHeartbeats 1000000
set_option maxRecDepth 100000
theorem dAmongD {p B : Nat} {q : Cd} {m : Nat} {w0 w5 W : World} (h : Dr p B q m w0 w5) (hg : Below w5.heap.size w5 W) (hm : m ≤ 900000000) {cs : Array Value} {t g n c : Nat} (hgW : g = W.heap.size) (h1 : 1 ≤ n) (hn : n ≤ 1000) (hcs : n ≤ cs.size) (hall : cs.all isI = true) :
    Calls Try.prog 86 #[.pointer (some ⟨p, 0, none⟩), .slice (some ⟨g, 0, none⟩) n c] (W.alloc (.cells cs t)).drew (drI p B q (m + 2) w0 (W.alloc (.cells cs t)).drew (fun _ => True)) :=
  dAmong h (bth hg (below_alloc _ _)).drew hm g 0 n c (by have := h.lt; have := hg.size; omega) (by subst hgW; show W.heap.size < (W.alloc (.cells cs t)).heap.size; simp) (fun i hi => ints_app (W := W) (t := t) hgW hcs hall i hi) h1 hn
theorem dBox {p B : Nat} {q : Cd} {m : Nat} {w0 w5 w : World} (h : Dr p B q m w0 w5) (hg : Below w5.heap.size w5 w) (hm : m ≤ 800000000) :
    Calls Try.prog 85 #[.pointer (some ⟨p, 0, none⟩)] w fun e w' => ∃ a b c d : Int, e = .returned (.agg #[.int .i64 a, .int .i64 b, .int .i64 c, .int .i64 d]) ∧ Dr p B q (m + 30) w0 w' ∧ LB p w.heap.size w w' := by
  have h := h.grown hg
  have hp := h.lt
  clear hg
  go_enter Try.func85, Try.ntmps85
  go_upto_region 1 with (fail)
  generalize hW : World.alloc w _ = W1
  have I1 : IB W1 w.heap.size 4 := by rw [← hW]; exact IB.new _ _ (by decide) (by simp [isI])
  have b1 : Below w.heap.size w W1 := by rw [← hW]; exact below_alloc _ _
  clear hW
  go_wp2_with (fail)
  refine (dAmongN h b1 (by omega) rfl (by decide) (by decide) (by simp) (by simp [isI])).mono ?_; rintro e w2 ⟨z1, rfl, -, D2, l2⟩
  have I2 := (I1.below (below_alloc _ _)).lb l2 (by omega)
  have L2 := (LB.of (p := p) b1).next (below_alloc _ _) l2
  go_wp2_with (fail)
  refine (dAmongN D2 (Below.refl _ _) (by omega) rfl (by decide) (by decide) (by simp) (by simp [isI])).mono ?_; rintro e w3 ⟨z2, rfl, -, D3, l3⟩
  have I3 := (I2.below (below_alloc _ _)).lb l3 (by omega)
  have L3 := L2.next (below_alloc _ _) l3
  clear I1 b1 D2 l2 I2 L2 l3
  go_upto_region 2 with (fail)
  have h3 := I3.1
  have hg3 : w3.heap.size ≠ p := by omega
  have hg0 : w.heap.size ≠ p := by omega
  generalize hW : World.alloc w3 _ = W4
  have J4 : IB W4 w3.heap.size 4 := by rw [← hW]; exact IB.new _ _ (by simp) (by simp [isI])
  have b4 : Below w3.heap.size w3 W4 := by rw [← hW]; exact below_alloc _ _
  clear hW
  have I4 := I3.below b4
  generalize hgg : w3.heap.size = g at *
  have D4 := D3.grown (hgg ▸ b4)
  have L4 := L3.grown (hgg ▸ b4)
  clear D3 I3 L3 b4
  go_cut [] from 4 (fun wx => Dr p B q (m + 6) w0 wx ∧ LB p w.heap.size w wx ∧ IB wx w.heap.size 4 ∧ IB wx g 4)
  case first =>
    obtain ⟨x, c0⟩ := J4.2.1 0 (by omega)
    obtain ⟨y, m0⟩ := J4.2.1 2 (by omega)
    have f0 := J4.2.2 2
    have hz := J4.1
    have KC := Lib.hid (fun (w' : World) (hl : LB p W4.heap.size W4 w') => And.intro ((hl.cell J4.1 hg3 0).trans c0) (And.intro ((hl.cell J4.1 hg3 2).trans m0) (And.intro ((hl.frozen J4.1 hg3 2).trans f0) (Nat.lt_of_lt_of_le J4.1 hl.size))))
    go_region_held3 (fun w' => w'.cell? ⟨g, 0, none⟩ = some (.int .i64 x))
      (first | assumption | exact (KC.out _ (LB.of (Below.refl _ _).drew)).1 | exact (KC.out _ (LB.of (below_alloc _ _).drew)).1 | exact (KC.out _ (LB.next (LB.of (Below.refl _ _)) (below_alloc _ _).drew (by assumption))).1 | exact (KC.out _ ((LB.next (LB.of (Below.refl _ _)) (below_alloc _ _).drew (by assumption)).grown (Below.refl _ _).drew)).1 | exact (World.cell?_setCells_out g [_] 2 _ ⟨g, 0, none⟩ (fun _ _ => Or.inl (by show (0 : Nat) < 2; decide))).trans K6.1)
      (first | (go_at_call 86; refine (dAmongD D4 (Below.refl _ _) (by omega) rfl (by decide) (by decide) (by simp) (by simp [isI])).mono ?_; rintro e w6 ⟨z3, rfl, -, D6, l6⟩; have K6 := KC.out _ (LB.next (LB.of (Below.refl _ _)) (below_alloc _ _).drew l6); have m6 := K6.2.1; have f6 := K6.2.2.1; have z6 := K6.2.2.2))
    all_goals
      go_wp2_with (fail)
      go_meet
      case rel =>
        have I6 := I4.next (below_alloc _ _).drew l6 hg0
        have J6 := J4.next (below_alloc _ _).drew l6 hg3
        have L6 := L4.next (below_alloc _ _).drew l6
        exact ⟨(D6.sets (g := g) (by omega) [_] 2).mono (by omega), L6.sets (g := g) (by omega) [_] 2, I6.far (by omega) [_] 2, J6.put [_] 2 (by simp) (by simp [isI])⟩
  case rest =>
  clear D4 L4 I4 J4
  obtain ⟨D4, L4, I4, J4⟩ := hcut
  generalize wc = W4 at *
  clear hgg
  go_upto_region 3 with (fail)
  go_cut [] from 4 (fun wx => Dr p B q (m + 8) w0 wx ∧ LB p w.heap.size w wx ∧ IB wx w.heap.size 4 ∧ IB wx g 4)
  case first =>
    obtain ⟨x, c0⟩ := J4.2.1 1 (by omega)
    obtain ⟨y, m0⟩ := J4.2.1 3 (by omega)
    have f0 := J4.2.2 3
    have hz := J4.1
    have KC := Lib.hid (fun (w' : World) (hl : LB p W4.heap.size W4 w') => And.intro ((hl.cell J4.1 hg3 1).trans c0) (And.intro ((hl.cell J4.1 hg3 3).trans m0) (And.intro ((hl.frozen J4.1 hg3 3).trans f0) (Nat.lt_of_lt_of_le J4.1 hl.size))))
    go_region_held3 (fun w' => w'.cell? ⟨g, 1, none⟩ = some (.int .i64 x))
      (first | assumption | exact (KC.out _ (LB.of (Below.refl _ _).drew)).1 | exact (KC.out _ (LB.of (below_alloc _ _).drew)).1 | exact (KC.out _ (LB.next (LB.of (Below.refl _ _)) (below_alloc _ _).drew (by assumption))).1 | exact (KC.out _ ((LB.next (LB.of (Below.refl _ _)) (below_alloc _ _).drew (by assumption)).grown (Below.refl _ _).drew)).1 | exact (World.cell?_setCells_out g [_] 3 _ ⟨g, 1, none⟩ (fun _ _ => Or.inl (by show (1 : Nat) < 3; decide))).trans K6.1)
      (first | (go_at_call 86; refine (dAmongD D4 (Below.refl _ _) (by omega) rfl (by decide) (by decide) (by simp) (by simp [isI])).mono ?_; rintro e w6 ⟨z3, rfl, -, D6, l6⟩; have K6 := KC.out _ (LB.next (LB.of (Below.refl _ _)) (below_alloc _ _).drew l6); have m6 := K6.2.1; have f6 := K6.2.2.1; have z6 := K6.2.2.2))
    all_goals
      go_wp2_with (fail)
      go_meet
      case rel =>
        have I6 := I4.next (below_alloc _ _).drew l6 hg0
        have J6 := J4.next (below_alloc _ _).drew l6 hg3
        have L6 := L4.next (below_alloc _ _).drew l6
        exact ⟨(D6.sets (g := g) (by omega) [_] 3).mono (by omega), L6.sets (g := g) (by omega) [_] 3, I6.far (by omega) [_] 3, J6.put [_] 3 (by simp) (by simp [isI])⟩
  case rest =>
  clear D4 L4 I4 J4
  obtain ⟨D4, L4, I4, J4⟩ := hcut
  clear W4
  go_wp2_with (fail)
  refine (dPick D4 (Below.refl _ _) (by omega) _ (by omega)).mono ?_; rintro e w5 ⟨o, rfl, ho, D5, l5⟩
  have I5 := I4.lb l5 hg0
  have J5 := J4.lb l5 hg3
  have L5 := L4.next (Below.refl _ _) l5
  clear D4 I4 J4 L4 l5
  by_cases q0 : o = 0
  · subst q0
    go_wp2_with (fail)
    refine (dAmongN D5 (Below.refl _ _) (by omega) rfl (by decide) (by decide) (by simp) (by simp [isI])).mono ?_; rintro e w6 ⟨z3, rfl, -, D6, l6⟩
    have I6 := (I5.below (below_alloc _ _)).lb l6 hg0
    have J6 := (J5.below (below_alloc _ _)).lb l6 hg3
    have L6 := L5.next (below_alloc _ _) l6
    obtain ⟨v0, m0⟩ := J6.2.1 0 (by omega)
    have f0 := J6.2.2 0
    have hz := J6.1
    clear I5 J5 L5 D5 l6
    go_upto_region 9 with (fail)
    have D := D6.sets (g := g) (by omega) [.int .i64 z3] 0
    have L := L6.sets (g := g) (by omega) [.int .i64 z3] 0
    have I := I6.far (show w.heap.size ≠ g by omega) [.int .i64 z3] 0
    have J := J6.put [.int .i64 z3] 0 (by simp) (by simp [isI])
    simp only [World.setCells] at D L I J
    clear D6 L6 I6 J6 m0 f0 hz
    generalize World.setCell w6 _ _ = W7 at *
    go_upto_region 9 with (fail)
    obtain ⟨x0, c0⟩ := J.2.1 0 (by omega)
    obtain ⟨x1, c1⟩ := J.2.1 1 (by omega)
    obtain ⟨x2, c2⟩ := J.2.1 2 (by omega)
    obtain ⟨x3, c3⟩ := J.2.1 3 (by omega)
    obtain ⟨v0, m0⟩ := I.2.1 0 (by omega)
    obtain ⟨v1, m1⟩ := I.2.1 1 (by omega)
    obtain ⟨v2, m2⟩ := I.2.1 2 (by omega)
    obtain ⟨v3, m3⟩ := I.2.1 3 (by omega)
    have f0 := I.2.2 0
    have f1 := I.2.2 1
    have f2 := I.2.2 2
    have f3 := I.2.2 3
    have hz := I.1
    have hzg := J.1
    go_wp2_with (fail)
    have I9 := I.put [.int .i64 x0, .int .i64 x1, .int .i64 x2, .int .i64 x3] 0 (by simp) (by simp [isI])
    have D9 := D.sets (g := w.heap.size) (by omega) [.int .i64 x0, .int .i64 x1, .int .i64 x2, .int .i64 x3] 0
    have L9 := L.sets (g := w.heap.size) (Nat.le_refl _) [.int .i64 x0, .int .i64 x1, .int .i64 x2, .int .i64 x3] 0
    simp only [World.setCells, Nat.zero_add, Nat.reduceAdd] at I9 D9 L9
    obtain ⟨y0, e0⟩ := I9.2.1 0 (by omega)
    obtain ⟨y1, e1⟩ := I9.2.1 1 (by omega)
    obtain ⟨y2, e2⟩ := I9.2.1 2 (by omega)
    obtain ⟨y3, e3⟩ := I9.2.1 3 (by omega)
    exact bodyPost_ret (v := .agg #[.int .i64 y0, .int .i64 y1, .int .i64 y2, .int .i64 y3]) (by simp [results, Try.results85, go_sem, e0, e1, e2, e3]) rfl ⟨y0, y1, y2, y3, rfl, D9.mono (by omega), L9⟩
  · by_cases q1 : o = 1
    · subst q1
      obtain ⟨x1, c1⟩ := J5.2.1 1 (by omega)
      obtain ⟨v3, m3⟩ := J5.2.1 3 (by omega)
      have f3 := J5.2.2 3
      have hz := J5.1
      go_upto_region 9 with (fail)
      have D := D5.sets (g := g) (by omega) [.int .i64 (wrap64 (x1 - 1))] 3
      have L := L5.sets (g := g) (by omega) [.int .i64 (wrap64 (x1 - 1))] 3
      have I := I5.far (show w.heap.size ≠ g by omega) [.int .i64 (wrap64 (x1 - 1))] 3
      have J := J5.put [.int .i64 (wrap64 (x1 - 1))] 3 (by simp) (by simp [isI])
      simp only [World.setCells] at D L I J
      clear D5 L5 I5 J5 m3 f3 hz c1
      generalize World.setCell w5 _ _ = W7 at *
      go_upto_region 9 with (fail)
      obtain ⟨x0, c0⟩ := J.2.1 0 (by omega)
      obtain ⟨x1, c1⟩ := J.2.1 1 (by omega)
      obtain ⟨x2, c2⟩ := J.2.1 2 (by omega)
      obtain ⟨x3, c3⟩ := J.2.1 3 (by omega)
      obtain ⟨v0, m0⟩ := I.2.1 0 (by omega)
      obtain ⟨v1, m1⟩ := I.2.1 1 (by omega)
      obtain ⟨v2, m2⟩ := I.2.1 2 (by omega)
      obtain ⟨v3, m3⟩ := I.2.1 3 (by omega)
      have f0 := I.2.2 0
      have f1 := I.2.2 1
      have f2 := I.2.2 2
      have f3 := I.2.2 3
      have hz := I.1
      have hzg := J.1
      go_wp2_with (fail)
      have I9 := I.put [.int .i64 x0, .int .i64 x1, .int .i64 x2, .int .i64 x3] 0 (by simp) (by simp [isI])
      have D9 := D.sets (g := w.heap.size) (by omega) [.int .i64 x0, .int .i64 x1, .int .i64 x2, .int .i64 x3] 0
      have L9 := L.sets (g := w.heap.size) (Nat.le_refl _) [.int .i64 x0, .int .i64 x1, .int .i64 x2, .int .i64 x3] 0
      simp only [World.setCells, Nat.zero_add, Nat.reduceAdd] at I9 D9 L9
      obtain ⟨y0, e0⟩ := I9.2.1 0 (by omega)
      obtain ⟨y1, e1⟩ := I9.2.1 1 (by omega)
      obtain ⟨y2, e2⟩ := I9.2.1 2 (by omega)
      obtain ⟨y3, e3⟩ := I9.2.1 3 (by omega)
      exact bodyPost_ret (v := .agg #[.int .i64 y0, .int .i64 y1, .int .i64 y2, .int .i64 y3]) (by simp [results, Try.results85, go_sem, e0, e1, e2, e3]) rfl ⟨y0, y1, y2, y3, rfl, D9.mono (by omega), L9⟩
    · have D := D5
      have L := L5
      have I := I5
      have J := J5
      clear D5 L5 I5 J5
      go_upto_region 9 with (fail)
      obtain ⟨x0, c0⟩ := J.2.1 0 (by omega)
      obtain ⟨x1, c1⟩ := J.2.1 1 (by omega)
      obtain ⟨x2, c2⟩ := J.2.1 2 (by omega)
      obtain ⟨x3, c3⟩ := J.2.1 3 (by omega)
      obtain ⟨v0, m0⟩ := I.2.1 0 (by omega)
      obtain ⟨v1, m1⟩ := I.2.1 1 (by omega)
      obtain ⟨v2, m2⟩ := I.2.1 2 (by omega)
      obtain ⟨v3, m3⟩ := I.2.1 3 (by omega)
      have f0 := I.2.2 0
      have f1 := I.2.2 1
      have f2 := I.2.2 2
      have f3 := I.2.2 3
      have hz := I.1
      have hzg := J.1
      go_wp2_with (fail)
      have I9 := I.put [.int .i64 x0, .int .i64 x1, .int .i64 x2, .int .i64 x3] 0 (by simp) (by simp [isI])
      have D9 := D.sets (g := w.heap.size) (by omega) [.int .i64 x0, .int .i64 x1, .int .i64 x2, .int .i64 x3] 0
      have L9 := L.sets (g := w.heap.size) (Nat.le_refl _) [.int .i64 x0, .int .i64 x1, .int .i64 x2, .int .i64 x3] 0
      simp only [World.setCells, Nat.zero_add, Nat.reduceAdd] at I9 D9 L9
      obtain ⟨y0, e0⟩ := I9.2.1 0 (by omega)
      obtain ⟨y1, e1⟩ := I9.2.1 1 (by omega)
      obtain ⟨y2, e2⟩ := I9.2.1 2 (by omega)
      obtain ⟨y3, e3⟩ := I9.2.1 3 (by omega)
      exact bodyPost_ret (v := .agg #[.int .i64 y0, .int .i64 y1, .int .i64 y2, .int .i64 y3]) (by simp [results, Try.results85, go_sem, e0, e1, e2, e3]) rfl ⟨y0, y1, y2, y3, rfl, D9.mono (by omega), L9⟩
end Go.Proofs.Ytdphaejpponmeaa
