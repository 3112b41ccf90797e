/- Draws of a spot and of a box: some ints; they change the cursor alone. -/
import Derived.Test.YtfmlfeokdaahmaaDr
import Derived.Test.YtfmlfeokdaahmaaMore
import Derived.Deep.Cut
import Derived.Deep.RegionHeld3
set_option linter.unusedVariables false
set_option linter.unusedSimpArgs false
namespace Go.Proofs.Ytfmlfeokdaahmaa
open Go.RowKit
set_option maxHeartbeats 400000
set_option maxRecDepth 100000
/-- A block whose first n cells are ints. -/
def IB (w : World) (g n : Nat) : Prop := g < w.heap.size ∧ (∀ i, i < n → ∃ z : Int, w.cell? ⟨g, i, none⟩ = some (.int .i64 z)) ∧ ∀ i, w.frozen? ⟨g, i, none⟩ = false
theorem IB.below {w w' : World} {g n : Nat} (h : IB w g n) (hb : Below w.heap.size w w') : IB w' g n :=
  ⟨Nat.lt_of_lt_of_le h.1 hb.size, fun i hi => by obtain ⟨v, hv⟩ := h.2.1 i hi; exact ⟨v, (hb.cell (p := ⟨g, i, none⟩) h.1).trans hv⟩, fun i => (hb.frozen (p := ⟨g, i, none⟩) h.1).trans (h.2.2 i)⟩
theorem IB.lb {w w' : World} {p g n : Nat} (h : IB w g n) (hl : LB p w.heap.size w w') (hp : g ≠ p) : IB w' g n :=
  ⟨Nat.lt_of_lt_of_le h.1 hl.size, fun i hi => by obtain ⟨v, hv⟩ := h.2.1 i hi; exact ⟨v, (hl.cell h.1 hp i).trans hv⟩, fun i => (hl.frozen h.1 hp i).trans (h.2.2 i)⟩
theorem IB.next {w w5 w1 : World} {p g n : Nat} (h : IB w g n) (hb : Below w.heap.size w w5) (hl : LB p w5.heap.size w5 w1) (hp : g ≠ p) : IB w1 g n := (h.below hb).lb hl hp
theorem isI_of {v : Value} (h : isI v = true) : ∃ z : Int, v = .int .i64 z := by
  cases v with
  | int k z => cases k <;> simp [isI] at h; exact ⟨z, rfl⟩
  | _ => simp [isI] at h
theorem IB.new {w : World} (cs : Array Value) (t : TypeId) {n : Nat} (hn : n ≤ cs.size) (h : cs.all isI = true) : IB (w.alloc (.cells cs t)) w.heap.size n := by
  have hA := Ar.new w cs t
  refine ⟨hA.1, fun i hi => ?_, hA.2.2⟩
  obtain ⟨z, hz⟩ := ints_app (W := w) (t := t) (g := w.heap.size) rfl hn h i hi
  rw [Nat.zero_add] at hz
  exact ⟨z, hz⟩
theorem IB.ar {w : World} {g n : Nat} (h : IB w g n) : Ar w g n := ⟨h.1, fun i hi => by obtain ⟨z, hz⟩ := h.2.1 i hi; exact ⟨_, hz⟩, h.2.2⟩
theorem IB.put {w : World} {g n : Nat} (h : IB w g n) (vs : List Value) (o : Nat) (ho : o + vs.length ≤ n) (hv : ∀ v ∈ vs, isI v = true) : IB (w.setCells g o vs) g n := by
  refine ⟨by rw [size_setCells]; exact h.1, fun i hi => ?_, fun i => by rw [World.frozen?_setCells]; exact h.2.2 i⟩
  by_cases hin : o ≤ i ∧ i < o + vs.length
  · obtain ⟨j, rfl⟩ : ∃ j, i = o + j := ⟨i - o, by omega⟩
    have hj : j < vs.length := by omega
    obtain ⟨z, hz⟩ := isI_of (hv vs[j] (List.getElem_mem hj))
    refine ⟨z, ?_⟩
    rw [World.cell?_setCells_in g vs o w (fun j hj => by obtain ⟨v, hv⟩ := h.2.1 (o + j) (by omega); rw [hv]; rfl) j hj, hz]
  · rw [World.cell?_setCells_out g vs o w _ (fun _ _ => by show i < o ∨ o + vs.length ≤ i; omega)]
    exact h.2.1 i hi
theorem IB.far {w : World} {g g' n : Nat} (h : IB w g n) (hne : g ≠ g') (vs : List Value) (o : Nat) : IB (w.setCells g' o vs) g n := by
  refine ⟨by rw [size_setCells]; exact h.1, fun i hi => ?_, fun i => by rw [World.frozen?_setCells]; exact h.2.2 i⟩
  obtain ⟨z, hz⟩ := h.2.1 i hi
  exact ⟨z, (World.cell?_of_block (w := w) (heap_setCells g' vs o w g hne)).trans hz⟩
theorem dSpot {p B : Nat} {q : Cd} {m : Nat} {w0 w5 w : World} (h : Dr p B q m w0 w5) (hg : Below w5.heap.size w5 w) (hm : m ≤ 800000000) :
    Calls Try.prog 92 #[.pointer (some ⟨p, 0, none⟩)] w fun e w' => ∃ x y : Int, e = .returned (.agg #[.int .i64 x, .int .i64 y]) ∧ Dr p B q (m + 20) w0 w' ∧ LB p w.heap.size w w' := by
  have h := h.grown hg
  have hp := h.lt
  clear hg
  go_enter Try.func92, Try.ntmps92
  go_upto_region 1 with (fail)
  generalize hW : World.alloc w _ = W1
  have I1 : IB W1 w.heap.size 2 := by rw [← hW]; exact IB.new _ _ (by decide) (by simp [isI])
  have b1 : Below w.heap.size w W1 := by rw [← hW]; exact below_alloc _ _
  clear hW
  go_wp2_with (fail)
  refine (dAmongN h b1 (by omega) rfl (by decide) (by decide) (by simp) (by simp [isI])).mono ?_; rintro e w2 ⟨z1, rfl, -, D2, l2⟩
  have I2 := (I1.below (below_alloc _ _)).lb l2 (by omega)
  have L2 := (LB.of (p := p) b1).next (below_alloc _ _) l2
  go_wp2_with (fail)
  refine (dAmongN D2 (Below.refl _ _) (by omega) rfl (by decide) (by decide) (by simp) (by simp [isI])).mono ?_; rintro e w3 ⟨z2, rfl, -, D3, l3⟩
  have I3 := (I2.below (below_alloc _ _)).lb l3 (by omega)
  have L3 := L2.next (below_alloc _ _) l3
  clear I1 b1 D2 l2 I2 L2 l3
  go_upto_region 2 with (fail)
  have h3 := I3.1
  have hg3 : w3.heap.size ≠ p := by omega
  have hg0 : w.heap.size ≠ p := by omega
  generalize hW : World.alloc w3 _ = W4
  have J4 : IB W4 w3.heap.size 2 := by rw [← hW]; exact IB.new _ _ (by simp) (by simp [isI])
  have b4 : Below w3.heap.size w3 W4 := by rw [← hW]; exact below_alloc _ _
  clear hW
  have I4 := I3.below b4
  generalize hgg : w3.heap.size = g at *
  have D4 := D3.grown (hgg ▸ b4)
  have L4 := L3.grown (hgg ▸ b4)
  clear D3 I3 L3 b4
  go_wp2_with (fail)
  refine (dOne D4 (Below.refl _ _) (by omega) _ (by omega)).mono ?_; rintro e w5 ⟨o, rfl, D5, l5⟩
  have I5 := I4.lb l5 hg0
  have J5 := J4.lb l5 hg3
  have L5 := L4.next (Below.refl _ _) l5
  clear D4 I4 J4 L4 l5
  go_upto_if 12 with (fail)
  go_cut [12] from 4 (fun _ wx => Dr p B q (m + 8) w0 wx ∧ LB p w.heap.size w wx ∧ IB wx w.heap.size 2 ∧ IB wx g 2)
  case first =>
    cases o with
    | false =>
      go_wp2_with (fail)
      go_meet
      case rel => exact ⟨D5.mono (by omega), L5, I5, J5⟩
    | true =>
      go_wp2_with (fail)
      refine (dAmongN D5 (Below.refl _ _) (by omega) rfl (by decide) (by decide) (by simp) (by simp [isI])).mono ?_; rintro e w6 ⟨z3, rfl, -, D6, l6⟩
      have I6 := (I5.below (below_alloc _ _)).lb l6 hg0
      have J6 := (J5.below (below_alloc _ _)).lb l6 hg3
      have L6 := L5.next (below_alloc _ _) l6
      obtain ⟨v0, m0⟩ := J6.2.1 0 (by omega)
      have f0 := J6.2.2 0
      have hz := J6.1
      clear I5 J5 L5 D5 l6
      go_wp2_with (fail)
      go_meet
      case rel => exact ⟨(D6.sets (g := g) (by omega) [.int .i64 z3] 0).mono (by omega), L6.sets (g := g) (by omega) [.int .i64 z3] 0, I6.far (by omega) [.int .i64 z3] 0, J6.put [.int .i64 z3] 0 (by simp) (by simp [isI])⟩
  case rest =>
  obtain ⟨D, L, I, J⟩ := hcut
  obtain ⟨x, c0⟩ := J.2.1 0 (by omega)
  obtain ⟨y, c1⟩ := J.2.1 1 (by omega)
  obtain ⟨v0, m0⟩ := I.2.1 0 (by omega)
  obtain ⟨v1, m1⟩ := I.2.1 1 (by omega)
  have f0 := I.2.2 0
  have f1 := I.2.2 1
  have hz := I.1
  have hzg := J.1
  go_wp2_with (fail)
  have I9 := I.put [.int .i64 x, .int .i64 y] 0 (by simp) (by simp [isI])
  have D9 := D.sets (g := w.heap.size) (by omega) [.int .i64 x, .int .i64 y] 0
  have L9 := L.sets (g := w.heap.size) (Nat.le_refl _) [.int .i64 x, .int .i64 y] 0
  simp only [World.setCells, Nat.zero_add, Nat.reduceAdd] at I9 D9 L9
  obtain ⟨x', e0⟩ := I9.2.1 0 (by omega)
  obtain ⟨y', e1⟩ := I9.2.1 1 (by omega)
  exact bodyPost_ret (v := .agg #[.int .i64 x', .int .i64 y']) (by simp [results, Try.results92, go_sem, e0, e1]) rfl ⟨x', y', rfl, D9.mono (by omega), L9⟩
end Go.Proofs.Ytfmlfeokdaahmaa
