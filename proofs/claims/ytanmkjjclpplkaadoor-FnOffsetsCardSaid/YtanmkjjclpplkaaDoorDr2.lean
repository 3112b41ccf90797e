/- Draws of a spot and of a box: some ints; they change the cursor alone. -/
import Derived.Test.YtanmkjjclpplkaaDoorDr
import Derived.Test.YtanmkjjclpplkaaDoorMore
import Derived.Deep.Cut
import Derived.Deep.RegionHeld3
set_option linter.unusedVariables false
set_option linter.unusedSimpArgs false
namespace Go.Proofs.YtanmkjjclpplkaaDoor
open Go.RowKit
set_option maxHeartbeats 400000
set_option maxRecDepth 100000
/-- A block whose first n cells are ints. -/
def IB (w : World) (g n : Nat) : Prop := g < w.heap.size ∧ (∀ i, i < n → ∃ z : Int, w.cell? ⟨g, i, none⟩ = some (.int .i64 z)) ∧ ∀ i, w.frozen? ⟨g, i, none⟩ = false
theorem IB.below {w w' : World} {g n : Nat} (h : IB w g n) (hb : Below w.heap.size w w') : IB w' g n :=
  ⟨Nat.lt_of_lt_of_le h.1 hb.size, fun i hi => by obtain ⟨v, hv⟩ := h.2.1 i hi; exact ⟨v, (hb.cell (p := ⟨g, i, none⟩) h.1).trans hv⟩, fun i => (hb.frozen (p := ⟨g, i, none⟩) h.1).trans (h.2.2 i)⟩
theorem IB.lb {w w' : World} {p g n : Nat} (h : IB w g n) (hl : LB p w.heap.size w w') (hp : g ≠ p) : IB w' g n :=
  ⟨Nat.lt_of_lt_of_le h.1 hl.size, fun i hi => by obtain ⟨v, hv⟩ := h.2.1 i hi; exact ⟨v, (hl.cell h.1 hp i).trans hv⟩, fun i => (hl.frozen h.1 hp i).trans (h.2.2 i)⟩
theorem IB.next {w w5 w1 : World} {p g n : Nat} (h : IB w g n) (hb : Below w.heap.size w w5) (hl : LB p w5.heap.size w5 w1) (hp : g ≠ p) : IB w1 g n := (h.below hb).lb hl hp
theorem isI_of {v : Value} (h : isI v = true) : ∃ z : Int, v = .int .i64 z := by
  cases v with
  | int k z => cases k <;> simp [isI] at h; exact ⟨z, rfl⟩
  | _ => simp [isI] at h
theorem IB.new {w : World} (cs : Array Value) (t : TypeId) {n : Nat} (hn : n ≤ cs.size) (h : cs.all isI = true) : IB (w.alloc (.cells cs t)) w.heap.size n := by
  have hA := Ar.new w cs t
  refine ⟨hA.1, fun i hi => ?_, hA.2.2⟩
  obtain ⟨z, hz⟩ := ints_app (W := w) (t := t) (g := w.heap.size) rfl hn h i hi
  rw [Nat.zero_add] at hz
  exact ⟨z, hz⟩
theorem IB.ar {w : World} {g n : Nat} (h : IB w g n) : Ar w g n := ⟨h.1, fun i hi => by obtain ⟨z, hz⟩ := h.2.1 i hi; exact ⟨_, hz⟩, h.2.2⟩
theorem IB.put {w : World} {g n : Nat} (h : IB w g n) (vs : List Value) (o : Nat) (ho : o + vs.length ≤ n) (hv : ∀ v ∈ vs, isI v = true) : IB (w.setCells g o vs) g n := by
  refine ⟨by rw [size_setCells]; exact h.1, fun i hi => ?_, fun i => by rw [World.frozen?_setCells]; exact h.2.2 i⟩
  by_cases hin : o ≤ i ∧ i < o + vs.length
  · obtain ⟨j, rfl⟩ : ∃ j, i = o + j := ⟨i - o, by omega⟩
    have hj : j < vs.length := by omega
    obtain ⟨z, hz⟩ := isI_of (hv vs[j] (List.getElem_mem hj))
    refine ⟨z, ?_⟩
    rw [World.cell?_setCells_in g vs o w (fun j hj => by obtain ⟨v, hv⟩ := h.2.1 (o + j) (by omega); rw [hv]; rfl) j hj, hz]
  · rw [World.cell?_setCells_out g vs o w _ (fun _ _ => by show i < o ∨ o + vs.length ≤ i; omega)]
    exact h.2.1 i hi
theorem IB.far {w : World} {g g' n : Nat} (h : IB w g n) (hne : g ≠ g') (vs : List Value) (o : Nat) : IB (w.setCells g' o vs) g n := by
  refine ⟨by rw [size_setCells]; exact h.1, fun i hi => ?_, fun i => by rw [World.frozen?_setCells]; exact h.2.2 i⟩
  obtain ⟨z, hz⟩ := h.2.1 i hi
  exact ⟨z, (World.cell?_of_block (w := w) (heap_setCells g' vs o w g hne)).trans hz⟩
end Go.Proofs.YtanmkjjclpplkaaDoor
