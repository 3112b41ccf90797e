/- More on blocks: a block stored anew whole; what lies elsewhere. -/
import Derived.Test.YtljpmccnppplgaaBase
set_option linter.unusedVariables false
set_option linter.unusedSimpArgs false
namespace Go.Proofs.Ytljpmccnppplgaa
open Go.RowKit

theorem Bk.ar {w : World} {g : Nat} {cs : List Value} (h : Bk w g cs) : Ar w g cs.length := ⟨h.1, fun i hi => ⟨_, h.2.1 i _ (List.getElem?_eq_getElem hi)⟩, h.2.2⟩
/-- The block's cells are stored anew. -/
theorem Bk.put {w : World} {g : Nat} {cs : List Value} (h : Bk w g cs) (vs : List Value) (hl : vs.length = cs.length) : Bk (w.setCells g 0 vs) g vs := by
  have hA := h.ar.put vs 0 (by omega)
  refine ⟨hA.1, fun i v hv => ?_, hA.2.2⟩
  have hi := (List.getElem?_eq_some_iff.1 hv).1
  have := World.cell?_setCells_in g vs 0 w (fun j hj => by rw [Nat.zero_add, h.2.1 j _ (List.getElem?_eq_getElem (by omega))]; rfl) i hi
  rw [Nat.zero_add] at this
  rw [this]; exact hv ▸ (List.getElem?_eq_getElem hi).symm
theorem heap_setCells (b : Nat) : ∀ (vs : List Value) (o : Nat) (w : World) (k : Nat), k ≠ b → (w.setCells b o vs).heap[k]? = w.heap[k]?
  | [], _, _, _, _ => rfl
  | v :: r, o, w, k, h => by rw [World.setCells, heap_setCells b r _ _ k h]; exact Below.heap_setCell w ⟨b, o, none⟩ v k h
theorem Bk.far {w : World} {g g' : Nat} {cs : List Value} (h : Bk w g cs) (hne : g ≠ g') (vs : List Value) (o : Nat) : Bk (w.setCells g' o vs) g cs :=
  ⟨by rw [size_setCells]; exact h.1, fun i v hv => (World.cell?_of_block (w := w) (heap_setCells g' vs o w g hne)).trans (h.2.1 i v hv), fun i => (World.frozen?_of_block (w := w) (heap_setCells g' vs o w g hne)).trans (h.2.2 i)⟩
theorem Sl.far {α : Type} {K : Nat} {enc : α → List Value} {w : World} {A : Option Addr} {l : List α} (h : Sl K enc w A l) {g : Nat} (hne : ∀ a, A = some a → a.block ≠ g) (vs : List Value) (o : Nat) : Sl K enc (w.setCells g o vs) A l := by
  intro hl
  obtain ⟨b, off, e, hlt, hc⟩ := h hl
  exact ⟨b, off, e, by rw [size_setCells]; exact hlt, fun i x hx j v hv => (World.cell?_of_block (w := w) (heap_setCells g vs o w b (hne _ e))).trans (hc i x hx j v hv)⟩
end Go.Proofs.Ytljpmccnppplgaa
