/- More on blocks: a block stored anew whole; what lies elsewhere. -/
import Derived.Test.YtfmlfeokdaahmaaBase
set_option linter.unusedVariables false
set_option linter.unusedSimpArgs false
namespace Go.Proofs.Ytfmlfeokdaahmaa
open Go.RowKit

theorem Bk.ar {w : World} {g : Nat} {cs : List Value} (h : Bk w g cs) : Ar w g cs.length := ⟨h.1, fun i hi => ⟨_, h.2.1 i _ (List.getElem?_eq_getElem hi)⟩, h.2.2⟩
/-- The block's cells are stored anew. -/
theorem Bk.put {w : World} {g : Nat} {cs : List Value} (h : Bk w g cs) (vs : List Value) (hl : vs.length = cs.length) : Bk (w.setCells g 0 vs) g vs := by
  have hA := h.ar.put vs 0 (by omega)
  refine ⟨hA.1, fun i v hv => ?_, hA.2.2⟩
  have hi := (List.getElem?_eq_some_iff.1 hv).1
  have := World.cell?_setCells_in g vs 0 w (fun j hj => by rw [Nat.zero_add, h.2.1 j _ (List.getElem?_eq_getElem (by omega))]; rfl) i hi
  rw [Nat.zero_add] at this
  rw [this]; exact hv ▸ (List.getElem?_eq_getElem hi).symm
theorem heap_setCells (b : Nat) : ∀ (vs : List Value) (o : Nat) (w : World) (k : Nat), k ≠ b → (w.setCells b o vs).heap[k]? = w.heap[k]?
  | [], _, _, _, _ => rfl
  | v :: r, o, w, k, h => by rw [World.setCells, heap_setCells b r _ _ k h]; exact Below.heap_setCell w ⟨b, o, none⟩ v k h
theorem Bk.far {w : World} {g g' : Nat} {cs : List Value} (h : Bk w g cs) (hne : g ≠ g') (vs : List Value) (o : Nat) : Bk (w.setCells g' o vs) g cs :=
  ⟨by rw [size_setCells]; exact h.1, fun i v hv => (World.cell?_of_block (w := w) (heap_setCells g' vs o w g hne)).trans (h.2.1 i v hv), fun i => (World.frozen?_of_block (w := w) (heap_setCells g' vs o w g hne)).trans (h.2.2 i)⟩
theorem Sl.far {α : Type} {K : Nat} {enc : α → List Value} {w : World} {A : Option Addr} {l : List α} (h : Sl K enc w A l) {g : Nat} (hne : ∀ a, A = some a → a.block ≠ g) (vs : List Value) (o : Nat) : Sl K enc (w.setCells g o vs) A l := by
  intro hl
  obtain ⟨b, off, e, hlt, hc⟩ := h hl
  exact ⟨b, off, e, by rw [size_setCells]; exact hlt, fun i x hx j v hv => (World.cell?_of_block (w := w) (heap_setCells g vs o w b (hne _ e))).trans (hc i x hx j v hv)⟩
theorem Sl.lt {α : Type} {K : Nat} {enc : α → List Value} {w : World} {A : Option Addr} {l : List α} (h : Sl K enc w A l) (hl : 0 < l.length) : ∀ a, A = some a → a.block < w.heap.size := by
  intro a ha
  obtain ⟨b, off, e, hlt, _⟩ := h hl
  rw [ha] at e; injection e with e; subst e; exact hlt
theorem Own.below {K n : Nat} {w w' : World} {A : Option Addr} (h : Own K w A n) (hb : Below w.heap.size w w') : Own K w' A n := fun hn => by
  obtain ⟨g, e, hA⟩ := h hn
  exact ⟨g, e, hA.below hb⟩
theorem Own.only {K n m : Nat} {w w' : World} {A A' : Option Addr} (hA : Own K w A' m) (h : OnlyN A n w w') (hd : 0 < m → 0 < n → ∀ a a', A = some a → A' = some a' → a.block ≠ a'.block) : Own K w' A' m := fun hm => by
  obtain ⟨g, e, h1, h2, h3⟩ := hA hm
  have hb := h.block g (fun hn a ha => hd hm hn a _ ha e)
  exact ⟨g, e, by rw [h.size]; exact h1, fun i hi => by obtain ⟨v, hv⟩ := h2 i hi; exact ⟨v, (World.cell?_of_block (w := w) hb).trans hv⟩, fun i => (World.frozen?_of_block (w := w) hb).trans (h3 i)⟩
/-- A new list that a call has made. -/
def Fr {α : Type} (K : Nat) (enc : α → List Value) (w w' : World) (A : Option Addr) (l : List α) : Prop :=
  Below w.heap.size w w' ∧ Sl K enc w' A l ∧ Own K w' A l.length ∧ ∀ a, A = some a → 0 < l.length → w.heap.size ≤ a.block
theorem Fr.nil {α : Type} {K : Nat} {enc : α → List Value} {w w' : World} {A : Option Addr} (hb : Below w.heap.size w w') : Fr (α := α) K enc w w' A [] :=
  ⟨hb, Sl.nil, fun h => absurd h (by simp), fun _ _ h => absurd h (by simp)⟩
end Go.Proofs.Ytfmlfeokdaahmaa
