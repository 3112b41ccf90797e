/- A call that makes memory and changes one slice's block alone among what was there. No condition. -/
import Derived.Test.YtanmkjjclpplkaaDoorMore
set_option linter.unusedVariables false
set_option linter.unusedSimpArgs false
namespace Go.Proofs.YtanmkjjclpplkaaDoor
open Go.RowKit
/-- Nothing but the slice's own block has changed among what was there. -/
structure OnlyG (A : Option Addr) (n : Nat) (w w' : World) : Prop where
  os : w'.os = w.os
  tape : w'.tape = w.tape
  output : w'.output = w.output
  size : w.heap.size ≤ w'.heap.size
  block : ∀ k, k < w.heap.size → (0 < n → ∀ a, A = some a → a.block ≠ k) → w'.heap[k]? = w.heap[k]?
theorem OnlyG.of {A : Option Addr} {n : Nat} {w W1 w' : World} (b : Below w.heap.size w W1) (h : OnlyN A n W1 w') : OnlyG A n w w' :=
  ⟨h.os.trans b.os, h.tape.trans b.tape, h.output.trans b.output, by rw [h.size]; exact b.size, fun k hk hne => (h.block k hne).trans (b.block k hk)⟩
theorem OnlyG.below {A : Option Addr} {n B : Nat} {a w w' : World} (h : OnlyG A n w w') (hb : Below B a w) (hw : B ≤ w.heap.size) (hB : 0 < n → ∀ x, A = some x → B ≤ x.block) : Below B a w' :=
  ⟨h.os.trans hb.os, h.tape.trans hb.tape, h.output.trans hb.output, Nat.le_trans hb.size h.size, fun k hk => (h.block k (by omega) (fun hn x hx => by have := hB hn x hx; omega)).trans (hb.block k hk)⟩
theorem Bk.onlyG {A : Option Addr} {n g : Nat} {w w' : World} {cs : List Value} (h : Bk w g cs) (ho : OnlyG A n w w') (hne : 0 < n → ∀ a, A = some a → a.block ≠ g) : Bk w' g cs := by
  have hb := ho.block g h.1 hne
  exact ⟨Nat.lt_of_lt_of_le h.1 ho.size, fun i v hv => (World.cell?_of_block (w := w) hb).trans (h.2.1 i v hv), fun i => (World.frozen?_of_block (w := w) hb).trans (h.2.2 i)⟩
theorem Sl.onlyG {α : Type} {K : Nat} {enc : α → List Value} {w w' : World} {A A' : Option Addr} {n : Nat} {l : List α} (hs : Sl K enc w A' l) (h : OnlyG A n w w')
    (hd : 0 < n → 0 < l.length → ∀ a a', A = some a → A' = some a' → a.block ≠ a'.block) : Sl K enc w' A' l := by
  intro hl
  obtain ⟨b, off, e, hlt, hc⟩ := hs hl
  refine ⟨b, off, e, Nat.lt_of_lt_of_le hlt h.size, fun i x hx j v hv => ?_⟩
  rw [← hc i x hx j v hv]
  exact World.cell?_of_block (w := w) (h.block b hlt (fun hn a ha => hd hn hl a _ ha e))
theorem Own.onlyG {K n m : Nat} {w w' : World} {A A' : Option Addr} (hA : Own K w A' m) (h : OnlyG A n w w') (hd : 0 < m → 0 < n → ∀ a a', A = some a → A' = some a' → a.block ≠ a'.block) : Own K w' A' m := fun hm => by
  obtain ⟨g, e, h1, h2, h3⟩ := hA hm
  have hb := h.block g h1 (fun hn a ha => hd hm hn a _ ha e)
  exact ⟨g, e, Nat.lt_of_lt_of_le h1 h.size, fun i hi => by obtain ⟨v, hv⟩ := h2 i hi; exact ⟨v, (World.cell?_of_block (w := w) hb).trans hv⟩, fun i => (World.frozen?_of_block (w := w) hb).trans (h3 i)⟩
end Go.Proofs.YtanmkjjclpplkaaDoor
