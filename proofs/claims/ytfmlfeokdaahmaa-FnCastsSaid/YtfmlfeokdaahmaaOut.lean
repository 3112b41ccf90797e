/- A slice that the call makes by append: what it holds, step by step. Lists of at most 1048576 elements of one to sixteen cells. -/
import Derived.Test.YtfmlfeokdaahmaaBase
import Derived.Maps.AppendAt
import Derived.Deep.AppendLies
set_option linter.unusedVariables false
set_option linter.unusedSimpArgs false
namespace Go.Proofs.Ytfmlfeokdaahmaa
open Go.RowKit

theorem own_below {w w' : World} {base e K n : Nat} {v : Value} {xs : List Value} (h : w.ownsRow base e K v n xs) (hb : Below w.heap.size w w') : w'.ownsRow base e K v n xs := by
  refine ⟨h.1, ?_⟩
  rcases h.2 with h0 | ⟨g, cap, cur, hv, hg, hh, r⟩
  · exact .inl h0
  · refine .inr ⟨g, cap, cur, hv, hg, ?_, r⟩
    rw [hb.block g (Array.getElem?_eq_some_iff.1 hh).1]; exact hh

theorem flat_len {α : Type} {K : Nat} {enc : α → List Value} (hK : ∀ x, (enc x).length = K) (l : List α) : (l.flatMap enc).length = l.length * K := by
  induction l with
  | nil => simp
  | cons x r ih => rw [List.flatMap_cons, List.length_append, ih, hK, List.length_cons, Nat.succ_mul]; omega
theorem flat_get {α : Type} {K : Nat} {enc : α → List Value} (hK : ∀ x, (enc x).length = K) : ∀ (l : List α) (i j : Nat) (x : α) (v : Value), l[i]? = some x → (enc x)[j]? = some v → (l.flatMap enc)[i * K + j]? = some v
  | [], i, _, _, _, h, _ => by simp at h
  | y :: r, 0, j, x, v, h, hv => by
    have : y = x := by simpa using h
    subst this
    rw [List.flatMap_cons, Nat.zero_mul, Nat.zero_add, List.getElem?_append_left (List.getElem?_eq_some_iff.1 hv).1]; exact hv
  | y :: r, i + 1, j, x, v, h, hv => by
    rw [List.flatMap_cons, List.getElem?_append_right (by rw [hK, Nat.succ_mul]; omega), hK, show (i + 1) * K + j - K = i * K + j by rw [Nat.succ_mul]; omega]
    exact flat_get hK r i j x v (by simpa using h) hv

/-- The slice value v stands for the list l, in a block of the call's own from 'base' on (or it is nil). -/
def OutS {α : Type} (K : Nat) (enc : α → List Value) (base e : Nat) (w : World) (v : Value) (l : List α) : Prop := w.ownsRow base e K v l.length (l.flatMap enc)

theorem OutS.below {α : Type} {K base e : Nat} {enc : α → List Value} {w w' : World} {v : Value} {l : List α} (h : OutS K enc base e w v l) (hb : Below w.heap.size w w') : OutS K enc base e w' v l := own_below h hb
theorem OutS.nil {α : Type} {K base e : Nat} {enc : α → List Value} {w : World} : OutS (α := α) K enc base e w (.slice none 0 0) [] := World.ownsRow_nil _ _ _ _
theorem OutS.empty {α : Type} {K base e : Nat} {enc : α → List Value} {w : World} (hb : base ≤ w.heap.size) : OutS (α := α) K enc base e (w.alloc (.cells #[] e)) (.slice (some ⟨w.heap.size, 0, none⟩) 0 0) [] :=
  World.ownsRow_made w #[] 0 hb (by simp) (by simp)
theorem OutS.lt {α : Type} {K base e : Nat} {enc : α → List Value} {w : World} {v : Value} {l : List α} (h : OutS K enc base e w v l) : ∀ k, v.ownBlock = some k → base ≤ k ∧ k < w.heap.size := World.ownsRow.lt h

/-- What such a slice is good for. -/
theorem OutS.sl {α : Type} {K base e : Nat} {enc : α → List Value} (hK : ∀ x, (enc x).length = K) {w : World} {v : Value} {l : List α} (h : OutS K enc base e w v l) :
    ∃ A c, v = .slice A l.length c ∧ l.length ≤ c ∧ Sl K enc w A l ∧ Own K w A l.length ∧ ∀ a, A = some a → base ≤ a.block := by
  have hx := h.1
  rcases h.2 with ⟨rfl, h0⟩ | ⟨g, cap, cur, rfl, hg, hh, hnc, hcm, hcs, htake⟩
  · refine ⟨none, 0, by rw [h0], by omega, fun hl => by omega, fun hl => by omega, fun a ha => by cases ha⟩
  · have hlt : g < w.heap.size := (Array.getElem?_eq_some_iff.1 hh).1
    have hcell : ∀ j v, (l.flatMap enc)[j]? = some v → w.cell? ⟨g, j, none⟩ = some v := fun j v hv => by
      have hjl := (List.getElem?_eq_some_iff.1 hv).1
      rw [cell_of_row w g j cur e (0, 0) hh]
      rw [← htake, List.getElem?_take] at hv
      split at hv
      · simpa using hv
      · cases hv
    refine ⟨some ⟨g, 0, none⟩, cap, rfl, hnc, fun _ => ⟨g, 0, rfl, hlt, fun i x hi j v hj => ?_⟩, fun _ => ⟨g, rfl, hlt, fun i hi => ?_, fun i => frozen_of_row w g i cur e hh⟩, fun a ha => by injection ha with ha; subst ha; exact hg⟩
    · rw [Nat.zero_add]; exact hcell _ _ (flat_get hK l i j x v hi hj)
    · rw [flat_len hK] at hx
      exact ⟨_, hcell i _ (List.getElem?_eq_getElem (by rw [flat_len hK]; exact hi))⟩

theorem Bk.grown {w w' : World} {g : Nat} {cs : List Value} {row : Option Nat} (h : Bk w g cs) (hg : w.grownBy w' row) (hne : row ≠ some g) : Bk w' g cs := by
  have hb := hg.block g h.1 (fun e => hne e.symm)
  exact ⟨Nat.lt_of_lt_of_le h.1 hg.size, fun i v hv => (World.cell?_of_block (w := w) hb).trans (h.2.1 i v hv), fun i => (World.frozen?_of_block (w := w) hb).trans (h.2.2 i)⟩

/-- 'out = append(out, x)', x laid into a block of its own ahead of it. -/
theorem wp_app {P : Program} {α : Type} {K base e bytes : Nat} {enc : α → List Value} (hK : ∀ x, (enc x).length = K) (h1 : ∀ x, ∀ u ∈ enc x, u.oneCell' = true) (hK0 : 0 < K) (hb16 : bytes ≤ 128)
    {ops : Array Oper} {rest : List Oper} {o : Oper} {a : Act} {Q : Exit → Act → World → Prop} (w : World) (hgd : o.guard = none) (s x : Operand) (t : TypeId)
    (ho : o.op = .call { callee := .builtin .append, args := #[s, x], argTypes := #[t, t] }) {z : Value}
    (ht : P.underlying t = some (.slice e)) (hinfo : (P.info? e).map (fun i => (i.zero, i.size, i.bytes)) = some (some z, K, bytes)) (hzs : z.cells.size = K)
    (v : Value) (l : List α) (hs : a.eval s = v) (hown : OutS K enc base e w v l) (y : α) (g : Nat) (hx : a.eval x = .slice (some ⟨g, 0, none⟩) 1 1) (hy : ∀ j u, (enc y)[j]? = some u → w.cell? ⟨g, j, none⟩ = some u)
    (hn : l.length ≤ 1048576) (hbase : base ≤ w.heap.size)
    (h : ∀ v' w', OutS K enc base e w' v' (l ++ [y]) → w.grownBy w' v.ownBlock → Below base w w' → wpList P ops Q rest (a.put o.dst v') w') : wpList P ops Q (o :: rest) a w := by
  obtain ⟨i, hi, hz, hsz, hby⟩ := info_parts hinfo
  refine wpList_append_own_at w hgd s x t ho base e i z K bytes ht hi hz hsz hby hzs hK0 v l.length (l.flatMap enc) hs hown ⟨g, 0, none⟩ 1 1 (enc y) hx (by rw [hK]; omega) (fun j u hu => ?_) (h1 y) (by simp only [maxLen]; omega) ?_ hbase ?_
  · rw [Addr.add_lit, Nat.zero_add]; exact hy j u hu
  · have : (l.length + 1) * bytes ≤ 1048577 * 128 := Nat.mul_le_mul (by omega) hb16
    omega
  · intro v' w' hown' hgrow _ _
    refine h v' w' ?_ hgrow ((Below.refl base w).grown hgrow hbase fun k hk => (hown.lt k hk).1)
    unfold OutS
    rw [List.length_append, List.flatMap_append]
    simpa using hown'
end Go.Proofs.Ytfmlfeokdaahmaa
