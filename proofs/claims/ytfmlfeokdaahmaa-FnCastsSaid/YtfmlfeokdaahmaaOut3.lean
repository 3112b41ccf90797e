/- A slice that the call makes by append of a whole slice that lies elsewhere. At most 1000 elements at once. -/
import Derived.Test.YtfmlfeokdaahmaaOut2
set_option linter.unusedVariables false
set_option linter.unusedSimpArgs false
namespace Go.Proofs.Ytfmlfeokdaahmaa
open Go.RowKit
theorem flat_inv {α : Type} {K : Nat} {enc : α → List Value} (hK : ∀ x, (enc x).length = K) : ∀ (l : List α) (j : Nat) (u : Value), (l.flatMap enc)[j]? = some u → ∃ i x r, l[i]? = some x ∧ (enc x)[r]? = some u ∧ j = i * K + r
  | [], j, u, h => by simp at h
  | y :: t, j, u, h => by
    rw [List.flatMap_cons] at h
    by_cases hj : j < K
    · rw [List.getElem?_append_left (by rw [hK]; exact hj)] at h
      exact ⟨0, y, j, by simp, h, by omega⟩
    · rw [List.getElem?_append_right (by rw [hK]; omega), hK] at h
      obtain ⟨i, x, r, h1, h2, h3⟩ := flat_inv hK t _ u h
      exact ⟨i + 1, x, r, by simpa using h1, h2, by rw [Nat.succ_mul]; omega⟩
theorem Sl.flat {α : Type} {K : Nat} {enc : α → List Value} (hK : ∀ x, (enc x).length = K) {w : World} {b off : Nat} {l : List α} (h : Sl K enc w (some ⟨b, off, none⟩) l) : ∀ j u, (l.flatMap enc)[j]? = some u → w.cell? (Addr.add ⟨b, off, none⟩ j) = some u := by
  intro j u hu
  obtain ⟨i, x, r, h1, h2, rfl⟩ := flat_inv hK l j u hu
  have hl : 0 < l.length := by have := (List.getElem?_eq_some_iff.1 h1).1; omega
  obtain ⟨b', off', e, _, hc⟩ := h hl
  injection e with e; injection e with e1 e2
  subst e1 e2
  have := hc i x h1 r u h2
  rw [Addr.add_lit, ← Nat.add_assoc]
  exact this
/-- The append of a whole slice at a step of a region that draws its order. -/
theorem step_appS {P : Program} {α : Type} {K base e bytes : Nat} {enc : α → List Value} (hK : ∀ x, (enc x).length = K) (h1 : ∀ x, ∀ u ∈ enc x, u.oneCell' = true) (hK0 : 0 < K) (hb16 : bytes ≤ 128)
    {ops : Array Oper} {o : Oper} {a : Act} {F : Act → World → Prop} {Q : Exit → Act → World → Prop} {E : Prop} (w : World) (hgd : o.guard = none) (s x : Operand) (t : TypeId)
    (ho : o.op = .call { callee := .builtin .append, args := #[s, x], argTypes := #[t, t] }) {z : Value}
    (ht : P.underlying t = some (.slice e)) (hinfo : (P.info? e).map (fun i => (i.zero, i.size, i.bytes)) = some (some z, K, bytes)) (hzs : z.cells.size = K)
    (v : Value) (l : List α) (hs : a.eval s = v) (hown : OutS K enc base e w v l) (ys : List α) (b off m c : Nat) (hm : ys.length = m) (hx : a.eval x = .slice (some ⟨b, off, none⟩) m c) (hy : Sl K enc w (some ⟨b, off, none⟩) ys)
    (hm0 : 0 < m) (hm' : m ≤ 1000) (hn : l.length ≤ 1048576) (hbase : base ≤ w.heap.size)
    (h : ∀ v' w', OutS K enc base e w' v' (l ++ ys) → w.grownBy w' v.ownBlock → Below base w w' → F (a.put o.dst v') w') :
    if Region.wanted o (yielded ops a.tmps) = true then Oper.wp P o a w F Q else E := by
  subst hm
  obtain ⟨i, hi, hz, hsz, hby⟩ := info_parts hinfo
  refine step_append_lies w hgd s x t ho base e i z K bytes ht hi hz hsz hby hzs hK0 v l.length (l.flatMap enc) hs hown ⟨b, off, none⟩ ys.length c (ys.flatMap enc) hx (flat_len hK ys) (hy.flat hK) ?_ (by omega) (by simp only [maxLen]; omega) ?_ hbase _ rfl ?_
  · intro u hu
    obtain ⟨y, hy1, hy2⟩ := List.mem_flatMap.1 hu
    exact h1 y u hy2
  · have : (l.length + ys.length) * bytes ≤ 1049576 * 128 := Nat.mul_le_mul (by omega) hb16
    omega
  · intro g' cap w' hown' hgrow _ _
    refine h _ w' ?_ hgrow ((Below.refl base w).grown hgrow hbase fun k hk => (hown.lt k hk).1)
    unfold OutS
    rw [List.length_append, List.flatMap_append]
    exact hown'
end Go.Proofs.Ytfmlfeokdaahmaa
