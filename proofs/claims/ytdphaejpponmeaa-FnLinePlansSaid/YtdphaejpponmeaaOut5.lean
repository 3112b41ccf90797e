/- The append of one element to a slice that the call has made, beside another slice of the call's own. Lists of at most 1048576 elements of one to sixteen cells. -/
import Derived.Test.YtdphaejpponmeaaOut4
set_option linter.unusedVariables false
set_option linter.unusedSimpArgs false
namespace Go.Proofs.Ytdphaejpponmeaa
open Go.RowKit
theorem Sl.grown {α : Type} {K : Nat} {enc : α → List Value} {w w' : World} {A : Option Addr} {l : List α} {row : Option Nat} (h : Sl K enc w A l) (hg : w.grownBy w' row) (hne : ∀ a, A = some a → row ≠ some a.block) : Sl K enc w' A l := by
  intro h0
  obtain ⟨b, off, e, hlt, hc⟩ := h h0
  have hb := hg.block b hlt (fun e2 => hne _ e e2.symm)
  exact ⟨b, off, e, Nat.lt_of_lt_of_le hlt hg.size, fun i x hx j v hv => (World.cell?_of_block (w := w) hb).trans (hc i x hx j v hv)⟩
theorem wp_appB {P : Program} {α : Type} {K base e bytes : Nat} {enc : α → List Value} (hK : ∀ x, (enc x).length = K) (h1 : ∀ x, ∀ u ∈ enc x, u.oneCell' = true) (hK0 : 0 < K) (hb16 : bytes ≤ 128)
    {ops : Array Oper} {rest : List Oper} {o : Oper} {a : Act} {Q : Exit → Act → World → Prop} (w : World) (hgd : o.guard = none) (s x : Operand) (t : TypeId)
    (ho : o.op = .call { callee := .builtin .append, args := #[s, x], argTypes := #[t, t] }) {z : Value}
    (ht : P.underlying t = some (.slice e)) (hinfo : (P.info? e).map (fun i => (i.zero, i.size, i.bytes)) = some (some z, K, bytes)) (hzs : z.cells.size = K)
    (v : Value) (l : List α) (hs : a.eval s = v) (hown : OutS K enc base e w v l) (y : α) (g : Nat) (hx : a.eval x = .slice (some ⟨g, 0, none⟩) 1 1) (hy : ∀ j u, (enc y)[j]? = some u → w.cell? ⟨g, j, none⟩ = some u)
    (hn : l.length ≤ 1048576) (hbase : base ≤ w.heap.size)
    (h : ∀ v' w', OutS K enc base e w' v' (l ++ [y]) → w.grownBy w' v.ownBlock → Below base w w' → (v'.ownBlock = v.ownBlock ∨ v'.ownBlock = some w.heap.size) → wpList P ops Q rest (a.put o.dst v') w') : wpList P ops Q (o :: rest) a w := by
  obtain ⟨i, hi, hz, hsz, hby⟩ := info_parts hinfo
  refine wpList_append_own_at w hgd s x t ho base e i z K bytes ht hi hz hsz hby hzs hK0 v l.length (l.flatMap enc) hs hown ⟨g, 0, none⟩ 1 1 (enc y) hx (by rw [hK]; omega) (fun j u hu => ?_) (h1 y) (by simp only [maxLen]; omega) ?_ hbase ?_
  · rw [Addr.add_lit, Nat.zero_add]; exact hy j u hu
  · have : (l.length + 1) * bytes ≤ 1048577 * 128 := Nat.mul_le_mul (by omega) hb16
    omega
  · intro v' w' hown' hgrow _ hob
    refine h v' w' ?_ hgrow ((Below.refl base w).grown hgrow hbase fun k hk => (hown.lt k hk).1) hob
    unfold OutS
    rw [List.length_append, List.flatMap_append]
    simpa using hown'
/-- Two slices of a call lie in blocks of their own. -/
def Apart (v : Value) (A : Option Addr) : Prop := ∀ a, A = some a → v.ownBlock ≠ some a.block
theorem Apart.next {v v' : Value} {A : Option Addr} {n : Nat} (h : Apart v A) (ho : v'.ownBlock = v.ownBlock ∨ v'.ownBlock = some n) (hA : ∀ a, A = some a → a.block < n) : Apart v' A := fun a ha e => by
  rcases ho with ho | ho
  · exact h a ha (ho ▸ e)
  · rw [ho] at e
    injection e with e
    have := hA a ha
    omega
end Go.Proofs.Ytdphaejpponmeaa
