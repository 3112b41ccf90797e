/- A slice that the call makes by append of several elements at once. Lists of at most 1048576 elements of one to sixteen cells, at most 1000 appended at once. -/
import Derived.Test.YtfmlfeokdaahmaaOut
import Derived.Test.YtfmlfeokdaahmaaMore
import Derived.Deep.AppendLies
import Derived.Deep.RegionLaw
set_option linter.unusedVariables false
set_option linter.unusedSimpArgs false
namespace Go.Proofs.Ytfmlfeokdaahmaa
open Go.RowKit
theorem wp_apps {P : Program} {α : Type} {K base e bytes : Nat} {enc : α → List Value} (hK : ∀ x, (enc x).length = K) (h1 : ∀ x, ∀ u ∈ enc x, u.oneCell' = true) (hK0 : 0 < K) (hb16 : bytes ≤ 128)
    {ops : Array Oper} {rest : List Oper} {o : Oper} {a : Act} {Q : Exit → Act → World → Prop} (w : World) (hgd : o.guard = none) (s x : Operand) (t : TypeId)
    (ho : o.op = .call { callee := .builtin .append, args := #[s, x], argTypes := #[t, t] }) {z : Value}
    (ht : P.underlying t = some (.slice e)) (hinfo : (P.info? e).map (fun i => (i.zero, i.size, i.bytes)) = some (some z, K, bytes)) (hzs : z.cells.size = K)
    (v : Value) (l : List α) (hs : a.eval s = v) (hown : OutS K enc base e w v l) (ys : List α) (g : Nat) (m : Nat) (hm : ys.length = m) (cs : List Value) (hcs : ys.flatMap enc = cs) (hx : a.eval x = .slice (some ⟨g, 0, none⟩) m m) (hy : ∀ j u, cs[j]? = some u → w.cell? ⟨g, j, none⟩ = some u)
    (hm' : m ≤ 1000) (hn : l.length ≤ 1048576) (hbase : base ≤ w.heap.size)
    (h : ∀ v' w', OutS K enc base e w' v' (l ++ ys) → w.grownBy w' v.ownBlock → Below base w w' → wpList P ops Q rest (a.put o.dst v') w') : wpList P ops Q (o :: rest) a w := by
  subst hm hcs
  obtain ⟨i, hi, hz, hsz, hby⟩ := info_parts hinfo
  refine wpList_append_own_at w hgd s x t ho base e i z K bytes ht hi hz hsz hby hzs hK0 v l.length (l.flatMap enc) hs hown ⟨g, 0, none⟩ ys.length ys.length (ys.flatMap enc) hx (flat_len hK ys) (fun j u hu => ?_) ?_ (by simp only [maxLen]; omega) ?_ hbase ?_
  · rw [Addr.add_lit, Nat.zero_add]; exact hy j u hu
  · intro u hu
    obtain ⟨y, hy1, hy2⟩ := List.mem_flatMap.1 hu
    exact h1 y u hy2
  · have : (l.length + ys.length) * bytes ≤ 1049576 * 128 := Nat.mul_le_mul (by omega) hb16
    omega
  · intro v' w' hown' hgrow _ _
    refine h v' w' ?_ hgrow ((Below.refl base w).grown hgrow hbase fun k hk => (hown.lt k hk).1)
    unfold OutS
    rw [List.length_append, List.flatMap_append]
    exact hown'
/-- A returned list and a bool. -/
def retL (K : Nat) {α : Type} (enc : α → List Value) (w : World) (X : List α) (b : Bool) (e : Ending) (w' : World) : Prop :=
  ∃ A c, e = .returned (.tuple #[.slice A X.length c, .bool b]) ∧ Fr K enc w w' A X


/-- The append of one element at a step of a region that draws its order. -/
theorem step_app {P : Program} {α : Type} {K base e bytes : Nat} {enc : α → List Value} (hK : ∀ x, (enc x).length = K) (h1 : ∀ x, ∀ u ∈ enc x, u.oneCell' = true) (hK0 : 0 < K) (hb16 : bytes ≤ 128)
    {ops : Array Oper} {o : Oper} {a : Act} {F : Act → World → Prop} {Q : Exit → Act → World → Prop} {E : Prop} (w : World) (hgd : o.guard = none) (s x : Operand) (t : TypeId)
    (ho : o.op = .call { callee := .builtin .append, args := #[s, x], argTypes := #[t, t] }) {z : Value}
    (ht : P.underlying t = some (.slice e)) (hinfo : (P.info? e).map (fun i => (i.zero, i.size, i.bytes)) = some (some z, K, bytes)) (hzs : z.cells.size = K)
    (v : Value) (l : List α) (hs : a.eval s = v) (hown : OutS K enc base e w v l) (y : α) (g : Nat) (hx : a.eval x = .slice (some ⟨g, 0, none⟩) 1 1) (hy : ∀ j u, (enc y)[j]? = some u → w.cell? ⟨g, j, none⟩ = some u)
    (hn : l.length ≤ 1048576) (hbase : base ≤ w.heap.size)
    (h : ∀ v' w', OutS K enc base e w' v' (l ++ [y]) → w.grownBy w' v.ownBlock → Below base w w' → F (a.put o.dst v') w') :
    if Region.wanted o (yielded ops a.tmps) = true then Oper.wp P o a w F Q else E := by
  obtain ⟨i, hi, hz, hsz, hby⟩ := info_parts hinfo
  refine step_append_lies w hgd s x t ho base e i z K bytes ht hi hz hsz hby hzs hK0 v l.length (l.flatMap enc) hs hown ⟨g, 0, none⟩ 1 1 (enc y) hx (by rw [hK]; omega) (fun j u hu => ?_) (h1 y) (by omega) (by simp only [maxLen]; omega) ?_ hbase _ rfl ?_
  · rw [Addr.add_lit, Nat.zero_add]; exact hy j u hu
  · have : (l.length + 1) * bytes ≤ 1048577 * 128 := Nat.mul_le_mul (by omega) hb16
    omega
  · intro g' cap w' hown' hgrow _ _
    refine h _ w' ?_ hgrow ((Below.refl base w).grown hgrow hbase fun k hk => (hown.lt k hk).1)
    unfold OutS
    rw [List.length_append, List.flatMap_append]
    simpa using hown'
end Go.Proofs.Ytfmlfeokdaahmaa
