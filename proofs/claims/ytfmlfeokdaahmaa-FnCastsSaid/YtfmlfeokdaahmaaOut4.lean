/- The append of a whole slice that may have no element to a slice that the call has made. Lists of at most 1048576 elements of one to sixteen cells, at most 1000 appended at once. -/
import Derived.Test.YtfmlfeokdaahmaaOut3
set_option linter.unusedVariables false
set_option linter.unusedSimpArgs false
namespace Go.Proofs.Ytfmlfeokdaahmaa
open Go.RowKit
theorem run_app0 {P : Program} (w : World) (base : Nat) (t ty e : TypeId) (i : TypeInfo) (size : Nat) (ht : P.underlying t = some (.slice e)) (hi : P.info? e = some i)
    (v : Value) (n : Nat) (xs : List Value) (hown : w.ownsRow base e size v n xs) (A : Option Addr) (c : Nat) :
    (Builtin.append_ #[t, t] ty #[v, .slice A 0 c]).run P w = .ok v w := by
  rcases hown.2 with ⟨rfl, rfl⟩ | ⟨g, cap, cur, rfl, _, _, hnc, _⟩
  · cases A <;> simp [Builtin.append_, run_underlying ht, sizeOf, typeInfo, hi, Builtin.lenOf, Builtin.firstCells, loadCells, loadCellsFrom, storeCells]
  · cases A <;> simp [Builtin.append_, run_underlying ht, sizeOf, typeInfo, hi, Builtin.lenOf, Builtin.firstCells, hnc, loadCells, loadCellsFrom, storeCells]
/-- Nothing is appended, at a step of a region that draws its order. -/
theorem step_app0 {P : Program} {α : Type} {K base e bytes : Nat} {enc : α → List Value}
    {ops : Array Oper} {o : Oper} {a : Act} {F : Act → World → Prop} {Q : Exit → Act → World → Prop} {E : Prop} (w : World) (hgd : o.guard = none) (s x : Operand) (t : TypeId)
    (ho : o.op = .call { callee := .builtin .append, args := #[s, x], argTypes := #[t, t] }) {z : Value}
    (ht : P.underlying t = some (.slice e)) (hinfo : (P.info? e).map (fun i => (i.zero, i.size, i.bytes)) = some (some z, K, bytes))
    (v : Value) (l : List α) (hs : a.eval s = v) (hown : OutS K enc base e w v l) (A : Option Addr) (c : Nat) (hx : a.eval x = .slice A 0 c)
    (h : F (a.put o.dst v) w) :
    if Region.wanted o (yielded ops a.tmps) = true then Oper.wp P o a w F Q else E := by
  have hw : Region.wanted o (yielded ops a.tmps) = true := by simp [Region.wanted, hgd]
  rw [if_pos hw]
  obtain ⟨i, hi, hz, hsz, hby⟩ := info_parts hinfo
  have hrun := run_app0 w base t o.type e i K ht hi v l.length _ hown A c
  unfold Oper.wp
  simp [execOp, ho, resolve, invoke, builtin, hs, hx, hrun, Result.andThen]
  exact h
/-- The append of a slice, empty or not, at a step of a region that draws its order. -/
theorem step_appL {P : Program} {α : Type} {K base e bytes : Nat} {enc : α → List Value} (hK : ∀ x, (enc x).length = K) (h1 : ∀ x, ∀ u ∈ enc x, u.oneCell' = true) (hK0 : 0 < K) (hb16 : bytes ≤ 128)
    {ops : Array Oper} {o : Oper} {a : Act} {F : Act → World → Prop} {Q : Exit → Act → World → Prop} {E : Prop} (w : World) (hgd : o.guard = none) (s x : Operand) (t : TypeId)
    (ho : o.op = .call { callee := .builtin .append, args := #[s, x], argTypes := #[t, t] }) {z : Value}
    (ht : P.underlying t = some (.slice e)) (hinfo : (P.info? e).map (fun i => (i.zero, i.size, i.bytes)) = some (some z, K, bytes)) (hzs : z.cells.size = K)
    (v : Value) (l : List α) (hs : a.eval s = v) (hown : OutS K enc base e w v l) (ys : List α) (A : Option Addr) (m c : Nat) (hm : ys.length = m) (hx : a.eval x = .slice A m c) (hy : Sl K enc w A ys)
    (hm' : m ≤ 1000) (hn : l.length ≤ 1048576) (hbase : base ≤ w.heap.size)
    (h : ∀ v' w', OutS K enc base e w' v' (l ++ ys) → w.grownBy w' v.ownBlock → Below base w w' → F (a.put o.dst v') w') :
    if Region.wanted o (yielded ops a.tmps) = true then Oper.wp P o a w F Q else E := by
  by_cases h0 : 0 < m
  · obtain ⟨b, off, rfl⟩ := hy.addr (by omega)
    exact step_appS hK h1 hK0 hb16 w hgd s x t ho ht hinfo hzs v l hs hown ys b off m c hm hx hy h0 hm' hn hbase h
  · obtain rfl : m = 0 := by omega
    obtain rfl : ys = [] := by cases ys with | nil => rfl | cons a r => simp at hm
    exact step_app0 w hgd s x t ho ht hinfo v l hs hown A c hx (h v w (by rw [List.append_nil]; exact hown) (World.grownBy.refl _ _) (Below.refl _ _))
/-- The append of a slice, empty or not. -/
theorem wp_appL {P : Program} {α : Type} {K base e bytes : Nat} {enc : α → List Value} (hK : ∀ x, (enc x).length = K) (h1 : ∀ x, ∀ u ∈ enc x, u.oneCell' = true) (hK0 : 0 < K) (hb16 : bytes ≤ 128)
    {ops : Array Oper} {rest : List Oper} {o : Oper} {a : Act} {Q : Exit → Act → World → Prop} (w : World) (hgd : o.guard = none) (s x : Operand) (t : TypeId)
    (ho : o.op = .call { callee := .builtin .append, args := #[s, x], argTypes := #[t, t] }) {z : Value}
    (ht : P.underlying t = some (.slice e)) (hinfo : (P.info? e).map (fun i => (i.zero, i.size, i.bytes)) = some (some z, K, bytes)) (hzs : z.cells.size = K)
    (v : Value) (l : List α) (hs : a.eval s = v) (hown : OutS K enc base e w v l) (ys : List α) (A : Option Addr) (c : Nat) (hx : a.eval x = .slice A ys.length c) (hy : Sl K enc w A ys)
    (hm' : ys.length ≤ 1000) (hn : l.length ≤ 1048576) (hbase : base ≤ w.heap.size)
    (h : ∀ v' w', OutS K enc base e w' v' (l ++ ys) → w.grownBy w' v.ownBlock → Below base w w' → (v' = .slice none 0 0 → v = .slice none 0 0) → wpList P ops Q rest (a.put o.dst v') w') : wpList P ops Q (o :: rest) a w := by
  obtain ⟨i, hi, hz, hsz, hby⟩ := info_parts hinfo
  by_cases h0 : 0 < ys.length
  · obtain ⟨b, off, rfl⟩ := hy.addr h0
    refine wpList_append_own_at w hgd s x t ho base e i z K bytes ht hi hz hsz hby hzs hK0 v l.length (l.flatMap enc) hs hown ⟨b, off, none⟩ ys.length c (ys.flatMap enc) hx (flat_len hK ys) (hy.flat hK) ?_ (by simp only [maxLen]; omega) ?_ hbase ?_
    · intro u hu
      obtain ⟨y, hy1, hy2⟩ := List.mem_flatMap.1 hu
      exact h1 y u hy2
    · have : (l.length + ys.length) * bytes ≤ 1049576 * 128 := Nat.mul_le_mul (by omega) hb16
      omega
    · intro v' w' hown' hgrow hnn _
      refine h v' w' ?_ hgrow ((Below.refl base w).grown hgrow hbase fun k hk => (hown.lt k hk).1) (fun hv => (hnn.1 hv).1)
      unfold OutS
      rw [List.length_append, List.flatMap_append]
      exact hown'
  · obtain rfl : ys = [] := by cases ys with | nil => rfl | cons a r => simp at h0
    refine wpList_plain hgd fun F hF => ?_
    have hrun := run_app0 w base t o.type e i K ht hi v l.length _ hown A c
    have hx' : a.eval x = .slice A 0 c := hx
    unfold Oper.wp
    simp [execOp, ho, resolve, invoke, builtin, hs, hx', hrun, Result.andThen]
    refine hF _ _ (h v w (by rw [List.append_nil]; exact hown) ?_ (Below.refl _ _) (fun hv => hv))
    exact World.grownBy.refl _ _
end Go.Proofs.Ytfmlfeokdaahmaa
