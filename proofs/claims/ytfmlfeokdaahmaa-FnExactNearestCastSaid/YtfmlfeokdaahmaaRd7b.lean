/- How an argument that is a list of casts reads. No condition. -/
import Derived.Test.YtfmlfeokdaahmaaS7b
import Derived.Test.YtfmlfeokdaahmaaRd7
set_option linter.unusedVariables false
set_option linter.unusedSimpArgs false
namespace Go.Proofs.Ytfmlfeokdaahmaa
open Go.RowKit Go.ChangeShapes Go.WideShapes Go.Deep
/-- A slice whose elements each read as some x : α with Q x, in K cells 'e x'. -/
theorem open_rowsQ {H : Type} {enc : TypeId × Value → H} {P : Program} {w : World} {base : Nat} {spare : Nat → Bool} {held : Bool} {α : Type} [Inhabited α] {Q : α → Prop} {K : Nat} {e : α → List Value} {t el : TypeId} {a : Option Addr} {len cap : Nat} {d : DataW H} {p : List MemPlace} (ht : P.underlying t = some (.slice el)) (hC : P.cellsOf el = K) (hK : 0 < K) (hKe : ∀ x, (e x).length = K)
    (rd : ∀ n cs x, DataW.trod enc P w base spare held n el cs = some x → ∃ y : α, cs = e y ∧ Q y) (h : DataW.Trod enc P w base spare held t (.slice a len cap) d p) :
    ∃ l : List α, l.length = len ∧ len ≤ 9223372036854775807 ∧ len ≤ cap ∧ Sl K e w a l ∧ ∀ x ∈ l, Q x := by
  obtain ⟨fuel, hf⟩ := h
  rcases open_slice ht hf with ⟨hcs, _⟩ | ⟨a', len', cap', m, n, D, Pl, hcs, hb, hl, hm, hmm, hx, hi⟩
  · simp [Value.cells] at hcs
    obtain ⟨rfl, rfl, rfl⟩ := hcs
    exact ⟨[], rfl, by omega, Nat.le_refl _, Sl.nil, fun x hx => absurd hx (by simp)⟩
  · simp [Value.cells] at hcs
    obtain ⟨rfl, rfl, rfl⟩ := hcs
    have hlm : len ≤ m := by rw [hmm]; split <;> omega
    rw [hC] at hi
    obtain ⟨F, hF⟩ := choose_lt (α := α) (n := len) (p := fun i y => (∀ j v, (e y)[j]? = some v → w.cell? (a'.add (i * K + j)) = some v) ∧ Q y) (fun i hlt => by
      obtain ⟨cs', hc, htr⟩ := hi i (by omega)
      obtain ⟨y, rfl, hq⟩ := rd _ _ _ htr
      obtain ⟨_, hcl, hat⟩ := World.cells?_some hc
      refine ⟨y, fun j v hv => ?_, hq⟩
      have hj : j < K := by rw [← hcl]; exact (List.getElem?_eq_some_iff.1 hv).1
      rw [← Go.Deep.add_add, hat j hj, hv])
    refine ⟨(List.range len).map F, by simp, by simp only [maxLen] at hm; omega, hl, fun hpos => ?_, fun x hx => ?_⟩
    · have hpos' : 0 < len := by simpa using hpos
      obtain ⟨v0, hv0⟩ : ∃ v0, (e (F 0))[0]? = some v0 := ⟨_, List.getElem?_eq_getElem (by rw [hKe]; exact hK)⟩
      have h0 := (hF 0 hpos').1 0 v0 hv0
      obtain ⟨b, off, spot⟩ := a'
      have hspot : spot = none := by
        have := World.cell?_spot h0
        rw [Nat.zero_mul, Nat.zero_add] at this
        simpa [Addr.add] using this
      subst hspot
      refine ⟨b, off, rfl, ?_, fun i x hx' j v hv => ?_⟩
      · have := block_lt h0
        simpa [go_sem] using this
      · obtain ⟨hil, rfl⟩ := List.getElem?_eq_some_iff.1 hx'
        have := (hF i (by simpa using hil)).1 j v (by simpa using hv)
        rw [Addr.add_lit] at this
        rw [Nat.add_assoc]; exact this
    · obtain ⟨i, hi, rfl⟩ := List.mem_map.1 hx
      exact (hF i (by simpa using hi)).2
theorem open_casts {H : Type} {enc : TypeId × Value → H} {w : World} {base : Nat} {spare : Nat → Bool} {held : Bool} {a : Option Addr} {len cap : Nat} {d : DataW H} {p : List MemPlace} (h : DataW.Trod enc Try.prog w base spare held 45 (.slice a len cap) d p) :
    ∃ l : List Ch, l.length = len ∧ len ≤ 9223372036854775807 ∧ len ≤ cap ∧ Sl 5 Ch.enc w a l ∧ OkS w l ∧ ∀ k (hk : k < l.length), l[k].t.lay.length ≤ 9223372036854775807 := by
  obtain ⟨l, h1, h2, h3, h4, h5⟩ := open_rowsQ (α := Ch) (Q := fun y => Sl 2 Ly.enc w y.A y.t.lay ∧ y.t.lay.length ≤ 9223372036854775807) (K := 5) (e := Ch.enc) Try.underlying45 (by kernel_rfl) (by decide) Ch.len
    (fun n cs x hx => by
      obtain ⟨t, A, cp, rfl, q1, q2, _⟩ := rdCt n cs x hx
      exact ⟨⟨t, A, cp⟩, rfl, q1, q2⟩) h
  exact ⟨l, h1, h2, h3, h4, fun x hx => (h5 x hx).1, fun k hk => (h5 _ (List.getElem_mem hk)).2⟩
end Go.Proofs.Ytfmlfeokdaahmaa
