/- How an argument that is a slice of structs reads: as a list of rows of cells. -/
import Derived.Test.YtfmlfeokdaahmaaBase
import Derived.Deep.Slices
import Derived.Deep.Fields
import Derived.ChangeSame
set_option linter.unusedVariables false
set_option linter.unusedSimpArgs false
namespace Go.Proofs.Ytfmlfeokdaahmaa
open Go.RowKit Go.ChangeShapes Go.WideShapes Go.Deep

theorem block_lt {w : World} {a : Addr} {v : Value} (h : w.cell? a = some v) : a.block < w.heap.size := by
  rcases Nat.lt_or_ge a.block w.heap.size with hl | hg
  · exact hl
  · unfold World.cell? at h
    rw [Array.getElem?_eq_none hg] at h
    cases h

section
variable {H : Type} {enc : TypeId × Value → H} {P : Program} {w : World} {base : Nat} {spare : Nat → Bool} {held : Bool}

theorem all_ints {cs : List Value} (h : ∀ v ∈ cs, ∃ n, v = .int .i64 n) : ∃ zs : List Int, cs = zs.map (Value.int .i64) := by
  induction cs with
  | nil => exact ⟨[], rfl⟩
  | cons v r ih =>
    obtain ⟨n, rfl⟩ := h v (by simp)
    obtain ⟨zs, rfl⟩ := ih fun v hv => h v (by simp [hv])
    exact ⟨n :: zs, rfl⟩

/-- A struct all of whose fields are ints, by its cells. -/
theorem rd_ints {e ti n : Nat} {fs : Array Field} {cs : List Value} {x : DataW H × List MemPlace} (he : P.underlying e = some (.struct fs)) (hone : oneCellFields P fs = true) (hC : P.cellsOf e = fs.size)
    (hty : fs.all (fun f => f.type == ti) = true) (hti : P.underlying ti = some (.int .i64)) (h : DataW.trod enc P w base spare held n e cs = some x) : ∃ zs : List Int, zs.length = fs.size ∧ cs = zs.map (Value.int .i64) := by
  obtain ⟨xs, m, _, _, hlen, hxl, hf⟩ := DataW.trod_struct he h
  rw [hC] at hlen
  obtain ⟨zs, rfl⟩ := all_ints (cs := cs) fun v hv => by
    obtain ⟨i, hi, rfl⟩ := List.mem_iff_getElem.1 hv
    have hif : i < fs.size := by omega
    have hfi : fs[i]? = some fs[i] := Array.getElem?_eq_getElem hif
    obtain ⟨ho, hk⟩ := hone_of hone i _ hfi
    have h1 := hf i _ hfi
    rw [ho, hk, List.drop_eq_getElem_cons hi, List.take_succ_cons, List.take_zero] at h1
    have ht : fs[i].type = ti := by
      rw [Array.all_eq_true] at hty
      simpa using hty i hif
    rw [ht, List.getElem?_eq_getElem (by omega)] at h1
    obtain ⟨a, ha, _⟩ := DataW.trod_int hti h1
    exact ⟨a, by injection ha⟩
  exact ⟨zs, by simpa using hlen, rfl⟩

/-- A slice whose elements each read as some x : α, in K cells 'e x'. -/
theorem open_rows {α : Type} [Inhabited α] {K : Nat} {e : α → List Value} {t el : TypeId} {a : Option Addr} {len cap : Nat} {d : DataW H} {p : List MemPlace} (ht : P.underlying t = some (.slice el)) (hC : P.cellsOf el = K) (hK : 0 < K) (hKe : ∀ x, (e x).length = K)
    (rd : ∀ n cs x, DataW.trod enc P w base spare held n el cs = some x → ∃ y : α, cs = e y) (h : DataW.Trod enc P w base spare held t (.slice a len cap) d p) :
    ∃ l : List α, l.length = len ∧ len ≤ 9223372036854775807 ∧ len ≤ cap ∧ Sl K e w a l := by
  obtain ⟨fuel, hf⟩ := h
  rcases open_slice ht hf with ⟨hcs, _⟩ | ⟨a', len', cap', m, n, D, Pl, hcs, hb, hl, hm, hmm, hx, hi⟩
  · simp [Value.cells] at hcs
    obtain ⟨rfl, rfl, rfl⟩ := hcs
    exact ⟨[], rfl, by omega, Nat.le_refl _, Sl.nil⟩
  · simp [Value.cells] at hcs
    obtain ⟨rfl, rfl, rfl⟩ := hcs
    have hlm : len ≤ m := by rw [hmm]; split <;> omega
    rw [hC] at hi
    obtain ⟨F, hF⟩ := choose_lt (α := α) (n := len) (p := fun i y => ∀ j v, (e y)[j]? = some v → w.cell? (a'.add (i * K + j)) = some v) (fun i hlt => by
      obtain ⟨cs', hc, htr⟩ := hi i (by omega)
      obtain ⟨y, rfl⟩ := rd _ _ _ htr
      obtain ⟨_, hcl, hat⟩ := World.cells?_some hc
      refine ⟨y, fun j v hv => ?_⟩
      have hj : j < K := by rw [← hcl]; exact (List.getElem?_eq_some_iff.1 hv).1
      rw [← Go.Deep.add_add, hat j hj, hv])
    refine ⟨(List.range len).map F, by simp, by simp only [maxLen] at hm; omega, hl, fun hpos => ?_⟩
    have hpos' : 0 < len := by simpa using hpos
    obtain ⟨v0, hv0⟩ : ∃ v0, (e (F 0))[0]? = some v0 := ⟨_, List.getElem?_eq_getElem (by rw [hKe]; exact hK)⟩
    have h0 := hF 0 hpos' 0 v0 hv0
    obtain ⟨b, off, spot⟩ := a'
    have hspot : spot = none := by
      have := World.cell?_spot h0
      rw [Nat.zero_mul, Nat.zero_add] at this
      simpa [Addr.add] using this
    subst hspot
    refine ⟨b, off, rfl, ?_, fun i x hx' j v hv => ?_⟩
    · have := block_lt h0
      simpa [go_sem] using this
    · obtain ⟨hil, rfl⟩ := List.getElem?_eq_some_iff.1 hx'
      have := hF i (by simpa using hil) j v (by simpa using hv)
      rw [Addr.add_lit] at this
      rw [Nat.add_assoc]; exact this
end
end Go.Proofs.Ytfmlfeokdaahmaa
