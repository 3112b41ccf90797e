/- Plain facts on soundings: which lists are valid. Lists and numbers alone. -/
import Derived.Test.YtllionelhbjadaaDoorS8a
set_option linter.unusedVariables false
set_option linter.unusedSimpArgs false
namespace Go.Proofs.YtllionelhbjadaaDoor
@[irreducible] def sdOk (x : Sd) : Bool := inB x.id 1 999 && (inB x.x 0 1000 && inB x.y 0 1000) && inB x.depth (-1000) 20000 && inB x.doubt 0 500
theorem sdOk_def (x : Sd) : sdOk x = (inB x.id 1 999 && (inB x.x 0 1000 && inB x.y 0 1000) && inB x.depth (-1000) 20000 && inB x.doubt 0 500) := by unfold sdOk; rfl
theorem sdOk_bd {x : Sd} (h : sdOk x = true) : 1 ≤ x.id ∧ x.id ≤ 999 ∧ 0 ≤ x.x ∧ x.x ≤ 1000 ∧ 0 ≤ x.y ∧ x.y ≤ 1000 ∧ -1000 ≤ x.depth ∧ x.depth ≤ 20000 ∧ 0 ≤ x.doubt ∧ x.doubt ≤ 500 := by
  rw [sdOk_def] at h
  simp only [Bool.and_eq_true, inB_true] at h
  omega
/-- Element k is valid, and its Id is greater than the one before. -/
def sdAt (l : List Sd) (k : Nat) : Bool := match l[k]? with | some x => sdOk x && (match k with | 0 => true | m + 1 => match l[m]? with | some z => decide (z.id < x.id) | none => true) | none => true
@[irreducible] def sdGood (l : List Sd) : Bool := (List.range l.length).all (sdAt l) && decide ((l.length : Int) ≤ 12)
theorem sdAt_zero {l : List Sd} (h : 0 < l.length) : sdAt l 0 = sdOk l[0] := by simp only [sdAt, List.getElem?_eq_getElem h, Bool.and_true]
theorem sdAt_succ {l : List Sd} {m : Nat} (h : m + 1 < l.length) : sdAt l (m + 1) = (sdOk l[m + 1] && decide ((l[m]'(by omega)).id < l[m + 1].id)) := by
  simp only [sdAt, List.getElem?_eq_getElem h, List.getElem?_eq_getElem (show m < l.length by omega)]
theorem sdGood_bad {l : List Sd} {k : Nat} (hk : k < l.length) (h : sdAt l k = false) : sdGood l = false := by
  unfold sdGood; rw [Bool.and_eq_false_iff]; left
  rw [List.all_eq_false]; exact ⟨k, by simpa using hk, by simp [h]⟩
theorem sdGood_end {l : List Sd} (h : ∀ k, k < l.length → sdAt l k = true) : sdGood l = decide ((l.length : Int) ≤ 12) := by
  unfold sdGood; rw [show (List.range l.length).all (sdAt l) = true by simpa using h, Bool.true_and]
theorem sdAt_bad {l : List Sd} {k : Nat} (hk : k < l.length) (h : sdOk l[k] = false) : sdAt l k = false := by
  unfold sdAt; rw [List.getElem?_eq_getElem hk]; simp [h]
theorem sdGood_at {l : List Sd} (h : sdGood l = true) {k : Nat} (hk : k < l.length) : sdOk l[k] = true := by
  unfold sdGood at h
  simp only [Bool.and_eq_true, List.all_eq_true] at h
  have := h.1 k (by simpa using hk)
  simp only [sdAt, List.getElem?_eq_getElem hk, Bool.and_eq_true] at this
  exact this.1
theorem sdGood_asc {l : List Sd} (h : sdGood l = true) {k : Nat} (hk : k + 1 < l.length) : (l[k]'(by omega)).id < l[k + 1].id := by
  unfold sdGood at h
  simp only [Bool.and_eq_true, List.all_eq_true] at h
  have := h.1 (k + 1) (by simpa using hk)
  rw [sdAt_succ hk, Bool.and_eq_true] at this
  simpa using this.2
theorem sdGood_len {l : List Sd} (h : sdGood l = true) : l.length ≤ 12 := by
  unfold sdGood at h
  simp only [Bool.and_eq_true, decide_eq_true_eq] at h
  omega
theorem step_ok {p : Nat → Bool} {k : Nat} (h : ∀ m, m < k → p m = true) (hk : p k = true) : ∀ m, m < k + 1 → p m = true := fun m hm => by
  by_cases e : m = k
  · subst e; exact hk
  · exact h m (by omega)
end Go.Proofs.YtllionelhbjadaaDoor
