/- Plain facts on survey lines: which lists are valid. Lists and numbers alone. -/
import Derived.Test.YtdphaejpponmeaaS9a
set_option linter.unusedVariables false
set_option linter.unusedSimpArgs false
namespace Go.Proofs.Ytdphaejpponmeaa
def lnOk (x : Ln) : Bool := inB x.id 1 99 && inB x.y 0 1000 && inB x.frm 0 1000 && inB x.to 0 1000 && decide (x.frm < x.to) && inB x.swath 1 300
/-- Element k is valid, and its Id is greater than the one before. -/
def lnAt (l : List Ln) (k : Nat) : Bool := match l[k]? with | some x => lnOk x && (match k with | 0 => true | m + 1 => match l[m]? with | some z => decide (z.id < x.id) | none => true) | none => true
@[irreducible] def lnGood (l : List Ln) : Bool := (List.range l.length).all (lnAt l) && decide ((l.length : Int) ≤ 8)
theorem lnAt_zero {l : List Ln} (h : 0 < l.length) : lnAt l 0 = lnOk l[0] := by simp only [lnAt, List.getElem?_eq_getElem h, Bool.and_true]
theorem lnAt_succ {l : List Ln} {m : Nat} (h : m + 1 < l.length) : lnAt l (m + 1) = (lnOk l[m + 1] && decide ((l[m]'(by omega)).id < l[m + 1].id)) := by
  simp only [lnAt, List.getElem?_eq_getElem h, List.getElem?_eq_getElem (show m < l.length by omega)]
theorem lnGood_bad {l : List Ln} {k : Nat} (hk : k < l.length) (h : lnAt l k = false) : lnGood l = false := by
  unfold lnGood; rw [Bool.and_eq_false_iff]; left
  rw [List.all_eq_false]; exact ⟨k, by simpa using hk, by simp [h]⟩
theorem lnGood_end {l : List Ln} (h : ∀ k, k < l.length → lnAt l k = true) : lnGood l = decide ((l.length : Int) ≤ 8) := by
  unfold lnGood; rw [show (List.range l.length).all (lnAt l) = true by simpa using h, Bool.true_and]
theorem lnAt_bad {l : List Ln} {k : Nat} (hk : k < l.length) (h : lnOk l[k] = false) : lnAt l k = false := by
  unfold lnAt; rw [List.getElem?_eq_getElem hk]; simp [h]
theorem lnOk_bd {x : Ln} (h : lnOk x = true) : 1 ≤ x.id ∧ x.id ≤ 99 ∧ 0 ≤ x.y ∧ x.y ≤ 1000 ∧ 0 ≤ x.frm ∧ x.frm < x.to ∧ x.to ≤ 1000 ∧ 1 ≤ x.swath ∧ x.swath ≤ 300 := by
  simp only [lnOk, Bool.and_eq_true, inB_true, decide_eq_true_eq] at h
  omega
theorem lnGood_at {l : List Ln} (h : lnGood l = true) {k : Nat} (hk : k < l.length) : lnOk l[k] = true := by
  unfold lnGood at h
  simp only [Bool.and_eq_true, List.all_eq_true] at h
  have := h.1 k (by simpa using hk)
  simp only [lnAt, List.getElem?_eq_getElem hk, Bool.and_eq_true] at this
  exact this.1
theorem lnGood_asc {l : List Ln} (h : lnGood l = true) {k : Nat} (hk : k + 1 < l.length) : (l[k]'(by omega)).id < l[k + 1].id := by
  unfold lnGood at h
  simp only [Bool.and_eq_true, List.all_eq_true] at h
  have := h.1 (k + 1) (by simpa using hk)
  rw [lnAt_succ hk, Bool.and_eq_true] at this
  simpa using this.2
theorem lnGood_len {l : List Ln} (h : lnGood l = true) : l.length ≤ 8 := by
  unfold lnGood at h
  simp only [Bool.and_eq_true, decide_eq_true_eq] at h
  omega
theorem step_ok {p : Nat → Bool} {k : Nat} (h : ∀ m, m < k → p m = true) (hk : p k = true) : ∀ m, m < k + 1 → p m = true := fun m hm => by
  by_cases e : m = k
  · subst e; exact hk
  · exact h m (by omega)
end Go.Proofs.Ytdphaejpponmeaa
