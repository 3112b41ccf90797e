/- Plain facts on lists of casts: which are valid, the one at a time. Lists and numbers alone. -/
import Derived.Test.YtfmlfeokdaahmaaP7b
set_option linter.unusedVariables false
set_option linter.unusedSimpArgs false
namespace Go.Proofs.Ytfmlfeokdaahmaa
def cti (l : List Ct) (k : Nat) : Ct := l.getD k default
theorem cti_of {l : List Ct} {k : Nat} (h : k < l.length) : cti l k = l[k] := by simp [cti, List.getD, List.getElem?_eq_getElem h]
/-- Cast k: valid, later than the one before, its Id not among those before. -/
def ctsAt (l : List Ct) (k : Nat) : Bool := ctOk (cti l k) && (match k with | 0 => true | m + 1 => decide ((cti l m).time < (cti l (m + 1)).time)) && (List.range k).all (fun m => decide ((cti l m).id ≠ (cti l k).id))
@[irreducible] def ctsGood (l : List Ct) : Bool := (List.range l.length).all (ctsAt l) && decide ((l.length : Int) ≤ 6)
theorem ctsGood_bad {l : List Ct} {k : Nat} (hk : k < l.length) (h : ctsAt l k = false) : ctsGood l = false := by
  unfold ctsGood; rw [Bool.and_eq_false_iff]; left
  rw [List.all_eq_false]; exact ⟨k, by simpa using hk, by simp [h]⟩
theorem ctsGood_end {l : List Ct} (h : ∀ k, k < l.length → ctsAt l k = true) : ctsGood l = decide ((l.length : Int) ≤ 6) := by
  unfold ctsGood; rw [show (List.range l.length).all (ctsAt l) = true by simpa using h, Bool.true_and]
theorem ctsAt_one {l : List Ct} {k : Nat} (h : ctOk (cti l k) = false) : ctsAt l k = false := by unfold ctsAt; rw [h]; rfl
theorem ctsAt_time {l : List Ct} {m : Nat} (h : ¬ (cti l m).time < (cti l (m + 1)).time) : ctsAt l (m + 1) = false := by
  show (ctOk (cti l (m + 1)) && decide ((cti l m).time < (cti l (m + 1)).time) && _) = false
  simp [h]
theorem ctsAt_id {l : List Ct} {k m : Nat} (hm : m < k) (h : (cti l m).id = (cti l k).id) : ctsAt l k = false := by
  unfold ctsAt
  rw [Bool.and_eq_false_iff]; right
  rw [List.all_eq_false]; exact ⟨m, by simpa using hm, by simp [h]⟩
theorem ctsAt_yes {l : List Ct} {k : Nat} (h : ctOk (cti l k) = true) (h2 : ∀ m, k = m + 1 → (cti l m).time < (cti l (m + 1)).time) (h3 : ∀ m, m < k → (cti l m).id ≠ (cti l k).id) : ctsAt l k = true := by
  have e3 : (List.range k).all (fun m => decide ((cti l m).id ≠ (cti l k).id)) = true := by
    rw [List.all_eq_true]; intro m hm; simp at hm; simpa using h3 m hm
  unfold ctsAt
  rw [h, e3]
  cases k with
  | zero => rfl
  | succ m => simpa using h2 m rfl
theorem ctsGood_at {l : List Ct} (h : ctsGood l = true) {k : Nat} (hk : k < l.length) : ctOk l[k] = true := by
  unfold ctsGood at h
  simp only [Bool.and_eq_true, List.all_eq_true] at h
  have := h.1 k (by simpa using hk)
  unfold ctsAt at this
  simp only [Bool.and_eq_true] at this
  rw [← cti_of hk]; exact this.1.1
theorem ctsGood_len {l : List Ct} (h : ctsGood l = true) : l.length ≤ 6 := by
  unfold ctsGood at h
  simp only [Bool.and_eq_true, decide_eq_true_eq] at h
  omega
end Go.Proofs.Ytfmlfeokdaahmaa
