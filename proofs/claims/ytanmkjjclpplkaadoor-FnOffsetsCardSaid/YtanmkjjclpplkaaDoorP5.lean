/- Plain facts on craft: which are valid, alone and in lists. Lists, numbers and texts alone. -/
import Derived.Test.YtanmkjjclpplkaaDoorS5a
set_option linter.unusedVariables false
set_option linter.unusedSimpArgs false
namespace Go.Proofs.YtanmkjjclpplkaaDoor
def alphaB (c : UInt8) : Bool := decide (97 ≤ (c.toNat : Int)) && decide ((c.toNat : Int) ≤ 122)
@[irreducible] def wordB (s : ByteArray) : Bool := s.data.toList.all alphaB && inB s.size 1 10
theorem word_bad {s : ByteArray} {k : Nat} (hk : k < s.size) (h : alphaB s[k] = false) : wordB s = false := by
  unfold wordB
  rw [Bool.and_eq_false_iff]; left
  rw [List.all_eq_false]
  exact ⟨s[k], (List.getElem_mem (l := s.data.toList) (n := k) (by simpa using hk) : s.data.toList[k]'(by simpa using hk) ∈ s.data.toList), by simp [h]⟩
theorem word_end {s : ByteArray} (h : ∀ m (hm : m < s.size), m < s.size → alphaB s[m] = true) : wordB s = inB s.size 1 10 := by
  have e : s.data.toList.all alphaB = true := by
    rw [List.all_eq_true]
    intro x hx
    obtain ⟨i, hi, rfl⟩ := List.mem_iff_getElem.1 hx
    have hi' : i < s.size := by simpa using hi
    exact h i hi' hi'
  unfold wordB
  rw [e, Bool.true_and]
theorem word_len {s : ByteArray} (h : wordB s = true) : s.size ≤ 10 := by
  unfold wordB at h
  rw [Bool.and_eq_true, inB_true] at h
  omega
@[irreducible] def crOk (v : Cr) : Bool := inB v.id 1 99 && wordB v.name && inB v.draught 10 2000 && inB v.ahead (-500) 500 && inB v.beside (-200) 200 && inB v.speed 1 60 && inB v.fuel 0 10000
theorem crOk_def (v : Cr) : crOk v = (inB v.id 1 99 && wordB v.name && inB v.draught 10 2000 && inB v.ahead (-500) 500 && inB v.beside (-200) 200 && inB v.speed 1 60 && inB v.fuel 0 10000) := by unfold crOk; rfl
theorem crOk_bd {v : Cr} (h : crOk v = true) : 1 ≤ v.id ∧ v.id ≤ 99 ∧ 10 ≤ v.draught ∧ v.draught ≤ 2000 ∧ -500 ≤ v.ahead ∧ v.ahead ≤ 500 ∧ -200 ≤ v.beside ∧ v.beside ≤ 200 ∧ 1 ≤ v.speed ∧ v.speed ≤ 60 ∧ 0 ≤ v.fuel ∧ v.fuel ≤ 10000 ∧ wordB v.name = true := by
  rw [crOk_def] at h
  simp only [Bool.and_eq_true, inB_true] at h
  obtain ⟨⟨⟨⟨⟨⟨h1, h2⟩, h3⟩, h4⟩, h5⟩, h6⟩, h7⟩ := h
  exact ⟨h1.1, h1.2, h3.1, h3.2, h4.1, h4.2, h5.1, h5.2, h6.1, h6.2, h7.1, h7.2, h2⟩
def cri (l : List Cr) (k : Nat) : Cr := l.getD k default
theorem cri_of {l : List Cr} {k : Nat} (h : k < l.length) : cri l k = l[k] := by simp [cri, List.getD, List.getElem?_eq_getElem h]
/-- Craft k: valid, its Id greater than the one before, its name not among those before. -/
def crsAt (l : List Cr) (k : Nat) : Bool := crOk (cri l k) && (match k with | 0 => true | m + 1 => decide ((cri l m).id < (cri l (m + 1)).id)) && (List.range k).all (fun m => decide ((cri l m).name ≠ (cri l k).name))
@[irreducible] def crsGood (l : List Cr) : Bool := (List.range l.length).all (crsAt l) && decide ((l.length : Int) ≤ 6)
theorem crsGood_bad {l : List Cr} {k : Nat} (hk : k < l.length) (h : crsAt l k = false) : crsGood l = false := by
  unfold crsGood; rw [Bool.and_eq_false_iff]; left
  rw [List.all_eq_false]; exact ⟨k, by simpa using hk, by simp [h]⟩
theorem crsGood_end {l : List Cr} (h : ∀ k, k < l.length → crsAt l k = true) : crsGood l = decide ((l.length : Int) ≤ 6) := by
  unfold crsGood; rw [show (List.range l.length).all (crsAt l) = true by simpa using h, Bool.true_and]
theorem crsAt_one {l : List Cr} {k : Nat} (h : crOk (cri l k) = false) : crsAt l k = false := by unfold crsAt; rw [h]; rfl
theorem crsAt_asc {l : List Cr} {m : Nat} (h : ¬ (cri l m).id < (cri l (m + 1)).id) : crsAt l (m + 1) = false := by
  show (crOk (cri l (m + 1)) && decide ((cri l m).id < (cri l (m + 1)).id) && _) = false
  simp [h]
theorem crsAt_nm {l : List Cr} {k m : Nat} (hm : m < k) (h : (cri l m).name = (cri l k).name) : crsAt l k = false := by
  unfold crsAt
  rw [Bool.and_eq_false_iff]; right
  rw [List.all_eq_false]; exact ⟨m, by simpa using hm, by simp [h]⟩
theorem crsAt_yes {l : List Cr} {k : Nat} (h : crOk (cri l k) = true) (h2 : ∀ m, k = m + 1 → (cri l m).id < (cri l (m + 1)).id) (h3 : ∀ m, m < k → (cri l m).name ≠ (cri l k).name) : crsAt l k = true := by
  have e3 : (List.range k).all (fun m => decide ((cri l m).name ≠ (cri l k).name)) = true := by
    rw [List.all_eq_true]; intro m hm; simp at hm; simpa using h3 m hm
  unfold crsAt
  rw [h, e3]
  cases k with
  | zero => rfl
  | succ m => simpa using h2 m rfl
theorem crsGood_has {l : List Cr} (h : crsGood l = true) {k : Nat} (hk : k < l.length) : crsAt l k = true := by
  unfold crsGood at h
  simp only [Bool.and_eq_true, List.all_eq_true] at h
  exact h.1 k (by simpa using hk)
theorem crsGood_at {l : List Cr} (h : crsGood l = true) {k : Nat} (hk : k < l.length) : crOk l[k] = true := by
  have := crsGood_has h hk
  unfold crsAt at this
  simp only [Bool.and_eq_true] at this
  rw [← cri_of hk]; exact this.1.1
theorem crsGood_asc {l : List Cr} (h : crsGood l = true) : ∀ {i j : Nat}, i < j → j < l.length → (cri l i).id < (cri l j).id
  | i, 0, hi, _ => by omega
  | i, j + 1, hi, hj => by
    have g := crsGood_has h hj
    have h2 : (cri l j).id < (cri l (j + 1)).id := by
      unfold crsAt at g
      simp only [Bool.and_eq_true, decide_eq_true_eq] at g
      exact g.1.2
    by_cases e : i = j
    · subst e; exact h2
    · have := crsGood_asc h (i := i) (j := j) (by omega) (by omega)
      omega
theorem crsGood_len {l : List Cr} (h : crsGood l = true) : l.length ≤ 6 := by
  unfold crsGood at h
  simp only [Bool.and_eq_true, decide_eq_true_eq] at h
  omega
theorem step_ok {p : Nat → Bool} {k : Nat} (h : ∀ m, m < k → p m = true) (hk : p k = true) : ∀ m, m < k + 1 → p m = true := fun m hm => by
  by_cases e : m = k
  · subst e; exact hk
  · exact h m (by omega)
end Go.Proofs.YtanmkjjclpplkaaDoor
