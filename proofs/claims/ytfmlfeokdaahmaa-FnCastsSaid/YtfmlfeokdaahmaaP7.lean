/- Plain facts on casts: which are valid, speeds, travel. Lists and numbers alone. -/
import Derived.Test.YtfmlfeokdaahmaaS7a
import Derived.Test.YtfmlfeokdaahmaaW2
set_option linter.unusedVariables false
set_option linter.unusedSimpArgs false
namespace Go.Proofs.Ytfmlfeokdaahmaa
def lyi (l : List Ly) (k : Nat) : Ly := l.getD k ⟨0, 0⟩
theorem lyi_of {l : List Ly} {k : Nat} (h : k < l.length) : lyi l k = l[k] := by simp [lyi, List.getD, List.getElem?_eq_getElem h]
/-- Layer k of a valid cast: in its bounds, the first at depth 0, the others below the one before. -/
def lyAt (l : List Ly) (k : Nat) : Bool := inB (lyi l k).dep 0 20000 && inB (lyi l k).spd 14000 16000 && (match k with | 0 => decide ((lyi l 0).dep = 0) | m + 1 => decide ((lyi l m).dep < (lyi l (m + 1)).dep))
@[irreducible] def lyGood (l : List Ly) : Bool := (List.range l.length).all (lyAt l)
theorem lyAt_dep {l : List Ly} {k : Nat} (hk : k < l.length) (h : inB l[k].dep 0 20000 = false) : lyAt l k = false := by unfold lyAt; rw [lyi_of hk, h]; rfl
theorem lyAt_spd {l : List Ly} {k : Nat} (hk : k < l.length) (h : inB l[k].spd 14000 16000 = false) : lyAt l k = false := by unfold lyAt; rw [lyi_of hk, h, Bool.and_false]; rfl
theorem lyAt_zero {l : List Ly} (hk : 0 < l.length) (h : inB l[0].dep 0 20000 = true) (h2 : inB l[0].spd 14000 16000 = true) : lyAt l 0 = decide (l[0].dep = 0) := by
  unfold lyAt; rw [lyi_of hk, h, h2]; rfl
theorem lyAt_succ {l : List Ly} {m : Nat} (hk : m + 1 < l.length) (h : inB l[m + 1].dep 0 20000 = true) (h2 : inB l[m + 1].spd 14000 16000 = true) : lyAt l (m + 1) = decide ((l[m]'(by omega)).dep < l[m + 1].dep) := by
  show (inB (lyi l (m + 1)).dep 0 20000 && inB (lyi l (m + 1)).spd 14000 16000 && decide ((lyi l m).dep < (lyi l (m + 1)).dep)) = _
  rw [lyi_of hk, lyi_of (show m < l.length by omega), h, h2]; rfl
theorem lyGood_bad {l : List Ly} {k : Nat} (hk : k < l.length) (h : lyAt l k = false) : lyGood l = false := by
  unfold lyGood; rw [List.all_eq_false]; exact ⟨k, by simpa using hk, by simp [h]⟩
theorem lyGood_end {l : List Ly} (h : ∀ k, k < l.length → lyAt l k = true) : lyGood l = true := by
  unfold lyGood; simpa using h
theorem lyGood_at {l : List Ly} (h : lyGood l = true) {k : Nat} (hk : k < l.length) : lyAt l k = true := by
  unfold lyGood at h; rw [List.all_eq_true] at h; exact h k (by simpa using hk)
theorem lyAt_bd {l : List Ly} {k : Nat} (hk : k < l.length) (h : lyAt l k = true) : 0 ≤ l[k].dep ∧ l[k].dep ≤ 20000 ∧ 14000 ≤ l[k].spd ∧ l[k].spd ≤ 16000 := by
  unfold lyAt at h
  simp only [Bool.and_eq_true, inB_true, lyi_of hk] at h
  omega
theorem step_ok {p : Nat → Bool} {k : Nat} (h : ∀ m, m < k → p m = true) (hk : p k = true) : ∀ m, m < k + 1 → p m = true := fun m hm => by
  by_cases e : m = k
  · subst e; exact hk
  · exact h m (by omega)
@[irreducible] def ctOk (t : Ct) : Bool := inB t.id 1 99 && inB t.time 0 10000 && spOk t.x t.y && inB t.lay.length 1 8 && lyGood t.lay
theorem ctOk_def (t : Ct) : ctOk t = (inB t.id 1 99 && inB t.time 0 10000 && spOk t.x t.y && inB t.lay.length 1 8 && lyGood t.lay) := by unfold ctOk; rfl
theorem ctOk_bd {t : Ct} (h : ctOk t = true) : 1 ≤ t.id ∧ t.id ≤ 99 ∧ 0 ≤ t.time ∧ t.time ≤ 10000 ∧ spOk t.x t.y = true ∧ 1 ≤ t.lay.length ∧ t.lay.length ≤ 8 ∧ lyGood t.lay = true := by
  rw [ctOk_def] at h
  simp only [Bool.and_eq_true, inB_true] at h
  obtain ⟨⟨⟨⟨h1, h2⟩, h3⟩, h4⟩, h5⟩ := h
  exact ⟨by omega, by omega, by omega, by omega, h3, by omega, by omega, h5⟩
end Go.Proofs.Ytfmlfeokdaahmaa
