/- The first place in a list at which a test holds, as a number; -1 if there is none. Lists and numbers alone. -/
import Derived.Test.YtfmlfeokdaahmaaBase
set_option linter.unusedVariables false
set_option linter.unusedSimpArgs false
namespace Go.Proofs.Ytfmlfeokdaahmaa
@[irreducible] def fnd {α : Type} (p : α → Bool) (l : List α) : Int := match l.findIdx? p with | some i => (i : Int) | none => -1
theorem fnd_hit {α : Type} {p : α → Bool} {l : List α} {k : Nat} (hk : k < l.length) (h : ∀ m (hm : m < k), p (l[m]'(by omega)) = false) (hp : p l[k] = true) : fnd p l = k := by
  have : l.findIdx? p = some k := by
    rw [List.findIdx?_eq_some_iff_getElem]
    exact ⟨hk, hp, fun j hj => by simp [h j hj]⟩
  unfold fnd; rw [this]
theorem fnd_end {α : Type} {p : α → Bool} {l : List α} (h : ∀ m (hm : m < l.length), p l[m] = false) : fnd p l = -1 := by
  have : l.findIdx? p = none := by
    rw [List.findIdx?_eq_none_iff]
    intro x hx
    obtain ⟨m, hm, rfl⟩ := List.mem_iff_getElem.1 hx
    exact h m hm
  unfold fnd; rw [this]
theorem fnd_cases {α : Type} (p : α → Bool) (l : List α) : fnd p l = -1 ∨ ∃ k, ∃ hk : k < l.length, fnd p l = k ∧ p l[k] = true ∧ ∀ m (hm : m < k), p (l[m]'(by omega)) = false := by
  unfold fnd
  split
  · rename_i i hi
    right
    rw [List.findIdx?_eq_some_iff_getElem] at hi
    obtain ⟨hk, hp, hm⟩ := hi
    exact ⟨i, hk, rfl, hp, fun j hj => by simpa using hm j hj⟩
  · exact .inl rfl
end Go.Proofs.Ytfmlfeokdaahmaa
