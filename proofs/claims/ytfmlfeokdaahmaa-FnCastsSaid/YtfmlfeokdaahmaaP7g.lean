/- Plain facts on casts: the cast with the layers of a like speed taken as one. Lists and numbers alone. -/
import Derived.Test.YtfmlfeokdaahmaaP7d
set_option linter.unusedVariables false
set_option linter.unusedSimpArgs false
namespace Go.Proofs.Ytfmlfeokdaahmaa
/-- Whether layer k is kept. -/
def keeps (l : List Ly) : Nat → Bool
  | 0 => true
  | k + 1 => !((lyi l k).spd == (lyi l (k + 1)).spd)
def thnK (l : List Ly) : Nat → List Ly
  | 0 => []
  | k + 1 => if keeps l k then thnK l k ++ [lyi l k] else thnK l k
theorem thnK_len (l : List Ly) : ∀ k, (thnK l k).length ≤ k
  | 0 => by simp [thnK]
  | k + 1 => by
    have := thnK_len l k
    rw [thnK]
    split
    · simp; omega
    · omega
theorem thnK_yes {l : List Ly} {k : Nat} (h : keeps l k = true) (hk : k < l.length) : thnK l (k + 1) = thnK l k ++ [l[k]] := by rw [thnK, if_pos h, lyi_of hk]
theorem thnK_no {l : List Ly} {k : Nat} (h : keeps l k = false) : thnK l (k + 1) = thnK l k := by rw [thnK, if_neg (by rw [h]; decide)]
@[irreducible] def thinC (t : Ct) : Ct := if ctOk t then { t with lay := thnK t.lay t.lay.length } else ⟨0, 0, 0, 0, []⟩
theorem thin_bad {t : Ct} (h : ctOk t = false) : thinC t = ⟨0, 0, 0, 0, []⟩ := by unfold thinC; rw [h]; rfl
theorem thin_good {t : Ct} (h : ctOk t = true) : thinC t = ⟨t.id, t.time, t.x, t.y, thnK t.lay t.lay.length⟩ := by unfold thinC; rw [h]; rfl
theorem thin_len (t : Ct) : (thinC t).lay.length ≤ 1048576 := by
  cases h : ctOk t with
  | false => rw [thin_bad h]; simp
  | true =>
    rw [thin_good h]
    have := thnK_len t.lay t.lay.length
    have := (ctOk_bd h).2.2.2.2.2.2.1
    show (thnK t.lay t.lay.length).length ≤ _
    omega
end Go.Proofs.Ytfmlfeokdaahmaa
