/- Plain facts on lists of casts: the last cast made by a time. Lists and numbers alone. -/
import Derived.Test.YtfmlfeokdaahmaaP7d
set_option linter.unusedVariables false
set_option linter.unusedSimpArgs false
namespace Go.Proofs.Ytfmlfeokdaahmaa
def cidK (l : List Ct) (tm : Int) : Nat → Int
  | 0 => 0
  | k + 1 => if (cti l k).time ≤ tm then (cti l k).id else cidK l tm k
@[irreducible] def caOk (l : List Ct) (tm : Int) : Bool := ctsGood l && inB tm 0 10000
@[irreducible] def caV (l : List Ct) (tm : Int) : Int := if caOk l tm then cidK l tm l.length else 0
@[irreducible] def caB (l : List Ct) (tm : Int) : Bool := caOk l tm && decide (0 < cidK l tm l.length)
theorem ca_bad {l : List Ct} {tm : Int} (h : ctsGood l = false ∨ inB tm 0 10000 = false) : caV l tm = 0 ∧ caB l tm = false := by
  have : caOk l tm = false := by unfold caOk; rcases h with h | h <;> simp [h]
  unfold caV caB; simp [this]
theorem ca_good {l : List Ct} {tm : Int} (h1 : ctsGood l = true) (h2 : inB tm 0 10000 = true) : caV l tm = cidK l tm l.length ∧ caB l tm = decide (0 < cidK l tm l.length) := by
  have : caOk l tm = true := by unfold caOk; simp [h1, h2]
  unfold caV caB; simp [this]
end Go.Proofs.Ytfmlfeokdaahmaa
