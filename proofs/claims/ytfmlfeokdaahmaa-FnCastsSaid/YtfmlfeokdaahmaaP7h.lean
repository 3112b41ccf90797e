/- Plain facts on two casts: whether their speeds are within a bound at all depths of their layers. Lists and numbers alone. -/
import Derived.Test.YtfmlfeokdaahmaaP7d
set_option linter.unusedVariables false
set_option linter.unusedSimpArgs false
namespace Go.Proofs.Ytfmlfeokdaahmaa
theorem spdK_bd {l : List Ly} {d : Int} (h : lyGood l = true) : ∀ k, k ≤ l.length → 0 ≤ spdK l d k ∧ spdK l d k ≤ 16000
  | 0, _ => by simp [spdK]
  | k + 1, hk => by
    have ih := spdK_bd (d := d) h k (by omega)
    have b := lyAt_bd (show k < l.length by omega) (lyGood_at h (show k < l.length by omega))
    rw [spdK, lyi_of (show k < l.length by omega)]
    split <;> omega
def dif (t u : Ct) (d : Int) : Int := spdK t.lay d t.lay.length - spdK u.lay d u.lay.length
theorem dif_def (t u : Ct) (d : Int) : spdK t.lay d t.lay.length - spdK u.lay d u.lay.length = dif t u d := rfl
@[irreducible] def slAt (t u : Ct) (wi : Int) (k : Nat) : Bool := inB (dif t u (lyi (t.lay ++ u.lay) k).dep) (-wi) wi
theorem slAt_of {t u : Ct} {wi : Int} {k : Nat} (h : k < (t.lay ++ u.lay).length) : slAt t u wi k = inB (dif t u (t.lay ++ u.lay)[k].dep) (-wi) wi := by unfold slAt; rw [lyi_of h]
@[irreducible] def slAll (t u : Ct) (wi : Int) : Bool := (List.range (t.lay ++ u.lay).length).all (slAt t u wi)
theorem slAll_bad {t u : Ct} {wi : Int} {k : Nat} (hk : k < (t.lay ++ u.lay).length) (h : slAt t u wi k = false) : slAll t u wi = false := by
  unfold slAll; rw [List.all_eq_false]; exact ⟨k, by simpa using hk, by simp [h]⟩
theorem slAll_end {t u : Ct} {wi : Int} (h : ∀ k, k < (t.lay ++ u.lay).length → slAt t u wi k = true) : slAll t u wi = true := by
  unfold slAll; rw [List.all_eq_true]; exact fun k hk => h k (by simpa using hk)
@[irreducible] def slOk (t u : Ct) (wi : Int) : Bool := ctOk t && ctOk u && inB wi 0 2000
@[irreducible] def slV (t u : Ct) (wi : Int) : Bool := slOk t u wi && slAll t u wi
theorem sl_bad {t u : Ct} {wi : Int} (h : ctOk t = false ∨ ctOk u = false ∨ inB wi 0 2000 = false) : slV t u wi = false ∧ slOk t u wi = false := by
  have : slOk t u wi = false := by unfold slOk; rcases h with h | h | h <;> simp [h]
  unfold slV; simp [this]
theorem sl_good {t u : Ct} {wi : Int} (h1 : ctOk t = true) (h2 : ctOk u = true) (h3 : inB wi 0 2000 = true) : slV t u wi = slAll t u wi ∧ slOk t u wi = true := by
  have : slOk t u wi = true := by unfold slOk; simp [h1, h2, h3]
  unfold slV; simp [this]
end Go.Proofs.Ytfmlfeokdaahmaa
