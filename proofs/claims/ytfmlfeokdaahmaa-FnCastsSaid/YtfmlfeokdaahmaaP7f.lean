/- Plain facts on lists of casts: the nearest cast within a time. Lists and numbers alone. -/
import Derived.Test.YtfmlfeokdaahmaaP7d
set_option linter.unusedVariables false
set_option linter.unusedSimpArgs false
namespace Go.Proofs.Ytfmlfeokdaahmaa
/-- The nearest so far: its Id and its distance (0 and -1 while there is none). -/
def nrK (l : List Ct) (sx sy tm wi : Int) : Nat → Int × Int
  | 0 => (0, -1)
  | k + 1 => if inB ((cti l k).time - tm) (-wi) wi = true ∧ ((nrK l sx sy tm wi k).2 < 0 ∨ sqr (cti l k).x (cti l k).y sx sy < (nrK l sx sy tm wi k).2) then ((cti l k).id, sqr (cti l k).x (cti l k).y sx sy) else nrK l sx sy tm wi k
@[irreducible] def nrI (l : List Ct) (sx sy tm wi : Int) (k : Nat) : Int := (nrK l sx sy tm wi k).1
@[irreducible] def nrL (l : List Ct) (sx sy tm wi : Int) (k : Nat) : Int := (nrK l sx sy tm wi k).2
/-- The distance as the program keeps it: 0 while there is none. -/
@[irreducible] def nrM (l : List Ct) (sx sy tm wi : Int) (k : Nat) : Int := if nrI l sx sy tm wi k = 0 then 0 else nrL l sx sy tm wi k
theorem nr_zero (l : List Ct) (sx sy tm wi : Int) : nrI l sx sy tm wi 0 = 0 ∧ nrL l sx sy tm wi 0 = -1 ∧ nrM l sx sy tm wi 0 = 0 := by
  have h : nrI l sx sy tm wi 0 = 0 := by unfold nrI; rfl
  exact ⟨h, by unfold nrL; rfl, by unfold nrM; rw [if_pos h]⟩
theorem nr_yes {l : List Ct} {sx sy tm wi : Int} {k : Nat} (h : inB ((cti l k).time - tm) (-wi) wi = true) (h2 : nrL l sx sy tm wi k < 0 ∨ sqr (cti l k).x (cti l k).y sx sy < nrL l sx sy tm wi k) (h3 : 1 ≤ (cti l k).id) :
    nrI l sx sy tm wi (k + 1) = (cti l k).id ∧ nrL l sx sy tm wi (k + 1) = sqr (cti l k).x (cti l k).y sx sy ∧ nrM l sx sy tm wi (k + 1) = sqr (cti l k).x (cti l k).y sx sy := by
  have e : nrK l sx sy tm wi (k + 1) = ((cti l k).id, sqr (cti l k).x (cti l k).y sx sy) := by
    unfold nrL at h2
    rw [nrK, if_pos ⟨h, h2⟩]
  have e1 : nrI l sx sy tm wi (k + 1) = (cti l k).id := by unfold nrI; rw [e]
  have e2 : nrL l sx sy tm wi (k + 1) = sqr (cti l k).x (cti l k).y sx sy := by unfold nrL; rw [e]
  exact ⟨e1, e2, by unfold nrM; rw [if_neg (by omega), e2]⟩
theorem nr_no {l : List Ct} {sx sy tm wi : Int} {k : Nat} (h : inB ((cti l k).time - tm) (-wi) wi = false ∨ ¬ (nrL l sx sy tm wi k < 0 ∨ sqr (cti l k).x (cti l k).y sx sy < nrL l sx sy tm wi k)) :
    nrI l sx sy tm wi (k + 1) = nrI l sx sy tm wi k ∧ nrL l sx sy tm wi (k + 1) = nrL l sx sy tm wi k ∧ nrM l sx sy tm wi (k + 1) = nrM l sx sy tm wi k := by
  have e : nrK l sx sy tm wi (k + 1) = nrK l sx sy tm wi k := by
    unfold nrL at h
    rw [nrK, if_neg (by rintro ⟨a, b⟩; rcases h with h | h; (rw [h] at a; cases a); exact h b)]
  have e1 : nrI l sx sy tm wi (k + 1) = nrI l sx sy tm wi k := by unfold nrI; rw [e]
  have e2 : nrL l sx sy tm wi (k + 1) = nrL l sx sy tm wi k := by unfold nrL; rw [e]
  exact ⟨e1, e2, by unfold nrM; rw [e1, e2]⟩
theorem sqr7_bd {a b c d : Int} (h1 : spOk a b = true) (h2 : spOk c d = true) : 0 ≤ sqr a b c d ∧ sqr a b c d ≤ 2000000 := by
  rw [spOk_def, Bool.and_eq_true, inB_true, inB_true] at h1 h2
  have q1 := sq_bd (a := a) (c := c) (by omega) (by omega) (by omega) (by omega)
  have q2 := sq_bd (a := b) (c := d) (by omega) (by omega) (by omega) (by omega)
  rw [sqr_def]; omega
/-- None so far: 0 and -1; or a cast: an Id of 1 or more and a distance of 0 or more. -/
theorem nr_two {l : List Ct} {sx sy tm wi : Int} (hs : spOk sx sy = true) (hg : ∀ k, k < l.length → ctOk (cti l k) = true) : ∀ k, k ≤ l.length →
    (nrI l sx sy tm wi k = 0 ∧ nrL l sx sy tm wi k = -1) ∨ (1 ≤ nrI l sx sy tm wi k ∧ 0 ≤ nrL l sx sy tm wi k ∧ nrL l sx sy tm wi k ≤ 2000000) := by
  intro k
  induction k with
  | zero => intro _; have := nr_zero l sx sy tm wi; exact .inl ⟨this.1, this.2.1⟩
  | succ k ih =>
    intro hk
    have q := ctOk_bd (hg k (by omega))
    have b := sqr7_bd q.2.2.2.2.1 hs
    by_cases hc : inB ((cti l k).time - tm) (-wi) wi = true ∧ (nrL l sx sy tm wi k < 0 ∨ sqr (cti l k).x (cti l k).y sx sy < nrL l sx sy tm wi k)
    · obtain ⟨e1, e2, _⟩ := nr_yes hc.1 hc.2 q.1
      right; rw [e1, e2]; exact ⟨q.1, b.1, b.2⟩
    · obtain ⟨e1, e2, _⟩ := nr_no (l := l) (sx := sx) (sy := sy) (tm := tm) (wi := wi) (k := k) (by
        cases hb : inB ((cti l k).time - tm) (-wi) wi with
        | false => exact .inl rfl
        | true => exact .inr fun h => hc ⟨hb, h⟩)
      rw [e1, e2]; exact ih (by omega)
theorem ctsGood_all {l : List Ct} (h : ctsGood l = true) : ∀ k, k < l.length → ctOk (cti l k) = true := fun k hk => by rw [cti_of hk]; exact ctsGood_at h hk
theorem ab_inB (n w : Int) : inB n (-w) w = decide (ab n ≤ w) := by
  by_cases h : ab n ≤ w
  · rw [decide_eq_true h, inB_true]; unfold ab at h; omega
  · rw [decide_eq_false h, inB_false]; unfold ab at h; omega
@[irreducible] def nrOk (l : List Ct) (sx sy tm wi : Int) : Bool := ctsGood l && spOk sx sy && inB tm 0 10000 && inB wi 0 10000
@[irreducible] def nrV (l : List Ct) (sx sy tm wi : Int) : Int := if nrOk l sx sy tm wi then nrI l sx sy tm wi l.length else 0
@[irreducible] def nrB (l : List Ct) (sx sy tm wi : Int) : Bool := nrOk l sx sy tm wi && decide (0 < nrI l sx sy tm wi l.length)
theorem nr_bad {l : List Ct} {sx sy tm wi : Int} (h : ctsGood l = false ∨ spOk sx sy = false ∨ inB tm 0 10000 = false ∨ inB wi 0 10000 = false) : nrV l sx sy tm wi = 0 ∧ nrB l sx sy tm wi = false := by
  have : nrOk l sx sy tm wi = false := by unfold nrOk; rcases h with h | h | h | h <;> simp [h]
  unfold nrV nrB; simp [this]
theorem nr_good {l : List Ct} {sx sy tm wi : Int} (h1 : ctsGood l = true) (h2 : spOk sx sy = true) (h3 : inB tm 0 10000 = true) (h4 : inB wi 0 10000 = true) : nrV l sx sy tm wi = nrI l sx sy tm wi l.length ∧ nrB l sx sy tm wi = decide (0 < nrI l sx sy tm wi l.length) := by
  have : nrOk l sx sy tm wi = true := by unfold nrOk; simp [h1, h2, h3, h4]
  unfold nrV nrB; simp [this]
end Go.Proofs.Ytfmlfeokdaahmaa
