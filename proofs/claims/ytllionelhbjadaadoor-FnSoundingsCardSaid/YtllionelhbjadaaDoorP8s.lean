/- Plain facts on soundings: whatever all agree on each pair agrees on; to agree is the same both ways. Lists and numbers alone. -/
import Derived.Test.YtllionelhbjadaaDoorP8b
set_option linter.unusedVariables false
set_option linter.unusedSimpArgs false
namespace Go.Proofs.YtllionelhbjadaaDoor
theorem sd_asc {l : List Sd} (h : sdGood l = true) {i : Nat} : ∀ {j : Nat}, (hij : i < j) → (hj : j < l.length) → (l[i]'(by omega)).id < l[j].id
  | 0, hij, _ => by omega
  | j + 1, hij, hj => by
    have h1 := sdGood_asc h hj
    by_cases e : i = j
    · subst e; exact h1
    · have := sd_asc h (show i < j by omega) (show j < l.length by omega)
      exact Int.lt_trans this h1
theorem fnd_sd {l : List Sd} (h : sdGood l = true) {k : Nat} (hk : k < l.length) : fnd (isId l[k].id) l = k :=
  fnd_hit hk (fun m hm => by
    have := sd_asc h hm hk
    simp [isId]; omega) (by simp [isId])
theorem lowK_ge (l : List Sd) : ∀ k m, m < k → (sdi l m).depth - (sdi l m).doubt ≤ lowK l k
  | 0, _, h => by omega
  | k + 1, m, h => by
    rw [lowK]
    by_cases e : m = k
    · subst e; omega
    · have := lowK_ge l k m (by omega)
      omega
theorem highK_le (l : List Sd) : ∀ k m, m < k → highK l k ≤ (sdi l m).depth + (sdi l m).doubt
  | 0, _, h => by omega
  | k + 1, m, h => by
    rw [highK]
    by_cases e : m = k
    · subst e; omega
    · have := highK_le l k m (by omega)
      omega
theorem aa_pairs {l : List Sd} (h : aaOk l = true) {i : Nat} (hi : i + 1 < l.length) : agOk l (l[i]'(by omega)).id l[i + 1].id = true ∧ agB l (l[i]'(by omega)).id l[i + 1].id = true ∧ ¬ aaH l < aaL l := by
  have h1 := h
  unfold aaOk at h1
  simp only [Bool.and_eq_true, decide_eq_true_eq] at h1
  obtain ⟨⟨g, g0⟩, g1⟩ := h1
  have i0 : i < l.length := by omega
  obtain ⟨a1, a2⟩ := ag_good g (fnd_sd g i0) (fnd_sd g hi) i0 hi
  have p1 := lowK_ge l l.length i i0
  have p2 := lowK_ge l l.length (i + 1) hi
  have q1 := highK_le l l.length i i0
  have q2 := highK_le l l.length (i + 1) hi
  rw [sdi_of i0] at p1 q1
  rw [sdi_of hi] at p2 q2
  obtain ⟨_, e1, e2⟩ := aa_good g g0 g1
  refine ⟨a1, ?_, by rw [e1, e2]; omega⟩
  rw [a2, decide_eq_true_eq]
  omega
theorem ag_sym (l : List Sd) (a b : Int) : agOk l b a = agOk l a b ∧ agB l b a = agB l a b := by
  have h : agOk l b a = agOk l a b := by
    unfold agOk
    cases sdGood l <;> cases decide (0 ≤ fnd (isId a) l) <;> cases decide (0 ≤ fnd (isId b) l) <;> rfl
  refine ⟨h, ?_⟩
  unfold agB
  rw [h]
  dsimp only
  rw [Int.max_comm, Int.min_comm]
end Go.Proofs.YtllionelhbjadaaDoor
