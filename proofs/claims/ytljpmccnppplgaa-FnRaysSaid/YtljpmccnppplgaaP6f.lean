/- What the law on rays asks of the answers: divided layers have the same run, the slope for a run has this run. Lists and numbers alone. -/
import Derived.Test.YtljpmccnppplgaaX6h
set_option linter.unusedVariables false
set_option linter.unusedSimpArgs false
namespace Go.Proofs.Ytljpmccnppplgaa
theorem th_appl {l : List St} {x : St} {k : Nat} (h : k < l.length) : th (l ++ [x]) k = th l k := by
  unfold th; rw [List.getElem?_append_left h]
theorem sp_appl {l : List St} {x : St} {k : Nat} (h : k < l.length) : sp (l ++ [x]) k = sp l k := by
  unfold sp; rw [List.getElem?_append_left h]
theorem th_last {l : List St} {x : St} : th (l ++ [x]) l.length = x.thick := by unfold th; simp
theorem sp_last {l : List St} {x : St} : sp (l ++ [x]) l.length = x.speed := by unfold sp; simp
theorem totK_appl {l : List St} {x : St} : ∀ k, k ≤ l.length → totK (l ++ [x]) k = totK l k
  | 0, _ => rfl
  | k + 1, h => by rw [totK, totK, totK_appl k (by omega), th_appl (by omega)]
theorem sumK_appl {l : List St} {x : St} {z : Int} : ∀ k, k ≤ l.length → sumK (l ++ [x]) z k = sumK l z k
  | 0, _ => rfl
  | k + 1, h => by rw [sumK, sumK, sumK_appl k (by omega), sp_appl (by omega), part_def, part_def, th_appl (by omega), totK_appl k (by omega)]
theorem totK_snoc {l : List St} {x : St} : totK (l ++ [x]) (l ++ [x]).length = totK l l.length + x.thick := by
  rw [List.length_append, List.length_singleton, totK, totK_appl _ (Nat.le_refl _), th_last]
theorem sumK_snoc {l : List St} {x : St} {z : Int} : sumK (l ++ [x]) z (l ++ [x]).length = sumK l z l.length + max 0 (min x.thick (z - totK l l.length)) * x.speed := by
  rw [List.length_append, List.length_singleton, sumK, sumK_appl _ (Nat.le_refl _), sp_last, part_def, th_last, totK_appl _ (Nat.le_refl _)]
theorem split_sums {l : List St} {z : Int} : ∀ k, k ≤ l.length → totK (splK l z k) (splK l z k).length = totK l k ∧ sumK (splK l z k) z (splK l z k).length = sumK l z k
  | 0, _ => by simp [splK, totK, sumK]
  | k + 1, hk => by
    obtain ⟨ih1, ih2⟩ := split_sums (l := l) (z := z) k (by omega)
    by_cases h : 0 < z - totK l k ∧ z - totK l k < th l k
    · rw [splK_two (by omega) h.1 h.2, show ∀ (a b : St) (L : List St), L ++ [a, b] = L ++ [a] ++ [b] by intros; simp]
      rw [totK_snoc, totK_snoc, sumK_snoc, sumK_snoc, totK_snoc, ih1, ih2, totK, sumK, part_def]
      refine ⟨by show _ + (z - totK l k) + (th l k - (z - totK l k)) = _; omega, ?_⟩
      show _ + max 0 (min (z - totK l k) (z - totK l k)) * sp l k + max 0 (min (th l k - (z - totK l k)) (z - (totK l k + (z - totK l k)))) * sp l k = _
      rw [show max 0 (min (z - totK l k) (z - totK l k)) = max 0 (min (th l k) (z - totK l k)) by omega, show max 0 (min (th l k - (z - totK l k)) (z - (totK l k + (z - totK l k)))) = 0 by omega, Int.zero_mul, Int.add_zero]
    · rw [splK_one (by omega) h, totK_snoc, sumK_snoc, ih1, ih2, totK, sumK, part_def]
      exact ⟨rfl, rfl⟩
theorem split_first {l : List St} {z : Int} : ∀ k, 0 < k → k ≤ l.length → 0 < (splK l z k).length ∧ sp (splK l z k) 0 = sp l 0
  | 0, h, _ => by omega
  | 1, _, hk => by
    by_cases h : 0 < z - totK l 0 ∧ z - totK l 0 < th l 0
    · rw [splK_two (by omega) h.1 h.2]; simp [splK, sp]
    · rw [splK_one (by omega) h]; simp [splK, sp]
  | k + 2, _, hk => by
    obtain ⟨i1, i2⟩ := split_first (l := l) (z := z) (k + 1) (by omega) (by omega)
    by_cases h : 0 < z - totK l (k + 1) ∧ z - totK l (k + 1) < th l (k + 1)
    · rw [splK_two (by omega) h.1 h.2, show ∀ (a b : St) (L : List St), L ++ [a, b] = L ++ [a] ++ [b] by intros; simp, sp_appl (by simp), sp_appl i1]
      exact ⟨by simp, i2⟩
    · rw [splK_one (by omega) h, sp_appl i1]
      exact ⟨by simp, i2⟩
/-- Dividing a layer changes no run. -/
theorem ray_split {l : List St} {n d z : Int} (h : rtB l n d z = true) (hs : spB l z = true) : rtB (spL l z) n d z = true ∧ rtN (spL l z) n d z = rtN l n d z ∧ rtD (spL l z) n d z = rtD l n d z := by
  have h' := h
  unfold rtB at h'
  have h1 := h'
  rw [rtOk_def, Bool.and_eq_true, Bool.and_eq_true] at h1
  obtain ⟨⟨g1, g2⟩, g3⟩ := h1
  have e := spL_yes hs
  obtain ⟨t1, t2⟩ := split_sums (l := l) (z := z) l.length (Nat.le_refl _)
  obtain ⟨f1, f2⟩ := split_first (l := l) (z := z) l.length (stGood_len g1).1 (Nat.le_refl _)
  have g4 : stGood (spL l z) = true := by
    unfold spB at hs
    rw [e]; exact (Bool.and_eq_true_iff.1 hs).2
  rw [← e] at t1 t2 f2
  have ok : rtOk (spL l z) n d z = true := by rw [rtOk_def, g4, g2, tot_def, t1, ← tot_def, g3]; rfl
  unfold rtB rtN rtD
  rw [if_pos ok, if_pos h', if_pos ok, if_pos h', t2, f2]
  exact ⟨ok, rfl, rfl⟩
/-- The slope for a run has this run. -/
theorem ray_slope {l : List St} {run : Int} (h : sfB l run = true) (hp : sfN l run ≤ 200) (hq : sfD l run ≤ 100) (hpq : sfN l run ≤ 2 * sfD l run) :
    tdB l = true ∧ rtB l (sfN l run) (sfD l run) (tdA l) = true ∧ rtN l (sfN l run) (sfD l run) (tdA l) = run ∧ rtD l (sfN l run) (sfD l run) (tdA l) = 1 := by
  have h' := h
  unfold sfB at h'
  have h1 := h'
  rw [sfOk_def, Bool.and_eq_true] at h1
  obtain ⟨g1, g2⟩ := h1
  have q1 := inB_true.1 g2
  have eN : sfN l run = redN (run * sp l 0) (wK l l.length) := by unfold sfN; rw [if_pos h']
  have eD : sfD l run = redD (run * sp l 0) (wK l l.length) := by unfold sfD; rw [if_pos h']
  have eA : tdA l = tot l := by unfold tdA; rw [if_pos g1]
  have eB : tdB l = true := by unfold tdB; exact g1
  have hs0 := stGood_at g1 (show 0 < l.length by have := stGood_len g1; omega)
  have hw := wK_pos g1
  have hc := red_cross (a := run * sp l 0) (b := wK l l.length)
  have hd := redD_pos (a := run * sp l 0) hw
  have hn := redN_nonneg (a := run * sp l 0) hw (Int.mul_nonneg q1.1 (by omega))
  have hsum := sumK_tot g1 l.length (Nat.le_refl _)
  have tb := tot_bd g1
  rw [← eN, ← eD] at hc
  rw [← eD] at hd
  rw [← eN] at hn
  rw [eA]
  generalize sfN l run = p at *
  generalize sfD l run = q at *
  have sl : slopeOk p q = true := by rw [slopeOk_def, inB_true.2 (by omega), inB_true.2 (by omega), decide_eq_true hpq]; rfl
  have ok : rtOk l p q (tot l) = true := by rw [rtOk_def, g1, sl, inB_true.2 (by omega)]; rfl
  unfold rtB rtN rtD
  rw [if_pos ok, if_pos ok, hsum]
  have := red_eq (a := p * wK l l.length) (b := q * sp l 0) (c := run) (d := 1) (Int.mul_pos hd (by omega)) (by omega) (by rw [hc]; grind)
  rw [redN_one, redD_one] at this
  exact ⟨eB, ok, this.1, this.2⟩
end Go.Proofs.Ytljpmccnppplgaa
