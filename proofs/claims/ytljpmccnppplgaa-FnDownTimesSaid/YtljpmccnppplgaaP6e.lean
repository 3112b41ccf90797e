/- What the law on times asks of the answers: times, depths, bends. Lists and numbers alone. -/
import Derived.Test.YtljpmccnppplgaaP6d
import Derived.Test.YtljpmccnppplgaaX6e
import Derived.Test.YtljpmccnppplgaaX6g
set_option linter.unusedVariables false
set_option linter.unusedSimpArgs false
namespace Go.Proofs.Ytljpmccnppplgaa
theorem daC_find {l : List St} {t : Int} (h : daC l t = true) : stGood l = true ∧ 0 ≤ t ∧ t ≤ 200 ∧ ∃ k, k < l.length ∧ daRun l t k ∧ stopAt l t k ∧ (∀ i, i < k → ¬ stopAt l t i) ∧ daA l t = (daAt l t k).1 ∧ daB l t = (daAt l t k).2 := by
  have h' := h
  unfold daC daOut at h'
  split at h'
  · rename_i g
    obtain ⟨g1, g2⟩ := Bool.and_eq_true_iff.1 g
    have q := inB_true.1 g2
    obtain ⟨⟨a, b⟩, hr⟩ := Option.isSome_iff_exists.1 h'
    obtain ⟨ha, hb, _⟩ := da_some g hr
    obtain ⟨j, _, hj, hs, hn, he⟩ := daGo_find g1 l.length 0 (by omega) hr
    refine ⟨g1, q.1, q.2, j, hj, da_nonneg g1 q.1 q.2 j hj (fun i hi => hn i (by omega) hi), hs, fun i hi => hn i (by omega) hi, ?_, ?_⟩
    · rw [ha, ← he]
    · rw [hb, ← he]
  · cases h'
theorem daC_of {l : List St} (g1 : stGood l = true) {t : Int} (h0 : 0 ≤ t) (h1 : t ≤ 200) {k : Nat} (hk : k < l.length) (hs : stopAt l t k) : daC l t = true := by
  obtain ⟨r, hr⟩ := daGo_some g1 hk hs l.length 0 (by omega) (by omega)
  exact (da_some (a := r.1) (b := r.2) (by rw [g1, Bool.true_and, inB_true]; omega) hr).2.2
theorem dn_facts {l : List St} {t : Int} (h : daC l t = true) : 0 ≤ t ∧ t ≤ 200 ∧ 0 ≤ daA l t ∧ 1 ≤ daB l t ∧ daB l t ≤ 83521000000000 ∧ daA l t ≤ tdA l * daB l t ∧ tdB l = true ∧ 1 ≤ tdA l ∧ tdA l ≤ 25000 ∧
    dwB l (daA l t / daB l t) = true ∧ dwN l (daA l t / daB l t) ≤ t * dwD l (daA l t / daB l t) ∧ 1 ≤ dwD l (daA l t / daB l t) ∧ dwD l (daA l t / daB l t) ≤ 14198570000000000 ∧ 0 ≤ daA l t / daB l t ∧ daA l t / daB l t ≤ 25000 := by
  obtain ⟨g1, t0, t1, k, hk, hr, hs, hn, ha, hb⟩ := daC_find h
  obtain ⟨f1, f2, f3, f4, f5, f6⟩ := daAt_facts g1 hk hr hs
  obtain ⟨i1, i2⟩ := time_back g1 hk hr hs
  have hm := totK_mono g1 (k + 1) l.length (by omega) (Nat.le_refl _)
  have tb := tot_bd g1
  have eA : tdA l = totK l l.length := by unfold tdA; rw [if_pos g1, tot_def]
  have eB : tdB l = true := by unfold tdB; exact g1
  rw [← ha, ← hb] at i1 i2
  rw [← ha] at f1 f4 f5
  rw [← hb] at f2 f3 f4 f5
  have hq := inB_true.1 i1
  rw [tot_def] at tb
  generalize daA l t / daB l t = q at *
  have hg : (stGood l && inB q 0 (tot l)) = true := by rw [g1, tot_def, i1]; rfl
  have eN : dwN l q = (dtN l q l.length).1 := by unfold dwN; rw [if_pos hg]
  have eD : dwD l q = (dtN l q l.length).2 := by unfold dwD; rw [if_pos hg]
  have eW : dwB l q = true := by unfold dwB; exact hg
  have hd := dt_bd g1 (d := q) l.length (Nat.le_refl _)
  have h5 := stGood_len g1
  have hpw : pw l.length ≤ 14198570000000000 := by
    match l.length, h5 with
    | 1, _ | 2, _ | 3, _ | 4, _ | 5, _ => decide
  rw [eA, eN, eD]
  refine ⟨t0, t1, f1, by omega, f3, ?_, eB, tb.1, tb.2, eW, i2, by omega, by omega, hq.1, by omega⟩
  have := Int.mul_le_mul_of_nonneg_right hm (show 0 ≤ daB l t by omega)
  omega
theorem dn_less {l : List St} {t : Int} (h : daC l t = true) (ht : 0 < t) : daC l (t - 1) = true ∧ daA l (t - 1) / daB l (t - 1) ≤ daA l t / daB l t := by
  obtain ⟨g1, t0, t1, k, hk, hr, hs, hn, ha, hb⟩ := daC_find h
  have hs' := stop_mono g1 (show t - 1 ≤ t by omega) hk hs
  have hC := daC_of g1 (show 0 ≤ t - 1 by omega) (by omega) hk hs'
  obtain ⟨_, _, _, j, hj, hr2, hs2, hn2, ha2, hb2⟩ := daC_find hC
  have hjk : j ≤ k := by
    rcases Nat.lt_or_ge k j with h | h
    · exact absurd hs' (hn2 k h)
    · exact h
  refine ⟨hC, ?_⟩
  rw [ha, hb, ha2, hb2]
  exact depth_mono g1 (by omega) hjk hk hr hs hr2 hs2
/-- A time straight down: not negative, none at no depth alone. -/
theorem dw_facts {l : List St} {d : Int} (h : dwB l d = true) : 0 ≤ dwN l d ∧ (dwN l d = 0 ↔ d = 0) := by
  have h' := h
  unfold dwB at h'
  have h2 := h'
  rw [Bool.and_eq_true_iff, tot_def, inB_true] at h2
  have eN : dwN l d = (dtN l d l.length).1 := by unfold dwN; rw [if_pos h']
  rw [eN]
  exact ⟨(dt_bd h2.1 l.length (Nat.le_refl _)).2.2.1, dt_zero h2.1 h2.2.1 h2.2.2⟩
/-- The bend below layer k and the slopes in the layers. -/
theorem bend_facts {l : List St} {k : Nat} (hk : k < (bdL l).length) : k + 1 < l.length ∧ siB l k 1 1 = true ∧ siB l (k + 1 : Nat) 1 1 = true ∧
    0 ≤ siN l k 1 1 ∧ siN l k 1 1 ≤ 1700 ∧ 1 ≤ siD l k 1 1 ∧ siD l k 1 1 ≤ 1700 ∧ 0 ≤ siN l (k + 1 : Nat) 1 1 ∧ siN l (k + 1 : Nat) 1 1 ≤ 1700 ∧ 1 ≤ siD l (k + 1 : Nat) 1 1 ∧ siD l (k + 1 : Nat) 1 1 ≤ 1700 ∧
    (decide (0 < (bdL l)[k]) = decide (siN l k 1 1 * siD l (k + 1 : Nat) 1 1 < siN l (k + 1 : Nat) 1 1 * siD l k 1 1)) ∧
    (decide ((bdL l)[k] < 0) = decide (siN l (k + 1 : Nat) 1 1 * siD l k 1 1 < siN l k 1 1 * siD l (k + 1 : Nat) 1 1)) := by
  by_cases g1 : stGood l = true
  · have e : bdL l = bendL l := bdL_yes g1
    simp only [e] at hk ⊢
    rw [bendL_get hk, cmpI_def]
    rw [bendL_length] at hk
    have hl : k + 1 < l.length := by omega
    have hsl : slopeOk 1 1 = true := by rw [slopeOk_def, inB_true.2 (by omega), inB_true.2 (by omega)]; rfl
    have s1 : slOk l k 1 1 = true := by rw [slOk_def, g1, hsl, inB_true.2 (by omega)]; rfl
    have s2 : slOk l (k + 1 : Nat) 1 1 = true := by rw [slOk_def, g1, hsl, inB_true.2 (by omega)]; rfl
    unfold siN siD siB
    rw [if_pos s1, if_pos s2, if_pos s1, if_pos s2, Int.toNat_natCast, Int.toNat_natCast, Int.one_mul, Int.one_mul, Int.one_mul]
    have q0 := stGood_at g1 (show 0 < l.length by omega)
    have q1 := stGood_at g1 (show k < l.length by omega)
    have q2 := stGood_at g1 hl
    have p1 := redD_pos (a := sp l k) (b := sp l 0) (by omega)
    have p2 := redD_pos (a := sp l (k + 1)) (b := sp l 0) (by omega)
    have l1 := redD_le (a := sp l k) (b := sp l 0) (by omega)
    have l2 := redD_le (a := sp l (k + 1)) (b := sp l 0) (by omega)
    have c1 := red_cross (a := sp l k) (b := sp l 0)
    have c2 := red_cross (a := sp l (k + 1)) (b := sp l 0)
    have n1 := redN_nonneg (a := sp l k) (b := sp l 0) (by omega) (by omega)
    have n2 := redN_nonneg (a := sp l (k + 1)) (b := sp l 0) (by omega) (by omega)
    have m1 := redN_le (a := sp l k) (b := sp l 0) (by omega) (by omega)
    have m2 := redN_le (a := sp l (k + 1)) (b := sp l 0) (by omega) (by omega)
    have key : ∀ x y : Int, 0 ≤ x → 0 ≤ y → (redN x (sp l 0) * redD y (sp l 0) < redN y (sp l 0) * redD x (sp l 0) ↔ x < y) := by
      intro x y _ _
      have a1 := redD_pos (a := x) (b := sp l 0) (by omega)
      have a2 := redD_pos (a := y) (b := sp l 0) (by omega)
      have d1 := red_cross (a := x) (b := sp l 0)
      have d2 := red_cross (a := y) (b := sp l 0)
      generalize redN x (sp l 0) = X at *
      generalize redN y (sp l 0) = Y at *
      generalize redD x (sp l 0) = U at *
      generalize redD y (sp l 0) = V at *
      have hs : 0 < sp l 0 := by omega
      generalize sp l 0 = s at *
      have hUV : 0 < U * V := Int.mul_pos a1 a2
      have e1 : X * V * s = x * (U * V) := by grind
      have e2 : Y * U * s = y * (U * V) := by grind
      constructor
      · intro h
        have := Int.mul_lt_mul_of_pos_right h hs
        rw [e1, e2] at this
        exact Int.lt_of_mul_lt_mul_right this (by omega)
      · intro h
        have := Int.mul_lt_mul_of_pos_right h hUV
        rw [← e1, ← e2] at this
        exact Int.lt_of_mul_lt_mul_right this (by omega)
    have k1 := key (sp l k) (sp l (k + 1)) (by omega) (by omega)
    have k2 := key (sp l (k + 1)) (sp l k) (by omega) (by omega)
    refine ⟨hl, s1, s2, n1, by omega, by omega, by omega, n2, by omega, by omega, by omega, ?_, ?_⟩
    · rw [decide_eq_decide, k1]; split
      · omega
      · split <;> omega
    · rw [decide_eq_decide, k2]; split
      · omega
      · split <;> omega
  · rw [bdL_no (by simpa using g1)] at hk; simp at hk
end Go.Proofs.Ytljpmccnppplgaa
