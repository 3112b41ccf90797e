/- What the law on support asks of the answers. Lists and numbers alone. -/
import Derived.Test.YthnoknmijelcmaaP8c
import Derived.Test.YthnoknmijelcmaaW8i
set_option linter.unusedVariables false
set_option linter.unusedSimpArgs false
namespace Go.Proofs.Ythnoknmijelcmaa
theorem bst_least {p : Sd → Bool} {l : List Sd} {k : Nat} (hk : k < l.length) (hp : p l[k] = true) : ∀ n, n ≤ l.length → k < n → 0 ≤ bstK p l n ∧ low (sdi l (bstK p l n).toNat) ≤ low l[k]
  | 0, _, h => by omega
  | n + 1, hn, hkn => by
    rw [bstK]
    by_cases e : k = n
    · subst e
      by_cases c : p (sdi l k) = true ∧ (bstK p l k < 0 ∨ low (sdi l k) < low (sdi l (bstK p l k).toNat))
      · rw [if_pos c, Int.toNat_natCast, sdi_of hk]; omega
      · rw [if_neg c]
        have h1 : p (sdi l k) = true := by rw [sdi_of hk]; exact hp
        have h2 : ¬ (bstK p l k < 0 ∨ low (sdi l k) < low (sdi l (bstK p l k).toNat)) := fun h => c ⟨h1, h⟩
        rw [sdi_of hk] at h2
        omega
    · obtain ⟨i1, i2⟩ := bst_least hk hp n (by omega) (by omega)
      by_cases c : p (sdi l n) = true ∧ (bstK p l n < 0 ∨ low (sdi l n) < low (sdi l (bstK p l n).toNat))
      · rw [if_pos c, Int.toNat_natCast]; omega
      · rw [if_neg c]; exact ⟨i1, i2⟩
theorem su_each {l : List Sd} {px py r : Int} (h : suOk l px py r = true) {k : Nat} (hk : k < l.length) : spOk l[k].x l[k].y = true ∧ spOk px py = true ∧ 0 ≤ r ∧ r ≤ 1000 ∧ -1000 ≤ l[k].depth ∧ l[k].depth ≤ 20000 ∧ 0 ≤ l[k].doubt ∧ l[k].doubt ≤ 500 ∧
    (sqr l[k].x l[k].y px py ≤ r * r → suV l px py r ≤ l[k].depth - l[k].doubt) := by
  have h1 := h
  unfold suOk at h1
  rw [Bool.and_eq_true, Bool.and_eq_true, Bool.and_eq_true, inB_true] at h1
  obtain ⟨⟨⟨g, g2⟩, g3⟩, g4⟩ := h1
  have o := sdGood_at g hk
  have b := sdOk_bd o
  refine ⟨by rw [spOk_def, inB_true.2 (by omega), inB_true.2 (by omega)]; rfl, g2, g3.1, g3.2, by omega, by omega, by omega, by omega, fun hs => ?_⟩
  have := (bst_least (p := nearP px py r) hk (by simp only [nearP, decide_eq_true_eq]; exact hs) l.length (Nat.le_refl _) hk).2
  unfold suV
  rw [if_pos h]
  exact this
theorem ds_low {l : List Sd} {d u : Int} : ∀ k, k ≤ l.length → dsK (loM l d u) k = dsK l k + k * d
  | 0, _ => by simp [dsK]
  | k + 1, hk => by
    rw [dsK, dsK, ds_low k (by omega), sdi_of (show k < l.length by omega), sdi_of (show k < (loM l d u).length by simp [loM]; omega)]
    simp only [loM, List.getElem_map, loS]
    rw [show ((k + 1 : Nat) : Int) = (k : Int) + 1 by omega, Int.add_mul]
    omega
theorem lower_mean {l : List Sd} {d u : Int} (h : loB l d u = true) (h0 : 0 < l.length) : mdOk l = true ∧ mdOk (loL l d u) = true ∧ mdN (loL l d u) * mdD l = (mdN l + d * mdD l) * mdD (loL l d u) ∧
    1 ≤ mdD l ∧ mdD l ≤ 12 ∧ 1 ≤ mdD (loL l d u) ∧ mdD (loL l d u) ≤ 12 ∧ -12000 ≤ mdN l ∧ mdN l ≤ 240000 ∧ -12000 ≤ mdN (loL l d u) ∧ mdN (loL l d u) ≤ 240000 ∧ -30000 ≤ d ∧ d ≤ 30000 := by
  have h1 := h
  unfold loB at h1
  rw [Bool.and_eq_true, Bool.and_eq_true, Bool.and_eq_true, inB_true, inB_true] at h1
  obtain ⟨⟨⟨g, g2⟩, g3⟩, g4⟩ := h1
  have e : loL l d u = loM l d u := by unfold loL; rw [if_pos h]
  have hlen : (loM l d u).length = l.length := by simp [loM]
  rw [e]
  obtain ⟨a1, a2, a3⟩ := md_good g h0
  obtain ⟨b1, b2, b3⟩ := md_good g4 (by omega)
  have hS := ds_low (l := l) (d := d) (u := u) l.length (Nat.le_refl _)
  have s1 := dsK_bd g l.length (Nat.le_refl _)
  have s2 := dsK_bd g4 l.length (by omega)
  rw [hlen] at b2 b3
  have hl := sdGood_len g
  have hn : (0 : Int) < (l.length : Int) := by omega
  have c1 := red_cross (a := dsK l l.length) (b := l.length)
  have c2 := red_cross (a := dsK (loM l d u) l.length) (b := l.length)
  have p1 := redD_pos (a := dsK l l.length) hn
  have p2 := redD_pos (a := dsK (loM l d u) l.length) hn
  have l1 := redD_le (a := dsK l l.length) hn
  have l2 := redD_le (a := dsK (loM l d u) l.length) hn
  have rb : ∀ S : Int, -1000 * l.length ≤ S → S ≤ 20000 * l.length → -12000 ≤ redN S l.length ∧ redN S l.length ≤ 240000 := by
    intro S h1 h2
    rcases Int.lt_or_le S 0 with h | h
    · have x1 := redN_ge (a := S) hn (by omega)
      have x2 := (redN_neg (a := S) hn).2 h
      omega
    · have x1 := redN_le (a := S) hn h
      have x2 := redN_nonneg (a := S) hn h
      omega
  have r1 := rb _ s1.1 s1.2
  have r2 := rb _ s2.1 s2.2
  rw [a2, a3, b2, b3]
  refine ⟨a1, b1, ?_, by omega, by omega, by omega, by omega, r1.1, r1.2, r2.1, r2.2, g2.1, g2.2⟩
  rw [hS] at c2 ⊢
  generalize redN (dsK l l.length + l.length * d) l.length = X at *
  generalize redD (dsK l l.length + l.length * d) l.length = Y at *
  generalize redN (dsK l l.length) l.length = U at *
  generalize redD (dsK l l.length) l.length = V at *
  generalize dsK l l.length = S at *
  generalize (l.length : Int) = n at *
  refine Int.eq_of_mul_eq_mul_right (show n ≠ 0 by omega) ?_
  grind
end Go.Proofs.Ythnoknmijelcmaa
