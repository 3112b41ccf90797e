/- What the law on casts asks of the answers: the told depth, and the thinner cast. Lists and numbers alone. -/
import Derived.Test.YtfmlfeokdaahmaaP7c
import Derived.Test.YtfmlfeokdaahmaaP7g
import Derived.Test.YtfmlfeokdaahmaaP7i
import Derived.Test.YtfmlfeokdaahmaaW7d
set_option linter.unusedVariables false
set_option linter.unusedSimpArgs false
namespace Go.Proofs.Ytfmlfeokdaahmaa
theorem dfK_by {l : List Ly} {m : Int} (h0 : trv l 0 ≤ m) : ∀ n : Nat, 0 ≤ dfK l m n ∧ dfK l m n ≤ n ∧ trv l (dfK l m n) ≤ m ∧ (dfK l m n < n → m < trv l (dfK l m n + 1))
  | 0 => by simp [dfK]; exact h0
  | n + 1 => by
    obtain ⟨i1, i2, i3, i4⟩ := dfK_by h0 n
    rw [dfK]
    split
    · rename_i h
      exact ⟨by omega, by omega, h, fun hlt => by omega⟩
    · rename_i h
      refine ⟨i1, by omega, i3, fun _ => ?_⟩
      by_cases e : dfK l m n < n
      · exact i4 e
      · have : dfK l m n = (n : Int) := by omega
        rw [this]; omega
theorem df_by {t : Ct} {m : Int} (h : dfOk t m = true) : 0 ≤ dfV t m ∧ dfV t m ≤ 20000 ∧ saOk t (dfV t m) = true ∧ ttV t (dfV t m) ≤ m ∧ (saOk t (dfV t m + 1) = true → m < ttV t (dfV t m + 1)) := by
  have h1 := h
  unfold dfOk at h1
  rw [Bool.and_eq_true, inB_true] at h1
  obtain ⟨g, m0, m1⟩ := h1
  have e := (df_good g (inB_true.2 ⟨m0, m1⟩)).2
  have lg := (ctOk_bd g).2.2.2.2.2.2.2
  obtain ⟨i1, i2, i3, i4⟩ := dfK_by (l := t.lay) (m := m) (by rw [trv_zero lg]; exact m0) 20000
  rw [← e] at i1 i2 i3 i4
  have s : saOk t (dfV t m) = true := by rw [saOk_def, g, inB_true.2 (by omega)]; rfl
  refine ⟨i1, i2, s, by rw [tt_good s, ← trv_def]; exact i3, fun s2 => ?_⟩
  rw [tt_good s2, ← trv_def]
  rw [saOk_def, Bool.and_eq_true, inB_true] at s2
  exact i4 (by omega)
theorem tt_nonneg (t : Ct) (d : Int) : 0 ≤ ttV t d := by
  cases g : saOk t d with
  | false => rw [tt_bad g]; omega
  | true =>
    rw [tt_good g]
    rw [saOk_def, Bool.and_eq_true, inB_true] at g
    have lg := (ctOk_bd g.1).2.2.2.2.2.2.2
    exact (trvK_bd (by omega) (by omega) lg _ (Nat.le_refl _)).1
theorem lyi_app {L : List Ly} {x : Ly} {k : Nat} (h : k < L.length) : lyi (L ++ [x]) k = lyi L k := by
  rw [lyi_of h, lyi_of (by simp; omega), List.getElem_append_left h]
theorem lyi_end {L : List Ly} {x : Ly} : lyi (L ++ [x]) L.length = x := by
  rw [lyi_of (by simp)]; simp
theorem spdK_app {L : List Ly} {x : Ly} {d : Int} : ∀ k, k ≤ L.length → spdK (L ++ [x]) d k = spdK L d k
  | 0, _ => rfl
  | k + 1, h => by rw [spdK, spdK, lyi_app (by omega), spdK_app k (by omega)]
theorem thn_spd {l : List Ly} {d : Int} (h : lyGood l = true) : ∀ k, k ≤ l.length → spdK (thnK l k) d (thnK l k).length = spdK l d k
  | 0, _ => rfl
  | k + 1, hk => by
    have ih := thn_spd (d := d) h k (by omega)
    cases g : keeps l k with
    | true =>
      rw [thnK, if_pos g, List.length_append, List.length_singleton, spdK, lyi_end, spdK_app _ (Nat.le_refl _), ih, spdK]
    | false =>
      rw [thnK_no g, ih]
      cases k with
      | zero => simp [keeps] at g
      | succ m =>
        have e : (lyi l m).spd = (lyi l (m + 1)).spd := by simpa [keeps] using g
        have a := ly_asc h (show m + 1 < l.length by omega)
        have e1 : spdK l d (m + 2) = if (lyi l (m + 1)).dep ≤ d then (lyi l (m + 1)).spd else spdK l d (m + 1) := rfl
        have e2 : spdK l d (m + 1) = if (lyi l m).dep ≤ d then (lyi l m).spd else spdK l d m := rfl
        show spdK l d (m + 1) = spdK l d (m + 2)
        rw [e1]
        split
        · rw [e2, if_pos (by omega)]; exact e
        · rfl
theorem lyGood_snoc {M : List Ly} {x y : Ly} (h : lyGood (M ++ [x]) = true) (b : 0 ≤ y.dep ∧ y.dep ≤ 20000 ∧ 14000 ≤ y.spd ∧ y.spd ≤ 16000) (hlt : x.dep < y.dep) : lyGood (M ++ [x] ++ [y]) = true := by
  refine lyGood_end fun k hk => ?_
  have hl : (M ++ [x]).length = M.length + 1 := by simp
  rw [List.length_append, hl, List.length_singleton] at hk
  by_cases e : k < M.length + 1
  · have g := lyGood_at h (show k < (M ++ [x]).length by omega)
    unfold lyAt at g ⊢
    rw [lyi_app (by omega)]
    cases k with
    | zero =>
      simp only [lyi_app (show 0 < (M ++ [x]).length by omega)]
      exact g
    | succ m =>
      simp only [lyi_app (show m < (M ++ [x]).length by omega), lyi_app (show m + 1 < (M ++ [x]).length by omega)]
      exact g
  · obtain rfl : k = M.length + 1 := by omega
    unfold lyAt
    have e1 : lyi (M ++ [x] ++ [y]) (M.length + 1) = y := by rw [← hl]; exact lyi_end
    have e2 : lyi (M ++ [x] ++ [y]) M.length = x := by rw [lyi_app (by omega)]; exact lyi_end
    simp only [e1, e2, Bool.and_eq_true, inB_true, decide_eq_true_eq]
    omega
theorem thn_inv {l : List Ly} (h : lyGood l = true) : ∀ k, k < l.length → ∃ (M : List Ly) (x : Ly), thnK l (k + 1) = M ++ [x] ∧ x.dep ≤ (lyi l k).dep ∧ x.spd = (lyi l k).spd ∧ lyGood (M ++ [x]) = true ∧ ∀ j, j < (M ++ [x]).length → keeps (M ++ [x]) j = true
  | 0, h0 => by
    refine ⟨[], lyi l 0, rfl, Int.le_refl _, rfl, lyGood_end fun k hk => ?_, fun j hj => ?_⟩
    · obtain rfl : k = 0 := by simpa using hk
      have g := lyGood_at h h0
      unfold lyAt at g ⊢
      exact g
    · obtain rfl : j = 0 := by simpa using hj
      rfl
  | k + 1, hk => by
    obtain ⟨M, x, e, d, s, g, q⟩ := thn_inv h k (by omega)
    have a := ly_asc h hk
    have b := lyAt_bd hk (lyGood_at h hk)
    rw [← lyi_of hk] at b
    cases c : keeps l (k + 1) with
    | false =>
      have e3 : (lyi l k).spd = (lyi l (k + 1)).spd := by simpa [keeps] using c
      exact ⟨M, x, by rw [thnK_no c, e], by omega, by rw [s, e3], g, q⟩
    | true =>
      have e3 : (lyi l k).spd ≠ (lyi l (k + 1)).spd := by simpa [keeps] using c
      have hl : (M ++ [x]).length = M.length + 1 := by simp
      refine ⟨M ++ [x], lyi l (k + 1), by rw [thnK, if_pos c, e], Int.le_refl _, rfl, lyGood_snoc g b (by omega), fun j hj => ?_⟩
      rw [List.length_append, hl, List.length_singleton] at hj
      cases j with
      | zero => rfl
      | succ m =>
        by_cases e4 : m + 1 < M.length + 1
        · have := q (m + 1) (by omega)
          simp only [keeps] at this ⊢
          rw [show lyi (M ++ [x] ++ [lyi l (k + 1)]) m = lyi (M ++ [x]) m from lyi_app (by omega), show lyi (M ++ [x] ++ [lyi l (k + 1)]) (m + 1) = lyi (M ++ [x]) (m + 1) from lyi_app (by omega)]
          exact this
        · obtain rfl : m = M.length := by omega
          have e1 : lyi (M ++ [x] ++ [lyi l (k + 1)]) (M.length + 1) = lyi l (k + 1) := by rw [← hl]; exact lyi_end
          have e2 : lyi (M ++ [x] ++ [lyi l (k + 1)]) M.length = x := by rw [lyi_app (by omega)]; exact lyi_end
          simp only [keeps, e1, e2, s]
          simpa using e3
theorem thn_self {L : List Ly} (h : ∀ j, j < L.length → keeps L j = true) : ∀ k, k ≤ L.length → thnK L k = L.take k
  | 0, _ => rfl
  | k + 1, hk => by
    rw [thnK_yes (h k (by omega)) (by omega), thn_self h k (by omega), List.take_add_one, List.getElem?_eq_getElem (by omega)]
    rfl
theorem thin_by {t : Ct} (h : ctOk t = true) : ctOk (thinC t) = true ∧ thinC (thinC t) = thinC t ∧ slV t (thinC t) 0 = true ∧ slOk t (thinC t) 0 = true := by
  have b := ctOk_bd h
  have lg := b.2.2.2.2.2.2.2
  obtain ⟨M, x, e, -, -, g, q⟩ := thn_inv lg (t.lay.length - 1) (by omega)
  rw [show t.lay.length - 1 + 1 = t.lay.length by omega] at e
  have et := thin_good h
  have hl := thnK_len t.lay t.lay.length
  have sp := fun d => thn_spd (d := d) lg t.lay.length (Nat.le_refl _)
  rw [et]
  have ok : ctOk ⟨t.id, t.time, t.x, t.y, thnK t.lay t.lay.length⟩ = true := by
    have h1 := h
    rw [ctOk_def] at h1 ⊢
    simp only [Bool.and_eq_true, inB_true] at h1 ⊢
    refine ⟨⟨h1.1.1, ?_⟩, ?_⟩
    · rw [e] at hl ⊢
      simp at hl ⊢
      omega
    · rw [e]; exact g
  have s := sl_good (t := t) (u := ⟨t.id, t.time, t.x, t.y, thnK t.lay t.lay.length⟩) (wi := 0) h ok (inB_true.2 (by omega))
  refine ⟨ok, ?_, ?_, s.2⟩
  · rw [thin_good ok]
    have := thn_self q (M ++ [x]).length (Nat.le_refl _)
    rw [List.take_length] at this
    simp only [Ct.mk.injEq, true_and]
    rw [e, this]
  · rw [s.1, slAll_iff]
    intro y _
    unfold dif
    rw [sp]
    omega
end Go.Proofs.Ytfmlfeokdaahmaa
