/- Plain facts: the depth that sound reaches in a time; the bends; the divided layers. Lists and numbers alone. -/
import Derived.Test.YtljpmccnppplgaaP6
set_option linter.unusedVariables false
set_option linter.unusedSimpArgs false
namespace Go.Proofs.Ytljpmccnppplgaa

/-- The time that is left below the first k layers, as a fraction. -/
def daK (l : List St) (t : Int) : Nat → Int × Int
  | 0 => (t, 1)
  | k + 1 => (redN ((daK l t k).1 * sp l k - 10 * th l k * (daK l t k).2) ((daK l t k).2 * sp l k), redD ((daK l t k).1 * sp l k - 10 * th l k * (daK l t k).2) ((daK l t k).2 * sp l k))
/-- The answer from layer k on, n layers still to come. -/
def daGo (l : List St) (t : Int) : Nat → Nat → Option (Int × Int)
  | 0, _ => none
  | n + 1, k => if (daK l t k).1 * sp l k ≤ 10 * th l k * (daK l t k).2 then
      some (redN (totK l k * 10 * (daK l t k).2 + (daK l t k).1 * sp l k) (10 * (daK l t k).2), redD (totK l k * 10 * (daK l t k).2 + (daK l t k).1 * sp l k) (10 * (daK l t k).2))
    else daGo l t n (k + 1)
/-- Before step k no layer has stopped the sound. -/
def daRun (l : List St) (t : Int) (k : Nat) : Prop := 1 ≤ (daK l t k).2 ∧ (daK l t k).2 ≤ pw k ∧ 0 ≤ (daK l t k).1 ∧ (daK l t k).1 ≤ 200 * (daK l t k).2
theorem daRun_zero {l : List St} {t : Int} (h0 : 0 ≤ t) (h1 : t ≤ 200) : daRun l t 0 := by
  unfold daRun; simp only [daK, pw]; omega
theorem daRun_succ {l : List St} (hg : stGood l = true) {t : Int} {k : Nat} (hk : k < l.length) (h : daRun l t k) (hs : 10 * th l k * (daK l t k).2 ≤ (daK l t k).1 * sp l k) : daRun l t (k + 1) := by
  obtain ⟨h1, h2, h3, h4⟩ := h
  have h5 := stGood_at hg hk
  have h7 := stGood_len hg
  obtain ⟨p1, p2, p3⟩ := pw_succ (show k < 5 by omega)
  unfold daRun
  simp only [daK]
  generalize (daK l t k).1 = n at *
  generalize (daK l t k).2 = e at *
  generalize th l k = p at *
  generalize sp l k = s at *
  have hb : 0 < e * s := Int.mul_pos (by omega) (by omega)
  have hb2 := (mul_bd (show 0 ≤ e by omega) h2 (show 0 ≤ s by omega) (show s ≤ 1700 by omega)).2
  have u1 : n * s ≤ 200 * e * s := Int.mul_le_mul_of_nonneg_right h4 (by omega)
  have ha2 : 0 ≤ 10 * p * e := Int.mul_nonneg (by omega) (by omega)
  refine ⟨redD_pos hb, by have := redD_le (a := n * s - 10 * p * e) hb; omega, redN_nonneg hb (by omega), ?_⟩
  refine le_of_cross hb red_cross (by have := redD_pos (a := n * s - 10 * p * e) hb; omega) ?_
  rw [← Int.mul_assoc]; omega
/-- The numbers of one step are small. -/
theorem da_step {l : List St} (hg : stGood l = true) {t : Int} {k : Nat} (hk : k < l.length) (h : daRun l t k) :
    0 ≤ (daK l t k).1 * sp l k ∧ (daK l t k).1 * sp l k ≤ 2900000000000000000 ∧ 0 ≤ 10 * th l k * (daK l t k).2 ∧ 10 * th l k * (daK l t k).2 ≤ 420000000000000000 ∧ 0 < (daK l t k).2 * sp l k ∧ (daK l t k).2 * sp l k ≤ 14198570000000000 ∧
    0 ≤ totK l k * 10 * (daK l t k).2 ∧ totK l k * 10 * (daK l t k).2 ≤ 2100000000000000000 ∧ 1 ≤ (daK l t k).2 ∧ (daK l t k).2 ≤ 8352100000000 ∧ 0 ≤ (daK l t k).1 ∧ (daK l t k).1 ≤ 1670420000000000 := by
  obtain ⟨h1, h2, h3, h4⟩ := h
  have h5 := stGood_at hg hk
  have h6 := totK_bd hg k (by omega)
  have h7 := stGood_len hg
  obtain ⟨p1, p2, p3⟩ := pw_succ (show k < 5 by omega)
  have q2 := mul_bd h3 (show (daK l t k).1 ≤ 1670420000000000 by omega) (show 0 ≤ sp l k by omega) (show sp l k ≤ 1700 by omega)
  have q3 := mul_bd (show 0 ≤ 10 * th l k by omega) (show 10 * th l k ≤ 50000 by omega) (show 0 ≤ (daK l t k).2 by omega) (show (daK l t k).2 ≤ 8352100000000 by omega)
  have q4 := mul_bd (show 0 ≤ (daK l t k).2 by omega) (show (daK l t k).2 ≤ 8352100000000 by omega) (show 0 ≤ sp l k by omega) (show sp l k ≤ 1700 by omega)
  have q5 := Int.mul_pos (show 0 < (daK l t k).2 by omega) (show 0 < sp l k by omega)
  have q6 := mul_bd (show 0 ≤ totK l k * 10 by omega) (show totK l k * 10 ≤ 250000 by omega) (show 0 ≤ (daK l t k).2 by omega) (show (daK l t k).2 ≤ 8352100000000 by omega)
  omega
theorem daGo_stop {l : List St} {t : Int} {k : Nat} (hk : k < l.length) (h : (daK l t k).1 * sp l k ≤ 10 * th l k * (daK l t k).2) :
    daGo l t (l.length - k) k = some (redN (totK l k * 10 * (daK l t k).2 + (daK l t k).1 * sp l k) (10 * (daK l t k).2), redD (totK l k * 10 * (daK l t k).2 + (daK l t k).1 * sp l k) (10 * (daK l t k).2)) := by
  obtain ⟨n, hn⟩ : ∃ n, l.length - k = n + 1 := ⟨l.length - k - 1, by omega⟩
  rw [hn, daGo, if_pos h]
theorem daGo_on {l : List St} {t : Int} {k : Nat} (hk : k < l.length) (h : ¬ (daK l t k).1 * sp l k ≤ 10 * th l k * (daK l t k).2) :
    daGo l t (l.length - k) k = daGo l t (l.length - (k + 1)) (k + 1) := by
  obtain ⟨n, hn⟩ : ∃ n, l.length - k = n + 1 := ⟨l.length - k - 1, by omega⟩
  rw [hn, daGo, if_neg h, show l.length - (k + 1) = n by omega]
theorem daGo_end {l : List St} {t : Int} : daGo l t (l.length - l.length) l.length = none := by rw [Nat.sub_self, daGo]

/-- The program's two steps to the answer are the reference's one. -/
theorem da_two {n e s T : Int} (he : 0 < e) : redN (redN (n * s) (10 * e) * 1 + T * redD (n * s) (10 * e)) (redD (n * s) (10 * e) * 1) = redN (T * 10 * e + n * s) (10 * e) ∧
    redD (redN (n * s) (10 * e) * 1 + T * redD (n * s) (10 * e)) (redD (n * s) (10 * e) * 1) = redD (T * 10 * e + n * s) (10 * e) := by
  have hc := red_cross (a := n * s) (b := 10 * e)
  have hp := redD_pos (a := n * s) (b := 10 * e) (by omega)
  refine red_eq (by omega) (by omega) ?_
  generalize redN (n * s) (10 * e) = x at *
  generalize redD (n * s) (10 * e) = y at *
  generalize n * s = z at *
  rw [Int.mul_one, Int.mul_one, Int.add_mul, hc, Int.add_mul, Int.add_comm]
  congr 1
  simp only [Int.mul_assoc, Int.mul_comm y, Int.mul_left_comm]
theorem da_whole {e T p : Int} (he : 0 < e) : redN (T * 10 * e + 10 * p * e) (10 * e) = T + p ∧ redD (T * 10 * e + 10 * p * e) (10 * e) = 1 := by
  have := red_eq (a := T * 10 * e + 10 * p * e) (b := 10 * e) (c := T + p) (d := 1) (by omega) (by omega) (by
    rw [Int.mul_one, Int.add_mul, Int.mul_assoc T 10 e, Int.mul_comm 10 p, Int.mul_assoc p 10 e])
  rw [redN_one, redD_one] at this
  exact this
theorem da_zero {T s : Int} : redN (redN (0 * s) (10 * 1) * 1 + T * redD (0 * s) (10 * 1)) (redD (0 * s) (10 * 1) * 1) = T ∧ redD (redN (0 * s) (10 * 1) * 1 + T * redD (0 * s) (10 * 1)) (redD (0 * s) (10 * 1) * 1) = 1 := by
  rw [Int.zero_mul, redN_zero, redD_zero (by decide)]
  simp only [Int.zero_mul, Int.mul_one, Int.zero_add]
  exact ⟨redN_one, redD_one⟩

/-- -1, 0 or 1: how two numbers stand. -/
@[irreducible] def cmpI (a b : Int) : Int := if a < b then -1 else if b < a then 1 else 0
theorem cmpI_def (a b : Int) : cmpI a b = if a < b then -1 else if b < a then 1 else 0 := by unfold cmpI; rfl
def bendL (l : List St) : List Int := (List.range (l.length - 1)).map fun k => cmpI (sp l (k + 1)) (sp l k)
theorem bendL_length (l : List St) : (bendL l).length = l.length - 1 := by simp [bendL]
theorem bendL_get {l : List St} {k : Nat} (h : k < (bendL l).length) : (bendL l)[k] = cmpI (sp l (k + 1)) (sp l k) := by simp [bendL]
end Go.Proofs.Ytljpmccnppplgaa
