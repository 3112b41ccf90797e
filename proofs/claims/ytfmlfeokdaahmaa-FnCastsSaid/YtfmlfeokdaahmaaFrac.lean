/- Plain facts on fractions in lowest terms: numbers alone, no program. -/
import Derived.Test.YtfmlfeokdaahmaaBase
set_option linter.unusedVariables false
set_option linter.unusedSimpArgs false
namespace Go.Proofs.Ytfmlfeokdaahmaa

/-- Numerator and denominator of a / b in lowest terms. -/
@[irreducible] def redN (a b : Int) : Int := a / (Int.gcd a b : Int)
@[irreducible] def redD (a b : Int) : Int := b / (Int.gcd a b : Int)

theorem gcd_pos {a b : Int} (hb : 0 < b) : (0 : Int) < (Int.gcd a b : Int) := by
  have := Int.gcd_pos_of_ne_zero_right a (show b ≠ 0 by omega)
  omega
theorem gcd_mulN {a b : Int} : redN a b * (Int.gcd a b : Int) = a := by
  unfold redN; exact Int.ediv_mul_cancel (Int.gcd_dvd_left a b)
theorem gcd_mulD {a b : Int} : redD a b * (Int.gcd a b : Int) = b := by
  unfold redD; exact Int.ediv_mul_cancel (Int.gcd_dvd_right a b)
theorem redD_pos {a b : Int} (hb : 0 < b) : 0 < redD a b := by
  have h1 := gcd_mulD (a := a) (b := b)
  have h2 := gcd_pos (a := a) hb
  rcases Int.lt_or_le 0 (redD a b) with h | h
  · exact h
  · have := Int.mul_nonneg (show 0 ≤ -(redD a b) by omega) (show 0 ≤ (Int.gcd a b : Int) by omega)
    rw [Int.neg_mul] at this; omega
theorem redD_le {a b : Int} (hb : 0 < b) : redD a b ≤ b := by
  have h1 := gcd_mulD (a := a) (b := b)
  have h2 := gcd_pos (a := a) hb
  have h3 := redD_pos (a := a) hb
  have := Int.mul_le_mul_of_nonneg_left (show 1 ≤ (Int.gcd a b : Int) by omega) (show 0 ≤ redD a b by omega)
  omega
theorem red_cross {a b : Int} : redN a b * b = a * redD a b := by
  have h1 := gcd_mulN (a := a) (b := b)
  have h2 := gcd_mulD (a := a) (b := b)
  calc redN a b * b = redN a b * (redD a b * (Int.gcd a b : Int)) := by rw [h2]
    _ = (redN a b * (Int.gcd a b : Int)) * redD a b := by rw [Int.mul_assoc, Int.mul_comm (Int.gcd a b : Int)]
    _ = a * redD a b := by rw [h1]
theorem redN_nonneg {a b : Int} (hb : 0 < b) (ha : 0 ≤ a) : 0 ≤ redN a b := by
  have h1 := gcd_mulN (a := a) (b := b)
  have h2 := gcd_pos (a := a) hb
  rcases Int.lt_or_le (redN a b) 0 with h | h
  · have := Int.mul_pos (show 0 < -(redN a b) by omega) h2
    rw [Int.neg_mul] at this; omega
  · exact h
theorem redN_neg {a b : Int} (hb : 0 < b) : redN a b < 0 ↔ a < 0 := by
  have h1 := gcd_mulN (a := a) (b := b)
  have h2 := gcd_pos (a := a) hb
  constructor
  · intro h
    have := Int.mul_pos (show 0 < -(redN a b) by omega) h2
    rw [Int.neg_mul] at this; omega
  · intro h
    rcases Int.lt_or_le (redN a b) 0 with h' | h'
    · exact h'
    · have := Int.mul_nonneg h' (show 0 ≤ (Int.gcd a b : Int) by omega)
      omega
theorem redN_le {a b : Int} (hb : 0 < b) (ha : 0 ≤ a) : redN a b ≤ a := by
  have h1 := gcd_mulN (a := a) (b := b)
  have h2 := gcd_pos (a := a) hb
  have h3 := redN_nonneg hb ha
  have := Int.mul_le_mul_of_nonneg_left (show 1 ≤ (Int.gcd a b : Int) by omega) h3
  omega
theorem redN_ge {a b : Int} (hb : 0 < b) (ha : a ≤ 0) : a ≤ redN a b := by
  have h1 := gcd_mulN (a := a) (b := b)
  have h2 := gcd_pos (a := a) hb
  rcases Int.lt_or_le 0 (redN a b) with h | h
  · omega
  · have := Int.mul_le_mul_of_nonneg_left (show 1 ≤ (Int.gcd a b : Int) by omega) (show 0 ≤ -(redN a b) by omega)
    rw [Int.neg_mul, Int.neg_mul] at this; omega
theorem redN_zero {b : Int} : redN 0 b = 0 := by unfold redN; simp
theorem redD_zero {b : Int} (hb : 0 < b) : redD 0 b = 1 := by
  unfold redD
  rw [Int.gcd_zero_left, show ((b.natAbs : Nat) : Int) = b by omega, Int.ediv_self (by omega)]
theorem redN_one {a : Int} : redN a 1 = a := by unfold redN; simp
theorem redD_one {a : Int} : redD a 1 = 1 := by unfold redD; simp

theorem red_coprime {a b : Int} (hb : 0 < b) : Nat.Coprime (redN a b).natAbs (redD a b).natAbs := by
  have h2 := gcd_pos (a := a) hb
  have h1 := gcd_mulN (a := a) (b := b)
  have h3 := gcd_mulD (a := a) (b := b)
  have e : Int.gcd (redN a b * (Int.gcd a b : Int)) (redD a b * (Int.gcd a b : Int)) = Int.gcd a b := by rw [h1, h3]
  rw [Int.gcd_mul_right] at e
  have hg : 0 < Int.gcd a b := by omega
  have : Int.gcd (redN a b) (redD a b) * Int.gcd a b = 1 * Int.gcd a b := by simpa using e
  exact Nat.eq_of_mul_eq_mul_right hg this

/-- Equal fractions have one form. -/
theorem red_eq {a b c d : Int} (hb : 0 < b) (hd : 0 < d) (h : a * d = c * b) : redN a b = redN c d ∧ redD a b = redD c d := by
  have pb := redD_pos (a := a) hb
  have pd := redD_pos (a := c) hd
  have g1 := gcd_pos (a := a) hb
  have g2 := gcd_pos (a := c) hd
  have hx : redN a b * redD c d = redN c d * redD a b := by
    have e1 := gcd_mulN (a := a) (b := b)
    have e2 := gcd_mulD (a := a) (b := b)
    have e3 := gcd_mulN (a := c) (b := d)
    have e4 := gcd_mulD (a := c) (b := d)
    generalize redN a b = p at *
    generalize redD a b = q at *
    generalize redN c d = r at *
    generalize redD c d = s at *
    generalize ((Int.gcd a b : Nat) : Int) = g at *
    generalize ((Int.gcd c d : Nat) : Int) = k at *
    subst e1 e2 e3 e4
    have h' : (p * s) * (g * k) = (r * q) * (g * k) := by
      calc (p * s) * (g * k) = p * g * (s * k) := by simp only [Int.mul_assoc, Int.mul_left_comm]
        _ = r * k * (q * g) := h
        _ = (r * q) * (g * k) := by rw [Int.mul_comm g k]; simp only [Int.mul_assoc, Int.mul_left_comm]
    exact Int.eq_of_mul_eq_mul_right (Int.ne_of_gt (Int.mul_pos g1 g2)) h'
  have c1 := red_coprime (a := a) hb
  have c2 := red_coprime (a := c) hd
  have hn : (redN a b).natAbs * (redD c d).natAbs = (redN c d).natAbs * (redD a b).natAbs := by
    rw [← Int.natAbs_mul, ← Int.natAbs_mul, hx]
  have d1 : (redD a b).natAbs ∣ (redD c d).natAbs := c1.symm.dvd_of_dvd_mul_left ⟨(redN c d).natAbs, by rw [hn, Nat.mul_comm]⟩
  have d2 : (redD c d).natAbs ∣ (redD a b).natAbs := c2.symm.dvd_of_dvd_mul_left ⟨(redN a b).natAbs, by rw [← hn, Nat.mul_comm]⟩
  have hD : redD a b = redD c d := by have := Nat.dvd_antisymm d1 d2; omega
  refine ⟨?_, hD⟩
  rw [hD] at hx
  exact Int.eq_of_mul_eq_mul_right (by omega) hx
theorem red_redN {a b : Int} (hb : 0 < b) : redN (redN a b) (redD a b) = redN a b := (red_eq (redD_pos hb) hb red_cross).1
theorem red_redD {a b : Int} (hb : 0 < b) : redD (redN a b) (redD a b) = redD a b := (red_eq (redD_pos hb) hb red_cross).2
end Go.Proofs.Ytfmlfeokdaahmaa
