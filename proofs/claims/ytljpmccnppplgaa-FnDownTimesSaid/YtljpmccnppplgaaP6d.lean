/- Plain facts for the law on times: a time to a depth and a depth in a time as fractions over common products. Lists and numbers alone. -/
import Derived.Test.YtljpmccnppplgaaP6b
set_option linter.unusedVariables false
set_option linter.unusedSimpArgs false
namespace Go.Proofs.Ytljpmccnppplgaa
def prK (l : List St) : Nat → Int
  | 0 => 1
  | k + 1 => prK l k * sp l k
def wtK (l : List St) (f : Nat → Int) : Nat → Int
  | 0 => 0
  | k + 1 => wtK l f k * sp l k + 10 * f k * prK l k
theorem prK_pos {l : List St} (h : stGood l = true) : ∀ k, k ≤ l.length → 0 < prK l k
  | 0, _ => by simp [prK]
  | k + 1, hk => Int.mul_pos (prK_pos h k (by omega)) (by have := stGood_at h (show k < l.length by omega); omega)
theorem step_val {n e s g P V : Int} (he : 0 < e) (h : n * P = V * e) :
    redN (n * s + g * e) (e * s) * (P * s) = (V * s + g * P) * redD (n * s + g * e) (e * s) := by
  have hc := red_cross (a := n * s + g * e) (b := e * s)
  generalize redN (n * s + g * e) (e * s) = x at *
  generalize redD (n * s + g * e) (e * s) = y at *
  refine Int.eq_of_mul_eq_mul_right (show e ≠ 0 by omega) ?_
  grind
theorem dt_pos {l : List St} (h : stGood l = true) {d : Int} : ∀ k, k ≤ l.length → 0 < (dtN l d k).2
  | k, hk => by have := (dt_bd h (d := d) k hk).1; omega
theorem dt_val {l : List St} (h : stGood l = true) {d : Int} : ∀ k, k ≤ l.length → (dtN l d k).1 * prK l k = wtK l (part l d) k * (dtN l d k).2
  | 0, _ => by simp [dtN, prK, wtK]
  | k + 1, hk => by
    have ih := dt_val h (d := d) k (by omega)
    exact step_val (g := 10 * part l d k) (dt_pos h k (by omega)) ih
theorem da_pos {l : List St} (h : stGood l = true) {t : Int} : ∀ k, k ≤ l.length → 0 < (daK l t k).2
  | 0, _ => by simp [daK]
  | k + 1, hk => by
    have := da_pos h (t := t) k (by omega)
    have := stGood_at h (show k < l.length by omega)
    exact redD_pos (Int.mul_pos (by omega) (by omega))
theorem da_val {l : List St} (h : stGood l = true) {t : Int} : ∀ k, k ≤ l.length → (daK l t k).1 * prK l k = (t * prK l k - wtK l (th l) k) * (daK l t k).2
  | 0, _ => by simp [daK, prK, wtK]
  | k + 1, hk => by
    have ih := da_val h (t := t) k (by omega)
    have hs := step_val (g := -(10 * th l k)) (s := sp l k) (da_pos h (t := t) k (by omega)) ih
    have e : (daK l t k).1 * sp l k + -(10 * th l k) * (daK l t k).2 = (daK l t k).1 * sp l k - 10 * th l k * (daK l t k).2 := by grind
    rw [e] at hs
    have e2 : (t * prK l k - wtK l (th l) k) * sp l k + -(10 * th l k) * prK l k = t * (prK l k * sp l k) - (wtK l (th l) k * sp l k + 10 * th l k * prK l k) := by grind
    rw [e2] at hs
    exact hs
/-- The sound stops in layer k. -/
def stopAt (l : List St) (t : Int) (k : Nat) : Prop := (t * prK l k - wtK l (th l) k) * sp l k ≤ 10 * th l k * prK l k
theorem stop_iff {l : List St} (h : stGood l = true) {t : Int} {k : Nat} (hk : k < l.length) : (daK l t k).1 * sp l k ≤ 10 * th l k * (daK l t k).2 ↔ stopAt l t k := by
  have hv := da_val h (t := t) k (by omega)
  have hp := prK_pos h k (by omega)
  have he := da_pos h (t := t) k (by omega)
  unfold stopAt
  generalize (daK l t k).1 = n at *
  generalize (daK l t k).2 = e at *
  generalize sp l k = s at *
  generalize th l k = q at *
  generalize prK l k = P at *
  generalize t * P - wtK l (th l) k = X at *
  constructor
  · intro h1
    have h2 : n * s * P ≤ 10 * q * e * P := Int.mul_le_mul_of_nonneg_right h1 (by omega)
    refine Int.le_of_mul_le_mul_right (a := e) ?_ he
    have e1 : X * s * e = n * s * P := by grind
    have e2 : 10 * q * P * e = 10 * q * e * P := by grind
    omega
  · intro h1
    have h2 : X * s * e ≤ 10 * q * P * e := Int.mul_le_mul_of_nonneg_right h1 (by omega)
    refine Int.le_of_mul_le_mul_right (a := P) ?_ hp
    have e1 : X * s * e = n * s * P := by grind
    have e2 : 10 * q * P * e = 10 * q * e * P := by grind
    omega
theorem stop_mono {l : List St} (h : stGood l = true) {t u : Int} (hu : u ≤ t) {k : Nat} (hk : k < l.length) (hs : stopAt l t k) : stopAt l u k := by
  have hp := prK_pos h k (by omega)
  have h5 := stGood_at h hk
  unfold stopAt at *
  have h1 : u * prK l k ≤ t * prK l k := Int.mul_le_mul_of_nonneg_right hu (by omega)
  have h2 : (u * prK l k - wtK l (th l) k) * sp l k ≤ (t * prK l k - wtK l (th l) k) * sp l k := Int.mul_le_mul_of_nonneg_right (by omega) (by omega)
  omega
/-- The answer when the sound stops in layer k. -/
def daAt (l : List St) (t : Int) (k : Nat) : Int × Int :=
  (redN (totK l k * 10 * (daK l t k).2 + (daK l t k).1 * sp l k) (10 * (daK l t k).2), redD (totK l k * 10 * (daK l t k).2 + (daK l t k).1 * sp l k) (10 * (daK l t k).2))
theorem daGo_find {l : List St} (h : stGood l = true) {t : Int} {r : Int × Int} : ∀ (n k : Nat), k + n = l.length → daGo l t n k = some r →
    ∃ j, k ≤ j ∧ j < l.length ∧ stopAt l t j ∧ (∀ i, k ≤ i → i < j → ¬ stopAt l t i) ∧ r = daAt l t j
  | 0, k, _, he => by rw [daGo] at he; cases he
  | n + 1, k, hk, he => by
    rw [daGo] at he
    split at he
    · rename_i hs
      exact ⟨k, Nat.le_refl _, by omega, (stop_iff h (by omega)).1 hs, fun i h1 h2 => by omega, (Option.some.inj he).symm⟩
    · rename_i hs
      obtain ⟨j, h1, h2, h3, h4, h5⟩ := daGo_find h n (k + 1) (by omega) he
      refine ⟨j, by omega, h2, h3, fun i hi hij => ?_, h5⟩
      by_cases e : i = k
      · subst e; exact fun hx => hs ((stop_iff h (by omega)).2 hx)
      · exact h4 i (by omega) hij
theorem daGo_some {l : List St} (h : stGood l = true) {t : Int} {j : Nat} (hj : j < l.length) (hs : stopAt l t j) : ∀ (n k : Nat), k + n = l.length → k ≤ j → ∃ r, daGo l t n k = some r
  | 0, k, hk, hkj => by omega
  | n + 1, k, hk, hkj => by
    rw [daGo]
    split
    · exact ⟨_, rfl⟩
    · rename_i hx
      by_cases e : k = j
      · subst e; exact absurd ((stop_iff h (by omega)).2 hs) hx
      · exact daGo_some h hj hs n (k + 1) (by omega) (by omega)
theorem da_nonneg {l : List St} (h : stGood l = true) {t : Int} (h0 : 0 ≤ t) (h1 : t ≤ 200) : ∀ j, j < l.length → (∀ i, i < j → ¬ stopAt l t i) → daRun l t j
  | 0, _, _ => daRun_zero h0 h1
  | j + 1, hj, hn => by
    have ih := da_nonneg h h0 h1 j (by omega) (fun i hi => hn i (by omega))
    refine daRun_succ h (by omega) ih ?_
    have hx : ¬ (daK l t j).1 * sp l j ≤ 10 * th l j * (daK l t j).2 := fun hx => hn j (by omega) ((stop_iff h (by omega)).1 hx)
    omega
/-- What holds of an answer a / b that stops in layer k. -/
theorem daAt_facts {l : List St} (h : stGood l = true) {t : Int} {k : Nat} (hk : k < l.length) (hr : daRun l t k) (hs : stopAt l t k) :
    0 ≤ (daAt l t k).1 ∧ 0 < (daAt l t k).2 ∧ (daAt l t k).2 ≤ 83521000000000 ∧ totK l k * (daAt l t k).2 ≤ (daAt l t k).1 ∧ (daAt l t k).1 ≤ totK l (k + 1) * (daAt l t k).2 ∧
    (daAt l t k).1 * (10 * prK l k) = (10 * totK l k * prK l k + (t * prK l k - wtK l (th l) k) * sp l k) * (daAt l t k).2 := by
  have hv := da_val h (t := t) k (by omega)
  have hp := prK_pos h k (by omega)
  have hst := (stop_iff h hk).2 hs
  have hd := da_step h hk hr
  have h6 := totK_bd h k (by omega)
  obtain ⟨r1, r2, r3, r4⟩ := hr
  simp only [daAt]
  rw [totK]
  generalize (daK l t k).1 = n at *
  generalize (daK l t k).2 = e at *
  generalize t * prK l k - wtK l (th l) k = X at *
  generalize prK l k = P at *
  generalize totK l k = T at *
  generalize sp l k = s at *
  generalize th l k = q at *
  have hc := red_cross (a := T * 10 * e + n * s) (b := 10 * e)
  have hpos := redD_pos (a := T * 10 * e + n * s) (b := 10 * e) (by omega)
  have hle := redD_le (a := T * 10 * e + n * s) (b := 10 * e) (by omega)
  have hnn := redN_nonneg (a := T * 10 * e + n * s) (b := 10 * e) (by omega) (by omega)
  generalize redN (T * 10 * e + n * s) (10 * e) = a at *
  generalize redD (T * 10 * e + n * s) (10 * e) = b at *
  refine ⟨hnn, hpos, by omega, ?_, ?_, ?_⟩
  · refine Int.le_of_mul_le_mul_right (a := 10 * e) ?_ (by omega)
    rw [hc]
    have : T * b * (10 * e) = T * 10 * e * b := by grind
    rw [this]
    exact Int.mul_le_mul_of_nonneg_right (by omega) (by omega)
  · refine Int.le_of_mul_le_mul_right (a := 10 * e) ?_ (by omega)
    rw [hc]
    have : (T + q) * b * (10 * e) = (T * 10 * e + 10 * q * e) * b := by grind
    rw [this]
    exact Int.mul_le_mul_of_nonneg_right (by omega) (by omega)
  · refine Int.eq_of_mul_eq_mul_right (show e ≠ 0 by omega) ?_
    grind
theorem wt_same {l : List St} (h : stGood l = true) {d : Int} : ∀ k, k ≤ l.length → totK l k ≤ d → wtK l (part l d) k = wtK l (th l) k
  | 0, _, _ => rfl
  | k + 1, hk, hd => by
    have h5 := stGood_at h (show k < l.length by omega)
    have hd' := hd
    rw [totK] at hd'
    rw [wtK, wtK, wt_same h k (by omega) (by omega), show part l d k = th l k by rw [part_def]; omega]
theorem wt_tail {l : List St} (h : stGood l = true) {d t : Int} {k : Nat} (hd : d ≤ totK l (k + 1)) (hV : wtK l (part l d) (k + 1) ≤ t * prK l (k + 1)) : ∀ m, k + 1 ≤ m → m ≤ l.length → wtK l (part l d) m ≤ t * prK l m
  | 0, h1, _ => by omega
  | m + 1, h1, h2 => by
    by_cases e : m = k
    · subst e; exact hV
    · have ih := wt_tail h hd hV m (by omega) (by omega)
      have h5 := stGood_at h (show m < l.length by omega)
      have h6 := totK_mono h (k + 1) m (by omega) (by omega)
      rw [wtK, prK, show part l d m = 0 by rw [part_def]; omega]
      have := Int.mul_le_mul_of_nonneg_right ih (show 0 ≤ sp l m by omega)
      rw [Int.mul_zero, Int.zero_mul, Int.add_zero, ← Int.mul_assoc]
      exact this
/-- The time to the whole depth that is reached is not greater. -/
theorem time_back {l : List St} (h : stGood l = true) {t : Int} {k : Nat} (hk : k < l.length) (hr : daRun l t k) (hs : stopAt l t k) :
    inB ((daAt l t k).1 / (daAt l t k).2) 0 (totK l l.length) = true ∧ (dtN l ((daAt l t k).1 / (daAt l t k).2) l.length).1 ≤ t * (dtN l ((daAt l t k).1 / (daAt l t k).2) l.length).2 := by
  obtain ⟨f1, f2, f3, f4, f5, f6⟩ := daAt_facts h hk hr hs
  generalize (daAt l t k).1 = a at *
  generalize (daAt l t k).2 = b at *
  have hm := totK_mono h (k + 1) l.length (by omega) (Nat.le_refl _)
  have hb := totK_bd h k (by omega)
  have q1 : totK l k ≤ a / b := Int.le_ediv_of_mul_le f2 f4
  have q0 := Int.ediv_mul_le a (show b ≠ 0 by omega)
  have q2 : a / b ≤ totK l (k + 1) := by
    refine Int.le_of_mul_le_mul_right (a := b) ?_ f2
    omega
  generalize a / b = q at *
  refine ⟨inB_true.2 (by omega), ?_⟩
  have hp := prK_pos h k (by omega)
  have hpL := prK_pos h l.length (Nat.le_refl _)
  have h5 := stGood_at h hk
  have hV : wtK l (part l q) (k + 1) ≤ t * prK l (k + 1) := by
    rw [wtK, prK, wt_same h k (by omega) q1, show part l q k = q - totK l k by rw [part_def]; rw [totK] at q2; omega]
    have g1 : q * b * (10 * prK l k) ≤ a * (10 * prK l k) := Int.mul_le_mul_of_nonneg_right q0 (by omega)
    rw [f6] at g1
    have g2 : q * (10 * prK l k) * b ≤ (10 * totK l k * prK l k + (t * prK l k - wtK l (th l) k) * sp l k) * b := by
      rw [show q * (10 * prK l k) * b = q * b * (10 * prK l k) by grind]; exact g1
    have g3 := Int.le_of_mul_le_mul_right g2 f2
    generalize prK l k = P at *
    generalize wtK l (th l) k = W at *
    generalize sp l k = s at *
    generalize totK l k = T at *
    have e1 : W * s + 10 * (q - T) * P = q * (10 * P) - 10 * T * P + W * s := by grind
    have e2 : (t * P - W) * s = t * (P * s) - W * s := by grind
    rw [e1]
    omega
  have hL := wt_tail h q2 hV l.length (by omega) (Nat.le_refl _)
  have hv := dt_val h (d := q) l.length (Nat.le_refl _)
  have hd := dt_pos h (d := q) l.length (Nat.le_refl _)
  refine Int.le_of_mul_le_mul_right (a := prK l l.length) ?_ hpL
  rw [hv]
  have := Int.mul_le_mul_of_nonneg_right hL (show 0 ≤ (dtN l q l.length).2 by omega)
  rw [show t * (dtN l q l.length).2 * prK l l.length = t * prK l l.length * (dtN l q l.length).2 by grind]
  exact this
/-- In less time no greater depth. -/
theorem depth_mono {l : List St} (h : stGood l = true) {t u : Int} (hu : u ≤ t) {j k : Nat} (hj : j ≤ k) (hk : k < l.length) (hr : daRun l t k) (hs : stopAt l t k) (hr' : daRun l u j) (hs' : stopAt l u j) :
    (daAt l u j).1 / (daAt l u j).2 ≤ (daAt l t k).1 / (daAt l t k).2 := by
  obtain ⟨f1, f2, f3, f4, f5, f6⟩ := daAt_facts h hk hr hs
  obtain ⟨g1, g2, g3, g4, g5, g6⟩ := daAt_facts h (by omega) hr' hs'
  generalize (daAt l t k).1 = a at *
  generalize (daAt l t k).2 = b at *
  generalize (daAt l u j).1 = c at *
  generalize (daAt l u j).2 = d at *
  have key : c * b ≤ a * d := by
    by_cases e : j = k
    · subst e
      have hp := prK_pos h j (by omega)
      have h5 := stGood_at h hk
      have h1 : u * prK l j ≤ t * prK l j := Int.mul_le_mul_of_nonneg_right hu (by omega)
      have h2 : (u * prK l j - wtK l (th l) j) * sp l j ≤ (t * prK l j - wtK l (th l) j) * sp l j := Int.mul_le_mul_of_nonneg_right (by omega) (by omega)
      generalize (u * prK l j - wtK l (th l) j) * sp l j = X at *
      generalize (t * prK l j - wtK l (th l) j) * sp l j = Y at *
      generalize 10 * totK l j * prK l j = Z at *
      generalize prK l j = P at *
      refine Int.le_of_mul_le_mul_right (a := 10 * P) ?_ (by omega)
      have e1 : c * b * (10 * P) = (Z + X) * (d * b) := by grind
      have e2 : a * d * (10 * P) = (Z + Y) * (d * b) := by grind
      rw [e1, e2]
      exact Int.mul_le_mul_of_nonneg_right (by omega) (Int.mul_nonneg (by omega) (by omega))
    · have hm := totK_mono h (j + 1) k (by omega) (by omega)
      have h1 : c * b ≤ totK l (j + 1) * d * b := Int.mul_le_mul_of_nonneg_right g5 (by omega)
      have h2 : totK l (j + 1) * (d * b) ≤ totK l k * (d * b) := Int.mul_le_mul_of_nonneg_right hm (Int.mul_nonneg (by omega) (by omega))
      have h3 : totK l k * b * d ≤ a * d := Int.mul_le_mul_of_nonneg_right f4 (by omega)
      have e1 : totK l (j + 1) * d * b = totK l (j + 1) * (d * b) := by grind
      have e2 : totK l k * b * d = totK l k * (d * b) := by grind
      omega
  have q0 := Int.ediv_mul_le c (show d ≠ 0 by omega)
  refine Int.le_ediv_of_mul_le f2 ?_
  refine Int.le_of_mul_le_mul_right (a := d) ?_ g2
  have h1 : c / d * d * b ≤ c * b := Int.mul_le_mul_of_nonneg_right q0 (by omega)
  have e1 : c / d * b * d = c / d * d * b := by grind
  omega
theorem dt_zero {l : List St} (h : stGood l = true) {d : Int} (h0 : 0 ≤ d) (hd : d ≤ totK l l.length) : (dtN l d l.length).1 = 0 ↔ d = 0 := by
  have hv := dt_val h (d := d) l.length (Nat.le_refl _)
  have hpL := prK_pos h l.length (Nat.le_refl _)
  have hdp := dt_pos h (d := d) l.length (Nat.le_refl _)
  have nn : ∀ k, k ≤ l.length → 0 ≤ wtK l (part l d) k := by
    intro k
    induction k with
    | zero => intro _; simp [wtK]
    | succ k ih =>
      intro hk
      have h5 := stGood_at h (show k < l.length by omega)
      have h6 := part_bd h (d := d) (show k < l.length by omega)
      have hp := prK_pos h k (by omega)
      rw [wtK]
      have := Int.mul_nonneg (ih (by omega)) (show 0 ≤ sp l k by omega)
      have := Int.mul_nonneg (show 0 ≤ 10 * part l d k by omega) (show 0 ≤ prK l k by omega)
      omega
  constructor
  · intro hz
    rw [hz, Int.zero_mul] at hv
    have hw : wtK l (part l d) l.length = 0 := by
      rcases Int.mul_eq_zero.1 hv.symm with e | e
      · exact e
      · omega
    have all : ∀ k, k ≤ l.length → wtK l (part l d) k = 0 → 0 < k → part l d 0 = 0 := by
      intro k
      induction k with
      | zero => intro _ _ h; omega
      | succ k ih =>
        intro hk hw _
        have h5 := stGood_at h (show k < l.length by omega)
        have h6 := part_bd h (d := d) (show k < l.length by omega)
        have hp := prK_pos h k (by omega)
        rw [wtK] at hw
        have h1 := Int.mul_nonneg (nn k (by omega)) (show 0 ≤ sp l k by omega)
        have h2 := Int.mul_nonneg (show 0 ≤ 10 * part l d k by omega) (show 0 ≤ prK l k by omega)
        by_cases e : k = 0
        · subst e
          have : 10 * part l d 0 * prK l 0 = 0 := by omega
          rcases Int.mul_eq_zero.1 this with e | e <;> omega
        · refine ih (by omega) ?_ (by omega)
          have : wtK l (part l d) k * sp l k = 0 := by omega
          rcases Int.mul_eq_zero.1 this with e | e <;> omega
    have h7 := stGood_len h
    have := all l.length (Nat.le_refl _) hw (by omega)
    have h5 := stGood_at h (show 0 < l.length by omega)
    rw [part_def] at this
    simp only [totK] at this
    omega
  · rintro rfl
    have hw : ∀ k, k ≤ l.length → wtK l (part l 0) k = 0 := by
      intro k
      induction k with
      | zero => intro _; rfl
      | succ k ih =>
        intro hk
        have hb := totK_bd h k (by omega)
        rw [wtK, ih (by omega), show part l 0 k = 0 by rw [part_def]; omega]
        simp
    rw [hw _ (Nat.le_refl _), Int.zero_mul] at hv
    rcases Int.mul_eq_zero.1 hv with e | e
    · exact e
    · omega
end Go.Proofs.Ytljpmccnppplgaa
