/- Plain facts on layers of water: sums, parts above a depth, times; lists and numbers alone. -/
import Derived.Test.YtljpmccnppplgaaS6a
import Derived.Test.YtljpmccnppplgaaFrac
set_option linter.unusedVariables false
set_option linter.unusedSimpArgs false
namespace Go.Proofs.Ytljpmccnppplgaa

def th (l : List St) (k : Nat) : Int := match l[k]? with | some x => x.thick | none => 0
def sp (l : List St) (k : Nat) : Int := match l[k]? with | some x => x.speed | none => 0
theorem th_of {l : List St} {k : Nat} (h : k < l.length) : th l k = l[k].thick := by unfold th; rw [List.getElem?_eq_getElem h]
theorem sp_of {l : List St} {k : Nat} (h : k < l.length) : sp l k = l[k].speed := by unfold sp; rw [List.getElem?_eq_getElem h]

def stOk (x : St) : Bool := inB x.thick 1 5000 && inB x.speed 1300 1700
@[irreducible] def stGood (l : List St) : Bool := l.all stOk && inB l.length 1 5
theorem stGood_bad {l : List St} {k : Nat} (hk : k < l.length) (h : stOk l[k] = false) : stGood l = false := by
  unfold stGood
  rw [Bool.and_eq_false_iff]; left
  rw [List.all_eq_false]; exact ⟨l[k], List.getElem_mem hk, by simp [h]⟩
theorem stGood_end {l : List St} (h : ∀ y ∈ l.take l.length, stOk y = true) : stGood l = inB l.length 1 5 := by
  unfold stGood
  rw [List.take_length] at h
  rw [show l.all stOk = true by rw [List.all_eq_true]; exact h, Bool.true_and]
theorem stGood_at {l : List St} (h : stGood l = true) {k : Nat} (hk : k < l.length) : 1 ≤ th l k ∧ th l k ≤ 5000 ∧ 1300 ≤ sp l k ∧ sp l k ≤ 1700 := by
  unfold stGood at h
  simp only [Bool.and_eq_true, List.all_eq_true] at h
  have := h.1 _ (List.getElem_mem hk)
  simp only [stOk, Bool.and_eq_true, inB_true] at this
  rw [th_of hk, sp_of hk]; omega
theorem stGood_len {l : List St} (h : stGood l = true) : 1 ≤ l.length ∧ l.length ≤ 5 := by
  unfold stGood at h
  simp only [Bool.and_eq_true, inB_true] at h
  omega

/-- Thick of the first k layers together. -/
def totK (l : List St) : Nat → Int
  | 0 => 0
  | k + 1 => totK l k + th l k
@[irreducible] def tot (l : List St) : Int := totK l l.length
theorem tot_def (l : List St) : tot l = totK l l.length := by unfold tot; rfl
theorem th_take {l : List St} {k m : Nat} (h : k < m) : th (l.take m) k = th l k := by unfold th; rw [List.getElem?_take_of_lt h]
theorem totK_take {l : List St} {m : Nat} : ∀ k, k ≤ m → totK (l.take m) k = totK l k
  | 0, _ => rfl
  | k + 1, h => by rw [totK, totK, totK_take k (by omega), th_take (by omega)]
theorem totK_bd {l : List St} (h : stGood l = true) : ∀ k, k ≤ l.length → (k : Int) ≤ totK l k ∧ totK l k ≤ 5000 * k
  | 0, _ => by simp [totK]
  | k + 1, hk => by
    have := totK_bd h k (by omega)
    have := stGood_at h (show k < l.length by omega)
    rw [totK]; omega
theorem totK_mono {l : List St} (h : stGood l = true) (k : Nat) : ∀ m, k ≤ m → m ≤ l.length → totK l k ≤ totK l m
  | 0, h0, _ => by
    obtain rfl : k = 0 := by omega
    exact Int.le_refl _
  | m + 1, h1, h2 => by
    by_cases e : k = m + 1
    · subst e; exact Int.le_refl _
    · have := totK_mono h k m (by omega) (by omega)
      have := stGood_at h (show m < l.length by omega)
      rw [totK]; omega
theorem tot_bd {l : List St} (h : stGood l = true) : 1 ≤ tot l ∧ tot l ≤ 25000 := by
  have h1 := totK_bd h l.length (Nat.le_refl _)
  have h2 := stGood_len h
  rw [tot_def]; omega

/-- What of layer k lies above the depth d. -/
@[irreducible] def part (l : List St) (d : Int) (k : Nat) : Int := max 0 (min (th l k) (d - totK l k))
theorem part_def (l : List St) (d : Int) (k : Nat) : part l d k = max 0 (min (th l k) (d - totK l k)) := by unfold part; rfl
theorem part_bd {l : List St} (h : stGood l = true) {d : Int} {k : Nat} (hk : k < l.length) : 0 ≤ part l d k ∧ part l d k ≤ th l k := by
  have := stGood_at h hk
  rw [part_def]; omega
/-- The part of the depth that is left below the first k layers. -/
@[irreducible] def rest (l : List St) (d : Int) (k : Nat) : Int := max 0 (d - totK l k)
theorem rest_zero {l : List St} {d : Int} (h : 0 ≤ d) : rest l d 0 = d := by unfold rest; simp only [totK]; omega
theorem rest_succ {l : List St} (h : stGood l = true) {d : Int} {k : Nat} (hk : k < l.length) : rest l d (k + 1) = rest l d k - part l d k ∧ min (th l k) (rest l d k) = part l d k ∧ 0 ≤ rest l d k := by
  have := stGood_at h hk
  rw [part_def]; unfold rest; rw [totK]; omega
theorem rest_le {l : List St} (h : stGood l = true) {d : Int} (hd : 0 ≤ d) {k : Nat} (hk : k ≤ l.length) : rest l d k ≤ d := by
  have := totK_bd h k hk
  unfold rest; omega

/-- The layers above a depth. -/
def cutL (l : List St) (d : Int) : List St := (List.range l.length).map fun k => ⟨part l d k, sp l k⟩
theorem cutL_length (l : List St) (d : Int) : (cutL l d).length = l.length := by simp [cutL]
theorem cutL_get {l : List St} {d : Int} {k : Nat} (h : k < (cutL l d).length) : (cutL l d)[k] = ⟨part l d k, sp l k⟩ := by simp [cutL]
theorem th_cut {l : List St} {d : Int} {k : Nat} (h : k < l.length) : th (cutL l d) k = part l d k := by rw [th_of (by rw [cutL_length]; exact h), cutL_get]
theorem sp_cut {l : List St} {d : Int} {k : Nat} (h : k < l.length) : sp (cutL l d) k = sp l k := by rw [sp_of (by rw [cutL_length]; exact h), cutL_get]

/-- The sum of the parts above a depth times the speeds. -/
def sumK (l : List St) (d : Int) : Nat → Int
  | 0 => 0
  | k + 1 => sumK l d k + part l d k * sp l k
def wK (l : List St) : Nat → Int
  | 0 => 0
  | k + 1 => wK l k + th l k * sp l k
theorem wK_cut {l : List St} {d : Int} : ∀ k, k ≤ l.length → wK (cutL l d) k = sumK l d k
  | 0, _ => rfl
  | k + 1, h => by rw [wK, sumK, wK_cut k (by omega), th_cut (by omega), sp_cut (by omega)]
theorem part_tot {l : List St} (h : stGood l = true) {k : Nat} (hk : k < l.length) : part l (tot l) k = th l k := by
  have h1 := totK_mono h (k + 1) l.length hk (Nat.le_refl _)
  have := stGood_at h hk
  rw [part_def, tot_def]; rw [totK] at h1; omega
theorem sumK_tot {l : List St} (h : stGood l = true) : ∀ k, k ≤ l.length → sumK l (tot l) k = wK l k
  | 0, _ => rfl
  | k + 1, hk => by rw [wK, sumK, sumK_tot h k (by omega), part_tot h (by omega)]
theorem mul_bd {a b A B : Int} (h0 : 0 ≤ a) (h1 : a ≤ A) (h2 : 0 ≤ b) (h3 : b ≤ B) : 0 ≤ a * b ∧ a * b ≤ A * B :=
  ⟨Int.mul_nonneg h0 h2, Int.mul_le_mul h1 h3 h2 (by omega)⟩
theorem sumK_bd {l : List St} (h : stGood l = true) {d : Int} : ∀ k, k ≤ l.length → 0 ≤ sumK l d k ∧ sumK l d k ≤ 8500000 * k
  | 0, _ => by simp [sumK]
  | k + 1, hk => by
    have h1 := sumK_bd h (d := d) k (by omega)
    have h2 := stGood_at h (show k < l.length by omega)
    have h3 := part_bd h (d := d) (show k < l.length by omega)
    have h4 := mul_bd h3.1 (show part l d k ≤ 5000 by omega) (show 0 ≤ sp l k by omega) (show sp l k ≤ 1700 by omega)
    rw [sumK]; omega
theorem wK_bd {l : List St} (h : stGood l = true) {k : Nat} (hk : k ≤ l.length) : 0 ≤ wK l k ∧ wK l k ≤ 8500000 * k := by
  rw [← sumK_tot h k hk]; exact sumK_bd h k hk
theorem wK_pos {l : List St} (h : stGood l = true) : 0 < wK l l.length := by
  have h0 := stGood_len h
  obtain ⟨n, hn⟩ : ∃ n, l.length = n + 1 := ⟨l.length - 1, by omega⟩
  have h1 := wK_bd h (k := n) (by omega)
  have h2 := stGood_at h (show n < l.length by omega)
  have h3 := Int.mul_pos (show 0 < th l n by omega) (show 0 < sp l n by omega)
  rw [hn, wK]; omega

/-- The time straight down to a depth, as a fraction, layer by layer. -/
def dtN (l : List St) (d : Int) : Nat → Int × Int
  | 0 => (0, 1)
  | k + 1 => (redN ((dtN l d k).1 * sp l k + 10 * part l d k * (dtN l d k).2) ((dtN l d k).2 * sp l k), redD ((dtN l d k).1 * sp l k + 10 * part l d k * (dtN l d k).2) ((dtN l d k).2 * sp l k))
def pw (k : Nat) : Int := match k with | 0 => 1 | 1 => 1700 | 2 => 2890000 | 3 => 4913000000 | 4 => 8352100000000 | _ => 14198570000000000
theorem pw_succ {k : Nat} (h : k < 5) : pw k * 1700 ≤ pw (k + 1) ∧ 1 ≤ pw k ∧ pw k ≤ 8352100000000 := by
  match k, h with
  | 0, _ | 1, _ | 2, _ | 3, _ | 4, _ => decide
theorem le_of_cross {a b n d C : Int} (hb : 0 < b) (h : n * b = a * d) (hd : 0 ≤ d) (ha : a ≤ C * b) : n ≤ C * d := by
  have h1 : a * d ≤ (C * b) * d := Int.mul_le_mul_of_nonneg_right ha hd
  have h2 : n * b ≤ (C * d) * b := by rw [h]; rwa [show C * d * b = C * b * d by simp only [Int.mul_assoc, Int.mul_comm d b]]
  exact Int.le_of_mul_le_mul_right h2 hb
theorem dt_bd {l : List St} (h : stGood l = true) {d : Int} : ∀ k, k ≤ l.length → 1 ≤ (dtN l d k).2 ∧ (dtN l d k).2 ≤ pw k ∧ 0 ≤ (dtN l d k).1 ∧ (dtN l d k).1 ≤ (39 * (k : Int)) * (dtN l d k).2
  | 0, _ => by simp [dtN, pw]
  | k + 1, hk => by
    obtain ⟨h1, h2, h3, h4⟩ := dt_bd h (d := d) k (by omega)
    have h5 := stGood_at h (show k < l.length by omega)
    have h6 := part_bd h (d := d) (show k < l.length by omega)
    have h7 := stGood_len h
    obtain ⟨p1, p2, p3⟩ := pw_succ (show k < 5 by omega)
    simp only [dtN]
    generalize (dtN l d k).1 = n at *
    generalize (dtN l d k).2 = e at *
    generalize part l d k = p at *
    generalize sp l k = s at *
    have hb : 0 < e * s := Int.mul_pos (by omega) (by omega)
    have hb2 := (mul_bd (show 0 ≤ e by omega) h2 (show 0 ≤ s by omega) (show s ≤ 1700 by omega)).2
    have ha : 0 ≤ n * s := Int.mul_nonneg h3 (by omega)
    have ha2 : 0 ≤ 10 * p * e := Int.mul_nonneg (by omega) (by omega)
    have u1 : n * s ≤ (39 * (k : Int)) * e * s := Int.mul_le_mul_of_nonneg_right h4 (by omega)
    have u2 : 10 * p * e ≤ (39 * s) * e := Int.mul_le_mul_of_nonneg_right (by omega) (by omega)
    refine ⟨redD_pos hb, by have := redD_le (a := n * s + 10 * p * e) hb; omega, redN_nonneg hb (by omega), ?_⟩
    refine le_of_cross hb red_cross (by have := redD_pos (a := n * s + 10 * p * e) hb; omega) ?_
    have e1 : (39 * ((k + 1 : Nat) : Int)) * (e * s) = (39 * (k : Int)) * e * s + (39 * s) * e := by
      rw [show ((k + 1 : Nat) : Int) = (k : Int) + 1 by omega, Int.mul_add, Int.add_mul, ← Int.mul_assoc, Int.mul_one, Int.mul_assoc 39 s e, Int.mul_comm s e]
    rw [e1]; omega
/-- The numbers of one step of the time are small. -/
theorem dt_step {l : List St} (h : stGood l = true) {d : Int} {k : Nat} (hk : k < l.length) :
    0 ≤ (dtN l d k).1 * sp l k ∧ (dtN l d k).1 * sp l k ≤ 2300000000000000000 ∧ 0 ≤ 10 * part l d k * (dtN l d k).2 ∧ 10 * part l d k * (dtN l d k).2 ≤ 420000000000000000 ∧ 0 < (dtN l d k).2 * sp l k ∧ (dtN l d k).2 * sp l k ≤ 14198570000000000 := by
  obtain ⟨h1, h2, h3, h4⟩ := dt_bd h (d := d) k (by omega)
  have h5 := stGood_at h hk
  have h6 := part_bd h (d := d) hk
  have h7 := stGood_len h
  obtain ⟨p1, p2, p3⟩ := pw_succ (show k < 5 by omega)
  have q1 := (mul_bd (show 0 ≤ 39 * (k : Int) by omega) (show 39 * (k : Int) ≤ 156 by omega) (show 0 ≤ (dtN l d k).2 by omega) (show (dtN l d k).2 ≤ 8352100000000 by omega)).2
  have q2 := mul_bd h3 (show (dtN l d k).1 ≤ 1302927600000000 by omega) (show 0 ≤ sp l k by omega) (show sp l k ≤ 1700 by omega)
  have q3 := mul_bd (show 0 ≤ 10 * part l d k by omega) (show 10 * part l d k ≤ 50000 by omega) (show 0 ≤ (dtN l d k).2 by omega) (show (dtN l d k).2 ≤ 8352100000000 by omega)
  have q4 := mul_bd (show 0 ≤ (dtN l d k).2 by omega) (show (dtN l d k).2 ≤ 8352100000000 by omega) (show 0 ≤ sp l k by omega) (show sp l k ≤ 1700 by omega)
  have q5 := Int.mul_pos (show 0 < (dtN l d k).2 by omega) (show 0 < sp l k by omega)
  omega
end Go.Proofs.Ytljpmccnppplgaa
