/- What the law on speeds asks of the answers: mean speeds in bounds, equal casts both ways, the cast at a time. Lists and numbers alone. -/
import Derived.Test.YtfmlfeokdaahmaaP7c
import Derived.Test.YtfmlfeokdaahmaaP7e
import Derived.Test.YtfmlfeokdaahmaaP7h
set_option linter.unusedVariables false
set_option linter.unusedSimpArgs false
namespace Go.Proofs.Ytfmlfeokdaahmaa
theorem ly_first {l : List Ly} (h : lyGood l = true) (h0 : 0 < l.length) : (lyi l 0).dep = 0 := by
  have := lyGood_at h h0
  unfold lyAt at this
  simp only [Bool.and_eq_true, decide_eq_true_eq] at this
  exact this.2
theorem ly_asc {l : List Ly} (h : lyGood l = true) {k : Nat} (hk : k + 1 < l.length) : (lyi l k).dep < (lyi l (k + 1)).dep := by
  have := lyGood_at h hk
  unfold lyAt at this
  simp only [Bool.and_eq_true, decide_eq_true_eq] at this
  exact this.2
def thS (l : List Ly) (d : Int) : Nat → Int
  | 0 => 0
  | k + 1 => thS l d k + thk l d k
theorem thS_in {l : List Ly} {d : Int} (h : lyGood l = true) (hd : 0 ≤ d) : ∀ k, k < l.length → thS l d k = min d (lyi l k).dep
  | 0, h0 => by rw [thS, ly_first h h0]; omega
  | k + 1, hk => by
    have := ly_asc h hk
    rw [thS, thS_in h hd k (by omega)]
    unfold thk
    rw [if_pos hk]
    omega
theorem thS_all {l : List Ly} {d : Int} (h : lyGood l = true) (hd : 0 ≤ d) (h0 : 0 < l.length) : thS l d l.length = d := by
  obtain ⟨n, hn⟩ : ∃ n, l.length = n + 1 := ⟨l.length - 1, by omega⟩
  rw [hn, thS, thS_in h hd n (by omega)]
  unfold thk
  rw [if_neg (by omega)]
  omega
theorem wgt_by {l : List Ly} {d : Int} (h : lyGood l = true) : ∀ k, k ≤ l.length → 14000 * thS l d k ≤ wgtK l d k ∧ wgtK l d k ≤ 16000 * thS l d k
  | 0, _ => by simp [thS, wgtK]
  | k + 1, hk => by
    have ih := wgt_by (d := d) h k (by omega)
    have b := lyAt_bd (show k < l.length by omega) (lyGood_at h (show k < l.length by omega))
    have t0 : 0 ≤ thk l d k := by unfold thk; omega
    have m1 := Int.mul_le_mul_of_nonneg_left b.2.2.1 t0
    have m2 := Int.mul_le_mul_of_nonneg_left b.2.2.2 t0
    rw [thS, wgtK, lyi_of (show k < l.length by omega)]
    omega
theorem mean_by {t : Ct} {d : Int} (h : msOk t d = true) : 14000 * msD t d ≤ msN t d ∧ msN t d ≤ 16000 * msD t d ∧ 1 ≤ msD t d ∧ msD t d ≤ 20000 := by
  have h1 := h
  unfold msOk at h1
  rw [Bool.and_eq_true, inB_true] at h1
  obtain ⟨g, d1, d2⟩ := h1
  obtain ⟨_, _, _, _, _, l1, l2, lg⟩ := ctOk_bd g
  obtain ⟨_, e1, e2⟩ := ms_good g (inB_true.2 ⟨d1, d2⟩)
  have hw := wgt_by (d := d) lg t.lay.length (Nat.le_refl _)
  rw [thS_all lg (by omega) (by omega)] at hw
  have hc := red_cross (a := wgtK t.lay d t.lay.length) (b := d)
  have hp := redD_pos (a := wgtK t.lay d t.lay.length) (b := d) (by omega)
  have hl := redD_le (a := wgtK t.lay d t.lay.length) (b := d) (by omega)
  rw [e1, e2]
  generalize redN (wgtK t.lay d t.lay.length) d = X at *
  generalize redD (wgtK t.lay d t.lay.length) d = Y at *
  generalize wgtK t.lay d t.lay.length = W at *
  have m1 := Int.mul_le_mul_of_nonneg_right hw.1 (show 0 ≤ Y by omega)
  have m2 := Int.mul_le_mul_of_nonneg_right hw.2 (show 0 ≤ Y by omega)
  refine ⟨?_, ?_, by omega, by omega⟩
  · refine Int.le_of_mul_le_mul_right (a := d) ?_ (by omega)
    rw [hc, show 14000 * Y * d = 14000 * d * Y by grind]; exact m1
  · refine Int.le_of_mul_le_mul_right (a := d) ?_ (by omega)
    rw [hc, show 16000 * Y * d = 16000 * d * Y by grind]; exact m2
theorem slAll_iff {t u : Ct} {wi : Int} : slAll t u wi = true ↔ ∀ x ∈ t.lay ++ u.lay, -wi ≤ dif t u x.dep ∧ dif t u x.dep ≤ wi := by
  unfold slAll
  rw [List.all_eq_true]
  constructor
  · intro h x hx
    obtain ⟨k, hk, rfl⟩ := List.mem_iff_getElem.1 hx
    have := h k (by simpa using hk)
    rw [slAt_of hk, inB_true] at this
    exact this
  · intro h k hk
    have hk' : k < (t.lay ++ u.lay).length := by simpa using hk
    rw [slAt_of hk', inB_true]
    exact h _ (List.getElem_mem hk')
theorem same_back (t u : Ct) (wi : Int) : slV u t wi = slV t u wi ∧ slOk u t wi = slOk t u wi := by
  have e1 : slOk u t wi = slOk t u wi := by unfold slOk; rw [Bool.and_comm (ctOk u) (ctOk t)]
  have e2 : slAll u t wi = slAll t u wi := by
    rw [Bool.eq_iff_iff, slAll_iff, slAll_iff]
    constructor <;>
    · intro h x hx
      have := h x (by rw [List.mem_append] at hx ⊢; exact hx.symm)
      unfold dif at this ⊢
      omega
  refine ⟨?_, e1⟩
  unfold slV
  rw [e1, e2]
theorem cts_at {l : List Ct} (h : ctsGood l = true) {k : Nat} (hk : k < l.length) : ctsAt l k = true := by
  unfold ctsGood at h
  rw [Bool.and_eq_true, List.all_eq_true] at h
  exact h.1 k (by simpa using hk)
theorem cts_asc {l : List Ct} (h : ctsGood l = true) {i : Nat} : ∀ j, i < j → j < l.length → (cti l i).time < (cti l j).time
  | 0, hi, _ => by omega
  | j + 1, hi, hj => by
    have h1 := cts_at h hj
    have h2 : (cti l j).time < (cti l (j + 1)).time := by
      unfold ctsAt at h1
      simp only [Bool.and_eq_true, decide_eq_true_eq] at h1
      exact h1.1.2
    by_cases e : i = j
    · subst e; exact h2
    · have := cts_asc (i := i) h j (by omega) (by omega)
      omega
theorem cts_ids {l : List Ct} (h : ctsGood l = true) {i j : Nat} (hi : i < j) (hj : j < l.length) : (cti l i).id ≠ (cti l j).id := by
  have h1 := cts_at h hj
  unfold ctsAt at h1
  rw [Bool.and_eq_true] at h1
  have := List.all_eq_true.1 h1.2 i (by simpa using hi)
  simpa using this
theorem cid_cases (l : List Ct) (tm : Int) : ∀ k, cidK l tm k = 0 ∨ ∃ j, j < k ∧ cidK l tm k = (cti l j).id ∧ (cti l j).time ≤ tm ∧ ∀ i, j < i → i < k → tm < (cti l i).time
  | 0 => .inl rfl
  | k + 1 => by
    rw [cidK]
    split
    · rename_i h
      exact .inr ⟨k, by omega, rfl, h, fun i _ _ => by omega⟩
    · rename_i h
      rcases cid_cases l tm k with e | ⟨j, h1, h2, h3, h4⟩
      · exact .inl e
      · refine .inr ⟨j, by omega, h2, h3, fun i hi hik => ?_⟩
        by_cases e : i = k
        · subst e; omega
        · exact h4 i hi (by omega)
theorem castAt_by {l : List Ct} {tm : Int} (h : caB l tm = true) {i : Nat} (hi : i < l.length) :
    ¬ (l[i].id = caV l tm ∧ tm < l[i].time) ∧ ∀ hn : i + 1 < l.length, l[i].time ≤ tm → tm < l[i + 1].time → l[i].id = caV l tm := by
  have h1 := h
  unfold caB at h1
  rw [Bool.and_eq_true, decide_eq_true_eq] at h1
  obtain ⟨ok, hp⟩ := h1
  have e : caV l tm = cidK l tm l.length := by unfold caV; rw [if_pos ok]
  unfold caOk at ok
  rw [Bool.and_eq_true] at ok
  rw [e]
  rcases cid_cases l tm l.length with h0 | ⟨j, h1, h2, h3, h4⟩
  · omega
  · rw [h2, ← cti_of hi]
    refine ⟨fun ⟨e1, e2⟩ => ?_, fun hn a b => ?_⟩
    · rcases Nat.lt_trichotomy i j with hij | rfl | hij
      · exact cts_ids ok.1 hij h1 e1
      · omega
      · exact cts_ids ok.1 hij hi e1.symm
    · rw [← cti_of hn] at b
      rcases Nat.lt_trichotomy i j with hij | rfl | hij
      · by_cases e3 : j = i + 1
        · subst e3; omega
        · have := cts_asc ok.1 (i := i + 1) j (by omega) h1
          omega
      · rfl
      · have := h4 i hij hi
        omega
end Go.Proofs.Ytfmlfeokdaahmaa
