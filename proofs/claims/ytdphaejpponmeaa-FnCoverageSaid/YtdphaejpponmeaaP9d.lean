/- What the law on coverage asks of the answers. Lists and numbers alone. -/
import Derived.Test.YtdphaejpponmeaaW9f
import Derived.Test.YtdphaejpponmeaaX9a
set_option linter.unusedVariables false
set_option linter.unusedSimpArgs false
namespace Go.Proofs.Ytdphaejpponmeaa
theorem cellsN_mono {q q' : Int → Int → Bool} (h : ∀ r c : Int, q r c = true → q' r c = true) : ∀ n, (cellsN q n).length ≤ (cellsN q' n).length
  | 0 => Nat.le_refl _
  | n + 1 => by
    have ih := cellsN_mono h n
    simp only [cellsN]
    cases h1 : q (n / 20 : Nat) (n % 20 : Nat) with
    | true => rw [h _ _ h1]; simp; omega
    | false =>
      cases h2 : q' (n / 20 : Nat) (n % 20 : Nat) with
      | true => simp; omega
      | false => simpa using ih
theorem cellsN_mem {q : Int → Int → Bool} {x : Ce} : ∀ n, n ≤ 400 → x ∈ cellsN q n → q x.row x.col = true ∧ 0 ≤ x.row ∧ x.row ≤ 19 ∧ 0 ≤ x.col ∧ x.col ≤ 19
  | 0, _, h => by simp [cellsN] at h
  | n + 1, hn, h => by
    simp only [cellsN] at h
    cases h1 : q (n / 20 : Nat) (n % 20 : Nat) with
    | true =>
      rw [h1] at h
      simp only [if_true, List.mem_append, List.mem_singleton] at h
      rcases h with h | rfl
      · exact cellsN_mem n (by omega) h
      · refine ⟨h1, ?_, ?_, ?_, ?_⟩ <;> simp <;> omega
    | false =>
      rw [h1] at h
      exact cellsN_mem n (by omega) (by simpa using h)
theorem cov_more {l : List Ln} {t : Int} (h : ccOk l t = true) (ht : 1 < t) : ccOk l (t - 1) = true ∧ ccV l t ≤ ccV l (t - 1) := by
  have h1 := h
  unfold ccOk at h1
  rw [Bool.and_eq_true, inB_true] at h1
  have h2 : ccOk l (t - 1) = true := by unfold ccOk; rw [h1.1, inB_true.2 (by omega)]; rfl
  refine ⟨h2, ?_⟩
  unfold ccV
  rw [if_pos h, if_pos h2, cells_def, cells_def]
  have := cellsN_mono (q := covP l t) (q' := covP l (t - 1)) (fun r c hq => by simp only [covP, decide_eq_true_eq] at hq ⊢; omega) 400
  omega
theorem unc_all {l : List Ln} {b : Bx} (h : unB l b = true) : bxOk b = true ∧ ((unL l b).length : Int) ≤ ciV b := by
  have h1 := h
  unfold unB at h1
  rw [Bool.and_eq_true] at h1
  refine ⟨h1.2, ?_⟩
  unfold unL ciV
  rw [if_pos h, if_pos h1.2, cells_def, cells_def]
  have := cellsN_mono (q := unP l b) (q' := whole b) (fun r c hq => by simp only [unP, Bool.and_eq_true] at hq; exact hq.1) 400
  omega
theorem unc_each {l : List Ln} {b : Bx} (h : unB l b = true) {k : Nat} (hk : k < (unL l b).length) : cvB l (unL l b)[k].row (unL l b)[k].col = true ∧ cvN l (unL l b)[k].row (unL l b)[k].col = 0 := by
  have hm := List.getElem_mem hk
  generalize (unL l b)[k] = x at *
  have h1 := h
  unfold unB at h1
  rw [Bool.and_eq_true] at h1
  unfold unL at hm
  rw [if_pos h, cells_def] at hm
  obtain ⟨q, r0, r1, c0, c1⟩ := cellsN_mem 400 (Nat.le_refl _) hm
  simp only [unP, Bool.and_eq_true, decide_eq_true_eq] at q
  have ok : cvB l x.row x.col = true := by rw [cvB_def, clOk_def, h1.1, inB_true.2 (by omega), inB_true.2 (by omega)]; rfl
  refine ⟨ok, ?_⟩
  unfold cvN
  rw [if_pos ok, q.2]
theorem unB_len {l : List Ln} {b : Bx} : (unL l b).length ≤ 400 := by unfold unL; split; exact cells_bd _; simp
end Go.Proofs.Ytdphaejpponmeaa
