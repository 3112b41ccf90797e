/- What the law on planned lines asks of the answers: the plan is valid and its strips have all of the box; overlaps are the same both ways. Lists and numbers alone. -/
import Derived.Test.YtdphaejpponmeaaP9c
import Derived.Test.YtdphaejpponmeaaW9h
set_option linter.unusedVariables false
set_option linter.unusedSimpArgs false
namespace Go.Proofs.Ytdphaejpponmeaa
theorem seen_eq (b : Bx) (s : Int) : ∀ n : Nat, (n : Int) * 2 * s = seen b s n - b.south
  | 0 => by simp [seen]
  | n + 1 => by
    have ih := seen_eq b s n
    have e : ((n + 1 : Nat) : Int) = (n : Int) + 1 := by omega
    rw [seen, e]
    grind
theorem plK_get (b : Bx) (s : Int) {k : Nat} : ∀ n, k < n → (plK b s n)[k]? = some ⟨(k : Int) + 1, min (seen b s k + s) b.north, b.west, b.east, s⟩
  | 0, h => by omega
  | n + 1, h => by
    rw [plK]
    by_cases e : k < n
    · rw [List.getElem?_append_left (by rw [plK_len]; exact e), plK_get b s n e]
    · obtain rfl : k = n := by omega
      rw [List.getElem?_append_right (by rw [plK_len]; omega), plK_len, Nat.sub_self]
      rfl
theorem plK_y {b : Bx} {s : Int} {n k : Nat} (h : k < (plK b s n).length) : (plK b s n)[k].y = min (seen b s k + s) b.north := by
  have e := plK_get b s n (show k < n by rw [plK_len] at h; exact h)
  rw [List.getElem?_eq_getElem h] at e
  injection e with e
  rw [e]
theorem plK_good {b : Bx} {s : Int} {n : Nat} (hn : n ≤ 8) (hb : bxOk b = true) (h1 : 1 ≤ s) (h2 : s ≤ 300) (hw : b.west ≠ b.east) : lnGood (plK b s n) = true := by
  have B := bxOk_bd hb
  refine (lnGood_end fun k hk => ?_).trans ?_
  · rw [plK_len] at hk
    have g := plK_get b s n hk
    unfold lnAt
    rw [g]
    have s0 := seen_mono (b := b) (s := s) (by omega) k
    have ok : lnOk ⟨(k : Int) + 1, min (seen b s k + s) b.north, b.west, b.east, s⟩ = true := by
      unfold lnOk
      simp only [Bool.and_eq_true, inB_true, decide_eq_true_eq]
      omega
    cases k with
    | zero => simp only [ok, Bool.and_true]
    | succ m =>
      have g2 := plK_get b s n (show m < n by omega)
      simp only [g2, ok, Bool.true_and, decide_eq_true_eq]
      omega
  · rw [plK_len, decide_eq_true_eq]; omega
/-- A plan as it is. -/
theorem pl_facts {b : Bx} {s : Int} (h : plB b s = true) : ∃ n : Nat, 1 ≤ n ∧ n ≤ 8 ∧ plL b s = plK b s n ∧ lnGood (plK b s n) = true ∧ 1 ≤ s ∧ s ≤ 300 ∧ 0 ≤ b.south ∧ b.south ≤ b.north ∧ b.north ≤ 1000 ∧
    b.north ≤ seen b s n ∧ seen b s (n - 1) + 2 * s = seen b s n ∧ (1 < n → ((n : Int) - 1) * 2 * s < b.north - b.south) ∧ (∀ m, 1 ≤ m → m < n → seen b s m < b.north) := by
  have h1 := h
  unfold plB at h1
  rw [Bool.and_eq_true, Option.isSome_iff_exists] at h1
  obtain ⟨hp, n, hn⟩ := h1
  have hp' := hp
  unfold plPre at hp'
  simp only [Bool.and_eq_true, inB_true, decide_eq_true_eq] at hp'
  obtain ⟨⟨hb, s1, s2⟩, hw⟩ := hp'
  have hl : plL b s = plK b s n := by unfold plL; rw [if_pos hp, hn]
  unfold plN at hn
  rw [List.find?_range_eq_some] at hn
  obtain ⟨m1, m2, m3⟩ := hn
  simp only [Bool.not_eq_true', List.mem_range] at m1 m2
  have n0 : n ≠ 0 := by intro e; subst e; rw [more_zero] at m1; cases m1
  obtain ⟨m, rfl⟩ : ∃ m, n = m + 1 := ⟨n - 1, by omega⟩
  rw [more_succ, decide_eq_false_iff_not] at m1
  have B := bxOk_bd hb
  have lt : ∀ j, 1 ≤ j → j < m + 1 → seen b s j < b.north := fun j h1 h2 => by
    have := m3 j h2
    simp only [Bool.not_not] at this
    obtain ⟨i, rfl⟩ : ∃ i, j = i + 1 := ⟨j - 1, by omega⟩
    rw [more_succ, decide_eq_true_eq] at this
    exact this
  refine ⟨m + 1, by omega, by omega, hl, plK_good (by omega) hb s1 s2 hw, s1, s2, by omega, by omega, by omega, by omega, by simp only [Nat.add_sub_cancel, seen], fun h1 => ?_, lt⟩
  have e := seen_eq b s m
  have := lt m (by omega) (by omega)
  rw [show ((m + 1 : Nat) : Int) - 1 = (m : Int) by omega]
  omega
theorem ov_sym (l : List Ln) (a c : Int) : ovOk l c a = ovOk l a c ∧ ovV l c a = ovV l a c := by
  have e : ovOk l c a = ovOk l a c := by
    unfold ovOk
    cases lnGood l <;> simp [Bool.and_comm]
  refine ⟨e, ?_⟩
  unfold ovV
  rw [e]
  split
  · simp only
    omega
  · rfl
end Go.Proofs.Ytdphaejpponmeaa
