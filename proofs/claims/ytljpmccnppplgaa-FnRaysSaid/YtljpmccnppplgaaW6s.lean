/- The reference's functions on layers: validity, sums, parts, times. Conditions: lists of at most 1048576 layers; sums, parts and times of valid layers. -/
import Derived.Test.YtljpmccnppplgaaP6
import Derived.Test.YtljpmccnppplgaaW1
set_option linter.unusedVariables false
set_option linter.unusedSimpArgs false
namespace Go.Proofs.Ytljpmccnppplgaa
open Go.RowKit
set_option maxHeartbeats 1000000

theorem step_take {α : Type} {l : List α} {m : Nat} {p : α → Prop} (hm : m < l.length) (h : ∀ y ∈ l.take m, p y) (hs : p l[m]) : ∀ y ∈ l.take (m + 1), p y := fun y hy => by
  rw [List.take_succ_eq_append_getElem hm] at hy
  rcases List.mem_append.1 hy with e | e
  · exact h y e
  · obtain rfl := List.mem_singleton.1 e; exact hs
theorem not_false_eq {b : Bool} (h : (!b) = false) : b = true := by simpa using h

theorem s6Good (A : Option Addr) (c : Nat) (l : List St) (w : World) (h : Sl 2 St.enc w A l) (hn : l.length ≤ 1048576) :
    Calls Try.prog 51 #[.slice A l.length c] w fun e w' => e = .returned (.bool (stGood l)) ∧ w = w' := by
  go_enter Try.func51, Try.ntmps51
  go_wp2
  go_loop [3] (fun i => ∃ k : Nat, k ≤ l.length ∧ i = .int .i64 k ∧ Hid (∀ y ∈ l.take k, stOk y = true)) (fun i => l.length - (intOf i).toNat)
  case atStart => exact ⟨0, Nat.zero_le _, rfl, (fun y hy => by simp at hy : ∀ y ∈ l.take 0, stOk y = true)⟩
  case round =>
    obtain ⟨k, hk, rfl, H⟩ := hrel
    by_cases hlt : k < l.length
    · obtain ⟨b, off, rfl⟩ := h.addr (by omega)
      obtain ⟨hbl, c0, c1⟩ := St.get h hlt
      by_cases hok : stOk l[k] = true
      · obtain ⟨i1, i2⟩ : inB l[k].thick 1 5000 = true ∧ inB l[k].speed 1300 1700 = true := by simpa [stOk] using hok
        go_wp2_with (go_at_call 58; refine (specIn _ _ _ _).mono ?_; rintro e w' ⟨rfl, rfl⟩)
        go_round
        case rel => exact ⟨k + 1, by omega, by go_num, (step_take hlt H.out hok : _)⟩
        case measure => simp [intOf]; omega
      · go_wp2_with (go_at_call 58; refine (specIn _ _ _ _).mono ?_; rintro e w' ⟨rfl, rfl⟩)
        all_goals first | (go_ret; exact ⟨ret_bool (stGood_bad hlt (by simpa using hok)).symm, rfl⟩) | (exfalso; apply hok; simp only [stOk, Bool.and_eq_true]; exact ⟨‹_›, not_false_eq ‹_›⟩)
    · obtain rfl : k = l.length := by omega
      go_wp2_with (go_at_call 58; refine (specIn _ _ _ _).mono ?_; rintro e w' ⟨rfl, rfl⟩)
      go_ret
      exact ⟨ret_bool (stGood_end H.out).symm, rfl⟩

theorem s6Total (A : Option Addr) (c m : Nat) (l : List St) (w : World) (h : Sl 2 St.enc w A l) (hg : stGood l = true) (hm : m ≤ l.length) :
    Calls Try.prog 55 #[.slice A m c] w fun e w' => e = .returned (.int .i64 (totK l m)) ∧ w = w' := by
  have h5 := stGood_len hg
  go_enter Try.func55, Try.ntmps55
  go_wp2
  go_loop [3, 4] (fun s i => ∃ k : Nat, k ≤ m ∧ i = .int .i64 k ∧ s = .int .i64 (totK l k)) (fun _ i => m - (intOf i).toNat)
  case atStart => exact ⟨0, Nat.zero_le _, rfl, rfl⟩
  case round =>
    obtain ⟨k, hk, rfl, rfl⟩ := hrel
    have b1 := totK_bd hg k (by omega)
    by_cases hlt : k < m
    · obtain ⟨b, off, rfl⟩ := h.addr (by omega)
      obtain ⟨hbl, c0, c1⟩ := St.get h (show k < l.length by omega)
      have b2 := stGood_at hg (show k < l.length by omega)
      rw [← th_of] at c0
      clear c1
      go_wp2
      go_round
      case rel => exact ⟨k + 1, by omega, by go_num, rfl⟩
      case measure => simp [intOf]; omega
    · obtain rfl : k = m := by omega
      go_wp2
      go_ret
      exact ⟨rfl, rfl⟩

theorem s6Part (A : Option Addr) (c k : Nat) (d : Int) (l : List St) (w : World) (h : Sl 2 St.enc w A l) (hg : stGood l = true) (hk : k < l.length) (hc : l.length ≤ c) (hd0 : -100000 ≤ d) (hd : d ≤ 100000) :
    Calls Try.prog 67 #[.slice A l.length c, .int .i64 k, .int .i64 d] w fun e w' => e = .returned (.int .i64 (part l d k)) ∧ ∃ n, w' = w.drewN n := by
  have h5 := stGood_len hg
  obtain ⟨b, off, rfl⟩ := h.addr (by omega)
  obtain ⟨hbl, c0, c1⟩ := St.get h hk
  have b2 := stGood_at hg hk
  have b3 := totK_bd hg k (by omega)
  rw [← th_of hk] at c0
  go_enter Try.func67, Try.ntmps67
  go_wp2
  go_quiet ((first | (go_at_call 55; exact quiet_l (s6Total _ _ _ l _ (h.below (bdrew (Below.refl _ _) _)) hg (by omega))) | (go_at_call 79; exact quiet_l (specLeast _ _ _)) | (go_at_call 76; exact quiet_l (specMost _ _ _))))
  go_wp2
  go_ret
  exact ⟨ret_int (by rw [part_def]), _, rfl⟩

theorem s6Sum (A : Option Addr) (c : Nat) (d : Int) (l : List St) (w : World) (h : Sl 2 St.enc w A l) (hg : stGood l = true) (hc : l.length ≤ c) (hd0 : -100000 ≤ d) (hd : d ≤ 100000) :
    Calls Try.prog 64 #[.slice A l.length c, .int .i64 d] w fun e w' => e = .returned (.int .i64 (sumK l d l.length)) ∧ ∃ n, w' = w.drewN n := by
  have h5 := stGood_len hg
  go_enter Try.func64, Try.ntmps64
  go_wp2
  go_loopw [5, 6] (fun s i wr => ∃ k : Nat, k ≤ l.length ∧ i = .int .i64 k ∧ s = .int .i64 (sumK l d k) ∧ Hid (∃ q, wr = w.drewN q)) (fun _ i _ => l.length - (intOf i).toNat)
  case atStart => exact ⟨0, Nat.zero_le _, rfl, rfl, (⟨0, rfl⟩ : ∃ q, w = w.drewN q)⟩
  case round =>
    obtain ⟨k, hk, rfl, rfl, HW⟩ := hrel
    have b1 := sumK_bd hg (d := d) k hk
    by_cases hlt : k < l.length
    · obtain ⟨b, off, rfl⟩ := h.addr (by omega)
      have hs : Sl 2 St.enc wr (some ⟨b, off, none⟩) l := by obtain ⟨q, rfl⟩ := HW.out; exact h.below (bdrew (Below.refl _ _) _)
      obtain ⟨hbl, c0, c1⟩ := St.get hs hlt
      have b2 := stGood_at hg hlt
      have b3 := part_bd hg (d := d) hlt
      rw [← sp_of hlt] at c1
      have b4 := mul_bd b3.1 (show part l d k ≤ 5000 by omega) (show 0 ≤ sp l k by omega) (show sp l k ≤ 1700 by omega)
      go_wp2
      go_quiet ((go_at_call 67; exact quiet_d (s6Part _ _ _ _ l _ (hs.below (bdrew (Below.refl _ _) _)) hg hlt hc hd0 hd)))
      go_wp2
      go_roundw
      case rel => exact ⟨k + 1, by omega, by go_num, rfl, (by obtain ⟨q, rfl⟩ := HW.out; exact ⟨_, by rw [World.drewN_drewN]⟩ : ∃ q, _ = w.drewN q)⟩
      case measure => simp [intOf]; omega
    · obtain rfl : k = l.length := by omega
      go_wp2
      go_ret
      exact ⟨rfl, HW.out⟩

theorem s6Slope (A : Option Addr) (c : Nat) (l : List St) (n d : Int) (w : World) (h : Sl 2 St.enc w A l) (hn : l.length ≤ 1048576) :
    Calls Try.prog 57 #[.slice A l.length c, .int .i64 n, .int .i64 d] w fun e w' => e = .returned (.bool (stGood l && (inB n 0 200 && inB d 1 100 && decide (n ≤ 2 * d)))) ∧ w = w' := by
  by_cases g : stGood l = true
  · by_cases a1 : inB n 0 200 = true
    · by_cases a2 : inB d 1 100 = true
      · have q1 := inB_true.1 a1
        have q2 := inB_true.1 a2
        by_cases a3 : n ≤ 2 * d
        all_goals
          go_enter Try.func57, Try.ntmps57
          go_wp2_with (first | (go_at_call 51; refine (s6Good _ _ l _ h hn).mono ?_; rintro e w' ⟨rfl, rfl⟩) | (go_at_call 58; refine (specIn _ _ _ _).mono ?_; rintro e w' ⟨rfl, rfl⟩))
          go_ret
          exact ⟨ret_bool (by simp [*]), rfl⟩
      · have a2' : inB d 1 100 = false := by simpa using a2
        go_enter Try.func57, Try.ntmps57
        go_wp2_with (first | (go_at_call 51; refine (s6Good _ _ l _ h hn).mono ?_; rintro e w' ⟨rfl, rfl⟩) | (go_at_call 58; refine (specIn _ _ _ _).mono ?_; rintro e w' ⟨rfl, rfl⟩))
        go_ret
        exact ⟨ret_bool (by simp [*]), rfl⟩
    · have a1' : inB n 0 200 = false := by simpa using a1
      go_enter Try.func57, Try.ntmps57
      go_wp2_with (first | (go_at_call 51; refine (s6Good _ _ l _ h hn).mono ?_; rintro e w' ⟨rfl, rfl⟩) | (go_at_call 58; refine (specIn _ _ _ _).mono ?_; rintro e w' ⟨rfl, rfl⟩))
      go_ret
      exact ⟨ret_bool (by simp [*]), rfl⟩
  · have g' : stGood l = false := by simpa using g
    go_enter Try.func57, Try.ntmps57
    go_wp2_with (first | (go_at_call 51; refine (s6Good _ _ l _ h hn).mono ?_; rintro e w' ⟨rfl, rfl⟩) | (go_at_call 58; refine (specIn _ _ _ _).mono ?_; rintro e w' ⟨rfl, rfl⟩))
    go_ret
    exact ⟨ret_bool (by simp [*]), rfl⟩
end Go.Proofs.Ytljpmccnppplgaa
