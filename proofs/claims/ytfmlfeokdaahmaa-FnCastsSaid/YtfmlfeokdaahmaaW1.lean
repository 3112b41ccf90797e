/- Small functions of both texts on numbers: ranges, least and greatest, absolute value, greatest common divisor, lowest terms. Conditions: the bounds in each statement. -/
import Derived.Test.YtfmlfeokdaahmaaProg
import Derived.Test.YtfmlfeokdaahmaaBase
import Derived.Test.YtfmlfeokdaahmaaFrac
set_option linter.unusedVariables false
set_option linter.unusedSimpArgs false
namespace Go.Proofs.Ytfmlfeokdaahmaa
open Go.RowKit
set_option maxHeartbeats 400000

theorem specIn (n a b : Int) (w : World) :
    Calls Try.prog 66 #[.int .i64 n, .int .i64 a, .int .i64 b] w fun e w' => e = .returned (.bool (inB n a b)) ∧ w = w' := by
  by_cases h1 : a ≤ n <;> by_cases h2 : n ≤ b
  all_goals
    go_enter Try.func66, Try.ntmps66
    go_wp2
    go_ret
    exact ⟨ret_bool (by unfold inB; simp [*]), rfl⟩
theorem implIn (n a b : Int) (w : World) :
    Calls Try.prog 57 #[.int .i64 n, .int .i64 a, .int .i64 b] w fun e w' => e = .returned (.bool (inB n a b)) ∧ w = w' := by
  by_cases h1 : a ≤ n <;> by_cases h2 : n ≤ b
  all_goals
    go_enter Try.func57, Try.ntmps57
    go_wp2
    go_ret
    exact ⟨ret_bool (by unfold inB; simp [*]), rfl⟩
theorem specMost (a b : Int) (w : World) :
    Calls Try.prog 96 #[.int .i64 a, .int .i64 b] w fun e w' => e = .returned (.int .i64 (max a b)) ∧ w = w' := by
  by_cases h : b < a
  all_goals
    go_enter Try.func96, Try.ntmps96
    go_wp2
    go_ret
    exact ⟨ret_int (by omega), rfl⟩
theorem specLeast (a b : Int) (w : World) :
    Calls Try.prog 89 #[.int .i64 a, .int .i64 b] w fun e w' => e = .returned (.int .i64 (min a b)) ∧ w = w' := by
  by_cases h : a < b
  all_goals
    go_enter Try.func89, Try.ntmps89
    go_wp2
    go_ret
    exact ⟨ret_int (by omega), rfl⟩
theorem implAbs (n : Int) (w : World) (h1 : -9223372036854775807 ≤ n) (h2 : n ≤ 9223372036854775807) :
    Calls Try.prog 67 #[.int .i64 n] w fun e w' => e = .returned (.int .i64 (ab n)) ∧ w = w' := by
  go_enter Try.func67, Try.ntmps67
  go_wp2
  all_goals
    go_ret
    exact ⟨ret_int (by unfold ab; omega), rfl⟩
theorem gcd_step {m n G : Nat} (h : Nat.gcd m n = G) : Nat.gcd n (m % n) = G := by
  rw [← h, Nat.gcd_comm n, ← Nat.gcd_rec, Nat.gcd_comm]
set_option maxHeartbeats 1000000 in
theorem implGcd (a b : Int) (w : World) (h1 : -9223372036854775807 ≤ a) (h2 : a ≤ 9223372036854775807) (h3 : -9223372036854775807 ≤ b) (h4 : b ≤ 9223372036854775807) :
    Calls Try.prog 97 #[.int .i64 a, .int .i64 b] w fun e w' => e = .returned (.int .i64 (Int.gcd a b)) ∧ ∃ n, w' = w.drewN n := by
  go_enter Try.func97, Try.ntmps97
  go_wp2_with (go_at_call 67; refine (implAbs _ _ (by omega) (by omega)).mono ?_; rintro e w' ⟨rfl, rfl⟩)
  go_loopw [0, 1] (fun s t wr => ∃ m n : Nat, s = .int .i64 m ∧ t = .int .i64 n ∧ m ≤ 9223372036854775807 ∧ n ≤ 9223372036854775807 ∧ Hid (Nat.gcd m n = Int.gcd a b) ∧ Hid (∃ q, wr = w.drewN q)) (fun _ t _ => (intOf t).toNat)
  case atStart => exact ⟨a.natAbs, b.natAbs, by unfold ab; rfl, by unfold ab; rfl, by omega, by omega, (rfl : Nat.gcd a.natAbs b.natAbs = Int.gcd a b), (⟨0, rfl⟩ : ∃ q, w = w.drewN q)⟩
  case round =>
    obtain ⟨m, n, rfl, rfl, hm, hn, HG, HW⟩ := hrel
    by_cases hz : n = 0
    · subst hz
      have t1 : (((0 : Nat) : Int) != 0) = false := rfl
      go_wp2
      go_ret
      exact ⟨ret_int (by have := HG.out; rw [Nat.gcd_zero_right] at this; rw [← this]), HW.out⟩
    · have t1 : ((n : Int) != 0) = true := by simpa using hz
      have t2 : (n : Int) ≠ 0 := by omega
      have t3 : 0 < (n : Int) := by omega
      have t4 : m % n < n := Nat.mod_lt _ (by omega)
      go_wp2
      go_quiet (fail)
      go_wp2
      go_roundw
      case rel => exact ⟨n, m % n, rfl, by go_num, by omega, by omega, (gcd_step HG.out : _), (by obtain ⟨q, rfl⟩ := HW.out; exact ⟨_, by rw [World.drewN_drewN]⟩ : ∃ q, _ = w.drewN q)⟩
      case measure => simp [intOf]; omega
theorem red_tdiv {a b : Int} : a.tdiv (Int.gcd a b : Int) = redN a b ∧ b.tdiv (Int.gcd a b : Int) = redD a b := by
  unfold redN redD
  exact ⟨Int.tdiv_eq_ediv_of_dvd (Int.gcd_dvd_left a b), Int.tdiv_eq_ediv_of_dvd (Int.gcd_dvd_right a b)⟩
theorem red_ediv {a b : Int} : b / (Int.gcd a b : Int) = redD a b := by unfold redD; rfl
set_option maxHeartbeats 1000000 in
theorem implLow (a b : Int) (w : World) (h1 : -9223372036854775807 ≤ a) (h2 : a ≤ 9223372036854775807) (h3 : 0 < b) (h4 : b ≤ 9223372036854775807) :
    Calls Try.prog 78 #[.int .i64 a, .int .i64 b] w fun e w' => e = .returned (.tuple #[.int .i64 (redN a b), .int .i64 (redD a b)]) ∧ ∃ n, w' = w.drewN n := by
  have g1 := gcd_pos (a := a) h3
  go_enter Try.func78, Try.ntmps78
  go_wp2_with (go_at_call 97; refine (implGcd _ _ _ (by omega) (by omega) (by omega) (by omega)).mono ?_; rintro e w' ⟨rfl, q, rfl⟩)
  go_quiet (fail)
  go_wp2
  go_ret2
  exact ⟨ret_t2 (vi red_tdiv.1) (vi red_ediv), _, by rw [World.drewN_drewN]⟩
set_option maxHeartbeats 1000000 in
theorem specRed (a b : Int) (w : World) (h1 : -9223372036854775807 ≤ a) (h2 : a ≤ 9223372036854775807) (h3 : 0 < b) (h4 : b ≤ 9223372036854775807) :
    Calls Try.prog 76 #[.int .i64 a, .int .i64 b] w fun e w' => e = .returned (.tuple #[.int .i64 (redN a b), .int .i64 (redD a b)]) ∧ ∃ n, w' = w.drewN n := by
  have g1 := gcd_pos (a := a) h3
  go_enter Try.func76, Try.ntmps76
  go_wp2_with (go_at_call 96; refine (specMost _ _ _).mono ?_; rintro e w' ⟨rfl, rfl⟩)
  go_loop [6, 7] (fun s t => ∃ m n : Nat, s = .int .i64 m ∧ t = .int .i64 n ∧ m ≤ 9223372036854775807 ∧ n ≤ 9223372036854775807 ∧ Hid (Nat.gcd m n = Int.gcd a b)) (fun _ t => (intOf t).toNat)
  case atStart => exact ⟨a.natAbs, b.natAbs, vi (by omega), vi (by omega), by omega, by omega, (rfl : Nat.gcd a.natAbs b.natAbs = Int.gcd a b)⟩
  case round =>
    obtain ⟨m, n, rfl, rfl, hm, hn, HG⟩ := hrel
    by_cases hz : n = 0
    · subst hz
      have t1 : (((0 : Nat) : Int) != 0) = false := rfl
      have e1 := HG.out
      rw [Nat.gcd_zero_right] at e1
      subst e1
      go_wp2
      go_quiet (fail)
      go_wp2
      go_ret2
      exact ⟨ret_t2 (vi red_tdiv.1) (vi red_ediv), _, rfl⟩
    · have t1 : ((n : Int) != 0) = true := by simpa using hz
      have t2 : (n : Int) ≠ 0 := by omega
      have t3 : 0 < (n : Int) := by omega
      have t4 : m % n < n := Nat.mod_lt _ (by omega)
      go_wp2
      go_round
      case rel => exact ⟨n, m % n, rfl, by go_num, by omega, by omega, (gcd_step HG.out : _)⟩
      case measure => simp [intOf]; omega
end Go.Proofs.Ytfmlfeokdaahmaa
