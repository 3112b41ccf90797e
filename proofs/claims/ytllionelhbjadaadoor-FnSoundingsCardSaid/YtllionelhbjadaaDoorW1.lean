/- Small functions of both texts on numbers: ranges, least and greatest, absolute value, greatest common divisor, lowest terms. Conditions: the bounds in each statement. -/
import Derived.Test.YtllionelhbjadaaDoorProg
import Derived.Test.YtllionelhbjadaaDoorBase
import Derived.Test.YtllionelhbjadaaDoorFrac
set_option linter.unusedVariables false
set_option linter.unusedSimpArgs false
namespace Go.Proofs.YtllionelhbjadaaDoor
open Go.RowKit
set_option maxHeartbeats 400000

theorem specIn (n a b : Int) (w : World) :
    Calls Tryd.prog 53 #[.int .i64 n, .int .i64 a, .int .i64 b] w fun e w' => e = .returned (.bool (inB n a b)) ∧ w = w' := by
  by_cases h1 : a ≤ n <;> by_cases h2 : n ≤ b
  all_goals
    go_enter Tryd.func53, Tryd.ntmps53
    go_wp2
    go_ret
    exact ⟨ret_bool (by unfold inB; simp [*]), rfl⟩
theorem implIn (n a b : Int) (w : World) :
    Calls Tryd.prog 34 #[.int .i64 n, .int .i64 a, .int .i64 b] w fun e w' => e = .returned (.bool (inB n a b)) ∧ w = w' := by
  by_cases h1 : a ≤ n <;> by_cases h2 : n ≤ b
  all_goals
    go_enter Tryd.func34, Tryd.ntmps34
    go_wp2
    go_ret
    exact ⟨ret_bool (by unfold inB; simp [*]), rfl⟩
theorem specMost (a b : Int) (w : World) :
    Calls Tryd.prog 47 #[.int .i64 a, .int .i64 b] w fun e w' => e = .returned (.int .i64 (max a b)) ∧ w = w' := by
  by_cases h : b < a
  all_goals
    go_enter Tryd.func47, Tryd.ntmps47
    go_wp2
    go_ret
    exact ⟨ret_int (by omega), rfl⟩
theorem specLeast (a b : Int) (w : World) :
    Calls Tryd.prog 48 #[.int .i64 a, .int .i64 b] w fun e w' => e = .returned (.int .i64 (min a b)) ∧ w = w' := by
  by_cases h : a < b
  all_goals
    go_enter Tryd.func48, Tryd.ntmps48
    go_wp2
    go_ret
    exact ⟨ret_int (by omega), rfl⟩
theorem implAbs (n : Int) (w : World) (h1 : -9223372036854775807 ≤ n) (h2 : n ≤ 9223372036854775807) :
    Calls Tryd.prog 50 #[.int .i64 n] w fun e w' => e = .returned (.int .i64 (ab n)) ∧ w = w' := by
  go_enter Tryd.func50, Tryd.ntmps50
  go_wp2
  all_goals
    go_ret
    exact ⟨ret_int (by unfold ab; omega), rfl⟩
theorem gcd_step {m n G : Nat} (h : Nat.gcd m n = G) : Nat.gcd n (m % n) = G := by
  rw [← h, Nat.gcd_comm n, ← Nat.gcd_rec, Nat.gcd_comm]
theorem red_tdiv {a b : Int} : a.tdiv (Int.gcd a b : Int) = redN a b ∧ b.tdiv (Int.gcd a b : Int) = redD a b := by
  unfold redN redD
  exact ⟨Int.tdiv_eq_ediv_of_dvd (Int.gcd_dvd_left a b), Int.tdiv_eq_ediv_of_dvd (Int.gcd_dvd_right a b)⟩
theorem red_ediv {a b : Int} : b / (Int.gcd a b : Int) = redD a b := by unfold redD; rfl
end Go.Proofs.YtllionelhbjadaaDoor
