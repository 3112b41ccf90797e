/- Small functions of both texts on numbers: ranges, least and greatest, absolute value, greatest common divisor, lowest terms. Conditions: the bounds in each statement. -/
import Derived.Test.YtanmkjjclpplkaaDoorProg
import Derived.Test.YtanmkjjclpplkaaDoorBase
import Derived.Test.YtanmkjjclpplkaaDoorFrac
set_option linter.unusedVariables false
set_option linter.unusedSimpArgs false
namespace Go.Proofs.YtanmkjjclpplkaaDoor
open Go.RowKit
set_option maxHeartbeats 400000

theorem specIn (n a b : Int) (w : World) :
    Calls Tryd.prog 38 #[.int .i64 n, .int .i64 a, .int .i64 b] w fun e w' => e = .returned (.bool (inB n a b)) ∧ w = w' := by
  by_cases h1 : a ≤ n <;> by_cases h2 : n ≤ b
  all_goals
    go_enter Tryd.func38, Tryd.ntmps38
    go_wp2
    go_ret
    exact ⟨ret_bool (by unfold inB; simp [*]), rfl⟩
theorem implIn (n a b : Int) (w : World) :
    Calls Tryd.prog 36 #[.int .i64 n, .int .i64 a, .int .i64 b] w fun e w' => e = .returned (.bool (inB n a b)) ∧ w = w' := by
  by_cases h1 : a ≤ n <;> by_cases h2 : n ≤ b
  all_goals
    go_enter Tryd.func36, Tryd.ntmps36
    go_wp2
    go_ret
    exact ⟨ret_bool (by unfold inB; simp [*]), rfl⟩
theorem gcd_step {m n G : Nat} (h : Nat.gcd m n = G) : Nat.gcd n (m % n) = G := by
  rw [← h, Nat.gcd_comm n, ← Nat.gcd_rec, Nat.gcd_comm]
theorem red_tdiv {a b : Int} : a.tdiv (Int.gcd a b : Int) = redN a b ∧ b.tdiv (Int.gcd a b : Int) = redD a b := by
  unfold redN redD
  exact ⟨Int.tdiv_eq_ediv_of_dvd (Int.gcd_dvd_left a b), Int.tdiv_eq_ediv_of_dvd (Int.gcd_dvd_right a b)⟩
theorem red_ediv {a b : Int} : b / (Int.gcd a b : Int) = redD a b := by unfold redD; rfl
end Go.Proofs.YtanmkjjclpplkaaDoor
