/- Small functions of both texts on places and boxes: whether they are valid, whether a box has a place. No condition. -/
import Derived.Test.YtfmlfeokdaahmaaW1
import Derived.Test.YtfmlfeokdaahmaaAft
set_option linter.unusedVariables false
set_option linter.unusedSimpArgs false
namespace Go.Proofs.Ytfmlfeokdaahmaa
open Go.RowKit
set_option maxHeartbeats 2000000

theorem specGrid (n : Int) (w : World) :
    Calls Try.prog 98 #[.int .i64 n] w fun e w' => e = .returned (.bool (inB n 0 1000)) ∧ w = w' := by
  go_enter Try.func98, Try.ntmps98
  go_wp2_with (go_at_call 66; refine (specIn _ _ _ _).mono ?_; rintro e w' ⟨rfl, rfl⟩)
  go_ret
  exact ⟨rfl, rfl⟩
@[irreducible] def spOk (a b : Int) : Bool := inB a 0 1000 && inB b 0 1000
theorem spOk_def (a b : Int) : spOk a b = (inB a 0 1000 && inB b 0 1000) := by unfold spOk; rfl
theorem specSpot (a b : Int) (w : World) :
    Calls Try.prog 80 #[.agg #[.int .i64 a, .int .i64 b]] w fun e w' => e = .returned (.bool (spOk a b)) ∧ Below w.heap.size w w' := by
  go_enter Try.func80, Try.ntmps80
  go_wp2_with (go_at_call 98; refine (specGrid _ _).mono ?_; rintro e w' ⟨rfl, rfl⟩)
  all_goals
    go_ret
    exact ⟨ret_bool (by rw [spOk_def]; simp [*]), by go_grown⟩
theorem implSpot (a b : Int) (w : World) :
    Calls Try.prog 59 #[.agg #[.int .i64 a, .int .i64 b]] w fun e w' => e = .returned (.bool (spOk a b)) ∧ Below w.heap.size w w' := by
  go_enter Try.func59, Try.ntmps59
  go_wp2_with (go_at_call 57; refine (implIn _ _ _ _).mono ?_; rintro e w' ⟨rfl, rfl⟩)
  all_goals
    go_ret
    exact ⟨ret_bool (by rw [spOk_def]; simp [*]), by go_grown⟩
/-- The square of a distance. -/
@[irreducible] def sqr (a b c d : Int) : Int := (a - c) * (a - c) + (b - d) * (b - d)
theorem sqr_def (a b c d : Int) : sqr a b c d = (a - c) * (a - c) + (b - d) * (b - d) := by unfold sqr; rfl
theorem sq_bd {a c : Int} (h1 : 0 ≤ a) (h2 : a ≤ 1000) (h3 : 0 ≤ c) (h4 : c ≤ 1000) : 0 ≤ (a - c) * (a - c) ∧ (a - c) * (a - c) ≤ 1000000 := by
  have h5 : -1000 ≤ a - c := by omega
  have h6 : a - c ≤ 1000 := by omega
  generalize a - c = d at *
  constructor
  · rcases Int.lt_or_le d 0 with h | h
    · have := Int.mul_nonneg_of_nonpos_of_nonpos (show d ≤ 0 by omega) (show d ≤ 0 by omega); omega
    · exact Int.mul_nonneg h h
  · have e1 := Int.mul_nonneg (show 0 ≤ 1000 - d by omega) (show 0 ≤ 1000 + d by omega)
    rw [show (1000 - d) * (1000 + d) = 1000000 - d * d by rw [Int.sub_mul, Int.mul_add, Int.mul_add, Int.mul_comm d 1000]; omega] at e1
    omega
theorem sqr_bd {a b c d : Int} (h1 : spOk a b = true) (h2 : spOk c d = true) : 0 ≤ sqr a b c d ∧ sqr a b c d ≤ 2000000 := by
  rw [spOk_def, Bool.and_eq_true, inB_true, inB_true] at h1 h2
  have := sq_bd (a := a) (c := c) (by omega) (by omega) (by omega) (by omega)
  have := sq_bd (a := b) (c := d) (by omega) (by omega) (by omega) (by omega)
  rw [sqr_def]; omega
theorem implSqr (a b c d : Int) (w : World) (h1 : spOk a b = true) (h2 : spOk c d = true) :
    Calls Try.prog 81 #[.agg #[.int .i64 a, .int .i64 b], .agg #[.int .i64 c, .int .i64 d]] w fun e w' => e = .returned (.int .i64 (sqr a b c d)) ∧ Below w.heap.size w w' := by
  rw [spOk_def, Bool.and_eq_true, inB_true, inB_true] at h1 h2
  have q1 := sq_bd (a := a) (c := c) (by omega) (by omega) (by omega) (by omega)
  have q2 := sq_bd (a := b) (c := d) (by omega) (by omega) (by omega) (by omega)
  go_enter Try.func81, Try.ntmps81
  go_wp2
  go_ret
  exact ⟨ret_int (sqr_def _ _ _ _).symm, by go_grown⟩
end Go.Proofs.Ytfmlfeokdaahmaa
