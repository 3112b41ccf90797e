/- Small functions of both texts on places and boxes: whether they are valid, whether a box has a place. No condition. -/
import Derived.Test.YtllionelhbjadaaDoorW1
import Derived.Test.YtllionelhbjadaaDoorAft
set_option linter.unusedVariables false
set_option linter.unusedSimpArgs false
namespace Go.Proofs.YtllionelhbjadaaDoor
open Go.RowKit
set_option maxHeartbeats 2000000

theorem specGrid (n : Int) (w : World) :
    Calls Tryd.prog 64 #[.int .i64 n] w fun e w' => e = .returned (.bool (inB n 0 1000)) ∧ w = w' := by
  go_enter Tryd.func64, Tryd.ntmps64
  go_wp2_with (go_at_call 53; refine (specIn _ _ _ _).mono ?_; rintro e w' ⟨rfl, rfl⟩)
  go_ret
  exact ⟨rfl, rfl⟩
theorem specDepth (n : Int) (w : World) :
    Calls Tryd.prog 55 #[.int .i64 n] w fun e w' => e = .returned (.bool (inB n (-1000) 20000)) ∧ w = w' := by
  go_enter Tryd.func55, Tryd.ntmps55
  go_wp2_with (go_at_call 53; refine (specIn _ _ _ _).mono ?_; rintro e w' ⟨rfl, rfl⟩)
  go_ret
  exact ⟨rfl, rfl⟩
theorem implDepth (n : Int) (w : World) :
    Calls Tryd.prog 36 #[.int .i64 n] w fun e w' => e = .returned (.bool (inB n (-1000) 20000)) ∧ w = w' := by
  go_enter Tryd.func36, Tryd.ntmps36
  go_wp2_with (go_at_call 34; refine (implIn _ _ _ _).mono ?_; rintro e w' ⟨rfl, rfl⟩)
  go_ret
  exact ⟨rfl, rfl⟩
@[irreducible] def spOk (a b : Int) : Bool := inB a 0 1000 && inB b 0 1000
theorem spOk_def (a b : Int) : spOk a b = (inB a 0 1000 && inB b 0 1000) := by unfold spOk; rfl
theorem specSpot (a b : Int) (w : World) :
    Calls Tryd.prog 54 #[.agg #[.int .i64 a, .int .i64 b]] w fun e w' => e = .returned (.bool (spOk a b)) ∧ Below w.heap.size w w' := by
  go_enter Tryd.func54, Tryd.ntmps54
  go_wp2_with (go_at_call 64; refine (specGrid _ _).mono ?_; rintro e w' ⟨rfl, rfl⟩)
  all_goals
    go_ret
    exact ⟨ret_bool (by rw [spOk_def]; simp [*]), by go_grown⟩
theorem implSpot (a b : Int) (w : World) :
    Calls Tryd.prog 35 #[.agg #[.int .i64 a, .int .i64 b]] w fun e w' => e = .returned (.bool (spOk a b)) ∧ Below w.heap.size w w' := by
  go_enter Tryd.func35, Tryd.ntmps35
  go_wp2_with (go_at_call 34; refine (implIn _ _ _ _).mono ?_; rintro e w' ⟨rfl, rfl⟩)
  all_goals
    go_ret
    exact ⟨ret_bool (by rw [spOk_def]; simp [*]), by go_grown⟩
/-- The square of a distance. -/
@[irreducible] def sqr (a b c d : Int) : Int := (a - c) * (a - c) + (b - d) * (b - d)
theorem sqr_def (a b c d : Int) : sqr a b c d = (a - c) * (a - c) + (b - d) * (b - d) := by unfold sqr; rfl
theorem sq_bd {a c : Int} (h1 : 0 ≤ a) (h2 : a ≤ 1000) (h3 : 0 ≤ c) (h4 : c ≤ 1000) : 0 ≤ (a - c) * (a - c) ∧ (a - c) * (a - c) ≤ 1000000 := by
  have h5 : -1000 ≤ a - c := by omega
  have h6 : a - c ≤ 1000 := by omega
  generalize a - c = d at *
  constructor
  · rcases Int.lt_or_le d 0 with h | h
    · have := Int.mul_nonneg_of_nonpos_of_nonpos (show d ≤ 0 by omega) (show d ≤ 0 by omega); omega
    · exact Int.mul_nonneg h h
  · have e1 := Int.mul_nonneg (show 0 ≤ 1000 - d by omega) (show 0 ≤ 1000 + d by omega)
    rw [show (1000 - d) * (1000 + d) = 1000000 - d * d by rw [Int.sub_mul, Int.mul_add, Int.mul_add, Int.mul_comm d 1000]; omega] at e1
    omega
theorem sqr_bd {a b c d : Int} (h1 : spOk a b = true) (h2 : spOk c d = true) : 0 ≤ sqr a b c d ∧ sqr a b c d ≤ 2000000 := by
  rw [spOk_def, Bool.and_eq_true, inB_true, inB_true] at h1 h2
  have := sq_bd (a := a) (c := c) (by omega) (by omega) (by omega) (by omega)
  have := sq_bd (a := b) (c := d) (by omega) (by omega) (by omega) (by omega)
  rw [sqr_def]; omega
end Go.Proofs.YtllionelhbjadaaDoor
