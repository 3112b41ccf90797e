/- Where the sounder and the antenna of a craft are, and how many seconds a craft runs: both texts return the same. The only condition: a name of a length that a text can have. -/
import Derived.Test.YtanmkjjclpplkaaW5a
import Derived.Test.YtanmkjjclpplkaaP5b
import Derived.Deep.Cut
set_option linter.unusedVariables false
set_option linter.unusedSimpArgs false
namespace Go.Proofs.Ytanmkjjclpplkaa
open Go.RowKit
set_option maxHeartbeats 4000000
set_option maxRecDepth 100000
theorem sSecs1 (v : Cr) (m : Int) (w : World) (g : crOk v = true) (h0 : 0 ≤ m) (h1 : m ≤ 100000) :
    Calls Try.prog 51 #[.agg #[.int .i64 v.id, .string v.name, .int .i64 v.draught, .int .i64 v.ahead, .int .i64 v.beside, .int .i64 v.speed, .int .i64 v.fuel], .int .i64 m] w fun e w' => e = .returned (.int .i64 (secs v m)) ∧ Below w.heap.size w w' := by
  have bd := crOk_bd g
  have sb := secs_by (v := v) (m := m) (by omega) h0 h1
  have HS := Lib.hid (show secs v m = (10 * m + v.speed - 1) / v.speed from rfl)
  have y1 : IntKind.i64.wrap (10 * m) = 10 * m := IntWalk.i64_in _ (by omega)
  have y2 : IntKind.i64.wrap (10 * m + v.speed) = 10 * m + v.speed := IntWalk.i64_in _ (by omega)
  have y3 : IntKind.i64.wrap (10 * m + v.speed - 1) = 10 * m + v.speed - 1 := IntWalk.i64_in _ (by omega)
  have y4 : v.speed ≠ 0 := by omega
  have y5 : (0 : Int) ≤ 10 * m + v.speed - 1 := by omega
  have y6 : (0 : Int) ≤ v.speed := by omega
  have y7 : IntKind.i64.wrap ((10 * m + v.speed - 1) / v.speed) = (10 * m + v.speed - 1) / v.speed := by
    unfold secs at sb
    exact IntWalk.i64_in _ (by omega)
  have y8 : Int.tdiv (10 * m + v.speed - 1) v.speed = (10 * m + v.speed - 1) / v.speed := Int.tdiv_eq_ediv_of_nonneg y5
  clear bd sb g h0 h1
  go_enter Try.func51, Try.ntmps51
  go_wp2_with (fail)
  go_ret
  exact ⟨by rw [HS.out]; rfl, by go_grown⟩
theorem iSecs1 (v : Cr) (m : Int) (w : World) (g : crOk v = true) (h0 : 0 ≤ m) (h1 : m ≤ 100000) :
    Calls Try.prog 49 #[.agg #[.int .i64 v.id, .string v.name, .int .i64 v.draught, .int .i64 v.ahead, .int .i64 v.beside, .int .i64 v.speed, .int .i64 v.fuel], .int .i64 m] w fun e w' => e = .returned (.int .i64 (secs v m)) ∧ Below w.heap.size w w' := by
  have bd := crOk_bd g
  have sb := secs_by (v := v) (m := m) (by omega) h0 h1
  have HS := Lib.hid (show secs v m = (10 * m + v.speed - 1) / v.speed from rfl)
  have y1 : IntKind.i64.wrap (10 * m) = 10 * m := IntWalk.i64_in _ (by omega)
  have y2 : IntKind.i64.wrap (10 * m + v.speed) = 10 * m + v.speed := IntWalk.i64_in _ (by omega)
  have y3 : IntKind.i64.wrap (10 * m + v.speed - 1) = 10 * m + v.speed - 1 := IntWalk.i64_in _ (by omega)
  have y4 : v.speed ≠ 0 := by omega
  have y5 : (0 : Int) ≤ 10 * m + v.speed - 1 := by omega
  have y6 : (0 : Int) ≤ v.speed := by omega
  have y7 : IntKind.i64.wrap ((10 * m + v.speed - 1) / v.speed) = (10 * m + v.speed - 1) / v.speed := by
    unfold secs at sb
    exact IntWalk.i64_in _ (by omega)
  have y8 : Int.tdiv (10 * m + v.speed - 1) v.speed = (10 * m + v.speed - 1) / v.speed := Int.tdiv_eq_ediv_of_nonneg y5
  clear bd sb g h0 h1
  go_enter Try.func49, Try.ntmps49
  go_wp2_with (fail)
  go_ret
  exact ⟨by rw [HS.out]; rfl, by go_grown⟩
theorem sMet (n : Int) (w : World) :
    Calls Try.prog 50 #[.int .i64 n] w fun e w' => e = .returned (.bool (inB n 0 100000)) ∧ w = w' := by
  go_enter Try.func50, Try.ntmps50
  go_wp2_with (go_at_call 35; refine (specIn _ _ _ _).mono ?_; rintro e w' ⟨rfl, rfl⟩)
  go_ret
  exact ⟨rfl, rfl⟩
theorem iMet (n : Int) (w : World) :
    Calls Try.prog 48 #[.int .i64 n] w fun e w' => e = .returned (.bool (inB n 0 100000)) ∧ w = w' := by
  go_enter Try.func48, Try.ntmps48
  go_wp2_with (go_at_call 38; refine (implIn _ _ _ _).mono ?_; rintro e w' ⟨rfl, rfl⟩)
  go_ret
  exact ⟨rfl, rfl⟩
end Go.Proofs.Ytanmkjjclpplkaa
