/- The reference's l1Num: the decimal numeral of a number. Numbers of at most 1000000000, and their opposites. -/
import Derived.Test.YtllionelhbjadaaDoorIt
set_option linter.unusedVariables false
set_option linter.unusedSimpArgs false
namespace Go.Proofs.YtllionelhbjadaaDoor
open Go.RowKit
set_option maxHeartbeats 4000000
set_option maxRecDepth 100000
theorem l1NumN (k : Nat) (hk : k ≤ 1000000000) : ∀ w : World,
    Calls Tryd.prog 56 #[.int .i64 k] w fun e w' => e = .returned (.string (num k)) ∧ Below w.heap.size w w' := by
  induction k using Nat.strongRecOn with
  | _ k ih =>
  intro w
  by_cases h : k < 10
  · have hs := num_small k h
    obtain rfl | rfl | rfl | rfl | rfl | rfl | rfl | rfl | rfl | rfl : k = 0 ∨ k = 1 ∨ k = 2 ∨ k = 3 ∨ k = 4 ∨ k = 5 ∨ k = 6 ∨ k = 7 ∨ k = 8 ∨ k = 9 := by omega
    all_goals
      rw [hs]
      clear ih hs
      go_enter Tryd.func56, Tryd.ntmps56
      go_wp2
      go_ret
      exact ⟨rfl, Below.refl _ _⟩
  · have hs := Lib.hid (num_big k h)
    have IH := Lib.hid (show ∀ w : World, Calls Tryd.prog 56 #[.int .i64 ((k : Int) / 10)] w fun e w' => e = .returned (.string (num ((k : Int) / 10))) ∧ Below w.heap.size w w' by
      rw [show (k : Int) / 10 = ((k / 10 : Nat) : Int) by omega]
      exact ih (k / 10) (by omega) (by omega))
    have hz : (num ((k : Int) / 10)).size ≤ 21 := num_size _ (by omega) (by omega)
    have h0 : ¬ (k : Int) < 0 := by omega
    have h1 : ¬ (k : Int) < 10 := by omega
    have d0 : decide ((k : Int) < 0) = false := by simp
    have d1 : decide ((k : Int) < 10) = false := by simp; omega
    clear ih
    rw [hs.out]
    have hm : k % 10 = 0 ∨ k % 10 = 1 ∨ k % 10 = 2 ∨ k % 10 = 3 ∨ k % 10 = 4 ∨ k % 10 = 5 ∨ k % 10 = 6 ∨ k % 10 = 7 ∨ k % 10 = 8 ∨ k % 10 = 9 := by omega
    rcases hm with hm | hm | hm | hm | hm | hm | hm | hm | hm | hm
    all_goals
      rw [hm]
      have hi : (k : Int) % 10 = ((k % 10 : Nat) : Int) := by omega
      rw [hm] at hi
      clear hs hm
      go_enter Tryd.func56, Tryd.ntmps56
      go_wp2_with (fail)
      refine wp_region_aft (by kernel_rfl) (by kernel_rfl) ?_
      repeat (go_big_quiet_step ((go_at_call 56; exact Aft.calls _ (IH.out _))))
      refine wpQuiet_nil ?_
      intro w9 b9
      go_wp2
      go_ret
      exact ⟨rfl, b9⟩
theorem l1NumC (z : Int) (h0 : -1000000000 ≤ z) (h1 : z ≤ 1000000000) (w : World) :
    Calls Tryd.prog 56 #[.int .i64 z] w fun e w' => e = .returned (.string (num z)) ∧ Below w.heap.size w w' := by
  by_cases h : z < 0
  · have hs := num_neg z h
    have hz : (num (-z)).size ≤ 21 := num_size _ (by omega) (by omega)
    have IH := Lib.hid (show ∀ w : World, Calls Tryd.prog 56 #[.int .i64 (-z)] w fun e w' => e = .returned (.string (num (-z))) ∧ Below w.heap.size w w' by
      rw [show -z = (z.natAbs : Int) by omega]
      exact l1NumN _ (by omega))
    rw [hs]
    clear hs
    go_enter Tryd.func56, Tryd.ntmps56
    go_wp2_with (fail)
    refine (IH.out _).mono ?_; rintro e w1 ⟨rfl, b1⟩
    go_wp2_with (fail)
    go_ret
    exact ⟨rfl, b1⟩
  · have := l1NumN z.toNat (by omega) w
    rwa [show (z.toNat : Int) = z by omega] at this
end Go.Proofs.YtllionelhbjadaaDoor
