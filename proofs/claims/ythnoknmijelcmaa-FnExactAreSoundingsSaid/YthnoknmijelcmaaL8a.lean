/- The laws over IsSounding and AreSoundings as the program runs them: each returns true and changes nothing that was there. -/
import Derived.Test.YthnoknmijelcmaaW8b
set_option linter.unusedVariables false
set_option linter.unusedSimpArgs false
namespace Go.Proofs.Ythnoknmijelcmaa
open Go.RowKit
set_option maxHeartbeats 400000
theorem sIs8 (x : Sd) (w : World) :
    Calls Try.prog 12 #[.agg #[.int .i64 x.id, .int .i64 x.x, .int .i64 x.y, .int .i64 x.depth, .int .i64 x.doubt]] w fun e w' => e = .returned (.bool (sdOk x)) ∧ Below w.heap.size w w' := by
  go_enter Try.func12, Try.ntmps12
  go_wp2_with (fail)
  refine (specOne x _).mono ?_; rintro e w1 ⟨rfl, b1⟩
  go_wp2_with (fail)
  go_ret
  exact ⟨rfl, (below_alloc w _).trans (b1.mono (by simp))⟩
theorem lawIs8 (x : Sd) (w : World) :
    Calls Try.prog 3 #[.agg #[.int .i64 x.id, .int .i64 x.x, .int .i64 x.y, .int .i64 x.depth, .int .i64 x.doubt]] w fun e w' => e = .returned (.bool true) ∧ Below w.heap.size w w' := by
  go_enter Try.func3, Try.ntmps3
  go_wp2_with (fail)
  generalize hW : World.alloc w _ = W1
  obtain ⟨bW, kW, _⟩ := alloc_facts hW
  clear hW
  refine (toSd x _).mono ?_; rintro e w1 ⟨rfl, b1⟩
  have kW := kW.below b1
  have b1 := bth bW b1
  go_wp2_with (fail)
  refine (sIs8 x _).mono ?_; rintro e w2 ⟨rfl, b2⟩
  have kW := kW.below b2
  have b2 := bth b1 b2
  have m0 := kW.2.1 0 _ rfl
  have m1 := kW.2.1 1 _ rfl
  have m2 := kW.2.1 2 _ rfl
  have m3 := kW.2.1 3 _ rfl
  have m4 := kW.2.1 4 _ rfl
  go_wp2_with (fail)
  refine (toSd x _).mono ?_; rintro e w3 ⟨rfl, b3⟩
  have b3 := bth b2 b3
  go_wp2_with (fail)
  refine (implOne x _).mono ?_; rintro e w4 ⟨rfl, b4⟩
  have b4 := bth b3 b4
  go_wp2_with (fail)
  go_ret
  exact ⟨rfl, b4⟩
set_option maxHeartbeats 1000000 in
theorem lawAre8 (A : Option Addr) (c : Nat) (l : List Sd) (w : World) (h : Sl 5 Sd.enc w A l) (hm : l.length ≤ 9223372036854775807) (_hc : l.length ≤ c) :
    Calls Try.prog 4 #[.slice A l.length c] w fun e w' => e = .returned (.bool true) ∧ Below w.heap.size w w' := by
  by_cases hn : l.length ≤ 1048576
  · have h1 : ¬ (1048576 - (l.length : Int) < 0) := by omega
    go_enter Try.func4, Try.ntmps4
    go_wp2_with (fail)
    refine (szSdYes _ _ _ _ hn).mono ?_; rintro e w' ⟨rfl, rfl⟩
    go_wp2_with (fail)
    refine (toSdS A c l _ h hn).mono ?_; rintro e w1 ⟨g1, rfl, m1⟩
    go_wp2_with (fail)
    refine (sAre8 _ _ l  _ m1.2.2.1 hn).mono ?_; rintro e w2 ⟨rfl, b2⟩
    go_wp2_with (fail)
    have b2' := bth m1.2.1 b2
    refine (toSdS A c l _ (h.below b2') hn).mono ?_; rintro e w3 ⟨g3, rfl, m3⟩
    go_wp2_with (fail)
    refine (i8Good _ _ l  _ m3.2.2.1 hn).mono ?_; rintro e w4 ⟨rfl, b4⟩
    have b4' := bth (bth b2' m3.2.1) b4
    go_wp2_with (fail)
    refine (toSdS A c l _ (h.below b4') hn).mono ?_; rintro e w5 ⟨g5, rfl, m5⟩
    go_wp2_with (fail)
    refine (eqSdS _ _ _ _ l _ (m3.2.2.1.below (bth b4 m5.2.1)) m5.2.2.1 hn).mono ?_; rintro e w6 ⟨rfl, b6⟩
    go_wp2_with (fail)
    go_ret
    exact ⟨rfl, bth (bth b4' m5.2.1) b6⟩
  · go_enter Try.func4, Try.ntmps4
    go_wp2_with (go_at_call 15; refine (szSdNo _ _ _ _ (by omega) hm).mono ?_; rintro e w' ⟨rfl, rfl⟩)
    go_ret
    exact ⟨rfl, Below.refl _ _⟩
end Go.Proofs.Ythnoknmijelcmaa
