/- The laws over AreStrata, TotalDepth and SlopeIn as the program runs them: each returns true and changes nothing that was there. -/
import Derived.Test.YtljpmccnppplgaaX6a
set_option linter.unusedVariables false
set_option linter.unusedSimpArgs false
namespace Go.Proofs.Ytljpmccnppplgaa
open Go.RowKit
set_option maxHeartbeats 400000
theorem sAre6 (A : Option Addr) (c : Nat) (l : List St) (w : World) (h : Sl 2 St.enc w A l) (hn : l.length ≤ 1048576) :
    Calls Try.prog 15 #[.slice A l.length c] w fun e w' => e = .returned (.bool (stGood l)) ∧ Below w.heap.size w w' := by
  go_enter Try.func15, Try.ntmps15
  go_wp2_with (go_at_call 51; refine (s6Good _ _ l _ h hn).mono ?_; rintro e w' ⟨rfl, rfl⟩)
  go_ret
  exact ⟨rfl, Below.refl _ _⟩
set_option maxHeartbeats 1000000 in
theorem lawAre6 (A : Option Addr) (c : Nat) (l : List St) (w : World) (h : Sl 2 St.enc w A l) (hm : l.length ≤ 9223372036854775807) (_hc : l.length ≤ c) :
    Calls Try.prog 3 #[.slice A l.length c] w fun e w' => e = .returned (.bool true) ∧ Below w.heap.size w w' := by
  by_cases hn : l.length ≤ 1048576
  · have h1 : ¬ (1048576 - (l.length : Int) < 0) := by omega
    go_enter Try.func3, Try.ntmps3
    go_wp2_with (fail)
    refine (szStYes _ _ _ _ hn).mono ?_; rintro e w' ⟨rfl, rfl⟩
    go_wp2_with (fail)
    refine (toStS A c l _ h hn).mono ?_; rintro e w1 ⟨g1, rfl, m1⟩
    go_wp2_with (fail)
    refine (sAre6 _ _ l  _ m1.2.2.1 hn).mono ?_; rintro e w2 ⟨rfl, b2⟩
    go_wp2_with (fail)
    have b2' := bth m1.2.1 b2
    refine (toStS A c l _ (h.below b2') hn).mono ?_; rintro e w3 ⟨g3, rfl, m3⟩
    go_wp2_with (fail)
    refine (i6Good _ _ l  _ m3.2.2.1 hn).mono ?_; rintro e w4 ⟨rfl, b4⟩
    have b4' := bth (bth b2' m3.2.1) b4
    go_wp2_with (fail)
    refine (toStS A c l _ (h.below b4') hn).mono ?_; rintro e w5 ⟨g5, rfl, m5⟩
    go_wp2_with (fail)
    refine (eqStS _ _ _ _ l _ (m3.2.2.1.below (bth b4 m5.2.1)) m5.2.2.1 hn).mono ?_; rintro e w6 ⟨rfl, b6⟩
    go_wp2_with (fail)
    go_ret
    exact ⟨rfl, bth (bth b4' m5.2.1) b6⟩
  · go_enter Try.func3, Try.ntmps3
    go_wp2_with (go_at_call 14; refine (szStNo _ _ _ _ (by omega) hm).mono ?_; rintro e w' ⟨rfl, rfl⟩)
    go_ret
    exact ⟨rfl, Below.refl _ _⟩
set_option maxHeartbeats 1000000 in
theorem lawTotal (A : Option Addr) (c : Nat) (l : List St) (w : World) (h : Sl 2 St.enc w A l) (hm : l.length ≤ 9223372036854775807) (_hc : l.length ≤ c) :
    Calls Try.prog 4 #[.slice A l.length c] w fun e w' => e = .returned (.bool true) ∧ Below w.heap.size w w' := by
  by_cases hn : l.length ≤ 1048576
  · have h1 : ¬ (1048576 - (l.length : Int) < 0) := by omega
    go_enter Try.func4, Try.ntmps4
    go_wp2_with (fail)
    refine (szStYes _ _ _ _ hn).mono ?_; rintro e w' ⟨rfl, rfl⟩
    go_wp2_with (fail)
    refine (toStS A c l _ h hn).mono ?_; rintro e w1 ⟨g1, rfl, m1⟩
    go_wp2_with (fail)
    refine (sTotal _ _ l  _ m1.2.2.1 hn).mono ?_; rintro e w2 ⟨rfl, b2⟩
    go_wp2_with (fail)
    have b2' := bth m1.2.1 b2
    refine (toStS A c l _ (h.below b2') hn).mono ?_; rintro e w3 ⟨g3, rfl, m3⟩
    go_wp2_with (fail)
    refine (iTotal _ _ l  _ m3.2.2.1 hn).mono ?_; rintro e w4 ⟨rfl, b4⟩
    have b4' := bth (bth b2' m3.2.1) b4
    go_wp2_with (fail)
    refine (toStS A c l _ (h.below b4') hn).mono ?_; rintro e w5 ⟨g5, rfl, m5⟩
    go_wp2_with (fail)
    refine (eqStS _ _ _ _ l _ (m3.2.2.1.below (bth b4 m5.2.1)) m5.2.2.1 hn).mono ?_; rintro e w6 ⟨rfl, b6⟩
    go_wp2_with (fail)
    go_ret
    exact ⟨rfl, bth (bth b4' m5.2.1) b6⟩
  · go_enter Try.func4, Try.ntmps4
    go_wp2_with (go_at_call 14; refine (szStNo _ _ _ _ (by omega) hm).mono ?_; rintro e w' ⟨rfl, rfl⟩)
    go_ret
    exact ⟨rfl, Below.refl _ _⟩
set_option maxHeartbeats 1000000 in
theorem lawSlopeIn (A : Option Addr) (c : Nat) (l : List St) (k : Int) (n : Int) (d : Int) (w : World) (h : Sl 2 St.enc w A l) (hm : l.length ≤ 9223372036854775807) (_hc : l.length ≤ c) :
    Calls Try.prog 5 #[.slice A l.length c, .int .i64 k, .int .i64 n, .int .i64 d] w fun e w' => e = .returned (.bool true) ∧ Below w.heap.size w w' := by
  by_cases hn : l.length ≤ 1048576
  · have h1 : ¬ (1048576 - (l.length : Int) < 0) := by omega
    go_enter Try.func5, Try.ntmps5
    go_wp2_with (fail)
    refine (szStYes _ _ _ _ hn).mono ?_; rintro e w' ⟨rfl, rfl⟩
    go_wp2_with (fail)
    refine (toStS A c l _ h hn).mono ?_; rintro e w1 ⟨g1, rfl, m1⟩
    go_wp2_with (fail)
    refine (sSlopeIn _ _ l k n d _ m1.2.2.1 hn).mono ?_; rintro e w2 ⟨rfl, b2⟩
    go_wp2_with (fail)
    have b2' := bth m1.2.1 b2
    refine (toStS A c l _ (h.below b2') hn).mono ?_; rintro e w3 ⟨g3, rfl, m3⟩
    go_wp2_with (fail)
    refine (iSlopeIn _ _ l k n d _ m3.2.2.1 hn).mono ?_; rintro e w4 ⟨rfl, b4⟩
    have b4' := bth (bth b2' m3.2.1) b4
    go_wp2_with (fail)
    refine (toStS A c l _ (h.below b4') hn).mono ?_; rintro e w5 ⟨g5, rfl, m5⟩
    go_wp2_with (fail)
    refine (eqStS _ _ _ _ l _ (m3.2.2.1.below (bth b4 m5.2.1)) m5.2.2.1 hn).mono ?_; rintro e w6 ⟨rfl, b6⟩
    go_wp2_with (fail)
    go_ret
    exact ⟨rfl, bth (bth b4' m5.2.1) b6⟩
  · go_enter Try.func5, Try.ntmps5
    go_wp2_with (go_at_call 14; refine (szStNo _ _ _ _ (by omega) hm).mono ?_; rintro e w' ⟨rfl, rfl⟩)
    go_ret
    exact ⟨rfl, Below.refl _ _⟩
end Go.Proofs.Ytljpmccnppplgaa
