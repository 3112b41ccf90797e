/- The law over DepthAfter as the program runs it: it returns true and changes nothing that was there. -/
import Derived.Test.YtljpmccnppplgaaX6f
set_option linter.unusedVariables false
set_option linter.unusedSimpArgs false
namespace Go.Proofs.Ytljpmccnppplgaa
open Go.RowKit
set_option maxHeartbeats 400000
theorem sDepthAfter' (A : Option Addr) (c : Nat) (l : List St) (t : Int) (w : World) (h : Sl 2 St.enc w A l) (hn : l.length ≤ 1048576) :
    Calls Try.prog 23 #[.slice A l.length c, .int .i64 t] w fun e w' => e = .returned (.tuple #[.int .i64 (daA l t), .int .i64 (daB l t), .bool (daC l t)]) ∧ Below w.heap.size w w' := sDepthAfter A c l t w h hn
theorem iDepthAfter' (A : Option Addr) (c : Nat) (l : List St) (t : Int) (w : World) (h : Sl 2 St.enc w A l) (hn : l.length ≤ 1048576) :
    Calls Try.prog 24 #[.slice A l.length c, .int .i64 t] w fun e w' => e = .returned (.tuple #[.int .i64 (daA l t), .int .i64 (daB l t), .bool (daC l t)]) ∧ Below w.heap.size w w' := iDepthAfter A c l t w h hn
set_option maxHeartbeats 1000000 in
theorem lawDepthAfter (A : Option Addr) (c : Nat) (l : List St) (t : Int) (w : World) (h : Sl 2 St.enc w A l) (hm : l.length ≤ 9223372036854775807) (_hc : l.length ≤ c) :
    Calls Try.prog 6 #[.slice A l.length c, .int .i64 t] w fun e w' => e = .returned (.bool true) ∧ Below w.heap.size w w' := by
  by_cases hn : l.length ≤ 1048576
  · have h1 : ¬ (1048576 - (l.length : Int) < 0) := by omega
    go_enter Try.func6, Try.ntmps6
    go_wp2_with (fail)
    refine (szStYes _ _ _ _ hn).mono ?_; rintro e w' ⟨rfl, rfl⟩
    go_wp2_with (fail)
    refine (toStS A c l _ h hn).mono ?_; rintro e w1 ⟨g1, rfl, m1⟩
    go_wp2_with (fail)
    refine (sDepthAfter' _ _ l t _ m1.2.2.1 hn).mono ?_; rintro e w2 ⟨rfl, b2⟩
    go_wp2_with (fail)
    have b2' := bth m1.2.1 b2
    refine (toStS A c l _ (h.below b2') hn).mono ?_; rintro e w3 ⟨g3, rfl, m3⟩
    go_wp2_with (fail)
    refine (iDepthAfter' _ _ l t _ m3.2.2.1 hn).mono ?_; rintro e w4 ⟨rfl, b4⟩
    have b4' := bth (bth b2' m3.2.1) b4
    go_wp2_with (fail)
    refine (toStS A c l _ (h.below b4') hn).mono ?_; rintro e w5 ⟨g5, rfl, m5⟩
    go_wp2_with (fail)
    refine (eqStS _ _ _ _ l _ (m3.2.2.1.below (bth b4 m5.2.1)) m5.2.2.1 hn).mono ?_; rintro e w6 ⟨rfl, b6⟩
    go_wp2_with (fail)
    go_ret
    exact ⟨rfl, bth (bth b4' m5.2.1) b6⟩
  · go_enter Try.func6, Try.ntmps6
    go_wp2_with (go_at_call 14; refine (szStNo _ _ _ _ (by omega) hm).mono ?_; rintro e w' ⟨rfl, rfl⟩)
    go_ret
    exact ⟨rfl, Below.refl _ _⟩
end Go.Proofs.Ytljpmccnppplgaa
