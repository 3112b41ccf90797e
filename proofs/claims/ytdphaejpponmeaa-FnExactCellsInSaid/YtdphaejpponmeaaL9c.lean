/- The law over CellsIn as the program runs it: it returns true and changes nothing that was there. -/
import Derived.Test.YtdphaejpponmeaaW9d
set_option linter.unusedVariables false
set_option linter.unusedSimpArgs false
namespace Go.Proofs.Ytdphaejpponmeaa
open Go.RowKit
set_option maxHeartbeats 400000
theorem lawCellsIn (b : Bx) (w : World) :
    Calls Try.prog 3 #[.agg #[.int .i64 b.west, .int .i64 b.south, .int .i64 b.east, .int .i64 b.north]] w fun e w' => e = .returned (.bool true) ∧ Below w.heap.size w w' := by
  go_enter Try.func3, Try.ntmps3
  go_wp2_with (fail)
  generalize hW : World.alloc w _ = W1
  obtain ⟨bW, kW, _⟩ := alloc_facts hW
  clear hW
  refine (toBx b _).mono ?_; rintro e w1 ⟨rfl, b1⟩
  have kW := kW.below b1
  have b1 := bth bW b1
  go_wp2_with (fail)
  refine (sCellsIn b _).mono ?_; rintro e w2 ⟨rfl, b2⟩
  have kW := kW.below b2
  have b2 := bth b1 b2
  have m0 := kW.2.1 0 _ rfl
  have m1 := kW.2.1 1 _ rfl
  have m2 := kW.2.1 2 _ rfl
  have m3 := kW.2.1 3 _ rfl
  go_wp2_with (fail)
  refine (toBx b _).mono ?_; rintro e w3 ⟨rfl, b3⟩
  have b3 := bth b2 b3
  go_wp2_with (fail)
  refine (iCellsIn b _).mono ?_; rintro e w4 ⟨rfl, b4⟩
  have b4 := bth b3 b4
  go_wp2_with (fail)
  go_ret
  exact ⟨rfl, b4⟩
end Go.Proofs.Ytdphaejpponmeaa
