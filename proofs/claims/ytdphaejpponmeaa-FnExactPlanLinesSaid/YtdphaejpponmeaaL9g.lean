/- The law over PlanLines as the program runs it: it returns true and changes nothing that was there. -/
import Derived.Test.YtdphaejpponmeaaW9i
set_option linter.unusedVariables false
set_option linter.unusedSimpArgs false
namespace Go.Proofs.Ytdphaejpponmeaa
open Go.RowKit
set_option maxHeartbeats 2000000
theorem lawPlan (y : Bx) (s : Int) (w : World) :
    Calls Try.prog 8 #[.agg #[.int .i64 y.west, .int .i64 y.south, .int .i64 y.east, .int .i64 y.north], .int .i64 s] w fun e w' => e = .returned (.bool true) ∧ Below w.heap.size w w' := by
  have hX : (plL y s).length ≤ 1048576 := plL_len
  have hk : ¬ (1 + ((plL y s).length : Int) * 5 < 0) := by omega
  go_enter Try.func8, Try.ntmps8
  go_wp2_with (fail)
  generalize hW : World.alloc w _ = W1
  obtain ⟨bW, kW, _⟩ := alloc_facts hW
  clear hW
  refine (toBx y _).mono ?_; rintro e w1 ⟨rfl, b1⟩
  go_wp2_with (fail)
  refine (sPlan y s _).mono ?_; rintro e w2 ⟨A0, c0, rfl, f0⟩
  have b2 := bth b1 f0.1
  have k2 := kW.below b2
  have n0 := k2.2.1 0 _ rfl
  have n1 := k2.2.1 1 _ rfl
  have n2 := k2.2.1 2 _ rfl
  have n3 := k2.2.1 3 _ rfl
  go_wp2_with (fail)
  refine (toBx y _).mono ?_; rintro e w3 ⟨rfl, b3⟩
  have b3' := bth b2 b3
  clear n0 n1 n2 n3 k2
  go_wp2_with (fail)
  refine (iPlan y s _).mono ?_; rintro e w4 ⟨A1, c1, rfl, f1⟩
  have b4 := bth b3' f1.1
  have z0 := f0.2.1.below (bth b3 f1.1)
  go_wp2_with (fail)
  refine (eqLnS _ _ _ _ (plL y s) _ f1.2.1 z0 hX).mono ?_; rintro e w5 ⟨rfl, b5⟩
  have b5' := bth b4 b5
  go_wp2_with (fail)
  refine (markLnS A1 _ (plL y s).length _ (f1.2.2.1.below b5) hX).mono ?_; rintro e w6 ⟨rfl, o6, s6, _⟩
  have b6 := o6.below b5' (fun hl a ha => by have := f1.2.2.2 a ha hl; have := b3'.size; omega)
  have s06 := (z0.below b5).only o6 (fun hl hl' a a' ha ha' => by have := f0.2.1.lt hl' a' ha'; have := f1.2.2.2 a ha hl; have := b3.size; omega)
  go_wp2_with (fail)
  refine (heldLnS A1 _ (plL y s).length _ s6 hX).mono ?_; rintro e w' ⟨rfl, rfl⟩
  have k6 := kW.below b6
  have n0 := k6.2.1 0 _ rfl
  have n1 := k6.2.1 1 _ rfl
  have n2 := k6.2.1 2 _ rfl
  have n3 := k6.2.1 3 _ rfl
  go_wp2_with (fail)
  refine (toBx y _).mono ?_; rintro e w7 ⟨rfl, b7⟩
  clear n0 n1 n2 n3 k6
  go_wp2_with (fail)
  refine (iPlan y s _).mono ?_; rintro e w8 ⟨A2, c2, rfl, f2⟩
  go_wp2_with (fail)
  refine (eqLnS _ _ _ _ (plL y s) _ f2.2.1 (s06.below (bth b7 f2.1)) hX).mono ?_; rintro e w9 ⟨rfl, b9⟩
  go_wp2_with (fail)
  refine (heldLnS A1 _ (plL y s).length _ (s6.below (bth (bth b7 f2.1) b9)) hX).mono ?_; rintro e w' ⟨rfl, rfl⟩
  go_wp2_with (fail)
  go_ret
  exact ⟨rfl, bth bW (bth (bth (bth b6 b7) f2.1) b9)⟩
end Go.Proofs.Ytdphaejpponmeaa
