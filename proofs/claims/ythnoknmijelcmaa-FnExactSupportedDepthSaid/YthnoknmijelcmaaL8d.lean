/- The law over SupportedDepth as the program runs it: it returns true and changes nothing that was there. -/
import Derived.Test.YthnoknmijelcmaaW8h
set_option linter.unusedVariables false
set_option linter.unusedSimpArgs false
namespace Go.Proofs.Ythnoknmijelcmaa
open Go.RowKit
set_option maxHeartbeats 400000
set_option maxHeartbeats 2000000 in
theorem lawSupp (A : Option Addr) (c : Nat) (l : List Sd) (y : Sp) (r : Int) (w : World) (h : Sl 5 Sd.enc w A l) (hm : l.length ≤ 9223372036854775807) (_hc : l.length ≤ c) :
    Calls Try.prog 5 #[.slice A l.length c, .agg #[.int .i64 y.sx, .int .i64 y.sy], .int .i64 r] w fun e w' => e = .returned (.bool true) ∧ Below w.heap.size w w' := by
  by_cases hn : l.length ≤ 1048576
  · have h1 : ¬ (1048576 - (l.length : Int) < 0) := by omega
    go_enter Try.func5, Try.ntmps5
    go_wp2_with (fail)
    generalize hW : World.alloc w _ = W1
    obtain ⟨bW, kW, _⟩ := alloc_facts hW
    clear hW
    have h := h.below bW
    have KT : ∀ w', Below W1.heap.size W1 w' → Below W1.heap.size W1 w' ∧ w'.cell? ⟨w.heap.size, 0, none⟩ = some (.int .i64 y.sx) ∧ w'.cell? ⟨w.heap.size, 1, none⟩ = some (.int .i64 y.sy) := fun w' hw => ⟨hw, (kW.below hw).2.1 0 _ rfl, (kW.below hw).2.1 1 _ rfl⟩
    have KT := Lib.hid KT
    refine (szSdYes _ _ _ _ hn).mono ?_; rintro e w' ⟨rfl, rfl⟩
    go_wp2_with (fail)
    go_region_held3 (fun w' => Below W1.heap.size W1 w' ∧ w'.cell? ⟨w.heap.size, 0, none⟩ = some (.int .i64 y.sx) ∧ w'.cell? ⟨w.heap.size, 1, none⟩ = some (.int .i64 y.sy))
      (first | exact KT.out _ (Below.refl _ _).drew | (refine KT.out _ (bth (b := ?_) ?_ ?_); rotate_left 2; assumption; first | exact (Below.refl _ _).drew | exact And.left (by assumption)))
      (first
        | (go_at_call 17; refine (toSdS A c l _ (h.below (by first | exact (Below.refl _ _).drew | exact And.left (by assumption))) hn).mono ?_; rintro e w3 ⟨g3, rfl, m3⟩; have b3 := m3.2.1)
        | (go_at_call 21; refine (toSp y _).mono ?_; rintro e w4 ⟨rfl, b4⟩)
        | (go_at_call 20; refine (sSupp _ _ l y r _ (by first | exact m3.2.2.1 | exact m3.2.2.1.below b4) hn).mono ?_; rintro e w5 ⟨rfl, b5⟩))
    all_goals
      go_wp2_with (fail)
      refine (toSdS A c l _ (h.below (And.left (by assumption))) hn).mono ?_; rintro e w6 ⟨g6, rfl, m6⟩
      have b6 := bth (And.left (by assumption)) m6.2.1
      have k6 := kW.below b6
      have n0 := k6.2.1 0 _ rfl
      have n1 := k6.2.1 1 _ rfl
      go_wp2_with (fail)
      refine (toSp y _).mono ?_; rintro e w7 ⟨rfl, b7⟩
      go_wp2_with (fail)
      refine (iSupp _ _ l y r _ (m6.2.2.1.below b7) hn).mono ?_; rintro e w8 ⟨rfl, b8⟩
      have b8' := bth (bth b6 b7) b8
      go_wp2_with (fail)
      refine (toSdS A c l _ (h.below b8') hn).mono ?_; rintro e w9 ⟨g9, rfl, m9⟩
      go_wp2_with (fail)
      refine (eqSdS _ _ _ _ l _ (m6.2.2.1.below (bth (bth b7 b8) m9.2.1)) m9.2.2.1 hn).mono ?_; rintro e w10 ⟨rfl, b10⟩
      go_wp2_with (fail)
      go_ret
      exact ⟨rfl, bth bW (bth (bth b8' m9.2.1) b10)⟩
  · go_enter Try.func5, Try.ntmps5
    go_wp2_with (go_at_call 15; refine (szSdNo _ _ _ _ (by omega) hm).mono ?_; rintro e w' ⟨rfl, rfl⟩)
    go_ret
    exact ⟨rfl, below_alloc _ _⟩
end Go.Proofs.Ythnoknmijelcmaa
