/- The law over MeanSpeed as the program runs it: it returns true and changes nothing that was there. -/
import Derived.Test.YtfmlfeokdaahmaaW7f
set_option linter.unusedVariables false
set_option linter.unusedSimpArgs false
namespace Go.Proofs.Ytfmlfeokdaahmaa
open Go.RowKit
set_option maxHeartbeats 400000
set_option maxHeartbeats 2000000 in
theorem lawMeanSp (t : Ct) (A : Option Addr) (c : Nat) (d : Int) (w : World) (h : Sl 2 Ly.enc w A t.lay) (hm : t.lay.length ≤ 9223372036854775807) (_hc : t.lay.length ≤ c) :
    Calls Try.prog 10 #[.agg #[.int .i64 t.id, .int .i64 t.time, .int .i64 t.x, .int .i64 t.y, .slice A t.lay.length c], .int .i64 d] w fun e w' => e = .returned (.bool true) ∧ Below w.heap.size w w' := by
  by_cases hn : t.lay.length ≤ 1048576
  · have h1 : ¬ (1048576 - (t.lay.length : Int) < 0) := by omega
    go_enter Try.func10, Try.ntmps10
    go_wp2_with (fail)
    generalize hW : World.alloc w _ = W1
    obtain ⟨bW, kW, _⟩ := alloc_facts hW
    clear hW
    have h := h.below bW
    refine (szCtYes t A c 1048576 _ (by omega) (by omega)).mono ?_; rintro e w0 ⟨rfl, b0⟩
    have k0 := kW.below b0
    have n0 := k0.2.1 0 _ rfl
    have n1 := k0.2.1 1 _ rfl
    have n2 := k0.2.1 2 _ rfl
    have n3 := k0.2.1 3 _ rfl
    have n4 := k0.2.1 4 _ rfl
    go_wp2_with (fail)
    refine (toCt t A c _ (h.below b0) hn).mono ?_; rintro e w1 ⟨g1, rfl, m1⟩
    have b1 := bth b0 m1.2.1
    go_wp2_with (fail)
    refine (sMeanSp t _ _ d _ m1.2.2.1 hn).mono ?_; rintro e w2 ⟨rfl, b2⟩
    have b2' := bth b1 b2
    clear n0 n1 n2 n3 n4 k0
    have k2 := kW.below b2'
    have n0 := k2.2.1 0 _ rfl
    have n1 := k2.2.1 1 _ rfl
    have n2 := k2.2.1 2 _ rfl
    have n3 := k2.2.1 3 _ rfl
    have n4 := k2.2.1 4 _ rfl
    go_wp2_with (fail)
    refine (toCt t A c _ (h.below b2') hn).mono ?_; rintro e w3 ⟨g3, rfl, m3⟩
    have b3 := bth b2' m3.2.1
    clear n0 n1 n2 n3 n4 k2
    go_wp2_with (fail)
    generalize hX : World.alloc w3 _ = W3
    obtain ⟨bX, kX, _⟩ := alloc_facts hX
    clear hX
    have s3 := m3.2.2.1.below bX
    have b3' := bth b3 bX
    refine (iMeanSp t _ _ d _ s3 hn).mono ?_; rintro e w4 ⟨rfl, b4⟩
    have b4' := bth b3' b4
    have s4 := s3.below b4
    have kA := kW.below b4'
    have kB := kX.below b4
    have KT : ∀ w', Below w4.heap.size w4 w' → Below w4.heap.size w4 w' ∧ w'.cell? ⟨w.heap.size, 0, none⟩ = some (.int .i64 t.id) ∧ w'.cell? ⟨w.heap.size, 1, none⟩ = some (.int .i64 t.time) ∧ w'.cell? ⟨w.heap.size, 2, none⟩ = some (.int .i64 t.x) ∧ w'.cell? ⟨w.heap.size, 3, none⟩ = some (.int .i64 t.y) ∧ w'.cell? ⟨w.heap.size, 4, none⟩ = some (.slice A t.lay.length c) ∧ w'.cell? ⟨w3.heap.size, 0, none⟩ = some (.int .i64 t.id) ∧ w'.cell? ⟨w3.heap.size, 1, none⟩ = some (.int .i64 t.time) ∧ w'.cell? ⟨w3.heap.size, 2, none⟩ = some (.int .i64 t.x) ∧ w'.cell? ⟨w3.heap.size, 3, none⟩ = some (.int .i64 t.y) ∧ w'.cell? ⟨w3.heap.size, 4, none⟩ = some (.slice (some ⟨g3, 0, none⟩) t.lay.length t.lay.length) := fun w' hw => ⟨hw, (kA.below hw).2.1 0 _ rfl, (kA.below hw).2.1 1 _ rfl, (kA.below hw).2.1 2 _ rfl, (kA.below hw).2.1 3 _ rfl, (kA.below hw).2.1 4 _ rfl, (kB.below hw).2.1 0 _ rfl, (kB.below hw).2.1 1 _ rfl, (kB.below hw).2.1 2 _ rfl, (kB.below hw).2.1 3 _ rfl, (kB.below hw).2.1 4 _ rfl⟩
    have KT := Lib.hid KT
    go_wp2_with (fail)
    go_region_held3 (fun w' => Below w4.heap.size w4 w' ∧ w'.cell? ⟨w.heap.size, 0, none⟩ = some (.int .i64 t.id) ∧ w'.cell? ⟨w.heap.size, 1, none⟩ = some (.int .i64 t.time) ∧ w'.cell? ⟨w.heap.size, 2, none⟩ = some (.int .i64 t.x) ∧ w'.cell? ⟨w.heap.size, 3, none⟩ = some (.int .i64 t.y) ∧ w'.cell? ⟨w.heap.size, 4, none⟩ = some (.slice A t.lay.length c) ∧ w'.cell? ⟨w3.heap.size, 0, none⟩ = some (.int .i64 t.id) ∧ w'.cell? ⟨w3.heap.size, 1, none⟩ = some (.int .i64 t.time) ∧ w'.cell? ⟨w3.heap.size, 2, none⟩ = some (.int .i64 t.x) ∧ w'.cell? ⟨w3.heap.size, 3, none⟩ = some (.int .i64 t.y) ∧ w'.cell? ⟨w3.heap.size, 4, none⟩ = some (.slice (some ⟨g3, 0, none⟩) t.lay.length t.lay.length))
      (first | exact KT.out _ (Below.refl _ _).drew | (refine KT.out _ (bth (b := ?_) ?_ ?_); rotate_left 2; assumption; first | exact (Below.refl _ _).drew | exact And.left (by assumption)))
      (first
        | (go_at_call 17; refine (toCt t A c _ (h.below (bth b4' (by first | exact (Below.refl _ _).drew | exact And.left (by assumption)))) hn).mono ?_; rintro e w5 ⟨g5, rfl, m5⟩; have b5 := m5.2.1)
        | (go_at_call 19; refine (eqCt t _ _ _ _ _ (s4.below (And.left (by assumption))) m5.2.2.1 hn).mono ?_; rintro e w6 ⟨rfl, b6⟩))
    all_goals
      go_wp2_with (fail)
      go_ret
      exact ⟨rfl, bth bW (bth b4' (And.left (by assumption)))⟩
  · go_enter Try.func10, Try.ntmps10
    go_wp2_with (fail)
    generalize hW : World.alloc w _ = W1
    obtain ⟨bW, _, _⟩ := alloc_facts hW
    clear hW
    refine (szCtNo t A c 1048576 _ (by omega) hm (by omega)).mono ?_; rintro e w0 ⟨rfl, b0⟩
    go_wp2_with (fail)
    go_ret
    exact ⟨rfl, bth bW b0⟩
end Go.Proofs.Ytfmlfeokdaahmaa
