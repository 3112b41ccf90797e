/- The law over UncoveredIn as the program runs it: it returns true and changes nothing that was there. -/
import Derived.Test.YtdphaejpponmeaaW9f
import Derived.Test.YtdphaejpponmeaaS9b
set_option linter.unusedVariables false
set_option linter.unusedSimpArgs false
namespace Go.Proofs.Ytdphaejpponmeaa
open Go.RowKit
set_option maxHeartbeats 400000
set_option maxHeartbeats 4000000 in
theorem lawUncov (A : Option Addr) (c : Nat) (l : List Ln) (y : Bx) (w : World) (h : Sl 5 Ln.enc w A l) (hm : l.length ≤ 9223372036854775807) (_hc : l.length ≤ c) :
    Calls Try.prog 10 #[.slice A l.length c, .agg #[.int .i64 y.west, .int .i64 y.south, .int .i64 y.east, .int .i64 y.north]] w fun e w' => e = .returned (.bool true) ∧ Below w.heap.size w w' := by
  by_cases hn : l.length ≤ 1048576
  · have h1 : ¬ (1048576 - (l.length : Int) < 0) := by omega
    have hX : (unL l y).length ≤ 1048576 := unL_len
    have hk1 : ¬ (1 + (l.length : Int) * 5 < 0) := by omega
    have hk2 : ¬ (1 + ((unL l y).length : Int) * 2 < 0) := by omega
    go_enter Try.func10, Try.ntmps10
    go_wp2_with (fail)
    generalize hW : World.alloc w _ = W1
    obtain ⟨bW, kW, _⟩ := alloc_facts hW
    clear hW
    have h := h.below bW
    have KT : ∀ w', Below W1.heap.size W1 w' → Below W1.heap.size W1 w' ∧ w'.cell? ⟨w.heap.size, 0, none⟩ = some (.int .i64 y.west) ∧ w'.cell? ⟨w.heap.size, 1, none⟩ = some (.int .i64 y.south) ∧ w'.cell? ⟨w.heap.size, 2, none⟩ = some (.int .i64 y.east) ∧ w'.cell? ⟨w.heap.size, 3, none⟩ = some (.int .i64 y.north) := fun w' hw => ⟨hw, (kW.below hw).2.1 0 _ rfl, (kW.below hw).2.1 1 _ rfl, (kW.below hw).2.1 2 _ rfl, (kW.below hw).2.1 3 _ rfl⟩
    have KT := Lib.hid KT
    refine (szLnYes _ _ _ _ hn).mono ?_; rintro e w' ⟨rfl, rfl⟩
    go_wp2_with (fail)
    go_region_held3 (fun w' => Below W1.heap.size W1 w' ∧ w'.cell? ⟨w.heap.size, 0, none⟩ = some (.int .i64 y.west) ∧ w'.cell? ⟨w.heap.size, 1, none⟩ = some (.int .i64 y.south) ∧ w'.cell? ⟨w.heap.size, 2, none⟩ = some (.int .i64 y.east) ∧ w'.cell? ⟨w.heap.size, 3, none⟩ = some (.int .i64 y.north))
      (first | exact KT.out _ (Below.refl _ _).drew | (refine KT.out _ (bth (b := ?_) ?_ ?_); rotate_left 2; assumption; first | exact (Below.refl _ _).drew | exact And.left (by assumption)))
      (first
        | (go_at_call 20; refine (toLnS A c l _ (h.below (by first | exact (Below.refl _ _).drew | exact And.left (by assumption))) hn).mono ?_; rintro e w3 ⟨g3, rfl, m3⟩; have b3 := m3.2.1)
        | (go_at_call 16; refine (toBx y _).mono ?_; rintro e w4 ⟨rfl, b4⟩)
        | (go_at_call 35; refine (sUncov _ _ l y  _ (by first | exact m3.2.2.1 | exact m3.2.2.1.below b4) hn (Nat.le_refl _)).mono ?_; rintro e w5 ⟨A0, c0, rfl, f0⟩; have b5 := f0.1))
    all_goals
      go_wp2_with (fail)
      refine (toLnS A c l _ (h.below (And.left (by assumption))) hn).mono ?_; rintro e w6 ⟨g6, rfl, m6⟩
      have b6 := bth (And.left (by assumption)) m6.2.1
      have sz6 := Nat.le_trans (Below.size (And.left (by assumption))) m6.1
      have k6 := kW.below b6
      have n0 := k6.2.1 0 _ rfl
      have n1 := k6.2.1 1 _ rfl
      have n2 := k6.2.1 2 _ rfl
      have n3 := k6.2.1 3 _ rfl
      go_wp2_with (fail)
      refine (toBx y _).mono ?_; rintro e w7 ⟨rfl, b7⟩
      clear k6 n0 n1 n2 n3
      go_wp2_with (fail)
      refine (iUncov _ _ l y  _ (m6.2.2.1.below b7) hn (Nat.le_refl _)).mono ?_; rintro e w8 ⟨A1, c1, rfl, f1⟩
      have b7' := bth b6 b7
      have b8 := bth b7' f1.1
      have z0 := f0.2.1.below (bth (bth m6.2.1 b7) f1.1)
      go_wp2_with (fail)
      refine (eqCeS _ _ _ _ (unL l y) _ f1.2.1 z0 hX).mono ?_; rintro e w9 ⟨rfl, b9⟩
      have b9' := bth b8 b9
      go_wp2_with (fail)
      refine (toLnS A c l _ (h.below b9') hn).mono ?_; rintro e w10 ⟨g10, rfl, m10⟩
      go_wp2_with (fail)
      refine (eqLnS _ _ _ _ l _ (m6.2.2.1.below (bth (bth (bth b7 f1.1) b9) m10.2.1)) m10.2.2.1 hn).mono ?_; rintro e w11 ⟨rfl, b11⟩
      have y11 := bth (bth b9 m10.2.1) b11
      have x11 := bth (bth b7 f1.1) y11
      have b11' := bth (bth b9' m10.2.1) b11
      go_wp2_with (fail)
      refine (markLnS (some ⟨g6, 0, none⟩) _ l.length _ (fun _ => ⟨g6, rfl, m6.2.2.2.below x11⟩) hn).mono ?_; rintro e w12 ⟨rfl, o12, _, _⟩
      have hg6 := m6.1
      have hg6' := m6.2.2.2.1
      have s08 := (z0.below y11).only o12 (fun _ hl a a' ha ha' => by injection ha with ha; subst ha; have := f0.2.1.lt hl a' ha'; show g6 ≠ _; omega)
      have s18 := (f1.2.1.below y11).only o12 (fun _ hl a a' ha ha' => by injection ha with ha; subst ha; have := f1.2.2.2 a' ha' hl; have := b7.size; show g6 ≠ _; omega)
      have b12 := o12.below b11' (fun _ a ha => by injection ha with ha; subst ha; exact sz6)
      have ow12 := (f1.2.2.1.below y11).only o12 (fun hl _ a a' ha ha' => by injection ha with ha; subst ha; have := f1.2.2.2 a' ha' hl; have := b7.size; show g6 ≠ _; omega)
      go_wp2_with (fail)
      refine (eqCeS _ _ _ _ (unL l y) _ s18 s08 hX).mono ?_; rintro e w13 ⟨rfl, b13⟩
      have b13' := bth b12 b13
      go_wp2_with (fail)
      refine (markCe A1 _ (unL l y).length _ (ow12.below b13) hX).mono ?_; rintro e w14 ⟨rfl, o14, s14, _⟩
      have s014 := (s08.below b13).only o14 (fun hl hl' a a' ha ha' => by have := f0.2.1.lt hl' a' ha'; have := f1.2.2.2 a ha hl; have := m6.2.1.size; have := b7.size; omega)
      have b14 := o14.below b13' (fun hl a ha => by have := f1.2.2.2 a ha hl; have := b7'.size; omega)
      go_wp2_with (fail)
      refine (heldCe A1 _ (unL l y).length _ s14 hX).mono ?_; rintro e w' ⟨rfl, rfl⟩
      have k14 := kW.below b14
      have KU : ∀ w', Below w14.heap.size w14 w' → Below w14.heap.size w14 w' ∧ w'.cell? ⟨w.heap.size, 0, none⟩ = some (.int .i64 y.west) ∧ w'.cell? ⟨w.heap.size, 1, none⟩ = some (.int .i64 y.south) ∧ w'.cell? ⟨w.heap.size, 2, none⟩ = some (.int .i64 y.east) ∧ w'.cell? ⟨w.heap.size, 3, none⟩ = some (.int .i64 y.north) := fun w' hw => ⟨hw, (k14.below hw).2.1 0 _ rfl, (k14.below hw).2.1 1 _ rfl, (k14.below hw).2.1 2 _ rfl, (k14.below hw).2.1 3 _ rfl⟩
      have KU := Lib.hid KU
      go_wp2_with (fail)
      go_region_held3 (fun w' => Below w14.heap.size w14 w' ∧ w'.cell? ⟨w.heap.size, 0, none⟩ = some (.int .i64 y.west) ∧ w'.cell? ⟨w.heap.size, 1, none⟩ = some (.int .i64 y.south) ∧ w'.cell? ⟨w.heap.size, 2, none⟩ = some (.int .i64 y.east) ∧ w'.cell? ⟨w.heap.size, 3, none⟩ = some (.int .i64 y.north))
        (first | exact KU.out _ (Below.refl _ _).drew | (refine KU.out _ (bth (b := ?_) ?_ ?_); rotate_left 2; assumption; first | exact (Below.refl _ _).drew | exact And.left (by assumption)))
        (first
          | (go_at_call 20; refine (toLnS A c l _ (h.below (bth b14 (by first | exact (Below.refl _ _).drew | exact And.left (by assumption)))) hn).mono ?_; rintro e w15 ⟨g15, rfl, m15⟩; have b15 := m15.2.1)
          | (go_at_call 16; refine (toBx y _).mono ?_; rintro e w16 ⟨rfl, b16⟩)
          | (go_at_call 36; refine (iUncov _ _ l y  _ (by first | exact m15.2.2.1 | exact m15.2.2.1.below b16) hn (Nat.le_refl _)).mono ?_; rintro e w17 ⟨A2, c2, rfl, f2⟩; have b17 := f2.1))
      all_goals
        go_wp2_with (fail)
        refine (eqCeS _ _ _ _ (unL l y) _ f2.2.1 (s014.below (And.left (by assumption))) hX).mono ?_; rintro e w18 ⟨rfl, b18⟩
        go_wp2_with (fail)
        refine (heldCe A1 _ (unL l y).length _ (s14.below (bth (And.left (by assumption)) b18)) hX).mono ?_; rintro e w' ⟨rfl, rfl⟩
        go_wp2_with (fail)
        go_ret
        exact ⟨rfl, bth bW (bth (bth b14 (And.left (by assumption))) b18)⟩
  · go_enter Try.func10, Try.ntmps10
    go_wp2_with (go_at_call 18; refine (szLnNo _ _ _ _ (by omega) hm).mono ?_; rintro e w' ⟨rfl, rfl⟩)
    go_ret
    exact ⟨rfl, below_alloc _ _⟩
end Go.Proofs.Ytdphaejpponmeaa
