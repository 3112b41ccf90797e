/- The laws over SailedOrder and TurnsOf as the program runs them: they return true and change nothing that was there. -/
import Derived.Test.YtdphaejpponmeaaW9l
import Derived.Test.YtdphaejpponmeaaInts
set_option linter.unusedVariables false
set_option linter.unusedSimpArgs false
namespace Go.Proofs.Ytdphaejpponmeaa
open Go.RowKit
set_option maxHeartbeats 2000000
set_option maxHeartbeats 2000000 in
theorem lawSailed (A : Option Addr) (c : Nat) (l : List Ln) (w : World) (h : Sl 5 Ln.enc w A l) (hm : l.length ≤ 9223372036854775807) (_hc : l.length ≤ c) :
    Calls Try.prog 12 #[.slice A l.length c] w fun e w' => e = .returned (.bool true) ∧ Below w.heap.size w w' := by
  by_cases hn : l.length ≤ 1048576
  · have h1 : ¬ (1048576 - (l.length : Int) < 0) := by omega
    have hX : (soL l).length ≤ 1048576 := soL_len hn
    have hk1 : ¬ (1 + (l.length : Int) * 5 < 0) := by omega
    have hk2 : ¬ (1 + ((soL l).length : Int) * 1 < 0) := by omega
    go_enter Try.func12, Try.ntmps12
    go_wp2_with (fail)
    refine (szLnYes _ _ _ _ hn).mono ?_; rintro e w' ⟨rfl, rfl⟩
    go_wp2_with (fail)
    refine (toLnS A c l _ h hn).mono ?_; rintro e w1 ⟨g1, rfl, m1⟩
    go_wp2_with (fail)
    refine (sSailed _ _ l  _ m1.2.2.1 hn (Nat.le_refl _)).mono ?_; rintro e w2 ⟨A0, c0, rfl, f0⟩
    go_wp2_with (fail)
    have b2 := bth m1.2.1 f0.1
    refine (toLnS A c l _ (h.below b2) hn).mono ?_; rintro e w3 ⟨g3, rfl, m3⟩
    go_wp2_with (fail)
    refine (iSailed _ _ l  _ m3.2.2.1 hn (Nat.le_refl _)).mono ?_; rintro e w4 ⟨A1, c1, rfl, f1⟩
    have b3 := bth b2 m3.2.1
    have b4 := bth b3 f1.1
    have z0 := f0.2.1.below (bth m3.2.1 f1.1)
    go_wp2_with (fail)
    refine (eqI _ _ _ _ (soL l) _ f1.2.1 z0 hX).mono ?_; rintro e w5 ⟨rfl, b5⟩
    go_wp2_with (fail)
    have b5' := bth b4 b5
    refine (toLnS A c l _ (h.below b5') hn).mono ?_; rintro e w6 ⟨g6, rfl, m6⟩
    go_wp2_with (fail)
    refine (eqLnS _ _ _ _ l _ (m3.2.2.1.below (bth (bth f1.1 b5) m6.2.1)) m6.2.2.1 hn).mono ?_; rintro e w7 ⟨rfl, b7⟩
    have y7 := bth (bth b5 m6.2.1) b7
    have x7 := bth f1.1 y7
    have b7' := bth (bth b5' m6.2.1) b7
    go_wp2_with (fail)
    refine (markLnS (some ⟨g3, 0, none⟩) _ l.length _ (fun _ => ⟨g3, rfl, m3.2.2.2.below x7⟩) hn).mono ?_; rintro e w8 ⟨rfl, o8, _, _⟩
    have hg3 := m3.1
    have hg3' := m3.2.2.2.1
    have s08 := (z0.below y7).only o8 (fun _ hl a a' ha ha' => by injection ha with ha; subst ha; have := f0.2.1.lt hl a' ha'; show g3 ≠ _; omega)
    have s18 := (f1.2.1.below y7).only o8 (fun _ hl a a' ha ha' => by injection ha with ha; subst ha; have := f1.2.2.2 a' ha' hl; show g3 ≠ _; omega)
    have b8 := o8.below b7' (fun _ a ha => by injection ha with ha; subst ha; have := b2.size; show _ ≤ g3; omega)
    have u8 : w3.heap.size ≤ w8.heap.size := by rw [o8.size]; exact x7.size
    have ow8 := (f1.2.2.1.below y7).only o8 (fun hl _ a a' ha ha' => by injection ha with ha; subst ha; have := f1.2.2.2 a' ha' hl; show g3 ≠ _; omega)
    go_wp2_with (fail)
    refine (eqI _ _ _ _ (soL l) _ s18 s08 hX).mono ?_; rintro e w9 ⟨rfl, b9⟩
    have b9' := bth b8 b9
    go_wp2_with (fail)
    refine (markI A1 _ (soL l).length _ (ow8.below b9) hX).mono ?_; rintro e w10 ⟨rfl, o10, s10, _⟩
    have s010 := (s08.below b9).only o10 (fun hl hl' a a' ha ha' => by have := f0.2.1.lt hl' a' ha'; have := f1.2.2.2 a ha hl; have := m3.2.1.size; omega)
    have b10 := o10.below b9' (fun hl a ha => by have := f1.2.2.2 a ha hl; have := b3.size; omega)
    go_wp2_with (fail)
    refine (heldI A1 _ (soL l).length _ s10 hX).mono ?_; rintro e w' ⟨rfl, rfl⟩
    go_wp2_with (fail)
    refine (toLnS A c l _ (h.below b10) hn).mono ?_; rintro e w11 ⟨g11, rfl, m11⟩
    go_wp2_with (fail)
    refine (iSailed _ _ l  _ m11.2.2.1 hn (Nat.le_refl _)).mono ?_; rintro e w12 ⟨A2, c2, rfl, f2⟩
    have y12 := bth m11.2.1 f2.1
    go_wp2_with (fail)
    refine (eqI _ _ _ _ (soL l) _ f2.2.1 (s010.below y12) hX).mono ?_; rintro e w13 ⟨rfl, b13⟩
    go_wp2_with (fail)
    refine (heldI A1 _ (soL l).length _ (s10.below (bth y12 b13)) hX).mono ?_; rintro e w' ⟨rfl, rfl⟩
    go_wp2_with (fail)
    go_ret
    exact ⟨rfl, bth (bth b10 y12) b13⟩
  · go_enter Try.func12, Try.ntmps12
    go_wp2_with (go_at_call 18; refine (szLnNo _ _ _ _ (by omega) hm).mono ?_; rintro e w' ⟨rfl, rfl⟩)
    go_ret
    exact ⟨rfl, Below.refl _ _⟩
set_option maxHeartbeats 1000000 in
theorem lawTurns (A : Option Addr) (c : Nat) (l : List Ln) (w : World) (h : Sl 5 Ln.enc w A l) (hm : l.length ≤ 9223372036854775807) (_hc : l.length ≤ c) :
    Calls Try.prog 11 #[.slice A l.length c] w fun e w' => e = .returned (.bool true) ∧ Below w.heap.size w w' := by
  by_cases hn : l.length ≤ 1048576
  · have h1 : ¬ (1048576 - (l.length : Int) < 0) := by omega
    go_enter Try.func11, Try.ntmps11
    go_wp2_with (fail)
    refine (szLnYes _ _ _ _ hn).mono ?_; rintro e w' ⟨rfl, rfl⟩
    go_wp2_with (fail)
    refine (toLnS A c l _ h hn).mono ?_; rintro e w1 ⟨g1, rfl, m1⟩
    go_wp2_with (fail)
    refine (sTurns _ _ l  _ m1.2.2.1 hn).mono ?_; rintro e w2 ⟨rfl, b2⟩
    go_wp2_with (fail)
    have b2' := bth m1.2.1 b2
    refine (toLnS A c l _ (h.below b2') hn).mono ?_; rintro e w3 ⟨g3, rfl, m3⟩
    go_wp2_with (fail)
    refine (iTurns _ _ l  _ m3.2.2.1 hn).mono ?_; rintro e w4 ⟨rfl, b4⟩
    have b4' := bth (bth b2' m3.2.1) b4
    go_wp2_with (fail)
    refine (toLnS A c l _ (h.below b4') hn).mono ?_; rintro e w5 ⟨g5, rfl, m5⟩
    go_wp2_with (fail)
    refine (eqLnS _ _ _ _ l _ (m3.2.2.1.below (bth b4 m5.2.1)) m5.2.2.1 hn).mono ?_; rintro e w6 ⟨rfl, b6⟩
    go_wp2_with (fail)
    go_ret
    exact ⟨rfl, bth (bth b4' m5.2.1) b6⟩
  · go_enter Try.func11, Try.ntmps11
    go_wp2_with (go_at_call 18; refine (szLnNo _ _ _ _ (by omega) hm).mono ?_; rintro e w' ⟨rfl, rfl⟩)
    go_ret
    exact ⟨rfl, Below.refl _ _⟩
end Go.Proofs.Ytdphaejpponmeaa
