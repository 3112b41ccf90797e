/- The law over UseFuel as the program runs it: it returns true and changes nothing that was there. -/
import Derived.Test.YtanmkjjclpplkaaW5e
import Derived.Test.YtanmkjjclpplkaaP5b
import Derived.Test.YtanmkjjclpplkaaS5b
set_option linter.unusedVariables false
set_option linter.unusedSimpArgs false
namespace Go.Proofs.Ytanmkjjclpplkaa
open Go.RowKit
set_option maxHeartbeats 2000000
set_option maxHeartbeats 2000000 in
theorem lawUse (A : Option Addr) (c : Nat) (l : List Cr) (id : Int) (m : Int) (w : World) (h : Sl 7 Cr.enc w A l) (hm : l.length ≤ 9223372036854775807) (_hc : l.length ≤ c) (hqm : ∀ k (hk : k < l.length), l[k].name.size ≤ 9223372036854775807) :
    Calls Try.prog 4 #[.slice A l.length c, .int .i64 id, .int .i64 m] w fun e w' => e = .returned (.bool true) ∧ Below w.heap.size w w' := by
  go_enter Try.func4, Try.ntmps4
  go_wp2_with (fail)
  refine (szCrS A c l _ h hm hqm).mono ?_; rintro e w0 ⟨r, rfl, b0, hr⟩
  replace h := h.below b0
  clear hqm
  by_cases hr0 : r < 0
  · clear hr
    go_wp2_with (fail)
    go_ret
    exact ⟨rfl, b0⟩
  · obtain ⟨hr1, hn, hq⟩ := hr (by omega)
    have HQ := Lib.hid (show NmS l from fun k hk => Nat.le_trans (hq k hk) (by decide))
    clear hq hr
    have hX : (ufL l id m).length ≤ 1048576 := ufL_len hn
    have hk1 : ¬ (1 + (l.length : Int) * 7 < 0) := by omega
    have hk2 : ¬ (1 + ((ufL l id m).length : Int) * 7 < 0) := by omega
    go_wp2_with (fail)
    refine (toCrS A c l _ h hn).mono ?_; rintro e w1 ⟨g1, rfl, m1⟩
    go_wp2_with (fail)
    refine (sUse _ _ l id m _ m1.2.2.1 hn HQ.out (Nat.le_refl _)).mono ?_; rintro e w2 ⟨A0, c0, rfl, f0⟩
    go_wp2_with (fail)
    have b2 := bth m1.2.1 f0.1
    refine (toCrS A c l _ (h.below b2) hn).mono ?_; rintro e w3 ⟨g3, rfl, m3⟩
    go_wp2_with (fail)
    refine (iUse _ _ l id m _ m3.2.2.1 hn HQ.out (Nat.le_refl _)).mono ?_; rintro e w4 ⟨A1, c1, rfl, f1⟩
    have b3 := bth b2 m3.2.1
    have b4 := bth b3 f1.1
    have z0 := f0.2.1.below (bth m3.2.1 f1.1)
    go_wp2_with (fail)
    refine (eqCrS _ _ _ _ (ufL l id m) _ f1.2.1 z0 hX).mono ?_; rintro e w5 ⟨rfl, b5⟩
    go_wp2_with (fail)
    have b5' := bth b4 b5
    refine (toCrS A c l _ (h.below b5') hn).mono ?_; rintro e w6 ⟨g6, rfl, m6⟩
    go_wp2_with (fail)
    refine (eqCrS _ _ _ _ l _ (m3.2.2.1.below (bth (bth f1.1 b5) m6.2.1)) m6.2.2.1 hn).mono ?_; rintro e w7 ⟨rfl, b7⟩
    have y7 := bth (bth b5 m6.2.1) b7
    have x7 := bth f1.1 y7
    have b7' := bth (bth b5' m6.2.1) b7
    go_wp2_with (fail)
    refine (markCrS (some ⟨g3, 0, none⟩) _ l.length _ (fun _ => ⟨g3, rfl, m3.2.2.2.below x7⟩) hn).mono ?_; rintro e w8 ⟨rfl, o8, _, _⟩
    have hg3 := m3.1
    have hg3' := m3.2.2.2.1
    have s08 := (z0.below y7).onlyG o8 (fun _ hl a a' ha ha' => by injection ha with ha; subst ha; have := f0.2.1.lt hl a' ha'; show g3 ≠ _; omega)
    have s18 := (f1.2.1.below y7).onlyG o8 (fun _ hl a a' ha ha' => by injection ha with ha; subst ha; have := f1.2.2.2 a' ha' hl; show g3 ≠ _; omega)
    have b8 := o8.below b7' b7'.size (fun _ a ha => by injection ha with ha; subst ha; have := b2.size; show _ ≤ g3; omega)
    have u8 : w3.heap.size ≤ w8.heap.size := Nat.le_trans x7.size o8.size
    have ow8 := (f1.2.2.1.below y7).onlyG o8 (fun hl _ a a' ha ha' => by injection ha with ha; subst ha; have := f1.2.2.2 a' ha' hl; show g3 ≠ _; omega)
    go_wp2_with (fail)
    refine (eqCrS _ _ _ _ (ufL l id m) _ s18 s08 hX).mono ?_; rintro e w9 ⟨rfl, b9⟩
    have b9' := bth b8 b9
    go_wp2_with (fail)
    refine (markCrS A1 _ (ufL l id m).length _ (ow8.below b9) hX).mono ?_; rintro e w10 ⟨rfl, o10, s10, _⟩
    have s010 := (s08.below b9).onlyG o10 (fun hl hl' a a' ha ha' => by have := f0.2.1.lt hl' a' ha'; have := f1.2.2.2 a ha hl; have := m3.2.1.size; omega)
    have b10 := o10.below b9' b9'.size (fun hl a ha => by have := f1.2.2.2 a ha hl; have := b3.size; omega)
    go_wp2_with (fail)
    refine (heldCrS A1 _ (ufL l id m).length _ s10 hX).mono ?_; rintro e w10' ⟨rfl, bh⟩
    replace b10 := bth b10 bh
    replace s010 := s010.below bh
    replace s10 := s10.below bh
    go_wp2_with (fail)
    refine (toCrS A c l _ (h.below b10) hn).mono ?_; rintro e w11 ⟨g11, rfl, m11⟩
    go_wp2_with (fail)
    refine (iUse _ _ l id m _ m11.2.2.1 hn HQ.out (Nat.le_refl _)).mono ?_; rintro e w12 ⟨A2, c2, rfl, f2⟩
    have y12 := bth m11.2.1 f2.1
    go_wp2_with (fail)
    refine (eqCrS _ _ _ _ (ufL l id m) _ f2.2.1 (s010.below y12) hX).mono ?_; rintro e w13 ⟨rfl, b13⟩
    go_wp2_with (fail)
    refine (heldCrS A1 _ (ufL l id m).length _ (s10.below (bth y12 b13)) hX).mono ?_; rintro e w' ⟨rfl, bz⟩
    go_wp2_with (fail)
    go_ret
    exact ⟨rfl, bth b0 (bth (bth (bth b10 y12) b13) bz)⟩
end Go.Proofs.Ytanmkjjclpplkaa
