/- The law over AreCasts as the program runs it: it returns true and changes nothing that was there. -/
import Derived.Test.YtfmlfeokdaahmaaW7h
set_option linter.unusedVariables false
set_option linter.unusedSimpArgs false
namespace Go.Proofs.Ytfmlfeokdaahmaa
open Go.RowKit
set_option maxHeartbeats 400000
theorem sAre7 (A : Option Addr) (c : Nat) (hs : List Ch) (w : World) (h : Sl 5 Ch.enc w A hs) (ok : OkS w hs) (hn : hs.length ≤ 1048576) (hl : ∀ k (hk : k < hs.length), hs[k].t.lay.length ≤ 1048576) :
    Calls Try.prog 31 #[.slice A hs.length c] w fun e w' => e = .returned (.bool (ctsGood (dat hs))) ∧ Below w.heap.size w w' := by
  have HL := Lib.hid hl
  clear hl
  go_enter Try.func31, Try.ntmps31
  go_wp2_with (fail)
  refine (s7Good A c hs _ h ok hn HL.out).mono ?_; rintro e w1 ⟨rfl, b1⟩
  go_wp2_with (fail)
  go_ret
  exact ⟨rfl, b1⟩
set_option maxHeartbeats 2000000 in
theorem lawAre7 (A : Option Addr) (c : Nat) (hs : List Ch) (w : World) (h : Sl 5 Ch.enc w A hs) (hm : hs.length ≤ 9223372036854775807) (_hc : hs.length ≤ c) (ok : OkS w hs) (hl : ∀ k (hk : k < hs.length), hs[k].t.lay.length ≤ 9223372036854775807) :
    Calls Try.prog 8 #[.slice A hs.length c] w fun e w' => e = .returned (.bool true) ∧ Below w.heap.size w w' := by
  go_enter Try.func8, Try.ntmps8
  go_wp2_with (fail)
  refine (szCtS A c hs _ h hm hl).mono ?_; rintro e w0 ⟨r, rfl, b0, hr⟩
  by_cases hz : r < 0
  · go_wp2_with (fail)
    go_ret
    exact ⟨rfl, b0⟩
  · obtain ⟨r1, hn, hl1⟩ := hr (by omega)
    have HL := Lib.hid hl1
    have HL0 := Lib.hid hl
    clear hr hl1 hl
    go_wp2_with (fail)
    refine (toCtS A c hs _ (h.below b0) (ok.below b0) hn HL.out).mono ?_; rintro e w1 ⟨g1, k1, rfl, d1, n1, b1, s1, o1, l1⟩
    have b1' := bth b0 b1
    have D1 := Lib.hid d1
    have L1 := Lib.hid l1
    clear d1 l1
    go_wp2_with (fail)
    refine (sAre7 _ _ k1  _ s1 o1 n1 L1.out).mono ?_; rintro e w2 ⟨rfl, b2⟩; rw [D1.out]
    have b2' := bth b1' b2
    go_wp2_with (fail)
    refine (toCtS A c hs _ (h.below b2') (ok.below b2') hn HL.out).mono ?_; rintro e w3 ⟨g3, k3, rfl, d3, n3, b3, s3, o3, l3⟩
    have b3' := bth b2' b3
    have D3 := Lib.hid d3
    have L3 := Lib.hid l3
    clear d3 l3
    go_wp2_with (fail)
    refine (i7Good _ _ k3  _ s3 o3 n3 L3.out (Nat.le_refl _)).mono ?_; rintro e w4 ⟨rfl, b4⟩; rw [D3.out]
    have b4' := bth b3' b4
    go_wp2_with (fail)
    refine (toCtS A c hs _ (h.below b4') (ok.below b4') hn HL.out).mono ?_; rintro e w5 ⟨g5, k5, rfl, d5, n5, b5, s5, o5, l5⟩
    have D5 := Lib.hid (D3.out.trans d5.symm)
    clear d5 l5
    go_wp2_with (fail)
    refine (eqCtS _ _ _ _ k3 k5 _ (s3.below (bth b4 b5)) s5 (o3.below (bth b4 b5)) o5 D5.out n3 L3.out).mono ?_; rintro e w6 ⟨rfl, b6⟩
    go_wp2_with (fail)
    go_ret
    exact ⟨rfl, bth (bth b4' b5) b6⟩
end Go.Proofs.Ytfmlfeokdaahmaa
