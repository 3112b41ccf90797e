/- The law over NearestCast as the program runs it: it returns true and changes nothing that was there. -/
import Derived.Test.YtfmlfeokdaahmaaW7k
set_option linter.unusedVariables false
set_option linter.unusedSimpArgs false
namespace Go.Proofs.Ytfmlfeokdaahmaa
open Go.RowKit
set_option maxHeartbeats 400000
set_option maxHeartbeats 4000000 in
theorem lawNearC (A : Option Addr) (c : Nat) (hs : List Ch) (y : Sp) (tm : Int) (wi : Int) (w : World) (h : Sl 5 Ch.enc w A hs) (hm : hs.length ≤ 9223372036854775807) (_hc : hs.length ≤ c) (ok : OkS w hs) (hl : ∀ k (hk : k < hs.length), hs[k].t.lay.length ≤ 9223372036854775807) :
    Calls Try.prog 12 #[.slice A hs.length c, .agg #[.int .i64 y.sx, .int .i64 y.sy], .int .i64 tm, .int .i64 wi] w fun e w' => e = .returned (.bool true) ∧ Below w.heap.size w w' := by
  go_enter Try.func12, Try.ntmps12
  go_wp2_with (fail)
  generalize hW : World.alloc w _ = W0
  obtain ⟨bW, kW0, _⟩ := alloc_facts hW
  clear hW
  refine (szCtS A c hs _ (h.below bW) hm hl).mono ?_; rintro e W1 ⟨r, rfl, b0, hr⟩
  have kW := kW0.below b0
  have b0 := bth bW b0
  clear kW0
  by_cases hz : r < 0
  · go_wp2_with (fail)
    go_ret
    exact ⟨rfl, b0⟩
  · obtain ⟨r1, hn, hl1⟩ := hr (by omega)
    have HL := Lib.hid hl1
    clear hr hl1 hl
    have h := h.below b0
    have ok := ok.below b0
    have KT : ∀ w', Below W1.heap.size W1 w' → Below W1.heap.size W1 w' ∧ w'.cell? ⟨w.heap.size, 0, none⟩ = some (.int .i64 y.sx) ∧ w'.cell? ⟨w.heap.size, 1, none⟩ = some (.int .i64 y.sy) := fun w' hw => ⟨hw, (kW.below hw).2.1 0 _ rfl, (kW.below hw).2.1 1 _ rfl⟩
    have KT := Lib.hid KT
    go_wp2_with (fail)
    go_region_held3 (fun w' => Below W1.heap.size W1 w' ∧ w'.cell? ⟨w.heap.size, 0, none⟩ = some (.int .i64 y.sx) ∧ w'.cell? ⟨w.heap.size, 1, none⟩ = some (.int .i64 y.sy))
      (first | exact KT.out _ (Below.refl _ _).drew | (refine KT.out _ (bth (b := ?_) ?_ ?_); rotate_left 2; assumption; first | exact (Below.refl _ _).drew | exact And.left (by assumption)))
      (first
        | (go_at_call 32; refine (toCtS A c hs _ (h.below (by first | exact (Below.refl _ _).drew | exact And.left (by assumption))) (ok.below (by first | exact (Below.refl _ _).drew | exact And.left (by assumption))) hn HL.out).mono ?_; rintro e w3 ⟨g3, k3, rfl, d3, n3, b3, s3, o3, l3⟩)
        | (go_at_call 42; refine (toSp y _).mono ?_; rintro e w4 ⟨rfl, b4⟩)
        | (go_at_call 41; refine (sNearC _ _ k3 y tm wi _ (by first | exact s3 | exact s3.below b4) (by first | exact o3 | exact o3.below b4) n3 l3).mono ?_; rintro e w5 ⟨rfl, b5⟩; rw [d3]))
    all_goals
      go_wp2_with (fail)
      refine (toCtS A c hs _ (h.below (And.left (by assumption))) (ok.below (And.left (by assumption))) hn HL.out).mono ?_; rintro e w6 ⟨g6, k6, rfl, d6, n6, b6, s6, o6, l6⟩
      have b6' := bth (And.left (by assumption)) b6
      have kk := kW.below b6'
      have n100 := kk.2.1 0 _ rfl
      have n101 := kk.2.1 1 _ rfl
      have D6 := Lib.hid d6
      have L6 := Lib.hid l6
      clear d6 l6
      go_wp2_with (fail)
      refine (toSp y _).mono ?_; rintro e w7 ⟨rfl, b7⟩
      go_wp2_with (fail)
      refine (iNearC _ _ k6 y tm wi _ (s6.below b7) (o6.below b7) n6 L6.out (Nat.le_refl _)).mono ?_; rintro e w8 ⟨rfl, b8⟩; rw [D6.out]
      have b8' := bth (bth b6' b7) b8
      go_wp2_with (fail)
      refine (toCtS A c hs _ (h.below b8') (ok.below b8') hn HL.out).mono ?_; rintro e w9 ⟨g9, k9, rfl, d9, n9, b9, s9, o9, l9⟩
      have D9 := Lib.hid (D6.out.trans d9.symm)
      clear d9 l9
      go_wp2_with (fail)
      refine (eqCtS _ _ _ _ k6 k9 _ (s6.below (bth (bth b7 b8) b9)) s9 (o6.below (bth (bth b7 b8) b9)) o9 D9.out n6 L6.out).mono ?_; rintro e w10 ⟨rfl, b10⟩
      go_wp2_with (fail)
      go_ret
      exact ⟨rfl, bth b0 (bth (bth b8' b9) b10)⟩
end Go.Proofs.Ytfmlfeokdaahmaa
