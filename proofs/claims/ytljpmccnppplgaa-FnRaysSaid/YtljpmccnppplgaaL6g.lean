/- The great law on rays as the program runs it: it returns true and changes nothing that was there. -/
import Derived.Test.YtljpmccnppplgaaDr4
import Derived.Test.YtljpmccnppplgaaP6f
import Derived.Test.YtljpmccnppplgaaV6b
import Derived.Test.YtljpmccnppplgaaL6a
import Derived.Deep.Cut
set_option linter.unusedVariables false
set_option linter.unusedSimpArgs false
namespace Go.Proofs.Ytljpmccnppplgaa
open Go.RowKit
set_option maxHeartbeats 40000000
set_option maxRecDepth 100000
theorem sf_bd {l : List St} {run : Int} (h : sfB l run = true) : 0 ≤ sfD l run ∧ sfD l run ≤ 42500000 := by
  have h' := h
  unfold sfB at h'
  have h1 := h'
  rw [sfOk_def, Bool.and_eq_true] at h1
  have hw := wK_pos h1.1
  have hb := wK_bd h1.1 (k := l.length) (Nat.le_refl _)
  have hl := stGood_len h1.1
  have eD : sfD l run = redD (run * sp l 0) (wK l l.length) := by unfold sfD; rw [if_pos h']
  have h3 := redD_le (a := run * sp l 0) hw
  have h4 := redD_pos (a := run * sp l 0) hw
  rw [eD]; omega
theorem lawRays (X : Option Addr) (x : Nat) (k : List UInt8) (w : World) (h : Sl 1 encU w X k) (hm : k.length ≤ 9223372036854775807) (_hc : k.length ≤ x) :
    Calls Try.prog 12 #[.slice X k.length x] w fun e w' => e = .returned (.bool true) ∧ Below w.heap.size w w' := by
  by_cases hb : (65536 : Int) < (k.length : Int)
  · go_enter Try.func12, Try.ntmps12
    go_wp2_with (go_at_call 40; refine (vBig _ _ _ _).mono ?_; rintro e w' ⟨rfl, rfl⟩)
    go_ret
    exact ⟨rfl, Below.refl _ _⟩
  · have hn : k.length ≤ 1048576 := by omega
    go_enter Try.func12, Try.ntmps12
    go_wp2_with (go_at_call 40; refine (vBig _ _ _ _).mono ?_; rintro e w' ⟨rfl, rfl⟩)
    refine (drRun X x k w h hn).mono ?_; rintro e w1 ⟨l, A, c, a, b, z, rfl, hs1, hl1, hc1, b1⟩
    go_wp2_with (fail)
    refine (iRunTo A c l a b z w1 hs1 (by omega)).mono ?_; rintro e w2 ⟨rfl, b2⟩
    go_wp2_with (fail)
    refine (sRunTo A c l a b z w2 (hs1.below b2) (by omega) hc1).mono ?_; rintro e w3 ⟨rfl, b3⟩
    have B3 := bth b1 (bth b2 b3)
    have hs3 := hs1.below (bth b2 b3)
    clear b1 b2 b3 hs1
    go_wp2_with (fail)
    refine (i6Good A c l w3 hs3 (by omega)).mono ?_; rintro e w4 ⟨rfl, b4⟩
    go_wp2_with (fail)
    refine (sAre6 A c l w4 (hs3.below b4) (by omega)).mono ?_; rintro e w5 ⟨rfl, b5⟩
    have B5 := bth B3 (bth b4 b5)
    have hs5 := hs3.below (bth b4 b5)
    clear B3 hs3 b4 b5
    go_upto_if 99 with (fail)
    go_cut [] from 3 (fun wx => Below w.heap.size w wx)
    case first =>
      as_aux_lemma =>
        cases g1 : rtB l a b z with
        | false =>
          go_wp2_with (fail)
          go_meet
          case rel => exact B5
        | true =>
          go_wp2_with (fail)
          refine (iSplit A c l z w5 hs5 (by omega) hc1).mono ?_; rintro e w6 ⟨A2, c2, rfl, F6⟩
          have B6 := bth B5 F6.1
          cases g2 : spB l z with
          | false =>
            go_wp2_with (fail)
            go_meet
            case rel => exact B6
          | true =>
            obtain ⟨e1, e2, e3⟩ := ray_split g1 g2
            go_wp2_with (fail)
            refine (iRunTo A2 c2 (spL l z) a b z w6 F6.2.1 spL_len).mono ?_; rintro e w7 ⟨rfl, b7⟩; rw [e1, e2, e3]
            have B7 := bth B6 b7
            clear e1 e2 e3
            go_wp2_with (fail)
            go_meet
            case rel => exact B7
    case rest =>
    clear B5 hs5
    go_wp2_with (fail)
    refine (drSlopeF X x k wc (h.below hcut) hn).mono ?_; rintro e w1 ⟨y, A1, c1, run, rfl, hs1, hl1, hc1, b1⟩
    have B1 := bth hcut b1
    clear hcut b1
    go_wp2_with (fail)
    refine (iSlopeFor A1 c1 y run w1 hs1 (by omega)).mono ?_; rintro e w2 ⟨rfl, b2⟩
    go_wp2_with (fail)
    refine (sSlopeFor A1 c1 y run w2 (hs1.below b2) (by omega) hc1).mono ?_; rintro e w3 ⟨rfl, b3⟩
    have B3 := bth B1 (bth b2 b3)
    have hs3 := hs1.below (bth b2 b3)
    clear b2 b3 hs1 B1
    go_upto_region 19 with (fail)
    go_cut [22, 174] from 23 (fun _ r wx => r = .bool (sfB y run && decide (sfN y run ≤ 200) && decide (sfD y run ≤ 100) && decide (sfN y run ≤ 2 * sfD y run)) ∧ wx = w3)
    case first =>
      as_aux_lemma =>
        cases g1 : sfB y run with
        | false =>
          go_wp2_with (fail)
          go_meet
          case rel => exact ⟨by rw [g1]; rfl, rfl⟩
        | true =>
          have hd := sf_bd g1
          have wr1 : IntKind.i64.wrap (2 * sfD y run) = 2 * sfD y run := IntWalk.i64_in _ (by omega)
          by_cases p1 : sfN y run ≤ 200
          · have q1 := decide_eq_true p1
            by_cases p2 : sfD y run ≤ 100
            · have q2 := decide_eq_true p2
              go_wp2_with (fail)
              go_meet
              case rel => exact ⟨by rw [g1, q1, q2]; rfl, rfl⟩
            · have q2 := decide_eq_false p2
              go_wp2_with (fail)
              go_meet
              case rel => exact ⟨by rw [g1, q1, q2]; rfl, rfl⟩
          · have q1 := decide_eq_false p1
            go_wp2_with (fail)
            go_meet
            case rel => exact ⟨by rw [g1, q1]; rfl, rfl⟩
    case rest =>
    obtain ⟨rfl, rfl⟩ := hcut
    go_upto_if 174 with (fail)
    go_cut [] from 3 (fun wx => Below w.heap.size w wx)
    case first =>
      as_aux_lemma =>
        cases g : (sfB y run && decide (sfN y run ≤ 200) && decide (sfD y run ≤ 100) && decide (sfN y run ≤ 2 * sfD y run)) with
        | false =>
          go_wp2_with (fail)
          go_meet
          case rel => exact B3
        | true =>
          simp only [Bool.and_eq_true, decide_eq_true_eq] at g
          obtain ⟨⟨⟨g1, g2⟩, g3⟩, g4⟩ := g
          obtain ⟨e1, e2, e3, e4⟩ := ray_slope g1 g2 g3 g4
          go_wp2_with (fail)
          refine (iTotal A1 c1 y wc hs3 (by omega)).mono ?_; rintro e w4 ⟨rfl, b4⟩; rw [e1]
          go_wp2_with (fail)
          refine (iRunTo A1 c1 y (sfN y run) (sfD y run) (tdA y) w4 (hs3.below b4) (by omega)).mono ?_; rintro e w5 ⟨rfl, b5⟩; rw [e2, e3, e4]
          have B5 := bth B3 (bth b4 b5)
          clear e1 e2 e3 e4
          go_wp2_with (fail)
          go_meet
          case rel => exact B5
    case rest =>
    clear B3 hs3
    go_wp2_with (fail)
    refine (drSlopeI X x k _ (h.below hcut) hn).mono ?_; rintro e w1 ⟨u, A2, c2, ly, n, d, rfl, hs1, hl2, hc2, b1⟩
    have B1 := bth hcut b1
    clear hcut b1
    go_wp2_with (fail)
    refine (iSlopeIn A2 c2 u ly n d w1 hs1 (by omega)).mono ?_; rintro e w2 ⟨rfl, b2⟩
    go_wp2_with (fail)
    refine (sSlopeIn A2 c2 u ly n d w2 (hs1.below b2) (by omega)).mono ?_; rintro e w3 ⟨rfl, b3⟩
    have B3 := bth B1 (bth b2 b3)
    clear b2 b3 hs1 B1
    go_wp2_with (fail)
    refine (drSplit X x k _ (h.below B3) hn).mono ?_; rintro e w4 ⟨v, A3, c3, s, rfl, hs4, hl3, hc3, b4⟩
    have B4 := bth B3 b4
    clear b4 B3
    go_wp2_with (fail)
    refine (iSplit A3 c3 v s w4 hs4 (by omega) hc3).mono ?_; rintro e w5 ⟨A4, c4, rfl, F5⟩
    go_wp2_with (fail)
    refine (sSplit A3 c3 v s w5 (hs4.below F5.1) (by omega) hc3).mono ?_; rintro e w6 ⟨A5, c5, rfl, F6⟩
    go_wp2_with (fail)
    refine (vStrata A4 A5 c4 c5 (spL v s) w6 (F5.2.1.below F6.1) F6.2.1 spL_len).mono ?_; rintro e w7 ⟨rfl, b7⟩
    have B7 := bth B4 (bth F5.1 (bth F6.1 b7))
    clear B4 hs4 F5 F6 b7
    go_wp2_with (fail)
    refine (drTotal X x k _ (h.below B7) hn).mono ?_; rintro e w8 ⟨t, A6, c6, rfl, hs8, hl6, hc6, b8⟩
    have B8 := bth B7 b8
    go_wp2_with (fail)
    refine (iTotal A6 c6 t w8 hs8 (by omega)).mono ?_; rintro e w9 ⟨rfl, b9⟩
    go_wp2_with (fail)
    refine (sTotal A6 c6 t w9 (hs8.below b9) (by omega)).mono ?_; rintro e w10 ⟨rfl, b10⟩
    have B10 := bth B8 (bth b9 b10)
    clear B7 b8 B8 b9 b10 hs8
    go_wp2_with (fail)
    all_goals
      go_ret
      exact ⟨by simp, B10⟩
end Go.Proofs.Ytljpmccnppplgaa
