/- The great law on times as the program runs it: it returns true and changes nothing that was there. -/
import Derived.Test.YtljpmccnppplgaaDr4
import Derived.Test.YtljpmccnppplgaaP6e
import Derived.Test.YtljpmccnppplgaaV6
import Derived.Test.YtljpmccnppplgaaL6c
import Derived.Deep.Cut
set_option linter.unusedVariables false
set_option linter.unusedSimpArgs false
namespace Go.Proofs.Ytljpmccnppplgaa
open Go.RowKit
set_option maxHeartbeats 40000000
set_option maxRecDepth 100000
theorem bd_len {y : List St} (h : bdB y = true) : ((bdL y).length : Int) = (y.length : Int) - 1 := by
  rw [bdB_def] at h
  have := stGood_len h
  rw [bdL_yes h, bendL_length]
  omega
theorem lawDown (X : Option Addr) (x : Nat) (k : List UInt8) (w : World) (h : Sl 1 encU w X k) (hm : k.length ≤ 9223372036854775807) (_hc : k.length ≤ x) :
    Calls Try.prog 13 #[.slice X k.length x] w fun e w' => e = .returned (.bool true) ∧ Below w.heap.size w w' := by
  by_cases hb : (65536 : Int) < (k.length : Int)
  · go_enter Try.func13, Try.ntmps13
    go_wp2_with (go_at_call 40; refine (vBig _ _ _ _).mono ?_; rintro e w' ⟨rfl, rfl⟩)
    go_ret
    exact ⟨rfl, Below.refl _ _⟩
  · have hn : k.length ≤ 1048576 := by omega
    go_enter Try.func13, Try.ntmps13
    go_wp2_with (go_at_call 40; refine (vBig _ _ _ _).mono ?_; rintro e w' ⟨rfl, rfl⟩)
    refine (drDown X x k w h hn).mono ?_; rintro e w1 ⟨l1, A1, c1, z, rfl, hs1, hl1, hc1, b1⟩
    go_wp2_with (fail)
    refine (iDownTime A1 c1 l1 z w1 hs1 (by omega)).mono ?_; rintro e w2 ⟨rfl, b2⟩
    go_wp2_with (fail)
    refine (sDownTime A1 c1 l1 z w2 (hs1.below b2) (by omega) hc1).mono ?_; rintro e w3 ⟨rfl, b3⟩
    have B3 := bth b1 (bth b2 b3)
    clear b1 b2 b3 hs1
    go_upto_region 6 with (fail)
    go_cut [83] from 3 (fun r wx => r = .bool false ∧ wx = w3)
    case first =>
      as_aux_lemma =>
        cases g1 : dwB l1 z with
        | false =>
          go_wp2_with (fail)
          go_meet
          case rel => exact ⟨rfl, rfl⟩
        | true =>
          obtain ⟨d1, d2⟩ := dw_facts g1
          have d1' : ¬ (dwN l1 z < 0) := by omega
          have d4 : decide (dwN l1 z = 0) = decide (z = 0) := by rw [decide_eq_decide]; exact d2
          have d6 : (dwN l1 z == 0) = (z == 0) := by rw [Bool.eq_iff_iff, beq_iff_eq, beq_iff_eq]; exact d2
          go_wp2_with (fail)
          go_meet
          case rel => exact ⟨rfl, rfl⟩
    case rest =>
    obtain ⟨rfl, rfl⟩ := hcut
    go_wp2_with (fail)
    refine (drAfter X x k wc (h.below B3) hn).mono ?_; rintro e w4 ⟨l2, A2, c2, t, rfl, hs2, hl2, hc2, b4⟩
    have B4 := bth B3 b4
    clear b4 B3
    go_wp2_with (fail)
    refine (iDepthAfter' A2 c2 l2 t w4 hs2 (by omega)).mono ?_; rintro e w5 ⟨rfl, b5⟩
    go_wp2_with (fail)
    refine (sDepthAfter' A2 c2 l2 t w5 (hs2.below b5) (by omega)).mono ?_; rintro e w6 ⟨rfl, b6⟩
    have B6 := bth B4 (bth b5 b6)
    have hs6 := hs2.below (bth b5 b6)
    clear B4 b5 b6 hs2
    go_upto_if 116 with (fail)
    go_cut [] from 3 (fun wx => Below w.heap.size w wx)
    case first =>
      as_aux_lemma =>
        cases g2 : daC l2 t with
        | false =>
          go_wp2_with (fail)
          go_meet
          case rel => exact B6
        | true =>
          obtain ⟨f1, f2, f3, f4, f5, f6, f7, f8, f9, f10, f11, f12, f13, f14, f15⟩ := dn_facts g2
          have hq : wrap64 ((daA l2 t).tdiv (daB l2 t)) = daA l2 t / daB l2 t := by rw [Int.tdiv_eq_ediv_of_nonneg f3]; exact IntWalk.wrap64_in _ (by omega)
          have HL := Lib.hid (fun (ht : 0 < t) => dn_less g2 ht)
          clear g2
          have nb : ¬ (daB l2 t = 0) := by omega
          go_wp2_with (fail)
          rw [hq]
          refine (iDownTime A2 c2 l2 _ w6 hs6 (by omega)).mono ?_; rintro e w7 ⟨rfl, b7⟩; rw [f10]
          go_wp2_with (fail)
          refine (iTotal A2 c2 l2 w7 (hs6.below b7) (by omega)).mono ?_; rintro e w8 ⟨rfl, b8⟩; rw [f7]
          have B8 := bth B6 (bth b7 b8)
          have hs8 := hs6.below (bth b7 b8)
          clear B6 b7 b8 hs6 f7 f10
          have p1 := mul_bd f1 f2 (show 0 ≤ dwD l2 (daA l2 t / daB l2 t) by omega) f13
          have p2 := mul_bd (show 0 ≤ tdA l2 by omega) f9 (show 0 ≤ daB l2 t by omega) f5
          have wr1 : IntKind.i64.wrap (t * dwD l2 (daA l2 t / daB l2 t)) = t * dwD l2 (daA l2 t / daB l2 t) := IntWalk.i64_in _ (by omega)
          have wr2 : IntKind.i64.wrap (tdA l2 * daB l2 t) = tdA l2 * daB l2 t := IntWalk.i64_in _ (by omega)
          have n1 : ¬ (t * dwD l2 (daA l2 t / daB l2 t) < dwN l2 (daA l2 t / daB l2 t)) := by omega
          have n2 : ¬ (tdA l2 * daB l2 t < daA l2 t) := by omega
          have n3 := decide_eq_false n1
          have n4 := decide_eq_false n2
          by_cases ht : 0 < t
          · obtain ⟨hC, hle⟩ := HL.out ht
            obtain ⟨_, _, h3, h4, h5, h6, _, h8, h9, _, _, _, _, h14, h15⟩ := dn_facts hC
            have hq2 : wrap64 ((daA l2 (t - 1)).tdiv (daB l2 (t - 1))) = daA l2 (t - 1) / daB l2 (t - 1) := by rw [Int.tdiv_eq_ediv_of_nonneg h3]; exact IntWalk.wrap64_in _ (by omega)
            go_wp2_with (fail)
            refine (iDepthAfter' A2 c2 l2 (t - 1) w8 hs8 (by omega)).mono ?_; rintro e w10 ⟨rfl, b10⟩; rw [hC]
            have B10 := bth B8 b10
            clear B8 b10 hs8 hC HL h6 f6 f11
            have n5 : ¬ (daB l2 (t - 1) < 1) := by omega
            have nb2 : ¬ (daB l2 (t - 1) = 0) := by omega
            have n6 : ¬ (daA l2 t / daB l2 t < daA l2 (t - 1) / daB l2 (t - 1)) := by omega
            have n7 := decide_eq_false n5
            have n8 := decide_eq_false n6
            go_wp2_with (fail)
            refine wp_region_aft (by kernel_rfl) (by kernel_rfl) ?_
            repeat (go_big_quiet_step ((fail)))
            refine wpQuiet_nil ?_
            intro w9 b9
            have B9 := bth B10 b9
            clear B10 b9
            go_wp2_with (fail)
            go_meet
            case rel => exact B9
          · go_wp2_with (fail)
            go_meet
            case rel => exact B8
    case rest =>
    go_wp2_with (fail)
    refine (drBend X x k wc (h.below hcut) hn).mono ?_; rintro e v1 ⟨y, A3, c3, rfl, hs3, hl3, hc3, b3⟩
    have C1 := bth hcut b3
    clear hcut b3
    go_wp2_with (fail)
    refine (iBend A3 c3 y v1 hs3 (by omega) hc3).mono ?_; rintro e v2 ⟨A4, c4, rfl, F4⟩
    go_wp2_with (fail)
    refine (sBend A3 c3 y v2 (hs3.below F4.1) (by omega) hc3).mono ?_; rintro e v3 ⟨A5, c5, rfl, F5⟩
    have C3 := bth C1 (bth F4.1 F5.1)
    have S3 := F4.2.1.below F5.1
    have Y3 := hs3.below (bth F4.1 F5.1)
    have T3 := F5.2.1
    clear C1 hs3 F4 F5
    go_upto_region 25 with (fail)
    go_cut [26, 28, 207] from 36 (fun _ _ r wx => r = .bool false ∧ Below v3.heap.size v3 wx)
    case first =>
      as_aux_lemma =>
        cases g3 : bdB y with
        | false =>
          go_wp2_with (fail)
          refine (vInts A4 A5 c4 c5 (bdL y) v3 S3 T3 (bdL_len y)).mono ?_; rintro e v4 ⟨rfl, b4⟩
          go_wp2_with (fail)
          go_meet
          case rel => exact ⟨rfl, b4⟩
        | true =>
          have hlen := bd_len g3
          go_wp2_with (fail)
          refine (vInts A4 A5 c4 c5 (bdL y) v3 S3 T3 (bdL_len y)).mono ?_; rintro e v4 ⟨rfl, b4⟩
          go_wp2_with (fail)
          go_meet
          case rel => exact ⟨rfl, b4⟩
    case rest =>
    obtain ⟨rfl, hc4⟩ := hcut
    have C4 := bth C3 hc4
    have S4 := S3.below hc4
    have Y4 := Y3.below hc4
    clear C3 S3 Y3 T3 hc4
    go_wp2_with (fail)
    go_loopw [29] (fun i wr => ∃ m : Nat, m ≤ (bdL y).length ∧ i = .int .i64 m ∧ Below w.heap.size w wr ∧ Below wc.heap.size wc wr) (fun i _ => (bdL y).length - (intOf i).toNat)
    case atStart => exact ⟨0, Nat.zero_le _, rfl, C4, Below.refl _ _⟩
    case round =>
      as_aux_lemma =>
        obtain ⟨m, hm2, rfl, C, V⟩ := hrel
        by_cases hlt : m < (bdL y).length
        · obtain ⟨k0, s1, s2, e1, e2, e3, e4, e5, e6, e7, e8, q1, q2⟩ := bend_facts hlt
          have ek : ((m + 1 : Nat) : Int) = (m : Int) + 1 := by omega
          rw [ek] at s2 e5 e6 e7 e8 q1 q2
          go_wp2_with (fail)
          refine (iSlopeIn A3 c3 y (m : Int) 1 1 wr (Y4.below V) (by omega)).mono ?_; rintro e v5 ⟨rfl, b5⟩; rw [s1]
          go_wp2_with (fail)
          refine (iSlopeIn A3 c3 y ((m : Int) + 1) 1 1 v5 (Y4.below (bth V b5)) (by omega)).mono ?_; rintro e v6 ⟨rfl, b6⟩; rw [s2]
          have C6 := bth C (bth b5 b6)
          have V6 := bth V (bth b5 b6)
          clear C V b5 b6 s1 s2
          obtain ⟨bq, off, rfl⟩ := S4.addr (by omega)
          obtain ⟨hbl, c0⟩ := getI (S4.below V6) hlt
          have u1 : (0 : Int) ≤ (m : Int) := by omega
          have u2 : (m : Int) < ((bdL y).length : Int) := by omega
          have p1 := mul_bd e1 e2 (show 0 ≤ siD y ((m : Int) + 1) 1 1 by omega) e8
          have p2 := mul_bd e5 e6 (show 0 ≤ siD y m 1 1 by omega) e4
          have wr1 : IntKind.i64.wrap (siN y m 1 1 * siD y ((m : Int) + 1) 1 1) = siN y m 1 1 * siD y ((m : Int) + 1) 1 1 := IntWalk.i64_in _ (by omega)
          have wr2 : IntKind.i64.wrap (siN y ((m : Int) + 1) 1 1 * siD y m 1 1) = siN y ((m : Int) + 1) 1 1 * siD y m 1 1 := IntWalk.i64_in _ (by omega)
          go_wp2_with (fail)
          go_roundw
          case rel => exact ⟨m + 1, by omega, by go_num, C6, V6⟩
          case measure => simp [intOf]; omega
        · go_wp2_with (fail)
          go_ret
          exact ⟨rfl, C⟩
end Go.Proofs.Ytljpmccnppplgaa
