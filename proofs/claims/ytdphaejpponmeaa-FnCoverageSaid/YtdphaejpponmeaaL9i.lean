/- The great law on coverage as the program runs it: it returns true and changes nothing that was there. -/
import Derived.Test.YtdphaejpponmeaaDr10
import Derived.Test.YtdphaejpponmeaaV9
import Derived.Test.YtdphaejpponmeaaP9d
import Derived.Test.YtdphaejpponmeaaW9e
import Derived.Test.YtdphaejpponmeaaW9f
import Derived.Test.YtdphaejpponmeaaX9a
import Derived.Deep.Cut
import Derived.Deep.CutBlock
set_option linter.unusedVariables false
set_option linter.unusedSimpArgs false
namespace Go.Proofs.Ytdphaejpponmeaa
open Go.RowKit
set_option maxHeartbeats 40000000
set_option maxRecDepth 100000
theorem lawCovg (X : Option Addr) (x : Nat) (k : List UInt8) (w : World) (h : Sl 1 encU w X k) (hm : k.length ≤ 9223372036854775807) (_hc : k.length ≤ x) :
    Calls Try.prog 14 #[.slice X k.length x] w fun e w' => e = .returned (.bool true) ∧ Below w.heap.size w w' := by
  by_cases hb : (65536 : Int) < (k.length : Int)
  · go_enter Try.func14, Try.ntmps14
    go_wp2_with (go_at_call 47; refine (vBig _ _ _ _).mono ?_; rintro e w' ⟨rfl, rfl⟩)
    go_ret
    exact ⟨rfl, Below.refl _ _⟩
  · have hn : k.length ≤ 1048576 := by omega
    go_enter Try.func14, Try.ntmps14
    go_wp2_with (go_at_call 47; refine (vBig _ _ _ _).mono ?_; rintro e w' ⟨rfl, rfl⟩)
    refine (drCellsCov X x k w h hn).mono ?_; rintro e w1 ⟨l1, A1, c1, t, rfl, hs1, hl1, hc1, b1⟩
    go_wp2_with (fail)
    refine (iCovered A1 c1 l1 t w1 hs1 (by omega)).mono ?_; rintro e w2 ⟨rfl, b2⟩
    go_wp2_with (fail)
    refine (sCovered A1 c1 l1 t w2 (hs1.below b2) (by omega)).mono ?_; rintro e w3 ⟨rfl, b3⟩
    go_wp2_with (fail)
    refine (i9Good A1 c1 l1 w3 (hs1.below (bth b2 b3)) (by omega)).mono ?_; rintro e w4 ⟨rfl, b4⟩
    go_wp2_with (fail)
    refine (sAre9 A1 c1 l1 w4 (hs1.below (bth (bth b2 b3) b4)) (by omega)).mono ?_; rintro e w5 ⟨rfl, b5⟩
    have hs5 := hs1.below (bth (bth (bth b2 b3) b4) b5)
    have B5 := bth b1 (bth (bth (bth b2 b3) b4) b5)
    clear b1 b2 b3 b4 b5 hs1
    go_upto_region 8 with (fail)
    go_cut [3, 4, 5, 6, 72] from 7 (fun a3 a4 a5 a6 r wx => a3 = .slice A1 l1.length c1 ∧ a4 = .int .i64 t ∧ a5 = .int .i64 (ccV l1 t) ∧ r = .bool (ccOk l1 t && decide (1 < t)) ∧ wx = w5)
    case first =>
      as_aux_lemma =>
        cases g1 : ccOk l1 t with
        | false =>
          go_wp2_with (fail)
          go_meet
          case rel => exact ⟨rfl, rfl, rfl, by rw [g1]; rfl, rfl⟩
        | true =>
          go_wp2_with (fail)
          go_meet
          case rel => exact ⟨rfl, rfl, rfl, by rw [g1]; rfl, rfl⟩
    case rest =>
    obtain ⟨rfl, rfl, rfl, rfl, rfl⟩ := hcut
    go_upto_if 72 with (fail)
    go_cut [] from 3 (fun wx => Below w.heap.size w wx)
    case first =>
      as_aux_lemma =>
        cases g1 : (ccOk l1 t && decide (1 < t)) with
        | false =>
          go_wp2_with (fail)
          go_meet
          case rel => exact B5
        | true =>
          rw [Bool.and_eq_true, decide_eq_true_eq] at g1
          obtain ⟨g1, g2⟩ := g1
          obtain ⟨e1, e2⟩ := cov_more g1 g2
          have t8 : t ≤ 8 := by unfold ccOk at g1; rw [Bool.and_eq_true, inB_true] at g1; exact g1.2.2
          have e3 : ¬ (ccV l1 (t - 1) < ccV l1 t) := by omega
          have e4 := decide_eq_false e3
          clear e2 e3 g1
          go_wp2_with (fail)
          refine (iCovered A1 c1 l1 (t - 1) wc hs5 (by omega)).mono ?_; rintro e w6 ⟨rfl, b6⟩; rw [e1]
          go_wp2_with (fail)
          go_meet
          case rel => exact bth B5 b6
    case rest =>
    clear B5 hs5
    go_wp2_with (fail)
    refine (drUncov X x k _ (h.below hcut) hn).mono ?_; rintro e w1 ⟨l2, A2, c2, b, rfl, hs1, hl2, hc2, b1⟩
    have B1 := bth hcut b1
    clear hcut b1
    go_upto_region 13 with (fail)
    generalize hW : World.alloc w1 _ = W2
    obtain ⟨b2, kp, -⟩ := alloc_facts hW
    have B2 := bth B1 b2
    have hs2 := hs1.below b2
    clear hW b2 hs1 B1
    generalize w1.heap.size = g2 at *
    have m0 := kp.2.1 0 _ rfl
    have m1 := kp.2.1 1 _ rfl
    have m2 := kp.2.1 2 _ rfl
    have m3 := kp.2.1 3 _ rfl
    go_wp2_with (fail)
    refine (iUncov A2 c2 l2 b W2 hs2 (by omega) hc2).mono ?_; rintro e w3 ⟨A3, c3, rfl, F3⟩
    have kp3 := kp.below F3.1
    have hs3 := hs2.below F3.1
    have B3 := bth B2 F3.1
    have S3 := F3.2.1
    clear m0 m1 m2 m3 kp hs2 B2 F3
    have m0 := kp3.2.1 0 _ rfl
    have m1 := kp3.2.1 1 _ rfl
    have m2 := kp3.2.1 2 _ rfl
    have m3 := kp3.2.1 3 _ rfl
    go_wp2_with (fail)
    refine (sUncov A2 c2 l2 b w3 hs3 (by omega) hc2).mono ?_; rintro e w4 ⟨A4, c4, rfl, F4⟩
    have kp4 := kp3.below F4.1
    have hs4 := hs3.below F4.1
    have B4 := bth B3 F4.1
    have S4 := S3.below F4.1
    have T4 := F4.2.1
    clear m0 m1 m2 m3 kp3 hs3 B3 S3 F4
    go_wp2_with (fail)
    refine (vPairs A3 A4 c3 c4 (unL l2 b) w4 S4 T4 unL_len).mono ?_; rintro e w5 ⟨rfl, b5⟩
    have kp5 := kp4.below b5
    have hs5 := hs4.below b5
    have B5 := bth B4 b5
    have S5 := S4.below b5
    clear kp4 hs4 B4 S4 T4 b5
    go_upto_if 113 with (fail)
    go_cut [] from 3 (fun wx => Below w.heap.size w wx)
    case first =>
      as_aux_lemma =>
        cases g2 : unB l2 b with
        | false =>
          go_wp2_with (fail)
          go_meet
          case rel => exact B5
        | true =>
          obtain ⟨e1, e2⟩ := unc_all g2
          have G2 := Lib.hid g2
          have e3 : ¬ (ciV b < ((unL l2 b).length : Int)) := by omega
          have e4 := decide_eq_false e3
          have hul := unB_len (l := l2) (b := b)
          clear g2 e2
          have m0 := kp5.2.1 0 _ rfl
          have m1 := kp5.2.1 1 _ rfl
          have m2 := kp5.2.1 2 _ rfl
          have m3 := kp5.2.1 3 _ rfl
          go_wp2_with (fail)
          refine (iCellsIn b w5).mono ?_; rintro e w6 ⟨rfl, b6⟩; rw [e1]
          have B6 := bth B5 b6
          have S6 := S5.below b6
          have hs6 := hs5.below b6
          clear m0 m1 m2 m3 kp5 B5 S5 hs5 b6
          go_wp2_with (fail)
          clear e3 e4
          go_loopw [19] (fun i wr => ∃ m : Nat, m ≤ (unL l2 b).length ∧ i = .int .i64 m ∧ Below w.heap.size w wr ∧ Below w6.heap.size w6 wr) (fun i _ => (unL l2 b).length - (intOf i).toNat)
          case atStart => exact ⟨0, Nat.zero_le _, rfl, B6, Below.refl _ _⟩
          case round =>
            obtain ⟨m, hml, rfl, C, V⟩ := hrel
            by_cases hlt : m < (unL l2 b).length
            · obtain ⟨v1, v2⟩ := unc_each G2.out hlt
              obtain ⟨bq, off, rfl⟩ := S6.addr (by omega)
              obtain ⟨hbl, d0, d1⟩ := Ce.get (S6.below V) hlt
              have hs7 := hs6.below V
              have CV := Lib.hid (show ∀ (y : Aft wr), Calls Try.prog 26 #[.slice A2 l2.length c2, .int .i64 (unL l2 b)[m].row, .int .i64 (unL l2 b)[m].col] y.val fun e w' => e = .returned (.tuple #[.int .i64 0, .bool true]) ∧ Below y.val.heap.size y.val w' from fun y => by
                have := iCov A2 c2 l2 (unL l2 b)[m].row (unL l2 b)[m].col y.val (hs7.aft y) (by omega)
                rw [v1, v2] at this
                exact this)
              have hA := aft_cell hbl
              have u1 : (0 : Int) ≤ (m : Int) := by omega
              have u2 : (m : Int) < ((unL l2 b).length : Int) := by omega
              clear v1 v2
              go_wp2_with (fail)
              refine wp_region_aft (by kernel_rfl) (by kernel_rfl) ?_
              repeat (go_big_quiet_step ((go_at_call 26; exact Aft.calls _ (CV.out _))))
              refine wpQuiet_nil ?_
              intro w9 b9
              have C9 := bth C b9
              have V9 := bth V b9
              clear C V b9
              go_wp2_with (fail)
              go_roundw
              case rel => exact ⟨m + 1, by omega, by go_num, C9, V9⟩
              case measure => simp [intOf]; omega
            · go_wp2_with (fail)
              go_meet
              case rel => exact C
    case rest =>
    clear B5 hs5 S5 kp5
    go_wp2_with (fail)
    refine (drCov X x k _ (h.below hcut) hn).mono ?_; rintro e w1 ⟨l3, A5, c5, z1, z2, rfl, hs1, hl3, hc3, b1⟩
    go_wp2_with (fail)
    refine (iCov A5 c5 l3 z1 z2 w1 hs1 (by omega)).mono ?_; rintro e w2 ⟨rfl, b2⟩
    go_wp2_with (fail)
    refine (sCov A5 c5 l3 z1 z2 w2 (hs1.below b2) (by omega)).mono ?_; rintro e w3 ⟨rfl, b3⟩
    have B3 := bth hcut (bth b1 (bth b2 b3))
    clear b1 b2 b3 hs1 hcut
    go_wp2_with (fail)
    refine (drCellsIn X x k _ (h.below B3) hn).mono ?_; rintro e w4 ⟨y, rfl, b4⟩
    have B4 := bth B3 b4
    go_upto_region 33 with (fail)
    generalize hW : World.alloc w4 _ = W5
    obtain ⟨b5, kp, -⟩ := alloc_facts hW
    have B5 := bth B4 b5
    clear hW b5 B4 B3 b4
    generalize w4.heap.size = g4 at *
    have m0 := kp.2.1 0 _ rfl
    have m1 := kp.2.1 1 _ rfl
    have m2 := kp.2.1 2 _ rfl
    have m3 := kp.2.1 3 _ rfl
    go_wp2_with (fail)
    refine (iCellsIn y W5).mono ?_; rintro e w6 ⟨rfl, b6⟩
    have kp6 := kp.below b6
    clear m0 m1 m2 m3 kp
    have m0 := kp6.2.1 0 _ rfl
    have m1 := kp6.2.1 1 _ rfl
    have m2 := kp6.2.1 2 _ rfl
    have m3 := kp6.2.1 3 _ rfl
    go_wp2_with (fail)
    refine (sCellsIn y w6).mono ?_; rintro e w7 ⟨rfl, b7⟩
    go_wp2_with (fail)
    go_ret
    exact ⟨ret_bool (by simp), bth B5 (bth b6 b7)⟩
end Go.Proofs.Ytdphaejpponmeaa
