/- The great law on fleets as the program runs it: it returns true and changes nothing that was there. -/
import Derived.Test.YtanmkjjclpplkaaDr12
import Derived.Test.YtanmkjjclpplkaaW5h
import Derived.Test.YtanmkjjclpplkaaV5f
import Derived.Deep.Cut
import Derived.Deep.CutBlock
set_option linter.unusedVariables false
set_option linter.unusedSimpArgs false
namespace Go.Proofs.Ytanmkjjclpplkaa
open Go.RowKit
set_option maxHeartbeats 40000000
set_option maxRecDepth 100000
theorem sAreC (A : Option Addr) (c : Nat) (l : List Cr) (w : World) (h : Sl 7 Cr.enc w A l) (hn : l.length ≤ 1048576) (hq : NmS l) :
    Calls Try.prog 31 #[.slice A l.length c] w fun e w' => e = .returned (.bool (crsGood l)) ∧ Below w.heap.size w w' := by
  go_enter Try.func31, Try.ntmps31
  go_wp2_with (fail)
  refine (s5Good A c l w h hn hq).mono ?_; rintro e w1 ⟨rfl, b1⟩
  go_wp2_with (fail)
  go_ret
  exact ⟨rfl, b1⟩
theorem lawFleets (X : Option Addr) (x : Nat) (k : List UInt8) (w : World) (h : Sl 1 encU w X k) (hm : k.length ≤ 9223372036854775807) (_hc : k.length ≤ x) :
    Calls Try.prog 5 #[.slice X k.length x] w fun e w' => e = .returned (.bool true) ∧ Below w.heap.size w w' := by
  by_cases hb : (65536 : Int) < (k.length : Int)
  · go_enter Try.func5, Try.ntmps5
    go_wp2_with (go_at_call 18; refine (rBig _ _ _ _).mono ?_; rintro e w' ⟨rfl, rfl⟩)
    go_ret
    exact ⟨rfl, Below.refl _ _⟩
  · have hn : k.length ≤ 1048576 := by omega
    go_enter Try.func5, Try.ntmps5
    go_wp2_with (go_at_call 18; refine (rBig _ _ _ _).mono ?_; rintro e w' ⟨rfl, rfl⟩)
    refine (drUse X x k w h hn).mono ?_; rintro e w1 ⟨l, A, c, id, mi, rfl, hs1, hN, hl1, hc1, b1⟩
    go_wp2_with (fail)
    refine (iUse A c l id mi w1 hs1 (by omega) hN.nms hc1).mono ?_; rintro e w2 ⟨A2, c2, rfl, F2⟩
    go_wp2_with (fail)
    refine (sUse A c l id mi w2 (hs1.below F2.1) (by omega) hN.nms hc1).mono ?_; rintro e w3 ⟨A3, c3, rfl, F3⟩
    go_wp2_with (fail)
    refine (rFleet A2 A3 c2 c3 (ufL l id mi) w3 (F2.2.1.below F3.1) F3.2.1 (ufL_len (by omega))).mono ?_; rintro e w4 ⟨rfl, b4⟩
    have bF := bth F2.1 (bth F3.1 b4)
    have B4 := bth b1 bF
    have hs1 := hs1.below bF
    have hs2 := F2.2.1.below (bth F3.1 b4)
    clear b1 F2 F3 b4 bF
    go_upto_block 0 with (fail)
    go_cut [] from 3 (fun wx => Below w.heap.size w wx)
    case first =>
      as_aux_lemma =>
        have UE := Lib.hid (fun i (hi : i < (ufL l id mi).length) => uf_each hi)
        generalize ufL l id mi = U at *
        go_wp2_with (fail)
        go_loopw [10] (fun i wr => ∃ m : Nat, m ≤ U.length ∧ i = .int .i64 m ∧ Below w.heap.size w wr ∧ Below w4.heap.size w4 wr) (fun i _ => U.length - (intOf i).toNat)
        case atStart => exact ⟨0, Nat.zero_le _, rfl, B4, Below.refl _ _⟩
        case round =>
          obtain ⟨m, hml, rfl, C, V⟩ := hrel
          by_cases hlt : m < U.length
          · obtain ⟨hl, e1, e2, f1, f2, f3, f4⟩ := UE.out m hlt
            obtain ⟨b, off, rfl⟩ := hs1.addr (by omega)
            obtain ⟨b', off', rfl⟩ := hs2.addr (by omega)
            obtain ⟨hbl, c0, c1, c2, c3, c4, c5, c6⟩ := Cr.get (hs1.below V) hl
            obtain ⟨hbl', d0, d1, d2, d3, d4, d5, d6⟩ := Cr.get (hs2.below V) hlt
            have hA := aft_cell hbl
            have hB := aft_cell hbl'
            have u1 : (0 : Int) ≤ (m : Int) := by omega
            have u2 : (m : Int) < (U.length : Int) := by omega
            have u3 : (m : Int) < (l.length : Int) := by omega
            have wr1 : IntKind.i64.wrap (l[m].fuel - U[m].fuel) = l[m].fuel - U[m].fuel := IntWalk.i64_in _ (by omega)
            by_cases q0 : l[m].fuel - U[m].fuel = 0
            · have y : IntKind.i64.wrap (l[m].fuel - U[m].fuel) = 0 := wr1.trans q0
              by_cases qi : l[m].id = id
              · have qm : mi = 0 := by rw [← e2 qi]; exact q0
                clear wr1 e1 e2 f1 f2 f3 f4 q0
                go_wp2_with (fail)
                refine wp_region_aft (by kernel_rfl) (by kernel_rfl) ?_
                repeat (go_big_quiet_step ((fail)))
                refine wpQuiet_nil ?_
                intro w9 b9
                have C9 := bth C b9
                have V9 := bth V b9
                obtain ⟨-, n0, n1, n2, n3, n4, n5, n6⟩ := Cr.get (hs1.below V9) hl
                clear c0 c1 c2 c3 c4 c5 c6 d0 d1 d2 d3 d4 d5 d6 hA hB y
                go_wp2_with (fail)
                go_roundw
                case rel => exact ⟨m + 1, by omega, by go_num, C9, V9⟩
                case measure => simp [intOf]; omega
              · clear wr1 e1 e2 f1 f2 f3 f4 q0
                go_wp2_with (fail)
                refine wp_region_aft (by kernel_rfl) (by kernel_rfl) ?_
                repeat (go_big_quiet_step ((fail)))
                refine wpQuiet_nil ?_
                intro w9 b9
                have C9 := bth C b9
                have V9 := bth V b9
                obtain ⟨-, n0, n1, n2, n3, n4, n5, n6⟩ := Cr.get (hs1.below V9) hl
                clear c0 c1 c2 c3 c4 c5 c6 d0 d1 d2 d3 d4 d5 d6 hA hB y
                go_wp2_with (fail)
                go_roundw
                case rel => exact ⟨m + 1, by omega, by go_num, C9, V9⟩
                case measure => simp [intOf]; omega
            · have qm : l[m].fuel - U[m].fuel = mi := by omega
              have y : IntKind.i64.wrap (l[m].fuel - U[m].fuel) = mi := wr1.trans qm
              have q1 : ¬ mi = 0 := by omega
              clear wr1 e1 e2 f1 f2 f3 f4 q0 qm
              by_cases qi : l[m].id = id
              · go_wp2_with (fail)
                refine wp_region_aft (by kernel_rfl) (by kernel_rfl) ?_
                repeat (go_big_quiet_step ((fail)))
                refine wpQuiet_nil ?_
                intro w9 b9
                have C9 := bth C b9
                have V9 := bth V b9
                obtain ⟨-, n0, n1, n2, n3, n4, n5, n6⟩ := Cr.get (hs1.below V9) hl
                clear c0 c1 c2 c3 c4 c5 c6 d0 d1 d2 d3 d4 d5 d6 hA hB y
                go_wp2_with (fail)
                go_roundw
                case rel => exact ⟨m + 1, by omega, by go_num, C9, V9⟩
                case measure => simp [intOf]; omega
              · go_wp2_with (fail)
                refine wp_region_aft (by kernel_rfl) (by kernel_rfl) ?_
                repeat (go_big_quiet_step ((fail)))
                refine wpQuiet_nil ?_
                intro w9 b9
                have C9 := bth C b9
                have V9 := bth V b9
                obtain ⟨-, n0, n1, n2, n3, n4, n5, n6⟩ := Cr.get (hs1.below V9) hl
                clear c0 c1 c2 c3 c4 c5 c6 d0 d1 d2 d3 d4 d5 d6 hA hB y
                go_wp2_with (fail)
                go_roundw
                case rel => exact ⟨m + 1, by omega, by go_num, C9, V9⟩
                case measure => simp [intOf]; omega
          · go_wp2_with (fail)
            go_meet
            case rel => exact C
    case rest =>
    clear B4 hs1 hs2 hN
    go_wp2_with (fail)
    refine (drFor X x k _ (h.below hcut) hn).mono ?_; rintro e w5 ⟨l5, A5, c5, mt, dp, rfl, hs5, hN5, hl5, hc5, b5⟩
    have B5 := bth hcut b5
    clear hcut b5
    go_wp2_with (fail)
    refine (iFor A5 c5 l5 mt dp w5 hs5 (by omega) hN5.nms hc5).mono ?_; rintro e w6 ⟨rfl, b6⟩
    go_wp2_with (fail)
    refine (sFor A5 c5 l5 mt dp w6 (hs5.below b6) (by omega) hN5.nms).mono ?_; rintro e w7 ⟨rfl, b7⟩
    have B7 := bth B5 (bth b6 b7)
    have hs7 := hs5.below (bth b6 b7)
    clear B5 b6 b7 hs5
    cases gf : cfB l5 mt dp with
    | false =>
      clear hs7 hN5 gf
      go_wp2_with (fail)
      refine (drFloats X x k _ (h.below B7) hn).mono ?_; rintro e w20 ⟨u, A20, c20, d2, un, rfl, hs20, hN20, hl20, hc20, b20⟩
      have B20 := bth B7 b20
      clear B7 b20
      go_wp2_with (fail)
      refine (iFloats A20 c20 u d2 un w20 hs20 (by omega) hN20.nms hc20).mono ?_; rintro e w21 ⟨A21, c21, rfl, F21⟩
      go_wp2_with (fail)
      refine (sFloats A20 c20 u d2 un w21 (hs20.below F21.1) (by omega) hN20.nms hc20).mono ?_; rintro e w22 ⟨A22, c22, rfl, F22⟩
      go_wp2_with (fail)
      refine (rInts A21 A22 c21 c22 (flL u d2 un) w22 (F21.2.1.below F22.1) F22.2.1 (flL_len (by omega))).mono ?_; rintro e w23 ⟨rfl, b23⟩
      have B23 := bth B20 (bth F21.1 (bth F22.1 b23))
      clear B20 F21 F22 b23 hs20 hN20
      go_wp2_with (fail)
      refine (drShallow X x k _ (h.below B23) hn).mono ?_; rintro e w24 ⟨v, A24, c24, rfl, hs24, hN24, hl24, hc24, b24⟩
      have B24 := bth B23 b24
      clear B23 b24
      go_wp2_with (fail)
      refine (iShal A24 c24 v w24 hs24 (by omega) hN24.nms hc24).mono ?_; rintro e w25 ⟨rfl, b25⟩
      go_wp2_with (fail)
      refine (sShal A24 c24 v w25 (hs24.below b25) (by omega) hN24.nms).mono ?_; rintro e w26 ⟨rfl, b26⟩
      have B26 := bth B24 (bth b25 b26)
      have hs26 := hs24.below (bth b25 b26)
      clear B24 b25 b26 hs24
      go_wp2_with (fail)
      refine (i5Good A24 c24 v w26 hs26 (by omega) hN24.nms hc24).mono ?_; rintro e w27 ⟨rfl, b27⟩
      go_wp2_with (fail)
      refine (sAreC A24 c24 v w27 (hs26.below b27) (by omega) hN24.nms).mono ?_; rintro e w28 ⟨rfl, b28⟩
      go_wp2_with (fail)
      go_ret
      exact ⟨rfl, bth B26 (bth b27 b28)⟩
    | true =>
      obtain ⟨f1, f2, f3, f4⟩ := cf_floats gf
      have M3 := Lib.hid f3
      have M4 := Lib.hid f4
      clear gf f3 f4
      go_wp2_with (fail)
      refine (iFloats A5 c5 l5 dp 0 w7 hs7 (by omega) hN5.nms hc5).mono ?_; rintro e w8 ⟨A8, c8, rfl, F8⟩
      rw [f1]
      go_wp2_with (fail)
      refine (iShal A5 c5 l5 w8 (hs7.below F8.1) (by omega) hN5.nms hc5).mono ?_; rintro e w9 ⟨rfl, b9⟩
      rw [f2]
      go_wp2_with (fail)
      refine (rHas A8 c8 (flL l5 dp 0) (cfV l5 mt dp) w9 (F8.2.1.below b9) (flL_len (by omega)) M3.out).mono ?_; rintro e w10 ⟨rfl, b10⟩
      go_wp2_with (fail)
      refine (rHas A8 c8 (flL l5 dp 0) (shV l5) w10 (F8.2.1.below (bth b9 b10)) (flL_len (by omega)) M4.out).mono ?_; rintro e w11 ⟨rfl, b11⟩
      have B11 := bth B7 (bth F8.1 (bth b9 (bth b10 b11)))
      clear B7 F8 b9 b10 b11 hs7 hN5 f1 f2
      go_wp2_with (fail)
      refine (drFloats X x k _ (h.below B11) hn).mono ?_; rintro e w20 ⟨u, A20, c20, d2, un, rfl, hs20, hN20, hl20, hc20, b20⟩
      have B20 := bth B11 b20
      clear B11 b20
      go_wp2_with (fail)
      refine (iFloats A20 c20 u d2 un w20 hs20 (by omega) hN20.nms hc20).mono ?_; rintro e w21 ⟨A21, c21, rfl, F21⟩
      go_wp2_with (fail)
      refine (sFloats A20 c20 u d2 un w21 (hs20.below F21.1) (by omega) hN20.nms hc20).mono ?_; rintro e w22 ⟨A22, c22, rfl, F22⟩
      go_wp2_with (fail)
      refine (rInts A21 A22 c21 c22 (flL u d2 un) w22 (F21.2.1.below F22.1) F22.2.1 (flL_len (by omega))).mono ?_; rintro e w23 ⟨rfl, b23⟩
      have B23 := bth B20 (bth F21.1 (bth F22.1 b23))
      clear B20 F21 F22 b23 hs20 hN20
      go_wp2_with (fail)
      refine (drShallow X x k _ (h.below B23) hn).mono ?_; rintro e w24 ⟨v, A24, c24, rfl, hs24, hN24, hl24, hc24, b24⟩
      have B24 := bth B23 b24
      clear B23 b24
      go_wp2_with (fail)
      refine (iShal A24 c24 v w24 hs24 (by omega) hN24.nms hc24).mono ?_; rintro e w25 ⟨rfl, b25⟩
      go_wp2_with (fail)
      refine (sShal A24 c24 v w25 (hs24.below b25) (by omega) hN24.nms).mono ?_; rintro e w26 ⟨rfl, b26⟩
      have B26 := bth B24 (bth b25 b26)
      have hs26 := hs24.below (bth b25 b26)
      clear B24 b25 b26 hs24
      go_wp2_with (fail)
      refine (i5Good A24 c24 v w26 hs26 (by omega) hN24.nms hc24).mono ?_; rintro e w27 ⟨rfl, b27⟩
      go_wp2_with (fail)
      refine (sAreC A24 c24 v w27 (hs26.below b27) (by omega) hN24.nms).mono ?_; rintro e w28 ⟨rfl, b28⟩
      go_wp2_with (fail)
      go_ret
      exact ⟨rfl, bth B26 (bth b27 b28)⟩
end Go.Proofs.Ytanmkjjclpplkaa
