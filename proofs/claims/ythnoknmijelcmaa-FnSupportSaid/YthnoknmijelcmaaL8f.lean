/- The great law on support as the program runs it: it returns true and changes nothing that was there. -/
import Derived.Test.YthnoknmijelcmaaDr8
import Derived.Test.YthnoknmijelcmaaP8d
import Derived.Test.YthnoknmijelcmaaV8
import Derived.Test.YthnoknmijelcmaaW8e
import Derived.Test.YthnoknmijelcmaaW8f
import Derived.Test.YthnoknmijelcmaaW8h
import Derived.Test.YthnoknmijelcmaaW8i
import Derived.Deep.Cut
import Derived.Deep.CutBlock
set_option linter.unusedVariables false
set_option linter.unusedSimpArgs false
namespace Go.Proofs.Ythnoknmijelcmaa
open Go.RowKit
set_option maxHeartbeats 40000000
set_option maxRecDepth 100000
theorem mul_abs {a b A B : Int} (h1 : -A ≤ a) (h2 : a ≤ A) (h3 : 0 ≤ b) (h4 : b ≤ B) (hA : 0 ≤ A) : -(A * B) ≤ a * b ∧ a * b ≤ A * B := by
  have k1 := Int.mul_le_mul_of_nonneg_right h2 h3
  have k2 := Int.mul_le_mul_of_nonneg_right h1 h3
  have k3 := Int.mul_le_mul_of_nonneg_left h4 hA
  rw [Int.neg_mul] at k2
  omega
theorem lawSupport (X : Option Addr) (x : Nat) (k : List UInt8) (w : World) (h : Sl 1 encU w X k) (hm : k.length ≤ 9223372036854775807) (_hc : k.length ≤ x) :
    Calls Try.prog 11 #[.slice X k.length x] w fun e w' => e = .returned (.bool true) ∧ Below w.heap.size w w' := by
  by_cases hb : (65536 : Int) < (k.length : Int)
  · go_enter Try.func11, Try.ntmps11
    go_wp2_with (go_at_call 36; refine (vBig _ _ _ _).mono ?_; rintro e w' ⟨rfl, rfl⟩)
    go_ret
    exact ⟨rfl, Below.refl _ _⟩
  · have hn : k.length ≤ 1048576 := by omega
    go_enter Try.func11, Try.ntmps11
    go_wp2_with (go_at_call 36; refine (vBig _ _ _ _).mono ?_; rintro e w' ⟨rfl, rfl⟩)
    refine (drSupp X x k w h hn).mono ?_; rintro e w1 ⟨l, A, c, px, py, r, rfl, hs1, hl1, hc1, b1⟩
    go_upto_region 4 with (fail)
    generalize hW : World.alloc w1 _ = W2
    obtain ⟨b2, kp, -⟩ := alloc_facts hW
    have B2 := bth b1 b2
    have hs2 := hs1.below b2
    clear hW b1 b2 hs1
    generalize w1.heap.size = g at *
    have m0 := kp.2.1 0 _ rfl
    have m1 := kp.2.1 1 _ rfl
    go_wp2_with (fail)
    refine (iSupp A c l ⟨px, py⟩ r W2 hs2 (by omega)).mono ?_; rintro e w3 ⟨rfl, b3⟩
    have kp3 := kp.below b3
    have hs3 := hs2.below b3
    have B3 := bth B2 b3
    clear m0 m1 kp hs2 B2 b3
    have m0 := kp3.2.1 0 _ rfl
    have m1 := kp3.2.1 1 _ rfl
    go_wp2_with (fail)
    refine (sSupp A c l ⟨px, py⟩ r w3 hs3 (by omega)).mono ?_; rintro e w4 ⟨rfl, b4⟩
    have kp4 := kp3.below b4
    have hs4 := hs3.below b4
    have B4 := bth B3 b4
    clear m0 m1 kp3 hs3 B3 b4
    go_upto_block 0 with (fail)
    go_cut [] from 3 (fun wx => Below w.heap.size w wx)
    case first =>
      as_aux_lemma =>
        cases gs : suOk l px py r with
        | false =>
          go_wp2_with (fail)
          go_loopw [10] (fun i wr => i = .int .i64 0 ∧ Below w.heap.size w wr) (fun i _ => (intOf i).toNat)
          case atStart => exact ⟨rfl, B4⟩
          case round =>
            obtain ⟨rfl, hB⟩ := hrel
            go_wp2_with (fail)
            all_goals
              go_meet
              case rel => exact hB
        | true =>
          have gsu := Lib.hid gs
          clear gs
          go_wp2_with (fail)
          go_loopw [10] (fun i wr => ∃ m : Nat, m ≤ l.length ∧ i = .int .i64 m ∧ Below w.heap.size w wr ∧ Below w4.heap.size w4 wr) (fun i _ => l.length - (intOf i).toNat)
          case atStart => exact ⟨0, Nat.zero_le _, rfl, B4, Below.refl _ _⟩
          case round =>
            obtain ⟨m, hml, rfl, C, V⟩ := hrel
            by_cases hlt : m < l.length
            · obtain ⟨s1, s2, r0, r1, t1, t2, t3, t4, t5⟩ := su_each gsu.out hlt
              have S1 := Lib.hid s1
              have S2 := Lib.hid s2
              obtain ⟨b, off, rfl⟩ := hs4.addr (by omega)
              obtain ⟨hbl, c0, c1, c2, c3, c4⟩ := Sd.get (hs4.below V) hlt
              have kp5 := kp4.below V
              have m0 := kp5.2.1 0 _ rfl
              have m1 := kp5.2.1 1 _ rfl
              have hA := aft_cell hbl
              have hB := aft_cell kp5.1
              have u1 : (0 : Int) ≤ (m : Int) := by omega
              have u2 : (m : Int) < (l.length : Int) := by omega
              clear s1 s2
              go_wp2_with (fail)
              refine wp_region_aft (by kernel_rfl) (by kernel_rfl) ?_
              repeat (go_big_quiet_step ((go_at_call 38; exact Aft.calls _ (iSqB _ _ _ _ _ S1.out S2.out))))
              refine wpQuiet_nil ?_
              intro w9 b9
              have C9 := bth C b9
              have V9 := bth V b9
              obtain ⟨hbl9, d0, d1, d2, d3, d4⟩ := Sd.get (hs4.below V9) hlt
              clear c0 c1 c2 c3 c4 m0 m1 hA hB hbl kp5 C V b9
              have hA := aft_cell hbl9
              have rr := mul_abs (a := r) (b := r) (A := 1000) (B := 1000) (by omega) r1 r0 r1 (by omega)
              have wr1 : IntKind.i64.wrap (r * r) = r * r := IntWalk.i64_in _ (by omega)
              have wr2 : IntKind.i64.wrap (l[m].depth - l[m].doubt) = l[m].depth - l[m].doubt := IntWalk.i64_in _ (by omega)
              by_cases hle : sqr l[m].x l[m].y px py ≤ r * r
              · have hv := t5 hle
                have q1 := decide_eq_true hle
                have q2 : ¬ (l[m].depth - l[m].doubt < suV l px py r) := by omega
                have q3 := decide_eq_false q2
                clear t5 rr
                go_wp2_with (fail)
                refine wp_region_aft (by kernel_rfl) (by kernel_rfl) ?_
                repeat (go_big_quiet_step ((fail)))
                refine wpQuiet_nil ?_
                intro w9 b9
                have C10 := bth C9 b9
                have V10 := bth V9 b9
                go_wp2_with (fail)
                go_roundw
                case rel => exact ⟨m + 1, by omega, by go_num, C10, V10⟩
                case measure => simp [intOf]; omega
              · have q1 := decide_eq_false hle
                clear t5 rr
                go_wp2_with (fail)
                refine wp_region_aft (by kernel_rfl) (by kernel_rfl) ?_
                repeat (go_big_quiet_step ((fail)))
                refine wpQuiet_nil ?_
                intro w9 b9
                have C10 := bth C9 b9
                have V10 := bth V9 b9
                go_wp2_with (fail)
                go_roundw
                case rel => exact ⟨m + 1, by omega, by go_num, C10, V10⟩
                case measure => simp [intOf]; omega
            · go_wp2_with (fail)
              go_meet
              case rel => exact C
    case rest =>
    clear B4 hs4 kp4
    go_wp2_with (fail)
    refine (drShoal X x k _ (h.below hcut) hn).mono ?_; rintro e w1 ⟨y, A1, c1, bx, rfl, hs1, hl2, hc2, b1⟩
    have B1 := bth hcut b1
    clear hcut b1
    go_upto_region 15 with (fail)
    generalize hW : World.alloc w1 _ = W2
    obtain ⟨b2, kp, -⟩ := alloc_facts hW
    have B2 := bth B1 b2
    have hs2 := hs1.below b2
    clear hW b2 hs1 B1
    generalize w1.heap.size = g2 at *
    have m0 := kp.2.1 0 _ rfl
    have m1 := kp.2.1 1 _ rfl
    have m2 := kp.2.1 2 _ rfl
    have m3 := kp.2.1 3 _ rfl
    go_wp2_with (fail)
    refine (iShoalest A1 c1 y bx W2 hs2 (by omega)).mono ?_; rintro e w3 ⟨rfl, b3⟩
    have kp3 := kp.below b3
    have hs3 := hs2.below b3
    have B3 := bth B2 b3
    clear m0 m1 m2 m3 kp hs2 B2 b3
    have m0 := kp3.2.1 0 _ rfl
    have m1 := kp3.2.1 1 _ rfl
    have m2 := kp3.2.1 2 _ rfl
    have m3 := kp3.2.1 3 _ rfl
    go_wp2_with (fail)
    refine (sShoalest A1 c1 y bx w3 hs3 (by omega)).mono ?_; rintro e w4 ⟨rfl, b4⟩
    have B4 := bth B3 b4
    clear m0 m1 m2 m3 kp3 hs3 B3 b4
    go_wp2_with (fail)
    refine (drMean X x k _ (h.below B4) hn).mono ?_; rintro e w5 ⟨u, A2, c2, rfl, hs5, hl3, hc3, b5⟩
    have B5 := bth B4 b5
    clear B4 b5
    go_wp2_with (fail)
    refine (iMean A2 c2 u w5 hs5 (by omega)).mono ?_; rintro e w6 ⟨rfl, b6⟩
    go_wp2_with (fail)
    refine (sMean A2 c2 u w6 (hs5.below b6) (by omega)).mono ?_; rintro e w7 ⟨rfl, b7⟩
    have B7 := bth B5 (bth b6 b7)
    clear B5 b6 b7 hs5
    go_wp2_with (fail)
    refine (drLower X x k _ (h.below B7) hn).mono ?_; rintro e w8 ⟨z, A3, c3, by', du, rfl, hs8, hl4, hc4, b8⟩
    have B8 := bth B7 b8
    clear B7 b8
    go_wp2_with (fail)
    refine (iLow A3 c3 z by' du w8 hs8 (by omega) hc4).mono ?_; rintro e w9 ⟨A4, c4, rfl, F9⟩
    go_wp2_with (fail)
    refine (sLow A3 c3 z by' du w9 (hs8.below F9.1) (by omega) hc4).mono ?_; rintro e w10 ⟨A5, c5, rfl, F10⟩
    go_wp2_with (fail)
    refine (vSoundings A4 A5 c4 c5 (loL z by' du) w10 (F9.2.1.below F10.1) F10.2.1 loL_len).mono ?_; rintro e w11 ⟨rfl, b11⟩
    have B11 := bth B8 (bth F9.1 (bth F10.1 b11))
    have Z11 := hs8.below (bth F9.1 (bth F10.1 b11))
    have L11 := F9.2.1.below (bth F10.1 b11)
    clear B8 F9 F10 b11 hs8
    cases gl : loB z by' du with
    | false =>
      go_wp2_with (fail)
      go_ret
      exact ⟨rfl, B11⟩
    | true =>
      by_cases hz : 0 < z.length
      · obtain ⟨o1, o2, o3, n1, n2, n3, n4, n5, n6, n7, n8, n9, n10⟩ := lower_mean gl hz
        have hzi : (0 : Int) < (z.length : Int) := by omega
        have p1 := mul_abs (A := 240000) (B := 12) (show -240000 ≤ mdN (loL z by' du) by omega) n8 (show 0 ≤ mdD z by omega) n2 (by omega)
        have p2 := mul_abs (A := 30000) (B := 12) n9 n10 (show 0 ≤ mdD z by omega) n2 (by omega)
        have p3 := mul_abs (a := mdN z + by' * mdD z) (b := mdD (loL z by' du)) (A := 700000) (B := 12) (by omega) (by omega) (by omega) n4 (by omega)
        have wr1 : IntKind.i64.wrap (mdN (loL z by' du) * mdD z) = mdN (loL z by' du) * mdD z := IntWalk.i64_in _ (by omega)
        have wr2 : IntKind.i64.wrap (by' * mdD z) = by' * mdD z := IntWalk.i64_in _ (by omega)
        have wr3 : IntKind.i64.wrap (mdN z + by' * mdD z) = mdN z + by' * mdD z := IntWalk.i64_in _ (by omega)
        have wr4 : IntKind.i64.wrap ((mdN z + by' * mdD z) * mdD (loL z by' du)) = (mdN z + by' * mdD z) * mdD (loL z by' du) := IntWalk.i64_in _ (by omega)
        have O3 := Lib.hid o3
        clear o3 p1 p2 p3
        go_wp2_with (fail)
        refine (iMean A3 c3 z w11 Z11 (by omega)).mono ?_; rintro e w12 ⟨rfl, b12⟩; rw [o1]
        go_wp2_with (fail)
        refine (iMean A4 c4 (loL z by' du) w12 (L11.below b12) loL_len).mono ?_; rintro e w13 ⟨rfl, b13⟩; rw [o2]
        have B13 := bth B11 (bth b12 b13)
        clear B11 b12 b13 Z11 L11
        go_wp2_with (fail)
        go_ret
        exact ⟨ret_bool (decide_eq_true O3.out), B13⟩
      · have hzi : ¬ (0 : Int) < (z.length : Int) := by omega
        go_wp2_with (fail)
        go_ret
        exact ⟨rfl, B11⟩
end Go.Proofs.Ythnoknmijelcmaa
