/- The great law on planned lines as the program runs it: it returns true and changes nothing that was there. -/
import Derived.Test.YtdphaejpponmeaaDr10
import Derived.Test.YtdphaejpponmeaaV9
import Derived.Test.YtdphaejpponmeaaP9e
import Derived.Test.YtdphaejpponmeaaW9l
import Derived.Deep.Cut
import Derived.Deep.CutBlock
set_option linter.unusedVariables false
set_option linter.unusedSimpArgs false
namespace Go.Proofs.Ytdphaejpponmeaa
open Go.RowKit
set_option maxHeartbeats 40000000
set_option maxRecDepth 100000
theorem lawPlans (X : Option Addr) (x : Nat) (k : List UInt8) (w : World) (h : Sl 1 encU w X k) (hm : k.length ≤ 9223372036854775807) (_hc : k.length ≤ x) :
    Calls Try.prog 13 #[.slice X k.length x] w fun e w' => e = .returned (.bool true) ∧ Below w.heap.size w w' := by
  by_cases hb : (65536 : Int) < (k.length : Int)
  · go_enter Try.func13, Try.ntmps13
    go_wp2_with (go_at_call 47; refine (vBig _ _ _ _).mono ?_; rintro e w' ⟨rfl, rfl⟩)
    go_ret
    exact ⟨rfl, Below.refl _ _⟩
  · have hn : k.length ≤ 1048576 := by omega
    go_enter Try.func13, Try.ntmps13
    go_wp2_with (go_at_call 47; refine (vBig _ _ _ _).mono ?_; rintro e w' ⟨rfl, rfl⟩)
    refine (drPlan X x k w h hn).mono ?_; rintro e w1 ⟨b, s, rfl, b1⟩
    go_upto_region 4 with (fail)
    generalize hW : World.alloc w1 _ = W2
    obtain ⟨b2, kp, -⟩ := alloc_facts hW
    have B2 := bth b1 b2
    clear hW b2 b1
    generalize w1.heap.size = g2 at *
    have m0 := kp.2.1 0 _ rfl
    have m1 := kp.2.1 1 _ rfl
    have m2 := kp.2.1 2 _ rfl
    have m3 := kp.2.1 3 _ rfl
    go_wp2_with (fail)
    refine (iPlan b s W2).mono ?_; rintro e w3 ⟨A3, c3, rfl, F3⟩
    have kp3 := kp.below F3.1
    have B3 := bth B2 F3.1
    have S3 := F3.2.1
    clear m0 m1 m2 m3 kp B2 F3
    have m0 := kp3.2.1 0 _ rfl
    have m1 := kp3.2.1 1 _ rfl
    have m2 := kp3.2.1 2 _ rfl
    have m3 := kp3.2.1 3 _ rfl
    go_wp2_with (fail)
    refine (sPlan b s w3).mono ?_; rintro e w4 ⟨A4, c4, rfl, F4⟩
    have kp4 := kp3.below F4.1
    have B4 := bth B3 F4.1
    have S4 := S3.below F4.1
    have T4 := F4.2.1
    clear m0 m1 m2 m3 kp3 B3 S3 F4
    go_wp2_with (fail)
    refine (vLines A3 A4 c3 c4 (plL b s) w4 S4 T4 plL_len).mono ?_; rintro e w5 ⟨rfl, b5⟩
    have kp5 := kp4.below b5
    have B5 := bth B4 b5
    have S5 := S4.below b5
    clear kp4 B4 S4 T4 b5
    go_upto_if 62 with (fail)
    go_cut [] from 3 (fun wx => Below w.heap.size w wx)
    case first =>
      as_aux_lemma =>
        cases g2 : plB b s with
        | false =>
          go_wp2_with (fail)
          go_meet
          case rel => exact B5
        | true =>
          obtain ⟨n, n1, n8, e, gl, s1, s2, y1, y2, y3, z1, z2, z3, z4⟩ := pl_facts g2
          have PK := Lib.hid (plK_len b s n)
          rw [e] at S5 ⊢
          rw [PK.out]
          clear e g2
          have h0 : 0 < (plK b s n).length := by rw [PK.out]; omega
          have hl : n - 1 < (plK b s n).length := by rw [PK.out]; omega
          have q0 := plK_y (b := b) (s := s) h0
          have ql := plK_y (b := b) (s := s) hl
          have s0 := seen_mono (b := b) (s := s) (by omega) (n - 1)
          have sq := seen_eq b s (n - 1)
          rw [show ((n - 1 : Nat) : Int) = (n : Int) - 1 by omega] at sq
          have s00 : seen b s 0 = b.south := rfl
          rw [s00] at q0
          have HP0 := Lib.hid (show ((n : Int) - 1) * 2 * s = seen b s (n - 1) - b.south from sq)
          obtain ⟨bp, off, rfl⟩ := S5.addr (by omega)
          obtain ⟨hbl, c0, c1, c2, c3', c4'⟩ := Ln.get S5 h0
          obtain ⟨_, d0, d1, d2, d3, d4⟩ := Ln.get S5 hl
          rw [Nat.zero_mul, Nat.add_zero] at c0 c1
          have hA := aft_cell hbl
          have hB := aft_cell kp5.1
          have m1 := kp5.2.1 1 _ rfl
          have m3 := kp5.2.1 3 _ rfl
          have AR := Lib.hid (show ∀ (y : Aft w5), Calls Try.prog 21 #[.slice (some ⟨bp, off, none⟩) n c3] y.val fun e w' => e = .returned (.bool true) ∧ Below y.val.heap.size y.val w' from fun y => by
            have := i9Good (some ⟨bp, off, none⟩) c3 (plK b s n) y.val (S5.aft y) (by rw [PK.out]; omega)
            rw [gl, PK.out] at this
            exact this)
          have Y0 := Lib.hid q0
          have YL := Lib.hid ql
          have i1 : ((n : Int) == 0) = false := by rw [beq_eq_false_iff_ne]; omega
          have i2 : ¬ (n : Int) = 0 := by omega
          have v1 : IntKind.i64.wrap ((plK b s n)[0].y - s) = (plK b s n)[0].y - s := IntWalk.i64_in _ (by omega)
          have v2 : decide (b.south < (plK b s n)[0].y - s) = false := by simp; omega
          have v3 : ¬ b.south < (plK b s n)[0].y - s := by omega
          have v4 : IntKind.i64.wrap ((plK b s n)[n - 1].y + s) = (plK b s n)[n - 1].y + s := IntWalk.i64_in _ (by omega)
          have v5 : decide ((plK b s n)[n - 1].y + s < b.north) = false := by simp; omega
          have v6 : ¬ (plK b s n)[n - 1].y + s < b.north := by omega
          have t2 : (0 : Int) ≤ (n : Int) - 1 := by omega
          have t3 : (n : Int) - 1 < (n : Int) := by omega
          have t4 : ((n : Int) - 1).toNat = n - 1 := by omega
          have t5 : (1 : Int) ≤ (n : Int) := by omega
          have t6 : 0 < n := by omega
          have t7 : IntKind.i64.wrap ((n : Int) - 1) = (n : Int) - 1 := IntWalk.i64_in _ (by omega)
          have t8 : (0 : Int) < (n : Int) := by omega
          clear q0 ql c0 c2 c3' c4' d0 d2 d3 d4 sq s00 gl
          go_wp2_with (fail)
          by_cases h1 : 1 < n
          · have h1' : (1 : Int) < (n : Int) := by omega
            have z5 := z3 h1
            have v7 : IntKind.i64.wrap (((n : Int) - 1) * 2) = ((n : Int) - 1) * 2 := IntWalk.i64_in _ (by omega)
            have v8 : IntKind.i64.wrap (((n : Int) - 1) * 2 * s) = ((n : Int) - 1) * 2 * s := IntWalk.i64_in _ (by have := HP0.out; omega)
            have v9 : IntKind.i64.wrap (b.north - b.south) = b.north - b.south := IntWalk.i64_in _ (by omega)
            have v10 : ¬ b.north - b.south ≤ ((n : Int) - 1) * 2 * s := by omega
            have v11 : decide (b.north - b.south ≤ ((n : Int) - 1) * 2 * s) = false := decide_eq_false v10
            refine wp_region_aft (by kernel_rfl) (by kernel_rfl) ?_
            repeat (go_big_quiet_step ((go_at_call 21; exact Aft.calls _ (AR.out _))))
            refine wpQuiet_nil ?_
            intro w9 b9
            have B9 := bth B5 b9
            have S9 := S5.below b9
            clear B5 S5 kp5 b9 hA hB hbl c1 d1 m1 m3 AR v1 v2 v3 v4 v5 v6
            go_wp2_with (fail)
            go_loopw [10] (fun i wr => ∃ m : Nat, 1 ≤ m ∧ m ≤ n ∧ i = .int .i64 m ∧ Below w.heap.size w wr ∧ Below w9.heap.size w9 wr) (fun i _ => n - (intOf i).toNat)
            case atStart => exact ⟨1, by omega, by omega, rfl, B9, Below.refl _ _⟩
            case round =>
              obtain ⟨m, hm1, hml, rfl, C, V⟩ := hrel
              by_cases hlt : m < n
              · have a1 : m < (plK b s n).length := by rw [PK.out]; exact hlt
                have a2 : m - 1 < (plK b s n).length := by rw [PK.out]; omega
                have q1 := plK_y (b := b) (s := s) a1
                have q2 := plK_y (b := b) (s := s) a2
                have q3 := z4 m hm1 hlt
                have q4 : seen b s m = seen b s (m - 1) + 2 * s := by
                  obtain ⟨j, rfl⟩ : ∃ j, m = j + 1 := ⟨m - 1, by omega⟩
                  rfl
                have q5 := seen_mono (b := b) (s := s) (by omega) (m - 1)
                have r1 : (plK b s n)[m].y - (plK b s n)[m - 1].y ≤ 2 * s := by omega
                have r2 : IntKind.i64.wrap ((plK b s n)[m].y - (plK b s n)[m - 1].y) = (plK b s n)[m].y - (plK b s n)[m - 1].y := IntWalk.i64_in _ (by omega)
                have r3 : IntKind.i64.wrap (2 * s) = 2 * s := IntWalk.i64_in _ (by omega)
                have r4 : decide (2 * s < (plK b s n)[m].y - (plK b s n)[m - 1].y) = false := by simp; omega
                have r5 : ¬ 2 * s < (plK b s n)[m].y - (plK b s n)[m - 1].y := by omega
                obtain ⟨hbl, c0, c1, c2, c3', c4'⟩ := Ln.get (S9.below V) a1
                obtain ⟨_, d0, d1, d2, d3, d4⟩ := Ln.get (S9.below V) a2
                have hA := aft_cell hbl
                have u1 : (0 : Int) ≤ (m : Int) := by omega
                have u2 : (m : Int) < (n : Int) := by omega
                have p2 : (0 : Int) ≤ (m : Int) - 1 := by omega
                have p3 : (m : Int) - 1 < (n : Int) := by omega
                have p4 : ((m : Int) - 1).toNat = m - 1 := by omega
                have p5 : (1 : Int) ≤ (m : Int) := by omega
                have p6 : 0 < m := by omega
                have p7 : IntKind.i64.wrap ((m : Int) - 1) = (m : Int) - 1 := IntWalk.i64_in _ (by omega)
                clear q1 q2 q4 c0 c2 c3' c4' d0 d2 d3 d4
                go_wp2_with (fail)
                refine wp_region_aft (by kernel_rfl) (by kernel_rfl) ?_
                repeat (go_big_quiet_step ((fail)))
                refine wpQuiet_nil ?_
                intro w9 b9
                have C9 := bth C b9
                have V9 := bth V b9
                go_wp2_with (fail)
                go_roundw
                case rel => exact ⟨m + 1, by omega, by omega, by go_num, C9, V9⟩
                case measure => simp [intOf]; omega
              · go_wp2_with (fail)
                go_meet
                case rel => exact C
          · have h1' : ¬ (1 : Int) < (n : Int) := by omega
            have h2' : decide (1 < n) = false := by simp; omega
            refine wp_region_aft (by kernel_rfl) (by kernel_rfl) ?_
            repeat (go_big_quiet_step ((go_at_call 21; exact Aft.calls _ (AR.out _))))
            refine wpQuiet_nil ?_
            intro w9 b9
            have B9 := bth B5 b9
            clear B5 S5 kp5 b9 hA hB hbl c1 d1 m1 m3 AR v1 v2 v3 v4 v5 v6
            go_wp2_with (fail)
            go_loopw [10] (fun i wr => ∃ m : Nat, 1 ≤ m ∧ m ≤ n ∧ i = .int .i64 m ∧ Below w.heap.size w wr) (fun i _ => n - (intOf i).toNat)
            case atStart => exact ⟨1, by omega, by omega, rfl, B9⟩
            case round =>
              obtain ⟨m, hm1, hml, rfl, C⟩ := hrel
              have hlt : ¬ m < n := by omega
              go_wp2_with (fail)
              go_meet
              case rel => exact C
    case rest =>
    clear B5 S5 kp5
    go_wp2_with (fail)
    refine (drSailed X x k _ (h.below hcut) hn).mono ?_; rintro e w1 ⟨l, A1, c1, rfl, hs1, hl1, hc1, b1⟩
    have B1 := bth hcut b1
    clear hcut b1
    go_wp2_with (fail)
    refine (iSailed A1 c1 l w1 hs1 (by omega) hc1).mono ?_; rintro e w2 ⟨A2, c2, rfl, F2⟩
    go_wp2_with (fail)
    refine (sSailed A1 c1 l w2 (hs1.below F2.1) (by omega) hc1).mono ?_; rintro e w3 ⟨A3, c3, rfl, F3⟩
    have B3 := bth B1 (bth F2.1 F3.1)
    have hs3 := hs1.below (bth F2.1 F3.1)
    have S3 := F2.2.1.below F3.1
    have T3 := F3.2.1
    clear F2 F3 hs1 B1
    go_upto_region 20 with (fail)
    go_cut [13, 15, 163] from 34 (fun _ _ r wx => r = .bool false ∧ Below w3.heap.size w3 wx)
    case first =>
      as_aux_lemma =>
        cases g2 : toOk l with
        | false =>
          go_wp2_with (fail)
          refine (vInts A2 A3 c2 c3 (soL l) w3 S3 T3 (soL_len (by omega))).mono ?_; rintro e w4 ⟨rfl, b4⟩
          go_wp2_with (fail)
          go_meet
          case rel => exact ⟨rfl, b4⟩
        | true =>
          have e1 : ((soL l).length : Int) = (l.length : Int) := by rw [so_len g2]
          have e2 : (((soL l).length : Int) == (l.length : Int)) = true := by rw [e1]; simp
          go_wp2_with (fail)
          refine (vInts A2 A3 c2 c3 (soL l) w3 S3 T3 (soL_len (by omega))).mono ?_; rintro e w4 ⟨rfl, b4⟩
          go_wp2_with (fail)
          go_meet
          case rel => exact ⟨rfl, b4⟩
    case rest =>
    obtain ⟨rfl, hc4⟩ := hcut
    have B4 := bth B3 hc4
    have hs4 := hs3.below hc4
    clear B3 hs3 S3 T3 hc4
    go_wp2_with (fail)
    refine (iTurns A1 c1 l wc hs4 (by omega)).mono ?_; rintro e w5 ⟨rfl, b5⟩
    go_wp2_with (fail)
    refine (sTurns A1 c1 l w5 (hs4.below b5) (by omega)).mono ?_; rintro e w6 ⟨rfl, b6⟩
    have B6 := bth B4 (bth b5 b6)
    clear B4 b5 b6 hs4
    have tp := to_pos (l := l)
    have tp2 : ¬ toV l < 0 := by omega
    have tp3 := decide_eq_false tp2
    go_upto_region 24 with (fail)
    go_cut [17, 19, 188] from 34 (fun _ _ r wx => r = .bool false ∧ wx = w6)
    case first =>
      as_aux_lemma =>
        cases g2 : toOk l with
        | false =>
          go_wp2_with (fail)
          go_meet
          case rel => exact ⟨rfl, rfl⟩
        | true =>
          go_wp2_with (fail)
          go_meet
          case rel => exact ⟨rfl, rfl⟩
    case rest =>
    obtain ⟨rfl, rfl⟩ := hcut
    go_wp2_with (fail)
    refine (drOver X x k _ (h.below B6) hn).mono ?_; rintro e w7 ⟨y, A4, c4, za, zc, rfl, hs7, hl4, hc4, b7⟩
    go_wp2_with (fail)
    refine (iOver A4 c4 y za zc w7 hs7 (by omega)).mono ?_; rintro e w8 ⟨rfl, b8⟩
    go_wp2_with (fail)
    refine (iOver A4 c4 y zc za w8 (hs7.below b8) (by omega)).mono ?_; rintro e w9 ⟨rfl, b9⟩; rw [(ov_sym y za zc).1, (ov_sym y za zc).2]
    go_wp2_with (fail)
    refine (sOver A4 c4 y za zc w9 (hs7.below (bth b8 b9)) (by omega)).mono ?_; rintro e w10 ⟨rfl, b10⟩
    have B10 := bth B6 (bth b7 (bth (bth b8 b9) b10))
    clear B6 b7 b8 b9 b10 hs7
    go_wp2_with (fail)
    refine (drLengths X x k _ (h.below B10) hn).mono ?_; rintro e w11 ⟨z, A5, c5, rfl, hs11, hl5, hc5, b11⟩
    go_wp2_with (fail)
    refine (iLengths A5 c5 z w11 hs11 (by omega)).mono ?_; rintro e w12 ⟨rfl, b12⟩
    go_wp2_with (fail)
    refine (sLengths A5 c5 z w12 (hs11.below b12) (by omega)).mono ?_; rintro e w13 ⟨rfl, b13⟩
    go_wp2_with (fail)
    go_ret
    exact ⟨ret_bool (by simp), bth B10 (bth b11 (bth b12 b13))⟩
end Go.Proofs.Ytdphaejpponmeaa
