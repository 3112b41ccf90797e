/- The great law on soundings and their texts as the program runs it: it returns true and changes nothing that was there, where the library's table, its greatest length and its errors read as its initialisers lay them. -/
import Derived.Test.YtllionelhbjadaaDoorV8s
import Derived.Test.YtllionelhbjadaaDoorP8s
import Derived.Test.YtllionelhbjadaaDoorU8d
import Derived.Deep.Cut
import Derived.Deep.CutBlock
set_option linter.unusedVariables false
set_option linter.unusedSimpArgs false
namespace Go.Proofs.YtllionelhbjadaaDoor
open Go.RowKit
set_option maxHeartbeats 80000000
set_option maxRecDepth 100000
theorem stx_size (v : Sd) : (stx v).size ≤ 1048576 := by
  unfold stx
  by_cases h : sdOk v = true
  · rw [if_pos h]; have := tx8_len h; omega
  · rw [if_neg h]; decide
theorem pr_text {s : ByteArray} {y : Sd} (h : PR s y true) : sdOk y = true ∧ stx y = s := by
  rcases h with ⟨-, a, b⟩ | ⟨h, -⟩
  · exact ⟨a, by unfold stx; rw [if_pos a]; exact b⟩
  · cases h
theorem aa_pairs' {l : List Sd} (h : aaOk l = true) {i j : Nat} (e : j = i + 1) (hj : j < l.length) : agOk l (l[i]'(by omega)).id l[j].id = true ∧ agB l (l[i]'(by omega)).id l[j].id = true ∧ decide (aaH l < aaL l) = false := by
  subst e; obtain ⟨a, b, c⟩ := aa_pairs h hj; exact ⟨a, b, decide_eq_false c⟩
theorem ag_aft {A : Option Addr} {c : Nat} {l : List Sd} {a b : Int} {w : World} (h : Sl 5 Sd.enc w A l) (hn : l.length ≤ 1048576) (p1 : agOk l a b = true) (p2 : agB l a b = true) (y : Aft w) :
    Calls Tryd.prog 21 #[.slice A l.length c, .int .i64 a, .int .i64 b] y.val fun e w' => e = .returned (.tuple #[.bool true, .bool true]) ∧ Below y.val.heap.size y.val w' := by
  have := iAgree A c l a b y.val (h.aft y) hn
  rw [p1, p2] at this
  exact this
theorem lawSoundings (X : Option Addr) (x : Nat) (k : List UInt8) (w : World) (h : Sl 1 encU w X k) (hm : k.length ≤ 9223372036854775807) (_hc : k.length ≤ x) (R : RdOk w) :
    Calls Tryd.prog 5 #[.slice X k.length x] w fun e w' => e = .returned (.bool true) ∧ Below w.heap.size w w' := by
  by_cases hb : (65536 : Int) < (k.length : Int)
  · go_enter Tryd.func5, Tryd.ntmps5
    go_wp2_with (go_at_call 12; refine (vBig _ _ _ _).mono ?_; rintro e w' ⟨rfl, rfl⟩)
    go_ret
    exact ⟨rfl, Below.refl _ _⟩
  · have hn : k.length ≤ 1048576 := by omega
    go_enter Tryd.func5, Tryd.ntmps5
    go_wp2_with (go_at_call 12; refine (vBig _ _ _ _).mono ?_; rintro e w' ⟨rfl, rfl⟩)
    refine (drSdText X x k w h hn).mono ?_; rintro e w1 ⟨v, rfl, B⟩
    have R := R.below B
    have hz := stx_size v
    go_upto_region 4 with (fail)
    generalize hW : World.alloc w1 _ = W2
    have J : Bk W2 w1.heap.size (Sd.enc v) := by rw [← hW]; exact Bk.new w1 (Sd.enc v) _
    have c2 : Below w1.heap.size w1 W2 := by rw [← hW]; exact below_alloc _ _
    have B := bth B c2
    clear hW
    have R := R.below c2
    clear c2
    generalize w1.heap.size = g at *
    have j0 := J.2.1 0 _ rfl
    have j1 := J.2.1 1 _ rfl
    have j2 := J.2.1 2 _ rfl
    have j3 := J.2.1 3 _ rfl
    have j4 := J.2.1 4 _ rfl
    go_wp2_with (fail)
    refine (iSText v W2 R.tab).mono ?_; rintro e w3 ⟨rfl, b3⟩
    have B := bth B b3
    have R := R.below b3
    have J := J.below b3
    clear j0 j1 j2 j3 j4
    clear b3
    go_wp2_with (fail)
    refine (iParse (stx v) w3 hz R).mono ?_; rintro e w4 ⟨rfl, b4⟩
    have B := bth B b4
    have R := R.below b4
    have J := J.below b4
    have PB := Lib.hid (fun (h : sdOk v = true) => by
      have e := ps_back h
      rw [show tx8 v = stx v from (by unfold stx; rw [if_pos h])] at e
      exact e : sdOk v = true → psY (stx v) = v ∧ psB (stx v) = true)
    clear b4
    generalize psY (stx v) = v2 at *
    generalize psB (stx v) = q2 at *
    go_upto_region 6 with (fail)
    generalize hW : World.alloc w4 _ = W5
    have K : Bk W5 w4.heap.size (Sd.enc v2) := by rw [← hW]; exact Bk.new w4 (Sd.enc v2) _
    have c5 : Below w4.heap.size w4 W5 := by rw [← hW]; exact below_alloc _ _
    have B := bth B c5
    clear hW
    have R := R.below c5
    have J := J.below c5
    clear c5
    generalize w4.heap.size = g2 at *
    have j0 := J.2.1 0 _ rfl
    have j1 := J.2.1 1 _ rfl
    have j2 := J.2.1 2 _ rfl
    have j3 := J.2.1 3 _ rfl
    have j4 := J.2.1 4 _ rfl
    go_wp2_with (fail)
    refine (sSText v W5).mono ?_; rintro e w6 ⟨rfl, b6⟩
    have B := bth B b6
    have R := R.below b6
    have J := J.below b6
    have K := K.below b6
    clear j0 j1 j2 j3 j4
    clear b6
    generalize stx v = z at *
    go_upto_region 7 with (fail)
    go_cut [80] from 3 (fun r wx => r = .bool false ∧ Below w.heap.size w wx ∧ RdOk wx)
    case first =>
      as_aux_lemma =>
        have j0 := J.2.1 0 _ rfl
        have j1 := J.2.1 1 _ rfl
        have j2 := J.2.1 2 _ rfl
        have j3 := J.2.1 3 _ rfl
        have j4 := J.2.1 4 _ rfl
        go_wp2_with (fail)
        refine (implOne v w6).mono ?_; rintro e w7 ⟨rfl, b7⟩
        have B := bth B b7
        have R := R.below b7
        have J := J.below b7
        have K := K.below b7
        clear j0 j1 j2 j3 j4
        clear b7
        cases ok : sdOk v with
        | false =>
          go_wp2_with (fail)
          go_meet
          case rel => exact ⟨rfl, B, R⟩
        | true =>
          obtain ⟨rfl, rfl⟩ := PB.out ok
          clear ok PB
          have j0 := J.2.1 0 _ rfl
          have j1 := J.2.1 1 _ rfl
          have j2 := J.2.1 2 _ rfl
          have j3 := J.2.1 3 _ rfl
          have j4 := J.2.1 4 _ rfl
          have k0 := K.2.1 0 _ rfl
          have k1 := K.2.1 1 _ rfl
          have k2 := K.2.1 2 _ rfl
          have k3 := K.2.1 3 _ rfl
          have k4 := K.2.1 4 _ rfl
          go_wp2_with (fail)
          go_meet
          case rel => exact ⟨rfl, B, R⟩
    case rest =>
    obtain ⟨rfl, B, R⟩ := hcut
    clear J K PB hz
    go_wp2_with (fail)
    refine (drPText X x k _ (h.below B) hn).mono ?_; rintro e w8 ⟨t, rfl, ht, b8⟩
    have B := bth B b8
    have R := R.below b8
    clear b8
    go_wp2_with (fail)
    refine (iParse t w8 (by omega) R).mono ?_; rintro e w9 ⟨rfl, b9⟩
    have B := bth B b9
    have R := R.below b9
    clear b9
    have QB := Lib.hid (ps_pr t)
    have SP := fun (W : World) => sParse t W (by omega)
    generalize psY t = y2 at *
    generalize psB t = q3 at *
    go_upto_region 11 with (fail)
    generalize hW : World.alloc w9 _ = W10
    have J : Bk W10 w9.heap.size (Sd.enc y2) := by rw [← hW]; exact Bk.new w9 (Sd.enc y2) _
    have c10 : Below w9.heap.size w9 W10 := by rw [← hW]; exact below_alloc _ _
    have B := bth B c10
    clear hW
    have R := R.below c10
    clear c10
    generalize w9.heap.size = g3 at *
    have j0 := J.2.1 0 _ rfl
    have j1 := J.2.1 1 _ rfl
    have j2 := J.2.1 2 _ rfl
    have j3 := J.2.1 3 _ rfl
    have j4 := J.2.1 4 _ rfl
    go_wp2_with (fail)
    refine (iSText y2 W10 R.tab).mono ?_; rintro e w11 ⟨rfl, b11⟩
    have B := bth B b11
    have R := R.below b11
    have J := J.below b11
    clear j0 j1 j2 j3 j4
    clear b11
    go_wp2_with (fail)
    refine (SP w11).mono ?_; rintro e w12 ⟨rfl, b12⟩
    have B := bth B b12
    have R := R.below b12
    have J := J.below b12
    clear b12 SP
    go_upto_region 13 with (fail)
    generalize hW : World.alloc w12 _ = W13
    have K : Bk W13 w12.heap.size (Sd.enc y2) := by rw [← hW]; exact Bk.new w12 (Sd.enc y2) _
    have c13 : Below w12.heap.size w12 W13 := by rw [← hW]; exact below_alloc _ _
    have B := bth B c13
    clear hW
    have J := J.below c13
    clear c13 R
    generalize w12.heap.size = g4 at *
    go_cut [117] from 3 (fun r wx => r = .bool false ∧ Below w.heap.size w wx)
    case first =>
      as_aux_lemma =>
        have j0 := J.2.1 0 _ rfl
        have j1 := J.2.1 1 _ rfl
        have j2 := J.2.1 2 _ rfl
        have j3 := J.2.1 3 _ rfl
        have j4 := J.2.1 4 _ rfl
        have k0 := K.2.1 0 _ rfl
        have k1 := K.2.1 1 _ rfl
        have k2 := K.2.1 2 _ rfl
        have k3 := K.2.1 3 _ rfl
        have k4 := K.2.1 4 _ rfl
        cases ok : q3 with
        | false =>
          go_wp2_with (fail)
          go_meet
          case rel => exact ⟨rfl, B⟩
        | true =>
          obtain ⟨o1, o2⟩ := pr_text (ok ▸ QB.out)
          have o2 : stx y2 = t := o2
          have o1 : sdOk y2 = true := o1
          clear ok QB
          go_wp2_with (fail)
          go_meet
          case rel => exact ⟨rfl, B⟩
    case rest =>
    obtain ⟨rfl, B⟩ := hcut
    clear J K QB ht
    go_wp2_with (fail)
    refine (drAll X x k _ (h.below B) hn).mono ?_; rintro e a1 ⟨l, A, c, rfl, S⟩
    obtain ⟨s1, hl, hc, b1⟩ := S
    have B := bth B b1
    clear b1
    go_wp2_with (fail)
    refine (iAll A c l a1 s1 (by omega)).mono ?_; rintro e a2 ⟨rfl, b2⟩
    go_wp2_with (fail)
    refine (sAll A c l a2 (s1.below b2) (by omega)).mono ?_; rintro e a3 ⟨rfl, b3⟩
    go_wp2_with (fail)
    refine (i8Good A c l a3 (s1.below (bth b2 b3)) (by omega)).mono ?_; rintro e a4 ⟨rfl, b4⟩
    go_wp2_with (fail)
    refine (sAre8 A c l a4 (s1.below (bth (bth b2 b3) b4)) (by omega)).mono ?_; rintro e a5 ⟨rfl, b5⟩
    have bb := bth (bth (bth b2 b3) b4) b5
    have s1 := s1.below bb
    have B := bth B bb
    clear b2 b3 b4 b5 bb
    go_upto_block 0 with (fail)
    go_cut [] from 3 (fun wx => Below w.heap.size w wx)
    case first =>
      as_aux_lemma =>
        cases ga : aaOk l with
        | false =>
          go_wp2_with (fail)
          go_loopw [24] (fun i wr => i = .int .i64 1 ∧ Below w.heap.size w wr) (fun _ _ => 0)
          case atStart => exact ⟨rfl, B⟩
          case round =>
            obtain ⟨rfl, hB⟩ := hrel
            go_wp2_with (fail)
            all_goals
              go_meet
              case rel => exact hB
        | true =>
          have AP := Lib.hid (fun i j (e : j = i + 1) (hj : j < l.length) => aa_pairs' ga e hj)
          clear ga
          go_wp2_with (fail)
          go_loopw [24] (fun i wr => ∃ m q : Nat, i = .int .i64 q ∧ q = m + 1 ∧ m ≤ l.length ∧ Below w.heap.size w wr ∧ Below a5.heap.size a5 wr) (fun i _ => l.length + 1 - (intOf i).toNat)
          case atStart => exact ⟨0, 1, rfl, rfl, by omega, B, Below.refl _ _⟩
          case round =>
            obtain ⟨m, q, rfl, hq, hml, C, V⟩ := hrel
            have HQ := Lib.hid hq
            clear hq
            by_cases hlt : q < l.length
            · obtain ⟨p1, p2, p3⟩ := AP.out m q HQ.out hlt
              have hm0 : m < l.length := by have := HQ.out; omega
              obtain ⟨b, off, rfl⟩ := s1.addr (by omega)
              obtain ⟨hbl, c0, -, -, -, -⟩ := Sd.get (s1.below V) hm0
              obtain ⟨-, d0, -, -, -, -⟩ := Sd.get (s1.below V) hlt
              have hA := aft_cell hbl
              have u0 : (0 : Int) ≤ (m : Int) := by omega
              have u1 : (m : Int) < (l.length : Int) := by omega
              have u2 : (q : Int) < (l.length : Int) := by omega
              have u3 : (0 : Int) ≤ (q : Int) := by omega
              have y1 : IntKind.i64.wrap ((q : Int) - 1) = (m : Int) := by rw [show (q : Int) - 1 = (m : Int) by have := HQ.out; omega]; exact IntWalk.i64_in _ (by omega)
              have h14 : l.length ≤ 1048576 := by omega
              have IA := Lib.hid (fun y : Aft wr => ag_aft (c := c) (s1.below V) h14 p1 p2 y)
              clear p1 p2 h14
              go_upto_region 23 with (fail)
              refine wp_region_aft (by kernel_rfl) (by kernel_rfl) ?_
              repeat (go_big_quiet_step ((go_at_call 21; exact Aft.calls _ (IA.out _))))
              refine wpQuiet_nil ?_
              intro w9 b9
              have C9 := bth C b9
              have V9 := bth V b9
              clear AP IA c0 d0 hA hbl y1 C V b9
              go_wp2_with (fail)
              go_roundw
              case rel => exact ⟨q, q + 1, by go_num, rfl, by omega, C9, V9⟩
              case measure => simp [intOf]; omega
            · have u0 : ¬ (q : Int) < (l.length : Int) := by omega
              go_wp2_with (fail)
              go_meet
              case rel => exact C
    case rest =>
    clear B s1
    go_wp2_with (fail)
    refine (drDo X x k _ (h.below hcut) hn).mono ?_; rintro e d1 ⟨y, A1, c1, a, b, rfl, S⟩
    obtain ⟨s2, hl2, hc2, b1⟩ := S
    have B := bth hcut b1
    clear hcut b1
    go_wp2_with (fail)
    refine (iAgree A1 c1 y a b d1 s2 (by omega)).mono ?_; rintro e d2 ⟨rfl, b2⟩
    go_wp2_with (fail)
    refine (iAgree A1 c1 y b a d2 (s2.below b2) (by omega)).mono ?_; rintro e d3 ⟨rfl, b3⟩
    rw [(ag_sym y a b).1, (ag_sym y a b).2]
    go_wp2_with (fail)
    refine (sAgree A1 c1 y a b d3 (s2.below (bth b2 b3)) (by omega)).mono ?_; rintro e d4 ⟨rfl, b4⟩
    go_wp2_with (fail)
    all_goals
      go_ret
      exact ⟨rfl, bth B (bth (bth b2 b3) b4)⟩
end Go.Proofs.YtllionelhbjadaaDoor
