/- The great law on mean speeds and on casts at a time as the program runs it: it returns true and changes nothing that was there. -/
import Derived.Test.YtfmlfeokdaahmaaDr18
import Derived.Test.YtfmlfeokdaahmaaP7i
import Derived.Test.YtfmlfeokdaahmaaL7e
import Derived.Test.YtfmlfeokdaahmaaL7f
import Derived.Test.YtfmlfeokdaahmaaL7g
import Derived.Test.YtfmlfeokdaahmaaL7h
import Derived.Test.YtfmlfeokdaahmaaL7j
import Derived.Deep.Cut
import Derived.Deep.CutBlock
set_option linter.unusedVariables false
set_option linter.unusedSimpArgs false
namespace Go.Proofs.Ytfmlfeokdaahmaa
open Go.RowKit
set_option maxHeartbeats 80000000
set_option maxRecDepth 100000
theorem okS_of {b : Nat} {w : World} {hs : List Ch} (o : ∀ x ∈ hs, ChO b w x) : OkS w hs := fun x hx => (o x hx).s
theorem layS_of {b : Nat} {w : World} {hs : List Ch} (o : ∀ x ∈ hs, ChO b w x) : ∀ k (hk : k < hs.length), hs[k].t.lay.length ≤ 1048576 := fun k hk => Nat.le_trans (o _ (List.getElem_mem hk)).n (by omega)
theorem OkS.aft {w : World} {hs : List Ch} (h : OkS w hs) (x : Aft w) : OkS x.val hs := h.below x.bel
theorem ca_each (hs : List Ch) (tm : Int) : ∀ m (hm : m < hs.length), caB (dat hs) tm = true → ¬ (hs[m].t.id = caV (dat hs) tm ∧ tm < hs[m].t.time) ∧ ∀ hn : m + 1 < hs.length, hs[m].t.time ≤ tm → tm < hs[m + 1].t.time → hs[m].t.id = caV (dat hs) tm := fun m hm h => by
  have a := castAt_by h (i := m) (by rw [dat_len]; exact hm)
  rw [dat_get hm] at a
  refine ⟨a.1, fun hn x y => a.2 (by rw [dat_len]; exact hn) x ?_⟩
  rw [dat_get hn]; exact y
theorem lawSpeeds (X : Option Addr) (x : Nat) (k : List UInt8) (w : World) (h : Sl 1 encU w X k) (hm : k.length ≤ 9223372036854775807) (_hc : k.length ≤ x) :
    Calls Try.prog 14 #[.slice X k.length x] w fun e w' => e = .returned (.bool true) ∧ Below w.heap.size w w' := by
  by_cases hb : (65536 : Int) < (k.length : Int)
  · go_enter Try.func14, Try.ntmps14
    go_wp2_with (go_at_call 44; refine (rBig _ _ _ _).mono ?_; rintro e w' ⟨rfl, rfl⟩)
    go_ret
    exact ⟨rfl, Below.refl _ _⟩
  · have hn : k.length ≤ 1048576 := by omega
    go_enter Try.func14, Try.ntmps14
    go_wp2_with (go_at_call 44; refine (rBig _ _ _ _).mono ?_; rintro e w' ⟨rfl, rfl⟩)
    refine (drMean X x k w h hn).mono ?_; rintro e w1 ⟨v, z, rfl, o, B⟩
    have hv := o.n
    go_upto_region 4 with (fail)
    generalize hW : World.alloc w1 _ = W2
    have J : Bk W2 w1.heap.size (Ch.enc v) := by rw [← hW]; exact Bk.new w1 (Ch.enc v) _
    have c2 : Below w1.heap.size w1 W2 := by rw [← hW]; exact below_alloc _ _
    have B := bth B c2
    clear hW
    have s := o.s.below c2
    clear c2 o
    generalize w1.heap.size = g at *
    have j0 := J.2.1 0 _ rfl
    have j1 := J.2.1 1 _ rfl
    have j2 := J.2.1 2 _ rfl
    have j3 := J.2.1 3 _ rfl
    have j4 := J.2.1 4 _ rfl
    go_wp2_with (fail)
    refine (iMeanSp v.t v.A v.cp z W2 s (by omega)).mono ?_; rintro e w3 ⟨rfl, b3⟩
    have B := bth B b3
    have s := s.below b3
    have J := J.below b3
    clear j0 j1 j2 j3 j4
    clear b3
    have j0 := J.2.1 0 _ rfl
    have j1 := J.2.1 1 _ rfl
    have j2 := J.2.1 2 _ rfl
    have j3 := J.2.1 3 _ rfl
    have j4 := J.2.1 4 _ rfl
    go_wp2_with (fail)
    refine (sMeanSp v.t v.A v.cp z w3 s (by omega)).mono ?_; rintro e w4 ⟨rfl, b4⟩
    have B := bth B b4
    clear j0 j1 j2 j3 j4
    clear b4 s J hv
    go_upto_region 6 with (fail)
    go_cut [83] from 3 (fun r wx => r = .bool false ∧ Below w.heap.size w wx)
    case first =>
      as_aux_lemma =>
        cases ok : msOk v.t z with
        | false =>
          go_wp2_with (fail)
          go_meet
          case rel => exact ⟨rfl, B⟩
        | true =>
          obtain ⟨m1, m2, m3, m4⟩ := mean_by ok
          have y1 : IntKind.i64.wrap (14000 * msD v.t z) = 14000 * msD v.t z := IntWalk.i64_in _ (by omega)
          have y2 : IntKind.i64.wrap (16000 * msD v.t z) = 16000 * msD v.t z := IntWalk.i64_in _ (by omega)
          have y3 : decide (msN v.t z < 14000 * msD v.t z) = false := decide_eq_false (by omega)
          have y4 : decide (16000 * msD v.t z < msN v.t z) = false := decide_eq_false (by omega)
          clear ok m1 m2 m3 m4
          go_wp2_with (fail)
          go_meet
          case rel => exact ⟨rfl, B⟩
    case rest =>
    clear B
    obtain ⟨rfl, B⟩ := hcut
    go_wp2_with (fail)
    refine (drSame X x k _ (h.below B) hn).mono ?_; rintro e w5 ⟨u, y, z, rfl, ou, oy, b5⟩
    have B := bth B b5
    clear b5
    have hu := ou.n
    have hy := oy.n
    go_upto_region 9 with (fail)
    generalize hW : World.alloc w5 _ = W6
    have J : Bk W6 w5.heap.size (Ch.enc u) := by rw [← hW]; exact Bk.new w5 (Ch.enc u) _
    have c6 : Below w5.heap.size w5 W6 := by rw [← hW]; exact below_alloc _ _
    have eW : W6.heap.size = w5.heap.size + 1 := by rw [← hW]; simp
    clear hW
    generalize hW : World.alloc W6 _ = W7
    have K : Bk W7 (w5.heap.size + 1) (Ch.enc y) := by rw [← hW, ← eW]; exact Bk.new W6 (Ch.enc y) _
    have c7 : Below W6.heap.size W6 W7 := by rw [← hW]; exact below_alloc _ _
    clear hW eW
    have J := J.below c7
    have su := (ou.s.below c6).below c7
    have sy := (oy.s.below c6).below c7
    have B := bth (bth B c6) c7
    clear c6 c7 ou oy
    generalize w5.heap.size = g2 at *
    have j0 := J.2.1 0 _ rfl
    have j1 := J.2.1 1 _ rfl
    have j2 := J.2.1 2 _ rfl
    have j3 := J.2.1 3 _ rfl
    have j4 := J.2.1 4 _ rfl
    have k0 := K.2.1 0 _ rfl
    have k1 := K.2.1 1 _ rfl
    have k2 := K.2.1 2 _ rfl
    have k3 := K.2.1 3 _ rfl
    have k4 := K.2.1 4 _ rfl
    go_wp2_with (fail)
    refine (iSame u.t y.t u.A y.A u.cp y.cp z W7 su (by omega) sy (by omega)).mono ?_; rintro e w8 ⟨rfl, b8⟩
    have B := bth B b8
    have su := su.below b8
    have sy := sy.below b8
    have J := J.below b8
    have K := K.below b8
    clear j0 j1 j2 j3 j4
    clear k0 k1 k2 k3 k4
    clear b8
    have j0 := J.2.1 0 _ rfl
    have j1 := J.2.1 1 _ rfl
    have j2 := J.2.1 2 _ rfl
    have j3 := J.2.1 3 _ rfl
    have j4 := J.2.1 4 _ rfl
    have k0 := K.2.1 0 _ rfl
    have k1 := K.2.1 1 _ rfl
    have k2 := K.2.1 2 _ rfl
    have k3 := K.2.1 3 _ rfl
    have k4 := K.2.1 4 _ rfl
    go_wp2_with (fail)
    refine (iSame y.t u.t y.A u.A y.cp u.cp z w8 sy (by omega) su (by omega)).mono ?_; rintro e w9 ⟨rfl, b9⟩
    have B := bth B b9
    have su := su.below b9
    have sy := sy.below b9
    have J := J.below b9
    have K := K.below b9
    clear j0 j1 j2 j3 j4
    clear k0 k1 k2 k3 k4
    clear b9
    rw [(same_back u.t y.t z).1, (same_back u.t y.t z).2]
    have j0 := J.2.1 0 _ rfl
    have j1 := J.2.1 1 _ rfl
    have j2 := J.2.1 2 _ rfl
    have j3 := J.2.1 3 _ rfl
    have j4 := J.2.1 4 _ rfl
    have k0 := K.2.1 0 _ rfl
    have k1 := K.2.1 1 _ rfl
    have k2 := K.2.1 2 _ rfl
    have k3 := K.2.1 3 _ rfl
    have k4 := K.2.1 4 _ rfl
    go_wp2_with (fail)
    refine (sSame u.t y.t u.A y.A u.cp y.cp z w9 su (by omega) sy (by omega)).mono ?_; rintro e w10 ⟨rfl, b10⟩
    have B := bth B b10
    clear j0 j1 j2 j3 j4
    clear k0 k1 k2 k3 k4
    clear b10 su sy J K hu hy
    generalize slV u.t y.t z = q1
    generalize slOk u.t y.t z = q2
    go_upto_region 12 with (fail)
    go_cut [128] from 3 (fun r wx => r = .bool false ∧ Below w.heap.size w wx)
    case first =>
      as_aux_lemma =>
        go_wp2_with (fail)
        go_meet
        case rel => exact ⟨rfl, B⟩
    case rest =>
    clear B
    obtain ⟨rfl, B⟩ := hcut
    go_wp2_with (fail)
    refine (drCastAt X x k _ (h.below B) hn).mono ?_; rintro e w11 ⟨hs, A, c, tm, rfl, s1, o1, hl, hc, b11⟩
    have B := bth B b11
    have ok := okS_of o1
    have hL := Lib.hid (layS_of o1)
    clear b11 o1
    go_wp2_with (fail)
    refine (iCastAt A c hs tm w11 s1 ok (by omega) hL.out hc).mono ?_; rintro e w12 ⟨rfl, b12⟩
    have B := bth B b12
    have s1 := s1.below b12
    have ok := ok.below b12
    clear b12
    go_wp2_with (fail)
    refine (sCastAt A c hs tm w12 s1 ok (by omega) hL.out).mono ?_; rintro e w13 ⟨rfl, b13⟩
    have B := bth B b13
    have s1 := s1.below b13
    clear b13 ok hL
    have CB := Lib.hid (ca_each hs tm)
    generalize caV (dat hs) tm = V at *
    generalize caB (dat hs) tm = Q at *
    go_upto_region 17 with (fail)
    go_cut [153] from 27 (fun r wx => r = .bool false ∧ wx = w13)
    case first =>
      as_aux_lemma =>
        go_wp2_with (fail)
        go_meet
        case rel => exact ⟨rfl, rfl⟩
    case rest =>
    obtain ⟨rfl, rfl⟩ := hcut
    go_upto_block 0 with (fail)
    go_cut [] from 3 (fun wx => Below w.heap.size w wx)
    case first =>
      as_aux_lemma =>
        cases hq : Q with
        | false =>
          clear CB
          go_wp2_with (fail)
          go_loopw [26] (fun i wr => i = .int .i64 0 ∧ Below w.heap.size w wr) (fun _ _ => 0)
          case atStart => exact ⟨rfl, B⟩
          case round =>
            obtain ⟨rfl, hB⟩ := hrel
            go_wp2_with (fail)
            all_goals
              go_meet
              case rel => exact hB
        | true =>
          have CC := Lib.hid (fun m hm => CB.out m hm hq)
          clear CB
          go_wp2_with (fail)
          go_loopw [26] (fun i wr => ∃ m : Nat, i = .int .i64 m ∧ m ≤ hs.length ∧ Below w.heap.size w wr ∧ Below wc.heap.size wc wr) (fun i _ => hs.length - (intOf i).toNat)
          case atStart => exact ⟨0, rfl, Nat.zero_le _, B, Below.refl _ _⟩
          case round =>
            obtain ⟨m, rfl, hm1, C, V1⟩ := hrel
            by_cases hlt : m < hs.length
            · obtain ⟨b, off, rfl⟩ := s1.addr (by omega)
              obtain ⟨hbl, c0, c1, -, -, -⟩ := Ch.get (s1.below V1) hlt
              have hA := aft_cell hbl
              have v0 : (0 : Int) ≤ (m : Int) := by omega
              have v1 : (m : Int) < (hs.length : Int) := by omega
              have y1 : IntKind.i64.wrap ((m : Int) + 1) = (m : Int) + 1 := IntWalk.i64_in _ (by omega)
              obtain ⟨p1, p2⟩ := CC.out m hlt
              by_cases t1 : tm < hs[m].t.time
              · have g1 : (hs[m].t.id == V) = false := beq_eq_false_iff_ne.2 (fun e => p1 ⟨e, t1⟩)
                have g3 : decide (hs[m].t.time ≤ tm) = false := decide_eq_false (by omega)
                clear p1 p2 t1
                clear hA
                go_wp2_with (fail)
                go_roundw
                case rel => exact ⟨m + 1, by go_num, by omega, C, V1⟩
                case measure => simp [intOf]; omega
              · have g2 : decide (tm < hs[m].t.time) = false := decide_eq_false t1
                have g3 : decide (hs[m].t.time ≤ tm) = true := decide_eq_true (by omega)
                by_cases hn1 : m + 1 < hs.length
                · have g4 : decide ((m : Int) + 1 < (hs.length : Int)) = true := decide_eq_true (by omega)
                  have v2 : (m : Int) + 1 < (hs.length : Int) := by omega
                  have v3 : (0 : Int) ≤ (m : Int) + 1 := by omega
                  obtain ⟨-, -, d1, -, -, -⟩ := Ch.get (s1.below V1) hn1
                  by_cases t2 : tm < hs[m + 1].t.time
                  · have e1 := p2 hn1 (by omega) t2
                    have g1 : (hs[m].t.id == V) = true := beq_iff_eq.2 e1
                    have g6 : (hs[m].t.id != V) = false := by rw [bne, g1]; rfl
                    have g5 : decide (tm < hs[m + 1].t.time) = true := decide_eq_true t2
                    clear p1 p2 t1 t2 e1
                    clear hA
                    go_wp2_with (fail)
                    go_roundw
                    case rel => exact ⟨m + 1, by go_num, by omega, C, V1⟩
                    case measure => simp [intOf]; omega
                  · have g5 : decide (tm < hs[m + 1].t.time) = false := decide_eq_false t2
                    cases g1 : (hs[m].t.id == V) with
                    | false =>
                      clear p1 p2 t1 t2
                      clear hA
                      go_wp2_with (fail)
                      go_roundw
                      case rel => exact ⟨m + 1, by go_num, by omega, C, V1⟩
                      case measure => simp [intOf]; omega
                    | true =>
                      clear p1 p2 t1 t2
                      clear hA
                      go_wp2_with (fail)
                      go_roundw
                      case rel => exact ⟨m + 1, by go_num, by omega, C, V1⟩
                      case measure => simp [intOf]; omega
                · have g4 : decide ((m : Int) + 1 < (hs.length : Int)) = false := decide_eq_false (by omega)
                  cases g1 : (hs[m].t.id == V) with
                  | false =>
                    clear p1 p2 t1
                    clear hA
                    go_wp2_with (fail)
                    go_roundw
                    case rel => exact ⟨m + 1, by go_num, by omega, C, V1⟩
                    case measure => simp [intOf]; omega
                  | true =>
                    clear p1 p2 t1
                    clear hA
                    go_wp2_with (fail)
                    go_roundw
                    case rel => exact ⟨m + 1, by go_num, by omega, C, V1⟩
                    case measure => simp [intOf]; omega
            · have v0 : ¬ (m : Int) < (hs.length : Int) := by omega
              go_wp2_with (fail)
              go_meet
              case rel => exact C
    case rest =>
    have B := hcut
    clear hcut CB s1
    go_wp2_with (fail)
    refine (drNear X x k _ (h.below B) hn).mono ?_; rintro e d1 ⟨l, A1, c1, sx, sy, ti, fa, rfl, s2, o2, hl2, hc2, b1⟩
    have B := bth B b1
    have ok := okS_of o2
    have hL := Lib.hid (layS_of o2)
    clear b1 o2
    go_upto_region 25 with (fail)
    generalize hW : World.alloc d1 _ = d2
    have J : Bk d2 d1.heap.size [.int .i64 sx, .int .i64 sy] := by rw [← hW]; exact Bk.new d1 [.int .i64 sx, .int .i64 sy] _
    have c2 : Below d1.heap.size d1 d2 := by rw [← hW]; exact below_alloc _ _
    have B := bth B c2
    have s2 := s2.below c2
    have ok := ok.below c2
    clear hW c2
    generalize d1.heap.size = g3 at *
    have j0 := J.2.1 0 _ rfl
    have j1 := J.2.1 1 _ rfl
    go_wp2_with (fail)
    refine (iNearC A1 c1 l ⟨sx, sy⟩ ti fa d2 s2 ok (by omega) hL.out hc2).mono ?_; rintro e d3 ⟨rfl, b3⟩
    have B := bth B b3
    have s2 := s2.below b3
    have ok := ok.below b3
    have J := J.below b3
    clear b3 j0 j1
    have j0 := J.2.1 0 _ rfl
    have j1 := J.2.1 1 _ rfl
    go_wp2_with (fail)
    refine (sNearC A1 c1 l ⟨sx, sy⟩ ti fa d3 s2 ok (by omega) hL.out).mono ?_; rintro e d4 ⟨rfl, b4⟩
    have B := bth B b4
    have s2 := s2.below b4
    have ok := ok.below b4
    clear b4 j0 j1 J
    go_wp2_with (fail)
    refine (i7Good A1 c1 l d4 s2 ok (by omega) hL.out hc2).mono ?_; rintro e d5 ⟨rfl, b5⟩
    have B := bth B b5
    have s2 := s2.below b5
    have ok := ok.below b5
    clear b5
    go_wp2_with (fail)
    refine (sAre7 A1 c1 l d5 s2 ok (by omega) hL.out).mono ?_; rintro e d6 ⟨rfl, b6⟩
    go_wp2_with (fail)
    go_ret
    exact ⟨rfl, bth B b6⟩
end Go.Proofs.Ytfmlfeokdaahmaa
