/- The great law on casts as the program runs it: it returns true and changes nothing that was there. -/
import Derived.Test.YtfmlfeokdaahmaaDr18
import Derived.Test.YtfmlfeokdaahmaaP7j
import Derived.Test.YtfmlfeokdaahmaaW7e
import Derived.Test.YtfmlfeokdaahmaaW7m
import Derived.Test.YtfmlfeokdaahmaaW7n
import Derived.Deep.Cut
import Derived.Deep.CutBlock
set_option linter.unusedVariables false
set_option linter.unusedSimpArgs false
namespace Go.Proofs.Ytfmlfeokdaahmaa
open Go.RowKit
set_option maxHeartbeats 80000000
set_option maxRecDepth 100000
theorem df_law (t : Ct) (m : Int) : dfOk t m = true → saOk t (dfV t m) = true ∧ decide (m < ttV t (dfV t m)) = false ∧ IntKind.i64.wrap (dfV t m + 1) = dfV t m + 1 ∧ (saOk t (dfV t m + 1) = true → decide (ttV t (dfV t m + 1) ≤ m) = false) := fun h => by
  obtain ⟨q0, q1, q2, q3, q4⟩ := df_by h
  exact ⟨q2, decide_eq_false (by omega), IntWalk.i64_in _ (by omega), fun e => decide_eq_false (by have := q4 e; omega)⟩
theorem tt_law (t : Ct) (d : Int) : decide (0 ≤ ttV t d) = true := decide_eq_true (tt_nonneg t d)
theorem lawCasts (X : Option Addr) (x : Nat) (k : List UInt8) (w : World) (h : Sl 1 encU w X k) (hm : k.length ≤ 9223372036854775807) (_hc : k.length ≤ x) :
    Calls Try.prog 13 #[.slice X k.length x] w fun e w' => e = .returned (.bool true) ∧ Below w.heap.size w w' := by
  by_cases hb : (65536 : Int) < (k.length : Int)
  · go_enter Try.func13, Try.ntmps13
    go_wp2_with (go_at_call 44; refine (rBig _ _ _ _).mono ?_; rintro e w' ⟨rfl, rfl⟩)
    go_ret
    exact ⟨rfl, Below.refl _ _⟩
  · have hn : k.length ≤ 1048576 := by omega
    go_enter Try.func13, Try.ntmps13
    go_wp2_with (go_at_call 44; refine (rBig _ _ _ _).mono ?_; rintro e w' ⟨rfl, rfl⟩)
    refine (drDepth X x k w h hn).mono ?_; rintro e w1 ⟨v, z, rfl, o, B⟩
    have hv : v.t.lay.length ≤ 1048576 := by have := o.n; omega
    go_upto_region 4 with (fail)
    generalize hW : World.alloc w1 _ = W2
    have J : Bk W2 w1.heap.size (Ch.enc v) := by rw [← hW]; exact Bk.new w1 (Ch.enc v) _
    have c2 : Below w1.heap.size w1 W2 := by rw [← hW]; exact below_alloc _ _
    have B := bth B c2
    clear hW
    have s := o.s.below c2
    clear c2 o
    generalize w1.heap.size = g at *
    have j0 := J.2.1 0 _ rfl
    have j1 := J.2.1 1 _ rfl
    have j2 := J.2.1 2 _ rfl
    have j3 := J.2.1 3 _ rfl
    have j4 := J.2.1 4 _ rfl
    go_wp2_with (fail)
    refine (iDepthFor v.t v.A v.cp z W2 s hv).mono ?_; rintro e w3 ⟨rfl, b3⟩
    have B := bth B b3
    have s := s.below b3
    have J := J.below b3
    clear j0 j1 j2 j3 j4
    clear b3
    have j0 := J.2.1 0 _ rfl
    have j1 := J.2.1 1 _ rfl
    have j2 := J.2.1 2 _ rfl
    have j3 := J.2.1 3 _ rfl
    have j4 := J.2.1 4 _ rfl
    go_wp2_with (fail)
    refine (sDepthFor v.t v.A v.cp z w3 s hv).mono ?_; rintro e w4 ⟨rfl, b4⟩
    have B := bth B b4
    have s := s.below b4
    have J := J.below b4
    clear j0 j1 j2 j3 j4
    clear b4
    have DF := Lib.hid (df_law v.t z)
    generalize dfV v.t z = D at *
    generalize dfOk v.t z = Q at *
    go_upto_if 61 with (fail)
    go_cut [] from 3 (fun wx => Below w.heap.size w wx)
    case first =>
      as_aux_lemma =>
        cases hq : Q with
        | false =>
          go_wp2_with (fail)
          go_meet
          case rel => exact B
        | true =>
          obtain ⟨q2, q3, y1, q4⟩ := DF.out hq
          have Q4 := Lib.hid q4
          clear q4 DF
          have j0 := J.2.1 0 _ rfl
          have j1 := J.2.1 1 _ rfl
          have j2 := J.2.1 2 _ rfl
          have j3 := J.2.1 3 _ rfl
          have j4 := J.2.1 4 _ rfl
          go_wp2_with (fail)
          refine (iTravel v.t v.A v.cp D w4 s hv).mono ?_; rintro e w5 ⟨rfl, b5⟩
          rw [q2]
          have B := bth B b5
          have s := s.below b5
          have J := J.below b5
          clear j0 j1 j2 j3 j4
          clear b5
          have j0 := J.2.1 0 _ rfl
          have j1 := J.2.1 1 _ rfl
          have j2 := J.2.1 2 _ rfl
          have j3 := J.2.1 3 _ rfl
          have j4 := J.2.1 4 _ rfl
          go_wp2_with (fail)
          refine (iTravel v.t v.A v.cp (D + 1) w5 s hv).mono ?_; rintro e w6 ⟨rfl, b6⟩
          have B := bth B b6
          clear j0 j1 j2 j3 j4
          clear b6 s J
          cases hs2 : saOk v.t (D + 1) with
          | false =>
            go_wp2_with (fail)
            go_meet
            case rel => exact B
          | true =>
            have q5 := Q4.out hs2
            go_wp2_with (fail)
            go_meet
            case rel => exact B
    case rest =>
    clear B s J hv DF
    have B := hcut
    clear hcut
    go_wp2_with (fail)
    refine (drThin X x k _ (h.below B) hn).mono ?_; rintro e a1 ⟨v, rfl, o, b1⟩
    have B := bth B b1
    have hv : v.t.lay.length ≤ 1048576 := by have := o.n; omega
    clear b1
    go_upto_region 16 with (fail)
    generalize hW : World.alloc a1 _ = W2
    have J : Bk W2 a1.heap.size (Ch.enc v) := by rw [← hW]; exact Bk.new a1 (Ch.enc v) _
    have c2 : Below a1.heap.size a1 W2 := by rw [← hW]; exact below_alloc _ _
    have B := bth B c2
    clear hW
    have s := o.s.below c2
    clear c2 o
    generalize a1.heap.size = g at *
    have j0 := J.2.1 0 _ rfl
    have j1 := J.2.1 1 _ rfl
    have j2 := J.2.1 2 _ rfl
    have j3 := J.2.1 3 _ rfl
    have j4 := J.2.1 4 _ rfl
    go_wp2_with (fail)
    refine (iThin v.t v.A v.cp W2 s hv).mono ?_; rintro e a3 ⟨A3, c3, rfl, f3⟩
    have b3 := f3.1
    have s3 := f3.2.1
    have B := bth B b3
    have s := s.below b3
    have J := J.below b3
    clear j0 j1 j2 j3 j4
    clear f3 b3
    have TL := thin_len v.t
    have TB := Lib.hid (fun e : ctOk v.t = true => thin_by e)
    have SP := Lib.hid (fun W h => sThin v.t v.A v.cp W h hv)
    generalize thinC v.t = T at *
    go_upto_region 17 with (fail)
    generalize hW : World.alloc a3 _ = W4
    have K : Bk W4 a3.heap.size (Ch.enc ⟨T, A3, c3⟩) := by rw [← hW]; exact Bk.new a3 (Ch.enc ⟨T, A3, c3⟩) _
    have c4 : Below a3.heap.size a3 W4 := by rw [← hW]; exact below_alloc _ _
    have B := bth B c4
    clear hW
    have s3 := s3.below c4
    have s := s.below c4
    have J := J.below c4
    clear c4
    generalize a3.heap.size = g2 at *
    have j0 := J.2.1 0 _ rfl
    have j1 := J.2.1 1 _ rfl
    have j2 := J.2.1 2 _ rfl
    have j3 := J.2.1 3 _ rfl
    have j4 := J.2.1 4 _ rfl
    go_wp2_with (fail)
    refine (SP.out W4 s).mono ?_; rintro e a5 ⟨A5, c5, rfl, f5⟩
    have b5 := f5.1
    have s5 := f5.2.1
    have B := bth B b5
    have s := s.below b5
    have J := J.below b5
    have s3 := s3.below b5
    have K := K.below b5
    clear j0 j1 j2 j3 j4
    clear f5 b5 SP
    go_upto_region 18 with (fail)
    generalize hW : World.alloc a5 _ = W6
    have L : Bk W6 a5.heap.size (Ch.enc ⟨T, A5, c5⟩) := by rw [← hW]; exact Bk.new a5 (Ch.enc ⟨T, A5, c5⟩) _
    have c6 : Below a5.heap.size a5 W6 := by rw [← hW]; exact below_alloc _ _
    have B := bth B c6
    clear hW
    have s3 := s3.below c6
    have s5 := s5.below c6
    have s := s.below c6
    have J := J.below c6
    have K := K.below c6
    clear c6
    generalize a5.heap.size = g3 at *
    have j0 := K.2.1 0 _ rfl
    have j1 := K.2.1 1 _ rfl
    have j2 := K.2.1 2 _ rfl
    have j3 := K.2.1 3 _ rfl
    have j4 := K.2.1 4 _ rfl
    have l0 := L.2.1 0 _ rfl
    have l1 := L.2.1 1 _ rfl
    have l2 := L.2.1 2 _ rfl
    have l3 := L.2.1 3 _ rfl
    have l4 := L.2.1 4 _ rfl
    go_wp2_with (fail)
    refine (rCast T A3 A5 c3 c5 W6 s3 s5 TL).mono ?_; rintro e a7 ⟨rfl, b7⟩
    have B := bth B b7
    have s := s.below b7
    have s3 := s3.below b7
    have J := J.below b7
    have K := K.below b7
    clear j0 j1 j2 j3 j4
    clear l0 l1 l2 l3 l4
    clear b7 L s5
    go_upto_if 109 with (fail)
    go_cut [] from 3 (fun wx => Below w.heap.size w wx)
    case first =>
      as_aux_lemma =>
        cases ok : ctOk v.t with
        | false =>
          go_wp2_with (fail)
          go_meet
          case rel => exact B
        | true =>
          obtain ⟨p1, p2, p3, p4⟩ := TB.out ok
          clear TB
          have j0 := J.2.1 0 _ rfl
          have j1 := J.2.1 1 _ rfl
          have j2 := J.2.1 2 _ rfl
          have j3 := J.2.1 3 _ rfl
          have j4 := J.2.1 4 _ rfl
          have l0 := K.2.1 0 _ rfl
          have l1 := K.2.1 1 _ rfl
          have l2 := K.2.1 2 _ rfl
          have l3 := K.2.1 3 _ rfl
          have l4 := K.2.1 4 _ rfl
          go_wp2_with (fail)
          refine (iSame v.t T v.A A3 v.cp c3 0 a7 s hv s3 TL).mono ?_; rintro e a8 ⟨rfl, b8⟩
          rw [p3, p4]
          have B := bth B b8
          have s3 := s3.below b8
          have K := K.below b8
          clear j0 j1 j2 j3 j4
          clear l0 l1 l2 l3 l4
          clear b8 s J p3 p4
          have j0 := K.2.1 0 _ rfl
          have j1 := K.2.1 1 _ rfl
          have j2 := K.2.1 2 _ rfl
          have j3 := K.2.1 3 _ rfl
          have j4 := K.2.1 4 _ rfl
          go_wp2_with (fail)
          refine (iThin T A3 c3 a8 s3 TL).mono ?_; rintro e a9 ⟨A9, c9, rfl, f9⟩
          rw [p2] at f9
          rw [p1, p2]
          have b9 := f9.1
          have s9 := f9.2.1
          have B := bth B b9
          have s3 := s3.below b9
          have K := K.below b9
          clear j0 j1 j2 j3 j4
          clear f9 b9 p2
          go_upto_region 23 with (fail)
          generalize hW : World.alloc a9 _ = W10
          have L : Bk W10 a9.heap.size (Ch.enc ⟨T, A9, c9⟩) := by rw [← hW]; exact Bk.new a9 (Ch.enc ⟨T, A9, c9⟩) _
          have c10 : Below a9.heap.size a9 W10 := by rw [← hW]; exact below_alloc _ _
          have B := bth B c10
          clear hW
          have s3 := s3.below c10
          have s9 := s9.below c10
          have K := K.below c10
          clear c10
          generalize a9.heap.size = g4 at *
          have j0 := K.2.1 0 _ rfl
          have j1 := K.2.1 1 _ rfl
          have j2 := K.2.1 2 _ rfl
          have j3 := K.2.1 3 _ rfl
          have j4 := K.2.1 4 _ rfl
          have l0 := L.2.1 0 _ rfl
          have l1 := L.2.1 1 _ rfl
          have l2 := L.2.1 2 _ rfl
          have l3 := L.2.1 3 _ rfl
          have l4 := L.2.1 4 _ rfl
          go_wp2_with (fail)
          refine (rCast T A9 A3 c9 c3 W10 s9 s3 TL).mono ?_; rintro e a11 ⟨rfl, b11⟩
          have B := bth B b11
          have s3 := s3.below b11
          have K := K.below b11
          clear j0 j1 j2 j3 j4
          clear l0 l1 l2 l3 l4
          clear b11 s9 L
          have j0 := K.2.1 0 _ rfl
          have j1 := K.2.1 1 _ rfl
          have j2 := K.2.1 2 _ rfl
          have j3 := K.2.1 3 _ rfl
          have j4 := K.2.1 4 _ rfl
          go_wp2_with (fail)
          refine (i7One T A3 c3 a11 s3 TL).mono ?_; rintro e a12 ⟨rfl, b12⟩
          rw [p1]
          have B := bth B b12
          clear j0 j1 j2 j3 j4
          clear b12 s3 K p1
          go_wp2_with (fail)
          go_meet
          case rel => exact B
    case rest =>
    clear B s s3 J K hv TB TL
    have B := hcut
    clear hcut
    go_wp2_with (fail)
    refine (drSpeed X x k _ (h.below B) hn).mono ?_; rintro e d1 ⟨v, z, rfl, o, b1⟩
    have B := bth B b1
    have hv : v.t.lay.length ≤ 1048576 := by have := o.n; omega
    clear b1
    go_upto_region 26 with (fail)
    generalize hW : World.alloc d1 _ = W2
    have J : Bk W2 d1.heap.size (Ch.enc v) := by rw [← hW]; exact Bk.new d1 (Ch.enc v) _
    have c2 : Below d1.heap.size d1 W2 := by rw [← hW]; exact below_alloc _ _
    have B := bth B c2
    clear hW
    have s := o.s.below c2
    clear c2 o
    generalize d1.heap.size = g at *
    have j0 := J.2.1 0 _ rfl
    have j1 := J.2.1 1 _ rfl
    have j2 := J.2.1 2 _ rfl
    have j3 := J.2.1 3 _ rfl
    have j4 := J.2.1 4 _ rfl
    go_wp2_with (fail)
    refine (iSpeed v.t v.A v.cp z W2 s hv).mono ?_; rintro e d3 ⟨rfl, b3⟩
    have B := bth B b3
    have s := s.below b3
    have J := J.below b3
    clear j0 j1 j2 j3 j4
    clear b3
    have j0 := J.2.1 0 _ rfl
    have j1 := J.2.1 1 _ rfl
    have j2 := J.2.1 2 _ rfl
    have j3 := J.2.1 3 _ rfl
    have j4 := J.2.1 4 _ rfl
    go_wp2_with (fail)
    refine (sSpeed v.t v.A v.cp z d3 s hv).mono ?_; rintro e d4 ⟨rfl, b4⟩
    have B := bth B b4
    clear j0 j1 j2 j3 j4
    clear b4 s J hv
    generalize saV v.t z = q1 at *
    generalize saOk v.t z = q2 at *
    go_wp2_with (fail)
    refine (drTravel X x k _ (h.below B) hn).mono ?_; rintro e d5 ⟨v, z, rfl, o, b5⟩
    have B := bth B b5
    have hv : v.t.lay.length ≤ 1048576 := by have := o.n; omega
    clear b5
    go_upto_region 31 with (fail)
    generalize hW : World.alloc d5 _ = W6
    have J : Bk W6 d5.heap.size (Ch.enc v) := by rw [← hW]; exact Bk.new d5 (Ch.enc v) _
    have c6 : Below d5.heap.size d5 W6 := by rw [← hW]; exact below_alloc _ _
    have B := bth B c6
    clear hW
    have s := o.s.below c6
    clear c6 o
    generalize d5.heap.size = g2 at *
    have j0 := J.2.1 0 _ rfl
    have j1 := J.2.1 1 _ rfl
    have j2 := J.2.1 2 _ rfl
    have j3 := J.2.1 3 _ rfl
    have j4 := J.2.1 4 _ rfl
    go_wp2_with (fail)
    refine (iTravel v.t v.A v.cp z W6 s hv).mono ?_; rintro e d7 ⟨rfl, b7⟩
    have B := bth B b7
    have s := s.below b7
    have J := J.below b7
    clear j0 j1 j2 j3 j4
    clear b7
    have j0 := J.2.1 0 _ rfl
    have j1 := J.2.1 1 _ rfl
    have j2 := J.2.1 2 _ rfl
    have j3 := J.2.1 3 _ rfl
    have j4 := J.2.1 4 _ rfl
    go_wp2_with (fail)
    refine (sTravel v.t v.A v.cp z d7 s hv).mono ?_; rintro e d8 ⟨rfl, b8⟩
    have B := bth B b8
    have t0 := tt_law v.t z
    clear j0 j1 j2 j3 j4
    clear b8 s J hv
    generalize ttV v.t z = q3 at *
    generalize saOk v.t z = q4 at *
    go_wp2_with (fail)
    go_ret
    exact ⟨rfl, B⟩
end Go.Proofs.Ytfmlfeokdaahmaa
