/- CoverageOf of both texts: what it returns. Lists of at most 1048576 lines. -/
import Derived.Test.YtdphaejpponmeaaW9c
set_option linter.unusedVariables false
set_option linter.unusedSimpArgs false
namespace Go.Proofs.Ytdphaejpponmeaa
open Go.RowKit
set_option maxHeartbeats 2000000
theorem specSide (w : World) : Calls Try.prog 60 #[.int .i64 1000] w fun e w' => e = .returned (.int .i64 20) ∧ w = w' := by
  go_enter Try.func60, Try.ntmps60
  go_wp2
  go_ret
  exact ⟨rfl, rfl⟩
@[irreducible] def clOk (r c : Int) : Bool := inB r 0 19 && inB c 0 19
theorem clOk_def (r c : Int) : clOk r c = (inB r 0 19 && inB c 0 19) := by unfold clOk; rfl
theorem clOk_bd {r c : Int} (h : clOk r c = true) : 0 ≤ r ∧ r ≤ 19 ∧ 0 ≤ c ∧ c ≤ 19 := by
  rw [clOk_def] at h; simp only [Bool.and_eq_true, inB_true] at h; omega
theorem specCell (r c : Int) (w : World) : Calls Try.prog 71 #[.int .i64 r, .int .i64 c] w fun e w' => e = .returned (.bool (clOk r c)) ∧ w = w' := by
  have hd := clOk_def r c
  cases h1 : inB r 0 19 with
  | true =>
    cases h2 : inB c 0 19 with
    | true =>
      rw [h1, h2] at hd
      have HD := Lib.hid hd
      have H1 := Lib.hid h1
      have H2 := Lib.hid h2
      clear hd
      go_enter Try.func71, Try.ntmps71
      go_wp2_with (first | (go_at_call 60; refine (specSide _).mono ?_; rintro e w' ⟨rfl, rfl⟩) | (go_at_call 78; refine (specIn _ _ _ _).mono ?_; rintro e w' ⟨rfl, rfl⟩; first | rw [H1.out] | rw [H2.out]))
      go_ret
      exact ⟨ret_bool HD.out.symm, rfl⟩
    | false =>
      rw [h1, h2] at hd
      have HD := Lib.hid hd
      have H1 := Lib.hid h1
      have H2 := Lib.hid h2
      clear hd
      go_enter Try.func71, Try.ntmps71
      go_wp2_with (first | (go_at_call 60; refine (specSide _).mono ?_; rintro e w' ⟨rfl, rfl⟩) | (go_at_call 78; refine (specIn _ _ _ _).mono ?_; rintro e w' ⟨rfl, rfl⟩; first | rw [H1.out] | rw [H2.out]))
      go_ret
      exact ⟨ret_bool HD.out.symm, rfl⟩
  | false =>
    rw [h1, Bool.false_and] at hd
    have HD := Lib.hid hd
    have H1 := Lib.hid h1
    clear hd
    go_enter Try.func71, Try.ntmps71
    go_wp2_with (first | (go_at_call 60; refine (specSide _).mono ?_; rintro e w' ⟨rfl, rfl⟩) | (go_at_call 78; refine (specIn r _ _ _).mono ?_; rintro e w' ⟨rfl, rfl⟩; rw [H1.out]))
    go_ret
    exact ⟨ret_bool HD.out.symm, rfl⟩

@[irreducible] def cvB (l : List Ln) (r c : Int) : Bool := lnGood l && clOk r c
theorem cvB_def (l : List Ln) (r c : Int) : cvB l r c = (lnGood l && clOk r c) := by unfold cvB; rfl
@[irreducible] def cvN (l : List Ln) (r c : Int) : Int := if cvB l r c then cnt l r c else 0
theorem cvN_yes {l : List Ln} {r c : Int} (h : cvB l r c = true) : cvN l r c = cnt l r c := by unfold cvN; rw [if_pos h]
theorem cvN_no {l : List Ln} {r c : Int} (h : cvB l r c = false) : cvN l r c = 0 := by unfold cvN; rw [h]; rfl

theorem sCov (A : Option Addr) (cp : Nat) (l : List Ln) (r c : Int) (w : World) (h : Sl 5 Ln.enc w A l) (hn : l.length ≤ 1048576) :
    Calls Try.prog 25 #[.slice A l.length cp, .int .i64 r, .int .i64 c] w fun e w' => e = .returned (.tuple #[.int .i64 (cvN l r c), .bool (cvB l r c)]) ∧ Below w.heap.size w w' := by
  have hd := cvB_def l r c
  cases g1 : lnGood l with
  | true =>
    cases g2 : clOk r c with
    | true =>
      have q := clOk_bd g2
      rw [g1, g2] at hd
      rw [cvN_yes hd, hd]
      have G1 := Lib.hid g1
      have G2 := Lib.hid g2
      clear hd
      go_enter Try.func25, Try.ntmps25
      go_wp2_with (fail)
      refine (s9Good _ _ l _ h hn).mono ?_; rintro e w1 ⟨rfl, b1⟩; rw [G1.out]
      go_wp2_with (go_at_call 71; refine (specCell _ _ _).mono ?_; rintro e w' ⟨rfl, rfl⟩; rw [G2.out])
      refine (specCount _ _ l r c _ (h.below b1) G1.out (by omega) (by omega) (by omega) (by omega)).mono ?_; rintro e w2 ⟨rfl, b2⟩
      go_wp2_with (fail)
      go_ret2
      exact ⟨rfl, bth b1 b2⟩
    | false =>
      rw [g1, g2] at hd
      rw [cvN_no hd, hd]
      have G1 := Lib.hid g1
      have G2 := Lib.hid g2
      clear hd
      go_enter Try.func25, Try.ntmps25
      go_wp2_with (fail)
      refine (s9Good _ _ l _ h hn).mono ?_; rintro e w1 ⟨rfl, b1⟩; rw [G1.out]
      go_wp2_with (go_at_call 71; refine (specCell _ _ _).mono ?_; rintro e w' ⟨rfl, rfl⟩; rw [G2.out])
      go_ret2
      exact ⟨rfl, b1⟩
  | false =>
    rw [g1, Bool.false_and] at hd
    rw [cvN_no hd, hd]
    have G1 := Lib.hid g1
    clear hd
    go_enter Try.func25, Try.ntmps25
    go_wp2_with (fail)
    refine (s9Good _ _ l _ h hn).mono ?_; rintro e w1 ⟨rfl, b1⟩; rw [G1.out]
    go_wp2_with (fail)
    go_ret2
    exact ⟨rfl, b1⟩

theorem iCov (A : Option Addr) (cp : Nat) (l : List Ln) (r c : Int) (w : World) (h : Sl 5 Ln.enc w A l) (hn : l.length ≤ 1048576) :
    Calls Try.prog 26 #[.slice A l.length cp, .int .i64 r, .int .i64 c] w fun e w' => e = .returned (.tuple #[.int .i64 (cvN l r c), .bool (cvB l r c)]) ∧ Below w.heap.size w w' := by
  have hd := cvB_def l r c
  cases g1 : lnGood l with
  | true =>
    have hd2 := clOk_def r c
    cases h1 : inB r 0 19 with
    | true =>
      cases h2 : inB c 0 19 with
      | true =>
        have q := inB_true.1 h1
        have q2 := inB_true.1 h2
        rw [h1, h2] at hd2
        rw [g1, hd2] at hd
        rw [cvN_yes hd, hd]
        have G1 := Lib.hid g1
        have H1 := Lib.hid h1
        have H2 := Lib.hid h2
        clear hd hd2
        go_enter Try.func26, Try.ntmps26
        go_wp2_with (fail)
        refine (i9Good _ _ l _ h hn).mono ?_; rintro e w1 ⟨rfl, b1⟩; rw [G1.out]
        go_wp2_with (go_at_call 69; refine (implIn _ _ _ _).mono ?_; rintro e w' ⟨rfl, rfl⟩; first | rw [H1.out] | rw [H2.out])
        refine (implCount _ _ l r c _ (h.below b1) G1.out (by omega) (by omega) (by omega) (by omega)).mono ?_; rintro e w2 ⟨rfl, b2⟩
        go_wp2_with (fail)
        go_ret2
        exact ⟨rfl, bth b1 b2⟩
      | false =>
        rw [h1, h2] at hd2
        rw [g1, hd2] at hd
        rw [cvN_no hd, hd]
        have G1 := Lib.hid g1
        have H1 := Lib.hid h1
        have H2 := Lib.hid h2
        clear hd hd2
        go_enter Try.func26, Try.ntmps26
        go_wp2_with (fail)
        refine (i9Good _ _ l _ h hn).mono ?_; rintro e w1 ⟨rfl, b1⟩; rw [G1.out]
        go_wp2_with (go_at_call 69; refine (implIn _ _ _ _).mono ?_; rintro e w' ⟨rfl, rfl⟩; first | rw [H1.out] | rw [H2.out])
        go_ret2
        exact ⟨rfl, b1⟩
    | false =>
      rw [h1, Bool.false_and] at hd2
      rw [g1, hd2] at hd
      rw [cvN_no hd, hd]
      have G1 := Lib.hid g1
      have H1 := Lib.hid h1
      clear hd hd2
      go_enter Try.func26, Try.ntmps26
      go_wp2_with (fail)
      refine (i9Good _ _ l _ h hn).mono ?_; rintro e w1 ⟨rfl, b1⟩; rw [G1.out]
      go_wp2_with (go_at_call 69; refine (implIn r _ _ _).mono ?_; rintro e w' ⟨rfl, rfl⟩; rw [H1.out])
      go_ret2
      exact ⟨rfl, b1⟩
  | false =>
    rw [g1, Bool.false_and] at hd
    rw [cvN_no hd, hd]
    have G1 := Lib.hid g1
    clear hd
    go_enter Try.func26, Try.ntmps26
    go_wp2_with (fail)
    refine (i9Good _ _ l _ h hn).mono ?_; rintro e w1 ⟨rfl, b1⟩; rw [G1.out]
    go_wp2_with (fail)
    go_ret2
    exact ⟨rfl, b1⟩
end Go.Proofs.Ytdphaejpponmeaa
