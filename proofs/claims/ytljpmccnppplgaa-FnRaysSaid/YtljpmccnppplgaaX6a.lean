/- TotalDepth, SlopeIn, SlopeFor, RunTo of both texts: what they return. Lists of at most 1048576 layers. -/
import Derived.Test.YtljpmccnppplgaaW6i
set_option linter.unusedVariables false
set_option linter.unusedSimpArgs false
namespace Go.Proofs.Ytljpmccnppplgaa
open Go.RowKit
set_option maxHeartbeats 1000000

@[irreducible] def tdA (l : List St) : Int := if stGood l then tot l else 0
@[irreducible] def tdB (l : List St) : Bool := stGood l
theorem sTotal (A : Option Addr) (c : Nat) (l : List St) (w : World) (h : Sl 2 St.enc w A l) (hn : l.length ≤ 1048576) :
    Calls Try.prog 19 #[.slice A l.length c] w fun e w' => e = .returned (.tuple #[.int .i64 (tdA l), .bool (tdB l)]) ∧ Below w.heap.size w w' := by
  unfold tdA tdB
  cases g : stGood l with
  | true =>
    rw [tot_def]
    go_enter Try.func19, Try.ntmps19
    go_wp2_with (first | (go_at_call 51; refine (s6Good _ _ l _ h hn).mono ?_; rintro e w' ⟨rfl, rfl⟩; rw [g]) | (go_at_call 55; refine (s6Total _ _ _ l _ h g (Nat.le_refl _)).mono ?_; rintro e w' ⟨rfl, rfl⟩))
    go_ret2
    exact ⟨rfl, Below.refl _ _⟩
  | false =>
    go_enter Try.func19, Try.ntmps19
    go_wp2_with (go_at_call 51; refine (s6Good _ _ l _ h hn).mono ?_; rintro e w' ⟨rfl, rfl⟩; rw [g])
    go_ret2
    exact ⟨rfl, Below.refl _ _⟩
theorem iTotal (A : Option Addr) (c : Nat) (l : List St) (w : World) (h : Sl 2 St.enc w A l) (hn : l.length ≤ 1048576) :
    Calls Try.prog 20 #[.slice A l.length c] w fun e w' => e = .returned (.tuple #[.int .i64 (tdA l), .bool (tdB l)]) ∧ Below w.heap.size w w' := by
  unfold tdA tdB
  cases g : stGood l with
  | true =>
    go_enter Try.func20, Try.ntmps20
    go_wp2_with (fail)
    refine (i6Good _ _ l _ h hn).mono ?_; rintro e w1 ⟨rfl, b1⟩; rw [g]
    go_wp2_with (fail)
    refine (i6Total _ _ l _ (h.below b1) g).mono ?_; rintro e w2 ⟨rfl, b2⟩
    go_wp2_with (fail)
    go_ret2
    exact ⟨rfl, bth b1 b2⟩
  | false =>
    go_enter Try.func20, Try.ntmps20
    go_wp2_with (fail)
    refine (i6Good _ _ l _ h hn).mono ?_; rintro e w1 ⟨rfl, b1⟩; rw [g]
    go_wp2_with (fail)
    go_ret2
    exact ⟨rfl, b1⟩

/-- A slope in range. -/
@[irreducible] def slopeOk (n d : Int) : Bool := inB n 0 200 && inB d 1 100 && decide (n ≤ 2 * d)
theorem slopeOk_def (n d : Int) : slopeOk n d = (inB n 0 200 && inB d 1 100 && decide (n ≤ 2 * d)) := by unfold slopeOk; rfl
theorem slopeOk_bd {n d : Int} (h : slopeOk n d = true) : 0 ≤ n ∧ n ≤ 200 ∧ 1 ≤ d ∧ d ≤ 100 ∧ n ≤ 2 * d := by
  rw [slopeOk_def] at h
  simp only [Bool.and_eq_true, inB_true, decide_eq_true_eq] at h
  omega
theorem s6Slope' (A : Option Addr) (c : Nat) (l : List St) (n d : Int) (w : World) (h : Sl 2 St.enc w A l) (hn : l.length ≤ 1048576) :
    Calls Try.prog 57 #[.slice A l.length c, .int .i64 n, .int .i64 d] w fun e w' => e = .returned (.bool (stGood l && slopeOk n d)) ∧ w = w' := by
  rw [slopeOk_def]; exact s6Slope A c l n d w h hn
theorem i6Slope' (n d : Int) (w : World) :
    Calls Try.prog 60 #[.int .i64 n, .int .i64 d] w fun e w' => e = .returned (.bool (slopeOk n d)) ∧ w = w' := by
  rw [slopeOk_def]; exact i6Slope n d w

@[irreducible] def slOk (l : List St) (k n d : Int) : Bool := stGood l && slopeOk n d && inB k 0 ((l.length : Int) - 1)
theorem slOk_def (l : List St) (k n d : Int) : slOk l k n d = (stGood l && slopeOk n d && inB k 0 ((l.length : Int) - 1)) := by unfold slOk; rfl
theorem slIn_bd {l : List St} {k n d : Int} (h : slOk l k n d = true) : stGood l = true ∧ slopeOk n d = true ∧ inB k 0 ((l.length : Int) - 1) = true ∧ ∃ m : Nat, k = m ∧ m < l.length := by
  rw [slOk_def] at h
  simp only [Bool.and_eq_true] at h
  have := inB_true.1 h.2
  exact ⟨h.1.1, h.1.2, h.2, k.toNat, by omega, by omega⟩
theorem prod_bd {a b A B : Int} (h0 : 0 ≤ a) (h1 : a ≤ A) (h2 : 0 < b) (h3 : b ≤ B) : 0 ≤ a * b ∧ a * b ≤ A * B := mul_bd h0 h1 (by omega) h3

@[irreducible] def siN (l : List St) (k n d : Int) : Int := if slOk l k n d then redN (n * sp l k.toNat) (d * sp l 0) else 0
@[irreducible] def siD (l : List St) (k n d : Int) : Int := if slOk l k n d then redD (n * sp l k.toNat) (d * sp l 0) else 0
@[irreducible] def siB (l : List St) (k n d : Int) : Bool := slOk l k n d
theorem sSlopeIn (A : Option Addr) (c : Nat) (l : List St) (k n d : Int) (w : World) (h : Sl 2 St.enc w A l) (hn : l.length ≤ 1048576) :
    Calls Try.prog 21 #[.slice A l.length c, .int .i64 k, .int .i64 n, .int .i64 d] w fun e w' => e = .returned (.tuple #[.int .i64 (siN l k n d), .int .i64 (siD l k n d), .bool (siB l k n d)]) ∧ Below w.heap.size w w' := by
  unfold siN siD siB
  cases g : slOk l k n d with
  | true =>
    simp only [if_true]
    obtain ⟨g1, g2, g3, m, rfl, hm⟩ := slIn_bd g
    rw [Int.toNat_natCast]
    have g12 : (stGood l && slopeOk n d) = true := by rw [g1, g2]; rfl
    obtain ⟨b, off, rfl⟩ := h.addr (by omega)
    have q1 := slopeOk_bd g2
    have q2 := stGood_at g1 hm
    have q3 := stGood_at g1 (show 0 < l.length by omega)
    have p1 := mul_bd q1.1 q1.2.1 (show 0 ≤ sp l m by omega) q2.2.2.2
    have p2 := mul_bd (show 0 ≤ d by omega) q1.2.2.2.1 (show 0 ≤ sp l 0 by omega) q3.2.2.2
    have p3 := Int.mul_pos (show 0 < d by omega) (show 0 < sp l 0 by omega)
    obtain ⟨hbl, _, c1⟩ := St.get h hm
    obtain ⟨_, _, d1⟩ := St.get h (show 0 < l.length by omega)
    rw [← sp_of hm] at c1
    rw [← sp_of (show 0 < l.length by omega), Nat.zero_mul, Nat.add_zero] at d1
    go_enter Try.func21, Try.ntmps21
    go_wp2_with (first | (go_at_call 57; refine (s6Slope' _ _ l _ _ _ h hn).mono ?_; rintro e w' ⟨rfl, rfl⟩; rw [g12]) | (go_at_call 58; refine (specIn _ _ _ _).mono ?_; rintro e w' ⟨rfl, rfl⟩))
    go_quiet ((go_at_call 59; exact quiet_d (specRed _ _ _ (by omega) (by omega) (by omega) (by omega))))
    go_wp2
    go_ret3
    exact ⟨rfl, bdrew (Below.refl _ _) _⟩
  | false =>
    rw [slOk_def, Bool.and_eq_false_iff] at g
    by_cases g12 : (stGood l && slopeOk n d) = true
    · have g3 : inB k 0 ((l.length : Int) - 1) = false := by
        rcases g with h | h
        · rw [h] at g12; cases g12
        · exact h
      clear g
      go_enter Try.func21, Try.ntmps21
      go_wp2_with (first | (go_at_call 57; refine (s6Slope' _ _ l _ _ _ h hn).mono ?_; rintro e w' ⟨rfl, rfl⟩; rw [g12]) | (go_at_call 58; refine (specIn _ _ _ _).mono ?_; rintro e w' ⟨rfl, rfl⟩))
      go_ret3
      exact ⟨rfl, Below.refl _ _⟩
    · have g12' : (stGood l && slopeOk n d) = false := by simpa using g12
      clear g
      go_enter Try.func21, Try.ntmps21
      go_wp2_with (go_at_call 57; refine (s6Slope' _ _ l _ _ _ h hn).mono ?_; rintro e w' ⟨rfl, rfl⟩; rw [g12'])
      go_ret3
      exact ⟨rfl, Below.refl _ _⟩
theorem iSlopeIn (A : Option Addr) (c : Nat) (l : List St) (k n d : Int) (w : World) (h : Sl 2 St.enc w A l) (hn : l.length ≤ 1048576) :
    Calls Try.prog 22 #[.slice A l.length c, .int .i64 k, .int .i64 n, .int .i64 d] w fun e w' => e = .returned (.tuple #[.int .i64 (siN l k n d), .int .i64 (siD l k n d), .bool (siB l k n d)]) ∧ Below w.heap.size w w' := by
  unfold siN siD siB
  cases g : slOk l k n d with
  | true =>
    simp only [if_true]
    obtain ⟨g1, g2, g3, m, rfl, hm⟩ := slIn_bd g
    rw [Int.toNat_natCast]
    have g12 : (stGood l && slopeOk n d) = true := by rw [g1, g2]; rfl
    obtain ⟨b, off, rfl⟩ := h.addr (by omega)
    have q1 := slopeOk_bd g2
    have q2 := stGood_at g1 hm
    have q3 := stGood_at g1 (show 0 < l.length by omega)
    have p1 := mul_bd q1.1 q1.2.1 (show 0 ≤ sp l m by omega) q2.2.2.2
    have p2 := mul_bd (show 0 ≤ d by omega) q1.2.2.2.1 (show 0 ≤ sp l 0 by omega) q3.2.2.2
    have p3 := Int.mul_pos (show 0 < d by omega) (show 0 < sp l 0 by omega)
    go_enter Try.func22, Try.ntmps22
    go_wp2_with (fail)
    refine (i6Good _ _ l _ h hn).mono ?_; rintro e w1 ⟨rfl, b1⟩; rw [g1]
    obtain ⟨hbl, _, c1⟩ := St.get (h.below b1) hm
    obtain ⟨_, _, d1⟩ := St.get (h.below b1) (show 0 < l.length by omega)
    rw [← sp_of hm] at c1
    rw [← sp_of (show 0 < l.length by omega), Nat.zero_mul, Nat.add_zero] at d1
    go_wp2_with (first | (go_at_call 60; refine (i6Slope' _ _ _).mono ?_; rintro e w' ⟨rfl, rfl⟩) | (go_at_call 53; refine (implIn _ _ _ _).mono ?_; rintro e w' ⟨rfl, rfl⟩))
    go_quiet ((go_at_call 61; exact quiet_d (implLow _ _ _ (by omega) (by omega) (by omega) (by omega))))
    go_wp2
    go_ret3
    exact ⟨rfl, bdrew b1 _⟩
  | false =>
    rw [slOk_def, Bool.and_eq_false_iff, Bool.and_eq_false_iff] at g
    by_cases g1 : stGood l = true
    · by_cases g3 : inB k 0 ((l.length : Int) - 1) = true
      · have g2 : slopeOk n d = false := by
          rcases g with (h | h) | h
          · rw [h] at g1; cases g1
          · exact h
          · rw [h] at g3; cases g3
        clear g
        go_enter Try.func22, Try.ntmps22
        go_wp2_with (fail)
        refine (i6Good _ _ l _ h hn).mono ?_; rintro e w1 ⟨rfl, b1⟩; rw [g1]
        go_wp2_with (first | (go_at_call 60; refine (i6Slope' _ _ _).mono ?_; rintro e w' ⟨rfl, rfl⟩) | (go_at_call 53; refine (implIn _ _ _ _).mono ?_; rintro e w' ⟨rfl, rfl⟩))
        go_ret3
        exact ⟨rfl, b1⟩
      · have g3' : inB k 0 ((l.length : Int) - 1) = false := by simpa using g3
        clear g
        go_enter Try.func22, Try.ntmps22
        go_wp2_with (fail)
        refine (i6Good _ _ l _ h hn).mono ?_; rintro e w1 ⟨rfl, b1⟩; rw [g1]
        go_wp2_with (first | (go_at_call 60; refine (i6Slope' _ _ _).mono ?_; rintro e w' ⟨rfl, rfl⟩) | (go_at_call 53; refine (implIn _ _ _ _).mono ?_; rintro e w' ⟨rfl, rfl⟩))
        go_ret3
        exact ⟨rfl, b1⟩
    · have g1' : stGood l = false := by simpa using g1
      clear g
      go_enter Try.func22, Try.ntmps22
      go_wp2_with (fail)
      refine (i6Good _ _ l _ h hn).mono ?_; rintro e w1 ⟨rfl, b1⟩; rw [g1']
      go_wp2_with (fail)
      go_ret3
      exact ⟨rfl, b1⟩
end Go.Proofs.Ytljpmccnppplgaa
