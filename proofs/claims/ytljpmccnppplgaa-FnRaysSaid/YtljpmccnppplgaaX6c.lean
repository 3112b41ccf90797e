/- SlopeFor and DownTime of both texts: what they return. Lists of at most 1048576 layers. -/
import Derived.Test.YtljpmccnppplgaaX6b
set_option linter.unusedVariables false
set_option linter.unusedSimpArgs false
namespace Go.Proofs.Ytljpmccnppplgaa
open Go.RowKit
set_option maxHeartbeats 1000000

@[irreducible] def sfOk (l : List St) (n : Int) : Bool := stGood l && inB n 0 60000
theorem sfOk_def (l : List St) (n : Int) : sfOk l n = (stGood l && inB n 0 60000) := by unfold sfOk; rfl
@[irreducible] def sfN (l : List St) (n : Int) : Int := if sfOk l n then redN (n * sp l 0) (wK l l.length) else 0
@[irreducible] def sfD (l : List St) (n : Int) : Int := if sfOk l n then redD (n * sp l 0) (wK l l.length) else 0
@[irreducible] def sfB (l : List St) (n : Int) : Bool := sfOk l n
theorem sSlopeFor (A : Option Addr) (c : Nat) (l : List St) (n : Int) (w : World) (h : Sl 2 St.enc w A l) (hn : l.length ≤ 1048576) (hc : l.length ≤ c) :
    Calls Try.prog 25 #[.slice A l.length c, .int .i64 n] w fun e w' => e = .returned (.tuple #[.int .i64 (sfN l n), .int .i64 (sfD l n), .bool (sfB l n)]) ∧ Below w.heap.size w w' := by
  unfold sfN sfD sfB
  cases g : sfOk l n with
  | true =>
    simp only [if_true]
    rw [sfOk_def, Bool.and_eq_true] at g
    obtain ⟨g1, g2⟩ := g
    obtain ⟨b, off, rfl⟩ := h.addr (by have := stGood_len g1; omega)
    have h5 := stGood_len g1
    have hpos : (0 : Int) < (l.length : Int) := by omega
    have hposN : 0 < l.length := by omega
    have hposE : l ≠ [] := List.ne_nil_of_length_pos hposN
    have q1 := inB_true.1 g2
    have q3 := stGood_at g1 (show 0 < l.length by omega)
    have qw := wK_bd g1 (k := l.length) (Nat.le_refl _)
    have qp := wK_pos g1
    have p1 := mul_bd q1.1 q1.2 (show 0 ≤ sp l 0 by omega) q3.2.2.2
    have wr1 : IntKind.i64.wrap (n * sp l 0) = n * sp l 0 := IntWalk.i64_in _ (by omega)
    obtain ⟨hbl, _, d1⟩ := St.get h (show 0 < l.length by omega)
    rw [← sp_of (show 0 < l.length by omega), Nat.zero_mul, Nat.add_zero] at d1
    have e1 := sumK_tot g1 l.length (Nat.le_refl _)
    rw [tot_def] at e1
    have qb := tot_bd g1
    rw [tot_def] at qb
    rw [← e1] at qw qp ⊢
    clear e1
    go_enter Try.func25, Try.ntmps25
    go_wp2_with (first | (go_at_call 51; refine (s6Good _ _ l _ h hn).mono ?_; rintro e w' ⟨rfl, rfl⟩; rw [g1]) | (go_at_call 58; refine (specIn _ _ _ _).mono ?_; rintro e w' ⟨rfl, rfl⟩))
    go_quiet ((first | (go_at_call 55; exact quiet_l (s6Total _ _ _ l _ (h.below (bdrew (Below.refl _ _) _)) g1 (Nat.le_refl _))) | (go_at_call 64; exact quiet_d (s6Sum _ _ _ l _ (h.below (bdrew (Below.refl _ _) _)) g1 hc (by omega) (by omega))) | (go_at_call 59; exact quiet_d (specRed _ _ _ (by omega) (by omega) (by omega) (by omega)))))
    go_wp2
    go_ret3
    exact ⟨rfl, bdrew (Below.refl _ _) _⟩
  | false =>
    rw [sfOk_def, Bool.and_eq_false_iff] at g
    by_cases g1 : stGood l = true
    · have g2 : inB n 0 60000 = false := by
        rcases g with h | h
        · rw [h] at g1; cases g1
        · exact h
      clear g
      go_enter Try.func25, Try.ntmps25
      go_wp2_with (first | (go_at_call 51; refine (s6Good _ _ l _ h hn).mono ?_; rintro e w' ⟨rfl, rfl⟩; rw [g1]) | (go_at_call 58; refine (specIn _ _ _ _).mono ?_; rintro e w' ⟨rfl, rfl⟩))
      go_ret3
      exact ⟨rfl, Below.refl _ _⟩
    · have g1' : stGood l = false := by simpa using g1
      clear g
      go_enter Try.func25, Try.ntmps25
      go_wp2_with (go_at_call 51; refine (s6Good _ _ l _ h hn).mono ?_; rintro e w' ⟨rfl, rfl⟩; rw [g1'])
      go_ret3
      exact ⟨rfl, Below.refl _ _⟩
theorem iSlopeFor (A : Option Addr) (c : Nat) (l : List St) (n : Int) (w : World) (h : Sl 2 St.enc w A l) (hn : l.length ≤ 1048576) :
    Calls Try.prog 26 #[.slice A l.length c, .int .i64 n] w fun e w' => e = .returned (.tuple #[.int .i64 (sfN l n), .int .i64 (sfD l n), .bool (sfB l n)]) ∧ Below w.heap.size w w' := by
  unfold sfN sfD sfB
  cases g : sfOk l n with
  | true =>
    simp only [if_true]
    rw [sfOk_def, Bool.and_eq_true] at g
    obtain ⟨g1, g2⟩ := g
    obtain ⟨b, off, rfl⟩ := h.addr (by have := stGood_len g1; omega)
    have h5 := stGood_len g1
    have hpos : (0 : Int) < (l.length : Int) := by omega
    have hposN : 0 < l.length := by omega
    have hposE : l ≠ [] := List.ne_nil_of_length_pos hposN
    have q1 := inB_true.1 g2
    have q3 := stGood_at g1 (show 0 < l.length by omega)
    have qw := wK_bd g1 (k := l.length) (Nat.le_refl _)
    have qp := wK_pos g1
    have p1 := mul_bd q1.1 q1.2 (show 0 ≤ sp l 0 by omega) q3.2.2.2
    have wr1 : IntKind.i64.wrap (n * sp l 0) = n * sp l 0 := IntWalk.i64_in _ (by omega)
    have KS : ∀ w1 w', Below w.heap.size w w1 → Below w1.heap.size w1 w' → Below w1.heap.size w1 w' ∧ w'.cell? ⟨b, off + 1, none⟩ = some (.int .i64 (sp l 0)) := fun w1 w' b1 b2 => by
      obtain ⟨hbl, _, d1⟩ := St.get (h.below (bth b1 b2)) (show 0 < l.length by omega)
      rw [← sp_of (show 0 < l.length by omega), Nat.zero_mul, Nat.add_zero] at d1
      exact ⟨b2, d1⟩
    have KS := Lib.hid KS
    go_enter Try.func26, Try.ntmps26
    go_wp2_with (fail)
    refine (i6Good _ _ l _ h hn).mono ?_; rintro e w1 ⟨rfl, b1⟩; rw [g1]
    have KT := Lib.hid (fun w' => KS.out w1 w' b1)
    clear KS
    go_wp2_with (go_at_call 53; refine (implIn _ _ _ _).mono ?_; rintro e w' ⟨rfl, rfl⟩)
    go_region_held3 (fun w' => Below w1.heap.size w1 w' ∧ w'.cell? ⟨b, off + 1, none⟩ = some (.int .i64 (sp l 0)))
      (first | assumption | exact KT.out _ (Below.refl _ _).drew | (refine KT.out _ ?_; assumption) | (refine KT.out _ (bth (b := ?_) ?_ ?_); rotate_left 2; assumption; assumption) | (refine KT.out _ (bth (b := ?_) (And.left (b := ?_) ?_) ?_); rotate_left 3; assumption; rotate_left; assumption) | (refine KT.out _ (bdrew ?_ _); assumption) | (refine KT.out _ (bdrew (And.left (b := ?_) ?_) _); rotate_left; assumption))
      (first
        | (go_at_call 65; refine (i6Weight _ _ l _ ?_ ?_ ?_).mono ?_; exact h.below (bth b1 (And.left (by assumption))); omega; exact fun k hk => (by have := stGood_at g1 hk; omega); rintro e w' ⟨rfl, hb'⟩)
        | (go_at_call 61; refine (implLow _ _ _ (by omega) (by omega) (by omega) (by omega)).mono ?_; rintro e w' ⟨rfl, q, rfl⟩))
    all_goals
      go_wp2
      go_ret3
      refine ⟨rfl, bth b1 ?_⟩
      first | exact And.left (by assumption) | exact bdrew (And.left (by assumption)) _
  | false =>
    rw [sfOk_def, Bool.and_eq_false_iff] at g
    by_cases g1 : stGood l = true
    · have g2 : inB n 0 60000 = false := by
        rcases g with h | h
        · rw [h] at g1; cases g1
        · exact h
      clear g
      go_enter Try.func26, Try.ntmps26
      go_wp2_with (fail)
      refine (i6Good _ _ l _ h hn).mono ?_; rintro e w1 ⟨rfl, b1⟩; rw [g1]
      go_wp2_with (go_at_call 53; refine (implIn _ _ _ _).mono ?_; rintro e w' ⟨rfl, rfl⟩)
      go_ret3
      exact ⟨rfl, b1⟩
    · have g1' : stGood l = false := by simpa using g1
      clear g
      go_enter Try.func26, Try.ntmps26
      go_wp2_with (fail)
      refine (i6Good _ _ l _ h hn).mono ?_; rintro e w1 ⟨rfl, b1⟩; rw [g1']
      go_wp2_with (fail)
      go_ret3
      exact ⟨rfl, b1⟩

@[irreducible] def dwN (l : List St) (d : Int) : Int := if stGood l && inB d 0 (tot l) then (dtN l d l.length).1 else 0
@[irreducible] def dwD (l : List St) (d : Int) : Int := if stGood l && inB d 0 (tot l) then (dtN l d l.length).2 else 0
@[irreducible] def dwB (l : List St) (d : Int) : Bool := stGood l && inB d 0 (tot l)
theorem dtN_succ1 (l : List St) (d : Int) (k : Nat) : (dtN l d (k + 1)).1 = redN ((dtN l d k).1 * sp l k + 10 * part l d k * (dtN l d k).2) ((dtN l d k).2 * sp l k) := rfl
theorem dtN_succ2 (l : List St) (d : Int) (k : Nat) : (dtN l d (k + 1)).2 = redD ((dtN l d k).1 * sp l k + 10 * part l d k * (dtN l d k).2) ((dtN l d k).2 * sp l k) := rfl
@[irreducible] def dA (l : List St) (d : Int) (k : Nat) : Int := (dtN l d k).1
@[irreducible] def dB (l : List St) (d : Int) (k : Nat) : Int := (dtN l d k).2
theorem dA_zero (l : List St) (d : Int) : dA l d 0 = 0 := by unfold dA; rfl
theorem dB_zero (l : List St) (d : Int) : dB l d 0 = 1 := by unfold dB; rfl
theorem dA_succ (l : List St) (d : Int) (k : Nat) : dA l d (k + 1) = redN (dA l d k * sp l k + 10 * part l d k * dB l d k) (dB l d k * sp l k) := by unfold dA dB; rfl
theorem dB_succ (l : List St) (d : Int) (k : Nat) : dB l d (k + 1) = redD (dA l d k * sp l k + 10 * part l d k * dB l d k) (dB l d k * sp l k) := by unfold dA dB; rfl
theorem dstep {l : List St} (h : stGood l = true) {d : Int} {k : Nat} (hk : k < l.length) :
    0 ≤ dA l d k * sp l k ∧ dA l d k * sp l k ≤ 2300000000000000000 ∧ 0 ≤ 10 * part l d k * dB l d k ∧ 10 * part l d k * dB l d k ≤ 420000000000000000 ∧ 0 < dB l d k * sp l k ∧ dB l d k * sp l k ≤ 14198570000000000 := by
  unfold dA dB; exact dt_step h hk

theorem s6Time (A : Option Addr) (c : Nat) (d : Int) (l : List St) (w : World) (h : Sl 2 St.enc w A l) (hg : stGood l = true) (hc : l.length ≤ c) (hd0 : -100000 ≤ d) (hd : d ≤ 100000) :
    Calls Try.prog 68 #[.slice A l.length c, .int .i64 d] w fun e w' => e = .returned (.tuple #[.int .i64 (dA l d l.length), .int .i64 (dB l d l.length)]) ∧ ∃ n, w' = w.drewN n := by
  have h5 := stGood_len hg
  go_enter Try.func68, Try.ntmps68
  go_wp2
  go_loopw [6, 7, 8] (fun s t i wr => ∃ k : Nat, k ≤ l.length ∧ i = .int .i64 k ∧ s = .int .i64 (dA l d k) ∧ t = .int .i64 (dB l d k) ∧ Hid (∃ q, wr = w.drewN q)) (fun _ _ i _ => l.length - (intOf i).toNat)
  case atStart => exact ⟨0, Nat.zero_le _, rfl, vi (dA_zero l d).symm, vi (dB_zero l d).symm, (⟨0, rfl⟩ : ∃ q, w = w.drewN q)⟩
  case round =>
    obtain ⟨k, hk, rfl, rfl, rfl, HW⟩ := hrel
    by_cases hlt : k < l.length
    · obtain ⟨b, off, rfl⟩ := h.addr (by omega)
      have hs : Sl 2 St.enc wr (some ⟨b, off, none⟩) l := by obtain ⟨q, rfl⟩ := HW.out; exact h.below (bdrew (Below.refl _ _) _)
      obtain ⟨hbl, c0, c1⟩ := St.get hs hlt
      have b2 := stGood_at hg hlt
      have b3 := part_bd hg (d := d) hlt
      rw [← sp_of hlt] at c1
      have b4 := dstep hg (d := d) hlt
      go_wp2
      go_quiet ((first | (go_at_call 67; exact quiet_d (s6Part _ _ _ _ l _ (hs.below (bdrew (Below.refl _ _) _)) hg hlt hc hd0 hd)) | (go_at_call 59; exact quiet_d (specRed _ _ _ (by omega) (by omega) (by omega) (by omega)))))
      go_wp2
      go_roundw
      case rel => exact ⟨k + 1, by omega, by go_num, vi (dA_succ l d k).symm, vi (dB_succ l d k).symm, (by obtain ⟨q, rfl⟩ := HW.out; exact ⟨_, by rw [World.drewN_drewN]⟩ : ∃ q, _ = w.drewN q)⟩
      case measure => simp [intOf]; omega
    · obtain rfl : k = l.length := by omega
      go_wp2
      go_ret2
      exact ⟨rfl, HW.out⟩

theorem sDownTime (A : Option Addr) (c : Nat) (l : List St) (d : Int) (w : World) (h : Sl 2 St.enc w A l) (hn : l.length ≤ 1048576) (hc : l.length ≤ c) :
    Calls Try.prog 36 #[.slice A l.length c, .int .i64 d] w fun e w' => e = .returned (.tuple #[.int .i64 (dwN l d), .int .i64 (dwD l d), .bool (dwB l d)]) ∧ Below w.heap.size w w' := by
  unfold dwN dwD dwB
  rw [tot_def]
  by_cases g1 : stGood l = true
  · cases g2 : inB d 0 (totK l l.length) with
    | true =>
      have q1 := inB_true.1 g2
      have qb := tot_bd g1
      rw [tot_def] at qb
      rw [show (if stGood l && true then (dtN l d l.length).1 else 0) = dA l d l.length by rw [g1]; unfold dA; rfl, show (if stGood l && true then (dtN l d l.length).2 else 0) = dB l d l.length by rw [g1]; unfold dB; rfl, show (stGood l && true) = true by rw [g1]; rfl]
      have G1 := Lib.hid g1
      go_enter Try.func36, Try.ntmps36
      go_wp2_with (first | (go_at_call 51; refine (s6Good _ _ l _ h hn).mono ?_; rintro e w' ⟨rfl, rfl⟩; rw [G1.out]) | (go_at_call 55; refine (s6Total _ _ _ l _ h G1.out (Nat.le_refl _)).mono ?_; rintro e w' ⟨rfl, rfl⟩) | (go_at_call 58; refine (specIn _ _ _ _).mono ?_; rintro e w' ⟨rfl, rfl⟩) | (go_at_call 68; refine (s6Time _ _ d l _ h G1.out hc (by omega) (by omega)).mono ?_; rintro e w' ⟨rfl, q, rfl⟩))
      go_ret3
      exact ⟨rfl, bdrew (Below.refl _ _) _⟩
    | false =>
      rw [Bool.and_false]
      have G1 := Lib.hid g1
      clear g1
      go_enter Try.func36, Try.ntmps36
      go_wp2_with (first | (go_at_call 51; refine (s6Good _ _ l _ h hn).mono ?_; rintro e w' ⟨rfl, rfl⟩; rw [G1.out]) | (go_at_call 55; refine (s6Total _ _ _ l _ h G1.out (Nat.le_refl _)).mono ?_; rintro e w' ⟨rfl, rfl⟩) | (go_at_call 58; refine (specIn _ _ _ _).mono ?_; rintro e w' ⟨rfl, rfl⟩))
      go_ret3
      exact ⟨rfl, Below.refl _ _⟩
  · have g1' : stGood l = false := by simpa using g1
    rw [g1', Bool.false_and]
    go_enter Try.func36, Try.ntmps36
    go_wp2_with (go_at_call 51; refine (s6Good _ _ l _ h hn).mono ?_; rintro e w' ⟨rfl, rfl⟩; rw [g1'])
    go_ret3
    exact ⟨rfl, Below.refl _ _⟩
end Go.Proofs.Ytljpmccnppplgaa
