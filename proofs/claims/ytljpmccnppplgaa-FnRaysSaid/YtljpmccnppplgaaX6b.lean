/- Fractions of the program; RunTo, SlopeFor and DownTime of both texts: what they return. Lists of at most 1048576 layers. -/
import Derived.Test.YtljpmccnppplgaaX6a
import Derived.Test.YtljpmccnppplgaaMore
set_option linter.unusedVariables false
set_option linter.unusedSimpArgs false
namespace Go.Proofs.Ytljpmccnppplgaa
open Go.RowKit
set_option maxHeartbeats 1000000

theorem iAsPart (a b : Int) (w : World) (h1 : -9223372036854775807 ≤ a) (h2 : a ≤ 9223372036854775807) (h3 : 0 < b) (h4 : b ≤ 9223372036854775807) :
    Calls Try.prog 63 #[.int .i64 a, .int .i64 b] w fun e w' => e = .returned (.agg #[.int .i64 (redN a b), .int .i64 (redD a b)]) ∧ Below w.heap.size w w' := by
  go_enter Try.func63, Try.ntmps63
  go_wp2_with (go_at_call 61; refine (implLow _ _ _ h1 h2 h3 h4).mono ?_; rintro e w' ⟨rfl, q, rfl⟩)
  go_returns
  have hd : Below w.heap.size w ((w.alloc (.cells #[.int .i64 0, .int .i64 0] 63)).drewN q) := bdrew (below_alloc _ _) _
  exact ⟨rfl, (hd.setCell (p := ⟨w.heap.size, 0, none⟩) (Nat.le_refl _) _).setCell (p := ⟨w.heap.size, 1, none⟩) (Nat.le_refl _) _⟩
theorem iPlus (a b c d : Int) (w : World) (h1 : -9223372036854775807 ≤ a * d) (h2 : a * d ≤ 9223372036854775807) (h3 : -9223372036854775807 ≤ c * b) (h4 : c * b ≤ 9223372036854775807)
    (h5 : -9223372036854775807 ≤ a * d + c * b) (h6 : a * d + c * b ≤ 9223372036854775807) (h7 : 0 < b * d) (h8 : b * d ≤ 9223372036854775807) :
    Calls Try.prog 62 #[.agg #[.int .i64 a, .int .i64 b], .agg #[.int .i64 c, .int .i64 d]] w fun e w' => e = .returned (.agg #[.int .i64 (redN (a * d + c * b) (b * d)), .int .i64 (redD (a * d + c * b) (b * d))]) ∧ Below w.heap.size w w' := by
  go_enter Try.func62, Try.ntmps62
  go_wp2_with (fail)
  generalize hW : World.alloc _ _ = W1
  have hB : Below w.heap.size w W1 := by rw [← hW]; go_grown
  have hK : Bk W1 (w.heap.size + 1 + 1) [.int .i64 0, .int .i64 0] := by
    rw [← hW]
    have := Bk.new ((w.alloc (.cells #[.int .i64 a, .int .i64 b] 63)).alloc (.cells #[.int .i64 c, .int .i64 d] 63)) [.int .i64 0, .int .i64 0] 63
    simpa using this
  have hg0 : w.heap.size ≤ w.heap.size + 1 + 1 := by omega
  clear hW
  generalize w.heap.size + 1 + 1 = g at *
  refine (iAsPart _ _ _ h5 h6 h7 h8).mono ?_
  rintro e w2 ⟨rfl, b2⟩
  have hK2 := hK.below b2
  have c0 : w2.cell? ⟨g, 0, none⟩ = _ := hK2.2.1 0 _ rfl
  have c1 : w2.cell? ⟨g, 1, none⟩ = _ := hK2.2.1 1 _ rfl
  have f0 := hK2.2.2 0
  have f1 := hK2.2.2 1
  have hK3 := hK2.put [.int .i64 (redN (a * d + c * b) (b * d)), .int .i64 (redD (a * d + c * b) (b * d))] rfl
  have b3 := bset (bth hB b2) hg0 [.int .i64 (redN (a * d + c * b) (b * d)), .int .i64 (redD (a * d + c * b) (b * d))] 0
  go_wp2_with (fail)
  generalize hW : World.setCell (World.setCell w2 _ _) _ _ = W3
  have hK4 : Bk W3 g [.int .i64 (redN (a * d + c * b) (b * d)), .int .i64 (redD (a * d + c * b) (b * d))] := by rw [← hW]; exact hK3
  have b4 : Below w.heap.size w W3 := by rw [← hW]; exact b3
  clear hW hK3 b3
  have e0 : W3.cell? ⟨g, 0, none⟩ = _ := hK4.2.1 0 _ rfl
  have e1 : W3.cell? ⟨g, 1, none⟩ = _ := hK4.2.1 1 _ rfl
  exact bodyPost_ret (v := .agg #[.int .i64 (redN (a * d + c * b) (b * d)), .int .i64 (redD (a * d + c * b) (b * d))]) (by simp [results, Try.results62, go_sem, e0, e1]) rfl ⟨rfl, b4⟩

theorem i6WeightCut (A : Option Addr) (c : Nat) (d : Int) (l : List St) (w : World) (hg : stGood l = true) (h : Sl 2 St.enc w A (cutL l d)) :
    Calls Try.prog 65 #[.slice A l.length c] w fun e w' => e = .returned (.int .i64 (sumK l d l.length)) ∧ Below w.heap.size w w' := by
  have h5 := stGood_len hg
  have := i6Weight A c (cutL l d) w h (by rw [cutL_length]; omega) (fun k hk => by
    rw [cutL_length] at hk
    have b2 := stGood_at hg hk
    have b3 := part_bd hg (d := d) hk
    rw [th_cut hk, sp_cut hk]; omega)
  rwa [cutL_length, wK_cut _ (Nat.le_refl _)] at this

@[irreducible] def rtOk (l : List St) (n d z : Int) : Bool := stGood l && slopeOk n d && inB z 0 (tot l)
theorem rtOk_def (l : List St) (n d z : Int) : rtOk l n d z = (stGood l && slopeOk n d && inB z 0 (tot l)) := by unfold rtOk; rfl
@[irreducible] def rtN (l : List St) (n d z : Int) : Int := if rtOk l n d z then redN (n * sumK l z l.length) (d * sp l 0) else 0
@[irreducible] def rtD (l : List St) (n d z : Int) : Int := if rtOk l n d z then redD (n * sumK l z l.length) (d * sp l 0) else 0
@[irreducible] def rtB (l : List St) (n d z : Int) : Bool := rtOk l n d z
theorem sRunTo (A : Option Addr) (c : Nat) (l : List St) (n d z : Int) (w : World) (h : Sl 2 St.enc w A l) (hn : l.length ≤ 1048576) (hc : l.length ≤ c) :
    Calls Try.prog 38 #[.slice A l.length c, .int .i64 n, .int .i64 d, .int .i64 z] w fun e w' => e = .returned (.tuple #[.int .i64 (rtN l n d z), .int .i64 (rtD l n d z), .bool (rtB l n d z)]) ∧ Below w.heap.size w w' := by
  unfold rtN rtD rtB
  cases g : rtOk l n d z with
  | true =>
    simp only [if_true]
    rw [rtOk_def, Bool.and_eq_true, Bool.and_eq_true] at g
    obtain ⟨⟨g1, g2⟩, g3⟩ := g
    have g12 : (stGood l && slopeOk n d) = true := by rw [g1, g2]; rfl
    obtain ⟨b, off, rfl⟩ := h.addr (by have := stGood_len g1; omega)
    have h5 := stGood_len g1
    have hpos : (0 : Int) < (l.length : Int) := by omega
    have hposN : 0 < l.length := by omega
    have hposE : l ≠ [] := List.ne_nil_of_length_pos hposN
    have q1 := slopeOk_bd g2
    have q3 := stGood_at g1 (show 0 < l.length by omega)
    have qz := inB_true.1 g3
    have qt := tot_bd g1
    have qs := sumK_bd g1 (d := z) l.length (Nat.le_refl _)
    have p1 := mul_bd q1.1 q1.2.1 qs.1 (show sumK l z l.length ≤ 42500000 by omega)
    have p2 := mul_bd (show 0 ≤ d by omega) q1.2.2.2.1 (show 0 ≤ sp l 0 by omega) q3.2.2.2
    have p3 := Int.mul_pos (show 0 < d by omega) (show 0 < sp l 0 by omega)
    have wr1 : IntKind.i64.wrap (n * sumK l z l.length) = n * sumK l z l.length := IntWalk.i64_in _ (by omega)
    have wr2 : IntKind.i64.wrap (d * sp l 0) = d * sp l 0 := IntWalk.i64_in _ (by omega)
    obtain ⟨hbl, _, d1⟩ := St.get h (show 0 < l.length by omega)
    rw [← sp_of (show 0 < l.length by omega), Nat.zero_mul, Nat.add_zero] at d1
    rw [tot_def] at g3
    go_enter Try.func38, Try.ntmps38
    go_wp2_with (first | (go_at_call 57; refine (s6Slope' _ _ l _ _ _ h hn).mono ?_; rintro e w' ⟨rfl, rfl⟩; rw [g12]) | (go_at_call 55; refine (s6Total _ _ _ l _ h g1 (Nat.le_refl _)).mono ?_; rintro e w' ⟨rfl, rfl⟩) | (go_at_call 58; refine (specIn _ _ _ _).mono ?_; rintro e w' ⟨rfl, rfl⟩))
    go_quiet ((first | (go_at_call 64; exact quiet_d (s6Sum _ _ _ l _ (h.below (bdrew (Below.refl _ _) _)) g1 hc (by omega) (by omega))) | (go_at_call 59; exact quiet_d (specRed _ _ _ (by omega) (by omega) (by omega) (by omega)))))
    go_wp2
    go_ret3
    exact ⟨rfl, bdrew (Below.refl _ _) _⟩
  | false =>
    rw [rtOk_def, Bool.and_eq_false_iff] at g
    by_cases g12 : (stGood l && slopeOk n d) = true
    · have g3 : inB z 0 (totK l l.length) = false := by
        rw [← tot_def]
        rcases g with h | h
        · rw [h] at g12; cases g12
        · exact h
      have g1 : stGood l = true := (Bool.and_eq_true_iff.1 g12).1
      clear g
      have G1 := Lib.hid g1
      clear g1
      go_enter Try.func38, Try.ntmps38
      go_wp2_with (first | (go_at_call 57; refine (s6Slope' _ _ l _ _ _ h hn).mono ?_; rintro e w' ⟨rfl, rfl⟩; rw [g12]) | (go_at_call 55; refine (s6Total _ _ _ l _ h G1.out (Nat.le_refl _)).mono ?_; rintro e w' ⟨rfl, rfl⟩) | (go_at_call 58; refine (specIn _ _ _ _).mono ?_; rintro e w' ⟨rfl, rfl⟩))
      go_ret3
      exact ⟨rfl, Below.refl _ _⟩
    · have g12' : (stGood l && slopeOk n d) = false := by simpa using g12
      clear g
      go_enter Try.func38, Try.ntmps38
      go_wp2_with (go_at_call 57; refine (s6Slope' _ _ l _ _ _ h hn).mono ?_; rintro e w' ⟨rfl, rfl⟩; rw [g12'])
      go_ret3
      exact ⟨rfl, Below.refl _ _⟩

theorem iRunTo (A : Option Addr) (c : Nat) (l : List St) (n d z : Int) (w : World) (h : Sl 2 St.enc w A l) (hn : l.length ≤ 1048576) :
    Calls Try.prog 39 #[.slice A l.length c, .int .i64 n, .int .i64 d, .int .i64 z] w fun e w' => e = .returned (.tuple #[.int .i64 (rtN l n d z), .int .i64 (rtD l n d z), .bool (rtB l n d z)]) ∧ Below w.heap.size w w' := by
  unfold rtN rtD rtB
  cases g : rtOk l n d z with
  | true =>
    simp only [if_true]
    rw [rtOk_def, Bool.and_eq_true, Bool.and_eq_true] at g
    obtain ⟨⟨g1, g2⟩, g3⟩ := g
    have g12 : (stGood l && slopeOk n d) = true := by rw [g1, g2]; rfl
    obtain ⟨b, off, rfl⟩ := h.addr (by have := stGood_len g1; omega)
    have h5 := stGood_len g1
    have hpos : (0 : Int) < (l.length : Int) := by omega
    have hposN : 0 < l.length := by omega
    have hposE : l ≠ [] := List.ne_nil_of_length_pos hposN
    have q1 := slopeOk_bd g2
    have q3 := stGood_at g1 (show 0 < l.length by omega)
    have qz := inB_true.1 g3
    have qt := tot_bd g1
    have qs := sumK_bd g1 (d := z) l.length (Nat.le_refl _)
    have p1 := mul_bd q1.1 q1.2.1 qs.1 (show sumK l z l.length ≤ 42500000 by omega)
    have p2 := mul_bd (show 0 ≤ d by omega) q1.2.2.2.1 (show 0 ≤ sp l 0 by omega) q3.2.2.2
    have p3 := Int.mul_pos (show 0 < d by omega) (show 0 < sp l 0 by omega)
    have wr1 : IntKind.i64.wrap (n * sumK l z l.length) = n * sumK l z l.length := IntWalk.i64_in _ (by omega)
    have wr2 : IntKind.i64.wrap (d * sp l 0) = d * sp l 0 := IntWalk.i64_in _ (by omega)
    have g13 : (stGood l && inB z 0 (tot l)) = true := by rw [g1, g3]; rfl
    have KS : ∀ w1 w', Below w.heap.size w w1 → Below w1.heap.size w1 w' → Below w1.heap.size w1 w' ∧ w'.cell? ⟨b, off + 1, none⟩ = some (.int .i64 (sp l 0)) := fun w1 w' b1 b2 => by
      obtain ⟨hbl, _, d1⟩ := St.get (h.below (bth b1 b2)) (show 0 < l.length by omega)
      rw [← sp_of (show 0 < l.length by omega), Nat.zero_mul, Nat.add_zero] at d1
      exact ⟨b2, d1⟩
    have KS := Lib.hid KS
    go_enter Try.func39, Try.ntmps39
    go_wp2_with (fail)
    refine (i6Down _ _ z l _ h hn).mono ?_; rintro e w1 ⟨rfl, b1⟩; rw [g13]
    have KT := Lib.hid (fun w' => KS.out w1 w' b1)
    clear KS
    go_wp2_with (go_at_call 60; refine (i6Slope' _ _ _).mono ?_; rintro e w' ⟨rfl, rfl⟩)
    go_region_held3 (fun w' => Below w1.heap.size w1 w' ∧ w'.cell? ⟨b, off + 1, none⟩ = some (.int .i64 (sp l 0)))
      (first | assumption | exact KT.out _ (Below.refl _ _).drew | (refine KT.out _ ?_; assumption) | (refine KT.out _ (bth (b := ?_) ?_ ?_); rotate_left 2; assumption; assumption) | (refine KT.out _ (bth (b := ?_) (And.left (b := ?_) ?_) ?_); rotate_left 3; assumption; rotate_left; assumption) | (refine KT.out _ (bdrew ?_ _); assumption) | (refine KT.out _ (bdrew (And.left (b := ?_) ?_) _); rotate_left; assumption))
      (first
        | (go_at_call 70; refine (i6Above _ _ z l _ ?_ g1 (by omega) (by omega)).mono ?_; exact h.below (bth b1 (And.left (by assumption))); rintro e w' ⟨B, c', rfl, hb', hs', _⟩)
        | (go_at_call 65; refine (i6WeightCut _ _ z l _ g1 ?_).mono ?_; assumption; rintro e w' ⟨rfl, hb'⟩)
        | (go_at_call 61; refine (implLow _ _ _ (by omega) (by omega) (by omega) (by omega)).mono ?_; rintro e w' ⟨rfl, q, rfl⟩))
    all_goals
      go_wp2
      go_ret3
      refine ⟨rfl, bth b1 ?_⟩
      first | exact And.left (by assumption) | exact bdrew (And.left (by assumption)) _
  | false =>
    rw [rtOk_def] at g
    by_cases g13 : (stGood l && inB z 0 (tot l)) = true
    · have g2 : slopeOk n d = false := by
        rw [Bool.and_eq_true] at g13
        rw [g13.1, g13.2] at g
        simpa using g
      clear g
      go_enter Try.func39, Try.ntmps39
      go_wp2_with (fail)
      refine (i6Down _ _ z l _ h hn).mono ?_; rintro e w1 ⟨rfl, b1⟩; rw [g13]
      go_wp2_with (go_at_call 60; refine (i6Slope' _ _ _).mono ?_; rintro e w' ⟨rfl, rfl⟩)
      go_ret3
      exact ⟨rfl, b1⟩
    · have g13' : (stGood l && inB z 0 (tot l)) = false := by simpa using g13
      clear g
      go_enter Try.func39, Try.ntmps39
      go_wp2_with (fail)
      refine (i6Down _ _ z l _ h hn).mono ?_; rintro e w1 ⟨rfl, b1⟩; rw [g13']
      go_wp2_with (fail)
      go_ret3
      exact ⟨rfl, b1⟩
end Go.Proofs.Ytljpmccnppplgaa
