/- DoAgree, AllAgree, MeanDepth of both texts: what they return. Lists of at most 1048576 soundings. -/
import Derived.Test.YtllionelhbjadaaDoorW8c
set_option linter.unusedVariables false
set_option linter.unusedSimpArgs false
namespace Go.Proofs.YtllionelhbjadaaDoor
open Go.RowKit
set_option maxHeartbeats 2000000
theorem specLow (x : Sd) (w : World) (hx : sdOk x = true) :
    Calls Tryd.prog 45 #[.agg #[.int .i64 x.id, .int .i64 x.x, .int .i64 x.y, .int .i64 x.depth, .int .i64 x.doubt]] w fun e w' => e = .returned (.int .i64 (x.depth - x.doubt)) ∧ Below w.heap.size w w' := by
  have := sdOk_bd hx
  go_enter Tryd.func45, Tryd.ntmps45
  go_wp2
  go_ret
  exact ⟨rfl, by go_grown⟩
theorem specHigh (x : Sd) (w : World) (hx : sdOk x = true) :
    Calls Tryd.prog 46 #[.agg #[.int .i64 x.id, .int .i64 x.x, .int .i64 x.y, .int .i64 x.depth, .int .i64 x.doubt]] w fun e w' => e = .returned (.int .i64 (x.depth + x.doubt)) ∧ Below w.heap.size w w' := by
  have := sdOk_bd hx
  go_enter Tryd.func46, Tryd.ntmps46
  go_wp2
  go_ret
  exact ⟨rfl, by go_grown⟩
theorem implLeast (x : Sd) (w : World) (hx : sdOk x = true) :
    Calls Tryd.prog 43 #[.agg #[.int .i64 x.id, .int .i64 x.x, .int .i64 x.y, .int .i64 x.depth, .int .i64 x.doubt]] w fun e w' => e = .returned (.int .i64 (x.depth - x.doubt)) ∧ Below w.heap.size w w' := by
  have := sdOk_bd hx
  go_enter Tryd.func43, Tryd.ntmps43
  go_wp2
  go_ret
  exact ⟨rfl, by go_grown⟩
theorem sAgree (A : Option Addr) (c : Nat) (l : List Sd) (a b : Int) (w : World) (h : Sl 5 Sd.enc w A l) (hn : l.length ≤ 1048576) :
    Calls Tryd.prog 23 #[.slice A l.length c, .int .i64 a, .int .i64 b] w fun e w' => e = .returned (.tuple #[.bool (agB l a b), .bool (agOk l a b)]) ∧ Below w.heap.size w w' := by
  go_enter Tryd.func23, Tryd.ntmps23
  go_wp2_with (fail)
  refine (s8Find _ _ a l _ h hn).mono ?_; rintro e w' ⟨rfl, rfl⟩
  go_wp2_with (fail)
  refine (s8Find _ _ b l _ h hn).mono ?_; rintro e w' ⟨rfl, rfl⟩
  go_wp2_with (fail)
  refine (s8Good _ _ l _ h hn).mono ?_; rintro e w1 ⟨rfl, b1⟩
  cases g : sdGood l with
  | false =>
    obtain ⟨e1, e2⟩ := ag_bad (a := a) (b := b) (.inl g)
    have E1 := Lib.hid e1
    have E2 := Lib.hid e2
    clear e1 e2 g
    go_wp2
    go_ret2
    exact ⟨ret_t2 (vb E2.out.symm) (vb E1.out.symm), b1⟩
  | true =>
    rcases fnd_cases (isId a) l with hi | ⟨i, hil, hi, -, -⟩
    · obtain ⟨e1, e2⟩ := ag_bad (a := a) (b := b) (.inr (.inl hi))
      have E1 := Lib.hid e1
      have E2 := Lib.hid e2
      rw [hi]
      clear e1 e2 g hi
      go_wp2
      go_ret2
      exact ⟨ret_t2 (vb E2.out.symm) (vb E1.out.symm), b1⟩
    · rcases fnd_cases (isId b) l with hk | ⟨k, hkl, hk, -, -⟩
      · obtain ⟨e1, e2⟩ := ag_bad (a := a) (b := b) (.inr (.inr hk))
        have E1 := Lib.hid e1
        have E2 := Lib.hid e2
        rw [hi, hk]
        clear e1 e2 g hi hk
        go_wp2
        go_ret2
        exact ⟨ret_t2 (vb E2.out.symm) (vb E1.out.symm), b1⟩
      · obtain ⟨e1, e2⟩ := ag_good (a := a) (b := b) g hi hk hil hkl
        have E1 := Lib.hid e1
        have E2 := Lib.hid e2
        rw [hi, hk]
        clear e1 e2 hi hk
        have gi := sdGood_at g hil
        have gk := sdGood_at g hkl
        clear g
        have h := h.below b1
        obtain ⟨bl, off, rfl⟩ := h.addr (by omega)
        obtain ⟨hbl, c0, c1, c2, c3, c4⟩ := Sd.get h hil
        obtain ⟨_, d0, d1, d2, d3, d4⟩ := Sd.get h hkl
        have hA := aft_cell hbl
        have u1 : (0 : Int) ≤ (i : Int) := by omega
        have u2 : (i : Int) < (l.length : Int) := by omega
        have u3 : (0 : Int) ≤ (k : Int) := by omega
        have u4 : (k : Int) < (l.length : Int) := by omega
        go_wp2_with (fail)
        refine wp_region_aft (by kernel_rfl) (by kernel_rfl) ?_
        repeat (go_big_quiet_step ((first | (go_at_call 45; exact Aft.calls _ (specLow _ _ (by assumption))) | (go_at_call 46; exact Aft.calls _ (specHigh _ _ (by assumption))) | (go_at_call 47; exact Aft.pure _ (specMost _ _ _)) | (go_at_call 48; exact Aft.pure _ (specLeast _ _ _)))))
        refine wpQuiet_nil ?_
        intro w9 b9
        go_wp2
        go_ret2
        exact ⟨ret_t2 (vb E2.out.symm) (vb E1.out.symm), bth b1 b9⟩
theorem iAgree (A : Option Addr) (c : Nat) (l : List Sd) (a b : Int) (w : World) (h : Sl 5 Sd.enc w A l) (hn : l.length ≤ 1048576) :
    Calls Tryd.prog 21 #[.slice A l.length c, .int .i64 a, .int .i64 b] w fun e w' => e = .returned (.tuple #[.bool (agB l a b), .bool (agOk l a b)]) ∧ Below w.heap.size w w' := by
  go_enter Tryd.func21, Tryd.ntmps21
  go_wp2_with (fail)
  refine (i8Find _ _ a l _ h hn).mono ?_; rintro e w1 ⟨rfl, b1⟩
  go_wp2_with (fail)
  refine (i8Find _ _ b l _ (h.below b1) hn).mono ?_; rintro e w2 ⟨rfl, b2⟩
  have b2 := bth b1 b2
  go_wp2_with (fail)
  refine (i8Good _ _ l _ (h.below b2) hn).mono ?_; rintro e w3 ⟨rfl, b3⟩
  have b3 := bth b2 b3
  cases g : sdGood l with
  | false =>
    obtain ⟨e1, e2⟩ := ag_bad (a := a) (b := b) (.inl g)
    have E1 := Lib.hid e1
    have E2 := Lib.hid e2
    clear e1 e2 g
    go_wp2
    go_ret2
    exact ⟨ret_t2 (vb E2.out.symm) (vb E1.out.symm), b3⟩
  | true =>
    rcases fnd_cases (isId a) l with hi | ⟨i, hil, hi, -, -⟩
    · obtain ⟨e1, e2⟩ := ag_bad (a := a) (b := b) (.inr (.inl hi))
      have E1 := Lib.hid e1
      have E2 := Lib.hid e2
      rw [hi]
      clear e1 e2 g hi
      go_wp2
      go_ret2
      exact ⟨ret_t2 (vb E2.out.symm) (vb E1.out.symm), b3⟩
    · rcases fnd_cases (isId b) l with hk | ⟨k, hkl, hk, -, -⟩
      · obtain ⟨e1, e2⟩ := ag_bad (a := a) (b := b) (.inr (.inr hk))
        have E1 := Lib.hid e1
        have E2 := Lib.hid e2
        rw [hi, hk]
        clear e1 e2 g hi hk
        go_wp2
        go_ret2
        exact ⟨ret_t2 (vb E2.out.symm) (vb E1.out.symm), b3⟩
      · obtain ⟨e1, e2⟩ := ag_good (a := a) (b := b) g hi hk hil hkl
        rw [← ag_abs (sdGood_at g hil) (sdGood_at g hkl)] at e2
        have E1 := Lib.hid e1
        have E2 := Lib.hid e2
        rw [hi, hk]
        clear e1 e2 hi hk
        have gi := sdOk_bd (sdGood_at g hil)
        have gk := sdOk_bd (sdGood_at g hkl)
        clear g
        have h := h.below b3
        obtain ⟨bl, off, rfl⟩ := h.addr (by omega)
        obtain ⟨hbl, _, _, _, c3, c4⟩ := Sd.get h hil
        obtain ⟨_, _, _, _, d3, d4⟩ := Sd.get h hkl
        have hA := aft_cell hbl
        have u1 : (0 : Int) ≤ (i : Int) := by omega
        have u2 : (i : Int) < (l.length : Int) := by omega
        have u3 : (0 : Int) ≤ (k : Int) := by omega
        have u4 : (k : Int) < (l.length : Int) := by omega
        have v1 : -9223372036854775807 ≤ l[i].depth - l[k].depth := by omega
        have v2 : l[i].depth - l[k].depth ≤ 9223372036854775807 := by omega
        have u5 : IntKind.i64.wrap (l[i].depth - l[k].depth) = l[i].depth - l[k].depth := IntWalk.i64_in _ (by omega)
        have u6 : IntKind.i64.wrap (l[i].doubt + l[k].doubt) = l[i].doubt + l[k].doubt := IntWalk.i64_in _ (by omega)
        go_wp2_with (fail)
        refine wp_region_aft (by kernel_rfl) (by kernel_rfl) ?_
        repeat (go_big_quiet_step ((go_at_call 50; exact Aft.pure _ (implAbs _ _ v1 v2))))
        refine wpQuiet_nil ?_
        intro w9 b9
        go_wp2
        go_ret2
        exact ⟨ret_t2 (vb E2.out.symm) (vb E1.out.symm), bth b3 b9⟩

theorem sAll (A : Option Addr) (c : Nat) (l : List Sd) (w : World) (h : Sl 5 Sd.enc w A l) (hn : l.length ≤ 1048576) :
    Calls Tryd.prog 18 #[.slice A l.length c] w fun e w' => e = .returned (.tuple #[.int .i64 (aaL l), .int .i64 (aaH l), .bool (aaOk l)]) ∧ Below w.heap.size w w' := by
  go_enter Tryd.func18, Tryd.ntmps18
  go_wp2_with (fail)
  refine (s8Good _ _ l _ h hn).mono ?_; rintro e w1 ⟨rfl, b1⟩
  cases g : sdGood l with
  | false =>
    obtain ⟨e1, e2, e3⟩ := aa_bad (.inl g)
    have E1 := Lib.hid e1
    have E2 := Lib.hid e2
    have E3 := Lib.hid e3
    clear e1 e2 e3 g
    go_wp2
    go_ret3
    exact ⟨ret_t3 (vi E2.out.symm) (vi E3.out.symm) (vb E1.out.symm), b1⟩
  | true =>
    by_cases h0 : l.length = 0
    · obtain ⟨e1, e2, e3⟩ := aa_bad (.inr (.inl h0))
      have E1 := Lib.hid e1
      have E2 := Lib.hid e2
      have E3 := Lib.hid e3
      clear e1 e2 e3 g
      go_wp2
      go_ret3
      exact ⟨ret_t3 (vi E2.out.symm) (vi E3.out.symm) (vb E1.out.symm), b1⟩
    · have h0' : 0 < l.length := by omega
      have G := Lib.hid g
      have h := h.below b1
      obtain ⟨bl, off, rfl⟩ := h.addr h0'
      obtain ⟨hbl, c0, c1, c2, c3, c4⟩ := Sd.get h h0'
      have hA := aft_cell hbl
      have g0 := sdGood_at g h0'
      have L0 := Lib.hid (show lowK l 1 = l[0].depth - l[0].doubt by rw [lowK_one, lowK, sdi_of h0'])
      have H0 := Lib.hid (show highK l 1 = l[0].depth + l[0].doubt by rw [highK_one, highK, sdi_of h0'])
      have h12 := sdGood_len g
      clear g
      have u0 : ((l.length : Int) == 0) = false := by rw [beq_eq_false_iff_ne]; omega
      simp only [Nat.zero_mul, Nat.add_zero] at c0 c1 c2 c3 c4
      have u1 : (0 : Int) < (l.length : Int) := by omega
      go_wp2_with (fail)
      refine wp_region_aft (by kernel_rfl) (by kernel_rfl) ?_
      repeat (go_big_quiet_step ((first | (go_at_call 45; exact Aft.calls _ (specLow _ _ (by assumption))) | (go_at_call 46; exact Aft.calls _ (specHigh _ _ (by assumption))))))
      refine wpQuiet_nil ?_
      intro w9 b9
      clear c0 c1 c2 c3 c4 hA g0
      go_wp2
      go_loopw [5, 6, 7] (fun x y i wr => ∃ k : Nat, 1 ≤ k ∧ k ≤ l.length ∧ i = .int .i64 k ∧ x = .int .i64 (lowK l k) ∧ y = .int .i64 (highK l k) ∧ Below w1.heap.size w1 wr) (fun _ _ i _ => l.length - (intOf i).toNat)
      case atStart => exact ⟨1, by omega, by omega, rfl, vi L0.out.symm, vi H0.out.symm, b9⟩
      case round =>
        obtain ⟨k, hk1, hk, rfl, rfl, rfl, hb⟩ := hrel
        by_cases hlt : k < l.length
        · obtain ⟨hbl, c0, c1, c2, c3, c4⟩ := Sd.get (h.below hb) hlt
          have gk := sdGood_at G.out hlt
          have L1 := Lib.hid (show lowK l (k + 1) = max (lowK l k) (l[k].depth - l[k].doubt) by rw [lowK, sdi_of hlt])
          have H1 := Lib.hid (show highK l (k + 1) = min (highK l k) (l[k].depth + l[k].doubt) by rw [highK, sdi_of hlt])
          go_wp2_with (fail)
          refine (specLow l[k] _ gk).mono ?_; rintro e w2 ⟨rfl, b2⟩
          obtain ⟨q0, -⟩ := bcell b2
          go_wp2_with (first | (go_at_call 47; refine (specMost _ _ _).mono ?_; rintro e w' ⟨rfl, rfl⟩) | (go_at_call 48; refine (specLeast _ _ _).mono ?_; rintro e w' ⟨rfl, rfl⟩) | (go_at_call 46; refine (specHigh l[k] _ gk).mono ?_; rintro e w3 ⟨rfl, b3⟩))
          go_roundw
          case rel => exact ⟨k + 1, by omega, by omega, by go_num, vi L1.out.symm, vi H1.out.symm, bth (bth hb b2) b3⟩
          case measure => simp [intOf]; omega
        · obtain rfl : k = l.length := by omega
          by_cases hx : lowK l l.length ≤ highK l l.length
          · obtain ⟨e1, e2, e3⟩ := aa_good G.out h0' hx
            have E1 := Lib.hid e1
            have E2 := Lib.hid e2
            have E3 := Lib.hid e3
            clear e1 e2 e3
            go_wp2
            go_ret3
            exact ⟨ret_t3 (vi E2.out.symm) (vi E3.out.symm) (vb E1.out.symm), bth b1 hb⟩
          · obtain ⟨e1, e2, e3⟩ := aa_bad (.inr (.inr (show highK l l.length < lowK l l.length by omega)))
            have E1 := Lib.hid e1
            have E2 := Lib.hid e2
            have E3 := Lib.hid e3
            clear e1 e2 e3
            go_wp2
            go_ret3
            exact ⟨ret_t3 (vi E2.out.symm) (vi E3.out.symm) (vb E1.out.symm), bth b1 hb⟩
end Go.Proofs.YtllionelhbjadaaDoor
