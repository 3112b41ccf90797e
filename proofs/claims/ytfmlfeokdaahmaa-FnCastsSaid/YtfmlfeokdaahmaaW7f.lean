/- MeanSpeed of both texts: what it returns. At most 1048576 layers. -/
import Derived.Test.YtfmlfeokdaahmaaW7e
set_option linter.unusedVariables false
set_option linter.unusedSimpArgs false
namespace Go.Proofs.Ytfmlfeokdaahmaa
open Go.RowKit
set_option maxHeartbeats 2000000
set_option maxRecDepth 100000
theorem iMeanSp (t : Ct) (A : Option Addr) (c : Nat) (d : Int) (w : World) (h : Sl 2 Ly.enc w A t.lay) (hn : t.lay.length ≤ 1048576) :
    Calls Try.prog 38 #[.agg #[.int .i64 t.id, .int .i64 t.time, .int .i64 t.x, .int .i64 t.y, .slice A t.lay.length c], .int .i64 d] w fun e w' => e = .returned (.tuple #[.int .i64 (msN t d), .int .i64 (msD t d), .bool (msOk t d)]) ∧ Below w.heap.size w w' := by
  go_enter Try.func38, Try.ntmps38
  go_wp2_with (fail)
  generalize hW : World.alloc w _ = W1
  obtain ⟨bW, kW, _⟩ := alloc_facts hW
  clear hW
  refine (i7One t A c _ (h.below bW) hn).mono ?_; rintro e w1 ⟨rfl, b1⟩
  have k1 := kW.below b1
  have b1 := bth bW b1
  clear kW
  cases g : ctOk t with
  | false =>
    obtain ⟨e1, e2, e3⟩ := ms_bad (d := d) (.inl g)
    have E1 := Lib.hid e1
    have E2 := Lib.hid e2
    have E3 := Lib.hid e3
    clear e1 e2 e3 g
    go_wp2
    go_ret3
    exact ⟨ret_t3 (vi E2.out.symm) (vi E3.out.symm) (vb E1.out.symm), b1⟩
  | true =>
    have q1 := ctOk_bd g
    have QG := Lib.hid q1.2.2.2.2.2.2.2
    have q8 := q1.2.2.2.2.2.2.1
    have G0 := Lib.hid g
    clear g q1
    go_wp2_with (fail)
    refine (implIn d 1 20000 _).mono ?_; rintro e w' ⟨rfl, rfl⟩
    cases g2 : inB d 1 20000 with
    | false =>
      obtain ⟨e1, e2, e3⟩ := ms_bad (t := t) (.inr g2)
      have E1 := Lib.hid e1
      have E2 := Lib.hid e2
      have E3 := Lib.hid e3
      clear e1 e2 e3 g2
      go_wp2
      go_ret3
      exact ⟨ret_t3 (vi E2.out.symm) (vi E3.out.symm) (vb E1.out.symm), b1⟩
    | true =>
      obtain ⟨e1, e2, e3⟩ := ms_good G0.out g2
      have E1 := Lib.hid e1
      have E2 := Lib.hid e2
      have E3 := Lib.hid e3
      have qd := inB_true.1 g2
      have qd0 : 0 ≤ d := by omega
      have qd1 : d ≤ 20001 := by omega
      have TL := Lib.hid (thkL_len t.lay d)
      have h := h.below b1
      clear e1 e2 e3 g2
      have n0 := k1.2.1 0 _ rfl
      have n1 := k1.2.1 1 _ rfl
      have n2 := k1.2.1 2 _ rfl
      have n3 := k1.2.1 3 _ rfl
      have n4 := k1.2.1 4 _ rfl
      go_wp2_with (fail)
      refine (i7Thick t A c d _ h QG.out q8 qd0 qd1).mono ?_; rintro e w2 ⟨A2, c2, rfl, f2⟩
      rw [TL.out]
      have k2 := k1.below f2.1
      have hb := bth b1 f2.1
      have hs := h.below f2.1
      have f2s := f2.2.1
      have r4 := k2.2.1 4 _ rfl
      clear n0 n1 n2 n3 n4 k1 k2 f2 h
      go_wp2
      go_loop [7, 24] (fun s i => ∃ k : Nat, k ≤ t.lay.length ∧ i = .int .i64 k ∧ s = .int .i64 (wgtK t.lay d k)) (fun _ i => t.lay.length - (intOf i).toNat)
      case atStart => exact ⟨0, Nat.zero_le _, rfl, rfl⟩
      case round =>
        obtain ⟨k, hk, rfl, rfl⟩ := hrel
        have T2 := wgtK_bd qd0 qd1 QG.out k (by omega)
        by_cases hlt : k < t.lay.length
        · obtain ⟨b, off, rfl⟩ := hs.addr (by omega)
          obtain ⟨hbl, c0, c1⟩ := Ly.get hs hlt
          have hlt2 : k < (thkL t.lay d).length := by rw [TL.out]; exact hlt
          obtain ⟨b2, off2, rfl⟩ := f2s.addr (by omega)
          obtain ⟨hbl2, e0⟩ := getI f2s hlt2
          rw [thkL_get] at e0
          have bk := lyAt_bd hlt (lyGood_at QG.out hlt)
          have T1 := thk_bd qd0 qd1 QG.out hlt
          have T3 := Int.mul_nonneg T1.1 (show 0 ≤ t.lay[k].spd by omega)
          have T4 : thk t.lay d k * t.lay[k].spd ≤ 20001 * 16000 := Int.mul_le_mul T1.2 (by omega) (by omega) (by omega)
          have HN := Lib.hid (show wgtK t.lay d (k + 1) = wgtK t.lay d k + thk t.lay d k * t.lay[k].spd by rw [wgtK, lyi_of hlt])
          clear hlt2
          go_wp2
          go_round
          case rel => exact ⟨k + 1, by omega, by go_num, vi HN.out.symm⟩
          case measure => simp [intOf]; omega
        · obtain rfl : k = t.lay.length := by omega
          go_wp2_with (go_at_call 78; refine (implLow _ _ _ (by omega) (by omega) (by omega) (by omega)).mono ?_; rintro e w3 ⟨rfl, q, rfl⟩)
          go_ret3
          exact ⟨ret_t3 (vi E2.out.symm) (vi E3.out.symm) (vb E1.out.symm), bdrew hb q⟩
theorem sMeanSp (t : Ct) (A : Option Addr) (c : Nat) (d : Int) (w : World) (h : Sl 2 Ly.enc w A t.lay) (hn : t.lay.length ≤ 1048576) :
    Calls Try.prog 37 #[.agg #[.int .i64 t.id, .int .i64 t.time, .int .i64 t.x, .int .i64 t.y, .slice A t.lay.length c], .int .i64 d] w fun e w' => e = .returned (.tuple #[.int .i64 (msN t d), .int .i64 (msD t d), .bool (msOk t d)]) ∧ Below w.heap.size w w' := by
  go_enter Try.func37, Try.ntmps37
  go_wp2_with (fail)
  generalize hW : World.alloc w _ = W1
  obtain ⟨bW, kW, _⟩ := alloc_facts hW
  clear hW
  refine (s7One t A c _ (h.below bW) hn).mono ?_; rintro e w1 ⟨rfl, b1⟩
  have k1 := kW.below b1
  have b1 := bth bW b1
  clear kW
  cases g : ctOk t with
  | false =>
    obtain ⟨e1, e2, e3⟩ := ms_bad (d := d) (.inl g)
    have E1 := Lib.hid e1
    have E2 := Lib.hid e2
    have E3 := Lib.hid e3
    clear e1 e2 e3 g
    go_wp2
    go_ret3
    exact ⟨ret_t3 (vi E2.out.symm) (vi E3.out.symm) (vb E1.out.symm), b1⟩
  | true =>
    have q1 := ctOk_bd g
    have QG := Lib.hid q1.2.2.2.2.2.2.2
    have q8 := q1.2.2.2.2.2.2.1
    have G0 := Lib.hid g
    clear g q1
    go_wp2_with (fail)
    refine (specDp d _).mono ?_; rintro e w' ⟨rfl, rfl⟩
    cases g2 : inB d 0 20000 with
    | false =>
      have g3 : inB d 1 20000 = false := by rw [inB_false] at g2 ⊢; omega
      obtain ⟨e1, e2, e3⟩ := ms_bad (t := t) (.inr g3)
      have E1 := Lib.hid e1
      have E2 := Lib.hid e2
      have E3 := Lib.hid e3
      clear e1 e2 e3 g2 g3
      go_wp2
      go_ret3
      exact ⟨ret_t3 (vi E2.out.symm) (vi E3.out.symm) (vb E1.out.symm), b1⟩
    | true =>
      have qd := inB_true.1 g2
      by_cases hz : d = 0
      · have g3 : inB d 1 20000 = false := by rw [inB_false]; omega
        have z0 : (d == 0) = true := by simp [hz]
        obtain ⟨e1, e2, e3⟩ := ms_bad (t := t) (.inr g3)
        have E1 := Lib.hid e1
        have E2 := Lib.hid e2
        have E3 := Lib.hid e3
        clear e1 e2 e3 g2 g3 hz
        go_wp2
        go_ret3
        exact ⟨ret_t3 (vi E2.out.symm) (vi E3.out.symm) (vb E1.out.symm), b1⟩
      · have g3 : inB d 1 20000 = true := by rw [inB_true]; omega
        have z0 : (d == 0) = false := by rw [beq_eq_false_iff_ne]; exact hz
        obtain ⟨e1, e2, e3⟩ := ms_good G0.out g3
        have E1 := Lib.hid e1
        have E2 := Lib.hid e2
        have E3 := Lib.hid e3
        have qd0 : 0 ≤ d := by omega
        have qd1 : d ≤ 20001 := by omega
        have qd2 : 1 ≤ d := by omega
        have h := h.below b1
        have KW := Lib.hid (show ∀ W', Below w1.heap.size w1 W' → Bk W' w.heap.size [.int .i64 t.id, .int .i64 t.time, .int .i64 t.x, .int .i64 t.y, .slice A t.lay.length c] from fun W' hw => k1.below hw)
        clear e1 e2 e3 g2 g3 hz k1
        go_wp2
        go_loopw [7, 8] (fun s i wr => ∃ k : Nat, k ≤ t.lay.length ∧ i = .int .i64 k ∧ s = .int .i64 (wgtK t.lay d k) ∧ Below w1.heap.size w1 wr) (fun _ i _ => t.lay.length - (intOf i).toNat)
        case atStart => exact ⟨0, Nat.zero_le _, rfl, rfl, Below.refl _ _⟩
        case round =>
          obtain ⟨k, hk, rfl, rfl, hb⟩ := hrel
          have T2 := wgtK_bd qd0 qd1 QG.out k (by omega)
          have kr := KW.out _ hb
          have hlr := kr.1
          have l1 := aft_cell kr.1
          have n0 := kr.2.1 0 _ rfl
          have n1 := kr.2.1 1 _ rfl
          have n2 := kr.2.1 2 _ rfl
          have n3 := kr.2.1 3 _ rfl
          have n4 := kr.2.1 4 _ rfl
          clear kr
          by_cases hlt : k < t.lay.length
          · have hs := h.below hb
            obtain ⟨b, off, rfl⟩ := h.addr (by omega)
            obtain ⟨hbl, c0, c1⟩ := Ly.get hs hlt
            have l2 := aft_cell hbl
            have bk := lyAt_bd hlt (lyGood_at QG.out hlt)
            have u1 : (0 : Int) ≤ (k : Int) := by omega
            have u2 : (k : Int) < (t.lay.length : Int) := by omega
            have T1 := thk_bd qd0 qd1 QG.out hlt
            have T3 := Int.mul_nonneg T1.1 (show 0 ≤ t.lay[k].spd by omega)
            have T4 : thk t.lay d k * t.lay[k].spd ≤ 20001 * 16000 := Int.mul_le_mul T1.2 (by omega) (by omega) (by omega)
            have HN := Lib.hid (show wgtK t.lay d (k + 1) = wgtK t.lay d k + thk t.lay d k * t.lay[k].spd by rw [wgtK, lyi_of hlt])
            have TC := Lib.hid (show ∀ (x : Aft wr), Calls Try.prog 75 #[.agg #[.int .i64 t.id, .int .i64 t.time, .int .i64 t.x, .int .i64 t.y, .slice (some ⟨b, off, none⟩) t.lay.length c], .int .i64 k, .int .i64 d] x.val fun e w' => e = .returned (.int .i64 (thk t.lay d k)) ∧ Below x.val.heap.size x.val w' from
              fun x => s7Thick t _ c k d x.val (hs.aft x) QG.out q8 hlt qd0 qd1)
            have w1 : IntKind.i64.wrap (thk t.lay d k * t.lay[k].spd) = thk t.lay d k * t.lay[k].spd := IntWalk.i64_in _ (by omega)
            have w4 : IntKind.i64.wrap (wgtK t.lay d k + thk t.lay d k * t.lay[k].spd) = wgtK t.lay d k + thk t.lay d k * t.lay[k].spd := IntWalk.i64_in _ (by omega)
            clear hlr
            go_wp2_with (fail)
            refine wp_region_aft (by kernel_rfl) (by kernel_rfl) ?_
            repeat (go_big_quiet_step ((go_at_call 75; exact Aft.calls _ (TC.out _))))
            refine wpQuiet_nil ?_
            intro w9 b9
            go_wp2
            go_roundw
            case rel => exact ⟨k + 1, by omega, by go_num, vi HN.out.symm, bth hb b9⟩
            case measure => simp [intOf]; omega
          · obtain rfl : k = t.lay.length := by omega
            go_wp2_with (go_at_call 76; refine (specRed _ _ _ (by omega) (by omega) (by omega) (by omega)).mono ?_; rintro e w3 ⟨rfl, q, rfl⟩)
            go_ret3
            exact ⟨ret_t3 (vi E2.out.symm) (vi E3.out.symm) (vb E1.out.symm), bth b1 (bdrew hb q)⟩
end Go.Proofs.Ytfmlfeokdaahmaa
