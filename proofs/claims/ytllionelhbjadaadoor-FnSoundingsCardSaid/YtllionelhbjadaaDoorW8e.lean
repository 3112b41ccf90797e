/- AllAgree of the program, MeanDepth of both texts: what they return. Lists of at most 1048576 soundings. -/
import Derived.Test.YtllionelhbjadaaDoorW8d
set_option linter.unusedVariables false
set_option linter.unusedSimpArgs false
namespace Go.Proofs.YtllionelhbjadaaDoor
open Go.RowKit
set_option maxHeartbeats 2000000
theorem iAll (A : Option Addr) (c : Nat) (l : List Sd) (w : World) (h : Sl 5 Sd.enc w A l) (hn : l.length ≤ 1048576) :
    Calls Tryd.prog 17 #[.slice A l.length c] w fun e w' => e = .returned (.tuple #[.int .i64 (aaL l), .int .i64 (aaH l), .bool (aaOk l)]) ∧ Below w.heap.size w w' := by
  go_enter Tryd.func17, Tryd.ntmps17
  go_wp2_with (fail)
  refine (i8Good _ _ l _ h hn).mono ?_; rintro e w1 ⟨rfl, b1⟩
  cases g : sdGood l with
  | false =>
    obtain ⟨e1, e2, e3⟩ := aa_bad (.inl g)
    have E1 := Lib.hid e1
    have E2 := Lib.hid e2
    have E3 := Lib.hid e3
    clear e1 e2 e3 g
    go_wp2
    go_ret3
    exact ⟨ret_t3 (vi E2.out.symm) (vi E3.out.symm) (vb E1.out.symm), b1⟩
  | true =>
    by_cases h0 : l.length = 0
    · obtain ⟨e1, e2, e3⟩ := aa_bad (.inr (.inl h0))
      have E1 := Lib.hid e1
      have E2 := Lib.hid e2
      have E3 := Lib.hid e3
      clear e1 e2 e3 g
      go_wp2
      go_ret3
      exact ⟨ret_t3 (vi E2.out.symm) (vi E3.out.symm) (vb E1.out.symm), b1⟩
    · have h0' : 0 < l.length := by omega
      have G := Lib.hid g
      have h := h.below b1
      obtain ⟨bl, off, rfl⟩ := h.addr h0'
      obtain ⟨hbl, c0, c1, c2, c3, c4⟩ := Sd.get h h0'
      have hA := aft_cell hbl
      have g0 := sdGood_at g h0'
      have g0b := sdOk_bd g0
      have L0 := Lib.hid (show lowK l 0 = l[0].depth - l[0].doubt by rw [lowK, sdi_of h0'])
      have H0 := Lib.hid (show highK l 0 = l[0].depth + l[0].doubt by rw [highK, sdi_of h0'])
      have h12 := sdGood_len g
      clear g
      have u0 : ((l.length : Int) == 0) = false := by rw [beq_eq_false_iff_ne]; omega
      have u5 : IntKind.i64.wrap (l[0].depth + l[0].doubt) = l[0].depth + l[0].doubt := IntWalk.i64_in _ (by omega)
      simp only [Nat.zero_mul, Nat.add_zero, Nat.zero_add] at c0 c1 c2 c3 c4
      have u1 : (0 : Int) < (l.length : Int) := by omega
      go_wp2_with (fail)
      refine wp_region_aft (by kernel_rfl) (by kernel_rfl) ?_
      repeat (go_big_quiet_step ((go_at_call 43; exact Aft.calls _ (implLeast _ _ (by assumption)))))
      refine wpQuiet_nil ?_
      intro w9 b9
      clear c0 c1 c2 c3 c4 hA g0 u5
      go_wp2
      go_loopw [5, 6, 32] (fun x y i wr => ∃ k : Nat, k ≤ l.length ∧ i = .int .i64 k ∧ x = .int .i64 (lowK l k) ∧ y = .int .i64 (highK l k) ∧ Below w1.heap.size w1 wr) (fun _ _ i _ => l.length - (intOf i).toNat)
      case atStart => exact ⟨0, by omega, rfl, vi L0.out.symm, vi H0.out.symm, b9⟩
      case round =>
        obtain ⟨k, hk, rfl, rfl, rfl, hb⟩ := hrel
        by_cases hlt : k < l.length
        · obtain ⟨hbl, c0, c1, c2, c3, c4⟩ := Sd.get (h.below hb) hlt
          have gk := sdGood_at G.out hlt
          have gb := sdOk_bd gk
          have L1 := Lib.hid (show lowK l (k + 1) = max (lowK l k) (l[k].depth - l[k].doubt) by rw [lowK, sdi_of hlt])
          have H1 := Lib.hid (show highK l (k + 1) = min (highK l k) (l[k].depth + l[k].doubt) by rw [highK, sdi_of hlt])
          have u5 : IntKind.i64.wrap (l[k].depth + l[k].doubt) = l[k].depth + l[k].doubt := IntWalk.i64_in _ (by omega)
          go_wp2_with (fail)
          generalize hW : World.alloc wr _ = W1
          obtain ⟨bW, kW, _⟩ := alloc_facts hW
          clear hW c0 c1 c2 c3 c4
          have hb := bth hb bW
          have hB := aft_cell kW.1
          have m0 := kW.2.1 0 _ rfl
          have m1 := kW.2.1 1 _ rfl
          have m2 := kW.2.1 2 _ rfl
          have m3 := kW.2.1 3 _ rfl
          have m4 := kW.2.1 4 _ rfl
          refine wp_region_aft (by kernel_rfl) (by kernel_rfl) ?_
          repeat (go_big_quiet_step ((go_at_call 43; exact Aft.calls _ (implLeast _ _ (by assumption)))))
          refine wpQuiet_nil ?_
          intro w9 b9
          clear m0 m1 m2 m3 m4 hB
          go_wp2
          go_roundw
          case rel => exact ⟨k + 1, by omega, by go_num, vi (by rw [L1.out]; split <;> omega), vi (by rw [H1.out]; split <;> omega), bth hb b9⟩
          case measure => simp [intOf]; omega
        · obtain rfl : k = l.length := by omega
          by_cases hx : lowK l l.length ≤ highK l l.length
          · obtain ⟨e1, e2, e3⟩ := aa_good G.out h0' hx
            have E1 := Lib.hid e1
            have E2 := Lib.hid e2
            have E3 := Lib.hid e3
            clear e1 e2 e3
            go_wp2
            go_ret3
            exact ⟨ret_t3 (vi E2.out.symm) (vi E3.out.symm) (vb E1.out.symm), bth b1 hb⟩
          · obtain ⟨e1, e2, e3⟩ := aa_bad (.inr (.inr (show highK l l.length < lowK l l.length by omega)))
            have E1 := Lib.hid e1
            have E2 := Lib.hid e2
            have E3 := Lib.hid e3
            clear e1 e2 e3
            go_wp2
            go_ret3
            exact ⟨ret_t3 (vi E2.out.symm) (vi E3.out.symm) (vb E1.out.symm), bth b1 hb⟩
end Go.Proofs.YtllionelhbjadaaDoor
