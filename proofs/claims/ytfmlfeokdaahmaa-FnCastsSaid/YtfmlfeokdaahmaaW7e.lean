/- MeanSpeed and DepthFor of both texts: what they return. At most 1048576 layers. -/
import Derived.Test.YtfmlfeokdaahmaaW7d
import Derived.Test.YtfmlfeokdaahmaaP7c
set_option linter.unusedVariables false
set_option linter.unusedSimpArgs false
namespace Go.Proofs.Ytfmlfeokdaahmaa
open Go.RowKit
set_option maxHeartbeats 2000000
set_option maxRecDepth 100000
theorem iDepthFor (t : Ct) (A : Option Addr) (c : Nat) (m : Int) (w : World) (h : Sl 2 Ly.enc w A t.lay) (hn : t.lay.length ≤ 1048576) :
    Calls Try.prog 36 #[.agg #[.int .i64 t.id, .int .i64 t.time, .int .i64 t.x, .int .i64 t.y, .slice A t.lay.length c], .int .i64 m] w fun e w' => e = .returned (.tuple #[.int .i64 (dfV t m), .bool (dfOk t m)]) ∧ Below w.heap.size w w' := by
  go_enter Try.func36, Try.ntmps36
  go_wp2_with (fail)
  generalize hW : World.alloc w _ = W1
  obtain ⟨bW, kW, _⟩ := alloc_facts hW
  clear hW
  refine (i7One t A c _ (h.below bW) hn).mono ?_; rintro e w1 ⟨rfl, b1⟩
  have k1 := kW.below b1
  have b1 := bth bW b1
  clear kW
  cases g : ctOk t with
  | false =>
    obtain ⟨e1, e2⟩ := df_bad (m := m) (.inl g)
    have E1 := Lib.hid e1
    have E2 := Lib.hid e2
    clear e1 e2 g
    go_wp2
    go_ret2
    exact ⟨ret_t2 (vi E2.out.symm) (vb E1.out.symm), b1⟩
  | true =>
    have q1 := ctOk_bd g
    have QG := Lib.hid q1.2.2.2.2.2.2.2
    have q8 := q1.2.2.2.2.2.2.1
    have G0 := Lib.hid g
    clear g q1
    go_wp2_with (fail)
    refine (implIn m 0 1000000 _).mono ?_; rintro e w' ⟨rfl, rfl⟩
    cases g2 : inB m 0 1000000 with
    | false =>
      obtain ⟨e1, e2⟩ := df_bad (t := t) (.inr g2)
      have E1 := Lib.hid e1
      have E2 := Lib.hid e2
      clear e1 e2 g2
      go_wp2
      go_ret2
      exact ⟨ret_t2 (vi E2.out.symm) (vb E1.out.symm), b1⟩
    | true =>
      obtain ⟨e1, e2⟩ := df_good G0.out g2
      have E1 := Lib.hid e1
      have E2 := Lib.hid e2
      have qm := inB_true.1 g2
      have Z0 := Lib.hid (show trv t.lay 0 ≤ m by rw [trv_zero QG.out]; omega)
      have KW := Lib.hid (show ∀ W', Below w1.heap.size w1 W' → Bk W' w.heap.size [.int .i64 t.id, .int .i64 t.time, .int .i64 t.x, .int .i64 t.y, .slice A t.lay.length c] from fun W' hw => k1.below hw)
      have h := h.below b1
      clear e1 e2 g2 k1
      go_wp2
      go_loopw [6, 7] (fun x y wr => ∃ lo hi : Nat, lo < hi ∧ hi ≤ 20001 ∧ x = .int .i64 lo ∧ y = .int .i64 hi ∧ Below w1.heap.size w1 wr ∧ Hid (trv t.lay lo ≤ m) ∧ Hid (∀ d : Nat, hi ≤ d → d ≤ 20000 → m < trv t.lay d)) (fun x y _ => (intOf y - intOf x).toNat)
      case atStart => exact ⟨0, 20001, by omega, by omega, rfl, rfl, Below.refl _ _, (Z0.out : trv t.lay ((0 : Nat) : Int) ≤ m), (fun d h1 h2 => absurd h1 (by omega) : ∀ d : Nat, 20001 ≤ d → d ≤ 20000 → m < trv t.lay d)⟩
      case round =>
        obtain ⟨lo, hi, hlh, hhi, rfl, rfl, hb, H0, HH⟩ := hrel
        by_cases hlt : lo + 1 < hi
        · have kr := KW.out _ hb
          have hlr := kr.1
          have n0 := kr.2.1 0 _ rfl
          have n1 := kr.2.1 1 _ rfl
          have n2 := kr.2.1 2 _ rfl
          have n3 := kr.2.1 3 _ rfl
          have n4 := kr.2.1 4 _ rfl
          clear kr
          have q1 : (1 : Int) < (hi : Int) - (lo : Int) := by omega
          have q2 : ((lo : Int) + (hi : Int)) / 2 ≤ 20000 := by omega
          have q3 : 0 ≤ ((lo : Int) + (hi : Int)) / 2 := by omega
          go_wp2_with (fail)
          refine (i7Travel t A c _ _ (h.below hb) QG.out q8 q3 (by omega)).mono ?_; rintro e w9 ⟨rfl, b9⟩
          rw [← trv_def]
          by_cases hz : trv t.lay (((lo : Int) + (hi : Int)) / 2) ≤ m
          · have HL := Lib.hid (show trv t.lay (((lo + hi) / 2 : Nat) : Int) ≤ m by rw [show (((lo + hi) / 2 : Nat) : Int) = ((lo : Int) + (hi : Int)) / 2 by omega]; exact hz)
            go_wp2
            go_roundw
            case rel => exact ⟨(lo + hi) / 2, hi, by omega, by omega, vi (by omega), rfl, bth hb b9, (HL.out : _), HH.out⟩
            case measure => simp [intOf]; omega
          · have HG := Lib.hid (show m < trv t.lay (((lo : Int) + (hi : Int)) / 2) by omega)
            go_wp2
            go_roundw
            case rel => exact ⟨lo, (lo + hi) / 2, by omega, by omega, rfl, vi (by omega), bth hb b9, H0.out, (fun d h1 h2 => Int.lt_of_lt_of_le HG.out (trv_mono QG.out (by omega)) : ∀ d : Nat, (lo + hi) / 2 ≤ d → d ≤ 20000 → m < trv t.lay d)⟩
            case measure => simp [intOf]; omega
        · obtain rfl : hi = lo + 1 := by omega
          have HD := Lib.hid (dfK_is H0.out 20000 (by omega) (fun d h1 h2 => HH.out d h1 h2))
          go_wp2
          go_ret2
          exact ⟨ret_t2 (vi (by rw [E2.out, HD.out])) (vb E1.out.symm), bth b1 hb⟩
theorem sDepthFor (t : Ct) (A : Option Addr) (c : Nat) (m : Int) (w : World) (h : Sl 2 Ly.enc w A t.lay) (hn : t.lay.length ≤ 1048576) :
    Calls Try.prog 35 #[.agg #[.int .i64 t.id, .int .i64 t.time, .int .i64 t.x, .int .i64 t.y, .slice A t.lay.length c], .int .i64 m] w fun e w' => e = .returned (.tuple #[.int .i64 (dfV t m), .bool (dfOk t m)]) ∧ Below w.heap.size w w' := by
  go_enter Try.func35, Try.ntmps35
  go_wp2_with (fail)
  generalize hW : World.alloc w _ = W1
  obtain ⟨bW, kW, _⟩ := alloc_facts hW
  clear hW
  refine (s7One t A c _ (h.below bW) hn).mono ?_; rintro e w1 ⟨rfl, b1⟩
  have k1 := kW.below b1
  have b1 := bth bW b1
  clear kW
  cases g : ctOk t with
  | false =>
    obtain ⟨e1, e2⟩ := df_bad (m := m) (.inl g)
    have E1 := Lib.hid e1
    have E2 := Lib.hid e2
    clear e1 e2 g
    go_wp2
    go_ret2
    exact ⟨ret_t2 (vi E2.out.symm) (vb E1.out.symm), b1⟩
  | true =>
    have q1 := ctOk_bd g
    have QG := Lib.hid q1.2.2.2.2.2.2.2
    have q8 := q1.2.2.2.2.2.2.1
    have G0 := Lib.hid g
    clear g q1
    go_wp2_with (fail)
    refine (specIn m 0 1000000 _).mono ?_; rintro e w' ⟨rfl, rfl⟩
    cases g2 : inB m 0 1000000 with
    | false =>
      obtain ⟨e1, e2⟩ := df_bad (t := t) (.inr g2)
      have E1 := Lib.hid e1
      have E2 := Lib.hid e2
      clear e1 e2 g2
      go_wp2
      go_ret2
      exact ⟨ret_t2 (vi E2.out.symm) (vb E1.out.symm), b1⟩
    | true =>
      obtain ⟨e1, e2⟩ := df_good G0.out g2
      have E1 := Lib.hid e1
      have E2 := Lib.hid e2
      have qm := inB_true.1 g2
      have Z0 := Lib.hid (show trv t.lay 0 ≤ m by rw [trv_zero QG.out]; omega)
      have KW := Lib.hid (show ∀ W', Below w1.heap.size w1 W' → Bk W' w.heap.size [.int .i64 t.id, .int .i64 t.time, .int .i64 t.x, .int .i64 t.y, .slice A t.lay.length c] from fun W' hw => k1.below hw)
      have h := h.below b1
      clear e1 e2 g2 k1
      go_wp2
      go_loopw [6, 7] (fun x y wr => ∃ lo hi : Nat, lo ≤ hi ∧ hi ≤ 20000 ∧ x = .int .i64 lo ∧ y = .int .i64 hi ∧ Below w1.heap.size w1 wr ∧ Hid (trv t.lay lo ≤ m) ∧ Hid (∀ d : Nat, hi < d → d ≤ 20000 → m < trv t.lay d)) (fun x y _ => (intOf y - intOf x).toNat)
      case atStart => exact ⟨0, 20000, by omega, by omega, rfl, rfl, Below.refl _ _, (Z0.out : trv t.lay ((0 : Nat) : Int) ≤ m), (fun d h1 h2 => absurd h1 (by omega) : ∀ d : Nat, 20000 < d → d ≤ 20000 → m < trv t.lay d)⟩
      case round =>
        obtain ⟨lo, hi, hlh, hhi, rfl, rfl, hb, H0, HH⟩ := hrel
        by_cases hlt : lo < hi
        · have kr := KW.out _ hb
          have hlr := kr.1
          have n0 := kr.2.1 0 _ rfl
          have n1 := kr.2.1 1 _ rfl
          have n2 := kr.2.1 2 _ rfl
          have n3 := kr.2.1 3 _ rfl
          have n4 := kr.2.1 4 _ rfl
          clear kr
          have q1 : (lo : Int) < (hi : Int) := by omega
          have q2 : ((lo : Int) + (hi : Int) + 1) / 2 ≤ 20000 := by omega
          have q3 : 0 ≤ ((lo : Int) + (hi : Int) + 1) / 2 := by omega
          go_wp2_with (fail)
          refine (s7Travel t A c _ _ (h.below hb) QG.out q8 q3 (by omega)).mono ?_; rintro e w9 ⟨rfl, b9⟩
          rw [← trv_def]
          by_cases hz : trv t.lay (((lo : Int) + (hi : Int) + 1) / 2) ≤ m
          · have HL := Lib.hid (show trv t.lay (((lo + hi + 1) / 2 : Nat) : Int) ≤ m by rw [show (((lo + hi + 1) / 2 : Nat) : Int) = ((lo : Int) + (hi : Int) + 1) / 2 by omega]; exact hz)
            go_wp2
            go_roundw
            case rel => exact ⟨(lo + hi + 1) / 2, hi, by omega, by omega, vi (by omega), rfl, bth hb b9, (HL.out : _), HH.out⟩
            case measure => simp [intOf]; omega
          · have HG := Lib.hid (show m < trv t.lay (((lo : Int) + (hi : Int) + 1) / 2) by omega)
            go_wp2
            go_roundw
            case rel => exact ⟨lo, (lo + hi + 1) / 2 - 1, by omega, by omega, rfl, vi (by omega), bth hb b9, H0.out, (fun d h1 h2 => Int.lt_of_lt_of_le HG.out (trv_mono QG.out (by omega)) : ∀ d : Nat, (lo + hi + 1) / 2 - 1 < d → d ≤ 20000 → m < trv t.lay d)⟩
            case measure => simp [intOf]; omega
        · obtain rfl : hi = lo := by omega
          have HD := Lib.hid (dfK_is H0.out 20000 (by omega) (fun d h1 h2 => HH.out d h1 h2))
          go_wp2
          go_ret2
          exact ⟨ret_t2 (vi (by rw [E2.out, HD.out])) (vb E1.out.symm), bth b1 hb⟩
end Go.Proofs.Ytfmlfeokdaahmaa
