/- CastAt of both texts: what it returns. At most 1048576 casts and layers. -/
import Derived.Test.YtfmlfeokdaahmaaW7h
import Derived.Test.YtfmlfeokdaahmaaP7e
set_option linter.unusedVariables false
set_option linter.unusedSimpArgs false
namespace Go.Proofs.Ytfmlfeokdaahmaa
open Go.RowKit
set_option maxHeartbeats 2000000
set_option maxRecDepth 100000
theorem sCastAt (A : Option Addr) (c : Nat) (hs : List Ch) (tm : Int) (w : World) (h : Sl 5 Ch.enc w A hs) (ok : OkS w hs) (hn : hs.length ≤ 1048576) (hl : ∀ k (hk : k < hs.length), hs[k].t.lay.length ≤ 1048576) :
    Calls Try.prog 39 #[.slice A hs.length c, .int .i64 tm] w fun e w' => e = .returned (.tuple #[.int .i64 (caV (dat hs) tm), .bool (caB (dat hs) tm)]) ∧ Below w.heap.size w w' := by
  have DL := Lib.hid (dat_len hs)
  have HL := Lib.hid hl
  clear hl
  go_enter Try.func39, Try.ntmps39
  go_wp2_with (fail)
  refine (s7Good A c hs _ h ok hn HL.out).mono ?_; rintro e w1 ⟨rfl, b1⟩
  cases g : ctsGood (dat hs) with
  | false =>
    obtain ⟨e1, e2⟩ := ca_bad (tm := tm) (.inl g)
    have E1 := Lib.hid e1
    have E2 := Lib.hid e2
    clear e1 e2 g
    go_wp2
    go_ret2
    exact ⟨ret_t2 (vi E1.out.symm) (vb E2.out.symm), b1⟩
  | true =>
    have G := Lib.hid g
    clear g
    go_wp2_with (fail)
    refine (specTm tm _).mono ?_; rintro e w' ⟨rfl, rfl⟩
    cases g2 : inB tm 0 10000 with
    | false =>
      obtain ⟨e1, e2⟩ := ca_bad (l := dat hs) (.inr g2)
      have E1 := Lib.hid e1
      have E2 := Lib.hid e2
      clear e1 e2 g2
      go_wp2
      go_ret2
      exact ⟨ret_t2 (vi E1.out.symm) (vb E2.out.symm), b1⟩
    | true =>
      obtain ⟨e1, e2⟩ := ca_good G.out g2
      have E1 := Lib.hid e1
      have E2 := Lib.hid e2
      clear e1 e2 g2
      have h := h.below b1
      go_wp2
      go_loop [6, 7] (fun s i => ∃ k : Nat, k ≤ hs.length ∧ i = .int .i64 k ∧ s = .int .i64 (cidK (dat hs) tm k)) (fun _ i => hs.length - (intOf i).toNat)
      case atStart => exact ⟨0, Nat.zero_le _, rfl, rfl⟩
      case round =>
        obtain ⟨k, hk, rfl, rfl⟩ := hrel
        by_cases hlt : k < hs.length
        · obtain ⟨b, off, rfl⟩ := h.addr (by omega)
          obtain ⟨hbl, c0, c1, c2, c3, c4⟩ := Ch.get h hlt
          by_cases ht : hs[k].t.time ≤ tm
          · have HN := Lib.hid (show cidK (dat hs) tm (k + 1) = hs[k].t.id by rw [cidK, dti hlt, if_pos ht])
            go_wp2
            go_round
            case rel => exact ⟨k + 1, by omega, by go_num, vi HN.out.symm⟩
            case measure => simp [intOf]; omega
          · have HN := Lib.hid (show cidK (dat hs) tm (k + 1) = cidK (dat hs) tm k by rw [cidK, dti hlt, if_neg ht])
            go_wp2
            go_round
            case rel => exact ⟨k + 1, by omega, by go_num, vi HN.out.symm⟩
            case measure => simp [intOf]; omega
        · obtain rfl : k = hs.length := by omega
          go_wp2
          go_ret2
          exact ⟨ret_t2 (vi (by rw [E1.out, DL.out])) (vb (by rw [E2.out, DL.out])), b1⟩
theorem iCastAt (A : Option Addr) (c : Nat) (hs : List Ch) (tm : Int) (w : World) (h : Sl 5 Ch.enc w A hs) (ok : OkS w hs) (hn : hs.length ≤ 1048576) (hl : ∀ k (hk : k < hs.length), hs[k].t.lay.length ≤ 1048576) (hc : hs.length ≤ c) :
    Calls Try.prog 40 #[.slice A hs.length c, .int .i64 tm] w fun e w' => e = .returned (.tuple #[.int .i64 (caV (dat hs) tm), .bool (caB (dat hs) tm)]) ∧ Below w.heap.size w w' := by
  have DL := Lib.hid (dat_len hs)
  have HL := Lib.hid hl
  clear hl
  go_enter Try.func40, Try.ntmps40
  go_wp2_with (fail)
  refine (i7Good A c hs _ h ok hn HL.out hc).mono ?_; rintro e w1 ⟨rfl, b1⟩
  cases g : ctsGood (dat hs) with
  | false =>
    obtain ⟨e1, e2⟩ := ca_bad (tm := tm) (.inl g)
    have E1 := Lib.hid e1
    have E2 := Lib.hid e2
    clear e1 e2 g
    go_wp2
    go_ret2
    exact ⟨ret_t2 (vi E1.out.symm) (vb E2.out.symm), b1⟩
  | true =>
    have G := Lib.hid g
    clear g
    go_wp2_with (fail)
    refine (implTm tm _).mono ?_; rintro e w' ⟨rfl, rfl⟩
    cases g2 : inB tm 0 10000 with
    | false =>
      obtain ⟨e1, e2⟩ := ca_bad (l := dat hs) (.inr g2)
      have E1 := Lib.hid e1
      have E2 := Lib.hid e2
      clear e1 e2 g2
      go_wp2
      go_ret2
      exact ⟨ret_t2 (vi E1.out.symm) (vb E2.out.symm), b1⟩
    | true =>
      obtain ⟨e1, e2⟩ := ca_good G.out g2
      have E1 := Lib.hid e1
      have E2 := Lib.hid e2
      clear e1 e2 g2
      have h := h.below b1
      go_wp2
      go_loopw [6, 19] (fun s i wr => ∃ k : Nat, k ≤ hs.length ∧ i = .int .i64 k ∧ s = .int .i64 (cidK (dat hs) tm k) ∧ Below w1.heap.size w1 wr) (fun _ i _ => hs.length - (intOf i).toNat)
      case atStart => exact ⟨0, Nat.zero_le _, rfl, rfl, Below.refl _ _⟩
      case round =>
        obtain ⟨k, hk, rfl, rfl, hb⟩ := hrel
        by_cases hlt : k < hs.length
        · obtain ⟨b, off, rfl⟩ := h.addr (by omega)
          obtain ⟨hbl, c0, c1, c2, c3, c4⟩ := Ch.get (h.below hb) hlt
          by_cases ht : hs[k].t.time ≤ tm
          · have HN := Lib.hid (show cidK (dat hs) tm (k + 1) = hs[k].t.id by rw [cidK, dti hlt, if_pos ht])
            go_wp2
            go_roundw
            case rel => exact ⟨k + 1, by omega, by go_num, vi HN.out.symm, bth hb (by go_grown)⟩
            case measure => simp [intOf]; omega
          · have HN := Lib.hid (show cidK (dat hs) tm (k + 1) = cidK (dat hs) tm k by rw [cidK, dti hlt, if_neg ht])
            go_wp2
            go_roundw
            case rel => exact ⟨k + 1, by omega, by go_num, vi HN.out.symm, bth hb (by go_grown)⟩
            case measure => simp [intOf]; omega
        · obtain rfl : k = hs.length := by omega
          go_wp2
          go_ret2
          exact ⟨ret_t2 (vi (by rw [E1.out, DL.out])) (vb (by rw [E2.out, DL.out])), bth b1 hb⟩
end Go.Proofs.Ytfmlfeokdaahmaa
