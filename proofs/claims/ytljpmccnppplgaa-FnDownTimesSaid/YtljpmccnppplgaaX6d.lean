/- DownTime of the program: what it returns. Lists of at most 1048576 layers. -/
import Derived.Test.YtljpmccnppplgaaX6c
set_option linter.unusedVariables false
set_option linter.unusedSimpArgs false
namespace Go.Proofs.Ytljpmccnppplgaa
open Go.RowKit
set_option maxHeartbeats 1000000

theorem iDownTime (A : Option Addr) (c : Nat) (l : List St) (d : Int) (w : World) (h : Sl 2 St.enc w A l) (hn : l.length ≤ 1048576) :
    Calls Try.prog 37 #[.slice A l.length c, .int .i64 d] w fun e w' => e = .returned (.tuple #[.int .i64 (dwN l d), .int .i64 (dwD l d), .bool (dwB l d)]) ∧ Below w.heap.size w w' := by
  unfold dwN dwD dwB
  cases g : (stGood l && inB d 0 (tot l)) with
  | true =>
    obtain ⟨g1, g2⟩ := (Bool.and_eq_true_iff.1 g)
    have q1 := inB_true.1 g2
    have qb := tot_bd g1
    have h5 := stGood_len g1
    rw [show (if true = true then (dtN l d l.length).1 else 0) = dA l d l.length by unfold dA; rfl, show (if true = true then (dtN l d l.length).2 else 0) = dB l d l.length by unfold dB; rfl]
    have G1 := Lib.hid g1
    clear g2
    go_enter Try.func37, Try.ntmps37
    go_wp2_with (fail)
    refine (i6Down _ _ d l _ h hn).mono ?_; rintro e w1 ⟨rfl, b1⟩; rw [g]
    go_wp2_with (fail)
    generalize hW : World.alloc w1 _ = W1
    obtain ⟨bW, kW, sW⟩ := alloc_facts hW
    clear hW
    generalize hg : w1.heap.size = g at *
    refine (i6Above _ _ d l _ (h.below (bth b1 (hg ▸ bW))) G1.out (by omega) (by omega)).mono ?_
    rintro e w2 ⟨B, c', rfl, b2, s2, hB⟩
    have k2 := kW.below b2
    have bW2 : Below w.heap.size w w2 := bth (bth b1 (hg ▸ bW)) b2
    have hg0 : w.heap.size ≤ g := by rw [← hg]; exact b1.size
    have hBg : ∀ a, B = some a → a.block ≠ g := fun a ha => by have := hB a ha; omega
    clear hB hg
    have HB := Lib.hid hBg
    clear hBg
    go_wp2_with (fail)
    go_loopw [19] (fun i wr => ∃ k : Nat, k ≤ l.length ∧ i = .int .i64 k ∧ Below w.heap.size w wr ∧ Hid (Bk wr g [.int .i64 (dA l d k), .int .i64 (dB l d k)]) ∧ Hid (Sl 2 St.enc wr B (cutL l d))) (fun i _ => l.length - (intOf i).toNat)
    case atStart => exact ⟨0, Nat.zero_le _, rfl, bW2, (by rw [dA_zero, dB_zero]; exact k2 : Bk w2 g [.int .i64 (dA l d 0), .int .i64 (dB l d 0)]), s2⟩
    case round =>
      obtain ⟨k, hk, rfl, hb, HK, HS⟩ := hrel
      have kr := HK.out
      have sr := HS.out
      by_cases hlt : k < l.length
      · have hlc : k < (cutL l d).length := by rw [cutL_length]; exact hlt
        obtain ⟨bb, off, rfl⟩ := sr.addr (by omega)
        obtain ⟨hbl, c0, c1⟩ := St.get sr hlc
        rw [cutL_get] at c0 c1
        have e0 : wr.cell? ⟨g, 0, none⟩ = _ := kr.2.1 0 _ rfl
        have e1 : wr.cell? ⟨g, 1, none⟩ = _ := kr.2.1 1 _ rfl
        have hgl := kr.1
        have b2' := stGood_at G1.out hlt
        have b3 := part_bd G1.out (d := d) hlt
        have b4 := dstep G1.out (d := d) hlt
        go_wp2_with (fail)
        generalize hW : World.alloc wr _ = W3
        obtain ⟨bW3, _, _⟩ := alloc_facts hW
        clear hW
        refine (iPlus _ _ _ _ _ (by omega) (by omega) (by omega) (by omega) (by omega) (by omega) (by omega) (by omega)).mono ?_
        rintro e w4 ⟨rfl, b5⟩
        have bb4 := bth bW3 b5
        have k4 := kr.below bb4
        have s4 := sr.below bb4
        have u0 : w4.cell? ⟨g, 0, none⟩ = _ := k4.2.1 0 _ rfl
        have u1 : w4.cell? ⟨g, 1, none⟩ = _ := k4.2.1 1 _ rfl
        have f0 := k4.2.2 0
        have f1 := k4.2.2 1
        rw [← dA_succ, ← dB_succ]
        have P1 := Lib.hid (k4.put [.int .i64 (dA l d (k + 1)), .int .i64 (dB l d (k + 1))] rfl)
        have P2 := Lib.hid (s4.far HB.out [.int .i64 (dA l d (k + 1)), .int .i64 (dB l d (k + 1))] 0)
        have P3 := bset (bth hb bb4) hg0 [.int .i64 (dA l d (k + 1)), .int .i64 (dB l d (k + 1))] 0
        go_wp2_with (fail)
        go_roundw
        case rel => exact ⟨k + 1, by omega, by go_num, P3, P1.out, P2.out⟩
        case measure => simp [intOf]; omega
      · obtain rfl : k = l.length := by omega
        have e0 : wr.cell? ⟨g, 0, none⟩ = _ := kr.2.1 0 _ rfl
        have e1 : wr.cell? ⟨g, 1, none⟩ = _ := kr.2.1 1 _ rfl
        go_wp2
        go_quiet (fail)
        go_wp2
        go_ret3
        exact ⟨rfl, bdrew hb _⟩
  | false =>
    go_enter Try.func37, Try.ntmps37
    go_wp2_with (fail)
    refine (i6Down _ _ d l _ h hn).mono ?_; rintro e w1 ⟨rfl, b1⟩; rw [g]
    go_wp2_with (fail)
    go_ret3
    exact ⟨rfl, b1⟩
end Go.Proofs.Ytljpmccnppplgaa
