/- The shallowest craft and the craft that is chosen: both texts return the same. Lists of at most 1048576 craft. -/
import Derived.Test.YtanmkjjclpplkaaW5e
import Derived.Test.YtanmkjjclpplkaaW5f
import Derived.Test.YtanmkjjclpplkaaDr11
set_option linter.unusedVariables false
set_option linter.unusedSimpArgs false
namespace Go.Proofs.Ytanmkjjclpplkaa
open Go.RowKit
set_option maxHeartbeats 4000000
set_option maxRecDepth 100000
theorem shK_yes {l : List Cr} {k : Nat} (h : (cri l k).draught < (cri l (shK l k)).draught) : shK l (k + 1) = k := by rw [shK, if_pos h]
theorem shK_no {l : List Cr} {k : Nat} (h : ¬ (cri l k).draught < (cri l (shK l k)).draught) : shK l (k + 1) = shK l k := by rw [shK, if_neg h]
theorem iShal (A : Option Addr) (c : Nat) (l : List Cr) (w : World) (h : Sl 7 Cr.enc w A l) (hn : l.length ≤ 1048576) (hq : NmS l) (hc : l.length ≤ c) :
    Calls Try.prog 24 #[.slice A l.length c] w fun e w' => e = .returned (.tuple #[.int .i64 (shV l), .bool (shOk l)]) ∧ Below w.heap.size w w' := by
  go_enter Try.func24, Try.ntmps24
  go_wp2_with (fail)
  refine (i5Good A c l _ h hn hq hc).mono ?_; rintro e w2 ⟨rfl, b2⟩
  cases g : crsGood l with
  | false =>
    have G := Lib.hid (sh_bad (l := l) (.inl g))
    clear g
    go_wp2_with (fail)
    go_ret2
    rw [G.out.1, G.out.2]
    exact ⟨rfl, b2⟩
  | true =>
    by_cases h0 : l.length = 0
    · have h1 : ((l.length : Int) == 0) = true := by rw [beq_iff_eq]; omega
      have G := Lib.hid (sh_bad (l := l) (.inr h0))
      clear g
      go_wp2_with (fail)
      go_ret2
      rw [G.out.1, G.out.2]
      exact ⟨rfl, b2⟩
    · have h1 : ((l.length : Int) == 0) = false := by rw [beq_eq_false_iff_ne]; omega
      have G := Lib.hid (sh_good g (show 0 < l.length by omega))
      have HQ := Lib.hid (fun k (hk : k < l.length) => crOk_bd (crsGood_at g hk))
      clear g
      obtain ⟨b, off, rfl⟩ := h.addr (by omega)
      obtain ⟨hbl, c0, c1, c2, c3, c4, c5, c6⟩ := Cr.get (h.below b2) (show 0 < l.length by omega)
      simp only [Nat.zero_mul, Nat.add_zero] at c0 c1 c2 c3 c4 c5 c6
      have u1 : (0 : Int) < (l.length : Int) := by omega
      go_upto_region 4 with (fail)
      generalize hW : World.alloc w2 _ = W3
      have I0 : Bk W3 w2.heap.size (cri l (shK l 0)).enc := by rw [← hW, show cri l (shK l 0) = l[0] from cri_of (k := 0) (by omega)]; exact Bk.new _ _ _
      have b3 := b2.trans (Below.mono (show Below w2.heap.size w2 W3 by rw [← hW]; exact below_alloc _ _) b2.size)
      have hg : w.heap.size ≤ w2.heap.size := b2.size
      clear hW b2 hbl c0 c1 c2 c3 c4 c5 c6
      generalize w2.heap.size = gb at *
      go_wp2_with (fail)
      go_loopw [20] (fun i wr => ∃ k : Nat, k ≤ l.length ∧ i = .int .i64 k ∧ Below w.heap.size w wr ∧ Hid (Bk wr gb (cri l (shK l k)).enc)) (fun i _ => l.length - (intOf i).toNat)
      case atStart => exact ⟨0, Nat.zero_le _, rfl, b3, I0⟩
      case round =>
        clear b3 I0
        obtain ⟨k, hk, rfl, hb, HI⟩ := hrel
        by_cases hlt : k < l.length
        · obtain ⟨hbl, c0, c1, c2, c3, c4, c5, c6⟩ := Cr.get (h.below hb) hlt
          have ek := Lib.hid (cri_of hlt)
          go_upto_region 7 with (fail)
          generalize hW : World.alloc wr _ = W4
          have J : Bk W4 wr.heap.size l[k].enc := by rw [← hW]; exact Bk.new _ _ _
          have b4 : Below wr.heap.size wr W4 := by rw [← hW]; exact below_alloc _ _
          have I := HI.out.below b4
          have hgl := HI.out.1
          have b5 := bth hb b4
          clear hW hb HI b4 c0 c1 c2 c3 c4 c5 c6
          generalize wr.heap.size = gv at *
          generalize hv : cri l (shK l k) = v at *
          have HV := Lib.hid hv
          clear hv
          have j0 := J.2.1 0 _ rfl
          have j1 := J.2.1 1 _ rfl
          have j2 := J.2.1 2 _ rfl
          have j3 := J.2.1 3 _ rfl
          have j4 := J.2.1 4 _ rfl
          have j5 := J.2.1 5 _ rfl
          have j6 := J.2.1 6 _ rfl
          have m2 := I.2.1 2 _ rfl
          by_cases hd : l[k].draught < v.draught
          · have HT := Lib.hid (shK_yes (l := l) (k := k) (by rw [ek.out, HV.out]; exact hd))
            have m0 := I.2.1 0 _ rfl
            have m1 := I.2.1 1 _ rfl
            have m3 := I.2.1 3 _ rfl
            have m4 := I.2.1 4 _ rfl
            have m5 := I.2.1 5 _ rfl
            have m6 := I.2.1 6 _ rfl
            have f0 := I.2.2 0
            have f1 := I.2.2 1
            have f2 := I.2.2 2
            have f3 := I.2.2 3
            have f4 := I.2.2 4
            have f5 := I.2.2 5
            have f6 := I.2.2 6
            have hz := I.1
            go_wp2_with (fail)
            have I9 := I.putAll (Cr.enc l[k]) rfl
            have b9 := bset b5 hg (Cr.enc l[k]) 0
            simp only [Cr.enc, World.setCells, Nat.zero_add, Nat.reduceAdd] at I9 b9
            go_roundw
            case rel => exact ⟨k + 1, by omega, by go_num, b9, (by rw [HT.out, ek.out]; exact I9 : Bk _ gb (cri l (shK l (k + 1))).enc)⟩
            case measure => simp [intOf]; omega
          · have HT := Lib.hid (shK_no (l := l) (k := k) (by rw [ek.out, HV.out]; exact hd))
            have hd' : v.draught ≤ l[k].draught := by omega
            go_wp2_with (fail)
            go_roundw
            case rel => exact ⟨k + 1, by omega, by go_num, b5, (by rw [HT.out, HV.out]; exact I : Bk _ gb (cri l (shK l (k + 1))).enc)⟩
            case measure => simp [intOf]; omega
        · obtain rfl : k = l.length := by omega
          have I := HI.out
          have m0 := I.2.1 0 _ rfl
          go_wp2_with (fail)
          go_ret2
          rw [G.out.1, G.out.2]
          exact ⟨rfl, hb⟩
theorem sShal (A : Option Addr) (c : Nat) (l : List Cr) (w : World) (h : Sl 7 Cr.enc w A l) (hn : l.length ≤ 1048576) (hq : NmS l) :
    Calls Try.prog 29 #[.slice A l.length c] w fun e w' => e = .returned (.tuple #[.int .i64 (shV l), .bool (shOk l)]) ∧ Below w.heap.size w w' := by
  go_enter Try.func29, Try.ntmps29
  go_wp2_with (fail)
  refine (s5Good A c l _ h hn hq).mono ?_; rintro e w2 ⟨rfl, b2⟩
  cases g : crsGood l with
  | false =>
    have G := Lib.hid (sh_bad (l := l) (.inl g))
    clear g
    go_wp2_with (fail)
    go_ret2
    rw [G.out.1, G.out.2]
    exact ⟨rfl, b2⟩
  | true =>
    by_cases h0 : l.length = 0
    · have h1 : ((l.length : Int) == 0) = true := by rw [beq_iff_eq]; omega
      have G := Lib.hid (sh_bad (l := l) (.inr h0))
      clear g
      go_wp2_with (fail)
      go_ret2
      rw [G.out.1, G.out.2]
      exact ⟨rfl, b2⟩
    · have h1 : ((l.length : Int) == 0) = false := by rw [beq_eq_false_iff_ne]; omega
      have G := Lib.hid (sh_good g (show 0 < l.length by omega))
      clear g
      obtain ⟨b, off, rfl⟩ := h.addr (by omega)
      obtain ⟨hbl, c0, c1, c2, c3, c4, c5, c6⟩ := Cr.get (h.below b2) (show 0 < l.length by omega)
      simp only [Nat.zero_mul, Nat.add_zero] at c0 c1 c2 c3 c4 c5 c6
      have u1 : (0 : Int) < (l.length : Int) := by omega
      go_upto_region 4 with (fail)
      generalize hW : World.alloc w2 _ = W3
      have I0 : Bk W3 w2.heap.size (cri l (shK l 1)).enc := by
        rw [← hW, show cri l (shK l 1) = l[0] from by rw [shK_no (k := 0) (by show ¬ (cri l 0).draught < (cri l 0).draught; omega)]; exact cri_of (k := 0) (by omega)]; exact Bk.new _ _ _
      have b3 := b2.trans (Below.mono (show Below w2.heap.size w2 W3 by rw [← hW]; exact below_alloc _ _) b2.size)
      have hg : w.heap.size ≤ w2.heap.size := b2.size
      clear hW b2 hbl c0 c1 c2 c3 c4 c5 c6
      generalize w2.heap.size = gb at *
      go_wp2_with (fail)
      go_loopw [5] (fun i wr => ∃ k : Nat, 1 ≤ k ∧ k ≤ l.length ∧ i = .int .i64 k ∧ Below w.heap.size w wr ∧ Hid (Bk wr gb (cri l (shK l k)).enc)) (fun i _ => l.length - (intOf i).toNat)
      case atStart => exact ⟨1, Nat.le_refl _, by omega, rfl, b3, I0⟩
      case round =>
        clear b3 I0
        obtain ⟨k, hk1, hk, rfl, hb, HI⟩ := hrel
        by_cases hlt : k < l.length
        · obtain ⟨hbl, c0, c1, c2, c3, c4, c5, c6⟩ := Cr.get (h.below hb) hlt
          have ek := Lib.hid (cri_of hlt)
          have I := HI.out
          have hA := aft_cell hbl
          have hB := aft_cell I.1
          generalize hv : cri l (shK l k) = v at *
          have HV := Lib.hid hv
          clear hv
          have m2 := I.2.1 2 _ rfl
          have v1 : (0 : Int) ≤ (k : Int) := by omega
          have v2 : (k : Int) < (l.length : Int) := by omega
          by_cases hd : l[k].draught < v.draught
          · have HT := Lib.hid (shK_yes (l := l) (k := k) (by rw [ek.out, HV.out]; exact hd))
            go_wp2_with (fail)
            refine wp_region_aft (by kernel_rfl) (by kernel_rfl) ?_
            repeat (go_big_quiet_step ((fail)))
            refine wpQuiet_nil ?_
            intro w9 b9
            have I := I.below b9
            have hb := bth hb b9
            obtain ⟨_, d0, d1, d2, d3, d4, d5, d6⟩ := Cr.get (h.below hb) hlt
            clear c0 c1 c2 c3 c4 c5 c6 hA hB m2
            have m0 := I.2.1 0 _ rfl
            have m1 := I.2.1 1 _ rfl
            have m2 := I.2.1 2 _ rfl
            have m3 := I.2.1 3 _ rfl
            have m4 := I.2.1 4 _ rfl
            have m5 := I.2.1 5 _ rfl
            have m6 := I.2.1 6 _ rfl
            have f0 := I.2.2 0
            have f1 := I.2.2 1
            have f2 := I.2.2 2
            have f3 := I.2.2 3
            have f4 := I.2.2 4
            have f5 := I.2.2 5
            have f6 := I.2.2 6
            have hz := I.1
            go_wp2_with (fail)
            have I9 := I.putAll (Cr.enc l[k]) rfl
            have b9 := bset hb hg (Cr.enc l[k]) 0
            simp only [Cr.enc, World.setCells, Nat.zero_add, Nat.reduceAdd] at I9 b9
            go_roundw
            case rel => exact ⟨k + 1, by omega, by omega, by go_num, b9, (by rw [HT.out, ek.out]; exact I9 : Bk _ gb (cri l (shK l (k + 1))).enc)⟩
            case measure => simp [intOf]; omega
          · have HT := Lib.hid (shK_no (l := l) (k := k) (by rw [ek.out, HV.out]; exact hd))
            have hd' : v.draught ≤ l[k].draught := by omega
            go_wp2_with (fail)
            refine wp_region_aft (by kernel_rfl) (by kernel_rfl) ?_
            repeat (go_big_quiet_step ((fail)))
            refine wpQuiet_nil ?_
            intro w9 b9
            go_wp2_with (fail)
            go_roundw
            case rel => exact ⟨k + 1, by omega, by omega, by go_num, bth hb b9, (by rw [HT.out, HV.out]; exact I.below b9 : Bk _ gb (cri l (shK l (k + 1))).enc)⟩
            case measure => simp [intOf]; omega
        · obtain rfl : k = l.length := by omega
          have I := HI.out
          have m0 := I.2.1 0 _ rfl
          go_wp2_with (fail)
          go_ret2
          rw [G.out.1, G.out.2]
          exact ⟨rfl, hb⟩
end Go.Proofs.Ytanmkjjclpplkaa
