/- The craft that is chosen for a way and a depth: both texts return the same. Lists of at most 1048576 craft. -/
import Derived.Test.YtanmkjjclpplkaaW5g
import Derived.Test.YtanmkjjclpplkaaW5d
set_option linter.unusedVariables false
set_option linter.unusedSimpArgs false
namespace Go.Proofs.Ytanmkjjclpplkaa
open Go.RowKit
set_option maxHeartbeats 4000000
set_option maxRecDepth 100000
/-- The best so far, as the program keeps it. -/
def bo (l : List Cr) (m d : Int) (k : Nat) : Cr := if cfK l m d k < 0 then ⟨0, ByteArray.empty, 0, 0, 0, 0, 0⟩ else cri l (cfK l m d k).toNat
theorem bo_yes {l : List Cr} {m d : Int} {k : Nat} (h1 : (cri l k).draught ≤ d) (h2 : secs (cri l k) m ≤ 60 * (cri l k).fuel) (h3 : (bo l m d k).speed < (cri l k).speed) : cfK l m d (k + 1) = k ∧ bo l m d (k + 1) = cri l k := by
  have e : cfK l m d (k + 1) = k := by
    rw [cfK, if_pos]
    refine ⟨by simp [canB, h1, h2], ?_⟩
    unfold bo at h3
    split at h3
    · left; assumption
    · right; exact h3
  refine ⟨e, ?_⟩
  unfold bo
  rw [e, if_neg (by omega), Int.toNat_natCast]
theorem bo_no {l : List Cr} {m d : Int} {k : Nat} (hs : 1 ≤ (cri l k).speed) (h : ¬ ((cri l k).draught ≤ d ∧ secs (cri l k) m ≤ 60 * (cri l k).fuel ∧ (bo l m d k).speed < (cri l k).speed)) : cfK l m d (k + 1) = cfK l m d k ∧ bo l m d (k + 1) = bo l m d k := by
  have e : cfK l m d (k + 1) = cfK l m d k := by
    rw [cfK, if_neg]
    rintro ⟨h1, h2⟩
    apply h
    simp only [canB, Bool.and_eq_true, decide_eq_true_eq] at h1
    refine ⟨h1.1, h1.2, ?_⟩
    unfold bo
    split
    · show (0 : Int) < _; omega
    · rcases h2 with h2 | h2
      · omega
      · exact h2
  exact ⟨e, by unfold bo; rw [e]⟩
theorem bo_neg {l : List Cr} {m d : Int} {k : Nat} (h : cfK l m d k = -1) : bo l m d k = ⟨0, ByteArray.empty, 0, 0, 0, 0, 0⟩ := by unfold bo; rw [h]; rfl
theorem bo_pos {l : List Cr} {m d : Int} {k j : Nat} (h : cfK l m d k = j) : bo l m d k = cri l j := by unfold bo; rw [h, if_neg (by omega), Int.toNat_natCast]
theorem iFor (A : Option Addr) (c : Nat) (l : List Cr) (m d : Int) (w : World) (h : Sl 7 Cr.enc w A l) (hn : l.length ≤ 1048576) (hq : NmS l) (hc : l.length ≤ c) :
    Calls Try.prog 22 #[.slice A l.length c, .int .i64 m, .int .i64 d] w fun e w' => e = .returned (.tuple #[.int .i64 (cfV l m d), .bool (cfB l m d)]) ∧ Below w.heap.size w w' := by
  go_enter Try.func22, Try.ntmps22
  go_wp2_with (fail)
  refine (i5Good A c l _ h hn hq hc).mono ?_; rintro e w2 ⟨rfl, b2⟩
  cases g : crsGood l with
  | false =>
    have G := Lib.hid (cf_bad (l := l) (m := m) (d := d) (.inl g))
    clear g
    go_wp2_with (fail)
    go_ret2
    rw [G.out.1, G.out.2]
    exact ⟨rfl, b2⟩
  | true =>
    go_wp2_with (fail)
    refine (iMet m _).mono ?_; rintro e w' ⟨rfl, rfl⟩
    cases g2 : inB m 0 100000 with
    | false =>
      have G := Lib.hid (cf_bad (l := l) (m := m) (d := d) (.inr (.inl g2)))
      clear g g2
      go_wp2_with (fail)
      go_ret2
      rw [G.out.1, G.out.2]
      exact ⟨rfl, b2⟩
    | true =>
      go_wp2_with (fail)
      refine (iDep5 d _).mono ?_; rintro e w' ⟨rfl, rfl⟩
      cases g3 : inB d (-1000) 20000 with
      | false =>
        have G := Lib.hid (cf_bad (l := l) (m := m) (d := d) (.inr (.inr g3)))
        clear g g2 g3
        go_wp2_with (fail)
        go_ret2
        rw [G.out.1, G.out.2]
        exact ⟨rfl, b2⟩
      | true =>
        have GG := Lib.hid (fun k (hk : k < l.length) => crsGood_at g hk)
        have GC := Lib.hid (And.intro g (And.intro g2 g3))
        have hm := inB_true.1 g2
        clear g g2 g3
        go_upto_region 4 with (fail)
        generalize hW : World.alloc w2 _ = W3
        have I0 : Bk W3 w2.heap.size (bo l m d 0).enc := by rw [← hW]; exact Bk.new w2 (Cr.enc ⟨0, ByteArray.empty, 0, 0, 0, 0, 0⟩) _
        have b3 := b2.trans (Below.mono (show Below w2.heap.size w2 W3 by rw [← hW]; exact below_alloc _ _) b2.size)
        have hg : w.heap.size ≤ w2.heap.size := b2.size
        clear hW b2
        generalize w2.heap.size = gb at *
        go_wp2_with (fail)
        go_loopw [27] (fun i wr => ∃ k : Nat, k ≤ l.length ∧ i = .int .i64 k ∧ Below w.heap.size w wr ∧ Hid (Bk wr gb (bo l m d k).enc)) (fun i _ => l.length - (intOf i).toNat)
        case atStart => exact ⟨0, Nat.zero_le _, rfl, b3, I0⟩
        case round =>
          clear b3 I0
          obtain ⟨k, hk, rfl, hb, HI⟩ := hrel
          by_cases hlt : k < l.length
          · obtain ⟨b, off, rfl⟩ := h.addr (by omega)
            obtain ⟨hbl, c0, c1, c2, c3, c4, c5, c6⟩ := Cr.get (h.below hb) hlt
            have ek := Lib.hid (cri_of hlt)
            have ok := GG.out k hlt
            have bd := crOk_bd ok
            have y1 : IntKind.i64.wrap (60 * l[k].fuel) = 60 * l[k].fuel := IntWalk.i64_in _ (by omega)
            have BS := Lib.hid (show 1 ≤ (cri l k).speed by rw [ek.out]; exact bd.2.2.2.2.2.2.2.2.1)
            clear bd
            go_upto_region 7 with (fail)
            generalize hW : World.alloc wr _ = W4
            have J : Bk W4 wr.heap.size l[k].enc := by rw [← hW]; exact Bk.new _ _ _
            have b4 : Below wr.heap.size wr W4 := by rw [← hW]; exact below_alloc _ _
            have I := HI.out.below b4
            have b5 := bth hb b4
            clear hW hb HI b4 c0 c1 c2 c3 c4 c5 c6 hbl
            generalize wr.heap.size = gv at *
            have TC := Lib.hid (fun (x : Aft W4) => iSecs1 l[k] m x.val ok hm.1 hm.2)
            clear ok
            generalize hv : bo l m d k = v at *
            have HV := Lib.hid hv
            clear hv
            have hA := aft_cell J.1
            have hB := aft_cell I.1
            have j0 := J.2.1 0 _ rfl
            have j1 := J.2.1 1 _ rfl
            have j2 := J.2.1 2 _ rfl
            have j3 := J.2.1 3 _ rfl
            have j4 := J.2.1 4 _ rfl
            have j5 := J.2.1 5 _ rfl
            have j6 := J.2.1 6 _ rfl
            have m5 := I.2.1 5 _ rfl
            by_cases q1 : l[k].draught ≤ d
            · by_cases q2 : secs l[k] m ≤ 60 * l[k].fuel
              · by_cases q3 : v.speed < l[k].speed
                · have HT := Lib.hid (bo_yes (l := l) (m := m) (d := d) (k := k) (by rw [ek.out]; exact q1) (by rw [ek.out]; exact q2) (by rw [HV.out, ek.out]; exact q3)).2
                  go_wp2_with (fail)
                  refine wp_region_aft (by kernel_rfl) (by kernel_rfl) ?_
                  repeat (go_big_quiet_step ((go_at_call 49; exact Aft.calls _ (TC.out _))))
                  refine wpQuiet_nil ?_
                  intro w9 b9
                  have J := J.below b9
                  have I := I.below b9
                  have b5 := bth b5 b9
                  clear j0 j1 j2 j3 j4 j5 j6 m5 hA hB
                  have j0 := J.2.1 0 _ rfl
                  have j1 := J.2.1 1 _ rfl
                  have j2 := J.2.1 2 _ rfl
                  have j3 := J.2.1 3 _ rfl
                  have j4 := J.2.1 4 _ rfl
                  have j5 := J.2.1 5 _ rfl
                  have j6 := J.2.1 6 _ rfl
                  have m0 := I.2.1 0 _ rfl
                  have m1 := I.2.1 1 _ rfl
                  have m2 := I.2.1 2 _ rfl
                  have m3 := I.2.1 3 _ rfl
                  have m4 := I.2.1 4 _ rfl
                  have m5 := I.2.1 5 _ rfl
                  have m6 := I.2.1 6 _ rfl
                  have f0 := I.2.2 0
                  have f1 := I.2.2 1
                  have f2 := I.2.2 2
                  have f3 := I.2.2 3
                  have f4 := I.2.2 4
                  have f5 := I.2.2 5
                  have f6 := I.2.2 6
                  have hz := I.1
                  go_wp2_with (fail)
                  have I9 := I.putAll (Cr.enc l[k]) rfl
                  have b9 := bset b5 hg (Cr.enc l[k]) 0
                  simp only [Cr.enc, World.setCells, Nat.zero_add, Nat.reduceAdd] at I9 b9
                  go_roundw
                  case rel => exact ⟨k + 1, by omega, by go_num, b9, (by rw [HT.out, ek.out]; exact I9 : Bk _ gb (bo l m d (k + 1)).enc)⟩
                  case measure => simp [intOf]; omega
                · have q3' : decide (v.speed < l[k].speed) = false := decide_eq_false q3
                  have HT := Lib.hid (bo_no (l := l) (m := m) (d := d) BS.out (by rw [HV.out, ek.out]; rintro ⟨x1, x2, x3⟩; omega)).2
                  go_wp2_with (fail)
                  refine wp_region_aft (by kernel_rfl) (by kernel_rfl) ?_
                  repeat (go_big_quiet_step ((go_at_call 49; exact Aft.calls _ (TC.out _))))
                  refine wpQuiet_nil ?_
                  intro w9 b9
                  go_wp2_with (fail)
                  go_roundw
                  case rel => exact ⟨k + 1, by omega, by go_num, bth b5 b9, (by rw [HT.out, HV.out]; exact I.below b9 : Bk _ gb (bo l m d (k + 1)).enc)⟩
                  case measure => simp [intOf]; omega
              · have q2' : decide (secs l[k] m ≤ 60 * l[k].fuel) = false := decide_eq_false q2
                have HT := Lib.hid (bo_no (l := l) (m := m) (d := d) BS.out (by rw [HV.out, ek.out]; rintro ⟨x1, x2, x3⟩; omega)).2
                go_wp2_with (fail)
                refine wp_region_aft (by kernel_rfl) (by kernel_rfl) ?_
                repeat (go_big_quiet_step ((go_at_call 49; exact Aft.calls _ (TC.out _))))
                refine wpQuiet_nil ?_
                intro w9 b9
                go_wp2_with (fail)
                go_roundw
                case rel => exact ⟨k + 1, by omega, by go_num, bth b5 b9, (by rw [HT.out, HV.out]; exact I.below b9 : Bk _ gb (bo l m d (k + 1)).enc)⟩
                case measure => simp [intOf]; omega
            · have q1' : decide (l[k].draught ≤ d) = false := decide_eq_false q1
              have HT := Lib.hid (bo_no (l := l) (m := m) (d := d) BS.out (by rw [HV.out, ek.out]; rintro ⟨x1, x2, x3⟩; omega)).2
              go_wp2_with (fail)
              refine wp_region_aft (by kernel_rfl) (by kernel_rfl) ?_
              repeat (go_big_quiet_step ((go_at_call 49; exact Aft.calls _ (TC.out _))))
              refine wpQuiet_nil ?_
              intro w9 b9
              go_wp2_with (fail)
              go_roundw
              case rel => exact ⟨k + 1, by omega, by go_num, bth b5 b9, (by rw [HT.out, HV.out]; exact I.below b9 : Bk _ gb (bo l m d (k + 1)).enc)⟩
              case measure => simp [intOf]; omega
          · obtain rfl : k = l.length := by omega
            have I := HI.out
            rcases cfK_in l m d l.length with e | ⟨j, hj, e, -⟩
            · have G := Lib.hid (cf_none e)
              rw [bo_neg e] at I
              have m0 := I.2.1 0 _ rfl
              clear e HI GC
              go_wp2_with (fail)
              go_ret2
              rw [G.out.1, G.out.2]
              exact ⟨rfl, hb⟩
            · have G := Lib.hid (cf_good GC.out.1 GC.out.2.1 GC.out.2.2 e)
              rw [bo_pos e] at I
              have m0 := I.2.1 0 _ rfl
              have bd := crOk_bd (GG.out j hj)
              have hid : ¬ (cri l j).id = 0 := by rw [cri_of hj]; omega
              clear e HI GC bd
              generalize (cri l j) = v at *
              go_wp2_with (fail)
              go_ret2
              rw [G.out.1, G.out.2]
              exact ⟨rfl, hb⟩
theorem sFor (A : Option Addr) (c : Nat) (l : List Cr) (m d : Int) (w : World) (h : Sl 7 Cr.enc w A l) (hn : l.length ≤ 1048576) (hq : NmS l) :
    Calls Try.prog 23 #[.slice A l.length c, .int .i64 m, .int .i64 d] w fun e w' => e = .returned (.tuple #[.int .i64 (cfV l m d), .bool (cfB l m d)]) ∧ Below w.heap.size w w' := by
  go_enter Try.func23, Try.ntmps23
  go_wp2_with (fail)
  refine (s5Good A c l _ h hn hq).mono ?_; rintro e w2 ⟨rfl, b2⟩
  cases g : crsGood l with
  | false =>
    have G := Lib.hid (cf_bad (l := l) (m := m) (d := d) (.inl g))
    clear g
    go_wp2_with (fail)
    go_ret2
    rw [G.out.1, G.out.2]
    exact ⟨rfl, b2⟩
  | true =>
    go_wp2_with (fail)
    refine (sMet m _).mono ?_; rintro e w' ⟨rfl, rfl⟩
    cases g2 : inB m 0 100000 with
    | false =>
      have G := Lib.hid (cf_bad (l := l) (m := m) (d := d) (.inr (.inl g2)))
      clear g g2
      go_wp2_with (fail)
      go_ret2
      rw [G.out.1, G.out.2]
      exact ⟨rfl, b2⟩
    | true =>
      go_wp2_with (fail)
      refine (sDep5 d _).mono ?_; rintro e w' ⟨rfl, rfl⟩
      cases g3 : inB d (-1000) 20000 with
      | false =>
        have G := Lib.hid (cf_bad (l := l) (m := m) (d := d) (.inr (.inr g3)))
        clear g g2 g3
        go_wp2_with (fail)
        go_ret2
        rw [G.out.1, G.out.2]
        exact ⟨rfl, b2⟩
      | true =>
        have GG := Lib.hid (fun k (hk : k < l.length) => crsGood_at g hk)
        have GC := Lib.hid (And.intro g (And.intro g2 g3))
        have hm := inB_true.1 g2
        clear g g2 g3
        go_wp2_with (fail)
        go_loopw [8, 9] (fun v i wr => ∃ k : Nat, k ≤ l.length ∧ v = .int .i64 (cfK l m d k) ∧ i = .int .i64 k ∧ Below w.heap.size w wr) (fun _ i _ => l.length - (intOf i).toNat)
        case atStart => exact ⟨0, Nat.zero_le _, rfl, rfl, b2⟩
        case round =>
          clear b2
          obtain ⟨k, hk, rfl, rfl, hb⟩ := hrel
          by_cases hlt : k < l.length
          · obtain ⟨b, off, rfl⟩ := h.addr (by omega)
            obtain ⟨hbl, c0, c1, c2, c3, c4, c5, c6⟩ := Cr.get (h.below hb) hlt
            have ek := Lib.hid (cri_of hlt)
            have ok := GG.out k hlt
            have bd := crOk_bd ok
            have y1 : IntKind.i64.wrap (60 * l[k].fuel) = 60 * l[k].fuel := IntWalk.i64_in _ (by omega)
            have BS := Lib.hid (show 1 ≤ (cri l k).speed by rw [ek.out]; exact bd.2.2.2.2.2.2.2.2.1)
            clear bd
            go_upto_region 8 with (fail)
            generalize hW : World.alloc wr _ = W4
            have J : Bk W4 wr.heap.size l[k].enc := by rw [← hW]; exact Bk.new _ _ _
            have b4 : Below wr.heap.size wr W4 := by rw [← hW]; exact below_alloc _ _
            have b5 := bth hb b4
            clear hW hb b4 c0 c1 c2 c3 c4 c5 c6 hbl
            generalize wr.heap.size = gv at *
            have TC := Lib.hid (fun (x : Aft W4) => sSecs1 l[k] m x.val ok hm.1 hm.2)
            clear ok
            have hA := aft_cell J.1
            have j0 := J.2.1 0 _ rfl
            have j1 := J.2.1 1 _ rfl
            have j2 := J.2.1 2 _ rfl
            have j3 := J.2.1 3 _ rfl
            have j4 := J.2.1 4 _ rfl
            have j5 := J.2.1 5 _ rfl
            have j6 := J.2.1 6 _ rfl
            rcases cfK_in l m d k with e | ⟨j, hj, e, -⟩
            · have E := Lib.hid e
              have EB := Lib.hid (bo_neg e)
              rw [e]
              clear e
              by_cases q1 : l[k].draught ≤ d
              · by_cases q2 : secs l[k] m ≤ 60 * l[k].fuel
                · have HT := Lib.hid (bo_yes (l := l) (m := m) (d := d) (k := k) (by rw [ek.out]; exact q1) (by rw [ek.out]; exact q2) (by rw [EB.out]; exact Int.lt_of_lt_of_le (by decide) BS.out)).1
                  go_wp2_with (fail)
                  refine wp_region_aft (by kernel_rfl) (by kernel_rfl) ?_
                  repeat (go_big_quiet_step ((go_at_call 51; exact Aft.calls _ (TC.out _))))
                  refine wpQuiet_nil ?_
                  intro w9 b9
                  go_wp2_with (fail)
                  go_roundw
                  case rel => exact ⟨k + 1, by omega, (by rw [HT.out]), by go_num, bth b5 b9⟩
                  case measure => simp [intOf]; omega
                · have q2' : decide (secs l[k] m ≤ 60 * l[k].fuel) = false := decide_eq_false q2
                  have HT := Lib.hid (bo_no (l := l) (m := m) (d := d) BS.out (by rw [ek.out]; rintro ⟨x1, x2, x3⟩; omega)).1
                  go_wp2_with (fail)
                  refine wp_region_aft (by kernel_rfl) (by kernel_rfl) ?_
                  repeat (go_big_quiet_step ((go_at_call 51; exact Aft.calls _ (TC.out _))))
                  refine wpQuiet_nil ?_
                  intro w9 b9
                  go_wp2_with (fail)
                  go_roundw
                  case rel => exact ⟨k + 1, by omega, (by rw [HT.out]; first | rw [E.out] | skip), by go_num, bth b5 b9⟩
                  case measure => simp [intOf]; omega
              · have q1' : decide (l[k].draught ≤ d) = false := decide_eq_false q1
                have HT := Lib.hid (bo_no (l := l) (m := m) (d := d) BS.out (by rw [ek.out]; rintro ⟨x1, x2, x3⟩; omega)).1
                go_wp2_with (fail)
                refine wp_region_aft (by kernel_rfl) (by kernel_rfl) ?_
                repeat (go_big_quiet_step ((go_at_call 51; exact Aft.calls _ (TC.out _))))
                refine wpQuiet_nil ?_
                intro w9 b9
                go_wp2_with (fail)
                go_roundw
                case rel => exact ⟨k + 1, by omega, (by rw [HT.out]; first | rw [E.out] | skip), by go_num, bth b5 b9⟩
                case measure => simp [intOf]; omega
            · have E := Lib.hid e
              have EB := Lib.hid (bo_pos e)
              have hjl : j < l.length := by omega
              have ej := Lib.hid (cri_of hjl)
              rw [e]
              clear e
              obtain ⟨hbl, d0, d1, d2, d3, d4, d5, d6⟩ := Cr.get (h.below b5) hjl
              have hB := aft_cell hbl
              have v0 : ¬ (j : Int) < 0 := by omega
              have v3 : decide ((j : Int) < 0) = false := decide_eq_false v0
              have v1 : (0 : Int) ≤ (j : Int) := by omega
              have v2 : (j : Int) < (l.length : Int) := by omega
              by_cases q1 : l[k].draught ≤ d
              · by_cases q2 : secs l[k] m ≤ 60 * l[k].fuel
                · by_cases q3 : l[j].speed < l[k].speed
                  · have HT := Lib.hid (bo_yes (l := l) (m := m) (d := d) (k := k) (by rw [ek.out]; exact q1) (by rw [ek.out]; exact q2) (by rw [EB.out, ek.out, ej.out]; exact q3)).1
                    go_wp2_with (fail)
                    refine wp_region_aft (by kernel_rfl) (by kernel_rfl) ?_
                    repeat (go_big_quiet_step ((go_at_call 51; exact Aft.calls _ (TC.out _))))
                    refine wpQuiet_nil ?_
                    intro w9 b9
                    go_wp2_with (fail)
                    go_roundw
                    case rel => exact ⟨k + 1, by omega, (by rw [HT.out]), by go_num, bth b5 b9⟩
                    case measure => simp [intOf]; omega
                  · have q3' : decide (l[j].speed < l[k].speed) = false := decide_eq_false q3
                    have HT := Lib.hid (bo_no (l := l) (m := m) (d := d) BS.out (by rw [ek.out]; rintro ⟨x1, x2, x3⟩; rw [EB.out, ej.out] at x3; omega)).1
                    go_wp2_with (fail)
                    refine wp_region_aft (by kernel_rfl) (by kernel_rfl) ?_
                    repeat (go_big_quiet_step ((go_at_call 51; exact Aft.calls _ (TC.out _))))
                    refine wpQuiet_nil ?_
                    intro w9 b9
                    go_wp2_with (fail)
                    go_roundw
                    case rel => exact ⟨k + 1, by omega, (by rw [HT.out]; first | rw [E.out] | skip), by go_num, bth b5 b9⟩
                    case measure => simp [intOf]; omega
                · have q2' : decide (secs l[k] m ≤ 60 * l[k].fuel) = false := decide_eq_false q2
                  have HT := Lib.hid (bo_no (l := l) (m := m) (d := d) BS.out (by rw [ek.out]; rintro ⟨x1, x2, x3⟩; omega)).1
                  go_wp2_with (fail)
                  refine wp_region_aft (by kernel_rfl) (by kernel_rfl) ?_
                  repeat (go_big_quiet_step ((go_at_call 51; exact Aft.calls _ (TC.out _))))
                  refine wpQuiet_nil ?_
                  intro w9 b9
                  go_wp2_with (fail)
                  go_roundw
                  case rel => exact ⟨k + 1, by omega, (by rw [HT.out]; first | rw [E.out] | skip), by go_num, bth b5 b9⟩
                  case measure => simp [intOf]; omega
              · have q1' : decide (l[k].draught ≤ d) = false := decide_eq_false q1
                have HT := Lib.hid (bo_no (l := l) (m := m) (d := d) BS.out (by rw [ek.out]; rintro ⟨x1, x2, x3⟩; omega)).1
                go_wp2_with (fail)
                refine wp_region_aft (by kernel_rfl) (by kernel_rfl) ?_
                repeat (go_big_quiet_step ((go_at_call 51; exact Aft.calls _ (TC.out _))))
                refine wpQuiet_nil ?_
                intro w9 b9
                go_wp2_with (fail)
                go_roundw
                case rel => exact ⟨k + 1, by omega, (by rw [HT.out]; first | rw [E.out] | skip), by go_num, bth b5 b9⟩
                case measure => simp [intOf]; omega
          · obtain rfl : k = l.length := by omega
            rcases cfK_in l m d l.length with e | ⟨j, hj, e, -⟩
            · have G := Lib.hid (cf_none e)
              rw [e]
              clear e GC
              go_wp2_with (fail)
              go_ret2
              rw [G.out.1, G.out.2]
              exact ⟨rfl, hb⟩
            · have G := Lib.hid (cf_good GC.out.1 GC.out.2.1 GC.out.2.2 e)
              rw [e]
              clear e GC
              rw [cri_of hj] at G
              obtain ⟨b, off, rfl⟩ := h.addr (by omega)
              obtain ⟨hbl, d0, d1, d2, d3, d4, d5, d6⟩ := Cr.get (h.below hb) hj
              have v0 : ¬ (j : Int) < 0 := by omega
              have v3 : decide ((j : Int) < 0) = false := decide_eq_false v0
              have v1 : (0 : Int) ≤ (j : Int) := by omega
              have v2 : (j : Int) < (l.length : Int) := by omega
              go_wp2_with (fail)
              go_ret2
              rw [G.out.1, G.out.2]
              exact ⟨rfl, hb⟩
end Go.Proofs.Ytanmkjjclpplkaa
