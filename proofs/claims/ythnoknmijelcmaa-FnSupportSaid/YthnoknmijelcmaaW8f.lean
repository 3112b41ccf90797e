/- ShoalestIn of both texts: what it returns. Lists of at most 1048576 soundings. -/
import Derived.Test.YthnoknmijelcmaaP8c
import Derived.Test.YthnoknmijelcmaaW8e
set_option linter.unusedVariables false
set_option linter.unusedSimpArgs false
namespace Go.Proofs.Ythnoknmijelcmaa
open Go.RowKit
set_option maxHeartbeats 2000000
theorem Bk.aft {w : World} {g : Nat} {cs : List Value} (h : Bk w g cs) (x : Aft w) : Bk x.val g cs := h.below x.bel
theorem inClos (x : Sd) (b : Bx) (g : Nat) (w : World) (hg : Bk w g b.enc) :
    Calls Try.prog 68 #[.agg #[.int .i64 x.id, .int .i64 x.x, .int .i64 x.y, .int .i64 x.depth, .int .i64 x.doubt], .pointer (some ⟨g, 0, none⟩)] w fun e w' => e = .returned (.bool (inP b x)) ∧ Below w.heap.size w w' := by
  have hlt := hg.1
  have k0 := hg.2.1 0 _ rfl
  have k1 := hg.2.1 1 _ rfl
  have k2 := hg.2.1 2 _ rfl
  have k3 := hg.2.1 3 _ rfl
  clear hg
  go_enter Try.func68, Try.ntmps68
  go_wp2_with (fail)
  refine (implHas x.x x.y b _).mono ?_; rintro e w1 ⟨rfl, b1⟩
  go_wp2_with (fail)
  go_ret
  exact ⟨rfl, (below_alloc w _).trans (b1.mono (by simp))⟩
theorem i8Shoal (A : Option Addr) (c : Nat) (l : List Sd) (bx : Bx) (g : Nat) (w : World) (h : Sl 5 Sd.enc w A l) (hd : sdGood l = true) (hg : Bk w g bx.enc) :
    Calls Try.prog 53 #[.slice A l.length c, .func (.func 68) #[] #[.pointer (some ⟨g, 0, none⟩)]] w fun e w' => e = .returned (.int .i64 (bstK (inP bx) l l.length)) ∧ Below w.heap.size w w' := by
  have h12 := sdGood_len hd
  have G := Lib.hid hd
  clear hd
  go_enter Try.func53, Try.ntmps53
  go_wp2
  go_loopw [5, 10] (fun x i wr => ∃ k : Nat, k ≤ l.length ∧ i = .int .i64 k ∧ x = .int .i64 (bstK (inP bx) l k) ∧ Below w.heap.size w wr) (fun _ i _ => l.length - (intOf i).toNat)
  case atStart => exact ⟨0, Nat.zero_le _, rfl, rfl, Below.refl _ _⟩
  case round =>
    obtain ⟨k, hk, rfl, rfl, hb⟩ := hrel
    by_cases hlt : k < l.length
    · obtain ⟨b, off, rfl⟩ := h.addr (by omega)
      have hs := h.below hb
      obtain ⟨hbl, c0, c1, c2, c3, c4⟩ := Sd.get hs hlt
      have gk := sdGood_at G.out hlt
      have u1 : (0 : Int) ≤ (k : Int) := by omega
      have u2 : (k : Int) < (l.length : Int) := by omega
      go_wp2_with (fail)
      generalize hW : World.alloc wr _ = W1
      obtain ⟨bW, kW, _⟩ := alloc_facts hW
      clear hW c0 c1 c2 c3 c4
      have hb := bth hb bW
      have hs := hs.below bW
      have hA := aft_cell (Nat.lt_of_lt_of_le hbl bW.size)
      have hB := aft_cell kW.1
      have hg := hg.below hb
      have m0 := kW.2.1 0 _ rfl
      have m1 := kW.2.1 1 _ rfl
      have m2 := kW.2.1 2 _ rfl
      have m3 := kW.2.1 3 _ rfl
      have m4 := kW.2.1 4 _ rfl
      clear kW bW hbl
      have HGr := Lib.hid hg
      clear hg
      cases hp : inP bx l[k] with
      | false =>
        have HN := Lib.hid (bstK_no hlt hp)
        have HP := Lib.hid hp
        clear hp
        refine wp_region_aft (by kernel_rfl) (by kernel_rfl) ?_
        repeat (go_big_quiet_step ((go_at_call 68; exact Aft.callsB _ (inClos l[k] bx _ _ (HGr.out.aft _)) HP.out)))
        refine wpQuiet_nil ?_
        intro w9 b9
        go_wp2
        go_roundw
        case rel => exact ⟨k + 1, by omega, by go_num, vi HN.out.symm, bth hb b9⟩
        case measure => simp [intOf]; omega
      | true =>
        rcases bstK_cases (inP bx) l k hk with hi | ⟨i, hil, hi, _⟩
        · have HN := Lib.hid (bstK_first hlt hp hi)
          have HP := Lib.hid hp
          rw [hi]
          clear hp hi
          refine wp_region_aft (by kernel_rfl) (by kernel_rfl) ?_
          repeat (go_big_quiet_step ((go_at_call 68; exact Aft.callsB _ (inClos l[k] bx _ _ (HGr.out.aft _)) HP.out)))
          refine wpQuiet_nil ?_
          intro w9 b9
          go_wp2
          go_roundw
          case rel => exact ⟨k + 1, by omega, by go_num, vi HN.out.symm, bth hb b9⟩
          case measure => simp [intOf]; omega
        · have HN := Lib.hid (bstK_more hlt hil hp hi)
          have HP := Lib.hid hp
          have gi := sdGood_at G.out hil
          obtain ⟨_, d0, d1, d2, d3, d4⟩ := Sd.get hs hil
          have u3 : (0 : Int) ≤ (i : Int) := by omega
          have u4 : (i : Int) < (l.length : Int) := by omega
          have u5 : decide ((i : Int) < 0) = false := by simp
          rw [hi]
          clear hp hi
          refine wp_region_aft (by kernel_rfl) (by kernel_rfl) ?_
          repeat (go_big_quiet_step ((first | (go_at_call 68; exact Aft.callsB _ (inClos l[k] bx _ _ (HGr.out.aft _)) HP.out) | (go_at_call 56; exact Aft.calls _ (implLeast _ _ (by assumption))))))
          refine wpQuiet_nil ?_
          intro w9 b9
          go_wp2
          all_goals
            go_roundw
            case rel => exact ⟨k + 1, by omega, by go_num, vi (by rw [HN.out]; split <;> first | rfl | omega), bth hb b9⟩
            case measure => simp [intOf]; omega
    · obtain rfl : k = l.length := by omega
      go_wp2
      go_ret
      exact ⟨rfl, hb⟩
theorem iShoalest (A : Option Addr) (c : Nat) (l : List Sd) (bx : Bx) (w : World) (h : Sl 5 Sd.enc w A l) (hn : l.length ≤ 1048576) :
    Calls Try.prog 31 #[.slice A l.length c, .agg #[.int .i64 bx.west, .int .i64 bx.south, .int .i64 bx.east, .int .i64 bx.north]] w fun e w' => e = .returned (.tuple #[.int .i64 (shV l bx), .bool (shOk l bx)]) ∧ Below w.heap.size w w' := by
  go_enter Try.func31, Try.ntmps31
  go_wp2_with (fail)
  generalize hW : World.alloc w _ = W1
  obtain ⟨bW, kW, _⟩ := alloc_facts hW
  clear hW
  refine (i8Good _ _ l _ (h.below bW) hn).mono ?_; rintro e w1 ⟨rfl, b1⟩
  have k1 := kW.below b1
  have b1 := bth bW b1
  clear kW bW
  cases g : sdGood l with
  | false =>
    obtain ⟨e1, e2⟩ := sh_bad (b := bx) (.inl g)
    have E1 := Lib.hid e1
    have E2 := Lib.hid e2
    clear e1 e2 g
    go_wp2
    go_ret2
    exact ⟨ret_t2 (vi E2.out.symm) (vb E1.out.symm), b1⟩
  | true =>
    have m0 := k1.2.1 0 _ rfl
    have m1 := k1.2.1 1 _ rfl
    have m2 := k1.2.1 2 _ rfl
    have m3 := k1.2.1 3 _ rfl
    have G := Lib.hid g
    clear g
    go_wp2_with (fail)
    refine (implBox bx _).mono ?_; rintro e w2 ⟨rfl, b2⟩
    have k2 := k1.below b2
    have b2 := bth b1 b2
    clear m0 m1 m2 m3
    cases g2 : bxOk bx with
    | false =>
      obtain ⟨e1, e2⟩ := sh_bad (l := l) (.inr (.inl g2))
      have E1 := Lib.hid e1
      have E2 := Lib.hid e2
      clear e1 e2 g2
      go_wp2
      go_ret2
      exact ⟨ret_t2 (vi E2.out.symm) (vb E1.out.symm), b2⟩
    | true =>
      have G2 := Lib.hid g2
      clear g2
      go_wp2_with (fail)
      refine (i8Shoal _ _ l bx _ _ (h.below b2) G.out k2).mono ?_; rintro e w3 ⟨rfl, b3⟩
      have b3 := bth b2 b3
      rcases bstK_cases (inP bx) l l.length (Nat.le_refl _) with hi | ⟨i, hil, hi, _⟩
      · rw [hi]
        obtain ⟨e1, e2⟩ := sh_bad (.inr (.inr hi))
        have E1 := Lib.hid e1
        have E2 := Lib.hid e2
        clear e1 e2 hi
        go_wp2
        go_ret2
        exact ⟨ret_t2 (vi E2.out.symm) (vb E1.out.symm), b3⟩
      · rw [hi]
        obtain ⟨e1, e2⟩ := sh_good G.out G2.out hil hi
        have E1 := Lib.hid e1
        have E2 := Lib.hid e2
        clear e1 e2 hi
        have hs := h.below b3
        obtain ⟨b, off, rfl⟩ := h.addr (by omega)
        obtain ⟨_, c0, _, _, _, _⟩ := Sd.get hs hil
        go_wp2
        go_ret2
        exact ⟨ret_t2 (vi E2.out.symm) (vb E1.out.symm), b3⟩
theorem sShoalest (A : Option Addr) (c : Nat) (l : List Sd) (bx : Bx) (w : World) (h : Sl 5 Sd.enc w A l) (hn : l.length ≤ 1048576) :
    Calls Try.prog 29 #[.slice A l.length c, .agg #[.int .i64 bx.west, .int .i64 bx.south, .int .i64 bx.east, .int .i64 bx.north]] w fun e w' => e = .returned (.tuple #[.int .i64 (shV l bx), .bool (shOk l bx)]) ∧ Below w.heap.size w w' := by
  go_enter Try.func29, Try.ntmps29
  go_wp2_with (fail)
  generalize hW : World.alloc w _ = W1
  obtain ⟨bW, kW, _⟩ := alloc_facts hW
  clear hW
  refine (s8Good _ _ l _ (h.below bW) hn).mono ?_; rintro e w1 ⟨rfl, b1⟩
  have k1 := kW.below b1
  have b1 := bth bW b1
  clear kW bW
  cases g : sdGood l with
  | false =>
    obtain ⟨e1, e2⟩ := sh_bad (b := bx) (.inl g)
    have E1 := Lib.hid e1
    have E2 := Lib.hid e2
    clear e1 e2 g
    go_wp2
    go_ret2
    exact ⟨ret_t2 (vi E2.out.symm) (vb E1.out.symm), b1⟩
  | true =>
    have m0 := k1.2.1 0 _ rfl
    have m1 := k1.2.1 1 _ rfl
    have m2 := k1.2.1 2 _ rfl
    have m3 := k1.2.1 3 _ rfl
    have G := Lib.hid g
    clear g
    go_wp2_with (fail)
    refine (specBox bx _).mono ?_; rintro e w2 ⟨rfl, b2⟩
    have k2 := k1.below b2
    have b2 := bth b1 b2
    clear m0 m1 m2 m3
    cases g2 : bxOk bx with
    | false =>
      obtain ⟨e1, e2⟩ := sh_bad (l := l) (.inr (.inl g2))
      have E1 := Lib.hid e1
      have E2 := Lib.hid e2
      clear e1 e2 g2
      go_wp2
      go_ret2
      exact ⟨ret_t2 (vi E2.out.symm) (vb E1.out.symm), b2⟩
    | true =>
      have G2 := Lib.hid g2
      have h12 := sdGood_len G.out
      have h := h.below b2
      clear g2
      go_wp2
      go_loopw [6, 7] (fun x i wr => ∃ k : Nat, k ≤ l.length ∧ i = .int .i64 k ∧ x = .int .i64 (bstK (inP bx) l k) ∧ Below w2.heap.size w2 wr) (fun _ i _ => l.length - (intOf i).toNat)
      case atStart => exact ⟨0, Nat.zero_le _, rfl, rfl, Below.refl _ _⟩
      case round =>
        obtain ⟨k, hk, rfl, rfl, hb⟩ := hrel
        by_cases hlt : k < l.length
        · obtain ⟨b, off, rfl⟩ := h.addr (by omega)
          have hs := h.below hb
          obtain ⟨hbl, c0, c1, c2, c3, c4⟩ := Sd.get hs hlt
          have gk := sdGood_at G.out hlt
          have u1 : (0 : Int) ≤ (k : Int) := by omega
          have u2 : (k : Int) < (l.length : Int) := by omega
          have hA := aft_cell hbl
          have hg := k2.below hb
          have hB := aft_cell hg.1
          have m0 := hg.2.1 0 _ rfl
          have m1 := hg.2.1 1 _ rfl
          have m2 := hg.2.1 2 _ rfl
          have m3 := hg.2.1 3 _ rfl
          clear hg hbl
          cases hp : inP bx l[k] with
          | false =>
            have HN := Lib.hid (bstK_no hlt hp)
            have HP := Lib.hid (show inBx bx l[k].x l[k].y = false from hp)
            clear hp
            go_wp2_with (fail)
            refine wp_region_aft (by kernel_rfl) (by kernel_rfl) ?_
            repeat (go_big_quiet_step ((go_at_call 66; exact Aft.callsB _ (specHas l[k].x l[k].y bx _) HP.out)))
            refine wpQuiet_nil ?_
            intro w9 b9
            go_wp2
            go_roundw
            case rel => exact ⟨k + 1, by omega, by go_num, vi HN.out.symm, bth hb b9⟩
            case measure => simp [intOf]; omega
          | true =>
            rcases bstK_cases (inP bx) l k hk with hi | ⟨i, hil, hi, _⟩
            · have HN := Lib.hid (bstK_first hlt hp hi)
              have HP := Lib.hid (show inBx bx l[k].x l[k].y = true from hp)
              rw [hi]
              clear hp hi
              go_wp2_with (fail)
              refine wp_region_aft (by kernel_rfl) (by kernel_rfl) ?_
              repeat (go_big_quiet_step ((go_at_call 66; exact Aft.callsB _ (specHas l[k].x l[k].y bx _) HP.out)))
              refine wpQuiet_nil ?_
              intro w9 b9
              go_wp2
              go_roundw
              case rel => exact ⟨k + 1, by omega, by go_num, vi HN.out.symm, bth hb b9⟩
              case measure => simp [intOf]; omega
            · have HN := Lib.hid (bstK_more hlt hil hp hi)
              have HP := Lib.hid (show inBx bx l[k].x l[k].y = true from hp)
              have gi := sdGood_at G.out hil
              obtain ⟨_, d0, d1, d2, d3, d4⟩ := Sd.get hs hil
              have u3 : (0 : Int) ≤ (i : Int) := by omega
              have u4 : (i : Int) < (l.length : Int) := by omega
              have u5 : decide ((i : Int) < 0) = false := by simp
              rw [hi]
              clear hp hi
              go_wp2_with (fail)
              refine wp_region_aft (by kernel_rfl) (by kernel_rfl) ?_
              repeat (go_big_quiet_step ((first | (go_at_call 66; exact Aft.callsB _ (specHas l[k].x l[k].y bx _) HP.out) | (go_at_call 52; exact Aft.calls _ (specLow _ _ (by assumption))))))
              refine wpQuiet_nil ?_
              intro w9 b9
              go_wp2
              all_goals
                go_roundw
                case rel => exact ⟨k + 1, by omega, by go_num, vi (by rw [HN.out]; split <;> first | rfl | omega), bth hb b9⟩
                case measure => simp [intOf]; omega
        · obtain rfl : k = l.length := by omega
          have b3 := bth b2 hb
          rcases bstK_cases (inP bx) l l.length (Nat.le_refl _) with hi | ⟨i, hil, hi, _⟩
          · rw [hi]
            obtain ⟨e1, e2⟩ := sh_bad (.inr (.inr hi))
            have E1 := Lib.hid e1
            have E2 := Lib.hid e2
            clear e1 e2 hi
            go_wp2
            go_ret2
            exact ⟨ret_t2 (vi E2.out.symm) (vb E1.out.symm), b3⟩
          · rw [hi]
            obtain ⟨e1, e2⟩ := sh_good G.out G2.out hil hi
            have E1 := Lib.hid e1
            have E2 := Lib.hid e2
            clear e1 e2 hi
            have hs := h.below hb
            obtain ⟨b, off, rfl⟩ := h.addr (by omega)
            obtain ⟨_, c0, _, _, _, _⟩ := Sd.get hs hil
            go_wp2
            go_ret2
            exact ⟨ret_t2 (vi E2.out.symm) (vb E1.out.symm), b3⟩
end Go.Proofs.Ythnoknmijelcmaa
