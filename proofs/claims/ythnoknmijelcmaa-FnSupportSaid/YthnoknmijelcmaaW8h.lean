/- SupportedDepth of both texts: what it returns, the functions themselves. Lists of at most 1048576 soundings. -/
import Derived.Test.YthnoknmijelcmaaW8g
set_option linter.unusedVariables false
set_option linter.unusedSimpArgs false
namespace Go.Proofs.Ythnoknmijelcmaa
open Go.RowKit
set_option maxHeartbeats 2000000
theorem iSupp (A : Option Addr) (c : Nat) (l : List Sd) (p : Sp) (r : Int) (w : World) (h : Sl 5 Sd.enc w A l) (hn : l.length ≤ 1048576) :
    Calls Try.prog 22 #[.slice A l.length c, .agg #[.int .i64 p.sx, .int .i64 p.sy], .int .i64 r] w fun e w' => e = .returned (.tuple #[.int .i64 (suV l p.sx p.sy r), .bool (suOk l p.sx p.sy r)]) ∧ Below w.heap.size w w' := by
  go_enter Try.func22, Try.ntmps22
  go_wp2_with (fail)
  generalize hW : World.alloc w _ = W1
  obtain ⟨bW, kW, _⟩ := alloc_facts hW
  have eW : W1.heap.size = w.heap.size + 1 := by rw [← hW]; simp
  clear hW
  generalize hW2 : World.alloc W1 _ = W2
  obtain ⟨bW2, kW2, _⟩ := alloc_facts hW2
  clear hW2
  rw [eW] at kW2
  clear eW
  have kW := kW.below bW2
  have bW := bth bW bW2
  refine (i8Good _ _ l _ (h.below bW) hn).mono ?_; rintro e w1 ⟨rfl, b1⟩
  have k1 := kW.below b1
  have j1 := kW2.below b1
  have b1 := bth bW b1
  clear kW kW2 bW bW2
  cases g : sdGood l with
  | false =>
    obtain ⟨e1, e2⟩ := su_bad (px := p.sx) (py := p.sy) (r := r) (.inl g)
    have E1 := Lib.hid e1
    have E2 := Lib.hid e2
    clear e1 e2 g
    go_wp2
    go_ret2
    exact ⟨ret_t2 (vi E2.out.symm) (vb E1.out.symm), b1⟩
  | true =>
    have m0 := k1.2.1 0 _ rfl
    have m1 := k1.2.1 1 _ rfl
    have G := Lib.hid g
    clear g
    go_wp2_with (fail)
    refine (implSpot p.sx p.sy _).mono ?_; rintro e w2 ⟨rfl, b2⟩
    have k2 := k1.below b2
    have j2 := j1.below b2
    have b2 := bth b1 b2
    clear m0 m1
    cases g2 : spOk p.sx p.sy with
    | false =>
      obtain ⟨e1, e2⟩ := su_bad (l := l) (r := r) (.inr (.inl g2))
      have E1 := Lib.hid e1
      have E2 := Lib.hid e2
      clear e1 e2 g2
      go_wp2
      go_ret2
      exact ⟨ret_t2 (vi E2.out.symm) (vb E1.out.symm), b2⟩
    | true =>
      have G2 := Lib.hid g2
      have m0 := j2.2.1 0 _ rfl
      clear g2
      go_wp2_with (fail)
      refine (implIn r 0 1000 _).mono ?_; rintro e w' ⟨rfl, rfl⟩
      cases g3 : inB r 0 1000 with
      | false =>
        obtain ⟨e1, e2⟩ := su_bad (l := l) (px := p.sx) (py := p.sy) (.inr (.inr (.inl g3)))
        have E1 := Lib.hid e1
        have E2 := Lib.hid e2
        clear e1 e2 g3
        go_wp2
        go_ret2
        exact ⟨ret_t2 (vi E2.out.symm) (vb E1.out.symm), b2⟩
      | true =>
        have G3 := Lib.hid g3
        clear g3 m0
        go_wp2_with (fail)
        refine (i8Near _ _ l p r _ _ _ (h.below b2) G.out k2 j2 G2.out G3.out).mono ?_; rintro e w3 ⟨rfl, b3⟩
        have b3 := bth b2 b3
        rcases bstK_cases (nearP p.sx p.sy r) l l.length (Nat.le_refl _) with hi | ⟨i, hil, hi, _⟩
        · rw [hi]
          obtain ⟨e1, e2⟩ := su_bad (.inr (.inr (.inr hi)))
          have E1 := Lib.hid e1
          have E2 := Lib.hid e2
          clear e1 e2 hi
          go_wp2
          go_ret2
          exact ⟨ret_t2 (vi E2.out.symm) (vb E1.out.symm), b3⟩
        · rw [hi]
          obtain ⟨e1, e2⟩ := su_good G.out G2.out G3.out hil hi
          have E1 := Lib.hid e1
          have E2 := Lib.hid e2
          clear e1 e2 hi
          have hs := h.below b3
          have gi := sdGood_at G.out hil
          obtain ⟨b, off, rfl⟩ := h.addr (by omega)
          obtain ⟨_, c0, c1, c2, c3, c4⟩ := Sd.get hs hil
          go_wp2_with (fail)
          refine (implLeast l[i] _ gi).mono ?_; rintro e w4 ⟨rfl, b4⟩
          go_wp2
          go_ret2
          exact ⟨ret_t2 (vi E2.out.symm) (vb E1.out.symm), bth b3 b4⟩
theorem sSupp (A : Option Addr) (c : Nat) (l : List Sd) (p : Sp) (r : Int) (w : World) (h : Sl 5 Sd.enc w A l) (hn : l.length ≤ 1048576) :
    Calls Try.prog 20 #[.slice A l.length c, .agg #[.int .i64 p.sx, .int .i64 p.sy], .int .i64 r] w fun e w' => e = .returned (.tuple #[.int .i64 (suV l p.sx p.sy r), .bool (suOk l p.sx p.sy r)]) ∧ Below w.heap.size w w' := by
  go_enter Try.func20, Try.ntmps20
  go_wp2_with (fail)
  generalize hW : World.alloc w _ = W1
  obtain ⟨bW, kW, _⟩ := alloc_facts hW
  clear hW
  refine (s8Good _ _ l _ (h.below bW) hn).mono ?_; rintro e w1 ⟨rfl, b1⟩
  have k1 := kW.below b1
  have b1 := bth bW b1
  clear kW bW
  cases g : sdGood l with
  | false =>
    obtain ⟨e1, e2⟩ := su_bad (px := p.sx) (py := p.sy) (r := r) (.inl g)
    have E1 := Lib.hid e1
    have E2 := Lib.hid e2
    clear e1 e2 g
    go_wp2
    go_ret2
    exact ⟨ret_t2 (vi E2.out.symm) (vb E1.out.symm), b1⟩
  | true =>
    have m0 := k1.2.1 0 _ rfl
    have m1 := k1.2.1 1 _ rfl
    have G := Lib.hid g
    clear g
    go_wp2_with (fail)
    refine (specSpot p.sx p.sy _).mono ?_; rintro e w2 ⟨rfl, b2⟩
    have k2 := k1.below b2
    have b2 := bth b1 b2
    clear m0 m1
    cases g2 : spOk p.sx p.sy with
    | false =>
      obtain ⟨e1, e2⟩ := su_bad (l := l) (r := r) (.inr (.inl g2))
      have E1 := Lib.hid e1
      have E2 := Lib.hid e2
      clear e1 e2 g2
      go_wp2
      go_ret2
      exact ⟨ret_t2 (vi E2.out.symm) (vb E1.out.symm), b2⟩
    | true =>
      have G2 := Lib.hid g2
      clear g2
      go_wp2_with (fail)
      refine (specGrid r _).mono ?_; rintro e w' ⟨rfl, rfl⟩
      cases g3 : inB r 0 1000 with
      | false =>
        obtain ⟨e1, e2⟩ := su_bad (l := l) (px := p.sx) (py := p.sy) (.inr (.inr (.inl g3)))
        have E1 := Lib.hid e1
        have E2 := Lib.hid e2
        clear e1 e2 g3
        go_wp2
        go_ret2
        exact ⟨ret_t2 (vi E2.out.symm) (vb E1.out.symm), b2⟩
      | true =>
        have G3 := Lib.hid g3
        have h12 := sdGood_len G.out
        have q := rr_bd g3
        have hq := inB_true.1 g3
        have u5 : IntKind.i64.wrap (r * r) = r * r := IntWalk.i64_in _ (by omega)
        have h := h.below b2
        clear g3
        go_wp2
        go_loopw [8, 9, 10] (fun x s i wr => ∃ k : Nat, k ≤ l.length ∧ i = .int .i64 k ∧ x = .int .i64 (lstK (nearP p.sx p.sy r) l k) ∧ s = .bool (smK (nearP p.sx p.sy r) l k) ∧ Below w2.heap.size w2 wr) (fun _ _ i _ => l.length - (intOf i).toNat)
        case atStart =>
          obtain ⟨z1, z2⟩ := lst_none (p := nearP p.sx p.sy r) (l := l) (k := 0) rfl
          exact ⟨0, Nat.zero_le _, rfl, vi z1.symm, vb z2.symm, Below.refl _ _⟩
        case round =>
          obtain ⟨k, hk, rfl, rfl, rfl, hb⟩ := hrel
          by_cases hlt : k < l.length
          · obtain ⟨b, off, rfl⟩ := h.addr (by omega)
            have hs := h.below hb
            obtain ⟨hbl, c0, c1, c2, c3, c4⟩ := Sd.get hs hlt
            have gk := sdGood_at G.out hlt
            have u1 : (0 : Int) ≤ (k : Int) := by omega
            have u2 : (k : Int) < (l.length : Int) := by omega
            have hA := aft_cell hbl
            have hg := k2.below hb
            have hB := aft_cell hg.1
            have m0 := hg.2.1 0 _ rfl
            have m1 := hg.2.1 1 _ rfl
            have gs := Lib.hid (sdOk_spOk gk)
            have ng := near_gt (px := p.sx) (py := p.sy) (r := r) (x := l[k])
            clear hg
            cases hp : nearP p.sx p.sy r l[k] with
            | false =>
              obtain ⟨z1, z2⟩ := lst_same (bstK_no hlt hp)
              have Z1 := Lib.hid z1
              have Z2 := Lib.hid z2
              rw [hp] at ng
              have hgt : r * r < sqr l[k].x l[k].y p.sx p.sy := by simpa using ng
              clear hp z1 z2 ng
              go_wp2_with (fail)
              refine wp_region_aft (by kernel_rfl) (by kernel_rfl) ?_
              repeat (go_big_quiet_step ((go_at_call 51; exact Aft.calls _ (specSqr _ _ _ _ _ gs.out G2.out))))
              refine wpQuiet_nil ?_
              intro w9 b9
              go_wp2
              go_roundw
              case rel => exact ⟨k + 1, by omega, by go_num, vi Z1.out.symm, vb Z2.out.symm, bth hb b9⟩
              case measure => simp [intOf]; omega
            | true =>
              rw [hp] at ng
              have hle : sqr l[k].x l[k].y p.sx p.sy ≤ r * r := by simpa using ng
              rcases bstK_cases (nearP p.sx p.sy r) l k hk with hi | ⟨i, hil, hi, _⟩
              · obtain ⟨z1, z2⟩ := lst_some hlt (bstK_first hlt hp hi)
                obtain ⟨y1, y2⟩ := lst_none hi
                have Z1 := Lib.hid z1
                have Z2 := Lib.hid z2
                rw [y1, y2]
                clear hp hi z1 z2 y1 y2 ng
                go_wp2_with (fail)
                refine wp_region_aft (by kernel_rfl) (by kernel_rfl) ?_
                repeat (go_big_quiet_step ((go_at_call 51; exact Aft.calls _ (specSqr _ _ _ _ _ gs.out G2.out))))
                refine wpQuiet_nil ?_
                intro w9 b9
                have c0' := (hA ⟨w9, b9⟩ (off + k * 5)).trans c0
                have c1' := (hA ⟨w9, b9⟩ (off + k * 5 + 1)).trans c1
                have c2' := (hA ⟨w9, b9⟩ (off + k * 5 + 2)).trans c2
                have c3' := (hA ⟨w9, b9⟩ (off + k * 5 + 3)).trans c3
                have c4' := (hA ⟨w9, b9⟩ (off + k * 5 + 4)).trans c4
                go_wp2_with (go_at_call 52; refine (specLow l[k] _ gk).mono ?_; rintro e w3 ⟨rfl, b3⟩)
                go_roundw
                case rel => exact ⟨k + 1, by omega, by go_num, vi Z1.out.symm, vb Z2.out.symm, bth (bth hb b9) b3⟩
                case measure => simp [intOf]; omega
              · obtain ⟨y1, y2⟩ := lst_some hil hi
                have Z := Lib.hid (show (l[k].depth - l[k].doubt < l[i].depth - l[i].doubt → lstK (nearP p.sx p.sy r) l (k + 1) = l[k].depth - l[k].doubt ∧ smK (nearP p.sx p.sy r) l (k + 1) = true) ∧ (¬ l[k].depth - l[k].doubt < l[i].depth - l[i].doubt → lstK (nearP p.sx p.sy r) l (k + 1) = l[i].depth - l[i].doubt ∧ smK (nearP p.sx p.sy r) l (k + 1) = true) by
                  have e := bstK_more hlt hil hp hi
                  constructor
                  · intro hh; rw [if_pos hh] at e; exact lst_some hlt e
                  · intro hh; rw [if_neg hh] at e; exact lst_some hil e)
                rw [y1, y2]
                clear hp hi y1 y2 ng
                go_wp2_with (fail)
                refine wp_region_aft (by kernel_rfl) (by kernel_rfl) ?_
                repeat (go_big_quiet_step ((go_at_call 51; exact Aft.calls _ (specSqr _ _ _ _ _ gs.out G2.out))))
                refine wpQuiet_nil ?_
                intro w9 b9
                have c0' := (hA ⟨w9, b9⟩ (off + k * 5)).trans c0
                have c1' := (hA ⟨w9, b9⟩ (off + k * 5 + 1)).trans c1
                have c2' := (hA ⟨w9, b9⟩ (off + k * 5 + 2)).trans c2
                have c3' := (hA ⟨w9, b9⟩ (off + k * 5 + 3)).trans c3
                have c4' := (hA ⟨w9, b9⟩ (off + k * 5 + 4)).trans c4
                go_wp2_with (fail)
                refine (specLow l[k] _ gk).mono ?_; rintro e w3 ⟨rfl, b3⟩
                obtain ⟨q3, -⟩ := bcell b3
                have hl9 := Nat.lt_of_lt_of_le hbl b9.size
                by_cases hh : l[k].depth - l[k].doubt < l[i].depth - l[i].doubt
                · have Z1 := Lib.hid (Z.out.1 hh)
                  go_wp2_with (go_at_call 52; refine (specLow l[k] _ gk).mono ?_; rintro e w4 ⟨rfl, b4⟩)
                  go_roundw
                  case rel => exact ⟨k + 1, by omega, by go_num, vi Z1.out.1.symm, vb Z1.out.2.symm, bth (bth (bth hb b9) b3) b4⟩
                  case measure => simp [intOf]; omega
                · have Z1 := Lib.hid (Z.out.2 (by omega))
                  go_wp2
                  go_roundw
                  case rel => exact ⟨k + 1, by omega, by go_num, vi Z1.out.1.symm, vb Z1.out.2.symm, bth (bth hb b9) b3⟩
                  case measure => simp [intOf]; omega
          · obtain rfl : k = l.length := by omega
            have b3 := bth b2 hb
            rcases bstK_cases (nearP p.sx p.sy r) l l.length (Nat.le_refl _) with hi | ⟨i, hil, hi, _⟩
            · obtain ⟨y1, y2⟩ := lst_none hi
              rw [y1, y2]
              clear y1 y2
              obtain ⟨e1, e2⟩ := su_bad (.inr (.inr (.inr hi)))
              have E1 := Lib.hid e1
              have E2 := Lib.hid e2
              clear e1 e2 hi
              go_wp2
              go_ret2
              exact ⟨ret_t2 (vi E2.out.symm) (vb E1.out.symm), b3⟩
            · obtain ⟨y1, y2⟩ := lst_some hil hi
              rw [y1, y2]
              obtain ⟨e1, e2⟩ := su_good G.out G2.out G3.out hil hi
              have E1 := Lib.hid e1
              have E2 := Lib.hid e2
              clear e1 e2 hi y1 y2
              go_wp2
              go_ret2
              exact ⟨ret_t2 (vi E2.out.symm) (vb E1.out.symm), b3⟩
end Go.Proofs.Ythnoknmijelcmaa
