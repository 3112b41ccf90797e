/- NearestCast of the reference: what it returns. At most 1048576 casts and layers. -/
import Derived.Test.YtfmlfeokdaahmaaW7i
import Derived.Test.YtfmlfeokdaahmaaP7f
set_option linter.unusedVariables false
set_option linter.unusedSimpArgs false
namespace Go.Proofs.Ytfmlfeokdaahmaa
open Go.RowKit
set_option maxHeartbeats 2000000
set_option maxRecDepth 100000
theorem sNearC (A : Option Addr) (c : Nat) (hs : List Ch) (y : Sp) (tm wi : Int) (w : World) (h : Sl 5 Ch.enc w A hs) (ok : OkS w hs) (hn : hs.length ≤ 1048576) (hl : ∀ k (hk : k < hs.length), hs[k].t.lay.length ≤ 1048576) :
    Calls Try.prog 41 #[.slice A hs.length c, .agg #[.int .i64 y.sx, .int .i64 y.sy], .int .i64 tm, .int .i64 wi] w fun e w' => e = .returned (.tuple #[.int .i64 (nrV (dat hs) y.sx y.sy tm wi), .bool (nrB (dat hs) y.sx y.sy tm wi)]) ∧ Below w.heap.size w w' := by
  have DL := Lib.hid (dat_len hs)
  have HL := Lib.hid hl
  clear hl
  go_enter Try.func41, Try.ntmps41
  go_wp2_with (fail)
  generalize hW : World.alloc w _ = W1
  obtain ⟨bW, kW, _⟩ := alloc_facts hW
  clear hW
  refine (s7Good A c hs _ (h.below bW) (ok.below bW) hn HL.out).mono ?_; rintro e w1 ⟨rfl, b1⟩
  have k1 := kW.below b1
  have b1 := bth bW b1
  cases g : ctsGood (dat hs) with
  | false =>
    obtain ⟨e1, e2⟩ := nr_bad (sx := y.sx) (sy := y.sy) (tm := tm) (wi := wi) (.inl g)
    have E1 := Lib.hid e1
    have E2 := Lib.hid e2
    clear e1 e2 g
    go_wp2
    go_ret2
    exact ⟨ret_t2 (vi E1.out.symm) (vb E2.out.symm), b1⟩
  | true =>
    have G := Lib.hid g
    clear g
    have p0 := k1.2.1 0 _ rfl
    have p1 := k1.2.1 1 _ rfl
    go_wp2_with (fail)
    refine (specSpot y.sx y.sy _).mono ?_; rintro e w2 ⟨rfl, b2⟩
    have k2 := k1.below b2
    have b2 := bth b1 b2
    clear p0 p1 k1
    cases g2 : spOk y.sx y.sy with
    | false =>
      obtain ⟨e1, e2⟩ := nr_bad (l := dat hs) (tm := tm) (wi := wi) (.inr (.inl g2))
      have E1 := Lib.hid e1
      have E2 := Lib.hid e2
      clear e1 e2 g2
      go_wp2
      go_ret2
      exact ⟨ret_t2 (vi E1.out.symm) (vb E2.out.symm), b2⟩
    | true =>
      have G2 := Lib.hid g2
      clear g2
      go_wp2_with (fail)
      refine (specTm tm _).mono ?_; rintro e w' ⟨rfl, rfl⟩
      cases g3 : inB tm 0 10000 with
      | false =>
        obtain ⟨e1, e2⟩ := nr_bad (l := dat hs) (sx := y.sx) (sy := y.sy) (wi := wi) (.inr (.inr (.inl g3)))
        have E1 := Lib.hid e1
        have E2 := Lib.hid e2
        clear e1 e2 g3
        go_wp2
        go_ret2
        exact ⟨ret_t2 (vi E1.out.symm) (vb E2.out.symm), b2⟩
      | true =>
        go_wp2_with (fail)
        refine (specIn wi 0 10000 _).mono ?_; rintro e w' ⟨rfl, rfl⟩
        cases g4 : inB wi 0 10000 with
        | false =>
          obtain ⟨e1, e2⟩ := nr_bad (l := dat hs) (sx := y.sx) (sy := y.sy) (tm := tm) (.inr (.inr (.inr g4)))
          have E1 := Lib.hid e1
          have E2 := Lib.hid e2
          clear e1 e2 g3 g4
          go_wp2
          go_ret2
          exact ⟨ret_t2 (vi E1.out.symm) (vb E2.out.symm), b2⟩
        | true =>
          obtain ⟨e1, e2⟩ := nr_good G.out G2.out g3 g4
          have E1 := Lib.hid e1
          have E2 := Lib.hid e2
          have t3 := inB_true.1 g3
          have t4 := inB_true.1 g4
          have GA := Lib.hid (ctsGood_all G.out)
          clear e1 e2 g3 g4
          have h := h.below b2
          have KT := Lib.hid (show ∀ W' : World, Below w2.heap.size w2 W' → Bk W' w.heap.size [.int .i64 y.sx, .int .i64 y.sy] from fun W' hw => k2.below hw)
          have Z := Lib.hid (nr_zero (dat hs) y.sx y.sy tm wi)
          clear k2
          go_wp2
          go_loopw [10, 11, 12] (fun s m i wr => ∃ k : Nat, k ≤ hs.length ∧ i = .int .i64 k ∧ s = .int .i64 (nrI (dat hs) y.sx y.sy tm wi k) ∧ m = .int .i64 (nrL (dat hs) y.sx y.sy tm wi k) ∧ Below w2.heap.size w2 wr) (fun _ _ i _ => hs.length - (intOf i).toNat)
          case atStart => exact ⟨0, Nat.zero_le _, rfl, vi Z.out.1.symm, vi Z.out.2.1.symm, Below.refl _ _⟩
          case round =>
            obtain ⟨k, hk, rfl, rfl, rfl, hb⟩ := hrel
            by_cases hlt : k < hs.length
            · obtain ⟨b, off, rfl⟩ := h.addr (by omega)
              obtain ⟨hbl, c0, c1, c2, c3, c4⟩ := Ch.get (h.below hb) hlt
              have kr := KT.out _ hb
              have hA := aft_cell hbl
              have hB := aft_cell kr.1
              have p0 := kr.2.1 0 _ rfl
              have p1 := kr.2.1 1 _ rfl
              have u1 : (0 : Int) ≤ (k : Int) := by omega
              have u2 : (k : Int) < (hs.length : Int) := by omega
              have q1 := ctOk_bd (show ctOk hs[k].t = true by rw [← dti hlt]; exact GA.out k (by rw [DL.out]; exact hlt))
              have sq := sqr7_bd q1.2.2.2.2.1 G2.out
              have sdef := sqr_def hs[k].t.x hs[k].t.y y.sx y.sy
              have x1 := q1.2.2.2.2.1
              have x2 := G2.out
              rw [spOk_def, Bool.and_eq_true, inB_true, inB_true] at x1 x2
              have z1 := sq_bd (a := hs[k].t.x) (c := y.sx) (by omega) (by omega) (by omega) (by omega)
              have z2 := sq_bd (a := hs[k].t.y) (c := y.sy) (by omega) (by omega) (by omega) (by omega)
              have v1 : IntKind.i64.wrap (hs[k].t.x - y.sx) = hs[k].t.x - y.sx := IntWalk.i64_in _ (by omega)
              have v2 : IntKind.i64.wrap (hs[k].t.y - y.sy) = hs[k].t.y - y.sy := IntWalk.i64_in _ (by omega)
              go_wp2_with (fail)
              refine wp_region_aft (by kernel_rfl) (by kernel_rfl) ?_
              repeat (go_big_quiet_step ((fail)))
              refine wpQuiet_nil ?_
              intro w9 b9
              have d1 := (h.below (bth hb b9))
              obtain ⟨_, n0, n1, _, _, _⟩ := Ch.get d1 hlt
              clear hA hB p0 p1 c0 c1 c2 c3 c4 kr d1
              go_wp2_with (fail)
              refine (specIn (hs[k].t.time - tm) (-wi) wi _).mono ?_; rintro e w' ⟨rfl, rfl⟩
              cases i1 : inB (hs[k].t.time - tm) (-wi) wi with
              | false =>
                have HN := Lib.hid (nr_no (l := dat hs) (sx := y.sx) (sy := y.sy) (tm := tm) (wi := wi) (k := k) (by rw [dti hlt]; exact (.inl i1)))
                clear i1
                go_wp2
                go_roundw
                case rel => exact ⟨k + 1, by omega, by go_num, vi HN.out.1.symm, vi HN.out.2.1.symm, bth hb b9⟩
                case measure => simp [intOf]; omega
              | true =>
                by_cases i2 : nrL (dat hs) y.sx y.sy tm wi k < 0
                · have HN := Lib.hid (nr_yes (l := dat hs) (sx := y.sx) (sy := y.sy) (tm := tm) (wi := wi) (k := k) (by rw [dti hlt]; exact i1) (by rw [dti hlt]; exact (.inl i2)) (by rw [dti hlt]; exact q1.1))
                  rw [dti hlt] at HN
                  clear i1
                  go_wp2
                  go_roundw
                  case rel => exact ⟨k + 1, by omega, by go_num, vi HN.out.1.symm, vi (by rw [HN.out.2.1, sdef]), bth hb b9⟩
                  case measure => simp [intOf]; omega
                · by_cases i3 : sqr hs[k].t.x hs[k].t.y y.sx y.sy < nrL (dat hs) y.sx y.sy tm wi k
                  · have HN := Lib.hid (nr_yes (l := dat hs) (sx := y.sx) (sy := y.sy) (tm := tm) (wi := wi) (k := k) (by rw [dti hlt]; exact i1) (by rw [dti hlt]; exact (.inr i3)) (by rw [dti hlt]; exact q1.1))
                    rw [dti hlt] at HN
                    rw [sdef] at i3
                    clear i1
                    go_wp2
                    go_roundw
                    case rel => exact ⟨k + 1, by omega, by go_num, vi HN.out.1.symm, vi (by rw [HN.out.2.1, sdef]), bth hb b9⟩
                    case measure => simp [intOf]; omega
                  · have HN := Lib.hid (nr_no (l := dat hs) (sx := y.sx) (sy := y.sy) (tm := tm) (wi := wi) (k := k) (by rw [dti hlt]; exact (.inr (by omega))))
                    rw [sdef] at i3
                    have i4 := decide_eq_false i3
                    have i5 : nrL (dat hs) y.sx y.sy tm wi k ≤ (hs[k].t.x - y.sx) * (hs[k].t.x - y.sx) + (hs[k].t.y - y.sy) * (hs[k].t.y - y.sy) := by omega
                    clear i1
                    go_wp2
                    go_roundw
                    case rel => exact ⟨k + 1, by omega, by go_num, vi HN.out.1.symm, vi HN.out.2.1.symm, bth hb b9⟩
                    case measure => simp [intOf]; omega
            · obtain rfl : k = hs.length := by omega
              go_wp2
              go_ret2
              exact ⟨ret_t2 (vi (by rw [E1.out, DL.out])) (vb (by rw [E2.out, DL.out])), bth b2 hb⟩
end Go.Proofs.Ytfmlfeokdaahmaa
