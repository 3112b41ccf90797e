/- NearestCast of the program: what it returns. At most 1048576 casts and layers. -/
import Derived.Test.YtfmlfeokdaahmaaW7j
set_option linter.unusedVariables false
set_option linter.unusedSimpArgs false
namespace Go.Proofs.Ytfmlfeokdaahmaa
open Go.RowKit
set_option maxHeartbeats 2000000
set_option maxRecDepth 100000
theorem iNearC (A : Option Addr) (c : Nat) (hs : List Ch) (y : Sp) (tm wi : Int) (w : World) (h : Sl 5 Ch.enc w A hs) (ok : OkS w hs) (hn : hs.length ≤ 1048576) (hl : ∀ k (hk : k < hs.length), hs[k].t.lay.length ≤ 1048576) (hc : hs.length ≤ c) :
    Calls Try.prog 43 #[.slice A hs.length c, .agg #[.int .i64 y.sx, .int .i64 y.sy], .int .i64 tm, .int .i64 wi] w fun e w' => e = .returned (.tuple #[.int .i64 (nrV (dat hs) y.sx y.sy tm wi), .bool (nrB (dat hs) y.sx y.sy tm wi)]) ∧ Below w.heap.size w w' := by
  have DL := Lib.hid (dat_len hs)
  have HL := Lib.hid hl
  clear hl
  go_enter Try.func43, Try.ntmps43
  go_wp2_with (fail)
  generalize hW : World.alloc w _ = W1
  obtain ⟨bW, kW, _⟩ := alloc_facts hW
  clear hW
  refine (i7Good A c hs _ (h.below bW) (ok.below bW) hn HL.out hc).mono ?_; rintro e w1 ⟨rfl, b1⟩
  have k1 := kW.below b1
  have b1 := bth bW b1
  cases g : ctsGood (dat hs) with
  | false =>
    obtain ⟨e1, e2⟩ := nr_bad (sx := y.sx) (sy := y.sy) (tm := tm) (wi := wi) (.inl g)
    have E1 := Lib.hid e1
    have E2 := Lib.hid e2
    clear e1 e2 g
    go_wp2
    go_ret2
    exact ⟨ret_t2 (vi E1.out.symm) (vb E2.out.symm), b1⟩
  | true =>
    have G := Lib.hid g
    clear g
    have p0 := k1.2.1 0 _ rfl
    have p1 := k1.2.1 1 _ rfl
    go_wp2_with (fail)
    refine (implSpot y.sx y.sy _).mono ?_; rintro e w2 ⟨rfl, b2⟩
    have k2 := k1.below b2
    have b2 := bth b1 b2
    clear p0 p1 k1
    cases g2 : spOk y.sx y.sy with
    | false =>
      obtain ⟨e1, e2⟩ := nr_bad (l := dat hs) (tm := tm) (wi := wi) (.inr (.inl g2))
      have E1 := Lib.hid e1
      have E2 := Lib.hid e2
      clear e1 e2 g2
      go_wp2
      go_ret2
      exact ⟨ret_t2 (vi E1.out.symm) (vb E2.out.symm), b2⟩
    | true =>
      have G2 := Lib.hid g2
      clear g2
      go_wp2_with (fail)
      refine (implTm tm _).mono ?_; rintro e w' ⟨rfl, rfl⟩
      cases g3 : inB tm 0 10000 with
      | false =>
        obtain ⟨e1, e2⟩ := nr_bad (l := dat hs) (sx := y.sx) (sy := y.sy) (wi := wi) (.inr (.inr (.inl g3)))
        have E1 := Lib.hid e1
        have E2 := Lib.hid e2
        clear e1 e2 g3
        go_wp2
        go_ret2
        exact ⟨ret_t2 (vi E1.out.symm) (vb E2.out.symm), b2⟩
      | true =>
        go_wp2_with (fail)
        refine (implIn wi 0 10000 _).mono ?_; rintro e w' ⟨rfl, rfl⟩
        cases g4 : inB wi 0 10000 with
        | false =>
          obtain ⟨e1, e2⟩ := nr_bad (l := dat hs) (sx := y.sx) (sy := y.sy) (tm := tm) (.inr (.inr (.inr g4)))
          have E1 := Lib.hid e1
          have E2 := Lib.hid e2
          clear e1 e2 g3 g4
          go_wp2
          go_ret2
          exact ⟨ret_t2 (vi E1.out.symm) (vb E2.out.symm), b2⟩
        | true =>
          obtain ⟨e1, e2⟩ := nr_good G.out G2.out g3 g4
          have E1 := Lib.hid e1
          have E2 := Lib.hid e2
          have t3 := inB_true.1 g3
          have t4 := inB_true.1 g4
          have GA := Lib.hid (ctsGood_all G.out)
          clear e1 e2 g3 g4
          have h := h.below b2
          have KT := Lib.hid (show ∀ W' : World, Below w2.heap.size w2 W' → Bk W' w.heap.size [.int .i64 y.sx, .int .i64 y.sy] from fun W' hw => k2.below hw)
          have Z := Lib.hid (nr_zero (dat hs) y.sx y.sy tm wi)
          have TW := Lib.hid (nr_two (tm := tm) (wi := wi) G2.out GA.out)
          clear k2
          go_wp2
          go_loopw [10, 11, 35] (fun s m i wr => ∃ k : Nat, k ≤ hs.length ∧ i = .int .i64 k ∧ s = .int .i64 (nrI (dat hs) y.sx y.sy tm wi k) ∧ m = .int .i64 (nrM (dat hs) y.sx y.sy tm wi k) ∧ Below w2.heap.size w2 wr) (fun _ _ i _ => hs.length - (intOf i).toNat)
          case atStart => exact ⟨0, Nat.zero_le _, rfl, vi Z.out.1.symm, vi Z.out.2.2.symm, Below.refl _ _⟩
          case round =>
            obtain ⟨k, hk, rfl, rfl, rfl, hb⟩ := hrel
            by_cases hlt : k < hs.length
            · obtain ⟨b, off, rfl⟩ := h.addr (by omega)
              obtain ⟨hbl, c0, c1, c2, c3, c4⟩ := Ch.get (h.below hb) hlt
              have q1 := ctOk_bd (show ctOk hs[k].t = true by rw [← dti hlt]; exact GA.out k (by rw [DL.out]; exact hlt))
              have tw := TW.out k (by rw [DL.out]; omega)
              have x1 := q1.2.2.2.2.1
              have AB := Lib.hid (ab_inB (hs[k].t.time - tm) wi)
              have hy : 0 ≤ ab (hs[k].t.time - tm) ∧ ab (hs[k].t.time - tm) ≤ 10000 := by unfold ab; omega
              go_wp2_with (fail)
              generalize hW : World.alloc wr _ = W2
              obtain ⟨bW2, kW2, _⟩ := alloc_facts hW
              clear hW c0 c1 c2 c3 c4
              have hb := bth hb bW2
              have m0 := kW2.2.1 0 _ rfl
              have m2 := kW2.2.1 2 _ rfl
              have m3 := kW2.2.1 3 _ rfl
              have kr := KT.out _ hb
              have p0 := kr.2.1 0 _ rfl
              have p1 := kr.2.1 1 _ rfl
              refine (implAbs (hs[k].t.time - tm) _ (by omega) (by omega)).mono ?_; rintro e w' ⟨rfl, rfl⟩
              by_cases i1 : ab (hs[k].t.time - tm) ≤ wi
              · have I1 := Lib.hid (show inB (hs[k].t.time - tm) (-wi) wi = true by rw [AB.out]; exact decide_eq_true i1)
                go_wp2_with (fail)
                refine (implSqr hs[k].t.x hs[k].t.y y.sx y.sy _ x1 G2.out).mono ?_; rintro e w5 ⟨rfl, b5⟩
                have k5 := kW2.below b5
                have r0 := k5.2.1 0 _ rfl
                have hb := bth hb b5
                have EM := Lib.hid (show nrI (dat hs) y.sx y.sy tm wi k ≠ 0 → nrM (dat hs) y.sx y.sy tm wi k = nrL (dat hs) y.sx y.sy tm wi k from fun hh => by unfold nrM; rw [if_neg hh])
                clear m0 m2 m3 kr p0 p1 k5
                by_cases i2 : nrI (dat hs) y.sx y.sy tm wi k = 0
                · have i20 : (nrI (dat hs) y.sx y.sy tm wi k == 0) = true := by rw [i2]; rfl
                  have HN := Lib.hid (nr_yes (l := dat hs) (sx := y.sx) (sy := y.sy) (tm := tm) (wi := wi) (k := k) (by rw [dti hlt]; exact I1.out) (by rw [dti hlt]; exact (.inl (by omega))) (by rw [dti hlt]; exact q1.1))
                  rw [dti hlt] at HN
                  go_wp2
                  go_roundw
                  case rel => exact ⟨k + 1, by omega, by go_num, vi HN.out.1.symm, vi HN.out.2.2.symm, hb⟩
                  case measure => simp [intOf]; omega
                · have i20 : (nrI (dat hs) y.sx y.sy tm wi k == 0) = false := by rw [beq_eq_false_iff_ne]; exact i2
                  have em := EM.out i2
                  by_cases i3 : sqr hs[k].t.x hs[k].t.y y.sx y.sy < nrL (dat hs) y.sx y.sy tm wi k
                  · have HN := Lib.hid (nr_yes (l := dat hs) (sx := y.sx) (sy := y.sy) (tm := tm) (wi := wi) (k := k) (by rw [dti hlt]; exact I1.out) (by rw [dti hlt]; exact (.inr i3)) (by rw [dti hlt]; exact q1.1))
                    rw [dti hlt] at HN
                    rw [← em] at i3
                    clear em
                    go_wp2
                    go_roundw
                    case rel => exact ⟨k + 1, by omega, by go_num, vi HN.out.1.symm, vi HN.out.2.2.symm, hb⟩
                    case measure => simp [intOf]; omega
                  · have HN := Lib.hid (nr_no (l := dat hs) (sx := y.sx) (sy := y.sy) (tm := tm) (wi := wi) (k := k) (by rw [dti hlt]; exact (.inr (by omega))))
                    rw [← em] at i3
                    clear em
                    have i4 := decide_eq_false i3
                    have i5 : nrM (dat hs) y.sx y.sy tm wi k ≤ sqr hs[k].t.x hs[k].t.y y.sx y.sy := by omega
                    go_wp2
                    go_roundw
                    case rel => exact ⟨k + 1, by omega, by go_num, vi HN.out.1.symm, vi HN.out.2.2.symm, hb⟩
                    case measure => simp [intOf]; omega
              · have HN := Lib.hid (nr_no (l := dat hs) (sx := y.sx) (sy := y.sy) (tm := tm) (wi := wi) (k := k) (by rw [dti hlt]; exact (.inl (by rw [AB.out]; exact decide_eq_false i1))))
                go_wp2
                go_roundw
                case rel => exact ⟨k + 1, by omega, by go_num, vi HN.out.1.symm, vi HN.out.2.2.symm, hb⟩
                case measure => simp [intOf]; omega
            · obtain rfl : k = hs.length := by omega
              go_wp2
              go_ret2
              exact ⟨ret_t2 (vi (by rw [E1.out, DL.out])) (vb (by rw [E2.out, DL.out])), bth b2 hb⟩
end Go.Proofs.Ytfmlfeokdaahmaa
