/- CellsCovered of both texts: what it returns. Lists of at most 1048576 lines. -/
import Derived.Test.YtdphaejpponmeaaW9d
set_option linter.unusedVariables false
set_option linter.unusedSimpArgs false
namespace Go.Proofs.Ytdphaejpponmeaa
open Go.RowKit
set_option maxHeartbeats 2000000
def covP (l : List Ln) (t r c : Int) : Bool := decide (t ≤ cnt l r c)
@[irreducible] def ccOk (l : List Ln) (t : Int) : Bool := lnGood l && inB t 1 8
@[irreducible] def ccV (l : List Ln) (t : Int) : Int := if ccOk l t then ((cells (covP l t)).length : Int) else 0
theorem cc_bad {l : List Ln} {t : Int} (h : lnGood l = false ∨ inB t 1 8 = false) : ccOk l t = false ∧ ccV l t = 0 := by
  have : ccOk l t = false := by
    unfold ccOk
    rcases h with h | h <;> simp [h]
  exact ⟨this, by unfold ccV; simp [this]⟩
theorem cc_good {l : List Ln} {t : Int} (h : lnGood l = true) (h2 : inB t 1 8 = true) : ccOk l t = true ∧ ccV l t = (cells (covP l t)).length := by
  have : ccOk l t = true := by unfold ccOk; simp [h, h2]
  exact ⟨this, by unfold ccV; simp [this]⟩
theorem cnt_bd {l : List Ln} (h : lnGood l = true) (r c : Int) : 0 ≤ cnt l r c ∧ cnt l r c ≤ 8 := by
  have h1 := cntK_bd (l := l) (r := r) (c := c) l.length
  have h2 := lnGood_len h
  rw [cnt_def]; omega
theorem cwCov (q : Int → Int → Bool) (v v2 : Value) (w : World)
    (HC : Hid (∀ (r c : Nat) (W' : World), r < 20 → c < 20 → Below w.heap.size w W' → Calls Try.prog 79 #[.int .i64 r, .int .i64 c, v, v2] W' fun e w' => e = .returned (.bool (q r c)) ∧ Below W'.heap.size W' w')) :
    Calls Try.prog 63 #[.func (.func 79) #[] #[v, v2]] w (retS 2 Ce.enc w (cells q)) := by
  go_enter Try.func63, Try.ntmps63
  go_wp2_with (fail)
  generalize hW : World.alloc w _ = W1
  have hO : OutS 2 Ce.enc w.heap.size 69 W1 (.slice (some ⟨w.heap.size, 0, none⟩) 0 0) ([] : List Ce) := by rw [← hW]; exact OutS.empty (Nat.le_refl _)
  have b1 : Below w.heap.size w W1 := by rw [← hW]; exact below_alloc _ _
  clear hW
  go_loopw [3, 7] (fun v i wr => ∃ r : Nat, r ≤ 20 ∧ i = .int .i64 r ∧ Below w.heap.size w wr ∧ Hid (OutS 2 Ce.enc w.heap.size 69 wr v (cellsN q (20 * r)))) (fun _ i _ => 20 - (intOf i).toNat)
  case atStart => exact ⟨0, by omega, rfl, b1, hO⟩
  case round =>
    obtain ⟨r, hr, rfl, hb, HO⟩ := hrel
    by_cases hlt : r < 20
    · have t1 : decide ((r : Int) < 20) = true := by simp; omega
      go_wp2
      go_loopw [3, 10] (fun v i wr => ∃ c : Nat, c ≤ 20 ∧ i = .int .i64 c ∧ Below w.heap.size w wr ∧ Hid (OutS 2 Ce.enc w.heap.size 69 wr v (cellsN q (20 * r + c)))) (fun _ i _ => 20 - (intOf i).toNat)
      case atStart => exact ⟨0, by omega, rfl, hb, HO.out⟩
      case round =>
        clear hb HO
        obtain ⟨c, hc, rfl, hb, HO⟩ := hrel
        by_cases hlc : c < 20
        · have hl := cells_len (q := q) (20 * r + c)
          go_wp2_with (fail)
          refine (HC.out r c _ hlt hlc hb).mono ?_; rintro e w2 ⟨rfl, b2⟩
          have HO2 := Lib.hid (HO.out.below b2)
          have hb2 := bth hb b2
          have hsz := hb2.size
          cases hq : q r c with
          | true =>
            have HN := Lib.hid (cells_hit hlc hq)
            clear hq
            go_wp2_with (at_builtin; refine wp_app (K := 2) (bytes := 16) (enc := Ce.enc) Ce.len Ce.one (by decide) (by decide) _ rfl (.tmp 17) (.tmp 21) _ rfl Try.underlying45 infoCe rfl _ _ rfl (HO2.out.below (by go_grown)) ⟨r, c⟩ _ rfl (by intro j u hu; exact app_cell (by simp) hu) (by omega) (by simp; omega) ?_; intro v' W4 hO2 hg2 hb4)
            refine ⟨⟨c + 1, by omega, by go_num, Below.trans (by go_grown) hb4, (by rw [HN.out]; exact hO2 : OutS 2 Ce.enc w.heap.size 69 W4 v' (cellsN q (20 * r + (c + 1))))⟩, by simp [intOf]; omega⟩
          | false =>
            have HN := Lib.hid (cells_miss hlc hq)
            clear hq
            go_wp2
            go_roundw
            case rel => exact ⟨c + 1, by omega, by go_num, hb2, (by rw [HN.out]; exact HO2.out : OutS 2 Ce.enc w.heap.size 69 w2 _ (cellsN q (20 * r + (c + 1))))⟩
            case measure => simp [intOf]; omega
        · obtain rfl : c = 20 := by omega
          have HO2 := HO.out
          rw [show 20 * r + 20 = 20 * (r + 1) from rfl] at HO2
          have HO2 := Lib.hid HO2
          go_wp2
          go_roundw
          case rel => exact ⟨r + 1, by omega, by go_num, hb, HO2.out⟩
          case measure => simp [intOf]; omega
    · obtain rfl : r = 20 := by omega
      have HO2 := HO.out
      rw [show 20 * 20 = 400 from rfl, ← cells_def] at HO2
      obtain ⟨B, c', hv, _, hs, ho, hbk⟩ := HO2.sl Ce.len
      subst hv
      go_wp2
      go_ret
      exact ⟨B, c', rfl, hb, hs, ho, fun a ha _ => hbk a ha⟩
theorem covClos (A : Option Addr) (cp : Nat) (l : List Ln) (t : Int) (r c : Nat) (g g2 : Nat) (w : World) (h : Sl 5 Ln.enc w A l) (hd : lnGood l = true) (hg : Bk w g [.slice A l.length cp]) (hg2 : Bk w g2 [.int .i64 t]) (hr : r < 20) (hc : c < 20) :
    Calls Try.prog 79 #[.int .i64 r, .int .i64 c, .pointer (some ⟨g, 0, none⟩), .pointer (some ⟨g2, 0, none⟩)] w fun e w' => e = .returned (.bool (covP l t r c)) ∧ Below w.heap.size w w' := by
  have l1 := aft_cell hg.1
  have l2 := aft_cell hg2.1
  have k0 := hg.2.1 0 _ rfl
  have k1 := hg2.2.1 0 _ rfl
  have G := Lib.hid hd
  have q1 : (0 : Int) ≤ (r : Int) := by omega
  have q2 : (r : Int) ≤ 19 := by omega
  have q3 : (0 : Int) ≤ (c : Int) := by omega
  have q4 : (c : Int) ≤ 19 := by omega
  clear hg hg2 hd
  go_enter Try.func79, Try.ntmps79
  go_wp2_with (fail)
  refine wp_region_aft (by kernel_rfl) (by kernel_rfl) ?_
  repeat (go_big_quiet_step ((go_at_call 73; exact Aft.calls _ (implCount _ _ l _ _ _ (h.aft _) G.out q1 q2 q3 q4))))
  refine wpQuiet_nil ?_
  intro w9 b9
  go_wp2
  go_ret
  exact ⟨rfl, b9⟩
theorem iCovered (A : Option Addr) (cp : Nat) (l : List Ln) (t : Int) (w : World) (h : Sl 5 Ln.enc w A l) (hn : l.length ≤ 1048576) :
    Calls Try.prog 34 #[.slice A l.length cp, .int .i64 t] w fun e w' => e = .returned (.tuple #[.int .i64 (ccV l t), .bool (ccOk l t)]) ∧ Below w.heap.size w w' := by
  go_enter Try.func34, Try.ntmps34
  go_wp2_with (fail)
  generalize hW : World.alloc w _ = W1
  obtain ⟨bW, kW, _⟩ := alloc_facts hW
  have eW : W1.heap.size = w.heap.size + 1 := by rw [← hW]; simp
  clear hW
  generalize hW2 : World.alloc W1 _ = W2
  obtain ⟨bW2, kW2, _⟩ := alloc_facts hW2
  clear hW2
  rw [eW] at kW2
  clear eW
  have kW := kW.below bW2
  have bW := bth bW bW2
  refine (i9Good _ _ l _ (h.below bW) hn).mono ?_; rintro e w1 ⟨rfl, b1⟩
  have k1 := kW.below b1
  have j1 := kW2.below b1
  have b1 := bth bW b1
  clear kW kW2 bW bW2
  cases g : lnGood l with
  | false =>
    obtain ⟨e1, e2⟩ := cc_bad (t := t) (.inl g)
    have E1 := Lib.hid e1
    have E2 := Lib.hid e2
    clear e1 e2 g
    go_wp2
    go_ret2
    exact ⟨ret_t2 (vi E2.out.symm) (vb E1.out.symm), b1⟩
  | true =>
    have G := Lib.hid g
    have m0 := j1.2.1 0 _ rfl
    clear g
    go_wp2_with (fail)
    refine (implIn t _ _ _).mono ?_; rintro e w' ⟨rfl, rfl⟩
    cases g2 : inB t 1 8 with
    | false =>
      obtain ⟨e1, e2⟩ := cc_bad (l := l) (.inr g2)
      have E1 := Lib.hid e1
      have E2 := Lib.hid e2
      clear e1 e2 g2
      go_wp2
      go_ret2
      exact ⟨ret_t2 (vi E2.out.symm) (vb E1.out.symm), b1⟩
    | true =>
      obtain ⟨e1, e2⟩ := cc_good G.out g2
      have E1 := Lib.hid e1
      have E2 := Lib.hid e2
      clear e1 e2 g2
      go_wp2_with (fail)
      refine (cwCov (covP l t) _ _ _ (Lib.hid fun r c W' hr hc hw => covClos A cp l t r c _ _ W' (h.below (bth b1 hw)) G.out (k1.below hw) (j1.below hw) hr hc)).mono ?_; rintro e w2 ⟨A2, c2, rfl, f2⟩
      have hl := cells_bd (covP l t)
      go_wp2
      go_ret2
      exact ⟨ret_t2 (vi E2.out.symm) (vb E1.out.symm), bth b1 f2.1⟩
theorem sCovered (A : Option Addr) (cp : Nat) (l : List Ln) (t : Int) (w : World) (h : Sl 5 Ln.enc w A l) (hn : l.length ≤ 1048576) :
    Calls Try.prog 33 #[.slice A l.length cp, .int .i64 t] w fun e w' => e = .returned (.tuple #[.int .i64 (ccV l t), .bool (ccOk l t)]) ∧ Below w.heap.size w w' := by
  go_enter Try.func33, Try.ntmps33
  go_wp2_with (fail)
  refine (s9Good _ _ l _ h hn).mono ?_; rintro e w1 ⟨rfl, b1⟩
  cases g : lnGood l with
  | false =>
    obtain ⟨e1, e2⟩ := cc_bad (t := t) (.inl g)
    have E1 := Lib.hid e1
    have E2 := Lib.hid e2
    clear e1 e2 g
    go_wp2
    go_ret2
    exact ⟨ret_t2 (vi E2.out.symm) (vb E1.out.symm), b1⟩
  | true =>
    have G := Lib.hid g
    clear g
    go_wp2_with (fail)
    refine (specIn t _ _ _).mono ?_; rintro e w' ⟨rfl, rfl⟩
    cases g2 : inB t 1 8 with
    | false =>
      obtain ⟨e1, e2⟩ := cc_bad (l := l) (.inr g2)
      have E1 := Lib.hid e1
      have E2 := Lib.hid e2
      clear e1 e2 g2
      go_wp2
      go_ret2
      exact ⟨ret_t2 (vi E2.out.symm) (vb E1.out.symm), b1⟩
    | true =>
      obtain ⟨e1, e2⟩ := cc_good G.out g2
      have E1 := Lib.hid e1
      have E2 := Lib.hid e2
      have CD := Lib.hid (cells_def (covP l t))
      clear e1 e2 g2
      go_wp2
      go_loopw [6, 7] (fun n i wr => ∃ r : Nat, r ≤ 20 ∧ i = .int .i64 r ∧ n = .int .i64 (cellsN (covP l t) (20 * r)).length ∧ Below w1.heap.size w1 wr) (fun _ i _ => 20 - (intOf i).toNat)
      case atStart => exact ⟨0, by omega, rfl, rfl, Below.refl _ _⟩
      case round =>
        obtain ⟨r, hr, rfl, rfl, hb⟩ := hrel
        by_cases hlt : r < 20
        · have t1 : decide ((r : Int) < 20) = true := by simp; omega
          go_wp2_with (go_at_call 60; refine (specSide _).mono ?_; rintro e w' ⟨rfl, rfl⟩)
          go_loopw [6, 8] (fun n i wr => ∃ c : Nat, c ≤ 20 ∧ i = .int .i64 c ∧ n = .int .i64 (cellsN (covP l t) (20 * r + c)).length ∧ Below w1.heap.size w1 wr) (fun _ i _ => 20 - (intOf i).toNat)
          case atStart => exact ⟨0, by omega, rfl, rfl, hb⟩
          case round =>
            clear hb
            obtain ⟨c, hc, rfl, rfl, hb⟩ := hrel
            have hl := cells_len (q := covP l t) (20 * r + c)
            by_cases hlc : c < 20
            · go_wp2_with (go_at_call 60; refine (specSide _).mono ?_; rintro e w' ⟨rfl, rfl⟩)
              refine (specCount _ _ l r c _ (h.below (bth b1 hb)) G.out (by omega) (by omega) (by omega) (by omega)).mono ?_; rintro e w2 ⟨rfl, b2⟩
              by_cases hq : t ≤ cnt l r c
              · have HN := Lib.hid (cells_hit hlc (show covP l t r c = true by simp [covP, hq]))
                go_wp2
                go_roundw
                case rel => exact ⟨c + 1, by omega, by go_num, vi (by rw [HN.out, List.length_append]; rfl), bth hb b2⟩
                case measure => simp [intOf]; omega
              · have HN := Lib.hid (cells_miss hlc (show covP l t r c = false by simp [covP, hq]))
                go_wp2
                go_roundw
                case rel => exact ⟨c + 1, by omega, by go_num, vi (by rw [HN.out]), bth hb b2⟩
                case measure => simp [intOf]; omega
            · obtain rfl : c = 20 := by omega
              go_wp2_with (go_at_call 60; refine (specSide _).mono ?_; rintro e w' ⟨rfl, rfl⟩)
              go_roundw
              case rel => exact ⟨r + 1, by omega, by go_num, rfl, hb⟩
              case measure => simp [intOf]; omega
        · obtain rfl : r = 20 := by omega
          go_wp2_with (go_at_call 60; refine (specSide _).mono ?_; rintro e w' ⟨rfl, rfl⟩)
          go_ret2
          exact ⟨ret_t2 (vi (by rw [E2.out, CD.out])) (vb E1.out.symm), bth b1 hb⟩
end Go.Proofs.Ytdphaejpponmeaa
