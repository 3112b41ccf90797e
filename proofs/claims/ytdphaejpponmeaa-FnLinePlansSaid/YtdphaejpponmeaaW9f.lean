/- UncoveredIn of both texts: what it returns. Lists of at most 1048576 lines. -/
import Derived.Test.YtdphaejpponmeaaW9e
set_option linter.unusedVariables false
set_option linter.unusedSimpArgs false
namespace Go.Proofs.Ytdphaejpponmeaa
open Go.RowKit
set_option maxHeartbeats 2000000
def unP (l : List Ln) (b : Bx) (r c : Int) : Bool := whole b r c && decide (cnt l r c = 0)
@[irreducible] def unB (l : List Ln) (b : Bx) : Bool := lnGood l && bxOk b
@[irreducible] def unL (l : List Ln) (b : Bx) : List Ce := if unB l b then cells (unP l b) else []
theorem un_bad {l : List Ln} {b : Bx} (h : lnGood l = false ∨ bxOk b = false) : unB l b = false ∧ unL l b = [] := by
  have : unB l b = false := by
    unfold unB
    rcases h with h | h <;> simp [h]
  exact ⟨this, by unfold unL; simp [this]⟩
theorem un_good {l : List Ln} {b : Bx} (h : lnGood l = true) (h2 : bxOk b = true) : unB l b = true ∧ unL l b = cells (unP l b) := by
  have : unB l b = true := by unfold unB; simp [h, h2]
  exact ⟨this, by unfold unL; simp [this]⟩
theorem unL_len {l : List Ln} {b : Bx} : (unL l b).length ≤ 1048576 := by
  unfold unL
  split
  · have := cells_bd (unP l b); omega
  · simp
theorem cwUn (q : Int → Int → Bool) (v v2 : Value) (w : World)
    (HC : Hid (∀ (r c : Nat) (W' : World), r < 20 → c < 20 → Below w.heap.size w W' → Calls Try.prog 80 #[.int .i64 r, .int .i64 c, v, v2] W' fun e w' => e = .returned (.bool (q r c)) ∧ Below W'.heap.size W' w')) :
    Calls Try.prog 63 #[.func (.func 80) #[] #[v, v2]] w (retS 2 Ce.enc w (cells q)) := by
  go_enter Try.func63, Try.ntmps63
  go_wp2_with (fail)
  generalize hW : World.alloc w _ = W1
  have hO : OutS 2 Ce.enc w.heap.size 69 W1 (.slice (some ⟨w.heap.size, 0, none⟩) 0 0) ([] : List Ce) := by rw [← hW]; exact OutS.empty (Nat.le_refl _)
  have b1 : Below w.heap.size w W1 := by rw [← hW]; exact below_alloc _ _
  clear hW
  go_loopw [3, 7] (fun v i wr => ∃ r : Nat, r ≤ 20 ∧ i = .int .i64 r ∧ Below w.heap.size w wr ∧ Hid (OutS 2 Ce.enc w.heap.size 69 wr v (cellsN q (20 * r)))) (fun _ i _ => 20 - (intOf i).toNat)
  case atStart => exact ⟨0, by omega, rfl, b1, hO⟩
  case round =>
    obtain ⟨r, hr, rfl, hb, HO⟩ := hrel
    by_cases hlt : r < 20
    · have t1 : decide ((r : Int) < 20) = true := by simp; omega
      go_wp2
      go_loopw [3, 10] (fun v i wr => ∃ c : Nat, c ≤ 20 ∧ i = .int .i64 c ∧ Below w.heap.size w wr ∧ Hid (OutS 2 Ce.enc w.heap.size 69 wr v (cellsN q (20 * r + c)))) (fun _ i _ => 20 - (intOf i).toNat)
      case atStart => exact ⟨0, by omega, rfl, hb, HO.out⟩
      case round =>
        clear hb HO
        obtain ⟨c, hc, rfl, hb, HO⟩ := hrel
        by_cases hlc : c < 20
        · have hl := cells_len (q := q) (20 * r + c)
          go_wp2_with (fail)
          refine (HC.out r c _ hlt hlc hb).mono ?_; rintro e w2 ⟨rfl, b2⟩
          have HO2 := Lib.hid (HO.out.below b2)
          have hb2 := bth hb b2
          have hsz := hb2.size
          cases hq : q r c with
          | true =>
            have HN := Lib.hid (cells_hit hlc hq)
            clear hq
            go_wp2_with (at_builtin; refine wp_app (K := 2) (bytes := 16) (enc := Ce.enc) Ce.len Ce.one (by decide) (by decide) _ rfl (.tmp 17) (.tmp 21) _ rfl Try.underlying45 infoCe rfl _ _ rfl (HO2.out.below (by go_grown)) ⟨r, c⟩ _ rfl (by intro j u hu; exact app_cell (by simp) hu) (by omega) (by simp; omega) ?_; intro v' W4 hO2 hg2 hb4)
            refine ⟨⟨c + 1, by omega, by go_num, Below.trans (by go_grown) hb4, (by rw [HN.out]; exact hO2 : OutS 2 Ce.enc w.heap.size 69 W4 v' (cellsN q (20 * r + (c + 1))))⟩, by simp [intOf]; omega⟩
          | false =>
            have HN := Lib.hid (cells_miss hlc hq)
            clear hq
            go_wp2
            go_roundw
            case rel => exact ⟨c + 1, by omega, by go_num, hb2, (by rw [HN.out]; exact HO2.out : OutS 2 Ce.enc w.heap.size 69 w2 _ (cellsN q (20 * r + (c + 1))))⟩
            case measure => simp [intOf]; omega
        · obtain rfl : c = 20 := by omega
          have HO2 := HO.out
          rw [show 20 * r + 20 = 20 * (r + 1) from rfl] at HO2
          have HO2 := Lib.hid HO2
          go_wp2
          go_roundw
          case rel => exact ⟨r + 1, by omega, by go_num, hb, HO2.out⟩
          case measure => simp [intOf]; omega
    · obtain rfl : r = 20 := by omega
      have HO2 := HO.out
      rw [show 20 * 20 = 400 from rfl, ← cells_def] at HO2
      obtain ⟨B, c', hv, _, hs, ho, hbk⟩ := HO2.sl Ce.len
      subst hv
      go_wp2
      go_ret
      exact ⟨B, c', rfl, hb, hs, ho, fun a ha _ => hbk a ha⟩
theorem unClos (A : Option Addr) (cp : Nat) (l : List Ln) (b : Bx) (r c : Nat) (g g2 : Nat) (w : World) (h : Sl 5 Ln.enc w A l) (hd : lnGood l = true) (hg : Bk w g b.enc) (hg2 : Bk w g2 [.slice A l.length cp]) (hr : r < 20) (hc : c < 20) :
    Calls Try.prog 80 #[.int .i64 r, .int .i64 c, .pointer (some ⟨g, 0, none⟩), .pointer (some ⟨g2, 0, none⟩)] w fun e w' => e = .returned (.bool (unP l b r c)) ∧ Below w.heap.size w w' := by
  have l1 := aft_cell hg.1
  have l2 := aft_cell hg2.1
  have k0 := hg.2.1 0 _ rfl
  have k1 := hg.2.1 1 _ rfl
  have k2 := hg.2.1 2 _ rfl
  have k3 := hg.2.1 3 _ rfl
  have j0 := hg2.2.1 0 _ rfl
  have G := Lib.hid hd
  have q1 : (0 : Int) ≤ (r : Int) := by omega
  have q2 : (r : Int) ≤ 19 := by omega
  have q3 : (0 : Int) ≤ (c : Int) := by omega
  have q4 : (c : Int) ≤ 19 := by omega
  clear hg hg2 hd
  cases hq : whole b r c with
  | false =>
    have D := Lib.hid (show unP l b r c = false by unfold unP; rw [hq]; rfl)
    have HQ := Lib.hid (show holdsB b (cellBx r c) = false from hq)
    clear hq
    go_enter Try.func80, Try.ntmps80
    go_wp2_with (fail)
    refine wp_region_aft (by kernel_rfl) (by kernel_rfl) ?_
    repeat (go_big_quiet_step ((first | (go_at_call 66; exact Aft.calls _ (implCell _ _ _ q1 q2 q3 q4)) | (go_at_call 65; exact Aft.callsB _ (implHolds b (cellBx r c) _) HQ.out))))
    refine wpQuiet_nil ?_
    intro w9 b9
    go_wp2
    go_ret
    exact ⟨ret_bool D.out.symm, b9⟩
  | true =>
    have D := Lib.hid (show unP l b r c = decide (cnt l r c = 0) by unfold unP; rw [hq]; rfl)
    have HQ := Lib.hid (show holdsB b (cellBx r c) = true from hq)
    clear hq
    go_enter Try.func80, Try.ntmps80
    go_wp2_with (fail)
    refine wp_region_aft (by kernel_rfl) (by kernel_rfl) ?_
    repeat (go_big_quiet_step ((first | (go_at_call 66; exact Aft.calls _ (implCell _ _ _ q1 q2 q3 q4)) | (go_at_call 65; exact Aft.callsB _ (implHolds b (cellBx r c) _) HQ.out) | (go_at_call 73; exact Aft.calls _ (implCount _ _ l _ _ _ (h.aft _) G.out q1 q2 q3 q4)))))
    refine wpQuiet_nil ?_
    intro w9 b9
    go_wp2
    go_ret
    exact ⟨ret_bool (by rw [D.out, Bool.eq_iff_iff]; simp), b9⟩
theorem iUncov (A : Option Addr) (cp : Nat) (l : List Ln) (b : Bx) (w : World) (h : Sl 5 Ln.enc w A l) (hn : l.length ≤ 1048576) (_hc : l.length ≤ cp) :
    Calls Try.prog 36 #[.slice A l.length cp, .agg #[.int .i64 b.west, .int .i64 b.south, .int .i64 b.east, .int .i64 b.north]] w (retL 2 Ce.enc w (unL l b) (unB l b)) := by
  go_enter Try.func36, Try.ntmps36
  go_wp2_with (fail)
  generalize hW : World.alloc w _ = W1
  obtain ⟨bW, kW, _⟩ := alloc_facts hW
  have eW : W1.heap.size = w.heap.size + 1 := by rw [← hW]; simp
  clear hW
  generalize hW2 : World.alloc W1 _ = W2
  obtain ⟨bW2, kW2, _⟩ := alloc_facts hW2
  clear hW2
  rw [eW] at kW2
  clear eW
  have kW := kW.below bW2
  have bW := bth bW bW2
  refine (i9Good _ _ l _ (h.below bW) hn).mono ?_; rintro e w1 ⟨rfl, b1⟩
  have k1 := kW.below b1
  have j1 := kW2.below b1
  have b1 := bth bW b1
  clear kW kW2 bW bW2
  cases g : lnGood l with
  | false =>
    obtain ⟨e1, e2⟩ := un_bad (b := b) (.inl g)
    have E1 := Lib.hid e1
    have E2 := Lib.hid e2
    clear e1 e2 g
    go_wp2
    go_ret2
    rw [E2.out, E1.out]
    exact ⟨_, _, rfl, Fr.nil b1⟩
  | true =>
    have G := Lib.hid g
    have m0 := j1.2.1 0 _ rfl
    have m1 := j1.2.1 1 _ rfl
    have m2 := j1.2.1 2 _ rfl
    have m3 := j1.2.1 3 _ rfl
    clear g
    go_wp2_with (fail)
    refine (implBox b _).mono ?_; rintro e w2 ⟨rfl, b2⟩
    have k2 := k1.below b2
    have j2 := j1.below b2
    have b2 := bth b1 b2
    clear m0 m1 m2 m3
    cases g2 : bxOk b with
    | false =>
      obtain ⟨e1, e2⟩ := un_bad (l := l) (.inr g2)
      have E1 := Lib.hid e1
      have E2 := Lib.hid e2
      clear e1 e2 g2
      go_wp2
      go_ret2
      rw [E2.out, E1.out]
      exact ⟨_, _, rfl, Fr.nil b2⟩
    | true =>
      obtain ⟨e1, e2⟩ := un_good G.out g2
      have E1 := Lib.hid e1
      have E2 := Lib.hid e2
      clear e1 e2 g2
      go_wp2_with (fail)
      refine (cwUn (unP l b) _ _ _ (Lib.hid fun r c W' hr hc hw => unClos A cp l b r c _ _ W' (h.below (bth b2 hw)) G.out (j2.below hw) (k2.below hw) hr hc)).mono ?_; rintro e w3 ⟨A3, c3, rfl, f3⟩
      go_wp2
      go_ret2
      rw [E2.out, E1.out]
      exact ⟨A3, c3, rfl, bth b2 f3.1, f3.2.1, f3.2.2.1, fun a ha hl => Nat.le_trans b2.size (f3.2.2.2 a ha hl)⟩
theorem sUncov (A : Option Addr) (cp : Nat) (l : List Ln) (b : Bx) (w : World) (h : Sl 5 Ln.enc w A l) (hn : l.length ≤ 1048576) (_hc : l.length ≤ cp) :
    Calls Try.prog 35 #[.slice A l.length cp, .agg #[.int .i64 b.west, .int .i64 b.south, .int .i64 b.east, .int .i64 b.north]] w (retL 2 Ce.enc w (unL l b) (unB l b)) := by
  go_enter Try.func35, Try.ntmps35
  go_wp2_with (fail)
  generalize hW : World.alloc w _ = W1
  obtain ⟨bW, kW, _⟩ := alloc_facts hW
  have eW : W1.heap.size = w.heap.size + 1 := by rw [← hW]; simp
  clear hW
  generalize hW2 : World.alloc W1 _ = W2
  have hO : OutS 2 Ce.enc (w.heap.size + 1) 69 W2 (.slice (some ⟨w.heap.size + 1, 0, none⟩) 0 0) ([] : List Ce) := by rw [← hW2, ← eW]; exact OutS.empty (Nat.le_refl _)
  have bW2 : Below W1.heap.size W1 W2 := by rw [← hW2]; exact below_alloc _ _
  clear hW2 eW
  have kW := kW.below bW2
  have bW := bth bW bW2
  refine (s9Good _ _ l _ (h.below bW) hn).mono ?_; rintro e w1 ⟨rfl, b1⟩
  have k1 := kW.below b1
  have hO := hO.below b1
  have b1 := bth bW b1
  clear kW bW bW2
  cases g : lnGood l with
  | false =>
    obtain ⟨e1, e2⟩ := un_bad (b := b) (.inl g)
    have E1 := Lib.hid e1
    have E2 := Lib.hid e2
    clear e1 e2 g
    go_wp2
    go_ret2
    rw [E2.out, E1.out]
    exact ⟨_, _, rfl, Fr.nil b1⟩
  | true =>
    have G := Lib.hid g
    have m0 := k1.2.1 0 _ rfl
    have m1 := k1.2.1 1 _ rfl
    have m2 := k1.2.1 2 _ rfl
    have m3 := k1.2.1 3 _ rfl
    clear g
    go_wp2_with (fail)
    refine (specBox b _).mono ?_; rintro e w2 ⟨rfl, b2⟩
    have k2 := k1.below b2
    have hO := hO.below b2
    have b2 := bth b1 b2
    clear m0 m1 m2 m3
    cases g2 : bxOk b with
    | false =>
      obtain ⟨e1, e2⟩ := un_bad (l := l) (.inr g2)
      have E1 := Lib.hid e1
      have E2 := Lib.hid e2
      clear e1 e2 g2
      go_wp2
      go_ret2
      rw [E2.out, E1.out]
      exact ⟨_, _, rfl, Fr.nil b2⟩
    | true =>
      obtain ⟨e1, e2⟩ := un_good G.out g2
      have E1 := Lib.hid e1
      have E2 := Lib.hid e2
      have G2 := Lib.hid g2
      have sz2 : w.heap.size + 1 ≤ w2.heap.size := k2.1
      have K2 := Lib.hid (show ∀ W', Below (w.heap.size + 1) w2 W' → Bk W' w.heap.size b.enc from fun W' hw => ⟨Nat.lt_of_lt_of_le k2.1 hw.size, fun i v hv => (hw.cell (p := ⟨w.heap.size, i, none⟩) (Nat.lt_succ_self _)).trans (k2.2.1 i v hv), fun i => (hw.frozen (p := ⟨w.heap.size, i, none⟩) (Nat.lt_succ_self _)).trans (k2.2.2 i)⟩)
      clear e1 e2 g2 k2 k1
      go_wp2
      go_loopw [6, 7] (fun v i wr => ∃ r : Nat, r ≤ 20 ∧ i = .int .i64 r ∧ Below (w.heap.size + 1) w2 wr ∧ Hid (OutS 2 Ce.enc (w.heap.size + 1) 69 wr v (cellsN (unP l b) (20 * r)))) (fun _ i _ => 20 - (intOf i).toNat)
      case atStart => exact ⟨0, by omega, rfl, Below.refl _ _, hO⟩
      case round =>
        obtain ⟨r, hr, rfl, hb, HO⟩ := hrel
        by_cases hlt : r < 20
        · have t1 : decide ((r : Int) < 20) = true := by simp; omega
          go_wp2_with (go_at_call 60; refine (specSide _).mono ?_; rintro e w' ⟨rfl, rfl⟩)
          go_loopw [6, 8] (fun v i wr => ∃ c : Nat, c ≤ 20 ∧ i = .int .i64 c ∧ Below (w.heap.size + 1) w2 wr ∧ Hid (OutS 2 Ce.enc (w.heap.size + 1) 69 wr v (cellsN (unP l b) (20 * r + c)))) (fun _ i _ => 20 - (intOf i).toNat)
          case atStart => exact ⟨0, by omega, rfl, hb, HO.out⟩
          case round =>
            clear hb HO
            obtain ⟨c, hc, rfl, hb, HO⟩ := hrel
            have hl := cells_len (q := unP l b) (20 * r + c)
            by_cases hlc : c < 20
            · have k3 := K2.out _ hb
              have m0 := k3.2.1 0 _ rfl
              have m1 := k3.2.1 1 _ rfl
              have m2 := k3.2.1 2 _ rfl
              have m3 := k3.2.1 3 _ rfl
              clear k3
              go_wp2_with (go_at_call 60; refine (specSide _).mono ?_; rintro e w' ⟨rfl, rfl⟩)
              refine (specWhole b r c _ G2.out (by omega) (by omega) (by omega) (by omega)).mono ?_; rintro e w3 ⟨rfl, b3⟩
              have HO2 := Lib.hid (HO.out.below b3)
              have hb3 := hb.trans (b3.mono (Nat.le_trans sz2 hb.size))
              clear m0 m1 m2 m3
              cases hq : whole b r c with
              | false =>
                have HN := Lib.hid (cells_miss hlc (show unP l b r c = false by unfold unP; rw [hq]; rfl))
                clear hq
                go_wp2
                go_roundw
                case rel => exact ⟨c + 1, by omega, by go_num, hb3, (by rw [HN.out]; exact HO2.out : OutS 2 Ce.enc (w.heap.size + 1) 69 w3 _ (cellsN (unP l b) (20 * r + (c + 1))))⟩
                case measure => simp [intOf]; omega
              | true =>
                go_wp2_with (fail)
                refine (specCount _ _ l r c _ (h.below (b2.trans (hb3.mono (Nat.le_succ _)))) G.out (by omega) (by omega) (by omega) (by omega)).mono ?_; rintro e w4 ⟨rfl, b4⟩
                have HO2 := Lib.hid (HO2.out.below b4)
                have hb4 := hb3.trans (b4.mono (Nat.le_trans sz2 hb3.size))
                have hsz := Nat.le_trans sz2 hb4.size
                by_cases hz : cnt l r c = 0
                · have HN := Lib.hid (cells_hit hlc (show unP l b r c = true by unfold unP; rw [hq, hz]; rfl))
                  rw [hz]
                  clear hq hz
                  go_wp2_with (at_builtin; refine wp_app (K := 2) (bytes := 16) (enc := Ce.enc) Ce.len Ce.one (by decide) (by decide) _ rfl (.tmp 40) (.tmp 44) _ rfl Try.underlying45 infoCe rfl _ _ rfl (HO2.out.below (by go_grown)) ⟨r, c⟩ _ rfl (by intro j u hu; exact app_cell (by simp) hu) (by omega) (by simp; omega) ?_; intro v' W4 hO2 hg2 hb4')
                  refine ⟨⟨c + 1, by omega, by go_num, Below.trans (by go_grown) hb4', (by rw [HN.out]; exact hO2 : OutS 2 Ce.enc (w.heap.size + 1) 69 W4 v' (cellsN (unP l b) (20 * r + (c + 1))))⟩, by simp [intOf]; omega⟩
                · have HN := Lib.hid (cells_miss hlc (show unP l b r c = false by unfold unP; rw [hq]; simp [hz]))
                  have hz' : (cnt l r c == 0) = false := by rw [beq_eq_false_iff_ne]; exact hz
                  clear hq
                  go_wp2
                  go_roundw
                  case rel => exact ⟨c + 1, by omega, by go_num, hb4, (by rw [HN.out]; exact HO2.out : OutS 2 Ce.enc (w.heap.size + 1) 69 w4 _ (cellsN (unP l b) (20 * r + (c + 1))))⟩
                  case measure => simp [intOf]; omega
            · obtain rfl : c = 20 := by omega
              have HO2 := HO.out
              rw [show 20 * r + 20 = 20 * (r + 1) from rfl] at HO2
              have HO2 := Lib.hid HO2
              go_wp2_with (go_at_call 60; refine (specSide _).mono ?_; rintro e w' ⟨rfl, rfl⟩)
              go_roundw
              case rel => exact ⟨r + 1, by omega, by go_num, hb, HO2.out⟩
              case measure => simp [intOf]; omega
        · obtain rfl : r = 20 := by omega
          have HO2 := HO.out
          rw [show 20 * 20 = 400 from rfl, ← cells_def] at HO2
          obtain ⟨B, c', hv, _, hs, ho, hbk⟩ := HO2.sl Ce.len
          subst hv
          go_wp2_with (go_at_call 60; refine (specSide _).mono ?_; rintro e w' ⟨rfl, rfl⟩)
          go_ret2
          rw [E2.out, E1.out]
          exact ⟨B, c', rfl, b2.trans (hb.mono (Nat.le_succ _)), hs, ho, fun a ha _ => Nat.le_trans (Nat.le_succ _) (hbk a ha)⟩
end Go.Proofs.Ytdphaejpponmeaa
