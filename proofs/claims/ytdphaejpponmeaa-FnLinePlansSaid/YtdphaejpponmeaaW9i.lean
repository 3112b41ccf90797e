/- PlanLines of both texts: what it returns. No condition. -/
import Derived.Test.YtdphaejpponmeaaW9f
import Derived.Test.YtdphaejpponmeaaP9c
set_option linter.unusedVariables false
set_option linter.unusedSimpArgs false
namespace Go.Proofs.Ytdphaejpponmeaa
open Go.RowKit
set_option maxHeartbeats 2000000
theorem infoLnI : (Try.prog.info? 61).map (fun i => (i.zero, i.size, i.bytes)) = some (some (.agg #[.int .i64 0, .int .i64 0, .int .i64 0, .int .i64 0, .int .i64 0]), 5, 40) := by kernel_rfl
theorem Bk.lowB {w w' : World} {g B : Nat} {cs : List Value} (h : Bk w g cs) (hlt : g < B) (hw : Below B w w') : Bk w' g cs :=
  ⟨Nat.lt_of_lt_of_le h.1 hw.size, fun i v hv => (hw.cell (p := ⟨g, i, none⟩) hlt).trans (h.2.1 i v hv), fun i => (hw.frozen (p := ⟨g, i, none⟩) hlt).trans (h.2.2 i)⟩
theorem iPlan (b : Bx) (s : Int) (w : World) :
    Calls Try.prog 30 #[.agg #[.int .i64 b.west, .int .i64 b.south, .int .i64 b.east, .int .i64 b.north], .int .i64 s] w (retL 5 Ln.enc w (plL b s) (plB b s)) := by
  go_enter Try.func30, Try.ntmps30
  go_wp2_with (fail)
  generalize hW : World.alloc w _ = W1
  obtain ⟨bW, kW, _⟩ := alloc_facts hW
  clear hW
  refine (implBox b _).mono ?_; rintro e w1 ⟨rfl, b1⟩
  have k1 := kW.below b1
  have b1 := bth bW b1
  clear kW bW
  cases g : bxOk b with
  | false =>
    obtain ⟨e1, e2⟩ := pl_pre (s := s) (.inl g)
    have E1 := Lib.hid e1
    have E2 := Lib.hid e2
    clear e1 e2 g
    go_wp2
    go_ret2
    rw [E2.out, E1.out]
    exact ⟨_, _, rfl, Fr.nil b1⟩
  | true =>
    go_wp2_with (fail)
    refine (implIn s _ _ _).mono ?_; rintro e w' ⟨rfl, rfl⟩
    cases g2 : inB s 1 300 with
    | false =>
      obtain ⟨e1, e2⟩ := pl_pre (b := b) (.inr (.inl g2))
      have E1 := Lib.hid e1
      have E2 := Lib.hid e2
      clear e1 e2 g g2
      go_wp2
      go_ret2
      rw [E2.out, E1.out]
      exact ⟨_, _, rfl, Fr.nil b1⟩
    | true =>
      have m0 := k1.2.1 0 _ rfl
      have m2 := k1.2.1 2 _ rfl
      by_cases g3 : b.west = b.east
      · obtain ⟨e1, e2⟩ := pl_pre (s := s) (.inr (.inr g3))
        have E1 := Lib.hid e1
        have E2 := Lib.hid e2
        rw [g3] at m0
        clear e1 e2 g g2 g3
        go_wp2
        go_ret2
        rw [E2.out, E1.out]
        exact ⟨_, _, rfl, Fr.nil b1⟩
      · have g3' : (b.west == b.east) = false := by rw [beq_eq_false_iff_ne]; exact g3
        have PP := Lib.hid (pl_is g g2 g3)
        have hb := bxOk_bd g
        have hs := inB_true.1 g2
        have m1 := k1.2.1 1 _ rfl
        have sz1 : w.heap.size + 1 ≤ w1.heap.size := k1.1
        have sz1' : w.heap.size < w1.heap.size := k1.1
        have K1 := Lib.hid (show ∀ W', Below (w.heap.size + 1) w1 W' → Bk W' w.heap.size b.enc from fun W' hw => k1.lowB (Nat.lt_succ_self _) hw)
        clear k1 g g2 g3
        go_wp2_with (fail)
        generalize hW : World.alloc w1 _ = W2
        have hO : OutS 5 Ln.enc (w.heap.size + 1) 61 W2 (.slice (some ⟨w1.heap.size, 0, none⟩) 0 0) ([] : List Ln) := by rw [← hW]; exact OutS.empty sz1
        have bW : Below (w.heap.size + 1) w1 W2 := by rw [← hW]; exact (below_alloc w1 _).mono sz1
        clear hW m0 m1 m2 g3'
        go_loopw [6, 7] (fun v y wr => ∃ n : Nat, n ≤ 8 ∧ y = .int .i64 (seen b s n + s) ∧ Below (w.heap.size + 1) w1 wr ∧ (0 < n → seen b s n < b.north) ∧ Hid (OutS 5 Ln.enc (w.heap.size + 1) 61 wr v (plK b s n)) ∧ Hid (∀ m, m ≤ n → moreB b s m = true)) (fun _ y _ => (4000 - intOf y).toNat)
        case atStart => exact ⟨0, by omega, rfl, bW, fun h => absurd h (by omega), hO, (fun m hm => (show m = 0 by omega) ▸ more_zero b s : ∀ m, m ≤ 0 → moreB b s m = true)⟩
        case round =>
          obtain ⟨n, hn, rfl, hw, hsn, HO, HM⟩ := hrel
          have lo := seen_mono (b := b) (s := s) (by omega) n
          have hi : seen b s n ≤ 1000 := by
            by_cases h0 : 0 < n
            · have := hsn h0; omega
            · obtain rfl : n = 0 := by omega
              show b.south ≤ 1000; omega
          have SS : seen b s (n + 1) = seen b s n + 2 * s := rfl
          obtain ⟨A0, c0, hv, -⟩ := HO.out.sl Ln.len
          subst hv
          have PL := Lib.hid (plK_len b s n)
          have HO2 := HO.out
          rw [PL.out] at HO2 ⊢
          clear HO
          have HO := Lib.hid HO2
          clear HO2
          have k2 := K1.out _ hw
          have m0 := k2.2.1 0 _ rfl
          have m1 := k2.2.1 1 _ rfl
          have m2 := k2.2.1 2 _ rfl
          have m3 := k2.2.1 3 _ rfl
          have hsz := Nat.le_trans sz1 hw.size
          have hsz' : w.heap.size < wr.heap.size := k2.1
          clear k2
          by_cases h8 : n = 8
          · subst h8
            obtain ⟨e1, e2⟩ := pl_none (fun m hm => HM.out m (by omega))
            have E1 := Lib.hid e1
            have E2 := Lib.hid e2
            clear e1 e2
            go_wp2
            go_ret2
            rw [E2.out, E1.out]
            exact ⟨_, _, rfl, Fr.nil (b1.trans (hw.mono (Nat.le_succ _)))⟩
          · have h8' : ((n : Int) == 8) = false := by rw [beq_eq_false_iff_ne]; omega
            by_cases hc : seen b s n + s ≤ b.north
            · have HT := Lib.hid (show plK b s (n + 1) = plK b s n ++ [⟨(n : Int) + 1, seen b s n + s, b.west, b.east, s⟩] by rw [plK, show min (seen b s n + s) b.north = seen b s n + s by omega])
              by_cases hz : seen b s (n + 1) < b.north
              · have hz' : seen b s n + s + s < b.north := by omega
                have HN := Lib.hid (show ∀ m, m ≤ n + 1 → moreB b s m = true from fun m hm => by
                  by_cases e : m = n + 1
                  · subst e; rw [more_succ]; simpa using hz
                  · exact HM.out m (by omega))
                go_wp2_with (at_builtin; refine wp_app (K := 5) (bytes := 40) (enc := Ln.enc) Ln.len Ln.one (by decide) (by decide) _ rfl (.tmp 35) (.tmp 49) _ rfl Try.underlying32 infoLnI rfl _ _ rfl (HO.out.below (by go_grown)) ⟨(n : Int) + 1, seen b s n + s, b.west, b.east, s⟩ _ rfl (by intro j u hu; exact app_cell (by simp) hu) (by rw [plK_len]; omega) (by simp; omega) ?_; intro v' W4 hO2 hg2 hb4; have j0 := (K1.out _ (hw.trans (Below.trans (by go_grown) hb4))).2.1 3 _ rfl)
                refine ⟨⟨n + 1, by omega, vi (by rw [SS]; omega), hw.trans (Below.trans (by go_grown) hb4), fun _ => hz, (by rw [HT.out]; exact hO2 : OutS 5 Ln.enc (w.heap.size + 1) 61 W4 v' (plK b s (n + 1))), HN.out⟩, by simp [intOf]; omega⟩
              · have hz' : b.north ≤ seen b s n + s + s := by omega
                obtain ⟨e1, e2⟩ := pl_some PP.out (n := n + 1) (by omega) (by rw [more_succ]; simpa using hz) (fun m hm => HM.out m (by omega))
                have E1 := Lib.hid e1
                have E2 := Lib.hid e2
                clear e1 e2
                go_wp2_with (at_builtin; refine wp_app (K := 5) (bytes := 40) (enc := Ln.enc) Ln.len Ln.one (by decide) (by decide) _ rfl (.tmp 35) (.tmp 49) _ rfl Try.underlying32 infoLnI rfl _ _ rfl (HO.out.below (by go_grown)) ⟨(n : Int) + 1, seen b s n + s, b.west, b.east, s⟩ _ rfl (by intro j u hu; exact app_cell (by simp) hu) (by rw [plK_len]; omega) (by simp; omega) ?_; intro v' W4 hO2 hg2 hb4; have j0 := (K1.out _ (hw.trans (Below.trans (by go_grown) hb4))).2.1 3 _ rfl)
                obtain ⟨B, c', hv, _, hs', ho, hbk⟩ := (show OutS 5 Ln.enc (w.heap.size + 1) 61 W4 v' (plK b s (n + 1)) by rw [HT.out]; exact hO2).sl Ln.len
                subst hv
                go_ret2
                rw [E2.out, E1.out]
                exact ⟨B, c', rfl, b1.trans ((hw.trans (Below.trans (by go_grown) hb4)).mono (Nat.le_succ _)), hs', ho, fun a ha _ => Nat.le_trans (Nat.le_succ _) (hbk a ha)⟩
            · have hc' : b.north < seen b s n + s := by omega
              have HT := Lib.hid (show plK b s (n + 1) = plK b s n ++ [⟨(n : Int) + 1, b.north, b.west, b.east, s⟩] by rw [plK, show min (seen b s n + s) b.north = b.north by omega])
              by_cases hz : seen b s (n + 1) < b.north
              · exact absurd hz (by omega)
              · have hz' : b.north ≤ seen b s n + s + s := by omega
                obtain ⟨e1, e2⟩ := pl_some PP.out (n := n + 1) (by omega) (by rw [more_succ]; simpa using hz) (fun m hm => HM.out m (by omega))
                have E1 := Lib.hid e1
                have E2 := Lib.hid e2
                clear e1 e2
                go_wp2_with (at_builtin; refine wp_app (K := 5) (bytes := 40) (enc := Ln.enc) Ln.len Ln.one (by decide) (by decide) _ rfl (.tmp 35) (.tmp 49) _ rfl Try.underlying32 infoLnI rfl _ _ rfl (HO.out.below (by go_grown)) ⟨(n : Int) + 1, b.north, b.west, b.east, s⟩ _ rfl (by intro j u hu; exact app_cell (by simp) hu) (by rw [plK_len]; omega) (by simp; omega) ?_; intro v' W4 hO2 hg2 hb4; have j0 := (K1.out _ (hw.trans (Below.trans (by go_grown) hb4))).2.1 3 _ rfl)
                obtain ⟨B, c', hv, _, hs', ho, hbk⟩ := (show OutS 5 Ln.enc (w.heap.size + 1) 61 W4 v' (plK b s (n + 1)) by rw [HT.out]; exact hO2).sl Ln.len
                subst hv
                go_ret2
                rw [E2.out, E1.out]
                exact ⟨B, c', rfl, b1.trans ((hw.trans (Below.trans (by go_grown) hb4)).mono (Nat.le_succ _)), hs', ho, fun a ha _ => Nat.le_trans (Nat.le_succ _) (hbk a ha)⟩
theorem sPlan (b : Bx) (s : Int) (w : World) :
    Calls Try.prog 29 #[.agg #[.int .i64 b.west, .int .i64 b.south, .int .i64 b.east, .int .i64 b.north], .int .i64 s] w (retL 5 Ln.enc w (plL b s) (plB b s)) := by
  go_enter Try.func29, Try.ntmps29
  go_wp2_with (fail)
  generalize hW : World.alloc w _ = W1
  obtain ⟨bW, kW, _⟩ := alloc_facts hW
  have eW : W1.heap.size = w.heap.size + 1 := by rw [← hW]; simp
  clear hW
  generalize hW2 : World.alloc W1 _ = W2
  have hO : OutS 5 Ln.enc (w.heap.size + 1) 61 W2 (.slice (some ⟨w.heap.size + 1, 0, none⟩) 0 0) ([] : List Ln) := by rw [← hW2, ← eW]; exact OutS.empty (Nat.le_refl _)
  have bW2 : Below W1.heap.size W1 W2 := by rw [← hW2]; exact below_alloc _ _
  clear hW2 eW
  have kW := kW.below bW2
  have bW := bth bW bW2
  refine (specBox b _).mono ?_; rintro e w1 ⟨rfl, b1⟩
  have k1 := kW.below b1
  have hO := hO.below b1
  have b1 := bth bW b1
  clear kW bW bW2
  cases g : bxOk b with
  | false =>
    obtain ⟨e1, e2⟩ := pl_pre (s := s) (.inl g)
    have E1 := Lib.hid e1
    have E2 := Lib.hid e2
    clear e1 e2 g
    go_wp2
    go_ret2
    rw [E2.out, E1.out]
    exact ⟨_, _, rfl, Fr.nil b1⟩
  | true =>
    have m0 := k1.2.1 0 _ rfl
    have m2 := k1.2.1 2 _ rfl
    by_cases g3 : b.west = b.east
    · obtain ⟨e1, e2⟩ := pl_pre (s := s) (.inr (.inr g3))
      have E1 := Lib.hid e1
      have E2 := Lib.hid e2
      rw [g3] at m0
      clear e1 e2 g g3
      go_wp2
      go_ret2
      rw [E2.out, E1.out]
      exact ⟨_, _, rfl, Fr.nil b1⟩
    · have g3' : (b.west == b.east) = false := by rw [beq_eq_false_iff_ne]; exact g3
      go_wp2_with (fail)
      refine (specIn s _ _ _).mono ?_; rintro e w' ⟨rfl, rfl⟩
      cases g2 : inB s 1 300 with
      | false =>
        obtain ⟨e1, e2⟩ := pl_pre (b := b) (.inr (.inl g2))
        have E1 := Lib.hid e1
        have E2 := Lib.hid e2
        clear e1 e2 g g2
        go_wp2
        go_ret2
        rw [E2.out, E1.out]
        exact ⟨_, _, rfl, Fr.nil b1⟩
      | true =>
        have PP := Lib.hid (pl_is g g2 g3)
        have hb := bxOk_bd g
        have hs := inB_true.1 g2
        have m1 := k1.2.1 1 _ rfl
        have sz1 : w.heap.size + 1 ≤ w1.heap.size := k1.1
        have sz1' : w.heap.size < w1.heap.size := k1.1
        have K1 := Lib.hid (show ∀ W', Below (w.heap.size + 1) w1 W' → Bk W' w.heap.size b.enc from fun W' hw => k1.lowB (Nat.lt_succ_self _) hw)
        clear k1 g g2 g3
        go_wp2_with (fail)
        clear m0 m1 m2 g3'
        go_loopw [6, 7] (fun v x wr => ∃ n : Nat, ∃ z : Int, n ≤ 8 ∧ x = .int .i64 z ∧ 0 ≤ z ∧ z ≤ 1300 ∧ (moreB b s n = true → z = seen b s n) ∧ (moreB b s n = false → b.north ≤ z) ∧ Below (w.heap.size + 1) w1 wr ∧ Hid (OutS 5 Ln.enc (w.heap.size + 1) 61 wr v (plK b s n)) ∧ Hid (∀ m, m < n → moreB b s m = true)) (fun _ y _ => (4000 - intOf y).toNat)
        case atStart => exact ⟨0, b.south, by omega, rfl, by omega, by omega, fun _ => rfl, (fun h => by rw [more_zero] at h; cases h), Below.refl _ _, hO, (fun m hm => absurd hm (by omega) : ∀ m, m < 0 → moreB b s m = true)⟩
        case round =>
          obtain ⟨n, z, hn, rfl, hz0, hz1, hT, hF, hw, HO, HM⟩ := hrel
          obtain ⟨A0, c0, hv, -⟩ := HO.out.sl Ln.len
          subst hv
          have PL := Lib.hid (plK_len b s n)
          have HO2 := HO.out
          rw [PL.out] at HO2 ⊢
          clear HO
          have HO := Lib.hid HO2
          clear HO2
          have k2 := K1.out _ hw
          have m0 := k2.2.1 0 _ rfl
          have m1 := k2.2.1 1 _ rfl
          have m2 := k2.2.1 2 _ rfl
          have m3 := k2.2.1 3 _ rfl
          have hsz := Nat.le_trans sz1 hw.size
          have hsz' : w.heap.size < wr.heap.size := k2.1
          clear k2
          cases hm : moreB b s n with
          | false =>
            have hz := hF hm
            have h0 : n ≠ 0 := by
              intro e; subst e
              rw [more_zero] at hm; cases hm
            have h0' : ((n : Int) == 0) = false := by rw [beq_eq_false_iff_ne]; omega
            have hz' : decide (z < b.north) = false := by simp; omega
            obtain ⟨e1, e2⟩ := pl_some PP.out hn hm HM.out
            have E1 := Lib.hid e1
            have E2 := Lib.hid e2
            clear e1 e2 hT hF hm
            obtain ⟨B, c', hv, _, hs', ho, hbk⟩ := HO.out.sl Ln.len
            rw [PL.out] at hv
            injection hv with v1 v2 v3
            subst v1 v3
            go_wp2
            go_ret2
            rw [E2.out, E1.out]
            exact ⟨A0, c0, by rw [PL.out]; rfl, b1.trans (hw.mono (Nat.le_succ _)), hs', ho, fun a ha _ => Nat.le_trans (Nat.le_succ _) (hbk a ha)⟩
          | true =>
            have hz := hT hm
            subst hz
            have HM2 := Lib.hid (show ∀ m, m < n + 1 → moreB b s m = true from fun m hm2 => by
              by_cases e : m = n
              · subst e; exact hm
              · exact HM.out m (by omega))
            have hlt : 0 < n → seen b s n < b.north := by
              intro h0
              obtain ⟨m, rfl⟩ : ∃ m, n = m + 1 := ⟨n - 1, by omega⟩
              rw [more_succ] at hm
              simpa using hm
            have lo := seen_mono (b := b) (s := s) (by omega) n
            have hup : seen b s n ≤ b.north := by
              by_cases h0 : 0 < n
              · have := hlt h0; omega
              · obtain rfl : n = 0 := by omega
                show b.south ≤ b.north; omega
            have SS : seen b s (n + 1) = seen b s n + 2 * s := rfl
            have MS := Lib.hid (more_succ b s n)
            have HT := Lib.hid (show plK b s (n + 1) = plK b s n ++ [⟨(n : Int) + 1, min (seen b s n + s) b.north, b.west, b.east, s⟩] from rfl)
            generalize hY : min (seen b s n + s) b.north = Y at HT
            have hY0 : 0 ≤ Y ∧ Y ≤ 1000 ∧ seen b s n ≤ Y := by omega
            have hnew : (moreB b s (n + 1) = true → Y + s = seen b s (n + 1)) ∧ (moreB b s (n + 1) = false → b.north ≤ Y + s) := by
              rw [MS.out]
              constructor
              · intro h; simp at h; omega
              · intro h; simp at h; omega
            have NEW := Lib.hid hnew
            have HY := Lib.hid hY
            clear hT hF hm hnew hY HM
            have hor : n = 0 ∨ (0 < n ∧ seen b s n < b.north) := by
              by_cases h0 : 0 < n
              · exact .inr ⟨h0, hlt h0⟩
              · exact .inl (by omega)
            clear hlt
            rcases hor with h0 | ⟨h0, h0'⟩
            · have z0 : ((n : Int) == 0) = true := by simp [h0]
              clear h0
              by_cases h8 : 8 ≤ n
              · obtain ⟨e1, e2⟩ := pl_none (fun m hm => HM2.out m (by omega))
                have E1 := Lib.hid e1
                have E2 := Lib.hid e2
                have q1 : (8 : Int) < (n : Int) + 1 := by omega
                clear e1 e2
                go_wp2_with (first | (go_at_call 76; refine (specLeast _ _ _).mono ?_; rintro e w' ⟨rfl, rfl⟩; rw [HY.out]) | at_builtin; refine wp_app (K := 5) (bytes := 40) (enc := Ln.enc) Ln.len Ln.one (by decide) (by decide) _ rfl (.tmp 43) (.tmp 54) _ rfl Try.underlying32 infoLnI rfl _ _ rfl (HO.out.below (by go_grown)) ⟨(n : Int) + 1, Y, b.west, b.east, s⟩ _ rfl (by intro j u hu; exact app_cell (by simp) hu) (by rw [plK_len]; omega) (by simp; omega) ?_; intro v' W4 hO2 hg2 hb4; have hO3 := Lib.hid (show OutS 5 Ln.enc (w.heap.size + 1) 61 W4 v' (plK b s (n + 1)) by rw [HT.out]; exact hO2); obtain ⟨B, c', hv, _, hs', ho, hbk⟩ := hO3.out.sl Ln.len; subst hv; rw [plK_len] at hO3 ⊢; have hw4 := hw.trans (Below.trans (by go_grown) hb4); have hs4 := Nat.le_trans sz1 hw4.size; clear hO2)
                go_ret2
                rw [E2.out, E1.out]
                exact ⟨_, _, rfl, Fr.nil (b1.trans ((hw4.trans ((below_alloc W4 _).mono hs4)).mono (Nat.le_succ _)))⟩
              · have q1 : (n : Int) + 1 ≤ 8 := by omega
                go_wp2_with (first | (go_at_call 76; refine (specLeast _ _ _).mono ?_; rintro e w' ⟨rfl, rfl⟩; rw [HY.out]) | at_builtin; refine wp_app (K := 5) (bytes := 40) (enc := Ln.enc) Ln.len Ln.one (by decide) (by decide) _ rfl (.tmp 43) (.tmp 54) _ rfl Try.underlying32 infoLnI rfl _ _ rfl (HO.out.below (by go_grown)) ⟨(n : Int) + 1, Y, b.west, b.east, s⟩ _ rfl (by intro j u hu; exact app_cell (by simp) hu) (by rw [plK_len]; omega) (by simp; omega) ?_; intro v' W4 hO2 hg2 hb4; have hO3 := Lib.hid (show OutS 5 Ln.enc (w.heap.size + 1) 61 W4 v' (plK b s (n + 1)) by rw [HT.out]; exact hO2); obtain ⟨B, c', hv, _, hs', ho, hbk⟩ := hO3.out.sl Ln.len; subst hv; rw [plK_len] at hO3 ⊢; have hw4 := hw.trans (Below.trans (by go_grown) hb4); have hs4 := Nat.le_trans sz1 hw4.size; clear hO2)
                refine ⟨⟨n + 1, Y + s, by omega, rfl, by omega, by omega, NEW.out.1, NEW.out.2, hw4, hO3, HM2.out⟩, by simp [intOf]; omega⟩
            · have z0 : ((n : Int) == 0) = false := by rw [beq_eq_false_iff_ne]; omega
              by_cases h8 : 8 ≤ n
              · obtain ⟨e1, e2⟩ := pl_none (fun m hm => HM2.out m (by omega))
                have E1 := Lib.hid e1
                have E2 := Lib.hid e2
                have q1 : (8 : Int) < (n : Int) + 1 := by omega
                clear e1 e2
                go_wp2_with (first | (go_at_call 76; refine (specLeast _ _ _).mono ?_; rintro e w' ⟨rfl, rfl⟩; rw [HY.out]) | at_builtin; refine wp_app (K := 5) (bytes := 40) (enc := Ln.enc) Ln.len Ln.one (by decide) (by decide) _ rfl (.tmp 43) (.tmp 54) _ rfl Try.underlying32 infoLnI rfl _ _ rfl (HO.out.below (by go_grown)) ⟨(n : Int) + 1, Y, b.west, b.east, s⟩ _ rfl (by intro j u hu; exact app_cell (by simp) hu) (by rw [plK_len]; omega) (by simp; omega) ?_; intro v' W4 hO2 hg2 hb4; have hO3 := Lib.hid (show OutS 5 Ln.enc (w.heap.size + 1) 61 W4 v' (plK b s (n + 1)) by rw [HT.out]; exact hO2); obtain ⟨B, c', hv, _, hs', ho, hbk⟩ := hO3.out.sl Ln.len; subst hv; rw [plK_len] at hO3 ⊢; have hw4 := hw.trans (Below.trans (by go_grown) hb4); have hs4 := Nat.le_trans sz1 hw4.size; clear hO2)
                go_ret2
                rw [E2.out, E1.out]
                exact ⟨_, _, rfl, Fr.nil (b1.trans ((hw4.trans ((below_alloc W4 _).mono hs4)).mono (Nat.le_succ _)))⟩
              · have q1 : (n : Int) + 1 ≤ 8 := by omega
                go_wp2_with (first | (go_at_call 76; refine (specLeast _ _ _).mono ?_; rintro e w' ⟨rfl, rfl⟩; rw [HY.out]) | at_builtin; refine wp_app (K := 5) (bytes := 40) (enc := Ln.enc) Ln.len Ln.one (by decide) (by decide) _ rfl (.tmp 43) (.tmp 54) _ rfl Try.underlying32 infoLnI rfl _ _ rfl (HO.out.below (by go_grown)) ⟨(n : Int) + 1, Y, b.west, b.east, s⟩ _ rfl (by intro j u hu; exact app_cell (by simp) hu) (by rw [plK_len]; omega) (by simp; omega) ?_; intro v' W4 hO2 hg2 hb4; have hO3 := Lib.hid (show OutS 5 Ln.enc (w.heap.size + 1) 61 W4 v' (plK b s (n + 1)) by rw [HT.out]; exact hO2); obtain ⟨B, c', hv, _, hs', ho, hbk⟩ := hO3.out.sl Ln.len; subst hv; rw [plK_len] at hO3 ⊢; have hw4 := hw.trans (Below.trans (by go_grown) hb4); have hs4 := Nat.le_trans sz1 hw4.size; clear hO2)
                refine ⟨⟨n + 1, Y + s, by omega, rfl, by omega, by omega, NEW.out.1, NEW.out.2, hw4, hO3, HM2.out⟩, by simp [intOf]; omega⟩
end Go.Proofs.Ytdphaejpponmeaa
