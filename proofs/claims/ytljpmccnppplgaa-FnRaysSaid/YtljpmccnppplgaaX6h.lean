/- SplitStrata of both texts: what it returns. Lists of at most 1048576 layers. -/
import Derived.Test.YtljpmccnppplgaaX6c
import Derived.Test.YtljpmccnppplgaaP6c
import Derived.Test.YtljpmccnppplgaaOut2
set_option linter.unusedVariables false
set_option linter.unusedSimpArgs false
namespace Go.Proofs.Ytljpmccnppplgaa
open Go.RowKit
set_option maxHeartbeats 2000000

theorem sSplit (A : Option Addr) (c : Nat) (l : List St) (d : Int) (w : World) (h : Sl 2 St.enc w A l) (hn : l.length ≤ 1048576) (hc : l.length ≤ c) :
    Calls Try.prog 33 #[.slice A l.length c, .int .i64 d] w (retL 2 St.enc w (spL l d) (spB l d)) := by
  by_cases g1 : stGood l = true
  · cases g2 : inB d 1 (totK l l.length - 1) with
    | true =>
      have q1 := inB_true.1 g2
      have qb := tot_bd g1
      rw [tot_def] at qb
      have h5 := stGood_len g1
      have SB := Lib.hid (spB_at g1 g2)
      have G1 := Lib.hid g1
      have G2 := Lib.hid g2
      go_enter Try.func33, Try.ntmps33
      go_wp2_with (fail)
      generalize hW : World.alloc w _ = W1
      have hO : OutS 2 St.enc w.heap.size 52 W1 (.slice (some ⟨w.heap.size, 0, none⟩) 0 0) ([] : List St) := by rw [← hW]; exact OutS.empty (Nat.le_refl _)
      have hbW : Below w.heap.size w W1 := by rw [← hW]; exact below_alloc _ _
      clear hW
      refine (s6Good _ _ l _ (h.below hbW) hn).mono ?_; rintro e w' ⟨rfl, rfl⟩; rw [G1.out]
      go_wp2_with (first | (go_at_call 55; refine (s6Total _ _ _ l _ (h.below hbW) G1.out (Nat.le_refl _)).mono ?_; rintro e w' ⟨rfl, rfl⟩) | (go_at_call 58; refine (specIn _ _ _ _).mono ?_; rintro e w' ⟨rfl, rfl⟩; rw [G2.out]))
      go_loopw [6, 7] (fun v i wr => ∃ k : Nat, k ≤ l.length ∧ i = .int .i64 k ∧ Below w.heap.size w wr ∧ Hid (OutS 2 St.enc w.heap.size 52 wr v (splK l d k))) (fun _ i _ => l.length - (intOf i).toNat)
      case atStart => exact ⟨0, Nat.zero_le _, rfl, hbW, hO⟩
      case round =>
        obtain ⟨k, hk, rfl, hb, HO⟩ := hrel
        have hl2 := splK_len (l := l) (d := d) k
        by_cases hlt : k < l.length
        · obtain ⟨b, off, rfl⟩ := h.addr (by omega)
          obtain ⟨hbl, c0, c1⟩ := St.get (h.below hb) hlt
          rw [← th_of hlt] at c0
          rw [← sp_of hlt] at c1
          have b2 := stGood_at G1.out hlt
          have b3 := part_bd G1.out (d := d) hlt
          have hsz : w.heap.size ≤ wr.heap.size := hb.size
          have hown := HO.out.lt
          go_wp2_with (fail)
          generalize hW2 : World.alloc wr _ = W2
          obtain ⟨bW, kW, sW⟩ := alloc_facts hW2
          clear hW2
          have bW' := bth hb bW
          have HO1 := HO.out.below bW
          refine (s6Part _ _ _ d l _ (h.below bW') G1.out hlt hc (by omega) (by omega)).mono ?_; rintro e w3 ⟨rfl, q, rfl⟩
          have HO' := Lib.hid (HO1.below (Below.refl W2.heap.size W2 |> fun z => bdrew z q))
          have kD := kW.below (bdrew (Below.refl _ _) q)
          have bD := bth bW' (bdrew (Below.refl _ _) q)
          have sD : wr.heap.size < (W2.drewN q).heap.size := Nat.lt_of_lt_of_le sW (bdrew (Below.refl W2.heap.size W2) q).size
          clear HO HO1 kW bW' bW sW
          generalize W2.drewN q = W3 at *
          generalize hgg : wr.heap.size = gg at *
          have m0 := kD.2.1 0 _ rfl
          have m1 := kD.2.1 1 _ rfl
          rcases splK_step G1.out (d := d) hlt with ⟨i1, -, i3⟩ | ⟨i1, i3⟩
          · have I3 := Lib.hid i3
            clear i3
            go_wp2_with (first | (go_at_call 58; refine (specIn _ _ _ _).mono ?_; rintro e w' ⟨rfl, rfl⟩; rw [i1]) | (at_builtin; refine wp_app (K := 2) (bytes := 16) (enc := St.enc) St.len St.one (by decide) (by decide) _ rfl (.tmp 42) (.tmp 47) _ rfl Try.underlying25 infoStI rfl _ _ rfl (HO'.out.below (by go_grown)) ⟨part l d k, sp l k⟩ _ rfl (by intro j u hu; exact app_cell (by simp) hu) (by omega) (by simp; omega) ?_; intro v' W4 hO2 hg2 hb2; have kD' := Bk.grown (kD.below (below_alloc _ _)) hg2 (fun e => Nat.lt_irrefl _ (hown _ e).2); have n0 := kD'.2.1 0 _ rfl; have n1 := kD'.2.1 1 _ rfl; have sz4 : w.heap.size ≤ W4.heap.size := (by have := hb2.size; simp at this; omega); clear kD') | (at_builtin; go_loud (refine wp_app (K := 2) (bytes := 16) (enc := St.enc) St.len St.one (by decide) (by decide) _ rfl (.tmp 49) (.tmp 57) _ rfl Try.underlying25 infoStI rfl _ _ rfl (hO2.below (by go_grown)) ⟨th l k - part l d k, sp l k⟩ _ rfl (by intro j u hu; exact app_cell (by simp) hu) (by simp; omega) (by simp; omega) ?_; intro v5 W5 hO3 hg3 hb3)))
            refine ⟨⟨k + 1, by omega, by go_num, Below.trans (Below.trans (by go_grown) hb2) (Below.trans (by go_grown) hb3), (by rw [I3.out]; exact hO3 : OutS 2 St.enc w.heap.size 52 W5 v5 (splK l d (k + 1)))⟩, by simp [intOf]; omega⟩
          · have I3 := Lib.hid i3
            clear i3
            go_wp2_with (first | (go_at_call 58; refine (specIn _ _ _ _).mono ?_; rintro e w' ⟨rfl, rfl⟩; rw [i1]) | (at_builtin; refine wp_app (K := 2) (bytes := 16) (enc := St.enc) St.len St.one (by decide) (by decide) _ rfl (.tmp 59) (.tmp 61) _ rfl Try.underlying25 infoStI rfl _ _ rfl (HO'.out.below (by go_grown)) ⟨th l k, sp l k⟩ _ rfl (by intro j u hu; exact app_cell (by simp) hu) (by omega) (by simp; omega) ?_; intro v' W4 hO2 hg2 hb2))
            refine ⟨⟨k + 1, by omega, by go_num, Below.trans (by go_grown) hb2, (by rw [I3.out]; exact hO2 : OutS 2 St.enc w.heap.size 52 W4 v' (splK l d (k + 1)))⟩, by simp [intOf]; omega⟩
        · obtain rfl : k = l.length := by omega
          obtain ⟨B, c', hv, _, hs, ho, hbk⟩ := HO.out.sl St.len
          subst hv
          cases g3 : stGood (splK l d l.length) with
          | true =>
            have G3 := Lib.hid g3
            go_wp2_with (go_at_call 51; refine (s6Good _ _ _ _ hs (by omega)).mono ?_; rintro e w' ⟨rfl, rfl⟩; rw [G3.out])
            go_ret2
            have SB := SB.out
            rw [G3.out] at SB
            rw [spL_yes SB, SB]
            exact ⟨B, c', rfl, hb, hs, ho, fun a ha _ => hbk a ha⟩
          | false =>
            have G3 := Lib.hid g3
            go_wp2_with (go_at_call 51; refine (s6Good _ _ _ _ hs (by omega)).mono ?_; rintro e w' ⟨rfl, rfl⟩; rw [G3.out])
            go_ret2
            have SB := SB.out
            rw [G3.out] at SB
            rw [spL_no SB, SB]
            exact ⟨_, _, rfl, Fr.nil (by go_grown; exact hb.size)⟩
    | false =>
      have SB := spB_no2 g2
      rw [spL_no SB, SB]
      clear SB
      have qb := tot_bd g1
      rw [tot_def] at qb
      have G1 := Lib.hid g1
      have G2 := Lib.hid g2
      go_enter Try.func33, Try.ntmps33
      go_wp2_with (fail)
      generalize hW : World.alloc w _ = W1
      have hbW : Below w.heap.size w W1 := by rw [← hW]; exact below_alloc _ _
      clear hW
      refine (s6Good _ _ l _ (h.below hbW) hn).mono ?_; rintro e w' ⟨rfl, rfl⟩; rw [G1.out]
      go_wp2_with (first | (go_at_call 55; refine (s6Total _ _ _ l _ (h.below hbW) G1.out (Nat.le_refl _)).mono ?_; rintro e w' ⟨rfl, rfl⟩) | (go_at_call 58; refine (specIn _ _ _ _).mono ?_; rintro e w' ⟨rfl, rfl⟩; rw [G2.out]))
      go_ret2
      exact ⟨_, _, rfl, Fr.nil hbW⟩
  · have g1' : stGood l = false := by simpa using g1
    have SB := spB_no1 (d := d) g1'
    rw [spL_no SB, SB]
    clear SB
    go_enter Try.func33, Try.ntmps33
    go_wp2_with (fail)
    generalize hW : World.alloc w _ = W1
    have hbW : Below w.heap.size w W1 := by rw [← hW]; exact below_alloc _ _
    clear hW
    refine (s6Good _ _ l _ (h.below hbW) hn).mono ?_; rintro e w' ⟨rfl, rfl⟩; rw [g1']
    go_wp2_with (fail)
    go_ret2
    exact ⟨_, _, rfl, Fr.nil hbW⟩

theorem iSplit (A : Option Addr) (c : Nat) (l : List St) (d : Int) (w : World) (h : Sl 2 St.enc w A l) (hn : l.length ≤ 1048576) (hc : l.length ≤ c) :
    Calls Try.prog 34 #[.slice A l.length c, .int .i64 d] w (retL 2 St.enc w (spL l d) (spB l d)) := by
  by_cases g1 : stGood l = true
  · cases g2 : inB d 1 (totK l l.length - 1) with
    | true =>
      have q1 := inB_true.1 g2
      have qb := tot_bd g1
      have qt := tot_def l
      rw [tot_def] at qb
      have h5 := stGood_len g1
      have SB := Lib.hid (spB_at g1 g2)
      have G1 := Lib.hid g1
      have G2 := Lib.hid g2
      go_enter Try.func34, Try.ntmps34
      go_wp2_with (fail)
      refine (i6Good _ _ l _ h hn).mono ?_; rintro e w1 ⟨rfl, b1⟩; rw [G1.out]
      go_wp2_with (fail)
      refine (i6Total _ _ l _ (h.below b1) G1.out).mono ?_; rintro e w2 ⟨rfl, b2⟩; rw [qt]
      have b2' := bth b1 b2
      go_wp2_with (go_at_call 53; refine (implIn _ _ _ _).mono ?_; rintro e w' ⟨rfl, rfl⟩; rw [G2.out])
      generalize hW : World.alloc w2 _ = W1
      have hO : OutS 2 St.enc w.heap.size 52 W1 (.slice (some ⟨w2.heap.size, 0, none⟩) 0 0) ([] : List St) := by rw [← hW]; exact OutS.empty b2'.size
      have hbW : Below w.heap.size w W1 := by rw [← hW]; exact b2'.trans ((Below.refl _ _).alloc b2'.size _)
      clear hW
      go_loopw [1, 6, 23] (fun s v i wr => ∃ k : Nat, k ≤ l.length ∧ i = .int .i64 k ∧ s = .int .i64 (d - totK l k) ∧ Below w.heap.size w wr ∧ Hid (OutS 2 St.enc w.heap.size 52 wr v (splK l d k))) (fun _ _ i _ => l.length - (intOf i).toNat)
      case atStart => exact ⟨0, Nat.zero_le _, rfl, vi (by simp [totK]), hbW, hO⟩
      case round =>
        obtain ⟨k, hk, rfl, rfl, hb, HO⟩ := hrel
        have hl2 := splK_len (l := l) (d := d) k
        by_cases hlt : k < l.length
        · obtain ⟨b, off, rfl⟩ := h.addr (by omega)
          obtain ⟨hbl, c0, c1⟩ := St.get (h.below hb) hlt
          rw [← th_of hlt] at c0
          rw [← sp_of hlt] at c1
          have b2 := stGood_at G1.out hlt
          have b3 := totK_bd G1.out k (by omega)
          have hsz : w.heap.size ≤ wr.heap.size := hb.size
          have hown := HO.out.lt
          have hT : totK l (k + 1) = totK l k + th l k := rfl
          have kW := Bk.new wr [.int .i64 (th l k), .int .i64 (sp l k)] 52
          have HO' := HO
          by_cases z1 : 0 < d - totK l k
          · by_cases z2 : d - totK l k < th l k
            · have I3 := Lib.hid (splK_two hlt z1 z2)
              go_wp2_with (at_builtin; refine wp_apps (K := 2) (bytes := 16) (enc := St.enc) St.len St.one (by decide) (by decide) _ rfl (.tmp 35) (.tmp 47) _ rfl Try.underlying25 infoStI rfl _ _ rfl (HO'.out.below (by go_grown)) [⟨d - totK l k, sp l k⟩, ⟨th l k - (d - totK l k), sp l k⟩] _ 2 rfl [.int .i64 (d - totK l k), .int .i64 (sp l k), .int .i64 (th l k - (d - totK l k)), .int .i64 (sp l k)] rfl rfl (by intro j u hu; exact app_cell (by simp) hu) (by omega) (by omega) (by simp; omega) ?_; intro v' W4 hO2 hg2 hb2; have kD' := Bk.grown (kW.below (by go_grown)) hg2 (fun e => Nat.lt_irrefl _ (hown _ e).2); have n0 := kD'.2.1 0 _ rfl; clear kD')
              refine ⟨⟨k + 1, by omega, by go_num, vi (by omega), Below.trans (by go_grown) hb2, (by rw [I3.out]; exact hO2 : OutS 2 St.enc w.heap.size 52 W4 v' (splK l d (k + 1)))⟩, by simp [intOf]; omega⟩
            · have I3 := Lib.hid (splK_one hlt (d := d) (fun z => z2 z.2))
              go_wp2_with (at_builtin; refine wp_app (K := 2) (bytes := 16) (enc := St.enc) St.len St.one (by decide) (by decide) _ rfl (.tmp 49) (.tmp 51) _ rfl Try.underlying25 infoStI rfl _ _ rfl (HO'.out.below (by go_grown)) ⟨th l k, sp l k⟩ _ rfl (by intro j u hu; exact app_cell (by simp) hu) (by omega) (by simp; omega) ?_; intro v' W4 hO2 hg2 hb2; have kD' := Bk.grown (kW.below (by go_grown)) hg2 (fun e => Nat.lt_irrefl _ (hown _ e).2); have n0 := kD'.2.1 0 _ rfl; clear kD')
              refine ⟨⟨k + 1, by omega, by go_num, vi (by omega), Below.trans (by go_grown) hb2, (by rw [I3.out]; exact hO2 : OutS 2 St.enc w.heap.size 52 W4 v' (splK l d (k + 1)))⟩, by simp [intOf]; omega⟩
          · have I3 := Lib.hid (splK_one hlt (d := d) (fun z => z1 z.1))
            go_wp2_with (at_builtin; refine wp_app (K := 2) (bytes := 16) (enc := St.enc) St.len St.one (by decide) (by decide) _ rfl (.tmp 49) (.tmp 51) _ rfl Try.underlying25 infoStI rfl _ _ rfl (HO'.out.below (by go_grown)) ⟨th l k, sp l k⟩ _ rfl (by intro j u hu; exact app_cell (by simp) hu) (by omega) (by simp; omega) ?_; intro v' W4 hO2 hg2 hb2; have kD' := Bk.grown (kW.below (by go_grown)) hg2 (fun e => Nat.lt_irrefl _ (hown _ e).2); have n0 := kD'.2.1 0 _ rfl; clear kD')
            refine ⟨⟨k + 1, by omega, by go_num, vi (by omega), Below.trans (by go_grown) hb2, (by rw [I3.out]; exact hO2 : OutS 2 St.enc w.heap.size 52 W4 v' (splK l d (k + 1)))⟩, by simp [intOf]; omega⟩
        · obtain rfl : k = l.length := by omega
          obtain ⟨B, c', hv, _, hs, ho, hbk⟩ := HO.out.sl St.len
          subst hv
          cases g3 : stGood (splK l d l.length) with
          | true =>
            have G3 := Lib.hid g3
            go_wp2_with (fail)
            refine (i6Good _ _ _ _ hs (by omega)).mono ?_; rintro e w3 ⟨rfl, b3⟩; rw [G3.out]
            go_wp2_with (fail)
            go_ret2
            have SB := SB.out
            rw [G3.out] at SB
            rw [spL_yes SB, SB]
            exact ⟨B, c', rfl, bth hb b3, hs.below b3, ho.below b3, fun a ha _ => hbk a ha⟩
          | false =>
            have G3 := Lib.hid g3
            go_wp2_with (fail)
            refine (i6Good _ _ _ _ hs (by omega)).mono ?_; rintro e w3 ⟨rfl, b3⟩; rw [G3.out]
            go_wp2_with (fail)
            go_ret2
            have SB := SB.out
            rw [G3.out] at SB
            rw [spL_no SB, SB]
            exact ⟨_, _, rfl, Fr.nil (bth hb b3)⟩
    | false =>
      have SB := spB_no2 g2
      rw [spL_no SB, SB]
      clear SB
      have qt := tot_def l
      have qb := tot_bd g1
      rw [tot_def] at qb
      have G1 := Lib.hid g1
      have G2 := Lib.hid g2
      go_enter Try.func34, Try.ntmps34
      go_wp2_with (fail)
      refine (i6Good _ _ l _ h hn).mono ?_; rintro e w1 ⟨rfl, b1⟩; rw [G1.out]
      go_wp2_with (fail)
      refine (i6Total _ _ l _ (h.below b1) G1.out).mono ?_; rintro e w2 ⟨rfl, b2⟩; rw [qt]
      have b2' := bth b1 b2
      go_wp2_with (go_at_call 53; refine (implIn _ _ _ _).mono ?_; rintro e w' ⟨rfl, rfl⟩; rw [G2.out])
      go_ret2
      exact ⟨_, _, rfl, Fr.nil b2'⟩
  · have g1' : stGood l = false := by simpa using g1
    have SB := spB_no1 (d := d) g1'
    rw [spL_no SB, SB]
    clear SB
    go_enter Try.func34, Try.ntmps34
    go_wp2_with (fail)
    refine (i6Good _ _ l _ h hn).mono ?_; rintro e w1 ⟨rfl, b1⟩; rw [g1']
    go_wp2_with (fail)
    go_ret2
    exact ⟨_, _, rfl, Fr.nil b1⟩
end Go.Proofs.Ytljpmccnppplgaa
