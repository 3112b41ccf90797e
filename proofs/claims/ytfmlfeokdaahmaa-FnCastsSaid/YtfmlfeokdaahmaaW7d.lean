/- Thicknesses and travel of a cast by the program; TravelTo of both texts. Valid casts; depths 0..20001. -/
import Derived.Test.YtfmlfeokdaahmaaW7c
set_option linter.unusedVariables false
set_option linter.unusedSimpArgs false
namespace Go.Proofs.Ytfmlfeokdaahmaa
open Go.RowKit
set_option maxHeartbeats 2000000
set_option maxRecDepth 100000
theorem Bk.lowB {w w' : World} {g B : Nat} {cs : List Value} (h : Bk w g cs) (hlt : g < B) (hw : Below B w w') : Bk w' g cs :=
  ⟨Nat.lt_of_lt_of_le h.1 hw.size, fun i v hv => (hw.cell (p := ⟨g, i, none⟩) hlt).trans (h.2.1 i v hv), fun i => (hw.frozen (p := ⟨g, i, none⟩) hlt).trans (h.2.2 i)⟩
theorem i7Thick (t : Ct) (A : Option Addr) (c : Nat) (d : Int) (w : World) (h : Sl 2 Ly.enc w A t.lay) (hg : lyGood t.lay = true) (hn : t.lay.length ≤ 8) (hd : 0 ≤ d) (hd2 : d ≤ 20001) :
    Calls Try.prog 77 #[.agg #[.int .i64 t.id, .int .i64 t.time, .int .i64 t.x, .int .i64 t.y, .slice A t.lay.length c], .int .i64 d] w (retS 1 encI w (thkL t.lay d)) := by
  have G := Lib.hid hg
  have TL := Lib.hid (thkL_len t.lay d)
  clear hg
  go_enter Try.func77, Try.ntmps77
  go_wp2_with (fail)
  generalize hW : World.alloc w _ = W1
  obtain ⟨bW, kW, _⟩ := alloc_facts hW
  have eW : W1.heap.size = w.heap.size + 1 := by rw [← hW]; simp
  clear hW
  generalize hW2 : World.alloc W1 _ = W2
  have hO : OutS 1 encI (w.heap.size + 1) 3 W2 (.slice (some ⟨w.heap.size + 1, 0, none⟩) 0 0) ([] : List Int) := by rw [← hW2, ← eW]; exact OutS.empty (Nat.le_refl _)
  have bW2 : Below (w.heap.size + 1) W1 W2 := by rw [← hW2, ← eW]; exact below_alloc _ _
  clear hW2
  have K1 := Lib.hid (show ∀ W', Below (w.heap.size + 1) W1 W' → Bk W' w.heap.size [.int .i64 t.id, .int .i64 t.time, .int .i64 t.x, .int .i64 t.y, .slice A t.lay.length c] from fun W' hw => kW.lowB (Nat.lt_succ_self _) hw)
  have sz1 : w.heap.size + 1 ≤ W1.heap.size := by omega
  have b2 : Below w.heap.size w W2 := bW.trans (bW2.mono (Nat.le_succ _))
  clear kW eW
  go_loopw [5, 13] (fun v i wr => ∃ k : Nat, k ≤ t.lay.length ∧ i = .int .i64 k ∧ Below (w.heap.size + 1) W1 wr ∧ Hid (OutS 1 encI (w.heap.size + 1) 3 wr v ((thkL t.lay d).take k))) (fun _ i _ => t.lay.length - (intOf i).toNat)
  case atStart => exact ⟨0, Nat.zero_le _, rfl, bW2, hO⟩
  case round =>
    obtain ⟨k, hk, rfl, hb, HO⟩ := hrel
    have hbw := bW.trans (hb.mono (Nat.le_succ _))
    have kr := K1.out _ hb
    have r4 := kr.2.1 4 _ rfl
    have hlr := kr.1
    have hsz := Nat.le_trans sz1 hb.size
    clear kr
    by_cases hlt : k < t.lay.length
    · obtain ⟨b, off, rfl⟩ := h.addr (by omega)
      obtain ⟨hbl, c0, c1⟩ := Ly.get (h.below hbw) hlt
      have bk := lyAt_bd hlt (lyGood_at G.out hlt)
      have HT := Lib.hid (thkL_step (d := d) hlt)
      by_cases h1 : k + 1 < t.lay.length
      · obtain ⟨_, d0, _⟩ := Ly.get (h.below hbw) h1
        have bk1 := lyAt_bd h1 (lyGood_at G.out h1)
        have v1 : (k : Int) + 1 < (t.lay.length : Int) := by omega
        have v2 : ((k : Int) + 1).toNat = k + 1 := by omega
        have v3 : (0 : Int) ≤ (k : Int) + 1 := by omega
        have HV := Lib.hid (thk_more (d := d) h1)
        by_cases z1 : t.lay[k + 1].dep < d
        · by_cases z2 : t.lay[k + 1].dep - t.lay[k].dep < 0
          · have e : thk t.lay d k = 0 := by rw [HV.out]; omega
            rw [e] at HT
            clear HV e
            go_wp2_with (at_builtin; refine wp_app (K := 1) (bytes := 8) (enc := encI) encI_len encI_one (by decide) (by decide) _ rfl (.tmp 34) (.tmp 40) _ rfl Try.underlying86 infoI rfl _ _ rfl (HO.out.below (by go_grown)) (0) _ rfl (by intro j u hu; exact app_cell (by simp) hu) (by rw [List.length_take]; omega) (by simp; omega) ?_; intro v' W4 hO2 hg2 hb2)
            refine ⟨⟨k + 1, by omega, by go_num, hb.trans (Below.trans (by go_grown) hb2), (by rw [HT.out]; exact hO2 : OutS 1 encI (w.heap.size + 1) 3 W4 v' ((thkL t.lay d).take (k + 1)))⟩, by simp [intOf]; omega⟩
          · have e : thk t.lay d k = t.lay[k + 1].dep - t.lay[k].dep := by rw [HV.out]; omega
            rw [e] at HT
            clear HV e
            go_wp2_with (at_builtin; refine wp_app (K := 1) (bytes := 8) (enc := encI) encI_len encI_one (by decide) (by decide) _ rfl (.tmp 34) (.tmp 40) _ rfl Try.underlying86 infoI rfl _ _ rfl (HO.out.below (by go_grown)) (t.lay[k + 1].dep - t.lay[k].dep) _ rfl (by intro j u hu; exact app_cell (by simp) hu) (by rw [List.length_take]; omega) (by simp; omega) ?_; intro v' W4 hO2 hg2 hb2)
            refine ⟨⟨k + 1, by omega, by go_num, hb.trans (Below.trans (by go_grown) hb2), (by rw [HT.out]; exact hO2 : OutS 1 encI (w.heap.size + 1) 3 W4 v' ((thkL t.lay d).take (k + 1)))⟩, by simp [intOf]; omega⟩
        · by_cases z2 : d - t.lay[k].dep < 0
          · have e : thk t.lay d k = 0 := by rw [HV.out]; omega
            rw [e] at HT
            clear HV e
            go_wp2_with (at_builtin; refine wp_app (K := 1) (bytes := 8) (enc := encI) encI_len encI_one (by decide) (by decide) _ rfl (.tmp 34) (.tmp 40) _ rfl Try.underlying86 infoI rfl _ _ rfl (HO.out.below (by go_grown)) (0) _ rfl (by intro j u hu; exact app_cell (by simp) hu) (by rw [List.length_take]; omega) (by simp; omega) ?_; intro v' W4 hO2 hg2 hb2)
            refine ⟨⟨k + 1, by omega, by go_num, hb.trans (Below.trans (by go_grown) hb2), (by rw [HT.out]; exact hO2 : OutS 1 encI (w.heap.size + 1) 3 W4 v' ((thkL t.lay d).take (k + 1)))⟩, by simp [intOf]; omega⟩
          · have e : thk t.lay d k = d - t.lay[k].dep := by rw [HV.out]; omega
            rw [e] at HT
            clear HV e
            go_wp2_with (at_builtin; refine wp_app (K := 1) (bytes := 8) (enc := encI) encI_len encI_one (by decide) (by decide) _ rfl (.tmp 34) (.tmp 40) _ rfl Try.underlying86 infoI rfl _ _ rfl (HO.out.below (by go_grown)) (d - t.lay[k].dep) _ rfl (by intro j u hu; exact app_cell (by simp) hu) (by rw [List.length_take]; omega) (by simp; omega) ?_; intro v' W4 hO2 hg2 hb2)
            refine ⟨⟨k + 1, by omega, by go_num, hb.trans (Below.trans (by go_grown) hb2), (by rw [HT.out]; exact hO2 : OutS 1 encI (w.heap.size + 1) 3 W4 v' ((thkL t.lay d).take (k + 1)))⟩, by simp [intOf]; omega⟩
      · have v1 : ¬ (k : Int) + 1 < (t.lay.length : Int) := by omega
        have HV := Lib.hid (thk_last (d := d) hlt h1)
        by_cases z2 : d - t.lay[k].dep < 0
        · have e : thk t.lay d k = 0 := by rw [HV.out]; omega
          rw [e] at HT
          clear HV e
          go_wp2_with (at_builtin; refine wp_app (K := 1) (bytes := 8) (enc := encI) encI_len encI_one (by decide) (by decide) _ rfl (.tmp 34) (.tmp 40) _ rfl Try.underlying86 infoI rfl _ _ rfl (HO.out.below (by go_grown)) (0) _ rfl (by intro j u hu; exact app_cell (by simp) hu) (by rw [List.length_take]; omega) (by simp; omega) ?_; intro v' W4 hO2 hg2 hb2)
          refine ⟨⟨k + 1, by omega, by go_num, hb.trans (Below.trans (by go_grown) hb2), (by rw [HT.out]; exact hO2 : OutS 1 encI (w.heap.size + 1) 3 W4 v' ((thkL t.lay d).take (k + 1)))⟩, by simp [intOf]; omega⟩
        · have e : thk t.lay d k = d - t.lay[k].dep := by rw [HV.out]; omega
          rw [e] at HT
          clear HV e
          go_wp2_with (at_builtin; refine wp_app (K := 1) (bytes := 8) (enc := encI) encI_len encI_one (by decide) (by decide) _ rfl (.tmp 34) (.tmp 40) _ rfl Try.underlying86 infoI rfl _ _ rfl (HO.out.below (by go_grown)) (d - t.lay[k].dep) _ rfl (by intro j u hu; exact app_cell (by simp) hu) (by rw [List.length_take]; omega) (by simp; omega) ?_; intro v' W4 hO2 hg2 hb2)
          refine ⟨⟨k + 1, by omega, by go_num, hb.trans (Below.trans (by go_grown) hb2), (by rw [HT.out]; exact hO2 : OutS 1 encI (w.heap.size + 1) 3 W4 v' ((thkL t.lay d).take (k + 1)))⟩, by simp [intOf]; omega⟩
    · obtain rfl : k = t.lay.length := by omega
      have HO2 := HO.out
      rw [List.take_of_length_le (by rw [TL.out]; omega)] at HO2
      obtain ⟨B, c', hv, _, hs, ho, hbk⟩ := HO2.sl encI_len
      subst hv
      go_wp2
      go_ret
      exact ⟨B, c', rfl, hbw, hs, ho, fun a ha _ => Nat.le_trans (Nat.le_succ _) (hbk a ha)⟩
theorem i7Travel (t : Ct) (A : Option Addr) (c : Nat) (d : Int) (w : World) (h : Sl 2 Ly.enc w A t.lay) (hg : lyGood t.lay = true) (hn : t.lay.length ≤ 8) (hd : 0 ≤ d) (hd2 : d ≤ 20001) :
    Calls Try.prog 69 #[.agg #[.int .i64 t.id, .int .i64 t.time, .int .i64 t.x, .int .i64 t.y, .slice A t.lay.length c], .int .i64 d] w fun e w' => e = .returned (.int .i64 (trvK t.lay d t.lay.length)) ∧ Below w.heap.size w w' := by
  have G := Lib.hid hg
  have TL := Lib.hid (thkL_len t.lay d)
  go_enter Try.func69, Try.ntmps69
  go_wp2_with (fail)
  generalize hW : World.alloc w _ = W1
  obtain ⟨bW, kW, _⟩ := alloc_facts hW
  clear hW
  refine (i7Thick t A c d _ (h.below bW) hg hn hd hd2).mono ?_; rintro e w2 ⟨A2, c2, rfl, f2⟩
  rw [TL.out]
  have k2 := kW.below f2.1
  have hb := bth bW f2.1
  have hs := h.below hb
  have f2s := f2.2.1
  have r4 := k2.2.1 4 _ rfl
  clear hg k2 kW f2 h
  go_wp2
  go_loop [5, 12] (fun s i => ∃ k : Nat, k ≤ t.lay.length ∧ i = .int .i64 k ∧ s = .int .i64 (trvK t.lay d k)) (fun _ i => t.lay.length - (intOf i).toNat)
  case atStart => exact ⟨0, Nat.zero_le _, rfl, rfl⟩
  case round =>
    obtain ⟨k, hk, rfl, rfl⟩ := hrel
    by_cases hlt : k < t.lay.length
    · obtain ⟨b, off, rfl⟩ := hs.addr (by omega)
      obtain ⟨hbl, c0, c1⟩ := Ly.get hs hlt
      have hlt2 : k < (thkL t.lay d).length := by rw [TL.out]; exact hlt
      obtain ⟨b2, off2, rfl⟩ := f2s.addr (by omega)
      obtain ⟨hbl2, e0⟩ := getI f2s hlt2
      rw [thkL_get] at e0
      have bk := lyAt_bd hlt (lyGood_at G.out hlt)
      have T1 := thk_bd hd hd2 G.out hlt
      have T2 := trvK_bd hd hd2 G.out k (by omega)
      have T3 := div_bd (x := thk t.lay d k * 100000) (s := t.lay[k].spd) (by omega) (by omega) (by omega)
      have HN := Lib.hid (show trvK t.lay d (k + 1) = trvK t.lay d k + thk t.lay d k * 100000 / t.lay[k].spd by rw [trvK, lyi_of hlt])
      have w5 : (t.lay[k].spd == 0) = false := by rw [beq_eq_false_iff_ne]; omega
      have w6 : t.lay[k].spd ≠ 0 := by omega
      clear hlt2
      go_wp2
      go_round
      case rel => exact ⟨k + 1, by omega, by go_num, vi HN.out.symm⟩
      case measure => simp [intOf]; omega
    · obtain rfl : k = t.lay.length := by omega
      go_wp2
      go_ret
      exact ⟨rfl, hb⟩
@[irreducible] def ttV (t : Ct) (d : Int) : Int := if saOk t d then trvK t.lay d t.lay.length else 0
theorem tt_bad {t : Ct} {d : Int} (h : saOk t d = false) : ttV t d = 0 := by unfold ttV; simp [h]
theorem tt_good {t : Ct} {d : Int} (h : saOk t d = true) : ttV t d = trvK t.lay d t.lay.length := by unfold ttV; simp [h]
theorem saOk_bd {t : Ct} {d : Int} (h : saOk t d = true) : ctOk t = true ∧ 0 ≤ d ∧ d ≤ 20000 := by
  rw [saOk_def, Bool.and_eq_true, inB_true] at h; exact h
theorem iTravel (t : Ct) (A : Option Addr) (c : Nat) (d : Int) (w : World) (h : Sl 2 Ly.enc w A t.lay) (hn : t.lay.length ≤ 1048576) :
    Calls Try.prog 25 #[.agg #[.int .i64 t.id, .int .i64 t.time, .int .i64 t.x, .int .i64 t.y, .slice A t.lay.length c], .int .i64 d] w fun e w' => e = .returned (.tuple #[.int .i64 (ttV t d), .bool (saOk t d)]) ∧ Below w.heap.size w w' := by
  go_enter Try.func25, Try.ntmps25
  go_wp2_with (fail)
  generalize hW : World.alloc w _ = W1
  obtain ⟨bW, kW, _⟩ := alloc_facts hW
  clear hW
  refine (i7Is t A c d _ (h.below bW) hn).mono ?_; rintro e w1 ⟨rfl, b1⟩
  have k1 := kW.below b1
  have b1 := bth bW b1
  cases g : saOk t d with
  | false =>
    have E := Lib.hid (tt_bad g)
    have G := Lib.hid g
    clear g
    go_wp2
    go_ret2
    exact ⟨ret_t2 (vi E.out.symm) (vb G.out.symm), b1⟩
  | true =>
    have E := Lib.hid (tt_good g)
    have G := Lib.hid g
    have q := saOk_bd g
    have q1 := ctOk_bd q.1
    clear g
    have n0 := k1.2.1 0 _ rfl
    have n1 := k1.2.1 1 _ rfl
    have n2 := k1.2.1 2 _ rfl
    have n3 := k1.2.1 3 _ rfl
    have n4 := k1.2.1 4 _ rfl
    have QG := Lib.hid q1.2.2.2.2.2.2.2
    have q8 := q1.2.2.2.2.2.2.1
    have qd := q.2
    clear q q1
    go_wp2_with (fail)
    refine (i7Travel t A c d _ (h.below b1) QG.out q8 qd.1 (by omega)).mono ?_; rintro e w2 ⟨rfl, b2⟩
    go_wp2_with (fail)
    go_ret2
    exact ⟨ret_t2 (vi E.out.symm) (vb G.out.symm), bth b1 b2⟩
theorem sTravel (t : Ct) (A : Option Addr) (c : Nat) (d : Int) (w : World) (h : Sl 2 Ly.enc w A t.lay) (hn : t.lay.length ≤ 1048576) :
    Calls Try.prog 24 #[.agg #[.int .i64 t.id, .int .i64 t.time, .int .i64 t.x, .int .i64 t.y, .slice A t.lay.length c], .int .i64 d] w fun e w' => e = .returned (.tuple #[.int .i64 (ttV t d), .bool (saOk t d)]) ∧ Below w.heap.size w w' := by
  go_enter Try.func24, Try.ntmps24
  go_wp2_with (fail)
  generalize hW : World.alloc w _ = W1
  obtain ⟨bW, kW, _⟩ := alloc_facts hW
  clear hW
  refine (s7One t A c _ (h.below bW) hn).mono ?_; rintro e w1 ⟨rfl, b1⟩
  have k1 := kW.below b1
  have b1 := bth bW b1
  have n0 := k1.2.1 0 _ rfl
  have n1 := k1.2.1 1 _ rfl
  have n2 := k1.2.1 2 _ rfl
  have n3 := k1.2.1 3 _ rfl
  have n4 := k1.2.1 4 _ rfl
  have D := saOk_def t d
  cases g : ctOk t with
  | false =>
    rw [g, Bool.false_and] at D
    have E := Lib.hid (tt_bad D)
    have G := Lib.hid D
    clear D g
    go_wp2
    go_ret2
    exact ⟨ret_t2 (vi E.out.symm) (vb G.out.symm), b1⟩
  | true =>
    have q1 := ctOk_bd g
    have QG := Lib.hid q1.2.2.2.2.2.2.2
    have q8 := q1.2.2.2.2.2.2.1
    rw [g, Bool.true_and] at D
    clear g q1
    cases g2 : inB d 0 20000 with
    | false =>
      rw [g2] at D
      have E := Lib.hid (tt_bad D)
      have G := Lib.hid D
      have G2 := Lib.hid g2
      clear D g2
      go_wp2_with (go_at_call 62; refine (specDp _ _).mono ?_; rintro e w' ⟨rfl, rfl⟩; rw [G2.out])
      go_ret2
      exact ⟨ret_t2 (vi E.out.symm) (vb G.out.symm), b1⟩
    | true =>
      rw [g2] at D
      have E := Lib.hid (tt_good D)
      have G := Lib.hid D
      have G2 := Lib.hid g2
      have qd := inB_true.1 g2
      clear D g2
      go_wp2_with (go_at_call 62; refine (specDp _ _).mono ?_; rintro e w' ⟨rfl, rfl⟩; rw [G2.out])
      refine (s7Travel t A c d _ (h.below b1) QG.out q8 qd.1 (by omega)).mono ?_; rintro e w2 ⟨rfl, b2⟩
      go_wp2_with (fail)
      go_ret2
      exact ⟨ret_t2 (vi E.out.symm) (vb G.out.symm), bth b1 b2⟩
end Go.Proofs.Ytfmlfeokdaahmaa
