/- ThinCast of the reference: what it returns. At most 1048576 layers. -/
import Derived.Test.YtfmlfeokdaahmaaW7l
set_option linter.unusedVariables false
set_option linter.unusedSimpArgs false
namespace Go.Proofs.Ytfmlfeokdaahmaa
open Go.RowKit
set_option maxHeartbeats 2000000
set_option maxRecDepth 100000
theorem Bk.belowB {w w' : World} {g B : Nat} {cs : List Value} (h : Bk w g cs) (hg : g < B) (hb : Below B w w') : Bk w' g cs :=
  ⟨Nat.lt_of_lt_of_le h.1 hb.size, fun i v hv => (hb.cell (p := ⟨g, i, none⟩) hg).trans (h.2.1 i v hv), fun i => (hb.frozen (p := ⟨g, i, none⟩) hg).trans (h.2.2 i)⟩
theorem Bk.set {w : World} {g : Nat} {cs : List Value} (h : Bk w g cs) (i : Nat) (u : Value) (hi : i < cs.length) : Bk (w.setCell ⟨g, i, none⟩ u) g (cs.set i u) := by
  have hA := h.ar.put [u] i (by simp; omega)
  refine ⟨hA.1, fun j v hv => ?_, hA.2.2⟩
  show (w.setCells g i [u]).cell? ⟨g, j, none⟩ = some v
  by_cases e : j = i
  · subst e
    have := World.cell?_setCells_in g [u] j w (fun m hm => by
      obtain rfl : m = 0 := by simpa using hm
      rw [Nat.add_zero, h.2.1 j _ (List.getElem?_eq_getElem hi)]; rfl) 0 (by simp)
    rw [Nat.add_zero] at this
    rw [this]
    rw [List.getElem?_set_self hi] at hv
    simpa using hv
  · rw [World.cell?_setCells_out g [u] i w _ (fun _ _ => by show j < i ∨ i + [u].length ≤ j; simp; omega)]
    rw [List.getElem?_set_ne (by omega)] at hv
    exact h.2.1 j v hv
theorem OutS.far {α : Type} {K base e : Nat} {enc : α → List Value} {w : World} {v : Value} {l : List α} (h : OutS K enc base e w v l) {g o : Nat} (hg : g < base) (u : Value) : OutS K enc base e (w.setCell ⟨g, o, none⟩ u) v l := by
  refine ⟨h.1, ?_⟩
  rcases h.2 with h0 | ⟨k, cap, cur, hv, hk, hh, r⟩
  · exact .inl h0
  · exact .inr ⟨k, cap, cur, hv, hk, (Below.heap_setCell w ⟨g, o, none⟩ u k (by show k ≠ g; omega)).trans hh, r⟩
theorem sThin (t : Ct) (A : Option Addr) (c : Nat) (w : World) (h : Sl 2 Ly.enc w A t.lay) (hn : t.lay.length ≤ 1048576) :
    Calls Try.prog 26 #[.agg #[.int .i64 t.id, .int .i64 t.time, .int .i64 t.x, .int .i64 t.y, .slice A t.lay.length c]] w (retC w (thinC t) (ctOk t)) := by
  go_enter Try.func26, Try.ntmps26
  go_wp2_with (fail)
  generalize hW : World.alloc w _ = W1
  obtain ⟨bW, kW, _⟩ := alloc_facts hW
  have eW : W1.heap.size = w.heap.size + 1 := by rw [← hW]; simp
  clear hW
  generalize hW2 : World.alloc W1 _ = W2
  obtain ⟨bW2, kW2, _⟩ := alloc_facts hW2
  clear hW2
  rw [eW] at kW2
  clear eW
  have kW := kW.below bW2
  have bW := bth bW bW2
  refine (s7One t A c _ (h.below bW) hn).mono ?_; rintro e w1 ⟨rfl, b1⟩
  have k1 := kW.below b1
  have j1 := kW2.below b1
  have b1 := bth bW b1
  clear kW kW2 bW bW2
  cases g : ctOk t with
  | false =>
    have E1 := Lib.hid (thin_bad g)
    have GF := Lib.hid g
    clear g
    have m0 := j1.2.1 0 _ rfl
    have m1 := j1.2.1 1 _ rfl
    have m2 := j1.2.1 2 _ rfl
    have m3 := j1.2.1 3 _ rfl
    have m4 := j1.2.1 4 _ rfl
    have f0 := j1.2.2 0
    have f1 := j1.2.2 1
    have f2 := j1.2.2 2
    have f3 := j1.2.2 3
    have f4 := j1.2.2 4
    have hz := j1.1
    clear k1
    go_wp2
    have P := (j1.put [.int .i64 0, .int .i64 0, .int .i64 0, .int .i64 0, .slice none 0 0] rfl)
    have B := bset b1 (show w.heap.size ≤ w.heap.size + 1 by omega) [.int .i64 0, .int .i64 0, .int .i64 0, .int .i64 0, .slice none 0 0] 0
    simp only [World.setCells, Nat.zero_add] at P B
    have p0 := P.2.1 0 _ rfl
    have p1 := P.2.1 1 _ rfl
    have p2 := P.2.1 2 _ rfl
    have p3 := P.2.1 3 _ rfl
    have p4 := P.2.1 4 _ rfl
    refine bodyPost_ret (v := .tuple #[.agg #[.int .i64 0, .int .i64 0, .int .i64 0, .int .i64 0, .slice none 0 0], .bool false]) (by simp [results, Try.results26, go_sem, p0, p1, p2, p3, p4]) rfl ?_
    rw [E1.out, GF.out]
    exact ⟨none, 0, rfl, Fr.nil B⟩
  | true =>
    have E1 := Lib.hid (thin_good g)
    have GF := Lib.hid g
    have h8 := (ctOk_bd g).2.2.2.2.2.2.1
    have h := h.below b1
    have KT := Lib.hid (show ∀ W', Below w1.heap.size w1 W' → Bk W' w.heap.size [.int .i64 t.id, .int .i64 t.time, .int .i64 t.x, .int .i64 t.y, .slice A t.lay.length c] ∧ Bk W' (w.heap.size + 1) [.int .i64 0, .int .i64 0, .int .i64 0, .int .i64 0, .slice none 0 0] from fun W' hw => ⟨k1.below hw, j1.below hw⟩)
    have a0 := k1.2.1 0 _ rfl
    have a1 := k1.2.1 1 _ rfl
    have a2 := k1.2.1 2 _ rfl
    have a3 := k1.2.1 3 _ rfl
    have a4 := k1.2.1 4 _ rfl
    have hz := k1.1
    have hz1 := j1.1
    clear g k1 j1
    go_wp2
    go_loopw [5] (fun i wr => ∃ (k : Nat) (v : Value), k ≤ t.lay.length ∧ i = .int .i64 k ∧ Below w1.heap.size w1 wr ∧ Bk wr w1.heap.size [.int .i64 t.id, .int .i64 t.time, .int .i64 t.x, .int .i64 t.y, v] ∧ Hid (OutS 2 Ly.enc (w1.heap.size + 1) 76 wr v (thnK t.lay k))) (fun i _ => t.lay.length - (intOf i).toNat)
    case atStart => exact ⟨0, .slice none 0 0, Nat.zero_le _, rfl, below_alloc _ _, Bk.new _ _ _, (OutS.nil : OutS 2 Ly.enc (w1.heap.size + 1) 76 _ _ (thnK t.lay 0))⟩
    case round =>
      clear a0 a1 a2 a3 a4 hz
      obtain ⟨k, v, hk, rfl, hb, hK, HO⟩ := hrel
      have hl := thnK_len t.lay k
      have kr := (KT.out _ hb).1
      have hC := aft_cell kr.1
      have r4 := kr.2.1 4 _ rfl
      by_cases hlt : k < t.lay.length
      · obtain ⟨b, off, rfl⟩ := h.addr (by omega)
        obtain ⟨hbl, c0, c1⟩ := Ly.get (h.below hb) hlt
        have hA := aft_cell hbl
        have u1 : (0 : Int) ≤ (k : Int) := by omega
        have u2 : (k : Int) < (t.lay.length : Int) := by omega
        clear kr
        by_cases hz : k = 0
        · subst hz
          have HN := Lib.hid (thnK_yes (l := t.lay) (k := 0) rfl hlt)
          go_wp2_with (fail)
          refine wp_region_aft (by kernel_rfl) (by kernel_rfl) ?_
          repeat (go_big_quiet_step ((fail)))
          refine wpQuiet_nil ?_
          intro w9 b9
          have KB := KT.out _ (bth hb b9)
          have s4 := KB.1.2.1 4 _ rfl
          have sz := KB.1.1
          have hK9 := hK.below b9
          have q4 := hK9.2.1 4 _ rfl
          have qf := hK9.2.2 4
          have qz := hK9.1
          have HO2 := Lib.hid (HO.out.below b9)
          obtain ⟨hbl9, c0, c1⟩ := Ly.get (h.below (bth hb b9)) hlt
          simp only [Nat.zero_mul, Nat.add_zero] at c0 c1
          clear KB r4 hA hC
          go_wp2
          go_region_law (refine step_app (K := 2) (bytes := 16) (enc := Ly.enc) Ly.len Ly.one (by decide) (by decide) _ rfl (.tmp 43) (.tmp 49) _ rfl Try.underlying30 infoLy rfl _ (thnK t.lay 0) rfl (HO2.out.below (by go_grown)) t.lay[0] _ rfl (by intro j u hu; exact app_cell (by simp) hu) (by omega) (by simp; omega) ?_; intro v' W4 hO2 hg2 hb4'; obtain ⟨B4, c4', hv4, _⟩ := hO2.sl Ly.len; subst hv4; have hO2 := Lib.hid hO2; have BK4 := (hK9.below (by go_grown)).belowB (Nat.lt_succ_self _) hb4'; have BB4 := Lib.hid ((bth (bth hb b9) (by go_grown)).trans (hb4'.mono (Nat.le_succ _))); have x4 := BK4.2.1 4 _ rfl; have xf := BK4.2.2 4; have BK4 := Lib.hid BK4)
          all_goals
            go_wp2
            refine ⟨⟨0 + 1, _, by omega, by go_num, BB4.out.setCell (Nat.le_refl _) _, by simpa using BK4.out.set 4 _ (by simp), ?_⟩, by simp [intOf]; omega⟩
            rw [HN.out]
            have := hO2.out
            rw [List.length_append] at this
            exact Lib.hid (this.far (Nat.lt_succ_self _) _)
        · obtain ⟨m, hm⟩ : ∃ m, k = m + 1 := ⟨k - 1, by omega⟩
          have hml : m < t.lay.length := by omega
          obtain ⟨_, _, d1⟩ := Ly.get (h.below hb) hml
          have t0 : 0 < k := by omega
          have t2 : (0 : Int) ≤ (k : Int) - 1 := by omega
          have t3 : (k : Int) - 1 < (t.lay.length : Int) := by omega
          have t4 : ((k : Int) - 1).toNat = m := by omega
          have t5 : ((k : Int) == 0) = false := by rw [beq_eq_false_iff_ne]; omega
          have HKP := Lib.hid (show keeps t.lay k = !(t.lay[m].spd == t.lay[k].spd) by subst hm; rw [keeps, lyi_of hml, lyi_of hlt])
          clear hz hm
          by_cases hq : t.lay[m].spd = t.lay[k].spd
          · have HN := Lib.hid (thnK_no (l := t.lay) (k := k) (by rw [HKP.out, hq]; simp))
            rw [hq] at d1
            clear hq
            go_wp2_with (fail)
            refine wp_region_aft (by kernel_rfl) (by kernel_rfl) ?_
            repeat (go_big_quiet_step ((fail)))
            refine wpQuiet_nil ?_
            intro w9 b9
            go_wp2
            go_roundw
            case rel => exact ⟨k + 1, v, by omega, by go_num, bth hb b9, hK.below b9, (by rw [HN.out]; exact HO.out.below b9 : OutS 2 Ly.enc (w1.heap.size + 1) 76 w9 _ (thnK t.lay (k + 1)))⟩
            case measure => simp [intOf]; omega
          · have hq' : (t.lay[m].spd == t.lay[k].spd) = false := by rw [beq_eq_false_iff_ne]; exact hq
            have HN := Lib.hid (thnK_yes (l := t.lay) (k := k) (by rw [HKP.out, hq']; rfl) hlt)
            go_wp2_with (fail)
            refine wp_region_aft (by kernel_rfl) (by kernel_rfl) ?_
            repeat (go_big_quiet_step ((fail)))
            refine wpQuiet_nil ?_
            intro w9 b9
            clear hq t2 t3 t4 t5 d1
            have KB := KT.out _ (bth hb b9)
            have s4 := KB.1.2.1 4 _ rfl
            have sz := KB.1.1
            have hK9 := hK.below b9
            have q4 := hK9.2.1 4 _ rfl
            have qf := hK9.2.2 4
            have qz := hK9.1
            have HO2 := Lib.hid (HO.out.below b9)
            obtain ⟨hbl9, c0, c1⟩ := Ly.get (h.below (bth hb b9)) hlt
            skip
            clear KB r4 hA hC
            go_wp2
            go_region_law (refine step_app (K := 2) (bytes := 16) (enc := Ly.enc) Ly.len Ly.one (by decide) (by decide) _ rfl (.tmp 43) (.tmp 49) _ rfl Try.underlying30 infoLy rfl _ (thnK t.lay k) rfl (HO2.out.below (by go_grown)) t.lay[k] _ rfl (by intro j u hu; exact app_cell (by simp) hu) (by omega) (by simp; omega) ?_; intro v' W4 hO2 hg2 hb4'; obtain ⟨B4, c4', hv4, _⟩ := hO2.sl Ly.len; subst hv4; have hO2 := Lib.hid hO2; have BK4 := (hK9.below (by go_grown)).belowB (Nat.lt_succ_self _) hb4'; have BB4 := Lib.hid ((bth (bth hb b9) (by go_grown)).trans (hb4'.mono (Nat.le_succ _))); have x4 := BK4.2.1 4 _ rfl; have xf := BK4.2.2 4; have BK4 := Lib.hid BK4)
            all_goals
              go_wp2
              refine ⟨⟨k + 1, _, by omega, by go_num, BB4.out.setCell (Nat.le_refl _) _, by simpa using BK4.out.set 4 _ (by simp), ?_⟩, by simp [intOf]; omega⟩
              rw [HN.out]
              have := hO2.out
              rw [List.length_append] at this
              exact Lib.hid (this.far (Nat.lt_succ_self _) _)
      · obtain rfl : k = t.lay.length := by omega
        obtain ⟨B, c', hv, _, hs, ho, hbk⟩ := HO.out.sl Ly.len
        subst hv
        obtain ⟨_, jr⟩ := KT.out _ hb
        have a0 := hK.2.1 0 _ rfl
        have a1 := hK.2.1 1 _ rfl
        have a2 := hK.2.1 2 _ rfl
        have a3 := hK.2.1 3 _ rfl
        have a4 := hK.2.1 4 _ rfl
        have hkz := hK.1
        have m0 := jr.2.1 0 _ rfl
        have m1 := jr.2.1 1 _ rfl
        have m2 := jr.2.1 2 _ rfl
        have m3 := jr.2.1 3 _ rfl
        have m4 := jr.2.1 4 _ rfl
        have g0 := jr.2.2 0
        have g1 := jr.2.2 1
        have g2 := jr.2.2 2
        have g3 := jr.2.2 3
        have g4 := jr.2.2 4
        clear kr hC
        go_wp2
        have P := jr.put [.int .i64 t.id, .int .i64 t.time, .int .i64 t.x, .int .i64 t.y, .slice B (thnK t.lay t.lay.length).length c'] rfl
        have hd2 : ∀ a, B = some a → a.block ≠ w.heap.size + 1 := fun a ha => by have := hbk a ha; omega
        have hs := hs.far hd2 [.int .i64 t.id, .int .i64 t.time, .int .i64 t.x, .int .i64 t.y, .slice B (thnK t.lay t.lay.length).length c'] 0
        have ho := ho.only ((OnlyN.refl (some ⟨w.heap.size + 1, 0, none⟩) 1 _).put (by omega) [.int .i64 t.id, .int .i64 t.time, .int .i64 t.x, .int .i64 t.y, .slice B (thnK t.lay t.lay.length).length c'] 0) (fun _ _ a a' ha ha' e => by cases ha; exact hd2 a' ha' e.symm)
        have Bl := bset (bth b1 hb) (show w.heap.size ≤ w.heap.size + 1 by omega) [.int .i64 t.id, .int .i64 t.time, .int .i64 t.x, .int .i64 t.y, .slice B (thnK t.lay t.lay.length).length c'] 0
        simp only [World.setCells, Nat.zero_add, Nat.reduceAdd] at P hs ho Bl
        have p0 := P.2.1 0 _ rfl
        have p1 := P.2.1 1 _ rfl
        have p2 := P.2.1 2 _ rfl
        have p3 := P.2.1 3 _ rfl
        have p4 := P.2.1 4 _ rfl
        refine bodyPost_ret (v := .tuple #[.agg #[.int .i64 t.id, .int .i64 t.time, .int .i64 t.x, .int .i64 t.y, .slice B (thnK t.lay t.lay.length).length c'], .bool true]) (by simp [results, Try.results26, go_sem, p0, p1, p2, p3, p4]) rfl ?_
        rw [E1.out, GF.out]
        exact ⟨B, c', rfl, Bl, hs, ho, fun a ha _ => by have := hbk a ha; omega⟩
end Go.Proofs.Ytfmlfeokdaahmaa
