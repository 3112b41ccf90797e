/- ThinCast of the program: what it returns. At most 1048576 layers. -/
import Derived.Test.YtfmlfeokdaahmaaW7f
import Derived.Test.YtfmlfeokdaahmaaP7g
import Derived.Test.YtfmlfeokdaahmaaOut2
set_option linter.unusedVariables false
set_option linter.unusedSimpArgs false
namespace Go.Proofs.Ytfmlfeokdaahmaa
open Go.RowKit
set_option maxHeartbeats 2000000
set_option maxRecDepth 100000
/-- A returned cast of new layers, and a bool. -/
def retC (w : World) (X : Ct) (b : Bool) (e : Ending) (w' : World) : Prop :=
  ∃ A c, e = .returned (.tuple #[.agg #[.int .i64 X.id, .int .i64 X.time, .int .i64 X.x, .int .i64 X.y, .slice A X.lay.length c], .bool b]) ∧ Fr 2 Ly.enc w w' A X.lay
theorem iThin (t : Ct) (A : Option Addr) (c : Nat) (w : World) (h : Sl 2 Ly.enc w A t.lay) (hn : t.lay.length ≤ 1048576) :
    Calls Try.prog 27 #[.agg #[.int .i64 t.id, .int .i64 t.time, .int .i64 t.x, .int .i64 t.y, .slice A t.lay.length c]] w (retC w (thinC t) (ctOk t)) := by
  go_enter Try.func27, Try.ntmps27
  go_wp2_with (fail)
  generalize hW : World.alloc w _ = W1
  obtain ⟨bW, kW, _⟩ := alloc_facts hW
  have eW : W1.heap.size = w.heap.size + 1 := by rw [← hW]; simp
  clear hW
  generalize hW2 : World.alloc W1 _ = W2
  obtain ⟨bW2, kW2, _⟩ := alloc_facts hW2
  clear hW2
  rw [eW] at kW2
  clear eW
  have kW := kW.below bW2
  have bW := bth bW bW2
  refine (i7One t A c _ (h.below bW) hn).mono ?_; rintro e w1 ⟨rfl, b1⟩
  have k1 := kW.below b1
  have j1 := kW2.below b1
  have b1 := bth bW b1
  clear kW kW2 bW bW2
  cases g : ctOk t with
  | false =>
    have E1 := Lib.hid (thin_bad g)
    have GF := Lib.hid g
    clear g
    have m0 := j1.2.1 0 _ rfl
    have m1 := j1.2.1 1 _ rfl
    have m2 := j1.2.1 2 _ rfl
    have m3 := j1.2.1 3 _ rfl
    have m4 := j1.2.1 4 _ rfl
    have f0 := j1.2.2 0
    have f1 := j1.2.2 1
    have f2 := j1.2.2 2
    have f3 := j1.2.2 3
    have f4 := j1.2.2 4
    have hz := j1.1
    clear k1
    go_wp2
    have P := (j1.put [.int .i64 0, .int .i64 0, .int .i64 0, .int .i64 0, .slice none 0 0] rfl)
    have B := bset b1 (show w.heap.size ≤ w.heap.size + 1 by omega) [.int .i64 0, .int .i64 0, .int .i64 0, .int .i64 0, .slice none 0 0] 0
    simp only [World.setCells, Nat.zero_add] at P B
    have p0 := P.2.1 0 _ rfl
    have p1 := P.2.1 1 _ rfl
    have p2 := P.2.1 2 _ rfl
    have p3 := P.2.1 3 _ rfl
    have p4 := P.2.1 4 _ rfl
    refine bodyPost_ret (v := .tuple #[.agg #[.int .i64 0, .int .i64 0, .int .i64 0, .int .i64 0, .slice none 0 0], .bool false]) (by simp [results, Try.results27, go_sem, p0, p1, p2, p3, p4]) rfl ?_
    rw [E1.out, GF.out]
    exact ⟨none, 0, rfl, Fr.nil B⟩
  | true =>
    have E1 := Lib.hid (thin_good g)
    have GF := Lib.hid g
    have h8 := (ctOk_bd g).2.2.2.2.2.2.1
    have h := h.below b1
    have KT := Lib.hid (show ∀ W', Below w1.heap.size w1 W' → Bk W' w.heap.size [.int .i64 t.id, .int .i64 t.time, .int .i64 t.x, .int .i64 t.y, .slice A t.lay.length c] ∧ Bk W' (w.heap.size + 1) [.int .i64 0, .int .i64 0, .int .i64 0, .int .i64 0, .slice none 0 0] from fun W' hw => ⟨k1.below hw, j1.below hw⟩)
    have a4 := k1.2.1 4 _ rfl
    have hz := k1.1
    have hz1 := j1.1
    clear g k1 j1
    go_wp2
    go_loopw [4, 15] (fun v i wr => ∃ k : Nat, k ≤ t.lay.length ∧ i = .int .i64 k ∧ Below w1.heap.size w1 wr ∧ Hid (OutS 2 Ly.enc w1.heap.size 76 wr v (thnK t.lay k))) (fun _ i _ => t.lay.length - (intOf i).toNat)
    case atStart => exact ⟨0, Nat.zero_le _, rfl, below_alloc _ _, (OutS.empty (Nat.le_refl _) : OutS 2 Ly.enc w1.heap.size 76 _ _ (thnK t.lay 0))⟩
    case round =>
      clear a4 hz
      obtain ⟨k, hk, rfl, hb, HO⟩ := hrel
      have hl := thnK_len t.lay k
      by_cases hlt : k < t.lay.length
      · obtain ⟨b, off, rfl⟩ := h.addr (by omega)
        obtain ⟨hbl, c0, c1⟩ := Ly.get (h.below hb) hlt
        go_wp2_with (fail)
        generalize hW : World.alloc wr _ = W2
        obtain ⟨bW2, kW2, _⟩ := alloc_facts hW
        clear hW c0 c1
        have hb := bth hb bW2
        have HO := Lib.hid (HO.out.below bW2)
        have kr := (KT.out _ hb).1
        have hA := aft_cell (Nat.lt_of_lt_of_le hbl bW2.size)
        have hB := aft_cell kW2.1
        have hC := aft_cell kr.1
        have r4 := kr.2.1 4 _ rfl
        have m0 := kW2.2.1 0 _ rfl
        have m1 := kW2.2.1 1 _ rfl
        have KW := Lib.hid kW2
        clear kr kW2
        by_cases hz : k = 0
        · subst hz
          have HN := Lib.hid (thnK_yes (l := t.lay) (k := 0) rfl hlt)
          refine wp_region_aft (by kernel_rfl) (by kernel_rfl) ?_
          repeat (go_big_quiet_step ((fail)))
          refine wpQuiet_nil ?_
          intro w9 b9
          have r0 := (KW.out.below b9).2.1 0 _ rfl
          have r1 := (KW.out.below b9).2.1 1 _ rfl
          have HO2 := Lib.hid (HO.out.below b9)
          have hb9 := bth hb b9
          have hsz := hb9.size
          clear hA hB hC r4 m0 m1
          go_wp2_with (at_builtin; refine wp_app (K := 2) (bytes := 16) (enc := Ly.enc) Ly.len Ly.one (by decide) (by decide) _ rfl (.tmp 34) (.tmp 36) _ rfl Try.underlying30 infoLy rfl _ _ rfl (HO2.out.below (by go_grown)) t.lay[0] _ rfl (by intro j u hu; exact app_cell (by simp) hu) (by omega) (by simp; omega) ?_; intro v' W4 hO2 hg2 hb4')
          refine ⟨⟨0 + 1, by omega, by go_num, Below.trans (by go_grown) hb4', (by rw [HN.out]; exact hO2 : OutS 2 Ly.enc w1.heap.size 76 W4 v' (thnK t.lay (0 + 1)))⟩, by simp [intOf]; omega⟩
        · obtain ⟨m, hm⟩ : ∃ m, k = m + 1 := ⟨k - 1, by omega⟩
          have hml : m < t.lay.length := by omega
          obtain ⟨_, _, d1⟩ := Ly.get (h.below hb) hml
          have t0 : 0 < k := by omega
          have t2 : (0 : Int) ≤ (k : Int) - 1 := by omega
          have t3 : (k : Int) - 1 < (t.lay.length : Int) := by omega
          have t4 : ((k : Int) - 1).toNat = m := by omega
          have t5 : ((k : Int) == 0) = false := by rw [beq_eq_false_iff_ne]; omega
          have HKP := Lib.hid (show keeps t.lay k = !(t.lay[m].spd == t.lay[k].spd) by subst hm; rw [keeps, lyi_of hml, lyi_of hlt])
          clear hz hm
          by_cases hq : t.lay[m].spd = t.lay[k].spd
          · have HN := Lib.hid (thnK_no (l := t.lay) (k := k) (by rw [HKP.out, hq]; simp))
            rw [hq] at d1
            clear hq
            refine wp_region_aft (by kernel_rfl) (by kernel_rfl) ?_
            repeat (go_big_quiet_step ((fail)))
            refine wpQuiet_nil ?_
            intro w9 b9
            clear hA hB hC r4 m0 m1
            go_wp2
            go_roundw
            case rel => exact ⟨k + 1, by omega, by go_num, bth hb b9, (by rw [HN.out]; exact HO.out.below b9 : OutS 2 Ly.enc w1.heap.size 76 w9 _ (thnK t.lay (k + 1)))⟩
            case measure => simp [intOf]; omega
          · have hq' : (t.lay[m].spd == t.lay[k].spd) = false := by rw [beq_eq_false_iff_ne]; exact hq
            have HN := Lib.hid (thnK_yes (l := t.lay) (k := k) (by rw [HKP.out, hq']; rfl) hlt)
            refine wp_region_aft (by kernel_rfl) (by kernel_rfl) ?_
            repeat (go_big_quiet_step ((fail)))
            refine wpQuiet_nil ?_
            intro w9 b9
            clear hq
            have r0 := (KW.out.below b9).2.1 0 _ rfl
            have r1 := (KW.out.below b9).2.1 1 _ rfl
            have HO2 := Lib.hid (HO.out.below b9)
            have hb9 := bth hb b9
            have hsz := hb9.size
            clear hA hB hC r4 m0 m1
            go_wp2_with (at_builtin; refine wp_app (K := 2) (bytes := 16) (enc := Ly.enc) Ly.len Ly.one (by decide) (by decide) _ rfl (.tmp 34) (.tmp 36) _ rfl Try.underlying30 infoLy rfl _ _ rfl (HO2.out.below (by go_grown)) t.lay[k] _ rfl (by intro j u hu; exact app_cell (by simp) hu) (by omega) (by simp; omega) ?_; intro v' W4 hO2 hg2 hb4')
            refine ⟨⟨k + 1, by omega, by go_num, Below.trans (by go_grown) hb4', (by rw [HN.out]; exact hO2 : OutS 2 Ly.enc w1.heap.size 76 W4 v' (thnK t.lay (k + 1)))⟩, by simp [intOf]; omega⟩
      · obtain rfl : k = t.lay.length := by omega
        obtain ⟨B, c', hv, _, hs, ho, hbk⟩ := HO.out.sl Ly.len
        subst hv
        obtain ⟨kr, jr⟩ := KT.out _ hb
        have a0 := kr.2.1 0 _ rfl
        have a1 := kr.2.1 1 _ rfl
        have a2 := kr.2.1 2 _ rfl
        have a3 := kr.2.1 3 _ rfl
        have a4 := kr.2.1 4 _ rfl
        have f4 := kr.2.2 4
        have m0 := jr.2.1 0 _ rfl
        have m1 := jr.2.1 1 _ rfl
        have m2 := jr.2.1 2 _ rfl
        have m3 := jr.2.1 3 _ rfl
        have m4 := jr.2.1 4 _ rfl
        have g0 := jr.2.2 0
        have g1 := jr.2.2 1
        have g2 := jr.2.2 2
        have g3 := jr.2.2 3
        have g4 := jr.2.2 4
        go_wp2
        have j1 := jr.far (g' := w.heap.size) (by omega) [.slice B (thnK t.lay t.lay.length).length c'] 4
        have P := j1.put [.int .i64 t.id, .int .i64 t.time, .int .i64 t.x, .int .i64 t.y, .slice B (thnK t.lay t.lay.length).length c'] rfl
        have sz1 : w.heap.size + 1 < w1.heap.size := hz1
        have hd1 : ∀ a, B = some a → a.block ≠ w.heap.size := fun a ha => by have := hbk a ha; omega
        have hd2 : ∀ a, B = some a → a.block ≠ w.heap.size + 1 := fun a ha => by have := hbk a ha; omega
        have hs := (hs.far hd1 [.slice B (thnK t.lay t.lay.length).length c'] 4).far hd2 [.int .i64 t.id, .int .i64 t.time, .int .i64 t.x, .int .i64 t.y, .slice B (thnK t.lay t.lay.length).length c'] 0
        have ho := (ho.only ((OnlyN.refl (some ⟨w.heap.size, 0, none⟩) 1 _).put (by omega) [.slice B (thnK t.lay t.lay.length).length c'] 4) (fun _ _ a a' ha ha' e => by cases ha; exact hd1 a' ha' e.symm)).only ((OnlyN.refl (some ⟨w.heap.size + 1, 0, none⟩) 1 _).put (by omega) [.int .i64 t.id, .int .i64 t.time, .int .i64 t.x, .int .i64 t.y, .slice B (thnK t.lay t.lay.length).length c'] 0) (fun _ _ a a' ha ha' e => by cases ha; exact hd2 a' ha' e.symm)
        have Bl := bset (bset (bth b1 hb) (Nat.le_refl w.heap.size) [.slice B (thnK t.lay t.lay.length).length c'] 4) (show w.heap.size ≤ w.heap.size + 1 by omega) [.int .i64 t.id, .int .i64 t.time, .int .i64 t.x, .int .i64 t.y, .slice B (thnK t.lay t.lay.length).length c'] 0
        simp only [World.setCells, Nat.zero_add, Nat.reduceAdd] at P hs ho Bl
        have p0 := P.2.1 0 _ rfl
        have p1 := P.2.1 1 _ rfl
        have p2 := P.2.1 2 _ rfl
        have p3 := P.2.1 3 _ rfl
        have p4 := P.2.1 4 _ rfl
        refine bodyPost_ret (v := .tuple #[.agg #[.int .i64 t.id, .int .i64 t.time, .int .i64 t.x, .int .i64 t.y, .slice B (thnK t.lay t.lay.length).length c'], .bool true]) (by simp [results, Try.results27, go_sem, p0, p1, p2, p3, p4]) rfl ?_
        rw [E1.out, GF.out]
        exact ⟨B, c', rfl, Bl, hs, ho, fun a ha _ => by have := hbk a ha; omega⟩
end Go.Proofs.Ytfmlfeokdaahmaa
