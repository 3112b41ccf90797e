/- UseFuel of both texts: what it returns. Lists of at most 1048576 craft. -/
import Derived.Test.YtanmkjjclpplkaaW5c
import Derived.Test.YtanmkjjclpplkaaDrL
import Derived.Test.YtanmkjjclpplkaaOut4
import Derived.Deep.Cut
set_option linter.unusedVariables false
set_option linter.unusedSimpArgs false
namespace Go.Proofs.Ytanmkjjclpplkaa
open Go.RowKit
set_option maxHeartbeats 4000000
set_option maxRecDepth 100000
theorem infoCrI : (Try.prog.info? 41).map (fun i => (i.zero, i.size, i.bytes)) = some (some (.agg #[.int .i64 0, .string ByteArray.empty, .int .i64 0, .int .i64 0, .int .i64 0, .int .i64 0, .int .i64 0]), 7, 64) := by kernel_rfl
theorem Sl.set1 {α : Type} {K : Nat} {enc : α → List Value} {w : World} {g : Nat} {l : List α} {k j : Nat} (x : α) (v : Value) (h : Sl K enc w (some ⟨g, 0, none⟩) l) (hA : Ar w g (l.length * K)) (hk : k < l.length) (hj : j < K) (hK : ∀ x, (enc x).length = K) (hx : enc x = (enc l[k]).set j v) :
    Sl K enc (w.setCell ⟨g, k * K + j, none⟩ v) (some ⟨g, 0, none⟩) (l.set k x) := by
  show Sl K enc (w.setCells g (k * K + j) [v]) _ _
  intro _
  refine ⟨g, 0, rfl, by rw [size_setCells]; exact hA.1, fun i y hy r u hu => ?_⟩
  rw [Nat.zero_add]
  have hr : r < K := by rw [← hK y]; exact (List.getElem?_eq_some_iff.1 hu).1
  rw [List.getElem?_set] at hy
  obtain ⟨b', off', e', _, hc⟩ := h (by omega)
  injection e' with e'; injection e' with e1 e2
  subst e1 e2
  have hkK : k * K + j < l.length * K := by
    have h1 : (k + 1) * K ≤ l.length * K := Nat.mul_le_mul_right K hk
    rw [Nat.succ_mul] at h1; omega
  by_cases e : k = i
  · subst e
    rw [if_pos rfl, if_pos hk] at hy
    obtain rfl : x = y := by injection hy
    rw [hx, List.getElem?_set] at hu
    by_cases e3 : j = r
    · subst e3
      rw [if_pos rfl, if_pos (by rw [hK]; exact hj)] at hu
      have := World.cell?_setCells_in g [v] (k * K + j) w (fun m hm => by
        obtain rfl : m = 0 := by simpa using hm
        obtain ⟨z, hz⟩ := hA.2.1 _ hkK
        rw [Nat.add_zero, hz]; rfl) 0 (by simp)
      rw [Nat.add_zero] at this
      rw [this]
      simpa using hu
    · rw [if_neg e3] at hu
      rw [World.cell?_setCells_out g [v] (k * K + j) w _ (fun _ _ => by show k * K + r < k * K + j ∨ k * K + j + [v].length ≤ k * K + r; simp; omega)]
      have := hc k l[k] (List.getElem?_eq_getElem hk) r u hu
      rwa [Nat.zero_add] at this
  · rw [if_neg e] at hy
    rw [World.cell?_setCells_out g [v] (k * K + j) w _ (fun _ _ => by
      show i * K + r < k * K + j ∨ k * K + j + [v].length ≤ i * K + r
      simp only [List.length_singleton]
      rcases Nat.lt_or_ge i k with h | h
      · have h1 : (i + 1) * K ≤ k * K := Nat.mul_le_mul_right K h
        rw [Nat.succ_mul] at h1; omega
      · have h1 : (k + 1) * K ≤ i * K := Nat.mul_le_mul_right K (show k + 1 ≤ i by omega)
        rw [Nat.succ_mul] at h1; omega)]
    have := hc i y hy r u hu
    rwa [Nat.zero_add] at this
theorem iUse (A : Option Addr) (c : Nat) (l : List Cr) (id m : Int) (w : World) (h : Sl 7 Cr.enc w A l) (hn : l.length ≤ 1048576) (hq : NmS l) (hc : l.length ≤ c) :
    Calls Try.prog 16 #[.slice A l.length c, .int .i64 id, .int .i64 m] w (retL 7 Cr.enc w (ufL l id m) (ufOk l id m)) := by
  go_enter Try.func16, Try.ntmps16
  go_wp2_with (fail)
  generalize hW : World.alloc w _ = W1
  obtain ⟨bW, kW, _⟩ := alloc_facts hW
  clear hW
  refine (i5IndexU A c id l _ _ (h.below bW) hn kW.1 (kW.2.1 0 _ rfl)).mono ?_; rintro e w2 ⟨rfl, b2⟩
  have b2 := bth bW b2
  go_wp2_with (fail)
  refine (i5Good A c l _ (h.below b2) hn hq hc).mono ?_; rintro e w3 ⟨rfl, b3⟩
  have C := bth b2 b3
  clear kW bW b2 b3
  cases g : crsGood l with
  | false =>
    obtain ⟨e1, e2⟩ := uf_bad (l := l) (id := id) (m := m) (.inl g)
    have E1 := Lib.hid e1
    have E2 := Lib.hid e2
    clear e1 e2 g
    go_wp2_with (fail)
    go_ret2
    rw [E2.out, E1.out]
    exact ⟨_, _, rfl, Fr.nil (C)⟩
  | true =>
    rcases fnd_cases (isC id) l with hi | ⟨k, hlt, hi, -, -⟩
    · rw [hi]
      obtain ⟨e1, e2⟩ := uf_bad (l := l) (id := id) (m := m) (.inr (.inr hi))
      have E1 := Lib.hid e1
      have E2 := Lib.hid e2
      clear e1 e2 g hi
      go_wp2_with (fail)
      go_ret2
      rw [E2.out, E1.out]
      exact ⟨_, _, rfl, Fr.nil (C)⟩
    · rw [hi]
      have k0 : ¬ (k : Int) < 0 := by omega
      have k1 : decide ((k : Int) < 0) = false := by simp
      go_wp2_with (fail)
      refine (implIn m 0 10000 _).mono ?_; rintro e w' ⟨rfl, rfl⟩
      cases g2 : inB m 0 10000 with
      | false =>
        obtain ⟨e1, e2⟩ := uf_bad (l := l) (id := id) (m := m) (.inr (.inl g2))
        have E1 := Lib.hid e1
        have E2 := Lib.hid e2
        clear e1 e2 g hi g2 k0 k1
        go_wp2_with (fail)
        go_ret2
        rw [E2.out, E1.out]
        exact ⟨_, _, rfl, Fr.nil (C)⟩
      | true =>
        obtain ⟨b, off, rfl⟩ := h.addr (by omega)
        obtain ⟨hbl, c0, c1, c2, c3, c4, c5, c6⟩ := Cr.get (h.below C) hlt
        have u1 : (0 : Int) ≤ (k : Int) := by omega
        have u2 : (k : Int) < (l.length : Int) := by omega
        by_cases hf : l[k].fuel < m
        · obtain ⟨e1, e2⟩ := uf_low hi hlt hf
          have E1 := Lib.hid e1
          have E2 := Lib.hid e2
          clear e1 e2 g hi g2
          go_wp2_with (fail)
          go_ret2
          rw [E2.out, E1.out]
          exact ⟨_, _, rfl, Fr.nil (C)⟩
        · obtain ⟨e1, e2⟩ := uf_good g g2 hi hlt (by omega)
          have E1 := Lib.hid e1
          have E2 := Lib.hid e2
          have bk := crOk_bd (crsGood_at g hlt)
          have hm := inB_true.1 g2
          have h6 := crsGood_len g
          have hf' : m ≤ l[k].fuel := by omega
          clear e1 e2 g g2 hi
          go_wp2_with (at_builtin; refine wp_appL (K := 7) (bytes := 64) (enc := Cr.enc) (base := w.heap.size) Cr.len Cr.one (by decide) (by decide) _ rfl (.tmp 34) (.tmp 35) _ rfl Try.underlying27 infoCrI rfl _ ([] : List Cr) rfl (OutS.empty (C.size)) l (some ⟨b, off, none⟩) _ rfl (h.below (bth C (by go_grown))) (by omega) (by simp) (by have := C.size; simp; omega) ?_; intro v' W4 hO2 hg2 hb4 _)
          rw [List.nil_append] at hO2
          have C4 : Below w.heap.size w W4 := (bth C (by go_grown : Below w3.heap.size w3 _)).trans hb4
          obtain ⟨B, c', hv, hcl, hs', ho, hbk⟩ := hO2.sl Cr.len
          obtain ⟨gg, e, hA⟩ := ho (by omega)
          subst e hv
          have hgg := hbk _ rfl
          obtain ⟨hbl', d0, d1, d2, d3, d4, d5, d6⟩ := Cr.get hs' hlt
          rw [Nat.zero_add] at d6
          have f6 := hA.2.2 (k * 7 + 6)
          have hz := hA.1
          have wr1 : IntKind.i64.wrap (l[k].fuel - m) = l[k].fuel - m := IntWalk.i64_in _ (by omega)
          clear c0 c1 c2 c3 c4 c5 c6 hO2 hg2 hb4 ho hbk
          go_wp2_with (fail)
          go_ret2
          rw [E2.out, E1.out]
          exact ⟨some ⟨gg, 0, none⟩, c', by rw [List.length_set]; rfl, C4.setCell (p := ⟨gg, k * 7 + 6, none⟩) hgg _,
            Sl.set1 ⟨l[k].id, l[k].name, l[k].draught, l[k].ahead, l[k].beside, l[k].speed, l[k].fuel - m⟩ _ hs' hA hlt (by omega) Cr.len rfl,
            fun _ => ⟨gg, rfl, by rw [List.length_set]; exact hA.put [_] (k * 7 + 6) (by simp; omega)⟩,
            fun a ha _ => by injection ha with ha; subst ha; exact hgg⟩
theorem sUse (A : Option Addr) (c : Nat) (l : List Cr) (id m : Int) (w : World) (h : Sl 7 Cr.enc w A l) (hn : l.length ≤ 1048576) (hq : NmS l) (hc : l.length ≤ c) :
    Calls Try.prog 15 #[.slice A l.length c, .int .i64 id, .int .i64 m] w (retL 7 Cr.enc w (ufL l id m) (ufOk l id m)) := by
  go_enter Try.func15, Try.ntmps15
  go_wp2_with (fail)
  refine (s5Good A c l _ h hn hq).mono ?_; rintro e w2 ⟨rfl, b2⟩
  cases g : crsGood l with
  | false =>
    obtain ⟨e1, e2⟩ := uf_bad (l := l) (id := id) (m := m) (.inl g)
    have E1 := Lib.hid e1
    have E2 := Lib.hid e2
    clear e1 e2 g
    go_wp2_with (fail)
    go_ret2
    rw [E2.out, E1.out]
    exact ⟨_, _, rfl, Fr.nil (bth b2 (by go_grown))⟩
  | true =>
    go_wp2_with (fail)
    refine (specIn m 0 10000 _).mono ?_; rintro e w' ⟨rfl, rfl⟩
    cases g2 : inB m 0 10000 with
    | false =>
      obtain ⟨e1, e2⟩ := uf_bad (l := l) (id := id) (m := m) (.inr (.inl g2))
      have E1 := Lib.hid e1
      have E2 := Lib.hid e2
      clear e1 e2 g g2
      go_wp2_with (fail)
      go_ret2
      rw [E2.out, E1.out]
      exact ⟨_, _, rfl, Fr.nil (bth b2 (by go_grown))⟩
    | true =>
      have G := Lib.hid g
      have G2 := Lib.hid g2
      have hm := inB_true.1 g2
      have h6 := crsGood_len g
      clear g g2
      go_wp2_with (fail)
      go_loopw [8] (fun i wr => ∃ k : Nat, k ≤ l.length ∧ i = .int .i64 k ∧ Below w.heap.size w wr ∧ Hid (∀ j (hj : j < l.length), j < k → ¬ (l[j].id = id ∧ m ≤ l[j].fuel))) (fun i _ => l.length - (intOf i).toNat)
      case atStart => exact ⟨0, Nat.zero_le _, rfl, b2, (fun j _ hj => absurd hj (by omega) : ∀ j (hj : j < l.length), j < 0 → ¬ (l[j].id = id ∧ m ≤ l[j].fuel))⟩
      case round =>
        obtain ⟨k, hk, rfl, C, H⟩ := hrel
        by_cases hlt : k < l.length
        · obtain ⟨b, off, rfl⟩ := h.addr (by omega)
          obtain ⟨hbl, c0, c1, c2, c3, c4, c5, c6⟩ := Cr.get (h.below C) hlt
          have u1 : (0 : Int) ≤ (k : Int) := by omega
          have u2 : (k : Int) < (l.length : Int) := by omega
          by_cases hi : l[k].id = id
          · by_cases hf : m ≤ l[k].fuel
            · subst hi
              obtain ⟨e1, e2⟩ := uf_good G.out G2.out (fnd_id G.out hlt rfl) hlt hf
              have E1 := Lib.hid e1
              have E2 := Lib.hid e2
              have bk := crOk_bd (crsGood_at G.out hlt)
              have wr1 : IntKind.i64.wrap (l[k].fuel - m) = l[k].fuel - m := IntWalk.i64_in _ (by omega)
              clear e1 e2
              go_upto_region 8 with (fail)
              generalize hW : World.alloc wr _ = W1
              obtain ⟨bW, kv, _⟩ := alloc_facts hW
              clear hW c0 c1 c2 c3 c4 c5 c6
              have C1 := bth C bW
              go_wp2_with (at_builtin; refine wp_appL (K := 7) (bytes := 64) (enc := Cr.enc) (base := W1.heap.size) Cr.len Cr.one (by decide) (by decide) _ rfl (.tmp 40) (.tmp 41) _ rfl Try.underlying27 infoCrI rfl _ ([] : List Cr) rfl (OutS.empty (Nat.le_refl _)) l (some ⟨b, off, none⟩) _ rfl (h.below (bth C1 (by go_grown))) (by omega) (by simp) (by simp) ?_; intro v' W4 hO2 hg2 hb4 _; refine Hid.out ?_)
              refine Lib.hid ?_
              rw [List.nil_append] at hO2
              have b4 : Below W1.heap.size W1 W4 := Below.trans (by go_grown) hb4
              have C4 := bth C1 b4
              obtain ⟨B, c', hv, hcl, hs', ho, hbk⟩ := hO2.sl Cr.len
              obtain ⟨gg, e, hA⟩ := ho (by omega)
              subst e hv
              have hgg : W1.heap.size ≤ gg := hbk _ rfl
              have kv4 := kv.below b4
              have hz := hA.1
              have hzv := kv4.1
              have hne : wr.heap.size ≠ gg := by have := kv.1; omega
              have m0 := kv4.2.1 0 _ rfl
              have m1 := kv4.2.1 1 _ rfl
              have m2 := kv4.2.1 2 _ rfl
              have m3 := kv4.2.1 3 _ rfl
              have m4 := kv4.2.1 4 _ rfl
              have m5 := kv4.2.1 5 _ rfl
              have m6 := kv4.2.1 6 _ rfl
              have f6 := kv4.2.2 6
              clear hO2 hg2 hb4 ho hbk kv bW
              go_upto_region 10 with (fail)
              have kv5 := kv4.cset 6 (.int .i64 (l[k].fuel - m)) (by simp)
              have hs5 := hs'.far (g := wr.heap.size) (fun a ha => by injection ha with ha; subst ha; exact fun e => hne e.symm) [.int .i64 (l[k].fuel - m)] 6
              have C5 := C4.setCell (p := ⟨wr.heap.size, 6, none⟩) C.size (.int .i64 (l[k].fuel - m))
              have hA5 : Ar (W4.setCell ⟨wr.heap.size, 6, none⟩ (.int .i64 (l[k].fuel - m))) gg (l.length * 7) := by
                obtain ⟨a1, a2, a3⟩ := hA
                have hb : (W4.setCell ⟨wr.heap.size, 6, none⟩ (.int .i64 (l[k].fuel - m))).heap[gg]? = W4.heap[gg]? := Below.heap_setCell W4 ⟨wr.heap.size, 6, none⟩ _ gg (fun e => hne e.symm)
                exact ⟨by rw [World.size_setCell]; exact a1, fun i hi => by obtain ⟨u, hu⟩ := a2 i hi; exact ⟨u, (World.cell?_of_block (w := W4) hb).trans hu⟩, fun i => (World.frozen?_of_block (w := W4) hb).trans (a3 i)⟩
              simp only [World.setCells] at hs5
              clear m0 m1 m2 m3 m4 m5 m6 f6 kv4 hs' hA C4 hz hzv
              generalize World.setCell W4 _ _ = W5 at *
              have m0 := kv5.2.1 0 _ rfl
              have m1 := kv5.2.1 1 _ rfl
              have m2 := kv5.2.1 2 _ rfl
              have m3 := kv5.2.1 3 _ rfl
              have m4 := kv5.2.1 4 _ rfl
              have m5 := kv5.2.1 5 _ rfl
              have m6 := kv5.2.1 6 _ rfl
              have hz := hA5.1
              obtain ⟨v0, g0⟩ := hA5.2.1 (k * 7) (by omega)
              obtain ⟨v1, g1⟩ := hA5.2.1 (k * 7 + 1) (by omega)
              obtain ⟨v2, g2⟩ := hA5.2.1 (k * 7 + 2) (by omega)
              obtain ⟨v3, g3⟩ := hA5.2.1 (k * 7 + 3) (by omega)
              obtain ⟨v4, g4⟩ := hA5.2.1 (k * 7 + 4) (by omega)
              obtain ⟨v5, g5⟩ := hA5.2.1 (k * 7 + 5) (by omega)
              obtain ⟨v6, g6⟩ := hA5.2.1 (k * 7 + 6) (by omega)
              have f0 := hA5.2.2 (k * 7)
              have f1 := hA5.2.2 (k * 7 + 1)
              have f2 := hA5.2.2 (k * 7 + 2)
              have f3 := hA5.2.2 (k * 7 + 3)
              have f4 := hA5.2.2 (k * 7 + 4)
              have f5 := hA5.2.2 (k * 7 + 5)
              have f6 := hA5.2.2 (k * 7 + 6)
              have hgw : w.heap.size ≤ gg := Nat.le_trans C1.size hgg
              have Q1 := bset C5 hgw (Cr.enc ⟨l[k].id, l[k].name, l[k].draught, l[k].ahead, l[k].beside, l[k].speed, l[k].fuel - m⟩) (k * 7)
              have Q2 := hs5.set ⟨l[k].id, l[k].name, l[k].draught, l[k].ahead, l[k].beside, l[k].speed, l[k].fuel - m⟩ hA5 hlt Cr.len
              have Q3 := hA5.put (Cr.enc ⟨l[k].id, l[k].name, l[k].draught, l[k].ahead, l[k].beside, l[k].speed, l[k].fuel - m⟩) (k * 7) (by show k * 7 + 7 ≤ _; omega)
              simp only [Cr.enc, World.setCells, Nat.add_assoc, Nat.reduceAdd] at Q1 Q2 Q3
              have Q := Lib.hid (And.intro Q1 (And.intro Q2 Q3))
              clear Q1 Q2 Q3
              go_wp2_with (fail)
              go_ret2
              rw [E2.out, E1.out]
              refine ⟨some ⟨gg, 0, none⟩, c', ?_, ?_, ?_, ?_, ?_⟩
              · rw [List.length_set]; rfl
              · exact Q.out.1
              · exact Q.out.2.1
              · exact fun _ => ⟨gg, rfl, by rw [List.length_set]; exact Q.out.2.2⟩
              · exact fun a ha _ => by injection ha with ha; subst ha; exact hgw
            · have hf' : l[k].fuel < m := by omega
              have HI := Lib.hid (show ¬ (l[k].id = id ∧ m ≤ l[k].fuel) by omega)
              have hi' : (l[k].id == id) = true := by rw [beq_iff_eq]; exact hi
              clear hi
              go_wp2_with (fail)
              go_roundw
              case rel => exact ⟨k + 1, by omega, by go_num, bth C (by go_grown), (fun j hj hj2 => by
                by_cases e : j = k
                · subst e; exact HI.out
                · exact H.out j hj (by omega) : ∀ j (hj : j < l.length), j < k + 1 → ¬ (l[j].id = id ∧ m ≤ l[j].fuel))⟩
              case measure => simp [intOf]; omega
          · have HI := Lib.hid (show ¬ (l[k].id = id ∧ m ≤ l[k].fuel) by omega)
            have hi' : (l[k].id == id) = false := by rw [beq_eq_false_iff_ne]; exact hi
            clear hi
            go_wp2_with (fail)
            go_roundw
            case rel => exact ⟨k + 1, by omega, by go_num, bth C (by go_grown), (fun j hj hj2 => by
              by_cases e : j = k
              · subst e; exact HI.out
              · exact H.out j hj (by omega) : ∀ j (hj : j < l.length), j < k + 1 → ¬ (l[j].id = id ∧ m ≤ l[j].fuel))⟩
            case measure => simp [intOf]; omega
        · obtain rfl : k = l.length := by omega
          obtain ⟨e1, e2⟩ := uf_none (id := id) (m := m) G.out (fun j hj => H.out j hj hj)
          have E1 := Lib.hid e1
          have E2 := Lib.hid e2
          clear e1 e2 G
          go_wp2_with (fail)
          go_ret2
          rw [E2.out, E1.out]
          exact ⟨_, _, rfl, Fr.nil (bth C (by go_grown))⟩
end Go.Proofs.Ytanmkjjclpplkaa
