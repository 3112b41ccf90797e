/- LowerAll of both texts: what it returns. Lists of at most 1048576 soundings. -/
import Derived.Test.YthnoknmijelcmaaW8e
import Derived.Test.YthnoknmijelcmaaOut2
set_option linter.unusedVariables false
set_option linter.unusedSimpArgs false
namespace Go.Proofs.Ythnoknmijelcmaa
open Go.RowKit
set_option maxHeartbeats 2000000
def loS (d u : Int) (x : Sd) : Sd := ⟨x.id, x.x, x.y, x.depth + d, x.doubt + u⟩
def loM (l : List Sd) (d u : Int) : List Sd := l.map (loS d u)
theorem loM_len (l : List Sd) (d u : Int) : (loM l d u).length = l.length := by simp [loM]
theorem loM_step {l : List Sd} {d u : Int} {k : Nat} (hk : k < l.length) : (loM l d u).take (k + 1) = (loM l d u).take k ++ [⟨l[k].id, l[k].x, l[k].y, l[k].depth + d, l[k].doubt + u⟩] := by
  rw [List.take_succ_eq_append_getElem (by rw [loM_len]; exact hk)]
  simp [loM, loS]
@[irreducible] def loB (l : List Sd) (d u : Int) : Bool := sdGood l && inB d (-30000) 30000 && inB u 0 500 && sdGood (loM l d u)
@[irreducible] def loL (l : List Sd) (d u : Int) : List Sd := if loB l d u then loM l d u else []
theorem lo_bad {l : List Sd} {d u : Int} (h : sdGood l = false ∨ inB d (-30000) 30000 = false ∨ inB u 0 500 = false ∨ sdGood (loM l d u) = false) : loB l d u = false ∧ loL l d u = [] := by
  have : loB l d u = false := by
    unfold loB
    rcases h with h | h | h | h <;> simp [h]
  exact ⟨this, by unfold loL; simp [this]⟩
theorem lo_good {l : List Sd} {d u : Int} (h : sdGood l = true) (h2 : inB d (-30000) 30000 = true) (h3 : inB u 0 500 = true) (h4 : sdGood (loM l d u) = true) : loB l d u = true ∧ loL l d u = loM l d u := by
  have : loB l d u = true := by unfold loB; simp [h, h2, h3, h4]
  exact ⟨this, by unfold loL; simp [this]⟩
theorem loL_len {l : List Sd} {d u : Int} : (loL l d u).length ≤ 1048576 := by
  unfold loL
  split
  · rename_i g
    unfold loB at g
    simp only [Bool.and_eq_true] at g
    have := sdGood_len g.1.1.1
    rw [loM_len]; omega
  · simp
theorem sLow (A : Option Addr) (c : Nat) (l : List Sd) (d u : Int) (w : World) (h : Sl 5 Sd.enc w A l) (hn : l.length ≤ 1048576) (_hc : l.length ≤ c) :
    Calls Try.prog 32 #[.slice A l.length c, .int .i64 d, .int .i64 u] w (retL 5 Sd.enc w (loL l d u) (loB l d u)) := by
  go_enter Try.func32, Try.ntmps32
  go_wp2_with (fail)
  generalize hW : World.alloc w _ = W1
  have hO : OutS 5 Sd.enc w.heap.size 29 W1 (.slice (some ⟨w.heap.size, 0, none⟩) 0 0) ([] : List Sd) := by rw [← hW]; exact OutS.empty (Nat.le_refl _)
  have hbW : Below w.heap.size w W1 := by rw [← hW]; exact below_alloc _ _
  clear hW
  refine (s8Good _ _ l _ (h.below hbW) hn).mono ?_; rintro e w1 ⟨rfl, b1⟩
  have hO := hO.below b1
  have b1 := bth hbW b1
  clear hbW
  cases g : sdGood l with
  | false =>
    obtain ⟨e1, e2⟩ := lo_bad (d := d) (u := u) (.inl g)
    have E1 := Lib.hid e1
    have E2 := Lib.hid e2
    clear e1 e2 g
    go_wp2
    go_ret2
    rw [E2.out, E1.out]
    exact ⟨_, _, rfl, Fr.nil b1⟩
  | true =>
    have G := Lib.hid g
    clear g
    go_wp2_with (fail)
    refine (specIn d _ _ _).mono ?_; rintro e w' ⟨rfl, rfl⟩
    cases g2 : inB d (-30000) 30000 with
    | false =>
      obtain ⟨e1, e2⟩ := lo_bad (l := l) (u := u) (.inr (.inl g2))
      have E1 := Lib.hid e1
      have E2 := Lib.hid e2
      clear e1 e2 g2
      go_wp2
      go_ret2
      rw [E2.out, E1.out]
      exact ⟨_, _, rfl, Fr.nil b1⟩
    | true =>
      have G2 := Lib.hid g2
      have q2 := inB_true.1 g2
      clear g2
      go_wp2_with (fail)
      refine (specIn u _ _ _).mono ?_; rintro e w' ⟨rfl, rfl⟩
      cases g3 : inB u 0 500 with
      | false =>
        obtain ⟨e1, e2⟩ := lo_bad (l := l) (d := d) (.inr (.inr (.inl g3)))
        have E1 := Lib.hid e1
        have E2 := Lib.hid e2
        clear e1 e2 g3
        go_wp2
        go_ret2
        rw [E2.out, E1.out]
        exact ⟨_, _, rfl, Fr.nil b1⟩
      | true =>
        have G3 := Lib.hid g3
        have q3 := inB_true.1 g3
        have h12 := sdGood_len G.out
        clear g3
        go_wp2
        go_loopw [8, 9] (fun v i wr => ∃ k : Nat, k ≤ l.length ∧ i = .int .i64 k ∧ Below w.heap.size w wr ∧ Hid (OutS 5 Sd.enc w.heap.size 29 wr v ((loM l d u).take k))) (fun _ i _ => l.length - (intOf i).toNat)
        case atStart => exact ⟨0, Nat.zero_le _, rfl, b1, hO⟩
        case round =>
          obtain ⟨k, hk, rfl, hb, HO⟩ := hrel
          by_cases hlt : k < l.length
          · obtain ⟨b, off, rfl⟩ := h.addr (by omega)
            obtain ⟨hbl, c0, c1, c2, c3, c4⟩ := Sd.get (h.below hb) hlt
            have gb := sdOk_bd (sdGood_at G.out hlt)
            have HT := Lib.hid (loM_step (d := d) (u := u) hlt)
            have hsz := hb.size
            go_wp2_with (at_builtin; refine wp_app (K := 5) (bytes := 40) (enc := Sd.enc) Sd.len Sd.one (by decide) (by decide) _ rfl (.tmp 36) (.tmp 50) _ rfl Try.underlying35 infoSd rfl _ _ rfl (HO.out.below (by go_grown)) ⟨l[k].id, l[k].x, l[k].y, l[k].depth + d, l[k].doubt + u⟩ _ rfl (by intro j u hu; exact app_cell (by simp) hu) (by rw [List.length_take]; omega) (by simp; omega) ?_; intro v' W4 hO2 hg2 hb2)
            refine ⟨⟨k + 1, by omega, by go_num, Below.trans (by go_grown) hb2, (by rw [HT.out]; exact hO2 : OutS 5 Sd.enc w.heap.size 29 W4 v' ((loM l d u).take (k + 1)))⟩, by simp [intOf]; omega⟩
          · obtain rfl : k = l.length := by omega
            obtain ⟨B, c', hv, _, hs, ho, hbk⟩ := HO.out.sl Sd.len
            rw [List.take_of_length_le (by rw [loM_len]; omega)] at hs hv ho
            subst hv
            go_wp2_with (fail)
            refine (s8Good _ _ _ _ hs (by rw [loM_len]; exact hn)).mono ?_; rintro e w3 ⟨rfl, b3⟩
            cases g4 : sdGood (loM l d u) with
            | false =>
              obtain ⟨e1, e2⟩ := lo_bad (.inr (.inr (.inr g4)))
              have E1 := Lib.hid e1
              have E2 := Lib.hid e2
              clear e1 e2 g4
              go_wp2
              go_ret2
              rw [E2.out, E1.out]
              exact ⟨_, _, rfl, Fr.nil (by have b4 := bth hb b3; exact b4.trans ((below_alloc w3 _).mono b4.size))⟩
            | true =>
              obtain ⟨e1, e2⟩ := lo_good G.out G2.out G3.out g4
              have E1 := Lib.hid e1
              have E2 := Lib.hid e2
              clear e1 e2 g4
              go_wp2
              go_ret2
              rw [E2.out, E1.out]
              exact ⟨B, c', rfl, bth hb b3, hs.below b3, ho.below b3, fun a ha _ => hbk a ha⟩
theorem iLow (A : Option Addr) (c : Nat) (l : List Sd) (d u : Int) (w : World) (h : Sl 5 Sd.enc w A l) (hn : l.length ≤ 1048576) (_hc : l.length ≤ c) :
    Calls Try.prog 33 #[.slice A l.length c, .int .i64 d, .int .i64 u] w (retL 5 Sd.enc w (loL l d u) (loB l d u)) := by
  go_enter Try.func33, Try.ntmps33
  go_wp2_with (fail)
  refine (i8Good _ _ l _ h hn).mono ?_; rintro e w1 ⟨rfl, b1⟩
  cases g : sdGood l with
  | false =>
    obtain ⟨e1, e2⟩ := lo_bad (d := d) (u := u) (.inl g)
    have E1 := Lib.hid e1
    have E2 := Lib.hid e2
    clear e1 e2 g
    go_wp2
    go_ret2
    rw [E2.out, E1.out]
    exact ⟨_, _, rfl, Fr.nil b1⟩
  | true =>
    have G := Lib.hid g
    clear g
    go_wp2_with (fail)
    refine (implIn d _ _ _).mono ?_; rintro e w' ⟨rfl, rfl⟩
    cases g2 : inB d (-30000) 30000 with
    | false =>
      obtain ⟨e1, e2⟩ := lo_bad (l := l) (u := u) (.inr (.inl g2))
      have E1 := Lib.hid e1
      have E2 := Lib.hid e2
      clear e1 e2 g2
      go_wp2
      go_ret2
      rw [E2.out, E1.out]
      exact ⟨_, _, rfl, Fr.nil b1⟩
    | true =>
      have G2 := Lib.hid g2
      have q2 := inB_true.1 g2
      clear g2
      go_wp2_with (fail)
      refine (implIn u _ _ _).mono ?_; rintro e w' ⟨rfl, rfl⟩
      cases g3 : inB u 0 500 with
      | false =>
        obtain ⟨e1, e2⟩ := lo_bad (l := l) (d := d) (.inr (.inr (.inl g3)))
        have E1 := Lib.hid e1
        have E2 := Lib.hid e2
        clear e1 e2 g3
        go_wp2
        go_ret2
        rw [E2.out, E1.out]
        exact ⟨_, _, rfl, Fr.nil b1⟩
      | true =>
        have G3 := Lib.hid g3
        have q3 := inB_true.1 g3
        have h12 := sdGood_len G.out
        clear g3
        go_wp2_with (fail)
        generalize hW : World.alloc w1 _ = W1
        have hO : OutS 5 Sd.enc w.heap.size 29 W1 (.slice (some ⟨w1.heap.size, 0, none⟩) 0 0) ([] : List Sd) := by rw [← hW]; exact OutS.empty b1.size
        have b1 : Below w.heap.size w W1 := by rw [← hW]; exact b1.trans ((below_alloc w1 _).mono b1.size)
        clear hW
        go_loopw [8, 27] (fun v i wr => ∃ k : Nat, k ≤ l.length ∧ i = .int .i64 k ∧ Below w.heap.size w wr ∧ Hid (OutS 5 Sd.enc w.heap.size 29 wr v ((loM l d u).take k))) (fun _ i _ => l.length - (intOf i).toNat)
        case atStart => exact ⟨0, Nat.zero_le _, rfl, b1, hO⟩
        case round =>
          obtain ⟨k, hk, rfl, hb, HO⟩ := hrel
          by_cases hlt : k < l.length
          · obtain ⟨b, off, rfl⟩ := h.addr (by omega)
            obtain ⟨hbl, c0, c1, c2, c3, c4⟩ := Sd.get (h.below hb) hlt
            have gb := sdOk_bd (sdGood_at G.out hlt)
            have HT := Lib.hid (loM_step (d := d) (u := u) hlt)
            have hsz := hb.size
            go_wp2_with (at_builtin; refine wp_app (K := 5) (bytes := 40) (enc := Sd.enc) Sd.len Sd.one (by decide) (by decide) _ rfl (.tmp 41) (.tmp 43) _ rfl Try.underlying35 infoSd rfl _ _ rfl (HO.out.below (by go_grown)) ⟨l[k].id, l[k].x, l[k].y, l[k].depth + d, l[k].doubt + u⟩ _ rfl (by intro j u hu; exact app_cell (by simp) hu) (by rw [List.length_take]; omega) (by simp; omega) ?_; intro v' W4 hO2 hg2 hb2)
            refine ⟨⟨k + 1, by omega, by go_num, Below.trans (by go_grown) hb2, (by rw [HT.out]; exact hO2 : OutS 5 Sd.enc w.heap.size 29 W4 v' ((loM l d u).take (k + 1)))⟩, by simp [intOf]; omega⟩
          · obtain rfl : k = l.length := by omega
            obtain ⟨B, c', hv, _, hs, ho, hbk⟩ := HO.out.sl Sd.len
            rw [List.take_of_length_le (by rw [loM_len]; omega)] at hs hv ho
            subst hv
            go_wp2_with (fail)
            refine (i8Good _ _ _ _ hs (by rw [loM_len]; exact hn)).mono ?_; rintro e w3 ⟨rfl, b3⟩
            cases g4 : sdGood (loM l d u) with
            | false =>
              obtain ⟨e1, e2⟩ := lo_bad (.inr (.inr (.inr g4)))
              have E1 := Lib.hid e1
              have E2 := Lib.hid e2
              clear e1 e2 g4
              go_wp2
              go_ret2
              rw [E2.out, E1.out]
              exact ⟨_, _, rfl, Fr.nil (bth hb b3)⟩
            | true =>
              obtain ⟨e1, e2⟩ := lo_good G.out G2.out G3.out g4
              have E1 := Lib.hid e1
              have E2 := Lib.hid e2
              clear e1 e2 g4
              go_wp2
              go_ret2
              rw [E2.out, E1.out]
              exact ⟨B, c', rfl, bth hb b3, hs.below b3, ho.below b3, fun a ha _ => hbk a ha⟩
end Go.Proofs.Ythnoknmijelcmaa
