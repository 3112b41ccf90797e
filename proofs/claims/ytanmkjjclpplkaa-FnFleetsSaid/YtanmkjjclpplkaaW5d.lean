/- FloatsOver of both texts: what it returns. Lists of at most 1048576 craft. -/
import Derived.Test.YtanmkjjclpplkaaW5c
import Derived.Test.YtanmkjjclpplkaaInts
import Derived.Test.YtanmkjjclpplkaaOut2
set_option linter.unusedVariables false
set_option linter.unusedSimpArgs false
namespace Go.Proofs.Ytanmkjjclpplkaa
open Go.RowKit
set_option maxHeartbeats 4000000
set_option maxRecDepth 100000
theorem infoJ : (Try.prog.info? 3).map (fun i => (i.zero, i.size, i.bytes)) = some (some (.int .i64 0), 1, 8) := by kernel_rfl
theorem sDep5 (n : Int) (w : World) :
    Calls Try.prog 34 #[.int .i64 n] w fun e w' => e = .returned (.bool (inB n (-1000) 20000)) ∧ w = w' := by
  go_enter Try.func34, Try.ntmps34
  go_wp2_with (go_at_call 35; refine (specIn _ _ _ _).mono ?_; rintro e w' ⟨rfl, rfl⟩)
  go_ret
  exact ⟨rfl, rfl⟩
theorem iDep5 (n : Int) (w : World) :
    Calls Try.prog 37 #[.int .i64 n] w fun e w' => e = .returned (.bool (inB n (-1000) 20000)) ∧ w = w' := by
  go_enter Try.func37, Try.ntmps37
  go_wp2_with (go_at_call 38; refine (implIn _ _ _ _).mono ?_; rintro e w' ⟨rfl, rfl⟩)
  go_ret
  exact ⟨rfl, rfl⟩
theorem sFloats (A : Option Addr) (c : Nat) (l : List Cr) (d u : Int) (w : World) (h : Sl 7 Cr.enc w A l) (hn : l.length ≤ 1048576) (hq : NmS l) (_hc : l.length ≤ c) :
    Calls Try.prog 7 #[.slice A l.length c, .int .i64 d, .int .i64 u] w (retL 1 encI w (flL l d u) (flOk l d u)) := by
  go_enter Try.func7, Try.ntmps7
  go_wp2_with (fail)
  generalize hW : World.alloc w _ = W1
  have hO : OutS 1 encI w.heap.size 3 W1 (.slice (some ⟨w.heap.size, 0, none⟩) 0 0) ([] : List Int) := by rw [← hW]; exact OutS.empty (Nat.le_refl _)
  have b1 : Below w.heap.size w W1 := by rw [← hW]; exact below_alloc _ _
  clear hW
  refine (s5Good A c l _ (h.below b1) hn hq).mono ?_; rintro e w2 ⟨rfl, b2⟩
  have O2 := hO.below b2
  have b2 := bth b1 b2
  clear hO b1
  cases g : crsGood l with
  | false =>
    obtain ⟨e1, e2⟩ := fl_bad (l := l) (d := d) (u := u) (.inl g)
    have E1 := Lib.hid e1
    have E2 := Lib.hid e2
    clear e1 e2 g
    go_wp2_with (fail)
    go_ret2
    rw [E2.out, E1.out]
    exact ⟨_, _, rfl, Fr.nil b2⟩
  | true =>
    go_wp2_with (fail)
    refine (sDep5 d _).mono ?_; rintro e w' ⟨rfl, rfl⟩
    cases g2 : inB d (-1000) 20000 with
    | false =>
      obtain ⟨e1, e2⟩ := fl_bad (l := l) (d := d) (u := u) (.inr (.inl g2))
      have E1 := Lib.hid e1
      have E2 := Lib.hid e2
      clear e1 e2 g g2
      go_wp2_with (fail)
      go_ret2
      rw [E2.out, E1.out]
      exact ⟨_, _, rfl, Fr.nil b2⟩
    | true =>
      go_wp2_with (fail)
      refine (specIn u 0 500 _).mono ?_; rintro e w' ⟨rfl, rfl⟩
      cases g3 : inB u 0 500 with
      | false =>
        obtain ⟨e1, e2⟩ := fl_bad (l := l) (d := d) (u := u) (.inr (.inr g3))
        have E1 := Lib.hid e1
        have E2 := Lib.hid e2
        clear e1 e2 g g2 g3
        go_wp2_with (fail)
        go_ret2
        rw [E2.out, E1.out]
        exact ⟨_, _, rfl, Fr.nil b2⟩
      | true =>
        obtain ⟨e1, e2⟩ := fl_good g g2 g3
        have E1 := Lib.hid e1
        have E2 := Lib.hid e2
        have G := Lib.hid g
        have hu := inB_true.1 g3
        have h6 := crsGood_len g
        clear e1 e2 g g2 g3
        go_wp2_with (fail)
        go_loopw [8, 9] (fun v i wr => ∃ k : Nat, k ≤ l.length ∧ i = .int .i64 k ∧ Hid (OutS 1 encI w.heap.size 3 wr v (flK l d u k)) ∧ Below w.heap.size w wr) (fun _ i _ => l.length - (intOf i).toNat)
        case atStart => exact ⟨0, Nat.zero_le _, rfl, O2, b2⟩
        case round =>
          clear O2
          obtain ⟨k, hk, rfl, HO, C⟩ := hrel
          by_cases hlt : k < l.length
          · obtain ⟨b, off, rfl⟩ := h.addr (by omega)
            obtain ⟨hbl, c0, c1, c2, c3, c4, c5, c6⟩ := Cr.get (h.below C) hlt
            have bk := crOk_bd (crsGood_at G.out hlt)
            have wr1 : IntKind.i64.wrap (l[k].draught + u) = l[k].draught + u := IntWalk.i64_in _ (by omega)
            by_cases hd : l[k].draught + u ≤ d
            · have HT := Lib.hid (flK_yes hlt hd)
              go_wp2_with (at_builtin; refine wp_app (K := 1) (bytes := 8) (enc := encI) encI_len encI_one (by decide) (by decide) _ rfl (.tmp 40) (.tmp 46) _ rfl Try.underlying24 infoJ rfl _ _ rfl (HO.out.below (by go_grown)) l[k].id _ rfl (by intro j u hu; exact app_cell (by simp) hu) (by have := flK_len l d u k; omega) (by have := C.size; simp; omega) ?_; intro v' W4 hO2 hg2 hb4)
              refine ⟨⟨k + 1, by omega, by go_num, (by rw [HT.out]; exact hO2 : OutS 1 encI w.heap.size 3 W4 v' (flK l d u (k + 1))), (bth C (by go_grown : Below wr.heap.size wr _)).trans hb4⟩, by simp [intOf]; omega⟩
            · have HT := Lib.hid (flK_no hlt hd)
              have hd' : d < l[k].draught + u := by omega
              go_wp2_with (fail)
              go_roundw
              case rel => exact ⟨k + 1, by omega, by go_num, (by rw [HT.out]; exact HO.out.below (by go_grown) : OutS 1 encI w.heap.size 3 _ _ (flK l d u (k + 1))), bth C (by go_grown)⟩
              case measure => simp [intOf]; omega
          · obtain rfl : k = l.length := by omega
            obtain ⟨B, c', hv, _, hs', ho, hbk⟩ := HO.out.sl encI_len
            subst hv
            go_wp2_with (fail)
            go_ret2
            rw [E2.out, E1.out]
            exact ⟨B, c', rfl, C, hs', ho, fun a ha _ => hbk a ha⟩
theorem iFloats (A : Option Addr) (c : Nat) (l : List Cr) (d u : Int) (w : World) (h : Sl 7 Cr.enc w A l) (hn : l.length ≤ 1048576) (hq : NmS l) (hc : l.length ≤ c) :
    Calls Try.prog 9 #[.slice A l.length c, .int .i64 d, .int .i64 u] w (retL 1 encI w (flL l d u) (flOk l d u)) := by
  go_enter Try.func9, Try.ntmps9
  go_wp2_with (fail)
  refine (i5Good A c l _ h hn hq hc).mono ?_; rintro e w2 ⟨rfl, b2⟩
  cases g : crsGood l with
  | false =>
    obtain ⟨e1, e2⟩ := fl_bad (l := l) (d := d) (u := u) (.inl g)
    have E1 := Lib.hid e1
    have E2 := Lib.hid e2
    clear e1 e2 g
    go_wp2_with (fail)
    go_ret2
    rw [E2.out, E1.out]
    exact ⟨_, _, rfl, Fr.nil b2⟩
  | true =>
    go_wp2_with (fail)
    refine (iDep5 d _).mono ?_; rintro e w' ⟨rfl, rfl⟩
    cases g2 : inB d (-1000) 20000 with
    | false =>
      obtain ⟨e1, e2⟩ := fl_bad (l := l) (d := d) (u := u) (.inr (.inl g2))
      have E1 := Lib.hid e1
      have E2 := Lib.hid e2
      clear e1 e2 g g2
      go_wp2_with (fail)
      go_ret2
      rw [E2.out, E1.out]
      exact ⟨_, _, rfl, Fr.nil b2⟩
    | true =>
      go_wp2_with (fail)
      refine (implIn u 0 500 _).mono ?_; rintro e w' ⟨rfl, rfl⟩
      cases g3 : inB u 0 500 with
      | false =>
        obtain ⟨e1, e2⟩ := fl_bad (l := l) (d := d) (u := u) (.inr (.inr g3))
        have E1 := Lib.hid e1
        have E2 := Lib.hid e2
        clear e1 e2 g g2 g3
        go_wp2_with (fail)
        go_ret2
        rw [E2.out, E1.out]
        exact ⟨_, _, rfl, Fr.nil b2⟩
      | true =>
        obtain ⟨e1, e2⟩ := fl_good g g2 g3
        have E1 := Lib.hid e1
        have E2 := Lib.hid e2
        have G := Lib.hid g
        have hu := inB_true.1 g3
        have h6 := crsGood_len g
        clear e1 e2 g g2 g3
        go_wp2_with (fail)
        generalize hW : World.alloc w2 _ = W1
        have O2 : OutS 1 encI w.heap.size 3 W1 (.slice (some ⟨w2.heap.size, 0, none⟩) 0 0) ([] : List Int) := by rw [← hW]; exact OutS.empty b2.size
        have b3 : Below w.heap.size w W1 := by rw [← hW]; exact bth b2 (below_alloc _ _)
        clear hW
        go_loopw [8, 27] (fun v i wr => ∃ k : Nat, k ≤ l.length ∧ i = .int .i64 k ∧ Hid (OutS 1 encI w.heap.size 3 wr v (flK l d u k)) ∧ Below w.heap.size w wr) (fun _ i _ => l.length - (intOf i).toNat)
        case atStart => exact ⟨0, Nat.zero_le _, rfl, O2, b3⟩
        case round =>
          clear O2
          obtain ⟨k, hk, rfl, HO, C⟩ := hrel
          by_cases hlt : k < l.length
          · obtain ⟨b, off, rfl⟩ := h.addr (by omega)
            obtain ⟨hbl, c0, c1, c2, c3, c4, c5, c6⟩ := Cr.get (h.below C) hlt
            have bk := crOk_bd (crsGood_at G.out hlt)
            have wr1 : IntKind.i64.wrap (l[k].draught + u) = l[k].draught + u := IntWalk.i64_in _ (by omega)
            by_cases hd : l[k].draught + u ≤ d
            · have HT := Lib.hid (flK_yes hlt hd)
              go_wp2_with (at_builtin; refine wp_app (K := 1) (bytes := 8) (enc := encI) encI_len encI_one (by decide) (by decide) _ rfl (.tmp 37) (.tmp 40) _ rfl Try.underlying24 infoJ rfl _ _ rfl (HO.out.below (by go_grown)) l[k].id _ rfl (by intro j u hu; exact app_cell (by simp) hu) (by have := flK_len l d u k; omega) (by have := C.size; simp; omega) ?_; intro v' W4 hO2 hg2 hb4)
              refine ⟨⟨k + 1, by omega, by go_num, (by rw [HT.out]; exact hO2 : OutS 1 encI w.heap.size 3 W4 v' (flK l d u (k + 1))), (bth C (by go_grown : Below wr.heap.size wr _)).trans hb4⟩, by simp [intOf]; omega⟩
            · have HT := Lib.hid (flK_no hlt hd)
              have hd' : d < l[k].draught + u := by omega
              go_wp2_with (fail)
              go_roundw
              case rel => exact ⟨k + 1, by omega, by go_num, (by rw [HT.out]; exact HO.out.below (by go_grown) : OutS 1 encI w.heap.size 3 _ _ (flK l d u (k + 1))), bth C (by go_grown)⟩
              case measure => simp [intOf]; omega
          · obtain rfl : k = l.length := by omega
            obtain ⟨B, c', hv, _, hs', ho, hbk⟩ := HO.out.sl encI_len
            subst hv
            go_wp2_with (fail)
            go_ret2
            rw [E2.out, E1.out]
            exact ⟨B, c', rfl, C, hs', ho, fun a ha _ => hbk a ha⟩
end Go.Proofs.Ytanmkjjclpplkaa
