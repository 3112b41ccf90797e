/- The draw of soundings: some list of at most fourteen; it changes the cursor alone. -/
import Derived.Test.YtllionelhbjadaaDoorDr6
set_option linter.unusedVariables false
set_option linter.unusedSimpArgs false
namespace Go.Proofs.YtllionelhbjadaaDoor
open Go.RowKit
set_option maxHeartbeats 4000000
set_option maxRecDepth 100000
theorem infoSd : (Tryd.prog.info? 30).map (fun i => (i.zero, i.size, i.bytes)) = some (some (.agg #[.int .i64 0, .int .i64 0, .int .i64 0, .int .i64 0, .int .i64 0]), 5, 40) := by kernel_rfl
theorem dSoundings {p B : Nat} {q : Cd} {m : Nat} {w0 w5 w : World} (h : Dr p B q m w0 w5) (hg : Below w5.heap.size w5 w) (hm : m ≤ 700000000) :
    Calls Tryd.prog 41 #[.pointer (some ⟨p, 0, none⟩)] w (drL 5 Sd.enc 14 p B q (m + 1000) w0 w) := by
  have h := h.grown hg
  have hp := h.lt
  clear hg
  go_enter Tryd.func41, Tryd.ntmps41
  go_upto_region 2 with (fail)
  generalize hW : World.alloc w _ = W1
  have hO : OutS 5 Sd.enc w.heap.size 30 W1 (.slice (some ⟨w.heap.size, 0, none⟩) 0 0) ([] : List Sd) := by rw [← hW]; exact OutS.empty (Nat.le_refl _)
  have b1 : Below w.heap.size w W1 := by rw [← hW]; exact below_alloc _ _
  clear hW
  go_wp2_with (fail)
  go_loopw [3, 4] (fun v i wr => ∃ (l : List Sd) (k : Nat), 1 ≤ k ∧ k ≤ 9 ∧ l.length + 1 ≤ k ∧ i = .int .i64 k ∧ Hid (OutS 5 Sd.enc w.heap.size 30 wr v l) ∧ Dr p B q (m + 50 * k) w0 wr ∧ LB p w.heap.size w wr) (fun _ i _ => 9 - (intOf i).toNat)
  case atStart => exact ⟨[], 1, by omega, by omega, by simp, rfl, hO, (h.grown b1).mono (by omega), LB.of b1⟩
  case round =>
    clear hO b1
    obtain ⟨l, k, hk1, hk9, hlk, rfl, HO, D, L⟩ := hrel
    by_cases hlt : k < 9
    · go_wp2_with (fail)
      refine (dOne D (Below.refl _ _) (by omega) _ (by omega)).mono ?_; rintro e w2 ⟨o, rfl, D2, l2⟩
      have O2 := HO.out.next (Below.refl _ _) l2 hp
      have L2 := L.next (Below.refl _ _) l2
      clear HO D L l2
      cases o with
      | true =>
        go_wp2_with (fail)
        refine (dSounding D2 (Below.refl _ _) (by omega) _).mono ?_; rintro e w3 ⟨s, rfl, D3, l3⟩
        have O3 := O2.next (Below.refl _ _) l3 hp
        have L3 := L2.next (Below.refl _ _) l3
        have hz3 := L3.size
        clear D2 O2 L2 l3
        go_wp2_with (at_builtin; refine wp_app (K := 5) (bytes := 40) (enc := Sd.enc) Sd.len Sd.one (by decide) (by decide) _ rfl (.tmp 12) (.tmp 17) _ rfl Tryd.underlying42 infoSd rfl _ _ rfl (O3.below (by go_grown)) s _ rfl (by intro j u hu; exact app_cell (by simp) hu) (by omega) (by simp; omega) ?_; intro v' W4 hO2 hg2 hb4)
        have b4 : Below w.heap.size w3 W4 := (Below.mono (by go_grown : Below w3.heap.size w3 _) hz3).trans hb4
        refine ⟨⟨l ++ [s], k + 1, by omega, by omega, by simp; omega, by go_num, Lib.hid hO2, (D3.belowB b4 hp).mono (by omega), L3.trans (LB.of b4)⟩, by simp [intOf]; omega⟩
      | false =>
        go_wp2_with (fail)
        go_roundw
        case rel => exact ⟨l, k + 1, by omega, by omega, by omega, by go_num, Lib.hid O2, D2.mono (by omega), L2⟩
        case measure => simp [intOf]; omega
    · obtain rfl : k = 9 := by omega
      have hll : l.length ≤ 8 := by omega
      go_wp2_with (fail)
      refine (dPick D (Below.refl _ _) (by omega) _ (by omega)).mono ?_; rintro e w2 ⟨r2, rfl, hr2, D2, l2⟩
      have O2 := HO.out.next (Below.refl _ _) l2 hp
      have L2 := L.next (Below.refl _ _) l2
      clear HO D L l2
      by_cases c0 : r2 = 0
      · subst c0
        go_wp2_with (fail)
        refine (dAmongN D2 (Below.refl _ _) (by omega) rfl (by decide) (by decide) (by simp) (by simp [isI])).mono ?_; rintro e w3 ⟨z1, rfl, -, D3, l3⟩
        have O3 := O2.next (below_alloc _ _) l3 hp
        have L3 := L2.next (below_alloc _ _) l3
        clear D2 O2 L2 l3
        go_wp2_with (fail)
        refine (dSounding D3 (Below.refl _ _) (by omega) _).mono ?_; rintro e w4 ⟨s, rfl, D4, l4⟩
        have O4 := O3.next (Below.refl _ _) l4 hp
        have L4 := L3.next (Below.refl _ _) l4
        have hz4 := L4.size
        clear D3 O3 L3 l4
        go_wp2_with (at_builtin; refine wp_app (K := 5) (bytes := 40) (enc := Sd.enc) Sd.len Sd.one (by decide) (by decide) _ rfl (.tmp 23) (.tmp 29) _ rfl Tryd.underlying42 infoSd rfl _ _ rfl (O4.below (by go_grown)) s _ rfl (by intro j u hu; exact app_cell (by simp) hu) (by omega) (by simp; omega) ?_; intro v' W4 hO2 hg2 hb4)
        have b5 : Below w.heap.size w4 W4 := (Below.mono (by go_grown : Below w4.heap.size w4 _) hz4).trans hb4
        go_wp2_with (fail)
        go_ret
        exact drL_out hO2 Sd.len (by simp; omega) (D4.belowB b5 hp) (by omega) (L4.trans (LB.of b5))
      · by_cases c1 : r2 = 1
        · subst c1
          go_wp2_with (fail)
          go_loopw [3] (fun v wr => ∃ (l : List Sd), l.length ≤ 13 ∧ Hid (OutS 5 Sd.enc w.heap.size 30 wr v l) ∧ Dr p B q (m + 500 + 2 * l.length) w0 wr ∧ LB p w.heap.size w wr) (fun v _ => 13 - lenV v)
          case atStart => exact ⟨l, by omega, O2, D2.mono (by omega), L2⟩
          case round =>
            clear D2 O2 L2 hll hk1 hk9 hlk
            obtain ⟨l, hl6, HO, D, L⟩ := hrel
            obtain ⟨A, c', hv, hcl, _, _, _⟩ := HO.out.sl Sd.len
            subst hv
            go_wp2_with (fail)
            refine (dPick D (Below.refl _ _) (by omega) _ (by omega)).mono ?_; rintro e w3 ⟨r3, rfl, hr3, D3, l3⟩
            have O3 := HO.out.next (Below.refl _ _) l3 hp
            have L3 := L.next (Below.refl _ _) l3
            have hz3 := L3.size
            clear HO D L l3
            by_cases hlt2 : (l.length : Int) < 12 + r3
            · go_wp2_with (at_builtin; refine wp_app (K := 5) (bytes := 40) (enc := Sd.enc) Sd.len Sd.one (by decide) (by decide) _ rfl (.tmp 39) (.tmp 44) _ rfl Tryd.underlying42 infoSd rfl _ _ rfl (O3.below (by go_grown)) ⟨100 + (l.length : Int), 0, 0, 800, 0⟩ _ rfl (by intro j u hu; exact app_cell (by simp) hu) (by omega) (by simp; omega) ?_; intro v' W4 hO2 hg2 hb4)
              have b4 : Below w.heap.size w3 W4 := (Below.mono (by go_grown : Below w3.heap.size w3 _) hz3).trans hb4
              obtain ⟨A2, c2, hv2, _⟩ := hO2.sl Sd.len
              refine ⟨⟨l ++ [⟨100 + (l.length : Int), 0, 0, 800, 0⟩], by simp; omega, Lib.hid hO2, (D3.belowB b4 hp).mono (by simp; omega), L3.trans (LB.of b4)⟩, by rw [hv2]; simp [lenV]; omega⟩
            · go_wp2_with (fail)
              go_ret
              exact drL_out O3 Sd.len (by omega) D3 (by omega) L3
        · have i0 : r2 ≠ 0 := c0
          obtain ⟨A, c', rfl, hcl, hs, ho, hbk⟩ := O2.sl Sd.len
          go_wp2_with (fail)
          go_ret
          exact drL_out O2 Sd.len (by omega) D2 (by omega) L2
end Go.Proofs.YtllionelhbjadaaDoor
