/- The draw of lines: some list of at most ten; it changes the cursor alone. -/
import Derived.Test.YtdphaejpponmeaaDrL
import Derived.Test.YtdphaejpponmeaaDr5
import Derived.Test.YtdphaejpponmeaaW9i
set_option linter.unusedVariables false
set_option linter.unusedSimpArgs false
namespace Go.Proofs.Ytdphaejpponmeaa
open Go.RowKit
set_option maxHeartbeats 4000000
set_option maxRecDepth 100000
theorem dLines {p B : Nat} {q : Cd} {m : Nat} {w0 w5 w : World} (h : Dr p B q m w0 w5) (hg : Below w5.heap.size w5 w) (hm : m ≤ 700000000) :
    Calls Try.prog 88 #[.pointer (some ⟨p, 0, none⟩)] w (drL 5 Ln.enc 10 p B q (m + 500) w0 w) := by
  have h := h.grown hg
  have hp := h.lt
  clear hg
  go_enter Try.func88, Try.ntmps88
  go_upto_region 2 with (fail)
  generalize hW : World.alloc w _ = W1
  have hO : OutS 5 Ln.enc w.heap.size 61 W1 (.slice (some ⟨w.heap.size, 0, none⟩) 0 0) ([] : List Ln) := by rw [← hW]; exact OutS.empty (Nat.le_refl _)
  have b1 : Below w.heap.size w W1 := by rw [← hW]; exact below_alloc _ _
  clear hW
  go_wp2_with (fail)
  go_loopw [3, 4] (fun v i wr => ∃ (l : List Ln) (k : Nat), 1 ≤ k ∧ k ≤ 7 ∧ l.length + 1 ≤ k ∧ i = .int .i64 k ∧ Hid (OutS 5 Ln.enc w.heap.size 61 wr v l) ∧ Dr p B q (m + 20 * k) w0 wr ∧ LB p w.heap.size w wr) (fun _ i _ => 7 - (intOf i).toNat)
  case atStart => exact ⟨[], 1, by omega, by omega, by simp, rfl, hO, (h.grown b1).mono (by omega), LB.of b1⟩
  case round =>
    clear hO b1
    obtain ⟨l, k, hk1, hk9, hlk, rfl, HO, D, L⟩ := hrel
    by_cases hlt : k < 7
    · go_wp2_with (fail)
      refine (dOne D (Below.refl _ _) (by omega) _ (by omega)).mono ?_; rintro e w2 ⟨o, rfl, D2, l2⟩
      have O2 := HO.out.next (Below.refl _ _) l2 hp
      have L2 := L.next (Below.refl _ _) l2
      clear HO D L l2
      cases o with
      | false =>
        go_wp2_with (fail)
        refine (dAmongN D2 (Below.refl _ _) (by omega) rfl (by decide) (by decide) (by simp) (by simp [isI])).mono ?_; rintro e w3 ⟨z1, rfl, -, Dz1, lz1⟩
        have Oz1 := O2.next (below_alloc _ _) lz1 hp
        have Lz1 := L2.next (below_alloc _ _) lz1
        clear D2 O2 L2 lz1
        go_wp2_with (fail)
        refine (dAmongN Dz1 (Below.refl _ _) (by omega) rfl (by decide) (by decide) (by simp) (by simp [isI])).mono ?_; rintro e w4 ⟨z2, rfl, -, Dz2, lz2⟩
        have Oz2 := Oz1.next (below_alloc _ _) lz2 hp
        have Lz2 := Lz1.next (below_alloc _ _) lz2
        clear Dz1 Oz1 Lz1 lz2
        go_wp2_with (fail)
        refine (dAmongN Dz2 (Below.refl _ _) (by omega) rfl (by decide) (by decide) (by simp) (by simp [isI])).mono ?_; rintro e w5 ⟨z3, rfl, -, Dz3, lz3⟩
        have Oz3 := Oz2.next (below_alloc _ _) lz3 hp
        have Lz3 := Lz2.next (below_alloc _ _) lz3
        clear Dz2 Oz2 Lz2 lz3
        go_wp2_with (fail)
        refine (dAmongN Dz3 (Below.refl _ _) (by omega) rfl (by decide) (by decide) (by simp) (by simp [isI])).mono ?_; rintro e w6 ⟨z4, rfl, -, Dz4, lz4⟩
        have Oz4 := Oz3.next (below_alloc _ _) lz4 hp
        have Lz4 := Lz3.next (below_alloc _ _) lz4
        clear Dz3 Oz3 Lz3 lz4
        have hz3 := Lz4.size
        go_wp2_with (at_builtin; refine wp_app (K := 5) (bytes := 40) (enc := Ln.enc) Ln.len Ln.one (by decide) (by decide) _ rfl (.tmp 16) (.tmp 34) _ rfl Try.underlying32 infoLnI rfl _ _ rfl (Oz4.below (by go_grown)) ⟨5 * (k : Int), z2, z1, wrap64 (z1 + z3), z4⟩ _ rfl (by intro j u hu; exact app_cell (by simp) hu) (by omega) (by simp; omega) ?_; intro v' W4 hO2 hg2 hb4)
        have b4 : Below w.heap.size w6 W4 := (Below.mono (by go_grown : Below w6.heap.size w6 _) hz3).trans hb4
        refine ⟨⟨l ++ [⟨5 * (k : Int), z2, z1, wrap64 (z1 + z3), z4⟩], k + 1, by omega, by omega, by simp; omega, by go_num, Lib.hid hO2, (Dz4.belowB b4 hp).mono (by omega), Lz4.trans (LB.of b4)⟩, by simp [intOf]; omega⟩
      | true =>
        go_wp2_with (fail)
        go_roundw
        case rel => exact ⟨l, k + 1, by omega, by omega, by omega, by go_num, Lib.hid O2, D2.mono (by omega), L2⟩
        case measure => simp [intOf]; omega
    · obtain rfl : k = 7 := by omega
      have hll : l.length ≤ 6 := by omega
      go_wp2_with (fail)
      refine (dPick D (Below.refl _ _) (by omega) _ (by omega)).mono ?_; rintro e w2 ⟨r2, rfl, hr2, D2, l2⟩
      have O2 := HO.out.next (Below.refl _ _) l2 hp
      have L2 := L.next (Below.refl _ _) l2
      clear HO D L l2
      by_cases c0 : r2 = 0
      · subst c0
        go_wp2_with (fail)
        refine (dAmongN D2 (Below.refl _ _) (by omega) rfl (by decide) (by decide) (by simp) (by simp [isI])).mono ?_; rintro e w3 ⟨z1, rfl, -, Dz1, lz1⟩
        have Oz1 := O2.next (below_alloc _ _) lz1 hp
        have Lz1 := L2.next (below_alloc _ _) lz1
        clear D2 O2 L2 lz1
        go_wp2_with (fail)
        refine (dAmongN Dz1 (Below.refl _ _) (by omega) rfl (by decide) (by decide) (by simp) (by simp [isI])).mono ?_; rintro e w4 ⟨z2, rfl, -, Dz2, lz2⟩
        have Oz2 := Oz1.next (below_alloc _ _) lz2 hp
        have Lz2 := Lz1.next (below_alloc _ _) lz2
        clear Dz1 Oz1 Lz1 lz2
        go_wp2_with (fail)
        refine (dAmongN Dz2 (Below.refl _ _) (by omega) rfl (by decide) (by decide) (by simp) (by simp [isI])).mono ?_; rintro e w5 ⟨z3, rfl, -, Dz3, lz3⟩
        have Oz3 := Oz2.next (below_alloc _ _) lz3 hp
        have Lz3 := Lz2.next (below_alloc _ _) lz3
        clear Dz2 Oz2 Lz2 lz3
        go_wp2_with (fail)
        refine (dAmongN Dz3 (Below.refl _ _) (by omega) rfl (by decide) (by decide) (by simp) (by simp [isI])).mono ?_; rintro e w6 ⟨z4, rfl, -, Dz4, lz4⟩
        have Oz4 := Oz3.next (below_alloc _ _) lz4 hp
        have Lz4 := Lz3.next (below_alloc _ _) lz4
        clear Dz3 Oz3 Lz3 lz4
        have hz3 := Lz4.size
        go_wp2_with (at_builtin; refine wp_app (K := 5) (bytes := 40) (enc := Ln.enc) Ln.len Ln.one (by decide) (by decide) _ rfl (.tmp 40) (.tmp 54) _ rfl Try.underlying32 infoLnI rfl _ _ rfl (Oz4.below (by go_grown)) ⟨z1, z2, 0, z3, z4⟩ _ rfl (by intro j u hu; exact app_cell (by simp) hu) (by omega) (by simp; omega) ?_; intro v' W4 hO2 hg2 hb4)
        have b5 : Below w.heap.size w6 W4 := (Below.mono (by go_grown : Below w6.heap.size w6 _) hz3).trans hb4
        go_wp2_with (fail)
        go_ret
        exact drL_out hO2 Ln.len (by simp; omega) (Dz4.belowB b5 hp) (by omega) (Lz4.trans (LB.of b5))
      · by_cases c1 : r2 = 1
        · subst c1
          go_wp2_with (fail)
          go_loopw [3] (fun v wr => ∃ (l : List Ln), l.length ≤ 9 ∧ Hid (OutS 5 Ln.enc w.heap.size 61 wr v l) ∧ Dr p B q (m + 200 + 2 * l.length) w0 wr ∧ LB p w.heap.size w wr) (fun v _ => 9 - lenV v)
          case atStart => exact ⟨l, by omega, O2, D2.mono (by omega), L2⟩
          case round =>
            clear D2 O2 L2 hll hk1 hk9 hlk
            obtain ⟨l, hl6, HO, D, L⟩ := hrel
            obtain ⟨A, c', hv, hcl, _, _, _⟩ := HO.out.sl Ln.len
            subst hv
            go_wp2_with (fail)
            refine (dPick D (Below.refl _ _) (by omega) _ (by omega)).mono ?_; rintro e w3 ⟨r3, rfl, hr3, D3, l3⟩
            have O3 := HO.out.next (Below.refl _ _) l3 hp
            have L3 := L.next (Below.refl _ _) l3
            have hz3 := L3.size
            clear HO D L l3
            by_cases hlt2 : (l.length : Int) < 8 + r3
            · go_wp2_with (at_builtin; refine wp_app (K := 5) (bytes := 40) (enc := Ln.enc) Ln.len Ln.one (by decide) (by decide) _ rfl (.tmp 64) (.tmp 69) _ rfl Try.underlying32 infoLnI rfl _ _ rfl (O3.below (by go_grown)) ⟨50 + (l.length : Int), 100, 0, 500, 50⟩ _ rfl (by intro j u hu; exact app_cell (by simp) hu) (by omega) (by simp; omega) ?_; intro v' W4 hO2 hg2 hb4)
              have b4 : Below w.heap.size w3 W4 := (Below.mono (by go_grown : Below w3.heap.size w3 _) hz3).trans hb4
              obtain ⟨A2, c2, hv2, _⟩ := hO2.sl Ln.len
              refine ⟨⟨l ++ [⟨50 + (l.length : Int), 100, 0, 500, 50⟩], by simp; omega, Lib.hid hO2, (D3.belowB b4 hp).mono (by simp; omega), L3.trans (LB.of b4)⟩, by rw [hv2]; simp [lenV]; omega⟩
            · go_wp2_with (fail)
              go_ret
              exact drL_out O3 Ln.len (by omega) D3 (by omega) L3
        · have i0 : r2 ≠ 0 := c0
          obtain ⟨A, c', rfl, hcl, hs, ho, hbk⟩ := O2.sl Ln.len
          go_wp2_with (fail)
          go_ret
          exact drL_out O2 Ln.len (by omega) D2 (by omega) L2
end Go.Proofs.Ytdphaejpponmeaa
