/- The order in which the reference sails lines: it returns memory that holds the lines sorted by Y, equals as they stood. At most eight lines. -/
import Derived.Test.YtdphaejpponmeaaP9f
import Derived.Test.YtdphaejpponmeaaW9i
import Derived.Test.YtdphaejpponmeaaOut4
import Derived.Deep.RegionHeld3
import Derived.Deep.Cut
set_option linter.unusedVariables false
set_option linter.unusedSimpArgs false
namespace Go.Proofs.Ytdphaejpponmeaa
open Go.RowKit
set_option maxHeartbeats 16000000
set_option maxRecDepth 100000
theorem lni_in {l : List Ln} {k : Nat} (h : k < l.length) : lni l k = l[k] := lni_of h
theorem posK_go {x : Ln} {l : List Ln} {j : Nat} (h : x.y < (lni l j).y) : posK x l (j + 1) = posK x l j := by rw [posK, if_pos h]
theorem posK_stop {x : Ln} {l : List Ln} {j : Nat} (h : ¬ x.y < (lni l j).y) : posK x l (j + 1) = j + 1 := by rw [posK, if_neg h]
theorem OutS.lower {α : Type} {K base base' e : Nat} {enc : α → List Value} {w : World} {v : Value} {l : List α} (h : OutS K enc base e w v l) (hb : base' ≤ base) : OutS K enc base' e w v l := by
  refine ⟨h.1, ?_⟩
  rcases h.2 with h0 | ⟨g, cap, cur, hv, hg, r⟩
  · exact .inl h0
  · exact .inr ⟨g, cap, cur, hv, by omega, r⟩
theorem Sl.take9 {w : World} {A : Option Addr} {l : List Ln} (h : Sl 5 Ln.enc w A l) (k : Nat) : Sl 5 Ln.enc w A (l.take k) := fun hl => by
  obtain ⟨b, off, e, hlt, hc⟩ := h (by simp at hl; omega)
  exact ⟨b, off, e, hlt, fun i x hx => hc i x (by
    rw [List.getElem?_take] at hx
    split at hx
    · exact hx
    · cases hx)⟩
theorem Sl.drop9 {w : World} {b off : Nat} {l : List Ln} (h : Sl 5 Ln.enc w (some ⟨b, off, none⟩) l) (k : Nat) : Sl 5 Ln.enc w (some ⟨b, off + k * 5, none⟩) (l.drop k) := fun hl => by
  obtain ⟨b', off', e, hlt, hc⟩ := h (by simp at hl; omega)
  injection e with e; injection e with e1 e2
  subst e1 e2
  refine ⟨b, off + k * 5, rfl, hlt, fun i x hx j v hv => ?_⟩
  rw [List.getElem?_drop] at hx
  have := hc (k + i) x hx j v hv
  rw [show off + (k + i) * 5 + j = off + k * 5 + i * 5 + j by omega] at this
  exact this
theorem OutS.empty' {α : Type} {K base e g : Nat} {enc : α → List Value} {w : World} (hg : g = w.heap.size) (hb : base ≤ g) : OutS (α := α) K enc base e (w.alloc (.cells #[] e)) (.slice (some ⟨g, 0, none⟩) 0 0) [] := by
  subst hg; exact OutS.empty hb
theorem grown_cell {w w' : World} {row : Option Nat} (h : w.grownBy w' row) {g : Nat} (hg : g < w.heap.size) (hne : row ≠ some g) (j : Nat) : w'.cell? ⟨g, j, none⟩ = w.cell? ⟨g, j, none⟩ :=
  World.cell?_of_block (w := w) (h.block g hg (fun e => hne e.symm))
theorem sOrd (A : Option Addr) (c : Nat) (l : List Ln) (w : World) (h : Sl 5 Ln.enc w A l) (hn : l.length ≤ 8) :
    Calls Try.prog 82 #[.slice A l.length c] w fun e w' => ∃ (A' : Option Addr) (c' : Nat), e = .returned (.slice A' (ordL l).length c') ∧ Sl 5 Ln.enc w' A' (ordL l) ∧ Below w.heap.size w w' ∧ ∀ a, A' = some a → w.heap.size ≤ a.block := by
  go_enter Try.func82, Try.ntmps82
  go_wp2_with (fail)
  generalize hW : World.alloc w _ = W1
  have hO : OutS 5 Ln.enc w.heap.size 61 W1 (.slice (some ⟨w.heap.size, 0, none⟩) 0 0) ([] : List Ln) := by rw [← hW]; exact OutS.empty (Nat.le_refl _)
  have b1 : Below w.heap.size w W1 := by rw [← hW]; exact below_alloc _ _
  clear hW
  go_loopw [3, 4] (fun v i wr => ∃ k bu ou c' : Nat, k ≤ l.length ∧ k ≤ c' ∧ i = .int .i64 k ∧ v = .slice (some ⟨bu, ou, none⟩) k c' ∧ Hid (OutS 5 Ln.enc w.heap.size 61 wr (.slice (some ⟨bu, ou, none⟩) k c') (ordK l k)) ∧ Below w.heap.size w wr) (fun _ i _ => l.length - (intOf i).toNat)
  case atStart => exact ⟨0, _, _, _, Nat.zero_le _, Nat.zero_le _, rfl, rfl, hO, b1⟩
  case round =>
    clear hO b1
    obtain ⟨k, bu, ou, c', hk, hkc, rfl, rfl, HO, hb⟩ := hrel
    obtain ⟨B, c2, hv, _, hs, _, hbk⟩ := HO.out.sl Ln.len
    injection hv with e1 e2 e3
    subst e1
    clear e2 e3
    have KLH := Lib.hid (ordK_len l k)
    by_cases hlt : k < l.length
    · have hl0 := h.below hb
      obtain ⟨bl, ol, rfl⟩ := h.addr (by omega)
      have u1 : (0 : Int) ≤ (k : Int) := by omega
      have u2 : (k : Int) < (l.length : Int) := by omega
      have KX := Lib.hid (lni_in hlt)
      go_wp2_with (fail)
      go_loopw [5] (fun v wx => ∃ j : Nat, j ≤ k ∧ v = .int .i64 j ∧ Below wr.heap.size wr wx ∧ Hid (posK (lni l k) (ordK l k) k = posK (lni l k) (ordK l k) j)) (fun v _ => (intOf v).toNat)
      case atStart => exact ⟨k, Nat.le_refl _, rfl, Below.refl _ _, rfl⟩
      case round =>
        rename_i wq
        obtain ⟨j, hj, rfl, hb2, HP⟩ := hrel
        obtain ⟨hbl2, c0, c1, c2, c3, c4⟩ := Ln.get (hl0.below hb2) hlt
        have lA := aft_cell hbl2
        by_cases hj0 : j = 0
        · subst hj0
          go_wp2_with (fail)
          refine wp_region_aft (by kernel_rfl) (by kernel_rfl) ?_
          repeat (go_big_quiet_step ((fail)))
          refine wpQuiet_nil ?_
          intro w9 b9
          clear lA c0 c1 c2 c3 c4
          have HP := Lib.hid (HP.out.trans (show posK (lni l k) (ordK l k) 0 = 0 from rfl))
          go_upto_region 8 with (fail)
          obtain ⟨hbl2, c0, c1, c2, c3, c4⟩ := Ln.get (hl0.below (bth hb2 b9)) hlt
          have lA := aft_cell hbl2
          have KT := Lib.hid (fun (w' : World) (hw : Below w9.heap.size w9 w') => And.intro hw (And.intro ((hw.cell (p := ⟨bl, ol + k * 5, none⟩) hbl2).trans c0) (And.intro ((hw.cell (p := ⟨bl, ol + k * 5 + 1, none⟩) hbl2).trans c1) (And.intro ((hw.cell (p := ⟨bl, ol + k * 5 + 2, none⟩) hbl2).trans c2) (And.intro ((hw.cell (p := ⟨bl, ol + k * 5 + 3, none⟩) hbl2).trans c3) ((hw.cell (p := ⟨bl, ol + k * 5 + 4, none⟩) hbl2).trans c4))))))
          obtain ⟨U1, hU1⟩ : ∃ U, U = (ordK l k).take 0 := ⟨_, rfl⟩
          obtain ⟨U2, hU2⟩ : ∃ U, U = (ordK l k).drop 0 := ⟨_, rfl⟩
          have L1 := Lib.hid (show U1.length = 0 by rw [hU1, List.length_take, KLH.out]; omega)
          have L2 := Lib.hid (show U2.length = k - 0 by rw [hU2, List.length_drop, KLH.out])
          have S1 := Lib.hid (show Sl 5 Ln.enc w9 (some ⟨bu, ou, none⟩) U1 by rw [hU1]; exact (hs.below (bth hb2 b9)).take9 _)
          have S2 := Lib.hid (show Sl 5 Ln.enc w9 (some ⟨bu, ou, none⟩) U2 by rw [hU2]; have := (hs.below (bth hb2 b9)).drop9 0; (first | exact this | rwa [Nat.zero_mul, Nat.add_zero] at this))
          have X1 := Lib.hid (show ordK l (k + 1) = [] ++ U1 ++ [l[k]] ++ U2 by rw [ordK, HP.out, insL, KX.out, hU1, hU2]; simp)
          clear hU1 hU2
          go_region_held3 (fun w' => Below w9.heap.size w9 w' ∧ w'.cell? ⟨bl, ol + k * 5, none⟩ = some (.int .i64 l[k].id) ∧ w'.cell? ⟨bl, ol + k * 5 + 1, none⟩ = some (.int .i64 l[k].y) ∧ w'.cell? ⟨bl, ol + k * 5 + 2, none⟩ = some (.int .i64 l[k].frm) ∧ w'.cell? ⟨bl, ol + k * 5 + 3, none⟩ = some (.int .i64 l[k].to) ∧ w'.cell? ⟨bl, ol + k * 5 + 4, none⟩ = some (.int .i64 l[k].swath))
            (first | exact KT.out _ b5 | exact KT.out _ b4 | exact KT.out _ b3 | exact KT.out _ (b3.trans ((below_alloc _ _).mono b3.size)) | exact KT.out _ (by go_grown))
            (first
              | (refine step_appL (K := 5) (bytes := 40) (enc := Ln.enc) (base := w9.heap.size) Ln.len Ln.one (by decide) (by decide) _ rfl (.tmp 33) (.tmp 36) _ rfl Try.underlying32 infoLnI rfl _ ([] : List Ln) rfl (OutS.empty' (by simp) (by simp)) U1 (some ⟨bu, ou, none⟩) _ _ L1.out rfl (S1.out.below (by go_grown)) (by omega) (by simp) (Below.size (by go_grown : Below w9.heap.size w9 _)) ?_; intro v3 W3 hO3 hg3 hb3; have hO3 := Lib.hid hO3; have b3 : Below w9.heap.size w9 W3 := Below.trans (by go_grown) hb3; have hg3 := Lib.hid hg3)
              | (refine step_appL (K := 5) (bytes := 40) (enc := Ln.enc) (base := w9.heap.size) Ln.len Ln.one (by decide) (by decide) _ rfl (.tmp 33) (.tmp 36) _ rfl Try.underlying32 infoLnI rfl _ ([] : List Ln) rfl ((OutS.empty' (by simp) (by simp)).below (below_alloc _ _).drew) U1 (some ⟨bu, ou, none⟩) _ _ L1.out rfl (S1.out.below (by go_grown)) (by omega) (by simp) (Below.size (by go_grown : Below w9.heap.size w9 _)) ?_; intro v3 W3 hO3 hg3 hb3; have hO3 := Lib.hid hO3; have b3 : Below w9.heap.size w9 W3 := Below.trans (by go_grown) hb3; have hg3 := Lib.hid hg3)
              | (refine step_app (K := 5) (bytes := 40) (enc := Ln.enc) (base := w9.heap.size) Ln.len Ln.one (by decide) (by decide) _ rfl (.tmp 37) (.tmp 42) _ rfl Try.underlying32 infoLnI rfl _ ([] ++ U1) rfl (hO3.out.below (below_alloc _ _)) l[k] _ rfl (fun j u hu => app_cell rfl hu) (by have := L1.out; simp; omega) (Nat.le_trans b3.size (by simp)) ?_; intro v4 W4 hO4 hg4 hb4; have hO4 := Lib.hid hO4; have b4 : Below w9.heap.size w9 W4 := Below.trans (b3.trans ((below_alloc _ _).mono b3.size)) hb4)
              | (refine step_app (K := 5) (bytes := 40) (enc := Ln.enc) (base := w9.heap.size) Ln.len Ln.one (by decide) (by decide) _ rfl (.tmp 37) (.tmp 42) _ rfl Try.underlying32 infoLnI rfl _ ([] ++ U1) rfl (hO3.out) l[k] _ rfl (fun j u hu => (grown_cell hg3.out (show w9.heap.size + 1 < (World.alloc (World.alloc w9 _) _).heap.size by simp) (show some w9.heap.size ≠ some (w9.heap.size + 1) from fun e => by injection e with e; omega) _).trans (app_cell (by simp) hu)) (by have := L1.out; simp; omega) (b3.size) ?_; intro v4 W4 hO4 hg4 hb4; have hO4 := Lib.hid hO4; have b4 : Below w9.heap.size w9 W4 := Below.trans (b3) hb4)
              | (refine step_app (K := 5) (bytes := 40) (enc := Ln.enc) (base := w9.heap.size) Ln.len Ln.one (by decide) (by decide) _ rfl (.tmp 37) (.tmp 42) _ rfl Try.underlying32 infoLnI rfl _ ([] ++ U1) rfl (hO3.out) l[k] _ rfl (fun j u hu => (grown_cell hg3.out (show w9.heap.size < (World.alloc (World.alloc w9 _) _).heap.size by simp <;> omega) (show some (w9.heap.size + 1) ≠ some w9.heap.size from fun e => by injection e with e; omega) _).trans (((below_alloc _ _).cell (p := ⟨_, j, none⟩) (by simp)).trans (app_cell rfl hu))) (by have := L1.out; simp; omega) (b3.size) ?_; intro v4 W4 hO4 hg4 hb4; have hO4 := Lib.hid hO4; have b4 : Below w9.heap.size w9 W4 := Below.trans (b3) hb4)
              | (refine step_appL (K := 5) (bytes := 40) (enc := Ln.enc) (base := w9.heap.size) Ln.len Ln.one (by decide) (by decide) _ rfl (.tmp 43) (.tmp 46) _ rfl Try.underlying32 infoLnI rfl _ ([] ++ U1 ++ [l[k]]) rfl hO4.out U2 _ _ _ L2.out rfl (by first | exact S2.out.below b4 | (split <;> first | exact S2.out.below b4 | exact fun h0 => absurd h0 (by have := L2.out; omega))) (by omega) (by have := L1.out; simp; omega) b4.size ?_; intro v5 W5 hO5 hg5 hb5; have hO5 := Lib.hid hO5; have b5 : Below w9.heap.size w9 W5 := Below.trans b4 hb5))
          all_goals
            have hO6 := hO5.out
            have X2 := X1.out
            rw [← X2] at hO6
            clear X2
            have bW := bth hb (bth hb2 b9)
            have hsw := bW.size
            have hb6 := bth bW b5
            obtain ⟨B6, c6, hv6, hc6, hs6, ho6, _⟩ := hO6.sl Ln.len
            have KL6 := ordK_len l (k + 1)
            rw [KL6] at hv6 hc6 ho6
            obtain ⟨g6, e6, _⟩ := ho6 (by omega)
            subst e6 hv6
            have hO6 := Lib.hid (hO6.lower hsw)
            clear hs6 ho6 hs KL6
            go_wp2_with (fail)
            go_roundw
            case rel => exact ⟨k + 1, g6, 0, c6, by omega, hc6, by go_num, rfl, hO6, hb6⟩
            case measure => simp [intOf]; omega
        · obtain ⟨m, hm⟩ : ∃ m, j = m + 1 := ⟨j - 1, by omega⟩
          have hmk : m < (ordK l k).length := by rw [KLH.out]; omega
          obtain ⟨hblu, d0, d1, d2, d3, d4⟩ := Ln.get (hs.below (hb2)) hmk
          have EM := Lib.hid (lni_in hmk)
          have lB := aft_cell hblu
          have t0 : 0 < j := by omega
          have t1 : (0 : Int) < (j : Int) := by omega
          have t2 : (0 : Int) ≤ (j : Int) - 1 := by omega
          have t3 : (j : Int) - 1 < (k : Int) := by omega
          have t4 : ((j : Int) - 1).toNat = m := by omega
          have HM := Lib.hid hm
          clear hm
          by_cases hy : l[k].y < (ordK l k)[m].y
          · have hy' : (ordK l k)[m].y > l[k].y := hy
            go_wp2_with (fail)
            refine wp_region_aft (by kernel_rfl) (by kernel_rfl) ?_
            repeat (go_big_quiet_step ((fail)))
            refine wpQuiet_nil ?_
            intro w9 b9
            go_wp2_with (fail)
            go_roundw
            case rel => exact ⟨m, by have := HM.out; omega, vi (by have := HM.out; omega), bth hb2 b9, HP.out.trans (by rw [HM.out]; exact posK_go (by rw [KX.out, EM.out]; exact hy))⟩
            case measure => have := HM.out; simp [intOf]; omega
          · have hy' : (ordK l k)[m].y ≤ l[k].y := by omega
            go_wp2_with (fail)
            refine wp_region_aft (by kernel_rfl) (by kernel_rfl) ?_
            repeat (go_big_quiet_step ((fail)))
            refine wpQuiet_nil ?_
            intro w9 b9
            clear lA c0 c1 c2 c3 c4 d0 d1 d2 d3 d4 lB
            have HP := Lib.hid (HP.out.trans (by rw [HM.out]; exact posK_stop (by rw [KX.out, EM.out]; omega) : _ = j))
            go_upto_region 8 with (fail)
            have t5 : (0 : Int) ≤ (j : Int) := by omega
            have t6 : (j : Int) ≤ (c' : Int) := by omega
            have t7 : (j : Int) ≤ (k : Int) := by omega
            clear t0 t1 t2 t3 t4 hy'
            obtain ⟨hbl2, c0, c1, c2, c3, c4⟩ := Ln.get (hl0.below (bth hb2 b9)) hlt
            have lA := aft_cell hbl2
            have KT := Lib.hid (fun (w' : World) (hw : Below w9.heap.size w9 w') => And.intro hw (And.intro ((hw.cell (p := ⟨bl, ol + k * 5, none⟩) hbl2).trans c0) (And.intro ((hw.cell (p := ⟨bl, ol + k * 5 + 1, none⟩) hbl2).trans c1) (And.intro ((hw.cell (p := ⟨bl, ol + k * 5 + 2, none⟩) hbl2).trans c2) (And.intro ((hw.cell (p := ⟨bl, ol + k * 5 + 3, none⟩) hbl2).trans c3) ((hw.cell (p := ⟨bl, ol + k * 5 + 4, none⟩) hbl2).trans c4))))))
            obtain ⟨U1, hU1⟩ : ∃ U, U = (ordK l k).take j := ⟨_, rfl⟩
            obtain ⟨U2, hU2⟩ : ∃ U, U = (ordK l k).drop j := ⟨_, rfl⟩
            have L1 := Lib.hid (show U1.length = j by rw [hU1, List.length_take, KLH.out]; omega)
            have L2 := Lib.hid (show U2.length = k - j by rw [hU2, List.length_drop, KLH.out])
            have S1 := Lib.hid (show Sl 5 Ln.enc w9 (some ⟨bu, ou, none⟩) U1 by rw [hU1]; exact (hs.below (bth hb2 b9)).take9 _)
            have S2 := Lib.hid (show Sl 5 Ln.enc w9 (some ⟨bu, ou + j * 5, none⟩) U2 by rw [hU2]; have := (hs.below (bth hb2 b9)).drop9 j; (first | exact this | rwa [Nat.zero_mul, Nat.add_zero] at this))
            have X1 := Lib.hid (show ordK l (k + 1) = [] ++ U1 ++ [l[k]] ++ U2 by rw [ordK, HP.out, insL, KX.out, hU1, hU2]; simp)
            clear hU1 hU2
            go_region_held3 (fun w' => Below w9.heap.size w9 w' ∧ w'.cell? ⟨bl, ol + k * 5, none⟩ = some (.int .i64 l[k].id) ∧ w'.cell? ⟨bl, ol + k * 5 + 1, none⟩ = some (.int .i64 l[k].y) ∧ w'.cell? ⟨bl, ol + k * 5 + 2, none⟩ = some (.int .i64 l[k].frm) ∧ w'.cell? ⟨bl, ol + k * 5 + 3, none⟩ = some (.int .i64 l[k].to) ∧ w'.cell? ⟨bl, ol + k * 5 + 4, none⟩ = some (.int .i64 l[k].swath))
              (first | exact KT.out _ b5 | exact KT.out _ b4 | exact KT.out _ b3 | exact KT.out _ (b3.trans ((below_alloc _ _).mono b3.size)) | exact KT.out _ (by go_grown))
              (first
                | (refine step_appL (K := 5) (bytes := 40) (enc := Ln.enc) (base := w9.heap.size) Ln.len Ln.one (by decide) (by decide) _ rfl (.tmp 33) (.tmp 36) _ rfl Try.underlying32 infoLnI rfl _ ([] : List Ln) rfl (OutS.empty' (by simp) (by simp)) U1 (some ⟨bu, ou, none⟩) _ _ L1.out rfl (S1.out.below (by go_grown)) (by omega) (by simp) (Below.size (by go_grown : Below w9.heap.size w9 _)) ?_; intro v3 W3 hO3 hg3 hb3; have hO3 := Lib.hid hO3; have b3 : Below w9.heap.size w9 W3 := Below.trans (by go_grown) hb3; have hg3 := Lib.hid hg3)
                | (refine step_appL (K := 5) (bytes := 40) (enc := Ln.enc) (base := w9.heap.size) Ln.len Ln.one (by decide) (by decide) _ rfl (.tmp 33) (.tmp 36) _ rfl Try.underlying32 infoLnI rfl _ ([] : List Ln) rfl ((OutS.empty' (by simp) (by simp)).below (below_alloc _ _).drew) U1 (some ⟨bu, ou, none⟩) _ _ L1.out rfl (S1.out.below (by go_grown)) (by omega) (by simp) (Below.size (by go_grown : Below w9.heap.size w9 _)) ?_; intro v3 W3 hO3 hg3 hb3; have hO3 := Lib.hid hO3; have b3 : Below w9.heap.size w9 W3 := Below.trans (by go_grown) hb3; have hg3 := Lib.hid hg3)
                | (refine step_app (K := 5) (bytes := 40) (enc := Ln.enc) (base := w9.heap.size) Ln.len Ln.one (by decide) (by decide) _ rfl (.tmp 37) (.tmp 42) _ rfl Try.underlying32 infoLnI rfl _ ([] ++ U1) rfl (hO3.out.below (below_alloc _ _)) l[k] _ rfl (fun j u hu => app_cell rfl hu) (by have := L1.out; simp; omega) (Nat.le_trans b3.size (by simp)) ?_; intro v4 W4 hO4 hg4 hb4; have hO4 := Lib.hid hO4; have b4 : Below w9.heap.size w9 W4 := Below.trans (b3.trans ((below_alloc _ _).mono b3.size)) hb4)
                | (refine step_app (K := 5) (bytes := 40) (enc := Ln.enc) (base := w9.heap.size) Ln.len Ln.one (by decide) (by decide) _ rfl (.tmp 37) (.tmp 42) _ rfl Try.underlying32 infoLnI rfl _ ([] ++ U1) rfl (hO3.out) l[k] _ rfl (fun j u hu => (grown_cell hg3.out (show w9.heap.size + 1 < (World.alloc (World.alloc w9 _) _).heap.size by simp) (show some w9.heap.size ≠ some (w9.heap.size + 1) from fun e => by injection e with e; omega) _).trans (app_cell (by simp) hu)) (by have := L1.out; simp; omega) (b3.size) ?_; intro v4 W4 hO4 hg4 hb4; have hO4 := Lib.hid hO4; have b4 : Below w9.heap.size w9 W4 := Below.trans (b3) hb4)
                | (refine step_app (K := 5) (bytes := 40) (enc := Ln.enc) (base := w9.heap.size) Ln.len Ln.one (by decide) (by decide) _ rfl (.tmp 37) (.tmp 42) _ rfl Try.underlying32 infoLnI rfl _ ([] ++ U1) rfl (hO3.out) l[k] _ rfl (fun j u hu => (grown_cell hg3.out (show w9.heap.size < (World.alloc (World.alloc w9 _) _).heap.size by simp <;> omega) (show some (w9.heap.size + 1) ≠ some w9.heap.size from fun e => by injection e with e; omega) _).trans (((below_alloc _ _).cell (p := ⟨_, j, none⟩) (by simp)).trans (app_cell rfl hu))) (by have := L1.out; simp; omega) (b3.size) ?_; intro v4 W4 hO4 hg4 hb4; have hO4 := Lib.hid hO4; have b4 : Below w9.heap.size w9 W4 := Below.trans (b3) hb4)
                | (refine step_appL (K := 5) (bytes := 40) (enc := Ln.enc) (base := w9.heap.size) Ln.len Ln.one (by decide) (by decide) _ rfl (.tmp 43) (.tmp 46) _ rfl Try.underlying32 infoLnI rfl _ ([] ++ U1 ++ [l[k]]) rfl hO4.out U2 _ _ _ L2.out rfl (by first | exact S2.out.below b4 | (split <;> first | exact S2.out.below b4 | exact fun h0 => absurd h0 (by have := L2.out; omega))) (by omega) (by have := L1.out; simp; omega) b4.size ?_; intro v5 W5 hO5 hg5 hb5; have hO5 := Lib.hid hO5; have b5 : Below w9.heap.size w9 W5 := Below.trans b4 hb5))
            all_goals
              have hO6 := hO5.out
              have X2 := X1.out
              rw [← X2] at hO6
              clear X2
              have bW := bth hb (bth hb2 b9)
              have hsw := bW.size
              have hb6 := bth bW b5
              obtain ⟨B6, c6, hv6, hc6, hs6, ho6, _⟩ := hO6.sl Ln.len
              have KL6 := ordK_len l (k + 1)
              rw [KL6] at hv6 hc6 ho6
              obtain ⟨g6, e6, _⟩ := ho6 (by omega)
              subst e6 hv6
              have hO6 := Lib.hid (hO6.lower hsw)
              clear hs6 ho6 hs KL6
              go_wp2_with (fail)
              go_roundw
              case rel => exact ⟨k + 1, g6, 0, c6, by omega, hc6, by go_num, rfl, hO6, hb6⟩
              case measure => simp [intOf]; omega
    · obtain rfl : k = l.length := by omega
      go_wp2_with (fail)
      go_ret
      exact ⟨some ⟨bu, ou, none⟩, c', by rw [ordL_len]; rfl, by rw [ordL_def]; exact hs, hb, hbk⟩
end Go.Proofs.Ytdphaejpponmeaa
