/- BendOf of both texts: what it returns. Lists of at most 1048576 layers. -/
import Derived.Test.YtljpmccnppplgaaX6a
import Derived.Test.YtljpmccnppplgaaP6b
import Derived.Test.YtljpmccnppplgaaInts
import Derived.Test.YtljpmccnppplgaaOut2
set_option linter.unusedVariables false
set_option linter.unusedSimpArgs false
namespace Go.Proofs.Ytljpmccnppplgaa
open Go.RowKit
set_option maxHeartbeats 2000000

theorem cmpInt (a b : Int) (w : World) :
    Calls Try.prog 66 #[.int .i64 a, .int .i64 b] w fun e w' => e = .returned (.int .i64 (cmpI a b)) ∧ w = w' := by
  have hd := cmpI_def a b
  by_cases h1 : a < b
  · rw [if_pos h1] at hd
    have HD := Lib.hid hd
    clear hd
    go_enter Try.func66, Try.ntmps66
    go_wp2
    go_ret
    exact ⟨ret_int HD.out.symm, rfl⟩
  · rw [if_neg h1] at hd
    by_cases h2 : b < a
    · rw [if_pos h2] at hd
      have HD := Lib.hid hd
      clear hd
      go_enter Try.func66, Try.ntmps66
      go_wp2
      go_ret
      exact ⟨ret_int HD.out.symm, rfl⟩
    · rw [if_neg h2] at hd
      have HD := Lib.hid hd
      clear hd
      go_enter Try.func66, Try.ntmps66
      go_wp2
      go_ret
      exact ⟨ret_int HD.out.symm, rfl⟩

theorem infoI : (Try.prog.info? 3).map (fun i => (i.zero, i.size, i.bytes)) = some (some (.int .i64 0), 1, 8) := by kernel_rfl
@[irreducible] def bdL (l : List St) : List Int := if stGood l then bendL l else []
@[irreducible] def bdB (l : List St) : Bool := stGood l
theorem bdL_yes {l : List St} (g : stGood l = true) : bdL l = bendL l := by unfold bdL; rw [if_pos g]
theorem bdL_no {l : List St} (g : stGood l = false) : bdL l = [] := by unfold bdL; rw [g]; rfl
theorem bdB_def (l : List St) : bdB l = stGood l := by unfold bdB; rfl
theorem bdL_len (l : List St) : (bdL l).length ≤ 1048576 := by
  unfold bdL
  split
  · rename_i g; have := stGood_len g; rw [bendL_length]; omega
  · simp

theorem sBend (A : Option Addr) (c : Nat) (l : List St) (w : World) (h : Sl 2 St.enc w A l) (hn : l.length ≤ 1048576) (_hc : l.length ≤ c) :
    Calls Try.prog 27 #[.slice A l.length c] w (retL 1 encI w (bdL l) (bdB l)) := by
  by_cases g : stGood l = true
  · rw [bdL_yes g, bdB_def, g]
    have h5 := stGood_len g
    have G := Lib.hid g
    go_enter Try.func27, Try.ntmps27
    go_wp2_with (fail)
    generalize hW : World.alloc w _ = W1
    have hO : OutS 1 encI w.heap.size 3 W1 (.slice (some ⟨w.heap.size, 0, none⟩) 0 0) ([] : List Int) := by rw [← hW]; exact OutS.empty (Nat.le_refl _)
    have hbW : Below w.heap.size w W1 := by rw [← hW]; exact below_alloc _ _
    clear hW
    refine (s6Good _ _ l _ (h.below hbW) hn).mono ?_; rintro e w' ⟨rfl, rfl⟩; rw [G.out]
    go_wp2_with (fail)
    go_loopw [4, 5] (fun v i wr => ∃ m : Nat, m + 1 ≤ l.length ∧ i = .int .i64 ((m : Int) + 1) ∧ Below w.heap.size w wr ∧ Hid (OutS 1 encI w.heap.size 3 wr v ((bendL l).take m))) (fun _ i _ => l.length - (intOf i).toNat)
    case atStart => exact ⟨0, by omega, rfl, hbW, hO⟩
    case round =>
      obtain ⟨m, hm, rfl, hb, HO⟩ := hrel
      by_cases hlt : m + 1 < l.length
      · obtain ⟨b, off, rfl⟩ := h.addr (by omega)
        obtain ⟨hbl, _, c1⟩ := St.get (h.below hb) hlt
        obtain ⟨_, _, d1⟩ := St.get (h.below hb) (show m < l.length by omega)
        rw [← sp_of hlt] at c1
        rw [← sp_of (show m < l.length by omega)] at d1
        have t1 : ((m : Int) + 1).toNat = m + 1 := by omega
        have t2 : (m : Int) + 1 < (l.length : Int) := by omega
        have t3 : (0 : Int) ≤ (m : Int) + 1 := by omega
        have t4 : (m : Int) < (l.length : Int) := by omega
        have hsz : w.heap.size ≤ wr.heap.size := hb.size
        have hml : m < (bendL l).length := by rw [bendL_length]; omega
        have HT := List.take_succ_eq_append_getElem hml
        rw [bendL_get] at HT
        have HT := Lib.hid HT
        have hd := cmpI_def (sp l (m + 1)) (sp l m)
        have happ : ∀ v' W2, OutS 1 encI w.heap.size 3 W2 v' ((bendL l).take m ++ [cmpI (sp l (m + 1)) (sp l m)]) → OutS 1 encI w.heap.size 3 W2 v' ((bendL l).take (m + 1)) := by
          intro v' W2 h; rw [HT.out]; exact h
        have happ := Lib.hid happ
        rcases Int.lt_trichotomy (sp l (m + 1)) (sp l m) with h1 | h1 | h1
        · rw [if_pos h1] at hd
          have HD := Lib.hid hd
          clear hd
          have h2 : decide (sp l (m + 1) > sp l m) = false := by simp; omega
          go_wp2
          go_quiet (fail)
          go_wp2
          go_quiet (fail)
          go_wp2_with (at_builtin; refine wp_app (K := 1) (bytes := 8) (enc := encI) encI_len encI_one (by decide) (by decide) _ rfl (.tmp 42) (.tmp 44) _ rfl Try.underlying36 infoI rfl _ ((bendL l).take m) rfl (HO.out.below (by go_grown; exact bdrew (Below.refl _ _) _)) (cmpI (sp l (m + 1)) (sp l m)) _ rfl (by intro j u hu; rw [HD.out] at hu; exact app_cell (by simp) hu) (by rw [List.length_take]; omega) (by simp; omega) ?_; intro v' W2 hO2 hg2 hb2)
          refine ⟨⟨m + 1, by omega, by go_num, Below.trans (by go_grown; exact bdrew hb _) hb2, (happ.out _ _ hO2 : OutS 1 encI w.heap.size 3 W2 v' ((bendL l).take (m + 1)))⟩, by simp [intOf]; omega⟩
        · rw [if_neg (by omega), if_neg (by omega)] at hd
          have HD := Lib.hid hd
          clear hd
          have h2 : decide (sp l (m + 1) > sp l m) = false := by simp; omega
          have h3 : decide (sp l (m + 1) < sp l m) = false := by simp; omega
          go_wp2
          go_quiet (fail)
          go_wp2
          go_quiet (fail)
          go_wp2_with (at_builtin; refine wp_app (K := 1) (bytes := 8) (enc := encI) encI_len encI_one (by decide) (by decide) _ rfl (.tmp 42) (.tmp 44) _ rfl Try.underlying36 infoI rfl _ ((bendL l).take m) rfl (HO.out.below (by go_grown; exact bdrew (Below.refl _ _) _)) (cmpI (sp l (m + 1)) (sp l m)) _ rfl (by intro j u hu; rw [HD.out] at hu; exact app_cell (by simp) hu) (by rw [List.length_take]; omega) (by simp; omega) ?_; intro v' W2 hO2 hg2 hb2)
          refine ⟨⟨m + 1, by omega, by go_num, Below.trans (by go_grown; exact bdrew hb _) hb2, (happ.out _ _ hO2 : OutS 1 encI w.heap.size 3 W2 v' ((bendL l).take (m + 1)))⟩, by simp [intOf]; omega⟩
        · rw [if_neg (by omega), if_pos h1] at hd
          have HD := Lib.hid hd
          clear hd
          have h3 : decide (sp l (m + 1) < sp l m) = false := by simp; omega
          go_wp2
          go_quiet (fail)
          go_wp2
          go_quiet (fail)
          go_wp2_with (at_builtin; refine wp_app (K := 1) (bytes := 8) (enc := encI) encI_len encI_one (by decide) (by decide) _ rfl (.tmp 42) (.tmp 44) _ rfl Try.underlying36 infoI rfl _ ((bendL l).take m) rfl (HO.out.below (by go_grown; exact bdrew (Below.refl _ _) _)) (cmpI (sp l (m + 1)) (sp l m)) _ rfl (by intro j u hu; rw [HD.out] at hu; exact app_cell (by simp) hu) (by rw [List.length_take]; omega) (by simp; omega) ?_; intro v' W2 hO2 hg2 hb2)
          refine ⟨⟨m + 1, by omega, by go_num, Below.trans (by go_grown; exact bdrew hb _) hb2, (happ.out _ _ hO2 : OutS 1 encI w.heap.size 3 W2 v' ((bendL l).take (m + 1)))⟩, by simp [intOf]; omega⟩
      · obtain rfl : m = l.length - 1 := by omega
        obtain ⟨B, c', hv, _, hs, ho, hbk⟩ := HO.out.sl encI_len
        rw [List.take_of_length_le (by rw [bendL_length]; omega)] at hs hv ho
        subst hv
        go_wp2
        go_ret2
        exact ⟨B, c', rfl, hb, hs, ho, fun a ha _ => hbk a ha⟩
  · have g' : stGood l = false := by simpa using g
    rw [bdL_no g', bdB_def, g']
    go_enter Try.func27, Try.ntmps27
    go_wp2_with (fail)
    refine (s6Good _ _ l _ (h.below (below_alloc _ _)) hn).mono ?_; rintro e w' ⟨rfl, rfl⟩; rw [g']
    go_wp2_with (fail)
    go_ret2
    exact ⟨_, _, rfl, Fr.nil (below_alloc _ _)⟩

theorem iBend (A : Option Addr) (c : Nat) (l : List St) (w : World) (h : Sl 2 St.enc w A l) (hn : l.length ≤ 1048576) (_hc : l.length ≤ c) :
    Calls Try.prog 28 #[.slice A l.length c] w (retL 1 encI w (bdL l) (bdB l)) := by
  by_cases g : stGood l = true
  · rw [bdL_yes g, bdB_def, g]
    have h5 := stGood_len g
    have G := Lib.hid g
    go_enter Try.func28, Try.ntmps28
    go_wp2_with (fail)
    refine (i6Good _ _ l _ h hn).mono ?_; rintro e w1 ⟨rfl, b1⟩; rw [G.out]
    go_wp2_with (fail)
    generalize hW : World.alloc w1 _ = W1
    have hO : OutS 1 encI w.heap.size 3 W1 (.slice (some ⟨w1.heap.size, 0, none⟩) 0 0) ([] : List Int) := by rw [← hW]; exact OutS.empty b1.size
    have hbW : Below w.heap.size w W1 := by rw [← hW]; exact b1.trans ((Below.refl _ _).alloc b1.size _)
    clear hW
    go_loopw [4, 5] (fun v i wr => ∃ m : Nat, m + 1 ≤ l.length ∧ i = .int .i64 ((m : Int) + 1) ∧ Below w.heap.size w wr ∧ Hid (OutS 1 encI w.heap.size 3 wr v ((bendL l).take m))) (fun _ i _ => l.length - (intOf i).toNat)
    case atStart => exact ⟨0, by omega, rfl, hbW, hO⟩
    case round =>
      obtain ⟨m, hm, rfl, hb, HO⟩ := hrel
      by_cases hlt : m + 1 < l.length
      · obtain ⟨b, off, rfl⟩ := h.addr (by omega)
        obtain ⟨hbl, _, c1⟩ := St.get (h.below hb) hlt
        obtain ⟨_, _, d1⟩ := St.get (h.below hb) (show m < l.length by omega)
        rw [← sp_of hlt] at c1
        rw [← sp_of (show m < l.length by omega)] at d1
        have t1 : ((m : Int) + 1).toNat = m + 1 := by omega
        have t2 : (m : Int) + 1 < (l.length : Int) := by omega
        have t3 : (0 : Int) ≤ (m : Int) + 1 := by omega
        have t4 : (m : Int) < (l.length : Int) := by omega
        have hsz : w.heap.size ≤ wr.heap.size := hb.size
        have hml : m < (bendL l).length := by rw [bendL_length]; omega
        have HT := List.take_succ_eq_append_getElem hml
        rw [bendL_get] at HT
        have HT := Lib.hid HT
        have t5 : IntKind.i64.wrap (m : Int) = m := IntWalk.i64_in _ (by omega)
        have t6 : (0 : Int) ≤ (m : Int) := by omega
        have t7 : ((m : Int)).toNat = m := by omega
        go_wp2
        go_region_law (first | (go_simp; go_at_call 66; refine (cmpInt _ _ _).mono ?_; rintro e w' ⟨rfl, rfl⟩) | (refine step_app (K := 1) (bytes := 8) (enc := encI) encI_len encI_one (by decide) (by decide) _ rfl (.tmp 16) (.tmp 29) _ rfl Try.underlying36 infoI rfl _ ((bendL l).take m) rfl (HO.out.below (by go_grown)) (cmpI (sp l (m + 1)) (sp l m)) _ rfl (by intro j u hu; exact app_cell (by simp) hu) (by rw [List.length_take]; omega) (by simp; omega) ?_; intro v' W2 hO2 hg2 hb2))
        all_goals
          go_wp2
          refine ⟨⟨m + 1, by omega, by go_num, Below.trans (by go_grown) hb2, (by rw [HT.out]; exact hO2 : OutS 1 encI w.heap.size 3 W2 v' ((bendL l).take (m + 1)))⟩, by simp [intOf]; omega⟩
      · obtain rfl : m = l.length - 1 := by omega
        obtain ⟨B, c', hv, _, hs, ho, hbk⟩ := HO.out.sl encI_len
        rw [List.take_of_length_le (by rw [bendL_length]; omega)] at hs hv ho
        subst hv
        go_wp2
        go_ret2
        exact ⟨B, c', rfl, hb, hs, ho, fun a ha _ => hbk a ha⟩
  · have g' : stGood l = false := by simpa using g
    rw [bdL_no g', bdB_def, g']
    go_enter Try.func28, Try.ntmps28
    go_wp2_with (fail)
    refine (i6Good _ _ l _ h hn).mono ?_; rintro e w1 ⟨rfl, b1⟩; rw [g']
    go_wp2_with (fail)
    go_ret2
    exact ⟨_, _, rfl, Fr.nil b1⟩
end Go.Proofs.Ytljpmccnppplgaa
