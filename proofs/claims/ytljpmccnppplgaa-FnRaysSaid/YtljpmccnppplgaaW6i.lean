/- The program's functions on layers: validity, sums, the layers above a depth, weights, fractions. Conditions: lists of at most 1048576 layers; sums of valid layers. -/
import Derived.Test.YtljpmccnppplgaaW6s
import Derived.Test.YtljpmccnppplgaaOut
set_option linter.unusedVariables false
set_option linter.unusedSimpArgs false
namespace Go.Proofs.Ytljpmccnppplgaa
open Go.RowKit
set_option maxHeartbeats 1000000

theorem i6Good (A : Option Addr) (c : Nat) (l : List St) (w : World) (h : Sl 2 St.enc w A l) (hn : l.length ≤ 1048576) :
    Calls Try.prog 17 #[.slice A l.length c] w fun e w' => e = .returned (.bool (stGood l)) ∧ Below w.heap.size w w' := by
  go_enter Try.func17, Try.ntmps17
  go_wp2
  go_loopw [7] (fun i wr => ∃ k : Nat, k ≤ l.length ∧ i = .int .i64 k ∧ Below w.heap.size w wr ∧ Hid (∀ y ∈ l.take k, stOk y = true)) (fun i _ => l.length - (intOf i).toNat)
  case atStart => exact ⟨0, Nat.zero_le _, rfl, Below.refl _ _, (fun y hy => by simp at hy : ∀ y ∈ l.take 0, stOk y = true)⟩
  case round =>
    obtain ⟨k, hk, rfl, hb, H⟩ := hrel
    by_cases hlt : k < l.length
    · obtain ⟨b, off, rfl⟩ := h.addr (by omega)
      obtain ⟨hbl, c0, c1⟩ := St.get (h.below hb) hlt
      by_cases hok : stOk l[k] = true
      · obtain ⟨i1, i2⟩ : inB l[k].thick 1 5000 = true ∧ inB l[k].speed 1300 1700 = true := by simpa [stOk] using hok
        go_wp2_with (go_at_call 53; refine (implIn _ _ _ _).mono ?_; rintro e w' ⟨rfl, rfl⟩)
        go_roundw
        case rel => exact ⟨k + 1, by omega, by go_num, hb.alloc hb.size _, (step_take hlt H.out hok : _)⟩
        case measure => simp [intOf]; omega
      · go_wp2_with (go_at_call 53; refine (implIn _ _ _ _).mono ?_; rintro e w' ⟨rfl, rfl⟩)
        all_goals first | (go_ret; exact ⟨ret_bool (stGood_bad hlt (by simpa using hok)).symm, hb.alloc hb.size _⟩) | (exfalso; apply hok; simp only [stOk, Bool.and_eq_true]; exact ⟨‹_›, not_false_eq ‹_›⟩)
    · obtain rfl : k = l.length := by omega
      go_wp2_with (go_at_call 53; refine (implIn _ _ _ _).mono ?_; rintro e w' ⟨rfl, rfl⟩)
      go_ret
      exact ⟨ret_bool (stGood_end H.out).symm, hb⟩

theorem i6Total (A : Option Addr) (c : Nat) (l : List St) (w : World) (h : Sl 2 St.enc w A l) (hg : stGood l = true) :
    Calls Try.prog 56 #[.slice A l.length c] w fun e w' => e = .returned (.int .i64 (tot l)) ∧ Below w.heap.size w w' := by
  have h5 := stGood_len hg
  go_enter Try.func56, Try.ntmps56
  go_wp2
  go_loopw [3, 8] (fun s i wr => ∃ k : Nat, k ≤ l.length ∧ i = .int .i64 k ∧ s = .int .i64 (totK l k) ∧ Below w.heap.size w wr) (fun _ i _ => l.length - (intOf i).toNat)
  case atStart => exact ⟨0, Nat.zero_le _, rfl, rfl, Below.refl _ _⟩
  case round =>
    obtain ⟨k, hk, rfl, rfl, hb⟩ := hrel
    have b1 := totK_bd hg k (by omega)
    by_cases hlt : k < l.length
    · obtain ⟨b, off, rfl⟩ := h.addr (by omega)
      obtain ⟨hbl, c0, c1⟩ := St.get (h.below hb) hlt
      have b2 := stGood_at hg hlt
      rw [← th_of hlt] at c0
      go_wp2
      go_roundw
      case rel => exact ⟨k + 1, by omega, by go_num, rfl, hb.alloc hb.size _⟩
      case measure => simp [intOf]; omega
    · obtain rfl : k = l.length := by omega
      go_wp2
      go_ret
      exact ⟨ret_int (tot_def l).symm, hb⟩

/-- The weight of any list of layers with parts in range. -/
theorem i6Weight (A : Option Addr) (c : Nat) (l : List St) (w : World) (h : Sl 2 St.enc w A l) (hn : l.length ≤ 5) (hb0 : ∀ k, k < l.length → 0 ≤ th l k ∧ th l k ≤ 5000 ∧ 1300 ≤ sp l k ∧ sp l k ≤ 1700) :
    Calls Try.prog 65 #[.slice A l.length c] w fun e w' => e = .returned (.int .i64 (wK l l.length)) ∧ Below w.heap.size w w' := by
  have hbd : ∀ k, k ≤ l.length → 0 ≤ wK l k ∧ wK l k ≤ 8500000 * k := by
    intro k
    induction k with
    | zero => intro _; simp [wK]
    | succ k ih =>
      intro hk
      have h1 := ih (by omega)
      have h2 := hb0 k (by omega)
      have h4 := mul_bd h2.1 h2.2.1 (show 0 ≤ sp l k by omega) h2.2.2.2
      rw [wK]; omega
  have HB := Lib.hid hbd
  have HC := Lib.hid hb0
  clear hbd hb0
  go_enter Try.func65, Try.ntmps65
  go_wp2
  go_loopw [3, 8] (fun s i wr => ∃ k : Nat, k ≤ l.length ∧ i = .int .i64 k ∧ s = .int .i64 (wK l k) ∧ Below w.heap.size w wr) (fun _ i _ => l.length - (intOf i).toNat)
  case atStart => exact ⟨0, Nat.zero_le _, rfl, rfl, Below.refl _ _⟩
  case round =>
    obtain ⟨k, hk, rfl, rfl, hb⟩ := hrel
    have b1 := HB.out k hk
    by_cases hlt : k < l.length
    · obtain ⟨b, off, rfl⟩ := h.addr (by omega)
      obtain ⟨hbl, c0, c1⟩ := St.get (h.below hb) hlt
      have b2 := HC.out k hlt
      rw [← th_of hlt] at c0
      rw [← sp_of hlt] at c1
      have b4 := mul_bd b2.1 b2.2.1 (show 0 ≤ sp l k by omega) b2.2.2.2
      go_wp2
      go_roundw
      case rel => exact ⟨k + 1, by omega, by go_num, rfl, hb.alloc hb.size _⟩
      case measure => simp [intOf]; omega
    · obtain rfl : k = l.length := by omega
      go_wp2
      go_ret
      exact ⟨rfl, hb⟩

theorem infoStI : (Try.prog.info? 52).map (fun i => (i.zero, i.size, i.bytes)) = some (some (.agg #[.int .i64 0, .int .i64 0]), 2, 16) := by kernel_rfl

theorem i6Above (A : Option Addr) (c : Nat) (d : Int) (l : List St) (w : World) (h : Sl 2 St.enc w A l) (hg : stGood l = true) (hd0 : 0 ≤ d) (hd : d ≤ 100000) :
    Calls Try.prog 70 #[.slice A l.length c, .int .i64 d] w fun e w' => ∃ B c', e = .returned (.slice B l.length c') ∧ Below w.heap.size w w' ∧ Sl 2 St.enc w' B (cutL l d) ∧ ∀ a, B = some a → w.heap.size ≤ a.block := by
  have h5 := stGood_len hg
  go_enter Try.func70, Try.ntmps70
  go_wp2
  generalize hW : World.alloc w _ = W1
  have hO : OutS 2 St.enc w.heap.size 52 W1 (.slice (some ⟨w.heap.size, 0, none⟩) 0 0) ([] : List St) := by rw [← hW]; exact OutS.empty (Nat.le_refl _)
  have hbW : Below w.heap.size w W1 := by rw [← hW]; exact below_alloc _ _
  clear hW
  go_loopw [1, 5, 11] (fun s v i wr => ∃ k : Nat, k ≤ l.length ∧ i = .int .i64 k ∧ s = .int .i64 (rest l d k) ∧ Below w.heap.size w wr ∧ Hid (OutS 2 St.enc w.heap.size 52 wr v ((cutL l d).take k))) (fun _ _ i _ => l.length - (intOf i).toNat)
  case atStart => exact ⟨0, Nat.zero_le _, rfl, vi (rest_zero hd0).symm, hbW, hO⟩
  case round =>
    obtain ⟨k, hk, rfl, rfl, hb, HO⟩ := hrel
    by_cases hlt : k < l.length
    · obtain ⟨b, off, rfl⟩ := h.addr (by omega)
      obtain ⟨hbl, c0, c1⟩ := St.get (h.below hb) hlt
      have b2 := stGood_at hg hlt
      have b3 := rest_succ hg (d := d) hlt
      have b4 := rest_le hg hd0 (k := k) (by omega)
      have b5 := part_bd hg (d := d) hlt
      rw [← th_of hlt] at c0
      rw [← sp_of hlt] at c1
      have hsz : w.heap.size ≤ wr.heap.size := hb.size
      have hkc : k < (cutL l d).length := by rw [cutL_length]; exact hlt
      have HT := Lib.hid (List.take_succ_eq_append_getElem hkc)
      rw [cutL_get] at HT
      have E1 := Lib.hid b3.2.1
      have E2 := Lib.hid b3.1
      have hr := b3.2.2
      clear b3
      obtain ⟨x, hx, hm⟩ : ∃ x, Hid (part l d k = x) ∧ ((th l k ≤ rest l d k ∧ x = th l k) ∨ (¬ th l k ≤ rest l d k ∧ x = rest l d k)) := by
        refine ⟨_, (rfl : part l d k = part l d k), ?_⟩
        have := E1.out
        omega
      rcases hm with ⟨hm, rfl⟩ | ⟨hm, rfl⟩
      all_goals
        go_wp2_with (at_builtin; refine wp_app (K := 2) (bytes := 16) (enc := St.enc) St.len St.one (by decide) (by decide) _ rfl (.tmp 24) (.tmp 26) _ rfl Try.underlying25 infoStI rfl _ ((cutL l d).take k) rfl (HO.out.below (by go_grown)) ⟨part l d k, sp l k⟩ _ rfl (by intro j u hu; rw [hx.out] at hu; exact app_cell (by simp) hu) (by rw [List.length_take]; omega) (by simp; exact Nat.le_trans hb.size (by omega)) ?_; intro v' W2 hO2 hg2 hb2)
        refine ⟨⟨k + 1, by omega, by go_num, vi ?_, Below.trans (by go_grown) hb2, (by rw [HT.out]; exact hO2 : OutS 2 St.enc w.heap.size 52 W2 v' ((cutL l d).take (k + 1)))⟩, by simp [intOf]; omega⟩
        have e2 := E2.out
        have e1 := hx.out
        omega
    · obtain rfl : k = l.length := by omega
      obtain ⟨B, c', hv, _, hs, _, hbk⟩ := HO.out.sl St.len
      rw [List.take_of_length_le (by rw [cutL_length]; omega)] at hs hv
      rw [cutL_length] at hv
      subst hv
      go_wp2
      go_ret
      exact ⟨B, c', rfl, hb, hs, hbk⟩

theorem i6Down (A : Option Addr) (c : Nat) (d : Int) (l : List St) (w : World) (h : Sl 2 St.enc w A l) (hn : l.length ≤ 1048576) :
    Calls Try.prog 69 #[.slice A l.length c, .int .i64 d] w fun e w' => e = .returned (.bool (stGood l && inB d 0 (tot l))) ∧ Below w.heap.size w w' := by
  by_cases g : stGood l = true
  · go_enter Try.func69, Try.ntmps69
    go_wp2_with (fail)
    refine (i6Good _ _ l _ h hn).mono ?_; rintro e w1 ⟨rfl, b1⟩; rw [g]
    go_wp2_with (fail)
    refine (i6Total _ _ l _ (h.below b1) g).mono ?_; rintro e w2 ⟨rfl, b2⟩
    go_wp2_with (go_at_call 53; refine (implIn _ _ _ _).mono ?_; rintro e w' ⟨rfl, rfl⟩)
    go_ret
    exact ⟨ret_bool (by rw [g, Bool.true_and]), bth b1 b2⟩
  · have g' : stGood l = false := by simpa using g
    go_enter Try.func69, Try.ntmps69
    go_wp2_with (fail)
    refine (i6Good _ _ l _ h hn).mono ?_; rintro e w1 ⟨rfl, b1⟩; rw [g']
    go_wp2_with (fail)
    go_ret
    exact ⟨ret_bool (by rw [g', Bool.false_and]), b1⟩

theorem i6Slope (n d : Int) (w : World) :
    Calls Try.prog 60 #[.int .i64 n, .int .i64 d] w fun e w' => e = .returned (.bool (inB n 0 200 && inB d 1 100 && decide (n ≤ 2 * d))) ∧ w = w' := by
  by_cases a1 : inB n 0 200 = true
  · by_cases a2 : inB d 1 100 = true
    · have q1 := inB_true.1 a1
      have q2 := inB_true.1 a2
      by_cases a3 : n ≤ 2 * d
      all_goals
        go_enter Try.func60, Try.ntmps60
        go_wp2_with (go_at_call 53; refine (implIn _ _ _ _).mono ?_; rintro e w' ⟨rfl, rfl⟩)
        go_ret
        exact ⟨ret_bool (by simp [*]), rfl⟩
    · have a2' : inB d 1 100 = false := by simpa using a2
      go_enter Try.func60, Try.ntmps60
      go_wp2_with (go_at_call 53; refine (implIn _ _ _ _).mono ?_; rintro e w' ⟨rfl, rfl⟩)
      go_ret
      exact ⟨ret_bool (by simp [*]), rfl⟩
  · have a1' : inB n 0 200 = false := by simpa using a1
    go_enter Try.func60, Try.ntmps60
    go_wp2_with (go_at_call 53; refine (implIn _ _ _ _).mono ?_; rintro e w' ⟨rfl, rfl⟩)
    go_ret
    exact ⟨ret_bool (by simp [*]), rfl⟩
end Go.Proofs.Ytljpmccnppplgaa
