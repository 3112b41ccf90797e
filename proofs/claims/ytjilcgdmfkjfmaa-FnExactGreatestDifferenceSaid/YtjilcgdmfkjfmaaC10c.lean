import Derived.Test.YtjilcgdmfkjfmaaC10b
namespace Go.Proofs.Ytjilcgdmfkjfmaa
open Go.RowKit
set_option maxHeartbeats 400000

theorem eqOne (x : Cr) (w : World) :
    Calls Try.prog 16 #[.agg #[.int .i64 x.line, .int .i64 x.cross, .int .i64 x.main, .int .i64 x.check], .agg #[.int .i64 x.line, .int .i64 x.cross, .int .i64 x.main, .int .i64 x.check]] w fun e w' => e = .returned (.bool true) ∧ Below w.heap.size w w' := by
  go_enter Try.func16, Try.ntmps16
  go_wp2
  go_ret
  exact ⟨rfl, by go_grown⟩

theorem eqAll (A B : Option Addr) (c d : Nat) (l : List Cr) (w : World) (h : Sl 4 Cr.enc w A l) (h2 : Sl 4 Cr.enc w B l) (hn : l.length ≤ 1048576) :
    Calls Try.prog 9 #[.slice A l.length c, .slice B l.length d] w fun e w' => e = .returned (.bool true) ∧ Below w.heap.size w w' := by
  go_enter Try.func9, Try.ntmps9
  go_wp2
  go_loopw [5] (fun i wr => ∃ k : Nat, k ≤ l.length ∧ i = .int .i64 k ∧ Below w.heap.size w wr) (fun i _ => l.length - (intOf i).toNat)
  case atStart => exact ⟨0, Nat.zero_le _, rfl, Below.refl _ _⟩
  case round =>
    obtain ⟨k, hk, rfl, hb⟩ := hrel
    by_cases hlt : k < l.length
    · obtain ⟨b, off, rfl⟩ := h.addr (by omega)
      obtain ⟨b', off', rfl⟩ := h2.addr (by omega)
      obtain ⟨hbl, c0, c1, c2, c3⟩ := Cr.get (h.below hb) hlt
      obtain ⟨hbl', d0, d1, d2, d3⟩ := Cr.get (h2.below hb) hlt
      go_wp2_with (fail)
      go_still_tail 8, (by kernel_rfl)
      change wpList _ _ _ _ _ wr.drew
      have hb' := hb.drew
      generalize wr.drew = w2 at hb' ⊢
      go_wp2_with (fail)
      refine (eqOne _ _).mono ?_; rintro e w3 ⟨rfl, hb3⟩
      go_wp2_with (fail)
      go_roundw
      case rel => exact ⟨k + 1, by omega, by go_num, bth hb' hb3⟩
      case measure => simp [intOf]; omega
    · go_wp2
      go_ret
      exact ⟨rfl, hb⟩

theorem szYes (A : Option Addr) (c n : Nat) (w : World) (hn : n ≤ 1048576) :
    Calls Try.prog 5 #[.slice A n c, .int .i64 1048576] w fun e w' => e = .returned (.int .i64 (1048576 - n)) ∧ w = w' := by
  have h1 : ¬ (1048576 - (n : Int) < 0) := by omega
  go_enter Try.func5, Try.ntmps5
  go_wp2
  go_ret
  exact ⟨rfl, rfl⟩
theorem szNo (A : Option Addr) (c n : Nat) (w : World) (hn : 1048576 < n) (hm : n ≤ 9223372036854775807) :
    Calls Try.prog 5 #[.slice A n c, .int .i64 1048576] w fun e w' => e = .returned (.int .i64 (-1)) ∧ w = w' := by
  have h1 : 1048576 - (n : Int) < 0 := by omega
  go_enter Try.func5, Try.ntmps5
  go_wp2
  go_ret
  exact ⟨rfl, rfl⟩

theorem implIn (n a b : Int) (w : World) :
    Calls Try.prog 14 #[.int .i64 n, .int .i64 a, .int .i64 b] w fun e w' => e = .returned (.bool (inB n a b)) ∧ w = w' := by
  by_cases h1 : a ≤ n <;> by_cases h2 : n ≤ b
  all_goals
    go_enter Try.func14, Try.ntmps14
    go_wp2
    go_ret
    exact ⟨ret_bool (by unfold inB; simp [*]), rfl⟩

theorem implDepth (n : Int) (w : World) :
    Calls Try.prog 15 #[.int .i64 n] w fun e w' => e = .returned (.bool (inB n (-1000) 20000)) ∧ w = w' := by
  go_enter Try.func15, Try.ntmps15
  go_wp2_with (go_at_call 14; refine (implIn _ _ _ _).mono ?_; rintro e w' ⟨rfl, rfl⟩)
  go_ret
  exact ⟨rfl, rfl⟩

set_option maxHeartbeats 1000000 in
theorem igood (A : Option Addr) (c : Nat) (l : List Cr) (w : World) (h : Sl 4 Cr.enc w A l) (hn : l.length ≤ 1048576) (hc : l.length ≤ c) :
    Calls Try.prog 8 #[.slice A l.length c] w fun e w' => e = .returned (.bool (crGood l)) ∧ Below w.heap.size w w' := by
  go_enter Try.func8, Try.ntmps8
  go_wp2
  go_loopw [9] (fun i wr => ∃ k : Nat, k ≤ l.length ∧ i = .int .i64 k ∧ Below w.heap.size w wr ∧ Hid (∀ m, m < k → okAt l m = true)) (fun i _ => l.length - (intOf i).toNat)
  case atStart => exact ⟨0, Nat.zero_le _, rfl, Below.refl _ _, (fun m hm => absurd hm (by omega) : ∀ m, m < 0 → okAt l m = true)⟩
  case round =>
    obtain ⟨k, hk, rfl, hb, H⟩ := hrel
    by_cases hlt : k < l.length
    · obtain ⟨b, off, rfl⟩ := h.addr (by omega)
      obtain ⟨hbl, c0, c1, c2, c3⟩ := Cr.get (h.below hb) hlt
      by_cases hok : cellOk l[k] = true
      · obtain ⟨⟨⟨i1, i2⟩, i3⟩, i4⟩ : ((inB l[k].line 1 99 = true ∧ inB l[k].cross 1 99 = true) ∧ inB l[k].main (-1000) 20000 = true) ∧ inB l[k].check (-1000) 20000 = true := by simpa [cellOk] using hok
        go_wp2_with (first | (go_at_call 14; refine (implIn _ _ _ _).mono ?_; rintro e w' ⟨rfl, rfl⟩) | (go_at_call 15; refine (implDepth _ _).mono ?_; rintro e w' ⟨rfl, rfl⟩))
        generalize hW : World.alloc wr _ = W1
        obtain ⟨hbW, hx, hsW⟩ := alloc_facts hW
        have HW := Lib.hid hW
        clear hW
        go_loopw [40] (fun j wr => ∃ m : Nat, m ≤ k ∧ j = .int .i64 m ∧ Below W1.heap.size W1 wr ∧ Hid (∀ y ∈ l.take m, same y l[k] = false)) (fun j _ => k - (intOf j).toNat)
        case atStart => exact ⟨0, Nat.zero_le _, rfl, Below.refl _ _, (fun y hy => by simp at hy : ∀ y ∈ l.take 0, same y l[k] = false)⟩
        case round =>
          obtain ⟨m, hm, rfl, hb2, H2⟩ := hrel
          by_cases hlt2 : m < k
          · obtain ⟨hbl', d0, d1, d2, d3⟩ := Cr.get (h.below (bth (bth hb hbW) hb2)) (show m < l.length by omega)
            have e0 : wr.cell? ⟨_, 0, none⟩ = _ := (hx.below hb2).2.1 0 _ rfl
            have e1 : wr.cell? ⟨_, 1, none⟩ = _ := (hx.below hb2).2.1 1 _ rfl
            have q1 := (hx.below hb2).1
            by_cases p1 : (l[k].line == l[m].line) = true
            · by_cases p2 : (l[k].cross == l[m].cross) = true
              · go_wp2
                go_ret
                refine ⟨ret_bool (crGood_twice hlt hlt2 ?_).symm, (bth (bth hb hbW) hb2).alloc (by have := hb.size; have := hb2.size; omega) _⟩
                unfold same
                simp only [Bool.and_eq_true, beq_iff_eq] at p1 p2 ⊢
                exact ⟨p1.symm, p2.symm⟩
              · have p3 : (l[k].cross == l[m].cross) = false := by simpa using p2
                go_wp2
                go_roundw
                case rel =>
                  refine ⟨m + 1, by omega, by go_num, hb2.alloc hb2.size _, (step_take (by omega) H2.out ?_ : _)⟩
                  unfold same
                  simp only [Bool.and_eq_false_iff, beq_eq_false_iff_ne, ne_eq] at p3 ⊢
                  exact .inr fun e => p3 e.symm
                case measure => simp [intOf]; omega
            · have p3 : (l[k].line == l[m].line) = false := by simpa using p1
              go_wp2
              go_roundw
              case rel =>
                  refine ⟨m + 1, by omega, by go_num, hb2.alloc hb2.size _, (step_take (by omega) H2.out ?_ : _)⟩
                  unfold same
                  simp only [Bool.and_eq_false_iff, beq_eq_false_iff_ne, ne_eq] at p3 ⊢
                  exact .inl fun e => p3 e.symm
              case measure => simp [intOf]; omega
          · obtain rfl : m = k := by omega
            go_wp2
            go_roundw
            case rel => exact ⟨m + 1, by omega, by go_num, bth (bth hb hbW) hb2, (step_ok H.out (okAt_of hlt hok H2.out) : _)⟩
            case measure => simp [intOf]; omega
      · go_wp2_with (first | (go_at_call 14; refine (implIn _ _ _ _).mono ?_; rintro e w' ⟨rfl, rfl⟩) | (go_at_call 15; refine (implDepth _ _).mono ?_; rintro e w' ⟨rfl, rfl⟩))
        all_goals first | (go_ret; exact ⟨ret_bool (crGood_bad hlt (by simpa using hok)).symm, hb.alloc hb.size _⟩) | (exfalso; apply hok; simp only [cellOk, Bool.and_eq_true]; exact ⟨⟨⟨‹_›, ‹_›⟩, ‹_›⟩, not_false_eq ‹_›⟩)
    · go_wp2
      go_ret
      exact ⟨ret_bool (crGood_end (fun m hm => H.out m (by omega))).symm, hb⟩

theorem sgood (A : Option Addr) (c : Nat) (l : List Cr) (w : World) (h : Sl 4 Cr.enc w A l) (hn : l.length ≤ 1048576) :
    Calls Try.prog 6 #[.slice A l.length c] w fun e w' => e = .returned (.bool (crGood l)) ∧ Below w.heap.size w w' := by
  go_enter Try.func6, Try.ntmps6
  go_wp2_with (go_at_call 12; refine (good A c l _ h hn).mono ?_; rintro e w' ⟨rfl, hb⟩)
  go_ret
  exact ⟨rfl, hb⟩
end Go.Proofs.Ytjilcgdmfkjfmaa
