/- Whether a cast is valid: the reference's and the program's function return the same. At most 1048576 layers. -/
import Derived.Test.YtfmlfeokdaahmaaP7
set_option linter.unusedVariables false
set_option linter.unusedSimpArgs false
namespace Go.Proofs.Ytfmlfeokdaahmaa
open Go.RowKit
set_option maxHeartbeats 2000000
theorem specDp (n : Int) (w : World) :
    Calls Try.prog 62 #[.int .i64 n] w fun e w' => e = .returned (.bool (inB n 0 20000)) ∧ w = w' := by
  go_enter Try.func62, Try.ntmps62
  go_wp2_with (go_at_call 66; refine (specIn _ _ _ _).mono ?_; rintro e w' ⟨rfl, rfl⟩)
  go_ret
  exact ⟨rfl, rfl⟩
theorem specTm (n : Int) (w : World) :
    Calls Try.prog 79 #[.int .i64 n] w fun e w' => e = .returned (.bool (inB n 0 10000)) ∧ w = w' := by
  go_enter Try.func79, Try.ntmps79
  go_wp2_with (go_at_call 66; refine (specIn _ _ _ _).mono ?_; rintro e w' ⟨rfl, rfl⟩)
  go_ret
  exact ⟨rfl, rfl⟩
theorem implTm (n : Int) (w : World) :
    Calls Try.prog 58 #[.int .i64 n] w fun e w' => e = .returned (.bool (inB n 0 10000)) ∧ w = w' := by
  go_enter Try.func58, Try.ntmps58
  go_wp2_with (go_at_call 57; refine (implIn _ _ _ _).mono ?_; rintro e w' ⟨rfl, rfl⟩)
  go_ret
  exact ⟨rfl, rfl⟩
theorem ct_bad {t : Ct} {k : Nat} (hk : k < t.lay.length) (h : lyAt t.lay k = false) : ctOk t = false := by
  rw [ctOk_def, lyGood_bad hk h, Bool.and_false]
theorem s7One (t : Ct) (A : Option Addr) (c : Nat) (w : World) (h : Sl 2 Ly.enc w A t.lay) (hn : t.lay.length ≤ 1048576) :
    Calls Try.prog 55 #[.agg #[.int .i64 t.id, .int .i64 t.time, .int .i64 t.x, .int .i64 t.y, .slice A t.lay.length c]] w fun e w' => e = .returned (.bool (ctOk t)) ∧ Below w.heap.size w w' := by
  go_enter Try.func55, Try.ntmps55
  go_wp2_with (fail)
  generalize hW : World.alloc w _ = W1
  obtain ⟨bW, kW, _⟩ := alloc_facts hW
  clear hW
  have h := h.below bW
  have KW := Lib.hid (show ∀ W', Below W1.heap.size W1 W' → Bk W' w.heap.size [.int .i64 t.id, .int .i64 t.time, .int .i64 t.x, .int .i64 t.y, .slice A t.lay.length c] from fun W' hw => kW.below hw)
  clear kW
  go_loopw [3] (fun i wr => ∃ k : Nat, k ≤ t.lay.length ∧ i = .int .i64 k ∧ Below W1.heap.size W1 wr ∧ Hid (∀ m, m < k → lyAt t.lay m = true)) (fun i _ => t.lay.length - (intOf i).toNat)
  case atStart => exact ⟨0, Nat.zero_le _, rfl, Below.refl _ _, (fun m hm => absurd hm (by omega) : ∀ m, m < 0 → lyAt t.lay m = true)⟩
  case round =>
    obtain ⟨k, hk, rfl, hb, H⟩ := hrel
    have kr := KW.out _ hb
    have r4 := kr.2.1 4 _ rfl
    by_cases hlt : k < t.lay.length
    · obtain ⟨b, off, rfl⟩ := h.addr (by omega)
      obtain ⟨hbl, c0, c1⟩ := Ly.get (h.below hb) hlt
      have u1 : (0 : Int) ≤ (k : Int) := by omega
      have u2 : (k : Int) < (t.lay.length : Int) := by omega
      have hlr := kr.1
      go_wp2_with (fail)
      generalize hW : World.alloc wr _ = W2
      obtain ⟨bW2, kW2, _⟩ := alloc_facts hW
      clear hW
      have hb := bth hb bW2
      have hs := h.below hb
      have l1 := aft_cell (Nat.lt_of_lt_of_le hbl bW2.size)
      have l2 := aft_cell kW2.1
      have l3 := aft_cell (kr.below bW2).1
      have m0 := kW2.2.1 0 _ rfl
      have m1 := kW2.2.1 1 _ rfl
      have r4 := (kr.below bW2).2.1 4 _ rfl
      clear kW2 bW2 c0 c1 hbl kr hlr
      cases i1 : inB t.lay[k].dep 0 20000 with
      | false =>
        have HB := Lib.hid (ct_bad hlt (lyAt_dep hlt i1))
        have H1 := Lib.hid i1
        clear i1
        refine wp_region_aft (by kernel_rfl) (by kernel_rfl) ?_
        repeat (go_big_quiet_step ((go_at_call 62; exact Aft.pureB _ (specDp _ _) H1.out)))
        refine wpQuiet_nil ?_
        intro w9 b9
        go_wp2
        go_ret
        exact ⟨ret_bool HB.out.symm, bth bW (bth hb b9)⟩
      | true =>
        cases i2 : inB t.lay[k].spd 14000 16000 with
        | false =>
          have HB := Lib.hid (ct_bad hlt (lyAt_spd hlt i2))
          have H1 := Lib.hid i1
          have H2 := Lib.hid i2
          clear i1 i2
          refine wp_region_aft (by kernel_rfl) (by kernel_rfl) ?_
          repeat (go_big_quiet_step ((first | (go_at_call 62; exact Aft.pureB _ (specDp _ _) H1.out) | (go_at_call 66; exact Aft.pureB _ (specIn _ _ _ _) H2.out))))
          refine wpQuiet_nil ?_
          intro w9 b9
          go_wp2
          go_ret
          exact ⟨ret_bool HB.out.symm, bth bW (bth hb b9)⟩
        | true =>
          by_cases hz : k = 0
          · subst hz
            have D := Lib.hid (lyAt_zero hlt i1 i2)
            have H1 := Lib.hid i1
            have H2 := Lib.hid i2
            clear i1 i2
            by_cases hd : t.lay[0].dep = 0
            · have z2 : (t.lay[0].dep != 0) = false := by simp [hd]
              have HN := Lib.hid (show lyAt t.lay 0 = true by rw [D.out]; simp [hd])
              clear hd
              refine wp_region_aft (by kernel_rfl) (by kernel_rfl) ?_
              repeat (go_big_quiet_step ((first | (go_at_call 62; exact Aft.pureB _ (specDp _ _) H1.out) | (go_at_call 66; exact Aft.pureB _ (specIn _ _ _ _) H2.out))))
              refine wpQuiet_nil ?_
              intro w9 b9
              go_wp2
              go_roundw
              case rel => exact ⟨1, by omega, by go_num, bth hb b9, (step_ok H.out HN.out : _)⟩
              case measure => simp [intOf]; omega
            · have z2 : (t.lay[0].dep != 0) = true := by simp [hd]
              have HB := Lib.hid (ct_bad hlt (show lyAt t.lay 0 = false by rw [D.out]; simp [hd]))
              clear hd
              refine wp_region_aft (by kernel_rfl) (by kernel_rfl) ?_
              repeat (go_big_quiet_step ((first | (go_at_call 62; exact Aft.pureB _ (specDp _ _) H1.out) | (go_at_call 66; exact Aft.pureB _ (specIn _ _ _ _) H2.out))))
              refine wpQuiet_nil ?_
              intro w9 b9
              go_wp2
              go_ret
              exact ⟨ret_bool HB.out.symm, bth bW (bth hb b9)⟩
          · obtain ⟨m, hm⟩ : ∃ m, k = m + 1 := ⟨k - 1, by omega⟩
            have hml : m < t.lay.length := by omega
            have D := Lib.hid (show lyAt t.lay k = decide ((t.lay[m]'hml).dep < t.lay[k].dep) by subst hm; exact lyAt_succ hlt i1 i2)
            obtain ⟨_, d0, d1⟩ := Ly.get hs hml
            have H1 := Lib.hid i1
            have H2 := Lib.hid i2
            have z0 : ((k : Int) == 0) = false := by rw [beq_eq_false_iff_ne]; omega
            have t0 : 0 < k := by omega
            have t1 : (0 : Int) < (k : Int) := by omega
            have t2 : (0 : Int) ≤ (k : Int) - 1 := by omega
            have t3 : (k : Int) - 1 < (t.lay.length : Int) := by omega
            have t4 : ((k : Int) - 1).toNat = m := by omega
            clear i1 i2 hz hm
            refine wp_region_aft (by kernel_rfl) (by kernel_rfl) ?_
            repeat (go_big_quiet_step ((first | (go_at_call 62; exact Aft.pureB _ (specDp _ _) H1.out) | (go_at_call 66; exact Aft.pureB _ (specIn _ _ _ _) H2.out))))
            refine wpQuiet_nil ?_
            intro w9 b9
            go_wp2
            all_goals first
              | (go_roundw
                 case rel => exact ⟨k + 1, by omega, by go_num, bth hb b9, (step_ok H.out (by rw [D.out]; simp; omega) : _)⟩
                 case measure => simp [intOf]; omega)
              | (go_ret
                 exact ⟨ret_bool (ct_bad hlt (by rw [D.out]; simp; omega)).symm, bth bW (bth hb b9)⟩)
    · obtain rfl : k = t.lay.length := by omega
      have D := Lib.hid (show ctOk t = (inB t.id 1 99 && inB t.time 0 10000 && spOk t.x t.y && inB t.lay.length 1 8) by
        rw [ctOk_def, lyGood_end (fun k hk => H.out k hk), Bool.and_true])
      have r0 := kr.2.1 0 _ rfl
      have r1 := kr.2.1 1 _ rfl
      have r2 := kr.2.1 2 _ rfl
      have r3 := kr.2.1 3 _ rfl
      have hlr := kr.1
      go_wp2_with (first
        | (go_at_call 66; refine (specIn _ _ _ _).mono ?_; rintro e w' ⟨rfl, rfl⟩)
        | (go_at_call 79; refine (specTm _ _).mono ?_; rintro e w' ⟨rfl, rfl⟩)
        | (go_at_call 80; refine (specSpot _ _ _).mono ?_; rintro e w1 ⟨rfl, b1⟩; obtain ⟨h1, h2⟩ := bcell b1))
      all_goals
        go_ret
        exact ⟨ret_bool (by rw [D.out]; simp [*]), by first | exact bth bW (bth hb b1) | exact bth bW hb⟩
theorem ct_no {t : Ct} (h : inB t.id 1 99 = false ∨ inB t.time 0 10000 = false ∨ spOk t.x t.y = false ∨ inB t.lay.length 1 8 = false) : ctOk t = false := by
  rw [ctOk_def]
  rcases h with h | h | h | h <;> simp [h]
theorem i7One (t : Ct) (A : Option Addr) (c : Nat) (w : World) (h : Sl 2 Ly.enc w A t.lay) (hn : t.lay.length ≤ 1048576) :
    Calls Try.prog 18 #[.agg #[.int .i64 t.id, .int .i64 t.time, .int .i64 t.x, .int .i64 t.y, .slice A t.lay.length c]] w fun e w' => e = .returned (.bool (ctOk t)) ∧ Below w.heap.size w w' := by
  go_enter Try.func18, Try.ntmps18
  go_wp2_with (fail)
  generalize hW : World.alloc w _ = W1
  obtain ⟨bW, kW, _⟩ := alloc_facts hW
  clear hW
  have m1 := kW.2.1 1 _ rfl
  have m2 := kW.2.1 2 _ rfl
  have m3 := kW.2.1 3 _ rfl
  refine (implIn t.id 1 99 _).mono ?_; rintro e w' ⟨rfl, rfl⟩
  cases i1 : inB t.id 1 99 with
  | false =>
    have HB := Lib.hid (ct_no (.inl i1))
    clear i1
    go_wp2
    go_ret
    exact ⟨ret_bool HB.out.symm, bW⟩
  | true =>
    have I1 := Lib.hid i1
    clear i1
    go_wp2_with (fail)
    refine (implTm t.time _).mono ?_; rintro e w' ⟨rfl, rfl⟩
    cases i2 : inB t.time 0 10000 with
    | false =>
      have HB := Lib.hid (ct_no (.inr (.inl i2)))
      clear i2
      go_wp2
      go_ret
      exact ⟨ret_bool HB.out.symm, bW⟩
    | true =>
      have I2 := Lib.hid i2
      clear i2
      go_wp2_with (fail)
      refine (implSpot t.x t.y _).mono ?_; rintro e w1 ⟨rfl, b1⟩
      have k1 := kW.below b1
      have b1 := bth bW b1
      have r4 := k1.2.1 4 _ rfl
      clear m1 m2 m3 kW
      cases i3 : spOk t.x t.y with
      | false =>
        have HB := Lib.hid (ct_no (.inr (.inr (.inl i3))))
        clear i3
        go_wp2
        go_ret
        exact ⟨ret_bool HB.out.symm, b1⟩
      | true =>
        have I3 := Lib.hid i3
        clear i3
        go_wp2_with (fail)
        refine (implIn t.lay.length 1 8 _).mono ?_; rintro e w' ⟨rfl, rfl⟩
        cases i4 : inB t.lay.length 1 8 with
        | false =>
          have HB := Lib.hid (ct_no (.inr (.inr (.inr i4))))
          clear i4
          go_wp2
          go_ret
          exact ⟨ret_bool HB.out.symm, b1⟩
        | true =>
          have q4 := inB_true.1 i4
          have I4 := Lib.hid i4
          clear i4
          have h0 : 0 < t.lay.length := by omega
          have h := h.below b1
          obtain ⟨b, off, rfl⟩ := h.addr (by omega)
          obtain ⟨hbl, c0, _⟩ := Ly.get h h0
          simp only [Nat.zero_mul, Nat.add_zero] at c0
          by_cases hd : t.lay[0].dep = 0
          · have z2 : (t.lay[0].dep != 0) = false := by simp [hd]
            have HD := Lib.hid hd
            have KW := Lib.hid (show ∀ W', Below w1.heap.size w1 W' → Bk W' w.heap.size [.int .i64 t.id, .int .i64 t.time, .int .i64 t.x, .int .i64 t.y, .slice (some ⟨b, off, none⟩) t.lay.length c] from fun W' hw => k1.below hw)
            clear hd k1
            go_wp2
            clear z2 c0 r4
            go_loopw [39] (fun i wr => ∃ k : Nat, k ≤ t.lay.length ∧ i = .int .i64 k ∧ Below w1.heap.size w1 wr ∧ Hid (∀ m, m < k → lyAt t.lay m = true)) (fun i _ => t.lay.length - (intOf i).toNat)
            case atStart => exact ⟨0, Nat.zero_le _, rfl, Below.refl _ _, (fun m hm => absurd hm (by omega) : ∀ m, m < 0 → lyAt t.lay m = true)⟩
            case round =>
              obtain ⟨k, hk, rfl, hb, H⟩ := hrel
              by_cases hlt : k < t.lay.length
              · obtain ⟨_, c0, c1⟩ := Ly.get (h.below hb) hlt
                have u1 : (0 : Int) ≤ (k : Int) := by omega
                have u2 : (k : Int) < (t.lay.length : Int) := by omega
                go_wp2_with (fail)
                generalize hW : World.alloc wr _ = W2
                obtain ⟨bW2, kW2, _⟩ := alloc_facts hW
                clear hW
                have kr := KW.out _ (bth hb bW2)
                have hs := h.below (bth hb bW2)
                have l1 := aft_cell (Nat.lt_of_lt_of_le hbl (bth hb bW2).size)
                have l2 := aft_cell kW2.1
                have l3 := aft_cell kr.1
                have hb := bth hb bW2
                have m0 := kW2.2.1 0 _ rfl
                have m1 := kW2.2.1 1 _ rfl
                have r4 := kr.2.1 4 _ rfl
                clear kW2 bW2 c0 c1 kr
                cases i1 : inB t.lay[k].dep 0 20000 with
                | false =>
                  have HB := Lib.hid (ct_bad hlt (lyAt_dep hlt i1))
                  have H1 := Lib.hid i1
                  clear i1
                  refine wp_region_aft (by kernel_rfl) (by kernel_rfl) ?_
                  repeat (go_big_quiet_step ((go_at_call 57; exact Aft.pureB _ (implIn _ _ _ _) H1.out)))
                  refine wpQuiet_nil ?_
                  intro w9 b9
                  go_wp2
                  go_ret
                  exact ⟨ret_bool HB.out.symm, bth b1 (bth hb b9)⟩
                | true =>
                  cases i2 : inB t.lay[k].spd 14000 16000 with
                  | false =>
                    have HB := Lib.hid (ct_bad hlt (lyAt_spd hlt i2))
                    have H1 := Lib.hid i1
                    have H2 := Lib.hid i2
                    clear i1 i2
                    refine wp_region_aft (by kernel_rfl) (by kernel_rfl) ?_
                    repeat (go_big_quiet_step ((go_at_call 57; first | (with_reducible exact Aft.pureB _ (implIn t.lay[k].dep _ _ _) H1.out) | (with_reducible exact Aft.pureB _ (implIn t.lay[k].spd _ _ _) H2.out))))
                    refine wpQuiet_nil ?_
                    intro w9 b9
                    go_wp2
                    go_ret
                    exact ⟨ret_bool HB.out.symm, bth b1 (bth hb b9)⟩
                  | true =>
                    by_cases hz : k = 0
                    · subst hz
                      have HN := Lib.hid (show lyAt t.lay 0 = true by rw [lyAt_zero hlt i1 i2, HD.out]; rfl)
                      have H1 := Lib.hid i1
                      have H2 := Lib.hid i2
                      clear i1 i2
                      refine wp_region_aft (by kernel_rfl) (by kernel_rfl) ?_
                      repeat (go_big_quiet_step ((go_at_call 57; first | (with_reducible exact Aft.pureB _ (implIn t.lay[0].dep _ _ _) H1.out) | (with_reducible exact Aft.pureB _ (implIn t.lay[0].spd _ _ _) H2.out))))
                      refine wpQuiet_nil ?_
                      intro w9 b9
                      go_wp2
                      go_roundw
                      case rel => exact ⟨1, by omega, by go_num, bth hb b9, (step_ok H.out HN.out : _)⟩
                      case measure => simp [intOf]; omega
                    · obtain ⟨m, hm⟩ : ∃ m, k = m + 1 := ⟨k - 1, by omega⟩
                      have hml : m < t.lay.length := by omega
                      have D := Lib.hid (show lyAt t.lay k = decide ((t.lay[m]'hml).dep < t.lay[k].dep) by subst hm; exact lyAt_succ hlt i1 i2)
                      obtain ⟨_, d0, d1⟩ := Ly.get hs hml
                      have H1 := Lib.hid i1
                      have H2 := Lib.hid i2
                      have t0 : 0 < k := by omega
                      have t1 : (0 : Int) < (k : Int) := by omega
                      have t2 : (0 : Int) ≤ (k : Int) - 1 := by omega
                      have t3 : (k : Int) - 1 < (t.lay.length : Int) := by omega
                      have t4 : ((k : Int) - 1).toNat = m := by omega
                      clear i1 i2 hz hm
                      refine wp_region_aft (by kernel_rfl) (by kernel_rfl) ?_
                      repeat (go_big_quiet_step ((go_at_call 57; first | (with_reducible exact Aft.pureB _ (implIn t.lay[k].dep _ _ _) H1.out) | (with_reducible exact Aft.pureB _ (implIn t.lay[k].spd _ _ _) H2.out))))
                      refine wpQuiet_nil ?_
                      intro w9 b9
                      go_wp2
                      all_goals first
                        | (go_roundw
                           case rel => exact ⟨k + 1, by omega, by go_num, bth hb b9, (step_ok H.out (by rw [D.out]; simp; omega) : _)⟩
                           case measure => simp [intOf]; omega)
                        | (go_ret
                           exact ⟨ret_bool (ct_bad hlt (by rw [D.out]; simp; omega)).symm, bth b1 (bth hb b9)⟩)
              · obtain rfl : k = t.lay.length := by omega
                have D := Lib.hid (show ctOk t = true by rw [ctOk_def, lyGood_end (fun k hk => H.out k hk), I1.out, I2.out, I3.out, I4.out]; rfl)
                go_wp2
                go_ret
                exact ⟨ret_bool D.out.symm, bth b1 hb⟩
          · have z2 : (t.lay[0].dep != 0) = true := by simp [hd]
            have HB := Lib.hid (ct_bad h0 (show lyAt t.lay 0 = false by unfold lyAt; rw [lyi_of h0]; simp [hd]))
            clear hd
            go_wp2
            go_ret
            exact ⟨ret_bool HB.out.symm, b1⟩
end Go.Proofs.Ytfmlfeokdaahmaa
