/- Whether a list is one of valid casts: the reference's function. At most 1048576 casts and layers. -/
import Derived.Test.YtfmlfeokdaahmaaW7b
import Derived.Test.YtfmlfeokdaahmaaP7d
import Derived.Test.YtfmlfeokdaahmaaS7b
set_option linter.unusedVariables false
set_option linter.unusedSimpArgs false
namespace Go.Proofs.Ytfmlfeokdaahmaa
open Go.RowKit
set_option maxHeartbeats 2000000
set_option maxRecDepth 100000
theorem dti {hs : List Ch} {k : Nat} (h : k < hs.length) : cti (dat hs) k = hs[k].t := by rw [cti_of (by rw [dat_len]; exact h), dat_get h]
theorem s7Good (A : Option Addr) (c : Nat) (hs : List Ch) (w : World) (h : Sl 5 Ch.enc w A hs) (ok : OkS w hs) (hn : hs.length ≤ 1048576) (hl : ∀ k (hk : k < hs.length), hs[k].t.lay.length ≤ 1048576) :
    Calls Try.prog 72 #[.slice A hs.length c] w fun e w' => e = .returned (.bool (ctsGood (dat hs))) ∧ Below w.heap.size w w' := by
  have HL := Lib.hid hl
  have DL := Lib.hid (dat_len hs)
  clear hl
  go_enter Try.func72, Try.ntmps72
  go_wp2
  go_loopw [3] (fun i wr => ∃ k : Nat, k ≤ hs.length ∧ i = .int .i64 k ∧ Below w.heap.size w wr ∧ Hid (∀ m, m < k → ctsAt (dat hs) m = true)) (fun i _ => hs.length - (intOf i).toNat)
  case atStart => exact ⟨0, Nat.zero_le _, rfl, Below.refl _ _, (fun m hm => absurd hm (by omega) : ∀ m, m < 0 → ctsAt (dat hs) m = true)⟩
  case round =>
    obtain ⟨k, hk, rfl, hb, H⟩ := hrel
    by_cases hlt : k < hs.length
    · obtain ⟨b, off, rfl⟩ := h.addr (by omega)
      obtain ⟨hbl, c0, c1, c2, c3, c4⟩ := Ch.get (h.below hb) hlt
      have hA := aft_cell hbl
      have u1 : (0 : Int) ≤ (k : Int) := by omega
      have u2 : (k : Int) < (hs.length : Int) := by omega
      have s1 := (ok.at hlt).below hb
      have TC := Lib.hid (show ∀ (x : Aft wr), Calls Try.prog 55 #[.agg #[.int .i64 hs[k].t.id, .int .i64 hs[k].t.time, .int .i64 hs[k].t.x, .int .i64 hs[k].t.y, .slice hs[k].A hs[k].t.lay.length hs[k].cp]] x.val fun e w' => e = .returned (.bool (ctOk hs[k].t)) ∧ Below x.val.heap.size x.val w' from
        fun x => s7One hs[k].t hs[k].A hs[k].cp x.val (s1.aft x) (HL.out k hlt))
      clear s1
      cases hok : ctOk hs[k].t with
      | false =>
        have HB := Lib.hid (ctsGood_bad (l := dat hs) (by rw [dat_len]; exact hlt) (ctsAt_one (by rw [dti hlt]; exact hok)))
        have HO := Lib.hid hok
        clear hok
        go_wp2_with (fail)
        refine wp_region_aft (by kernel_rfl) (by kernel_rfl) ?_
        repeat (go_big_quiet_step ((go_at_call 55; exact Aft.callsB _ (TC.out _) HO.out)))
        refine wpQuiet_nil ?_
        intro w9 b9
        go_wp2
        go_ret
        exact ⟨ret_bool HB.out.symm, bth hb b9⟩
      | true =>
        have HOK := Lib.hid (show ctOk (cti (dat hs) k) = true by rw [dti hlt]; exact hok)
        have HO := Lib.hid hok
        clear hok
        by_cases hz : k = 0
        · subst hz
          simp only [Nat.zero_mul, Nat.add_zero] at c0 c1 c2 c3 c4
          go_wp2_with (fail)
          refine wp_region_aft (by kernel_rfl) (by kernel_rfl) ?_
          repeat (go_big_quiet_step ((go_at_call 55; exact Aft.callsB _ (TC.out _) HO.out)))
          refine wpQuiet_nil ?_
          intro w9 b9
          go_wp2
          have HN := Lib.hid (ctsAt_yes HOK.out (fun m hm => absurd hm (by omega)) (fun m hm => absurd hm (by omega)))
          go_rounds 1
          go_roundw
          case rel => exact ⟨1, by omega, by go_num, bth hb b9, (step_ok H.out HN.out : _)⟩
          case measure => simp [intOf]; omega
        · obtain ⟨m, hm⟩ : ∃ m, k = m + 1 := ⟨k - 1, by omega⟩
          have hml : m < hs.length := by omega
          obtain ⟨_, _, d1, _, _, _⟩ := Ch.get (h.below hb) hml
          have t0 : 0 < k := by omega
          have t1 : (0 : Int) < (k : Int) := by omega
          have t2 : (0 : Int) ≤ (k : Int) - 1 := by omega
          have t3 : (k : Int) - 1 < (hs.length : Int) := by omega
          have t4 : ((k : Int) - 1).toNat = m := by omega
          have HM := Lib.hid hm
          clear hz hm
          by_cases ht : hs[m].t.time < hs[k].t.time
          · have ht' : decide (hs[k].t.time ≤ hs[m].t.time) = false := by simp; omega
            have HT := Lib.hid (show ∀ n, k = n + 1 → (cti (dat hs) n).time < (cti (dat hs) (n + 1)).time from fun n hn => by
              obtain rfl : n = m := by have := HM.out; omega
              rw [dti hml, ← hn, dti hlt]; exact ht)
            go_wp2_with (fail)
            refine wp_region_aft (by kernel_rfl) (by kernel_rfl) ?_
            repeat (go_big_quiet_step ((go_at_call 55; exact Aft.callsB _ (TC.out _) HO.out)))
            refine wpQuiet_nil ?_
            intro w9 b9
            clear c0 c1 c2 c3 c4 d1 hA t1 t2 t3 t4 ht ht' TC
            go_wp2
            have K0 := Lib.hid (show ∀ m, k = m + 1 → (cti (dat hs) m).time < (cti (dat hs) (m + 1)).time from HT.out)
            go_loopw [4] (fun j wr => ∃ m : Nat, m ≤ k ∧ j = .int .i64 m ∧ Below w.heap.size w wr ∧ Hid (∀ n, n < m → (cti (dat hs) n).id ≠ (cti (dat hs) k).id)) (fun j _ => k - (intOf j).toNat)
            case atStart => exact ⟨0, Nat.zero_le _, rfl, bth hb b9, (fun n hn => absurd hn (by omega) : ∀ n, n < 0 → (cti (dat hs) n).id ≠ (cti (dat hs) k).id)⟩
            case round =>
              clear hb b9
              obtain ⟨m, hm, rfl, hb, HI⟩ := hrel
              by_cases hmk : m < k
              · have hml : m < hs.length := by omega
                obtain ⟨hbl, c0, _, _, _, _⟩ := Ch.get (h.below hb) hlt
                obtain ⟨_, d0, _, _, _, _⟩ := Ch.get (h.below hb) hml
                have l1 := aft_cell hbl
                have y1 : (0 : Int) ≤ (m : Int) := by omega
                have y2 : (m : Int) < (hs.length : Int) := by omega
                have EM := Lib.hid (dti hml)
                have EK := Lib.hid (dti hlt)
                by_cases he : hs[m].t.id = hs[k].t.id
                · have HB := Lib.hid (ctsGood_bad (l := dat hs) (by rw [dat_len]; exact hlt) (ctsAt_id hmk (by rw [EM.out, EK.out]; exact he)))
                  rw [he] at d0
                  clear he
                  go_wp2_with (fail)
                  refine wp_region_aft (by kernel_rfl) (by kernel_rfl) ?_
                  repeat (go_big_quiet_step ((fail)))
                  refine wpQuiet_nil ?_
                  intro w9 b9
                  go_wp2
                  go_ret
                  exact ⟨ret_bool HB.out.symm, bth hb b9⟩
                · have HE := Lib.hid he
                  have he' : (hs[m].t.id == hs[k].t.id) = false := by rw [beq_eq_false_iff_ne]; exact he
                  go_wp2_with (fail)
                  refine wp_region_aft (by kernel_rfl) (by kernel_rfl) ?_
                  repeat (go_big_quiet_step ((fail)))
                  refine wpQuiet_nil ?_
                  intro w9 b9
                  go_wp2
                  go_roundw
                  case rel => exact ⟨m + 1, by omega, by go_num, bth hb b9, (fun n hn => by
                    by_cases e : n = m
                    · subst e; rw [EM.out, EK.out]; exact HE.out
                    · exact HI.out n (by omega) : ∀ n, n < m + 1 → (cti (dat hs) n).id ≠ (cti (dat hs) k).id)⟩
                  case measure => simp [intOf]; omega
              · obtain rfl : m = k := by omega
                have HN := Lib.hid (ctsAt_yes HOK.out K0.out HI.out)
                go_wp2
                go_roundw
                case rel => exact ⟨m + 1, by omega, by go_num, hb, (step_ok H.out HN.out : _)⟩
                case measure => simp [intOf]; omega
          · have ht' : hs[k].t.time ≤ hs[m].t.time := by omega
            have HB := Lib.hid (ctsGood_bad (l := dat hs) (k := k) (by rw [dat_len]; exact hlt) (by
              have e := HM.out
              subst e
              exact ctsAt_time (by rw [dti hml, dti hlt]; exact ht)))
            go_wp2_with (fail)
            refine wp_region_aft (by kernel_rfl) (by kernel_rfl) ?_
            repeat (go_big_quiet_step ((go_at_call 55; exact Aft.callsB _ (TC.out _) HO.out)))
            refine wpQuiet_nil ?_
            intro w9 b9
            go_wp2
            go_ret
            exact ⟨ret_bool HB.out.symm, bth hb b9⟩
    · obtain rfl : k = hs.length := by omega
      go_wp2
      go_ret
      exact ⟨ret_bool (by rw [ctsGood_end (fun m hm => H.out m (by rw [DL.out] at hm; exact hm)), DL.out]), hb⟩
end Go.Proofs.Ytfmlfeokdaahmaa
