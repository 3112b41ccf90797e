/- Whether a list is one of valid craft: the reference's and the program's function return the same. Lists of at most 1048576 craft. -/
import Derived.Test.YtanmkjjclpplkaaW5a
import Derived.Test.YtanmkjjclpplkaaFind
set_option linter.unusedVariables false
set_option linter.unusedSimpArgs false
namespace Go.Proofs.Ytanmkjjclpplkaa
open Go.RowKit
set_option maxHeartbeats 4000000
set_option maxRecDepth 100000
def NmS (l : List Cr) : Prop := ∀ k (hk : k < l.length), l[k].name.size ≤ 9223372036854775807
theorem ne_list {a b : ByteArray} (h : a ≠ b) : (a.toList == b.toList) = false ∧ (a == b) = false := by
  have e : (a.toList == b.toList) = false := by
    rw [beq_eq_false_iff_ne, ByteArray.toList_eq, ByteArray.toList_eq]
    intro e
    apply h
    obtain ⟨⟨x⟩⟩ := a
    obtain ⟨⟨y⟩⟩ := b
    simp at e
    rw [e]
  exact ⟨e, by rw [beq_toListBytes]; exact e⟩
theorem s5Good (A : Option Addr) (c : Nat) (l : List Cr) (w : World) (h : Sl 7 Cr.enc w A l) (hn : l.length ≤ 1048576) (hq : NmS l) :
    Calls Try.prog 33 #[.slice A l.length c] w fun e w' => e = .returned (.bool (crsGood l)) ∧ Below w.heap.size w w' := by
  have HQ := Lib.hid hq
  clear hq
  go_enter Try.func33, Try.ntmps33
  go_wp2
  go_loopw [3] (fun i wr => ∃ k : Nat, k ≤ l.length ∧ i = .int .i64 k ∧ Below w.heap.size w wr ∧ Hid (∀ m, m < k → crsAt l m = true)) (fun i _ => l.length - (intOf i).toNat)
  case atStart => exact ⟨0, Nat.zero_le _, rfl, Below.refl _ _, (fun m hm => absurd hm (by omega) : ∀ m, m < 0 → crsAt l m = true)⟩
  case round =>
    obtain ⟨k, hk, rfl, hb, H⟩ := hrel
    by_cases hlt : k < l.length
    · obtain ⟨b, off, rfl⟩ := h.addr (by omega)
      have hs := h.below hb
      obtain ⟨hbl, c0, c1, c2, c3, c4, c5, c6⟩ := Cr.get hs hlt
      have hA := aft_cell hbl
      have u1 : (0 : Int) ≤ (k : Int) := by omega
      have u2 : (k : Int) < (l.length : Int) := by omega
      have ek := Lib.hid (cri_of hlt)
      have TC := Lib.hid (show ∀ (x : Aft wr), Calls Try.prog 56 #[.agg #[.int .i64 l[k].id, .string l[k].name, .int .i64 l[k].draught, .int .i64 l[k].ahead, .int .i64 l[k].beside, .int .i64 l[k].speed, .int .i64 l[k].fuel]] x.val fun e w' => e = .returned (.bool (crOk l[k])) ∧ Below x.val.heap.size x.val w' from fun x => s5One l[k] x.val (HQ.out k hlt))
      cases hok : crOk l[k] with
      | false =>
        have HB := Lib.hid (crsGood_bad hlt (crsAt_one (by rw [ek.out]; exact hok)))
        have HO := Lib.hid hok
        clear hok
        go_wp2_with (fail)
        refine wp_region_aft (by kernel_rfl) (by kernel_rfl) ?_
        repeat (go_big_quiet_step ((go_at_call 56; exact Aft.callsB _ (TC.out _) HO.out)))
        refine wpQuiet_nil ?_
        intro w9 b9
        go_wp2
        go_ret
        exact ⟨ret_bool HB.out.symm, bth hb b9⟩
      | true =>
        have HOK := Lib.hid (show crOk (cri l k) = true by rw [ek.out]; exact hok)
        have HO := Lib.hid hok
        clear hok
        by_cases hz : k = 0
        · have z0 : ¬ 0 < k := by omega
          have z1 : ¬ (0 : Int) < (k : Int) := by omega
          have z2 : decide (0 < k) = false := by simp; omega
          have HZ := Lib.hid hz
          clear hz
          go_wp2_with (fail)
          refine wp_region_aft (by kernel_rfl) (by kernel_rfl) ?_
          repeat (go_big_quiet_step ((go_at_call 56; exact Aft.callsB _ (TC.out _) HO.out)))
          refine wpQuiet_nil ?_
          intro w9 b9
          clear c0 c1 c2 c3 c4 c5 c6 hA TC
          go_wp2_with (fail)
          have HN := Lib.hid (crsAt_yes HOK.out (fun m hm => absurd hm (by have := HZ.out; omega)) (fun m hm => absurd hm (by have := HZ.out; omega)))
          go_loopw [4] (fun i wr => i = .int .i64 0 ∧ Below w.heap.size w wr) (fun _ _ => 0)
          case atStart => exact ⟨rfl, bth hb b9⟩
          case round =>
            obtain ⟨rfl, hb2⟩ := hrel
            go_wp2_with (fail)
            go_roundw
            case rel => exact ⟨k + 1, by omega, by go_num, hb2, (step_ok H.out HN.out : _)⟩
            case measure => simp [intOf]; omega
        · obtain ⟨m, hm⟩ : ∃ m, k = m + 1 := ⟨k - 1, by omega⟩
          have hml : m < l.length := by omega
          obtain ⟨_, d0, _, _, _, _, _, _⟩ := Cr.get hs hml
          have em := Lib.hid (cri_of hml)
          have t0 : 0 < k := by omega
          have t1 : (0 : Int) < (k : Int) := by omega
          have t2 : (0 : Int) ≤ (k : Int) - 1 := by omega
          have t3 : (k : Int) - 1 < (l.length : Int) := by omega
          have t4 : ((k : Int) - 1).toNat = m := by omega
          have HM := Lib.hid hm
          clear hz hm
          by_cases ht : l[m].id < l[k].id
          · have ht' : decide (l[k].id ≤ l[m].id) = false := by simp; omega
            have HT := Lib.hid (show ∀ n, k = n + 1 → (cri l n).id < (cri l (n + 1)).id from fun n hn => by
              obtain rfl : n = m := by have := HM.out; omega
              rw [em.out, ← hn, ek.out]; exact ht)
            go_wp2_with (fail)
            refine wp_region_aft (by kernel_rfl) (by kernel_rfl) ?_
            repeat (go_big_quiet_step ((go_at_call 56; exact Aft.callsB _ (TC.out _) HO.out)))
            refine wpQuiet_nil ?_
            intro w9 b9
            clear c0 c1 c2 c3 c4 c5 c6 d0 hA t1 t2 t3 t4 ht ht' TC
            go_wp2_with (fail)
            go_loopw [4] (fun i wr => ∃ j : Nat, j ≤ k ∧ i = .int .i64 j ∧ Below w.heap.size w wr ∧ Hid (∀ n, n < j → (cri l n).name ≠ (cri l k).name)) (fun i _ => k - (intOf i).toNat)
            case atStart => exact ⟨0, Nat.zero_le _, rfl, bth hb b9, (fun n hn => absurd hn (by omega) : ∀ n, n < 0 → (cri l n).name ≠ (cri l k).name)⟩
            case round =>
              clear hb b9
              obtain ⟨j, hj, rfl, hb, HI⟩ := hrel
              by_cases hjk : j < k
              · have hjl : j < l.length := by omega
                obtain ⟨hbl2, _, c1, _, _, _, _, _⟩ := Cr.get (h.below hb) hlt
                obtain ⟨_, _, d1, _, _, _, _, _⟩ := Cr.get (h.below hb) hjl
                have l1 := aft_cell hbl2
                have y1 : (0 : Int) ≤ (j : Int) := by omega
                have y2 : (j : Int) < (l.length : Int) := by omega
                have ej := Lib.hid (cri_of hjl)
                by_cases he : l[j].name = l[k].name
                · have HB := Lib.hid (crsGood_bad (l := l) hlt (crsAt_nm hjk (by rw [ej.out, ek.out]; exact he)))
                  rw [he] at d1
                  clear he
                  go_wp2_with (fail)
                  refine wp_region_aft (by kernel_rfl) (by kernel_rfl) ?_
                  repeat (go_big_quiet_step ((fail)))
                  refine wpQuiet_nil ?_
                  intro w9 b9
                  go_wp2
                  go_ret
                  exact ⟨ret_bool HB.out.symm, bth hb b9⟩
                · have HE := Lib.hid he
                  obtain ⟨he1, he2⟩ := ne_list he
                  go_wp2_with (fail)
                  refine wp_region_aft (by kernel_rfl) (by kernel_rfl) ?_
                  repeat (go_big_quiet_step ((fail)))
                  refine wpQuiet_nil ?_
                  intro w9 b9
                  go_wp2
                  go_roundw
                  case rel => exact ⟨j + 1, by omega, by go_num, bth hb b9, (fun n hn => by
                    by_cases e : n = j
                    · subst e; rw [ej.out, ek.out]; exact HE.out
                    · exact HI.out n (by omega) : ∀ n, n < j + 1 → (cri l n).name ≠ (cri l k).name)⟩
                  case measure => simp [intOf]; omega
              · obtain rfl : j = k := by omega
                have HN := Lib.hid (crsAt_yes HOK.out HT.out HI.out)
                go_wp2
                go_roundw
                case rel => exact ⟨j + 1, by omega, by go_num, hb, (step_ok H.out HN.out : _)⟩
                case measure => simp [intOf]; omega
          · have ht' : l[k].id ≤ l[m].id := by omega
            have HB := Lib.hid (crsGood_bad (l := l) (k := k) hlt (by
              have e := HM.out
              subst e
              exact crsAt_asc (by rw [em.out, ek.out]; exact ht)))
            go_wp2_with (fail)
            refine wp_region_aft (by kernel_rfl) (by kernel_rfl) ?_
            repeat (go_big_quiet_step ((go_at_call 56; exact Aft.callsB _ (TC.out _) HO.out)))
            refine wpQuiet_nil ?_
            intro w9 b9
            go_wp2
            go_ret
            exact ⟨ret_bool HB.out.symm, bth hb b9⟩
    · obtain rfl : k = l.length := by omega
      go_wp2
      go_ret
      exact ⟨ret_bool (crsGood_end (fun m hm => H.out m hm)).symm, hb⟩
end Go.Proofs.Ytanmkjjclpplkaa
