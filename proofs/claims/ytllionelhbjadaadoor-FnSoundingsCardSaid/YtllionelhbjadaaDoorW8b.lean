/- Whether a list is one of valid soundings: the reference's and the program's function return the same. Lists of at most 1048576 soundings. -/
import Derived.Test.YtllionelhbjadaaDoorP8
import Derived.Test.YtllionelhbjadaaDoorW2
set_option linter.unusedVariables false
set_option linter.unusedSimpArgs false
namespace Go.Proofs.YtllionelhbjadaaDoor
open Go.RowKit
set_option maxHeartbeats 2000000
def Sd.agg (x : Sd) : Value := .agg #[.int .i64 x.id, .int .i64 x.x, .int .i64 x.y, .int .i64 x.depth, .int .i64 x.doubt]
theorem sdOk_sp (x : Sd) : sdOk x = (inB x.id 1 999 && spOk x.x x.y && inB x.depth (-1000) 20000 && inB x.doubt 0 500) := by rw [sdOk_def, spOk_def]
theorem specOne (x : Sd) (w : World) :
    Calls Tryd.prog 24 #[.agg #[.int .i64 x.id, .int .i64 x.x, .int .i64 x.y, .int .i64 x.depth, .int .i64 x.doubt]] w fun e w' => e = .returned (.bool (sdOk x)) ∧ Below w.heap.size w w' := by
  go_enter Tryd.func24, Tryd.ntmps24
  go_wp2_with (first
    | (go_at_call 53; refine (specIn _ _ _ _).mono ?_; rintro e w' ⟨rfl, rfl⟩)
    | (go_at_call 55; refine (specDepth _ _).mono ?_; rintro e w' ⟨rfl, rfl⟩)
    | (go_at_call 54; refine (specSpot _ _ _).mono ?_; rintro e w1 ⟨rfl, b1⟩; obtain ⟨h1, h2⟩ := bcell b1))
  all_goals
    go_ret
    exact ⟨ret_bool (by rw [sdOk_sp]; simp [*]), by first | exact (below_alloc w _).trans (b1.mono (by simp)) | go_grown⟩
theorem implOne (x : Sd) (w : World) :
    Calls Tryd.prog 14 #[.agg #[.int .i64 x.id, .int .i64 x.x, .int .i64 x.y, .int .i64 x.depth, .int .i64 x.doubt]] w fun e w' => e = .returned (.bool (sdOk x)) ∧ Below w.heap.size w w' := by
  go_enter Tryd.func14, Tryd.ntmps14
  go_wp2_with (first
    | (go_at_call 34; refine (implIn _ _ _ _).mono ?_; rintro e w' ⟨rfl, rfl⟩)
    | (go_at_call 36; refine (implDepth _ _).mono ?_; rintro e w' ⟨rfl, rfl⟩)
    | (go_at_call 35; refine (implSpot _ _ _).mono ?_; rintro e w1 ⟨rfl, b1⟩; obtain ⟨h1, h2⟩ := bcell b1))
  all_goals
    go_ret
    exact ⟨ret_bool (by rw [sdOk_sp]; simp [*]), by first | exact (below_alloc w _).trans (b1.mono (by simp)) | go_grown⟩
theorem s8Good (A : Option Addr) (c : Nat) (l : List Sd) (w : World) (h : Sl 5 Sd.enc w A l) (hn : l.length ≤ 1048576) :
    Calls Tryd.prog 44 #[.slice A l.length c] w fun e w' => e = .returned (.bool (sdGood l)) ∧ Below w.heap.size w w' := by
  go_enter Tryd.func44, Tryd.ntmps44
  go_wp2
  go_loopw [3] (fun i wr => ∃ k : Nat, k ≤ l.length ∧ i = .int .i64 k ∧ Below w.heap.size w wr ∧ Hid (∀ m, m < k → sdAt l m = true)) (fun i _ => l.length - (intOf i).toNat)
  case atStart => exact ⟨0, Nat.zero_le _, rfl, Below.refl _ _, (fun m hm => absurd hm (by omega) : ∀ m, m < 0 → sdAt l m = true)⟩
  case round =>
    obtain ⟨k, hk, rfl, hb, H⟩ := hrel
    by_cases hlt : k < l.length
    · obtain ⟨b, off, rfl⟩ := h.addr (by omega)
      have hs := h.below hb
      obtain ⟨hbl, c0, c1, c2, c3, c4⟩ := Sd.get hs hlt
      have hA := aft_cell hbl
      have u1 : (0 : Int) ≤ (k : Int) := by omega
      have u2 : (k : Int) < (l.length : Int) := by omega
      by_cases hok : sdOk l[k] = true
      · by_cases hz : 0 < k
        · obtain ⟨m, hm⟩ : ∃ m, k = m + 1 := ⟨k - 1, by omega⟩
          have hml : m < l.length := by omega
          obtain ⟨_, d0, _, _, _, _⟩ := Sd.get hs hml
          have t1 : (0 : Int) < (k : Int) := by omega
          have t2 : (0 : Int) ≤ (k : Int) - 1 := by omega
          have t3 : (k : Int) - 1 < (l.length : Int) := by omega
          have t4 : ((k : Int) - 1).toNat = m := by omega
          have e9 : sdAt l k = (sdOk l[k] && decide ((l[m]'hml).id < l[k].id)) := by subst hm; exact sdAt_succ hlt
          rw [hok, Bool.true_and] at e9
          have E9 := Lib.hid e9
          have HOK := Lib.hid hok
          clear e9 hok hm
          go_wp2_with (fail)
          refine wp_region_aft (by kernel_rfl) (by kernel_rfl) ?_
          repeat (go_big_quiet_step ((go_at_call 24; exact Aft.callsB _ (specOne l[k] _) HOK.out)))
          refine wpQuiet_nil ?_
          intro w9 b9
          go_wp2
          all_goals first
            | (go_roundw
               case rel => exact ⟨k + 1, by omega, by go_num, bth hb b9, (step_ok H.out (by rw [E9.out]; simp; omega) : _)⟩
               case measure => simp [intOf]; omega)
            | (go_ret
               exact ⟨ret_bool (sdGood_bad hlt (by rw [E9.out]; simp; omega)).symm, bth hb b9⟩)
        · have t1 : decide ((0 : Int) < (k : Int)) = false := by simp; omega
          have HN := Lib.hid (show sdAt l k = true by
            have : k = 0 := by omega
            subst this
            rw [sdAt_zero hlt]; exact hok)
          have HOK := Lib.hid hok
          clear hok
          go_wp2_with (fail)
          refine wp_region_aft (by kernel_rfl) (by kernel_rfl) ?_
          repeat (go_big_quiet_step ((go_at_call 24; exact Aft.callsB _ (specOne l[k] _) HOK.out)))
          refine wpQuiet_nil ?_
          intro w9 b9
          go_wp2
          go_roundw
          case rel => exact ⟨k + 1, by omega, by go_num, bth hb b9, (step_ok H.out HN.out : _)⟩
          case measure => simp [intOf]; omega
      · have hok' : sdOk l[k] = false := by simpa using hok
        have HOK := Lib.hid hok'
        have HB := Lib.hid (sdGood_bad hlt (sdAt_bad hlt hok'))
        clear hok' hok
        go_wp2_with (fail)
        refine wp_region_aft (by kernel_rfl) (by kernel_rfl) ?_
        repeat (go_big_quiet_step ((go_at_call 24; exact Aft.callsB _ (specOne l[k] _) HOK.out)))
        refine wpQuiet_nil ?_
        intro w9 b9
        go_wp2
        go_ret
        exact ⟨ret_bool HB.out.symm, bth hb b9⟩
    · obtain rfl : k = l.length := by omega
      go_wp2
      go_ret
      exact ⟨ret_bool (sdGood_end (fun m hm => H.out m (by omega))).symm, hb⟩

theorem sAre8 (A : Option Addr) (c : Nat) (l : List Sd) (w : World) (h : Sl 5 Sd.enc w A l) (hn : l.length ≤ 1048576) :
    Calls Tryd.prog 20 #[.slice A l.length c] w fun e w' => e = .returned (.bool (sdGood l)) ∧ Below w.heap.size w w' := by
  go_enter Tryd.func20, Tryd.ntmps20
  go_wp2_with (fail)
  refine (s8Good _ _ l _ h hn).mono ?_; rintro e w1 ⟨rfl, b1⟩
  go_wp2_with (fail)
  go_ret
  exact ⟨rfl, b1⟩
theorem i8Good (A : Option Addr) (c : Nat) (l : List Sd) (w : World) (h : Sl 5 Sd.enc w A l) (hn : l.length ≤ 1048576) :
    Calls Tryd.prog 19 #[.slice A l.length c] w fun e w' => e = .returned (.bool (sdGood l)) ∧ Below w.heap.size w w' := by
  go_enter Tryd.func19, Tryd.ntmps19
  go_wp2
  go_loopw [7] (fun i wr => ∃ k : Nat, k ≤ l.length ∧ i = .int .i64 k ∧ Below w.heap.size w wr ∧ Hid (∀ m, m < k → sdAt l m = true)) (fun i _ => l.length - (intOf i).toNat)
  case atStart => exact ⟨0, Nat.zero_le _, rfl, Below.refl _ _, (fun m hm => absurd hm (by omega) : ∀ m, m < 0 → sdAt l m = true)⟩
  case round =>
    obtain ⟨k, hk, rfl, hb, H⟩ := hrel
    by_cases hlt : k < l.length
    · obtain ⟨b, off, rfl⟩ := h.addr (by omega)
      have hs := h.below hb
      obtain ⟨hbl, c0, c1, c2, c3, c4⟩ := Sd.get hs hlt
      have u1 : (0 : Int) ≤ (k : Int) := by omega
      have u2 : (k : Int) < (l.length : Int) := by omega
      go_wp2_with (fail)
      generalize hW : World.alloc wr _ = W1
      obtain ⟨bW, kW, _⟩ := alloc_facts hW
      clear hW
      have hb := bth hb bW
      have hs := hs.below bW
      have hA := aft_cell (Nat.lt_of_lt_of_le hbl bW.size)
      have hB := aft_cell kW.1
      have m0 := kW.2.1 0 _ rfl
      have m1 := kW.2.1 1 _ rfl
      have m2 := kW.2.1 2 _ rfl
      have m3 := kW.2.1 3 _ rfl
      have m4 := kW.2.1 4 _ rfl
      clear kW bW c0 c1 c2 c3 c4 hbl
      generalize wr.heap.size = g at *
      by_cases hok : sdOk l[k] = true
      · by_cases hz : 0 < k
        · obtain ⟨m, hm⟩ : ∃ m, k = m + 1 := ⟨k - 1, by omega⟩
          have hml : m < l.length := by omega
          obtain ⟨_, d0, _, _, _, _⟩ := Sd.get hs hml
          have t1 : (0 : Int) < (k : Int) := by omega
          have t2 : (0 : Int) ≤ (k : Int) - 1 := by omega
          have t3 : (k : Int) - 1 < (l.length : Int) := by omega
          have t4 : ((k : Int) - 1).toNat = m := by omega
          have e9 : sdAt l k = (sdOk l[k] && decide ((l[m]'hml).id < l[k].id)) := by subst hm; exact sdAt_succ hlt
          rw [hok, Bool.true_and] at e9
          have E9 := Lib.hid e9
          have HOK := Lib.hid hok
          clear e9 hok hm
          refine wp_region_aft (by kernel_rfl) (by kernel_rfl) ?_
          repeat (go_big_quiet_step ((go_at_call 14; exact Aft.callsB _ (implOne l[k] _) HOK.out)))
          refine wpQuiet_nil ?_
          intro w9 b9
          go_wp2
          all_goals first
            | (go_roundw
               case rel => exact ⟨k + 1, by omega, by go_num, bth hb b9, (step_ok H.out (by rw [E9.out]; simp; omega) : _)⟩
               case measure => simp [intOf]; omega)
            | (go_ret
               exact ⟨ret_bool (sdGood_bad hlt (by rw [E9.out]; simp; omega)).symm, bth hb b9⟩)
        · have t1 : decide ((0 : Int) < (k : Int)) = false := by simp; omega
          have HN := Lib.hid (show sdAt l k = true by
            have : k = 0 := by omega
            subst this
            rw [sdAt_zero hlt]; exact hok)
          have HOK := Lib.hid hok
          clear hok
          refine wp_region_aft (by kernel_rfl) (by kernel_rfl) ?_
          repeat (go_big_quiet_step ((go_at_call 14; exact Aft.callsB _ (implOne l[k] _) HOK.out)))
          refine wpQuiet_nil ?_
          intro w9 b9
          go_wp2
          go_roundw
          case rel => exact ⟨k + 1, by omega, by go_num, bth hb b9, (step_ok H.out HN.out : _)⟩
          case measure => simp [intOf]; omega
      · have hok' : sdOk l[k] = false := by simpa using hok
        have HOK := Lib.hid hok'
        have HB := Lib.hid (sdGood_bad hlt (sdAt_bad hlt hok'))
        clear hok' hok
        refine wp_region_aft (by kernel_rfl) (by kernel_rfl) ?_
        repeat (go_big_quiet_step ((go_at_call 14; exact Aft.callsB _ (implOne l[k] _) HOK.out)))
        refine wpQuiet_nil ?_
        intro w9 b9
        go_wp2
        go_ret
        exact ⟨ret_bool HB.out.symm, bth hb b9⟩
    · obtain rfl : k = l.length := by omega
      go_wp2
      go_ret
      exact ⟨ret_bool (sdGood_end (fun m hm => H.out m (by omega))).symm, hb⟩
end Go.Proofs.YtllionelhbjadaaDoor
