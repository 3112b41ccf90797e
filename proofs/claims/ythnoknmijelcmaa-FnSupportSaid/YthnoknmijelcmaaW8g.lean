/- SupportedDepth of both texts: what it returns. Lists of at most 1048576 soundings. -/
import Derived.Test.YthnoknmijelcmaaW8f
set_option linter.unusedVariables false
set_option linter.unusedSimpArgs false
namespace Go.Proofs.Ythnoknmijelcmaa
open Go.RowKit
set_option maxHeartbeats 2000000
theorem sdOk_spOk {x : Sd} (h : sdOk x = true) : spOk x.x x.y = true := by
  rw [sdOk_sp] at h; simp only [Bool.and_eq_true] at h; exact h.1.1.2
theorem rr_bd {r : Int} (h : inB r 0 1000 = true) : 0 ≤ r * r ∧ r * r ≤ 1000000 := by
  rw [inB_true] at h
  have := sq_bd (a := r) (c := 0) (by omega) (by omega) (by omega) (by omega)
  simpa using this
theorem nearClos (x : Sd) (p : Sp) (r : Int) (g g' : Nat) (w : World) (hg : Bk w g p.enc) (hg' : Bk w g' [.int .i64 r]) (hx : sdOk x = true) (hp : spOk p.sx p.sy = true) (hr : inB r 0 1000 = true) :
    Calls Try.prog 54 #[.agg #[.int .i64 x.id, .int .i64 x.x, .int .i64 x.y, .int .i64 x.depth, .int .i64 x.doubt], .pointer (some ⟨g, 0, none⟩), .pointer (some ⟨g', 0, none⟩)] w fun e w' => e = .returned (.bool (nearP p.sx p.sy r x)) ∧ Below w.heap.size w w' := by
  have q := rr_bd hr
  have hq := inB_true.1 hr
  have hxs := sdOk_spOk hx
  have u5 : IntKind.i64.wrap (r * r) = r * r := IntWalk.i64_in _ (by omega)
  go_enter Try.func54, Try.ntmps54
  go_wp2_with (fail)
  generalize hW : World.alloc w _ = W1
  obtain ⟨bW, kW, _⟩ := alloc_facts hW
  clear hW
  have hg := hg.below bW
  have hg' := hg'.below bW
  have l1 := aft_cell kW.1
  have l2 := aft_cell hg.1
  have l3 := aft_cell hg'.1
  have k0 := kW.2.1 0 _ rfl
  have k1 := kW.2.1 1 _ rfl
  have k2 := kW.2.1 2 _ rfl
  have k3 := kW.2.1 3 _ rfl
  have k4 := kW.2.1 4 _ rfl
  have p0 := hg.2.1 0 _ rfl
  have p1 := hg.2.1 1 _ rfl
  have r0 := hg'.2.1 0 _ rfl
  have HX := Lib.hid hxs
  have HP := Lib.hid hp
  clear hg hg' kW hxs hp hx hr
  refine wp_region_aft (by kernel_rfl) (by kernel_rfl) ?_
  repeat (go_big_quiet_step ((go_at_call 55; exact Aft.calls _ (implSqr _ _ _ _ _ HX.out HP.out))))
  refine wpQuiet_nil ?_
  intro w9 b9
  go_wp2
  go_ret
  exact ⟨rfl, bth bW b9⟩
theorem i8Near (A : Option Addr) (c : Nat) (l : List Sd) (p : Sp) (r : Int) (g g' : Nat) (w : World) (h : Sl 5 Sd.enc w A l) (hd : sdGood l = true) (hg : Bk w g p.enc) (hg' : Bk w g' [.int .i64 r]) (hp0 : spOk p.sx p.sy = true) (hr0 : inB r 0 1000 = true) :
    Calls Try.prog 53 #[.slice A l.length c, .func (.func 54) #[] #[.pointer (some ⟨g, 0, none⟩), .pointer (some ⟨g', 0, none⟩)]] w fun e w' => e = .returned (.int .i64 (bstK (nearP p.sx p.sy r) l l.length)) ∧ Below w.heap.size w w' := by
  have h12 := sdGood_len hd
  have G := Lib.hid hd
  have RR := Lib.hid (show ∀ W' : World, Below w.heap.size w W' → Bk W' g p.enc ∧ Bk W' g' [.int .i64 r] from fun W' hw => ⟨hg.below hw, hg'.below hw⟩)
  have PP := Lib.hid hp0
  have RO := Lib.hid hr0
  clear hd hg hg' hp0 hr0
  go_enter Try.func53, Try.ntmps53
  go_wp2
  go_loopw [5, 10] (fun x i wr => ∃ k : Nat, k ≤ l.length ∧ i = .int .i64 k ∧ x = .int .i64 (bstK (nearP p.sx p.sy r) l k) ∧ Below w.heap.size w wr) (fun _ i _ => l.length - (intOf i).toNat)
  case atStart => exact ⟨0, Nat.zero_le _, rfl, rfl, Below.refl _ _⟩
  case round =>
    obtain ⟨k, hk, rfl, rfl, hb⟩ := hrel
    by_cases hlt : k < l.length
    · obtain ⟨b, off, rfl⟩ := h.addr (by omega)
      have hs := h.below hb
      obtain ⟨hbl, c0, c1, c2, c3, c4⟩ := Sd.get hs hlt
      have gk := sdGood_at G.out hlt
      have u1 : (0 : Int) ≤ (k : Int) := by omega
      have u2 : (k : Int) < (l.length : Int) := by omega
      go_wp2_with (fail)
      generalize hW : World.alloc wr _ = W1
      obtain ⟨bW, kW, _⟩ := alloc_facts hW
      clear hW c0 c1 c2 c3 c4
      have hb := bth hb bW
      have hs := hs.below bW
      have hA := aft_cell (Nat.lt_of_lt_of_le hbl bW.size)
      have hB := aft_cell kW.1
      have m0 := kW.2.1 0 _ rfl
      have m1 := kW.2.1 1 _ rfl
      have m2 := kW.2.1 2 _ rfl
      have m3 := kW.2.1 3 _ rfl
      have m4 := kW.2.1 4 _ rfl
      clear kW bW hbl
      have CL := Lib.hid (show ∀ (x : Aft W1), Calls Try.prog 54 #[.agg #[.int .i64 l[k].id, .int .i64 l[k].x, .int .i64 l[k].y, .int .i64 l[k].depth, .int .i64 l[k].doubt], .pointer (some ⟨g, 0, none⟩), .pointer (some ⟨g', 0, none⟩)] x.val fun e w' => e = .returned (.bool (nearP p.sx p.sy r l[k])) ∧ Below x.val.heap.size x.val w' from
        fun x => nearClos l[k] p r g g' x.val (RR.out _ (bth hb x.bel)).1 (RR.out _ (bth hb x.bel)).2 gk PP.out RO.out)
      cases hp : nearP p.sx p.sy r l[k] with
      | false =>
        have HN := Lib.hid (bstK_no hlt hp)
        have HP := Lib.hid hp
        clear hp
        refine wp_region_aft (by kernel_rfl) (by kernel_rfl) ?_
        repeat (go_big_quiet_step ((go_at_call 54; exact Aft.callsB _ (CL.out _) HP.out)))
        refine wpQuiet_nil ?_
        intro w9 b9
        go_wp2
        go_roundw
        case rel => exact ⟨k + 1, by omega, by go_num, vi HN.out.symm, bth hb b9⟩
        case measure => simp [intOf]; omega
      | true =>
        rcases bstK_cases (nearP p.sx p.sy r) l k hk with hi | ⟨i, hil, hi, _⟩
        · have HN := Lib.hid (bstK_first hlt hp hi)
          have HP := Lib.hid hp
          rw [hi]
          clear hp hi
          refine wp_region_aft (by kernel_rfl) (by kernel_rfl) ?_
          repeat (go_big_quiet_step ((go_at_call 54; exact Aft.callsB _ (CL.out _) HP.out)))
          refine wpQuiet_nil ?_
          intro w9 b9
          go_wp2
          go_roundw
          case rel => exact ⟨k + 1, by omega, by go_num, vi HN.out.symm, bth hb b9⟩
          case measure => simp [intOf]; omega
        · have HN := Lib.hid (bstK_more hlt hil hp hi)
          have HP := Lib.hid hp
          have gi := sdGood_at G.out hil
          obtain ⟨_, d0, d1, d2, d3, d4⟩ := Sd.get hs hil
          have u3 : (0 : Int) ≤ (i : Int) := by omega
          have u4 : (i : Int) < (l.length : Int) := by omega
          have u5 : decide ((i : Int) < 0) = false := by simp
          rw [hi]
          clear hp hi
          refine wp_region_aft (by kernel_rfl) (by kernel_rfl) ?_
          repeat (go_big_quiet_step ((first | (go_at_call 54; exact Aft.callsB _ (CL.out _) HP.out) | (go_at_call 56; exact Aft.calls _ (implLeast _ _ (by assumption))))))
          refine wpQuiet_nil ?_
          intro w9 b9
          go_wp2
          all_goals
            go_roundw
            case rel => exact ⟨k + 1, by omega, by go_num, vi (by rw [HN.out]; split <;> first | rfl | omega), bth hb b9⟩
            case measure => simp [intOf]; omega
    · obtain rfl : k = l.length := by omega
      go_wp2
      go_ret
      exact ⟨rfl, hb⟩
end Go.Proofs.Ythnoknmijelcmaa
