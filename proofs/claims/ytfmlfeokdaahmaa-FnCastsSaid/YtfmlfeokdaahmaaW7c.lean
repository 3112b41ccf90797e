/- Thicknesses and travel of a cast: the reference's and the program's functions return the same. Valid casts; depths 0..20001. -/
import Derived.Test.YtfmlfeokdaahmaaW7b
import Derived.Test.YtfmlfeokdaahmaaEncI
set_option linter.unusedVariables false
set_option linter.unusedSimpArgs false
namespace Go.Proofs.Ytfmlfeokdaahmaa
open Go.RowKit
set_option maxHeartbeats 2000000
set_option maxRecDepth 100000
def thkL (l : List Ly) (d : Int) : List Int := (List.range l.length).map (thk l d)
theorem thkL_len (l : List Ly) (d : Int) : (thkL l d).length = l.length := by simp [thkL]
theorem thkL_get {l : List Ly} {d : Int} {k : Nat} (h : k < (thkL l d).length) : (thkL l d)[k] = thk l d k := by simp [thkL]
theorem thkL_step {l : List Ly} {d : Int} {k : Nat} (h : k < l.length) : (thkL l d).take (k + 1) = (thkL l d).take k ++ [thk l d k] := by
  rw [List.take_succ_eq_append_getElem (by rw [thkL_len]; exact h), thkL_get]
theorem s7Thick (t : Ct) (A : Option Addr) (c : Nat) (k : Nat) (d : Int) (w : World) (h : Sl 2 Ly.enc w A t.lay) (hg : lyGood t.lay = true) (hn : t.lay.length ≤ 8) (hk : k < t.lay.length) (hd : 0 ≤ d) (hd2 : d ≤ 20001) :
    Calls Try.prog 75 #[.agg #[.int .i64 t.id, .int .i64 t.time, .int .i64 t.x, .int .i64 t.y, .slice A t.lay.length c], .int .i64 k, .int .i64 d] w fun e w' => e = .returned (.int .i64 (thk t.lay d k)) ∧ Below w.heap.size w w' := by
  have bk := lyAt_bd hk (lyGood_at hg hk)
  have G := Lib.hid hg
  clear hg
  obtain ⟨b, off, rfl⟩ := h.addr (by omega)
  obtain ⟨hbl, c0, _⟩ := Ly.get h hk
  have u1 : (0 : Int) ≤ (k : Int) := by omega
  have u2 : (k : Int) < (t.lay.length : Int) := by omega
  by_cases h1 : k + 1 < t.lay.length
  · obtain ⟨_, d0, _⟩ := Ly.get h h1
    have bk1 := lyAt_bd h1 (lyGood_at G.out h1)
    have v1 : (k : Int) + 1 < (t.lay.length : Int) := by omega
    have v2 : ((k : Int) + 1).toNat = k + 1 := by omega
    have v3 : (0 : Int) ≤ (k : Int) + 1 := by omega
    have HT := Lib.hid (thk_more (d := d) h1)
    go_enter Try.func75, Try.ntmps75
    go_wp2_with (first | (go_at_call 89; refine (specLeast _ _ _).mono ?_; rintro e w' ⟨rfl, rfl⟩) | (go_at_call 96; refine (specMost _ _ _).mono ?_; rintro e w' ⟨rfl, rfl⟩))
    go_ret
    exact ⟨ret_int HT.out.symm, below_alloc _ _⟩
  · have v1 : ¬ (k : Int) + 1 < (t.lay.length : Int) := by omega
    have HT := Lib.hid (thk_last (d := d) hk h1)
    go_enter Try.func75, Try.ntmps75
    go_wp2_with (first | (go_at_call 89; refine (specLeast _ _ _).mono ?_; rintro e w' ⟨rfl, rfl⟩) | (go_at_call 96; refine (specMost _ _ _).mono ?_; rintro e w' ⟨rfl, rfl⟩))
    go_ret
    exact ⟨ret_int HT.out.symm, below_alloc _ _⟩
theorem s7Travel (t : Ct) (A : Option Addr) (c : Nat) (d : Int) (w : World) (h : Sl 2 Ly.enc w A t.lay) (hg : lyGood t.lay = true) (hn : t.lay.length ≤ 8) (hd : 0 ≤ d) (hd2 : d ≤ 20001) :
    Calls Try.prog 68 #[.agg #[.int .i64 t.id, .int .i64 t.time, .int .i64 t.x, .int .i64 t.y, .slice A t.lay.length c], .int .i64 d] w fun e w' => e = .returned (.int .i64 (trvK t.lay d t.lay.length)) ∧ Below w.heap.size w w' := by
  have G := Lib.hid hg
  clear hg
  go_enter Try.func68, Try.ntmps68
  go_wp2_with (fail)
  generalize hW : World.alloc w _ = W1
  obtain ⟨bW, kW, _⟩ := alloc_facts hW
  clear hW
  have h := h.below bW
  have KW := Lib.hid (show ∀ W', Below W1.heap.size W1 W' → Bk W' w.heap.size [.int .i64 t.id, .int .i64 t.time, .int .i64 t.x, .int .i64 t.y, .slice A t.lay.length c] from fun W' hw => kW.below hw)
  clear kW
  go_loopw [5, 6] (fun s i wr => ∃ k : Nat, k ≤ t.lay.length ∧ i = .int .i64 k ∧ s = .int .i64 (trvK t.lay d k) ∧ Below W1.heap.size W1 wr) (fun _ i _ => t.lay.length - (intOf i).toNat)
  case atStart => exact ⟨0, Nat.zero_le _, rfl, rfl, Below.refl _ _⟩
  case round =>
    obtain ⟨k, hk, rfl, rfl, hb⟩ := hrel
    have kr := KW.out _ hb
    have hlr := kr.1
    have l1 := aft_cell kr.1
    have n0 := kr.2.1 0 _ rfl
    have n1 := kr.2.1 1 _ rfl
    have n2 := kr.2.1 2 _ rfl
    have n3 := kr.2.1 3 _ rfl
    have n4 := kr.2.1 4 _ rfl
    clear kr
    by_cases hlt : k < t.lay.length
    · have hs := h.below hb
      obtain ⟨b, off, rfl⟩ := h.addr (by omega)
      obtain ⟨hbl, c0, c1⟩ := Ly.get hs hlt
      have l2 := aft_cell hbl
      have bk := lyAt_bd hlt (lyGood_at G.out hlt)
      have u1 : (0 : Int) ≤ (k : Int) := by omega
      have u2 : (k : Int) < (t.lay.length : Int) := by omega
      have T1 := thk_bd hd hd2 G.out hlt
      have T2 := trvK_bd hd hd2 G.out k (by omega)
      have T3 := div_bd (x := thk t.lay d k * 100000) (s := t.lay[k].spd) (by omega) (by omega) (by omega)
      have HN := Lib.hid (show trvK t.lay d (k + 1) = trvK t.lay d k + thk t.lay d k * 100000 / t.lay[k].spd by rw [trvK, lyi_of hlt])
      have TC := Lib.hid (show ∀ (x : Aft wr), Calls Try.prog 75 #[.agg #[.int .i64 t.id, .int .i64 t.time, .int .i64 t.x, .int .i64 t.y, .slice (some ⟨b, off, none⟩) t.lay.length c], .int .i64 k, .int .i64 d] x.val fun e w' => e = .returned (.int .i64 (thk t.lay d k)) ∧ Below x.val.heap.size x.val w' from
        fun x => s7Thick t _ c k d x.val (hs.aft x) G.out hn hlt hd hd2)
      have w1 : IntKind.i64.wrap (thk t.lay d k * 100000) = thk t.lay d k * 100000 := IntWalk.i64_in _ (by omega)
      have w2 : (thk t.lay d k * 100000).tdiv t.lay[k].spd = thk t.lay d k * 100000 / t.lay[k].spd := Int.tdiv_eq_ediv_of_nonneg (by omega)
      have w3 : IntKind.i64.wrap (thk t.lay d k * 100000 / t.lay[k].spd) = thk t.lay d k * 100000 / t.lay[k].spd := IntWalk.i64_in _ (by omega)
      have w4 : IntKind.i64.wrap (trvK t.lay d k + thk t.lay d k * 100000 / t.lay[k].spd) = trvK t.lay d k + thk t.lay d k * 100000 / t.lay[k].spd := IntWalk.i64_in _ (by omega)
      have w5 : (t.lay[k].spd == 0) = false := by rw [beq_eq_false_iff_ne]; omega
      have w6 : t.lay[k].spd ≠ 0 := by omega
      clear hlr
      go_wp2_with (fail)
      refine wp_region_aft (by kernel_rfl) (by kernel_rfl) ?_
      repeat (go_big_quiet_step ((go_at_call 75; exact Aft.calls _ (TC.out _))))
      refine wpQuiet_nil ?_
      intro w9 b9
      go_wp2
      go_roundw
      case rel => exact ⟨k + 1, by omega, by go_num, vi HN.out.symm, bth hb b9⟩
      case measure => simp [intOf]; omega
    · obtain rfl : k = t.lay.length := by omega
      go_wp2
      go_ret
      exact ⟨rfl, bth bW hb⟩
end Go.Proofs.Ytfmlfeokdaahmaa
