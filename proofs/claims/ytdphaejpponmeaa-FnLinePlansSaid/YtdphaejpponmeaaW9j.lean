/- The order in which the program's text sails lines: it returns new memory that holds the lines sorted by Y, equals as they stood. At most eight lines. -/
import Derived.Test.YtdphaejpponmeaaP9f
import Derived.Test.YtdphaejpponmeaaW9i
import Derived.Test.YtdphaejpponmeaaOut4
import Derived.Shelf.SlSortCmp.InsertionK
set_option linter.unusedVariables false
set_option linter.unusedSimpArgs false
namespace Go.Proofs.Ytdphaejpponmeaa
open Go.RowKit Go.Sort Go.Shelf Go.Lib
set_option maxHeartbeats 4000000
set_option maxRecDepth 100000
@[irreducible] def cmpI (a b : Int) : Int := if a < b then -1 else if b < a then 1 else 0
theorem cmpI_def (a b : Int) : cmpI a b = if a < b then -1 else if b < a then 1 else 0 := by unfold cmpI; rfl
theorem cmpInt (a b : Int) (w : World) :
    Calls Try.prog 98 #[.int .i64 a, .int .i64 b] w fun e w' => e = .returned (.int .i64 (cmpI a b)) ∧ w = w' := by
  have hd := cmpI_def a b
  by_cases h1 : a < b
  · rw [if_pos h1] at hd
    have HD := Lib.hid hd
    clear hd
    go_enter Try.func98, Try.ntmps98
    go_wp2
    go_ret
    exact ⟨ret_int HD.out.symm, rfl⟩
  · rw [if_neg h1] at hd
    by_cases h2 : b < a
    · rw [if_pos h2] at hd
      have HD := Lib.hid hd
      clear hd
      go_enter Try.func98, Try.ntmps98
      go_wp2
      go_ret
      exact ⟨ret_int HD.out.symm, rfl⟩
    · rw [if_neg h2] at hd
      have HD := Lib.hid hd
      clear hd
      go_enter Try.func98, Try.ntmps98
      go_wp2
      go_ret
      exact ⟨ret_int HD.out.symm, rfl⟩
def cfY (x y : Ln) : Int := cmpI x.y y.y
theorem ltOf_cfY : ltOf cfY = ltY := by
  funext x y
  unfold ltOf ltY cfY
  rw [cmpI_def]
  by_cases h : x.y < y.y
  · rw [if_pos h]; simp [h]
  · rw [if_neg h]
    split <;> simp [h]
/-- The closure that compares two lines. -/
theorem closY (x y : Ln) (W : World) : Calls Try.prog 97 #[.agg #[.int .i64 x.id, .int .i64 x.y, .int .i64 x.frm, .int .i64 x.to, .int .i64 x.swath], .agg #[.int .i64 y.id, .int .i64 y.y, .int .i64 y.frm, .int .i64 y.to, .int .i64 y.swath]] W
    fun e w' => e = .returned (.int .i64 (cfY x y)) ∧ ∃ q os', w' = grow (W.drewN q) os' := by
  go_enter Try.func97, Try.ntmps97
  go_wp2_with (go_at_call 98; refine (cmpInt _ _ _).mono ?_; rintro e w' ⟨rfl, rfl⟩)
  go_ret
  exact ⟨rfl, 0, _, by rw [alloc_eq_grow, alloc_eq_grow, grow_grow]; rfl⟩
def renS : Ren := ⟨fun | 20 => 104 | n => n, fun | 22 => 32 | 24 => 61 | 25 => 101 | n => n, fun n => n⟩
theorem laysS : SlLaysF0.n20 Try.prog renS := {
  mixed := by kernel_rfl
  f20 := ⟨Try.f104.name, by decide, by kernel_rfl⟩
  t0 := by kernel_rfl
  a0 := Try.isAgg0
  z0 := Try.sizeOf0
  v0 := Try.zeroValue0
  t3 := by kernel_rfl
  a3 := Try.isAgg3
  z3 := Try.sizeOf3
  v3 := Try.zeroValue3
  t4 := by kernel_rfl
  a4 := Try.isAgg4
  z4 := Try.sizeOf4
  v4 := Try.zeroValue4
  t22 := by kernel_rfl
  a22 := Try.isAgg32
  z22 := Try.sizeOf32
  v22 := Try.zeroValue32
  t25 := by kernel_rfl
  a25 := Try.isAgg101
  z25 := Try.sizeOf101
  v25 := Try.zeroValue101 }
/-- The row as the shelf reads it. -/
theorem holds_of {w : World} {g : Nat} {l : List Ln} (h : Sl 5 Ln.enc w (some ⟨g, 0, none⟩) l) (hA : Ar w g (l.length * 5)) : HoldsK Ln.enc 5 w g 0 l.toArray := by
  intro j hj
  rw [size_flatK, List.size_toArray] at hj
  refine ⟨?_, hA.2.2 _⟩
  rw [get_flatK _ _ _ _ (by rw [List.size_toArray]; exact hj)]
  have hi : j / 5 < l.length := by omega
  have hl : 0 < l.length := by omega
  obtain ⟨b, off, e, _, hc⟩ := h hl
  injection e with e; injection e with e1 e2
  subst e1 e2
  have hr : j % 5 < (Ln.enc l[j / 5]).length := by rw [Ln.len]; omega
  have := hc (j / 5) l[j / 5] (List.getElem?_eq_getElem hi) (j % 5) _ (List.getElem?_eq_getElem hr)
  rw [show 0 + j / 5 * 5 + j % 5 = 0 + j by omega] at this
  rw [this]
  congr 1
  have e3 : l.toArray[j / 5]! = l[j / 5] := by simp [hi]
  have e4 : (Ln.enc l[j / 5])[j % 5]! = (Ln.enc l[j / 5])[j % 5] := by rw [List.getElem!_eq_getElem?_getD, List.getElem?_eq_getElem hr]; rfl
  rw [e3, e4]
  rfl
theorem sl_of {w : World} {g : Nat} {l : List Ln} (hg : g < w.heap.size) (hf : ∀ i, w.frozen? ⟨g, i, none⟩ = false) (h : HoldsK Ln.enc 5 w g 0 l.toArray) : Sl 5 Ln.enc w (some ⟨g, 0, none⟩) l ∧ Ar w g (l.length * 5) := by
  have key : ∀ i (hi : i < l.length) c, c < 5 → w.cell? ⟨g, 0 + i * 5 + c, none⟩ = some (Ln.enc l[i])[c]! := fun i hi c hc => by
    have := (HoldsK.cell h (i := i) (c := c) (by rw [List.size_toArray]; exact hi) hc).1
    have e3 : l.toArray[i]! = l[i] := by simp [hi]
    rwa [e3] at this
  refine ⟨fun _ => ⟨g, 0, rfl, hg, fun i x hx j v hv => ?_⟩, hg, fun i hi => ?_, hf⟩
  · obtain ⟨hi, rfl⟩ := List.getElem?_eq_some_iff.1 hx
    have hj : j < (Ln.enc l[i]).length := (List.getElem?_eq_some_iff.1 hv).1
    rw [key i hi j hj, List.getElem!_eq_getElem?_getD, hv]
    rfl
  · have := key (i / 5) (by omega) (i % 5) (by omega)
    rw [show 0 + i / 5 * 5 + i % 5 = i by omega] at this
    exact ⟨_, this⟩
theorem sortW_block {w : World} {g n : Nat} {d : Array Ln} {os : Array Obj} {k : Nat} (hk : k < w.heap.size) (hne : k ≠ g) : (sortWorldK Ln.enc 5 w g 0 n d os).heap[k]? = w.heap[k]? := by
  show ((putRowK Ln.enc 5 (Sort.ahead w n) g 0 d).heap ++ os)[k]? = _
  have hs : (putRowK Ln.enc 5 (Sort.ahead w n) g 0 d).heap.size = w.heap.size := by unfold putRowK; rw [size_putRow]; rfl
  rw [Array.getElem?_append_left (by rw [hs]; exact hk)]
  show ((Sort.ahead w n).heap.modify g _)[k]? = _
  rw [Array.getElem?_modify, if_neg (Ne.symm hne)]
  rfl
theorem sortW_below {w : World} {g n : Nat} {d : Array Ln} {os : Array Obj} {B : Nat} (hB : B ≤ g) (hg : g < w.heap.size) : Below B w (sortWorldK Ln.enc 5 w g 0 n d os) :=
  ⟨rfl, rfl, rfl, size_sortWorldK_c Ln.enc 5 w g 0 n d os, fun k hk => sortW_block (by omega) (by omega)⟩
/-- The library's insertion sort at lines. -/
theorem insSort (g c : Nat) (l : List Ln) (w : World) (h : Sl 5 Ln.enc w (some ⟨g, 0, none⟩) l) (hA : Ar w g (l.length * 5)) (hn : l.length ≤ 8) :
    Calls Try.prog 104 #[.slice (some ⟨g, 0, none⟩) l.length c, .int .i64 0, .int .i64 l.length, .func (.func 97) #[] #[]] w
      fun e w' => e = .returned (.tuple #[]) ∧ Sl 5 Ln.enc w' (some ⟨g, 0, none⟩) (ordL l) ∧ ∀ B, B ≤ g → Below B w w' := by
  have eg : ∀ args w, (callFunc 97 args).run Try.prog w = .ok (.enter 97 args) w := enters_of Try.func97 (by kernel_rfl) rfl
  have hcon := AnyQ.insertionSortCmpFunc laysS 5 Try.isAgg61 Try.sizeOf61 Ln.enc Ln.len Ln.one cfY 97 #[] g 0 c 0 l.length l.toArray w eg (fun _ _ _ _ x y => closY x y _) (holds_of h hA) hA.1 (by omega) (by simp) (by simp; omega)
  rw [List.size_toArray] at hcon
  refine hcon.mono ?_
  rintro e w' ⟨rfl, n, os, rfl⟩
  have hs := sort_is l
  rw [List.size_toArray] at hs
  rw [ltOf_cfY, hs]
  have hH := holdsK_sortWorldK_c Ln.enc 5 w g 0 l.toArray (ordL l).toArray n os (holds_of h hA) hA.1 (by simp [ordL_len])
  have hsz := size_sortWorldK_c Ln.enc 5 w g 0 n (ordL l).toArray os
  refine ⟨rfl, ?_, fun B hB => sortW_below hB hA.1⟩
  intro hl
  obtain ⟨b, off, e, _, hc⟩ := h (by rw [← ordL_len]; exact hl)
  injection e with e; injection e with e1 e2
  subst e1 e2
  have key : ∀ i (hi : i < (ordL l).length) c, c < 5 → (sortWorldK Ln.enc 5 w g 0 n (ordL l).toArray os).cell? ⟨g, 0 + i * 5 + c, none⟩ = some (Ln.enc (ordL l)[i])[c]! := fun i hi c hc => by
    have := (HoldsK.cell hH (i := i) (c := c) (by rw [List.size_toArray]; exact hi) hc).1
    have e3 : (ordL l).toArray[i]! = (ordL l)[i] := by simp [hi]
    rwa [e3] at this
  refine ⟨g, 0, rfl, Nat.lt_of_lt_of_le hA.1 hsz, fun i x hx j v hv => ?_⟩
  obtain ⟨hi, rfl⟩ := List.getElem?_eq_some_iff.1 hx
  have hj : j < (Ln.enc (ordL l)[i]).length := (List.getElem?_eq_some_iff.1 hv).1
  rw [key i hi j hj, List.getElem!_eq_getElem?_getD, hv]
  rfl
theorem stableS (g c : Nat) (l : List Ln) (w : World) (h : Sl 5 Ln.enc w (some ⟨g, 0, none⟩) l) (hA : Ar w g (l.length * 5)) (hn : l.length ≤ 8) :
    Calls Try.prog 101 #[.slice (some ⟨g, 0, none⟩) l.length c, .int .i64 l.length, .func (.func 97) #[] #[]] w
      fun e w' => e = .returned (.tuple #[]) ∧ Sl 5 Ln.enc w' (some ⟨g, 0, none⟩) (ordL l) ∧ ∀ B, B ≤ g → Below B w w' := by
  have h20 : ¬ ((20 : Int) ≤ (l.length : Int)) := by omega
  have h21 : ¬ ((20 : Int) < (l.length : Int)) := by omega
  go_enter Try.func101, Try.ntmps101
  go_wp2_with (fail)
  go_loopw [7, 8] (fun a b wr => a = .int .i64 0 ∧ b = .int .i64 20 ∧ wr = w) (fun _ _ _ => 0)
  case atStart => exact ⟨rfl, rfl, rfl⟩
  case round =>
    obtain ⟨rfl, rfl, rfl⟩ := hrel
    go_wp2_with (fail)
    refine (insSort g c l _ h hA hn).mono ?_; rintro e w1 ⟨rfl, s1, b1⟩
    go_wp2_with (fail)
    go_loopw [6] (fun a wr => a = .int .i64 20 ∧ wr = w1) (fun _ _ => 0)
    case atStart => exact ⟨rfl, rfl⟩
    case round =>
      obtain ⟨rfl, rfl⟩ := hrel
      go_wp2_with (fail)
      go_end0
      exact ⟨rfl, s1, b1⟩
theorem sortStable (g c : Nat) (l : List Ln) (w : World) (h : Sl 5 Ln.enc w (some ⟨g, 0, none⟩) l) (hA : Ar w g (l.length * 5)) (hn : l.length ≤ 8) :
    Calls Try.prog 96 #[.slice (some ⟨g, 0, none⟩) l.length c, .func (.func 97) #[] #[]] w
      fun e w' => e = .returned (.tuple #[]) ∧ Sl 5 Ln.enc w' (some ⟨g, 0, none⟩) (ordL l) ∧ ∀ B, B ≤ g → Below B w w' := by
  go_enter Try.func96, Try.ntmps96
  go_wp2_with (fail)
  refine (stableS g c l _ h hA hn).mono ?_; rintro e w1 ⟨rfl, s1, b1⟩
  go_wp2_with (fail)
  go_end0
  exact ⟨rfl, s1, b1⟩
theorem iSail (A : Option Addr) (c : Nat) (l : List Ln) (w : World) (h : Sl 5 Ln.enc w A l) (hn : l.length ≤ 8) :
    Calls Try.prog 83 #[.slice A l.length c] w fun e w' => ∃ (A' : Option Addr) (c' : Nat), e = .returned (.slice A' (ordL l).length c') ∧ Sl 5 Ln.enc w' A' (ordL l) ∧ Below w.heap.size w w' ∧ ∀ a, A' = some a → w.heap.size ≤ a.block := by
  go_enter Try.func83, Try.ntmps83
  go_wp2_with (at_builtin; refine wp_appL (K := 5) (bytes := 40) (enc := Ln.enc) (base := w.heap.size) Ln.len Ln.one (by decide) (by decide) _ rfl (.tmp 4) (.tmp 5) _ rfl Try.underlying32 infoLnI rfl _ ([] : List Ln) rfl (OutS.empty (Nat.le_refl _)) l A _ rfl (h.below (by go_grown)) (by omega) (by simp) (by simp) ?_; intro v' W4 hO2 hg2 hb4 hnn)
  rw [List.nil_append] at hO2
  have hb : Below w.heap.size w W4 := Below.trans (by go_grown) hb4
  obtain ⟨g, c', rfl, hA, hs, hgb⟩ : ∃ (g c' : Nat), v' = .slice (some ⟨g, 0, none⟩) l.length c' ∧ Ar W4 g (l.length * 5) ∧ Sl 5 Ln.enc W4 (some ⟨g, 0, none⟩) l ∧ w.heap.size ≤ g := by
    obtain ⟨B, c', hv, _, hs, ho, hbk⟩ := hO2.sl Ln.len
    rcases hO2.2 with ⟨h0, _⟩ | ⟨g, cap, cur, hv2, hg, hh, hnc, hcm, hcs, hx⟩
    · exact absurd (hnn h0) (by intro e; injection e with e; cases e)
    · rw [hv2] at hv
      injection hv with e1 e2 e3
      subst e1 e3
      refine ⟨g, cap, hv2, ?_, hs, hg⟩
      by_cases h0 : 0 < l.length
      · obtain ⟨g', e, hA⟩ := ho h0
        injection e with e; injection e with e
        subst e; exact hA
      · have : l.length = 0 := by omega
        exact ⟨(Array.getElem?_eq_some_iff.1 hh).1, fun i hi => by omega, fun i => frozen_of_row W4 g i cur _ hh⟩
  go_wp2_with (fail)
  refine (sortStable g c' l _ hs hA hn).mono ?_; rintro e w5 ⟨rfl, s5, b5⟩
  go_wp2_with (fail)
  go_ret
  exact ⟨some ⟨g, 0, none⟩, c', by rw [ordL_len]; rfl, s5, hb.trans (b5 _ hgb), fun a ha => by injection ha with ha; subst ha; exact hgb⟩
end Go.Proofs.Ytdphaejpponmeaa
