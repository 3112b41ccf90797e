/- GreatestDifference of the reference and of the program: both return the first index of the greatest difference, for lists of at most 1048576 crossings. -/
import Derived.Test.YtjilcgdmfkjfmaaC10c
namespace Go.Proofs.Ytjilcgdmfkjfmaa
open Go.RowKit
set_option maxHeartbeats 400000

def df (l : List Cr) (k : Nat) : Int := match l[k]? with | some x => x.check - x.main | none => 0
def gIdx (l : List Cr) : Nat → Nat
  | 0 => 0
  | k + 1 => if ab (df l (gIdx l k)) < ab (df l k) then k else gIdx l k
theorem gIdx_one (l : List Cr) : gIdx l 1 = 0 := by simp [gIdx]
theorem gIdx_lt {l : List Cr} : ∀ k, 0 < l.length → k ≤ l.length → gIdx l k < l.length
  | 0, h, _ => h
  | k + 1, h, hk => by
    unfold gIdx; split
    · omega
    · exact gIdx_lt k h (by omega)
theorem df_of {l : List Cr} {k : Nat} (hk : k < l.length) : df l k = l[k].check - l[k].main := by unfold df; rw [List.getElem?_eq_getElem hk]
theorem gIdx_hit {l : List Cr} {k : Nat} (hk : k < l.length) (hg : gIdx l k < l.length) (h : ab ((l[gIdx l k]'hg).check - (l[gIdx l k]'hg).main) < ab (l[k].check - l[k].main)) : Value.int .i64 (k : Int) = .int .i64 (gIdx l (k + 1) : Nat) := by
  unfold gIdx; rw [df_of hk, df_of hg, if_pos h]
theorem gIdx_miss {l : List Cr} {k : Nat} (hk : k < l.length) (hg : gIdx l k < l.length) (h : ab (l[k].check - l[k].main) ≤ ab ((l[gIdx l k]'hg).check - (l[gIdx l k]'hg).main)) : Value.int .i64 (gIdx l k : Int) = .int .i64 (gIdx l (k + 1) : Nat) := by
  rw [gIdx, df_of hk, df_of hg, if_neg (by omega)]
theorem crGood_at {l : List Cr} (h : crGood l = true) {k : Nat} (hk : k < l.length) : cellOk l[k] = true := by
  unfold crGood at h
  simp only [Bool.and_eq_true, List.all_eq_true] at h
  have := h.1 k (by simpa using hk)
  simp only [okAt, List.getElem?_eq_getElem hk, Bool.and_eq_true] at this
  exact this.1
theorem crGood_len {l : List Cr} (h : crGood l = true) : l.length ≤ 10 := by
  unfold crGood at h
  simp only [Bool.and_eq_true, decide_eq_true_eq] at h
  omega
theorem cell_bounds {x : Cr} (h : cellOk x = true) : -1000 ≤ x.main ∧ x.main ≤ 20000 ∧ -1000 ≤ x.check ∧ x.check ≤ 20000 := by
  simp only [cellOk, Bool.and_eq_true, inB_true] at h
  omega

theorem specMost (a b : Int) (w : World) :
    Calls Try.prog 22 #[.int .i64 a, .int .i64 b] w fun e w' => e = .returned (.int .i64 (max a b)) ∧ w = w' := by
  by_cases h : b < a
  all_goals
    go_enter Try.func22, Try.ntmps22
    go_wp2
    go_ret
    exact ⟨ret_int (by omega), rfl⟩
theorem specSize (n : Int) (w : World) (h1 : -9223372036854775807 ≤ n) (h2 : n ≤ 9223372036854775807) :
    Calls Try.prog 17 #[.int .i64 n] w fun e w' => e = .returned (.int .i64 (ab n)) ∧ w = w' := by
  go_enter Try.func17, Try.ntmps17
  go_wp2_with (go_at_call 22; refine (specMost _ _ _).mono ?_; rintro e w' ⟨rfl, rfl⟩)
  go_ret
  exact ⟨ret_int (by unfold ab; omega), rfl⟩
theorem implAbs (n : Int) (w : World) (h1 : -9223372036854775807 ≤ n) (h2 : n ≤ 9223372036854775807) :
    Calls Try.prog 19 #[.int .i64 n] w fun e w' => e = .returned (.int .i64 (ab n)) ∧ w = w' := by
  go_enter Try.func19, Try.ntmps19
  go_wp2
  all_goals
    go_ret
    exact ⟨ret_int (by unfold ab; omega), rfl⟩
theorem specDiff (x : Cr) (w : World) (h : cellOk x = true) :
    Calls Try.prog 18 #[.agg #[.int .i64 x.line, .int .i64 x.cross, .int .i64 x.main, .int .i64 x.check]] w fun e w' => e = .returned (.int .i64 (x.check - x.main)) ∧ Below w.heap.size w w' := by
  obtain ⟨h1, h2, h3, h4⟩ := cell_bounds h
  go_enter Try.func18, Try.ntmps18
  go_wp2
  go_ret
  exact ⟨rfl, by go_grown⟩

set_option maxHeartbeats 2000000 in
theorem sgreat (A : Option Addr) (c : Nat) (l : List Cr) (w : World) (h : Sl 4 Cr.enc w A l) (hn : l.length ≤ 1048576) (hg : crGood l = true) (hl : 0 < l.length) :
    Calls Try.prog 10 #[.slice A l.length c] w fun e w' => e = .returned (.tuple #[.int .i64 (gIdx l l.length), .int .i64 (df l (gIdx l l.length)), .bool true]) ∧ Below w.heap.size w w' := by
  have hl0 : ((l.length : Int) == 0) = false := beq_eq_false_iff_ne.2 (by omega)
  obtain ⟨b, off, rfl⟩ := h.addr (by omega)
  go_enter Try.func10, Try.ntmps10
  go_wp2_with (go_at_call 12; refine (good _ _ l _ h hn).mono ?_; rintro e w1 ⟨rfl, hb1⟩; rw [hg])
  go_loopw [5, 6] (fun t i wr => ∃ k : Nat, 1 ≤ k ∧ k ≤ l.length ∧ i = .int .i64 k ∧ t = .int .i64 (gIdx l k) ∧ Below w.heap.size w wr) (fun _ i _ => l.length - (intOf i).toNat)
  case atStart => exact ⟨1, by omega, by omega, rfl, by rw [gIdx_one]; rfl, hb1⟩
  case round =>
    obtain ⟨k, hk1, hk, rfl, rfl, hb⟩ := hrel
    have hbg := gIdx_lt k hl hk
    by_cases hlt : k < l.length
    · obtain ⟨hbl, c0, c1, c2, c3⟩ := Cr.get (h.below hb) hlt
      obtain ⟨_, d0, d1, d2, d3⟩ := Cr.get (h.below hb) hbg
      have o1 := crGood_at hg hlt
      have o2 := crGood_at hg hbg
      obtain ⟨p1, p2, p3, p4⟩ := cell_bounds o1
      obtain ⟨q1, q2, q3, q4⟩ := cell_bounds o2
      have keepS : ∀ w', Below wr.heap.size wr w' → Below wr.heap.size wr w' ∧ w'.cell? ⟨b, off + k * 4, none⟩ = some (.int .i64 l[k].line) ∧ w'.cell? ⟨b, off + k * 4 + 1, none⟩ = some (.int .i64 l[k].cross) ∧ w'.cell? ⟨b, off + k * 4 + 2, none⟩ = some (.int .i64 l[k].main) ∧ w'.cell? ⟨b, off + k * 4 + 3, none⟩ = some (.int .i64 l[k].check) ∧ w'.cell? ⟨b, off + gIdx l k * 4, none⟩ = some (.int .i64 l[gIdx l k].line) ∧ w'.cell? ⟨b, off + gIdx l k * 4 + 1, none⟩ = some (.int .i64 l[gIdx l k].cross) ∧ w'.cell? ⟨b, off + gIdx l k * 4 + 2, none⟩ = some (.int .i64 l[gIdx l k].main) ∧ w'.cell? ⟨b, off + gIdx l k * 4 + 3, none⟩ = some (.int .i64 l[gIdx l k].check) := fun w' hw => by
        obtain ⟨_, x⟩ := Cr.get (h.below (bth hb hw)) hlt
        obtain ⟨_, y⟩ := Cr.get (h.below (bth hb hw)) hbg
        exact ⟨hw, x.1, x.2.1, x.2.2.1, x.2.2.2, y⟩
      have KS := Lib.hid keepS
      clear keepS
      go_wp2_with (fail)
      go_region_held3 (fun w' => Below wr.heap.size wr w' ∧ w'.cell? ⟨b, off + k * 4, none⟩ = some (.int .i64 l[k].line) ∧ w'.cell? ⟨b, off + k * 4 + 1, none⟩ = some (.int .i64 l[k].cross) ∧ w'.cell? ⟨b, off + k * 4 + 2, none⟩ = some (.int .i64 l[k].main) ∧ w'.cell? ⟨b, off + k * 4 + 3, none⟩ = some (.int .i64 l[k].check) ∧ w'.cell? ⟨b, off + gIdx l k * 4, none⟩ = some (.int .i64 l[gIdx l k].line) ∧ w'.cell? ⟨b, off + gIdx l k * 4 + 1, none⟩ = some (.int .i64 l[gIdx l k].cross) ∧ w'.cell? ⟨b, off + gIdx l k * 4 + 2, none⟩ = some (.int .i64 l[gIdx l k].main) ∧ w'.cell? ⟨b, off + gIdx l k * 4 + 3, none⟩ = some (.int .i64 l[gIdx l k].check))
        (first | assumption | exact KS.out _ (Below.refl _ _).drew | (refine KS.out _ ?_; assumption) | (refine KS.out _ (bth (b := ?_) ?_ ?_); rotate_left 2; assumption; assumption) | (refine KS.out _ (bth (b := ?_) (And.left (b := ?_) ?_) ?_); rotate_left 3; assumption; rotate_left; assumption))
        (first
          | (go_at_call 18; refine (specDiff _ _ ?_).mono ?_; (first | exact o1 | exact o2); rintro e w' ⟨rfl, hb'⟩)
          | (go_at_call 17; refine (specSize _ _ ?_ ?_).mono ?_; omega; omega; rintro e w' ⟨rfl, rfl⟩))
      all_goals
        have hbx : Below wr.heap.size wr _ := And.left (by assumption)
        go_wp2
        all_goals
          refine ⟨⟨k + 1, by omega, by omega, by go_num, ?_, bth hb hbx⟩, by simp [intOf]; omega⟩
          first
            | (refine gIdx_hit hlt hbg ?_; assumption)
            | (refine gIdx_miss hlt hbg ?_; assumption)
    · obtain rfl : k = l.length := by omega
      obtain ⟨_, d0, d1, d2, d3⟩ := Cr.get (h.below hb) hbg
      have o2 := crGood_at hg hbg
      go_wp2_with (go_at_call 18; refine (specDiff _ _ ?_).mono ?_; (exact o2); rintro e w' ⟨rfl, hb'⟩)
      go_ret3
      exact ⟨ret_t3 rfl (vi (df_of hbg).symm) rfl, bth hb hb'⟩

theorem sgreatNo (A : Option Addr) (c : Nat) (l : List Cr) (w : World) (h : Sl 4 Cr.enc w A l) (hn : l.length ≤ 1048576) (hg : (crGood l && decide (0 < l.length)) = false) :
    Calls Try.prog 10 #[.slice A l.length c] w fun e w' => e = .returned (.tuple #[.int .i64 0, .int .i64 0, .bool false]) ∧ Below w.heap.size w w' := by
  cases hc : crGood l with
  | false =>
    go_enter Try.func10, Try.ntmps10
    go_wp2_with (go_at_call 12; refine (good _ _ l _ h hn).mono ?_; rintro e w1 ⟨rfl, hb1⟩; rw [hc])
    go_ret3
    exact ⟨rfl, hb1⟩
  | true =>
    have hl : l = [] := by simpa [hc] using hg
    subst hl
    go_enter Try.func10, Try.ntmps10
    go_wp2_with (go_at_call 12; refine (good _ _ [] _ h hn).mono ?_; rintro e w1 ⟨rfl, hb1⟩; rw [hc])
    go_ret3
    exact ⟨rfl, hb1⟩

set_option maxHeartbeats 2000000 in
theorem igreat (A : Option Addr) (c : Nat) (l : List Cr) (w : World) (h : Sl 4 Cr.enc w A l) (hn : l.length ≤ 1048576) (hcap : l.length ≤ c) (hg : crGood l = true) (hl : 0 < l.length) :
    Calls Try.prog 11 #[.slice A l.length c] w fun e w' => e = .returned (.tuple #[.int .i64 (gIdx l l.length), .int .i64 (df l (gIdx l l.length)), .bool true]) ∧ Below w.heap.size w w' := by
  have hl0 : ((l.length : Int) == 0) = false := beq_eq_false_iff_ne.2 (by omega)
  obtain ⟨b, off, rfl⟩ := h.addr (by omega)
  go_enter Try.func11, Try.ntmps11
  go_wp2_with (go_at_call 8; refine (igood _ _ l _ h hn hcap).mono ?_; rintro e w1 ⟨rfl, hb1⟩; rw [hg])
  go_loopw [5, 18] (fun t i wr => ∃ k : Nat, k ≤ l.length ∧ i = .int .i64 k ∧ t = .int .i64 (gIdx l k) ∧ Below w.heap.size w wr) (fun _ i _ => l.length - (intOf i).toNat)
  case atStart => exact ⟨0, by omega, rfl, rfl, hb1⟩
  case round =>
    obtain ⟨k, hk, rfl, rfl, hb⟩ := hrel
    have hbg := gIdx_lt k hl hk
    by_cases hlt : k < l.length
    · obtain ⟨hbl, c0, c1, c2, c3⟩ := Cr.get (h.below hb) hlt
      have o1 := crGood_at hg hlt
      have o2 := crGood_at hg hbg
      obtain ⟨p1, p2, p3, p4⟩ := cell_bounds o1
      obtain ⟨q1, q2, q3, q4⟩ := cell_bounds o2
      go_wp2_with (fail)
      generalize hW : World.alloc wr _ = W1
      obtain ⟨hbW, hx, hsW⟩ := alloc_facts hW
      clear hW
      obtain ⟨_, d0, d1, d2, d3⟩ := Cr.get (h.below (bth hb hbW)) hbg
      have e2 : W1.cell? ⟨_, 2, none⟩ = _ := hx.2.1 2 _ rfl
      have e3 : W1.cell? ⟨_, 3, none⟩ = _ := hx.2.1 3 _ rfl
      go_quiet ((go_at_call 19; exact quiet_l (implAbs _ _ (by omega) (by omega))))
      go_wp2
      all_goals
        refine ⟨⟨k + 1, by omega, by go_num, ?_, bdrew (bth hb hbW) _⟩, by simp [intOf]; omega⟩
        first
          | (refine gIdx_hit hlt hbg ?_; assumption)
          | (refine gIdx_miss hlt hbg ?_; assumption)
    · obtain rfl : k = l.length := by omega
      obtain ⟨_, d0, d1, d2, d3⟩ := Cr.get (h.below hb) hbg
      obtain ⟨q1, q2, q3, q4⟩ := cell_bounds (crGood_at hg hbg)
      go_wp2_with (fail)
      go_quiet (fail)
      go_wp2
      go_ret3
      exact ⟨ret_t3 rfl (vi (df_of hbg).symm) rfl, bdrew hb _⟩

theorem igreatNo (A : Option Addr) (c : Nat) (l : List Cr) (w : World) (h : Sl 4 Cr.enc w A l) (hn : l.length ≤ 1048576) (hcap : l.length ≤ c) (hg : (crGood l && decide (0 < l.length)) = false) :
    Calls Try.prog 11 #[.slice A l.length c] w fun e w' => e = .returned (.tuple #[.int .i64 0, .int .i64 0, .bool false]) ∧ Below w.heap.size w w' := by
  cases hc : crGood l with
  | false =>
    go_enter Try.func11, Try.ntmps11
    go_wp2_with (go_at_call 8; refine (igood _ _ l _ h hn hcap).mono ?_; rintro e w1 ⟨rfl, hb1⟩; rw [hc])
    go_ret3
    exact ⟨rfl, hb1⟩
  | true =>
    have hl : l = [] := by simpa [hc] using hg
    subst hl
    go_enter Try.func11, Try.ntmps11
    go_wp2_with (go_at_call 8; refine (igood _ _ [] _ h hn hcap).mono ?_; rintro e w1 ⟨rfl, hb1⟩; rw [hc])
    go_ret3
    exact ⟨rfl, hb1⟩

/-- What both return. -/
def gOut (l : List Cr) : Bool := crGood l && decide (0 < l.length)
@[irreducible] def gA (l : List Cr) : Int := if gOut l then (gIdx l l.length : Int) else 0
@[irreducible] def gB (l : List Cr) : Int := if gOut l then df l (gIdx l l.length) else 0
@[irreducible] def gC (l : List Cr) : Bool := gOut l
theorem sgr (A : Option Addr) (c : Nat) (l : List Cr) (w : World) (h : Sl 4 Cr.enc w A l) (hn : l.length ≤ 1048576) :
    Calls Try.prog 10 #[.slice A l.length c] w fun e w' => e = .returned (.tuple #[.int .i64 (gA l), .int .i64 (gB l), .bool (gC l)]) ∧ Below w.heap.size w w' := by
  unfold gA gB gC
  cases hg : gOut l with
  | false => exact sgreatNo A c l w h hn hg
  | true =>
    have : crGood l = true ∧ 0 < l.length := by simpa [gOut] using hg
    exact sgreat A c l w h hn this.1 this.2
theorem igr (A : Option Addr) (c : Nat) (l : List Cr) (w : World) (h : Sl 4 Cr.enc w A l) (hn : l.length ≤ 1048576) (hcap : l.length ≤ c) :
    Calls Try.prog 11 #[.slice A l.length c] w fun e w' => e = .returned (.tuple #[.int .i64 (gA l), .int .i64 (gB l), .bool (gC l)]) ∧ Below w.heap.size w w' := by
  unfold gA gB gC
  cases hg : gOut l with
  | false => exact igreatNo A c l w h hn hcap hg
  | true =>
    have : crGood l = true ∧ 0 < l.length := by simpa [gOut] using hg
    exact igreat A c l w h hn hcap this.1 this.2

theorem lawGD (A : Option Addr) (c : Nat) (l : List Cr) (w : World) (h : Sl 4 Cr.enc w A l) (hm : l.length ≤ 9223372036854775807) (_hc : l.length ≤ c) :
    Calls Try.prog 4 #[.slice A l.length c] w fun e w' => e = .returned (.bool true) ∧ Below w.heap.size w w' := by
  by_cases hn : l.length ≤ 1048576
  · have h1 : ¬ (1048576 - (l.length : Int) < 0) := by omega
    go_enter Try.func4, Try.ntmps4
    go_wp2_with (fail)
    refine (szYes _ _ _ _ hn).mono ?_; rintro e w' ⟨rfl, rfl⟩
    go_wp2_with (fail)
    refine (toAll A c l _ h hn).mono ?_; rintro e w1 ⟨g1, rfl, m1⟩
    go_wp2_with (fail)
    refine (sgr _ _ l _ m1.2.2.1 hn).mono ?_; rintro e w2 ⟨rfl, b2⟩
    go_wp2_with (fail)
    have b2' := bth m1.2.1 b2
    refine (toAll A c l _ (h.below b2') hn).mono ?_; rintro e w3 ⟨g3, rfl, m3⟩
    go_wp2_with (fail)
    refine (igr _ _ l _ m3.2.2.1 hn (Nat.le_refl _)).mono ?_; rintro e w4 ⟨rfl, b4⟩
    have b4' := bth (bth b2' m3.2.1) b4
    go_wp2_with (fail)
    refine (toAll A c l _ (h.below b4') hn).mono ?_; rintro e w5 ⟨g5, rfl, m5⟩
    go_wp2_with (fail)
    refine (eqAll _ _ _ _ l _ (m3.2.2.1.below (bth b4 m5.2.1)) m5.2.2.1 hn).mono ?_; rintro e w6 ⟨rfl, b6⟩
    go_wp2_with (fail)
    go_ret
    exact ⟨rfl, bth (bth b4' m5.2.1) b6⟩
  · go_enter Try.func4, Try.ntmps4
    go_wp2_with (go_at_call 5; refine (szNo _ _ _ _ (by omega) hm).mono ?_; rintro e w' ⟨rfl, rfl⟩)
    go_ret
    exact ⟨rfl, Below.refl _ _⟩
end Go.Proofs.Ytjilcgdmfkjfmaa
