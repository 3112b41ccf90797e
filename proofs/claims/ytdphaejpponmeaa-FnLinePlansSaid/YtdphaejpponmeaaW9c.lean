/- How many lines cover a cell: the reference's and the program's functions return the same. Valid lists of lines; cells 0..19. -/
import Derived.Test.YtdphaejpponmeaaW9b
import Derived.Test.YtdphaejpponmeaaMore
set_option linter.unusedVariables false
set_option linter.unusedSimpArgs false
namespace Go.Proofs.Ytdphaejpponmeaa
open Go.RowKit
set_option maxHeartbeats 2000000
set_option maxRecDepth 100000

/-- Box b has all of box c. -/
@[irreducible] def holdsB (b c : Bx) : Bool := decide (b.west ≤ c.west) && decide (b.south ≤ c.south) && decide (c.east ≤ b.east) && decide (c.north ≤ b.north)
theorem holdsB_def (b c : Bx) : holdsB b c = (decide (b.west ≤ c.west) && decide (b.south ≤ c.south) && decide (c.east ≤ b.east) && decide (c.north ≤ b.north)) := by unfold holdsB; rfl
def cellBx (r c : Int) : Bx := ⟨50 * c, 50 * r, 50 * (c + 1), 50 * (r + 1)⟩
/-- What a line is seen of. -/
def stripBx (x : Ln) : Bx := ⟨x.frm, x.y - x.swath, x.to, x.y + x.swath⟩
@[irreducible] def cov (x : Ln) (r c : Int) : Bool := holdsB (stripBx x) (cellBx r c)
theorem cov_def (x : Ln) (r c : Int) : cov x r c = (decide (x.y - x.swath ≤ r * 50) && decide (r * 50 + 50 ≤ x.y + x.swath) && decide (x.frm ≤ c * 50) && decide (c * 50 + 50 ≤ x.to)) := by
  unfold cov
  rw [holdsB_def, Bool.eq_iff_iff]
  have e1 : (stripBx x).west = x.frm := rfl
  have e2 : (stripBx x).south = x.y - x.swath := rfl
  have e3 : (stripBx x).east = x.to := rfl
  have e4 : (stripBx x).north = x.y + x.swath := rfl
  have e5 : (cellBx r c).west = 50 * c := rfl
  have e6 : (cellBx r c).south = 50 * r := rfl
  have e7 : (cellBx r c).east = 50 * (c + 1) := rfl
  have e8 : (cellBx r c).north = 50 * (r + 1) := rfl
  simp only [e1, e2, e3, e4, e5, e6, e7, e8, Bool.and_eq_true, decide_eq_true_eq]
  constructor <;> (rintro ⟨⟨⟨h1, h2⟩, h3⟩, h4⟩; refine ⟨⟨⟨?_, ?_⟩, ?_⟩, ?_⟩ <;> omega)

theorem specCovers (x : Ln) (r c : Int) (w : World) (hx : lnOk x = true) (hr0 : 0 ≤ r) (hr : r ≤ 19) (hc0 : 0 ≤ c) (hc : c ≤ 19) :
    Calls Try.prog 93 #[.agg #[.int .i64 x.id, .int .i64 x.y, .int .i64 x.frm, .int .i64 x.to, .int .i64 x.swath], .int .i64 r, .int .i64 c] w fun e w' => e = .returned (.bool (cov x r c)) ∧ Below w.heap.size w w' := by
  have hb := lnOk_bd hx
  have hd := Lib.hid (cov_def x r c)
  by_cases i1 : x.y - x.swath ≤ r * 50
  · by_cases i2 : r * 50 + 50 ≤ x.y + x.swath
    · by_cases i3 : x.frm ≤ c * 50
      · by_cases i4 : c * 50 + 50 ≤ x.to
        · have HB := Lib.hid (hd.out.trans (show _ = true by simp only [i1, i2, i3, i4, decide_true, Bool.and_self]))
          go_enter Try.func93, Try.ntmps93
          go_wp2
          go_ret
          exact ⟨ret_bool HB.out.symm, by go_grown⟩
        · have HB := Lib.hid (hd.out.trans (show _ = false by simp [*]))
          go_enter Try.func93, Try.ntmps93
          go_wp2
          go_ret
          exact ⟨ret_bool HB.out.symm, by go_grown⟩
      · have HB := Lib.hid (hd.out.trans (show _ = false by simp [*]))
        go_enter Try.func93, Try.ntmps93
        go_wp2
        go_ret
        exact ⟨ret_bool HB.out.symm, by go_grown⟩
    · have HB := Lib.hid (hd.out.trans (show _ = false by simp [*]))
      go_enter Try.func93, Try.ntmps93
      go_wp2
      go_ret
      exact ⟨ret_bool HB.out.symm, by go_grown⟩
  · have HB := Lib.hid (hd.out.trans (show _ = false by simp [*]))
    go_enter Try.func93, Try.ntmps93
    go_wp2
    go_ret
    exact ⟨ret_bool HB.out.symm, by go_grown⟩

theorem implCell (r c : Int) (w : World) (hr0 : 0 ≤ r) (hr : r ≤ 19) (hc0 : 0 ≤ c) (hc : c ≤ 19) :
    Calls Try.prog 66 #[.int .i64 r, .int .i64 c] w fun e w' => e = .returned (.agg #[.int .i64 (50 * c), .int .i64 (50 * r), .int .i64 (50 * (c + 1)), .int .i64 (50 * (r + 1))]) ∧ Below w.heap.size w w' := by
  go_enter Try.func66, Try.ntmps66
  go_wp2
  go_returns
  exact ⟨rfl, by go_grown⟩
theorem implHolds (b c : Bx) (w : World) :
    Calls Try.prog 65 #[.agg #[.int .i64 b.west, .int .i64 b.south, .int .i64 b.east, .int .i64 b.north], .agg #[.int .i64 c.west, .int .i64 c.south, .int .i64 c.east, .int .i64 c.north]] w fun e w' => e = .returned (.bool (holdsB b c)) ∧ Below w.heap.size w w' := by
  have hd := Lib.hid (holdsB_def b c)
  by_cases i1 : b.west ≤ c.west
  · by_cases i2 : b.south ≤ c.south
    · by_cases i3 : c.east ≤ b.east
      · by_cases i4 : c.north ≤ b.north
        · have HB := Lib.hid (hd.out.trans (show _ = true by simp only [i1, i2, i3, i4, decide_true, Bool.and_self]))
          go_enter Try.func65, Try.ntmps65
          go_wp2
          go_ret
          exact ⟨ret_bool HB.out.symm, by go_grown⟩
        · have HB := Lib.hid (hd.out.trans (show _ = false by simp [*]))
          go_enter Try.func65, Try.ntmps65
          go_wp2
          go_ret
          exact ⟨ret_bool HB.out.symm, by go_grown⟩
      · have HB := Lib.hid (hd.out.trans (show _ = false by simp [*]))
        go_enter Try.func65, Try.ntmps65
        go_wp2
        go_ret
        exact ⟨ret_bool HB.out.symm, by go_grown⟩
    · have HB := Lib.hid (hd.out.trans (show _ = false by simp [*]))
      go_enter Try.func65, Try.ntmps65
      go_wp2
      go_ret
      exact ⟨ret_bool HB.out.symm, by go_grown⟩
  · have HB := Lib.hid (hd.out.trans (show _ = false by simp [*]))
    go_enter Try.func65, Try.ntmps65
    go_wp2
    go_ret
    exact ⟨ret_bool HB.out.symm, by go_grown⟩

/-- How many of the first k lines cover a cell. -/
def cntK (l : List Ln) (r c : Int) : Nat → Int
  | 0 => 0
  | k + 1 => cntK l r c k + (match l[k]? with | some x => if cov x r c then 1 else 0 | none => 0)
theorem cntK_hit {l : List Ln} {r c : Int} {k : Nat} (hk : k < l.length) (h : cov l[k] r c = true) : cntK l r c (k + 1) = cntK l r c k + 1 := by rw [cntK, List.getElem?_eq_getElem hk]; simp [h]
theorem cntK_miss {l : List Ln} {r c : Int} {k : Nat} (hk : k < l.length) (h : cov l[k] r c = false) : cntK l r c (k + 1) = cntK l r c k := by rw [cntK, List.getElem?_eq_getElem hk]; simp [h]
theorem cntK_bd {l : List Ln} {r c : Int} : ∀ k, 0 ≤ cntK l r c k ∧ cntK l r c k ≤ k
  | 0 => by simp [cntK]
  | k + 1 => by
    have := cntK_bd (l := l) (r := r) (c := c) k
    rw [cntK]; split
    · split <;> omega
    · omega
@[irreducible] def cnt (l : List Ln) (r c : Int) : Int := cntK l r c l.length
theorem cnt_def (l : List Ln) (r c : Int) : cnt l r c = cntK l r c l.length := by unfold cnt; rfl

theorem specCount (A : Option Addr) (cp : Nat) (l : List Ln) (r c : Int) (w : World) (h : Sl 5 Ln.enc w A l) (hg : lnGood l = true) (hr0 : 0 ≤ r) (hr : r ≤ 19) (hc0 : 0 ≤ c) (hc : c ≤ 19) :
    Calls Try.prog 72 #[.slice A l.length cp, .int .i64 r, .int .i64 c] w fun e w' => e = .returned (.int .i64 (cnt l r c)) ∧ Below w.heap.size w w' := by
  have h8 := lnGood_len hg
  have G := Lib.hid hg
  clear hg
  go_enter Try.func72, Try.ntmps72
  go_wp2
  go_loopw [7, 8] (fun s i wr => ∃ k : Nat, k ≤ l.length ∧ i = .int .i64 k ∧ s = .int .i64 (cntK l r c k) ∧ Below w.heap.size w wr) (fun _ i _ => l.length - (intOf i).toNat)
  case atStart => exact ⟨0, Nat.zero_le _, rfl, rfl, Below.refl _ _⟩
  case round =>
    obtain ⟨k, hk, rfl, rfl, hb⟩ := hrel
    have b1 := cntK_bd (l := l) (r := r) (c := c) k
    by_cases hlt : k < l.length
    · obtain ⟨b, off, rfl⟩ := h.addr (by omega)
      obtain ⟨hbl, c0, c1, c2, c3, c4⟩ := Ln.get (h.below hb) hlt
      cases hcv : cov l[k] r c with
      | true =>
        have HN := Lib.hid (cntK_hit hlt hcv)
        go_wp2_with (go_at_call 93; refine (specCovers l[k] _ _ _ (lnGood_at G.out hlt) hr0 hr hc0 hc).mono ?_; rintro e w1 ⟨rfl, hb1⟩; rw [hcv])
        go_roundw
        case rel => exact ⟨k + 1, by omega, by go_num, vi HN.out.symm, bth hb hb1⟩
        case measure => simp [intOf]; omega
      | false =>
        have HN := Lib.hid (cntK_miss hlt hcv)
        go_wp2_with (go_at_call 93; refine (specCovers l[k] _ _ _ (lnGood_at G.out hlt) hr0 hr hc0 hc).mono ?_; rintro e w1 ⟨rfl, hb1⟩; rw [hcv])
        go_roundw
        case rel => exact ⟨k + 1, by omega, by go_num, vi HN.out.symm, bth hb hb1⟩
        case measure => simp [intOf]; omega
    · obtain rfl : k = l.length := by omega
      go_wp2
      go_ret
      exact ⟨ret_int (cnt_def l r c).symm, hb⟩

theorem implCount (A : Option Addr) (cp : Nat) (l : List Ln) (r c : Int) (w : World) (h : Sl 5 Ln.enc w A l) (hg : lnGood l = true) (hr0 : 0 ≤ r) (hr : r ≤ 19) (hc0 : 0 ≤ c) (hc : c ≤ 19) :
    Calls Try.prog 73 #[.slice A l.length cp, .int .i64 r, .int .i64 c] w fun e w' => e = .returned (.int .i64 (cnt l r c)) ∧ Below w.heap.size w w' := by
  have h8 := lnGood_len hg
  have G := Lib.hid hg
  clear hg
  go_enter Try.func73, Try.ntmps73
  go_wp2
  go_loopw [7, 12] (fun s i wr => ∃ k : Nat, k ≤ l.length ∧ i = .int .i64 k ∧ s = .int .i64 (cntK l r c k) ∧ Below w.heap.size w wr) (fun _ i _ => l.length - (intOf i).toNat)
  case atStart => exact ⟨0, Nat.zero_le _, rfl, rfl, Below.refl _ _⟩
  case round =>
    obtain ⟨k, hk, rfl, rfl, hb⟩ := hrel
    have b1 := cntK_bd (l := l) (r := r) (c := c) k
    by_cases hlt : k < l.length
    · obtain ⟨b, off, rfl⟩ := h.addr (by omega)
      obtain ⟨hbl, c0, c1, c2, c3, c4⟩ := Ln.get (h.below hb) hlt
      have bx := lnOk_bd (lnGood_at G.out hlt)
      have e1 : IntKind.i64.wrap (l[k].y - l[k].swath) = l[k].y - l[k].swath := IntWalk.i64_in _ (by omega)
      have e2 : IntKind.i64.wrap (l[k].y + l[k].swath) = l[k].y + l[k].swath := IntWalk.i64_in _ (by omega)
      obtain ⟨n, hn, HC⟩ : ∃ n, cntK l r c (k + 1) = n ∧ Hid ((holdsB (stripBx l[k]) (cellBx r c) = true ∧ n = cntK l r c k + 1) ∨ (holdsB (stripBx l[k]) (cellBx r c) = false ∧ n = cntK l r c k)) := by
        refine ⟨_, rfl, Lib.hid ?_⟩
        cases hcv : cov l[k] r c with
        | true => left; refine ⟨?_, cntK_hit hlt hcv⟩; unfold cov at hcv; exact hcv
        | false => right; refine ⟨?_, cntK_miss hlt hcv⟩; unfold cov at hcv; exact hcv
      have HN := Lib.hid hn
      clear hn
      go_wp2_with (fail)
      generalize hW : World.alloc wr _ = W1
      obtain ⟨bW, kW, _⟩ := alloc_facts hW
      clear hW
      have bW' := bth hb bW
      generalize wr.heap.size = g at *
      have KT : ∀ w', Below W1.heap.size W1 w' → Below W1.heap.size W1 w' ∧ w'.cell? ⟨g, 1, none⟩ = some (.int .i64 l[k].y) ∧ w'.cell? ⟨g, 2, none⟩ = some (.int .i64 l[k].frm) ∧ w'.cell? ⟨g, 3, none⟩ = some (.int .i64 l[k].to) ∧ w'.cell? ⟨g, 4, none⟩ = some (.int .i64 l[k].swath) := fun w' hw =>
        ⟨hw, (kW.below hw).2.1 1 _ rfl, (kW.below hw).2.1 2 _ rfl, (kW.below hw).2.1 3 _ rfl, (kW.below hw).2.1 4 _ rfl⟩
      have KT := Lib.hid KT
      go_region_held3 (fun w' => Below W1.heap.size W1 w' ∧ w'.cell? ⟨g, 1, none⟩ = some (.int .i64 l[k].y) ∧ w'.cell? ⟨g, 2, none⟩ = some (.int .i64 l[k].frm) ∧ w'.cell? ⟨g, 3, none⟩ = some (.int .i64 l[k].to) ∧ w'.cell? ⟨g, 4, none⟩ = some (.int .i64 l[k].swath))
        (first | assumption | exact KT.out _ (Below.refl _ _).drew | (refine KT.out _ ?_; assumption) | (refine KT.out _ (bth (b := ?_) ?_ ?_); rotate_left 2; assumption; assumption) | (refine KT.out _ (bth (b := ?_) (And.left (b := ?_) ?_) ?_); rotate_left 3; assumption; rotate_left; assumption))
        (first
          | (go_at_call 66; refine (implCell _ _ _ hr0 hr hc0 hc).mono ?_; rintro e w' ⟨rfl, hb'⟩)
          | (go_at_call 65; refine (implHolds (stripBx l[k]) (cellBx r c) _).mono ?_; rintro e w' ⟨rfl, hb'⟩))
      all_goals
        rcases HC.out with ⟨hh, rfl⟩ | ⟨hh, rfl⟩
        · rw [hh]
          go_wp2
          exact ⟨⟨k + 1, by omega, by go_num, vi HN.out.symm, bth bW' (And.left (by assumption))⟩, by simp [intOf]; omega⟩
        · rw [hh]
          go_wp2
          exact ⟨⟨k + 1, by omega, by go_num, vi HN.out.symm, bth bW' (And.left (by assumption))⟩, by simp [intOf]; omega⟩
    · obtain rfl : k = l.length := by omega
      go_wp2
      go_ret
      exact ⟨ret_int (cnt_def l r c).symm, hb⟩
end Go.Proofs.Ytdphaejpponmeaa
