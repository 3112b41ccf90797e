/- CellsIn of both texts: what it returns. No condition. -/
import Derived.Test.YtdphaejpponmeaaX9a
import Derived.Test.YtdphaejpponmeaaP9b
import Derived.Test.YtdphaejpponmeaaOut2
set_option linter.unusedVariables false
set_option linter.unusedSimpArgs false
namespace Go.Proofs.Ytdphaejpponmeaa
open Go.RowKit
set_option maxHeartbeats 2000000
/-- A returned list. -/
def retS (K : Nat) {α : Type} (enc : α → List Value) (w : World) (X : List α) (e : Ending) (w' : World) : Prop :=
  ∃ A c, e = .returned (.slice A X.length c) ∧ Fr K enc w w' A X
theorem Bk.aft {w : World} {g : Nat} {cs : List Value} (h : Bk w g cs) (x : Aft w) : Bk x.val g cs := h.below x.bel
def whole (b : Bx) (r c : Int) : Bool := holdsB b (cellBx r c)
theorem whole_def (b : Bx) (r c : Int) : whole b r c = (decide (b.south ≤ r * 50) && decide (r * 50 + 50 ≤ b.north) && decide (b.west ≤ c * 50) && decide (c * 50 + 50 ≤ b.east)) := by
  unfold whole
  rw [holdsB_def, Bool.eq_iff_iff]
  have e5 : (cellBx r c).west = 50 * c := rfl
  have e6 : (cellBx r c).south = 50 * r := rfl
  have e7 : (cellBx r c).east = 50 * (c + 1) := rfl
  have e8 : (cellBx r c).north = 50 * (r + 1) := rfl
  simp only [e5, e6, e7, e8, Bool.and_eq_true, decide_eq_true_eq]
  constructor <;> (rintro ⟨⟨⟨h1, h2⟩, h3⟩, h4⟩; refine ⟨⟨⟨?_, ?_⟩, ?_⟩, ?_⟩ <;> omega)
theorem infoCe : (Try.prog.info? 69).map (fun i => (i.zero, i.size, i.bytes)) = some (some (.agg #[.int .i64 0, .int .i64 0]), 2, 16) := by kernel_rfl
theorem specWhole (b : Bx) (r c : Int) (w : World) (hb : bxOk b = true) (hr0 : 0 ≤ r) (hr : r ≤ 19) (hc0 : 0 ≤ c) (hc : c ≤ 19) :
    Calls Try.prog 61 #[.agg #[.int .i64 b.west, .int .i64 b.south, .int .i64 b.east, .int .i64 b.north], .int .i64 r, .int .i64 c] w fun e w' => e = .returned (.bool (whole b r c)) ∧ Below w.heap.size w w' := by
  have hq := bxOk_bd hb
  have D := Lib.hid (whole_def b r c)
  go_enter Try.func61, Try.ntmps61
  go_wp2
  all_goals
    go_ret
    exact ⟨ret_bool (by rw [D.out]; simp [*] <;> omega), by go_grown⟩
/-- The program's list of the chosen cells, the choice a function value of two numbers that has captured v. -/
theorem cwIn (q : Int → Int → Bool) (v : Value) (w : World)
    (HC : Hid (∀ (r c : Nat) (W' : World), r < 20 → c < 20 → Below w.heap.size w W' → Calls Try.prog 64 #[.int .i64 r, .int .i64 c, v] W' fun e w' => e = .returned (.bool (q r c)) ∧ Below W'.heap.size W' w')) :
    Calls Try.prog 63 #[.func (.func 64) #[] #[v]] w (retS 2 Ce.enc w (cells q)) := by
  go_enter Try.func63, Try.ntmps63
  go_wp2_with (fail)
  generalize hW : World.alloc w _ = W1
  have hO : OutS 2 Ce.enc w.heap.size 69 W1 (.slice (some ⟨w.heap.size, 0, none⟩) 0 0) ([] : List Ce) := by rw [← hW]; exact OutS.empty (Nat.le_refl _)
  have b1 : Below w.heap.size w W1 := by rw [← hW]; exact below_alloc _ _
  clear hW
  go_loopw [3, 7] (fun v i wr => ∃ r : Nat, r ≤ 20 ∧ i = .int .i64 r ∧ Below w.heap.size w wr ∧ Hid (OutS 2 Ce.enc w.heap.size 69 wr v (cellsN q (20 * r)))) (fun _ i _ => 20 - (intOf i).toNat)
  case atStart => exact ⟨0, by omega, rfl, b1, hO⟩
  case round =>
    obtain ⟨r, hr, rfl, hb, HO⟩ := hrel
    by_cases hlt : r < 20
    · have t1 : decide ((r : Int) < 20) = true := by simp; omega
      go_wp2
      go_loopw [3, 10] (fun v i wr => ∃ c : Nat, c ≤ 20 ∧ i = .int .i64 c ∧ Below w.heap.size w wr ∧ Hid (OutS 2 Ce.enc w.heap.size 69 wr v (cellsN q (20 * r + c)))) (fun _ i _ => 20 - (intOf i).toNat)
      case atStart => exact ⟨0, by omega, rfl, hb, HO.out⟩
      case round =>
        clear hb HO
        obtain ⟨c, hc, rfl, hb, HO⟩ := hrel
        by_cases hlc : c < 20
        · have hl := cells_len (q := q) (20 * r + c)
          go_wp2_with (fail)
          refine (HC.out r c _ hlt hlc hb).mono ?_; rintro e w2 ⟨rfl, b2⟩
          have HO2 := Lib.hid (HO.out.below b2)
          have hb2 := bth hb b2
          have hsz := hb2.size
          cases hq : q r c with
          | true =>
            have HN := Lib.hid (cells_hit hlc hq)
            clear hq
            go_wp2_with (at_builtin; refine wp_app (K := 2) (bytes := 16) (enc := Ce.enc) Ce.len Ce.one (by decide) (by decide) _ rfl (.tmp 17) (.tmp 21) _ rfl Try.underlying45 infoCe rfl _ _ rfl (HO2.out.below (by go_grown)) ⟨r, c⟩ _ rfl (by intro j u hu; exact app_cell (by simp) hu) (by omega) (by simp; omega) ?_; intro v' W4 hO2 hg2 hb4)
            refine ⟨⟨c + 1, by omega, by go_num, Below.trans (by go_grown) hb4, (by rw [HN.out]; exact hO2 : OutS 2 Ce.enc w.heap.size 69 W4 v' (cellsN q (20 * r + (c + 1))))⟩, by simp [intOf]; omega⟩
          | false =>
            have HN := Lib.hid (cells_miss hlc hq)
            clear hq
            go_wp2
            go_roundw
            case rel => exact ⟨c + 1, by omega, by go_num, hb2, (by rw [HN.out]; exact HO2.out : OutS 2 Ce.enc w.heap.size 69 w2 _ (cellsN q (20 * r + (c + 1))))⟩
            case measure => simp [intOf]; omega
        · obtain rfl : c = 20 := by omega
          have HO2 := HO.out
          rw [show 20 * r + 20 = 20 * (r + 1) from rfl] at HO2
          have HO2 := Lib.hid HO2
          go_wp2
          go_roundw
          case rel => exact ⟨r + 1, by omega, by go_num, hb, HO2.out⟩
          case measure => simp [intOf]; omega
    · obtain rfl : r = 20 := by omega
      have HO2 := HO.out
      rw [show 20 * 20 = 400 from rfl, ← cells_def] at HO2
      obtain ⟨B, c', hv, _, hs, ho, hbk⟩ := HO2.sl Ce.len
      subst hv
      go_wp2
      go_ret
      exact ⟨B, c', rfl, hb, hs, ho, fun a ha _ => hbk a ha⟩
theorem inClos (b : Bx) (r c : Nat) (g : Nat) (w : World) (hg : Bk w g b.enc) (hr : r < 20) (hc : c < 20) :
    Calls Try.prog 64 #[.int .i64 r, .int .i64 c, .pointer (some ⟨g, 0, none⟩)] w fun e w' => e = .returned (.bool (whole b r c)) ∧ Below w.heap.size w w' := by
  have l1 := aft_cell hg.1
  have k0 := hg.2.1 0 _ rfl
  have k1 := hg.2.1 1 _ rfl
  have k2 := hg.2.1 2 _ rfl
  have k3 := hg.2.1 3 _ rfl
  have q1 : (0 : Int) ≤ (r : Int) := by omega
  have q2 : (r : Int) ≤ 19 := by omega
  have q3 : (0 : Int) ≤ (c : Int) := by omega
  have q4 : (c : Int) ≤ 19 := by omega
  clear hg
  go_enter Try.func64, Try.ntmps64
  go_wp2_with (fail)
  refine wp_region_aft (by kernel_rfl) (by kernel_rfl) ?_
  repeat (go_big_quiet_step ((first | (go_at_call 66; exact Aft.calls _ (implCell _ _ _ q1 q2 q3 q4)) | (go_at_call 65; exact Aft.calls _ (implHolds b (cellBx r c) _)))))
  refine wpQuiet_nil ?_
  intro w9 b9
  go_wp2
  go_ret
  exact ⟨rfl, b9⟩
@[irreducible] def ciV (b : Bx) : Int := if bxOk b then ((cells (whole b)).length : Int) else 0
theorem ci_bad {b : Bx} (h : bxOk b = false) : ciV b = 0 := by unfold ciV; simp [h]
theorem ci_good {b : Bx} (h : bxOk b = true) : ciV b = (cells (whole b)).length := by unfold ciV; simp [h]
theorem iCellsIn (b : Bx) (w : World) :
    Calls Try.prog 17 #[.agg #[.int .i64 b.west, .int .i64 b.south, .int .i64 b.east, .int .i64 b.north]] w fun e w' => e = .returned (.tuple #[.int .i64 (ciV b), .bool (bxOk b)]) ∧ Below w.heap.size w w' := by
  go_enter Try.func17, Try.ntmps17
  go_wp2_with (fail)
  generalize hW : World.alloc w _ = W1
  obtain ⟨bW, kW, _⟩ := alloc_facts hW
  clear hW
  refine (implBox b _).mono ?_; rintro e w1 ⟨rfl, b1⟩
  have k1 := kW.below b1
  have b1 := bth bW b1
  cases g : bxOk b with
  | false =>
    have E := Lib.hid (ci_bad g)
    have G := Lib.hid g
    clear g
    go_wp2
    go_ret2
    exact ⟨ret_t2 (vi E.out.symm) (vb G.out.symm), b1⟩
  | true =>
    have E := Lib.hid (ci_good g)
    have G := Lib.hid g
    clear g
    go_wp2_with (fail)
    refine (cwIn (whole b) _ _ (Lib.hid fun r c W' hr hc hw => inClos b r c _ W' (k1.below hw) hr hc)).mono ?_; rintro e w2 ⟨A2, c2, rfl, f2⟩
    have hl := cells_bd (whole b)
    go_wp2
    go_ret2
    exact ⟨ret_t2 (vi E.out.symm) (vb G.out.symm), bth b1 f2.1⟩
theorem sCellsIn (b : Bx) (w : World) :
    Calls Try.prog 15 #[.agg #[.int .i64 b.west, .int .i64 b.south, .int .i64 b.east, .int .i64 b.north]] w fun e w' => e = .returned (.tuple #[.int .i64 (ciV b), .bool (bxOk b)]) ∧ Below w.heap.size w w' := by
  go_enter Try.func15, Try.ntmps15
  go_wp2_with (fail)
  generalize hW : World.alloc w _ = W1
  obtain ⟨bW, kW, _⟩ := alloc_facts hW
  clear hW
  refine (specBox b _).mono ?_; rintro e w1 ⟨rfl, b1⟩
  have k1 := kW.below b1
  have b1 := bth bW b1
  cases g : bxOk b with
  | false =>
    have E := Lib.hid (ci_bad g)
    have G := Lib.hid g
    clear g
    go_wp2
    go_ret2
    exact ⟨ret_t2 (vi E.out.symm) (vb G.out.symm), b1⟩
  | true =>
    have E := Lib.hid (ci_good g)
    have CD := Lib.hid (cells_def (whole b))
    have G := Lib.hid g
    clear g
    go_wp2
    go_loopw [4, 5] (fun n i wr => ∃ r : Nat, r ≤ 20 ∧ i = .int .i64 r ∧ n = .int .i64 (cellsN (whole b) (20 * r)).length ∧ Below w1.heap.size w1 wr) (fun _ i _ => 20 - (intOf i).toNat)
    case atStart => exact ⟨0, by omega, rfl, rfl, Below.refl _ _⟩
    case round =>
      obtain ⟨r, hr, rfl, rfl, hb⟩ := hrel
      by_cases hlt : r < 20
      · have t1 : decide ((r : Int) < 20) = true := by simp; omega
        go_wp2_with (go_at_call 60; refine (specSide _).mono ?_; rintro e w' ⟨rfl, rfl⟩)
        go_loopw [4, 6] (fun n i wr => ∃ c : Nat, c ≤ 20 ∧ i = .int .i64 c ∧ n = .int .i64 (cellsN (whole b) (20 * r + c)).length ∧ Below w1.heap.size w1 wr) (fun _ i _ => 20 - (intOf i).toNat)
        case atStart => exact ⟨0, by omega, rfl, rfl, hb⟩
        case round =>
          clear hb
          obtain ⟨c, hc, rfl, rfl, hb⟩ := hrel
          have hl := cells_len (q := whole b) (20 * r + c)
          by_cases hlc : c < 20
          · have k2 := k1.below hb
            have m0 := k2.2.1 0 _ rfl
            have m1 := k2.2.1 1 _ rfl
            have m2 := k2.2.1 2 _ rfl
            have m3 := k2.2.1 3 _ rfl
            clear k2
            go_wp2_with (go_at_call 60; refine (specSide _).mono ?_; rintro e w' ⟨rfl, rfl⟩)
            refine (specWhole b r c _ G.out (by omega) (by omega) (by omega) (by omega)).mono ?_; rintro e w2 ⟨rfl, b2⟩
            cases hq : whole b r c with
            | true =>
              have HN := Lib.hid (cells_hit hlc hq)
              clear hq
              go_wp2
              go_roundw
              case rel => exact ⟨c + 1, by omega, by go_num, vi (by rw [HN.out, List.length_append]; rfl), bth hb b2⟩
              case measure => simp [intOf]; omega
            | false =>
              have HN := Lib.hid (cells_miss hlc hq)
              clear hq
              go_wp2
              go_roundw
              case rel => exact ⟨c + 1, by omega, by go_num, vi (by rw [HN.out]), bth hb b2⟩
              case measure => simp [intOf]; omega
          · obtain rfl : c = 20 := by omega
            go_wp2_with (go_at_call 60; refine (specSide _).mono ?_; rintro e w' ⟨rfl, rfl⟩)
            go_roundw
            case rel => exact ⟨r + 1, by omega, by go_num, rfl, hb⟩
            case measure => simp [intOf]; omega
      · obtain rfl : r = 20 := by omega
        go_wp2_with (go_at_call 60; refine (specSide _).mono ?_; rintro e w' ⟨rfl, rfl⟩)
        go_ret2
        exact ⟨ret_t2 (vi (by rw [E.out, CD.out])) (vb G.out.symm), bth b1 hb⟩
end Go.Proofs.Ytdphaejpponmeaa
