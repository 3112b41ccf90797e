/- Whether a list is one of valid survey lines: the program's function. Lists of at most 1048576 lines. -/
import Derived.Test.YtdphaejpponmeaaW9a
set_option linter.unusedVariables false
set_option linter.unusedSimpArgs false
namespace Go.Proofs.Ytdphaejpponmeaa
open Go.RowKit
set_option maxHeartbeats 2000000

theorem lnOk_iff (x : Ln) : lnOk x = (inB x.id 1 99 && inB x.y 0 1000 && inB x.frm 0 1000 && inB x.to (x.frm + 1) 1000 && inB x.swath 1 300) := by
  rw [Bool.eq_iff_iff]
  simp only [lnOk, Bool.and_eq_true, inB_true, decide_eq_true_eq]
  omega
theorem i9Good (A : Option Addr) (c : Nat) (l : List Ln) (w : World) (h : Sl 5 Ln.enc w A l) (hn : l.length ≤ 1048576) :
    Calls Try.prog 21 #[.slice A l.length c] w fun e w' => e = .returned (.bool (lnGood l)) ∧ Below w.heap.size w w' := by
  go_enter Try.func21, Try.ntmps21
  go_wp2
  go_loopw [7] (fun i wr => ∃ k : Nat, k ≤ l.length ∧ i = .int .i64 k ∧ Below w.heap.size w wr ∧ Hid (∀ m, m < k → lnAt l m = true)) (fun i _ => l.length - (intOf i).toNat)
  case atStart => exact ⟨0, Nat.zero_le _, rfl, Below.refl _ _, (fun m hm => absurd hm (by omega) : ∀ m, m < 0 → lnAt l m = true)⟩
  case round =>
    obtain ⟨k, hk, rfl, hb, H⟩ := hrel
    by_cases hlt : k < l.length
    · obtain ⟨b, off, rfl⟩ := h.addr (by omega)
      obtain ⟨hbl, c0, c1, c2, c3, c4⟩ := Ln.get (h.below hb) hlt
      have hbW := below_alloc wr (.cells #[.int .i64 l[k].id, .int .i64 l[k].y, .int .i64 l[k].frm, .int .i64 l[k].to, .int .i64 l[k].swath] 61)
      by_cases i1 : inB l[k].id 1 99 = true
      · by_cases i2 : inB l[k].y 0 1000 = true
        · by_cases i3 : inB l[k].frm 0 1000 = true
          · have j3 := inB_true.1 i3
            by_cases i4 : inB l[k].to (l[k].frm + 1) 1000 = true
            · by_cases i6 : inB l[k].swath 1 300 = true
              · have hok : lnOk l[k] = true := by rw [lnOk_iff]; simp only [i1, i2, i3, i4, i6, Bool.and_self]
                by_cases hz : 0 < k
                · obtain ⟨m, hm⟩ : ∃ m, k = m + 1 := ⟨k - 1, by omega⟩
                  have hml : m < l.length := by omega
                  obtain ⟨_, d0, d1, d2, d3, d4⟩ := Ln.get (h.below hb) hml
                  clear d1 d2 d3 d4
                  have t1 : (0 : Int) < (k : Int) := by omega
                  have t2 : (0 : Int) ≤ (k : Int) - 1 := by omega
                  have t3 : (k : Int) - 1 < (l.length : Int) := by omega
                  have t4 : ((k : Int) - 1).toNat = m := by omega
                  have e9 : lnAt l k = (lnOk l[k] && decide ((l[m]'hml).id < l[k].id)) := by subst hm; exact lnAt_succ hlt
                  rw [hok, Bool.true_and] at e9
                  have E9 := Lib.hid e9
                  clear e9 hok hm
                  by_cases i7 : (l[m]'hml).id < l[k].id
                  · have i7' : decide (l[k].id ≤ (l[m]'hml).id) = false := by simpa using i7
                    have HN := Lib.hid (show lnAt l k = true by rw [E9.out]; simpa using i7)
                    go_wp2_with (go_at_call 69; refine (implIn _ _ _ _).mono ?_; rintro e w' ⟨rfl, rfl⟩)
                    go_quiet (fail)
                    go_wp2
                    go_roundw
                    case rel => exact ⟨k + 1, by omega, by go_num, bdrew (bth hb hbW) _, (step_ok H.out HN.out : _)⟩
                    case measure => simp [intOf]; omega
                  · have i7' : l[k].id ≤ (l[m]'hml).id := by omega
                    have HB := Lib.hid (lnGood_bad hlt (show lnAt l k = false by rw [E9.out]; simpa using i7))
                    go_wp2_with (go_at_call 69; refine (implIn _ _ _ _).mono ?_; rintro e w' ⟨rfl, rfl⟩)
                    go_quiet (fail)
                    go_wp2
                    go_ret
                    exact ⟨ret_bool HB.out.symm, bdrew (bth hb hbW) _⟩
                · have t1 : decide ((0 : Int) < (k : Int)) = false := by simp; omega
                  have HN := Lib.hid (show lnAt l k = true by
                    have : k = 0 := by omega
                    subst this
                    rw [lnAt_zero hlt]; exact hok)
                  clear hok
                  go_wp2_with (go_at_call 69; refine (implIn _ _ _ _).mono ?_; rintro e w' ⟨rfl, rfl⟩)
                  go_quiet (fail)
                  go_wp2
                  go_roundw
                  case rel => exact ⟨k + 1, by omega, by go_num, bdrew (bth hb hbW) _, (step_ok H.out HN.out : _)⟩
                  case measure => simp [intOf]; omega
              · have i6' : inB l[k].swath 1 300 = false := by simpa using i6
                have HB := Lib.hid (lnGood_bad hlt (lnAt_bad hlt (by rw [lnOk_iff]; simp [*])))
                go_wp2_with (go_at_call 69; refine (implIn _ _ _ _).mono ?_; rintro e w' ⟨rfl, rfl⟩)
                go_ret
                exact ⟨ret_bool HB.out.symm, bth hb hbW⟩
            · have i4' : inB l[k].to (l[k].frm + 1) 1000 = false := by simpa using i4
              have HB := Lib.hid (lnGood_bad hlt (lnAt_bad hlt (by rw [lnOk_iff]; simp [*])))
              go_wp2_with (go_at_call 69; refine (implIn _ _ _ _).mono ?_; rintro e w' ⟨rfl, rfl⟩)
              go_ret
              exact ⟨ret_bool HB.out.symm, bth hb hbW⟩
          · have i3' : inB l[k].frm 0 1000 = false := by simpa using i3
            have HB := Lib.hid (lnGood_bad hlt (lnAt_bad hlt (by rw [lnOk_iff]; simp [*])))
            go_wp2_with (go_at_call 69; refine (implIn _ _ _ _).mono ?_; rintro e w' ⟨rfl, rfl⟩)
            go_ret
            exact ⟨ret_bool HB.out.symm, bth hb hbW⟩
        · have i2' : inB l[k].y 0 1000 = false := by simpa using i2
          have HB := Lib.hid (lnGood_bad hlt (lnAt_bad hlt (by rw [lnOk_iff]; simp [*])))
          go_wp2_with (go_at_call 69; refine (implIn _ _ _ _).mono ?_; rintro e w' ⟨rfl, rfl⟩)
          go_ret
          exact ⟨ret_bool HB.out.symm, bth hb hbW⟩
      · have i1' : inB l[k].id 1 99 = false := by simpa using i1
        have HB := Lib.hid (lnGood_bad hlt (lnAt_bad hlt (by rw [lnOk_iff]; simp [*])))
        go_wp2_with (go_at_call 69; refine (implIn _ _ _ _).mono ?_; rintro e w' ⟨rfl, rfl⟩)
        go_ret
        exact ⟨ret_bool HB.out.symm, bth hb hbW⟩
    · obtain rfl : k = l.length := by omega
      go_wp2
      go_ret
      exact ⟨ret_bool (lnGood_end (fun m hm => H.out m (by omega))).symm, hb⟩
theorem sAre9 (A : Option Addr) (c : Nat) (l : List Ln) (w : World) (h : Sl 5 Ln.enc w A l) (hn : l.length ≤ 1048576) :
    Calls Try.prog 19 #[.slice A l.length c] w fun e w' => e = .returned (.bool (lnGood l)) ∧ Below w.heap.size w w' := by
  go_enter Try.func19, Try.ntmps19
  go_wp2_with (go_at_call 67; refine (s9Good _ _ l _ h hn).mono ?_; rintro e w1 ⟨rfl, hb⟩)
  go_ret
  exact ⟨rfl, hb⟩

/-- The sum of the lengths of the first k lines. -/
def lenK (l : List Ln) : Nat → Int
  | 0 => 0
  | k + 1 => lenK l k + (match l[k]? with | some x => x.to - x.frm | none => 0)
theorem lenK_succ {l : List Ln} {k : Nat} (h : k < l.length) : lenK l (k + 1) = lenK l k + (l[k].to - l[k].frm) := by rw [lenK, List.getElem?_eq_getElem h]
theorem lenK_bd {l : List Ln} (h : lnGood l = true) : ∀ k, k ≤ l.length → 0 ≤ lenK l k ∧ lenK l k ≤ 1000 * k
  | 0, _ => by simp [lenK]
  | k + 1, hk => by
    have h1 := lenK_bd h k (by omega)
    have h2 := lnOk_bd (lnGood_at h (show k < l.length by omega))
    rw [lenK_succ (by omega)]; omega
@[irreducible] def llA (l : List Ln) : Int := if lnGood l then lenK l l.length else 0
@[irreducible] def llB (l : List Ln) : Bool := lnGood l
theorem sLengths (A : Option Addr) (c : Nat) (l : List Ln) (w : World) (h : Sl 5 Ln.enc w A l) (hn : l.length ≤ 1048576) :
    Calls Try.prog 23 #[.slice A l.length c] w fun e w' => e = .returned (.tuple #[.int .i64 (llA l), .bool (llB l)]) ∧ Below w.heap.size w w' := by
  unfold llA llB
  cases g : lnGood l with
  | true =>
    have h8 := lnGood_len g
    have G := Lib.hid g
    go_enter Try.func23, Try.ntmps23
    go_wp2_with (go_at_call 67; refine (s9Good _ _ l _ h hn).mono ?_; rintro e w1 ⟨rfl, b1⟩; rw [G.out])
    go_loopw [4, 5] (fun s i wr => ∃ k : Nat, k ≤ l.length ∧ i = .int .i64 k ∧ s = .int .i64 (lenK l k) ∧ Below w.heap.size w wr) (fun _ i _ => l.length - (intOf i).toNat)
    case atStart => exact ⟨0, Nat.zero_le _, rfl, rfl, b1⟩
    case round =>
      obtain ⟨k, hk, rfl, rfl, hb⟩ := hrel
      have b2 := lenK_bd G.out k hk
      by_cases hlt : k < l.length
      · obtain ⟨b, off, rfl⟩ := h.addr (by omega)
        obtain ⟨hbl, c0, c1, c2, c3, c4⟩ := Ln.get (h.below hb) hlt
        have b3 := lnOk_bd (lnGood_at G.out hlt)
        go_wp2
        go_quiet (fail)
        go_wp2
        go_roundw
        case rel => exact ⟨k + 1, by omega, by go_num, vi (by rw [lenK_succ hlt]; omega), bdrew hb _⟩
        case measure => simp [intOf]; omega
      · obtain rfl : k = l.length := by omega
        go_wp2
        go_ret2
        exact ⟨rfl, hb⟩
  | false =>
    go_enter Try.func23, Try.ntmps23
    go_wp2_with (go_at_call 67; refine (s9Good _ _ l _ h hn).mono ?_; rintro e w1 ⟨rfl, b1⟩; rw [g])
    go_ret2
    exact ⟨rfl, b1⟩
theorem iLengths (A : Option Addr) (c : Nat) (l : List Ln) (w : World) (h : Sl 5 Ln.enc w A l) (hn : l.length ≤ 1048576) :
    Calls Try.prog 24 #[.slice A l.length c] w fun e w' => e = .returned (.tuple #[.int .i64 (llA l), .bool (llB l)]) ∧ Below w.heap.size w w' := by
  unfold llA llB
  cases g : lnGood l with
  | true =>
    have h8 := lnGood_len g
    have G := Lib.hid g
    go_enter Try.func24, Try.ntmps24
    go_wp2_with (go_at_call 21; refine (i9Good _ _ l _ h hn).mono ?_; rintro e w1 ⟨rfl, b1⟩; rw [G.out])
    go_loopw [4, 12] (fun s i wr => ∃ k : Nat, k ≤ l.length ∧ i = .int .i64 k ∧ s = .int .i64 (lenK l k) ∧ Below w.heap.size w wr) (fun _ i _ => l.length - (intOf i).toNat)
    case atStart => exact ⟨0, Nat.zero_le _, rfl, rfl, b1⟩
    case round =>
      obtain ⟨k, hk, rfl, rfl, hb⟩ := hrel
      have b2 := lenK_bd G.out k hk
      by_cases hlt : k < l.length
      · obtain ⟨b, off, rfl⟩ := h.addr (by omega)
        obtain ⟨hbl, c0, c1, c2, c3, c4⟩ := Ln.get (h.below hb) hlt
        have b3 := lnOk_bd (lnGood_at G.out hlt)
        go_wp2
        go_roundw
        case rel => exact ⟨k + 1, by omega, by go_num, vi (by rw [lenK_succ hlt]), hb.alloc hb.size _⟩
        case measure => simp [intOf]; omega
      · obtain rfl : k = l.length := by omega
        go_wp2
        go_ret2
        exact ⟨rfl, hb⟩
  | false =>
    go_enter Try.func24, Try.ntmps24
    go_wp2_with (go_at_call 21; refine (i9Good _ _ l _ h hn).mono ?_; rintro e w1 ⟨rfl, b1⟩; rw [g])
    go_ret2
    exact ⟨rfl, b1⟩
end Go.Proofs.Ytdphaejpponmeaa
