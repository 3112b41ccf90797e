/- Whether a list is one of valid survey lines: the reference's and the program's function return the same. Lists of at most 1048576 lines. -/
import Derived.Test.YtdphaejpponmeaaP9
import Derived.Test.YtdphaejpponmeaaW2
set_option linter.unusedVariables false
set_option linter.unusedSimpArgs false
namespace Go.Proofs.Ytdphaejpponmeaa
open Go.RowKit
set_option maxHeartbeats 2000000

theorem s9Good (A : Option Addr) (c : Nat) (l : List Ln) (w : World) (h : Sl 5 Ln.enc w A l) (hn : l.length ≤ 1048576) :
    Calls Try.prog 67 #[.slice A l.length c] w fun e w' => e = .returned (.bool (lnGood l)) ∧ Below w.heap.size w w' := by
  go_enter Try.func67, Try.ntmps67
  go_wp2
  go_loopw [3] (fun i wr => ∃ k : Nat, k ≤ l.length ∧ i = .int .i64 k ∧ Below w.heap.size w wr ∧ Hid (∀ m, m < k → lnAt l m = true)) (fun i _ => l.length - (intOf i).toNat)
  case atStart => exact ⟨0, Nat.zero_le _, rfl, Below.refl _ _, (fun m hm => absurd hm (by omega) : ∀ m, m < 0 → lnAt l m = true)⟩
  case round =>
    obtain ⟨k, hk, rfl, hb, H⟩ := hrel
    by_cases hlt : k < l.length
    · obtain ⟨b, off, rfl⟩ := h.addr (by omega)
      obtain ⟨hbl, c0, c1, c2, c3, c4⟩ := Ln.get (h.below hb) hlt
      have hbW := below_alloc wr (.cells #[.int .i64 l[k].id, .int .i64 l[k].y, .int .i64 l[k].frm, .int .i64 l[k].to, .int .i64 l[k].swath] 61)
      by_cases i1 : inB l[k].id 1 99 = true
      · by_cases i2 : inB l[k].y 0 1000 = true
        · by_cases i3 : inB l[k].frm 0 1000 = true
          · by_cases i4 : inB l[k].to 0 1000 = true
            · by_cases i5 : l[k].frm < l[k].to
              · have i5' : decide (l[k].to ≤ l[k].frm) = false := by simpa using i5
                by_cases i6 : inB l[k].swath 1 300 = true
                · have hok : lnOk l[k] = true := by simp only [lnOk, i1, i2, i3, i4, i6, i5, Bool.and_self, decide_true]
                  by_cases hz : 0 < k
                  · obtain ⟨m, hm⟩ : ∃ m, k = m + 1 := ⟨k - 1, by omega⟩
                    have hml : m < l.length := by omega
                    obtain ⟨_, d0, d1, d2, d3, d4⟩ := Ln.get (h.below hb) hml
                    clear d1 d2 d3 d4
                    have t1 : (0 : Int) < (k : Int) := by omega
                    have t2 : (0 : Int) ≤ (k : Int) - 1 := by omega
                    have t3 : (k : Int) - 1 < (l.length : Int) := by omega
                    have t4 : ((k : Int) - 1).toNat = m := by omega
                    have e9 : lnAt l k = (lnOk l[k] && decide ((l[m]'hml).id < l[k].id)) := by subst hm; exact lnAt_succ hlt
                    rw [hok, Bool.true_and] at e9
                    have E9 := Lib.hid e9
                    clear e9 hok hm
                    by_cases i7 : (l[m]'hml).id < l[k].id
                    · have i7' : decide (l[k].id ≤ (l[m]'hml).id) = false := by simpa using i7
                      have HN := Lib.hid (show lnAt l k = true by rw [E9.out]; simpa using i7)
                      go_wp2
                      go_quiet ((first | (go_at_call 78; exact quiet_l (specIn _ _ _ _)) | (go_at_call 91; exact quiet_l (specGrid _ _))))
                      go_wp2
                      go_roundw
                      case rel => exact ⟨k + 1, by omega, by go_num, bdrew (bth hb hbW) _, (step_ok H.out HN.out : _)⟩
                      case measure => simp [intOf]; omega
                    · have i7' : l[k].id ≤ (l[m]'hml).id := by omega
                      have HB := Lib.hid (lnGood_bad hlt (show lnAt l k = false by rw [E9.out]; simpa using i7))
                      go_wp2
                      go_quiet ((first | (go_at_call 78; exact quiet_l (specIn _ _ _ _)) | (go_at_call 91; exact quiet_l (specGrid _ _))))
                      go_wp2
                      go_ret
                      exact ⟨ret_bool HB.out.symm, bdrew (bth hb hbW) _⟩
                  · have t1 : decide ((0 : Int) < (k : Int)) = false := by simp; omega
                    have HN := Lib.hid (show lnAt l k = true by
                      have : k = 0 := by omega
                      subst this
                      rw [lnAt_zero hlt]; exact hok)
                    clear hok
                    go_wp2
                    go_quiet ((first | (go_at_call 78; exact quiet_l (specIn _ _ _ _)) | (go_at_call 91; exact quiet_l (specGrid _ _))))
                    go_wp2
                    go_roundw
                    case rel => exact ⟨k + 1, by omega, by go_num, bdrew (bth hb hbW) _, (step_ok H.out HN.out : _)⟩
                    case measure => simp [intOf]; omega
                · have i6' : inB l[k].swath 1 300 = false := by simpa using i6
                  have HB := Lib.hid (lnGood_bad hlt (lnAt_bad hlt (by simp [lnOk, *])))
                  go_wp2
                  go_quiet ((first | (go_at_call 78; exact quiet_l (specIn _ _ _ _)) | (go_at_call 91; exact quiet_l (specGrid _ _))))
                  go_wp2
                  go_ret
                  exact ⟨ret_bool HB.out.symm, bdrew (bth hb hbW) _⟩
              · have i5' : l[k].to ≤ l[k].frm := by omega
                have HB := Lib.hid (lnGood_bad hlt (lnAt_bad hlt (by simp [lnOk, *])))
                go_wp2
                go_quiet ((first | (go_at_call 78; exact quiet_l (specIn _ _ _ _)) | (go_at_call 91; exact quiet_l (specGrid _ _))))
                go_wp2
                go_ret
                exact ⟨ret_bool HB.out.symm, bdrew (bth hb hbW) _⟩
            · have i4' : inB l[k].to 0 1000 = false := by simpa using i4
              have HB := Lib.hid (lnGood_bad hlt (lnAt_bad hlt (by simp [lnOk, *])))
              go_wp2
              go_quiet ((first | (go_at_call 78; exact quiet_l (specIn _ _ _ _)) | (go_at_call 91; exact quiet_l (specGrid _ _))))
              go_wp2
              go_ret
              exact ⟨ret_bool HB.out.symm, bdrew (bth hb hbW) _⟩
          · have i3' : inB l[k].frm 0 1000 = false := by simpa using i3
            have HB := Lib.hid (lnGood_bad hlt (lnAt_bad hlt (by simp [lnOk, *])))
            go_wp2
            go_quiet ((first | (go_at_call 78; exact quiet_l (specIn _ _ _ _)) | (go_at_call 91; exact quiet_l (specGrid _ _))))
            go_wp2
            go_ret
            exact ⟨ret_bool HB.out.symm, bdrew (bth hb hbW) _⟩
        · have i2' : inB l[k].y 0 1000 = false := by simpa using i2
          have HB := Lib.hid (lnGood_bad hlt (lnAt_bad hlt (by simp [lnOk, *])))
          go_wp2
          go_quiet ((first | (go_at_call 78; exact quiet_l (specIn _ _ _ _)) | (go_at_call 91; exact quiet_l (specGrid _ _))))
          go_wp2
          go_ret
          exact ⟨ret_bool HB.out.symm, bdrew (bth hb hbW) _⟩
      · have i1' : inB l[k].id 1 99 = false := by simpa using i1
        have HB := Lib.hid (lnGood_bad hlt (lnAt_bad hlt (by simp [lnOk, *])))
        go_wp2
        go_quiet ((first | (go_at_call 78; exact quiet_l (specIn _ _ _ _)) | (go_at_call 91; exact quiet_l (specGrid _ _))))
        go_wp2
        go_ret
        exact ⟨ret_bool HB.out.symm, bdrew (bth hb hbW) _⟩
    · obtain rfl : k = l.length := by omega
      go_wp2
      go_ret
      exact ⟨ret_bool (lnGood_end (fun m hm => H.out m (by omega))).symm, hb⟩
end Go.Proofs.Ytdphaejpponmeaa
