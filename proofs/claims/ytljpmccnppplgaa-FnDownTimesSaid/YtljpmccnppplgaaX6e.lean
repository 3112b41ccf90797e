/- DepthAfter of both texts: what it returns. Lists of at most 1048576 layers. -/
import Derived.Test.YtljpmccnppplgaaX6d
import Derived.Test.YtljpmccnppplgaaP6b
set_option linter.unusedVariables false
set_option linter.unusedSimpArgs false
namespace Go.Proofs.Ytljpmccnppplgaa
open Go.RowKit
set_option maxHeartbeats 1000000

@[irreducible] def aN (l : List St) (t : Int) (k : Nat) : Int := (daK l t k).1
@[irreducible] def aD (l : List St) (t : Int) (k : Nat) : Int := (daK l t k).2
theorem aN_def (l : List St) (t : Int) (k : Nat) : (daK l t k).1 = aN l t k := by unfold aN; rfl
theorem aD_def (l : List St) (t : Int) (k : Nat) : (daK l t k).2 = aD l t k := by unfold aD; rfl
theorem aN_zero (l : List St) (t : Int) : aN l t 0 = t := by unfold aN; rfl
theorem aD_zero (l : List St) (t : Int) : aD l t 0 = 1 := by unfold aD; rfl
theorem aN_succ (l : List St) (t : Int) (k : Nat) : aN l t (k + 1) = redN (aN l t k * sp l k - 10 * th l k * aD l t k) (aD l t k * sp l k) := by unfold aN aD; rfl
theorem aD_succ (l : List St) (t : Int) (k : Nat) : aD l t (k + 1) = redD (aN l t k * sp l k - 10 * th l k * aD l t k) (aD l t k * sp l k) := by unfold aN aD; rfl
/-- The answer: whether there is one, and it. -/
def daOut (l : List St) (t : Int) : Option (Int × Int) := if stGood l && inB t 0 200 then daGo l t l.length 0 else none
@[irreducible] def daA (l : List St) (t : Int) : Int := match daOut l t with | some x => x.1 | none => 0
@[irreducible] def daB (l : List St) (t : Int) : Int := match daOut l t with | some x => x.2 | none => 0
@[irreducible] def daC (l : List St) (t : Int) : Bool := (daOut l t).isSome
theorem da_some {l : List St} {t a b : Int} (g : (stGood l && inB t 0 200) = true) (h : daGo l t l.length 0 = some (a, b)) : daA l t = a ∧ daB l t = b ∧ daC l t = true := by
  unfold daA daB daC daOut; rw [if_pos g, h]; exact ⟨rfl, rfl, rfl⟩
theorem da_none {l : List St} {t : Int} (h : (stGood l && inB t 0 200) = false ∨ daGo l t l.length 0 = none) : daA l t = 0 ∧ daB l t = 0 ∧ daC l t = false := by
  have : daOut l t = none := by
    unfold daOut
    rcases h with h | h
    · rw [h]; rfl
    · rw [h]; split <;> rfl
  unfold daA daB daC; rw [this]; exact ⟨rfl, rfl, rfl⟩
theorem astep {l : List St} (hg : stGood l = true) {t : Int} {k : Nat} (hk : k < l.length) (h : daRun l t k) :
    0 ≤ aN l t k * sp l k ∧ aN l t k * sp l k ≤ 2900000000000000000 ∧ 0 ≤ 10 * th l k * aD l t k ∧ 10 * th l k * aD l t k ≤ 420000000000000000 ∧ 0 < aD l t k * sp l k ∧ aD l t k * sp l k ≤ 14198570000000000 ∧
    0 ≤ totK l k * 10 * aD l t k ∧ totK l k * 10 * aD l t k ≤ 2100000000000000000 ∧ 1 ≤ aD l t k ∧ aD l t k ≤ 8352100000000 ∧ 0 ≤ aN l t k ∧ aN l t k ≤ 1670420000000000 := by
  rw [← aN_def, ← aD_def]; exact da_step hg hk h
def ret3 (a b : Int) (c : Bool) : Ending := .returned (.tuple #[.int .i64 a, .int .i64 b, .bool c])
theorem ret3_of {a b a' b' : Int} {c c' : Bool} (h1 : a' = a) (h2 : b' = b) (h3 : c' = c) : Ending.returned (.tuple #[.int .i64 a, .int .i64 b, .bool c]) = ret3 a' b' c' := by subst h1 h2 h3; rfl

theorem sDepthAfter (A : Option Addr) (c : Nat) (l : List St) (t : Int) (w : World) (h : Sl 2 St.enc w A l) (hn : l.length ≤ 1048576) :
    Calls Try.prog 23 #[.slice A l.length c, .int .i64 t] w fun e w' => e = ret3 (daA l t) (daB l t) (daC l t) ∧ Below w.heap.size w w' := by
  by_cases g1 : stGood l = true
  · by_cases g2 : inB t 0 200 = true
    · have g : (stGood l && inB t 0 200) = true := by rw [g1, g2]; rfl
      have q2 := inB_true.1 g2
      have h5 := stGood_len g1
      have GG := Lib.hid g
      clear g
      go_enter Try.func23, Try.ntmps23
      go_wp2_with (first | (go_at_call 51; refine (s6Good _ _ l _ h hn).mono ?_; rintro e w' ⟨rfl, rfl⟩; rw [g1]) | (go_at_call 58; refine (specIn _ _ _ _).mono ?_; rintro e w' ⟨rfl, rfl⟩))
      go_loopw [7, 8, 9, 10] (fun T n d i wr => ∃ k : Nat, k ≤ l.length ∧ i = .int .i64 k ∧ n = .int .i64 (aN l t k) ∧ d = .int .i64 (aD l t k) ∧ T = .int .i64 (totK l k) ∧ Below w.heap.size w wr ∧ Hid (daRun l t k) ∧ Hid (daGo l t l.length 0 = daGo l t (l.length - k) k)) (fun _ _ _ i _ => l.length - (intOf i).toNat)
      case atStart => exact ⟨0, Nat.zero_le _, rfl, vi (aN_zero l t).symm, vi (aD_zero l t).symm, rfl, Below.refl _ _, daRun_zero q2.1 q2.2, (rfl : daGo l t l.length 0 = daGo l t (l.length - 0) 0)⟩
      case round =>
        obtain ⟨k, hk, rfl, rfl, rfl, rfl, hb, HR, HG⟩ := hrel
        by_cases hlt : k < l.length
        · obtain ⟨b, off, rfl⟩ := h.addr (by omega)
          obtain ⟨hbl, c0, c1⟩ := St.get (h.below hb) hlt
          rw [← th_of hlt] at c0
          rw [← sp_of hlt] at c1
          have b2 := stGood_at g1 hlt
          have b3 := totK_bd g1 k (by omega)
          have b4 := astep g1 hlt HR.out
          by_cases hs : aN l t k * sp l k ≤ 10 * th l k * aD l t k
          · have HX := da_some GG.out (HG.out.trans (daGo_stop hlt (by rw [aN_def, aD_def]; exact hs)))
            rw [aN_def, aD_def] at HX
            have HX := Lib.hid HX
            go_wp2_with (go_at_call 59; refine (specRed _ _ _ (by omega) (by omega) (by omega) (by omega)).mono ?_; rintro e w' ⟨rfl, q, rfl⟩)
            go_ret3
            exact ⟨ret3_of HX.out.1 HX.out.2.1 HX.out.2.2, bdrew (hb.alloc hb.size _) _⟩
          · have HN := Lib.hid (daRun_succ g1 hlt HR.out (by rw [aN_def, aD_def]; omega))
            have HY := Lib.hid (HG.out.trans (daGo_on hlt (by rw [aN_def, aD_def]; exact hs)))
            go_wp2_with (go_at_call 59; refine (specRed _ _ _ (by omega) (by omega) (by omega) (by omega)).mono ?_; rintro e w' ⟨rfl, q, rfl⟩)
            go_roundw
            case rel => exact ⟨k + 1, by omega, by go_num, vi (aN_succ l t k).symm, vi (aD_succ l t k).symm, rfl, bdrew (hb.alloc hb.size _) _, HN.out, HY.out⟩
            case measure => simp [intOf]; omega
        · obtain rfl : k = l.length := by omega
          have HX := da_none (l := l) (t := t) (.inr (HG.out.trans daGo_end))
          go_wp2
          go_ret3
          exact ⟨ret3_of HX.1 HX.2.1 HX.2.2, hb⟩
    · have g2' : inB t 0 200 = false := by simpa using g2
      have HX := Lib.hid (da_none (l := l) (t := t) (.inl (by rw [g2', Bool.and_false])))
      go_enter Try.func23, Try.ntmps23
      go_wp2_with (first | (go_at_call 51; refine (s6Good _ _ l _ h hn).mono ?_; rintro e w' ⟨rfl, rfl⟩; rw [g1]) | (go_at_call 58; refine (specIn _ _ _ _).mono ?_; rintro e w' ⟨rfl, rfl⟩))
      go_ret3
      exact ⟨ret3_of HX.out.1 HX.out.2.1 HX.out.2.2, Below.refl _ _⟩
  · have g1' : stGood l = false := by simpa using g1
    have HX := Lib.hid (da_none (l := l) (t := t) (.inl (by rw [g1', Bool.false_and])))
    go_enter Try.func23, Try.ntmps23
    go_wp2_with (go_at_call 51; refine (s6Good _ _ l _ h hn).mono ?_; rintro e w' ⟨rfl, rfl⟩; rw [g1'])
    go_ret3
    exact ⟨ret3_of HX.out.1 HX.out.2.1 HX.out.2.2, Below.refl _ _⟩
end Go.Proofs.Ytljpmccnppplgaa
