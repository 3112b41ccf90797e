/- DepthAfter of the program: what it returns. Lists of at most 1048576 layers. -/
import Derived.Test.YtljpmccnppplgaaX6e
set_option linter.unusedVariables false
set_option linter.unusedSimpArgs false
namespace Go.Proofs.Ytljpmccnppplgaa
open Go.RowKit
set_option maxHeartbeats 2000000

theorem redN_pos {a b : Int} (hb : 0 < b) (ha : 0 < a) : 0 < redN a b := by
  have h1 := redN_nonneg hb (show 0 ≤ a by omega)
  have h2 := gcd_mulN (a := a) (b := b)
  rcases Int.lt_or_le 0 (redN a b) with h | h
  · exact h
  · rw [show redN a b = 0 by omega, Int.zero_mul] at h2; omega
/-- The program's loop: on its way, or past the answer. -/
def daInv (l : List St) (t : Int) (k : Nat) (n d T : Int) : Prop :=
  (n = aN l t k ∧ d = aD l t k ∧ T = totK l k ∧ daRun l t k ∧ (k = 0 ∨ 0 < aN l t k) ∧ daGo l t l.length 0 = daGo l t (l.length - k) k) ∨
  (n = 0 ∧ d = 1 ∧ 0 ≤ T ∧ T ≤ 25000 ∧ daGo l t l.length 0 = some (T, 1))
theorem daInv_bd {l : List St} (hg : stGood l = true) {t : Int} {k : Nat} (hk : k < l.length) {n d T : Int} (h : daInv l t k n d T) :
    0 ≤ n * sp l k ∧ n * sp l k ≤ 2900000000000000000 ∧ 0 ≤ 10 * th l k * d ∧ 10 * th l k * d ≤ 420000000000000000 ∧ 0 < d * sp l k ∧ d * sp l k ≤ 14198570000000000 ∧ 1 ≤ d ∧ d ≤ 8352100000000 ∧ 0 ≤ n ∧ n ≤ 1670420000000000 ∧ 0 ≤ T ∧ T ≤ 25000 := by
  have b2 := stGood_at hg hk
  have b3 := totK_bd hg k (by omega)
  have h5 := stGood_len hg
  rcases h with ⟨rfl, rfl, rfl, hr, _, _⟩ | ⟨rfl, rfl, h1, h2, _⟩
  · have := astep hg hk hr; omega
  · omega
/-- The sound stops here. -/
theorem daInv_stop {l : List St} (hg : stGood l = true) {t : Int} {k : Nat} (hk : k < l.length) {n d T : Int} (h : daInv l t k n d T) (hs : n * sp l k < 10 * th l k * d) :
    daGo l t l.length 0 = some (redN (redN (n * sp l k) (10 * d) * 1 + T * redD (n * sp l k) (10 * d)) (redD (n * sp l k) (10 * d) * 1), redD (redN (n * sp l k) (10 * d) * 1 + T * redD (n * sp l k) (10 * d)) (redD (n * sp l k) (10 * d) * 1)) := by
  rcases h with ⟨rfl, rfl, rfl, hr, hp, hG⟩ | ⟨rfl, rfl, h1, h2, hG⟩
  · have := astep hg hk hr
    have h2 := da_two (n := aN l t k) (e := aD l t k) (s := sp l k) (T := totK l k) (by omega)
    rw [h2.1, h2.2, hG, daGo_stop hk (by rw [aN_def, aD_def]; omega), aN_def, aD_def]
  · have h3 := da_zero (T := T) (s := sp l k)
    rw [h3.1, h3.2]; exact hG
/-- It goes on. -/
theorem daInv_on {l : List St} (hg : stGood l = true) {t : Int} {k : Nat} (hk : k < l.length) {n d T : Int} (h : daInv l t k n d T) (hs : ¬ n * sp l k < 10 * th l k * d) :
    daInv l t (k + 1) (redN (n * sp l k + -(10 * th l k) * d) (d * sp l k)) (redD (n * sp l k + -(10 * th l k) * d) (d * sp l k)) (T + th l k) := by
  have b2 := stGood_at hg hk
  rcases h with ⟨rfl, rfl, rfl, hr, hp, hG⟩ | ⟨rfl, rfl, h1, h2, hG⟩
  · have b4 := astep hg hk hr
    have b5 := totK_bd hg k (by omega)
    have h5 := stGood_len hg
    rw [Int.neg_mul, ← Int.sub_eq_add_neg]
    by_cases he : aN l t k * sp l k = 10 * th l k * aD l t k
    · refine .inr ⟨by rw [he, Int.sub_self, redN_zero], by rw [he, Int.sub_self, redD_zero (by omega)], by omega, by omega, ?_⟩
      have hw := da_whole (e := aD l t k) (T := totK l k) (p := th l k) (by omega)
      rw [hG, daGo_stop hk (by rw [aN_def, aD_def]; omega), aN_def, aD_def, he, hw.1, hw.2]
    · refine .inl ⟨(aN_succ l t k).symm, (aD_succ l t k).symm, rfl, daRun_succ hg hk hr (by rw [aN_def, aD_def]; omega), .inr (by rw [aN_succ]; exact redN_pos (by omega) (by omega)), hG.trans (daGo_on hk (by rw [aN_def, aD_def]; omega))⟩
  · exfalso; apply hs; omega
theorem daInv_end {l : List St} {t : Int} {n d T : Int} (hl : 0 < l.length) (h : daInv l t l.length n d T) : (n = 0 → daGo l t l.length 0 = some (T, 1)) ∧ (n ≠ 0 → daGo l t l.length 0 = none) ∧ 0 ≤ n := by
  rcases h with ⟨rfl, rfl, rfl, hr, hp, hG⟩ | ⟨rfl, rfl, h1, h2, hG⟩
  · have : 0 < aN l t l.length := by rcases hp with h | h; (exact absurd h (by omega)); exact h
    exact ⟨fun h => by omega, fun _ => hG.trans daGo_end, by omega⟩
  · exact ⟨fun _ => hG, fun h => absurd rfl h, by omega⟩

theorem iDepthAfter (A : Option Addr) (c : Nat) (l : List St) (t : Int) (w : World) (h : Sl 2 St.enc w A l) (hn : l.length ≤ 1048576) :
    Calls Try.prog 24 #[.slice A l.length c, .int .i64 t] w fun e w' => e = ret3 (daA l t) (daB l t) (daC l t) ∧ Below w.heap.size w w' := by
  by_cases g1 : stGood l = true
  · by_cases g2 : inB t 0 200 = true
    · have g : (stGood l && inB t 0 200) = true := by rw [g1, g2]; rfl
      have q2 := inB_true.1 g2
      have h5 := stGood_len g1
      have GG := Lib.hid g
      clear g
      go_enter Try.func24, Try.ntmps24
      go_wp2_with (fail)
      refine (i6Good _ _ l _ h hn).mono ?_; rintro e w1 ⟨rfl, b1⟩; rw [g1]
      go_wp2_with (go_at_call 53; refine (implIn _ _ _ _).mono ?_; rintro e w' ⟨rfl, rfl⟩)
      generalize hW : World.alloc w1 _ = W1
      obtain ⟨bW, kW, _⟩ := alloc_facts hW
      clear hW
      have hg0 : w.heap.size ≤ w1.heap.size := b1.size
      have bW1 := bth b1 bW
      generalize w1.heap.size = g at *
      go_loopw [8, 25] (fun T i wr => ∃ k : Nat, ∃ n d x : Int, k ≤ l.length ∧ i = .int .i64 k ∧ T = .int .i64 x ∧ Below w.heap.size w wr ∧ Hid (Bk wr g [.int .i64 n, .int .i64 d]) ∧ Hid (daInv l t k n d x)) (fun _ i _ => l.length - (intOf i).toNat)
      case atStart => exact ⟨0, t, 1, 0, Nat.zero_le _, rfl, rfl, bW1, kW, (.inl ⟨(aN_zero l t).symm, (aD_zero l t).symm, rfl, daRun_zero q2.1 q2.2, .inl rfl, rfl⟩ : daInv l t 0 t 1 0)⟩
      case round =>
        obtain ⟨k, n, d, x, hk, rfl, rfl, hb, HK, HI⟩ := hrel
        have kr := HK.out
        have e0 : wr.cell? ⟨g, 0, none⟩ = _ := kr.2.1 0 _ rfl
        have e1 : wr.cell? ⟨g, 1, none⟩ = _ := kr.2.1 1 _ rfl
        have hgl := kr.1
        by_cases hlt : k < l.length
        · obtain ⟨b, off, rfl⟩ := h.addr (by omega)
          obtain ⟨hbl, c0, c1⟩ := St.get (h.below hb) hlt
          rw [← th_of hlt] at c0
          rw [← sp_of hlt] at c1
          have b2 := stGood_at g1 hlt
          have b4 := daInv_bd g1 hlt HI.out
          go_wp2_with (fail)
          generalize hW : World.alloc wr _ = W3
          obtain ⟨bW3, kW3, _⟩ := alloc_facts hW
          clear hW
          have hsl : g < wr.heap.size := hgl
          have en : n * sp l k + -10 * th l k * d = n * sp l k + -(10 * th l k) * d := by rw [show -10 * th l k = -(10 * th l k) by omega]
          have en2 : -10 * th l k * d = -(10 * th l k * d) := by rw [show -10 * th l k = -(10 * th l k) by omega, Int.neg_mul]
          have EN := Lib.hid en
          clear en
          refine (iPlus _ _ _ _ _ (by omega) (by omega) (by omega) (by omega) (by omega) (by omega) (by omega) (by omega)).mono ?_
          rintro e w4 ⟨rfl, b5⟩
          have EN2 := Lib.hid en2
          clear en2
          have k4 := kr.below (bth bW3 b5)
          have kS := kW3.below b5
          have bb4 := bth hb (bth bW3 b5)
          have hsz4 : wr.heap.size < w4.heap.size := kS.1
          by_cases hs : n * sp l k < 10 * th l k * d
          · have rn : redN (n * sp l k + -10 * th l k * d) (d * sp l k) < 0 := by rw [redN_neg (by omega)]; have := EN2.out; omega
            have HX := da_some GG.out (daInv_stop g1 hlt HI.out hs)
            simp only [Int.mul_one] at HX
            have HX := Lib.hid HX
            have v0 := redN_nonneg (a := n * sp l k) (b := 10 * d) (by omega) (by omega)
            have v1 := redN_le (a := n * sp l k) (b := 10 * d) (by omega) (by omega)
            have v2 := redD_pos (a := n * sp l k) (b := 10 * d) (by omega)
            have v3 := redD_le (a := n * sp l k) (b := 10 * d) (by omega)
            have v4 := mul_bd (show 0 ≤ x by omega) (show x ≤ 25000 by omega) (show 0 ≤ redD (n * sp l k) (10 * d) by omega) (show redD (n * sp l k) (10 * d) ≤ 83521000000000 by omega)
            have u0 : w4.cell? ⟨g, 0, none⟩ = _ := k4.2.1 0 _ rfl
            have u1 : w4.cell? ⟨g, 1, none⟩ = _ := k4.2.1 1 _ rfl
            have y0 : w4.cell? ⟨wr.heap.size, 0, none⟩ = _ := kS.2.1 0 _ rfl
            have y1 : w4.cell? ⟨wr.heap.size, 1, none⟩ = _ := kS.2.1 1 _ rfl
            have hgw : g < w4.heap.size := k4.1
            go_wp2_with (fail)
            refine (iAsPart _ _ _ (by omega) (by omega) (by omega) (by omega)).mono ?_
            rintro e w5 ⟨rfl, b6⟩
            have b6' := bb4.alloc bb4.size (.cells #[.int .i64 (redN (n * sp l k + -10 * th l k * d) (d * sp l k)), .int .i64 (redD (n * sp l k + -10 * th l k * d) (d * sp l k))] 63)
            have bb5 := bth b6' b6
            clear b6'
            go_wp2_with (fail)
            refine (iPlus _ _ _ _ _ (by omega) (by omega) (by omega) (by omega) (by omega) (by omega) (by omega) (by omega)).mono ?_
            rintro e w6 ⟨rfl, b7⟩
            have bb6 := bth bb5 b7
            go_wp2
            go_quiet (fail)
            go_wp2
            go_ret3
            exact ⟨ret3_of HX.out.1 HX.out.2.1 HX.out.2.2, bdrew (bb6.alloc bb6.size _) _⟩
          · have rn : ¬ redN (n * sp l k + -10 * th l k * d) (d * sp l k) < 0 := by rw [redN_neg (by omega)]; have := EN2.out; omega
            have HN := Lib.hid (daInv_on g1 hlt HI.out hs)
            have u0 : w4.cell? ⟨g, 0, none⟩ = _ := k4.2.1 0 _ rfl
            have u1 : w4.cell? ⟨g, 1, none⟩ = _ := k4.2.1 1 _ rfl
            have y0 : w4.cell? ⟨wr.heap.size, 0, none⟩ = _ := kS.2.1 0 _ rfl
            have y1 : w4.cell? ⟨wr.heap.size, 1, none⟩ = _ := kS.2.1 1 _ rfl
            have f0 := k4.2.2 0
            have f1 := k4.2.2 1
            have hgw : g < w4.heap.size := k4.1
            have P1 := Lib.hid ((k4.put [.int .i64 (redN (n * sp l k + -10 * th l k * d) (d * sp l k)), .int .i64 (redD (n * sp l k + -10 * th l k * d) (d * sp l k))] rfl).below (below_alloc _ (.cells #[.int .i64 (redN (n * sp l k + -10 * th l k * d) (d * sp l k)), .int .i64 (redD (n * sp l k + -10 * th l k * d) (d * sp l k))] 63)))
            have P3 := bset bb4 hg0 [.int .i64 (redN (n * sp l k + -10 * th l k * d) (d * sp l k)), .int .i64 (redD (n * sp l k + -10 * th l k * d) (d * sp l k))] 0
            have P4 := P3.alloc P3.size (.cells #[.int .i64 (redN (n * sp l k + -10 * th l k * d) (d * sp l k)), .int .i64 (redD (n * sp l k + -10 * th l k * d) (d * sp l k))] 63)
            clear P3
            have HN2 : Hid (daInv l t (k + 1) (redN (n * sp l k + -10 * th l k * d) (d * sp l k)) (redD (n * sp l k + -10 * th l k * d) (d * sp l k)) (x + th l k)) := by
              rw [EN.out]; exact HN.out
            go_wp2_with (fail)
            exact ⟨⟨k + 1, _, _, _, by omega, by go_num, rfl, P4, P1.out, HN2⟩, by simp [intOf]; omega⟩
        · obtain rfl : k = l.length := by omega
          have hE := daInv_end (by omega) HI.out
          have hn0 := hE.2.2
          by_cases hz : n = 0
          · have HX := Lib.hid (da_some GG.out (hE.1 hz))
            have hz2 : ¬ 0 < n := by omega
            clear hE hz
            go_wp2
            go_ret3
            exact ⟨ret3_of HX.out.1 HX.out.2.1 HX.out.2.2, hb⟩
          · have HX := Lib.hid (da_none (l := l) (t := t) (.inr (hE.2.1 hz)))
            have hz2 : 0 < n := by omega
            clear hE hz
            go_wp2
            go_ret3
            exact ⟨ret3_of HX.out.1 HX.out.2.1 HX.out.2.2, hb⟩
    · have g2' : inB t 0 200 = false := by simpa using g2
      have HX := Lib.hid (da_none (l := l) (t := t) (.inl (by rw [g2', Bool.and_false])))
      go_enter Try.func24, Try.ntmps24
      go_wp2_with (fail)
      refine (i6Good _ _ l _ h hn).mono ?_; rintro e w1 ⟨rfl, b1⟩; rw [g1]
      go_wp2_with (go_at_call 53; refine (implIn _ _ _ _).mono ?_; rintro e w' ⟨rfl, rfl⟩)
      go_ret3
      exact ⟨ret3_of HX.out.1 HX.out.2.1 HX.out.2.2, b1⟩
  · have g1' : stGood l = false := by simpa using g1
    have HX := Lib.hid (da_none (l := l) (t := t) (.inl (by rw [g1', Bool.false_and])))
    go_enter Try.func24, Try.ntmps24
    go_wp2_with (fail)
    refine (i6Good _ _ l _ h hn).mono ?_; rintro e w1 ⟨rfl, b1⟩; rw [g1']
    go_wp2_with (fail)
    go_ret3
    exact ⟨ret3_of HX.out.1 HX.out.2.1 HX.out.2.2, b1⟩
end Go.Proofs.Ytljpmccnppplgaa
