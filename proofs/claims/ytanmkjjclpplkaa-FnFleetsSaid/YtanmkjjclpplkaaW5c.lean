/- Whether a list is one of valid craft: the program's function; the index of a craft. At most 1048576 craft. -/
import Derived.Test.YtanmkjjclpplkaaW5b
import Derived.Test.YtanmkjjclpplkaaP5b
set_option linter.unusedVariables false
set_option linter.unusedSimpArgs false
namespace Go.Proofs.Ytanmkjjclpplkaa
open Go.RowKit
set_option maxHeartbeats 4000000
set_option maxRecDepth 100000
theorem eq_dec (a b : ByteArray) : (a.toList == b.toList) = decide (a = b) ∧ (a == b) = decide (a = b) := by
  by_cases h : a = b
  · subst h
    rw [beq_toListBytes]
    simp
  · obtain ⟨h1, h2⟩ := ne_list h
    rw [h1, h2]; simp [h]
def nmB (nm : ByteArray) (x : Cr) : Bool := decide (x.name = nm)
theorem Sl.take5 {w : World} {A : Option Addr} {l : List Cr} (h : Sl 7 Cr.enc w A l) (k : Nat) : Sl 7 Cr.enc w A (l.take k) := fun hl => by
  obtain ⟨b, off, e, hlt, hc⟩ := h (by simp at hl; omega)
  exact ⟨b, off, e, hlt, fun i x hx => hc i x (by
    rw [List.getElem?_take] at hx
    split at hx
    · exact hx
    · cases hx)⟩
theorem nmClos (x : Cr) (nm : ByteArray) (g : Nat) (w : World) (hg : g < w.heap.size) (hc : w.cell? ⟨g, 1, none⟩ = some (.string nm)) :
    Calls Try.prog 55 #[.agg #[.int .i64 x.id, .string x.name, .int .i64 x.draught, .int .i64 x.ahead, .int .i64 x.beside, .int .i64 x.speed, .int .i64 x.fuel], .pointer (some ⟨g, 0, none⟩)] w fun e w' => e = .returned (.bool (nmB nm x)) ∧ Below w.heap.size w w' := by
  go_enter Try.func55, Try.ntmps55
  go_wp2
  go_ret
  exact ⟨ret_bool (by unfold nmB; first | exact (eq_dec _ _).1 | exact (eq_dec _ _).2), by go_grown⟩
theorem idClosC (x : Cr) (id : Int) (g : Nat) (w : World) (hg : g < w.heap.size) (hc : w.cell? ⟨g, 0, none⟩ = some (.int .i64 id)) :
    Calls Try.prog 42 #[.agg #[.int .i64 x.id, .string x.name, .int .i64 x.draught, .int .i64 x.ahead, .int .i64 x.beside, .int .i64 x.speed, .int .i64 x.fuel], .pointer (some ⟨g, 0, none⟩)] w fun e w' => e = .returned (.bool (isC id x)) ∧ Below w.heap.size w w' := by
  go_enter Try.func42, Try.ntmps42
  go_wp2
  go_ret
  exact ⟨ret_bool (by simp [isC]), by go_grown⟩
theorem i5Index (A : Option Addr) (c : Nat) (q : ByteArray) (l : List Cr) (g : Nat) (w : World) (h : Sl 7 Cr.enc w A l) (hn : l.length ≤ 1048576) (hg : g < w.heap.size) (hc : w.cell? ⟨g, 1, none⟩ = some (.string q)) :
    Calls Try.prog 41 #[.slice A l.length c, .func (.func 55) #[] #[.pointer (some ⟨g, 0, none⟩)]] w fun e w' => e = .returned (.int .i64 (fnd (nmB q) l)) ∧ Below w.heap.size w w' := by
  have HC := Lib.hid hc
  clear hc
  go_enter Try.func41, Try.ntmps41
  go_wp2
  go_loopw [8] (fun i wr => ∃ k : Nat, k ≤ l.length ∧ i = .int .i64 k ∧ Below w.heap.size w wr ∧ Hid (∀ m (hm : m < l.length), m < k → nmB q l[m] = false)) (fun i _ => l.length - (intOf i).toNat)
  case atStart => exact ⟨0, Nat.zero_le _, rfl, Below.refl _ _, (fun m _ hm => absurd hm (by omega) : ∀ m (hm : m < l.length), m < 0 → nmB q l[m] = false)⟩
  case round =>
    obtain ⟨k, hk, rfl, hb, H⟩ := hrel
    by_cases hlt : k < l.length
    · obtain ⟨b, off, rfl⟩ := h.addr (by omega)
      obtain ⟨hbl, c0, c1, c2, c3, c4, c5, c6⟩ := Cr.get (h.below hb) hlt
      go_wp2_with (fail)
      refine (nmClos l[k] q g _ (Nat.lt_of_lt_of_le hg hb.size) ((hb.cell (p := ⟨g, 1, none⟩) hg).trans HC.out)).mono ?_; rintro e w1 ⟨rfl, b1⟩
      cases hid : nmB q l[k] with
      | true =>
        have HF := Lib.hid (fnd_hit hlt (fun m hm => H.out m (by omega) hm) hid)
        clear hid
        go_wp2
        go_ret
        exact ⟨ret_int HF.out.symm, bth hb b1⟩
      | false =>
        have HF := Lib.hid hid
        clear hid
        go_wp2
        go_roundw
        case rel => exact ⟨k + 1, by omega, by go_num, bth hb b1, (fun m hm hm2 => by
          by_cases e : m = k
          · subst e; exact HF.out
          · exact H.out m hm (by omega) : ∀ m (hm : m < l.length), m < k + 1 → nmB q l[m] = false)⟩
        case measure => simp [intOf]; omega
    · obtain rfl : k = l.length := by omega
      go_wp2
      go_ret
      exact ⟨ret_int (fnd_end (fun m hm => H.out m hm hm)).symm, hb⟩
theorem i5IndexU (A : Option Addr) (c : Nat) (q : Int) (l : List Cr) (g : Nat) (w : World) (h : Sl 7 Cr.enc w A l) (hn : l.length ≤ 1048576) (hg : g < w.heap.size) (hc : w.cell? ⟨g, 0, none⟩ = some (.int .i64 q)) :
    Calls Try.prog 41 #[.slice A l.length c, .func (.func 42) #[] #[.pointer (some ⟨g, 0, none⟩)]] w fun e w' => e = .returned (.int .i64 (fnd (isC q) l)) ∧ Below w.heap.size w w' := by
  have HC := Lib.hid hc
  clear hc
  go_enter Try.func41, Try.ntmps41
  go_wp2
  go_loopw [8] (fun i wr => ∃ k : Nat, k ≤ l.length ∧ i = .int .i64 k ∧ Below w.heap.size w wr ∧ Hid (∀ m (hm : m < l.length), m < k → isC q l[m] = false)) (fun i _ => l.length - (intOf i).toNat)
  case atStart => exact ⟨0, Nat.zero_le _, rfl, Below.refl _ _, (fun m _ hm => absurd hm (by omega) : ∀ m (hm : m < l.length), m < 0 → isC q l[m] = false)⟩
  case round =>
    obtain ⟨k, hk, rfl, hb, H⟩ := hrel
    by_cases hlt : k < l.length
    · obtain ⟨b, off, rfl⟩ := h.addr (by omega)
      obtain ⟨hbl, c0, c1, c2, c3, c4, c5, c6⟩ := Cr.get (h.below hb) hlt
      go_wp2_with (fail)
      refine (idClosC l[k] q g _ (Nat.lt_of_lt_of_le hg hb.size) ((hb.cell (p := ⟨g, 0, none⟩) hg).trans HC.out)).mono ?_; rintro e w1 ⟨rfl, b1⟩
      cases hid : isC q l[k] with
      | true =>
        have HF := Lib.hid (fnd_hit hlt (fun m hm => H.out m (by omega) hm) hid)
        clear hid
        go_wp2
        go_ret
        exact ⟨ret_int HF.out.symm, bth hb b1⟩
      | false =>
        have HF := Lib.hid hid
        clear hid
        go_wp2
        go_roundw
        case rel => exact ⟨k + 1, by omega, by go_num, bth hb b1, (fun m hm hm2 => by
          by_cases e : m = k
          · subst e; exact HF.out
          · exact H.out m hm (by omega) : ∀ m (hm : m < l.length), m < k + 1 → isC q l[m] = false)⟩
        case measure => simp [intOf]; omega
    · obtain rfl : k = l.length := by omega
      go_wp2
      go_ret
      exact ⟨ret_int (fnd_end (fun m hm => H.out m hm hm)).symm, hb⟩
theorem i5Has (A : Option Addr) (c : Nat) (q : ByteArray) (l : List Cr) (g : Nat) (w : World) (h : Sl 7 Cr.enc w A l) (hn : l.length ≤ 1048576) (hg : g < w.heap.size) (hc : w.cell? ⟨g, 1, none⟩ = some (.string q)) :
    Calls Try.prog 54 #[.slice A l.length c, .func (.func 55) #[] #[.pointer (some ⟨g, 0, none⟩)]] w fun e w' => e = .returned (.bool (decide (0 ≤ fnd (nmB q) l))) ∧ Below w.heap.size w w' := by
  go_enter Try.func54, Try.ntmps54
  go_wp2_with (fail)
  refine (i5Index A c q l g _ h hn hg hc).mono ?_; rintro e w1 ⟨rfl, b1⟩
  go_wp2_with (fail)
  go_ret
  exact ⟨rfl, b1⟩
theorem has_take {l : List Cr} {k : Nat} (hk : k < l.length) : (0 ≤ fnd (nmB l[k].name) (l.take k) ∧ ∃ m, m < k ∧ (cri l m).name = (cri l k).name) ∨ (¬ 0 ≤ fnd (nmB l[k].name) (l.take k) ∧ ∀ m, m < k → (cri l m).name ≠ (cri l k).name) := by
  have hl : (l.take k).length = k := by rw [List.length_take]; omega
  have hget : ∀ m (hm : m < k), (l.take k)[m]'(by omega) = l[m]'(by omega) := fun m hm => by simp
  rcases fnd_cases (nmB l[k].name) (l.take k) with e | ⟨m, hm, e, hp, _⟩
  · right
    refine ⟨by omega, fun m hm he => ?_⟩
    have key : ∀ j, j ≤ k → (∀ i (hi : i < j) (hik : i < k), nmB l[k].name (l[i]'(by omega)) = false) ∨ 0 ≤ fnd (nmB l[k].name) (l.take k) := by
      intro j
      induction j with
      | zero => intro _; left; intro i hi; omega
      | succ j ih =>
        intro hj
        rcases ih (by omega) with h1 | h1
        · cases hc : nmB l[k].name (l[j]'(by omega)) with
          | false =>
            left; intro i hi hik
            by_cases e2 : i = j
            · subst e2; exact hc
            · exact h1 i (by omega) hik
          | true =>
            right
            rw [fnd_hit (p := nmB l[k].name) (l := l.take k) (k := j) (by omega) (fun i hi => by rw [hget i (by omega)]; exact h1 i hi (by omega)) (by rw [hget j (by omega)]; exact hc)]
            omega
        · exact .inr h1
    rcases key k (Nat.le_refl _) with h1 | h1
    · have := h1 m hm hm
      rw [cri_of (show m < l.length by omega), cri_of hk] at he
      simp [nmB, he] at this
    · omega
  · left
    rw [hl] at hm
    refine ⟨by omega, m, hm, ?_⟩
    rw [hget m hm] at hp
    rw [cri_of (show m < l.length by omega), cri_of hk]
    simpa [nmB] using hp
theorem i5Good (A : Option Addr) (c : Nat) (l : List Cr) (w : World) (h : Sl 7 Cr.enc w A l) (hn : l.length ≤ 1048576) (hq : NmS l) (hc : l.length ≤ c) :
    Calls Try.prog 30 #[.slice A l.length c] w fun e w' => e = .returned (.bool (crsGood l)) ∧ Below w.heap.size w w' := by
  have HQ := Lib.hid hq
  clear hq
  go_enter Try.func30, Try.ntmps30
  go_wp2
  go_loopw [7] (fun i wr => ∃ k : Nat, k ≤ l.length ∧ i = .int .i64 k ∧ Below w.heap.size w wr ∧ Hid (∀ m, m < k → crsAt l m = true)) (fun i _ => l.length - (intOf i).toNat)
  case atStart => exact ⟨0, Nat.zero_le _, rfl, Below.refl _ _, (fun m hm => absurd hm (by omega) : ∀ m, m < 0 → crsAt l m = true)⟩
  case round =>
    obtain ⟨k, hk, rfl, hb, H⟩ := hrel
    by_cases hlt : k < l.length
    · obtain ⟨b, off, rfl⟩ := h.addr (by omega)
      obtain ⟨hbl, c0, c1, c2, c3, c4, c5, c6⟩ := Cr.get (h.below hb) hlt
      have u1 : (0 : Int) ≤ (k : Int) := by omega
      have u2 : (k : Int) < (l.length : Int) := by omega
      have ek := Lib.hid (cri_of hlt)
      go_wp2_with (fail)
      generalize hW : World.alloc wr _ = W1
      obtain ⟨bW, kW, _⟩ := alloc_facts hW
      clear hW c0 c1 c2 c3 c4 c5 c6
      have hb := bth hb bW
      have hA := aft_cell (Nat.lt_of_lt_of_le hbl bW.size)
      have hB := aft_cell kW.1
      have m0 := kW.2.1 0 _ rfl
      have m1 := kW.2.1 1 _ rfl
      have m2 := kW.2.1 2 _ rfl
      have m3 := kW.2.1 3 _ rfl
      have m4 := kW.2.1 4 _ rfl
      have m5 := kW.2.1 5 _ rfl
      have m6 := kW.2.1 6 _ rfl
      have KW := Lib.hid kW
      have TC := Lib.hid (show ∀ (x : Aft W1), Calls Try.prog 53 #[.agg #[.int .i64 l[k].id, .string l[k].name, .int .i64 l[k].draught, .int .i64 l[k].ahead, .int .i64 l[k].beside, .int .i64 l[k].speed, .int .i64 l[k].fuel]] x.val fun e w' => e = .returned (.bool (crOk l[k])) ∧ Below x.val.heap.size x.val w' from
        fun x => i5One l[k] x.val (HQ.out k hlt))
      clear kW bW
      cases hok : crOk l[k] with
      | false =>
        have HB := Lib.hid (crsGood_bad hlt (crsAt_one (by rw [ek.out]; exact hok)))
        have HO := Lib.hid hok
        clear hok
        refine wp_region_aft (by kernel_rfl) (by kernel_rfl) ?_
        repeat (go_big_quiet_step ((go_at_call 53; exact Aft.callsB _ (TC.out _) HO.out)))
        refine wpQuiet_nil ?_
        intro w9 b9
        go_wp2
        go_ret
        exact ⟨ret_bool HB.out.symm, bth hb b9⟩
      | true =>
        have HOK := Lib.hid (show crOk (cri l k) = true by rw [ek.out]; exact hok)
        have HO := Lib.hid hok
        clear hok
        have htk : (l.take k).length = k := by rw [List.length_take]; omega
        have HTK := Lib.hid htk
        clear htk
        by_cases hz : k = 0
        · subst hz
          have t9 : (0 : Int) ≤ (c : Int) := by omega
          refine wp_region_aft (by kernel_rfl) (by kernel_rfl) ?_
          repeat (go_big_quiet_step ((go_at_call 53; exact Aft.callsB _ (TC.out _) HO.out)))
          refine wpQuiet_nil ?_
          intro w9 b9
          clear m0 m1 m2 m3 m4 m5 m6 hA hB TC
          go_wp2_with (fail)
          refine (i5Has (some ⟨b, off, none⟩) _ l[0].name [] _ _ Sl.nil (by simp) (KW.out.below b9).1 ((KW.out.below b9).2.1 1 _ rfl)).mono ?_; rintro e w5 ⟨rfl, b5⟩
          have HN := Lib.hid (crsAt_yes HOK.out (fun m hm => absurd hm (by omega)) (fun m hm => absurd hm (by omega)))
          rw [show fnd (nmB l[0].name) [] = -1 from fnd_end (fun m hm => absurd hm (by simp))]
          go_wp2
          go_roundw
          case rel => exact ⟨1, by omega, by go_num, bth (bth hb b9) b5, (step_ok H.out HN.out : _)⟩
          case measure => simp [intOf]; omega
        · obtain ⟨m, hm⟩ : ∃ m, k = m + 1 := ⟨k - 1, by omega⟩
          have hml : m < l.length := by omega
          obtain ⟨_, d0, _, _, _, _, _, _⟩ := Cr.get (h.below hb) hml
          have em := Lib.hid (cri_of hml)
          have t0 : 0 < k := by omega
          have t1 : (0 : Int) < (k : Int) := by omega
          have t2 : (0 : Int) ≤ (k : Int) - 1 := by omega
          have t3 : (k : Int) - 1 < (l.length : Int) := by omega
          have t4 : ((k : Int) - 1).toNat = m := by omega
          have HM := Lib.hid hm
          clear hz hm
          by_cases ht : l[m].id < l[k].id
          · have ht' : decide (l[k].id ≤ l[m].id) = false := by simp; omega
            have HT := Lib.hid (show ∀ n, k = n + 1 → (cri l n).id < (cri l (n + 1)).id from fun n hn => by
              obtain rfl : n = m := by have := HM.out; omega
              rw [em.out, ← hn, ek.out]; exact ht)
            refine wp_region_aft (by kernel_rfl) (by kernel_rfl) ?_
            repeat (go_big_quiet_step ((go_at_call 53; exact Aft.callsB _ (TC.out _) HO.out)))
            refine wpQuiet_nil ?_
            intro w9 b9
            clear m0 m1 m2 m3 m4 m5 m6 d0 hA hB t1 t2 t3 t4 ht ht' TC
            have t5 : (k : Int) ≤ (c : Int) := by omega
            have TH := fun cc => i5Has (some ⟨b, off, none⟩) cc l[k].name (l.take k) wr.heap.size w9 ((h.below (bth hb b9)).take5 k) (by rw [HTK.out]; omega) (KW.out.below b9).1 ((KW.out.below b9).2.1 1 _ rfl)
            rw [HTK.out] at TH
            have TH := Lib.hid TH
            go_wp2_with (fail)
            refine (TH.out _).mono ?_; rintro e w5 ⟨rfl, b5⟩
            rcases has_take hlt with ⟨h1, m', hm', he⟩ | ⟨h1, h2⟩
            · have HB := Lib.hid (crsGood_bad (l := l) hlt (crsAt_nm hm' he))
              clear he
              rw [show decide (0 ≤ fnd (nmB l[k].name) (l.take k)) = true by simpa using h1]
              go_wp2
              go_ret
              exact ⟨ret_bool HB.out.symm, bth (bth hb b9) b5⟩
            · have HN := Lib.hid (crsAt_yes HOK.out HT.out h2)
              clear h2
              rw [show decide (0 ≤ fnd (nmB l[k].name) (l.take k)) = false by simpa using h1]
              go_wp2
              go_roundw
              case rel => exact ⟨k + 1, by omega, by go_num, bth (bth hb b9) b5, (step_ok H.out HN.out : _)⟩
              case measure => simp [intOf]; omega
          · have ht' : l[k].id ≤ l[m].id := by omega
            have HB := Lib.hid (crsGood_bad (l := l) (k := k) hlt (by
              have e := HM.out
              subst e
              exact crsAt_asc (by rw [em.out, ek.out]; exact ht)))
            refine wp_region_aft (by kernel_rfl) (by kernel_rfl) ?_
            repeat (go_big_quiet_step ((go_at_call 53; exact Aft.callsB _ (TC.out _) HO.out)))
            refine wpQuiet_nil ?_
            intro w9 b9
            go_wp2
            go_ret
            exact ⟨ret_bool HB.out.symm, bth hb b9⟩
    · obtain rfl : k = l.length := by omega
      go_wp2
      go_ret
      exact ⟨ret_bool (crsGood_end (fun m hm => H.out m hm)).symm, hb⟩
end Go.Proofs.Ytanmkjjclpplkaa
