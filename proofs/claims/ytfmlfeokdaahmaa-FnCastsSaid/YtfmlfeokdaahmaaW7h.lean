/- Whether a list is one of valid casts: the program's function. At most 1048576 casts and layers. -/
import Derived.Test.YtfmlfeokdaahmaaW7g
import Derived.Test.YtfmlfeokdaahmaaFind
set_option linter.unusedVariables false
set_option linter.unusedSimpArgs false
namespace Go.Proofs.Ytfmlfeokdaahmaa
open Go.RowKit
set_option maxHeartbeats 2000000
set_option maxRecDepth 100000
def idC (id : Int) (x : Ct) : Bool := x.id == id
theorem Sl.take {α : Type} {K : Nat} {enc : α → List Value} {w : World} {A : Option Addr} {l : List α} (h : Sl K enc w A l) (k : Nat) : Sl K enc w A (l.take k) := fun hl => by
  obtain ⟨b, off, e, hlt, hc⟩ := h (by simp at hl; omega)
  exact ⟨b, off, e, hlt, fun i x hx => hc i x (by
    rw [List.getElem?_take] at hx
    split at hx
    · exact hx
    · cases hx)⟩
theorem idClosC (t : Ct) (A : Option Addr) (cp : Nat) (id : Int) (g : Nat) (w : World) (hg : g < w.heap.size) (hc : w.cell? ⟨g, 0, none⟩ = some (.int .i64 id)) :
    Calls Try.prog 74 #[.agg #[.int .i64 t.id, .int .i64 t.time, .int .i64 t.x, .int .i64 t.y, .slice A t.lay.length cp], .pointer (some ⟨g, 0, none⟩)] w fun e w' => e = .returned (.bool (idC id t)) ∧ Below w.heap.size w w' := by
  go_enter Try.func74, Try.ntmps74
  go_wp2
  go_ret
  exact ⟨ret_bool (by simp [idC]), by go_grown⟩
theorem i7Index (A : Option Addr) (c : Nat) (id : Int) (l : List Ch) (g : Nat) (w : World) (h : Sl 5 Ch.enc w A l) (hn : l.length ≤ 1048576) (hg : g < w.heap.size) (hc : w.cell? ⟨g, 0, none⟩ = some (.int .i64 id)) :
    Calls Try.prog 95 #[.slice A l.length c, .func (.func 74) #[] #[.pointer (some ⟨g, 0, none⟩)]] w fun e w' => e = .returned (.int .i64 (fnd (idC id) (dat l))) ∧ Below w.heap.size w w' := by
  have HC := Lib.hid hc
  have DL := Lib.hid (dat_len l)
  clear hc
  go_enter Try.func95, Try.ntmps95
  go_wp2
  go_loopw [8] (fun i wr => ∃ k : Nat, k ≤ l.length ∧ i = .int .i64 k ∧ Below w.heap.size w wr ∧ Hid (∀ m (hm : m < l.length), m < k → idC id l[m].t = false)) (fun i _ => l.length - (intOf i).toNat)
  case atStart => exact ⟨0, Nat.zero_le _, rfl, Below.refl _ _, (fun m _ hm => absurd hm (by omega) : ∀ m (hm : m < l.length), m < 0 → idC id l[m].t = false)⟩
  case round =>
    obtain ⟨k, hk, rfl, hb, H⟩ := hrel
    by_cases hlt : k < l.length
    · obtain ⟨b, off, rfl⟩ := h.addr (by omega)
      obtain ⟨hbl, c0, c1, c2, c3, c4⟩ := Ch.get (h.below hb) hlt
      go_wp2_with (fail)
      refine (idClosC l[k].t l[k].A l[k].cp id g _ (Nat.lt_of_lt_of_le hg hb.size) ((hb.cell (p := ⟨g, 0, none⟩) hg).trans HC.out)).mono ?_; rintro e w1 ⟨rfl, b1⟩
      cases hid : idC id l[k].t with
      | true =>
        have HF := Lib.hid (fnd_hit (p := idC id) (l := dat l) (k := k) (by rw [dat_len]; exact hlt) (fun m hm => by rw [dat_get (by omega)]; exact H.out m (by omega) hm) (by rw [dat_get hlt]; exact hid))
        clear hid
        go_wp2
        go_ret
        exact ⟨ret_int HF.out.symm, bth hb b1⟩
      | false =>
        have HF := Lib.hid hid
        clear hid
        go_wp2
        go_roundw
        case rel => exact ⟨k + 1, by omega, by go_num, bth hb b1, (fun m hm hm2 => by
          by_cases e : m = k
          · subst e; exact HF.out
          · exact H.out m hm (by omega) : ∀ m (hm : m < l.length), m < k + 1 → idC id l[m].t = false)⟩
        case measure => simp [intOf]; omega
    · obtain rfl : k = l.length := by omega
      go_wp2
      go_ret
      exact ⟨ret_int (fnd_end (fun m hm => by rw [dat_len] at hm; rw [dat_get hm]; exact H.out m hm hm)).symm, hb⟩
theorem i7Has (A : Option Addr) (c : Nat) (id : Int) (l : List Ch) (g : Nat) (w : World) (h : Sl 5 Ch.enc w A l) (hn : l.length ≤ 1048576) (hg : g < w.heap.size) (hc : w.cell? ⟨g, 0, none⟩ = some (.int .i64 id)) :
    Calls Try.prog 73 #[.slice A l.length c, .func (.func 74) #[] #[.pointer (some ⟨g, 0, none⟩)]] w fun e w' => e = .returned (.bool (decide (0 ≤ fnd (idC id) (dat l)))) ∧ Below w.heap.size w w' := by
  go_enter Try.func73, Try.ntmps73
  go_wp2_with (fail)
  refine (i7Index A c id l g _ h hn hg hc).mono ?_; rintro e w1 ⟨rfl, b1⟩
  go_wp2_with (fail)
  go_ret
  exact ⟨rfl, b1⟩
theorem has_take {hs : List Ch} {k : Nat} (hk : k < hs.length) : (0 ≤ fnd (idC hs[k].t.id) (dat (hs.take k)) ∧ ∃ m, m < k ∧ (cti (dat hs) m).id = (cti (dat hs) k).id) ∨ (¬ 0 ≤ fnd (idC hs[k].t.id) (dat (hs.take k)) ∧ ∀ m, m < k → (cti (dat hs) m).id ≠ (cti (dat hs) k).id) := by
  have hl : (dat (hs.take k)).length = k := by rw [dat_len, List.length_take]; omega
  have hget : ∀ m (hm : m < k), (dat (hs.take k))[m]'(by omega) = (hs[m]'(by omega)).t := fun m hm => by
    rw [dat_get (by rw [List.length_take]; omega)]; simp
  rcases fnd_cases (idC hs[k].t.id) (dat (hs.take k)) with e | ⟨m, hm, e, hp, _⟩
  · right
    refine ⟨by omega, fun m hm he => ?_⟩
    by_cases hx : ∃ n, ∃ hn : n < k, idC hs[k].t.id (hs[n]'(by omega)).t = true
    · exfalso
      obtain ⟨n, hn, hx⟩ := hx
      have : ∀ j, j ≤ k → (∀ i (hi : i < j) (hik : i < k), idC hs[k].t.id (hs[i]'(by omega)).t = false) ∨ 0 ≤ fnd (idC hs[k].t.id) (dat (hs.take k)) := by
        intro j
        induction j with
        | zero => intro _; left; intro i hi; omega
        | succ j ih =>
          intro hj
          rcases ih (by omega) with h1 | h1
          · cases hc : idC hs[k].t.id (hs[j]'(by omega)).t with
            | false =>
              left; intro i hi hik
              by_cases e2 : i = j
              · subst e2; exact hc
              · exact h1 i (by omega) hik
            | true =>
              right
              rw [fnd_hit (p := idC hs[k].t.id) (l := dat (hs.take k)) (k := j) (by omega) (fun i hi => by rw [hget i (by omega)]; exact h1 i hi (by omega)) (by rw [hget j (by omega)]; exact hc)]
              omega
          · exact .inr h1
      rcases this k (Nat.le_refl _) with h1 | h1
      · rw [h1 n hn hn] at hx; cases hx
      · omega
    · apply hx
      refine ⟨m, hm, ?_⟩
      rw [dti (by omega), dti hk] at he
      simp [idC, he]
  · left
    rw [hl] at hm
    refine ⟨by omega, m, hm, ?_⟩
    rw [hget m hm] at hp
    rw [dti (by omega), dti hk]
    simpa [idC] using hp
theorem i7Good (A : Option Addr) (c : Nat) (hs : List Ch) (w : World) (h : Sl 5 Ch.enc w A hs) (ok : OkS w hs) (hn : hs.length ≤ 1048576) (hl : ∀ k (hk : k < hs.length), hs[k].t.lay.length ≤ 1048576) (hc : hs.length ≤ c) :
    Calls Try.prog 33 #[.slice A hs.length c] w fun e w' => e = .returned (.bool (ctsGood (dat hs))) ∧ Below w.heap.size w w' := by
  have HL := Lib.hid hl
  have DL := Lib.hid (dat_len hs)
  clear hl
  go_enter Try.func33, Try.ntmps33
  go_wp2
  go_loopw [7] (fun i wr => ∃ k : Nat, k ≤ hs.length ∧ i = .int .i64 k ∧ Below w.heap.size w wr ∧ Hid (∀ m, m < k → ctsAt (dat hs) m = true)) (fun i _ => hs.length - (intOf i).toNat)
  case atStart => exact ⟨0, Nat.zero_le _, rfl, Below.refl _ _, (fun m hm => absurd hm (by omega) : ∀ m, m < 0 → ctsAt (dat hs) m = true)⟩
  case round =>
    obtain ⟨k, hk, rfl, hb, H⟩ := hrel
    by_cases hlt : k < hs.length
    · obtain ⟨b, off, rfl⟩ := h.addr (by omega)
      obtain ⟨hbl, c0, c1, c2, c3, c4⟩ := Ch.get (h.below hb) hlt
      have u1 : (0 : Int) ≤ (k : Int) := by omega
      have u2 : (k : Int) < (hs.length : Int) := by omega
      go_wp2_with (fail)
      generalize hW : World.alloc wr _ = W1
      obtain ⟨bW, kW, _⟩ := alloc_facts hW
      clear hW c0 c1 c2 c3 c4
      have hb := bth hb bW
      have hA := aft_cell (Nat.lt_of_lt_of_le hbl bW.size)
      have hB := aft_cell kW.1
      have m0 := kW.2.1 0 _ rfl
      have m1 := kW.2.1 1 _ rfl
      have m2 := kW.2.1 2 _ rfl
      have m3 := kW.2.1 3 _ rfl
      have m4 := kW.2.1 4 _ rfl
      have KW := Lib.hid kW
      have s1 := (ok.at hlt).below hb
      have TC := Lib.hid (show ∀ (x : Aft W1), Calls Try.prog 18 #[.agg #[.int .i64 hs[k].t.id, .int .i64 hs[k].t.time, .int .i64 hs[k].t.x, .int .i64 hs[k].t.y, .slice hs[k].A hs[k].t.lay.length hs[k].cp]] x.val fun e w' => e = .returned (.bool (ctOk hs[k].t)) ∧ Below x.val.heap.size x.val w' from
        fun x => i7One hs[k].t hs[k].A hs[k].cp x.val (s1.aft x) (HL.out k hlt))
      clear s1 kW bW
      cases hok : ctOk hs[k].t with
      | false =>
        have HB := Lib.hid (ctsGood_bad (l := dat hs) (by rw [dat_len]; exact hlt) (ctsAt_one (by rw [dti hlt]; exact hok)))
        have HO := Lib.hid hok
        clear hok
        refine wp_region_aft (by kernel_rfl) (by kernel_rfl) ?_
        repeat (go_big_quiet_step ((go_at_call 18; exact Aft.callsB _ (TC.out _) HO.out)))
        refine wpQuiet_nil ?_
        intro w9 b9
        go_wp2
        go_ret
        exact ⟨ret_bool HB.out.symm, bth hb b9⟩
      | true =>
        have HOK := Lib.hid (show ctOk (cti (dat hs) k) = true by rw [dti hlt]; exact hok)
        have HO := Lib.hid hok
        clear hok
        have htk : (hs.take k).length = k := by rw [List.length_take]; omega
        have HTK := Lib.hid htk
        clear htk
        by_cases hz : k = 0
        · subst hz
          have t9 : (0 : Int) ≤ (c : Int) := by omega
          refine wp_region_aft (by kernel_rfl) (by kernel_rfl) ?_
          repeat (go_big_quiet_step ((go_at_call 18; exact Aft.callsB _ (TC.out _) HO.out)))
          refine wpQuiet_nil ?_
          intro w9 b9
          clear m0 m1 m2 m3 m4 hA hB TC
          go_wp2_with (fail)
          refine (i7Has (some ⟨b, off, none⟩) _ hs[0].t.id [] _ _ Sl.nil (by simp) (KW.out.below b9).1 ((KW.out.below b9).2.1 0 _ rfl)).mono ?_; rintro e w5 ⟨rfl, b5⟩
          have HN := Lib.hid (ctsAt_yes HOK.out (fun m hm => absurd hm (by omega)) (fun m hm => absurd hm (by omega)))
          rw [show fnd (idC hs[0].t.id) (dat []) = -1 from fnd_end (fun m hm => absurd hm (by simp [dat]))]
          go_wp2
          go_roundw
          case rel => exact ⟨1, by omega, by go_num, bth (bth hb b9) b5, (step_ok H.out HN.out : _)⟩
          case measure => simp [intOf]; omega
        · obtain ⟨m, hm⟩ : ∃ m, k = m + 1 := ⟨k - 1, by omega⟩
          have hml : m < hs.length := by omega
          obtain ⟨_, _, d1, _, _, _⟩ := Ch.get (h.below hb) hml
          have t0 : 0 < k := by omega
          have t1 : (0 : Int) < (k : Int) := by omega
          have t2 : (0 : Int) ≤ (k : Int) - 1 := by omega
          have t3 : (k : Int) - 1 < (hs.length : Int) := by omega
          have t4 : ((k : Int) - 1).toNat = m := by omega
          have HM := Lib.hid hm
          clear hz hm
          by_cases ht : hs[m].t.time < hs[k].t.time
          · have ht' : decide (hs[k].t.time ≤ hs[m].t.time) = false := by simp; omega
            have HT := Lib.hid (show ∀ n, k = n + 1 → (cti (dat hs) n).time < (cti (dat hs) (n + 1)).time from fun n hn => by
              obtain rfl : n = m := by have := HM.out; omega
              rw [dti hml, ← hn, dti hlt]; exact ht)
            refine wp_region_aft (by kernel_rfl) (by kernel_rfl) ?_
            repeat (go_big_quiet_step ((go_at_call 18; exact Aft.callsB _ (TC.out _) HO.out)))
            refine wpQuiet_nil ?_
            intro w9 b9
            clear m0 m1 m2 m3 m4 d1 hA hB t1 t2 t3 t4 ht ht' TC
            have t5 : (k : Int) ≤ (c : Int) := by omega
            have TH := fun cc => i7Has (some ⟨b, off, none⟩) cc hs[k].t.id (hs.take k) wr.heap.size w9 ((h.below (bth hb b9)).take k) (by rw [HTK.out]; omega) (KW.out.below b9).1 ((KW.out.below b9).2.1 0 _ rfl)
            rw [HTK.out] at TH
            have TH := Lib.hid TH
            go_wp2_with (fail)
            refine (TH.out _).mono ?_; rintro e w5 ⟨rfl, b5⟩
            rcases has_take hlt with ⟨h1, m', hm', he⟩ | ⟨h1, h2⟩
            · have HB := Lib.hid (ctsGood_bad (l := dat hs) (by rw [dat_len]; exact hlt) (ctsAt_id hm' he))
              clear he
              rw [show decide (0 ≤ fnd (idC hs[k].t.id) (dat (hs.take k))) = true by simpa using h1]
              go_wp2
              go_ret
              exact ⟨ret_bool HB.out.symm, bth (bth hb b9) b5⟩
            · have HN := Lib.hid (ctsAt_yes HOK.out HT.out h2)
              clear h2
              rw [show decide (0 ≤ fnd (idC hs[k].t.id) (dat (hs.take k))) = false by simpa using h1]
              go_wp2
              go_roundw
              case rel => exact ⟨k + 1, by omega, by go_num, bth (bth hb b9) b5, (step_ok H.out HN.out : _)⟩
              case measure => simp [intOf]; omega
          · have ht' : hs[k].t.time ≤ hs[m].t.time := by omega
            have HB := Lib.hid (ctsGood_bad (l := dat hs) (k := k) (by rw [dat_len]; exact hlt) (by
              have e := HM.out
              subst e
              exact ctsAt_time (by rw [dti hml, dti hlt]; exact ht)))
            refine wp_region_aft (by kernel_rfl) (by kernel_rfl) ?_
            repeat (go_big_quiet_step ((go_at_call 18; exact Aft.callsB _ (TC.out _) HO.out)))
            refine wpQuiet_nil ?_
            intro w9 b9
            go_wp2
            go_ret
            exact ⟨ret_bool HB.out.symm, bth hb b9⟩
    · obtain rfl : k = hs.length := by omega
      go_wp2
      go_ret
      exact ⟨ret_bool (by rw [ctsGood_end (fun m hm => H.out m (by rw [DL.out] at hm; exact hm)), DL.out]), hb⟩
end Go.Proofs.Ytfmlfeokdaahmaa
