/- The index of a sounding by its Id: the reference's and the program's function return the same. Lists of at most 1048576 soundings. -/
import Derived.Test.YtllionelhbjadaaDoorW8b
import Derived.Test.YtllionelhbjadaaDoorP8b
set_option linter.unusedVariables false
set_option linter.unusedSimpArgs false
namespace Go.Proofs.YtllionelhbjadaaDoor
open Go.RowKit
set_option maxHeartbeats 2000000
theorem s8Find (A : Option Addr) (c : Nat) (id : Int) (l : List Sd) (w : World) (h : Sl 5 Sd.enc w A l) (hn : l.length ≤ 1048576) :
    Calls Tryd.prog 52 #[.slice A l.length c, .int .i64 id] w fun e w' => e = .returned (.int .i64 (fnd (isId id) l)) ∧ w = w' := by
  go_enter Tryd.func52, Tryd.ntmps52
  go_wp2
  go_loop [5] (fun i => ∃ k : Nat, k ≤ l.length ∧ i = .int .i64 k ∧ Hid (∀ m (hm : m < l.length), m < k → isId id l[m] = false)) (fun i => l.length - (intOf i).toNat)
  case atStart => exact ⟨0, Nat.zero_le _, rfl, (fun m _ hm => absurd hm (by omega) : ∀ m (hm : m < l.length), m < 0 → isId id l[m] = false)⟩
  case round =>
    obtain ⟨k, hk, rfl, H⟩ := hrel
    by_cases hlt : k < l.length
    · obtain ⟨b, off, rfl⟩ := h.addr (by omega)
      obtain ⟨hbl, c0, c1, c2, c3, c4⟩ := Sd.get h hlt
      by_cases hid : l[k].id = id
      · have HF := Lib.hid (fnd_hit hlt (fun m hm => H.out m (by omega) hm) (show isId id l[k] = true by simp [isId, hid]))
        go_wp2
        go_ret
        exact ⟨ret_int HF.out.symm, rfl⟩
      · go_wp2
        go_round
        case rel => exact ⟨k + 1, by omega, by go_num, (fun m hm hm2 => by
          by_cases e : m = k
          · subst e; simp [isId, hid]
          · exact H.out m hm (by omega) : ∀ m (hm : m < l.length), m < k + 1 → isId id l[m] = false)⟩
        case measure => simp [intOf]; omega
    · obtain rfl : k = l.length := by omega
      go_wp2
      go_ret
      exact ⟨ret_int (fnd_end (fun m hm => H.out m hm hm)).symm, rfl⟩
theorem idClos (x : Sd) (id : Int) (g : Nat) (w : World) (hg : g < w.heap.size) (hc : w.cell? ⟨g, 0, none⟩ = some (.int .i64 id)) :
    Calls Tryd.prog 63 #[.agg #[.int .i64 x.id, .int .i64 x.x, .int .i64 x.y, .int .i64 x.depth, .int .i64 x.doubt], .pointer (some ⟨g, 0, none⟩)] w fun e w' => e = .returned (.bool (isId id x)) ∧ Below w.heap.size w w' := by
  go_enter Tryd.func63, Tryd.ntmps63
  go_wp2
  go_ret
  exact ⟨ret_bool (by simp [isId]), by go_grown⟩
theorem i8Index (A : Option Addr) (c : Nat) (id : Int) (l : List Sd) (g : Nat) (w : World) (h : Sl 5 Sd.enc w A l) (hn : l.length ≤ 1048576) (hg : g < w.heap.size) (hc : w.cell? ⟨g, 0, none⟩ = some (.int .i64 id)) :
    Calls Tryd.prog 62 #[.slice A l.length c, .func (.func 63) #[] #[.pointer (some ⟨g, 0, none⟩)]] w fun e w' => e = .returned (.int .i64 (fnd (isId id) l)) ∧ Below w.heap.size w w' := by
  have HC := Lib.hid hc
  clear hc
  go_enter Tryd.func62, Tryd.ntmps62
  go_wp2
  go_loopw [8] (fun i wr => ∃ k : Nat, k ≤ l.length ∧ i = .int .i64 k ∧ Below w.heap.size w wr ∧ Hid (∀ m (hm : m < l.length), m < k → isId id l[m] = false)) (fun i _ => l.length - (intOf i).toNat)
  case atStart => exact ⟨0, Nat.zero_le _, rfl, Below.refl _ _, (fun m _ hm => absurd hm (by omega) : ∀ m (hm : m < l.length), m < 0 → isId id l[m] = false)⟩
  case round =>
    obtain ⟨k, hk, rfl, hb, H⟩ := hrel
    by_cases hlt : k < l.length
    · obtain ⟨b, off, rfl⟩ := h.addr (by omega)
      obtain ⟨hbl, c0, c1, c2, c3, c4⟩ := Sd.get (h.below hb) hlt
      go_wp2_with (fail)
      refine (idClos l[k] id g _ (Nat.lt_of_lt_of_le hg hb.size) ((hb.cell (p := ⟨g, 0, none⟩) hg).trans HC.out)).mono ?_; rintro e w1 ⟨rfl, b1⟩
      cases hid : isId id l[k] with
      | true =>
        have HF := Lib.hid (fnd_hit hlt (fun m hm => H.out m (by omega) hm) hid)
        clear hid
        go_wp2
        go_ret
        exact ⟨ret_int HF.out.symm, bth hb b1⟩
      | false =>
        have HF := Lib.hid hid
        clear hid
        go_wp2
        go_roundw
        case rel => exact ⟨k + 1, by omega, by go_num, bth hb b1, (fun m hm hm2 => by
          by_cases e : m = k
          · subst e; exact HF.out
          · exact H.out m hm (by omega) : ∀ m (hm : m < l.length), m < k + 1 → isId id l[m] = false)⟩
        case measure => simp [intOf]; omega
    · obtain rfl : k = l.length := by omega
      go_wp2
      go_ret
      exact ⟨ret_int (fnd_end (fun m hm => H.out m hm hm)).symm, hb⟩
theorem i8Find (A : Option Addr) (c : Nat) (id : Int) (l : List Sd) (w : World) (h : Sl 5 Sd.enc w A l) (hn : l.length ≤ 1048576) :
    Calls Tryd.prog 49 #[.slice A l.length c, .int .i64 id] w fun e w' => e = .returned (.int .i64 (fnd (isId id) l)) ∧ Below w.heap.size w w' := by
  go_enter Tryd.func49, Tryd.ntmps49
  go_wp2_with (fail)
  generalize hW : World.alloc w _ = W1
  obtain ⟨bW, kW, _⟩ := alloc_facts hW
  clear hW
  refine (i8Index _ _ id l _ _ (h.below bW) hn kW.1 (kW.2.1 0 _ rfl)).mono ?_; rintro e w1 ⟨rfl, b1⟩
  go_wp2_with (fail)
  go_ret
  exact ⟨rfl, bth bW b1⟩
end Go.Proofs.YtllionelhbjadaaDoor
