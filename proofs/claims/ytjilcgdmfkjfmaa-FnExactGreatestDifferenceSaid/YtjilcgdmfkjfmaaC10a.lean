import Derived.Test.YtjilcgdmfkjfmaaProg
import Derived.Test.YtjilcgdmfkjfmaaBase
namespace Go.Proofs.Ytjilcgdmfkjfmaa
open Go.RowKit
set_option maxHeartbeats 400000

structure Cr where
  (line cross main check : Int)
def Cr.enc (x : Cr) : List Value := [.int .i64 x.line, .int .i64 x.cross, .int .i64 x.main, .int .i64 x.check]

theorem Cr.get {w : World} {b off : Nat} {l : List Cr} (h : Sl 4 Cr.enc w (some ⟨b, off, none⟩) l) {k : Nat} (hk : k < l.length) :
    b < w.heap.size ∧ w.cell? ⟨b, off + k * 4, none⟩ = some (.int .i64 l[k].line) ∧ w.cell? ⟨b, off + k * 4 + 1, none⟩ = some (.int .i64 l[k].cross) ∧
      w.cell? ⟨b, off + k * 4 + 2, none⟩ = some (.int .i64 l[k].main) ∧ w.cell? ⟨b, off + k * 4 + 3, none⟩ = some (.int .i64 l[k].check) := by
  obtain ⟨hlt, hc⟩ := h.get hk
  exact ⟨hlt, hc 0 _ rfl, hc 1 _ rfl, hc 2 _ rfl, hc 3 _ rfl⟩

theorem specIn (n a b : Int) (w : World) :
    Calls Try.prog 20 #[.int .i64 n, .int .i64 a, .int .i64 b] w fun e w' => e = .returned (.bool (inB n a b)) ∧ w = w' := by
  by_cases h1 : a ≤ n <;> by_cases h2 : n ≤ b
  all_goals
    go_enter Try.func20, Try.ntmps20
    go_wp2
    go_ret
    exact ⟨ret_bool (by unfold inB; simp [*]), rfl⟩

theorem specDepth (n : Int) (w : World) :
    Calls Try.prog 21 #[.int .i64 n] w fun e w' => e = .returned (.bool (inB n (-1000) 20000)) ∧ w = w' := by
  go_enter Try.func21, Try.ntmps21
  go_wp2_with (go_at_call 20; refine (specIn _ _ _ _).mono ?_; rintro e w' ⟨rfl, rfl⟩)
  go_ret
  exact ⟨rfl, rfl⟩

def cellOk (x : Cr) : Bool := inB x.line 1 99 && inB x.cross 1 99 && inB x.main (-1000) 20000 && inB x.check (-1000) 20000
@[irreducible] def same (x y : Cr) : Bool := x.line == y.line && x.cross == y.cross
def okAt (l : List Cr) (i : Nat) : Bool := match l[i]? with | some x => cellOk x && (l.take i).all (fun y => !same y x) | none => true
@[irreducible] def crGood (l : List Cr) : Bool := (List.range l.length).all (okAt l) && decide ((l.length : Int) ≤ 10)
theorem crGood_bad {l : List Cr} {k : Nat} (hk : k < l.length) (h : cellOk l[k] = false) : crGood l = false := by
  unfold crGood; rw [Bool.and_eq_false_iff]; left
  rw [List.all_eq_false]; exact ⟨k, by simpa using hk, by simp [okAt, List.getElem?_eq_getElem hk, h]⟩
theorem crGood_twice {l : List Cr} {k m : Nat} (hk : k < l.length) (hm : m < k) (h : same (l[m]'(by omega)) l[k] = true) : crGood l = false := by
  unfold crGood; rw [Bool.and_eq_false_iff]; left
  rw [List.all_eq_false]; refine ⟨k, by simpa using hk, ?_⟩
  simp only [okAt, List.getElem?_eq_getElem hk, Bool.not_eq_true, Bool.and_eq_false_iff]
  right
  rw [List.all_eq_false]; exact ⟨l[m]'(by omega), List.mem_take_iff_getElem.2 ⟨m, by omega, rfl⟩, by simp [h]⟩
theorem okAt_of {l : List Cr} {k : Nat} (hk : k < l.length) (h : cellOk l[k] = true) (hs : ∀ y ∈ l.take k, same y l[k] = false) : okAt l k = true := by
  simp only [okAt, List.getElem?_eq_getElem hk, h, Bool.true_and, List.all_eq_true]
  intro y hy
  simp [hs y hy]
theorem step_ok {p : Nat → Bool} {k : Nat} (h : ∀ m, m < k → p m = true) (hk : p k = true) : ∀ m, m < k + 1 → p m = true := fun m hm => by
  by_cases e : m = k
  · subst e; exact hk
  · exact h m (by omega)
theorem step_take {α : Type} {l : List α} {m : Nat} {p : α → Prop} (hm : m < l.length) (h : ∀ y ∈ l.take m, p y) (hs : p l[m]) : ∀ y ∈ l.take (m + 1), p y := fun y hy => by
  rw [List.take_succ_eq_append_getElem hm] at hy
  rcases List.mem_append.1 hy with e | e
  · exact h y e
  · obtain rfl := List.mem_singleton.1 e; exact hs
theorem crGood_end {l : List Cr} (h : ∀ k, k < l.length → okAt l k = true) : crGood l = decide ((l.length : Int) ≤ 10) := by
  unfold crGood
  rw [show (List.range l.length).all (okAt l) = true by simpa using h, Bool.true_and]

theorem not_false_eq {b : Bool} (h : (!b) = false) : b = true := by simpa using h
set_option maxHeartbeats 1000000 in
theorem good (A : Option Addr) (c : Nat) (l : List Cr) (w : World) (h : Sl 4 Cr.enc w A l) (hn : l.length ≤ 1048576) :
    Calls Try.prog 12 #[.slice A l.length c] w fun e w' => e = .returned (.bool (crGood l)) ∧ Below w.heap.size w w' := by
  go_enter Try.func12, Try.ntmps12
  go_wp2
  go_loopw [3] (fun i wr => ∃ k : Nat, k ≤ l.length ∧ i = .int .i64 k ∧ Below w.heap.size w wr ∧ Hid (∀ m, m < k → okAt l m = true)) (fun i _ => l.length - (intOf i).toNat)
  case atStart => exact ⟨0, Nat.zero_le _, rfl, Below.refl _ _, (fun m hm => absurd hm (by omega) : ∀ m, m < 0 → okAt l m = true)⟩
  case round =>
    obtain ⟨k, hk, rfl, hb, H⟩ := hrel
    by_cases hlt : k < l.length
    · obtain ⟨b, off, rfl⟩ := h.addr (by omega)
      obtain ⟨hbl, c0, c1, c2, c3⟩ := Cr.get (h.below hb) hlt
      by_cases hok : cellOk l[k] = true
      · obtain ⟨⟨⟨i1, i2⟩, i3⟩, i4⟩ : ((inB l[k].line 1 99 = true ∧ inB l[k].cross 1 99 = true) ∧ inB l[k].main (-1000) 20000 = true) ∧ inB l[k].check (-1000) 20000 = true := by simpa [cellOk] using hok
        go_wp2_with (first | (go_at_call 20; refine (specIn _ _ _ _).mono ?_; rintro e w' ⟨rfl, rfl⟩) | (go_at_call 21; refine (specDepth _ _).mono ?_; rintro e w' ⟨rfl, rfl⟩))
        generalize hW : World.alloc wr _ = W1
        obtain ⟨hbW, hx, hsW⟩ := alloc_facts hW
        have HW := Lib.hid hW
        clear hW
        go_loopw [5] (fun j wr => ∃ m : Nat, m ≤ k ∧ j = .int .i64 m ∧ Below W1.heap.size W1 wr ∧ Hid (∀ y ∈ l.take m, same y l[k] = false)) (fun j _ => k - (intOf j).toNat)
        case atStart => exact ⟨0, Nat.zero_le _, rfl, Below.refl _ _, (fun y hy => by simp at hy : ∀ y ∈ l.take 0, same y l[k] = false)⟩
        case round =>
          obtain ⟨m, hm, rfl, hb2, H2⟩ := hrel
          by_cases hlt2 : m < k
          · obtain ⟨hbl', d0, d1, d2, d3⟩ := Cr.get (h.below (bth (bth hb hbW) hb2)) (show m < l.length by omega)
            have e0 : wr.cell? ⟨_, 0, none⟩ = _ := (hx.below hb2).2.1 0 _ rfl
            have e1 : wr.cell? ⟨_, 1, none⟩ = _ := (hx.below hb2).2.1 1 _ rfl
            by_cases q1 : (l[m].line == l[k].line) = true
            · by_cases q2 : (l[m].cross == l[k].cross) = true
              · go_wp2
                go_quiet (fail)
                go_wp2
                go_ret
                exact ⟨ret_bool (crGood_twice hlt hlt2 (by unfold same; simp only [q1, q2, Bool.and_self])).symm, bdrew (bth (bth hb hbW) hb2) _⟩
              · have q3 : (l[m].cross == l[k].cross) = false := by simpa using q2
                go_wp2
                go_quiet (fail)
                go_wp2
                go_roundw
                case rel => exact ⟨m + 1, by omega, by go_num, bdrew hb2 _, (step_take (by omega) H2.out (by unfold same; simp only [q3, Bool.and_false]) : _)⟩
                case measure => simp [intOf]; omega
            · have q3 : (l[m].line == l[k].line) = false := by simpa using q1
              go_wp2
              go_quiet (fail)
              go_wp2
              go_roundw
              case rel => exact ⟨m + 1, by omega, by go_num, bdrew hb2 _, (step_take (by omega) H2.out (by unfold same; simp only [q3, Bool.false_and]) : _)⟩
              case measure => simp [intOf]; omega
          · obtain rfl : m = k := by omega
            go_wp2
            go_roundw
            case rel => exact ⟨m + 1, by omega, by go_num, bth (bth hb hbW) hb2, (step_ok H.out (okAt_of hlt hok H2.out) : _)⟩
            case measure => simp [intOf]; omega
      · go_wp2_with (first | (go_at_call 20; refine (specIn _ _ _ _).mono ?_; rintro e w' ⟨rfl, rfl⟩) | (go_at_call 21; refine (specDepth _ _).mono ?_; rintro e w' ⟨rfl, rfl⟩))
        all_goals first | (go_ret; exact ⟨ret_bool (crGood_bad hlt (by simpa using hok)).symm, hb.alloc hb.size _⟩) | (exfalso; apply hok; simp only [cellOk, Bool.and_eq_true]; exact ⟨⟨⟨‹_›, ‹_›⟩, ‹_›⟩, not_false_eq ‹_›⟩)
    · go_wp2
      go_ret
      exact ⟨ret_bool (crGood_end (fun m hm => H.out m (by omega))).symm, hb⟩
end Go.Proofs.Ytjilcgdmfkjfmaa
