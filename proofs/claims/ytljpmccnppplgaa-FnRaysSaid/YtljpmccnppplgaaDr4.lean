/- The draws of the laws on rays and times: some list of layers and some numbers. -/
import Derived.Test.YtljpmccnppplgaaDr3
set_option linter.unusedVariables false
set_option linter.unusedSimpArgs false
namespace Go.Proofs.Ytljpmccnppplgaa
open Go.RowKit
set_option maxHeartbeats 4000000
set_option maxRecDepth 100000
theorem dDepthIn {p B : Nat} {q : Cd} {m : Nat} {w0 w5 w : World} (h : Dr p B q m w0 w5) (hg : Below w5.heap.size w5 w) (hm : m ≤ 800000000) (A : Option Addr) (c : Nat) (l : List St) (hs : Sl 2 St.enc w A l) (hn : l.length ≤ 10) (hA : ∀ a, A = some a → p < a.block) :
    Calls Try.prog 73 #[.pointer (some ⟨p, 0, none⟩), .slice A l.length c] w (drI p B q (m + 10) w0 w (fun _ => True)) := by
  have h := h.grown hg
  have hp := h.lt
  clear hg
  cases g : tdB l with
  | false =>
    go_enter Try.func73, Try.ntmps73
    go_wp2_with (fail)
    refine (sTotal A c l w hs (by omega)).mono ?_; rintro e w1 ⟨rfl, b1⟩; rw [g]
    go_wp2_with (fail)
    refine (dAmongN h b1 (by omega) rfl (by decide) (by decide) (by decide) (by simp [isI])).mono ?_; rintro e w2 ⟨z1, rfl, -, D2, l2⟩
    go_wp2_with (fail)
    go_ret
    exact ⟨z1, rfl, trivial, D2.mono (by omega), (LB.of b1).next (below_alloc _ _) l2⟩
  | true =>
    have g1 : stGood l = true := by unfold tdB at g; exact g
    have h0 := stGood_len g1
    have tb : 1 ≤ tdA l ∧ tdA l ≤ 25000 := by unfold tdA; rw [if_pos g1]; exact tot_bd g1
    go_enter Try.func73, Try.ntmps73
    go_wp2_with (fail)
    refine (sTotal A c l w hs (by omega)).mono ?_; rintro e w1 ⟨rfl, b1⟩; rw [g]
    go_wp2_with (fail)
    refine (dOne h b1 (by omega) _ (by omega)).mono ?_; rintro e w2 ⟨o, rfl, D2, l2⟩
    have L2 := (LB.of (p := p) b1).trans (l2.mono b1.size)
    cases o with
    | true =>
      go_wp2_with (fail)
      refine (dAmongN D2 (Below.refl _ _) (by omega) rfl (by decide) (by decide) (by decide) (by simp [isI])).mono ?_; rintro e w3 ⟨z1, rfl, -, D3, l3⟩
      go_wp2_with (fail)
      go_ret
      exact ⟨z1, rfl, trivial, D3.mono (by omega), L2.next (below_alloc _ _) l3⟩
    | false =>
      obtain ⟨b, off, rfl⟩ := hs.addr (by omega)
      have hbp : b ≠ p := by have : p < b := hA _ rfl; omega
      obtain ⟨hbl, c0, c1⟩ := St.get (hs.lb L2 (fun _ a ha => by injection ha with ha; subst ha; exact hbp)) (show 0 < l.length by omega)
      rw [Nat.zero_mul, Nat.add_zero] at c0
      have i0 : (0 : Int) < (l.length : Int) := by omega
      go_wp2_with (fail)
      refine (dAmongN D2 (Below.refl _ _) (by omega) rfl (by decide) (by decide) (by simp) (by simp [isI])).mono ?_; rintro e w3 ⟨z1, rfl, -, D3, l3⟩
      go_wp2_with (fail)
      go_ret
      exact ⟨z1, rfl, trivial, D3.mono (by omega), L2.next (below_alloc _ _) l3⟩
theorem Dr.new {w : World} {A : Option Addr} {c : Nat} {l : List UInt8} (t : TypeId) (h : Sl 1 encU w A l) (hn : l.length ≤ 1048576) : Dr w.heap.size w.heap.size ⟨A, c, l⟩ 0 w (w.alloc (.cells #[.slice A l.length c, .int .i64 0, .int .u64 0] t)) :=
  ⟨⟨h.below (below_alloc _ _), fun h0 a ha => h.lt h0 a ha, hn, 0, 0, Nat.le_refl _, by omega, by omega, Bk.new w [.slice A l.length c, .int .i64 0, .int .u64 0] t⟩, LB.of (below_alloc _ _), Nat.le_refl _⟩
/-- What a drawn list is good for. -/
def LsO {α : Type} (K : Nat) (enc : α → List Value) (N : Nat) (w w' : World) (A : Option Addr) (l : List α) (c : Nat) : Prop := Sl K enc w' A l ∧ l.length ≤ N ∧ l.length ≤ c ∧ Below w.heap.size w w'
theorem drDown (X : Option Addr) (x : Nat) (k : List UInt8) (w : World) (h : Sl 1 encU w X k) (hn : k.length ≤ 1048576) :
    Calls Try.prog 47 #[.slice X k.length x] w fun e w' => ∃ (l : List St) (A : Option Addr) (c : Nat) (z : Int), e = .returned (.tuple #[.slice A l.length c, .int .i64 z]) ∧ LsO 2 St.enc 10 w w' A l c := by
  go_enter Try.func47, Try.ntmps47
  go_wp2_with (fail)
  have D0 := Dr.new (c := x) 74 h hn
  generalize hp : w.heap.size = p at *
  generalize hW : World.alloc w _ = W0 at *
  clear hW
  refine (dStrata D0 (Below.refl _ _) (by omega)).mono ?_; rintro e w1 ⟨l, A, c', rfl, s1, -, hl, hc, hA, D1, l1⟩
  have hA' : ∀ a, A = some a → p < a.block := fun a ha => Nat.lt_of_lt_of_le D0.lt (hA a ha)
  clear D0 l1 hA
  go_wp2_with (fail)
  refine (dDepthIn D1 (Below.refl _ _) (by omega) A c' l s1 hl hA').mono ?_; rintro e w2 ⟨z, rfl, -, Dz, lz⟩
  have sz := s1.lb lz (fun _ a ha => Nat.ne_of_gt (hA' a ha))
  go_wp2_with (fail)
  go_ret2
  exact ⟨l, A, c', z, rfl, sz, hl, hc, hp ▸ Dz.done⟩
theorem drSplit (X : Option Addr) (x : Nat) (k : List UInt8) (w : World) (h : Sl 1 encU w X k) (hn : k.length ≤ 1048576) :
    Calls Try.prog 44 #[.slice X k.length x] w fun e w' => ∃ (l : List St) (A : Option Addr) (c : Nat) (z : Int), e = .returned (.tuple #[.slice A l.length c, .int .i64 z]) ∧ LsO 2 St.enc 10 w w' A l c := by
  go_enter Try.func44, Try.ntmps44
  go_wp2_with (fail)
  refine (drDown X x k w h hn).mono ?_; rintro e w1 ⟨l, A, c', z, rfl, hL⟩
  go_wp2_with (fail)
  go_ret2
  exact ⟨l, A, c', z, rfl, hL⟩
theorem drAfter (X : Option Addr) (x : Nat) (k : List UInt8) (w : World) (h : Sl 1 encU w X k) (hn : k.length ≤ 1048576) :
    Calls Try.prog 48 #[.slice X k.length x] w fun e w' => ∃ (l : List St) (A : Option Addr) (c : Nat) (z : Int), e = .returned (.tuple #[.slice A l.length c, .int .i64 z]) ∧ LsO 2 St.enc 10 w w' A l c := by
  go_enter Try.func48, Try.ntmps48
  go_wp2_with (fail)
  have D0 := Dr.new (c := x) 74 h hn
  generalize hp : w.heap.size = p at *
  generalize hW : World.alloc w _ = W0 at *
  clear hW
  refine (dStrata D0 (Below.refl _ _) (by omega)).mono ?_; rintro e w1 ⟨l, A, c', rfl, s1, -, hl, hc, hA, D1, l1⟩
  have hA' : ∀ a, A = some a → p < a.block := fun a ha => Nat.lt_of_lt_of_le D0.lt (hA a ha)
  clear D0 l1 hA
  go_wp2_with (fail)
  refine (dAmongN D1 (Below.refl _ _) (by omega) rfl (by decide) (by decide) (by simp) (by simp [isI])).mono ?_; rintro e w2 ⟨z, rfl, -, Dz, lz⟩
  have sz := (s1.below (below_alloc _ _)).lb lz (fun _ a ha => Nat.ne_of_gt (hA' a ha))
  go_wp2_with (fail)
  go_ret2
  exact ⟨l, A, c', z, rfl, sz, hl, hc, hp ▸ Dz.done⟩
theorem drSlopeF (X : Option Addr) (x : Nat) (k : List UInt8) (w : World) (h : Sl 1 encU w X k) (hn : k.length ≤ 1048576) :
    Calls Try.prog 42 #[.slice X k.length x] w fun e w' => ∃ (l : List St) (A : Option Addr) (c : Nat) (z : Int), e = .returned (.tuple #[.slice A l.length c, .int .i64 z]) ∧ LsO 2 St.enc 10 w w' A l c := by
  go_enter Try.func42, Try.ntmps42
  go_wp2_with (fail)
  have D0 := Dr.new (c := x) 74 h hn
  generalize hp : w.heap.size = p at *
  generalize hW : World.alloc w _ = W0 at *
  clear hW
  refine (dStrata D0 (Below.refl _ _) (by omega)).mono ?_; rintro e w1 ⟨l, A, c', rfl, s1, -, hl, hc, hA, D1, l1⟩
  have hA' : ∀ a, A = some a → p < a.block := fun a ha => Nat.lt_of_lt_of_le D0.lt (hA a ha)
  clear D0 l1 hA
  go_wp2_with (fail)
  refine (dAmongN D1 (Below.refl _ _) (by omega) rfl (by decide) (by decide) (by simp) (by simp [isI])).mono ?_; rintro e w2 ⟨z, rfl, -, Dz, lz⟩
  have sz := (s1.below (below_alloc _ _)).lb lz (fun _ a ha => Nat.ne_of_gt (hA' a ha))
  go_wp2_with (fail)
  go_ret2
  exact ⟨l, A, c', z, rfl, sz, hl, hc, hp ▸ Dz.done⟩
theorem drAre6 (X : Option Addr) (x : Nat) (k : List UInt8) (w : World) (h : Sl 1 encU w X k) (hn : k.length ≤ 1048576) :
    Calls Try.prog 75 #[.slice X k.length x] w fun e w' => ∃ (l : List St) (A : Option Addr) (c : Nat), e = .returned (.slice A l.length c) ∧ LsO 2 St.enc 10 w w' A l c := by
  go_enter Try.func75, Try.ntmps75
  go_wp2_with (fail)
  have D0 := Dr.new (c := x) 74 h hn
  generalize hp : w.heap.size = p at *
  generalize hW : World.alloc w _ = W0 at *
  clear hW
  refine (dStrata D0 (Below.refl _ _) (by omega)).mono ?_; rintro e w1 ⟨l, A, c', rfl, s1, -, hl, hc, hA, D1, l1⟩
  have hA' : ∀ a, A = some a → p < a.block := fun a ha => Nat.lt_of_lt_of_le D0.lt (hA a ha)
  clear D0 l1 hA
  go_wp2_with (fail)
  go_ret
  exact ⟨l, A, c', rfl, s1, hl, hc, hp ▸ D1.done⟩
theorem drBend (X : Option Addr) (x : Nat) (k : List UInt8) (w : World) (h : Sl 1 encU w X k) (hn : k.length ≤ 1048576) :
    Calls Try.prog 49 #[.slice X k.length x] w fun e w' => ∃ (l : List St) (A : Option Addr) (c : Nat), e = .returned (.slice A l.length c) ∧ LsO 2 St.enc 10 w w' A l c := by
  go_enter Try.func49, Try.ntmps49
  go_wp2_with (fail)
  refine (drAre6 X x k w h hn).mono ?_; rintro e w1 ⟨l, A, c', rfl, hL⟩
  go_wp2_with (fail)
  go_ret
  exact ⟨l, A, c', rfl, hL⟩
theorem drTotal (X : Option Addr) (x : Nat) (k : List UInt8) (w : World) (h : Sl 1 encU w X k) (hn : k.length ≤ 1048576) :
    Calls Try.prog 46 #[.slice X k.length x] w fun e w' => ∃ (l : List St) (A : Option Addr) (c : Nat), e = .returned (.slice A l.length c) ∧ LsO 2 St.enc 10 w w' A l c := by
  go_enter Try.func46, Try.ntmps46
  go_wp2_with (fail)
  refine (drAre6 X x k w h hn).mono ?_; rintro e w1 ⟨l, A, c', rfl, hL⟩
  go_wp2_with (fail)
  go_ret
  exact ⟨l, A, c', rfl, hL⟩
theorem drRun (X : Option Addr) (x : Nat) (k : List UInt8) (w : World) (h : Sl 1 encU w X k) (hn : k.length ≤ 1048576) :
    Calls Try.prog 41 #[.slice X k.length x] w fun e w' => ∃ (l : List St) (A : Option Addr) (c : Nat) (z1 z2 z3 : Int), e = .returned (.tuple #[.slice A l.length c, .int .i64 z1, .int .i64 z2, .int .i64 z3]) ∧ LsO 2 St.enc 10 w w' A l c := by
  go_enter Try.func41, Try.ntmps41
  go_wp2_with (fail)
  have D0 := Dr.new (c := x) 74 h hn
  generalize hp : w.heap.size = p at *
  generalize hW : World.alloc w _ = W0 at *
  clear hW
  refine (dStrata D0 (Below.refl _ _) (by omega)).mono ?_; rintro e w1 ⟨l, A, c', rfl, s1, -, hl, hc, hA, D1, l1⟩
  have hA' : ∀ a, A = some a → p < a.block := fun a ha => Nat.lt_of_lt_of_le D0.lt (hA a ha)
  clear D0 l1 hA
  go_wp2_with (fail)
  refine (dAmongN D1 (Below.refl _ _) (by omega) rfl (by decide) (by decide) (by simp) (by simp [isI])).mono ?_; rintro e w2 ⟨z1, rfl, -, Dz1, lz1⟩
  have sz1 := (s1.below (below_alloc _ _)).lb lz1 (fun _ a ha => Nat.ne_of_gt (hA' a ha))
  go_wp2_with (fail)
  refine (dAmongN Dz1 (Below.refl _ _) (by omega) rfl (by decide) (by decide) (by simp) (by simp [isI])).mono ?_; rintro e w3 ⟨z2, rfl, -, Dz2, lz2⟩
  have sz2 := (sz1.below (below_alloc _ _)).lb lz2 (fun _ a ha => Nat.ne_of_gt (hA' a ha))
  go_wp2_with (fail)
  refine (dDepthIn Dz2 (Below.refl _ _) (by omega) A c' l sz2 hl hA').mono ?_; rintro e w4 ⟨z3, rfl, -, Dz3, lz3⟩
  have sz3 := sz2.lb lz3 (fun _ a ha => Nat.ne_of_gt (hA' a ha))
  go_wp2_with (fail)
  refine bodyPost_ret (v := .tuple #[.slice A l.length c', .int .i64 z1, .int .i64 z2, .int .i64 z3]) (by simp [results, Try.results41, go_sem]) rfl ?_
  exact ⟨l, A, c', z1, z2, z3, rfl, sz3, hl, hc, hp ▸ Dz3.done⟩
theorem drSlopeI (X : Option Addr) (x : Nat) (k : List UInt8) (w : World) (h : Sl 1 encU w X k) (hn : k.length ≤ 1048576) :
    Calls Try.prog 43 #[.slice X k.length x] w fun e w' => ∃ (l : List St) (A : Option Addr) (c : Nat) (z1 z2 z3 : Int), e = .returned (.tuple #[.slice A l.length c, .int .i64 z1, .int .i64 z2, .int .i64 z3]) ∧ LsO 2 St.enc 10 w w' A l c := by
  go_enter Try.func43, Try.ntmps43
  go_wp2_with (fail)
  have D0 := Dr.new (c := x) 74 h hn
  generalize hp : w.heap.size = p at *
  generalize hW : World.alloc w _ = W0 at *
  clear hW
  refine (dStrata D0 (Below.refl _ _) (by omega)).mono ?_; rintro e w1 ⟨l, A, c', rfl, s1, -, hl, hc, hA, D1, l1⟩
  have hA' : ∀ a, A = some a → p < a.block := fun a ha => Nat.lt_of_lt_of_le D0.lt (hA a ha)
  clear D0 l1 hA
  go_wp2_with (fail)
  refine (dPick D1 (Below.refl _ _) (by omega) _ (by omega)).mono ?_; rintro e w2 ⟨r1, rfl, hr1, D2, l2⟩
  have s2 := s1.lb l2 (fun _ a ha => Nat.ne_of_gt (hA' a ha))
  go_wp2_with (fail)
  refine (dPick D2 (Below.refl _ _) (by omega) _ (by omega)).mono ?_; rintro e w3 ⟨r2, rfl, hr2, D3, l3⟩
  have s3 := s2.lb l3 (fun _ a ha => Nat.ne_of_gt (hA' a ha))
  go_wp2_with (fail)
  refine (dAmongN D3 (Below.refl _ _) (by omega) rfl (by decide) (by decide) (by simp) (by simp [isI])).mono ?_; rintro e w4 ⟨z2, rfl, -, Dz2, lz2⟩
  have sz2 := (s3.below (below_alloc _ _)).lb lz2 (fun _ a ha => Nat.ne_of_gt (hA' a ha))
  go_wp2_with (fail)
  refine (dAmongN Dz2 (Below.refl _ _) (by omega) rfl (by decide) (by decide) (by simp) (by simp [isI])).mono ?_; rintro e w5 ⟨z3, rfl, -, Dz3, lz3⟩
  have sz3 := (sz2.below (below_alloc _ _)).lb lz3 (fun _ a ha => Nat.ne_of_gt (hA' a ha))
  go_wp2_with (fail)
  refine bodyPost_ret (v := .tuple #[.slice A l.length c', .int .i64 (r1 - r2 / 8), .int .i64 z2, .int .i64 z3]) (by simp [results, Try.results43, go_sem]) rfl ?_
  exact ⟨l, A, c', _, z2, z3, rfl, sz3, hl, hc, hp ▸ Dz3.done⟩
end Go.Proofs.Ytljpmccnppplgaa
