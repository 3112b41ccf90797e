/- The draws of the law on support: some soundings, a spot or a box, some numbers. -/
import Derived.Test.YthnoknmijelcmaaDr7
import Derived.Test.YthnoknmijelcmaaW2
set_option linter.unusedVariables false
set_option linter.unusedSimpArgs false
namespace Go.Proofs.Ythnoknmijelcmaa
open Go.RowKit
set_option maxHeartbeats 4000000
set_option maxRecDepth 100000
theorem drSupp (X : Option Addr) (x : Nat) (k : List UInt8) (w : World) (h : Sl 1 encU w X k) (hn : k.length ≤ 1048576) :
    Calls Try.prog 37 #[.slice X k.length x] w fun e w' => ∃ (l : List Sd) (A : Option Addr) (c : Nat) (sx sy z : Int), e = .returned (.tuple #[.slice A l.length c, .agg #[.int .i64 sx, .int .i64 sy], .int .i64 z]) ∧ LsO 5 Sd.enc 14 w w' A l c := by
  go_enter Try.func37, Try.ntmps37
  go_upto_region 1 with (fail)
  generalize hr : w.heap.size = r
  generalize hW : World.alloc w _ = W1
  have I1 : IB W1 r 2 := by rw [← hW, ← hr]; exact IB.new _ _ (by decide) (by simp [isI])
  have b1 : Below r w W1 := by rw [← hW, ← hr]; exact below_alloc _ _
  have h1 : Sl 1 encU W1 X k := by rw [← hW]; exact h.below (below_alloc _ _)
  clear hW
  go_wp2_with (fail)
  have D0 := Dr.new (c := x) 83 h1 hn
  have hrp : r < W1.heap.size := I1.1
  generalize hp : W1.heap.size = p at *
  generalize hW : World.alloc W1 _ = W0 at *
  clear hW
  refine (dSoundings D0 (Below.refl _ _) (by omega)).mono ?_; rintro e w1 ⟨l, A, c', rfl, s1, -, hl, hc, hA, D1, l1⟩
  have hA' : ∀ a, A = some a → p < a.block := fun a ha => Nat.lt_of_lt_of_le D0.lt (hA a ha)
  clear D0 l1 hA
  go_wp2_with (fail)
  refine (dSpot D1 (Below.refl _ _) (by omega)).mono ?_; rintro e w2 ⟨sx, sy, rfl, D2, l2⟩
  have s2 := s1.lb l2 (fun _ a ha => Nat.ne_of_gt (hA' a ha))
  go_wp2_with (fail)
  refine (dAmongN D2 (Below.refl _ _) (by omega) rfl (by decide) (by decide) (by simp) (by simp [isI])).mono ?_; rintro e w3 ⟨z, rfl, -, Dz, lz⟩
  have sz := (s2.below (below_alloc _ _)).lb lz (fun _ a ha => Nat.ne_of_gt (hA' a ha))
  have I3 := I1.below (hp ▸ Dz.done)
  obtain ⟨v0, m0⟩ := I3.2.1 0 (by omega)
  obtain ⟨v1, m1⟩ := I3.2.1 1 (by omega)
  have f0 := I3.2.2 0
  have f1 := I3.2.2 1
  have hz := I3.1
  go_wp2_with (fail)
  have I9 := I3.put [.int .i64 sx, .int .i64 sy] 0 (by simp) (by simp [isI])
  have s9 := sz.far (g := r) (fun a ha => by have := hA' a ha; omega) [.int .i64 sx, .int .i64 sy] 0
  have b9 := bset (b1.trans (Dz.done.mono (by omega))) (Nat.le_refl r) [.int .i64 sx, .int .i64 sy] 0
  simp only [World.setCells, Nat.zero_add, Nat.reduceAdd] at I9 s9 b9
  obtain ⟨x', e0⟩ := I9.2.1 0 (by omega)
  obtain ⟨y', e1⟩ := I9.2.1 1 (by omega)
  exact bodyPost_ret (v := .tuple #[.slice A l.length c', .agg #[.int .i64 x', .int .i64 y'], .int .i64 z]) (by simp [results, Try.results37, go_sem, e0, e1]) rfl ⟨l, A, c', x', y', z, rfl, s9, hl, hc, hr ▸ b9⟩
theorem drShoal (X : Option Addr) (x : Nat) (k : List UInt8) (w : World) (h : Sl 1 encU w X k) (hn : k.length ≤ 1048576) :
    Calls Try.prog 39 #[.slice X k.length x] w fun e w' => ∃ (l : List Sd) (A : Option Addr) (c : Nat) (b : Bx), e = .returned (.tuple #[.slice A l.length c, .agg #[.int .i64 b.west, .int .i64 b.south, .int .i64 b.east, .int .i64 b.north]]) ∧ LsO 5 Sd.enc 14 w w' A l c := by
  go_enter Try.func39, Try.ntmps39
  go_upto_region 1 with (fail)
  generalize hr : w.heap.size = r
  generalize hW : World.alloc w _ = W1
  have I1 : IB W1 r 4 := by rw [← hW, ← hr]; exact IB.new _ _ (by decide) (by simp [isI])
  have b1 : Below r w W1 := by rw [← hW, ← hr]; exact below_alloc _ _
  have h1 : Sl 1 encU W1 X k := by rw [← hW]; exact h.below (below_alloc _ _)
  clear hW
  go_wp2_with (fail)
  have D0 := Dr.new (c := x) 83 h1 hn
  have hrp : r < W1.heap.size := I1.1
  generalize hp : W1.heap.size = p at *
  generalize hW : World.alloc W1 _ = W0 at *
  clear hW
  refine (dSoundings D0 (Below.refl _ _) (by omega)).mono ?_; rintro e w1 ⟨l, A, c', rfl, s1, -, hl, hc, hA, D1, l1⟩
  have hA' : ∀ a, A = some a → p < a.block := fun a ha => Nat.lt_of_lt_of_le D0.lt (hA a ha)
  clear D0 l1 hA
  go_wp2_with (fail)
  refine (dBox D1 (Below.refl _ _) (by omega)).mono ?_; rintro e w2 ⟨a0, a1, a2, a3, rfl, Dz, l2⟩
  have sz := s1.lb l2 (fun _ a ha => Nat.ne_of_gt (hA' a ha))
  have I3 := I1.below (hp ▸ Dz.done)
  obtain ⟨v0, m0⟩ := I3.2.1 0 (by omega)
  obtain ⟨v1, m1⟩ := I3.2.1 1 (by omega)
  obtain ⟨v2, m2⟩ := I3.2.1 2 (by omega)
  obtain ⟨v3, m3⟩ := I3.2.1 3 (by omega)
  have f0 := I3.2.2 0
  have f1 := I3.2.2 1
  have f2 := I3.2.2 2
  have f3 := I3.2.2 3
  have hz := I3.1
  go_wp2_with (fail)
  have I9 := I3.put [.int .i64 a0, .int .i64 a1, .int .i64 a2, .int .i64 a3] 0 (by simp) (by simp [isI])
  have s9 := sz.far (g := r) (fun a ha => by have := hA' a ha; omega) [.int .i64 a0, .int .i64 a1, .int .i64 a2, .int .i64 a3] 0
  have b9 := bset (b1.trans (Dz.done.mono (by omega))) (Nat.le_refl r) [.int .i64 a0, .int .i64 a1, .int .i64 a2, .int .i64 a3] 0
  simp only [World.setCells, Nat.zero_add, Nat.reduceAdd] at I9 s9 b9
  obtain ⟨y0, e0⟩ := I9.2.1 0 (by omega)
  obtain ⟨y1, e1⟩ := I9.2.1 1 (by omega)
  obtain ⟨y2, e2⟩ := I9.2.1 2 (by omega)
  obtain ⟨y3, e3⟩ := I9.2.1 3 (by omega)
  exact bodyPost_ret (v := .tuple #[.slice A l.length c', .agg #[.int .i64 y0, .int .i64 y1, .int .i64 y2, .int .i64 y3]]) (by simp [results, Try.results39, go_sem, e0, e1, e2, e3]) rfl ⟨l, A, c', ⟨y0, y1, y2, y3⟩, rfl, s9, hl, hc, hr ▸ b9⟩
theorem drAre8 (X : Option Addr) (x : Nat) (k : List UInt8) (w : World) (h : Sl 1 encU w X k) (hn : k.length ≤ 1048576) :
    Calls Try.prog 75 #[.slice X k.length x] w fun e w' => ∃ (l : List Sd) (A : Option Addr) (c : Nat), e = .returned (.slice A l.length c) ∧ LsO 5 Sd.enc 14 w w' A l c := by
  go_enter Try.func75, Try.ntmps75
  go_wp2_with (fail)
  have D0 := Dr.new (c := x) 83 h hn
  generalize hp : w.heap.size = p at *
  generalize hW : World.alloc w _ = W0 at *
  clear hW
  refine (dSoundings D0 (Below.refl _ _) (by omega)).mono ?_; rintro e w1 ⟨l, A, c', rfl, s1, -, hl, hc, hA, D1, l1⟩
  have hA' : ∀ a, A = some a → p < a.block := fun a ha => Nat.lt_of_lt_of_le D0.lt (hA a ha)
  clear D0 l1 hA
  go_wp2_with (fail)
  go_ret
  exact ⟨l, A, c', rfl, s1, hl, hc, hp ▸ D1.done⟩
theorem drMean (X : Option Addr) (x : Nat) (k : List UInt8) (w : World) (h : Sl 1 encU w X k) (hn : k.length ≤ 1048576) :
    Calls Try.prog 40 #[.slice X k.length x] w fun e w' => ∃ (l : List Sd) (A : Option Addr) (c : Nat), e = .returned (.slice A l.length c) ∧ LsO 5 Sd.enc 14 w w' A l c := by
  go_enter Try.func40, Try.ntmps40
  go_wp2_with (fail)
  refine (drAre8 X x k w h hn).mono ?_; rintro e w1 ⟨l, A, c', rfl, hL⟩
  go_wp2_with (fail)
  go_ret
  exact ⟨l, A, c', rfl, hL⟩
theorem drLower (X : Option Addr) (x : Nat) (k : List UInt8) (w : World) (h : Sl 1 encU w X k) (hn : k.length ≤ 1048576) :
    Calls Try.prog 41 #[.slice X k.length x] w fun e w' => ∃ (l : List Sd) (A : Option Addr) (c : Nat) (z1 z2 : Int), e = .returned (.tuple #[.slice A l.length c, .int .i64 z1, .int .i64 z2]) ∧ LsO 5 Sd.enc 14 w w' A l c := by
  go_enter Try.func41, Try.ntmps41
  go_wp2_with (fail)
  have D0 := Dr.new (c := x) 83 h hn
  generalize hp : w.heap.size = p at *
  generalize hW : World.alloc w _ = W0 at *
  clear hW
  refine (dSoundings D0 (Below.refl _ _) (by omega)).mono ?_; rintro e w1 ⟨l, A, c', rfl, s1, -, hl, hc, hA, D1, l1⟩
  have hA' : ∀ a, A = some a → p < a.block := fun a ha => Nat.lt_of_lt_of_le D0.lt (hA a ha)
  clear D0 l1 hA
  go_wp2_with (fail)
  refine (dAmongN D1 (Below.refl _ _) (by omega) rfl (by decide) (by decide) (by simp) (by simp [isI])).mono ?_; rintro e w2 ⟨z1, rfl, -, Dz1, lz1⟩
  have sz1 := (s1.below (below_alloc _ _)).lb lz1 (fun _ a ha => Nat.ne_of_gt (hA' a ha))
  go_wp2_with (fail)
  refine (dAmongN Dz1 (Below.refl _ _) (by omega) rfl (by decide) (by decide) (by simp) (by simp [isI])).mono ?_; rintro e w3 ⟨z2, rfl, -, Dz2, lz2⟩
  have sz2 := (sz1.below (below_alloc _ _)).lb lz2 (fun _ a ha => Nat.ne_of_gt (hA' a ha))
  go_wp2_with (fail)
  go_ret3
  exact ⟨l, A, c', z1, z2, rfl, sz2, hl, hc, hp ▸ Dz2.done⟩
end Go.Proofs.Ythnoknmijelcmaa
