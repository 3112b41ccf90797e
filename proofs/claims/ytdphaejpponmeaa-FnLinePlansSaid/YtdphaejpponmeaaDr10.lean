/- The draws of the laws on coverage and on planned lines: some lines, a box, some numbers. -/
import Derived.Test.YtdphaejpponmeaaDr9
set_option linter.unusedVariables false
set_option linter.unusedSimpArgs false
namespace Go.Proofs.Ytdphaejpponmeaa
open Go.RowKit
set_option maxHeartbeats 4000000
set_option maxRecDepth 100000
theorem drCellsCov (X : Option Addr) (x : Nat) (k : List UInt8) (w : World) (h : Sl 1 encU w X k) (hn : k.length ≤ 1048576) :
    Calls Try.prog 54 #[.slice X k.length x] w fun e w' => ∃ (l : List Ln) (A : Option Addr) (c : Nat) (z : Int), e = .returned (.tuple #[.slice A l.length c, .int .i64 z]) ∧ LsO 5 Ln.enc 10 w w' A l c := by
  go_enter Try.func54, Try.ntmps54
  go_wp2_with (fail)
  have D0 := Dr.new (c := x) 88 h hn
  generalize hp : w.heap.size = p at *
  generalize hW : World.alloc w _ = W0 at *
  clear hW
  refine (dLines D0 (Below.refl _ _) (by omega)).mono ?_; rintro e w1 ⟨l, A, c', rfl, s1, -, hl, hc, hA, D1, l1⟩
  have hA' : ∀ a, A = some a → p < a.block := fun a ha => Nat.lt_of_lt_of_le D0.lt (hA a ha)
  clear D0 l1 hA
  go_wp2_with (fail)
  refine (dAmongN D1 (Below.refl _ _) (by omega) rfl (by decide) (by decide) (by simp) (by simp [isI])).mono ?_; rintro e w2 ⟨z, rfl, -, Dz, lz⟩
  have sz := (s1.below (below_alloc _ _)).lb lz (fun _ a ha => Nat.ne_of_gt (hA' a ha))
  go_wp2_with (fail)
  go_ret2
  exact ⟨l, A, c', z, rfl, sz, hl, hc, hp ▸ Dz.done⟩
theorem drCov (X : Option Addr) (x : Nat) (k : List UInt8) (w : World) (h : Sl 1 encU w X k) (hn : k.length ≤ 1048576) :
    Calls Try.prog 57 #[.slice X k.length x] w fun e w' => ∃ (l : List Ln) (A : Option Addr) (c : Nat) (z1 z2 : Int), e = .returned (.tuple #[.slice A l.length c, .int .i64 z1, .int .i64 z2]) ∧ LsO 5 Ln.enc 10 w w' A l c := by
  go_enter Try.func57, Try.ntmps57
  go_wp2_with (fail)
  have D0 := Dr.new (c := x) 88 h hn
  generalize hp : w.heap.size = p at *
  generalize hW : World.alloc w _ = W0 at *
  clear hW
  refine (dLines D0 (Below.refl _ _) (by omega)).mono ?_; rintro e w1 ⟨l, A, c', rfl, s1, -, hl, hc, hA, D1, l1⟩
  have hA' : ∀ a, A = some a → p < a.block := fun a ha => Nat.lt_of_lt_of_le D0.lt (hA a ha)
  clear D0 l1 hA
  go_wp2_with (fail)
  refine (dAmongN D1 (Below.refl _ _) (by omega) rfl (by decide) (by decide) (by simp) (by simp [isI])).mono ?_; rintro e w2 ⟨z1, rfl, -, Dz1, lz1⟩
  have sz1 := (s1.below (below_alloc _ _)).lb lz1 (fun _ a ha => Nat.ne_of_gt (hA' a ha))
  go_wp2_with (fail)
  refine (dAmongN Dz1 (Below.refl _ _) (by omega) rfl (by decide) (by decide) (by simp) (by simp [isI])).mono ?_; rintro e w3 ⟨z2, rfl, -, Dz2, lz2⟩
  have sz2 := (sz1.below (below_alloc _ _)).lb lz2 (fun _ a ha => Nat.ne_of_gt (hA' a ha))
  go_wp2_with (fail)
  go_ret3
  exact ⟨l, A, c', z1, z2, rfl, sz2, hl, hc, hp ▸ Dz2.done⟩
theorem drUncov (X : Option Addr) (x : Nat) (k : List UInt8) (w : World) (h : Sl 1 encU w X k) (hn : k.length ≤ 1048576) :
    Calls Try.prog 55 #[.slice X k.length x] w fun e w' => ∃ (l : List Ln) (A : Option Addr) (c : Nat) (b : Bx), e = .returned (.tuple #[.slice A l.length c, .agg #[.int .i64 b.west, .int .i64 b.south, .int .i64 b.east, .int .i64 b.north]]) ∧ LsO 5 Ln.enc 10 w w' A l c := by
  go_enter Try.func55, Try.ntmps55
  go_upto_region 1 with (fail)
  generalize hr : w.heap.size = r
  generalize hW : World.alloc w _ = W1
  have I1 : IB W1 r 4 := by rw [← hW, ← hr]; exact IB.new _ _ (by decide) (by simp [isI])
  have b1 : Below r w W1 := by rw [← hW, ← hr]; exact below_alloc _ _
  have h1 : Sl 1 encU W1 X k := by rw [← hW]; exact h.below (below_alloc _ _)
  clear hW
  go_wp2_with (fail)
  have D0 := Dr.new (c := x) 88 h1 hn
  have hrp : r < W1.heap.size := I1.1
  generalize hp : W1.heap.size = p at *
  generalize hW : World.alloc W1 _ = W0 at *
  clear hW
  refine (dLines D0 (Below.refl _ _) (by omega)).mono ?_; rintro e w1 ⟨l, A, c', rfl, s1, -, hl, hc, hA, D1, l1⟩
  have hA' : ∀ a, A = some a → p < a.block := fun a ha => Nat.lt_of_lt_of_le D0.lt (hA a ha)
  clear D0 l1 hA
  go_wp2_with (fail)
  refine (dBox D1 (Below.refl _ _) (by omega)).mono ?_; rintro e w2 ⟨a0, a1, a2, a3, rfl, Dz, l2⟩
  have sz := s1.lb l2 (fun _ a ha => Nat.ne_of_gt (hA' a ha))
  have I3 := I1.below (hp ▸ Dz.done)
  obtain ⟨v0, m0⟩ := I3.2.1 0 (by omega)
  obtain ⟨v1, m1⟩ := I3.2.1 1 (by omega)
  obtain ⟨v2, m2⟩ := I3.2.1 2 (by omega)
  obtain ⟨v3, m3⟩ := I3.2.1 3 (by omega)
  have f0 := I3.2.2 0
  have f1 := I3.2.2 1
  have f2 := I3.2.2 2
  have f3 := I3.2.2 3
  have hz := I3.1
  go_wp2_with (fail)
  have s9 := sz.far (g := r) (fun a ha => by have := hA' a ha; omega) [.int .i64 a0, .int .i64 a1, .int .i64 a2, .int .i64 a3] 0
  have I9 := I3.put [.int .i64 a0, .int .i64 a1, .int .i64 a2, .int .i64 a3] 0 (by simp) (by simp [isI])
  have b9 := bset (b1.trans (Dz.done.mono (by omega))) (Nat.le_refl r) [.int .i64 a0, .int .i64 a1, .int .i64 a2, .int .i64 a3] 0
  simp only [World.setCells, Nat.zero_add, Nat.reduceAdd] at I9 b9
  obtain ⟨y0, e0⟩ := I9.2.1 0 (by omega)
  obtain ⟨y1, e1⟩ := I9.2.1 1 (by omega)
  obtain ⟨y2, e2⟩ := I9.2.1 2 (by omega)
  obtain ⟨y3, e3⟩ := I9.2.1 3 (by omega)
  simp only [World.setCells, Nat.zero_add, Nat.reduceAdd] at s9
  exact bodyPost_ret (v := .tuple #[.slice A l.length c', .agg #[.int .i64 y0, .int .i64 y1, .int .i64 y2, .int .i64 y3]]) (by simp [results, Try.results55, go_sem, e0, e1, e2, e3]) rfl ⟨l, A, c', ⟨y0, y1, y2, y3⟩, rfl, s9, hl, hc, hr ▸ b9⟩
theorem drIsBox (X : Option Addr) (x : Nat) (k : List UInt8) (w : World) (h : Sl 1 encU w X k) (hn : k.length ≤ 1048576) :
    Calls Try.prog 90 #[.slice X k.length x] w fun e w' => ∃ b : Bx, e = .returned (.agg #[.int .i64 b.west, .int .i64 b.south, .int .i64 b.east, .int .i64 b.north]) ∧ Below w.heap.size w w' := by
  go_enter Try.func90, Try.ntmps90
  go_upto_region 1 with (fail)
  generalize hr : w.heap.size = r
  generalize hW : World.alloc w _ = W1
  have I1 : IB W1 r 4 := by rw [← hW, ← hr]; exact IB.new _ _ (by decide) (by simp [isI])
  have b1 : Below r w W1 := by rw [← hW, ← hr]; exact below_alloc _ _
  have h1 : Sl 1 encU W1 X k := by rw [← hW]; exact h.below (below_alloc _ _)
  clear hW
  go_wp2_with (fail)
  have D0 := Dr.new (c := x) 88 h1 hn
  have hrp : r < W1.heap.size := I1.1
  generalize hp : W1.heap.size = p at *
  generalize hW : World.alloc W1 _ = W0 at *
  clear hW
  refine (dBox D0 (Below.refl _ _) (by omega)).mono ?_; rintro e w2 ⟨a0, a1, a2, a3, rfl, Dz, l2⟩
  have I3 := I1.below (hp ▸ Dz.done)
  obtain ⟨v0, m0⟩ := I3.2.1 0 (by omega)
  obtain ⟨v1, m1⟩ := I3.2.1 1 (by omega)
  obtain ⟨v2, m2⟩ := I3.2.1 2 (by omega)
  obtain ⟨v3, m3⟩ := I3.2.1 3 (by omega)
  have f0 := I3.2.2 0
  have f1 := I3.2.2 1
  have f2 := I3.2.2 2
  have f3 := I3.2.2 3
  have hz := I3.1
  go_wp2_with (fail)
  have I9 := I3.put [.int .i64 a0, .int .i64 a1, .int .i64 a2, .int .i64 a3] 0 (by simp) (by simp [isI])
  have b9 := bset (b1.trans (Dz.done.mono (by omega))) (Nat.le_refl r) [.int .i64 a0, .int .i64 a1, .int .i64 a2, .int .i64 a3] 0
  simp only [World.setCells, Nat.zero_add, Nat.reduceAdd] at I9 b9
  obtain ⟨y0, e0⟩ := I9.2.1 0 (by omega)
  obtain ⟨y1, e1⟩ := I9.2.1 1 (by omega)
  obtain ⟨y2, e2⟩ := I9.2.1 2 (by omega)
  obtain ⟨y3, e3⟩ := I9.2.1 3 (by omega)
  exact bodyPost_ret (v := .agg #[.int .i64 y0, .int .i64 y1, .int .i64 y2, .int .i64 y3]) (by simp [results, Try.results90, go_sem, e0, e1, e2, e3]) rfl ⟨⟨y0, y1, y2, y3⟩, rfl, hr ▸ b9⟩
theorem drCellsIn (X : Option Addr) (x : Nat) (k : List UInt8) (w : World) (h : Sl 1 encU w X k) (hn : k.length ≤ 1048576) :
    Calls Try.prog 58 #[.slice X k.length x] w fun e w' => ∃ b : Bx, e = .returned (.agg #[.int .i64 b.west, .int .i64 b.south, .int .i64 b.east, .int .i64 b.north]) ∧ Below w.heap.size w w' := by
  go_enter Try.func58, Try.ntmps58
  go_upto_region 1 with (fail)
  generalize hr : w.heap.size = r
  generalize hW : World.alloc w _ = W1
  have I1 : IB W1 r 4 := by rw [← hW, ← hr]; exact IB.new _ _ (by decide) (by simp [isI])
  have b1 : Below r w W1 := by rw [← hW, ← hr]; exact below_alloc _ _
  have h1 : Sl 1 encU W1 X k := by rw [← hW]; exact h.below (below_alloc _ _)
  clear hW
  go_wp2_with (fail)
  refine (drIsBox X x k W1 h1 hn).mono ?_; rintro e w2 ⟨⟨a0, a1, a2, a3⟩, rfl, B2⟩
  have I3 := I1.below B2
  obtain ⟨v0, m0⟩ := I3.2.1 0 (by omega)
  obtain ⟨v1, m1⟩ := I3.2.1 1 (by omega)
  obtain ⟨v2, m2⟩ := I3.2.1 2 (by omega)
  obtain ⟨v3, m3⟩ := I3.2.1 3 (by omega)
  have f0 := I3.2.2 0
  have f1 := I3.2.2 1
  have f2 := I3.2.2 2
  have f3 := I3.2.2 3
  have hz := I3.1
  go_wp2_with (fail)
  have I9 := I3.put [.int .i64 a0, .int .i64 a1, .int .i64 a2, .int .i64 a3] 0 (by simp) (by simp [isI])
  have b9 := bset (b1.trans (B2.mono (Nat.le_of_lt I1.1))) (Nat.le_refl r) [.int .i64 a0, .int .i64 a1, .int .i64 a2, .int .i64 a3] 0
  simp only [World.setCells, Nat.zero_add, Nat.reduceAdd] at I9 b9
  obtain ⟨y0, e0⟩ := I9.2.1 0 (by omega)
  obtain ⟨y1, e1⟩ := I9.2.1 1 (by omega)
  obtain ⟨y2, e2⟩ := I9.2.1 2 (by omega)
  obtain ⟨y3, e3⟩ := I9.2.1 3 (by omega)
  exact bodyPost_ret (v := .agg #[.int .i64 y0, .int .i64 y1, .int .i64 y2, .int .i64 y3]) (by simp [results, Try.results58, go_sem, e0, e1, e2, e3]) rfl ⟨⟨y0, y1, y2, y3⟩, rfl, hr ▸ b9⟩
theorem drPlan (X : Option Addr) (x : Nat) (k : List UInt8) (w : World) (h : Sl 1 encU w X k) (hn : k.length ≤ 1048576) :
    Calls Try.prog 48 #[.slice X k.length x] w fun e w' => ∃ (b : Bx) (z : Int), e = .returned (.tuple #[.agg #[.int .i64 b.west, .int .i64 b.south, .int .i64 b.east, .int .i64 b.north], .int .i64 z]) ∧ Below w.heap.size w w' := by
  go_enter Try.func48, Try.ntmps48
  go_upto_region 1 with (fail)
  generalize hr : w.heap.size = r
  generalize hW : World.alloc w _ = W1
  have I1 : IB W1 r 4 := by rw [← hW, ← hr]; exact IB.new _ _ (by decide) (by simp [isI])
  have b1 : Below r w W1 := by rw [← hW, ← hr]; exact below_alloc _ _
  have h1 : Sl 1 encU W1 X k := by rw [← hW]; exact h.below (below_alloc _ _)
  clear hW
  go_wp2_with (fail)
  have D0 := Dr.new (c := x) 88 h1 hn
  have hrp : r < W1.heap.size := I1.1
  generalize hp : W1.heap.size = p at *
  generalize hW : World.alloc W1 _ = W0 at *
  clear hW
  refine (dBox D0 (Below.refl _ _) (by omega)).mono ?_; rintro e w2 ⟨a0, a1, a2, a3, rfl, D2, l2⟩
  go_wp2_with (fail)
  refine (dAmongN D2 (Below.refl _ _) (by omega) rfl (by decide) (by decide) (by simp) (by simp [isI])).mono ?_; rintro e w3 ⟨z, rfl, -, Dz, l3⟩
  have I3 := I1.below (hp ▸ Dz.done)
  obtain ⟨v0, m0⟩ := I3.2.1 0 (by omega)
  obtain ⟨v1, m1⟩ := I3.2.1 1 (by omega)
  obtain ⟨v2, m2⟩ := I3.2.1 2 (by omega)
  obtain ⟨v3, m3⟩ := I3.2.1 3 (by omega)
  have f0 := I3.2.2 0
  have f1 := I3.2.2 1
  have f2 := I3.2.2 2
  have f3 := I3.2.2 3
  have hz := I3.1
  go_wp2_with (fail)
  have I9 := I3.put [.int .i64 a0, .int .i64 a1, .int .i64 a2, .int .i64 a3] 0 (by simp) (by simp [isI])
  have b9 := bset (b1.trans (Dz.done.mono (by omega))) (Nat.le_refl r) [.int .i64 a0, .int .i64 a1, .int .i64 a2, .int .i64 a3] 0
  simp only [World.setCells, Nat.zero_add, Nat.reduceAdd] at I9 b9
  obtain ⟨y0, e0⟩ := I9.2.1 0 (by omega)
  obtain ⟨y1, e1⟩ := I9.2.1 1 (by omega)
  obtain ⟨y2, e2⟩ := I9.2.1 2 (by omega)
  obtain ⟨y3, e3⟩ := I9.2.1 3 (by omega)
  exact bodyPost_ret (v := .tuple #[.agg #[.int .i64 y0, .int .i64 y1, .int .i64 y2, .int .i64 y3], .int .i64 z]) (by simp [results, Try.results48, go_sem, e0, e1, e2, e3]) rfl ⟨⟨y0, y1, y2, y3⟩, z, rfl, hr ▸ b9⟩
theorem drAre9 (X : Option Addr) (x : Nat) (k : List UInt8) (w : World) (h : Sl 1 encU w X k) (hn : k.length ≤ 1048576) :
    Calls Try.prog 87 #[.slice X k.length x] w fun e w' => ∃ (l : List Ln) (A : Option Addr) (c : Nat), e = .returned (.slice A l.length c) ∧ LsO 5 Ln.enc 10 w w' A l c := by
  go_enter Try.func87, Try.ntmps87
  go_wp2_with (fail)
  have D0 := Dr.new (c := x) 88 h hn
  generalize hp : w.heap.size = p at *
  generalize hW : World.alloc w _ = W0 at *
  clear hW
  refine (dLines D0 (Below.refl _ _) (by omega)).mono ?_; rintro e w1 ⟨l, A, c', rfl, s1, -, hl, hc, hA, D1, l1⟩
  have hA' : ∀ a, A = some a → p < a.block := fun a ha => Nat.lt_of_lt_of_le D0.lt (hA a ha)
  clear D0 l1 hA
  go_wp2_with (fail)
  go_ret
  exact ⟨l, A, c', rfl, s1, hl, hc, hp ▸ D1.done⟩
theorem drSailed (X : Option Addr) (x : Nat) (k : List UInt8) (w : World) (h : Sl 1 encU w X k) (hn : k.length ≤ 1048576) :
    Calls Try.prog 50 #[.slice X k.length x] w fun e w' => ∃ (l : List Ln) (A : Option Addr) (c : Nat), e = .returned (.slice A l.length c) ∧ LsO 5 Ln.enc 10 w w' A l c := by
  go_enter Try.func50, Try.ntmps50
  go_wp2_with (fail)
  refine (drAre9 X x k w h hn).mono ?_; rintro e w1 ⟨l, A, c', rfl, hL⟩
  go_wp2_with (fail)
  go_ret
  exact ⟨l, A, c', rfl, hL⟩
theorem drLengths (X : Option Addr) (x : Nat) (k : List UInt8) (w : World) (h : Sl 1 encU w X k) (hn : k.length ≤ 1048576) :
    Calls Try.prog 53 #[.slice X k.length x] w fun e w' => ∃ (l : List Ln) (A : Option Addr) (c : Nat), e = .returned (.slice A l.length c) ∧ LsO 5 Ln.enc 10 w w' A l c := by
  go_enter Try.func53, Try.ntmps53
  go_wp2_with (fail)
  refine (drAre9 X x k w h hn).mono ?_; rintro e w1 ⟨l, A, c', rfl, hL⟩
  go_wp2_with (fail)
  go_ret
  exact ⟨l, A, c', rfl, hL⟩
theorem dLineOf {p B : Nat} {q : Cd} {m : Nat} {w0 w5 w : World} (h : Dr p B q m w0 w5) (hg : Below w5.heap.size w5 w) (hm : m ≤ 800000000) (A : Option Addr) (c : Nat) (l : List Ln) (hs : Sl 5 Ln.enc w A l) (hn : l.length ≤ 10) (hA : ∀ a, A = some a → p < a.block) :
    Calls Try.prog 89 #[.pointer (some ⟨p, 0, none⟩), .slice A l.length c] w (drI p B q (m + 10) w0 w (fun _ => True)) := by
  have h := h.grown hg
  clear hg
  by_cases h0 : l.length = 0
  · have h0' : ((l.length : Int) == 0) = true := by rw [beq_iff_eq]; omega
    go_enter Try.func89, Try.ntmps89
    go_wp2_with (fail)
    refine (dAmongN h (Below.refl _ _) (by omega) rfl (by decide) (by decide) (by simp) (by simp [isI])).mono ?_; rintro e w2 ⟨z1, rfl, -, D2, l2⟩
    go_wp2_with (fail)
    go_ret
    exact ⟨z1, rfl, trivial, D2.mono (by omega), (LB.of (Below.refl _ _)).next (below_alloc _ _) l2⟩
  · have h0' : ((l.length : Int) == 0) = false := by rw [beq_eq_false_iff_ne]; omega
    go_enter Try.func89, Try.ntmps89
    go_wp2_with (fail)
    refine (dOne h (Below.refl _ _) (by omega) _ (by omega)).mono ?_; rintro e w1 ⟨o, rfl, D1, l1⟩
    cases o with
    | true =>
      go_wp2_with (fail)
      refine (dAmongN D1 (Below.refl _ _) (by omega) rfl (by decide) (by decide) (by simp) (by simp [isI])).mono ?_; rintro e w2 ⟨z1, rfl, -, D2, l2⟩
      go_wp2_with (fail)
      go_ret
      exact ⟨z1, rfl, trivial, D2.mono (by omega), l1.next (below_alloc _ _) l2⟩
    | false =>
      go_wp2_with (fail)
      refine (dPick D1 (Below.refl _ _) (by omega) _ (by omega)).mono ?_; rintro e w2 ⟨r, rfl, hr, D2, l2⟩
      have L2 := l1.next (Below.refl _ _) l2
      obtain ⟨j, rfl⟩ : ∃ j : Nat, r = (j : Int) := ⟨r.toNat, by omega⟩
      have hj : j < l.length := by omega
      obtain ⟨b, off, rfl⟩ := hs.addr (by omega)
      have hbp : b ≠ p := by have : p < b := hA _ rfl; omega
      obtain ⟨hbl, c0, c1, c2, c3, c4⟩ := Ln.get (hs.lb L2 (fun _ a ha => by injection ha with ha; subst ha; exact hbp)) hj
      have u1 : (0 : Int) ≤ (j : Int) := by omega
      have u2 : (j : Int) < (l.length : Int) := by omega
      go_wp2_with (fail)
      go_ret
      exact ⟨_, rfl, trivial, D2.mono (by omega), L2⟩
theorem drOver (X : Option Addr) (x : Nat) (k : List UInt8) (w : World) (h : Sl 1 encU w X k) (hn : k.length ≤ 1048576) :
    Calls Try.prog 52 #[.slice X k.length x] w fun e w' => ∃ (l : List Ln) (A : Option Addr) (c : Nat) (z1 z2 : Int), e = .returned (.tuple #[.slice A l.length c, .int .i64 z1, .int .i64 z2]) ∧ LsO 5 Ln.enc 10 w w' A l c := by
  go_enter Try.func52, Try.ntmps52
  go_wp2_with (fail)
  have D0 := Dr.new (c := x) 88 h hn
  generalize hp : w.heap.size = p at *
  generalize hW : World.alloc w _ = W0 at *
  clear hW
  refine (dLines D0 (Below.refl _ _) (by omega)).mono ?_; rintro e w1 ⟨l, A, c', rfl, s1, -, hl, hc, hA, D1, l1⟩
  have hA' : ∀ a, A = some a → p < a.block := fun a ha => Nat.lt_of_lt_of_le D0.lt (hA a ha)
  clear D0 l1 hA
  go_wp2_with (fail)
  refine (dLineOf D1 (Below.refl _ _) (by omega) A c' l s1 hl hA').mono ?_; rintro e w2 ⟨z1, rfl, -, Dz1, lz1⟩
  have sz1 := s1.lb lz1 (fun _ a ha => Nat.ne_of_gt (hA' a ha))
  go_wp2_with (fail)
  refine (dLineOf Dz1 (Below.refl _ _) (by omega) A c' l sz1 hl hA').mono ?_; rintro e w3 ⟨z2, rfl, -, Dz2, lz2⟩
  have sz2 := sz1.lb lz2 (fun _ a ha => Nat.ne_of_gt (hA' a ha))
  go_wp2_with (fail)
  go_ret3
  exact ⟨l, A, c', z1, z2, rfl, sz2, hl, hc, hp ▸ Dz2.done⟩
end Go.Proofs.Ytdphaejpponmeaa
