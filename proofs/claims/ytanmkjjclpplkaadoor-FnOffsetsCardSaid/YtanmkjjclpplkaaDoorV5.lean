/- The draws of the law on offsets: some craft, some numbers. -/
import Derived.Test.YtanmkjjclpplkaaDoorDr11
import Derived.Deep.RegionHeld3
set_option linter.unusedVariables false
set_option linter.unusedSimpArgs false
namespace Go.Proofs.YtanmkjjclpplkaaDoor
open Go.RowKit
set_option maxHeartbeats 4000000
set_option maxRecDepth 100000
theorem drIsCraft (X : Option Addr) (x : Nat) (k : List UInt8) (w : World) (h : Sl 1 encU w X k) (hn : k.length ≤ 1048576) :
    Calls Tryd.prog 35 #[.slice X k.length x] w fun e w' => ∃ v : Cr, v.name.size ≤ 100 ∧ e = .returned (.agg #[.int .i64 v.id, .string v.name, .int .i64 v.draught, .int .i64 v.ahead, .int .i64 v.beside, .int .i64 v.speed, .int .i64 v.fuel]) ∧ Below w.heap.size w w' := by
  go_enter Tryd.func35, Tryd.ntmps35
  go_upto_region 1 with (fail)
  generalize hr : w.heap.size = r
  generalize hW : World.alloc w _ = W1
  have I1 : Bk W1 r (Cr.enc ⟨0, ByteArray.empty, 0, 0, 0, 0, 0⟩) := by rw [← hW, ← hr]; exact Bk.new _ _ _
  have b1 : Below r w W1 := by rw [← hW, ← hr]; exact below_alloc _ _
  have h1 : Sl 1 encU W1 X k := by rw [← hW]; exact h.below (below_alloc _ _)
  clear hW
  go_upto_region 2 with (fail)
  have D0 := Dr.new (c := x) 46 h1 hn
  have hrp : r < W1.heap.size := I1.1
  generalize hp : W1.heap.size = p at *
  generalize hW : World.alloc W1 _ = W0 at *
  clear hW
  go_wp2_with (fail)
  refine (dAmongN D0 (Below.refl _ _) (by omega) rfl (by decide) (by decide) (by simp) (by simp [isI])).mono ?_; rintro e w1 ⟨z1, rfl, -, D1, l1⟩
  go_wp2_with (fail)
  refine (dCraft D1 (Below.refl _ _) (by omega) _).mono ?_; rintro e w2 ⟨v, hv, rfl, D2, l2⟩
  have I3 := I1.below (hp ▸ D2.done)
  have m0 := I3.2.1 0 _ rfl
  have m1 := I3.2.1 1 _ rfl
  have m2 := I3.2.1 2 _ rfl
  have m3 := I3.2.1 3 _ rfl
  have m4 := I3.2.1 4 _ rfl
  have m5 := I3.2.1 5 _ rfl
  have m6 := I3.2.1 6 _ rfl
  have f0 := I3.2.2 0
  have f1 := I3.2.2 1
  have f2 := I3.2.2 2
  have f3 := I3.2.2 3
  have f4 := I3.2.2 4
  have f5 := I3.2.2 5
  have f6 := I3.2.2 6
  have hz := I3.1
  go_wp2_with (fail)
  have I9 := I3.putAll (Cr.enc v) rfl
  have b9 := bset (b1.trans (D2.done.mono (by omega))) (Nat.le_refl r) (Cr.enc v) 0
  simp only [Cr.enc, World.setCells, Nat.zero_add, Nat.reduceAdd] at I9 b9
  have e0 := I9.2.1 0 _ rfl
  have e1 := I9.2.1 1 _ rfl
  have e2 := I9.2.1 2 _ rfl
  have e3 := I9.2.1 3 _ rfl
  have e4 := I9.2.1 4 _ rfl
  have e5 := I9.2.1 5 _ rfl
  have e6 := I9.2.1 6 _ rfl
  exact bodyPost_ret (v := .agg #[.int .i64 v.id, .string v.name, .int .i64 v.draught, .int .i64 v.ahead, .int .i64 v.beside, .int .i64 v.speed, .int .i64 v.fuel]) (by simp [results, Tryd.results35, go_sem, e0, e1, e2, e3, e4, e5, e6]) rfl ⟨v, hv, rfl, hr ▸ b9⟩
theorem drCraftText (X : Option Addr) (x : Nat) (k : List UInt8) (w : World) (h : Sl 1 encU w X k) (hn : k.length ≤ 1048576) :
    Calls Tryd.prog 18 #[.slice X k.length x] w fun e w' => ∃ v : Cr, v.name.size ≤ 100 ∧ e = .returned (.agg #[.int .i64 v.id, .string v.name, .int .i64 v.draught, .int .i64 v.ahead, .int .i64 v.beside, .int .i64 v.speed, .int .i64 v.fuel]) ∧ Below w.heap.size w w' := by
  go_enter Tryd.func18, Tryd.ntmps18
  go_upto_region 1 with (fail)
  generalize hr : w.heap.size = r
  generalize hW : World.alloc w _ = W1
  have I1 : Bk W1 r (Cr.enc ⟨0, ByteArray.empty, 0, 0, 0, 0, 0⟩) := by rw [← hW, ← hr]; exact Bk.new _ _ _
  have b1 : Below r w W1 := by rw [← hW, ← hr]; exact below_alloc _ _
  have h1 : Sl 1 encU W1 X k := by rw [← hW]; exact h.below (below_alloc _ _)
  clear hW
  go_wp2_with (fail)
  refine (drIsCraft X x k _ h1 hn).mono ?_; rintro e w2 ⟨v, hv, rfl, b2⟩
  have I3 := I1.below b2
  have hr1 := I1.1
  have m0 := I3.2.1 0 _ rfl
  have m1 := I3.2.1 1 _ rfl
  have m2 := I3.2.1 2 _ rfl
  have m3 := I3.2.1 3 _ rfl
  have m4 := I3.2.1 4 _ rfl
  have m5 := I3.2.1 5 _ rfl
  have m6 := I3.2.1 6 _ rfl
  have f0 := I3.2.2 0
  have f1 := I3.2.2 1
  have f2 := I3.2.2 2
  have f3 := I3.2.2 3
  have f4 := I3.2.2 4
  have f5 := I3.2.2 5
  have f6 := I3.2.2 6
  have hz := I3.1
  go_wp2_with (fail)
  have I9 := I3.putAll (Cr.enc v) rfl
  have b9 := bset (b1.trans (b2.mono (by omega))) (Nat.le_refl r) (Cr.enc v) 0
  simp only [Cr.enc, World.setCells, Nat.zero_add, Nat.reduceAdd] at I9 b9
  have e0 := I9.2.1 0 _ rfl
  have e1 := I9.2.1 1 _ rfl
  have e2 := I9.2.1 2 _ rfl
  have e3 := I9.2.1 3 _ rfl
  have e4 := I9.2.1 4 _ rfl
  have e5 := I9.2.1 5 _ rfl
  have e6 := I9.2.1 6 _ rfl
  exact bodyPost_ret (v := .agg #[.int .i64 v.id, .string v.name, .int .i64 v.draught, .int .i64 v.ahead, .int .i64 v.beside, .int .i64 v.speed, .int .i64 v.fuel]) (by simp [results, Tryd.results18, go_sem, e0, e1, e2, e3, e4, e5, e6]) rfl ⟨v, hv, rfl, hr ▸ b9⟩
theorem dPickA {p B : Nat} {q : Cd} {m : Nat} {w0 W w : World} {cs : Array Value} {t : TypeId} (n : Nat) (h : Dr p B q m w0 W) (hw : Below (W.alloc (.cells cs t)).heap.size (W.alloc (.cells cs t)) w) (hm : m ≤ 900000000) (hn : n ≤ cs.size) (hall : cs.all isI = true) (k : Int) (hk : k ≤ 1048577) :
    Calls Tryd.prog 26 #[.pointer (some ⟨p, 0, none⟩), .int .i64 k] w fun e w' => ∃ o : Int, e = .returned (.int .i64 o) ∧ (0 ≤ o ∧ o < max k 1) ∧ Dr p B q (m + 2) w0 w' ∧ LB p W.heap.size W w' ∧ Ints w' W.heap.size 0 n ∧ W.heap.size < w'.heap.size := by
  have hp := h.lt
  have hz : W.heap.size < (W.alloc (.cells cs t)).heap.size := by simp
  refine (dPick h (bth (below_alloc _ _) hw) hm k hk).mono ?_
  rintro e w' ⟨o, rfl, ho, D, l⟩
  have K := LB.next (LB.of (p := p) (Below.refl _ _)) (bth (below_alloc _ _) hw) l
  refine ⟨o, rfl, ho, D, K, ?_, by have := hw.size; have := l.size; omega⟩
  have N : Ints (W.alloc (.cells cs t)) W.heap.size 0 n := ints_app rfl hn hall
  intro i hi
  obtain ⟨z, hz2⟩ := N i hi
  refine ⟨z, ?_⟩
  rw [l.cell (by have := hw.size; omega) (by omega)]
  exact (hw.cell (p := ⟨W.heap.size, 0 + i, none⟩) hz).trans hz2
theorem dAmongB {p B : Nat} {q : Cd} {m n n7 g c : Nat} {w0 w6 w : World} (h : Dr p B q m w0 w6) (hw : Below w6.heap.size w6 w) (hm : m ≤ 900000000) (N : Ints w6 g 0 n7) (hp : g ≠ p) (hg : g < w6.heap.size) (hn : n ≤ n7) (h1 : 1 ≤ n) (hn2 : n ≤ 1000) :
    Calls Tryd.prog 25 #[.pointer (some ⟨p, 0, none⟩), .slice (some ⟨g, 0, none⟩) n c] w (drI p B q (m + 2) w0 w (fun _ => True)) :=
  dAmong h hw hm g 0 n c hp (by have := hw.size; omega) (fun i hi => by obtain ⟨z, hz⟩ := N i (by omega); exact ⟨z, (hw.cell (p := ⟨g, 0 + i, none⟩) hg).trans hz⟩) h1 hn2
theorem by24 {o : Int} (k n : Int) (h : 0 ≤ o ∧ o < max 24 1) (hk : 0 ≤ k) (hn : k + 2 ≤ n) (hn2 : n ≤ 1000 := by omega) : 0 ≤ o ∧ o.tdiv 11 = o / 11 ∧ IntKind.i64.wrap (o / 11) = o / 11 ∧ (0 : Int) ≤ k + o / 11 ∧ k + o / 11 ≤ n ∧ IntKind.i64.wrap (k + o / 11) = k + o / 11 :=
  ⟨h.1, Int.tdiv_eq_ediv_of_nonneg h.1, IntWalk.i64_in _ (by omega), by omega, by omega, IntWalk.i64_in _ (by omega)⟩
end Go.Proofs.YtanmkjjclpplkaaDoor
