/- The draws of the law on offsets: some craft, some numbers. -/
import Derived.Test.YtanmkjjclpplkaaDr11
import Derived.Deep.RegionHeld3
set_option linter.unusedVariables false
set_option linter.unusedSimpArgs false
namespace Go.Proofs.Ytanmkjjclpplkaa
open Go.RowKit
set_option maxHeartbeats 4000000
set_option maxRecDepth 100000
theorem dPickA {p B : Nat} {q : Cd} {m : Nat} {w0 W w : World} {cs : Array Value} {t : TypeId} (n : Nat) (h : Dr p B q m w0 W) (hw : Below (W.alloc (.cells cs t)).heap.size (W.alloc (.cells cs t)) w) (hm : m ≤ 900000000) (hn : n ≤ cs.size) (hall : cs.all isI = true) (k : Int) (hk : k ≤ 1048577) :
    Calls Try.prog 46 #[.pointer (some ⟨p, 0, none⟩), .int .i64 k] w fun e w' => ∃ o : Int, e = .returned (.int .i64 o) ∧ (0 ≤ o ∧ o < max k 1) ∧ Dr p B q (m + 2) w0 w' ∧ LB p W.heap.size W w' ∧ Ints w' W.heap.size 0 n ∧ W.heap.size < w'.heap.size := by
  have hp := h.lt
  have hz : W.heap.size < (W.alloc (.cells cs t)).heap.size := by simp
  refine (dPick h (bth (below_alloc _ _) hw) hm k hk).mono ?_
  rintro e w' ⟨o, rfl, ho, D, l⟩
  have K := LB.next (LB.of (p := p) (Below.refl _ _)) (bth (below_alloc _ _) hw) l
  refine ⟨o, rfl, ho, D, K, ?_, by have := hw.size; have := l.size; omega⟩
  have N : Ints (W.alloc (.cells cs t)) W.heap.size 0 n := ints_app rfl hn hall
  intro i hi
  obtain ⟨z, hz2⟩ := N i hi
  refine ⟨z, ?_⟩
  rw [l.cell (by have := hw.size; omega) (by omega)]
  exact (hw.cell (p := ⟨W.heap.size, 0 + i, none⟩) hz).trans hz2
theorem dAmongB {p B : Nat} {q : Cd} {m n n7 g c : Nat} {w0 w6 w : World} (h : Dr p B q m w0 w6) (hw : Below w6.heap.size w6 w) (hm : m ≤ 900000000) (N : Ints w6 g 0 n7) (hp : g ≠ p) (hg : g < w6.heap.size) (hn : n ≤ n7) (h1 : 1 ≤ n) (hn2 : n ≤ 1000) :
    Calls Try.prog 45 #[.pointer (some ⟨p, 0, none⟩), .slice (some ⟨g, 0, none⟩) n c] w (drI p B q (m + 2) w0 w (fun _ => True)) :=
  dAmong h hw hm g 0 n c hp (by have := hw.size; omega) (fun i hi => by obtain ⟨z, hz⟩ := N i (by omega); exact ⟨z, (hw.cell (p := ⟨g, 0 + i, none⟩) hg).trans hz⟩) h1 hn2
theorem by24 {o : Int} (k n : Int) (h : 0 ≤ o ∧ o < max 24 1) (hk : 0 ≤ k) (hn : k + 2 ≤ n) (hn2 : n ≤ 1000 := by omega) : 0 ≤ o ∧ o.tdiv 11 = o / 11 ∧ IntKind.i64.wrap (o / 11) = o / 11 ∧ (0 : Int) ≤ k + o / 11 ∧ k + o / 11 ≤ n ∧ IntKind.i64.wrap (k + o / 11) = k + o / 11 :=
  ⟨h.1, Int.tdiv_eq_ediv_of_nonneg h.1, IntWalk.i64_in _ (by omega), by omega, by omega, IntWalk.i64_in _ (by omega)⟩
end Go.Proofs.Ytanmkjjclpplkaa
