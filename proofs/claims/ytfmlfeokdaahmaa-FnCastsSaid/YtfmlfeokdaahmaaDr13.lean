/- A drawn part of a list, and the draws of a depth and of a time. -/
import Derived.Test.YtfmlfeokdaahmaaDr5
import Derived.Test.YtfmlfeokdaahmaaDrL
import Derived.Test.YtfmlfeokdaahmaaDr2
import Derived.Deep.RegionHeld3
set_option linter.unusedVariables false
set_option linter.unusedSimpArgs false
namespace Go.Proofs.Ytfmlfeokdaahmaa
open Go.RowKit
set_option maxHeartbeats 4000000
set_option maxRecDepth 100000
theorem dPickA {p B : Nat} {q : Cd} {m : Nat} {w0 W w : World} {cs : Array Value} {t : TypeId} (n : Nat) (h : Dr p B q m w0 W) (hw : Below (W.alloc (.cells cs t)).heap.size (W.alloc (.cells cs t)) w) (hm : m ≤ 900000000) (hn : n ≤ cs.size) (hall : cs.all isI = true) (k : Int) (hk : k ≤ 1048577) :
    Calls Try.prog 84 #[.pointer (some ⟨p, 0, none⟩), .int .i64 k] w fun e w' => ∃ o : Int, e = .returned (.int .i64 o) ∧ (0 ≤ o ∧ o < max k 1) ∧ Dr p B q (m + 2) w0 w' ∧ LB p W.heap.size W w' ∧ Ints w' W.heap.size 0 n ∧ W.heap.size < w'.heap.size := by
  have hp := h.lt
  have hz : W.heap.size < (W.alloc (.cells cs t)).heap.size := by simp
  refine (dPick h (bth (below_alloc _ _) hw) hm k hk).mono ?_
  rintro e w' ⟨o, rfl, ho, D, l⟩
  have K := LB.next (LB.of (p := p) (Below.refl _ _)) (bth (below_alloc _ _) hw) l
  refine ⟨o, rfl, ho, D, K, ?_, by have := hw.size; have := l.size; omega⟩
  have N : Ints (W.alloc (.cells cs t)) W.heap.size 0 n := ints_app rfl hn hall
  intro i hi
  obtain ⟨z, hz2⟩ := N i hi
  refine ⟨z, ?_⟩
  rw [l.cell (by have := hw.size; omega) (by omega)]
  exact (hw.cell (p := ⟨W.heap.size, 0 + i, none⟩) hz).trans hz2
theorem dAmongB {p B : Nat} {q : Cd} {m n n7 g c : Nat} {w0 w6 w : World} (h : Dr p B q m w0 w6) (hw : Below w6.heap.size w6 w) (hm : m ≤ 900000000) (N : Ints w6 g 0 n7) (hp : g ≠ p) (hg : g < w6.heap.size) (hn : n ≤ n7) (h1 : 1 ≤ n) (hn2 : n ≤ 1000) :
    Calls Try.prog 83 #[.pointer (some ⟨p, 0, none⟩), .slice (some ⟨g, 0, none⟩) n c] w (drI p B q (m + 2) w0 w (fun _ => True)) :=
  dAmong h hw hm g 0 n c hp (by have := hw.size; omega) (fun i hi => by obtain ⟨z, hz⟩ := N i (by omega); exact ⟨z, (hw.cell (p := ⟨g, 0 + i, none⟩) hg).trans hz⟩) h1 hn2
theorem by24 {o : Int} (k n : Int) (h : 0 ≤ o ∧ o < max 24 1) (hk : 0 ≤ k) (hn : k + 2 ≤ n) (hn2 : n ≤ 1000 := by omega) : 0 ≤ o ∧ o.tdiv 11 = o / 11 ∧ IntKind.i64.wrap (o / 11) = o / 11 ∧ (0 : Int) ≤ k + o / 11 ∧ k + o / 11 ≤ n ∧ IntKind.i64.wrap (k + o / 11) = k + o / 11 :=
  ⟨h.1, Int.tdiv_eq_ediv_of_nonneg h.1, IntWalk.i64_in _ (by omega), by omega, by omega, IntWalk.i64_in _ (by omega)⟩
theorem dAmongZ {p B : Nat} {q : Cd} {m n7 g c : Nat} {o : Int} {w0 w6 w : World} (h : Dr p B q m w0 w6) (hw : Below w6.heap.size w6 w) (hm : m ≤ 900000000) (N : Ints w6 g 0 n7) (hp : g ≠ p) (hg : g < w6.heap.size) (hn : o ≤ (n7 : Int)) (h1 : 1 ≤ o) (hn2 : n7 ≤ 1000) :
    Calls Try.prog 83 #[.pointer (some ⟨p, 0, none⟩), .slice (some ⟨g, 0, none⟩) o.toNat c] w (drI p B q (m + 2) w0 w (fun _ => True)) :=
  dAmongB h hw hm N hp hg (by omega) (by omega) (by omega)
theorem dAmongY {p B : Nat} {q : Cd} {m n7 c : Nat} {o : Int} {w0 W : World} {cs : Array Value} {t : TypeId} (h : Dr p B q m w0 W) (hm : m ≤ 900000000) (hn7 : n7 ≤ cs.size) (hall : cs.all isI = true) (hn : o ≤ (n7 : Int)) (h1 : 1 ≤ o) (hn2 : n7 ≤ 1000) :
    Calls Try.prog 83 #[.pointer (some ⟨p, 0, none⟩), .slice (some ⟨W.heap.size, 0, none⟩) o.toNat c] (W.alloc (.cells cs t)) (drI p B q (m + 2) w0 (W.alloc (.cells cs t)) (fun _ => True)) := by
  have hp := h.lt
  exact dAmongZ (h.grown (below_alloc _ _)) (Below.refl _ _) hm (ints_app rfl hn7 hall) (by omega) (by simp) hn h1 hn2
theorem dDepth7 {p B : Nat} {q : Cd} {m : Nat} {w0 w5 w : World} (h : Dr p B q m w0 w5) (hg : Below w5.heap.size w5 w) (hm : m ≤ 800000000) :
    Calls Try.prog 87 #[.pointer (some ⟨p, 0, none⟩)] w (drI p B q (m + 4) w0 w (fun _ => True)) := by
  have h := h.grown hg
  clear hg
  go_enter Try.func87, Try.ntmps87
  go_wp2_with (fail)
  refine (dPickA 8 h (Below.refl _ _) (by omega) (by simp) (by simp [isI]) 24 (by omega)).mono ?_; rintro e w6 ⟨o, rfl, ho, D6, K6, N6, z6⟩
  obtain ⟨o0, ot, oz, oa, ob, ow⟩ := by24 6 8 ho (by omega) (by omega) (by omega)
  have o1 : (1 : Int) ≤ 6 + o / 11 := by omega
  have ob2 : 6 + o / 11 ≤ ((8 : Nat) : Int) := ob
  go_wp2_with (fail)
  refine (dAmongZ D6 (Below.refl _ _) (by omega) N6 (by have := h.lt; omega) z6 ob2 o1 (by omega)).mono ?_; rintro e w7 ⟨z, rfl, -, D7, l7⟩
  go_wp2_with (fail)
  go_ret
  exact ⟨z, rfl, trivial, D7.mono (by omega), K6.next (Below.refl _ _) l7⟩
theorem dTime7 {p B : Nat} {q : Cd} {m : Nat} {w0 w5 w : World} (h : Dr p B q m w0 w5) (hg : Below w5.heap.size w5 w) (hm : m ≤ 800000000) :
    Calls Try.prog 91 #[.pointer (some ⟨p, 0, none⟩)] w (drI p B q (m + 4) w0 w (fun _ => True)) := by
  have h := h.grown hg
  clear hg
  go_enter Try.func91, Try.ntmps91
  go_wp2_with (fail)
  refine (dPickA 8 h (Below.refl _ _) (by omega) (by simp) (by simp [isI]) 24 (by omega)).mono ?_; rintro e w6 ⟨o, rfl, ho, D6, K6, N6, z6⟩
  obtain ⟨o0, ot, oz, oa, ob, ow⟩ := by24 6 8 ho (by omega) (by omega) (by omega)
  have o1 : (1 : Int) ≤ 6 + o / 11 := by omega
  have ob2 : 6 + o / 11 ≤ ((8 : Nat) : Int) := ob
  go_wp2_with (fail)
  refine (dAmongZ D6 (Below.refl _ _) (by omega) N6 (by have := h.lt; omega) z6 ob2 o1 (by omega)).mono ?_; rintro e w7 ⟨z, rfl, -, D7, l7⟩
  go_wp2_with (fail)
  go_ret
  exact ⟨z, rfl, trivial, D7.mono (by omega), K6.next (Below.refl _ _) l7⟩
end Go.Proofs.Ytfmlfeokdaahmaa
