/- The draws of two casts, and of casts with a spot: some casts of at most ten layers, some numbers; they change nothing that was there. -/
import Derived.Test.YtfmlfeokdaahmaaDr16
import Derived.Test.YtfmlfeokdaahmaaOut4
import Derived.Test.YtfmlfeokdaahmaaW1
set_option linter.unusedVariables false
set_option linter.unusedSimpArgs false
namespace Go.Proofs.Ytfmlfeokdaahmaa
open Go.RowKit
set_option maxHeartbeats 4000000
set_option maxRecDepth 100000
/-- What a draw of casts, a spot and two numbers returns. -/
def CsnP (w : World) (e : Ending) (w' : World) : Prop := ∃ (hs : List Ch) (A : Option Addr) (c : Nat) (sx sy z1 z2 : Int), e = .returned (.tuple #[.slice A hs.length c, .agg #[.int .i64 sx, .int .i64 sy], .int .i64 z1, .int .i64 z2]) ∧ Sl 5 Ch.enc w' A hs ∧ (∀ x ∈ hs, ChO w.heap.size w' x) ∧ hs.length ≤ 10 ∧ hs.length ≤ c ∧ Below w.heap.size w w'
theorem drNear (X : Option Addr) (x : Nat) (k : List UInt8) (w : World) (h : Sl 1 encU w X k) (hn : k.length ≤ 1048576) :
    Calls Try.prog 53 #[.slice X k.length x] w (CsnP w) := by
  go_enter Try.func53, Try.ntmps53
  go_upto_region 1 with (fail)
  generalize hr : w.heap.size = r
  generalize hW : World.alloc w _ = W1
  have I1 : Bk W1 r [.int .i64 0, .int .i64 0] := by rw [← hW, ← hr]; exact Bk.new _ _ _
  have b1 : Below r w W1 := by rw [← hW, ← hr]; exact below_alloc _ _
  have h1 : Sl 1 encU W1 X k := by rw [← hW]; exact h.below (below_alloc _ _)
  clear hW
  go_upto_region 2 with (fail)
  have D0 := Dr.new (c := x) 92 h1 hn
  have hrp : r < W1.heap.size := I1.1
  generalize hp : W1.heap.size = p at *
  generalize hW : World.alloc W1 _ = W0 at *
  clear hW
  have hz0 := D0.lt
  go_wp2_with (fail)
  refine (dCasts D0 (Below.refl _ _) (by omega)).mono ?_; rintro e w1 ⟨hs, A, c, rfl, s1, oh, hl, hc, hA, D1, l1⟩
  go_wp2_with (fail)
  refine (dSpot D1 (Below.refl _ _) (by omega)).mono ?_; rintro e w2 ⟨sx, sy, rfl, D2, l2⟩
  have L2 := (LB.of (p := p) (Below.refl _ w1)).next (Below.refl _ _) l2
  go_wp2_with (fail)
  refine (dTime7 D2 (Below.refl _ _) (by omega)).mono ?_; rintro e w3 ⟨t, rfl, -, D3, l3⟩
  have L3 := L2.next (Below.refl _ _) l3
  clear L2 l2 l3 D2
  go_wp2_with (fail)
  refine (dPickA 6 D3 (Below.refl _ _) (by omega) (by simp) (by simp [isI]) 24 (by omega)).mono ?_; rintro e w6 ⟨o, rfl, ho, D6, K6, N6, z6⟩
  obtain ⟨o0, ot, oz, oa, ob, ow⟩ := by24 4 6 ho (by omega) (by omega) (by omega)
  have o1 : (1 : Int) ≤ 4 + o / 11 := by omega
  have ob2 : 4 + o / 11 ≤ ((6 : Nat) : Int) := ob
  go_wp2_with (fail)
  refine (dAmongZ D6 (Below.refl _ _) (by omega) N6 (by have := D3.lt; omega) z6 ob2 o1 (by omega)).mono ?_; rintro e w7 ⟨z, rfl, -, D7, l7⟩
  have L7 := (L3.next (Below.refl _ _) K6).next (Below.refl _ _) l7
  have I7 := I1.below (hp ▸ D7.done)
  have m0 := I7.2.1 0 _ rfl
  have m1 := I7.2.1 1 _ rfl
  have f0 := I7.2.2 0
  have f1 := I7.2.2 1
  have hz := I7.1
  have s7 := s1.lb L7 (fun _ a ha => by have := hA a ha; omega)
  have o7 : ∀ y ∈ hs, ChO W0.heap.size w7 y := fun y hy => (oh y hy).lb L7 (by omega)
  clear s1 oh L3 L7 K6 l7 D1 D3 D6
  go_wp2_with (fail)
  have I9 := I7.put [.int .i64 sx, .int .i64 sy] rfl
  have b9 := bset (b1.trans (D7.done.mono (by omega))) (Nat.le_refl r) [.int .i64 sx, .int .i64 sy] 0
  have s9 := s7.far (g := r) (fun a ha => by have := hA a ha; omega) [.int .i64 sx, .int .i64 sy] 0
  have o9 : ∀ y ∈ hs, ChO w.heap.size (w7.setCells r 0 [.int .i64 sx, .int .i64 sy]) y := fun y hy => ((o7 y hy).far (g := r) (by omega) [.int .i64 sx, .int .i64 sy] 0).base (by omega)
  simp only [World.setCells, Nat.zero_add, Nat.reduceAdd] at I9 b9 s9 o9
  have e0 := I9.2.1 0 _ rfl
  have e1 := I9.2.1 1 _ rfl
  exact bodyPost_ret (v := .tuple #[.slice A hs.length c, .agg #[.int .i64 sx, .int .i64 sy], .int .i64 t, .int .i64 z]) (by simp [results, Try.results53, go_sem, e0, e1]) rfl ⟨hs, A, c, sx, sy, t, z, rfl, s9, o9, hl, hc, hr ▸ b9⟩
end Go.Proofs.Ytfmlfeokdaahmaa
