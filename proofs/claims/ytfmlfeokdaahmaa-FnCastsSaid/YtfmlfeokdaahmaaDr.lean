/- The cursor from which the draws of the laws read their choices: what its functions return, and that they change the cursor alone. At most 1000000000 choices. -/
import Derived.Test.YtfmlfeokdaahmaaAft
import Derived.Test.YtfmlfeokdaahmaaProg
import Derived.Laws.Bits64b
set_option linter.unusedVariables false
set_option linter.unusedSimpArgs false
namespace Go.Proofs.Ytfmlfeokdaahmaa
open Go.RowKit
set_option maxHeartbeats 1000000
set_option maxRecDepth 100000
def encU (b : UInt8) : List Value := [.int .u8 b.toNat]
/-- Blocks below B but p are as they were. -/
structure LB (p B : Nat) (w w' : World) : Prop where
  os : w'.os = w.os
  tape : w'.tape = w.tape
  output : w'.output = w.output
  size : w.heap.size ≤ w'.heap.size
  block : ∀ k, k < B → k ≠ p → w'.heap[k]? = w.heap[k]?
theorem LB.of {p B : Nat} {w w' : World} (h : Below B w w') : LB p B w w' := ⟨h.os, h.tape, h.output, h.size, fun k hk _ => h.block k hk⟩
theorem LB.below {p B : Nat} {w w' : World} (h : LB p B w w') (hp : B ≤ p) : Below B w w' := ⟨h.os, h.tape, h.output, h.size, fun k hk => h.block k hk (by omega)⟩
theorem LB.belowB {p B C : Nat} {w w' : World} (h : LB p B w w') (hp : C ≤ p) (hC : C ≤ B) : Below C w w' := ⟨h.os, h.tape, h.output, h.size, fun k hk => h.block k (by omega) (by omega)⟩
theorem LB.trans {p B : Nat} {a b c : World} (h : LB p B a b) (k : LB p B b c) : LB p B a c :=
  ⟨k.os.trans h.os, k.tape.trans h.tape, k.output.trans h.output, Nat.le_trans h.size k.size, fun j hj hp => (k.block j hj hp).trans (h.block j hj hp)⟩
theorem LB.mono {p B C : Nat} {w w' : World} (h : LB p B w w') (hC : C ≤ B) : LB p C w w' := ⟨h.os, h.tape, h.output, h.size, fun k hk hp => h.block k (by omega) hp⟩
theorem LB.cell {p B : Nat} {w w' : World} (h : LB p B w w') {g : Nat} (hg : g < B) (hp : g ≠ p) (o : Nat) : w'.cell? ⟨g, o, none⟩ = w.cell? ⟨g, o, none⟩ := World.cell?_of_block (w := w) (h.block g hg hp)
theorem LB.frozen {p B : Nat} {w w' : World} (h : LB p B w w') {g : Nat} (hg : g < B) (hp : g ≠ p) (o : Nat) : w'.frozen? ⟨g, o, none⟩ = w.frozen? ⟨g, o, none⟩ := World.frozen?_of_block (w := w) (h.block g hg hp)
theorem Bk.lb {p : Nat} {w w' : World} {g : Nat} {cs : List Value} (h : Bk w g cs) (hl : LB p w.heap.size w w') (hp : g ≠ p) : Bk w' g cs :=
  ⟨Nat.lt_of_lt_of_le h.1 hl.size, fun i v hv => (hl.cell h.1 hp i).trans (h.2.1 i v hv), fun i => (hl.frozen h.1 hp i).trans (h.2.2 i)⟩
theorem Sl.lb {α : Type} {K p : Nat} {enc : α → List Value} {w w' : World} {A : Option Addr} {l : List α} (h : Sl K enc w A l) (hl : LB p w.heap.size w w') (hp : 0 < l.length → ∀ a, A = some a → a.block ≠ p) : Sl K enc w' A l := by
  intro h0
  obtain ⟨b, off, e, hlt, hc⟩ := h h0
  exact ⟨b, off, e, Nat.lt_of_lt_of_le hlt hl.size, fun i x hx j v hv => (hl.cell hlt (hp h0 _ e) _).trans (hc i x hx j v hv)⟩
/-- One cell of a block is stored. -/
theorem Bk.cset {w : World} {g : Nat} {cs : List Value} (h : Bk w g cs) (i : Nat) (u : Value) (hi : i < cs.length) : Bk (w.setCell ⟨g, i, none⟩ u) g (cs.set i u) := by
  have hA := h.ar.put [u] i (by simp; omega)
  refine ⟨hA.1, fun j v hv => ?_, hA.2.2⟩
  show (w.setCells g i [u]).cell? ⟨g, j, none⟩ = some v
  by_cases e : j = i
  · subst e
    have := World.cell?_setCells_in g [u] j w (fun m hm => by
      obtain rfl : m = 0 := by simpa using hm
      rw [Nat.add_zero, h.2.1 j _ (List.getElem?_eq_getElem hi)]; rfl) 0 (by simp)
    rw [Nat.add_zero] at this
    rw [this]
    rw [List.getElem?_set_self hi] at hv
    simpa using hv
  · rw [World.cell?_setCells_out g [u] i w _ (fun _ _ => by show j < i ∨ i + [u].length ≤ j; simp; omega)]
    rw [List.getElem?_set_ne (by omega)] at hv
    exact h.2.1 j v hv
theorem LB.set {p : Nat} {w : World} {o : Nat} {v : Value} (B : Nat) : LB p B w (w.setCell ⟨p, o, none⟩ v) :=
  ⟨rfl, rfl, rfl, by rw [World.size_setCell]; exact Nat.le_refl _, fun k _ hp => Below.heap_setCell w ⟨p, o, none⟩ v k hp⟩
/-- Where the code lies. -/
structure Cd where
  (A : Option Addr) (c : Nat) (l : List UInt8)
/-- Block p is a cursor over the code q; at most m choices have been read. -/
def Cu (p : Nat) (q : Cd) (m : Nat) (w : World) : Prop :=
  Sl 1 encU w q.A q.l ∧ (0 < q.l.length → ∀ a, q.A = some a → a.block < p) ∧ q.l.length ≤ 1048576 ∧ ∃ (n : Nat) (s : Int), n ≤ m ∧ 0 ≤ s ∧ s < 18446744073709551616 ∧ Bk w p [.slice q.A q.l.length q.c, .int .i64 n, .int .u64 s]
theorem Cu.lt {p m : Nat} {q : Cd} {w : World} (h : Cu p q m w) : p < w.heap.size := by obtain ⟨_, _, _, n, s, _, _, _, hk⟩ := h; exact hk.1
theorem Cu.mono {p m m' : Nat} {q : Cd} {w : World} (h : Cu p q m w) (hm : m ≤ m') : Cu p q m' w := by
  obtain ⟨h1, h2, h3, n, s, h4, h5⟩ := h
  exact ⟨h1, h2, h3, n, s, by omega, h5⟩
theorem Cu.belowB {p m B : Nat} {q : Cd} {w w' : World} (h : Cu p q m w) (hb : Below B w w') (hp : p < B) : Cu p q m w' := by
  obtain ⟨h1, h2, h3, n, s, h4, h5, h6, hk⟩ := h
  refine ⟨fun h0 => ?_, h2, h3, n, s, h4, h5, h6, Nat.lt_of_lt_of_le hk.1 hb.size, fun i v hv => (hb.cell (p := ⟨p, i, none⟩) hp).trans (hk.2.1 i v hv), fun i => (hb.frozen (p := ⟨p, i, none⟩) hp).trans (hk.2.2 i)⟩
  obtain ⟨b, off, e, hlt, hc⟩ := h1 h0
  have hbp := h2 h0 _ e
  exact ⟨b, off, e, Nat.lt_of_lt_of_le hlt hb.size, fun i x hx j v hv => (hb.cell (p := ⟨b, off + i * 1 + j, none⟩) (by show b < B; have : b < p := hbp; omega)).trans (hc i x hx j v hv)⟩
theorem Cu.below {p m : Nat} {q : Cd} {w w' : World} (h : Cu p q m w) (hb : Below w.heap.size w w') : Cu p q m w' := h.belowB hb h.lt
/-- The state of a draw: the cursor, and that what lay below B in w0 lies as it lay. -/
structure Dr (p B : Nat) (q : Cd) (m : Nat) (w0 w : World) : Prop where
  cu : Cu p q m w
  lb : LB p B w0 w
  bp : B ≤ p
theorem Dr.grown {p B m : Nat} {q : Cd} {w0 w w' : World} (h : Dr p B q m w0 w) (hb : Below w.heap.size w w') : Dr p B q m w0 w' :=
  ⟨h.cu.below hb, h.lb.trans (LB.of (hb.mono (by have := h.cu.lt; have := h.bp; omega))), h.bp⟩
theorem Dr.mono {p B m m' : Nat} {q : Cd} {w0 w : World} (h : Dr p B q m w0 w) (hm : m ≤ m') : Dr p B q m' w0 w := ⟨h.cu.mono hm, h.lb, h.bp⟩
theorem Dr.belowB {p B m C : Nat} {q : Cd} {w0 w w' : World} (h : Dr p B q m w0 w) (hb : Below C w w') (hp : p < C) : Dr p B q m w0 w' :=
  ⟨h.cu.belowB hb hp, h.lb.trans (LB.of (hb.mono (by have := h.bp; omega))), h.bp⟩
theorem Dr.done {p B m : Nat} {q : Cd} {w0 w : World} (h : Dr p B q m w0 w) : Below B w0 w := h.lb.below h.bp
theorem Dr.lt {p B m : Nat} {q : Cd} {w0 w : World} (h : Dr p B q m w0 w) : p < w.heap.size := h.cu.lt
theorem Dr.step {p B m m' : Nat} {q : Cd} {w0 w w' : World} (h : Dr p B q m w0 w) (hc : Cu p q m' w') (hl : LB p w.heap.size w w') : Dr p B q m' w0 w' :=
  ⟨hc, h.lb.trans (hl.mono (by have := h.cu.lt; have := h.bp; omega)), h.bp⟩
/-- What a draw of a number returns. -/
def drI (p B : Nat) (q : Cd) (m : Nat) (w0 w : World) (R : Int → Prop) (e : Ending) (w' : World) : Prop :=
  ∃ r : Int, e = .returned (.int .i64 r) ∧ R r ∧ Dr p B q m w0 w' ∧ LB p w.heap.size w w'
theorem u64r (x : Int) : 0 ≤ IntKind.u64.wrap x ∧ IntKind.u64.wrap x < 18446744073709551616 := by
  have h : IntKind.u64.wrap x = x % 18446744073709551616 := by
    simp [IntKind.wrap, IntKind.bits, IntKind.signed]
  rw [h]
  exact ⟨Int.emod_nonneg _ (by omega), Int.emod_lt_of_pos _ (by omega)⟩
theorem and255 {x : Int} (h0 : 0 ≤ x) (h1 : x < 18446744073709551616) : 0 ≤ wrap64 (bits BinOp.and IntKind.u64 x 255) ∧ wrap64 (bits BinOp.and IntKind.u64 x 255) ≤ 255 := by
  have h := bits_and_u64_nat x.toNat 255 (by omega) (by omega)
  rw [Int.toNat_of_nonneg h0] at h
  have h2 : x.toNat &&& 255 ≤ 255 := Nat.and_le_right
  have h3 : bits BinOp.and IntKind.u64 x 255 = ((x.toNat &&& 255 : Nat) : Int) := h
  rw [h3, IntWalk.wrap64_in _ (by omega)]
  omega
theorem dNext0 (p : Nat) (q : Cd) (m : Nat) (w : World) (h : Cu p q m w) (hm : m ≤ 1000000000) :
    Calls Try.prog 99 #[.pointer (some ⟨p, 0, none⟩)] w fun e w' => ∃ r : Int, e = .returned (.int .i64 r) ∧ (0 ≤ r ∧ r ≤ 255) ∧ Cu p q (m + 1) w' ∧ LB p w.heap.size w w' := by
  obtain ⟨hs, hp, hq, n, s, h4, h5, h6, hk⟩ := h
  have hA := aft_cell hk.1
  have m0 := hk.2.1 0 _ rfl
  have m1 := hk.2.1 1 _ rfl
  have m2 := hk.2.1 2 _ rfl
  by_cases hlt : n < q.l.length
  · obtain ⟨b, off, eA⟩ := hs.addr (by omega)
    have hs' := hs
    rw [eA] at hs' m0
    obtain ⟨hbl, hc⟩ := Sl.get hs' hlt
    have c0 := hc 0 _ rfl
    simp only [Nat.mul_one, Nat.add_zero] at c0
    have hr := (q.l[n]).toNat_lt
    have u1 : (0 : Int) ≤ (n : Int) := by omega
    have u2 : (n : Int) < (q.l.length : Int) := by omega
    have hbp := hp (by omega) _ eA
    have HC := Lib.hid c0
    clear hc hs' c0
    go_enter Try.func99, Try.ntmps99
    go_wp2_with (fail)
    refine wp_region_aft (by kernel_rfl) (by kernel_rfl) ?_
    repeat (go_big_quiet_step ((fail)))
    refine wpQuiet_nil ?_
    intro w9 b9
    have hk9 := hk.below b9
    rw [eA] at hk9
    clear m0 m1 m2 hA
    have m0 := hk9.2.1 0 _ rfl
    have m1 := hk9.2.1 1 _ rfl
    have m2 := hk9.2.1 2 _ rfl
    have hA := aft_cell hk9.1
    have hbl9 := Nat.lt_of_lt_of_le hbl b9.size
    have d0 := (b9.cell (p := ⟨b, off + n, none⟩) hbl).trans HC.out
    have hB := aft_cell hbl9
    go_wp2_with (fail)
    have B9 := Lib.hid b9
    clear b9
    refine wp_region_aft (by kernel_rfl) (by kernel_rfl) ?_
    repeat (go_big_quiet_step ((fail)))
    refine wpQuiet_nil ?_
    intro w9 b9
    have b9 := bth B9.out b9
    have hk9 := hk.below b9
    clear m0 m1 m2 hA d0 hB
    have m0 := hk9.2.1 0 _ rfl
    have m1 := hk9.2.1 1 _ rfl
    have m2 := hk9.2.1 2 _ rfl
    have f1 := hk9.2.2 1
    have f2 := hk9.2.2 2
    have hz9 := hk9.1
    go_wp2_with (fail)
    generalize hW : World.setCell (World.setCell w9 _ _) _ _ = W2
    obtain ⟨S, hS0, hS1, kk, ll⟩ : ∃ S : Int, 0 ≤ S ∧ S < 18446744073709551616 ∧ Bk W2 p [.slice q.A q.l.length q.c, .int .i64 ((n + 1 : Nat) : Int), .int .u64 S] ∧ LB p w.heap.size w W2 := by
      rw [← hW]
      exact ⟨_, (u64r _).1, (u64r _).2, (hk9.cset 1 (.int .i64 ((n + 1 : Nat) : Int)) (by simp)).cset 2 _ (by simp), (LB.of b9).trans ((LB.set _).trans (LB.set _))⟩
    clear m0 m1 m2 hW
    have m0 := kk.2.1 0 _ rfl
    have m1 := kk.2.1 1 _ rfl
    have m2 := kk.2.1 2 _ rfl
    have hC := aft_cell kk.1
    have B9 := Lib.hid b9
    clear b9
    refine wp_region_aft (by kernel_rfl) (by kernel_rfl) ?_
    repeat (go_big_quiet_step ((fail)))
    refine wpQuiet_nil ?_
    intro w9 b9
    have k3 := kk.below b9
    go_wp2_with (fail)
    go_ret
    have lf := ll.trans (LB.of (b9.mono ll.size))
    exact ⟨_, rfl, ⟨by omega, by simp at hr; omega⟩, ⟨hs.lb lf (fun h0 a ha => by have := hp h0 a ha; omega), hp, hq, n + 1, S, by omega, hS0, hS1, k3⟩, lf⟩
  · go_enter Try.func99, Try.ntmps99
    go_wp2_with (fail)
    refine wp_region_aft (by kernel_rfl) (by kernel_rfl) ?_
    repeat (go_big_quiet_step ((fail)))
    refine wpQuiet_nil ?_
    intro w9 b9
    have hk9 := hk.below b9
    clear m0 m1 m2 hA
    have m0 := hk9.2.1 0 _ rfl
    have m1 := hk9.2.1 1 _ rfl
    have m2 := hk9.2.1 2 _ rfl
    have f1 := hk9.2.2 1
    have f2 := hk9.2.2 2
    have hz9 := hk9.1
    go_wp2_with (fail)
    generalize hW : World.setCell (World.setCell w9 _ _) _ _ = W2
    obtain ⟨S, hS0, hS1, kk, ll⟩ : ∃ S : Int, 0 ≤ S ∧ S < 18446744073709551616 ∧ Bk W2 p [.slice q.A q.l.length q.c, .int .i64 ((n + 1 : Nat) : Int), .int .u64 S] ∧ LB p w.heap.size w W2 := by
      rw [← hW]
      exact ⟨_, (u64r _).1, (u64r _).2, (hk9.cset 1 (.int .i64 ((n + 1 : Nat) : Int)) (by simp)).cset 2 _ (by simp), (LB.of b9).trans ((LB.set _).trans (LB.set _))⟩
    clear m0 m1 m2 hW
    have m0 := kk.2.1 0 _ rfl
    have m1 := kk.2.1 1 _ rfl
    have m2 := kk.2.1 2 _ rfl
    have hC := aft_cell kk.1
    have B9 := Lib.hid b9
    clear b9
    refine wp_region_aft (by kernel_rfl) (by kernel_rfl) ?_
    repeat (go_big_quiet_step ((fail)))
    refine wpQuiet_nil ?_
    intro w9 b9
    have k3 := kk.below b9
    have m3 := k3.2.1 2 _ rfl
    go_wp2_with (fail)
    go_ret
    have lf := ll.trans (LB.of (b9.mono ll.size))
    exact ⟨_, rfl, and255 (by omega) (by omega), ⟨hs.lb lf (fun h0 a ha => by have := hp h0 a ha; omega), hp, hq, n + 1, S, by omega, hS0, hS1, k3⟩, lf⟩
/-- Reads a choice: 0 to n - 1. -/
theorem dPick0 (p : Nat) (q : Cd) (m : Nat) (k : Int) (w : World) (h : Cu p q m w) (hm : m ≤ 900000000) (hk : k ≤ 1048577) :
    Calls Try.prog 84 #[.pointer (some ⟨p, 0, none⟩), .int .i64 k] w fun e w' => ∃ r : Int, e = .returned (.int .i64 r) ∧ (0 ≤ r ∧ r < max k 1) ∧ Cu p q (m + 2) w' ∧ LB p w.heap.size w w' := by
  by_cases h1 : k ≤ 1
  · go_enter Try.func84, Try.ntmps84
    go_wp2_with (fail)
    go_ret
    exact ⟨0, rfl, by omega, h.mono (by omega), LB.of (Below.refl _ _)⟩
  · have k0 : k ≠ 0 := by omega
    by_cases h2 : k ≤ 200
    · have h3 : ¬ (200 < k) := by omega
      go_enter Try.func84, Try.ntmps84
      go_wp2_with (fail)
      refine (dNext0 p q m _ h (by omega)).mono ?_; rintro e w1 ⟨r, rfl, hr, c1, l1⟩
      go_wp2_with (fail)
      go_ret
      refine ⟨_, rfl, ?_, c1.mono (by omega), l1⟩
      have := Int.emod_nonneg r k0
      have := Int.emod_lt_of_pos r (show 0 < k by omega)
      omega
    · have h3 : 200 < k := by omega
      go_enter Try.func84, Try.ntmps84
      go_wp2_with (fail)
      refine (dNext0 p q m _ h (by omega)).mono ?_; rintro e w1 ⟨r, rfl, hr, c1, l1⟩
      go_wp2_with (fail)
      refine (dNext0 p q (m + 1) _ c1 (by omega)).mono ?_; rintro e w2 ⟨s, rfl, hs, c2, l2⟩
      go_wp2_with (fail)
      go_ret
      refine ⟨_, rfl, ?_, c2, l1.trans (l2.mono l1.size)⟩
      have := Int.emod_nonneg (r * 256 + s) k0
      have := Int.emod_lt_of_pos (r * 256 + s) (show 0 < k by omega)
      omega
theorem dPick {p B : Nat} {q : Cd} {m : Nat} {w0 w5 w : World} (h : Dr p B q m w0 w5) (hg : Below w5.heap.size w5 w) (hm : m ≤ 900000000) (k : Int) (hk : k ≤ 1048577) :
    Calls Try.prog 84 #[.pointer (some ⟨p, 0, none⟩), .int .i64 k] w (drI p B q (m + 2) w0 w (fun r => 0 ≤ r ∧ r < max k 1)) :=
  (dPick0 p q m k w (h.grown hg).cu hm hk).mono fun _ _ ⟨r, he, hr, hc, hl⟩ => ⟨r, he, hr, (h.grown hg).step hc hl, hl⟩
theorem dOne {p B : Nat} {q : Cd} {m : Nat} {w0 w5 w : World} (h : Dr p B q m w0 w5) (hg : Below w5.heap.size w5 w) (hm : m ≤ 900000000) (k : Int) (hk : k ≤ 1048577) :
    Calls Try.prog 88 #[.pointer (some ⟨p, 0, none⟩), .int .i64 k] w fun e w' => ∃ b : Bool, e = .returned (.bool b) ∧ Dr p B q (m + 2) w0 w' ∧ LB p w.heap.size w w' := by
  go_enter Try.func88, Try.ntmps88
  go_wp2_with (fail)
  refine (dPick h hg hm k hk).mono ?_; rintro e w1 ⟨r, rfl, hr, D, hl⟩
  go_wp2_with (fail)
  go_ret
  exact ⟨_, rfl, D, hl⟩
/-- The first n cells at that address are ints. -/
def Ints (w : World) (g off n : Nat) : Prop := ∀ i, i < n → ∃ z : Int, w.cell? ⟨g, off + i, none⟩ = some (.int .i64 z)
def isI : Value → Bool
  | .int .i64 _ => true
  | _ => false
theorem ints_app {W : World} {cs : Array Value} {t g n : Nat} (hg : g = W.heap.size) (hn : n ≤ cs.size) (h : cs.all isI = true) : Ints (W.alloc (.cells cs t)) g 0 n := by
  intro i hi
  have hi' : i < cs.size := by omega
  have hv := Array.all_eq_true.1 h i hi'
  have hc : (W.alloc (.cells cs t)).cell? ⟨g, 0 + i, none⟩ = some cs[i] := app_cell hg (by simp [hi'])
  rw [hc]
  cases hcs : cs[i] with
  | int k z =>
    rw [hcs] at hv
    cases k <;> simp [isI] at hv
    exact ⟨z, rfl⟩
  | _ => rw [hcs] at hv; simp [isI] at hv
theorem Ints.lb {p g off n n' : Nat} {w w' : World} (h : Ints w g off n) (hl : LB p w.heap.size w w') (hg : g < w.heap.size) (hp : g ≠ p) (hn : n' ≤ n) : Ints w' g off n' := fun i hi => by
  obtain ⟨z, hz⟩ := h i (by omega)
  exact ⟨z, (hl.cell hg hp _).trans hz⟩
/-- One of some ints, of which there is one at least. -/
theorem dAmong {p B : Nat} {q : Cd} {m : Nat} {w0 w5 w : World} (h : Dr p B q m w0 w5) (hg : Below w5.heap.size w5 w) (hm : m ≤ 900000000) (g off n c : Nat) (hp : g ≠ p) (hgl : g < w.heap.size) (hI : Ints w g off n) (h1 : 1 ≤ n) (hn : n ≤ 1000) :
    Calls Try.prog 83 #[.pointer (some ⟨p, 0, none⟩), .slice (some ⟨g, off, none⟩) n c] w (drI p B q (m + 2) w0 w (fun _ => True)) := by
  go_enter Try.func83, Try.ntmps83
  go_wp2_with (fail)
  refine (dPick h hg hm _ (by omega)).mono ?_; rintro e w1 ⟨r, rfl, hr, D, hl⟩
  obtain ⟨j, rfl⟩ : ∃ j : Nat, r = (j : Int) := ⟨r.toNat, by omega⟩
  have hj : j < n := by omega
  have u1 : (0 : Int) ≤ (j : Int) := by omega
  have u2 : (j : Int) < (n : Int) := by omega
  obtain ⟨z, hz⟩ := hI.lb hl hgl hp (Nat.le_refl _) j hj
  go_wp2_with (fail)
  go_ret
  exact ⟨z, rfl, trivial, D, hl⟩
/-- The same, the ints made just ahead. -/
theorem dAmongN {p B : Nat} {q : Cd} {m : Nat} {w0 w5 W : World} (h : Dr p B q m w0 w5) (hg : Below w5.heap.size w5 W) (hm : m ≤ 900000000) {cs : Array Value} {t g n c : Nat} (hgW : g = W.heap.size) (h1 : 1 ≤ n) (hn : n ≤ 1000) (hcs : n ≤ cs.size) (hall : cs.all isI = true) :
    Calls Try.prog 83 #[.pointer (some ⟨p, 0, none⟩), .slice (some ⟨g, 0, none⟩) n c] (W.alloc (.cells cs t)) (drI p B q (m + 2) w0 (W.alloc (.cells cs t)) (fun _ => True)) :=
  dAmong h (bth hg (below_alloc _ _)) hm g 0 n c (by have := h.lt; have := hg.size; omega) (by subst hgW; simp) (ints_app hgW hcs hall) h1 hn
/-- A store into a block behind the cursor. -/
theorem Dr.set {p B m : Nat} {q : Cd} {w0 w : World} (h : Dr p B q m w0 w) {g o : Nat} (hg : p < g) (v : Value) : Dr p B q m w0 (w.setCell ⟨g, o, none⟩ v) :=
  h.belowB (C := g) ((Below.refl _ _).setCell (p := ⟨g, o, none⟩) (Nat.le_refl _) v) hg
theorem LB.setC {p B : Nat} {w w' : World} (h : LB p B w w') {g o : Nat} (hg : B ≤ g) (v : Value) : LB p B w (w'.setCell ⟨g, o, none⟩ v) :=
  h.trans (LB.of ((Below.refl _ _).setCell (p := ⟨g, o, none⟩) hg v))
theorem Dr.sets {p B m : Nat} {q : Cd} {w0 w : World} (h : Dr p B q m w0 w) {g : Nat} (hg : p < g) (vs : List Value) (o : Nat) : Dr p B q m w0 (w.setCells g o vs) :=
  h.belowB (C := g) (bset (Below.refl _ _) (Nat.le_refl _) vs o) hg
theorem LB.sets {p B : Nat} {w w' : World} (h : LB p B w w') {g : Nat} (hg : B ≤ g) (vs : List Value) (o : Nat) : LB p B w (w'.setCells g o vs) :=
  h.trans (LB.of (bset (Below.refl _ _) hg vs o))
theorem Bk.csetF {w : World} {g g' o : Nat} {cs : List Value} (h : Bk w g cs) (hne : g ≠ g') (v : Value) : Bk (w.setCell ⟨g', o, none⟩ v) g cs := h.far hne [v] o
theorem LB.grown {p : Nat} {w w' w2 : World} (h : LB p w.heap.size w w') (hb : Below w'.heap.size w' w2) : LB p w.heap.size w w2 := h.trans (LB.of (hb.mono h.size))
/-- Behind a call: what lay at a letter lies on. -/
theorem LB.next {p : Nat} {w w5 W w1 : World} (h : LB p w.heap.size w w5) (hb : Below w5.heap.size w5 W) (hl : LB p W.heap.size W w1) : LB p w.heap.size w w1 :=
  (h.grown hb).trans (hl.mono (by have := h.size; have := hb.size; omega))
end Go.Proofs.Ytfmlfeokdaahmaa
