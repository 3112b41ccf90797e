/- Marks on casts, as the laws set and read them. At most 1048576 layers. -/
import Derived.Test.YtfmlfeokdaahmaaS7a
import Derived.Test.YtfmlfeokdaahmaaMore
set_option linter.unusedVariables false
set_option linter.unusedSimpArgs false
namespace Go.Proofs.Ytfmlfeokdaahmaa
open Go.RowKit
set_option maxHeartbeats 1000000
set_option maxRecDepth 100000
/-- Nothing but the slice's own block has changed among what was there. -/
structure OnlyG (A : Option Addr) (n : Nat) (w w' : World) : Prop where
  os : w'.os = w.os
  tape : w'.tape = w.tape
  output : w'.output = w.output
  size : w.heap.size ≤ w'.heap.size
  block : ∀ k, k < w.heap.size → (0 < n → ∀ a, A = some a → a.block ≠ k) → w'.heap[k]? = w.heap[k]?
theorem OnlyG.of {A : Option Addr} {n : Nat} {w W1 w' : World} (b : Below w.heap.size w W1) (h : OnlyN A n W1 w') : OnlyG A n w w' :=
  ⟨h.os.trans b.os, h.tape.trans b.tape, h.output.trans b.output, by rw [h.size]; exact b.size, fun k hk hne => (h.block k hne).trans (b.block k hk)⟩
theorem OnlyG.below {A : Option Addr} {n B : Nat} {a w w' : World} (h : OnlyG A n w w') (hb : Below B a w) (hw : B ≤ w.heap.size) (hB : 0 < n → ∀ x, A = some x → B ≤ x.block) : Below B a w' :=
  ⟨h.os.trans hb.os, h.tape.trans hb.tape, h.output.trans hb.output, Nat.le_trans hb.size h.size, fun k hk => (h.block k (by omega) (fun hn x hx => by have := hB hn x hx; omega)).trans (hb.block k hk)⟩
theorem Bk.onlyG {A : Option Addr} {n g : Nat} {w w' : World} {cs : List Value} (h : Bk w g cs) (ho : OnlyG A n w w') (hne : 0 < n → ∀ a, A = some a → a.block ≠ g) : Bk w' g cs := by
  have hb := ho.block g h.1 hne
  exact ⟨Nat.lt_of_lt_of_le h.1 ho.size, fun i v hv => (World.cell?_of_block (w := w) hb).trans (h.2.1 i v hv), fun i => (World.frozen?_of_block (w := w) hb).trans (h.2.2 i)⟩
theorem Sl.onlyG {α : Type} {K : Nat} {enc : α → List Value} {w w' : World} {A A' : Option Addr} {n : Nat} {l : List α} (hs : Sl K enc w A' l) (h : OnlyG A n w w')
    (hd : 0 < n → 0 < l.length → ∀ a a', A = some a → A' = some a' → a.block ≠ a'.block) : Sl K enc w' A' l := by
  intro hl
  obtain ⟨b, off, e, hlt, hc⟩ := hs hl
  refine ⟨b, off, e, Nat.lt_of_lt_of_le hlt h.size, fun i x hx j v hv => ?_⟩
  rw [← hc i x hx j v hv]
  exact World.cell?_of_block (w := w) (h.block b hlt (fun hn a ha => hd hn hl a _ ha e))
theorem Own.onlyG {K n m : Nat} {w w' : World} {A A' : Option Addr} (hA : Own K w A' m) (h : OnlyG A n w w') (hd : 0 < m → 0 < n → ∀ a a', A = some a → A' = some a' → a.block ≠ a'.block) : Own K w' A' m := fun hm => by
  obtain ⟨g, e, h1, h2, h3⟩ := hA hm
  have hb := h.block g h1 (fun hn a ha => hd hm hn a _ ha e)
  exact ⟨g, e, Nat.lt_of_lt_of_le h1 h.size, fun i hi => by obtain ⟨v, hv⟩ := h2 i hi; exact ⟨v, (World.cell?_of_block (w := w) hb).trans hv⟩, fun i => (World.frozen?_of_block (w := w) hb).trans (h3 i)⟩
theorem markCt (t : Ct) (A : Option Addr) (c : Nat) (w : World) (h : Own 2 w A t.lay.length) (hn : t.lay.length ≤ 1048576) :
    Calls Try.prog 28 #[.agg #[.int .i64 t.id, .int .i64 t.time, .int .i64 t.x, .int .i64 t.y, .slice A t.lay.length c], .int .i64 1] w fun e w' => e = .returned (.int .i64 (1 + (t.lay.length : Int) * 2)) ∧ OnlyG A t.lay.length w w' ∧ Sl 2 Ly.enc w' A (Ly.mk_ t.lay.length) ∧ Own 2 w' A t.lay.length := by
  go_enter Try.func28, Try.ntmps28
  go_wp2_with (fail)
  generalize hW : World.alloc w _ = W1
  obtain ⟨bW, kW, _⟩ := alloc_facts hW
  clear hW
  have c4 := kW.2.1 4 _ rfl
  refine (markLyS A c t.lay.length _ (h.below bW) hn).mono ?_; rintro e w1 ⟨rfl, o1, s1, q1⟩
  go_wp2_with (fail)
  go_ret
  exact ⟨rfl, OnlyG.of bW o1, s1, q1⟩
theorem heldCt (t : Ct) (A : Option Addr) (c : Nat) (w : World) (h : Sl 2 Ly.enc w A (Ly.mk_ t.lay.length)) (hn : t.lay.length ≤ 1048576) :
    Calls Try.prog 29 #[.agg #[.int .i64 t.id, .int .i64 t.time, .int .i64 t.x, .int .i64 t.y, .slice A t.lay.length c], .int .i64 1] w fun e w' => e = .returned (.int .i64 (1 + (t.lay.length : Int) * 2)) ∧ Below w.heap.size w w' := by
  have h1 : ¬ (1 + (t.lay.length : Int) * 2 < 0) := by omega
  go_enter Try.func29, Try.ntmps29
  go_wp2_with (fail)
  generalize hW : World.alloc w _ = W1
  obtain ⟨bW, kW, _⟩ := alloc_facts hW
  clear hW
  have c4 := kW.2.1 4 _ rfl
  refine (heldLyS A c t.lay.length _ (h.below bW) hn).mono ?_; rintro e w1 ⟨rfl, rfl⟩
  go_wp2_with (fail)
  go_ret
  exact ⟨rfl, bW⟩
end Go.Proofs.Ytfmlfeokdaahmaa
