/- Words and small lemmas for the walks of this seat: a slice of structs that reads as a list; steps of 'Below'. -/
import Derived.WalkKit
import Derived.ProofKit
import Derived.OpenShut
import Derived.Handy
import Derived.Below
import Derived.Lib.Hide
import Derived.WalkLawsBesides
import Derived.WalkSpells
import Derived.Deep.QuietTactic
import Derived.BigQuiet
import Derived.Deep.Draws
import Derived.Laws.IdiomCopy
import Derived.Laws.MakeOwn
import Derived.StillTailTactics
import Derived.Deep.RegionHeld3
set_option linter.unusedVariables false
set_option linter.unusedSimpArgs false
namespace Go.Proofs.Ytfmlfeokdaahmaa
open Go.RowKit

/-- The address A leads to the rows of K cells that the list l stands for; they lie below the heap's size. -/
def Sl {α : Type} (K : Nat) (enc : α → List Value) (w : World) (A : Option Addr) (l : List α) : Prop :=
  0 < l.length → ∃ b off, A = some ⟨b, off, none⟩ ∧ b < w.heap.size ∧
    ∀ i x, l[i]? = some x → ∀ j v, (enc x)[j]? = some v → w.cell? ⟨b, off + i * K + j, none⟩ = some v

theorem Sl.below {α : Type} {K : Nat} {enc : α → List Value} {w w' : World} {A : Option Addr} {l : List α} (h : Sl K enc w A l) (hb : Below w.heap.size w w') : Sl K enc w' A l := by
  intro hl
  obtain ⟨b, off, e, hlt, hc⟩ := h hl
  exact ⟨b, off, e, Nat.lt_of_lt_of_le hlt hb.size, fun i x hx j v hv => (hb.cell (p := ⟨b, off + i * K + j, none⟩) hlt).trans (hc i x hx j v hv)⟩

theorem Sl.nil {α : Type} {K : Nat} {enc : α → List Value} {w : World} {A : Option Addr} : Sl K enc w A [] := fun h => absurd h (by simp)

theorem Sl.addr {α : Type} {K : Nat} {enc : α → List Value} {w : World} {A : Option Addr} {l : List α} (h : Sl K enc w A l) (hl : 0 < l.length) : ∃ b off, A = some ⟨b, off, none⟩ := by
  obtain ⟨b, off, e, _⟩ := h hl
  exact ⟨b, off, e⟩

/-- Element k of such a slice. -/
theorem Sl.get {α : Type} {K : Nat} {enc : α → List Value} {w : World} {b off : Nat} {l : List α} (h : Sl K enc w (some ⟨b, off, none⟩) l) {k : Nat} (hk : k < l.length) :
    b < w.heap.size ∧ ∀ j v, (enc l[k])[j]? = some v → w.cell? ⟨b, off + k * K + j, none⟩ = some v := by
  obtain ⟨b', off', e, hlt, hc⟩ := h (by omega)
  injection e with e; injection e with e1 e2
  subst e1 e2
  exact ⟨hlt, fun j v hv => hc k _ (List.getElem?_eq_getElem hk) j v hv⟩

theorem bdrew {B : Nat} {a w : World} (h : Below B a w) (n : Nat) : Below B a (w.drewN n) := ⟨h.os, h.tape, h.output, h.size, h.block⟩

theorem bcell {W w1 : World} (hb : Below W.heap.size W w1) : (∀ b o, b < W.heap.size → w1.cell? ⟨b, o, none⟩ = W.cell? ⟨b, o, none⟩) ∧ (∀ b o, b < W.heap.size → w1.frozen? ⟨b, o, none⟩ = W.frozen? ⟨b, o, none⟩) :=
  ⟨fun b o h => hb.cell (p := ⟨b, o, none⟩) h, fun b o h => hb.frozen (p := ⟨b, o, none⟩) h⟩

theorem bth {a b c : World} (h : Below a.heap.size a b) (k : Below b.heap.size b c) : Below a.heap.size a c := h.trans (k.mono h.size)

/-- Block g holds the cells cs (at its head), and none of its cells is frozen. -/
def Bk (w : World) (g : Nat) (cs : List Value) : Prop :=
  g < w.heap.size ∧ (∀ i v, cs[i]? = some v → w.cell? ⟨g, i, none⟩ = some v) ∧ ∀ i, w.frozen? ⟨g, i, none⟩ = false

theorem Bk.below {w w' : World} {g : Nat} {cs : List Value} (h : Bk w g cs) (hb : Below w.heap.size w w') : Bk w' g cs :=
  ⟨Nat.lt_of_lt_of_le h.1 hb.size, fun i v hv => (hb.cell (p := ⟨g, i, none⟩) h.1).trans (h.2.1 i v hv), fun i => (hb.frozen (p := ⟨g, i, none⟩) h.1).trans (h.2.2 i)⟩

theorem below_alloc (w : World) (o : Obj) : Below w.heap.size w (w.alloc o) := (Below.refl _ _).alloc (Nat.le_refl _) o

theorem Bk.new (w : World) (cs : List Value) (t : TypeId) : Bk (w.alloc (.cells cs.toArray t)) w.heap.size cs := by
  refine ⟨by simp, fun i v hv => ?_, fun i => World.frozen?_alloc_new _ _ _ _⟩
  rw [World.cell?_alloc_new]; simpa using hv

/-- A world with one block more, by facts alone. -/
theorem alloc_facts {w W : World} {cs : Array Value} {t : TypeId} (h : w.alloc (.cells cs t) = W) : Below w.heap.size w W ∧ Bk W w.heap.size cs.toList ∧ w.heap.size < W.heap.size := by
  subst h
  exact ⟨below_alloc _ _, Bk.new w cs.toList t, by simp⟩

/-- Block g has n cells, none of its cells is frozen. -/
def Ar (w : World) (g n : Nat) : Prop := g < w.heap.size ∧ (∀ i, i < n → ∃ v, w.cell? ⟨g, i, none⟩ = some v) ∧ ∀ i, w.frozen? ⟨g, i, none⟩ = false

theorem Ar.below {w w' : World} {g n : Nat} (h : Ar w g n) (hb : Below w.heap.size w w') : Ar w' g n :=
  ⟨Nat.lt_of_lt_of_le h.1 hb.size, fun i hi => by obtain ⟨v, hv⟩ := h.2.1 i hi; exact ⟨v, (hb.cell (p := ⟨g, i, none⟩) h.1).trans hv⟩, fun i => (hb.frozen (p := ⟨g, i, none⟩) h.1).trans (h.2.2 i)⟩

theorem size_setCells (b : Nat) : ∀ (vs : List Value) (o : Nat) (w : World), (w.setCells b o vs).heap.size = w.heap.size
  | [], _, _ => rfl
  | v :: r, o, w => by rw [World.setCells, size_setCells b r, World.size_setCell]

theorem Ar.put {w : World} {g n : Nat} (h : Ar w g n) (vs : List Value) (o : Nat) (ho : o + vs.length ≤ n) : Ar (w.setCells g o vs) g n := by
  refine ⟨by rw [size_setCells]; exact h.1, fun i hi => ?_, fun i => by rw [World.frozen?_setCells]; exact h.2.2 i⟩
  by_cases hin : o ≤ i ∧ i < o + vs.length
  · obtain ⟨j, rfl⟩ : ∃ j, i = o + j := ⟨i - o, by omega⟩
    exact ⟨_, World.cell?_setCells_in g vs o w (fun j hj => by obtain ⟨v, hv⟩ := h.2.1 (o + j) (by omega); rw [hv]; rfl) j (by omega)⟩
  · rw [World.cell?_setCells_out g vs o w _ (fun _ _ => by show i < o ∨ o + vs.length ≤ i; omega)]
    exact h.2.1 i hi

theorem bset {B : Nat} {a w : World} (h : Below B a w) {g : Nat} (hg : B ≤ g) : ∀ (vs : List Value) (o : Nat), Below B a (w.setCells g o vs) := by
  intro vs
  induction vs generalizing w with
  | nil => intro o; exact h
  | cons v r ih => intro o; rw [World.setCells]; exact ih (h.setCell (p := ⟨g, o, none⟩) hg v) (o + 1)

/-- One row more is stored. -/
theorem Sl.put {α : Type} {K : Nat} {enc : α → List Value} {w : World} {g : Nat} {l : List α} {k : Nat} (h : Sl K enc w (some ⟨g, 0, none⟩) (l.take k)) (hA : Ar w g (l.length * K)) (hk : k < l.length) (hK : ∀ x, (enc x).length = K) :
    Sl K enc (w.setCells g (k * K) (enc l[k])) (some ⟨g, 0, none⟩) (l.take (k + 1)) := by
  intro _
  refine ⟨g, 0, rfl, by rw [size_setCells]; exact hA.1, fun i x hx j v hv => ?_⟩
  have hj : j < K := by rw [← hK x]; exact (List.getElem?_eq_some_iff.1 hv).1
  have hi : i < k + 1 := by have := (List.getElem?_eq_some_iff.1 hx).1; simp at this; omega
  have hx' : l[i]? = some x := by rw [List.getElem?_take] at hx; simpa [hi] using hx
  by_cases e : i = k
  · subst e
    have hl : l[i] = x := by rw [List.getElem?_eq_getElem hk] at hx'; injection hx'
    subst hl
    rw [Nat.zero_add]
    have := World.cell?_setCells_in g (enc l[i]) (i * K) w (fun j hj => by
      have : i * K + j < l.length * K := by
        have h1 : (i + 1) * K ≤ l.length * K := Nat.mul_le_mul_right K hk
        rw [Nat.succ_mul] at h1
        have := hK l[i]; omega
      obtain ⟨v, hv⟩ := hA.2.1 _ this; rw [hv]; rfl) j (by rw [hK]; exact hj)
    rw [this]
    exact hv ▸ (List.getElem?_eq_getElem (by rw [hK]; exact hj)).symm
  · have hik : i < k := by omega
    have h1 : (i + 1) * K ≤ k * K := Nat.mul_le_mul_right K hik
    rw [Nat.succ_mul] at h1
    rw [World.cell?_setCells_out g (enc l[k]) (k * K) w _ (fun _ _ => by show 0 + i * K + j < k * K ∨ _; omega)]
    obtain ⟨b, off, e', _, hc⟩ := h (by simp; omega)
    injection e' with e'; injection e' with e1 e2
    subst e1 e2
    exact hc i x (by rw [List.getElem?_take]; simpa [hik] using hx') j v hv

/-- A slice of structs that the call has made: whole, of its own. -/
def Mk {α : Type} (K : Nat) (enc : α → List Value) (w w' : World) (g : Nat) (l : List α) : Prop :=
  w.heap.size ≤ g ∧ Below w.heap.size w w' ∧ Sl K enc w' (some ⟨g, 0, none⟩) l ∧ Ar w' g (l.length * K)

theorem run_make_rows {P : Program} (t e : TypeId) (z : Value) (size bytes : Nat) (ht : P.underlying t = some (.slice e)) (hi : (P.info? e).map (fun i => (i.zero, i.size, i.bytes)) = some (some z, size, bytes))
    (n : Nat) (hbytes : bytes * n ≤ 281474976710656) (h63 : n ≤ 9223372036854775807) (w : World) :
    (Instr.makeSlice t (.int .i64 (n : Int)) (.int .i64 (n : Int))).run P w = .ok (.slice (some ⟨w.heap.size, 0, none⟩) n n) (w.alloc (.cells (madeCells z.cells (n * size)) e)) := by
  obtain ⟨i, h1, h2, h3, h4⟩ := info_parts hi
  subst h3 h4
  have hr := run_make (P := P) w t e i z ht h1 h2 .i64 .i64 n n (by omega) (by omega) (by rw [← Int.natCast_mul]; omega) (by omega)
  simp only [Int.toNat_natCast] at hr
  exact hr

theorem Ar.new (w : World) (cs : Array Value) (t : TypeId) : Ar (w.alloc (.cells cs t)) w.heap.size cs.size :=
  ⟨by simp, fun i hi => ⟨_, by rw [World.cell?_alloc_new]; exact Array.getElem?_eq_getElem hi⟩, fun i => World.frozen?_alloc_new _ _ _ _⟩
theorem Ar.made (w : World) (z : Array Value) (n : Nat) (t : TypeId) : Ar (w.alloc (.cells (madeCells z n) t)) w.heap.size n := by
  have := Ar.new w (madeCells z n) t
  rwa [size_madeCells] at this

theorem made_facts {w W : World} {z : Array Value} {n : Nat} {t : TypeId} (h : w.alloc (.cells (madeCells z n) t) = W) : Below w.heap.size w W ∧ Ar W w.heap.size n ∧ w.heap.size < W.heap.size := by
  subst h
  exact ⟨below_alloc _ _, Ar.made _ _ _ _, by simp⟩

theorem ret_int {k : IntKind} {a b : Int} (h : a = b) : Ending.returned (.int k a) = .returned (.int k b) := by rw [h]
theorem ret_t2 {a b a' b' : Value} (h1 : a = a') (h2 : b = b') : Ending.returned (.tuple #[a, b]) = .returned (.tuple #[a', b']) := by rw [h1, h2]
theorem ret_t3 {a b c a' b' c' : Value} (h1 : a = a') (h2 : b = b') (h3 : c = c') : Ending.returned (.tuple #[a, b, c]) = .returned (.tuple #[a', b', c']) := by rw [h1, h2, h3]
theorem vi {a b : Int} (h : a = b) : Value.int .i64 a = .int .i64 b := by rw [h]
theorem vb {a b : Bool} (h : a = b) : Value.bool a = .bool b := by rw [h]
theorem ret_bool {a b : Bool} (h : a = b) : Ending.returned (.bool a) = .returned (.bool b) := by rw [h]

/-- low ≤ n ≤ high, as a test. -/
@[irreducible] def inB (n low high : Int) : Bool := decide (low ≤ n) && decide (n ≤ high)
theorem inB_true {n low high : Int} : inB n low high = true ↔ low ≤ n ∧ n ≤ high := by unfold inB; simp
theorem inB_false {n low high : Int} : inB n low high = false ↔ ¬ (low ≤ n ∧ n ≤ high) := by
  rw [← inB_true]; simp
/-- A slice of n rows of K cells that may be written: at the head of a block. -/
def Own (K : Nat) (w : World) (A : Option Addr) (n : Nat) : Prop := 0 < n → ∃ g, A = some ⟨g, 0, none⟩ ∧ Ar w g (n * K)
/-- Nothing but the slice's own block has changed; if it is empty, nothing. -/
structure OnlyN (A : Option Addr) (n : Nat) (w w' : World) : Prop where
  os : w'.os = w.os
  tape : w'.tape = w.tape
  output : w'.output = w.output
  size : w'.heap.size = w.heap.size
  block : ∀ k, (0 < n → ∀ a, A = some a → a.block ≠ k) → w'.heap[k]? = w.heap[k]?
theorem OnlyN.refl (A : Option Addr) (n : Nat) (w : World) : OnlyN A n w w := ⟨rfl, rfl, rfl, rfl, fun _ _ => rfl⟩
theorem OnlyN.put {g n : Nat} {w w' : World} (h : OnlyN (some ⟨g, 0, none⟩) n w w') (hn : 0 < n) : ∀ (vs : List Value) (o : Nat), OnlyN (some ⟨g, 0, none⟩) n w (w'.setCells g o vs) := by
  intro vs
  induction vs generalizing w' with
  | nil => intro o; exact h
  | cons v r ih =>
    intro o
    rw [World.setCells]
    refine ih (w' := w'.setCell ⟨g, o, none⟩ v) ⟨h.os, h.tape, h.output, (World.size_setCell ..).trans h.size, fun k hk => ?_⟩ (o + 1)
    have hne : k ≠ g := fun e => hk hn _ rfl e.symm
    exact (Below.heap_setCell w' ⟨g, o, none⟩ v k hne).trans (h.block k hk)
/-- What lies elsewhere is as it was. -/
theorem OnlyN.below {A : Option Addr} {n B : Nat} {a w w' : World} (h : OnlyN A n w w') (hb : Below B a w) (hB : 0 < n → ∀ x, A = some x → B ≤ x.block) : Below B a w' :=
  ⟨h.os.trans hb.os, h.tape.trans hb.tape, h.output.trans hb.output, by rw [h.size]; exact hb.size, fun k hk => (h.block k (fun hn x hx => by have := hB hn x hx; omega)).trans (hb.block k hk)⟩
theorem Sl.only {α : Type} {K : Nat} {enc : α → List Value} {w w' : World} {A A' : Option Addr} {n : Nat} {l : List α} (hs : Sl K enc w A' l) (h : OnlyN A n w w')
    (hd : 0 < n → 0 < l.length → ∀ a a', A = some a → A' = some a' → a.block ≠ a'.block) : Sl K enc w' A' l := by
  intro hl
  obtain ⟨b, off, e, hlt, hc⟩ := hs hl
  refine ⟨b, off, e, by rw [h.size]; exact hlt, fun i x hx j v hv => ?_⟩
  rw [← hc i x hx j v hv]
  exact World.cell?_of_block (w := w) (h.block b (fun hn a ha => hd hn hl a _ ha e))

theorem app_cell {W : World} {cs : Array Value} {t g j : Nat} {u : Value} (hg : g = W.heap.size) (hu : cs.toList[j]? = some u) : (W.alloc (.cells cs t)).cell? ⟨g, j, none⟩ = some u := by
  subst hg
  rw [World.cell?_alloc_new]; simpa using hu
/-- A number without its sign. -/
@[irreducible] def ab (n : Int) : Int := (n.natAbs : Int)
theorem ab_neg {n : Int} (h : n < 0) : ab n = -n := by unfold ab; omega
theorem ab_pos {n : Int} (h : 0 ≤ n) : ab n = n := by unfold ab; omega

theorem quiet_d {P : Program} {f : FuncId} {args : Array Value} {w : World} {n : Nat} {v : Value}
    (h : Calls P f args (w.drewN n) fun e w' => e = .returned v ∧ ∃ q, w' = (w.drewN n).drewN q) : Calls P f args (w.drewN n) fun e w' => e = .returned v ∧ ∃ m, w' = w.drewN m :=
  h.mono fun _ _ ⟨he, q, hm⟩ => ⟨he, n + q, by rw [hm, World.drewN_drewN]⟩
theorem quiet_l {P : Program} {f : FuncId} {args : Array Value} {w : World} {n : Nat} {v : Value}
    (h : Calls P f args (w.drewN n) fun e w' => e = .returned v ∧ w.drewN n = w') : Calls P f args (w.drewN n) fun e w' => e = .returned v ∧ ∃ m, w' = w.drewN m :=
  h.mono fun _ _ ⟨he, hm⟩ => ⟨he, n, hm.symm⟩
end Go.Proofs.Ytfmlfeokdaahmaa
