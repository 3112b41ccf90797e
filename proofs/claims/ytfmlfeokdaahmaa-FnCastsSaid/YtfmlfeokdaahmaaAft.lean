/- A region that draws its order and whose callees may make memory, walked once in the order of the text. No condition. -/
import Derived.Test.YtfmlfeokdaahmaaMore
import Derived.BigGuardPart
import Derived.BigQuiet
import Derived.Deep.RegionLaw
set_option linter.unusedVariables false
set_option linter.unusedSimpArgs false
namespace Go.Proofs.Ytfmlfeokdaahmaa
open Go.RowKit
/-- A world behind w: what lay in w lies as it lay. -/
structure Aft (w : World) where
  (val : World)
  (bel : Below w.heap.size w val)
instance (w : World) : Nonempty (Aft w) := ⟨⟨w, Below.refl _ _⟩⟩
theorem Aft.cell {w : World} (x : Aft w) {b : Nat} (h : b < w.heap.size) (o : Nat) : x.val.cell? ⟨b, o, none⟩ = w.cell? ⟨b, o, none⟩ := x.bel.cell (p := ⟨b, o, none⟩) h
theorem aft_cell {w : World} {b : Nat} (h : b < w.heap.size) : ∀ (x : Aft w) (o : Nat), x.val.cell? ⟨b, o, none⟩ = w.cell? ⟨b, o, none⟩ := fun x o => x.cell h o
theorem Sl.aft {α : Type} {K : Nat} {enc : α → List Value} {w : World} {A : Option Addr} {l : List α} (h : Sl K enc w A l) (x : Aft w) : Sl K enc x.val A l := h.below x.bel
theorem wp_region_aft {P : Program} {id : Nat} {Q : Exit → Act → World → Prop} {a : Act} {w : World} {l : List Oper} (hm : P.follows .mixedOrders = true) (hB : Region.lexB .any l.toArray = true)
    (h : wpQuiet P l.toArray (fun w' => ∃ x : Aft w, w' = x.val) (fun a' => ∀ w', Below w.heap.size w w' → Q .normal a' w') l a) : (Code.region id l.toArray true).wp P Q a w := by
  refine wp_region_quiet (C := fun w' => ∃ x : Aft w, w' = x.val) hm hB ⟨⟨_, (Below.refl _ _).drew⟩, rfl⟩ ?_
  have e : (fun a' => ∀ w', (∃ x : Aft w, w' = x.val) → Q .normal a' w') = (fun a' => ∀ w', Below w.heap.size w w' → Q .normal a' w') := by
    funext a'
    exact propext ⟨fun h w' hb => h w' ⟨⟨w', hb⟩, rfl⟩, fun h w' ⟨x, e⟩ => by rw [e]; exact h _ x.bel⟩
  rw [e]
  simpa using h
/-- A callee that makes memory. -/
theorem Aft.calls {P : Program} {f : FuncId} {args : Array Value} {w : World} (x : Aft w) {v : Value} (h : Calls P f args x.val fun e w' => e = .returned v ∧ Below x.val.heap.size x.val w') :
    Calls P f args x.val fun e w'' => e = .returned v ∧ ∃ y : Aft w, w'' = y.val :=
  h.mono fun _ w'' ⟨he, hb⟩ => ⟨he, ⟨w'', bth x.bel hb⟩, rfl⟩
/-- .. whose result is a bool that is known. -/
theorem Aft.callsB {P : Program} {f : FuncId} {args : Array Value} {w : World} (x : Aft w) {c d : Bool} (h : Calls P f args x.val fun e w' => e = .returned (.bool c) ∧ Below x.val.heap.size x.val w') (hc : c = d) :
    Calls P f args x.val fun e w'' => e = .returned (.bool d) ∧ ∃ y : Aft w, w'' = y.val := by
  subst hc; exact Aft.calls x h
/-- A callee that leaves the world alone. -/
theorem Aft.pure {P : Program} {f : FuncId} {args : Array Value} {w : World} (x : Aft w) {v : Value} (h : Calls P f args x.val fun e w' => e = .returned v ∧ x.val = w') :
    Calls P f args x.val fun e w'' => e = .returned v ∧ ∃ y : Aft w, w'' = y.val :=
  h.mono fun _ _ ⟨he, hb⟩ => ⟨he, x, hb.symm⟩
theorem Aft.pureB {P : Program} {f : FuncId} {args : Array Value} {w : World} (x : Aft w) {c d : Bool} (h : Calls P f args x.val fun e w' => e = .returned (.bool c) ∧ x.val = w') (hc : c = d) :
    Calls P f args x.val fun e w'' => e = .returned (.bool d) ∧ ∃ y : Aft w, w'' = y.val := by
  subst hc; exact Aft.pure x h
/-- A callee that only draws. -/
theorem Aft.draws {P : Program} {f : FuncId} {args : Array Value} {w : World} (x : Aft w) {v : Value} (h : Calls P f args x.val fun e w' => e = .returned v ∧ ∃ n, w' = x.val.drewN n) :
    Calls P f args x.val fun e w'' => e = .returned v ∧ ∃ y : Aft w, w'' = y.val :=
  h.mono fun _ _ ⟨he, n, hb⟩ => ⟨he, ⟨_, bdrew x.bel n⟩, hb⟩
/-- Two blocks made in one drawn statement. -/
theorem two_facts {w W : World} {cs ds : Array Value} {t u : TypeId} (h : ((w.alloc (.cells cs t)).alloc (.cells ds u)).drew = W) : Below w.heap.size w W ∧ Bk W w.heap.size cs.toList ∧ Bk W (w.heap.size + 1) ds.toList := by
  have e : (w.alloc (.cells cs t)).heap.size = w.heap.size + 1 := by simp
  have k1 := Bk.new w cs.toList t
  have k2 := Bk.new (w.alloc (.cells cs t)) ds.toList u
  have b1 := below_alloc w (.cells cs t)
  have b2 := below_alloc (w.alloc (.cells cs t)) (.cells ds u)
  simp only [Array.toArray_toList] at k1 k2
  have b3 : Below ((w.alloc (.cells cs t)).alloc (.cells ds u)).heap.size ((w.alloc (.cells cs t)).alloc (.cells ds u)) ((w.alloc (.cells cs t)).alloc (.cells ds u)).drew := (Below.refl _ _).drew
  rw [e] at k2
  subst h
  exact ⟨bth (bth b1 b2) b3, (k1.below b2).below b3, k2.below b3⟩
end Go.Proofs.Ytfmlfeokdaahmaa
