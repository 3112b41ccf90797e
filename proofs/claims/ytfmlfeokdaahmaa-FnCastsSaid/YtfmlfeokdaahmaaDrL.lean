/- Drawn lists: words for the draws of the laws. -/
import Derived.Test.YtfmlfeokdaahmaaDr2
import Derived.Test.YtfmlfeokdaahmaaOut2
set_option linter.unusedVariables false
set_option linter.unusedSimpArgs false
namespace Go.Proofs.Ytfmlfeokdaahmaa
open Go.RowKit
set_option maxHeartbeats 1000000
theorem OutS.lb {α : Type} {K base e p : Nat} {enc : α → List Value} {w w' : World} {v : Value} {l : List α} (h : OutS K enc base e w v l) (hl : LB p w.heap.size w w') (hp : p < base) : OutS K enc base e w' v l := by
  refine ⟨h.1, ?_⟩
  rcases h.2 with h0 | ⟨g, cap, cur, hv, hg, hh, r⟩
  · exact .inl h0
  · refine .inr ⟨g, cap, cur, hv, hg, ?_, r⟩
    rw [hl.block g (Array.getElem?_eq_some_iff.1 hh).1 (by omega)]; exact hh
theorem OutS.next {α : Type} {K base e p : Nat} {enc : α → List Value} {w5 W w1 : World} {v : Value} {l : List α} (h : OutS K enc base e w5 v l) (hb : Below w5.heap.size w5 W) (hl : LB p W.heap.size W w1) (hp : p < base) : OutS K enc base e w1 v l := (h.below hb).lb hl hp
theorem Ar.lb {w w' : World} {p g n : Nat} (h : Ar w g n) (hl : LB p w.heap.size w w') (hp : g ≠ p) : Ar w' g n :=
  ⟨Nat.lt_of_lt_of_le h.1 hl.size, fun i hi => by obtain ⟨v, hv⟩ := h.2.1 i hi; exact ⟨v, (hl.cell h.1 hp i).trans hv⟩, fun i => (hl.frozen h.1 hp i).trans (h.2.2 i)⟩
/-- One row is stored anew. -/
theorem Sl.set {α : Type} {K : Nat} {enc : α → List Value} {w : World} {g : Nat} {l : List α} {k : Nat} (x : α) (h : Sl K enc w (some ⟨g, 0, none⟩) l) (hA : Ar w g (l.length * K)) (hk : k < l.length) (hK : ∀ x, (enc x).length = K) :
    Sl K enc (w.setCells g (k * K) (enc x)) (some ⟨g, 0, none⟩) (l.set k x) := by
  intro _
  refine ⟨g, 0, rfl, by rw [size_setCells]; exact hA.1, fun i y hx j v hv => ?_⟩
  have hj : j < K := by rw [← hK y]; exact (List.getElem?_eq_some_iff.1 hv).1
  rw [List.getElem?_set] at hx
  rw [Nat.zero_add]
  by_cases e : k = i
  · subst e
    rw [if_pos rfl, if_pos hk] at hx
    obtain rfl : x = y := by injection hx
    have := World.cell?_setCells_in g (enc x) (k * K) w (fun j hj => by
      have : k * K + j < l.length * K := by
        have h1 : (k + 1) * K ≤ l.length * K := Nat.mul_le_mul_right K hk
        rw [Nat.succ_mul] at h1
        have := hK x; omega
      obtain ⟨v, hv⟩ := hA.2.1 _ this; rw [hv]; rfl) j (by rw [hK]; exact hj)
    rw [this]
    exact hv ▸ (List.getElem?_eq_getElem (by rw [hK]; exact hj)).symm
  · rw [if_neg e] at hx
    rw [World.cell?_setCells_out g (enc x) (k * K) w _ (fun _ _ => by
      show i * K + j < k * K ∨ k * K + (enc x).length ≤ i * K + j
      rw [hK]
      rcases Nat.lt_or_ge i k with h | h
      · have h1 : (i + 1) * K ≤ k * K := Nat.mul_le_mul_right K h
        rw [Nat.succ_mul] at h1; omega
      · have h1 : (k + 1) * K ≤ i * K := Nat.mul_le_mul_right K (show k + 1 ≤ i by omega)
        rw [Nat.succ_mul] at h1; omega)]
    obtain ⟨b, off, e', _, hc⟩ := h (by omega)
    injection e' with e'; injection e' with e1 e2
    subst e1 e2
    have := hc i y hx j v hv
    rwa [Nat.zero_add] at this
/-- What a draw of a list returns. -/
def drL {α : Type} (K : Nat) (enc : α → List Value) (N p B : Nat) (q : Cd) (m : Nat) (w0 w : World) (e : Ending) (w' : World) : Prop :=
  ∃ (l : List α) (A : Option Addr) (c : Nat), e = .returned (.slice A l.length c) ∧ Sl K enc w' A l ∧ Own K w' A l.length ∧ l.length ≤ N ∧ l.length ≤ c ∧ (∀ a, A = some a → w.heap.size ≤ a.block) ∧ Dr p B q m w0 w' ∧ LB p w.heap.size w w'
theorem drL_mk {α : Type} {K : Nat} {enc : α → List Value} {N p B : Nat} {q : Cd} {m m' n c : Nat} {w0 w w' : World} {A : Option Addr} (l : List α) (hl : l.length = n) (hs : Sl K enc w' A l) (ho : Own K w' A n) (hN : n ≤ N) (hc : n ≤ c) (hb : ∀ a, A = some a → w.heap.size ≤ a.block) (D : Dr p B q m' w0 w') (hm : m' ≤ m) (L : LB p w.heap.size w w') :
    drL K enc N p B q m w0 w (.returned (.slice A n c)) w' := by subst hl; exact ⟨l, A, c, rfl, hs, ho, hN, hc, hb, D.mono hm, L⟩
theorem drL_out {α : Type} {K e : Nat} {enc : α → List Value} {N p B : Nat} {q : Cd} {m m' : Nat} {w0 w w' : World} {v : Value} {l : List α} (hO : OutS K enc w.heap.size e w' v l) (hK : ∀ x, (enc x).length = K) (hN : l.length ≤ N) (D : Dr p B q m' w0 w') (hm : m' ≤ m) (L : LB p w.heap.size w w') :
    drL K enc N p B q m w0 w (.returned v) w' := by
  obtain ⟨A, c, rfl, hc, hs, ho, hb⟩ := hO.sl hK
  exact ⟨l, A, c, rfl, hs, ho, hN, hc, hb, D.mono hm, L⟩
def lenV : Value → Nat
  | .slice _ n _ => n
  | _ => 0
theorem Dr.new {w : World} {A : Option Addr} {c : Nat} {l : List UInt8} (t : TypeId) (h : Sl 1 encU w A l) (hn : l.length ≤ 1048576) : Dr w.heap.size w.heap.size ⟨A, c, l⟩ 0 w (w.alloc (.cells #[.slice A l.length c, .int .i64 0, .int .u64 0] t)) :=
  ⟨⟨h.below (below_alloc _ _), fun h0 a ha => h.lt h0 a ha, hn, 0, 0, Nat.le_refl _, by omega, by omega, Bk.new w [.slice A l.length c, .int .i64 0, .int .u64 0] t⟩, LB.of (below_alloc _ _), Nat.le_refl _⟩
/-- What a drawn list is good for. -/
def LsO {α : Type} (K : Nat) (enc : α → List Value) (N : Nat) (w w' : World) (A : Option Addr) (l : List α) (c : Nat) : Prop := Sl K enc w' A l ∧ l.length ≤ N ∧ l.length ≤ c ∧ Below w.heap.size w w'
end Go.Proofs.Ytfmlfeokdaahmaa
