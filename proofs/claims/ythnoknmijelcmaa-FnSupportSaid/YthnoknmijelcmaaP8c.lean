/- Plain facts on soundings: the first shoalest one of those that a test holds of. Lists and numbers alone. -/
import Derived.Test.YthnoknmijelcmaaP8b
import Derived.Test.YthnoknmijelcmaaW2
set_option linter.unusedVariables false
set_option linter.unusedSimpArgs false
namespace Go.Proofs.Ythnoknmijelcmaa
def low (x : Sd) : Int := x.depth - x.doubt
def bstK (p : Sd → Bool) (l : List Sd) : Nat → Int
  | 0 => -1
  | k + 1 => if p (sdi l k) = true ∧ (bstK p l k < 0 ∨ low (sdi l k) < low (sdi l (bstK p l k).toNat)) then (k : Int) else bstK p l k
theorem bstK_cases (p : Sd → Bool) (l : List Sd) : ∀ k, k ≤ l.length → bstK p l k = -1 ∨ ∃ i, ∃ _ : i < l.length, bstK p l k = (i : Int) ∧ i < k
  | 0, _ => .inl rfl
  | k + 1, h => by
    rw [bstK]
    split
    · exact .inr ⟨k, by omega, rfl, by omega⟩
    · rcases bstK_cases p l k (by omega) with e | ⟨i, hi, e, hik⟩
      · exact .inl e
      · exact .inr ⟨i, hi, e, by omega⟩
theorem bstK_no {p : Sd → Bool} {l : List Sd} {k : Nat} (hk : k < l.length) (hp : p l[k] = false) : bstK p l (k + 1) = bstK p l k := by
  rw [bstK, sdi_of hk, if_neg (by simp [hp])]
theorem bstK_first {p : Sd → Bool} {l : List Sd} {k : Nat} (hk : k < l.length) (hp : p l[k] = true) (hb : bstK p l k = -1) : bstK p l (k + 1) = k := by
  rw [bstK, sdi_of hk, if_pos ⟨hp, .inl (by omega)⟩]
theorem bstK_more {p : Sd → Bool} {l : List Sd} {k i : Nat} (hk : k < l.length) (hi : i < l.length) (hp : p l[k] = true) (hb : bstK p l k = i) :
    bstK p l (k + 1) = if l[k].depth - l[k].doubt < l[i].depth - l[i].doubt then (k : Int) else (i : Int) := by
  rw [bstK, sdi_of hk, hb, Int.toNat_natCast, sdi_of hi]
  by_cases h : low l[k] < low l[i]
  · rw [if_pos ⟨hp, .inr h⟩]; unfold low at h; rw [if_pos h]
  · rw [if_neg (fun hh => by rcases hh.2 with h1 | h1; omega; exact h h1)]; unfold low at h; rw [if_neg h]
def inP (b : Bx) (x : Sd) : Bool := inBx b x.x x.y
def nearP (px py r : Int) (x : Sd) : Bool := decide (sqr x.x x.y px py ≤ r * r)
@[irreducible] def shOk (l : List Sd) (b : Bx) : Bool := sdGood l && bxOk b && decide (0 ≤ bstK (inP b) l l.length)
@[irreducible] def shV (l : List Sd) (b : Bx) : Int := if shOk l b then (sdi l (bstK (inP b) l l.length).toNat).id else 0
theorem sh_bad {l : List Sd} {b : Bx} (h : sdGood l = false ∨ bxOk b = false ∨ bstK (inP b) l l.length = -1) : shOk l b = false ∧ shV l b = 0 := by
  have : shOk l b = false := by
    unfold shOk
    rcases h with h | h | h <;> simp [h]
  exact ⟨this, by unfold shV; simp [this]⟩
theorem sh_good {l : List Sd} {b : Bx} {i : Nat} (h : sdGood l = true) (h2 : bxOk b = true) (hi : i < l.length) (he : bstK (inP b) l l.length = i) : shOk l b = true ∧ shV l b = l[i].id := by
  have : shOk l b = true := by unfold shOk; simp [h, h2, he]
  exact ⟨this, by unfold shV; simp [this, he, sdi_of hi]⟩
@[irreducible] def suOk (l : List Sd) (px py r : Int) : Bool := sdGood l && spOk px py && inB r 0 1000 && decide (0 ≤ bstK (nearP px py r) l l.length)
@[irreducible] def suV (l : List Sd) (px py r : Int) : Int := if suOk l px py r then low (sdi l (bstK (nearP px py r) l l.length).toNat) else 0
theorem su_bad {l : List Sd} {px py r : Int} (h : sdGood l = false ∨ spOk px py = false ∨ inB r 0 1000 = false ∨ bstK (nearP px py r) l l.length = -1) : suOk l px py r = false ∧ suV l px py r = 0 := by
  have : suOk l px py r = false := by
    unfold suOk
    rcases h with h | h | h | h <;> simp [h]
  exact ⟨this, by unfold suV; simp [this]⟩
theorem su_good {l : List Sd} {px py r : Int} {i : Nat} (h : sdGood l = true) (h2 : spOk px py = true) (h3 : inB r 0 1000 = true) (hi : i < l.length) (he : bstK (nearP px py r) l l.length = i) :
    suOk l px py r = true ∧ suV l px py r = l[i].depth - l[i].doubt := by
  have : suOk l px py r = true := by unfold suOk; simp [h, h2, h3, he]
  exact ⟨this, by unfold suV; simp [this, he, sdi_of hi, low]⟩
/-- What the reference's loop carries: the least depth so far, and whether there is one. -/
@[irreducible] def lstK (p : Sd → Bool) (l : List Sd) (k : Nat) : Int := if bstK p l k < 0 then 0 else low (sdi l (bstK p l k).toNat)
@[irreducible] def smK (p : Sd → Bool) (l : List Sd) (k : Nat) : Bool := decide (0 ≤ bstK p l k)
theorem lst_none {p : Sd → Bool} {l : List Sd} {k : Nat} (h : bstK p l k = -1) : lstK p l k = 0 ∧ smK p l k = false := by
  unfold lstK smK; rw [h]; exact ⟨rfl, rfl⟩
theorem lst_some {p : Sd → Bool} {l : List Sd} {k i : Nat} (hi : i < l.length) (h : bstK p l k = i) : lstK p l k = l[i].depth - l[i].doubt ∧ smK p l k = true := by
  unfold lstK smK; rw [h, if_neg (by omega), Int.toNat_natCast, sdi_of hi]; exact ⟨rfl, by simp⟩
theorem lst_same {p : Sd → Bool} {l : List Sd} {k m : Nat} (h : bstK p l m = bstK p l k) : lstK p l m = lstK p l k ∧ smK p l m = smK p l k := by
  unfold lstK smK; rw [h]; exact ⟨rfl, rfl⟩
theorem near_gt {px py r : Int} {x : Sd} : nearP px py r x = !decide (sqr x.x x.y px py > r * r) := by
  unfold nearP
  rw [Bool.eq_iff_iff]; simp
end Go.Proofs.Ythnoknmijelcmaa
