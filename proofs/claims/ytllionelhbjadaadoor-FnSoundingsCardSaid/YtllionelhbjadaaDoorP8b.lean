/- Plain facts on soundings: whether two agree, whether all agree, the mean depth. Lists and numbers alone. -/
import Derived.Test.YtllionelhbjadaaDoorP8
import Derived.Test.YtllionelhbjadaaDoorFind
import Derived.Test.YtllionelhbjadaaDoorFrac
set_option linter.unusedVariables false
set_option linter.unusedSimpArgs false
namespace Go.Proofs.YtllionelhbjadaaDoor
def isId (id : Int) (x : Sd) : Bool := x.id == id
def sdi (l : List Sd) (k : Nat) : Sd := l.getD k ⟨0, 0, 0, 0, 0⟩
theorem sdi_of {l : List Sd} {k : Nat} (h : k < l.length) : sdi l k = l[k] := by simp [sdi, List.getD, List.getElem?_eq_getElem h]
@[irreducible] def agOk (l : List Sd) (a b : Int) : Bool := sdGood l && decide (0 ≤ fnd (isId a) l) && decide (0 ≤ fnd (isId b) l)
@[irreducible] def agB (l : List Sd) (a b : Int) : Bool := agOk l a b && (let x := sdi l (fnd (isId a) l).toNat; let y := sdi l (fnd (isId b) l).toNat; decide (max (x.depth - x.doubt) (y.depth - y.doubt) ≤ min (x.depth + x.doubt) (y.depth + y.doubt)))
theorem ag_bad {l : List Sd} {a b : Int} (h : sdGood l = false ∨ fnd (isId a) l = -1 ∨ fnd (isId b) l = -1) : agOk l a b = false ∧ agB l a b = false := by
  have : agOk l a b = false := by
    unfold agOk
    rcases h with h | h | h <;> simp [h]
  exact ⟨this, by unfold agB; rw [this]; rfl⟩
theorem ag_good {l : List Sd} {a b : Int} {i k : Nat} (h : sdGood l = true) (hi : fnd (isId a) l = i) (hk : fnd (isId b) l = k) (hil : i < l.length) (hkl : k < l.length) :
    agOk l a b = true ∧ agB l a b = decide (max (l[i].depth - l[i].doubt) (l[k].depth - l[k].doubt) ≤ min (l[i].depth + l[i].doubt) (l[k].depth + l[k].doubt)) := by
  have : agOk l a b = true := by unfold agOk; simp [h, hi, hk]
  refine ⟨this, ?_⟩
  unfold agB
  rw [this, hi, hk]
  simp only [Int.toNat_natCast, sdi_of hil, sdi_of hkl, Bool.true_and]
theorem ag_abs {x y : Sd} (hx : sdOk x = true) (hy : sdOk y = true) : decide (ab (x.depth - y.depth) ≤ x.doubt + y.doubt) = decide (max (x.depth - x.doubt) (y.depth - y.doubt) ≤ min (x.depth + x.doubt) (y.depth + y.doubt)) := by
  have := sdOk_bd hx
  have := sdOk_bd hy
  rw [decide_eq_decide]
  unfold ab
  omega
/-- The greatest least depth and the least greatest depth of the first sounding and the first k. -/
def lowK (l : List Sd) : Nat → Int
  | 0 => (sdi l 0).depth - (sdi l 0).doubt
  | k + 1 => max (lowK l k) ((sdi l k).depth - (sdi l k).doubt)
def highK (l : List Sd) : Nat → Int
  | 0 => (sdi l 0).depth + (sdi l 0).doubt
  | k + 1 => min (highK l k) ((sdi l k).depth + (sdi l k).doubt)
theorem lowK_one (l : List Sd) : lowK l 1 = lowK l 0 := by simp only [lowK]; omega
theorem highK_one (l : List Sd) : highK l 1 = highK l 0 := by simp only [highK]; omega
theorem lowhigh_bd {l : List Sd} (h : sdGood l = true) (h0 : 0 < l.length) : ∀ k, k ≤ l.length → -2000 ≤ lowK l k ∧ lowK l k ≤ 20000 ∧ -2000 ≤ highK l k ∧ highK l k ≤ 20500
  | 0, _ => by
    have := sdOk_bd (sdGood_at h h0)
    simp only [lowK, highK, sdi_of h0]; omega
  | k + 1, hk => by
    have h1 := lowhigh_bd h h0 k (by omega)
    have := sdOk_bd (sdGood_at h (show k < l.length by omega))
    simp only [lowK, highK, sdi_of (show k < l.length by omega)]; omega
@[irreducible] def aaOk (l : List Sd) : Bool := sdGood l && decide (0 < l.length) && decide (lowK l l.length ≤ highK l l.length)
@[irreducible] def aaL (l : List Sd) : Int := if aaOk l then lowK l l.length else 0
@[irreducible] def aaH (l : List Sd) : Int := if aaOk l then highK l l.length else 0
theorem aa_bad {l : List Sd} (h : sdGood l = false ∨ l.length = 0 ∨ highK l l.length < lowK l l.length) : aaOk l = false ∧ aaL l = 0 ∧ aaH l = 0 := by
  have : aaOk l = false := by
    unfold aaOk
    rcases h with h | h | h
    · simp [h]
    · simp [h]
    · simp; intro _ _; omega
  exact ⟨this, by unfold aaL; simp [this], by unfold aaH; simp [this]⟩
theorem aa_good {l : List Sd} (h : sdGood l = true) (h0 : 0 < l.length) (h1 : lowK l l.length ≤ highK l l.length) : aaOk l = true ∧ aaL l = lowK l l.length ∧ aaH l = highK l l.length := by
  have : aaOk l = true := by unfold aaOk; simp only [h, h0, h1, decide_true, Bool.and_self]
  exact ⟨this, by unfold aaL; simp [this], by unfold aaH; simp [this]⟩
/-- The depths of the first k together. -/
def dsK (l : List Sd) : Nat → Int
  | 0 => 0
  | k + 1 => dsK l k + (sdi l k).depth
theorem dsK_bd {l : List Sd} (h : sdGood l = true) : ∀ k, k ≤ l.length → -1000 * k ≤ dsK l k ∧ dsK l k ≤ 20000 * k
  | 0, _ => by simp [dsK]
  | k + 1, hk => by
    have := dsK_bd h k (by omega)
    have := sdOk_bd (sdGood_at h (show k < l.length by omega))
    rw [dsK, sdi_of (show k < l.length by omega)]; omega
@[irreducible] def mdOk (l : List Sd) : Bool := sdGood l && decide (0 < l.length)
@[irreducible] def mdN (l : List Sd) : Int := if mdOk l then redN (dsK l l.length) l.length else 0
@[irreducible] def mdD (l : List Sd) : Int := if mdOk l then redD (dsK l l.length) l.length else 0
theorem md_bad {l : List Sd} (h : sdGood l = false ∨ l.length = 0) : mdOk l = false ∧ mdN l = 0 ∧ mdD l = 0 := by
  have : mdOk l = false := by
    unfold mdOk
    rcases h with h | h <;> simp [h]
  exact ⟨this, by unfold mdN; simp [this], by unfold mdD; simp [this]⟩
theorem md_good {l : List Sd} (h : sdGood l = true) (h0 : 0 < l.length) : mdOk l = true ∧ mdN l = redN (dsK l l.length) l.length ∧ mdD l = redD (dsK l l.length) l.length := by
  have : mdOk l = true := by unfold mdOk; simp only [h, h0, decide_true, Bool.and_self]
  exact ⟨this, by unfold mdN; simp [this], by unfold mdD; simp [this]⟩
end Go.Proofs.YtllionelhbjadaaDoor
