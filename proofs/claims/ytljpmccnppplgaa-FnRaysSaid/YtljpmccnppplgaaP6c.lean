/- Plain facts: layers divided at a depth. Lists and numbers alone. -/
import Derived.Test.YtljpmccnppplgaaP6
set_option linter.unusedVariables false
set_option linter.unusedSimpArgs false
namespace Go.Proofs.Ytljpmccnppplgaa
/-- What a layer becomes that the depth divides, or not. -/
def pcs (x : St) (d : Int) : List St := if 0 < d ∧ d < x.thick then [⟨d, x.speed⟩, ⟨x.thick - d, x.speed⟩] else [x]
def splK (l : List St) (d : Int) : Nat → List St
  | 0 => []
  | k + 1 => splK l d k ++ (match l[k]? with | some x => pcs x (d - totK l k) | none => [])
theorem splK_two {l : List St} {d : Int} {k : Nat} (hk : k < l.length) (h1 : 0 < d - totK l k) (h2 : d - totK l k < th l k) :
    splK l d (k + 1) = splK l d k ++ [⟨d - totK l k, sp l k⟩, ⟨th l k - (d - totK l k), sp l k⟩] := by
  rw [th_of hk] at h2
  rw [splK, List.getElem?_eq_getElem hk, th_of hk, sp_of hk]
  simp only [pcs, if_pos (And.intro h1 h2)]
theorem splK_one {l : List St} {d : Int} {k : Nat} (hk : k < l.length) (h : ¬ (0 < d - totK l k ∧ d - totK l k < th l k)) :
    splK l d (k + 1) = splK l d k ++ [⟨th l k, sp l k⟩] := by
  rw [th_of hk] at h
  rw [splK, List.getElem?_eq_getElem hk, th_of hk, sp_of hk]
  simp only [pcs, if_neg h]
theorem splK_len {l : List St} {d : Int} : ∀ k, (splK l d k).length ≤ 2 * k
  | 0 => by simp [splK]
  | k + 1 => by
    have := splK_len (l := l) (d := d) k
    rw [splK, List.length_append]
    split
    · simp only [pcs]; split <;> simp <;> omega
    · simp; omega
theorem splK_step {l : List St} {d : Int} {k : Nat} (h : stGood l = true) (hk : k < l.length) :
    (inB (part l d k) 1 (th l k - 1) = true ∧ part l d k = d - totK l k ∧ splK l d (k + 1) = splK l d k ++ [⟨part l d k, sp l k⟩] ++ [⟨th l k - part l d k, sp l k⟩]) ∨
    (inB (part l d k) 1 (th l k - 1) = false ∧ splK l d (k + 1) = splK l d k ++ [⟨th l k, sp l k⟩]) := by
  have h2 := stGood_at h hk
  have h3 := part_def l d k
  by_cases c : 0 < d - totK l k ∧ d - totK l k < th l k
  · left
    have e : part l d k = d - totK l k := by omega
    refine ⟨inB_true.2 (by omega), e, ?_⟩
    rw [splK_two hk c.1 c.2, e, List.append_assoc]; rfl
  · right
    refine ⟨?_, splK_one hk c⟩
    rw [Bool.eq_false_iff]; intro hb
    have := inB_true.1 hb
    omega
@[irreducible] def spB (l : List St) (d : Int) : Bool := stGood l && inB d 1 (totK l l.length - 1) && stGood (splK l d l.length)
@[irreducible] def spL (l : List St) (d : Int) : List St := if spB l d then splK l d l.length else []
theorem spB_no1 {l : List St} {d : Int} (g : stGood l = false) : spB l d = false := by unfold spB; rw [g]; rfl
theorem spB_no2 {l : List St} {d : Int} (g : inB d 1 (totK l l.length - 1) = false) : spB l d = false := by unfold spB; rw [g]; simp
theorem spB_at {l : List St} {d : Int} (g : stGood l = true) (g2 : inB d 1 (totK l l.length - 1) = true) : spB l d = stGood (splK l d l.length) := by unfold spB; rw [g, g2]; rfl
theorem spL_yes {l : List St} {d : Int} (g : spB l d = true) : spL l d = splK l d l.length := by unfold spL; rw [if_pos g]
theorem spL_no {l : List St} {d : Int} (g : spB l d = false) : spL l d = [] := by unfold spL; rw [g]; rfl
theorem spL_len {l : List St} {d : Int} : (spL l d).length ≤ 1048576 := by
  cases g : spB l d with
  | true =>
    rw [spL_yes g]
    have h1 := splK_len (l := l) (d := d) l.length
    have h2 : stGood l = true := by
      rcases Bool.eq_false_or_eq_true (stGood l) with h | h
      · exact h
      · rw [spB_no1 h] at g; cases g
    have := stGood_len h2
    omega
  | false => rw [spL_no g]; simp
end Go.Proofs.Ytljpmccnppplgaa
