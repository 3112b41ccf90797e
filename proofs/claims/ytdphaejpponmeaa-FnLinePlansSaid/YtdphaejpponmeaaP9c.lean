/- Plain facts on planned lines: a box divided into strips. Lists and numbers alone. -/
import Derived.Test.YtdphaejpponmeaaP9
import Derived.Test.YtdphaejpponmeaaW2
set_option linter.unusedVariables false
set_option linter.unusedSimpArgs false
namespace Go.Proofs.Ytdphaejpponmeaa
/-- What is seen to the north of the first n lines. -/
def seen (b : Bx) (s : Int) : Nat → Int
  | 0 => b.south
  | n + 1 => seen b s n + 2 * s
def plK (b : Bx) (s : Int) : Nat → List Ln
  | 0 => []
  | n + 1 => plK b s n ++ [⟨(n : Int) + 1, min (seen b s n + s) b.north, b.west, b.east, s⟩]
theorem plK_len (b : Bx) (s : Int) : ∀ n, (plK b s n).length = n
  | 0 => rfl
  | n + 1 => by rw [plK, List.length_append, plK_len b s n]; rfl
def moreB (b : Bx) (s : Int) (n : Nat) : Bool := decide (n = 0) || decide (seen b s n < b.north)
theorem more_zero (b : Bx) (s : Int) : moreB b s 0 = true := by simp [moreB]
theorem more_succ (b : Bx) (s : Int) (n : Nat) : moreB b s (n + 1) = decide (seen b s (n + 1) < b.north) := by simp [moreB]
theorem seen_mono {b : Bx} {s : Int} (hs : 0 ≤ s) : ∀ n, b.south ≤ seen b s n
  | 0 => Int.le_refl _
  | n + 1 => by have := seen_mono (b := b) hs n; rw [seen]; omega
@[irreducible] def plN (b : Bx) (s : Int) : Option Nat := (List.range 9).find? (fun n => !moreB b s n)
theorem plN_some {b : Bx} {s : Int} {n : Nat} (hn : n ≤ 8) (h : moreB b s n = false) (h2 : ∀ m, m < n → moreB b s m = true) : plN b s = some n := by
  unfold plN
  rw [List.find?_range_eq_some]
  exact ⟨by simp [h], by simp; omega, fun j hj => by simp [h2 j hj]⟩
theorem plN_none {b : Bx} {s : Int} (h2 : ∀ m, m < 9 → moreB b s m = true) : plN b s = none := by
  unfold plN
  rw [List.find?_eq_none]
  intro x hx
  simp at hx
  simp [h2 x hx]
@[irreducible] def plPre (b : Bx) (s : Int) : Bool := bxOk b && inB s 1 300 && decide (b.west ≠ b.east)
@[irreducible] def plB (b : Bx) (s : Int) : Bool := plPre b s && (plN b s).isSome
@[irreducible] def plL (b : Bx) (s : Int) : List Ln := if plPre b s then (match plN b s with | some n => plK b s n | none => []) else []
theorem pl_pre {b : Bx} {s : Int} (h : bxOk b = false ∨ inB s 1 300 = false ∨ b.west = b.east) : plB b s = false ∧ plL b s = [] := by
  have : plPre b s = false := by
    unfold plPre
    rcases h with h | h | h <;> simp [h]
  exact ⟨by unfold plB; rw [this]; rfl, by unfold plL; rw [this]; rfl⟩
theorem pl_is {b : Bx} {s : Int} (h : bxOk b = true) (h2 : inB s 1 300 = true) (h3 : b.west ≠ b.east) : plPre b s = true := by unfold plPre; simp [h, h2, h3]
theorem pl_none {b : Bx} {s : Int} (h2 : ∀ m, m < 9 → moreB b s m = true) : plB b s = false ∧ plL b s = [] := by
  have := plN_none h2
  exact ⟨by unfold plB; rw [this]; simp, by unfold plL; rw [this]; split <;> rfl⟩
theorem pl_some {b : Bx} {s : Int} {n : Nat} (hp : plPre b s = true) (hn : n ≤ 8) (h : moreB b s n = false) (h2 : ∀ m, m < n → moreB b s m = true) : plB b s = true ∧ plL b s = plK b s n := by
  have := plN_some hn h h2
  exact ⟨by unfold plB; rw [this, hp]; rfl, by unfold plL; rw [this, hp]; rfl⟩
theorem plL_len {b : Bx} {s : Int} : (plL b s).length ≤ 1048576 := by
  unfold plL
  split
  · split
    · rename_i n hn
      unfold plN at hn
      have := List.mem_of_find?_eq_some hn
      simp at this
      rw [plK_len]; omega
    · simp
  · simp
end Go.Proofs.Ytdphaejpponmeaa
