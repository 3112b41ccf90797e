/- Plain facts on cells: those of 20 rows of 20 that are chosen. Lists and numbers alone. -/
import Derived.Test.YtdphaejpponmeaaBase
set_option linter.unusedVariables false
set_option linter.unusedSimpArgs false
namespace Go.Proofs.Ytdphaejpponmeaa
structure Ce where
  (row col : Int)
def Ce.enc (x : Ce) : List Value := [.int .i64 x.row, .int .i64 x.col]
theorem Ce.len (x : Ce) : x.enc.length = 2 := rfl
theorem Ce.one (x : Ce) : ∀ u ∈ x.enc, u.oneCell' = true := by intro u hu; simp [Ce.enc] at hu; rcases hu with rfl | rfl <;> rfl
instance : Inhabited Ce := ⟨⟨0, 0⟩⟩
/-- The chosen ones of the first n cells. -/
def cellsN (q : Int → Int → Bool) : Nat → List Ce
  | 0 => []
  | n + 1 => if q ((n / 20 : Nat) : Int) ((n % 20 : Nat) : Int) = true then cellsN q n ++ [⟨((n / 20 : Nat) : Int), ((n % 20 : Nat) : Int)⟩] else cellsN q n
theorem cells_hit {q : Int → Int → Bool} {r c : Nat} (hc : c < 20) (h : q r c = true) : cellsN q (20 * r + (c + 1)) = cellsN q (20 * r + c) ++ [⟨r, c⟩] := by
  have e1 : (20 * r + c) / 20 = r := by omega
  have e2 : (20 * r + c) % 20 = c := by omega
  rw [← Nat.add_assoc, cellsN, e1, e2, if_pos h]
theorem cells_miss {q : Int → Int → Bool} {r c : Nat} (hc : c < 20) (h : q r c = false) : cellsN q (20 * r + (c + 1)) = cellsN q (20 * r + c) := by
  have e1 : (20 * r + c) / 20 = r := by omega
  have e2 : (20 * r + c) % 20 = c := by omega
  rw [← Nat.add_assoc, cellsN, e1, e2, if_neg (by simp [h])]
theorem cells_len {q : Int → Int → Bool} : ∀ n, (cellsN q n).length ≤ n
  | 0 => by simp [cellsN]
  | n + 1 => by
    have := cells_len (q := q) n
    rw [cellsN]
    split
    · rw [List.length_append]; simp; omega
    · omega
@[irreducible] def cells (q : Int → Int → Bool) : List Ce := cellsN q 400
theorem cells_def (q : Int → Int → Bool) : cells q = cellsN q 400 := by unfold cells; rfl
theorem cells_bd (q : Int → Int → Bool) : (cells q).length ≤ 400 := by rw [cells_def]; exact cells_len 400
theorem cellsN_congr {q q' : Int → Int → Bool} (h : ∀ r c : Nat, r < 20 → c < 20 → q r c = q' r c) : ∀ n, n ≤ 400 → cellsN q n = cellsN q' n
  | 0, _ => rfl
  | n + 1, hn => by
    rw [cellsN, cellsN, cellsN_congr h n (by omega), h (n / 20) (n % 20) (by omega) (by omega)]
end Go.Proofs.Ytdphaejpponmeaa
