/- Plain facts on the order in which lines are sailed: an insertion sort by Y, as a list and as an array. Lists and numbers alone. -/
import Derived.Test.YtdphaejpponmeaaP9
import Derived.Test.YtdphaejpponmeaaW9h
import Derived.Sort.Defs
set_option linter.unusedVariables false
set_option linter.unusedSimpArgs false
namespace Go.Proofs.Ytdphaejpponmeaa
open Go.Sort
/-- Where x comes among the first k of l, from the back. -/
def posK (x : Ln) (l : List Ln) : Nat → Nat
  | 0 => 0
  | k + 1 => if x.y < (lni l k).y then posK x l k else k + 1
theorem posK_le (x : Ln) (l : List Ln) : ∀ k, posK x l k ≤ k
  | 0 => Nat.le_refl _
  | k + 1 => by
    have := posK_le x l k
    rw [posK]
    split <;> omega
def insL (x : Ln) (l : List Ln) (p : Nat) : List Ln := l.take p ++ x :: l.drop p
theorem insL_len (x : Ln) (l : List Ln) (p : Nat) : (insL x l p).length = l.length + 1 := by
  have := congrArg List.length (List.take_append_drop p l)
  rw [List.length_append] at this
  rw [insL, List.length_append, List.length_cons]
  omega
def ordK (l : List Ln) : Nat → List Ln
  | 0 => []
  | k + 1 => insL (lni l k) (ordK l k) (posK (lni l k) (ordK l k) k)
theorem ordK_len (l : List Ln) : ∀ k, (ordK l k).length = k
  | 0 => rfl
  | k + 1 => by rw [ordK, insL_len, ordK_len l k]
@[irreducible] def ordL (l : List Ln) : List Ln := ordK l l.length
theorem ordL_def (l : List Ln) : ordL l = ordK l l.length := by unfold ordL; rfl
theorem ordL_len (l : List Ln) : (ordL l).length = l.length := by rw [ordL_def, ordK_len]
theorem ordK_mem {l : List Ln} {x : Ln} : ∀ k, k ≤ l.length → x ∈ ordK l k → x ∈ l
  | 0, _, h => by simp [ordK] at h
  | k + 1, hk, h => by
    rw [ordK, insL] at h
    rcases List.mem_append.1 h with h | h
    · exact ordK_mem k (by omega) (List.mem_of_mem_take h)
    · rcases List.mem_cons.1 h with rfl | h
      · rw [lni_of (show k < l.length by omega)]; exact List.getElem_mem _
      · exact ordK_mem k (by omega) (List.mem_of_mem_drop h)
theorem ordL_ok {l : List Ln} (h : lnGood l = true) {k : Nat} (hk : k < (ordL l).length) : lnOk (ordL l)[k] = true := by
  have hm := List.getElem_mem hk
  generalize (ordL l)[k] = x at *
  rw [ordL_def] at hm
  have := ordK_mem _ (Nat.le_refl _) hm
  obtain ⟨i, hi, rfl⟩ := List.mem_iff_getElem.1 this
  exact lnGood_at h hi
/-- Sorted by Y. -/
def Srt (l : List Ln) : Prop := ∀ i j (_ : i < j) (hj : j < l.length), (l[i]'(by omega)).y ≤ l[j].y
theorem posK_lt {x : Ln} {l : List Ln} : ∀ k, k ≤ l.length → ∀ i, posK x l k ≤ i → i < k → x.y < (lni l i).y
  | 0, _, i, _, h => by omega
  | k + 1, hk, i, h1, h2 => by
    rw [posK] at h1
    split at h1
    · by_cases e : i = k
      · subst e; assumption
      · exact posK_lt k (by omega) i h1 (by omega)
    · omega
theorem posK_ge {x : Ln} {l : List Ln} (h : Srt l) : ∀ k, k ≤ l.length → ∀ i, i < posK x l k → (lni l i).y ≤ x.y
  | 0, _, i, h1 => by simp [posK] at h1
  | k + 1, hk, i, h1 => by
    rw [posK] at h1
    split at h1
    · exact posK_ge h k (by omega) i h1
    · rename_i hn
      by_cases e : i = k
      · subst e; omega
      · have := h i k (by omega) (by omega)
        rw [lni_of (show k < l.length by omega)] at hn
        rw [lni_of (show i < l.length by omega)]
        omega
theorem insL_at {x : Ln} {l : List Ln} {p : Nat} (hp : p ≤ l.length) {i : Nat} (hi : i < (insL x l p).length) : (insL x l p)[i] = if i < p then lni l i else if i = p then x else lni l (i - 1) := by
  have hl := insL_len x l p
  have e : (insL x l p)[i]? = some (if i < p then lni l i else if i = p then x else lni l (i - 1)) := by
    unfold insL
    by_cases h1 : i < p
    · rw [if_pos h1, List.getElem?_append_left (by rw [List.length_take]; omega), List.getElem?_take, if_pos h1, List.getElem?_eq_getElem (by omega), lni_of (by omega)]
    · rw [if_neg h1, List.getElem?_append_right (by rw [List.length_take]; omega), List.length_take, Nat.min_eq_left hp]
      by_cases h2 : i = p
      · subst h2; rw [if_pos rfl, Nat.sub_self]; rfl
      · rw [if_neg h2]
        obtain ⟨j, rfl⟩ : ∃ j, i = p + (j + 1) := ⟨i - p - 1, by omega⟩
        rw [Nat.add_sub_cancel_left, List.getElem?_cons_succ, List.getElem?_drop, List.getElem?_eq_getElem (by omega), show p + (j + 1) - 1 = p + j by omega, lni_of (by omega)]
  rw [List.getElem?_eq_getElem hi] at e
  injection e
theorem ordK_srt (l : List Ln) : ∀ k, Srt (ordK l k)
  | 0 => fun i j hi hj => by simp [ordK] at hj
  | k + 1 => fun i j hi hj => by
    have ih := ordK_srt l k
    have hk := ordK_len l k
    have hp := posK_le (lni l k) (ordK l k) k
    simp only [ordK] at hj ⊢
    have hlen := insL_len (lni l k) (ordK l k) (posK (lni l k) (ordK l k) k)
    have A := fun i h => posK_lt (x := lni l k) (l := ordK l k) k (by omega) i h
    have B := fun i h => posK_ge (x := lni l k) ih k (by omega) i h
    rw [insL_at (by omega), insL_at (by omega)]
    generalize posK (lni l k) (ordK l k) k = p at *
    have S : ∀ a b, a < b → b < k → (lni (ordK l k) a).y ≤ (lni (ordK l k) b).y := fun a b h1 h2 => by
      rw [lni_of (show a < (ordK l k).length by omega), lni_of (show b < (ordK l k).length by omega)]; exact ih a b h1 (by omega)
    by_cases i1 : i < p
    · rw [if_pos i1]
      by_cases j1 : j < p
      · rw [if_pos j1]; exact S i j hi (by omega)
      · rw [if_neg j1]
        by_cases j2 : j = p
        · rw [if_pos j2]; exact B i i1
        · rw [if_neg j2]
          have := A (j - 1) (by omega) (by omega)
          have := B i i1
          omega
    · rw [if_neg i1, if_neg (show ¬ j < p by omega), if_neg (show ¬ j = p by omega)]
      by_cases i2 : i = p
      · rw [if_pos i2]
        have := A (j - 1) (by omega) (by omega)
        omega
      · rw [if_neg i2]; exact S (i - 1) (j - 1) (by omega) (by omega)
theorem ordL_srt (l : List Ln) : Srt (ordL l) := by rw [ordL_def]; exact ordK_srt l _
/-! The array that the insertion sort of the library makes is the same list. -/
def ltY (x y : Ln) : Bool := decide (x.y < y.y)
theorem swp_mid (a c : List Ln) (x y : Ln) : swp (a ++ y :: x :: c).toArray (a.length + 1) a.length = (a ++ x :: y :: c).toArray := by
  unfold swp
  have e1 : (a ++ y :: x :: c).toArray[a.length]! = y := by simp
  have e2 : (a ++ y :: x :: c).toArray[a.length + 1]! = x := by simp
  rw [e1, e2]
  simp [List.set_append]
theorem inner_is (x : Ln) (u r : List Ln) : ∀ j, j ≤ u.length → insInner ltY 0 j ((insL x u j) ++ r).toArray = (insL x u (posK x u j) ++ r).toArray
  | 0, _ => rfl
  | j + 1, hj => by
    have hd : u.drop j = lni u j :: u.drop (j + 1) := by rw [lni_of (show j < u.length by omega)]; exact List.drop_eq_getElem_cons (by omega)
    have ht : u.take (j + 1) = u.take j ++ [lni u j] := by rw [lni_of (show j < u.length by omega), List.take_add_one, List.getElem?_eq_getElem (by omega)]; rfl
    have hl : (u.take j).length = j := by rw [List.length_take]; omega
    have e : insL x u (j + 1) ++ r = u.take j ++ lni u j :: x :: (u.drop (j + 1) ++ r) := by rw [insL, ht]; simp
    have e2 : u.take j ++ x :: lni u j :: (u.drop (j + 1) ++ r) = insL x u j ++ r := by rw [insL, hd]; simp
    rw [e, insInner]
    have g1 : (u.take j ++ lni u j :: x :: (u.drop (j + 1) ++ r)).toArray[j + 1]! = x := by
      have : (u.take j ++ lni u j :: x :: (u.drop (j + 1) ++ r)).toArray[(u.take j).length + 1]! = x := by simp
      rwa [hl] at this
    have g2 : (u.take j ++ lni u j :: x :: (u.drop (j + 1) ++ r)).toArray[j]! = lni u j := by
      have : (u.take j ++ lni u j :: x :: (u.drop (j + 1) ++ r)).toArray[(u.take j).length]! = lni u j := by simp
      rwa [hl] at this
    rw [g1, g2, posK]
    by_cases c : x.y < (lni u j).y
    · rw [if_pos c, if_pos (by simp [ltY, c])]
      have := swp_mid (u.take j) (u.drop (j + 1) ++ r) x (lni u j)
      rw [hl] at this
      rw [this, e2]
      exact inner_is x u r j (by omega)
    · rw [if_neg c, if_neg (by simp [ltY, c]), e]
theorem outer_is (l : List Ln) : ∀ m i, l.length - i = m → i ≤ l.length → insOuter ltY 0 l.length i (ordK l i ++ l.drop i).toArray = (ordK l l.length).toArray
  | 0, i, hm, hi => by
    obtain rfl : i = l.length := by omega
    rw [insOuter, if_neg (by omega), List.drop_length, List.append_nil]
  | m + 1, i, hm, hi => by
    have hlt : i < l.length := by omega
    have hd : l.drop i = lni l i :: l.drop (i + 1) := by rw [lni_of hlt]; exact List.drop_eq_getElem_cons hlt
    have e : ordK l i ++ l.drop i = insL (lni l i) (ordK l i) i ++ l.drop (i + 1) := by
      have hk := ordK_len l i
      rw [insL, hd, List.take_of_length_le (Nat.le_of_eq hk), List.drop_eq_nil_of_le (Nat.le_of_eq hk)]
      simp
    rw [insOuter, if_pos hlt, e, inner_is _ _ _ i (by rw [ordK_len]; omega)]
    exact outer_is l m (i + 1) (by omega) (by omega)
theorem sort_is (l : List Ln) : insertionSort ltY l.toArray 0 l.toArray.size = (ordL l).toArray := by
  rw [ordL_def, insertionSort, List.size_toArray]
  cases l with
  | nil => rw [insOuter, if_neg (by simp)]; rfl
  | cons x r =>
    have := outer_is (x :: r) ((x :: r).length - 1) 1 rfl (by simp)
    rw [← this]
    rfl
/-! The turns. -/
def tnS (o : List Ln) (k : Nat) : Int := (lni o k).y - (lni o (k - 1)).y + ab (if k % 2 = 1 then (lni o (k - 1)).to - (lni o k).to else (lni o (k - 1)).frm - (lni o k).frm)
def tnK (o : List Ln) : Nat → Int
  | 0 => 0
  | k + 1 => tnK o k + (if k = 0 then 0 else tnS o k)
@[irreducible] def toOk (l : List Ln) : Bool := lnGood l
@[irreducible] def toV (l : List Ln) : Int := if lnGood l then tnK (ordL l) l.length else 0
@[irreducible] def soL (l : List Ln) : List Int := if lnGood l then (ordL l).map Ln.id else []
theorem to_bad {l : List Ln} (h : lnGood l = false) : toOk l = false ∧ toV l = 0 := ⟨by unfold toOk; exact h, by unfold toV; rw [h]; rfl⟩
theorem to_good {l : List Ln} (h : lnGood l = true) : toOk l = true ∧ toV l = tnK (ordL l) l.length := ⟨by unfold toOk; exact h, by unfold toV; rw [if_pos h]⟩
theorem so_bad {l : List Ln} (h : lnGood l = false) : toOk l = false ∧ soL l = [] := ⟨by unfold toOk; exact h, by unfold soL; rw [h]; rfl⟩
theorem so_good {l : List Ln} (h : lnGood l = true) : toOk l = true ∧ soL l = (ordL l).map Ln.id := ⟨by unfold toOk; exact h, by unfold soL; rw [if_pos h]⟩
theorem so_len {l : List Ln} (h : toOk l = true) : (soL l).length = l.length := by
  unfold toOk at h
  rw [(so_good h).2, List.length_map, ordL_len]
theorem soL_len {l : List Ln} (hn : l.length ≤ 1048576) : (soL l).length ≤ 1048576 := by
  unfold soL
  split
  · rw [List.length_map, ordL_len]; exact hn
  · simp
theorem tnS_bd {l : List Ln} (h : lnGood l = true) {k : Nat} (h0 : 0 < k) (hk : k < (ordL l).length) : 0 ≤ tnS (ordL l) k ∧ tnS (ordL l) k ≤ 2000 := by
  have s := ordL_srt l (k - 1) k (by omega) hk
  have a := lnOk_bd (ordL_ok h hk)
  have b := lnOk_bd (ordL_ok h (show k - 1 < (ordL l).length by omega))
  unfold tnS
  rw [lni_of hk, lni_of (show k - 1 < (ordL l).length by omega)]
  unfold ab
  split <;> omega
theorem tnK_bd {l : List Ln} (h : lnGood l = true) : ∀ k, k ≤ (ordL l).length → 0 ≤ tnK (ordL l) k ∧ tnK (ordL l) k ≤ 2000 * k
  | 0, _ => by simp [tnK]
  | k + 1, hk => by
    have ih := tnK_bd h k (by omega)
    rw [tnK]
    split
    · omega
    · have := tnS_bd h (show 0 < k by omega) (show k < (ordL l).length by omega)
      omega
theorem to_pos {l : List Ln} : 0 ≤ toV l := by
  unfold toV
  split
  · rename_i h
    exact (tnK_bd h l.length (by rw [ordL_len]; omega)).1
  · omega
end Go.Proofs.Ytdphaejpponmeaa
