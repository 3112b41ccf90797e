/- Plain facts on craft: the fuel that is used, who floats, the shallowest, the chosen one. Lists and numbers alone. -/
import Derived.Test.YtanmkjjclpplkaaDoorP5
import Derived.Test.YtanmkjjclpplkaaDoorFind
set_option linter.unusedVariables false
set_option linter.unusedSimpArgs false
namespace Go.Proofs.YtanmkjjclpplkaaDoor
def isC (id : Int) (x : Cr) : Bool := x.id == id
/-! Who floats. -/
def flK (l : List Cr) (d u : Int) : Nat → List Int
  | 0 => []
  | k + 1 => if (cri l k).draught + u ≤ d then flK l d u k ++ [(cri l k).id] else flK l d u k
theorem flK_len (l : List Cr) (d u : Int) : ∀ k, (flK l d u k).length ≤ k
  | 0 => by simp [flK]
  | k + 1 => by
    have := flK_len l d u k
    rw [flK]
    split
    · simp; omega
    · omega
theorem flK_yes {l : List Cr} {d u : Int} {k : Nat} (hk : k < l.length) (h : l[k].draught + u ≤ d) : flK l d u (k + 1) = flK l d u k ++ [l[k].id] := by rw [flK, cri_of hk, if_pos h]
theorem flK_no {l : List Cr} {d u : Int} {k : Nat} (hk : k < l.length) (h : ¬ l[k].draught + u ≤ d) : flK l d u (k + 1) = flK l d u k := by rw [flK, cri_of hk, if_neg h]
@[irreducible] def flOk (l : List Cr) (d u : Int) : Bool := crsGood l && inB d (-1000) 20000 && inB u 0 500
@[irreducible] def flL (l : List Cr) (d u : Int) : List Int := if flOk l d u then flK l d u l.length else []
theorem fl_bad {l : List Cr} {d u : Int} (h : crsGood l = false ∨ inB d (-1000) 20000 = false ∨ inB u 0 500 = false) : flOk l d u = false ∧ flL l d u = [] := by
  have : flOk l d u = false := by unfold flOk; rcases h with h | h | h <;> simp [h]
  exact ⟨this, by unfold flL; rw [this]; rfl⟩
theorem fl_good {l : List Cr} {d u : Int} (h : crsGood l = true) (h2 : inB d (-1000) 20000 = true) (h3 : inB u 0 500 = true) : flOk l d u = true ∧ flL l d u = flK l d u l.length := by
  have : flOk l d u = true := by unfold flOk; simp [h, h2, h3]
  exact ⟨this, by unfold flL; rw [if_pos this]⟩
theorem flL_len {l : List Cr} {d u : Int} (hn : l.length ≤ 1048576) : (flL l d u).length ≤ 1048576 := by
  unfold flL
  split
  · have := flK_len l d u l.length; omega
  · simp
theorem fl_has {l : List Cr} {d : Int} {i : Nat} (hi : i < l.length) (h : l[i].draught ≤ d) : ∀ k, i < k → l[i].id ∈ flK l d 0 k
  | 0, h0 => by omega
  | k + 1, h0 => by
    rw [flK]
    by_cases e : i = k
    · subst e
      rw [cri_of hi, if_pos (by omega)]
      simp
    · have := fl_has hi h k (by omega)
      split
      · exact List.mem_append_left _ this
      · exact this
/-! The fuel that is used. -/
@[irreducible] def ufOk (l : List Cr) (id m : Int) : Bool := crsGood l && inB m 0 10000 && decide (0 ≤ fnd (isC id) l) && decide (m ≤ (cri l (fnd (isC id) l).toNat).fuel)
@[irreducible] def ufL (l : List Cr) (id m : Int) : List Cr := if ufOk l id m then l.set (fnd (isC id) l).toNat { cri l (fnd (isC id) l).toNat with fuel := (cri l (fnd (isC id) l).toNat).fuel - m } else []
theorem uf_bad {l : List Cr} {id m : Int} (h : crsGood l = false ∨ inB m 0 10000 = false ∨ fnd (isC id) l = -1) : ufOk l id m = false ∧ ufL l id m = [] := by
  have : ufOk l id m = false := by unfold ufOk; rcases h with h | h | h <;> simp [h]
  exact ⟨this, by unfold ufL; rw [this]; rfl⟩
theorem uf_low {l : List Cr} {id m : Int} {k : Nat} (hk : fnd (isC id) l = k) (hl : k < l.length) (h : l[k].fuel < m) : ufOk l id m = false ∧ ufL l id m = [] := by
  have : ufOk l id m = false := by
    unfold ufOk
    rw [hk, Int.toNat_natCast, cri_of hl, decide_eq_false (show ¬ m ≤ l[k].fuel by omega), Bool.and_false]
  exact ⟨this, by unfold ufL; rw [this]; rfl⟩
theorem uf_good {l : List Cr} {id m : Int} {k : Nat} (h : crsGood l = true) (h2 : inB m 0 10000 = true) (hk : fnd (isC id) l = k) (hl : k < l.length) (h3 : m ≤ l[k].fuel) :
    ufOk l id m = true ∧ ufL l id m = l.set k ⟨l[k].id, l[k].name, l[k].draught, l[k].ahead, l[k].beside, l[k].speed, l[k].fuel - m⟩ := by
  have : ufOk l id m = true := by unfold ufOk; rw [hk, Int.toNat_natCast, cri_of hl, h, h2, decide_eq_true h3]; simp
  exact ⟨this, by unfold ufL; rw [if_pos this, hk, Int.toNat_natCast, cri_of hl]⟩
theorem ufL_len {l : List Cr} {id m : Int} (hn : l.length ≤ 1048576) : (ufL l id m).length ≤ 1048576 := by
  unfold ufL
  split
  · rw [List.length_set]; exact hn
  · simp
theorem fnd_id {l : List Cr} (h : crsGood l = true) {id : Int} {k : Nat} (hk : k < l.length) (hi : l[k].id = id) : fnd (isC id) l = k :=
  fnd_hit hk (fun m hm => by
    have := crsGood_asc h hm hk
    rw [cri_of hk, cri_of (show m < l.length by omega)] at this
    simp [isC]; omega) (by simp [isC, hi])
theorem uf_none {l : List Cr} (h : crsGood l = true) {id m : Int} (h2 : ∀ k (hk : k < l.length), ¬ (l[k].id = id ∧ m ≤ l[k].fuel)) : ufOk l id m = false ∧ ufL l id m = [] := by
  rcases fnd_cases (isC id) l with e | ⟨k, hk, e, hp, _⟩
  · exact uf_bad (.inr (.inr e))
  · refine uf_low e hk ?_
    have := h2 k hk
    simp [isC] at hp
    omega
/-- What the law on fleets asks of it. -/
theorem uf_each {l : List Cr} {id m : Int} {i : Nat} (hi : i < (ufL l id m).length) : ∃ hl : i < l.length, (l[i].fuel - (ufL l id m)[i].fuel = 0 ∨ l[i].fuel - (ufL l id m)[i].fuel = m) ∧ (l[i].id = id → l[i].fuel - (ufL l id m)[i].fuel = m) ∧
    0 ≤ l[i].fuel ∧ l[i].fuel ≤ 10000 ∧ -10000 ≤ (ufL l id m)[i].fuel ∧ (ufL l id m)[i].fuel ≤ 20000 := by
  cases g : ufOk l id m with
  | false =>
    exfalso
    have : ufL l id m = [] := by unfold ufL; rw [g]; rfl
    rw [this] at hi
    simp at hi
  | true =>
    have g1 := g
    unfold ufOk at g1
    simp only [Bool.and_eq_true, inB_true, decide_eq_true_eq] at g1
    obtain ⟨⟨⟨gg, gm⟩, g0⟩, gf⟩ := g1
    rcases fnd_cases (isC id) l with e | ⟨k, hk, e, hp, _⟩
    · omega
    · rw [e, Int.toNat_natCast, cri_of hk] at gf
      have u := (uf_good gg (inB_true.2 gm) e hk gf).2
      have hl : i < l.length := by rw [u, List.length_set] at hi; exact hi
      have b := crOk_bd (crsGood_at gg hl)
      have b2 := crOk_bd (crsGood_at gg hk)
      refine ⟨hl, ?_⟩
      have hx : (ufL l id m)[i] = if k = i then ⟨l[k].id, l[k].name, l[k].draught, l[k].ahead, l[k].beside, l[k].speed, l[k].fuel - m⟩ else l[i] := by
        have : (ufL l id m)[i]? = some (if k = i then ⟨l[k].id, l[k].name, l[k].draught, l[k].ahead, l[k].beside, l[k].speed, l[k].fuel - m⟩ else l[i]) := by
          rw [u, List.getElem?_set]
          by_cases e2 : k = i
          · subst e2; simp [hk]
          · simp [e2, List.getElem?_eq_getElem hl]
        rw [List.getElem?_eq_getElem hi] at this
        injection this
      rw [hx]
      simp [isC] at hp
      by_cases e2 : k = i
      · subst e2
        rw [if_pos rfl]
        dsimp only
        omega
      · rw [if_neg e2]
        refine ⟨.inl (by omega), fun h => ?_, by omega, by omega, by omega, by omega⟩
        exfalso
        rcases Nat.lt_or_gt_of_ne e2 with h3 | h3
        · have := crsGood_asc gg h3 hl
          rw [cri_of hl, cri_of hk] at this; omega
        · have := crsGood_asc gg h3 hk
          rw [cri_of hl, cri_of hk] at this; omega
/-! The shallowest. -/
def shK (l : List Cr) : Nat → Nat
  | 0 => 0
  | k + 1 => if (cri l k).draught < (cri l (shK l k)).draught then k else shK l k
theorem shK_lt (l : List Cr) : ∀ k, 0 < k → shK l k < k
  | 0, h => by omega
  | k + 1, _ => by
    rw [shK]
    split
    · omega
    · by_cases e : k = 0
      · subst e; simp [shK]
      · have := shK_lt l k (by omega); omega
theorem shK_le (l : List Cr) : ∀ k i, i < k → (cri l (shK l k)).draught ≤ (cri l i).draught
  | 0, _, h => by omega
  | k + 1, i, h => by
    rw [shK]
    by_cases e : i = k
    · subst e
      split <;> omega
    · have := shK_le l k i (by omega)
      split <;> omega
@[irreducible] def shOk (l : List Cr) : Bool := crsGood l && decide (0 < l.length)
@[irreducible] def shV (l : List Cr) : Int := if shOk l then (cri l (shK l l.length)).id else 0
theorem sh_bad {l : List Cr} (h : crsGood l = false ∨ l.length = 0) : shOk l = false ∧ shV l = 0 := by
  have : shOk l = false := by unfold shOk; rcases h with h | h <;> simp [h]
  exact ⟨this, by unfold shV; rw [this]; rfl⟩
theorem sh_good {l : List Cr} (h : crsGood l = true) (h2 : 0 < l.length) : shOk l = true ∧ shV l = (cri l (shK l l.length)).id := by
  have : shOk l = true := by unfold shOk; simp [h, h2]
  exact ⟨this, by unfold shV; rw [if_pos this]⟩
/-! How many seconds a craft runs. -/
def secs (v : Cr) (m : Int) : Int := (10 * m + v.speed - 1) / v.speed
theorem secs_by {v : Cr} {m : Int} (h1 : 1 ≤ v.speed) (h0 : 0 ≤ m) (hm : m ≤ 100000) : 0 ≤ secs v m ∧ secs v m ≤ 1000000 ∧ 10 * m ≤ secs v m * v.speed ∧ secs v m * v.speed ≤ 10 * m + v.speed - 1 := by
  have e := Int.emod_add_mul_ediv (10 * m + v.speed - 1) v.speed
  have p := Int.emod_nonneg (10 * m + v.speed - 1) (show v.speed ≠ 0 by omega)
  have q := Int.emod_lt_of_pos (10 * m + v.speed - 1) (show 0 < v.speed by omega)
  have s0 : 0 ≤ (10 * m + v.speed - 1) / v.speed := Int.ediv_nonneg (by omega) (by omega)
  unfold secs
  rw [Int.mul_comm v.speed] at e
  generalize (10 * m + v.speed - 1) / v.speed = x at *
  generalize (10 * m + v.speed - 1) % v.speed = y at *
  refine ⟨s0, ?_, by omega, by omega⟩
  rcases Int.lt_or_le 1000000 x with h | h
  · exfalso
    have := Int.mul_le_mul_of_nonneg_right (show 1000001 ≤ x by omega) (show 0 ≤ v.speed by omega)
    omega
  · exact h
/-! The chosen one. -/
def canB (v : Cr) (m d : Int) : Bool := decide (v.draught ≤ d) && decide (secs v m ≤ 60 * v.fuel)
def cfK (l : List Cr) (m d : Int) : Nat → Int
  | 0 => -1
  | k + 1 => if canB (cri l k) m d = true ∧ (cfK l m d k < 0 ∨ (cri l (cfK l m d k).toNat).speed < (cri l k).speed) then (k : Int) else cfK l m d k
theorem cfK_in (l : List Cr) (m d : Int) : ∀ k, cfK l m d k = -1 ∨ ∃ j : Nat, j < k ∧ cfK l m d k = j ∧ canB (cri l j) m d = true
  | 0 => .inl rfl
  | k + 1 => by
    rw [cfK]
    split
    · rename_i h
      exact .inr ⟨k, by omega, rfl, h.1⟩
    · rcases cfK_in l m d k with h | ⟨j, h1, h2, h3⟩
      · exact .inl h
      · exact .inr ⟨j, by omega, h2, h3⟩
@[irreducible] def cfOk (l : List Cr) (m d : Int) : Bool := crsGood l && inB m 0 100000 && inB d (-1000) 20000
@[irreducible] def cfB (l : List Cr) (m d : Int) : Bool := cfOk l m d && decide (0 ≤ cfK l m d l.length)
@[irreducible] def cfV (l : List Cr) (m d : Int) : Int := if cfB l m d then (cri l (cfK l m d l.length).toNat).id else 0
theorem cf_bad {l : List Cr} {m d : Int} (h : crsGood l = false ∨ inB m 0 100000 = false ∨ inB d (-1000) 20000 = false) : cfB l m d = false ∧ cfV l m d = 0 := by
  have : cfB l m d = false := by unfold cfB cfOk; rcases h with h | h | h <;> simp [h]
  exact ⟨this, by unfold cfV; rw [this]; rfl⟩
theorem cf_none {l : List Cr} {m d : Int} (h : cfK l m d l.length = -1) : cfB l m d = false ∧ cfV l m d = 0 := by
  have : cfB l m d = false := by unfold cfB; rw [h]; simp
  exact ⟨this, by unfold cfV; rw [this]; rfl⟩
theorem cf_good {l : List Cr} {m d : Int} {j : Nat} (h : crsGood l = true) (h2 : inB m 0 100000 = true) (h3 : inB d (-1000) 20000 = true) (hj : cfK l m d l.length = j) : cfB l m d = true ∧ cfV l m d = (cri l j).id := by
  have : cfB l m d = true := by unfold cfB cfOk; simp [h, h2, h3, hj]
  exact ⟨this, by unfold cfV; rw [if_pos this, hj, Int.toNat_natCast]⟩
/-- What the law on fleets asks of the chosen one. -/
theorem cf_floats {l : List Cr} {m d : Int} (h : cfB l m d = true) : flOk l d 0 = true ∧ shOk l = true ∧ cfV l m d ∈ flL l d 0 ∧ shV l ∈ flL l d 0 := by
  have h1 := h
  unfold cfB cfOk at h1
  simp only [Bool.and_eq_true, decide_eq_true_eq] at h1
  obtain ⟨⟨⟨g, g2⟩, g3⟩, g4⟩ := h1
  rcases cfK_in l m d l.length with e | ⟨j, h1, h2, h3⟩
  · omega
  · obtain ⟨f1, f2⟩ := fl_good g g3 (inB_true.2 (by omega) : inB 0 0 500 = true)
    have e := (cf_good g g2 g3 h2).2
    obtain ⟨s1, s2⟩ := sh_good g (show 0 < l.length by omega)
    have k1 := shK_lt l l.length (by omega)
    have k2 := shK_le l l.length j h1
    simp only [canB, Bool.and_eq_true, decide_eq_true_eq] at h3
    refine ⟨f1, s1, ?_, ?_⟩
    · rw [e, f2, cri_of h1]
      exact fl_has h1 (by rw [← cri_of h1]; exact h3.1) _ h1
    · rw [s2, f2, cri_of k1]
      exact fl_has k1 (by rw [← cri_of k1]; omega) _ k1
/-! The antenna and the sounder. -/
def ofE (v : Cr) (h : Int) : Int := if h = 0 then v.beside else if h = 1 then v.ahead else if h = 2 then -v.beside else -v.ahead
def ofN (v : Cr) (h : Int) : Int := if h = 0 then v.ahead else if h = 1 then -v.beside else if h = 2 then -v.ahead else v.beside
@[irreducible] def plOk (v : Cr) (x y h : Int) : Bool := crOk v && inB x 0 10000 && inB y 0 10000 && inB h 0 3
theorem plOk_def (v : Cr) (x y h : Int) : plOk v x y h = (crOk v && inB x 0 10000 && inB y 0 10000 && inB h 0 3) := by unfold plOk; rfl
theorem plOk_bd {v : Cr} {x y h : Int} (g : plOk v x y h = true) : 0 ≤ x ∧ x ≤ 10000 ∧ 0 ≤ y ∧ y ≤ 10000 ∧ 0 ≤ h ∧ h ≤ 3 ∧ -500 ≤ ofE v h ∧ ofE v h ≤ 500 ∧ -500 ≤ ofN v h ∧ ofN v h ≤ 500 := by
  rw [plOk_def] at g
  simp only [Bool.and_eq_true, inB_true] at g
  have b := crOk_bd g.1.1.1
  unfold ofE ofN
  refine ⟨by omega, by omega, by omega, by omega, by omega, by omega, ?_, ?_, ?_, ?_⟩ <;> split <;> (try split) <;> (try split) <;> omega
@[irreducible] def saX (v : Cr) (x y h : Int) : Int := if plOk v x y h then x + ofE v h else 0
@[irreducible] def saY (v : Cr) (x y h : Int) : Int := if plOk v x y h then y + ofN v h else 0
@[irreducible] def anX (v : Cr) (x y h : Int) : Int := if plOk v x y h then x - ofE v h else 0
@[irreducible] def anY (v : Cr) (x y h : Int) : Int := if plOk v x y h then y - ofN v h else 0
theorem pl_bad {v : Cr} {x y h : Int} (g : plOk v x y h = false) : saX v x y h = 0 ∧ saY v x y h = 0 ∧ anX v x y h = 0 ∧ anY v x y h = 0 := by
  refine ⟨?_, ?_, ?_, ?_⟩
  · unfold saX; simp [g]
  · unfold saY; simp [g]
  · unfold anX; simp [g]
  · unfold anY; simp [g]
theorem pl_good {v : Cr} {x y h : Int} (g : plOk v x y h = true) : saX v x y h = x + ofE v h ∧ saY v x y h = y + ofN v h ∧ anX v x y h = x - ofE v h ∧ anY v x y h = y - ofN v h := by
  refine ⟨?_, ?_, ?_, ?_⟩
  · unfold saX; simp [g]
  · unfold saY; simp [g]
  · unfold anX; simp [g]
  · unfold anY; simp [g]
@[irreducible] def seOk (v : Cr) (m : Int) : Bool := crOk v && inB m 0 100000
@[irreducible] def seV (v : Cr) (m : Int) : Int := if seOk v m then secs v m else 0
theorem se_bad {v : Cr} {m : Int} (h : crOk v = false ∨ inB m 0 100000 = false) : seOk v m = false ∧ seV v m = 0 := by
  have : seOk v m = false := by unfold seOk; rcases h with h | h <;> simp [h]
  exact ⟨this, by unfold seV; rw [this]; rfl⟩
theorem se_good {v : Cr} {m : Int} (h : crOk v = true) (h2 : inB m 0 100000 = true) : seOk v m = true ∧ seV v m = secs v m := by
  have : seOk v m = true := by unfold seOk; simp [h, h2]
  exact ⟨this, by unfold seV; rw [if_pos this]⟩
end Go.Proofs.YtanmkjjclpplkaaDoor
