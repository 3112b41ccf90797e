/- Plain facts on the text of a sounding: numerals read back, cuts at a byte, what a reader of such a text must answer. Lists of bytes and numbers alone. -/
import Derived.Test.YtllionelhbjadaaDoorT8
import Derived.Lib.AtoiAll
import Derived.Lib.IndexMore
import Derived.Lib.ItoaNum
import Derived.Lib.CutLaws
set_option linter.unusedVariables false
set_option linter.unusedSimpArgs false
namespace Go.Proofs.YtllionelhbjadaaDoor
open Go.RowKit
set_option maxHeartbeats 1000000
def isD (b : UInt8) : Prop := 48 ≤ b.toNat ∧ b.toNat ≤ 57
theorem dd_small {k : Nat} (h : k < 10) : Lib.decDigits k = [UInt8.ofNat (48 + k)] := Lib.decDigits_one h
theorem dd_big {k : Nat} (h : ¬ k < 10) : Lib.decDigits k = Lib.decDigits (k / 10) ++ [UInt8.ofNat (48 + k % 10)] := by rw [Lib.decDigits, dif_neg h]
theorem ofN {k : Nat} (h : k < 10) : (UInt8.ofNat (48 + k)).toNat = 48 + k := by rw [UInt8.toNat_ofNat']; omega
theorem dd_digit (k : Nat) : ∀ b ∈ Lib.decDigits k, isD b := by
  induction k using Nat.strongRecOn with
  | _ k ih =>
  intro b hb
  by_cases h : k < 10
  · rw [dd_small h] at hb
    obtain rfl := List.mem_singleton.1 hb
    unfold isD; rw [ofN h]; omega
  · rw [dd_big h] at hb
    rcases List.mem_append.1 hb with hb | hb
    · exact ih (k / 10) (by omega) b hb
    · obtain rfl := List.mem_singleton.1 hb
      have hk : k % 10 < 10 := by omega
      unfold isD; rw [ofN hk]; omega
theorem dd_ne (k : Nat) : Lib.decDigits k ≠ [] := by
  by_cases h : k < 10
  · rw [dd_small h]; simp
  · rw [dd_big h]; simp
theorem dd_len (j : Nat) : ∀ k, 0 < j → k < 10 ^ j → (Lib.decDigits k).length ≤ j := by
  induction j with
  | zero => intro k h; omega
  | succ j ih =>
    intro k _ hk
    by_cases h : k < 10
    · rw [dd_small h]; simp
    · rw [dd_big h, List.length_append]
      have hj : 0 < j := by
        rcases Nat.eq_zero_or_pos j with e | e
        · subst e; simp at hk; omega
        · exact e
      have : k / 10 < 10 ^ j := by rw [Nat.pow_succ] at hk; omega
      have := ih (k / 10) hj this
      simp; omega
theorem pu_snoc : ∀ (l : List UInt8) (acc u : Nat) (b : UInt8), Lib.parseUint10 acc l = .ok u → isD b → u < 1844674407370955161 → Lib.parseUint10 acc (l ++ [b]) = .ok (u * 10 + (b.toNat - 48))
  | [], acc, u, b, h, hb, hu => by
    simp only [Lib.parseUint10] at h
    injection h with h
    subst h
    obtain ⟨h1, h2⟩ := hb
    simp only [List.nil_append, Lib.parseUint10]
    rw [if_pos ⟨h1, h2⟩, if_neg (by omega), if_neg (by omega)]
  | c :: r, acc, u, b, h, hb, hu => by
    simp only [List.cons_append, Lib.parseUint10] at h ⊢
    split at h
    · rename_i h1
      rw [if_pos h1]
      split at h
      · cases h
      · rename_i h2
        rw [if_neg h2]
        split at h
        · cases h
        · rename_i h3
          rw [if_neg h3]
          exact pu_snoc r _ u b h hb hu
    · cases h
theorem pu_dd (k : Nat) (hk : k ≤ 1000000000) : Lib.parseUint10 0 (Lib.decDigits k) = .ok k := by
  induction k using Nat.strongRecOn with
  | _ k ih =>
  by_cases h : k < 10
  · rw [dd_small h]
    have e := ofN h
    simp only [Lib.parseUint10, e]
    rw [if_pos (by omega), if_neg (by omega), if_neg (by omega)]
    congr 1; omega
  · rw [dd_big h]
    have := pu_snoc _ 0 (k / 10) (UInt8.ofNat (48 + k % 10)) (ih (k / 10) (by omega) (by omega)) (by unfold isD; rw [ofN (by omega)]; omega) (by omega)
    rw [this, ofN (by omega)]
    congr 1; omega
theorem atoi_itoa (z : Int) (h0 : -1000000000 ≤ z) (h1 : z ≤ 1000000000) : Lib.atoiAll (Lib.itoa z) = .ok z := by
  unfold Lib.itoa
  by_cases h : z < 0
  · rw [if_pos h]
    have p := pu_dd z.natAbs (by omega)
    have e : Lib.parseMag (Lib.decDigits z.natAbs) = .ok z.natAbs := by unfold Lib.parseMag; rw [if_neg (dd_ne _)]; exact p
    unfold Lib.atoiAll
    simp only [show (45 : UInt8).toNat = 45 from rfl, or_true, if_true, e]
    rw [if_neg (by simp), if_neg (by omega)]
    congr 1; omega
  · rw [if_neg h]
    have p := pu_dd z.toNat (by omega)
    have e : Lib.parseMag (Lib.decDigits z.toNat) = .ok z.toNat := by unfold Lib.parseMag; rw [if_neg (dd_ne _)]; exact p
    have hd := dd_digit z.toNat
    cases hl : Lib.decDigits z.toNat with
    | nil => exact absurd hl (dd_ne _)
    | cons c r =>
      rw [hl] at e hd
      obtain ⟨c1, c2⟩ := hd c (List.mem_cons_self ..)
      unfold Lib.atoiAll
      simp only
      rw [if_neg (by omega), e]
      simp only
      rw [if_neg (by omega), if_neg (by omega), if_neg (by omega)]
      congr 1; omega
theorem itoa_inj {a b : Int} (a0 : -1000000000 ≤ a) (a1 : a ≤ 1000000000) (b0 : -1000000000 ≤ b) (b1 : b ≤ 1000000000) (h : Lib.itoa a = Lib.itoa b) : a = b := by
  have e1 := atoi_itoa a a0 a1
  rw [h, atoi_itoa b b0 b1] at e1
  injection e1 with e1
  exact e1.symm
theorem itoa_bytes (z : Int) : ∀ b ∈ Lib.itoa z, b = 45 ∨ isD b := by
  intro b hb
  unfold Lib.itoa at hb
  split at hb
  · rcases List.mem_cons.1 hb with h | h
    · exact .inl h
    · exact .inr (dd_digit _ b h)
  · exact .inr (dd_digit _ b hb)
theorem itoa_no (z : Int) {c : UInt8} (h1 : c ≠ 45) (h2 : ¬ isD c) : c ∉ Lib.itoa z := fun h => (itoa_bytes z c h).elim h1 h2
theorem itoa_len (z : Int) (h0 : -999999 ≤ z) (h1 : z ≤ 999999) : (Lib.itoa z).length ≤ 7 := by
  unfold Lib.itoa
  split
  · have := dd_len 6 z.natAbs (by omega) (by omega)
    simp; omega
  · have := dd_len 6 z.toNat (by omega) (by omega)
    omega
theorem num_list (z : Int) : (num z).data.toList = Lib.itoa z := by unfold num; simp
theorem ba_ext {a b : ByteArray} (h : a.data.toList = b.data.toList) : a = b := ByteArray.ext (Array.ext' h)
theorem num_of {s : ByteArray} {z : Int} (h : s.data.toList = Lib.itoa z) : s = num z := ba_ext (h.trans (num_list z).symm)
theorem sg {s : ByteArray} {k : Nat} (hk : k < s.size) : s.data.toList[k]'(by rw [Array.length_toList]; exact hk) = s[k] := by rw [Array.getElem_toList]; rfl
theorem sl {s : ByteArray} : s.data.toList.length = s.size := Array.length_toList
theorem ex_list (s : ByteArray) (a b : Nat) : (s.extract a b).data.toList = (s.data.toList.drop a).take (b - a) := by rw [ByteArray.data_extract]; simp
/-! What digits spell. -/
def dv (l : List UInt8) : Int := l.foldl (fun a b => 10 * a + ((b.toNat : Int) - 48)) 0
theorem dv_snoc (l : List UInt8) (b : UInt8) : dv (l ++ [b]) = 10 * dv l + ((b.toNat : Int) - 48) := by unfold dv; rw [List.foldl_append]; rfl
theorem dv_dd (k : Nat) : dv (Lib.decDigits k) = k := by
  induction k using Nat.strongRecOn with
  | _ k ih =>
  by_cases h : k < 10
  · rw [dd_small h]
    unfold dv
    simp only [List.foldl_cons, List.foldl_nil, ofN h]; omega
  · rw [dd_big h, dv_snoc, ih (k / 10) (by omega), ofN (by omega)]; omega
theorem dv_bd : ∀ (n : Nat) (l : List UInt8), l.length = n → (∀ b ∈ l, isD b) → 0 ≤ dv l ∧ dv l < 10 ^ n
  | 0, l, h, _ => by
    obtain rfl : l = [] := List.length_eq_zero_iff.1 h
    exact ⟨by simp [dv], by simp [dv]⟩
  | n + 1, l, h, hd => by
    have hl : l ≠ [] := by intro e; subst e; simp at h
    rw [← List.dropLast_concat_getLast hl]
    obtain ⟨d1, d2⟩ := hd _ (List.getLast_mem hl)
    obtain ⟨i1, i2⟩ := dv_bd n l.dropLast (by rw [List.length_dropLast]; omega) (fun b hb => hd b (List.dropLast_subset l hb))
    rw [dv_snoc, Int.pow_succ]
    omega
/-! Cuts. -/
def cuL (b : UInt8) : List UInt8 → List UInt8
  | [] => []
  | a :: l => if a = b then [] else a :: cuL b l
def cuR (b : UInt8) : List UInt8 → List UInt8
  | [] => []
  | a :: l => if a = b then l else cuR b l
theorem cu_hit {b : UInt8} : ∀ {u v : List UInt8}, b ∉ u → cuL b (u ++ b :: v) = u ∧ cuR b (u ++ b :: v) = v
  | [], v, _ => by simp [cuL, cuR]
  | a :: u, v, h => by
    have ha : ¬ a = b := by intro e; exact h (by simp [e])
    have := cu_hit (u := u) (v := v) (fun hm => h (List.mem_cons_of_mem _ hm))
    rw [List.cons_append, cuL, cuR, if_neg ha, if_neg ha, this.1, this.2]
    exact ⟨rfl, rfl⟩
theorem cu_take {b : UInt8} {l : List UInt8} {i : Nat} (hi : i < l.length) (hb : l[i] = b) (hn : ∀ m (hm : m < l.length), m < i → l[m] ≠ b) : cuL b l = l.take i ∧ cuR b l = l.drop (i + 1) := by
  have e : l = l.take i ++ b :: l.drop (i + 1) := by
    rw [← hb, List.getElem_cons_drop hi, List.take_append_drop]
  have hm : b ∉ l.take i := by
    intro h
    obtain ⟨m, hm, e⟩ := List.mem_iff_getElem.1 h
    simp at hm
    rw [List.getElem_take] at e
    exact hn m (by omega) (by omega) e
  have := cu_hit (v := l.drop (i + 1)) hm
  rw [← e] at this
  exact this
theorem cu_no {b : UInt8} : ∀ {l : List UInt8}, b ∉ l → cuL b l = l ∧ cuR b l = []
  | [], _ => ⟨rfl, rfl⟩
  | a :: l, h => by
    have ha : ¬ a = b := by intro e; exact h (by simp [e])
    have := cu_no (l := l) (fun hm => h (List.mem_cons_of_mem _ hm))
    rw [cuL, cuR, if_neg ha, if_neg ha, this.1, this.2]
    exact ⟨rfl, rfl⟩
theorem cu_none {b : UInt8} {l : List UInt8} (hn : ∀ m (hm : m < l.length), l[m] ≠ b) : cuL b l = l ∧ cuR b l = [] :=
  cu_no (fun h => by
    obtain ⟨m, hm, e⟩ := List.mem_iff_getElem.1 h
    exact hn m hm e)
theorem ix_hit {c : UInt8} {r v : List UInt8} (hp : (c :: r).isPrefixOf (c :: v) = true) : ∀ {u : List UInt8}, c ∉ u → Lib.index (u ++ c :: v) (c :: r) = u.length
  | [], _ => by simp only [List.nil_append, Lib.index]; rw [if_pos hp]; rfl
  | a :: u, h => by
    have ha : ¬ (c = a) := by intro e; exact h (by simp [e])
    have ih := ix_hit hp (u := u) (fun hm => h (List.mem_cons_of_mem _ hm))
    rw [List.cons_append, Lib.index, if_neg (by simp [List.isPrefixOf, ha]), ih, if_neg (by simp)]
    simp
theorem cut_hit {c : UInt8} {r u v : List UInt8} (h : c ∉ u) : Lib.cut (u ++ (c :: r) ++ v) (c :: r) = (u, v, true) := by
  have e := ix_hit (c := c) (r := r) (v := r ++ v) (by simp) h
  unfold Lib.cut
  rw [List.append_assoc, List.cons_append, e, if_pos (by omega), Int.toNat_natCast]
  simp
theorem cut_yes {s sep u v : List UInt8} (h : Lib.cut s sep = (u, v, true)) : s = u ++ sep ++ v := by
  unfold Lib.cut at h
  split at h
  · rename_i h0
    rcases Lib.index_spec s sep with ⟨e, _⟩ | ⟨i, e, _, ho, _⟩
    · omega
    · rw [e, Int.toNat_natCast] at h
      simp only [Prod.mk.injEq] at h
      obtain ⟨rfl, rfl, _⟩ := h
      unfold Lib.occAt at ho
      obtain ⟨t, ht⟩ := List.isPrefixOf_iff_prefix.1 ho
      have : s.drop (i + sep.length) = t := by rw [← List.drop_drop, ← ht]; simp
      rw [this, List.append_assoc, ht, List.take_append_drop]
  · simp at h
/-! The text of a sounding. -/
def t5 (x : Sd) : List UInt8 := Lib.itoa x.doubt
def t4 (x : Sd) : List UInt8 := 45 :: t5 x
def t3 (x : Sd) : List UInt8 := Lib.itoa x.depth ++ 43 :: t4 x
def t2 (x : Sd) : List UInt8 := Lib.itoa x.y ++ 58 :: t3 x
def t1 (x : Sd) : List UInt8 := Lib.itoa x.x ++ 44 :: t2 x
def t0 (x : Sd) : List UInt8 := Lib.itoa x.id ++ 64 :: t1 x
theorem tx8_list (x : Sd) : (tx8 x).data.toList = t0 x := by
  unfold tx8 t0 t1 t2 t3 t4 t5
  simp [ByteArray.data_append, num_list]
theorem sd_sm {x : Sd} (h : sdOk x = true) : (-999999 ≤ x.id ∧ x.id ≤ 999999) ∧ (-999999 ≤ x.x ∧ x.x ≤ 999999) ∧ (-999999 ≤ x.y ∧ x.y ≤ 999999) ∧ (-999999 ≤ x.depth ∧ x.depth ≤ 999999) ∧ (-999999 ≤ x.doubt ∧ x.doubt ≤ 999999) := by
  rw [sdOk_def] at h
  simp only [Bool.and_eq_true, inB_true] at h
  omega
theorem no64 (z : Int) : (64 : UInt8) ∉ Lib.itoa z := itoa_no z (by decide) (by unfold isD; decide)
theorem no44 (z : Int) : (44 : UInt8) ∉ Lib.itoa z := itoa_no z (by decide) (by unfold isD; decide)
theorem no58 (z : Int) : (58 : UInt8) ∉ Lib.itoa z := itoa_no z (by decide) (by unfold isD; decide)
theorem no43 (z : Int) : (43 : UInt8) ∉ Lib.itoa z := itoa_no z (by decide) (by unfold isD; decide)
theorem tx8_inj {x y : Sd} (hx : sdOk x = true) (hy : sdOk y = true) (h : tx8 x = tx8 y) : x = y := by
  have e0 : t0 x = t0 y := by rw [← tx8_list, h, tx8_list]
  have bx := sd_sm hx
  have b := sd_sm hy
  unfold t0 at e0
  have a0 := cu_hit (v := t1 x) (no64 x.id)
  rw [e0] at a0
  have c0 := cu_hit (v := t1 y) (no64 y.id)
  have i0 := a0.1.symm.trans c0.1
  have e1 := a0.2.symm.trans c0.2
  unfold t1 at e1
  have a1 := cu_hit (v := t2 x) (no44 x.x)
  rw [e1] at a1
  have c1 := cu_hit (v := t2 y) (no44 y.x)
  have i1 := a1.1.symm.trans c1.1
  have e2 := a1.2.symm.trans c1.2
  unfold t2 at e2
  have a2 := cu_hit (v := t3 x) (no58 x.y)
  rw [e2] at a2
  have c2 := cu_hit (v := t3 y) (no58 y.y)
  have i2 := a2.1.symm.trans c2.1
  have e3 := a2.2.symm.trans c2.2
  unfold t3 at e3
  have a3 := cu_hit (v := t4 x) (no43 x.depth)
  rw [e3] at a3
  have c3 := cu_hit (v := t4 y) (no43 y.depth)
  have i3 := a3.1.symm.trans c3.1
  have e4 := a3.2.symm.trans c3.2
  unfold t4 t5 at e4
  injection e4 with _ i4
  have j0 := itoa_inj (by omega) (by omega) (by omega) (by omega) i0
  have j1 := itoa_inj (by omega) (by omega) (by omega) (by omega) i1
  have j2 := itoa_inj (by omega) (by omega) (by omega) (by omega) i2
  have j3 := itoa_inj (by omega) (by omega) (by omega) (by omega) i3
  have j4 := itoa_inj (by omega) (by omega) (by omega) (by omega) i4
  cases x; cases y; simp_all
theorem tx8_len {x : Sd} (h : sdOk x = true) : (tx8 x).size ≤ 40 := by
  have b := sd_sm h
  rw [← sl, tx8_list]
  unfold t0 t1 t2 t3 t4 t5
  have l0 := itoa_len x.id (by omega) (by omega)
  have l1 := itoa_len x.x (by omega) (by omega)
  have l2 := itoa_len x.y (by omega) (by omega)
  have l3 := itoa_len x.depth (by omega) (by omega)
  have l4 := itoa_len x.doubt (by omega) (by omega)
  simp; omega
/-! What a reader answers. -/
def z8 : Sd := ⟨0, 0, 0, 0, 0⟩
def PR (s : ByteArray) (y : Sd) (ok : Bool) : Prop := (ok = true ∧ sdOk y = true ∧ tx8 y = s) ∨ (ok = false ∧ y = z8 ∧ ∀ x, sdOk x = true → tx8 x ≠ s)
theorem PR.same {s : ByteArray} {y y' : Sd} {ok ok' : Bool} (h : PR s y ok) (h' : PR s y' ok') : y = y' ∧ ok = ok' := by
  rcases h with ⟨rfl, h1, h2⟩ | ⟨rfl, rfl, h2⟩ <;> rcases h' with ⟨rfl, k1, k2⟩ | ⟨rfl, rfl, k2⟩
  · exact ⟨tx8_inj h1 k1 (h2.trans k2.symm), rfl⟩
  · exact absurd h2 (k2 _ h1)
  · exact absurd k2 (h2 _ k1)
  · exact ⟨rfl, rfl⟩
theorem PR.ex (s : ByteArray) : ∃ p : Sd × Bool, PR s p.1 p.2 := by
  by_cases h : ∃ x, sdOk x = true ∧ tx8 x = s
  · obtain ⟨x, h1, h2⟩ := h
    exact ⟨(x, true), .inl ⟨rfl, h1, h2⟩⟩
  · exact ⟨(z8, false), .inr ⟨rfl, rfl, fun x h1 h2 => h ⟨x, h1, h2⟩⟩⟩
@[irreducible] noncomputable def psY (s : ByteArray) : Sd := (PR.ex s).choose.1
@[irreducible] noncomputable def psB (s : ByteArray) : Bool := (PR.ex s).choose.2
theorem ps_pr (s : ByteArray) : PR s (psY s) (psB s) := by unfold psY psB; exact (PR.ex s).choose_spec
theorem ps_of {s : ByteArray} {y : Sd} {ok : Bool} (h : PR s y ok) : y = psY s ∧ ok = psB s := h.same (ps_pr s)
theorem ps_back {x : Sd} (h : sdOk x = true) : psY (tx8 x) = x ∧ psB (tx8 x) = true := by
  obtain ⟨h1, h2⟩ := ps_of (.inl ⟨rfl, h, rfl⟩ : PR (tx8 x) x true)
  exact ⟨h1.symm, h2.symm⟩
/-- Where each part of a text of a sounding lies. -/
theorem tx8_parts {s : ByteArray} {x : Sd} (h : tx8 x = s) : s.data.toList = t0 x := by rw [← h, tx8_list]
end Go.Proofs.YtllionelhbjadaaDoor
