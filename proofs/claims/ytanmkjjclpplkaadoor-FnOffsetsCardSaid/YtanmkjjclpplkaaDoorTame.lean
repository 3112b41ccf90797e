/- A region that draws its order, whose operations each keep a class of worlds and yield some value of a kind: walked once in the order of the text. No condition. -/
import Derived.Test.YtanmkjjclpplkaaDoorBase
import Derived.Deep.Quiet
set_option linter.unusedVariables false
set_option linter.unusedSimpArgs false
namespace Go.Proofs.YtanmkjjclpplkaaDoor
open Go
section
variable {P : Program} {ops : Array Oper} {L : World → World → Prop} {C : Nat → World → Prop} {V : Nat → Value → World → Prop} {K m1 : Nat}
/-- What is asked behind one operation: the class with its budget, the order of worlds, the value's kind. -/
def tameQ (L : World → World → Prop) (C : Nat → World → Prop) (V : Nat → Value → World → Prop) (m2 : Nat) (o : Oper) (a : Act) (w : World) (e : Exit) (a' : Act) (w' : World) : Prop :=
  ∃ v, e = .normal ∧ a' = a.put o.dst v ∧ (∃ m, m ≤ m2 ∧ C m w') ∧ L w w' ∧ ∀ d, o.dst = some d → V d v w'
def looked (ops : Array Oper) (o : Oper) (V : Nat → Value → World → Prop) (a : Act) (w : World) : List Nat → Prop
  | [] => True
  | t :: r => (if (o.looksAt ops).contains t then V t (a.eval (.tmp t)) w else True) ∧ looked ops o V a w r
theorem looked_of {o : Oper} {a : Act} {w : World} : ∀ (ds : List Nat), (∀ t ∈ ds, t ∈ o.looksAt ops → V t (a.eval (.tmp t)) w) → looked ops o V a w ds
  | [], _ => trivial
  | t :: r, h => by
    refine ⟨?_, looked_of r (fun t ht => h t (List.mem_cons_of_mem _ ht))⟩
    split
    · rename_i hc; exact h t (List.mem_cons_self ..) (by simpa using hc)
    · trivial
/-- The walk in the order of the text. -/
def wpTame (P : Program) (ops : Array Oper) (L : World → World → Prop) (C : Nat → World → Prop) (V : Nat → Value → World → Prop) (K m1 : Nat) (w0 : World) (Q : Act → World → Prop) : List Oper → List Nat → Act → Prop
  | [], ds, a => ∀ m w, m ≤ m1 → C m w → L w0 w → (∀ t ∈ ds, V t (a.eval (.tmp t)) w) → Q a w
  | o :: rest, ds, a => (∀ m w, m + K ≤ m1 → C m w → L w0 w → looked ops o V a w ds → wpList P ops (tameQ L C V (m + K) o a w) [o] a w) ∧ ∀ v, wpTame P ops L C V K m1 w0 Q rest (o.dst.toList ++ ds) (a.put o.dst v)
theorem tame_nil {w0 : World} {Q : Act → World → Prop} {ds : List Nat} {a : Act} (h : ∀ m w, m ≤ m1 → C m w → L w0 w → (∀ t ∈ ds, V t (a.eval (.tmp t)) w) → Q a w) : wpTame P ops L C V K m1 w0 Q [] ds a := h
theorem tame_cons {w0 : World} {Q : Act → World → Prop} {ds : List Nat} {a : Act} {o : Oper} {rest : List Oper}
    (h1 : ∀ m w, m + K ≤ m1 → C m w → L w0 w → looked ops o V a w ds → wpList P ops (tameQ L C V (m + K) o a w) [o] a w) (h2 : ∀ v, wpTame P ops L C V K m1 w0 Q rest (o.dst.toList ++ ds) (a.put o.dst v)) : wpTame P ops L C V K m1 w0 Q (o :: rest) ds a := ⟨h1, h2⟩
def putOf (a' : Act) (a : Act) (o : Oper) : Act := a.put o.dst (match o.dst with | some d => a'.eval (.tmp d) | none => undef)
def lexAct (a' : Act) : List Oper → Act → Act
  | [], a => a
  | o :: r, a => lexAct a' r (putOf a' a o)
def dsts : List Oper → List Nat → List Nat
  | [], ds => ds
  | o :: r, ds => dsts r (o.dst.toList ++ ds)
theorem mem_dsts {t : Nat} : ∀ {l : List Oper} {ds : List Nat}, t ∈ dsts l ds ↔ (t ∈ ds ∨ ∃ o ∈ l, o.dst = some t)
  | [], ds => by simp [dsts]
  | o :: r, ds => by
    rw [dsts, mem_dsts]
    cases ho : o.dst with
    | none => simp [ho]
    | some d =>
      simp [ho]
      constructor
      · rintro ((rfl | h) | h)
        · exact .inr (.inl rfl)
        · exact .inl h
        · exact .inr (.inr h)
      · rintro (h | rfl | h)
        · exact .inl (.inr h)
        · exact .inl (.inl rfl)
        · exact .inr h
theorem tame_at {w0 : World} {Q : Act → World → Prop} (a' : Act) : ∀ (l : List Oper) (ds : List Nat) (a : Act) (k : Nat) (o : Oper), l[k]? = some o → wpTame P ops L C V K m1 w0 Q l ds a →
    ∀ m w, m + K ≤ m1 → C m w → L w0 w → (∀ t ∈ dsts (l.take k) ds, t ∈ o.looksAt ops → V t ((lexAct a' (l.take k) a).eval (.tmp t)) w) → wpList P ops (tameQ L C V (m + K) o (lexAct a' (l.take k) a) w) [o] (lexAct a' (l.take k) a) w
  | [], _, _, _, _, h, _ => by simp at h
  | x :: l, ds, a, 0, o, h, hw => by
    have : x = o := by simpa using h
    subst this
    intro m w hm hc hl hv
    exact hw.1 m w hm hc hl (looked_of _ (by simpa [dsts, lexAct] using hv))
  | x :: l, ds, a, k + 1, o, h, hw => by
    have := tame_at a' l (x.dst.toList ++ ds) (putOf a' a x) k o (by simpa using h) (hw.2 _)
    simpa [dsts, lexAct] using this
theorem tame_end {w0 : World} {Q : Act → World → Prop} (a' : Act) : ∀ (l : List Oper) (ds : List Nat) (a : Act), wpTame P ops L C V K m1 w0 Q l ds a →
    ∀ m w, m ≤ m1 → C m w → L w0 w → (∀ t ∈ dsts l ds, V t ((lexAct a' l a).eval (.tmp t)) w) → Q (lexAct a' l a) w
  | [], _, _, h => h
  | x :: l, ds, a, h => tame_end a' l (x.dst.toList ++ ds) (putOf a' a x) (h.2 _)
theorem put_size (a : Act) (d : Option Tmp) (v : Value) : (a.put d v).tmps.size = a.tmps.size := by
  cases d with
  | none => rfl
  | some d => simp [Act.put]
theorem put_defers' (a : Act) (d : Option Tmp) (v : Value) : (a.put d v).defers = a.defers := by
  cases d <;> rfl
theorem eval_put_self {a : Act} {d : Nat} (v : Value) (h : d < a.tmps.size) : (a.put (some d) v).eval (.tmp d) = v := by
  simp [Act.put, Act.eval, h]
theorem eval_put_ne {a : Act} {x : Option Tmp} {t : Nat} (v : Value) (h : x ≠ some t) : (a.put x v).eval (.tmp t) = a.eval (.tmp t) := by
  refine Act.eval_put fun d hd e => ?_
  injection e with e
  subst e
  exact h hd
theorem lex_size (a' : Act) : ∀ (l : List Oper) (a : Act), (lexAct a' l a).tmps.size = a.tmps.size
  | [], _ => rfl
  | o :: r, a => by rw [lexAct, lex_size a' r]; exact put_size _ _ _
theorem lex_defers (a' : Act) : ∀ (l : List Oper) (a : Act), (lexAct a' l a).defers = a.defers
  | [], _ => rfl
  | o :: r, a => by rw [lexAct, lex_defers a' r]; exact put_defers' _ _ _
theorem lex_out (a' : Act) (t : Nat) : ∀ (l : List Oper) (a : Act), (∀ o ∈ l, o.dst ≠ some t) → (lexAct a' l a).eval (.tmp t) = a.eval (.tmp t)
  | [], _, _ => rfl
  | o :: r, a, h => by
    rw [lexAct, lex_out a' t r _ (fun x hx => h x (List.mem_cons_of_mem _ hx))]
    exact eval_put_ne _ (h o (List.mem_cons_self ..))
theorem lex_in (a' : Act) (t : Nat) : ∀ (l : List Oper) (a : Act), t < a.tmps.size → (∃ o ∈ l, o.dst = some t) → (lexAct a' l a).eval (.tmp t) = a'.eval (.tmp t)
  | [], _, _, h => by obtain ⟨_, h, _⟩ := h; simp at h
  | o :: r, a, hs, h => by
    by_cases hr : ∃ x ∈ r, x.dst = some t
    · rw [lexAct]; exact lex_in a' t r _ (by rw [putOf, put_size]; exact hs) hr
    · obtain ⟨x, hx, hd⟩ := h
      have hxo : x = o := by
        rcases List.mem_cons.1 hx with h | h
        · exact h
        · exact absurd ⟨x, h, hd⟩ hr
      subst hxo
      rw [lexAct, lex_out a' t r _ (fun y hy e => hr ⟨y, hy, e⟩)]
      unfold putOf
      rw [hd]
      exact eval_put_self _ hs
/-- The region's order, as a test. -/
def tameB (ops : Array Oper) (n : Nat) : Bool :=
  Region.noSelect ops && (List.range ops.size).all fun k => match ops[k]? with
    | some o => (o.after.all fun e => !Region.binds .any e || decide (e.on < k)) && (match o.dst with | some d => decide (d < n) | none => true) &&
        (List.range ops.size).all fun j => decide (j ≤ k) || match ops[j]? with
          | some oj => oj.after.any (fun e => Region.binds .any e && e.on == k) || o.apart ops oj
          | none => true
    | none => true
theorem tameB_spec {n : Nat} (h : tameB ops n = true) {k : Nat} {o : Oper} (hk : ops[k]? = some o) :
    (∀ e ∈ o.after, Region.binds .any e = true → e.on < k) ∧ (∀ d, o.dst = some d → d < n) ∧
    ∀ j oj, k < j → ops[j]? = some oj → (∃ e ∈ oj.after, Region.binds .any e = true ∧ e.on = k) ∨ o.apart ops oj = true := by
  simp only [tameB, Bool.and_eq_true, List.all_eq_true, List.mem_range] at h
  have hlt := (Array.getElem?_eq_some_iff.1 hk).1
  have h1 := h.2 k hlt
  simp only [hk, Bool.and_eq_true] at h1
  obtain ⟨⟨h2, h3⟩, h4⟩ := h1
  refine ⟨fun e he hb => ?_, fun d hd => ?_, fun j oj hj hoj => ?_⟩
  · have := Array.all_eq_true_iff_forall_mem.1 h2 e he
    simpa [hb] using this
  · simpa [hd] using h3
  · have h5 := (List.all_eq_true.1 h4) j (List.mem_range.2 (Array.getElem?_eq_some_iff.1 hoj).1)
    simp only [hoj, Bool.or_eq_true, decide_eq_true_eq] at h5
    rcases h5 with h5 | h5 | h5
    · omega
    · obtain ⟨e, he, hb⟩ := Array.any_eq_true'.1 h5
      simp only [Bool.and_eq_true, beq_iff_eq] at hb
      exact .inl ⟨e, he, hb.1, hb.2⟩
    · exact .inr h5
def unl (listed : Array Bool) : Nat → Nat
  | 0 => 0
  | n + 1 => unl listed n + (if listed.getD n true = false then 1 else 0)
theorem unl_zero {listed : Array Bool} : ∀ {n : Nat}, unl listed n = 0 → ∀ j, j < n → listed.getD j true = true
  | 0, _, j, hj => by omega
  | n + 1, h, j, hj => by
    rw [unl] at h
    by_cases e : j = n
    · subst e
      cases hb : listed.getD j true with
      | true => rfl
      | false => rw [hb] at h; simp at h
    · exact unl_zero (n := n) (by omega) j (by omega)
theorem getD_set_self (listed : Array Bool) (k : Nat) : (listed.setIfInBounds k true).getD k true = true := by
  rcases Nat.lt_or_ge k listed.size with h | h
  · simp [h]
  · simp [Array.getElem?_eq_none (show (listed.setIfInBounds k true).size ≤ k by simpa using h)]
theorem unl_set {listed : Array Bool} {k : Nat} (hk : listed.getD k true = false) : ∀ n, unl (listed.setIfInBounds k true) n + (if k < n then 1 else 0) = unl listed n
  | 0 => by simp [unl]
  | n + 1 => by
    have ih := unl_set hk n
    rw [unl, unl]
    by_cases e : k = n
    · subst e
      rw [getD_set_self, hk]
      simp at ih ⊢
      omega
    · rw [getD_set_ne true e]
      by_cases h : k < n
      · rw [if_pos h] at ih; rw [if_pos (show k < n + 1 by omega)]; omega
      · rw [if_neg h] at ih; rw [if_neg (show ¬ k < n + 1 by omega)]; omega
structure TInv (P : Program) (ops : Array Oper) (L : World → World → Prop) (C : Nat → World → Prop) (V : Nat → Value → World → Prop) (K m1 : Nat) (w0 : World) (a0 : Act) (listed : Array Bool) (a : Act) (w : World) : Prop where
  size : listed.size = ops.size
  closed : ∀ j oj, ops[j]? = some oj → listed.getD j false = true → ∀ e ∈ oj.after, Region.binds .any e = true → listed.getD e.on false = true
  c : ∃ m, m + K * unl listed ops.size ≤ m1 ∧ C m w
  l : L w0 w
  def_ : a.defers = a0.defers
  tsz : a.tmps.size = a0.tmps.size
  out : ∀ t, (∀ j oj, ops[j]? = some oj → listed.getD j false = true → oj.dst ≠ some t) → a.eval (.tmp t) = a0.eval (.tmp t)
  vals : ∀ j oj d, ops[j]? = some oj → listed.getD j false = true → oj.dst = some d → V d (a.eval (.tmp d)) w
theorem getD_ft {listed : Array Bool} {j : Nat} (h : listed.getD j true = false) : listed.getD j false = false := by
  rcases Nat.lt_or_ge j listed.size with h' | h'
  · simp [h'] at h ⊢; exact h
  · simp [Array.getElem?_eq_none h'] at h
theorem getD_set_self' {listed : Array Bool} {k : Nat} (h : k < listed.size) : (listed.setIfInBounds k true).getD k false = true := by simp [h]
theorem take_mem {o : Oper} {k : Nat} : o ∈ ops.toList.take k ↔ ∃ j, j < k ∧ ops[j]? = some o := by
  rw [List.mem_iff_getElem?]
  constructor
  · rintro ⟨j, hj⟩
    rw [List.getElem?_take] at hj
    split at hj
    · rename_i h; exact ⟨j, h, by simpa using hj⟩
    · cases hj
  · rintro ⟨j, hj, h⟩
    exact ⟨j, by rw [List.getElem?_take, if_pos hj]; simpa using h⟩
theorem eval_congr {a a' : Act} {o : Oper} (hs : ∀ cs b, o.op ≠ .select cs b) (h : ∀ t ∈ o.looksAt ops, a.eval (.tmp t) = a'.eval (.tmp t)) : execOp a.eval o = execOp a'.eval o := by
  refine execOp_congr o hs fun x hx => ?_
  cases x with
  | tmp t => exact h t (List.mem_append_left _ (List.mem_filterMap.2 ⟨.tmp t, by simpa using hx, rfl⟩))
  | const v => rfl
  | global g => rfl
  | func f => rfl
theorem tmps_get {a a' : Act} (hsz : a.tmps.size = a'.tmps.size) {t : Nat} (h : a.eval (.tmp t) = a'.eval (.tmp t)) : a.tmps[t]? = a'.tmps[t]? := by
  rcases Nat.lt_or_ge t a.tmps.size with h' | h'
  · have h'' : t < a'.tmps.size := by omega
    simp [Act.eval, h', h''] at h ⊢
    exact h
  · rw [Array.getElem?_eq_none h', Array.getElem?_eq_none (by omega)]
theorem wanted_congr {a a' : Act} {o : Oper} (hsz : a.tmps.size = a'.tmps.size) (h : ∀ t ∈ o.looksAt ops, a.eval (.tmp t) = a'.eval (.tmp t)) :
    Region.wanted o (yielded ops a.tmps) = Region.wanted o (yielded ops a'.tmps) := by
  cases hg : o.guard with
  | none => simp [Region.wanted, hg]
  | some g =>
    obtain ⟨g, b⟩ := g
    have hy : yielded ops a.tmps g = yielded ops a'.tmps g := by
      unfold yielded
      cases hd : (ops[g]?).bind (·.dst) with
      | none => rfl
      | some d =>
        have := tmps_get hsz (h d (List.mem_append_right _ (by simp [hg, hd])))
        simp only [Option.bind_some, this]
    simp [Region.wanted, hg, hy]
theorem tame_sound {w0 : World} {a0 : Act} {Q : Exit → Act → World → Prop} (hB : tameB ops a0.tmps.size = true) (hst : ∀ t v w w', V t v w → L w w' → V t v w') (htr : ∀ a b c, L a b → L b c → L a c)
    (h : wpTame P ops L C V K m1 w0 (fun a w => Q .normal a w) ops.toList [] a0) :
    ∀ (fuel : Nat) (listed : Array Bool) (a : Act) (w : World), unl listed ops.size ≤ fuel → TInv P ops L C V K m1 w0 a0 listed a w → wpAny P .any ops Q fuel listed a w := by
  have hsel := Region.noSelect_spec (by simp only [tameB, Bool.and_eq_true] at hB; exact hB.1)
  have fin : ∀ (listed : Array Bool) (a : Act) (w : World), TInv P ops L C V K m1 w0 a0 listed a w → Region.ready .any ops listed = [] → Q .normal a w := by
    intro listed a w inv hr
    have all : ∀ k, k < ops.size → listed.getD k false = true := by
      intro k
      induction k using Nat.strongRecOn with
      | ind k ih =>
        intro hk
        cases hb : listed.getD k false with
        | true => rfl
        | false =>
          have hk' : ops[k]? = some ops[k] := Array.getElem?_eq_getElem hk
          have hb' : listed.getD k true = false := by
            have : k < listed.size := by rw [inv.size]; exact hk
            simp [this] at hb ⊢; exact hb
          have : k ∈ Region.ready .any ops listed := mem_ready.2 ⟨hb', ops[k], hk', fun e he hbi => ih e.on ((tameB_spec hB hk').1 e he hbi) (by have := (tameB_spec hB hk').1 e he hbi; omega)⟩
          rw [hr] at this
          cases this
    have e : lexAct a ops.toList a0 = a := by
      have ht : ∀ t, (lexAct a ops.toList a0).eval (.tmp t) = a.eval (.tmp t) := fun t => by
        by_cases hd : ∃ o ∈ ops.toList, o.dst = some t
        · obtain ⟨o, ho, hd'⟩ := hd
          obtain ⟨j, hj⟩ := List.mem_iff_getElem?.1 ho
          exact lex_in a t _ _ ((tameB_spec hB (show ops[j]? = some o by simpa using hj)).2.1 t hd') ⟨o, ho, hd'⟩
        · rw [lex_out a t _ _ (fun o ho e => hd ⟨o, ho, e⟩)]
          refine (inv.out t fun j oj hj _ e => hd ⟨oj, ?_, e⟩).symm
          exact List.mem_iff_getElem?.2 ⟨j, by simpa using hj⟩
      have hsz : (lexAct a ops.toList a0).tmps.size = a.tmps.size := by rw [lex_size, inv.tsz]
      have h1 : (lexAct a ops.toList a0).tmps = a.tmps := by
        apply Array.ext_getElem?
        intro t
        exact tmps_get hsz (ht t)
      have h2 : (lexAct a ops.toList a0).defers = a.defers := by rw [lex_defers, inv.def_]
      generalize lexAct a ops.toList a0 = x at h1 h2
      cases x; cases a; simp_all
    obtain ⟨m, hm, hc⟩ := inv.c
    have := tame_end a ops.toList [] a0 h m w (by omega) hc inv.l (fun t ht => by
      rw [e]
      obtain ⟨o, ho, hd⟩ : ∃ o ∈ ops.toList, o.dst = some t := by simpa using mem_dsts.1 ht
      obtain ⟨j, hj⟩ := List.mem_iff_getElem?.1 ho
      have hj' : ops[j]? = some o := by simpa using hj
      exact inv.vals j o t hj' (all j (Array.getElem?_eq_some_iff.1 hj').1) hd)
    rwa [e] at this
  intro fuel
  induction fuel with
  | zero =>
    intro listed a w hu inv
    have hr : Region.ready .any ops listed = [] := by
      apply List.eq_nil_iff_forall_not_mem.2
      intro j hj
      obtain ⟨h1, o, ho, _⟩ := mem_ready.1 hj
      have := unl_zero (Nat.le_zero.1 hu) j (Array.getElem?_eq_some_iff.1 ho).1
      rw [h1] at this
      cases this
    exact ⟨hr, fin listed a w inv hr⟩
  | succ fuel ih =>
    intro listed a w hu inv
    refine ⟨fin listed a w inv, fun k hk => ?_⟩
    obtain ⟨hun, o, ho, hall⟩ := mem_ready.1 hk
    have hkl : k < ops.size := (Array.getElem?_eq_some_iff.1 ho).1
    have hol : ops.toList[k]? = some o := by simpa using ho
    have spec := tameB_spec hB ho
    -- what o looks at is the same
    have same : ∀ t ∈ o.looksAt ops, (lexAct a (ops.toList.take k) a0).eval (.tmp t) = a.eval (.tmp t) := fun t ht => by
      by_cases hd : ∃ x ∈ ops.toList.take k, x.dst = some t
      · obtain ⟨x, hx, hxd⟩ := hd
        obtain ⟨j, hj, hxj⟩ := take_mem.1 hx
        exact lex_in a t _ _ ((tameB_spec hB hxj).2.1 t hxd) ⟨x, hx, hxd⟩
      · rw [lex_out a t _ _ (fun x hx e => hd ⟨x, hx, e⟩)]
        refine (inv.out t fun j oj hj hlj e => ?_).symm
        rcases Nat.lt_trichotomy j k with hjk | rfl | hjk
        · exact hd ⟨oj, take_mem.2 ⟨j, hjk, hj⟩, e⟩
        · rw [getD_ft hun] at hlj; cases hlj
        · rcases spec.2.2 j oj hjk hj with ⟨e', he', hb', hon⟩ | hap
          · have := inv.closed j oj hj hlj e' he' hb'
            rw [hon, getD_ft hun] at this
            cases this
          · exact (Oper.apart_spec hap).2.2 t e ht
    have hv : ∀ t ∈ dsts (ops.toList.take k) [], t ∈ o.looksAt ops → V t ((lexAct a (ops.toList.take k) a0).eval (.tmp t)) w := fun t ht hlk => by
      obtain ⟨x, hx, hxd⟩ : ∃ x ∈ ops.toList.take k, x.dst = some t := by simpa using mem_dsts.1 ht
      obtain ⟨j, hj, hxj⟩ := take_mem.1 hx
      rw [same t hlk]
      rcases (tameB_spec hB hxj).2.2 k o hj ho with ⟨e', he', hb', hon⟩ | hap
      · have := hall e' he' hb'
        rw [hon] at this
        exact inv.vals j x t hxj this hxd
      · exact absurd hlk ((Oper.apart_spec hap).1 t hxd)
    have husub := unl_set hun ops.size
    rw [if_pos hkl] at husub
    obtain ⟨m, hmb, hc0⟩ := inv.c
    rw [← husub, Nat.mul_add, Nat.mul_one] at hmb
    have hob := tame_at a ops.toList [] a0 k o hol h m w (by omega) hc0 inv.l hv
    have hasz : (lexAct a (ops.toList.take k) a0).tmps.size = a.tmps.size := by rw [lex_size, inv.tsz]
    have hex : execOp (lexAct a (ops.toList.take k) a0).eval o = execOp a.eval o := eval_congr (hsel k o · · ho) same
    have hwa : Region.wanted o (yielded ops (lexAct a (ops.toList.take k) a0).tmps) = Region.wanted o (yielded ops a.tmps) := wanted_congr hasz same
    generalize lexAct a (ops.toList.take k) a0 = A at *
    -- the state behind the operation
    have next : ∀ (A' : Act) (v : Value) (w' : World), A' = A.put o.dst v → tameQ L C V (m + K) o A w .normal A' w' → wpAny P .any ops Q fuel (listed.setIfInBounds k true) (a.put o.dst v) w' := by
      rintro A' v w' rfl ⟨u, _, hA, ⟨m', hm', hc⟩, hl, hvu⟩
      have huv : ∀ d, o.dst = some d → u = v := fun d hd => by
        have hdl : d < A.tmps.size := by rw [hasz, inv.tsz]; exact spec.2.1 d hd
        rw [hd] at hA
        have h1 := congrArg (fun x => x.eval (.tmp d)) hA
        simp only [eval_put_self _ hdl] at h1
        exact h1.symm
      refine ih _ _ _ (by omega) ⟨by simp [inv.size], fun j oj hj hlj e he hb => ?_, ⟨m', by omega, hc⟩, htr _ _ _ inv.l hl, by rw [put_defers', inv.def_], by rw [put_size, inv.tsz], fun t ht => ?_, fun j oj d hj hlj hd => ?_⟩
      · by_cases hjk : j = k
        · subst hjk
          have : oj = o := Option.some.inj (hj.symm.trans ho)
          subst this
          exact getD_set_true (hall e he hb)
        · rw [getD_set_ne false (Ne.symm hjk)] at hlj
          exact getD_set_true (inv.closed j oj hj hlj e he hb)
      · have hk' : o.dst ≠ some t := ht k o ho (getD_set_self' (by rw [inv.size]; exact hkl))
        rw [eval_put_ne _ hk']
        exact inv.out t fun j oj hj hlj => ht j oj hj (getD_set_true hlj)
      · by_cases hdo : o.dst = some d
        · have hdl : d < a.tmps.size := by rw [inv.tsz]; exact spec.2.1 d hdo
          have huv' := huv d hdo
          subst huv'
          have := hvu d hdo
          rw [hdo, eval_put_self _ hdl]
          exact this
        · rw [eval_put_ne _ hdo]
          have hjk : j ≠ k := fun e => by
            subst e
            have : oj = o := Option.some.inj (hj.symm.trans ho)
            subst this
            exact hdo hd
          rw [getD_set_ne false (Ne.symm hjk)] at hlj
          exact hst _ _ _ _ (inv.vals j oj d hj hlj hd) hl
    unfold wpList at hob
    unfold wpOp
    simp only [ho]
    rw [hwa] at hob
    split at hob
    · rename_i hw
      rw [if_pos hw]
      left
      rcases hob with hob | ⟨_, x, y, z, hz, _⟩
      · unfold Oper.wp at hob ⊢
        rw [hex] at hob
        generalize (execOp a.eval o).run P w = r at hob ⊢
        cases r with
        | ok n w' =>
          cases n <;> simp only [Oper.upon] at hob ⊢
          case value v => exact next _ v w' rfl hob
          case skip => exact next _ undef w' rfl hob
          case defer d =>
            obtain ⟨u, _, hA, _⟩ := hob
            have h1 := congrArg Act.defers hA
            rw [put_defers', put_defers'] at h1
            have h2 := congrArg List.length h1
            simp at h2
          case enter f args =>
            refine hob.mono fun e w'' he => ?_
            cases e with
            | returned v => exact next _ v w'' rfl he
            | panicked ch => obtain ⟨_, hx, _⟩ := he; cases hx
            | outgrown => obtain ⟨_, _, _, hx, _⟩ := he; cases hx
          case row row args => exact hob.mono fun v w'' he => next _ v w'' rfl he
        | halt x w' =>
          cases x <;> simp only [Oper.upon] at hob
          case panic v => obtain ⟨_, hx, _⟩ := hob; cases hx
      · cases hz
    · rename_i hw
      rw [if_neg hw]
      exact next _ undef w rfl hob
theorem unl_le (listed : Array Bool) : ∀ n, unl listed n ≤ n
  | 0 => Nat.le_refl _
  | n + 1 => by have := unl_le listed n; rw [unl]; split <;> omega
theorem getD_repl (m j : Nat) : (Array.replicate m false).getD j false = false := by
  rcases Nat.lt_or_ge j m with h | h
  · simp [h]
  · simp [h]
/-- **One walk in the order of the text serves every order.** -/
theorem wp_region_tame {id : Nat} {Q : Exit → Act → World → Prop} {a : Act} {w : World} {l : List Oper} (L : World → World → Prop) (C : Nat → World → Prop) (V : Nat → Value → World → Prop) (K m0 : Nat) (hm : P.follows .mixedOrders = true) (hB : tameB l.toArray a.tmps.size = true)
    (hst : ∀ t v w w', V t v w → L w w' → V t v w') (htr : ∀ a b c, L a b → L b c → L a c) (hrf : L w.drew w.drew) (hC : C m0 w.drew)
    (h : wpTame P l.toArray L C V K (m0 + K * l.length) w.drew (fun a w => Q .normal a w) l [] a) : (Code.region id l.toArray true).wp P Q a w := by
  refine wp_region_any hm ?_
  have h' : wpTame P l.toArray L C V K (m0 + K * l.length) w.drew (fun a w => Q .normal a w) l.toArray.toList [] a := by simpa using h
  have hu := unl_le (Array.replicate l.toArray.size false) l.toArray.size
  refine tame_sound (V := V) (L := L) (C := C) hB hst htr h' _ _ _ _ (unl_le _ _) ⟨by simp, fun j oj _ hl => ?_, ⟨m0, by have := Nat.mul_le_mul_left K hu; simpa using this, hC⟩, hrf, rfl, rfl, fun _ _ => rfl, fun j oj d _ hl => ?_⟩
  · rw [getD_repl] at hl; cases hl
  · rw [getD_repl] at hl; cases hl
end
end Go.Proofs.YtanmkjjclpplkaaDoor
