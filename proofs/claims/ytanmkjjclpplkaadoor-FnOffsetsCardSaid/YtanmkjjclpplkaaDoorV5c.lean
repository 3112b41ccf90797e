/- The draw of a craft, a place and a heading, by Tame. -/
import Derived.Test.YtanmkjjclpplkaaDoorV5b
import Derived.Test.YtanmkjjclpplkaaDoorTame
set_option linter.unusedVariables false
set_option linter.unusedSimpArgs false
namespace Go.Proofs.YtanmkjjclpplkaaDoor
open Go.RowKit
set_option maxHeartbeats 4000000
set_option maxRecDepth 100000

def sL (p r : Nat) (w w' : World) : Prop := w.heap.size ≤ w'.heap.size ∧ ∀ b, b < w.heap.size → b ≠ p → b ≠ r → w'.heap[b]? = w.heap[b]?
def sC (p r g : Nat) (q : Cd) (v : Cr) (w0 : World) (m : Nat) (w : World) : Prop := Cu p q m w ∧ Below r w0 w ∧ Bk w g v.enc ∧ ∃ u : Cr, u.name.size ≤ 100 ∧ Bk w r u.enc
def isSl (p r : Nat) (x : Value) (w : World) (lo hi : Int) : Prop := ∃ (b : Nat) (o : Int), x = .slice (some ⟨b, 0, none⟩) o.toNat 6 ∧ lo ≤ o ∧ o ≤ hi ∧ b < w.heap.size ∧ b ≠ p ∧ b ≠ r ∧ Ints w b 0 6
def isN (x : Value) (lo hi : Int) : Prop := ∃ o : Int, x = .int .i64 o ∧ lo ≤ o ∧ o ≤ hi
def sV (p r : Nat) (t : Nat) (x : Value) (w : World) : Prop :=
  if t = 13 then ∃ u : Cr, u.name.size ≤ 100 ∧ x = .agg #[.int .i64 u.id, .string u.name, .int .i64 u.draught, .int .i64 u.ahead, .int .i64 u.beside, .int .i64 u.speed, .int .i64 u.fuel]
  else if t = 14 ∨ t = 16 ∨ t = 22 ∨ t = 24 ∨ t = 30 ∨ t = 32 then x = .pointer (some ⟨p, 0, none⟩)
  else if t = 15 ∨ t = 23 ∨ t = 31 then isSl p r x w 6 6
  else if t = 17 ∨ t = 25 ∨ t = 33 then isN x 0 23
  else if t = 18 ∨ t = 26 ∨ t = 34 then isN x 0 2
  else if t = 19 ∨ t = 27 ∨ t = 35 then isN x 4 6
  else if t = 20 ∨ t = 28 ∨ t = 36 then isSl p r x w 4 6
  else ∃ z : Int, x = .int .i64 z
theorem isSl.st {p r : Nat} {x : Value} {w w' : World} {lo hi : Int} (h : isSl p r x w lo hi) (hl : sL p r w w') : isSl p r x w' lo hi := by
  obtain ⟨b, o, e, h1, h2, h3, h4, h5, N⟩ := h
  exact ⟨b, o, e, h1, h2, Nat.lt_of_lt_of_le h3 hl.1, h4, h5, fun i hi => by obtain ⟨z, hz⟩ := N i hi; exact ⟨z, (World.cell?_of_block (w := w) (hl.2 b h3 h4 h5)).trans hz⟩⟩
theorem sV_st {p r : Nat} (t : Nat) (x : Value) (w w' : World) (h : sV p r t x w) (hl : sL p r w w') : sV p r t x w' := by
  unfold sV at h ⊢
  repeat' split at h
  all_goals simp only [*, if_true, if_false]
  all_goals first | exact h | exact h.st hl
theorem sL_tr {p r : Nat} (a b c : World) (h : sL p r a b) (k : sL p r b c) : sL p r a c :=
  ⟨Nat.le_trans h.1 k.1, fun i hi hp hr => (k.2 i (Nat.lt_of_lt_of_le hi h.1) hp hr).trans (h.2 i hi hp hr)⟩
theorem looked_get {ops : Array Oper} {o : Oper} {V : Nat → Value → World → Prop} {a : Act} {w : World} : ∀ {ds : List Nat}, looked ops o V a w ds → ∀ t, t ∈ ds → (o.looksAt ops).contains t = true → V t (a.eval (.tmp t)) w
  | [], _, _, h, _ => by simp at h
  | x :: r, hl, t, h, hc => by
    rcases List.mem_cons.1 h with rfl | h
    · have := hl.1; rwa [if_pos hc] at this
    · exact looked_get hl.2 t h hc
theorem sC.bel {p r g m : Nat} {q : Cd} {v : Cr} {w0 w w' : World} (h : sC p r g q v w0 m w) (hb : Below w.heap.size w w') : sC p r g q v w0 m w' := by
  obtain ⟨hcu, hbe, hJ, u, hu, hI⟩ := h
  exact ⟨hcu.below hb, hbe.trans (hb.mono (by have := hI.1; omega)), hJ.below hb, u, hu, hI.below hb⟩
theorem sC.lb {p r g m m' : Nat} {q : Cd} {v : Cr} {w0 w w' : World} (h : sC p r g q v w0 m w) (hc : Cu p q m' w') (hl : LB p w.heap.size w w') (hr : r < p) (hg : g ≠ p) : sC p r g q v w0 m' w' := by
  obtain ⟨hcu, hbe, hJ, u, hu, hI⟩ := h
  have := hI.1
  exact ⟨hc, hbe.trans (hl.belowB (by omega) (by omega)), hJ.lb hl hg, u, hu, hI.lb hl (by omega)⟩
theorem sL_bel {p r : Nat} {w w' : World} (hb : Below w.heap.size w w') : sL p r w w' := ⟨hb.size, fun b h _ _ => hb.block b h⟩
theorem Cu.far {p m r : Nat} {q : Cd} {w : World} (h : Cu p q m w) (hr : p ≠ r) (hX : 0 < q.l.length → ∀ a, q.A = some a → a.block ≠ r) (vs : List Value) (o : Nat) : Cu p q m (w.setCells r o vs) := by
  obtain ⟨h1, h2, h3, n, s, h4, h5, h6, hk⟩ := h
  refine ⟨fun h0 => ?_, h2, h3, n, s, h4, h5, h6, hk.far hr vs o⟩
  obtain ⟨b, off, e, hlt, hc⟩ := h1 h0
  refine ⟨b, off, e, by rw [size_setCells]; exact hlt, fun i x hx j v hv => ?_⟩
  rw [World.cell?_setCells_out r vs o w ⟨b, off + i * 1 + j, none⟩ (fun hb _ => absurd hb (hX h0 ⟨b, off, none⟩ e))]
  exact hc i x hx j v hv
theorem sL_lb {p r : Nat} {w w' : World} (hl : LB p w.heap.size w w') : sL p r w w' := ⟨hl.size, fun b h hp _ => hl.block b h hp⟩
set_option maxHeartbeats 40000000 in
theorem drSnd (X : Option Addr) (x : Nat) (k : List UInt8) (w : World) (h : Sl 1 encU w X k) (hn : k.length ≤ 1048576) :
    Calls Tryd.prog 10 #[.slice X k.length x] w fun e w' => ∃ (v : Cr) (a b c : Int), v.name.size ≤ 100 ∧ e = .returned (.tuple #[.agg #[.int .i64 v.id, .string v.name, .int .i64 v.draught, .int .i64 v.ahead, .int .i64 v.beside, .int .i64 v.speed, .int .i64 v.fuel], .int .i64 a, .int .i64 b, .int .i64 c]) ∧ Below w.heap.size w w' := by
  go_enter Tryd.func10, Tryd.ntmps10
  go_upto_region 1 with (fail)
  generalize hr : w.heap.size = r
  generalize hW : World.alloc w _ = W1
  have I1 : Bk W1 r (Cr.enc ⟨0, ByteArray.empty, 0, 0, 0, 0, 0⟩) := by rw [← hW, ← hr]; exact Bk.new _ _ _
  have b1 : Below r w W1 := by rw [← hW, ← hr]; exact below_alloc _ _
  have h1 : Sl 1 encU W1 X k := by rw [← hW]; exact h.below (below_alloc _ _)
  clear hW
  go_upto_region 2 with (fail)
  have D0 := Dr.new (c := x) 46 h1 hn
  have hrp : r < W1.heap.size := I1.1
  generalize hp : W1.heap.size = p at *
  generalize hW : World.alloc W1 _ = W0 at *
  clear hW
  go_wp2_with (fail)
  refine (dCraft D0 (Below.refl _ _) (by omega) _).mono ?_; rintro e w2 ⟨v, hv, rfl, D2, l2⟩
  have I2 := I1.below (hp ▸ D2.done)
  go_upto_region 3 with (fail)
  have hp2 := D2.lt
  generalize hW : World.alloc w2 _ = W3
  have J3 : Bk W3 w2.heap.size v.enc := by rw [← hW]; exact Bk.new w2 v.enc _
  have b3 : Below w2.heap.size w2 W3 := by rw [← hW]; exact below_alloc _ _
  clear hW
  have D3 := D2.grown b3
  generalize hgg : w2.heap.size = g at *
  have hgp : g ≠ p := by omega
  have I3 := I2.below (hgg.symm ▸ b3)
  have KS := Lib.hid (fun (w' : World) (hl : LB p W3.heap.size W3 w') => (show w'.cell? ⟨g, 0, none⟩ = some (.int .i64 v.id) ∧ w'.cell? ⟨g, 1, none⟩ = some (.string v.name) ∧ w'.cell? ⟨g, 2, none⟩ = some (.int .i64 v.draught) ∧ w'.cell? ⟨g, 3, none⟩ = some (.int .i64 v.ahead) ∧ w'.cell? ⟨g, 4, none⟩ = some (.int .i64 v.beside) ∧ w'.cell? ⟨g, 5, none⟩ = some (.int .i64 v.speed) ∧ w'.cell? ⟨g, 6, none⟩ = some (.int .i64 v.fuel) from And.intro ((J3.lb hl hgp).2.1 0 _ rfl) (And.intro ((J3.lb hl hgp).2.1 1 _ rfl) (And.intro ((J3.lb hl hgp).2.1 2 _ rfl) (And.intro ((J3.lb hl hgp).2.1 3 _ rfl) (And.intro ((J3.lb hl hgp).2.1 4 _ rfl) (And.intro ((J3.lb hl hgp).2.1 5 _ rfl) ((J3.lb hl hgp).2.1 6 _ rfl))))))))
  have hXr : 0 < k.length → ∀ a, X = some a → a.block ≠ r := fun h0 a ha => by
    obtain ⟨b, off, e, hlt, _⟩ := h h0
    rw [e] at ha; injection ha with ha; subst ha
    show b ≠ r; omega
  have bb : Below r w W3 := b1.trans (D3.done.mono (by omega))
  refine wp_region_tame (sL p r) (sC p r g ⟨X, x, k⟩ v w) (sV p r) 2 20 (by kernel_rfl) (by kernel_rfl) sV_st sL_tr ⟨Nat.le_refl _, fun _ _ _ _ => rfl⟩ ?_ ?_
  · exact ⟨(D3.grown (Below.refl _ _).drew).cu, bb.drew, J3.below (Below.refl _ _).drew, _, by decide, I3.below (Below.refl _ _).drew⟩
  refine tame_cons ?_ (fun x13 => ?_)
  · intro m wx hm0 hc hl hk
    have hm : m + 2 ≤ 900000000 := Nat.le_trans hm0 (by decide)
    clear hm0
    obtain ⟨hcu, hbe, hJ, u, hu, hI⟩ := id hc
    have m0 := hJ.2.1 0 _ rfl
    have m1 := hJ.2.1 1 _ rfl
    have m2 := hJ.2.1 2 _ rfl
    have m3 := hJ.2.1 3 _ rfl
    have m4 := hJ.2.1 4 _ rfl
    have m5 := hJ.2.1 5 _ rfl
    have m6 := hJ.2.1 6 _ rfl
    go_wp2_with (fail)
    exact ⟨_, rfl, rfl, ⟨m, by omega, hc⟩, ⟨Nat.le_refl _, fun _ _ _ _ => rfl⟩, fun d hd => by cases hd; exact ⟨v, hv, rfl⟩⟩
  simp only [Act.put, List.setIfInBounds_toArray, List.set_cons_succ, List.set_cons_zero, Option.toList, List.cons_append, List.nil_append]
  refine tame_cons ?_ (fun x14 => ?_)
  · intro m wx hm0 hc hl hk
    have hm : m + 2 ≤ 900000000 := Nat.le_trans hm0 (by decide)
    clear hm0
    go_wp2_with (fail)
    exact ⟨_, rfl, rfl, ⟨m, by omega, hc⟩, ⟨Nat.le_refl _, fun _ _ _ _ => rfl⟩, fun d hd => by cases hd; rfl⟩
  simp only [Act.put, List.setIfInBounds_toArray, List.set_cons_succ, List.set_cons_zero, Option.toList, List.cons_append, List.nil_append]
  refine tame_cons ?_ (fun x15 => ?_)
  · intro m wx hm0 hc hl hk
    have hm : m + 2 ≤ 900000000 := Nat.le_trans hm0 (by decide)
    clear hm0
    obtain ⟨hcu, hbe, hJ, u, hu, hI⟩ := id hc
    have hpw := hcu.lt
    have hrw := hI.1
    go_wp2_with (fail)
    exact ⟨_, rfl, rfl, ⟨m, by omega, hc.bel (below_alloc _ _)⟩, sL_bel (below_alloc _ _), fun d hd => by cases hd; exact ⟨wx.heap.size, 6, rfl, by omega, by omega, by simp, by omega, by omega, ints_app rfl (by simp) (by simp [isI])⟩⟩
  simp only [Act.put, List.setIfInBounds_toArray, List.set_cons_succ, List.set_cons_zero, Option.toList, List.cons_append, List.nil_append]
  refine tame_cons ?_ (fun x16 => ?_)
  · intro m wx hm0 hc hl hk
    have hm : m + 2 ≤ 900000000 := Nat.le_trans hm0 (by decide)
    clear hm0
    go_wp2_with (fail)
    exact ⟨_, rfl, rfl, ⟨m, by omega, hc⟩, ⟨Nat.le_refl _, fun _ _ _ _ => rfl⟩, fun d hd => by cases hd; rfl⟩
  simp only [Act.put, List.setIfInBounds_toArray, List.set_cons_succ, List.set_cons_zero, Option.toList, List.cons_append, List.nil_append]
  refine tame_cons ?_ (fun x17 => ?_)
  · intro m wx hm0 hc hl hk
    have hm : m + 2 ≤ 900000000 := Nat.le_trans hm0 (by decide)
    clear hm0
    have k16 : sV p r 16 x16 wx := looked_get hk 16 (by decide) (by decide)
    obtain rfl : x16 = .pointer (some ⟨p, 0, none⟩) := k16
    go_wp2_with (go_at_call 26; refine (dPick0 p ⟨X, x, k⟩ m 24 wx hc.1 (by omega) (by omega)).mono ?_; rintro e w2 ⟨o, rfl, ho, hcu2, hl2⟩)
    exact ⟨_, rfl, rfl, ⟨m + 2, by omega, hc.lb hcu2 hl2 (by omega) hgp⟩, sL_lb hl2, fun d hd => by cases hd; exact ⟨o, rfl, by omega, by omega⟩⟩
  simp only [Act.put, List.setIfInBounds_toArray, List.set_cons_succ, List.set_cons_zero, Option.toList, List.cons_append, List.nil_append]
  refine tame_cons ?_ (fun x18 => ?_)
  · intro m wx hm0 hc hl hk
    have hm : m + 2 ≤ 900000000 := Nat.le_trans hm0 (by decide)
    clear hm0
    have k17 : sV p r 17 x17 wx := looked_get hk 17 (by decide) (by decide)
    obtain ⟨o, rfl, o0, o1⟩ : isN x17 0 23 := k17
    go_wp2_with (fail)
    exact ⟨_, rfl, rfl, ⟨m, by omega, hc⟩, ⟨Nat.le_refl _, fun _ _ _ _ => rfl⟩, fun d hd => by cases hd; exact ⟨_, rfl, by omega, by omega⟩⟩
  simp only [Act.put, List.setIfInBounds_toArray, List.set_cons_succ, List.set_cons_zero, Option.toList, List.cons_append, List.nil_append]
  refine tame_cons ?_ (fun x19 => ?_)
  · intro m wx hm0 hc hl hk
    have hm : m + 2 ≤ 900000000 := Nat.le_trans hm0 (by decide)
    clear hm0
    have k18 : sV p r 18 x18 wx := looked_get hk 18 (by decide) (by decide)
    obtain ⟨o, rfl, o0, o1⟩ : isN x18 0 2 := k18
    go_wp2_with (fail)
    exact ⟨_, rfl, rfl, ⟨m, by omega, hc⟩, ⟨Nat.le_refl _, fun _ _ _ _ => rfl⟩, fun d hd => by cases hd; exact ⟨_, rfl, by omega, by omega⟩⟩
  simp only [Act.put, List.setIfInBounds_toArray, List.set_cons_succ, List.set_cons_zero, Option.toList, List.cons_append, List.nil_append]
  refine tame_cons ?_ (fun x20 => ?_)
  · intro m wx hm0 hc hl hk
    have hm : m + 2 ≤ 900000000 := Nat.le_trans hm0 (by decide)
    clear hm0
    have k15 : sV p r 15 x15 wx := looked_get hk 15 (by decide) (by decide)
    have k19 : sV p r 19 x19 wx := looked_get hk 19 (by decide) (by decide)
    obtain ⟨b, o, rfl, o0, o1, q1, q2, q3, N⟩ : isSl p r x15 wx 6 6 := k15
    obtain ⟨o', rfl, o2, o3⟩ : isN x19 4 6 := k19
    obtain rfl : o = 6 := by omega
    have y1 : (0 : Int) ≤ o' := by omega
    go_wp2_with (fail)
    exact ⟨_, rfl, rfl, ⟨m, by omega, hc⟩, ⟨Nat.le_refl _, fun _ _ _ _ => rfl⟩, fun d hd => by cases hd; exact ⟨b, o', rfl, o2, o3, q1, q2, q3, N⟩⟩
  simp only [Act.put, List.setIfInBounds_toArray, List.set_cons_succ, List.set_cons_zero, Option.toList, List.cons_append, List.nil_append]
  refine tame_cons ?_ (fun x21 => ?_)
  · intro m wx hm0 hc hl hk
    have hm : m + 2 ≤ 900000000 := Nat.le_trans hm0 (by decide)
    clear hm0
    have k14 : sV p r 14 x14 wx := looked_get hk 14 (by decide) (by decide)
    have k20 : sV p r 20 x20 wx := looked_get hk 20 (by decide) (by decide)
    obtain rfl : x14 = .pointer (some ⟨p, 0, none⟩) := k14
    obtain ⟨b, o, rfl, o0, o1, q1, q2, q3, N⟩ : isSl p r x20 wx 4 6 := k20
    have Dx : Dr p 0 ⟨X, x, k⟩ m wx wx := ⟨hc.1, LB.of (Below.refl _ _), Nat.zero_le _⟩
    go_wp2_with (go_at_call 25; refine (dAmongZ (n7 := 6) Dx (Below.refl _ _) (by omega) N q2 q1 (by omega) (by omega) (by omega)).mono ?_; rintro e w2 ⟨z, rfl, -, D9, hl2⟩)
    exact ⟨_, rfl, rfl, ⟨m + 2, by omega, hc.lb D9.cu hl2 (by omega) hgp⟩, sL_lb hl2, fun d hd => by cases hd; exact ⟨z, rfl⟩⟩
  simp only [Act.put, List.setIfInBounds_toArray, List.set_cons_succ, List.set_cons_zero, Option.toList, List.cons_append, List.nil_append]
  refine tame_cons ?_ (fun x22 => ?_)
  · intro m wx hm0 hc hl hk
    have hm : m + 2 ≤ 900000000 := Nat.le_trans hm0 (by decide)
    clear hm0
    go_wp2_with (fail)
    exact ⟨_, rfl, rfl, ⟨m, by omega, hc⟩, ⟨Nat.le_refl _, fun _ _ _ _ => rfl⟩, fun d hd => by cases hd; rfl⟩
  simp only [Act.put, List.setIfInBounds_toArray, List.set_cons_succ, List.set_cons_zero, Option.toList, List.cons_append, List.nil_append]
  refine tame_cons ?_ (fun x23 => ?_)
  · intro m wx hm0 hc hl hk
    have hm : m + 2 ≤ 900000000 := Nat.le_trans hm0 (by decide)
    clear hm0
    obtain ⟨hcu, hbe, hJ, u, hu, hI⟩ := id hc
    have hpw := hcu.lt
    have hrw := hI.1
    go_wp2_with (fail)
    exact ⟨_, rfl, rfl, ⟨m, by omega, hc.bel (below_alloc _ _)⟩, sL_bel (below_alloc _ _), fun d hd => by cases hd; exact ⟨wx.heap.size, 6, rfl, by omega, by omega, by simp, by omega, by omega, ints_app rfl (by simp) (by simp [isI])⟩⟩
  simp only [Act.put, List.setIfInBounds_toArray, List.set_cons_succ, List.set_cons_zero, Option.toList, List.cons_append, List.nil_append]
  refine tame_cons ?_ (fun x24 => ?_)
  · intro m wx hm0 hc hl hk
    have hm : m + 2 ≤ 900000000 := Nat.le_trans hm0 (by decide)
    clear hm0
    go_wp2_with (fail)
    exact ⟨_, rfl, rfl, ⟨m, by omega, hc⟩, ⟨Nat.le_refl _, fun _ _ _ _ => rfl⟩, fun d hd => by cases hd; rfl⟩
  simp only [Act.put, List.setIfInBounds_toArray, List.set_cons_succ, List.set_cons_zero, Option.toList, List.cons_append, List.nil_append]
  refine tame_cons ?_ (fun x25 => ?_)
  · intro m wx hm0 hc hl hk
    have hm : m + 2 ≤ 900000000 := Nat.le_trans hm0 (by decide)
    clear hm0
    have k24 : sV p r 24 x24 wx := looked_get hk 24 (by decide) (by decide)
    obtain rfl : x24 = .pointer (some ⟨p, 0, none⟩) := k24
    go_wp2_with (go_at_call 26; refine (dPick0 p ⟨X, x, k⟩ m 24 wx hc.1 (by omega) (by omega)).mono ?_; rintro e w2 ⟨o, rfl, ho, hcu2, hl2⟩)
    exact ⟨_, rfl, rfl, ⟨m + 2, by omega, hc.lb hcu2 hl2 (by omega) hgp⟩, sL_lb hl2, fun d hd => by cases hd; exact ⟨o, rfl, by omega, by omega⟩⟩
  simp only [Act.put, List.setIfInBounds_toArray, List.set_cons_succ, List.set_cons_zero, Option.toList, List.cons_append, List.nil_append]
  refine tame_cons ?_ (fun x26 => ?_)
  · intro m wx hm0 hc hl hk
    have hm : m + 2 ≤ 900000000 := Nat.le_trans hm0 (by decide)
    clear hm0
    have k25 : sV p r 25 x25 wx := looked_get hk 25 (by decide) (by decide)
    obtain ⟨o, rfl, o0, o1⟩ : isN x25 0 23 := k25
    go_wp2_with (fail)
    exact ⟨_, rfl, rfl, ⟨m, by omega, hc⟩, ⟨Nat.le_refl _, fun _ _ _ _ => rfl⟩, fun d hd => by cases hd; exact ⟨_, rfl, by omega, by omega⟩⟩
  simp only [Act.put, List.setIfInBounds_toArray, List.set_cons_succ, List.set_cons_zero, Option.toList, List.cons_append, List.nil_append]
  refine tame_cons ?_ (fun x27 => ?_)
  · intro m wx hm0 hc hl hk
    have hm : m + 2 ≤ 900000000 := Nat.le_trans hm0 (by decide)
    clear hm0
    have k26 : sV p r 26 x26 wx := looked_get hk 26 (by decide) (by decide)
    obtain ⟨o, rfl, o0, o1⟩ : isN x26 0 2 := k26
    go_wp2_with (fail)
    exact ⟨_, rfl, rfl, ⟨m, by omega, hc⟩, ⟨Nat.le_refl _, fun _ _ _ _ => rfl⟩, fun d hd => by cases hd; exact ⟨_, rfl, by omega, by omega⟩⟩
  simp only [Act.put, List.setIfInBounds_toArray, List.set_cons_succ, List.set_cons_zero, Option.toList, List.cons_append, List.nil_append]
  refine tame_cons ?_ (fun x28 => ?_)
  · intro m wx hm0 hc hl hk
    have hm : m + 2 ≤ 900000000 := Nat.le_trans hm0 (by decide)
    clear hm0
    have k23 : sV p r 23 x23 wx := looked_get hk 23 (by decide) (by decide)
    have k27 : sV p r 27 x27 wx := looked_get hk 27 (by decide) (by decide)
    obtain ⟨b, o, rfl, o0, o1, q1, q2, q3, N⟩ : isSl p r x23 wx 6 6 := k23
    obtain ⟨o', rfl, o2, o3⟩ : isN x27 4 6 := k27
    obtain rfl : o = 6 := by omega
    have y1 : (0 : Int) ≤ o' := by omega
    go_wp2_with (fail)
    exact ⟨_, rfl, rfl, ⟨m, by omega, hc⟩, ⟨Nat.le_refl _, fun _ _ _ _ => rfl⟩, fun d hd => by cases hd; exact ⟨b, o', rfl, o2, o3, q1, q2, q3, N⟩⟩
  simp only [Act.put, List.setIfInBounds_toArray, List.set_cons_succ, List.set_cons_zero, Option.toList, List.cons_append, List.nil_append]
  refine tame_cons ?_ (fun x29 => ?_)
  · intro m wx hm0 hc hl hk
    have hm : m + 2 ≤ 900000000 := Nat.le_trans hm0 (by decide)
    clear hm0
    have k22 : sV p r 22 x22 wx := looked_get hk 22 (by decide) (by decide)
    have k28 : sV p r 28 x28 wx := looked_get hk 28 (by decide) (by decide)
    obtain rfl : x22 = .pointer (some ⟨p, 0, none⟩) := k22
    obtain ⟨b, o, rfl, o0, o1, q1, q2, q3, N⟩ : isSl p r x28 wx 4 6 := k28
    have Dx : Dr p 0 ⟨X, x, k⟩ m wx wx := ⟨hc.1, LB.of (Below.refl _ _), Nat.zero_le _⟩
    go_wp2_with (go_at_call 25; refine (dAmongZ (n7 := 6) Dx (Below.refl _ _) (by omega) N q2 q1 (by omega) (by omega) (by omega)).mono ?_; rintro e w2 ⟨z, rfl, -, D9, hl2⟩)
    exact ⟨_, rfl, rfl, ⟨m + 2, by omega, hc.lb D9.cu hl2 (by omega) hgp⟩, sL_lb hl2, fun d hd => by cases hd; exact ⟨z, rfl⟩⟩
  simp only [Act.put, List.setIfInBounds_toArray, List.set_cons_succ, List.set_cons_zero, Option.toList, List.cons_append, List.nil_append]
  refine tame_cons ?_ (fun x30 => ?_)
  · intro m wx hm0 hc hl hk
    have hm : m + 2 ≤ 900000000 := Nat.le_trans hm0 (by decide)
    clear hm0
    go_wp2_with (fail)
    exact ⟨_, rfl, rfl, ⟨m, by omega, hc⟩, ⟨Nat.le_refl _, fun _ _ _ _ => rfl⟩, fun d hd => by cases hd; rfl⟩
  simp only [Act.put, List.setIfInBounds_toArray, List.set_cons_succ, List.set_cons_zero, Option.toList, List.cons_append, List.nil_append]
  refine tame_cons ?_ (fun x31 => ?_)
  · intro m wx hm0 hc hl hk
    have hm : m + 2 ≤ 900000000 := Nat.le_trans hm0 (by decide)
    clear hm0
    obtain ⟨hcu, hbe, hJ, u, hu, hI⟩ := id hc
    have hpw := hcu.lt
    have hrw := hI.1
    go_wp2_with (fail)
    exact ⟨_, rfl, rfl, ⟨m, by omega, hc.bel (below_alloc _ _)⟩, sL_bel (below_alloc _ _), fun d hd => by cases hd; exact ⟨wx.heap.size, 6, rfl, by omega, by omega, by simp, by omega, by omega, ints_app rfl (by simp) (by simp [isI])⟩⟩
  simp only [Act.put, List.setIfInBounds_toArray, List.set_cons_succ, List.set_cons_zero, Option.toList, List.cons_append, List.nil_append]
  refine tame_cons ?_ (fun x32 => ?_)
  · intro m wx hm0 hc hl hk
    have hm : m + 2 ≤ 900000000 := Nat.le_trans hm0 (by decide)
    clear hm0
    go_wp2_with (fail)
    exact ⟨_, rfl, rfl, ⟨m, by omega, hc⟩, ⟨Nat.le_refl _, fun _ _ _ _ => rfl⟩, fun d hd => by cases hd; rfl⟩
  simp only [Act.put, List.setIfInBounds_toArray, List.set_cons_succ, List.set_cons_zero, Option.toList, List.cons_append, List.nil_append]
  refine tame_cons ?_ (fun x33 => ?_)
  · intro m wx hm0 hc hl hk
    have hm : m + 2 ≤ 900000000 := Nat.le_trans hm0 (by decide)
    clear hm0
    have k32 : sV p r 32 x32 wx := looked_get hk 32 (by decide) (by decide)
    obtain rfl : x32 = .pointer (some ⟨p, 0, none⟩) := k32
    go_wp2_with (go_at_call 26; refine (dPick0 p ⟨X, x, k⟩ m 24 wx hc.1 (by omega) (by omega)).mono ?_; rintro e w2 ⟨o, rfl, ho, hcu2, hl2⟩)
    exact ⟨_, rfl, rfl, ⟨m + 2, by omega, hc.lb hcu2 hl2 (by omega) hgp⟩, sL_lb hl2, fun d hd => by cases hd; exact ⟨o, rfl, by omega, by omega⟩⟩
  simp only [Act.put, List.setIfInBounds_toArray, List.set_cons_succ, List.set_cons_zero, Option.toList, List.cons_append, List.nil_append]
  refine tame_cons ?_ (fun x34 => ?_)
  · intro m wx hm0 hc hl hk
    have hm : m + 2 ≤ 900000000 := Nat.le_trans hm0 (by decide)
    clear hm0
    have k33 : sV p r 33 x33 wx := looked_get hk 33 (by decide) (by decide)
    obtain ⟨o, rfl, o0, o1⟩ : isN x33 0 23 := k33
    go_wp2_with (fail)
    exact ⟨_, rfl, rfl, ⟨m, by omega, hc⟩, ⟨Nat.le_refl _, fun _ _ _ _ => rfl⟩, fun d hd => by cases hd; exact ⟨_, rfl, by omega, by omega⟩⟩
  simp only [Act.put, List.setIfInBounds_toArray, List.set_cons_succ, List.set_cons_zero, Option.toList, List.cons_append, List.nil_append]
  refine tame_cons ?_ (fun x35 => ?_)
  · intro m wx hm0 hc hl hk
    have hm : m + 2 ≤ 900000000 := Nat.le_trans hm0 (by decide)
    clear hm0
    have k34 : sV p r 34 x34 wx := looked_get hk 34 (by decide) (by decide)
    obtain ⟨o, rfl, o0, o1⟩ : isN x34 0 2 := k34
    go_wp2_with (fail)
    exact ⟨_, rfl, rfl, ⟨m, by omega, hc⟩, ⟨Nat.le_refl _, fun _ _ _ _ => rfl⟩, fun d hd => by cases hd; exact ⟨_, rfl, by omega, by omega⟩⟩
  simp only [Act.put, List.setIfInBounds_toArray, List.set_cons_succ, List.set_cons_zero, Option.toList, List.cons_append, List.nil_append]
  refine tame_cons ?_ (fun x36 => ?_)
  · intro m wx hm0 hc hl hk
    have hm : m + 2 ≤ 900000000 := Nat.le_trans hm0 (by decide)
    clear hm0
    have k31 : sV p r 31 x31 wx := looked_get hk 31 (by decide) (by decide)
    have k35 : sV p r 35 x35 wx := looked_get hk 35 (by decide) (by decide)
    obtain ⟨b, o, rfl, o0, o1, q1, q2, q3, N⟩ : isSl p r x31 wx 6 6 := k31
    obtain ⟨o', rfl, o2, o3⟩ : isN x35 4 6 := k35
    obtain rfl : o = 6 := by omega
    have y1 : (0 : Int) ≤ o' := by omega
    go_wp2_with (fail)
    exact ⟨_, rfl, rfl, ⟨m, by omega, hc⟩, ⟨Nat.le_refl _, fun _ _ _ _ => rfl⟩, fun d hd => by cases hd; exact ⟨b, o', rfl, o2, o3, q1, q2, q3, N⟩⟩
  simp only [Act.put, List.setIfInBounds_toArray, List.set_cons_succ, List.set_cons_zero, Option.toList, List.cons_append, List.nil_append]
  refine tame_cons ?_ (fun x37 => ?_)
  · intro m wx hm0 hc hl hk
    have hm : m + 2 ≤ 900000000 := Nat.le_trans hm0 (by decide)
    clear hm0
    have k30 : sV p r 30 x30 wx := looked_get hk 30 (by decide) (by decide)
    have k36 : sV p r 36 x36 wx := looked_get hk 36 (by decide) (by decide)
    obtain rfl : x30 = .pointer (some ⟨p, 0, none⟩) := k30
    obtain ⟨b, o, rfl, o0, o1, q1, q2, q3, N⟩ : isSl p r x36 wx 4 6 := k36
    have Dx : Dr p 0 ⟨X, x, k⟩ m wx wx := ⟨hc.1, LB.of (Below.refl _ _), Nat.zero_le _⟩
    go_wp2_with (go_at_call 25; refine (dAmongZ (n7 := 6) Dx (Below.refl _ _) (by omega) N q2 q1 (by omega) (by omega) (by omega)).mono ?_; rintro e w2 ⟨z, rfl, -, D9, hl2⟩)
    exact ⟨_, rfl, rfl, ⟨m + 2, by omega, hc.lb D9.cu hl2 (by omega) hgp⟩, sL_lb hl2, fun d hd => by cases hd; exact ⟨z, rfl⟩⟩
  simp only [Act.put, List.setIfInBounds_toArray, List.set_cons_succ, List.set_cons_zero, Option.toList, List.cons_append, List.nil_append]
  refine tame_cons ?_ (fun xs => ?_)
  · intro m wx hm0 hc hl hk
    have hm : m + 2 ≤ 900000000 := Nat.le_trans hm0 (by decide)
    clear hm0
    have k13 : sV p r 13 x13 wx := looked_get hk 13 (by decide) (by decide)
    obtain ⟨u', hu', rfl⟩ : ∃ u : Cr, u.name.size ≤ 100 ∧ x13 = .agg #[.int .i64 u.id, .string u.name, .int .i64 u.draught, .int .i64 u.ahead, .int .i64 u.beside, .int .i64 u.speed, .int .i64 u.fuel] := k13
    obtain ⟨hcu, hbe, hJ, u, hu, hI⟩ := id hc
    have m0 := hI.2.1 0 _ rfl
    have m1 := hI.2.1 1 _ rfl
    have m2 := hI.2.1 2 _ rfl
    have m3 := hI.2.1 3 _ rfl
    have m4 := hI.2.1 4 _ rfl
    have m5 := hI.2.1 5 _ rfl
    have m6 := hI.2.1 6 _ rfl
    have f0 := hI.2.2 0
    have f1 := hI.2.2 1
    have f2 := hI.2.2 2
    have f3 := hI.2.2 3
    have f4 := hI.2.2 4
    have f5 := hI.2.2 5
    have f6 := hI.2.2 6
    have hz := hI.1
    go_wp2_with (fail)
    have hne : ∀ b, b ≠ r → (wx.setCells r 0 (Cr.enc u')).heap[b]? = wx.heap[b]? := fun b hb => heap_setCells r (Cr.enc u') 0 wx b hb
    refine ⟨undef, rfl, rfl, ⟨m, by omega, (?_ : sC p r g ⟨X, x, k⟩ v w m (wx.setCells r 0 (Cr.enc u')))⟩, (⟨by rw [size_setCells]; exact Nat.le_refl _, fun b _ _ hr2 => hne b hr2⟩ : sL p r wx (wx.setCells r 0 (Cr.enc u'))), fun d hd => by cases hd⟩
    exact ⟨hcu.far (by omega) hXr (Cr.enc u') 0, bset hbe (Nat.le_refl r) (Cr.enc u') 0, hJ.far (by omega) (Cr.enc u') 0, u', hu', hI.putAll (Cr.enc u') rfl⟩
  simp only [Act.put, List.setIfInBounds_toArray, List.set_cons_succ, List.set_cons_zero, Option.toList, List.cons_append, List.nil_append]
  refine tame_cons ?_ (fun x3 => ?_)
  · intro m wx hm0 hc hl hk
    have hm : m + 2 ≤ 900000000 := Nat.le_trans hm0 (by decide)
    clear hm0
    have k21 : sV p r 21 x21 wx := looked_get hk 21 (by decide) (by decide)
    obtain ⟨z, rfl⟩ : ∃ z : Int, x21 = .int .i64 z := k21
    go_wp2_with (fail)
    exact ⟨_, rfl, rfl, ⟨m, by omega, hc⟩, ⟨Nat.le_refl _, fun _ _ _ _ => rfl⟩, fun d hd => by cases hd; exact ⟨z, rfl⟩⟩
  simp only [Act.put, List.setIfInBounds_toArray, List.set_cons_succ, List.set_cons_zero, Option.toList, List.cons_append, List.nil_append]
  refine tame_cons ?_ (fun x4 => ?_)
  · intro m wx hm0 hc hl hk
    have hm : m + 2 ≤ 900000000 := Nat.le_trans hm0 (by decide)
    clear hm0
    have k29 : sV p r 29 x29 wx := looked_get hk 29 (by decide) (by decide)
    obtain ⟨z, rfl⟩ : ∃ z : Int, x29 = .int .i64 z := k29
    go_wp2_with (fail)
    exact ⟨_, rfl, rfl, ⟨m, by omega, hc⟩, ⟨Nat.le_refl _, fun _ _ _ _ => rfl⟩, fun d hd => by cases hd; exact ⟨z, rfl⟩⟩
  simp only [Act.put, List.setIfInBounds_toArray, List.set_cons_succ, List.set_cons_zero, Option.toList, List.cons_append, List.nil_append]
  refine tame_cons ?_ (fun x5 => ?_)
  · intro m wx hm0 hc hl hk
    have hm : m + 2 ≤ 900000000 := Nat.le_trans hm0 (by decide)
    clear hm0
    have k37 : sV p r 37 x37 wx := looked_get hk 37 (by decide) (by decide)
    obtain ⟨z, rfl⟩ : ∃ z : Int, x37 = .int .i64 z := k37
    go_wp2_with (fail)
    exact ⟨_, rfl, rfl, ⟨m, by omega, hc⟩, ⟨Nat.le_refl _, fun _ _ _ _ => rfl⟩, fun d hd => by cases hd; exact ⟨z, rfl⟩⟩
  simp only [Act.put, List.setIfInBounds_toArray, List.set_cons_succ, List.set_cons_zero, Option.toList, List.cons_append, List.nil_append]
  refine tame_nil fun m wx hm hc hl hds => ?_
  clear hm
  have k3 : sV p r 3 x3 wx := hds 3 (by decide)
  have k4 : sV p r 4 x4 wx := hds 4 (by decide)
  have k5 : sV p r 5 x5 wx := hds 5 (by decide)
  obtain ⟨za, rfl⟩ : ∃ z : Int, x3 = .int .i64 z := k3
  obtain ⟨zb, rfl⟩ : ∃ z : Int, x4 = .int .i64 z := k4
  obtain ⟨zc, rfl⟩ : ∃ z : Int, x5 = .int .i64 z := k5
  obtain ⟨hcu, hbe, hJ, u, hu, hI⟩ := hc
  clear hds hl hJ hcu KS J3 I3 D3 b3 bb
  have e0 := hI.2.1 0 _ rfl
  have e1 := hI.2.1 1 _ rfl
  have e2 := hI.2.1 2 _ rfl
  have e3 := hI.2.1 3 _ rfl
  have e4 := hI.2.1 4 _ rfl
  have e5 := hI.2.1 5 _ rfl
  have e6 := hI.2.1 6 _ rfl
  go_wp2_with (fail)
  exact bodyPost_ret (v := .tuple #[.agg #[.int .i64 u.id, .string u.name, .int .i64 u.draught, .int .i64 u.ahead, .int .i64 u.beside, .int .i64 u.speed, .int .i64 u.fuel], .int .i64 za, .int .i64 zb, .int .i64 zc]) (by simp [results, Tryd.results10, go_sem, e0, e1, e2, e3, e4, e5, e6]) rfl ⟨u, za, zb, zc, hu, rfl, hr ▸ hbe⟩
end Go.Proofs.YtanmkjjclpplkaaDoor
