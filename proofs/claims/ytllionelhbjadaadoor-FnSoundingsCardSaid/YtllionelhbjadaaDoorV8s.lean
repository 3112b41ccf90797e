/- The draws of the law on soundings and their texts: some sounding, some text, some soundings and numbers; they change the cursor alone. -/
import Derived.Test.YtllionelhbjadaaDoorDr7
import Derived.Test.YtllionelhbjadaaDoorW8e
import Derived.Test.YtllionelhbjadaaDoorU8b
set_option linter.unusedVariables false
set_option linter.unusedSimpArgs false
namespace Go.Proofs.YtllionelhbjadaaDoor
open Go.RowKit
set_option maxHeartbeats 8000000
set_option maxRecDepth 100000
theorem vBig (A : Option Addr) (n c : Nat) (w : World) :
    Calls Tryd.prog 12 #[.slice A n c] w fun e w' => e = .returned (.bool (decide ((65536 : Int) < (n : Int)))) ∧ w = w' := by
  go_enter Tryd.func12, Tryd.ntmps12
  go_wp2_with (fail)
  go_ret
  exact ⟨rfl, rfl⟩
theorem drIsSd (X : Option Addr) (x : Nat) (k : List UInt8) (w : World) (h : Sl 1 encU w X k) (hn : k.length ≤ 1048576) :
    Calls Tryd.prog 33 #[.slice X k.length x] w fun e w' => ∃ v : Sd, e = .returned (.agg #[.int .i64 (v).id, .int .i64 (v).x, .int .i64 (v).y, .int .i64 (v).depth, .int .i64 (v).doubt]) ∧ Below w.heap.size w w' := by
  go_enter Tryd.func33, Tryd.ntmps33
  go_upto_region 1 with (fail)
  generalize hr : w.heap.size = r
  generalize hW : World.alloc w _ = W1
  have I1 : Bk W1 r (Sd.enc z8) := by rw [← hW, ← hr]; exact Bk.new w (Sd.enc z8) _
  have b1 : Below r w W1 := by rw [← hW, ← hr]; exact below_alloc _ _
  have h1 : Sl 1 encU W1 X k := by rw [← hW]; exact h.below (below_alloc _ _)
  clear hW
  go_upto_region 2 with (fail)
  have D0 := Dr.new (c := x) 68 h1 hn
  have hrp : r < W1.heap.size := I1.1
  generalize hp : W1.heap.size = p at *
  generalize hW : World.alloc W1 _ = W0 at *
  clear hW
  go_wp2_with (fail)
  refine (dAmongN D0 (Below.refl _ _) (by omega) rfl (by decide) (by decide) (by simp) (by simp [isI])).mono ?_; rintro e w1 ⟨z1, rfl, -, D1, l1⟩
  go_wp2_with (fail)
  refine (dSounding D1 (Below.refl _ _) (by omega) _).mono ?_; rintro e w2 ⟨v, rfl, D2, l2⟩
  have I3 := I1.below (hp ▸ D2.done)
  have m0 := I3.2.1 0 _ rfl
  have m1 := I3.2.1 1 _ rfl
  have m2 := I3.2.1 2 _ rfl
  have m3 := I3.2.1 3 _ rfl
  have m4 := I3.2.1 4 _ rfl
  have f0 := I3.2.2 0
  have f1 := I3.2.2 1
  have f2 := I3.2.2 2
  have f3 := I3.2.2 3
  have f4 := I3.2.2 4
  have hz := I3.1
  go_wp2_with (fail)
  have I9 := I3.putA (Sd.enc v) rfl
  have b9 := bset (b1.trans (D2.done.mono (by omega))) (Nat.le_refl r) (Sd.enc v) 0
  simp only [Sd.enc, World.setCells, Nat.zero_add, Nat.reduceAdd] at I9 b9
  have e0 := I9.2.1 0 _ rfl
  have e1 := I9.2.1 1 _ rfl
  have e2 := I9.2.1 2 _ rfl
  have e3 := I9.2.1 3 _ rfl
  have e4 := I9.2.1 4 _ rfl
  exact bodyPost_ret (v := .agg #[.int .i64 (v).id, .int .i64 (v).x, .int .i64 (v).y, .int .i64 (v).depth, .int .i64 (v).doubt]) (by simp [results, Tryd.results33, go_sem, e0, e1, e2, e3, e4]) rfl ⟨v, rfl, hr ▸ b9⟩
theorem drSdText (X : Option Addr) (x : Nat) (k : List UInt8) (w : World) (h : Sl 1 encU w X k) (hn : k.length ≤ 1048576) :
    Calls Tryd.prog 13 #[.slice X k.length x] w fun e w' => ∃ v : Sd, e = .returned (.agg #[.int .i64 (v).id, .int .i64 (v).x, .int .i64 (v).y, .int .i64 (v).depth, .int .i64 (v).doubt]) ∧ Below w.heap.size w w' := by
  go_enter Tryd.func13, Tryd.ntmps13
  go_upto_region 1 with (fail)
  generalize hr : w.heap.size = r
  generalize hW : World.alloc w _ = W1
  have I1 : Bk W1 r (Sd.enc z8) := by rw [← hW, ← hr]; exact Bk.new w (Sd.enc z8) _
  have b1 : Below r w W1 := by rw [← hW, ← hr]; exact below_alloc _ _
  have h1 : Sl 1 encU W1 X k := by rw [← hW]; exact h.below (below_alloc _ _)
  clear hW
  go_wp2_with (fail)
  refine (drIsSd X x k _ h1 hn).mono ?_; rintro e w2 ⟨v, rfl, b2⟩
  have I3 := I1.below b2
  have hr1 := I1.1
  have m0 := I3.2.1 0 _ rfl
  have m1 := I3.2.1 1 _ rfl
  have m2 := I3.2.1 2 _ rfl
  have m3 := I3.2.1 3 _ rfl
  have m4 := I3.2.1 4 _ rfl
  have f0 := I3.2.2 0
  have f1 := I3.2.2 1
  have f2 := I3.2.2 2
  have f3 := I3.2.2 3
  have f4 := I3.2.2 4
  have hz := I3.1
  go_wp2_with (fail)
  have I9 := I3.putA (Sd.enc v) rfl
  have b9 := bset (b1.trans (b2.mono (by omega))) (Nat.le_refl r) (Sd.enc v) 0
  simp only [Sd.enc, World.setCells, Nat.zero_add, Nat.reduceAdd] at I9 b9
  have e0 := I9.2.1 0 _ rfl
  have e1 := I9.2.1 1 _ rfl
  have e2 := I9.2.1 2 _ rfl
  have e3 := I9.2.1 3 _ rfl
  have e4 := I9.2.1 4 _ rfl
  exact bodyPost_ret (v := .agg #[.int .i64 (v).id, .int .i64 (v).x, .int .i64 (v).y, .int .i64 (v).depth, .int .i64 (v).doubt]) (by simp [results, Tryd.results13, go_sem, e0, e1, e2, e3, e4]) rfl ⟨v, rfl, hr ▸ b9⟩
/-- A text that is spoilt, perhaps. -/
theorem dSpoilt {p B : Nat} {q : Cd} {m : Nat} {w0 w5 w : World} (h : Dr p B q m w0 w5) (hg : Below w5.heap.size w5 w) (hm : m ≤ 800000000) (s : ByteArray) (hs : s.size ≤ 1000) :
    Calls Tryd.prog 40 #[.pointer (some ⟨p, 0, none⟩), .string s, .string ⟨#[48, 64, 44, 58, 43, 45]⟩] w fun e w' => ∃ t : ByteArray, e = .returned (.string t) ∧ t.size ≤ 3000 ∧ Dr p B q (m + 6) w0 w' ∧ LB p w.heap.size w w' := by
  have h := h.grown hg
  have hp := h.lt
  clear hg
  by_cases h0 : s.size = 0
  · have q0 : s.toList.isEmpty = true := by
      rw [ByteArray.toList_eq]
      have : s.data.toList = [] := List.eq_nil_of_length_eq_zero (by rw [sl]; exact h0)
      rw [this]; rfl
    go_enter Tryd.func40, Tryd.ntmps40
    go_wp2_with (fail)
    go_ret
    exact ⟨_, rfl, Nat.le_trans (ex_size _ _ _) (by decide), h.mono (by omega), LB.of (Below.refl _ _)⟩
  · have q0 : s.toList.isEmpty = false := by
      rw [ByteArray.toList_eq]
      cases hl : s.data.toList with
      | nil => exact absurd (by rw [← sl, hl]; rfl) h0
      | cons a r => rfl
    go_enter Tryd.func40, Tryd.ntmps40
    go_wp2_with (fail)
    refine (dPick h (Below.refl _ _) (by omega) _ (by omega)).mono ?_; rintro e w1 ⟨i, rfl, hi, D1, l1⟩
    obtain ⟨i, rfl⟩ : ∃ j : Nat, i = (j : Int) := ⟨i.toNat, by omega⟩
    have hi1 : i < s.size := by omega
    have L1 := (LB.of (p := p) (Below.refl w.heap.size w)).next (Below.refl _ _) l1
    go_wp2_with (fail)
    refine (dPick D1 (Below.refl _ _) (by omega) _ (by omega)).mono ?_; rintro e w2 ⟨j, rfl, hj, D2, l2⟩
    obtain ⟨j, rfl⟩ : ∃ n : Nat, j = (n : Int) := ⟨j.toNat, by omega⟩
    have L2 := L1.next (Below.refl _ _) l2
    have u1 : (0 : Int) ≤ (j : Int) := by omega
    have u2 : (j : Int) ≤ 6 := by omega
    have u3 : (j : Int) + 1 ≤ 6 := by omega
    clear D1 L1 l1 l2 h hi hj
    go_wp2_with (fail)
    have hwd : ((⟨#[48, 64, 44, 58, 43, 45]⟩ : ByteArray).extract j 6 |>.extract 0 1).size ≤ 6 := Nat.le_trans (ex_size _ _ _) (Nat.le_trans (ex_size _ _ _) (by decide))
    generalize ((⟨#[48, 64, 44, 58, 43, 45]⟩ : ByteArray).extract j 6 |>.extract 0 1) = wd at *
    refine (dPick D2 (Below.refl _ _) (by omega) _ (by omega)).mono ?_; rintro e w3 ⟨o, rfl, ho, D3, l3⟩
    have L3 := L2.next (Below.refl _ _) l3
    have v1 : (0 : Int) ≤ (i : Int) := by omega
    have v2 : (i : Int) ≤ (s.size : Int) := by omega
    have v3 : (i : Int) + 1 ≤ (s.size : Int) := by omega
    have v4 : (0 : Int) ≤ (i : Int) + 1 := by omega
    have y1 : IntKind.i64.wrap ((i : Int) + 1) = (i : Int) + 1 := IntWalk.i64_in _ (by omega)
    have x1 := ex_size s 0 i
    have x2 := ex_size s i s.size
    have x3 := ex_size s (i + 1) s.size
    clear D2 L2 l3 u1 u2 u3 q0
    by_cases o0 : o = 0
    · subst o0
      go_wp2_with (fail)
      go_quiet (fail)
      go_wp2_with (fail)
      go_ret
      exact ⟨_, rfl, by simp only [ByteArray.size_append]; omega, (D3.grown (bdrew (Below.refl _ _) _)).mono (by omega), L3.grown (bdrew (Below.refl _ _) _)⟩
    · by_cases o1 : o = 1
      · subst o1
        go_wp2_with (fail)
        go_quiet (fail)
        go_wp2_with (fail)
        go_ret
        exact ⟨_, rfl, by simp only [ByteArray.size_append]; omega, (D3.grown (bdrew (Below.refl _ _) _)).mono (by omega), L3.grown (bdrew (Below.refl _ _) _)⟩
      · go_wp2_with (fail)
        go_quiet (fail)
        go_wp2_with (fail)
        go_ret
        exact ⟨_, rfl, by simp only [ByteArray.size_append]; omega, (D3.grown (bdrew (Below.refl _ _) _)).mono (by omega), L3.grown (bdrew (Below.refl _ _) _)⟩
theorem drPText (X : Option Addr) (x : Nat) (k : List UInt8) (w : World) (h : Sl 1 encU w X k) (hn : k.length ≤ 1048576) :
    Calls Tryd.prog 15 #[.slice X k.length x] w fun e w' => ∃ t : ByteArray, e = .returned (.string t) ∧ t.size ≤ 3000 ∧ Below w.heap.size w w' := by
  go_enter Tryd.func15, Tryd.ntmps15
  go_upto_region 2 with (fail)
  have D0 := Dr.new (c := x) 68 h hn
  generalize hp : w.heap.size = p at *
  generalize hW : World.alloc w _ = W0 at *
  clear hW
  go_wp2_with (fail)
  refine (dAmongN D0 (Below.refl _ _) (by omega) rfl (by decide) (by decide) (by simp) (by simp [isI])).mono ?_; rintro e w1 ⟨z1, rfl, -, D1, l1⟩
  go_wp2_with (fail)
  refine (dSounding D1 (Below.refl _ _) (by omega) _).mono ?_; rintro e w2 ⟨v, rfl, D2, l2⟩
  go_upto_region 4 with (fail)
  generalize hW : World.alloc w2 _ = W3
  have J : Bk W3 w2.heap.size (Sd.enc v) := by rw [← hW]; exact Bk.new w2 (Sd.enc v) _
  have b3 : Below w2.heap.size w2 W3 := by rw [← hW]; exact below_alloc _ _
  have D3 := D2.grown b3
  clear hW b3 D2 l2 D1 l1 D0
  generalize w2.heap.size = g at *
  have j0 := J.2.1 0 _ rfl
  have j1 := J.2.1 1 _ rfl
  have j2 := J.2.1 2 _ rfl
  have j3 := J.2.1 3 _ rfl
  have j4 := J.2.1 4 _ rfl
  go_wp2_with (fail)
  refine (specOne v _).mono ?_; rintro e w4 ⟨rfl, b4⟩
  have J := J.below b4
  have D4 := D3.grown b4
  clear j0 j1 j2 j3 j4 b4 D3
  cases hok : sdOk v with
  | false =>
    go_wp2_with (fail)
    refine (dOne D4 (Below.refl _ _) (by omega) _ (by omega)).mono ?_; rintro e w6 ⟨b6, rfl, D6, l6⟩
    cases b6 with
    | true =>
      go_wp2_with (fail)
      refine (dSpoilt D6 (Below.refl _ _) (by omega) (⟨#[55, 64, 49, 48, 44, 50, 48, 58, 45, 51, 48, 43, 45, 53]⟩ : ByteArray) (by decide)).mono ?_; rintro e w7 ⟨t, rfl, ht, D7, l7⟩
      go_wp2_with (fail)
      go_ret
      exact ⟨t, rfl, ht, hp ▸ D7.done⟩
    | false =>
      go_wp2_with (fail)
      go_ret
      exact ⟨_, rfl, Nat.le_trans (show ((⟨#[55, 64, 49, 48, 44, 50, 48, 58, 45, 51, 48, 43, 45, 53]⟩ : ByteArray)).size ≤ 1000 from (by decide)) (by omega), hp ▸ D6.done⟩
  | true =>
    have j0 := J.2.1 0 _ rfl
    have j1 := J.2.1 1 _ rfl
    have j2 := J.2.1 2 _ rfl
    have j3 := J.2.1 3 _ rfl
    have j4 := J.2.1 4 _ rfl
    have hz := tx8_len hok
    go_wp2_with (fail)
    refine (sText8 v _ hok).mono ?_; rintro e w5 ⟨rfl, b5⟩
    have D5 := D4.grown b5
    generalize tx8 v = tv at *
    clear j0 j1 j2 j3 j4 b5 D4 J
    go_wp2_with (fail)
    refine (dOne D5 (Below.refl _ _) (by omega) _ (by omega)).mono ?_; rintro e w6 ⟨b6, rfl, D6, l6⟩
    cases b6 with
    | true =>
      go_wp2_with (fail)
      refine (dSpoilt D6 (Below.refl _ _) (by omega) tv (by omega)).mono ?_; rintro e w7 ⟨t, rfl, ht, D7, l7⟩
      go_wp2_with (fail)
      go_ret
      exact ⟨t, rfl, ht, hp ▸ D7.done⟩
    | false =>
      go_wp2_with (fail)
      go_ret
      exact ⟨_, rfl, Nat.le_trans (show (tv).size ≤ 1000 from (by omega)) (by omega), hp ▸ D6.done⟩
theorem dSdOf {p B : Nat} {q : Cd} {m : Nat} {w0 w5 w : World} (h : Dr p B q m w0 w5) (hg : Below w5.heap.size w5 w) (hm : m ≤ 800000000) (A : Option Addr) (c : Nat) (l : List Sd) (hs : Sl 5 Sd.enc w A l) (hn : l.length ≤ 20) (hA : ∀ a, A = some a → p < a.block) :
    Calls Tryd.prog 51 #[.pointer (some ⟨p, 0, none⟩), .slice A l.length c] w (drI p B q (m + 4) w0 w (fun _ => True)) := by
  have h := h.grown hg
  have hp := h.lt
  clear hg
  by_cases h0 : l.length = 0
  · go_enter Tryd.func51, Tryd.ntmps51
    go_wp2_with (fail)
    refine (dAmongN h (Below.refl _ _) (by omega) rfl (by decide) (by decide) (by simp) (by simp [isI])).mono ?_; rintro e w2 ⟨z, rfl, -, D2, l2⟩
    go_wp2_with (fail)
    go_ret
    exact ⟨z, rfl, trivial, D2.mono (by omega), (LB.of (Below.refl _ _)).next (below_alloc _ _) l2⟩
  · have h1 : ((l.length : Int) == 0) = false := by rw [beq_eq_false_iff_ne]; omega
    go_enter Tryd.func51, Tryd.ntmps51
    go_wp2_with (fail)
    refine (dOne h (Below.refl _ _) (by omega) _ (by omega)).mono ?_; rintro e w2 ⟨b, rfl, D2, l2⟩
    have s2 := hs.lb l2 (fun _ a ha => by have := hA a ha; omega)
    cases b with
    | true =>
      go_wp2_with (fail)
      refine (dAmongN D2 (Below.refl _ _) (by omega) rfl (by decide) (by decide) (by simp) (by simp [isI])).mono ?_; rintro e w3 ⟨z, rfl, -, D3, l3⟩
      go_wp2_with (fail)
      go_ret
      exact ⟨z, rfl, trivial, D3.mono (by omega), l2.next (below_alloc _ _) l3⟩
    | false =>
      go_wp2_with (fail)
      refine (dPick D2 (Below.refl _ _) (by omega) _ (by omega)).mono ?_; rintro e w3 ⟨r, rfl, hr, D3, l3⟩
      have s3 := s2.lb l3 (fun _ a ha => by have := hA a ha; omega)
      obtain ⟨b, off, rfl⟩ := s3.addr (by omega)
      obtain ⟨k, rfl⟩ : ∃ k : Nat, r = (k : Int) := ⟨r.toNat, by omega⟩
      have hk : k < l.length := by omega
      obtain ⟨hbl, c0, c1, c2, c3, c4⟩ := Sd.get s3 hk
      have u1 : (0 : Int) ≤ (k : Int) := by omega
      have u2 : (k : Int) < (l.length : Int) := by omega
      go_wp2_with (fail)
      go_ret
      exact ⟨_, rfl, trivial, D3, l2.next (Below.refl _ _) l3⟩
theorem drDo (X : Option Addr) (x : Nat) (k : List UInt8) (w : World) (h : Sl 1 encU w X k) (hn : k.length ≤ 1048576) :
    Calls Tryd.prog 22 #[.slice X k.length x] w fun e w' => ∃ (l : List Sd) (A : Option Addr) (c : Nat) (a b : Int), e = .returned (.tuple #[.slice A l.length c, .int .i64 a, .int .i64 b]) ∧ LsO 5 Sd.enc 14 w w' A l c := by
  go_enter Tryd.func22, Tryd.ntmps22
  go_wp2_with (fail)
  have D0 := Dr.new (c := x) 68 h hn
  generalize hp : w.heap.size = p at *
  generalize hW : World.alloc w _ = W0 at *
  clear hW
  refine (dSoundings D0 (Below.refl _ _) (by omega)).mono ?_; rintro e w1 ⟨l, A, c', rfl, s1, -, hl, hc, hA, D1, l1⟩
  have hA' : ∀ a, A = some a → p < a.block := fun a ha => Nat.lt_of_lt_of_le D0.lt (hA a ha)
  clear D0 l1 hA
  go_wp2_with (fail)
  refine (dSdOf D1 (Below.refl _ _) (by omega) A c' l s1 (by omega) hA').mono ?_; rintro e w2 ⟨z2, rfl, -, D2, l2⟩
  have s2 := s1.lb l2 (fun _ a ha => by have := hA' a ha; omega)
  go_wp2_with (fail)
  refine (dSdOf D2 (Below.refl _ _) (by omega) A c' l s2 (by omega) hA').mono ?_; rintro e w3 ⟨z3, rfl, -, D3, l3⟩
  have s3 := s2.lb l3 (fun _ a ha => by have := hA' a ha; omega)
  go_wp2_with (fail)
  go_ret3
  exact ⟨l, A, c', z2, z3, rfl, s3, hl, hc, hp ▸ D3.done⟩
theorem Sl.setc {α : Type} {K : Nat} {enc : α → List Value} {w : World} {g : Nat} {l : List α} {k j : Nat} (x : α) (v : Value) (h : Sl K enc w (some ⟨g, 0, none⟩) l) (hA : Ar w g (l.length * K)) (hk : k < l.length) (hj : j < K) (hK : ∀ x, (enc x).length = K) (hx : enc x = (enc l[k]).set j v) :
    Sl K enc (w.setCell ⟨g, k * K + j, none⟩ v) (some ⟨g, 0, none⟩) (l.set k x) := by
  show Sl K enc (w.setCells g (k * K + j) [v]) _ _
  intro _
  refine ⟨g, 0, rfl, by rw [size_setCells]; exact hA.1, fun i y hy r u hu => ?_⟩
  rw [Nat.zero_add]
  have hr : r < K := by rw [← hK y]; exact (List.getElem?_eq_some_iff.1 hu).1
  rw [List.getElem?_set] at hy
  obtain ⟨b', off', e', _, hc⟩ := h (by omega)
  injection e' with e'; injection e' with e1 e2
  subst e1 e2
  have hkK : k * K + j < l.length * K := by
    have h1 : (k + 1) * K ≤ l.length * K := Nat.mul_le_mul_right K hk
    rw [Nat.succ_mul] at h1; omega
  by_cases e : k = i
  · subst e
    rw [if_pos rfl, if_pos hk] at hy
    obtain rfl : x = y := by injection hy
    rw [hx, List.getElem?_set] at hu
    by_cases e3 : j = r
    · subst e3
      rw [if_pos rfl, if_pos (by rw [hK]; exact hj)] at hu
      have := World.cell?_setCells_in g [v] (k * K + j) w (fun m hm => by
        obtain rfl : m = 0 := by simpa using hm
        obtain ⟨z, hz⟩ := hA.2.1 _ hkK
        rw [Nat.add_zero, hz]; rfl) 0 (by simp)
      rw [Nat.add_zero] at this
      rw [this]
      simpa using hu
    · rw [if_neg e3] at hu
      rw [World.cell?_setCells_out g [v] (k * K + j) w _ (fun _ _ => by show k * K + r < k * K + j ∨ k * K + j + [v].length ≤ k * K + r; simp; omega)]
      have := hc k l[k] (List.getElem?_eq_getElem hk) r u hu
      rwa [Nat.zero_add] at this
  · rw [if_neg e] at hy
    rw [World.cell?_setCells_out g [v] (k * K + j) w _ (fun _ _ => by
      show i * K + r < k * K + j ∨ k * K + j + [v].length ≤ i * K + r
      simp only [List.length_singleton]
      rcases Nat.lt_or_ge i k with h | h
      · have h1 : (i + 1) * K ≤ k * K := Nat.mul_le_mul_right K h
        rw [Nat.succ_mul] at h1; omega
      · have h1 : (k + 1) * K ≤ i * K := Nat.mul_le_mul_right K (show k + 1 ≤ i by omega)
        rw [Nat.succ_mul] at h1; omega)]
    have := hc i y hy r u hu
    rwa [Nat.zero_add] at this
theorem drAll (X : Option Addr) (x : Nat) (k : List UInt8) (w : World) (h : Sl 1 encU w X k) (hn : k.length ≤ 1048576) :
    Calls Tryd.prog 16 #[.slice X k.length x] w fun e w' => ∃ (l : List Sd) (A : Option Addr) (c : Nat), e = .returned (.slice A l.length c) ∧ LsO 5 Sd.enc 14 w w' A l c := by
  go_enter Tryd.func16, Tryd.ntmps16
  go_wp2_with (fail)
  have D0 := Dr.new (c := x) 68 h hn
  generalize hp : w.heap.size = p at *
  generalize hW : World.alloc w _ = W0 at *
  clear hW
  refine (dSoundings D0 (Below.refl _ _) (by omega)).mono ?_; rintro e w1 ⟨l, A, c', rfl, s1, o1, hl, hc, hA, D1, l1⟩
  have hA' : ∀ a, A = some a → p < a.block := fun a ha => Nat.lt_of_lt_of_le D0.lt (hA a ha)
  clear D0 l1 hA
  go_wp2_with (fail)
  refine (dOne D1 (Below.refl _ _) (by omega) _ (by omega)).mono ?_; rintro e w2 ⟨b2, rfl, D2, l2⟩
  have s2 := s1.lb l2 (fun _ a ha => by have := hA' a ha; omega)
  cases b2 with
  | false =>
    go_wp2_with (fail)
    go_ret
    exact ⟨l, A, c', rfl, s2, hl, hc, hp ▸ D2.done⟩
  | true =>
    by_cases h0 : l.length = 0
    · have t0 : ¬ (0 : Int) < (l.length : Int) := by omega
      go_wp2_with (fail)
      go_loopw [5] (fun i wr => i = .int .i64 0 ∧ wr = w2) (fun _ _ => 0)
      case atStart => exact ⟨rfl, rfl⟩
      case round =>
        obtain ⟨rfl, rfl⟩ := hrel
        go_wp2_with (fail)
        go_ret
        exact ⟨l, A, c', by rw [h0]; rfl, s2, hl, hc, hp ▸ D2.done⟩
    · obtain ⟨g, rfl, hAr⟩ := o1 (by omega)
      have hpg : p < g := hA' _ rfl
      have A2 := hAr.lb l2 (by omega)
      clear o1 s1 hAr D1 l2 hA'
      go_wp2_with (fail)
      go_loopw [5] (fun i wr => ∃ (n : Nat) (l' : List Sd), n ≤ l.length ∧ l'.length = l.length ∧ i = .int .i64 n ∧ Hid (Sl 5 Sd.enc wr (some ⟨g, 0, none⟩) l') ∧ Hid (Ar wr g (l.length * 5)) ∧ Dr p p ⟨X, x, k⟩ (2000 + 2 * n) w wr) (fun i _ => l.length - (intOf i).toNat)
      case atStart => exact ⟨0, l, by omega, rfl, rfl, s2, A2, D2.mono (by omega)⟩
      case round =>
        clear s2 A2 D2
        obtain ⟨n, l', hnl, hll, rfl, HS, HA, D⟩ := hrel
        by_cases hlt : n < l.length
        · have u1 : (n : Int) < (l.length : Int) := by omega
          have u0 : (0 : Int) ≤ (n : Int) := by omega
          go_wp2_with (fail)
          refine (dPick D (Below.refl _ _) (by omega) _ (by omega)).mono ?_; rintro e w3 ⟨r, rfl, hr, D3, l3⟩
          have s3 := HS.out.lb l3 (fun _ a ha => by injection ha with ha; subst ha; show g ≠ p; omega)
          have A3 := HA.out.lb l3 (by omega)
          obtain ⟨hbl, c0, c1, c2, c3, c4⟩ := Sd.get s3 (show n < l'.length by omega)
          rw [Nat.zero_add] at c3
          have f3 := A3.2.2 (n * 5 + 3)
          have hz := A3.1
          have y1 : IntKind.i64.wrap (800 + r) = 800 + r := IntWalk.i64_in _ (by omega)
          clear HS HA D l3 c0 c1 c2 c4
          go_wp2_with (fail)
          go_roundw
          case rel => exact ⟨n + 1, l'.set n ⟨l'[n].id, l'[n].x, l'[n].y, 800 + r, l'[n].doubt⟩, by omega, by rw [List.length_set]; exact hll, by go_num, Lib.hid (Sl.setc ⟨l'[n].id, l'[n].x, l'[n].y, 800 + r, l'[n].doubt⟩ _ s3 (by rw [hll]; exact A3) (by omega) (by omega) Sd.len rfl), Lib.hid (A3.put [_] (n * 5 + 3) (by simp; omega)), (D3.set hpg _).mono (by omega)⟩
          case measure => simp [intOf]; omega
        · have u1 : ¬ (n : Int) < (l.length : Int) := by omega
          go_wp2_with (fail)
          go_ret
          exact ⟨l', some ⟨g, 0, none⟩, c', by rw [hll]; rfl, HS.out, by omega, by omega, hp ▸ D.done⟩
end Go.Proofs.YtllionelhbjadaaDoor
