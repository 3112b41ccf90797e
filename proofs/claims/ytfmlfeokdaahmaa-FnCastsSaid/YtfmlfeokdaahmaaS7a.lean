/- Words for casts, and the helpers of the laws at casts: copies, comparisons, sizes. Lists of at most 1048576 layers. -/
import Derived.Test.YtfmlfeokdaahmaaProg
import Derived.Test.YtfmlfeokdaahmaaAft
set_option linter.unusedVariables false
set_option linter.unusedSimpArgs false
namespace Go.Proofs.Ytfmlfeokdaahmaa
open Go.RowKit
set_option maxHeartbeats 1000000
set_option maxRecDepth 100000
structure Sp where
  sx : Int
  sy : Int
def Sp.enc (x : Sp) : List Value := [.int .i64 x.sx, .int .i64 x.sy]
theorem Sp.len (x : Sp) : x.enc.length = 2 := rfl
theorem Sp.one (x : Sp) : ∀ u ∈ x.enc, u.oneCell' = true := by intro u hu; simp [Sp.enc] at hu; rcases hu with rfl | rfl <;> rfl
instance : Inhabited Sp := ⟨⟨0, 0⟩⟩
theorem Sp.get {w : World} {b off : Nat} {l : List Sp} (h : Sl 2 Sp.enc w (some ⟨b, off, none⟩) l) {k : Nat} (hk : k < l.length) :
    b < w.heap.size ∧ w.cell? ⟨b, off + k * 2, none⟩ = some (.int .i64 l[k].sx) ∧ w.cell? ⟨b, off + k * 2 + 1, none⟩ = some (.int .i64 l[k].sy) := by
  obtain ⟨hlt, hc⟩ := Sl.get h hk
  exact ⟨hlt, hc 0 _ rfl, hc 1 _ rfl⟩
theorem toSp (x : Sp) (w : World) :
    Calls Try.prog 42 #[.agg #[.int .i64 x.sx, .int .i64 x.sy]] w fun e w' => e = .returned (.agg #[.int .i64 x.sx, .int .i64 x.sy]) ∧ Below w.heap.size w w' := by
  go_enter Try.func42, Try.ntmps42
  go_wp2
  go_returns
  exact ⟨rfl, by go_grown⟩
theorem eqSp (x : Sp) (w : World) :
    Calls Try.prog 60 #[.agg #[.int .i64 x.sx, .int .i64 x.sy], .agg #[.int .i64 x.sx, .int .i64 x.sy]] w fun e w' => e = .returned (.bool true) ∧ Below w.heap.size w w' := by
  go_enter Try.func60, Try.ntmps60
  go_wp2
  go_ret
  exact ⟨rfl, by go_grown⟩
structure Ly where
  dep : Int
  spd : Int
def Ly.enc (x : Ly) : List Value := [.int .i64 x.dep, .int .i64 x.spd]
theorem Ly.len (x : Ly) : x.enc.length = 2 := rfl
theorem Ly.one (x : Ly) : ∀ u ∈ x.enc, u.oneCell' = true := by intro u hu; simp [Ly.enc] at hu; rcases hu with rfl | rfl <;> rfl
instance : Inhabited Ly := ⟨⟨0, 0⟩⟩
theorem Ly.get {w : World} {b off : Nat} {l : List Ly} (h : Sl 2 Ly.enc w (some ⟨b, off, none⟩) l) {k : Nat} (hk : k < l.length) :
    b < w.heap.size ∧ w.cell? ⟨b, off + k * 2, none⟩ = some (.int .i64 l[k].dep) ∧ w.cell? ⟨b, off + k * 2 + 1, none⟩ = some (.int .i64 l[k].spd) := by
  obtain ⟨hlt, hc⟩ := Sl.get h hk
  exact ⟨hlt, hc 0 _ rfl, hc 1 _ rfl⟩
theorem toLy (x : Ly) (w : World) :
    Calls Try.prog 93 #[.agg #[.int .i64 x.dep, .int .i64 x.spd]] w fun e w' => e = .returned (.agg #[.int .i64 x.dep, .int .i64 x.spd]) ∧ Below w.heap.size w w' := by
  go_enter Try.func93, Try.ntmps93
  go_wp2
  go_returns
  exact ⟨rfl, by go_grown⟩
theorem infoLy : (Try.prog.info? 76).map (fun i => (i.zero, i.size, i.bytes)) = some (some (.agg #[.int .i64 0, .int .i64 0]), 2, 16) := by kernel_rfl
set_option maxHeartbeats 1000000 in
theorem toLyS (A : Option Addr) (c : Nat) (l : List Ly) (w : World) (h : Sl 2 Ly.enc w A l) (hn : l.length ≤ 1048576) :
    Calls Try.prog 56 #[.slice A l.length c] w fun e w' => ∃ g, e = .returned (.slice (some ⟨g, 0, none⟩) l.length l.length) ∧ Mk 2 Ly.enc w w' g l := by
  have hmk := fun W => run_make_rows (P := Try.prog) 30 76 _ 2 16 Try.underlying30 infoLy l.length (by omega) (by omega) W
  go_enter Try.func56, Try.ntmps56
  go_wp2
  generalize hW : World.alloc w _ = W1
  obtain ⟨hbW, hA, _⟩ := made_facts hW
  clear hW
  go_loopw [4] (fun i wr => ∃ k : Nat, k ≤ l.length ∧ i = .int .i64 k ∧ Below w.heap.size w wr ∧ Sl 2 Ly.enc wr (some ⟨w.heap.size, 0, none⟩) (l.take k) ∧ Ar wr w.heap.size (l.length * 2)) (fun i _ => l.length - (intOf i).toNat)
  case atStart => exact ⟨0, Nat.zero_le _, rfl, hbW, Sl.nil, hA⟩
  case round =>
    obtain ⟨k, hk, rfl, hb, hs, hA⟩ := hrel
    by_cases hlt : k < l.length
    · obtain ⟨b, off, rfl⟩ := h.addr (by omega)
      obtain ⟨hbl, c0, c1⟩ := Ly.get (h.below hb) hlt
      go_wp2_with (fail)
      refine (toLy l[k] _).mono ?_
      rintro e w' ⟨rfl, hb'⟩
      have hA' := hA.below hb'
      have hs' := hs.below hb'
      obtain ⟨v0, g0⟩ := hA'.2.1 (k * 2) (by omega)
      have f0 := hA'.2.2 (k * 2)
      obtain ⟨v1, g1⟩ := hA'.2.1 (k * 2 + 1) (by omega)
      have f1 := hA'.2.2 (k * 2 + 1)
      go_wp2_with (fail)
      go_roundw
      case rel => exact ⟨k + 1, by omega, by go_num, bset (bth hb hb') (Nat.le_refl _) (Ly.enc l[k]) (k * 2), hs'.put hA' hlt (fun _ => rfl), hA'.put (Ly.enc l[k]) (k * 2) (by show k * 2 + 2 ≤ _; omega)⟩
      case measure => simp [intOf]; omega
    · obtain rfl : k = l.length := by omega
      go_wp2
      go_ret
      exact ⟨_, rfl, Nat.le_refl _, hb, by rwa [List.take_length] at hs, hA⟩
theorem eqLy (x : Ly) (w : World) :
    Calls Try.prog 94 #[.agg #[.int .i64 x.dep, .int .i64 x.spd], .agg #[.int .i64 x.dep, .int .i64 x.spd]] w fun e w' => e = .returned (.bool true) ∧ Below w.heap.size w w' := by
  go_enter Try.func94, Try.ntmps94
  go_wp2
  go_ret
  exact ⟨rfl, by go_grown⟩
set_option maxHeartbeats 1000000 in
theorem eqLyS (A B : Option Addr) (c d : Nat) (l : List Ly) (w : World) (h : Sl 2 Ly.enc w A l) (h2 : Sl 2 Ly.enc w B l) (hn : l.length ≤ 1048576) :
    Calls Try.prog 61 #[.slice A l.length c, .slice B l.length d] w fun e w' => e = .returned (.bool true) ∧ Below w.heap.size w w' := by
  go_enter Try.func61, Try.ntmps61
  go_wp2
  go_loopw [5] (fun i wr => ∃ k : Nat, k ≤ l.length ∧ i = .int .i64 k ∧ Below w.heap.size w wr) (fun i _ => l.length - (intOf i).toNat)
  case atStart => exact ⟨0, Nat.zero_le _, rfl, Below.refl _ _⟩
  case round =>
    obtain ⟨k, hk, rfl, hb⟩ := hrel
    by_cases hlt : k < l.length
    · obtain ⟨b, off, rfl⟩ := h.addr (by omega)
      obtain ⟨b', off', rfl⟩ := h2.addr (by omega)
      obtain ⟨hbl, c0, c1⟩ := Ly.get (h.below hb) hlt
      obtain ⟨hbl', d0, d1⟩ := Ly.get (h2.below hb) hlt
      go_wp2_with (fail)
      go_still_tail 8, (by kernel_rfl)
      change wpList _ _ _ _ _ wr.drew
      have hb' := hb.drew
      generalize wr.drew = w2 at hb' ⊢
      go_wp2_with (fail)
      refine (eqLy _ _).mono ?_; rintro e w3 ⟨rfl, hb3⟩
      go_wp2_with (fail)
      go_roundw
      case rel => exact ⟨k + 1, by omega, by go_num, bth hb' hb3⟩
      case measure => simp [intOf]; omega
    · go_wp2
      go_ret
      exact ⟨rfl, hb⟩
def Ly.mk_ (n : Nat) : List Ly := (List.range n).map fun (i : Nat) => ⟨1 + (i : Int) * 2, 1 + (i : Int) * 2 + 1⟩
theorem Ly.mk_length (n : Nat) : (Ly.mk_ n).length = n := by simp [Ly.mk_]
theorem Ly.mk_get {n m : Nat} (h : m < (Ly.mk_ n).length) : (Ly.mk_ n)[m] = ⟨1 + (m : Int) * 2, 1 + (m : Int) * 2 + 1⟩ := by simp [Ly.mk_]
set_option maxHeartbeats 1000000 in
theorem markLyS (A : Option Addr) (c n : Nat) (w : World) (h : Own 2 w A n) (hn : n ≤ 1048576) :
    Calls Try.prog 70 #[.slice A n c, .int .i64 1] w fun e w' => e = .returned (.int .i64 (1 + (n : Int) * 2)) ∧ OnlyN A n w w' ∧ Sl 2 Ly.enc w' A (Ly.mk_ n) ∧ Own 2 w' A n := by
  go_enter Try.func70, Try.ntmps70
  go_wp2
  go_loopw [1, 5] (fun t i wr => ∃ k : Nat, k ≤ n ∧ i = .int .i64 k ∧ t = .int .i64 (1 + (k : Int) * 2) ∧ OnlyN A n w wr ∧ Sl 2 Ly.enc wr A ((Ly.mk_ n).take k) ∧ Own 2 wr A n) (fun _ i _ => n - (intOf i).toNat)
  case atStart => exact ⟨0, Nat.zero_le _, rfl, by go_num, OnlyN.refl _ _ _, Sl.nil, h⟩
  case round =>
    obtain ⟨k, hk, rfl, rfl, ho, hs, hA⟩ := hrel
    by_cases hlt : k < n
    · obtain ⟨g, rfl, hA'⟩ := hA (by omega)
      have hlk : k < (Ly.mk_ n).length := by rw [Ly.mk_length]; exact hlt
      obtain ⟨v0, g0⟩ := hA'.2.1 (k * 2) (by omega)
      have f0 := hA'.2.2 (k * 2)
      obtain ⟨v1, g1⟩ := hA'.2.1 (k * 2 + 1) (by omega)
      have f1 := hA'.2.2 (k * 2 + 1)
      have P := Lib.hid (hs.put (by rw [Ly.mk_length]; exact hA') hlk (fun _ => rfl))
      rw [Ly.mk_get] at P
      go_wp2_with (fail)
      go_roundw
      case rel => exact ⟨k + 1, by omega, by go_num, by go_num, ho.put (by omega) (Ly.enc ⟨1 + (k : Int) * 2, 1 + (k : Int) * 2 + 1⟩) (k * 2), P.out, fun _ => ⟨g, rfl, hA'.put (Ly.enc ⟨1 + (k : Int) * 2, 1 + (k : Int) * 2 + 1⟩) (k * 2) (by show k * 2 + 2 ≤ _; omega)⟩⟩
      case measure => simp [intOf]; omega
    · obtain rfl : k = n := by omega
      go_wp2
      go_ret
      exact ⟨rfl, ho, by rwa [List.take_of_length_le (by rw [Ly.mk_length]; omega)] at hs, hA⟩
set_option maxHeartbeats 1000000 in
theorem heldLyS (A : Option Addr) (c n : Nat) (w : World) (h : Sl 2 Ly.enc w A (Ly.mk_ n)) (hn : n ≤ 1048576) :
    Calls Try.prog 71 #[.slice A n c, .int .i64 1] w fun e w' => e = .returned (.int .i64 (1 + (n : Int) * 2)) ∧ w = w' := by
  go_enter Try.func71, Try.ntmps71
  go_wp2
  go_loop [1, 5] (fun t i => ∃ k : Nat, k ≤ n ∧ i = .int .i64 k ∧ t = .int .i64 (1 + (k : Int) * 2)) (fun _ i => n - (intOf i).toNat)
  case atStart => exact ⟨0, Nat.zero_le _, rfl, by go_num⟩
  case round =>
    obtain ⟨k, hk, rfl, rfl⟩ := hrel
    by_cases hlt : k < n
    · have hlk : k < (Ly.mk_ n).length := by rw [Ly.mk_length]; exact hlt
      obtain ⟨b, off, rfl⟩ := h.addr (by omega)
      obtain ⟨hbl, c0, c1⟩ := Ly.get h hlk
      simp only [Ly.mk_get] at c0 c1
      go_wp2
      go_round
      case rel => exact ⟨k + 1, by omega, by go_num, by go_num⟩
      case measure => simp [intOf]; omega
    · obtain rfl : k = n := by omega
      go_wp2
      go_ret
      exact ⟨rfl, rfl⟩
/-- A cast, as plain data. -/
structure Ct where
  (id time x y : Int)
  (lay : List Ly)
instance : Inhabited Ct := ⟨⟨0, 0, 0, 0, []⟩⟩
theorem szLyYes (A : Option Addr) (c n : Nat) (q : Int) (w : World) (hq : q ≤ 1048576) (h : (n : Int) ≤ q) :
    Calls Try.prog 54 #[.slice A n c, .int .i64 q] w fun e w' => e = .returned (.int .i64 (q - n)) ∧ w = w' := by
  have h1 : ¬ (q - (n : Int) < 0) := by omega
  go_enter Try.func54, Try.ntmps54
  go_wp2
  go_ret
  exact ⟨rfl, rfl⟩
theorem szLyNo (A : Option Addr) (c n : Nat) (q : Int) (w : World) (hq : 0 ≤ q) (hn : n ≤ 9223372036854775807) (h : q < (n : Int)) :
    Calls Try.prog 54 #[.slice A n c, .int .i64 q] w fun e w' => e = .returned (.int .i64 (-1)) ∧ w = w' := by
  have h1 : q - (n : Int) < 0 := by omega
  go_enter Try.func54, Try.ntmps54
  go_wp2
  go_ret
  exact ⟨rfl, rfl⟩
theorem szCtYes (t : Ct) (A : Option Addr) (c : Nat) (q : Int) (w : World) (hq : q ≤ 1048576) (h : (t.lay.length : Int) ≤ q) :
    Calls Try.prog 15 #[.agg #[.int .i64 t.id, .int .i64 t.time, .int .i64 t.x, .int .i64 t.y, .slice A t.lay.length c], .int .i64 q] w fun e w' => e = .returned (.int .i64 (q - t.lay.length)) ∧ Below w.heap.size w w' := by
  have h1 : ¬ (q - (t.lay.length : Int) < 0) := by omega
  go_enter Try.func15, Try.ntmps15
  go_wp2_with (go_at_call 54; refine (szLyYes _ _ _ _ _ hq h).mono ?_; rintro e w' ⟨rfl, rfl⟩)
  go_ret
  exact ⟨rfl, by go_grown⟩
theorem szCtNo (t : Ct) (A : Option Addr) (c : Nat) (q : Int) (w : World) (hq : 0 ≤ q) (hn : t.lay.length ≤ 9223372036854775807) (h : q < (t.lay.length : Int)) :
    Calls Try.prog 15 #[.agg #[.int .i64 t.id, .int .i64 t.time, .int .i64 t.x, .int .i64 t.y, .slice A t.lay.length c], .int .i64 q] w fun e w' => e = .returned (.int .i64 (-1)) ∧ Below w.heap.size w w' := by
  go_enter Try.func15, Try.ntmps15
  go_wp2_with (go_at_call 54; refine (szLyNo _ _ _ _ _ hq hn h).mono ?_; rintro e w' ⟨rfl, rfl⟩)
  go_ret
  exact ⟨rfl, by go_grown⟩
theorem Mk.set {α : Type} {K : Nat} {enc : α → List Value} {w w' : World} {g : Nat} {l : List α} (h : Mk K enc w w' g l) {b o : Nat} {v : Value} (h1 : w.heap.size ≤ b) (h2 : b ≠ g) : Mk K enc w (w'.setCell ⟨b, o, none⟩ v) g l := by
  have hb : (w'.setCell ⟨b, o, none⟩ v).heap[g]? = w'.heap[g]? := Below.heap_setCell w' ⟨b, o, none⟩ v g (fun e => h2 e.symm)
  refine ⟨h.1, h.2.1.setCell (p := ⟨b, o, none⟩) h1 v, ?_, ?_⟩
  · exact h.2.2.1.far (fun a ha => by injection ha with ha; subst ha; exact fun e => h2 e.symm) [v] o
  · obtain ⟨a1, a2, a3⟩ := h.2.2.2
    exact ⟨by rw [World.size_setCell]; exact a1, fun i hi => by obtain ⟨u, hu⟩ := a2 i hi; exact ⟨u, (World.cell?_of_block (w := w') hb).trans hu⟩, fun i => (World.frozen?_of_block (w := w') hb).trans (a3 i)⟩
theorem toCt (t : Ct) (A : Option Addr) (c : Nat) (w : World) (h : Sl 2 Ly.enc w A t.lay) (hn : t.lay.length ≤ 1048576) :
    Calls Try.prog 17 #[.agg #[.int .i64 t.id, .int .i64 t.time, .int .i64 t.x, .int .i64 t.y, .slice A t.lay.length c]] w fun e w' => ∃ g, e = .returned (.agg #[.int .i64 t.id, .int .i64 t.time, .int .i64 t.x, .int .i64 t.y, .slice (some ⟨g, 0, none⟩) t.lay.length t.lay.length]) ∧ Mk 2 Ly.enc w w' g t.lay := by
  go_enter Try.func17, Try.ntmps17
  go_wp2_with (fail)
  refine (toSp ⟨t.x, t.y⟩ _).mono ?_; rintro e w1 ⟨rfl, b1⟩
  obtain ⟨p1, p2⟩ := bcell b1
  have z2 : w.heap.size + 1 + 1 < w1.heap.size := by have := b1.size; simp at this; omega
  have b2 : Below w.heap.size w w1 := Below.trans (by go_grown) (b1.mono (by simp; omega))
  go_wp2_with (fail)
  refine (toLyS A c t.lay _ (h.below (by go_grown)) hn).mono ?_; rintro e w4 ⟨g, rfl, m4⟩
  obtain ⟨p3, p4⟩ := bcell m4.2.1
  have hg : w1.heap.size ≤ g := by have := m4.1; simpa using this
  have b4 : Below w.heap.size w w4 := Below.trans (by go_grown) (m4.2.1.mono (by simp; omega))
  have M : Mk 2 Ly.enc w w4 g t.lay := ⟨by omega, b4, m4.2.2⟩
  have z4 : w1.heap.size ≤ w4.heap.size := by have := m4.2.1.size; simpa using this
  have M := Lib.hid M
  have z3 : w.heap.size + 1 < w1.heap.size := by omega
  go_wp2_with (fail)
  refine bodyPost_ret (v := .agg #[.int .i64 t.id, .int .i64 t.time, .int .i64 t.x, .int .i64 t.y, .slice (some ⟨g, 0, none⟩) t.lay.length t.lay.length]) (by simp [results, Try.results17, go_sem, p3, p1, z2, z3]) rfl ?_
  exact ⟨g, rfl, by repeat' (first | (with_reducible exact M.out) | (with_reducible refine Mk.set ?_ ?_ ?_) | omega)⟩
theorem eqCt (t : Ct) (A B : Option Addr) (c d : Nat) (w : World) (h : Sl 2 Ly.enc w A t.lay) (h2 : Sl 2 Ly.enc w B t.lay) (hn : t.lay.length ≤ 1048576) :
    Calls Try.prog 19 #[.agg #[.int .i64 t.id, .int .i64 t.time, .int .i64 t.x, .int .i64 t.y, .slice A t.lay.length c], .agg #[.int .i64 t.id, .int .i64 t.time, .int .i64 t.x, .int .i64 t.y, .slice B t.lay.length d]] w fun e w' => e = .returned (.bool true) ∧ Below w.heap.size w w' := by
  go_enter Try.func19, Try.ntmps19
  go_wp2_with (fail)
  generalize hW : World.alloc w _ = W1
  obtain ⟨bW, kW, _⟩ := alloc_facts hW
  have eW : W1.heap.size = w.heap.size + 1 := by rw [← hW]; simp
  clear hW
  generalize hW2 : World.alloc W1 _ = W2
  obtain ⟨bW2, kW2, _⟩ := alloc_facts hW2
  clear hW2
  rw [eW] at kW2
  clear eW
  have kW := kW.below bW2
  have bW := bth bW bW2
  refine (eqSp ⟨t.x, t.y⟩ _).mono ?_; rintro e w1 ⟨rfl, b1⟩
  have k1 := kW.below b1
  have k2 := kW2.below b1
  have c4 := k1.2.1 4 _ rfl
  have d4 := k2.2.1 4 _ rfl
  have b1 := bth bW b1
  go_wp2_with (fail)
  refine (eqLyS A B c d t.lay _ (h.below b1) (h2.below b1) hn).mono ?_; rintro e w2 ⟨rfl, b2⟩
  go_wp2_with (fail)
  go_ret
  exact ⟨rfl, bth b1 b2⟩
end Go.Proofs.Ytfmlfeokdaahmaa
