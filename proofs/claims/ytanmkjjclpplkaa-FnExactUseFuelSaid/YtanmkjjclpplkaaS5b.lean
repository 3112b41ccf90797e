/- The marks of the laws at craft: texts of numbers, and the marks laid and read. At most 1048576 craft. -/
import Derived.Test.YtanmkjjclpplkaaS5a
import Derived.Laws.IdiomStrings
set_option linter.unusedVariables false
set_option linter.unusedSimpArgs false
namespace Go.Proofs.Ytanmkjjclpplkaa
open Go.RowKit
set_option maxHeartbeats 4000000
set_option maxRecDepth 100000
@[irreducible] def dg (k : Nat) : UInt8 := UInt8.ofNat (48 + k % 10)
theorem dg_toNat (k : Nat) : ((dg k).toNat : Int) = 48 + (k : Int) % 10 := by unfold dg; rw [UInt8.toNat_ofNat']; omega
def digT (k : Nat) (o : ByteArray) : ByteArray := if k = 0 then o else digT (k / 10) (⟨#[dg k]⟩ ++ o)
termination_by k
decreasing_by omega
theorem dg_size (k : Nat) (q : ByteArray) : (⟨#[dg k]⟩ ++ q : ByteArray).size = q.size + 1 := by rw [ByteArray.size_append]; show 1 + q.size = _; omega
@[irreducible] def mtx (k : Nat) : ByteArray := ⟨#[109]⟩ ++ digT k ByteArray.empty
theorem markTx (k : Nat) (w : World) (h0 : 0 < k) (h1 : k ≤ 1000000000) :
    Calls Try.prog 40 #[.int .i64 k] w fun e w' => e = .returned (.string (mtx k)) ∧ Below w.heap.size w w' := by
  have hk1 : ¬ (k : Int) ≤ 0 := by omega
  have hk2 : k ≠ 0 := by omega
  go_enter Try.func40, Try.ntmps40
  go_wp2_with (fail)
  go_loopw [0, 3] (fun n o wr => ∃ (j : Nat) (q : ByteArray), q.size ≤ 10 ∧ j < 10 ^ (10 - q.size) ∧ n = .int .i64 j ∧ o = .string q ∧ Below w.heap.size w wr ∧ Hid (digT j q = digT k ByteArray.empty)) (fun n _ _ => (intOf n).toNat)
  case atStart => exact ⟨k, _, by show 0 ≤ 10; omega, by show k < 10 ^ 10; omega, rfl, rfl, Below.refl _ _, rfl⟩
  case round =>
    obtain ⟨j, q, hq, hj, rfl, rfl, hb, H⟩ := hrel
    have hj9 : j ≤ 10000000000 := by
      have : 10 ^ (10 - q.size) ≤ 10 ^ 10 := Nat.pow_le_pow_right (by omega) (by omega)
      omega
    by_cases hlt : 0 < j
    · have hq9 : q.size ≤ 9 := by
        rcases Nat.lt_or_ge 9 q.size with h | h
        · rw [show 10 - q.size = 0 by omega] at hj; simp at hj; omega
        · exact h
      have hj2 : j / 10 < 10 ^ (10 - (q.size + 1)) := by
        rw [show 10 - q.size = (10 - (q.size + 1)) + 1 by omega, Nat.pow_succ] at hj
        omega
      have HJ := Lib.hid hj2
      clear hj hj2
      have u1 : (0 : Int) < (j : Int) := by omega
      have hcv : (convert 36 9 (.slice (some ⟨wr.heap.size, 0, none⟩) 1 1)).run Try.prog (wr.alloc (.cells #[.int .u8 (48 + (j : Int) % 10)] 5)) = .ok (.string ⟨#[dg j]⟩) (wr.alloc (.cells #[.int .u8 (48 + (j : Int) % 10)] 5)) :=
        run_convert_bytes_back (P := Try.prog) _ 36 9 5 ⟨wr.heap.size, 0, none⟩ 1 [dg j] Try.underlying36 Try.underlying5 Try.underlying9 (fun i hi => by
          obtain rfl : i = 0 := by simpa using hi
          obtain ⟨_, kv, _⟩ := alloc_facts (w := wr) (cs := #[.int .u8 (48 + (j : Int) % 10)]) (t := 5) rfl
          show World.cell? _ ⟨wr.heap.size, 0, none⟩ = _
          rw [kv.2.1 0 _ rfl]
          simp [dg_toNat])
      have HS : Hid (digT (j / 10) (⟨#[dg j]⟩ ++ q) = digT k ByteArray.empty) := Lib.hid (by rw [← H.out]; conv => rhs; rw [digT, if_neg (by omega)])
      have hsz : (⟨#[dg j]⟩ : ByteArray).size + q.size ≤ 10 := by show 1 + q.size ≤ 10; omega
      go_wp2_with (fail)
      go_roundw
      case rel => exact ⟨j / 10, ⟨#[dg j]⟩ ++ q, by rw [dg_size]; omega, by rw [dg_size]; exact HJ.out, by go_num, rfl, bth hb (by go_grown), HS⟩
      case measure => simp [intOf]; omega
    · obtain rfl : j = 0 := by omega
      have hsz : (⟨#[109]⟩ : ByteArray).size + q.size ≤ 11 := by show 1 + q.size ≤ 11; omega
      go_wp2_with (fail)
      go_ret
      exact ⟨by have := H.out; rw [digT, if_pos rfl] at this; unfold mtx; rw [← this]; rfl, hb⟩
theorem markTxZ (z : Int) (k : Nat) (w : World) (hz : z = (k : Int)) (h0 : 0 < k) (h1 : k ≤ 1000000000) :
    Calls Try.prog 40 #[.int .i64 z] w fun e w' => e = .returned (.string (mtx k)) ∧ Below w.heap.size w w' := by subst hz; exact markTx k w h0 h1
theorem OnlyG.refl (A : Option Addr) (n : Nat) (w : World) : OnlyG A n w w := ⟨rfl, rfl, rfl, Nat.le_refl _, fun _ _ _ => rfl⟩
theorem OnlyG.only {A : Option Addr} {n : Nat} {w a b : World} (h : OnlyG A n w a) (k : OnlyN A n a b) : OnlyG A n w b :=
  ⟨k.os.trans h.os, k.tape.trans h.tape, k.output.trans h.output, by rw [k.size]; exact h.size, fun i hi hne => (k.block i hne).trans (h.block i hi hne)⟩
theorem OnlyG.bel {A : Option Addr} {n : Nat} {w a b : World} (h : OnlyG A n w a) (k : Below a.heap.size a b) : OnlyG A n w b :=
  ⟨k.os.trans h.os, k.tape.trans h.tape, k.output.trans h.output, Nat.le_trans h.size k.size, fun i hi hne => (k.block i (Nat.lt_of_lt_of_le hi h.size)).trans (h.block i hi hne)⟩
theorem setCell_id {w : World} {g i : Nat} {v : Value} (h : w.cell? ⟨g, i, none⟩ = some v) : w.setCell ⟨g, i, none⟩ v = w := by
  unfold World.setCell
  have : (w.heap.modify g fun
      | .cells c elem frozen => .cells (if (none : Option Nat).isSome then c else c.setIfInBounds i v) elem frozen
      | o => o) = w.heap := by
    apply Array.ext (by simp)
    intro j h1 h2
    rw [Array.getElem_modify]
    split
    · rename_i e
      subst e
      unfold World.cell? at h
      rw [Array.getElem?_eq_getElem h2] at h
      generalize w.heap[g] = o at h ⊢
      cases o with
      | cells c t f =>
        have hc : c[i]? = some v := by simpa using h
        simp only [Option.isSome_none, Bool.false_eq_true, if_false]
        congr 1
        apply Array.ext (by simp)
        intro m p1 p2
        rw [Array.getElem_setIfInBounds]
        split
        · rename_i e; subst e; rw [Array.getElem?_eq_getElem p2] at hc; exact (Option.some.inj hc).symm
        · rfl
      | _ => rfl
    · rfl
  cases w
  simp only [World.mk.injEq, and_true]
  exact this
theorem Sl.past {α : Type} {K : Nat} {enc : α → List Value} {w : World} {g k o : Nat} {l : List α} (v : Value) (h : Sl K enc w (some ⟨g, 0, none⟩) l) (hl : l.length = k) (ho : k * K ≤ o) (hK : ∀ x, (enc x).length = K) :
    Sl K enc (w.setCell ⟨g, o, none⟩ v) (some ⟨g, 0, none⟩) l := by
  intro h0
  obtain ⟨b, off, e, hlt, hc⟩ := h h0
  refine ⟨b, off, e, by rw [World.size_setCell]; exact hlt, fun i x hx j u hu => ?_⟩
  injection e with e; injection e with e1 e2
  subst e1 e2
  have hj : j < K := by rw [← hK x]; exact (List.getElem?_eq_some_iff.1 hu).1
  have hi : i < k := by rw [← hl]; exact (List.getElem?_eq_some_iff.1 hx).1
  have h1 : (i + 1) * K ≤ k * K := Nat.mul_le_mul_right K hi
  rw [Nat.succ_mul] at h1
  show (w.setCells g o [v]).cell? _ = _
  rw [World.cell?_setCells_out g [v] o w _ (fun _ _ => by show 0 + i * K + j < o ∨ o + [v].length ≤ 0 + i * K + j; omega)]
  exact hc i x hx j u hu
def Cr.mk_ (n : Nat) : List Cr := (List.range n).map fun (i : Nat) => ⟨1 + (i : Int) * 7, mtx (i * 7 + 2), 1 + (i : Int) * 7 + 2, 1 + (i : Int) * 7 + 3, 1 + (i : Int) * 7 + 4, 1 + (i : Int) * 7 + 5, 1 + (i : Int) * 7 + 6⟩
theorem Cr.mk_length (n : Nat) : (Cr.mk_ n).length = n := by simp [Cr.mk_]
theorem Cr.mk_get {n m : Nat} (h : m < (Cr.mk_ n).length) : (Cr.mk_ n)[m] = ⟨1 + (m : Int) * 7, mtx (m * 7 + 2), 1 + (m : Int) * 7 + 2, 1 + (m : Int) * 7 + 3, 1 + (m : Int) * 7 + 4, 1 + (m : Int) * 7 + 5, 1 + (m : Int) * 7 + 6⟩ := by simp [Cr.mk_]
theorem markCrS (A : Option Addr) (c n : Nat) (w : World) (h : Own 7 w A n) (hn : n ≤ 1048576) :
    Calls Try.prog 12 #[.slice A n c, .int .i64 1] w fun e w' => e = .returned (.int .i64 (1 + (n : Int) * 7)) ∧ OnlyG A n w w' ∧ Sl 7 Cr.enc w' A (Cr.mk_ n) ∧ Own 7 w' A n := by
  go_enter Try.func12, Try.ntmps12
  go_wp2
  go_loopw [1, 5] (fun t i wr => ∃ k : Nat, k ≤ n ∧ i = .int .i64 k ∧ t = .int .i64 (1 + (k : Int) * 7) ∧ OnlyG A n w wr ∧ Sl 7 Cr.enc wr A ((Cr.mk_ n).take k) ∧ Own 7 wr A n) (fun _ i _ => n - (intOf i).toNat)
  case atStart => exact ⟨0, Nat.zero_le _, rfl, by go_num, OnlyG.refl _ _ _, Sl.nil, h⟩
  case round =>
    obtain ⟨k, hk, rfl, rfl, ho, hs, hA⟩ := hrel
    by_cases hlt : k < n
    · obtain ⟨g, rfl, hA'⟩ := hA (by omega)
      have hlk : k < (Cr.mk_ n).length := by rw [Cr.mk_length]; exact hlt
      obtain ⟨v0, g0⟩ := hA'.2.1 (k * 7) (by omega)
      have f0 := hA'.2.2 (k * 7)
      have hlen : ((Cr.mk_ n).take k).length = k := by simp; omega
      go_wp2_with (fail)
      generalize hW : World.setCell wr _ _ = W1
      have A1 : Ar W1 g (n * 7) := by rw [← hW]; exact hA'.put [.int .i64 (1 + (k : Int) * 7)] (k * 7) (by show k * 7 + 1 ≤ _; omega)
      have o1 : OnlyG (some ⟨g, 0, none⟩) n w W1 := by rw [← hW]; exact ho.only ((OnlyN.refl _ _ _).put (by omega) [.int .i64 (1 + (k : Int) * 7)] (k * 7))
      have s1 : Sl 7 Cr.enc W1 (some ⟨g, 0, none⟩) ((Cr.mk_ n).take k) := by rw [← hW]; exact hs.past _ hlen (Nat.le_refl _) Cr.len
      have z1 : W1.cell? ⟨g, k * 7, none⟩ = some (.int .i64 (1 + (k : Int) * 7)) := by rw [← hW]; exact World.cell?_setCell_same' _ _ _ (by rw [g0]; rfl)
      clear hW g0 f0 hA' ho hs hA
      refine (markTxZ _ (k * 7 + 2) _ (by omega) (by omega) (by omega)).mono ?_; rintro e w2 ⟨rfl, b2⟩
      have A2 := A1.below b2
      have o2 := o1.bel b2
      have s2 := s1.below b2
      have z2 := (b2.cell (p := ⟨g, k * 7, none⟩) A1.1).trans z1
      clear A1 o1 s1 z1
      obtain ⟨v1, g1⟩ := A2.2.1 (k * 7 + 1) (by omega)
      obtain ⟨v2, g2⟩ := A2.2.1 (k * 7 + 2) (by omega)
      obtain ⟨v3, g3⟩ := A2.2.1 (k * 7 + 3) (by omega)
      obtain ⟨v4, g4⟩ := A2.2.1 (k * 7 + 4) (by omega)
      obtain ⟨v5, g5⟩ := A2.2.1 (k * 7 + 5) (by omega)
      obtain ⟨v6, g6⟩ := A2.2.1 (k * 7 + 6) (by omega)
      have f1 := A2.2.2 (k * 7 + 1)
      have f2 := A2.2.2 (k * 7 + 2)
      have f3 := A2.2.2 (k * 7 + 3)
      have f4 := A2.2.2 (k * 7 + 4)
      have f5 := A2.2.2 (k * 7 + 5)
      have f6 := A2.2.2 (k * 7 + 6)
      have Q1 := s2.put (by rw [Cr.mk_length]; exact A2) hlk Cr.len
      rw [Cr.mk_get] at Q1
      have Q2 := A2.put (Cr.enc ⟨1 + (k : Int) * 7, mtx (k * 7 + 2), 1 + (k : Int) * 7 + 2, 1 + (k : Int) * 7 + 3, 1 + (k : Int) * 7 + 4, 1 + (k : Int) * 7 + 5, 1 + (k : Int) * 7 + 6⟩) (k * 7) (by show k * 7 + 7 ≤ _; omega)
      have Q3 := o2.only ((OnlyN.refl _ _ _).put (by omega) (Cr.enc ⟨1 + (k : Int) * 7, mtx (k * 7 + 2), 1 + (k : Int) * 7 + 2, 1 + (k : Int) * 7 + 3, 1 + (k : Int) * 7 + 4, 1 + (k : Int) * 7 + 5, 1 + (k : Int) * 7 + 6⟩) (k * 7))
      simp only [Cr.enc, World.setCells, Nat.add_assoc, Nat.reduceAdd, setCell_id z2] at Q1 Q2 Q3
      have Q := Lib.hid (And.intro Q1 (And.intro Q2 Q3))
      clear Q1 Q2 Q3 z2
      go_wp2_with (fail)
      go_roundw
      case rel => exact ⟨k + 1, by omega, by go_num, by go_num, Q.out.2.2, Q.out.1, fun _ => ⟨g, rfl, Q.out.2.1⟩⟩
      case measure => simp [intOf]; omega
    · obtain rfl : k = n := by omega
      go_wp2
      go_ret
      exact ⟨rfl, ho, by rwa [List.take_of_length_le (by rw [Cr.mk_length]; omega)] at hs, hA⟩
theorem heldCrS (A : Option Addr) (c n : Nat) (w : World) (h : Sl 7 Cr.enc w A (Cr.mk_ n)) (hn : n ≤ 1048576) :
    Calls Try.prog 17 #[.slice A n c, .int .i64 1] w fun e w' => e = .returned (.int .i64 (1 + (n : Int) * 7)) ∧ Below w.heap.size w w' := by
  go_enter Try.func17, Try.ntmps17
  go_wp2
  go_loopw [1, 5] (fun t i wr => ∃ k : Nat, k ≤ n ∧ i = .int .i64 k ∧ t = .int .i64 (1 + (k : Int) * 7) ∧ Below w.heap.size w wr) (fun _ i _ => n - (intOf i).toNat)
  case atStart => exact ⟨0, Nat.zero_le _, rfl, by go_num, Below.refl _ _⟩
  case round =>
    obtain ⟨k, hk, rfl, rfl, hb⟩ := hrel
    by_cases hlt : k < n
    · have hlk : k < (Cr.mk_ n).length := by rw [Cr.mk_length]; exact hlt
      obtain ⟨b, off, rfl⟩ := h.addr (by omega)
      have hbb := h.below hb
      obtain ⟨hbl, c0, c1, c2, c3, c4, c5, c6⟩ := Cr.get hbb hlk
      simp only [Cr.mk_get] at c0 c1 c2 c3 c4 c5 c6
      have hA := aft_cell hbl
      have y1 : (0 : Int) ≤ (k : Int) := by omega
      have y2 : (k : Int) < (n : Int) := by omega
      have MT := Lib.hid (fun W => markTxZ (1 + (k : Int) * 7 + 1) (k * 7 + 2) W (by omega) (by omega) (by omega))
      go_wp2_with (fail)
      refine wp_region_aft (by kernel_rfl) (by kernel_rfl) ?_
      repeat (go_big_quiet_step ((go_at_call 40; exact Aft.calls _ (MT.out _))))
      refine wpQuiet_nil ?_
      intro w9 b9
      obtain ⟨hbl2, d0, d1, d2, d3, d4, d5, d6⟩ := Cr.get (hbb.below b9) hlk
      simp only [Cr.mk_get] at d0 d1 d2 d3 d4 d5 d6
      clear c0 c1 c2 c3 c4 c5 c6 hA MT hbl
      go_wp2_with (fail)
      go_roundw
      case rel => exact ⟨k + 1, by omega, by go_num, by go_num, bth hb b9⟩
      case measure => simp [intOf]; omega
    · obtain rfl : k = n := by omega
      go_wp2
      go_ret
      exact ⟨rfl, hb⟩
end Go.Proofs.Ytanmkjjclpplkaa
