/- Words for layers, and the helpers of the laws at layers and at ints: copies, comparisons, sizes, marks. Lists of at most 1048576 elements. -/
import Derived.Test.YtljpmccnppplgaaProg
import Derived.Test.YtljpmccnppplgaaBase
set_option linter.unusedVariables false
set_option linter.unusedSimpArgs false
namespace Go.Proofs.Ytljpmccnppplgaa
open Go.RowKit
set_option maxHeartbeats 400000
structure St where
  thick : Int
  speed : Int
def St.enc (x : St) : List Value := [.int .i64 x.thick, .int .i64 x.speed]
theorem St.len (x : St) : x.enc.length = 2 := rfl
theorem St.one (x : St) : ∀ u ∈ x.enc, u.oneCell' = true := by intro u hu; simp [St.enc] at hu; rcases hu with rfl | rfl <;> rfl
instance : Inhabited St := ⟨⟨0, 0⟩⟩
theorem St.get {w : World} {b off : Nat} {l : List St} (h : Sl 2 St.enc w (some ⟨b, off, none⟩) l) {k : Nat} (hk : k < l.length) :
    b < w.heap.size ∧ w.cell? ⟨b, off + k * 2, none⟩ = some (.int .i64 l[k].thick) ∧ w.cell? ⟨b, off + k * 2 + 1, none⟩ = some (.int .i64 l[k].speed) := by
  obtain ⟨hlt, hc⟩ := Sl.get h hk
  exact ⟨hlt, hc 0 _ rfl, hc 1 _ rfl⟩
theorem toSt (x : St) (w : World) :
    Calls Try.prog 52 #[.agg #[.int .i64 x.thick, .int .i64 x.speed]] w fun e w' => e = .returned (.agg #[.int .i64 x.thick, .int .i64 x.speed]) ∧ Below w.heap.size w w' := by
  go_enter Try.func52, Try.ntmps52
  go_wp2
  go_returns
  exact ⟨rfl, by go_grown⟩
theorem infoSt : (Try.prog.info? 52).map (fun i => (i.zero, i.size, i.bytes)) = some (some (.agg #[.int .i64 0, .int .i64 0]), 2, 16) := by kernel_rfl
set_option maxHeartbeats 1000000 in
theorem toStS (A : Option Addr) (c : Nat) (l : List St) (w : World) (h : Sl 2 St.enc w A l) (hn : l.length ≤ 1048576) :
    Calls Try.prog 16 #[.slice A l.length c] w fun e w' => ∃ g, e = .returned (.slice (some ⟨g, 0, none⟩) l.length l.length) ∧ Mk 2 St.enc w w' g l := by
  have hmk := fun W => run_make_rows (P := Try.prog) 25 52 _ 2 16 Try.underlying25 infoSt l.length (by omega) (by omega) W
  go_enter Try.func16, Try.ntmps16
  go_wp2
  generalize hW : World.alloc w _ = W1
  obtain ⟨hbW, hA, _⟩ := made_facts hW
  clear hW
  go_loopw [4] (fun i wr => ∃ k : Nat, k ≤ l.length ∧ i = .int .i64 k ∧ Below w.heap.size w wr ∧ Sl 2 St.enc wr (some ⟨w.heap.size, 0, none⟩) (l.take k) ∧ Ar wr w.heap.size (l.length * 2)) (fun i _ => l.length - (intOf i).toNat)
  case atStart => exact ⟨0, Nat.zero_le _, rfl, hbW, Sl.nil, hA⟩
  case round =>
    obtain ⟨k, hk, rfl, hb, hs, hA⟩ := hrel
    by_cases hlt : k < l.length
    · obtain ⟨b, off, rfl⟩ := h.addr (by omega)
      obtain ⟨hbl, c0, c1⟩ := St.get (h.below hb) hlt
      go_wp2_with (fail)
      refine (toSt l[k] _).mono ?_
      rintro e w' ⟨rfl, hb'⟩
      have hA' := hA.below hb'
      have hs' := hs.below hb'
      obtain ⟨v0, g0⟩ := hA'.2.1 (k * 2) (by omega)
      have f0 := hA'.2.2 (k * 2)
      obtain ⟨v1, g1⟩ := hA'.2.1 (k * 2 + 1) (by omega)
      have f1 := hA'.2.2 (k * 2 + 1)
      go_wp2_with (fail)
      go_roundw
      case rel => exact ⟨k + 1, by omega, by go_num, bset (bth hb hb') (Nat.le_refl _) (St.enc l[k]) (k * 2), hs'.put hA' hlt (fun _ => rfl), hA'.put (St.enc l[k]) (k * 2) (by show k * 2 + 2 ≤ _; omega)⟩
      case measure => simp [intOf]; omega
    · obtain rfl : k = l.length := by omega
      go_wp2
      go_ret
      exact ⟨_, rfl, Nat.le_refl _, hb, by rwa [List.take_length] at hs, hA⟩
theorem eqSt (x : St) (w : World) :
    Calls Try.prog 54 #[.agg #[.int .i64 x.thick, .int .i64 x.speed], .agg #[.int .i64 x.thick, .int .i64 x.speed]] w fun e w' => e = .returned (.bool true) ∧ Below w.heap.size w w' := by
  go_enter Try.func54, Try.ntmps54
  go_wp2
  go_ret
  exact ⟨rfl, by go_grown⟩
set_option maxHeartbeats 1000000 in
theorem eqStS (A B : Option Addr) (c d : Nat) (l : List St) (w : World) (h : Sl 2 St.enc w A l) (h2 : Sl 2 St.enc w B l) (hn : l.length ≤ 1048576) :
    Calls Try.prog 18 #[.slice A l.length c, .slice B l.length d] w fun e w' => e = .returned (.bool true) ∧ Below w.heap.size w w' := by
  go_enter Try.func18, Try.ntmps18
  go_wp2
  go_loopw [5] (fun i wr => ∃ k : Nat, k ≤ l.length ∧ i = .int .i64 k ∧ Below w.heap.size w wr) (fun i _ => l.length - (intOf i).toNat)
  case atStart => exact ⟨0, Nat.zero_le _, rfl, Below.refl _ _⟩
  case round =>
    obtain ⟨k, hk, rfl, hb⟩ := hrel
    by_cases hlt : k < l.length
    · obtain ⟨b, off, rfl⟩ := h.addr (by omega)
      obtain ⟨b', off', rfl⟩ := h2.addr (by omega)
      obtain ⟨hbl, c0, c1⟩ := St.get (h.below hb) hlt
      obtain ⟨hbl', d0, d1⟩ := St.get (h2.below hb) hlt
      go_wp2_with (fail)
      go_still_tail 8, (by kernel_rfl)
      change wpList _ _ _ _ _ wr.drew
      have hb' := hb.drew
      generalize wr.drew = w2 at hb' ⊢
      go_wp2_with (fail)
      refine (eqSt _ _).mono ?_; rintro e w3 ⟨rfl, hb3⟩
      go_wp2_with (fail)
      go_roundw
      case rel => exact ⟨k + 1, by omega, by go_num, bth hb' hb3⟩
      case measure => simp [intOf]; omega
    · go_wp2
      go_ret
      exact ⟨rfl, hb⟩
theorem szStYes (A : Option Addr) (c n : Nat) (w : World) (hn : n ≤ 1048576) :
    Calls Try.prog 14 #[.slice A n c, .int .i64 1048576] w fun e w' => e = .returned (.int .i64 (1048576 - n)) ∧ w = w' := by
  have h1 : ¬ (1048576 - (n : Int) < 0) := by omega
  go_enter Try.func14, Try.ntmps14
  go_wp2
  go_ret
  exact ⟨rfl, rfl⟩
theorem szStNo (A : Option Addr) (c n : Nat) (w : World) (hn : 1048576 < n) (hm : n ≤ 9223372036854775807) :
    Calls Try.prog 14 #[.slice A n c, .int .i64 1048576] w fun e w' => e = .returned (.int .i64 (-1)) ∧ w = w' := by
  have h1 : 1048576 - (n : Int) < 0 := by omega
  go_enter Try.func14, Try.ntmps14
  go_wp2
  go_ret
  exact ⟨rfl, rfl⟩
def St.mk_ (n : Nat) : List St := (List.range n).map fun (i : Nat) => ⟨1 + (i : Int) * 2, 1 + (i : Int) * 2 + 1⟩
theorem St.mk_length (n : Nat) : (St.mk_ n).length = n := by simp [St.mk_]
theorem St.mk_get {n m : Nat} (h : m < (St.mk_ n).length) : (St.mk_ n)[m] = ⟨1 + (m : Int) * 2, 1 + (m : Int) * 2 + 1⟩ := by simp [St.mk_]
set_option maxHeartbeats 1000000 in
theorem markStS (A : Option Addr) (c n : Nat) (w : World) (h : Own 2 w A n) (hn : n ≤ 1048576) :
    Calls Try.prog 30 #[.slice A n c, .int .i64 1] w fun e w' => e = .returned (.int .i64 (1 + (n : Int) * 2)) ∧ OnlyN A n w w' ∧ Sl 2 St.enc w' A (St.mk_ n) ∧ Own 2 w' A n := by
  go_enter Try.func30, Try.ntmps30
  go_wp2
  go_loopw [1, 5] (fun t i wr => ∃ k : Nat, k ≤ n ∧ i = .int .i64 k ∧ t = .int .i64 (1 + (k : Int) * 2) ∧ OnlyN A n w wr ∧ Sl 2 St.enc wr A ((St.mk_ n).take k) ∧ Own 2 wr A n) (fun _ i _ => n - (intOf i).toNat)
  case atStart => exact ⟨0, Nat.zero_le _, rfl, by go_num, OnlyN.refl _ _ _, Sl.nil, h⟩
  case round =>
    obtain ⟨k, hk, rfl, rfl, ho, hs, hA⟩ := hrel
    by_cases hlt : k < n
    · obtain ⟨g, rfl, hA'⟩ := hA (by omega)
      have hlk : k < (St.mk_ n).length := by rw [St.mk_length]; exact hlt
      obtain ⟨v0, g0⟩ := hA'.2.1 (k * 2) (by omega)
      have f0 := hA'.2.2 (k * 2)
      obtain ⟨v1, g1⟩ := hA'.2.1 (k * 2 + 1) (by omega)
      have f1 := hA'.2.2 (k * 2 + 1)
      have P := Lib.hid (hs.put (by rw [St.mk_length]; exact hA') hlk (fun _ => rfl))
      rw [St.mk_get] at P
      go_wp2_with (fail)
      go_roundw
      case rel => exact ⟨k + 1, by omega, by go_num, by go_num, ho.put (by omega) (St.enc ⟨1 + (k : Int) * 2, 1 + (k : Int) * 2 + 1⟩) (k * 2), P.out, fun _ => ⟨g, rfl, hA'.put (St.enc ⟨1 + (k : Int) * 2, 1 + (k : Int) * 2 + 1⟩) (k * 2) (by show k * 2 + 2 ≤ _; omega)⟩⟩
      case measure => simp [intOf]; omega
    · obtain rfl : k = n := by omega
      go_wp2
      go_ret
      exact ⟨rfl, ho, by rwa [List.take_of_length_le (by rw [St.mk_length]; omega)] at hs, hA⟩
set_option maxHeartbeats 1000000 in
theorem heldStS (A : Option Addr) (c n : Nat) (w : World) (h : Sl 2 St.enc w A (St.mk_ n)) (hn : n ≤ 1048576) :
    Calls Try.prog 35 #[.slice A n c, .int .i64 1] w fun e w' => e = .returned (.int .i64 (1 + (n : Int) * 2)) ∧ w = w' := by
  go_enter Try.func35, Try.ntmps35
  go_wp2
  go_loop [1, 5] (fun t i => ∃ k : Nat, k ≤ n ∧ i = .int .i64 k ∧ t = .int .i64 (1 + (k : Int) * 2)) (fun _ i => n - (intOf i).toNat)
  case atStart => exact ⟨0, Nat.zero_le _, rfl, by go_num⟩
  case round =>
    obtain ⟨k, hk, rfl, rfl⟩ := hrel
    by_cases hlt : k < n
    · have hlk : k < (St.mk_ n).length := by rw [St.mk_length]; exact hlt
      obtain ⟨b, off, rfl⟩ := h.addr (by omega)
      obtain ⟨hbl, c0, c1⟩ := St.get h hlk
      simp only [St.mk_get] at c0 c1
      go_wp2
      go_round
      case rel => exact ⟨k + 1, by omega, by go_num, by go_num⟩
      case measure => simp [intOf]; omega
    · obtain rfl : k = n := by omega
      go_wp2
      go_ret
      exact ⟨rfl, rfl⟩
end Go.Proofs.Ytljpmccnppplgaa
