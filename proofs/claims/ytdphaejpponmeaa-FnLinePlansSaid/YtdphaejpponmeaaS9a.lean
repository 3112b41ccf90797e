/- Words for survey lines, and the helpers of the laws at lines: copies, comparisons, sizes, marks. Lists of at most 1048576 elements. -/
import Derived.Test.YtdphaejpponmeaaProg
import Derived.Test.YtdphaejpponmeaaBase
set_option linter.unusedVariables false
set_option linter.unusedSimpArgs false
namespace Go.Proofs.Ytdphaejpponmeaa
open Go.RowKit
set_option maxHeartbeats 400000
set_option maxRecDepth 100000
structure Ln where
  id : Int
  y : Int
  frm : Int
  to : Int
  swath : Int
def Ln.enc (x : Ln) : List Value := [.int .i64 x.id, .int .i64 x.y, .int .i64 x.frm, .int .i64 x.to, .int .i64 x.swath]
theorem Ln.len (x : Ln) : x.enc.length = 5 := rfl
theorem Ln.one (x : Ln) : ∀ u ∈ x.enc, u.oneCell' = true := by intro u hu; simp [Ln.enc] at hu; rcases hu with rfl | rfl | rfl | rfl | rfl <;> rfl
instance : Inhabited Ln := ⟨⟨0, 0, 0, 0, 0⟩⟩
theorem Ln.get {w : World} {b off : Nat} {l : List Ln} (h : Sl 5 Ln.enc w (some ⟨b, off, none⟩) l) {k : Nat} (hk : k < l.length) :
    b < w.heap.size ∧ w.cell? ⟨b, off + k * 5, none⟩ = some (.int .i64 l[k].id) ∧ w.cell? ⟨b, off + k * 5 + 1, none⟩ = some (.int .i64 l[k].y) ∧ w.cell? ⟨b, off + k * 5 + 2, none⟩ = some (.int .i64 l[k].frm) ∧ w.cell? ⟨b, off + k * 5 + 3, none⟩ = some (.int .i64 l[k].to) ∧ w.cell? ⟨b, off + k * 5 + 4, none⟩ = some (.int .i64 l[k].swath) := by
  obtain ⟨hlt, hc⟩ := Sl.get h hk
  exact ⟨hlt, hc 0 _ rfl, hc 1 _ rfl, hc 2 _ rfl, hc 3 _ rfl, hc 4 _ rfl⟩
theorem toLn (x : Ln) (w : World) :
    Calls Try.prog 68 #[.agg #[.int .i64 x.id, .int .i64 x.y, .int .i64 x.frm, .int .i64 x.to, .int .i64 x.swath]] w fun e w' => e = .returned (.agg #[.int .i64 x.id, .int .i64 x.y, .int .i64 x.frm, .int .i64 x.to, .int .i64 x.swath]) ∧ Below w.heap.size w w' := by
  go_enter Try.func68, Try.ntmps68
  go_wp2
  go_returns
  exact ⟨rfl, by go_grown⟩
theorem infoLn : (Try.prog.info? 61).map (fun i => (i.zero, i.size, i.bytes)) = some (some (.agg #[.int .i64 0, .int .i64 0, .int .i64 0, .int .i64 0, .int .i64 0]), 5, 40) := by kernel_rfl
set_option maxHeartbeats 1000000 in
theorem toLnS (A : Option Addr) (c : Nat) (l : List Ln) (w : World) (h : Sl 5 Ln.enc w A l) (hn : l.length ≤ 1048576) :
    Calls Try.prog 20 #[.slice A l.length c] w fun e w' => ∃ g, e = .returned (.slice (some ⟨g, 0, none⟩) l.length l.length) ∧ Mk 5 Ln.enc w w' g l := by
  have hmk := fun W => run_make_rows (P := Try.prog) 32 61 _ 5 40 Try.underlying32 infoLn l.length (by omega) (by omega) W
  go_enter Try.func20, Try.ntmps20
  go_wp2
  generalize hW : World.alloc w _ = W1
  obtain ⟨hbW, hA, _⟩ := made_facts hW
  clear hW
  go_loopw [4] (fun i wr => ∃ k : Nat, k ≤ l.length ∧ i = .int .i64 k ∧ Below w.heap.size w wr ∧ Sl 5 Ln.enc wr (some ⟨w.heap.size, 0, none⟩) (l.take k) ∧ Ar wr w.heap.size (l.length * 5)) (fun i _ => l.length - (intOf i).toNat)
  case atStart => exact ⟨0, Nat.zero_le _, rfl, hbW, Sl.nil, hA⟩
  case round =>
    obtain ⟨k, hk, rfl, hb, hs, hA⟩ := hrel
    by_cases hlt : k < l.length
    · obtain ⟨b, off, rfl⟩ := h.addr (by omega)
      obtain ⟨hbl, c0, c1, c2, c3, c4⟩ := Ln.get (h.below hb) hlt
      go_wp2_with (fail)
      refine (toLn l[k] _).mono ?_
      rintro e w' ⟨rfl, hb'⟩
      have hA' := hA.below hb'
      have hs' := hs.below hb'
      obtain ⟨v0, g0⟩ := hA'.2.1 (k * 5) (by omega)
      have f0 := hA'.2.2 (k * 5)
      obtain ⟨v1, g1⟩ := hA'.2.1 (k * 5 + 1) (by omega)
      have f1 := hA'.2.2 (k * 5 + 1)
      obtain ⟨v2, g2⟩ := hA'.2.1 (k * 5 + 2) (by omega)
      have f2 := hA'.2.2 (k * 5 + 2)
      obtain ⟨v3, g3⟩ := hA'.2.1 (k * 5 + 3) (by omega)
      have f3 := hA'.2.2 (k * 5 + 3)
      obtain ⟨v4, g4⟩ := hA'.2.1 (k * 5 + 4) (by omega)
      have f4 := hA'.2.2 (k * 5 + 4)
      go_wp2_with (fail)
      go_roundw
      case rel => exact ⟨k + 1, by omega, by go_num, bset (bth hb hb') (Nat.le_refl _) (Ln.enc l[k]) (k * 5), hs'.put hA' hlt (fun _ => rfl), hA'.put (Ln.enc l[k]) (k * 5) (by show k * 5 + 5 ≤ _; omega)⟩
      case measure => simp [intOf]; omega
    · obtain rfl : k = l.length := by omega
      go_wp2
      go_ret
      exact ⟨_, rfl, Nat.le_refl _, hb, by rwa [List.take_length] at hs, hA⟩
theorem eqLn (x : Ln) (w : World) :
    Calls Try.prog 70 #[.agg #[.int .i64 x.id, .int .i64 x.y, .int .i64 x.frm, .int .i64 x.to, .int .i64 x.swath], .agg #[.int .i64 x.id, .int .i64 x.y, .int .i64 x.frm, .int .i64 x.to, .int .i64 x.swath]] w fun e w' => e = .returned (.bool true) ∧ Below w.heap.size w w' := by
  go_enter Try.func70, Try.ntmps70
  go_wp2
  go_ret
  exact ⟨rfl, by go_grown⟩
set_option maxHeartbeats 1000000 in
theorem eqLnS (A B : Option Addr) (c d : Nat) (l : List Ln) (w : World) (h : Sl 5 Ln.enc w A l) (h2 : Sl 5 Ln.enc w B l) (hn : l.length ≤ 1048576) :
    Calls Try.prog 22 #[.slice A l.length c, .slice B l.length d] w fun e w' => e = .returned (.bool true) ∧ Below w.heap.size w w' := by
  go_enter Try.func22, Try.ntmps22
  go_wp2
  go_loopw [5] (fun i wr => ∃ k : Nat, k ≤ l.length ∧ i = .int .i64 k ∧ Below w.heap.size w wr) (fun i _ => l.length - (intOf i).toNat)
  case atStart => exact ⟨0, Nat.zero_le _, rfl, Below.refl _ _⟩
  case round =>
    obtain ⟨k, hk, rfl, hb⟩ := hrel
    by_cases hlt : k < l.length
    · obtain ⟨b, off, rfl⟩ := h.addr (by omega)
      obtain ⟨b', off', rfl⟩ := h2.addr (by omega)
      obtain ⟨hbl, c0, c1, c2, c3, c4⟩ := Ln.get (h.below hb) hlt
      obtain ⟨hbl', d0, d1, d2, d3, d4⟩ := Ln.get (h2.below hb) hlt
      go_wp2_with (fail)
      go_still_tail 8, (by kernel_rfl)
      change wpList _ _ _ _ _ wr.drew
      have hb' := hb.drew
      generalize wr.drew = w2 at hb' ⊢
      go_wp2_with (fail)
      refine (eqLn _ _).mono ?_; rintro e w3 ⟨rfl, hb3⟩
      go_wp2_with (fail)
      go_roundw
      case rel => exact ⟨k + 1, by omega, by go_num, bth hb' hb3⟩
      case measure => simp [intOf]; omega
    · go_wp2
      go_ret
      exact ⟨rfl, hb⟩
theorem szLnYes (A : Option Addr) (c n : Nat) (w : World) (hn : n ≤ 1048576) :
    Calls Try.prog 18 #[.slice A n c, .int .i64 1048576] w fun e w' => e = .returned (.int .i64 (1048576 - n)) ∧ w = w' := by
  have h1 : ¬ (1048576 - (n : Int) < 0) := by omega
  go_enter Try.func18, Try.ntmps18
  go_wp2
  go_ret
  exact ⟨rfl, rfl⟩
theorem szLnNo (A : Option Addr) (c n : Nat) (w : World) (hn : 1048576 < n) (hm : n ≤ 9223372036854775807) :
    Calls Try.prog 18 #[.slice A n c, .int .i64 1048576] w fun e w' => e = .returned (.int .i64 (-1)) ∧ w = w' := by
  have h1 : 1048576 - (n : Int) < 0 := by omega
  go_enter Try.func18, Try.ntmps18
  go_wp2
  go_ret
  exact ⟨rfl, rfl⟩
def Ln.mk_ (n : Nat) : List Ln := (List.range n).map fun (i : Nat) => ⟨1 + (i : Int) * 5, 1 + (i : Int) * 5 + 1, 1 + (i : Int) * 5 + 2, 1 + (i : Int) * 5 + 3, 1 + (i : Int) * 5 + 4⟩
theorem Ln.mk_length (n : Nat) : (Ln.mk_ n).length = n := by simp [Ln.mk_]
theorem Ln.mk_get {n m : Nat} (h : m < (Ln.mk_ n).length) : (Ln.mk_ n)[m] = ⟨1 + (m : Int) * 5, 1 + (m : Int) * 5 + 1, 1 + (m : Int) * 5 + 2, 1 + (m : Int) * 5 + 3, 1 + (m : Int) * 5 + 4⟩ := by simp [Ln.mk_]
set_option maxHeartbeats 1000000 in
theorem markLnS (A : Option Addr) (c n : Nat) (w : World) (h : Own 5 w A n) (hn : n ≤ 1048576) :
    Calls Try.prog 31 #[.slice A n c, .int .i64 1] w fun e w' => e = .returned (.int .i64 (1 + (n : Int) * 5)) ∧ OnlyN A n w w' ∧ Sl 5 Ln.enc w' A (Ln.mk_ n) ∧ Own 5 w' A n := by
  go_enter Try.func31, Try.ntmps31
  go_wp2
  go_loopw [1, 5] (fun t i wr => ∃ k : Nat, k ≤ n ∧ i = .int .i64 k ∧ t = .int .i64 (1 + (k : Int) * 5) ∧ OnlyN A n w wr ∧ Sl 5 Ln.enc wr A ((Ln.mk_ n).take k) ∧ Own 5 wr A n) (fun _ i _ => n - (intOf i).toNat)
  case atStart => exact ⟨0, Nat.zero_le _, rfl, by go_num, OnlyN.refl _ _ _, Sl.nil, h⟩
  case round =>
    obtain ⟨k, hk, rfl, rfl, ho, hs, hA⟩ := hrel
    by_cases hlt : k < n
    · obtain ⟨g, rfl, hA'⟩ := hA (by omega)
      have hlk : k < (Ln.mk_ n).length := by rw [Ln.mk_length]; exact hlt
      obtain ⟨v0, g0⟩ := hA'.2.1 (k * 5) (by omega)
      have f0 := hA'.2.2 (k * 5)
      obtain ⟨v1, g1⟩ := hA'.2.1 (k * 5 + 1) (by omega)
      have f1 := hA'.2.2 (k * 5 + 1)
      obtain ⟨v2, g2⟩ := hA'.2.1 (k * 5 + 2) (by omega)
      have f2 := hA'.2.2 (k * 5 + 2)
      obtain ⟨v3, g3⟩ := hA'.2.1 (k * 5 + 3) (by omega)
      have f3 := hA'.2.2 (k * 5 + 3)
      obtain ⟨v4, g4⟩ := hA'.2.1 (k * 5 + 4) (by omega)
      have f4 := hA'.2.2 (k * 5 + 4)
      have P := Lib.hid (hs.put (by rw [Ln.mk_length]; exact hA') hlk (fun _ => rfl))
      rw [Ln.mk_get] at P
      go_wp2_with (fail)
      go_roundw
      case rel => exact ⟨k + 1, by omega, by go_num, by go_num, ho.put (by omega) (Ln.enc ⟨1 + (k : Int) * 5, 1 + (k : Int) * 5 + 1, 1 + (k : Int) * 5 + 2, 1 + (k : Int) * 5 + 3, 1 + (k : Int) * 5 + 4⟩) (k * 5), P.out, fun _ => ⟨g, rfl, hA'.put (Ln.enc ⟨1 + (k : Int) * 5, 1 + (k : Int) * 5 + 1, 1 + (k : Int) * 5 + 2, 1 + (k : Int) * 5 + 3, 1 + (k : Int) * 5 + 4⟩) (k * 5) (by show k * 5 + 5 ≤ _; omega)⟩⟩
      case measure => simp [intOf]; omega
    · obtain rfl : k = n := by omega
      go_wp2
      go_ret
      exact ⟨rfl, ho, by rwa [List.take_of_length_le (by rw [Ln.mk_length]; omega)] at hs, hA⟩
set_option maxHeartbeats 1000000 in
theorem heldLnS (A : Option Addr) (c n : Nat) (w : World) (h : Sl 5 Ln.enc w A (Ln.mk_ n)) (hn : n ≤ 1048576) :
    Calls Try.prog 32 #[.slice A n c, .int .i64 1] w fun e w' => e = .returned (.int .i64 (1 + (n : Int) * 5)) ∧ w = w' := by
  go_enter Try.func32, Try.ntmps32
  go_wp2
  go_loop [1, 5] (fun t i => ∃ k : Nat, k ≤ n ∧ i = .int .i64 k ∧ t = .int .i64 (1 + (k : Int) * 5)) (fun _ i => n - (intOf i).toNat)
  case atStart => exact ⟨0, Nat.zero_le _, rfl, by go_num⟩
  case round =>
    obtain ⟨k, hk, rfl, rfl⟩ := hrel
    by_cases hlt : k < n
    · have hlk : k < (Ln.mk_ n).length := by rw [Ln.mk_length]; exact hlt
      obtain ⟨b, off, rfl⟩ := h.addr (by omega)
      obtain ⟨hbl, c0, c1, c2, c3, c4⟩ := Ln.get h hlk
      simp only [Ln.mk_get] at c0 c1 c2 c3 c4
      go_wp2
      go_round
      case rel => exact ⟨k + 1, by omega, by go_num, by go_num⟩
      case measure => simp [intOf]; omega
    · obtain rfl : k = n := by omega
      go_wp2
      go_ret
      exact ⟨rfl, rfl⟩
end Go.Proofs.Ytdphaejpponmeaa
