/- Words for craft, and the helpers of the laws at craft: copies, comparisons, sizes. Lists of at most 1048576 craft. -/
import Derived.Test.YtanmkjjclpplkaaProg
import Derived.Test.YtanmkjjclpplkaaAft
import Derived.Test.YtanmkjjclpplkaaOnlyG
set_option linter.unusedVariables false
set_option linter.unusedSimpArgs false
namespace Go.Proofs.Ytanmkjjclpplkaa
open Go.RowKit
set_option maxHeartbeats 1000000
set_option maxRecDepth 100000
structure Cr where
  id : Int
  name : ByteArray
  draught : Int
  ahead : Int
  beside : Int
  speed : Int
  fuel : Int
def Cr.enc (x : Cr) : List Value := [.int .i64 x.id, .string x.name, .int .i64 x.draught, .int .i64 x.ahead, .int .i64 x.beside, .int .i64 x.speed, .int .i64 x.fuel]
theorem Cr.len (x : Cr) : x.enc.length = 7 := rfl
theorem Cr.one (x : Cr) : ∀ u ∈ x.enc, u.oneCell' = true := by intro u hu; simp [Cr.enc] at hu; rcases hu with rfl | rfl | rfl | rfl | rfl | rfl | rfl <;> rfl
instance : Inhabited Cr := ⟨⟨0, default, 0, 0, 0, 0, 0⟩⟩
theorem Cr.get {w : World} {b off : Nat} {l : List Cr} (h : Sl 7 Cr.enc w (some ⟨b, off, none⟩) l) {k : Nat} (hk : k < l.length) :
    b < w.heap.size ∧ w.cell? ⟨b, off + k * 7, none⟩ = some (.int .i64 l[k].id) ∧ w.cell? ⟨b, off + k * 7 + 1, none⟩ = some (.string l[k].name) ∧ w.cell? ⟨b, off + k * 7 + 2, none⟩ = some (.int .i64 l[k].draught) ∧ w.cell? ⟨b, off + k * 7 + 3, none⟩ = some (.int .i64 l[k].ahead) ∧ w.cell? ⟨b, off + k * 7 + 4, none⟩ = some (.int .i64 l[k].beside) ∧ w.cell? ⟨b, off + k * 7 + 5, none⟩ = some (.int .i64 l[k].speed) ∧ w.cell? ⟨b, off + k * 7 + 6, none⟩ = some (.int .i64 l[k].fuel) := by
  obtain ⟨hlt, hc⟩ := Sl.get h hk
  exact ⟨hlt, hc 0 _ rfl, hc 1 _ rfl, hc 2 _ rfl, hc 3 _ rfl, hc 4 _ rfl, hc 5 _ rfl, hc 6 _ rfl⟩
theorem toCr (x : Cr) (w : World) :
    Calls Try.prog 36 #[.agg #[.int .i64 x.id, .string x.name, .int .i64 x.draught, .int .i64 x.ahead, .int .i64 x.beside, .int .i64 x.speed, .int .i64 x.fuel]] w fun e w' => e = .returned (.agg #[.int .i64 x.id, .string x.name, .int .i64 x.draught, .int .i64 x.ahead, .int .i64 x.beside, .int .i64 x.speed, .int .i64 x.fuel]) ∧ Below w.heap.size w w' := by
  go_enter Try.func36, Try.ntmps36
  go_wp2
  go_returns
  exact ⟨rfl, by go_grown⟩
theorem infoCr : (Try.prog.info? 41).map (fun i => (i.zero, i.size, i.bytes)) = some (some (.agg #[.int .i64 0, .string ByteArray.empty, .int .i64 0, .int .i64 0, .int .i64 0, .int .i64 0, .int .i64 0]), 7, 64) := by kernel_rfl
set_option maxHeartbeats 1000000 in
theorem toCrS (A : Option Addr) (c : Nat) (l : List Cr) (w : World) (h : Sl 7 Cr.enc w A l) (hn : l.length ≤ 1048576) :
    Calls Try.prog 8 #[.slice A l.length c] w fun e w' => ∃ g, e = .returned (.slice (some ⟨g, 0, none⟩) l.length l.length) ∧ Mk 7 Cr.enc w w' g l := by
  have hmk := fun W => run_make_rows (P := Try.prog) 27 41 _ 7 64 Try.underlying27 infoCr l.length (by omega) (by omega) W
  go_enter Try.func8, Try.ntmps8
  go_wp2
  generalize hW : World.alloc w _ = W1
  obtain ⟨hbW, hA, _⟩ := made_facts hW
  clear hW
  go_loopw [4] (fun i wr => ∃ k : Nat, k ≤ l.length ∧ i = .int .i64 k ∧ Below w.heap.size w wr ∧ Sl 7 Cr.enc wr (some ⟨w.heap.size, 0, none⟩) (l.take k) ∧ Ar wr w.heap.size (l.length * 7)) (fun i _ => l.length - (intOf i).toNat)
  case atStart => exact ⟨0, Nat.zero_le _, rfl, hbW, Sl.nil, hA⟩
  case round =>
    obtain ⟨k, hk, rfl, hb, hs, hA⟩ := hrel
    by_cases hlt : k < l.length
    · obtain ⟨b, off, rfl⟩ := h.addr (by omega)
      obtain ⟨hbl, c0, c1, c2, c3, c4, c5, c6⟩ := Cr.get (h.below hb) hlt
      go_wp2_with (fail)
      refine (toCr l[k] _).mono ?_
      rintro e w' ⟨rfl, hb'⟩
      have hA' := hA.below hb'
      have hs' := hs.below hb'
      obtain ⟨v0, g0⟩ := hA'.2.1 (k * 7) (by omega)
      have f0 := hA'.2.2 (k * 7)
      obtain ⟨v1, g1⟩ := hA'.2.1 (k * 7 + 1) (by omega)
      have f1 := hA'.2.2 (k * 7 + 1)
      obtain ⟨v2, g2⟩ := hA'.2.1 (k * 7 + 2) (by omega)
      have f2 := hA'.2.2 (k * 7 + 2)
      obtain ⟨v3, g3⟩ := hA'.2.1 (k * 7 + 3) (by omega)
      have f3 := hA'.2.2 (k * 7 + 3)
      obtain ⟨v4, g4⟩ := hA'.2.1 (k * 7 + 4) (by omega)
      have f4 := hA'.2.2 (k * 7 + 4)
      obtain ⟨v5, g5⟩ := hA'.2.1 (k * 7 + 5) (by omega)
      have f5 := hA'.2.2 (k * 7 + 5)
      obtain ⟨v6, g6⟩ := hA'.2.1 (k * 7 + 6) (by omega)
      have f6 := hA'.2.2 (k * 7 + 6)
      go_wp2_with (fail)
      go_roundw
      case rel => exact ⟨k + 1, by omega, by go_num, bset (bth hb hb') (Nat.le_refl _) (Cr.enc l[k]) (k * 7), hs'.put hA' hlt (fun _ => rfl), hA'.put (Cr.enc l[k]) (k * 7) (by show k * 7 + 7 ≤ _; omega)⟩
      case measure => simp [intOf]; omega
    · obtain rfl : k = l.length := by omega
      go_wp2
      go_ret
      exact ⟨_, rfl, Nat.le_refl _, hb, by rwa [List.take_length] at hs, hA⟩
theorem eqCr (x : Cr) (w : World) :
    Calls Try.prog 39 #[.agg #[.int .i64 x.id, .string x.name, .int .i64 x.draught, .int .i64 x.ahead, .int .i64 x.beside, .int .i64 x.speed, .int .i64 x.fuel], .agg #[.int .i64 x.id, .string x.name, .int .i64 x.draught, .int .i64 x.ahead, .int .i64 x.beside, .int .i64 x.speed, .int .i64 x.fuel]] w fun e w' => e = .returned (.bool true) ∧ Below w.heap.size w w' := by
  go_enter Try.func39, Try.ntmps39
  go_wp2
  go_ret
  exact ⟨rfl, by go_grown⟩
set_option maxHeartbeats 1000000 in
theorem eqCrS (A B : Option Addr) (c d : Nat) (l : List Cr) (w : World) (h : Sl 7 Cr.enc w A l) (h2 : Sl 7 Cr.enc w B l) (hn : l.length ≤ 1048576) :
    Calls Try.prog 11 #[.slice A l.length c, .slice B l.length d] w fun e w' => e = .returned (.bool true) ∧ Below w.heap.size w w' := by
  go_enter Try.func11, Try.ntmps11
  go_wp2
  go_loopw [5] (fun i wr => ∃ k : Nat, k ≤ l.length ∧ i = .int .i64 k ∧ Below w.heap.size w wr) (fun i _ => l.length - (intOf i).toNat)
  case atStart => exact ⟨0, Nat.zero_le _, rfl, Below.refl _ _⟩
  case round =>
    obtain ⟨k, hk, rfl, hb⟩ := hrel
    by_cases hlt : k < l.length
    · obtain ⟨b, off, rfl⟩ := h.addr (by omega)
      obtain ⟨b', off', rfl⟩ := h2.addr (by omega)
      obtain ⟨hbl, c0, c1, c2, c3, c4, c5, c6⟩ := Cr.get (h.below hb) hlt
      obtain ⟨hbl', d0, d1, d2, d3, d4, d5, d6⟩ := Cr.get (h2.below hb) hlt
      go_wp2_with (fail)
      go_still_tail 8, (by kernel_rfl)
      change wpList _ _ _ _ _ wr.drew
      have hb' := hb.drew
      generalize wr.drew = w2 at hb' ⊢
      go_wp2_with (fail)
      refine (eqCr _ _).mono ?_; rintro e w3 ⟨rfl, hb3⟩
      go_wp2_with (fail)
      go_roundw
      case rel => exact ⟨k + 1, by omega, by go_num, bth hb' hb3⟩
      case measure => simp [intOf]; omega
    · go_wp2
      go_ret
      exact ⟨rfl, hb⟩
theorem szCrYes (v : Cr) (q : Int) (w : World) (hq : q ≤ 1048576) (h : (v.name.size : Int) ≤ q) :
    Calls Try.prog 32 #[.agg #[.int .i64 v.id, .string v.name, .int .i64 v.draught, .int .i64 v.ahead, .int .i64 v.beside, .int .i64 v.speed, .int .i64 v.fuel], .int .i64 q] w fun e w' => e = .returned (.int .i64 (q - v.name.size)) ∧ Below w.heap.size w w' := by
  have h1 : ¬ (q - (v.name.size : Int) < 0) := by omega
  go_enter Try.func32, Try.ntmps32
  go_wp2
  go_ret
  exact ⟨rfl, by go_grown⟩
theorem szCrNo (v : Cr) (q : Int) (w : World) (hq : 0 ≤ q) (hn : v.name.size ≤ 9223372036854775807) (h : q < (v.name.size : Int)) :
    Calls Try.prog 32 #[.agg #[.int .i64 v.id, .string v.name, .int .i64 v.draught, .int .i64 v.ahead, .int .i64 v.beside, .int .i64 v.speed, .int .i64 v.fuel], .int .i64 q] w fun e w' => e = .returned (.int .i64 (-1)) ∧ Below w.heap.size w w' := by
  have h1 : q - (v.name.size : Int) < 0 := by omega
  go_enter Try.func32, Try.ntmps32
  go_wp2
  go_ret
  exact ⟨rfl, by go_grown⟩
/-- What the size of a list of craft says. -/
def szPostC (l : List Cr) (w : World) (e : Ending) (w' : World) : Prop := ∃ r : Int, e = .returned (.int .i64 r) ∧ Below w.heap.size w w' ∧ (0 ≤ r → r ≤ 1048576 ∧ l.length ≤ 1048576 ∧ ∀ k (hk : k < l.length), l[k].name.size ≤ 1048576)
theorem szCrS (A : Option Addr) (c : Nat) (l : List Cr) (w : World) (h : Sl 7 Cr.enc w A l) (hm : l.length ≤ 9223372036854775807) (hl : ∀ k (hk : k < l.length), l[k].name.size ≤ 9223372036854775807) :
    Calls Try.prog 6 #[.slice A l.length c, .int .i64 1048576] w (szPostC l w) := by
  have HL := Lib.hid hl
  clear hl
  by_cases hn : l.length ≤ 1048576
  · have h1 : ¬ (1048576 - (l.length : Int) < 0) := by omega
    go_enter Try.func6, Try.ntmps6
    go_wp2
    go_loopw [1, 5] (fun q i wr => ∃ k : Nat, ∃ r : Int, k ≤ l.length ∧ i = .int .i64 k ∧ q = .int .i64 r ∧ 0 ≤ r ∧ r ≤ 1048576 ∧ Below w.heap.size w wr ∧ Hid (∀ m (hm : m < l.length), m < k → l[m].name.size ≤ 1048576)) (fun _ i _ => l.length - (intOf i).toNat)
    case atStart => exact ⟨0, _, Nat.zero_le _, rfl, rfl, by omega, by omega, Below.refl _ _, (fun m _ hm => absurd hm (by omega) : ∀ m (hm : m < l.length), m < 0 → l[m].name.size ≤ 1048576)⟩
    case round =>
      obtain ⟨k, r, hk, rfl, rfl, hr0, hr1, hb, H⟩ := hrel
      by_cases hlt : k < l.length
      · obtain ⟨b, off, rfl⟩ := h.addr (by omega)
        obtain ⟨hbl, c0, c1, c2, c3, c4, c5, c6⟩ := Cr.get (h.below hb) hlt
        by_cases hz : (l[k].name.size : Int) ≤ r
        · have hz' : ¬ (r - (l[k].name.size : Int) < 0) := by omega
          go_wp2_with (go_at_call 32; refine (szCrYes l[k] r _ hr1 hz).mono ?_; rintro e w2 ⟨rfl, b2⟩)
          go_roundw
          case rel => exact ⟨k + 1, _, by omega, by go_num, rfl, by omega, by omega, bth hb b2, (fun m hm hm2 => by
            by_cases e : m = k
            · subst e; omega
            · exact H.out m hm (by omega) : ∀ m (hm : m < l.length), m < k + 1 → l[m].name.size ≤ 1048576)⟩
          case measure => simp [intOf]; omega
        · have HK := HL.out k hlt
          go_wp2_with (go_at_call 32; refine (szCrNo l[k] r _ hr0 HK (by omega)).mono ?_; rintro e w2 ⟨rfl, b2⟩)
          go_ret
          exact ⟨_, rfl, bth hb b2, fun hc => absurd hc (by omega)⟩
      · obtain rfl : k = l.length := by omega
        go_wp2
        go_ret
        exact ⟨_, rfl, hb, fun _ => ⟨hr1, hn, fun m hm => H.out m hm hm⟩⟩
  · have h1 : 1048576 - (l.length : Int) < 0 := by omega
    go_enter Try.func6, Try.ntmps6
    go_wp2
    go_ret
    exact ⟨_, rfl, Below.refl _ _, fun hc => absurd hc (by omega)⟩
end Go.Proofs.Ytanmkjjclpplkaa
