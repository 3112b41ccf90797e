/- Small functions of both texts on places and boxes: whether they are valid, whether a box has a place. No condition. -/
import Derived.Test.YtdphaejpponmeaaW1
import Derived.Test.YtdphaejpponmeaaAft
set_option linter.unusedVariables false
set_option linter.unusedSimpArgs false
namespace Go.Proofs.Ytdphaejpponmeaa
open Go.RowKit
set_option maxHeartbeats 2000000

theorem specGrid (n : Int) (w : World) :
    Calls Try.prog 91 #[.int .i64 n] w fun e w' => e = .returned (.bool (inB n 0 1000)) ∧ w = w' := by
  go_enter Try.func91, Try.ntmps91
  go_wp2_with (go_at_call 78; refine (specIn _ _ _ _).mono ?_; rintro e w' ⟨rfl, rfl⟩)
  go_ret
  exact ⟨rfl, rfl⟩
@[irreducible] def spOk (a b : Int) : Bool := inB a 0 1000 && inB b 0 1000
theorem spOk_def (a b : Int) : spOk a b = (inB a 0 1000 && inB b 0 1000) := by unfold spOk; rfl
theorem implSpot (a b : Int) (w : World) :
    Calls Try.prog 92 #[.agg #[.int .i64 a, .int .i64 b]] w fun e w' => e = .returned (.bool (spOk a b)) ∧ Below w.heap.size w w' := by
  go_enter Try.func92, Try.ntmps92
  go_wp2_with (go_at_call 69; refine (implIn _ _ _ _).mono ?_; rintro e w' ⟨rfl, rfl⟩)
  all_goals
    go_ret
    exact ⟨ret_bool (by rw [spOk_def]; simp [*]), by go_grown⟩
structure Bx where
  west : Int
  south : Int
  east : Int
  north : Int
def Bx.enc (x : Bx) : List Value := [.int .i64 x.west, .int .i64 x.south, .int .i64 x.east, .int .i64 x.north]
theorem Bx.len (x : Bx) : x.enc.length = 4 := rfl
theorem Bx.one (x : Bx) : ∀ u ∈ x.enc, u.oneCell' = true := by intro u hu; simp [Bx.enc] at hu; rcases hu with rfl | rfl | rfl | rfl <;> rfl
instance : Inhabited Bx := ⟨⟨0, 0, 0, 0⟩⟩
theorem Bx.get {w : World} {b off : Nat} {l : List Bx} (h : Sl 4 Bx.enc w (some ⟨b, off, none⟩) l) {k : Nat} (hk : k < l.length) :
    b < w.heap.size ∧ w.cell? ⟨b, off + k * 4, none⟩ = some (.int .i64 l[k].west) ∧ w.cell? ⟨b, off + k * 4 + 1, none⟩ = some (.int .i64 l[k].south) ∧ w.cell? ⟨b, off + k * 4 + 2, none⟩ = some (.int .i64 l[k].east) ∧ w.cell? ⟨b, off + k * 4 + 3, none⟩ = some (.int .i64 l[k].north) := by
  obtain ⟨hlt, hc⟩ := Sl.get h hk
  exact ⟨hlt, hc 0 _ rfl, hc 1 _ rfl, hc 2 _ rfl, hc 3 _ rfl⟩
theorem toBx (x : Bx) (w : World) :
    Calls Try.prog 16 #[.agg #[.int .i64 x.west, .int .i64 x.south, .int .i64 x.east, .int .i64 x.north]] w fun e w' => e = .returned (.agg #[.int .i64 x.west, .int .i64 x.south, .int .i64 x.east, .int .i64 x.north]) ∧ Below w.heap.size w w' := by
  go_enter Try.func16, Try.ntmps16
  go_wp2
  go_returns
  exact ⟨rfl, by go_grown⟩
@[irreducible] def bxOk (b : Bx) : Bool := inB b.west 0 1000 && inB b.south 0 1000 && inB b.east 0 1000 && inB b.north 0 1000 && decide (b.west ≤ b.east) && decide (b.south ≤ b.north)
theorem bxOk_def (b : Bx) : bxOk b = (inB b.west 0 1000 && inB b.south 0 1000 && inB b.east 0 1000 && inB b.north 0 1000 && decide (b.west ≤ b.east) && decide (b.south ≤ b.north)) := by unfold bxOk; rfl
theorem bxOk_sp (b : Bx) : bxOk b = (spOk b.west b.south && spOk b.east b.north && decide (b.west ≤ b.east) && decide (b.south ≤ b.north)) := by rw [bxOk_def, spOk_def, spOk_def]; simp only [Bool.and_assoc]
theorem bxOk_bd {b : Bx} (h : bxOk b = true) : 0 ≤ b.west ∧ b.west ≤ b.east ∧ b.east ≤ 1000 ∧ 0 ≤ b.south ∧ b.south ≤ b.north ∧ b.north ≤ 1000 := by
  rw [bxOk_def] at h
  simp only [Bool.and_eq_true, inB_true, decide_eq_true_eq] at h
  omega
theorem specBox (b : Bx) (w : World) :
    Calls Try.prog 59 #[.agg #[.int .i64 b.west, .int .i64 b.south, .int .i64 b.east, .int .i64 b.north]] w fun e w' => e = .returned (.bool (bxOk b)) ∧ Below w.heap.size w w' := by
  go_enter Try.func59, Try.ntmps59
  go_wp2_with (go_at_call 91; refine (specGrid _ _).mono ?_; rintro e w' ⟨rfl, rfl⟩)
  all_goals
    go_ret
    exact ⟨ret_bool (by rw [bxOk_def]; simp [*] <;> omega), by go_grown⟩
theorem implBox (b : Bx) (w : World) :
    Calls Try.prog 62 #[.agg #[.int .i64 b.west, .int .i64 b.south, .int .i64 b.east, .int .i64 b.north]] w fun e w' => e = .returned (.bool (bxOk b)) ∧ Below w.heap.size w w' := by
  go_enter Try.func62, Try.ntmps62
  go_wp2_with (fail)
  generalize hW : World.alloc w _ = W1
  obtain ⟨bW, kW, _⟩ := alloc_facts hW
  clear hW
  refine (implSpot _ _ _).mono ?_; rintro e w1 ⟨rfl, b1⟩
  have k1 := kW.below b1
  have m0 := k1.2.1 0 _ rfl
  have m1 := k1.2.1 1 _ rfl
  have m2 := k1.2.1 2 _ rfl
  have m3 := k1.2.1 3 _ rfl
  have b1 := bth bW b1
  cases g : spOk b.west b.south with
  | false =>
    have D := Lib.hid (show bxOk b = false by rw [bxOk_sp, g]; rfl)
    clear g
    go_wp2_with (fail)
    go_ret
    exact ⟨ret_bool D.out.symm, b1⟩
  | true =>
    have D := Lib.hid (show bxOk b = (spOk b.east b.north && decide (b.west ≤ b.east) && decide (b.south ≤ b.north)) by rw [bxOk_sp, g, Bool.true_and])
    clear g
    go_wp2_with (fail)
    refine (implSpot _ _ _).mono ?_; rintro e w2 ⟨rfl, b2⟩
    have k2 := k1.below b2
    clear m0 m1 m2 m3
    have m0 := k2.2.1 0 _ rfl
    have m1 := k2.2.1 1 _ rfl
    have m2 := k2.2.1 2 _ rfl
    have m3 := k2.2.1 3 _ rfl
    have b2 := bth b1 b2
    go_wp2_with (fail)
    all_goals
      go_ret
      exact ⟨ret_bool (by rw [D.out]; simp [*] <;> omega), b2⟩
@[irreducible] def inBx (b : Bx) (x y : Int) : Bool := inB x b.west b.east && inB y b.south b.north
theorem inBx_def (b : Bx) (x y : Int) : inBx b x y = (inB x b.west b.east && inB y b.south b.north) := by unfold inBx; rfl
/-- The square of a distance. -/
@[irreducible] def sqr (a b c d : Int) : Int := (a - c) * (a - c) + (b - d) * (b - d)
theorem sqr_def (a b c d : Int) : sqr a b c d = (a - c) * (a - c) + (b - d) * (b - d) := by unfold sqr; rfl
theorem sq_bd {a c : Int} (h1 : 0 ≤ a) (h2 : a ≤ 1000) (h3 : 0 ≤ c) (h4 : c ≤ 1000) : 0 ≤ (a - c) * (a - c) ∧ (a - c) * (a - c) ≤ 1000000 := by
  have h5 : -1000 ≤ a - c := by omega
  have h6 : a - c ≤ 1000 := by omega
  generalize a - c = d at *
  constructor
  · rcases Int.lt_or_le d 0 with h | h
    · have := Int.mul_nonneg_of_nonpos_of_nonpos (show d ≤ 0 by omega) (show d ≤ 0 by omega); omega
    · exact Int.mul_nonneg h h
  · have e1 := Int.mul_nonneg (show 0 ≤ 1000 - d by omega) (show 0 ≤ 1000 + d by omega)
    rw [show (1000 - d) * (1000 + d) = 1000000 - d * d by rw [Int.sub_mul, Int.mul_add, Int.mul_add, Int.mul_comm d 1000]; omega] at e1
    omega
theorem sqr_bd {a b c d : Int} (h1 : spOk a b = true) (h2 : spOk c d = true) : 0 ≤ sqr a b c d ∧ sqr a b c d ≤ 2000000 := by
  rw [spOk_def, Bool.and_eq_true, inB_true, inB_true] at h1 h2
  have := sq_bd (a := a) (c := c) (by omega) (by omega) (by omega) (by omega)
  have := sq_bd (a := b) (c := d) (by omega) (by omega) (by omega) (by omega)
  rw [sqr_def]; omega
end Go.Proofs.Ytdphaejpponmeaa
