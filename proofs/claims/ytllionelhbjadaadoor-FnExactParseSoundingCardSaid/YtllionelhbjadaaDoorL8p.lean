/- The law over ParseSounding as the program runs it: it returns true and changes nothing that was there, where the library's table, its greatest length and its errors read as its initialisers lay them. -/
import Derived.Test.YtllionelhbjadaaDoorU8d
set_option linter.unusedVariables false
set_option linter.unusedSimpArgs false
namespace Go.Proofs.YtllionelhbjadaaDoor
open Go.RowKit
set_option maxHeartbeats 4000000
set_option maxRecDepth 100000
theorem lawParse (s : ByteArray) (w : World) (hs : s.size ≤ 9223372036854775807) (R : RdOk w) :
    Calls Tryd.prog 4 #[.string s] w fun e w' => e = .returned (.bool true) ∧ Below w.heap.size w w' := by
  by_cases hl : s.size ≤ 1048576
  · have t1 : ¬ (1048576 : Int) < (s.size : Int) := by omega
    go_enter Tryd.func4, Tryd.ntmps4
    go_wp2_with (fail)
    refine (sParse s w (by omega)).mono ?_; rintro e w1 ⟨rfl, b1⟩
    have IP := fun (W : World) (hR : RdOk W) => iParse s W hl hR
    generalize psY s = y at *
    go_upto_region 4 with (fail)
    generalize hW : World.alloc w1 _ = W2
    have J : Bk W2 w1.heap.size (Sd.enc y) := by rw [← hW]; exact Bk.new w1 (Sd.enc y) _
    have b2 : Below w1.heap.size w1 W2 := by rw [← hW]; exact below_alloc _ _
    have B := bth b1 b2
    clear hW b1 b2
    generalize w1.heap.size = g at *
    go_wp2_with (fail)
    refine (IP _ (R.below B)).mono ?_; rintro e w3 ⟨rfl, b3⟩
    have J := J.below b3
    have B := bth B b3
    clear IP b3
    go_upto_region 5 with (fail)
    generalize hW : World.alloc w3 _ = W4
    have K : Bk W4 w3.heap.size (Sd.enc y) := by rw [← hW]; exact Bk.new w3 (Sd.enc y) _
    have b4 : Below w3.heap.size w3 W4 := by rw [← hW]; exact below_alloc _ _
    have J := J.below b4
    have B := bth B b4
    clear hW b4
    generalize w3.heap.size = g2 at *
    have j0 := J.2.1 0 _ rfl
    have j1 := J.2.1 1 _ rfl
    have j2 := J.2.1 2 _ rfl
    have j3 := J.2.1 3 _ rfl
    have j4 := J.2.1 4 _ rfl
    have k0 := K.2.1 0 _ rfl
    have k1 := K.2.1 1 _ rfl
    have k2 := K.2.1 2 _ rfl
    have k3 := K.2.1 3 _ rfl
    have k4 := K.2.1 4 _ rfl
    go_wp2_with (fail)
    refine (eqSd y _).mono ?_; rintro e w5 ⟨rfl, b5⟩
    go_wp2_with (fail)
    go_ret
    exact ⟨rfl, bth B b5⟩
  · have t1 : (1048576 : Int) < (s.size : Int) := by omega
    go_enter Tryd.func4, Tryd.ntmps4
    go_wp2_with (fail)
    go_ret
    exact ⟨rfl, Below.refl _ _⟩
end Go.Proofs.YtllionelhbjadaaDoor
