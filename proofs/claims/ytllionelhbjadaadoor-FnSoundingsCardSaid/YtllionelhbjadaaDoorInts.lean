/- The helpers of the laws at lists of ints: comparison, marks. Lists of at most 1048576 ints. -/
import Derived.Test.YtllionelhbjadaaDoorProg
import Derived.Test.YtllionelhbjadaaDoorMore
set_option linter.unusedVariables false
set_option linter.unusedSimpArgs false
namespace Go.Proofs.YtllionelhbjadaaDoor
open Go.RowKit
set_option maxHeartbeats 1000000
def encI (n : Int) : List Value := [.int .i64 n]
theorem encI_len (n : Int) : (encI n).length = 1 := rfl
theorem encI_one (n : Int) : ∀ u ∈ encI n, u.oneCell' = true := by intro u hu; simp [encI] at hu; subst hu; rfl
theorem getI {w : World} {b off : Nat} {l : List Int} (h : Sl 1 encI w (some ⟨b, off, none⟩) l) {k : Nat} (hk : k < l.length) : b < w.heap.size ∧ w.cell? ⟨b, off + k, none⟩ = some (.int .i64 l[k]) := by
  obtain ⟨hlt, hc⟩ := Sl.get h hk
  have := hc 0 _ rfl
  rw [Nat.mul_one] at this
  exact ⟨hlt, this⟩
end Go.Proofs.YtllionelhbjadaaDoor
