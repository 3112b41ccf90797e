/- Words for lists of ints in memory. No condition. -/
import Derived.Test.YtfmlfeokdaahmaaProg
import Derived.Test.YtfmlfeokdaahmaaOut2
set_option linter.unusedVariables false
set_option linter.unusedSimpArgs false
namespace Go.Proofs.Ytfmlfeokdaahmaa
open Go.RowKit
def encI (n : Int) : List Value := [.int .i64 n]
theorem encI_len (n : Int) : (encI n).length = 1 := rfl
theorem encI_one (n : Int) : ∀ u ∈ encI n, u.oneCell' = true := by intro u hu; simp [encI] at hu; subst hu; rfl
theorem getI {w : World} {b off : Nat} {l : List Int} (h : Sl 1 encI w (some ⟨b, off, none⟩) l) {k : Nat} (hk : k < l.length) : b < w.heap.size ∧ w.cell? ⟨b, off + k, none⟩ = some (.int .i64 l[k]) := by
  obtain ⟨hlt, hc⟩ := Sl.get h hk
  have := hc 0 _ rfl
  rw [Nat.mul_one] at this
  exact ⟨hlt, this⟩
theorem infoI : (Try.prog.info? 3).map (fun i => (i.zero, i.size, i.bytes)) = some (some (.int .i64 0), 1, 8) := by kernel_rfl
/-- A returned list. -/
def retS (K : Nat) {α : Type} (enc : α → List Value) (w : World) (X : List α) (e : Ending) (w' : World) : Prop :=
  ∃ A c, e = .returned (.slice A X.length c) ∧ Fr K enc w w' A X
end Go.Proofs.Ytfmlfeokdaahmaa
