/- How an argument that is a box reads: as four ints. No condition. -/
import Derived.Test.YtdphaejpponmeaaW2
import Derived.Test.YtdphaejpponmeaaOpen
set_option linter.unusedVariables false
set_option linter.unusedSimpArgs false
namespace Go.Proofs.Ytdphaejpponmeaa
open Go.RowKit Go.ChangeShapes Go.WideShapes Go.Deep
theorem rdBx {H : Type} {enc : TypeId × Value → H} {w : World} {base : Nat} {spare : Nat → Bool} {held : Bool} (n : Nat) (cs : List Value) (x : DataW H × List MemPlace) (h : DataW.trod enc Try.prog w base spare held n 23 cs = some x) : ∃ y : Bx, cs = y.enc := by
  obtain ⟨zs, hz, rfl⟩ := rd_ints Try.underlying23 (by kernel_rfl) (by kernel_rfl) (ti := 3) (by kernel_rfl) Try.underlying3 h
  match zs, hz with
  | [a, b, c, d], _ => exact ⟨⟨a, b, c, d⟩, rfl⟩
end Go.Proofs.Ytdphaejpponmeaa
