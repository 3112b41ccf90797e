/- How an argument that is a slice of survey lines reads: each element as five ints. No condition. -/
import Derived.Test.YtdphaejpponmeaaS9a
import Derived.Test.YtdphaejpponmeaaOpen
set_option linter.unusedVariables false
set_option linter.unusedSimpArgs false
namespace Go.Proofs.Ytdphaejpponmeaa
open Go.RowKit Go.ChangeShapes Go.WideShapes Go.Deep
theorem rdLn {H : Type} {enc : TypeId × Value → H} {w : World} {base : Nat} {spare : Nat → Bool} {held : Bool} (n : Nat) (cs : List Value) (x : DataW H × List MemPlace) (h : DataW.trod enc Try.prog w base spare held n 78 cs = some x) : ∃ y : Ln, cs = y.enc := by
  obtain ⟨zs, hz, rfl⟩ := rd_ints Try.underlying78 (by kernel_rfl) (by kernel_rfl) (ti := 3) (by kernel_rfl) Try.underlying3 h
  match zs, hz with
  | [a, b, c, d, e], _ => exact ⟨⟨a, b, c, d, e⟩, rfl⟩
end Go.Proofs.Ytdphaejpponmeaa
