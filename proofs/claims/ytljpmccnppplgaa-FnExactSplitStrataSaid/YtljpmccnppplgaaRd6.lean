/- How an argument that is a slice of layers reads: each element as two ints. No condition. -/
import Derived.Test.YtljpmccnppplgaaS6a
import Derived.Test.YtljpmccnppplgaaOpen
set_option linter.unusedVariables false
set_option linter.unusedSimpArgs false
namespace Go.Proofs.Ytljpmccnppplgaa
open Go.RowKit Go.ChangeShapes Go.WideShapes Go.Deep
theorem rdSt {H : Type} {enc : TypeId × Value → H} {w : World} {base : Nat} {spare : Nat → Bool} {held : Bool} (n : Nat) (cs : List Value) (x : DataW H × List MemPlace) (h : DataW.trod enc Try.prog w base spare held n 54 cs = some x) : ∃ y : St, cs = y.enc := by
  obtain ⟨zs, hz, rfl⟩ := rd_ints Try.underlying54 (by kernel_rfl) (by kernel_rfl) (ti := 3) (by kernel_rfl) Try.underlying3 h
  match zs, hz with
  | [a, b], _ => exact ⟨⟨a, b⟩, rfl⟩
end Go.Proofs.Ytljpmccnppplgaa
