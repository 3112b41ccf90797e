/- How an argument that is a slice of crossings reads: each element as four ints. No condition. -/
import Derived.Test.YtjilcgdmfkjfmaaC10a
import Derived.Test.YtjilcgdmfkjfmaaOpen
namespace Go.Proofs.Ytjilcgdmfkjfmaa
open Go.RowKit Go.ChangeShapes Go.WideShapes Go.Deep
instance : Inhabited Cr := ⟨⟨0, 0, 0, 0⟩⟩
theorem rdCr {H : Type} {enc : TypeId × Value → H} {w : World} {base : Nat} {spare : Nat → Bool} {held : Bool} (n : Nat) (cs : List Value) (x : DataW H × List MemPlace) (h : DataW.trod enc Try.prog w base spare held n 34 cs = some x) : ∃ y : Cr, cs = y.enc := by
  obtain ⟨zs, hz, rfl⟩ := rd_ints Try.underlying34 (by kernel_rfl) (by kernel_rfl) (ti := 3) (by kernel_rfl) Try.underlying3 h
  match zs, hz with
  | [a, b, c, d], _ => exact ⟨⟨a, b, c, d⟩, rfl⟩
end Go.Proofs.Ytjilcgdmfkjfmaa
