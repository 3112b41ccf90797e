/- How an argument that is a slice of bytes reads: each element as a byte. No condition. -/
import Derived.Test.YtfmlfeokdaahmaaDr
import Derived.Test.YtfmlfeokdaahmaaOpen
import Derived.OpenShut
set_option linter.unusedVariables false
set_option linter.unusedSimpArgs false
namespace Go.Proofs.Ytfmlfeokdaahmaa
open Go.RowKit Go.ChangeShapes Go.WideShapes Go.Deep
theorem encU_len (b : UInt8) : (encU b).length = 1 := rfl
instance : Inhabited UInt8 := ⟨0⟩
theorem rdU {H : Type} {enc : TypeId × Value → H} {w : World} {base : Nat} {spare : Nat → Bool} {held : Bool} (n : Nat) (cs : List Value) (x : DataW H × List MemPlace) (h : DataW.trod enc Try.prog w base spare held n 5 cs = some x) : ∃ y : UInt8, cs = encU y := by
  obtain ⟨a, rfl, _, hw⟩ := DataW.trod_int Try.underlying5 h
  have hb := bounds_u8 hw
  refine ⟨UInt8.ofNat a.toNat, ?_⟩
  have : (UInt8.ofNat a.toNat).toNat = a.toNat := by
    rw [UInt8.toNat_ofNat']; omega
  rw [encU, this]
  congr 2
  omega
end Go.Proofs.Ytfmlfeokdaahmaa
