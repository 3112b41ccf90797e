/- How an argument that is a sounding, or a slice of soundings, a spot or a box, reads: as ints. No condition. -/
import Derived.Test.YtllionelhbjadaaDoorS8a
import Derived.Test.YtllionelhbjadaaDoorOpen
set_option linter.unusedVariables false
set_option linter.unusedSimpArgs false
namespace Go.Proofs.YtllionelhbjadaaDoor
open Go.RowKit Go.ChangeShapes Go.WideShapes Go.Deep
theorem rdSp {H : Type} {enc : TypeId × Value → H} {w : World} {base : Nat} {spare : Nat → Bool} {held : Bool} (n : Nat) (cs : List Value) (x : DataW H × List MemPlace) (h : DataW.trod enc Tryd.prog w base spare held n 23 cs = some x) : ∃ y : Sp, cs = y.enc := by
  obtain ⟨zs, hz, rfl⟩ := rd_ints Tryd.underlying23 (by kernel_rfl) (by kernel_rfl) (ti := 3) (by kernel_rfl) Tryd.underlying3 h
  match zs, hz with
  | [a, b], _ => exact ⟨⟨a, b⟩, rfl⟩
set_option maxRecDepth 100000 in
theorem rdSd {H : Type} {enc : TypeId × Value → H} {w : World} {base : Nat} {spare : Nat → Bool} {held : Bool} (n : Nat) (cs : List Value) (x : DataW H × List MemPlace) (h : DataW.trod enc Tryd.prog w base spare held n 25 cs = some x) : ∃ y : Sd, cs = y.enc := by
  obtain ⟨xs, m, _, _, hlen, hxl, hf⟩ := DataW.trod_struct Tryd.underlying25 h
  have hl : cs.length = 5 := hlen.trans (by kernel_rfl)
  have hx : xs.length = 4 := hxl
  have h0 : DataW.trod enc Tryd.prog w base spare held m 3 ((cs.drop 0).take (Tryd.prog.cellsOf 3)) = xs[0]? := hf 0 _ rfl
  have h1 : DataW.trod enc Tryd.prog w base spare held m 23 ((cs.drop 1).take (Tryd.prog.cellsOf 23)) = xs[1]? := hf 1 _ rfl
  have h2 : DataW.trod enc Tryd.prog w base spare held m 3 ((cs.drop 3).take (Tryd.prog.cellsOf 3)) = xs[2]? := hf 2 _ rfl
  have h3 : DataW.trod enc Tryd.prog w base spare held m 3 ((cs.drop 4).take (Tryd.prog.cellsOf 3)) = xs[3]? := hf 3 _ rfl
  rw [show Tryd.prog.cellsOf 3 = 1 by kernel_rfl] at h0 h2 h3
  rw [show Tryd.prog.cellsOf 23 = 2 by kernel_rfl] at h1
  rw [List.getElem?_eq_getElem (by omega)] at h0 h1 h2 h3
  match cs, hl with
  | [a, b, c, d, e], _ =>
    obtain ⟨z0, e0, _⟩ := DataW.trod_int Tryd.underlying3 h0
    obtain ⟨z2, e2, _⟩ := DataW.trod_int Tryd.underlying3 h2
    obtain ⟨z3, e3, _⟩ := DataW.trod_int Tryd.underlying3 h3
    obtain ⟨y, ey⟩ := rdSp _ _ _ h1
    simp [Sp.enc] at e0 e2 e3 ey
    obtain ⟨rfl, rfl⟩ := ey
    subst e0 e2 e3
    exact ⟨⟨z0, y.sx, y.sy, z2, z3⟩, rfl⟩
end Go.Proofs.YtllionelhbjadaaDoor
