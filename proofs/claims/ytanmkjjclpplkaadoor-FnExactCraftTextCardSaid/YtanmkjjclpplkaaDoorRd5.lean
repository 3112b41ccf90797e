/- How an argument that is a craft, or a slice of craft, reads: as ints and a text of a length that a text can have. No condition. -/
import Derived.Test.YtanmkjjclpplkaaDoorS5a
import Derived.Test.YtanmkjjclpplkaaDoorOpen
set_option linter.unusedVariables false
set_option linter.unusedSimpArgs false
namespace Go.Proofs.YtanmkjjclpplkaaDoor
open Go.RowKit Go.ChangeShapes Go.WideShapes Go.Deep
def CrW : Type := { v : Cr // v.name.size ≤ 9223372036854775807 }
instance : Inhabited CrW := ⟨⟨default, by decide⟩⟩
def CrW.enc (x : CrW) : List Value := x.1.enc
set_option maxRecDepth 100000 in
theorem rdCrW {H : Type} {enc : TypeId × Value → H} {w : World} {base : Nat} {spare : Nat → Bool} {held : Bool} (n : Nat) (cs : List Value) (x : DataW H × List MemPlace) (h : DataW.trod enc Tryd.prog w base spare held n 23 cs = some x) :
    ∃ y : CrW, cs = y.enc := by
  obtain ⟨xs, m, _, _, hlen, hxl, hf⟩ := DataW.trod_struct Tryd.underlying23 h
  have hl : cs.length = 7 := hlen.trans (by kernel_rfl)
  have hx : xs.length = 7 := hxl
  have h0 : DataW.trod enc Tryd.prog w base spare held m 3 ((cs.drop 0).take (Tryd.prog.cellsOf 3)) = xs[0]? := hf 0 _ rfl
  have h1 : DataW.trod enc Tryd.prog w base spare held m 9 ((cs.drop 1).take (Tryd.prog.cellsOf 9)) = xs[1]? := hf 1 _ rfl
  have h2 : DataW.trod enc Tryd.prog w base spare held m 3 ((cs.drop 2).take (Tryd.prog.cellsOf 3)) = xs[2]? := hf 2 _ rfl
  have h3 : DataW.trod enc Tryd.prog w base spare held m 3 ((cs.drop 3).take (Tryd.prog.cellsOf 3)) = xs[3]? := hf 3 _ rfl
  have h4 : DataW.trod enc Tryd.prog w base spare held m 3 ((cs.drop 4).take (Tryd.prog.cellsOf 3)) = xs[4]? := hf 4 _ rfl
  have h5 : DataW.trod enc Tryd.prog w base spare held m 3 ((cs.drop 5).take (Tryd.prog.cellsOf 3)) = xs[5]? := hf 5 _ rfl
  have h6 : DataW.trod enc Tryd.prog w base spare held m 3 ((cs.drop 6).take (Tryd.prog.cellsOf 3)) = xs[6]? := hf 6 _ rfl
  rw [show Tryd.prog.cellsOf 3 = 1 by kernel_rfl] at h0 h2 h3 h4 h5 h6
  rw [show Tryd.prog.cellsOf 9 = 1 by kernel_rfl] at h1
  rw [List.getElem?_eq_getElem (by omega)] at h0 h1 h2 h3 h4 h5 h6
  match cs, hl with
  | [a, b, c, d, e, f, g], _ =>
    obtain ⟨z0, e0, _⟩ := DataW.trod_int Tryd.underlying3 h0
    obtain ⟨s, e1, _, hs⟩ := DataW.trod_string Tryd.underlying9 h1
    obtain ⟨z2, e2, _⟩ := DataW.trod_int Tryd.underlying3 h2
    obtain ⟨z3, e3, _⟩ := DataW.trod_int Tryd.underlying3 h3
    obtain ⟨z4, e4, _⟩ := DataW.trod_int Tryd.underlying3 h4
    obtain ⟨z5, e5, _⟩ := DataW.trod_int Tryd.underlying3 h5
    obtain ⟨z6, e6, _⟩ := DataW.trod_int Tryd.underlying3 h6
    simp at e0 e1 e2 e3 e4 e5 e6
    subst e0 e1 e2 e3 e4 e5 e6
    unfold maxLen at hs
    exact ⟨⟨⟨z0, s, z2, z3, z4, z5, z6⟩, hs⟩, rfl⟩
theorem Sl.craft {w : World} {A : Option Addr} {l : List CrW} (h : Sl 7 CrW.enc w A l) : Sl 7 Cr.enc w A (l.map (·.1)) := fun hl => by
  rw [List.length_map] at hl
  obtain ⟨b, off, e, hlt, hc⟩ := h hl
  refine ⟨b, off, e, hlt, fun i x hx j v hv => ?_⟩
  rw [List.getElem?_map] at hx
  cases g : l[i]? with
  | none => rw [g] at hx; cases hx
  | some y =>
    rw [g] at hx
    obtain rfl : y.1 = x := by simpa using hx
    exact hc i y g j v hv
end Go.Proofs.YtanmkjjclpplkaaDoor
