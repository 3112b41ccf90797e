/- How an argument that is a cast, or a spot, reads: as ints and a list of layers. No condition. -/
import Derived.Test.YtfmlfeokdaahmaaS7a
import Derived.Test.YtfmlfeokdaahmaaOpen
set_option linter.unusedVariables false
set_option linter.unusedSimpArgs false
namespace Go.Proofs.Ytfmlfeokdaahmaa
open Go.RowKit Go.ChangeShapes Go.WideShapes Go.Deep
theorem rdSp {H : Type} {enc : TypeId × Value → H} {w : World} {base : Nat} {spare : Nat → Bool} {held : Bool} (n : Nat) (cs : List Value) (x : DataW H × List MemPlace) (h : DataW.trod enc Try.prog w base spare held n 23 cs = some x) : ∃ y : Sp, cs = y.enc := by
  obtain ⟨zs, hz, rfl⟩ := rd_ints Try.underlying23 (by kernel_rfl) (by kernel_rfl) (ti := 3) (by kernel_rfl) Try.underlying3 h
  match zs, hz with
  | [a, b], _ => exact ⟨⟨a, b⟩, rfl⟩
theorem rdLy {H : Type} {enc : TypeId × Value → H} {w : World} {base : Nat} {spare : Nat → Bool} {held : Bool} (n : Nat) (cs : List Value) (x : DataW H × List MemPlace) (h : DataW.trod enc Try.prog w base spare held n 100 cs = some x) : ∃ y : Ly, cs = y.enc := by
  obtain ⟨zs, hz, rfl⟩ := rd_ints Try.underlying100 (by kernel_rfl) (by kernel_rfl) (ti := 3) (by kernel_rfl) Try.underlying3 h
  match zs, hz with
  | [a, b], _ => exact ⟨⟨a, b⟩, rfl⟩
set_option maxRecDepth 100000 in
theorem rdCt {H : Type} {enc : TypeId × Value → H} {w : World} {base : Nat} {spare : Nat → Bool} {held : Bool} (n : Nat) (cs : List Value) (x : DataW H × List MemPlace) (h : DataW.trod enc Try.prog w base spare held n 26 cs = some x) :
    ∃ (t : Ct) (A : Option Addr) (cp : Nat), cs = [.int .i64 t.id, .int .i64 t.time, .int .i64 t.x, .int .i64 t.y, .slice A t.lay.length cp] ∧ Sl 2 Ly.enc w A t.lay ∧ t.lay.length ≤ 9223372036854775807 ∧ t.lay.length ≤ cp := by
  obtain ⟨xs, m, _, _, hlen, hxl, hf⟩ := DataW.trod_struct Try.underlying26 h
  have hl : cs.length = 5 := hlen.trans (by kernel_rfl)
  have hx : xs.length = 4 := hxl
  have h0 : DataW.trod enc Try.prog w base spare held m 3 ((cs.drop 0).take (Try.prog.cellsOf 3)) = xs[0]? := hf 0 _ rfl
  have h1 : DataW.trod enc Try.prog w base spare held m 3 ((cs.drop 1).take (Try.prog.cellsOf 3)) = xs[1]? := hf 1 _ rfl
  have h2 : DataW.trod enc Try.prog w base spare held m 23 ((cs.drop 2).take (Try.prog.cellsOf 23)) = xs[2]? := hf 2 _ rfl
  have h3 : DataW.trod enc Try.prog w base spare held m 24 ((cs.drop 4).take (Try.prog.cellsOf 24)) = xs[3]? := hf 3 _ rfl
  rw [show Try.prog.cellsOf 3 = 1 by kernel_rfl] at h0 h1
  rw [show Try.prog.cellsOf 23 = 2 by kernel_rfl] at h2
  rw [show Try.prog.cellsOf 24 = 1 by kernel_rfl] at h3
  rw [List.getElem?_eq_getElem (by omega)] at h0 h1 h2 h3
  match cs, hl with
  | [a, b, c, d, e], _ =>
    obtain ⟨z0, e0, _⟩ := DataW.trod_int Try.underlying3 h0
    obtain ⟨z1, e1, _⟩ := DataW.trod_int Try.underlying3 h1
    obtain ⟨y, ey⟩ := rdSp _ _ _ h2
    simp [Sp.enc] at e0 e1 ey h3
    obtain ⟨rfl, rfl⟩ := ey
    subst e0 e1
    obtain ⟨A, len, cp, rfl⟩ : ∃ (A : Option Addr) (len cp : Nat), e = .slice A len cp := by
      rcases open_slice Try.underlying24 h3 with ⟨hcs, _⟩ | ⟨a', len', cap', _, _, _, _, hcs, _⟩
      · simp at hcs; exact ⟨_, _, _, hcs⟩
      · simp at hcs; exact ⟨_, _, _, hcs⟩
    obtain ⟨l, rfl, q1, q2, q3⟩ := open_rows (α := Ly) (K := 2) (e := Ly.enc) Try.underlying24 (by kernel_rfl) (by decide) (fun _ => rfl) rdLy (⟨m, by simpa [Value.cells] using h3⟩ : DataW.Trod enc Try.prog w base spare held 24 (.slice A len cp) xs[3].1 xs[3].2)
    exact ⟨⟨z0, z1, y.sx, y.sy, l⟩, A, cp, rfl, q3, q1, q2⟩
end Go.Proofs.Ytfmlfeokdaahmaa
