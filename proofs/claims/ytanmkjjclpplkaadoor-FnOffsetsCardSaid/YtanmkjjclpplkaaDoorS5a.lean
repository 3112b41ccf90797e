/- Words for craft, and the helpers of the laws at craft: copies, comparisons, sizes. Lists of at most 1048576 craft. -/
import Derived.Test.YtanmkjjclpplkaaDoorProg
import Derived.Test.YtanmkjjclpplkaaDoorAft
import Derived.Test.YtanmkjjclpplkaaDoorOnlyG
set_option linter.unusedVariables false
set_option linter.unusedSimpArgs false
namespace Go.Proofs.YtanmkjjclpplkaaDoor
open Go.RowKit
set_option maxHeartbeats 1000000
set_option maxRecDepth 100000
structure Cr where
  id : Int
  name : ByteArray
  draught : Int
  ahead : Int
  beside : Int
  speed : Int
  fuel : Int
def Cr.enc (x : Cr) : List Value := [.int .i64 x.id, .string x.name, .int .i64 x.draught, .int .i64 x.ahead, .int .i64 x.beside, .int .i64 x.speed, .int .i64 x.fuel]
theorem Cr.len (x : Cr) : x.enc.length = 7 := rfl
theorem Cr.one (x : Cr) : ∀ u ∈ x.enc, u.oneCell' = true := by intro u hu; simp [Cr.enc] at hu; rcases hu with rfl | rfl | rfl | rfl | rfl | rfl | rfl <;> rfl
instance : Inhabited Cr := ⟨⟨0, default, 0, 0, 0, 0, 0⟩⟩
theorem Cr.get {w : World} {b off : Nat} {l : List Cr} (h : Sl 7 Cr.enc w (some ⟨b, off, none⟩) l) {k : Nat} (hk : k < l.length) :
    b < w.heap.size ∧ w.cell? ⟨b, off + k * 7, none⟩ = some (.int .i64 l[k].id) ∧ w.cell? ⟨b, off + k * 7 + 1, none⟩ = some (.string l[k].name) ∧ w.cell? ⟨b, off + k * 7 + 2, none⟩ = some (.int .i64 l[k].draught) ∧ w.cell? ⟨b, off + k * 7 + 3, none⟩ = some (.int .i64 l[k].ahead) ∧ w.cell? ⟨b, off + k * 7 + 4, none⟩ = some (.int .i64 l[k].beside) ∧ w.cell? ⟨b, off + k * 7 + 5, none⟩ = some (.int .i64 l[k].speed) ∧ w.cell? ⟨b, off + k * 7 + 6, none⟩ = some (.int .i64 l[k].fuel) := by
  obtain ⟨hlt, hc⟩ := Sl.get h hk
  exact ⟨hlt, hc 0 _ rfl, hc 1 _ rfl, hc 2 _ rfl, hc 3 _ rfl, hc 4 _ rfl, hc 5 _ rfl, hc 6 _ rfl⟩
theorem toCr (x : Cr) (w : World) :
    Calls Tryd.prog 7 #[.agg #[.int .i64 x.id, .string x.name, .int .i64 x.draught, .int .i64 x.ahead, .int .i64 x.beside, .int .i64 x.speed, .int .i64 x.fuel]] w fun e w' => e = .returned (.agg #[.int .i64 x.id, .string x.name, .int .i64 x.draught, .int .i64 x.ahead, .int .i64 x.beside, .int .i64 x.speed, .int .i64 x.fuel]) ∧ Below w.heap.size w w' := by
  go_enter Tryd.func7, Tryd.ntmps7
  go_wp2
  go_returns
  exact ⟨rfl, by go_grown⟩
theorem szCrYes (v : Cr) (q : Int) (w : World) (hq : q ≤ 1048576) (h : (v.name.size : Int) ≤ q) :
    Calls Tryd.prog 5 #[.agg #[.int .i64 v.id, .string v.name, .int .i64 v.draught, .int .i64 v.ahead, .int .i64 v.beside, .int .i64 v.speed, .int .i64 v.fuel], .int .i64 q] w fun e w' => e = .returned (.int .i64 (q - v.name.size)) ∧ Below w.heap.size w w' := by
  have h1 : ¬ (q - (v.name.size : Int) < 0) := by omega
  go_enter Tryd.func5, Tryd.ntmps5
  go_wp2
  go_ret
  exact ⟨rfl, by go_grown⟩
theorem szCrNo (v : Cr) (q : Int) (w : World) (hq : 0 ≤ q) (hn : v.name.size ≤ 9223372036854775807) (h : q < (v.name.size : Int)) :
    Calls Tryd.prog 5 #[.agg #[.int .i64 v.id, .string v.name, .int .i64 v.draught, .int .i64 v.ahead, .int .i64 v.beside, .int .i64 v.speed, .int .i64 v.fuel], .int .i64 q] w fun e w' => e = .returned (.int .i64 (-1)) ∧ Below w.heap.size w w' := by
  have h1 : q - (v.name.size : Int) < 0 := by omega
  go_enter Tryd.func5, Tryd.ntmps5
  go_wp2
  go_ret
  exact ⟨rfl, by go_grown⟩
end Go.Proofs.YtanmkjjclpplkaaDoor
