/- Words for soundings, and the helpers of the laws at soundings: copies, comparisons, sizes, marks. Lists of at most 1048576 elements. -/
import Derived.Test.YtllionelhbjadaaDoorProg
import Derived.Test.YtllionelhbjadaaDoorBase
set_option linter.unusedVariables false
set_option linter.unusedSimpArgs false
namespace Go.Proofs.YtllionelhbjadaaDoor
open Go.RowKit
set_option maxHeartbeats 1000000
set_option maxRecDepth 100000
structure Sp where
  sx : Int
  sy : Int
def Sp.enc (x : Sp) : List Value := [.int .i64 x.sx, .int .i64 x.sy]
theorem Sp.len (x : Sp) : x.enc.length = 2 := rfl
theorem Sp.one (x : Sp) : ∀ u ∈ x.enc, u.oneCell' = true := by intro u hu; simp [Sp.enc] at hu; rcases hu with rfl | rfl <;> rfl
instance : Inhabited Sp := ⟨⟨0, 0⟩⟩
theorem Sp.get {w : World} {b off : Nat} {l : List Sp} (h : Sl 2 Sp.enc w (some ⟨b, off, none⟩) l) {k : Nat} (hk : k < l.length) :
    b < w.heap.size ∧ w.cell? ⟨b, off + k * 2, none⟩ = some (.int .i64 l[k].sx) ∧ w.cell? ⟨b, off + k * 2 + 1, none⟩ = some (.int .i64 l[k].sy) := by
  obtain ⟨hlt, hc⟩ := Sl.get h hk
  exact ⟨hlt, hc 0 _ rfl, hc 1 _ rfl⟩
theorem toSp (x : Sp) (w : World) :
    Calls Tryd.prog 26 #[.agg #[.int .i64 x.sx, .int .i64 x.sy]] w fun e w' => e = .returned (.agg #[.int .i64 x.sx, .int .i64 x.sy]) ∧ Below w.heap.size w w' := by
  go_enter Tryd.func26, Tryd.ntmps26
  go_wp2
  go_returns
  exact ⟨rfl, by go_grown⟩
theorem eqSp (x : Sp) (w : World) :
    Calls Tryd.prog 32 #[.agg #[.int .i64 x.sx, .int .i64 x.sy], .agg #[.int .i64 x.sx, .int .i64 x.sy]] w fun e w' => e = .returned (.bool true) ∧ Below w.heap.size w w' := by
  go_enter Tryd.func32, Tryd.ntmps32
  go_wp2
  go_ret
  exact ⟨rfl, by go_grown⟩
structure Sd where
  id : Int
  x : Int
  y : Int
  depth : Int
  doubt : Int
def Sd.enc (x : Sd) : List Value := [.int .i64 x.id, .int .i64 x.x, .int .i64 x.y, .int .i64 x.depth, .int .i64 x.doubt]
theorem Sd.len (x : Sd) : x.enc.length = 5 := rfl
theorem Sd.one (x : Sd) : ∀ u ∈ x.enc, u.oneCell' = true := by intro u hu; simp [Sd.enc] at hu; rcases hu with rfl | rfl | rfl | rfl | rfl <;> rfl
instance : Inhabited Sd := ⟨⟨0, 0, 0, 0, 0⟩⟩
theorem Sd.get {w : World} {b off : Nat} {l : List Sd} (h : Sl 5 Sd.enc w (some ⟨b, off, none⟩) l) {k : Nat} (hk : k < l.length) :
    b < w.heap.size ∧ w.cell? ⟨b, off + k * 5, none⟩ = some (.int .i64 l[k].id) ∧ w.cell? ⟨b, off + k * 5 + 1, none⟩ = some (.int .i64 l[k].x) ∧ w.cell? ⟨b, off + k * 5 + 2, none⟩ = some (.int .i64 l[k].y) ∧ w.cell? ⟨b, off + k * 5 + 3, none⟩ = some (.int .i64 l[k].depth) ∧ w.cell? ⟨b, off + k * 5 + 4, none⟩ = some (.int .i64 l[k].doubt) := by
  obtain ⟨hlt, hc⟩ := Sl.get h hk
  exact ⟨hlt, hc 0 _ rfl, hc 1 _ rfl, hc 2 _ rfl, hc 3 _ rfl, hc 4 _ rfl⟩
theorem toSd (x : Sd) (w : World) :
    Calls Tryd.prog 7 #[.agg #[.int .i64 x.id, .int .i64 x.x, .int .i64 x.y, .int .i64 x.depth, .int .i64 x.doubt]] w fun e w' => e = .returned (.agg #[.int .i64 x.id, .int .i64 x.x, .int .i64 x.y, .int .i64 x.depth, .int .i64 x.doubt]) ∧ Below w.heap.size w w' := by
  go_enter Tryd.func7, Tryd.ntmps7
  go_wp2
  go_returns
  exact ⟨rfl, by go_grown⟩
theorem eqSd (x : Sd) (w : World) :
    Calls Tryd.prog 11 #[.agg #[.int .i64 x.id, .int .i64 x.x, .int .i64 x.y, .int .i64 x.depth, .int .i64 x.doubt], .agg #[.int .i64 x.id, .int .i64 x.x, .int .i64 x.y, .int .i64 x.depth, .int .i64 x.doubt]] w fun e w' => e = .returned (.bool true) ∧ Below w.heap.size w w' := by
  go_enter Tryd.func11, Tryd.ntmps11
  go_wp2
  go_ret
  exact ⟨rfl, by go_grown⟩
end Go.Proofs.YtllionelhbjadaaDoor
