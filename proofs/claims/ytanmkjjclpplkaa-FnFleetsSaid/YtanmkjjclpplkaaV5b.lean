/- The draw of a craft and of meters. -/
import Derived.Test.YtanmkjjclpplkaaV5
set_option linter.unusedVariables false
set_option linter.unusedSimpArgs false
namespace Go.Proofs.Ytanmkjjclpplkaa
open Go.RowKit
set_option maxHeartbeats 4000000
set_option maxRecDepth 100000
theorem dAmongZ {p B : Nat} {q : Cd} {m n7 g c : Nat} {o : Int} {w0 w6 w : World} (h : Dr p B q m w0 w6) (hw : Below w6.heap.size w6 w) (hm : m ≤ 900000000) (N : Ints w6 g 0 n7) (hp : g ≠ p) (hg : g < w6.heap.size) (hn : o ≤ (n7 : Int)) (h1 : 1 ≤ o) (hn2 : n7 ≤ 1000) :
    Calls Try.prog 45 #[.pointer (some ⟨p, 0, none⟩), .slice (some ⟨g, 0, none⟩) o.toNat c] w (drI p B q (m + 2) w0 w (fun _ => True)) :=
  dAmongB h hw hm N hp hg (by omega) (by omega) (by omega)
theorem celBk {w' : World} {g : Nat} {v : Cr} (h : Bk w' g v.enc) : w'.cell? ⟨g, 0, none⟩ = some (.int .i64 v.id) ∧ w'.cell? ⟨g, 1, none⟩ = some (.string v.name) ∧ w'.cell? ⟨g, 2, none⟩ = some (.int .i64 v.draught) ∧ w'.cell? ⟨g, 3, none⟩ = some (.int .i64 v.ahead) ∧ w'.cell? ⟨g, 4, none⟩ = some (.int .i64 v.beside) ∧ w'.cell? ⟨g, 5, none⟩ = some (.int .i64 v.speed) ∧ w'.cell? ⟨g, 6, none⟩ = some (.int .i64 v.fuel) :=
  ⟨h.2.1 0 _ rfl, h.2.1 1 _ rfl, h.2.1 2 _ rfl, h.2.1 3 _ rfl, h.2.1 4 _ rfl, h.2.1 5 _ rfl, h.2.1 6 _ rfl⟩
theorem dAmongY {p B : Nat} {q : Cd} {m n7 c : Nat} {o : Int} {w0 W : World} {cs : Array Value} {t : TypeId} (h : Dr p B q m w0 W) (hm : m ≤ 900000000) (hn7 : n7 ≤ cs.size) (hall : cs.all isI = true) (hn : o ≤ (n7 : Int)) (h1 : 1 ≤ o) (hn2 : n7 ≤ 1000) :
    Calls Try.prog 45 #[.pointer (some ⟨p, 0, none⟩), .slice (some ⟨W.heap.size, 0, none⟩) o.toNat c] (W.alloc (.cells cs t)) (drI p B q (m + 2) w0 (W.alloc (.cells cs t)) (fun _ => True)) := by
  have hp := h.lt
  exact dAmongZ (h.grown (below_alloc _ _)) (Below.refl _ _) hm (ints_app rfl hn7 hall) (by omega) (by simp) hn h1 hn2
end Go.Proofs.Ytanmkjjclpplkaa
