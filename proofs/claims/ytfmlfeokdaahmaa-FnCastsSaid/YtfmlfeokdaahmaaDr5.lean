/- The draw of a box: four ints; it changes the cursor alone. -/
import Derived.Test.YtfmlfeokdaahmaaDr2
set_option linter.unusedVariables false
set_option linter.unusedSimpArgs false
namespace Go.Proofs.Ytfmlfeokdaahmaa
open Go.RowKit
set_option maxHeartbeats 1000000
set_option maxRecDepth 100000
theorem dAmongD {p B : Nat} {q : Cd} {m : Nat} {w0 w5 W : World} (h : Dr p B q m w0 w5) (hg : Below w5.heap.size w5 W) (hm : m ≤ 900000000) {cs : Array Value} {t g n c : Nat} (hgW : g = W.heap.size) (h1 : 1 ≤ n) (hn : n ≤ 1000) (hcs : n ≤ cs.size) (hall : cs.all isI = true) :
    Calls Try.prog 83 #[.pointer (some ⟨p, 0, none⟩), .slice (some ⟨g, 0, none⟩) n c] (W.alloc (.cells cs t)).drew (drI p B q (m + 2) w0 (W.alloc (.cells cs t)).drew (fun _ => True)) :=
  dAmong h (bth hg (below_alloc _ _)).drew hm g 0 n c (by have := h.lt; have := hg.size; omega) (by subst hgW; show W.heap.size < (W.alloc (.cells cs t)).heap.size; simp) (fun i hi => ints_app (W := W) (t := t) hgW hcs hall i hi) h1 hn
end Go.Proofs.Ytfmlfeokdaahmaa
