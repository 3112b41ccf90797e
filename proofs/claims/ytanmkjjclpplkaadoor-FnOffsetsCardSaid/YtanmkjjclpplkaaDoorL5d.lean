/- The great law on offsets with its draws: it returns true and changes nothing that was there, where the library's table reads as its initialiser lays it. -/
import Derived.Test.YtanmkjjclpplkaaDoorL5c
import Derived.Test.YtanmkjjclpplkaaDoorV5c
set_option linter.unusedVariables false
set_option linter.unusedSimpArgs false
namespace Go.Proofs.YtanmkjjclpplkaaDoor
open Go.RowKit
theorem lawOffsets (X : Option Addr) (x : Nat) (k : List UInt8) (w : World) (h : Sl 1 encU w X k) (hm : k.length ≤ 9223372036854775807) (hc : k.length ≤ x) (T : TabOk w) :
    Calls Tryd.prog 4 #[.slice X k.length x] w fun e w' => e = .returned (.bool true) ∧ Below w.heap.size w w' :=
  lawOffs drSnd drSecs X x k w h hm hc T
end Go.Proofs.YtanmkjjclpplkaaDoor
