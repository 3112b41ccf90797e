/-
  No cell of these rows narrows 'for every input' (looked for: loops, veiled, ifaces, maps, wideKeys, modest, calm, conditions, laid).
  DERIVED. THE GIVEN ROWS OF THIS SEAT. 3 by the template 'for every input the law returns true; each argument reads behind the call as it read before'; 0 by the template 'total and deterministic' (their statements: YtanmkjjclpplkaaTotals.lean).
  GIVEN WITH THE SEED: the statements are not yours to turn. If you find one false, say at which input.
  Laid BY PROGRAM, IN A SANDBOX (cutbox-rows.mjs): the forced cells as the released guide's own fill.sh prints them over the translation 637e345f2cffb894… (all of the seat's roots in one cut). By AI agents, Wed Nov 11 2026. No macro, syntax, notation, axiom, sorry.
-/
import Derived.Test.YtanmkjjclpplkaaChecked
import GoSem.Claim
import GoSem.ClaimJoined
import GoSem.ClaimMapViews
import Derived.JoinedTies
import Derived.KernelRfl
namespace Go.Proofs.Ytanmkjjclpplkaa
/- THE CELL 'sum', in the pinned program and in every row, IS THE sha256 OF THE DUMP (.gsa) THAT YtanmkjjclpplkaaProg.lean LOADS. Nothing in Lean hashes anything: it is a label: what it is worth is what the hold of that sum in a sandbox is worth. -/
noncomputable def Try.pinned : Pinned := { name := "ytanmkjjclpplkaa", sum := "637e345f2cffb89444f53187b08f590f81571f2145eaf7062ad4133f5585fa34", checked := Try.checked }
namespace Rows
def none {H : Type} : Left H := { results := [], args := [] }

/-- 'laws.FnExactFloatsOver': WHATEVER THE INPUT: true; the input reads as it did. -/
def fnExactFloatsOverSpec : ChangeSpec := { name := "fnExactFloatsOver", fn := fun _ => fun
  | [d1, d2, d3] => { results := [.lit (.bool true)], args := [d1, d2, d3] }
  | _ => none }
def fnExactFloatsOverRow : OpenClaim := { program := "ytanmkjjclpplkaa", sum := "637e345f2cffb89444f53187b08f590f81571f2145eaf7062ad4133f5585fa34", func := "loop.example/g01031/laws.FnExactFloatsOver", spec := "fnExactFloatsOver", unfollowed := true, recurses := true, apart := false }
def FnExactFloatsOverSaid : Prop := fnExactFloatsOverRow.holds Try.pinned (OpenSpec.ofChange fnExactFloatsOverSpec)

/-- ITS FALSE NEIGHBOUR: 'it returns false'. Refute it at one input. -/
def fnExactFloatsOverWrong : ChangeSpec := { name := "fnExactFloatsOver", fn := fun _ => fun
  | [d1, d2, d3] => { results := [.lit (.bool false)], args := [d1, d2, d3] }
  | _ => none }
def FnExactFloatsOverWrongFalsely : Prop := fnExactFloatsOverRow.holds Try.pinned (OpenSpec.ofChange fnExactFloatsOverWrong)

/-- 'laws.FnExactUseFuel': WHATEVER THE INPUT: true; the input reads as it did. -/
def fnExactUseFuelSpec : ChangeSpec := { name := "fnExactUseFuel", fn := fun _ => fun
  | [d1, d2, d3] => { results := [.lit (.bool true)], args := [d1, d2, d3] }
  | _ => none }
def fnExactUseFuelRow : OpenClaim := { program := "ytanmkjjclpplkaa", sum := "637e345f2cffb89444f53187b08f590f81571f2145eaf7062ad4133f5585fa34", func := "loop.example/g01031/laws.FnExactUseFuel", spec := "fnExactUseFuel", unfollowed := true, recurses := true, apart := false }
def FnExactUseFuelSaid : Prop := fnExactUseFuelRow.holds Try.pinned (OpenSpec.ofChange fnExactUseFuelSpec)

/-- ITS FALSE NEIGHBOUR: 'it returns false'. Refute it at one input. -/
def fnExactUseFuelWrong : ChangeSpec := { name := "fnExactUseFuel", fn := fun _ => fun
  | [d1, d2, d3] => { results := [.lit (.bool false)], args := [d1, d2, d3] }
  | _ => none }
def FnExactUseFuelWrongFalsely : Prop := fnExactUseFuelRow.holds Try.pinned (OpenSpec.ofChange fnExactUseFuelWrong)

/-- 'laws.FnFleets': WHATEVER THE INPUT: true; the input reads as it did. -/
def fnFleetsSpec : ChangeSpec := { name := "fnFleets", fn := fun _ => fun
  | [d] => { results := [.lit (.bool true)], args := [d] }
  | _ => none }
def fnFleetsRow : OpenClaim := { program := "ytanmkjjclpplkaa", sum := "637e345f2cffb89444f53187b08f590f81571f2145eaf7062ad4133f5585fa34", func := "loop.example/g01031/laws.FnFleets", spec := "fnFleets", unfollowed := true, recurses := true, apart := false }
def FnFleetsSaid : Prop := fnFleetsRow.holds Try.pinned (OpenSpec.ofChange fnFleetsSpec)

/-- ITS FALSE NEIGHBOUR: 'it returns false'. Refute it at one input. -/
def fnFleetsWrong : ChangeSpec := { name := "fnFleets", fn := fun _ => fun
  | [d] => { results := [.lit (.bool false)], args := [d] }
  | _ => none }
def FnFleetsWrongFalsely : Prop := fnFleetsRow.holds Try.pinned (OpenSpec.ofChange fnFleetsWrong)

/- THE SECOND FORM. 'bulk': how many values and letters a reading holds, each counted each time it is reached (what is shared counts as often as it is met; a slice's spare places count too). A statement '..UptoSaid' is the law's where the arguments, and the package variables that the reading takes, are together of bulk at most 1048576: NARROWER than '..Said'. Prove '..Said' where nothing that the law and all that it calls make is longer than what came in: it says more and counts as full. Else prove '..UptoSaid'. A law counts once. -/
mutual
def uptoBulk {H : Type} : DataW H → Nat
  | .lit (.string bytes) => bytes.length + 1
  | .lit _ => 1
  | .nil => 1
  | .ptr d => uptoBulk d + 1
  | .slice elems spare => uptoBulkAll elems + uptoBulkAll spare + 1
  | .agg parts => uptoBulkAll parts + 1
  | .iface _ d => uptoBulk d + 1
  | .map entries => uptoBulkEntries entries + 1
  | .held _ => 1
def uptoBulkAll {H : Type} : List (DataW H) → Nat
  | [] => 0
  | d :: r => uptoBulk d + uptoBulkAll r
def uptoBulkEntries {H : Type} : List (Lit × DataW H) → Nat
  | [] => 0
  | x :: r => uptoBulkEntry x + uptoBulkEntries r
def uptoBulkEntry {H : Type} : Lit × DataW H → Nat
  | (.string bytes, d) => bytes.length + uptoBulk d + 1
  | (_, d) => uptoBulk d + 1
 end
def uptoSmall : (H : Type) → List (DataW H) → Bool := fun _ ds => decide (uptoBulkAll ds ≤ 1048576)
def OpenSpec.upto (s : _root_.Go.ChangeSpec) : _root_.Go.OpenSpec := { _root_.Go.OpenSpec.ofChange s with cond := some uptoSmall }

/-- 'laws.FnExactFloatsOver', WHERE WHAT IT READS IS OF BULK AT MOST 1048576: true; the input reads as it did. -/
def fnExactFloatsOverUptoRow : OpenClaim := { program := "ytanmkjjclpplkaa", sum := "637e345f2cffb89444f53187b08f590f81571f2145eaf7062ad4133f5585fa34", func := "loop.example/g01031/laws.FnExactFloatsOver", spec := "fnExactFloatsOver", unfollowed := true, recurses := true, apart := false, narrowed := true }
def FnExactFloatsOverUptoSaid : Prop := fnExactFloatsOverUptoRow.holds Try.pinned (OpenSpec.upto fnExactFloatsOverSpec)

/-- 'laws.FnExactUseFuel', WHERE WHAT IT READS IS OF BULK AT MOST 1048576: true; the input reads as it did. -/
def fnExactUseFuelUptoRow : OpenClaim := { program := "ytanmkjjclpplkaa", sum := "637e345f2cffb89444f53187b08f590f81571f2145eaf7062ad4133f5585fa34", func := "loop.example/g01031/laws.FnExactUseFuel", spec := "fnExactUseFuel", unfollowed := true, recurses := true, apart := false, narrowed := true }
def FnExactUseFuelUptoSaid : Prop := fnExactUseFuelUptoRow.holds Try.pinned (OpenSpec.upto fnExactUseFuelSpec)

/-- 'laws.FnFleets', WHERE WHAT IT READS IS OF BULK AT MOST 1048576: true; the input reads as it did. -/
def fnFleetsUptoRow : OpenClaim := { program := "ytanmkjjclpplkaa", sum := "637e345f2cffb89444f53187b08f590f81571f2145eaf7062ad4133f5585fa34", func := "loop.example/g01031/laws.FnFleets", spec := "fnFleets", unfollowed := true, recurses := true, apart := false, narrowed := true }
def FnFleetsUptoSaid : Prop := fnFleetsUptoRow.holds Try.pinned (OpenSpec.upto fnFleetsSpec)

end Rows
end Go.Proofs.Ytanmkjjclpplkaa
