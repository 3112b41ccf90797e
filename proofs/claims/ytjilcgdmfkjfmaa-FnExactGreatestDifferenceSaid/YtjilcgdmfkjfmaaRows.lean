/-
  No cell of these rows narrows 'for every input' (looked for: loops, veiled, ifaces, maps, wideKeys, modest, calm, conditions, laid).
  DERIVED. THE GIVEN ROWS OF THIS SEAT. 2 by the template 'for every input the law returns true; each argument reads behind the call as it read before'; 0 by the template 'total and deterministic' (their statements: YtjilcgdmfkjfmaaTotals.lean).
  GIVEN WITH THE SEED: the statements are not yours to turn. If you find one false, say at which input.
  Laid BY PROGRAM, IN A SANDBOX (cutbox-rows.mjs): the forced cells as the released guide's own fill.sh prints them over the translation 662b28e7248a875e… (all of the seat's roots in one cut). By AI agents, Wed Nov 11 2026. No macro, syntax, notation, axiom, sorry.
-/
import Derived.Test.YtjilcgdmfkjfmaaChecked
import GoSem.Claim
import GoSem.ClaimJoined
import GoSem.ClaimMapViews
import Derived.JoinedTies
import Derived.KernelRfl
namespace Go.Proofs.Ytjilcgdmfkjfmaa
/- THE CELL 'sum', in the pinned program and in every row, IS THE sha256 OF THE DUMP (.gsa) THAT YtjilcgdmfkjfmaaProg.lean LOADS. Nothing in Lean hashes anything: it is a label: what it is worth is what the hold of that sum in a sandbox is worth. -/
noncomputable def Try.pinned : Pinned := { name := "ytjilcgdmfkjfmaa", sum := "662b28e7248a875e95fc6ac800c2b437ed7a8f5d39165b8ac38c2da6919ccca4", checked := Try.checked }
namespace Rows
def none {H : Type} : Left H := { results := [], args := [] }

/-- 'laws.FnExactAreCrossings': WHATEVER THE INPUT: true; the input reads as it did. -/
def fnExactAreCrossingsSpec : ChangeSpec := { name := "fnExactAreCrossings", fn := fun _ => fun
  | [d] => { results := [.lit (.bool true)], args := [d] }
  | _ => none }
def fnExactAreCrossingsRow : OpenClaim := { program := "ytjilcgdmfkjfmaa", sum := "662b28e7248a875e95fc6ac800c2b437ed7a8f5d39165b8ac38c2da6919ccca4", func := "loop.example/g01031/laws.FnExactAreCrossings", spec := "fnExactAreCrossings", apart := false }
def FnExactAreCrossingsSaid : Prop := fnExactAreCrossingsRow.holds Try.pinned (OpenSpec.ofChange fnExactAreCrossingsSpec)

/-- ITS FALSE NEIGHBOUR: 'it returns false'. Refute it at one input. -/
def fnExactAreCrossingsWrong : ChangeSpec := { name := "fnExactAreCrossings", fn := fun _ => fun
  | [d] => { results := [.lit (.bool false)], args := [d] }
  | _ => none }
def FnExactAreCrossingsWrongFalsely : Prop := fnExactAreCrossingsRow.holds Try.pinned (OpenSpec.ofChange fnExactAreCrossingsWrong)

/-- 'laws.FnExactGreatestDifference': WHATEVER THE INPUT: true; the input reads as it did. -/
def fnExactGreatestDifferenceSpec : ChangeSpec := { name := "fnExactGreatestDifference", fn := fun _ => fun
  | [d] => { results := [.lit (.bool true)], args := [d] }
  | _ => none }
def fnExactGreatestDifferenceRow : OpenClaim := { program := "ytjilcgdmfkjfmaa", sum := "662b28e7248a875e95fc6ac800c2b437ed7a8f5d39165b8ac38c2da6919ccca4", func := "loop.example/g01031/laws.FnExactGreatestDifference", spec := "fnExactGreatestDifference", apart := false }
def FnExactGreatestDifferenceSaid : Prop := fnExactGreatestDifferenceRow.holds Try.pinned (OpenSpec.ofChange fnExactGreatestDifferenceSpec)

/-- ITS FALSE NEIGHBOUR: 'it returns false'. Refute it at one input. -/
def fnExactGreatestDifferenceWrong : ChangeSpec := { name := "fnExactGreatestDifference", fn := fun _ => fun
  | [d] => { results := [.lit (.bool false)], args := [d] }
  | _ => none }
def FnExactGreatestDifferenceWrongFalsely : Prop := fnExactGreatestDifferenceRow.holds Try.pinned (OpenSpec.ofChange fnExactGreatestDifferenceWrong)

/- THE SECOND FORM. 'bulk': how many values and letters a reading holds, each counted each time it is reached (what is shared counts as often as it is met; a slice's spare places count too). A statement '..UptoSaid' is the law's where the arguments, and the package variables that the reading takes, are together of bulk at most 1048576: NARROWER than '..Said'. Prove '..Said' where nothing that the law and all that it calls make is longer than what came in: it says more and counts as full. Else prove '..UptoSaid'. A law counts once. -/
mutual
def uptoBulk {H : Type} : DataW H → Nat
  | .lit (.string bytes) => bytes.length + 1
  | .lit _ => 1
  | .nil => 1
  | .ptr d => uptoBulk d + 1
  | .slice elems spare => uptoBulkAll elems + uptoBulkAll spare + 1
  | .agg parts => uptoBulkAll parts + 1
  | .iface _ d => uptoBulk d + 1
  | .map entries => uptoBulkEntries entries + 1
  | .held _ => 1
def uptoBulkAll {H : Type} : List (DataW H) → Nat
  | [] => 0
  | d :: r => uptoBulk d + uptoBulkAll r
def uptoBulkEntries {H : Type} : List (Lit × DataW H) → Nat
  | [] => 0
  | x :: r => uptoBulkEntry x + uptoBulkEntries r
def uptoBulkEntry {H : Type} : Lit × DataW H → Nat
  | (.string bytes, d) => bytes.length + uptoBulk d + 1
  | (_, d) => uptoBulk d + 1
 end
def uptoSmall : (H : Type) → List (DataW H) → Bool := fun _ ds => decide (uptoBulkAll ds ≤ 1048576)
def OpenSpec.upto (s : _root_.Go.ChangeSpec) : _root_.Go.OpenSpec := { _root_.Go.OpenSpec.ofChange s with cond := some uptoSmall }

/-- 'laws.FnExactAreCrossings', WHERE WHAT IT READS IS OF BULK AT MOST 1048576: true; the input reads as it did. -/
def fnExactAreCrossingsUptoRow : OpenClaim := { program := "ytjilcgdmfkjfmaa", sum := "662b28e7248a875e95fc6ac800c2b437ed7a8f5d39165b8ac38c2da6919ccca4", func := "loop.example/g01031/laws.FnExactAreCrossings", spec := "fnExactAreCrossings", apart := false, narrowed := true }
def FnExactAreCrossingsUptoSaid : Prop := fnExactAreCrossingsUptoRow.holds Try.pinned (OpenSpec.upto fnExactAreCrossingsSpec)

/-- 'laws.FnExactGreatestDifference', WHERE WHAT IT READS IS OF BULK AT MOST 1048576: true; the input reads as it did. -/
def fnExactGreatestDifferenceUptoRow : OpenClaim := { program := "ytjilcgdmfkjfmaa", sum := "662b28e7248a875e95fc6ac800c2b437ed7a8f5d39165b8ac38c2da6919ccca4", func := "loop.example/g01031/laws.FnExactGreatestDifference", spec := "fnExactGreatestDifference", apart := false, narrowed := true }
def FnExactGreatestDifferenceUptoSaid : Prop := fnExactGreatestDifferenceUptoRow.holds Try.pinned (OpenSpec.upto fnExactGreatestDifferenceSpec)

end Rows
end Go.Proofs.Ytjilcgdmfkjfmaa
