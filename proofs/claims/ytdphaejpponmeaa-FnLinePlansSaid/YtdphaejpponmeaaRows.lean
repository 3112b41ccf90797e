/-
  No cell of these rows narrows 'for every input' (looked for: loops, veiled, ifaces, maps, wideKeys, modest, calm, conditions, laid).
  DERIVED. THE GIVEN ROWS OF THIS SEAT. 12 by the template 'for every input the law returns true; each argument reads behind the call as it read before'; 0 by the template 'total and deterministic' (their statements: YtdphaejpponmeaaTotals.lean).
  GIVEN WITH THE SEED: the statements are not yours to turn. If you find one false, say at which input.
  Laid BY PROGRAM, IN A SANDBOX (cutbox-rows.mjs): the forced cells as the released guide's own fill.sh prints them over the translation 06d3e417aecf1186… (all of the seat's roots in one cut). By AI agents, Wed Nov 11 2026. No macro, syntax, notation, axiom, sorry.
-/
import Derived.Test.YtdphaejpponmeaaChecked
import GoSem.Claim
import GoSem.ClaimJoined
import GoSem.ClaimMapViews
import Derived.JoinedTies
import Derived.KernelRfl
namespace Go.Proofs.Ytdphaejpponmeaa
/- THE CELL 'sum', in the pinned program and in every row, IS THE sha256 OF THE DUMP (.gsa) THAT YtdphaejpponmeaaProg.lean LOADS. Nothing in Lean hashes anything: it is a label: what it is worth is what the hold of that sum in a sandbox is worth. -/
noncomputable def Try.pinned : Pinned := { name := "ytdphaejpponmeaa", sum := "06d3e417aecf1186078f9c2fef82e538c61522136e350aab089ad8f09cb691b5", checked := Try.checked }
namespace Rows
def none {H : Type} : Left H := { results := [], args := [] }

/-- 'laws.FnExactCellsIn': WHATEVER THE INPUT: true; the input reads as it did. -/
def fnExactCellsInSpec : ChangeSpec := { name := "fnExactCellsIn", fn := fun _ => fun
  | [d] => { results := [.lit (.bool true)], args := [d] }
  | _ => none }
def fnExactCellsInRow : OpenClaim := { program := "ytdphaejpponmeaa", sum := "06d3e417aecf1186078f9c2fef82e538c61522136e350aab089ad8f09cb691b5", func := "loop.example/g01031/laws.FnExactCellsIn", spec := "fnExactCellsIn", unfollowed := true, recurses := true, apart := false }
def FnExactCellsInSaid : Prop := fnExactCellsInRow.holds Try.pinned (OpenSpec.ofChange fnExactCellsInSpec)

/-- ITS FALSE NEIGHBOUR: 'it returns false'. Refute it at one input. -/
def fnExactCellsInWrong : ChangeSpec := { name := "fnExactCellsIn", fn := fun _ => fun
  | [d] => { results := [.lit (.bool false)], args := [d] }
  | _ => none }
def FnExactCellsInWrongFalsely : Prop := fnExactCellsInRow.holds Try.pinned (OpenSpec.ofChange fnExactCellsInWrong)

/-- 'laws.FnExactAreLines': WHATEVER THE INPUT: true; the input reads as it did. -/
def fnExactAreLinesSpec : ChangeSpec := { name := "fnExactAreLines", fn := fun _ => fun
  | [d] => { results := [.lit (.bool true)], args := [d] }
  | _ => none }
def fnExactAreLinesRow : OpenClaim := { program := "ytdphaejpponmeaa", sum := "06d3e417aecf1186078f9c2fef82e538c61522136e350aab089ad8f09cb691b5", func := "loop.example/g01031/laws.FnExactAreLines", spec := "fnExactAreLines", apart := false }
def FnExactAreLinesSaid : Prop := fnExactAreLinesRow.holds Try.pinned (OpenSpec.ofChange fnExactAreLinesSpec)

/-- ITS FALSE NEIGHBOUR: 'it returns false'. Refute it at one input. -/
def fnExactAreLinesWrong : ChangeSpec := { name := "fnExactAreLines", fn := fun _ => fun
  | [d] => { results := [.lit (.bool false)], args := [d] }
  | _ => none }
def FnExactAreLinesWrongFalsely : Prop := fnExactAreLinesRow.holds Try.pinned (OpenSpec.ofChange fnExactAreLinesWrong)

/-- 'laws.FnExactLineLengths': WHATEVER THE INPUT: true; the input reads as it did. -/
def fnExactLineLengthsSpec : ChangeSpec := { name := "fnExactLineLengths", fn := fun _ => fun
  | [d] => { results := [.lit (.bool true)], args := [d] }
  | _ => none }
def fnExactLineLengthsRow : OpenClaim := { program := "ytdphaejpponmeaa", sum := "06d3e417aecf1186078f9c2fef82e538c61522136e350aab089ad8f09cb691b5", func := "loop.example/g01031/laws.FnExactLineLengths", spec := "fnExactLineLengths", apart := false }
def FnExactLineLengthsSaid : Prop := fnExactLineLengthsRow.holds Try.pinned (OpenSpec.ofChange fnExactLineLengthsSpec)

/-- ITS FALSE NEIGHBOUR: 'it returns false'. Refute it at one input. -/
def fnExactLineLengthsWrong : ChangeSpec := { name := "fnExactLineLengths", fn := fun _ => fun
  | [d] => { results := [.lit (.bool false)], args := [d] }
  | _ => none }
def FnExactLineLengthsWrongFalsely : Prop := fnExactLineLengthsRow.holds Try.pinned (OpenSpec.ofChange fnExactLineLengthsWrong)

/-- 'laws.FnExactCoverageOf': WHATEVER THE INPUT: true; the input reads as it did. -/
def fnExactCoverageOfSpec : ChangeSpec := { name := "fnExactCoverageOf", fn := fun _ => fun
  | [d1, d2, d3] => { results := [.lit (.bool true)], args := [d1, d2, d3] }
  | _ => none }
def fnExactCoverageOfRow : OpenClaim := { program := "ytdphaejpponmeaa", sum := "06d3e417aecf1186078f9c2fef82e538c61522136e350aab089ad8f09cb691b5", func := "loop.example/g01031/laws.FnExactCoverageOf", spec := "fnExactCoverageOf", apart := false }
def FnExactCoverageOfSaid : Prop := fnExactCoverageOfRow.holds Try.pinned (OpenSpec.ofChange fnExactCoverageOfSpec)

/-- ITS FALSE NEIGHBOUR: 'it returns false'. Refute it at one input. -/
def fnExactCoverageOfWrong : ChangeSpec := { name := "fnExactCoverageOf", fn := fun _ => fun
  | [d1, d2, d3] => { results := [.lit (.bool false)], args := [d1, d2, d3] }
  | _ => none }
def FnExactCoverageOfWrongFalsely : Prop := fnExactCoverageOfRow.holds Try.pinned (OpenSpec.ofChange fnExactCoverageOfWrong)

/-- 'laws.FnExactOverlapOf': WHATEVER THE INPUT: true; the input reads as it did. -/
def fnExactOverlapOfSpec : ChangeSpec := { name := "fnExactOverlapOf", fn := fun _ => fun
  | [d1, d2, d3] => { results := [.lit (.bool true)], args := [d1, d2, d3] }
  | _ => none }
def fnExactOverlapOfRow : OpenClaim := { program := "ytdphaejpponmeaa", sum := "06d3e417aecf1186078f9c2fef82e538c61522136e350aab089ad8f09cb691b5", func := "loop.example/g01031/laws.FnExactOverlapOf", spec := "fnExactOverlapOf", unfollowed := true, recurses := true, apart := false }
def FnExactOverlapOfSaid : Prop := fnExactOverlapOfRow.holds Try.pinned (OpenSpec.ofChange fnExactOverlapOfSpec)

/-- ITS FALSE NEIGHBOUR: 'it returns false'. Refute it at one input. -/
def fnExactOverlapOfWrong : ChangeSpec := { name := "fnExactOverlapOf", fn := fun _ => fun
  | [d1, d2, d3] => { results := [.lit (.bool false)], args := [d1, d2, d3] }
  | _ => none }
def FnExactOverlapOfWrongFalsely : Prop := fnExactOverlapOfRow.holds Try.pinned (OpenSpec.ofChange fnExactOverlapOfWrong)

/-- 'laws.FnExactPlanLines': WHATEVER THE INPUT: true; the input reads as it did. -/
def fnExactPlanLinesSpec : ChangeSpec := { name := "fnExactPlanLines", fn := fun _ => fun
  | [d1, d2] => { results := [.lit (.bool true)], args := [d1, d2] }
  | _ => none }
def fnExactPlanLinesRow : OpenClaim := { program := "ytdphaejpponmeaa", sum := "06d3e417aecf1186078f9c2fef82e538c61522136e350aab089ad8f09cb691b5", func := "loop.example/g01031/laws.FnExactPlanLines", spec := "fnExactPlanLines", apart := false }
def FnExactPlanLinesSaid : Prop := fnExactPlanLinesRow.holds Try.pinned (OpenSpec.ofChange fnExactPlanLinesSpec)

/-- ITS FALSE NEIGHBOUR: 'it returns false'. Refute it at one input. -/
def fnExactPlanLinesWrong : ChangeSpec := { name := "fnExactPlanLines", fn := fun _ => fun
  | [d1, d2] => { results := [.lit (.bool false)], args := [d1, d2] }
  | _ => none }
def FnExactPlanLinesWrongFalsely : Prop := fnExactPlanLinesRow.holds Try.pinned (OpenSpec.ofChange fnExactPlanLinesWrong)

/-- 'laws.FnExactCellsCovered': WHATEVER THE INPUT: true; the input reads as it did. -/
def fnExactCellsCoveredSpec : ChangeSpec := { name := "fnExactCellsCovered", fn := fun _ => fun
  | [d1, d2] => { results := [.lit (.bool true)], args := [d1, d2] }
  | _ => none }
def fnExactCellsCoveredRow : OpenClaim := { program := "ytdphaejpponmeaa", sum := "06d3e417aecf1186078f9c2fef82e538c61522136e350aab089ad8f09cb691b5", func := "loop.example/g01031/laws.FnExactCellsCovered", spec := "fnExactCellsCovered", unfollowed := true, recurses := true, apart := false }
def FnExactCellsCoveredSaid : Prop := fnExactCellsCoveredRow.holds Try.pinned (OpenSpec.ofChange fnExactCellsCoveredSpec)

/-- ITS FALSE NEIGHBOUR: 'it returns false'. Refute it at one input. -/
def fnExactCellsCoveredWrong : ChangeSpec := { name := "fnExactCellsCovered", fn := fun _ => fun
  | [d1, d2] => { results := [.lit (.bool false)], args := [d1, d2] }
  | _ => none }
def FnExactCellsCoveredWrongFalsely : Prop := fnExactCellsCoveredRow.holds Try.pinned (OpenSpec.ofChange fnExactCellsCoveredWrong)

/-- 'laws.FnExactUncoveredIn': WHATEVER THE INPUT: true; the input reads as it did. -/
def fnExactUncoveredInSpec : ChangeSpec := { name := "fnExactUncoveredIn", fn := fun _ => fun
  | [d1, d2] => { results := [.lit (.bool true)], args := [d1, d2] }
  | _ => none }
def fnExactUncoveredInRow : OpenClaim := { program := "ytdphaejpponmeaa", sum := "06d3e417aecf1186078f9c2fef82e538c61522136e350aab089ad8f09cb691b5", func := "loop.example/g01031/laws.FnExactUncoveredIn", spec := "fnExactUncoveredIn", unfollowed := true, recurses := true, apart := false }
def FnExactUncoveredInSaid : Prop := fnExactUncoveredInRow.holds Try.pinned (OpenSpec.ofChange fnExactUncoveredInSpec)

/-- ITS FALSE NEIGHBOUR: 'it returns false'. Refute it at one input. -/
def fnExactUncoveredInWrong : ChangeSpec := { name := "fnExactUncoveredIn", fn := fun _ => fun
  | [d1, d2] => { results := [.lit (.bool false)], args := [d1, d2] }
  | _ => none }
def FnExactUncoveredInWrongFalsely : Prop := fnExactUncoveredInRow.holds Try.pinned (OpenSpec.ofChange fnExactUncoveredInWrong)

/-- 'laws.FnExactTurnsOf': WHATEVER THE INPUT: true; the input reads as it did. -/
def fnExactTurnsOfSpec : ChangeSpec := { name := "fnExactTurnsOf", fn := fun _ => fun
  | [d] => { results := [.lit (.bool true)], args := [d] }
  | _ => none }
def fnExactTurnsOfRow : OpenClaim := { program := "ytdphaejpponmeaa", sum := "06d3e417aecf1186078f9c2fef82e538c61522136e350aab089ad8f09cb691b5", func := "loop.example/g01031/laws.FnExactTurnsOf", spec := "fnExactTurnsOf", unfollowed := true, recurses := true, apart := false }
def FnExactTurnsOfSaid : Prop := fnExactTurnsOfRow.holds Try.pinned (OpenSpec.ofChange fnExactTurnsOfSpec)

/-- ITS FALSE NEIGHBOUR: 'it returns false'. Refute it at one input. -/
def fnExactTurnsOfWrong : ChangeSpec := { name := "fnExactTurnsOf", fn := fun _ => fun
  | [d] => { results := [.lit (.bool false)], args := [d] }
  | _ => none }
def FnExactTurnsOfWrongFalsely : Prop := fnExactTurnsOfRow.holds Try.pinned (OpenSpec.ofChange fnExactTurnsOfWrong)

/-- 'laws.FnExactSailedOrder': WHATEVER THE INPUT: true; the input reads as it did. -/
def fnExactSailedOrderSpec : ChangeSpec := { name := "fnExactSailedOrder", fn := fun _ => fun
  | [d] => { results := [.lit (.bool true)], args := [d] }
  | _ => none }
def fnExactSailedOrderRow : OpenClaim := { program := "ytdphaejpponmeaa", sum := "06d3e417aecf1186078f9c2fef82e538c61522136e350aab089ad8f09cb691b5", func := "loop.example/g01031/laws.FnExactSailedOrder", spec := "fnExactSailedOrder", unfollowed := true, recurses := true, apart := false }
def FnExactSailedOrderSaid : Prop := fnExactSailedOrderRow.holds Try.pinned (OpenSpec.ofChange fnExactSailedOrderSpec)

/-- ITS FALSE NEIGHBOUR: 'it returns false'. Refute it at one input. -/
def fnExactSailedOrderWrong : ChangeSpec := { name := "fnExactSailedOrder", fn := fun _ => fun
  | [d] => { results := [.lit (.bool false)], args := [d] }
  | _ => none }
def FnExactSailedOrderWrongFalsely : Prop := fnExactSailedOrderRow.holds Try.pinned (OpenSpec.ofChange fnExactSailedOrderWrong)

/-- 'laws.FnLinePlans': WHATEVER THE INPUT: true; the input reads as it did. -/
def fnLinePlansSpec : ChangeSpec := { name := "fnLinePlans", fn := fun _ => fun
  | [d] => { results := [.lit (.bool true)], args := [d] }
  | _ => none }
def fnLinePlansRow : OpenClaim := { program := "ytdphaejpponmeaa", sum := "06d3e417aecf1186078f9c2fef82e538c61522136e350aab089ad8f09cb691b5", func := "loop.example/g01031/laws.FnLinePlans", spec := "fnLinePlans", unfollowed := true, recurses := true, apart := false }
def FnLinePlansSaid : Prop := fnLinePlansRow.holds Try.pinned (OpenSpec.ofChange fnLinePlansSpec)

/-- ITS FALSE NEIGHBOUR: 'it returns false'. Refute it at one input. -/
def fnLinePlansWrong : ChangeSpec := { name := "fnLinePlans", fn := fun _ => fun
  | [d] => { results := [.lit (.bool false)], args := [d] }
  | _ => none }
def FnLinePlansWrongFalsely : Prop := fnLinePlansRow.holds Try.pinned (OpenSpec.ofChange fnLinePlansWrong)

/-- 'laws.FnCoverage': WHATEVER THE INPUT: true; the input reads as it did. -/
def fnCoverageSpec : ChangeSpec := { name := "fnCoverage", fn := fun _ => fun
  | [d] => { results := [.lit (.bool true)], args := [d] }
  | _ => none }
def fnCoverageRow : OpenClaim := { program := "ytdphaejpponmeaa", sum := "06d3e417aecf1186078f9c2fef82e538c61522136e350aab089ad8f09cb691b5", func := "loop.example/g01031/laws.FnCoverage", spec := "fnCoverage", unfollowed := true, recurses := true, apart := false }
def FnCoverageSaid : Prop := fnCoverageRow.holds Try.pinned (OpenSpec.ofChange fnCoverageSpec)

/-- ITS FALSE NEIGHBOUR: 'it returns false'. Refute it at one input. -/
def fnCoverageWrong : ChangeSpec := { name := "fnCoverage", fn := fun _ => fun
  | [d] => { results := [.lit (.bool false)], args := [d] }
  | _ => none }
def FnCoverageWrongFalsely : Prop := fnCoverageRow.holds Try.pinned (OpenSpec.ofChange fnCoverageWrong)

/- THE SECOND FORM. 'bulk': how many values and letters a reading holds, each counted each time it is reached (what is shared counts as often as it is met; a slice's spare places count too). A statement '..UptoSaid' is the law's where the arguments, and the package variables that the reading takes, are together of bulk at most 1048576: NARROWER than '..Said'. Prove '..Said' where nothing that the law and all that it calls make is longer than what came in: it says more and counts as full. Else prove '..UptoSaid'. A law counts once. -/
mutual
def uptoBulk {H : Type} : DataW H → Nat
  | .lit (.string bytes) => bytes.length + 1
  | .lit _ => 1
  | .nil => 1
  | .ptr d => uptoBulk d + 1
  | .slice elems spare => uptoBulkAll elems + uptoBulkAll spare + 1
  | .agg parts => uptoBulkAll parts + 1
  | .iface _ d => uptoBulk d + 1
  | .map entries => uptoBulkEntries entries + 1
  | .held _ => 1
def uptoBulkAll {H : Type} : List (DataW H) → Nat
  | [] => 0
  | d :: r => uptoBulk d + uptoBulkAll r
def uptoBulkEntries {H : Type} : List (Lit × DataW H) → Nat
  | [] => 0
  | x :: r => uptoBulkEntry x + uptoBulkEntries r
def uptoBulkEntry {H : Type} : Lit × DataW H → Nat
  | (.string bytes, d) => bytes.length + uptoBulk d + 1
  | (_, d) => uptoBulk d + 1
 end
def uptoSmall : (H : Type) → List (DataW H) → Bool := fun _ ds => decide (uptoBulkAll ds ≤ 1048576)
def OpenSpec.upto (s : _root_.Go.ChangeSpec) : _root_.Go.OpenSpec := { _root_.Go.OpenSpec.ofChange s with cond := some uptoSmall }

/-- 'laws.FnExactCellsIn', WHERE WHAT IT READS IS OF BULK AT MOST 1048576: true; the input reads as it did. -/
def fnExactCellsInUptoRow : OpenClaim := { program := "ytdphaejpponmeaa", sum := "06d3e417aecf1186078f9c2fef82e538c61522136e350aab089ad8f09cb691b5", func := "loop.example/g01031/laws.FnExactCellsIn", spec := "fnExactCellsIn", unfollowed := true, recurses := true, apart := false, narrowed := true }
def FnExactCellsInUptoSaid : Prop := fnExactCellsInUptoRow.holds Try.pinned (OpenSpec.upto fnExactCellsInSpec)

/-- 'laws.FnExactAreLines', WHERE WHAT IT READS IS OF BULK AT MOST 1048576: true; the input reads as it did. -/
def fnExactAreLinesUptoRow : OpenClaim := { program := "ytdphaejpponmeaa", sum := "06d3e417aecf1186078f9c2fef82e538c61522136e350aab089ad8f09cb691b5", func := "loop.example/g01031/laws.FnExactAreLines", spec := "fnExactAreLines", apart := false, narrowed := true }
def FnExactAreLinesUptoSaid : Prop := fnExactAreLinesUptoRow.holds Try.pinned (OpenSpec.upto fnExactAreLinesSpec)

/-- 'laws.FnExactLineLengths', WHERE WHAT IT READS IS OF BULK AT MOST 1048576: true; the input reads as it did. -/
def fnExactLineLengthsUptoRow : OpenClaim := { program := "ytdphaejpponmeaa", sum := "06d3e417aecf1186078f9c2fef82e538c61522136e350aab089ad8f09cb691b5", func := "loop.example/g01031/laws.FnExactLineLengths", spec := "fnExactLineLengths", apart := false, narrowed := true }
def FnExactLineLengthsUptoSaid : Prop := fnExactLineLengthsUptoRow.holds Try.pinned (OpenSpec.upto fnExactLineLengthsSpec)

/-- 'laws.FnExactCoverageOf', WHERE WHAT IT READS IS OF BULK AT MOST 1048576: true; the input reads as it did. -/
def fnExactCoverageOfUptoRow : OpenClaim := { program := "ytdphaejpponmeaa", sum := "06d3e417aecf1186078f9c2fef82e538c61522136e350aab089ad8f09cb691b5", func := "loop.example/g01031/laws.FnExactCoverageOf", spec := "fnExactCoverageOf", apart := false, narrowed := true }
def FnExactCoverageOfUptoSaid : Prop := fnExactCoverageOfUptoRow.holds Try.pinned (OpenSpec.upto fnExactCoverageOfSpec)

/-- 'laws.FnExactOverlapOf', WHERE WHAT IT READS IS OF BULK AT MOST 1048576: true; the input reads as it did. -/
def fnExactOverlapOfUptoRow : OpenClaim := { program := "ytdphaejpponmeaa", sum := "06d3e417aecf1186078f9c2fef82e538c61522136e350aab089ad8f09cb691b5", func := "loop.example/g01031/laws.FnExactOverlapOf", spec := "fnExactOverlapOf", unfollowed := true, recurses := true, apart := false, narrowed := true }
def FnExactOverlapOfUptoSaid : Prop := fnExactOverlapOfUptoRow.holds Try.pinned (OpenSpec.upto fnExactOverlapOfSpec)

/-- 'laws.FnExactPlanLines', WHERE WHAT IT READS IS OF BULK AT MOST 1048576: true; the input reads as it did. -/
def fnExactPlanLinesUptoRow : OpenClaim := { program := "ytdphaejpponmeaa", sum := "06d3e417aecf1186078f9c2fef82e538c61522136e350aab089ad8f09cb691b5", func := "loop.example/g01031/laws.FnExactPlanLines", spec := "fnExactPlanLines", apart := false, narrowed := true }
def FnExactPlanLinesUptoSaid : Prop := fnExactPlanLinesUptoRow.holds Try.pinned (OpenSpec.upto fnExactPlanLinesSpec)

/-- 'laws.FnExactCellsCovered', WHERE WHAT IT READS IS OF BULK AT MOST 1048576: true; the input reads as it did. -/
def fnExactCellsCoveredUptoRow : OpenClaim := { program := "ytdphaejpponmeaa", sum := "06d3e417aecf1186078f9c2fef82e538c61522136e350aab089ad8f09cb691b5", func := "loop.example/g01031/laws.FnExactCellsCovered", spec := "fnExactCellsCovered", unfollowed := true, recurses := true, apart := false, narrowed := true }
def FnExactCellsCoveredUptoSaid : Prop := fnExactCellsCoveredUptoRow.holds Try.pinned (OpenSpec.upto fnExactCellsCoveredSpec)

/-- 'laws.FnExactUncoveredIn', WHERE WHAT IT READS IS OF BULK AT MOST 1048576: true; the input reads as it did. -/
def fnExactUncoveredInUptoRow : OpenClaim := { program := "ytdphaejpponmeaa", sum := "06d3e417aecf1186078f9c2fef82e538c61522136e350aab089ad8f09cb691b5", func := "loop.example/g01031/laws.FnExactUncoveredIn", spec := "fnExactUncoveredIn", unfollowed := true, recurses := true, apart := false, narrowed := true }
def FnExactUncoveredInUptoSaid : Prop := fnExactUncoveredInUptoRow.holds Try.pinned (OpenSpec.upto fnExactUncoveredInSpec)

/-- 'laws.FnExactTurnsOf', WHERE WHAT IT READS IS OF BULK AT MOST 1048576: true; the input reads as it did. -/
def fnExactTurnsOfUptoRow : OpenClaim := { program := "ytdphaejpponmeaa", sum := "06d3e417aecf1186078f9c2fef82e538c61522136e350aab089ad8f09cb691b5", func := "loop.example/g01031/laws.FnExactTurnsOf", spec := "fnExactTurnsOf", unfollowed := true, recurses := true, apart := false, narrowed := true }
def FnExactTurnsOfUptoSaid : Prop := fnExactTurnsOfUptoRow.holds Try.pinned (OpenSpec.upto fnExactTurnsOfSpec)

/-- 'laws.FnExactSailedOrder', WHERE WHAT IT READS IS OF BULK AT MOST 1048576: true; the input reads as it did. -/
def fnExactSailedOrderUptoRow : OpenClaim := { program := "ytdphaejpponmeaa", sum := "06d3e417aecf1186078f9c2fef82e538c61522136e350aab089ad8f09cb691b5", func := "loop.example/g01031/laws.FnExactSailedOrder", spec := "fnExactSailedOrder", unfollowed := true, recurses := true, apart := false, narrowed := true }
def FnExactSailedOrderUptoSaid : Prop := fnExactSailedOrderUptoRow.holds Try.pinned (OpenSpec.upto fnExactSailedOrderSpec)

/-- 'laws.FnLinePlans', WHERE WHAT IT READS IS OF BULK AT MOST 1048576: true; the input reads as it did. -/
def fnLinePlansUptoRow : OpenClaim := { program := "ytdphaejpponmeaa", sum := "06d3e417aecf1186078f9c2fef82e538c61522136e350aab089ad8f09cb691b5", func := "loop.example/g01031/laws.FnLinePlans", spec := "fnLinePlans", unfollowed := true, recurses := true, apart := false, narrowed := true }
def FnLinePlansUptoSaid : Prop := fnLinePlansUptoRow.holds Try.pinned (OpenSpec.upto fnLinePlansSpec)

/-- 'laws.FnCoverage', WHERE WHAT IT READS IS OF BULK AT MOST 1048576: true; the input reads as it did. -/
def fnCoverageUptoRow : OpenClaim := { program := "ytdphaejpponmeaa", sum := "06d3e417aecf1186078f9c2fef82e538c61522136e350aab089ad8f09cb691b5", func := "loop.example/g01031/laws.FnCoverage", spec := "fnCoverage", unfollowed := true, recurses := true, apart := false, narrowed := true }
def FnCoverageUptoSaid : Prop := fnCoverageUptoRow.holds Try.pinned (OpenSpec.upto fnCoverageSpec)

end Rows
end Go.Proofs.Ytdphaejpponmeaa
