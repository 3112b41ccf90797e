/-
  No cell of these rows narrows 'for every input' (looked for: loops, veiled, ifaces, maps, wideKeys, modest, calm, conditions, laid).
  DERIVED. THE GIVEN ROWS OF THIS SEAT. 11 by the template 'for every input the law returns true; each argument reads behind the call as it read before'; 0 by the template 'total and deterministic' (their statements: YtljpmccnppplgaaTotals.lean).
  GIVEN WITH THE SEED: the statements are not yours to turn. If you find one false, say at which input.
  Laid BY PROGRAM, IN A SANDBOX (cutbox-rows.mjs): the forced cells as the released guide's own fill.sh prints them over the translation 14323f1a8ee446bd… (all of the seat's roots in one cut). By AI agents, Wed Nov 11 2026. No macro, syntax, notation, axiom, sorry.
-/
import Derived.Test.YtljpmccnppplgaaChecked
import GoSem.Claim
import GoSem.ClaimJoined
import GoSem.ClaimMapViews
import Derived.JoinedTies
import Derived.KernelRfl
namespace Go.Proofs.Ytljpmccnppplgaa
/- THE CELL 'sum', in the pinned program and in every row, IS THE sha256 OF THE DUMP (.gsa) THAT YtljpmccnppplgaaProg.lean LOADS. Nothing in Lean hashes anything: it is a label: what it is worth is what the hold of that sum in a sandbox is worth. -/
noncomputable def Try.pinned : Pinned := { name := "ytljpmccnppplgaa", sum := "14323f1a8ee446bd94149e57d741748eb15eee2cd9d227ab58e486c6bdc4a07b", checked := Try.checked }
namespace Rows
def none {H : Type} : Left H := { results := [], args := [] }

/-- 'laws.FnExactAreStrata': WHATEVER THE INPUT: true; the input reads as it did. -/
def fnExactAreStrataSpec : ChangeSpec := { name := "fnExactAreStrata", fn := fun _ => fun
  | [d] => { results := [.lit (.bool true)], args := [d] }
  | _ => none }
def fnExactAreStrataRow : OpenClaim := { program := "ytljpmccnppplgaa", sum := "14323f1a8ee446bd94149e57d741748eb15eee2cd9d227ab58e486c6bdc4a07b", func := "loop.example/g01031/laws.FnExactAreStrata", spec := "fnExactAreStrata", apart := false }
def FnExactAreStrataSaid : Prop := fnExactAreStrataRow.holds Try.pinned (OpenSpec.ofChange fnExactAreStrataSpec)

/-- ITS FALSE NEIGHBOUR: 'it returns false'. Refute it at one input. -/
def fnExactAreStrataWrong : ChangeSpec := { name := "fnExactAreStrata", fn := fun _ => fun
  | [d] => { results := [.lit (.bool false)], args := [d] }
  | _ => none }
def FnExactAreStrataWrongFalsely : Prop := fnExactAreStrataRow.holds Try.pinned (OpenSpec.ofChange fnExactAreStrataWrong)

/-- 'laws.FnExactTotalDepth': WHATEVER THE INPUT: true; the input reads as it did. -/
def fnExactTotalDepthSpec : ChangeSpec := { name := "fnExactTotalDepth", fn := fun _ => fun
  | [d] => { results := [.lit (.bool true)], args := [d] }
  | _ => none }
def fnExactTotalDepthRow : OpenClaim := { program := "ytljpmccnppplgaa", sum := "14323f1a8ee446bd94149e57d741748eb15eee2cd9d227ab58e486c6bdc4a07b", func := "loop.example/g01031/laws.FnExactTotalDepth", spec := "fnExactTotalDepth", apart := false }
def FnExactTotalDepthSaid : Prop := fnExactTotalDepthRow.holds Try.pinned (OpenSpec.ofChange fnExactTotalDepthSpec)

/-- ITS FALSE NEIGHBOUR: 'it returns false'. Refute it at one input. -/
def fnExactTotalDepthWrong : ChangeSpec := { name := "fnExactTotalDepth", fn := fun _ => fun
  | [d] => { results := [.lit (.bool false)], args := [d] }
  | _ => none }
def FnExactTotalDepthWrongFalsely : Prop := fnExactTotalDepthRow.holds Try.pinned (OpenSpec.ofChange fnExactTotalDepthWrong)

/-- 'laws.FnExactSlopeIn': WHATEVER THE INPUT: true; the input reads as it did. -/
def fnExactSlopeInSpec : ChangeSpec := { name := "fnExactSlopeIn", fn := fun _ => fun
  | [d1, d2, d3, d4] => { results := [.lit (.bool true)], args := [d1, d2, d3, d4] }
  | _ => none }
def fnExactSlopeInRow : OpenClaim := { program := "ytljpmccnppplgaa", sum := "14323f1a8ee446bd94149e57d741748eb15eee2cd9d227ab58e486c6bdc4a07b", func := "loop.example/g01031/laws.FnExactSlopeIn", spec := "fnExactSlopeIn", apart := false }
def FnExactSlopeInSaid : Prop := fnExactSlopeInRow.holds Try.pinned (OpenSpec.ofChange fnExactSlopeInSpec)

/-- ITS FALSE NEIGHBOUR: 'it returns false'. Refute it at one input. -/
def fnExactSlopeInWrong : ChangeSpec := { name := "fnExactSlopeIn", fn := fun _ => fun
  | [d1, d2, d3, d4] => { results := [.lit (.bool false)], args := [d1, d2, d3, d4] }
  | _ => none }
def FnExactSlopeInWrongFalsely : Prop := fnExactSlopeInRow.holds Try.pinned (OpenSpec.ofChange fnExactSlopeInWrong)

/-- 'laws.FnExactDepthAfter': WHATEVER THE INPUT: true; the input reads as it did. -/
def fnExactDepthAfterSpec : ChangeSpec := { name := "fnExactDepthAfter", fn := fun _ => fun
  | [d1, d2] => { results := [.lit (.bool true)], args := [d1, d2] }
  | _ => none }
def fnExactDepthAfterRow : OpenClaim := { program := "ytljpmccnppplgaa", sum := "14323f1a8ee446bd94149e57d741748eb15eee2cd9d227ab58e486c6bdc4a07b", func := "loop.example/g01031/laws.FnExactDepthAfter", spec := "fnExactDepthAfter", apart := false }
def FnExactDepthAfterSaid : Prop := fnExactDepthAfterRow.holds Try.pinned (OpenSpec.ofChange fnExactDepthAfterSpec)

/-- ITS FALSE NEIGHBOUR: 'it returns false'. Refute it at one input. -/
def fnExactDepthAfterWrong : ChangeSpec := { name := "fnExactDepthAfter", fn := fun _ => fun
  | [d1, d2] => { results := [.lit (.bool false)], args := [d1, d2] }
  | _ => none }
def FnExactDepthAfterWrongFalsely : Prop := fnExactDepthAfterRow.holds Try.pinned (OpenSpec.ofChange fnExactDepthAfterWrong)

/-- 'laws.FnExactSlopeFor': WHATEVER THE INPUT: true; the input reads as it did. -/
def fnExactSlopeForSpec : ChangeSpec := { name := "fnExactSlopeFor", fn := fun _ => fun
  | [d1, d2] => { results := [.lit (.bool true)], args := [d1, d2] }
  | _ => none }
def fnExactSlopeForRow : OpenClaim := { program := "ytljpmccnppplgaa", sum := "14323f1a8ee446bd94149e57d741748eb15eee2cd9d227ab58e486c6bdc4a07b", func := "loop.example/g01031/laws.FnExactSlopeFor", spec := "fnExactSlopeFor", apart := false }
def FnExactSlopeForSaid : Prop := fnExactSlopeForRow.holds Try.pinned (OpenSpec.ofChange fnExactSlopeForSpec)

/-- ITS FALSE NEIGHBOUR: 'it returns false'. Refute it at one input. -/
def fnExactSlopeForWrong : ChangeSpec := { name := "fnExactSlopeFor", fn := fun _ => fun
  | [d1, d2] => { results := [.lit (.bool false)], args := [d1, d2] }
  | _ => none }
def FnExactSlopeForWrongFalsely : Prop := fnExactSlopeForRow.holds Try.pinned (OpenSpec.ofChange fnExactSlopeForWrong)

/-- 'laws.FnExactBendOf': WHATEVER THE INPUT: true; the input reads as it did. -/
def fnExactBendOfSpec : ChangeSpec := { name := "fnExactBendOf", fn := fun _ => fun
  | [d] => { results := [.lit (.bool true)], args := [d] }
  | _ => none }
def fnExactBendOfRow : OpenClaim := { program := "ytljpmccnppplgaa", sum := "14323f1a8ee446bd94149e57d741748eb15eee2cd9d227ab58e486c6bdc4a07b", func := "loop.example/g01031/laws.FnExactBendOf", spec := "fnExactBendOf", apart := false }
def FnExactBendOfSaid : Prop := fnExactBendOfRow.holds Try.pinned (OpenSpec.ofChange fnExactBendOfSpec)

/-- ITS FALSE NEIGHBOUR: 'it returns false'. Refute it at one input. -/
def fnExactBendOfWrong : ChangeSpec := { name := "fnExactBendOf", fn := fun _ => fun
  | [d] => { results := [.lit (.bool false)], args := [d] }
  | _ => none }
def FnExactBendOfWrongFalsely : Prop := fnExactBendOfRow.holds Try.pinned (OpenSpec.ofChange fnExactBendOfWrong)

/-- 'laws.FnExactSplitStrata': WHATEVER THE INPUT: true; the input reads as it did. -/
def fnExactSplitStrataSpec : ChangeSpec := { name := "fnExactSplitStrata", fn := fun _ => fun
  | [d1, d2] => { results := [.lit (.bool true)], args := [d1, d2] }
  | _ => none }
def fnExactSplitStrataRow : OpenClaim := { program := "ytljpmccnppplgaa", sum := "14323f1a8ee446bd94149e57d741748eb15eee2cd9d227ab58e486c6bdc4a07b", func := "loop.example/g01031/laws.FnExactSplitStrata", spec := "fnExactSplitStrata", apart := false }
def FnExactSplitStrataSaid : Prop := fnExactSplitStrataRow.holds Try.pinned (OpenSpec.ofChange fnExactSplitStrataSpec)

/-- ITS FALSE NEIGHBOUR: 'it returns false'. Refute it at one input. -/
def fnExactSplitStrataWrong : ChangeSpec := { name := "fnExactSplitStrata", fn := fun _ => fun
  | [d1, d2] => { results := [.lit (.bool false)], args := [d1, d2] }
  | _ => none }
def FnExactSplitStrataWrongFalsely : Prop := fnExactSplitStrataRow.holds Try.pinned (OpenSpec.ofChange fnExactSplitStrataWrong)

/-- 'laws.FnExactDownTime': WHATEVER THE INPUT: true; the input reads as it did. -/
def fnExactDownTimeSpec : ChangeSpec := { name := "fnExactDownTime", fn := fun _ => fun
  | [d1, d2] => { results := [.lit (.bool true)], args := [d1, d2] }
  | _ => none }
def fnExactDownTimeRow : OpenClaim := { program := "ytljpmccnppplgaa", sum := "14323f1a8ee446bd94149e57d741748eb15eee2cd9d227ab58e486c6bdc4a07b", func := "loop.example/g01031/laws.FnExactDownTime", spec := "fnExactDownTime", apart := false }
def FnExactDownTimeSaid : Prop := fnExactDownTimeRow.holds Try.pinned (OpenSpec.ofChange fnExactDownTimeSpec)

/-- ITS FALSE NEIGHBOUR: 'it returns false'. Refute it at one input. -/
def fnExactDownTimeWrong : ChangeSpec := { name := "fnExactDownTime", fn := fun _ => fun
  | [d1, d2] => { results := [.lit (.bool false)], args := [d1, d2] }
  | _ => none }
def FnExactDownTimeWrongFalsely : Prop := fnExactDownTimeRow.holds Try.pinned (OpenSpec.ofChange fnExactDownTimeWrong)

/-- 'laws.FnExactRunTo': WHATEVER THE INPUT: true; the input reads as it did. -/
def fnExactRunToSpec : ChangeSpec := { name := "fnExactRunTo", fn := fun _ => fun
  | [d1, d2, d3, d4] => { results := [.lit (.bool true)], args := [d1, d2, d3, d4] }
  | _ => none }
def fnExactRunToRow : OpenClaim := { program := "ytljpmccnppplgaa", sum := "14323f1a8ee446bd94149e57d741748eb15eee2cd9d227ab58e486c6bdc4a07b", func := "loop.example/g01031/laws.FnExactRunTo", spec := "fnExactRunTo", apart := false }
def FnExactRunToSaid : Prop := fnExactRunToRow.holds Try.pinned (OpenSpec.ofChange fnExactRunToSpec)

/-- ITS FALSE NEIGHBOUR: 'it returns false'. Refute it at one input. -/
def fnExactRunToWrong : ChangeSpec := { name := "fnExactRunTo", fn := fun _ => fun
  | [d1, d2, d3, d4] => { results := [.lit (.bool false)], args := [d1, d2, d3, d4] }
  | _ => none }
def FnExactRunToWrongFalsely : Prop := fnExactRunToRow.holds Try.pinned (OpenSpec.ofChange fnExactRunToWrong)

/-- 'laws.FnRays': WHATEVER THE INPUT: true; the input reads as it did. -/
def fnRaysSpec : ChangeSpec := { name := "fnRays", fn := fun _ => fun
  | [d] => { results := [.lit (.bool true)], args := [d] }
  | _ => none }
def fnRaysRow : OpenClaim := { program := "ytljpmccnppplgaa", sum := "14323f1a8ee446bd94149e57d741748eb15eee2cd9d227ab58e486c6bdc4a07b", func := "loop.example/g01031/laws.FnRays", spec := "fnRays", apart := false }
def FnRaysSaid : Prop := fnRaysRow.holds Try.pinned (OpenSpec.ofChange fnRaysSpec)

/-- ITS FALSE NEIGHBOUR: 'it returns false'. Refute it at one input. -/
def fnRaysWrong : ChangeSpec := { name := "fnRays", fn := fun _ => fun
  | [d] => { results := [.lit (.bool false)], args := [d] }
  | _ => none }
def FnRaysWrongFalsely : Prop := fnRaysRow.holds Try.pinned (OpenSpec.ofChange fnRaysWrong)

/-- 'laws.FnDownTimes': WHATEVER THE INPUT: true; the input reads as it did. -/
def fnDownTimesSpec : ChangeSpec := { name := "fnDownTimes", fn := fun _ => fun
  | [d] => { results := [.lit (.bool true)], args := [d] }
  | _ => none }
def fnDownTimesRow : OpenClaim := { program := "ytljpmccnppplgaa", sum := "14323f1a8ee446bd94149e57d741748eb15eee2cd9d227ab58e486c6bdc4a07b", func := "loop.example/g01031/laws.FnDownTimes", spec := "fnDownTimes", apart := false }
def FnDownTimesSaid : Prop := fnDownTimesRow.holds Try.pinned (OpenSpec.ofChange fnDownTimesSpec)

/-- ITS FALSE NEIGHBOUR: 'it returns false'. Refute it at one input. -/
def fnDownTimesWrong : ChangeSpec := { name := "fnDownTimes", fn := fun _ => fun
  | [d] => { results := [.lit (.bool false)], args := [d] }
  | _ => none }
def FnDownTimesWrongFalsely : Prop := fnDownTimesRow.holds Try.pinned (OpenSpec.ofChange fnDownTimesWrong)

/- THE SECOND FORM. 'bulk': how many values and letters a reading holds, each counted each time it is reached (what is shared counts as often as it is met; a slice's spare places count too). A statement '..UptoSaid' is the law's where the arguments, and the package variables that the reading takes, are together of bulk at most 1048576: NARROWER than '..Said'. Prove '..Said' where nothing that the law and all that it calls make is longer than what came in: it says more and counts as full. Else prove '..UptoSaid'. A law counts once. -/
mutual
def uptoBulk {H : Type} : DataW H → Nat
  | .lit (.string bytes) => bytes.length + 1
  | .lit _ => 1
  | .nil => 1
  | .ptr d => uptoBulk d + 1
  | .slice elems spare => uptoBulkAll elems + uptoBulkAll spare + 1
  | .agg parts => uptoBulkAll parts + 1
  | .iface _ d => uptoBulk d + 1
  | .map entries => uptoBulkEntries entries + 1
  | .held _ => 1
def uptoBulkAll {H : Type} : List (DataW H) → Nat
  | [] => 0
  | d :: r => uptoBulk d + uptoBulkAll r
def uptoBulkEntries {H : Type} : List (Lit × DataW H) → Nat
  | [] => 0
  | x :: r => uptoBulkEntry x + uptoBulkEntries r
def uptoBulkEntry {H : Type} : Lit × DataW H → Nat
  | (.string bytes, d) => bytes.length + uptoBulk d + 1
  | (_, d) => uptoBulk d + 1
 end
def uptoSmall : (H : Type) → List (DataW H) → Bool := fun _ ds => decide (uptoBulkAll ds ≤ 1048576)
def OpenSpec.upto (s : _root_.Go.ChangeSpec) : _root_.Go.OpenSpec := { _root_.Go.OpenSpec.ofChange s with cond := some uptoSmall }

/-- 'laws.FnExactAreStrata', WHERE WHAT IT READS IS OF BULK AT MOST 1048576: true; the input reads as it did. -/
def fnExactAreStrataUptoRow : OpenClaim := { program := "ytljpmccnppplgaa", sum := "14323f1a8ee446bd94149e57d741748eb15eee2cd9d227ab58e486c6bdc4a07b", func := "loop.example/g01031/laws.FnExactAreStrata", spec := "fnExactAreStrata", apart := false, narrowed := true }
def FnExactAreStrataUptoSaid : Prop := fnExactAreStrataUptoRow.holds Try.pinned (OpenSpec.upto fnExactAreStrataSpec)

/-- 'laws.FnExactTotalDepth', WHERE WHAT IT READS IS OF BULK AT MOST 1048576: true; the input reads as it did. -/
def fnExactTotalDepthUptoRow : OpenClaim := { program := "ytljpmccnppplgaa", sum := "14323f1a8ee446bd94149e57d741748eb15eee2cd9d227ab58e486c6bdc4a07b", func := "loop.example/g01031/laws.FnExactTotalDepth", spec := "fnExactTotalDepth", apart := false, narrowed := true }
def FnExactTotalDepthUptoSaid : Prop := fnExactTotalDepthUptoRow.holds Try.pinned (OpenSpec.upto fnExactTotalDepthSpec)

/-- 'laws.FnExactSlopeIn', WHERE WHAT IT READS IS OF BULK AT MOST 1048576: true; the input reads as it did. -/
def fnExactSlopeInUptoRow : OpenClaim := { program := "ytljpmccnppplgaa", sum := "14323f1a8ee446bd94149e57d741748eb15eee2cd9d227ab58e486c6bdc4a07b", func := "loop.example/g01031/laws.FnExactSlopeIn", spec := "fnExactSlopeIn", apart := false, narrowed := true }
def FnExactSlopeInUptoSaid : Prop := fnExactSlopeInUptoRow.holds Try.pinned (OpenSpec.upto fnExactSlopeInSpec)

/-- 'laws.FnExactDepthAfter', WHERE WHAT IT READS IS OF BULK AT MOST 1048576: true; the input reads as it did. -/
def fnExactDepthAfterUptoRow : OpenClaim := { program := "ytljpmccnppplgaa", sum := "14323f1a8ee446bd94149e57d741748eb15eee2cd9d227ab58e486c6bdc4a07b", func := "loop.example/g01031/laws.FnExactDepthAfter", spec := "fnExactDepthAfter", apart := false, narrowed := true }
def FnExactDepthAfterUptoSaid : Prop := fnExactDepthAfterUptoRow.holds Try.pinned (OpenSpec.upto fnExactDepthAfterSpec)

/-- 'laws.FnExactSlopeFor', WHERE WHAT IT READS IS OF BULK AT MOST 1048576: true; the input reads as it did. -/
def fnExactSlopeForUptoRow : OpenClaim := { program := "ytljpmccnppplgaa", sum := "14323f1a8ee446bd94149e57d741748eb15eee2cd9d227ab58e486c6bdc4a07b", func := "loop.example/g01031/laws.FnExactSlopeFor", spec := "fnExactSlopeFor", apart := false, narrowed := true }
def FnExactSlopeForUptoSaid : Prop := fnExactSlopeForUptoRow.holds Try.pinned (OpenSpec.upto fnExactSlopeForSpec)

/-- 'laws.FnExactBendOf', WHERE WHAT IT READS IS OF BULK AT MOST 1048576: true; the input reads as it did. -/
def fnExactBendOfUptoRow : OpenClaim := { program := "ytljpmccnppplgaa", sum := "14323f1a8ee446bd94149e57d741748eb15eee2cd9d227ab58e486c6bdc4a07b", func := "loop.example/g01031/laws.FnExactBendOf", spec := "fnExactBendOf", apart := false, narrowed := true }
def FnExactBendOfUptoSaid : Prop := fnExactBendOfUptoRow.holds Try.pinned (OpenSpec.upto fnExactBendOfSpec)

/-- 'laws.FnExactSplitStrata', WHERE WHAT IT READS IS OF BULK AT MOST 1048576: true; the input reads as it did. -/
def fnExactSplitStrataUptoRow : OpenClaim := { program := "ytljpmccnppplgaa", sum := "14323f1a8ee446bd94149e57d741748eb15eee2cd9d227ab58e486c6bdc4a07b", func := "loop.example/g01031/laws.FnExactSplitStrata", spec := "fnExactSplitStrata", apart := false, narrowed := true }
def FnExactSplitStrataUptoSaid : Prop := fnExactSplitStrataUptoRow.holds Try.pinned (OpenSpec.upto fnExactSplitStrataSpec)

/-- 'laws.FnExactDownTime', WHERE WHAT IT READS IS OF BULK AT MOST 1048576: true; the input reads as it did. -/
def fnExactDownTimeUptoRow : OpenClaim := { program := "ytljpmccnppplgaa", sum := "14323f1a8ee446bd94149e57d741748eb15eee2cd9d227ab58e486c6bdc4a07b", func := "loop.example/g01031/laws.FnExactDownTime", spec := "fnExactDownTime", apart := false, narrowed := true }
def FnExactDownTimeUptoSaid : Prop := fnExactDownTimeUptoRow.holds Try.pinned (OpenSpec.upto fnExactDownTimeSpec)

/-- 'laws.FnExactRunTo', WHERE WHAT IT READS IS OF BULK AT MOST 1048576: true; the input reads as it did. -/
def fnExactRunToUptoRow : OpenClaim := { program := "ytljpmccnppplgaa", sum := "14323f1a8ee446bd94149e57d741748eb15eee2cd9d227ab58e486c6bdc4a07b", func := "loop.example/g01031/laws.FnExactRunTo", spec := "fnExactRunTo", apart := false, narrowed := true }
def FnExactRunToUptoSaid : Prop := fnExactRunToUptoRow.holds Try.pinned (OpenSpec.upto fnExactRunToSpec)

/-- 'laws.FnRays', WHERE WHAT IT READS IS OF BULK AT MOST 1048576: true; the input reads as it did. -/
def fnRaysUptoRow : OpenClaim := { program := "ytljpmccnppplgaa", sum := "14323f1a8ee446bd94149e57d741748eb15eee2cd9d227ab58e486c6bdc4a07b", func := "loop.example/g01031/laws.FnRays", spec := "fnRays", apart := false, narrowed := true }
def FnRaysUptoSaid : Prop := fnRaysUptoRow.holds Try.pinned (OpenSpec.upto fnRaysSpec)

/-- 'laws.FnDownTimes', WHERE WHAT IT READS IS OF BULK AT MOST 1048576: true; the input reads as it did. -/
def fnDownTimesUptoRow : OpenClaim := { program := "ytljpmccnppplgaa", sum := "14323f1a8ee446bd94149e57d741748eb15eee2cd9d227ab58e486c6bdc4a07b", func := "loop.example/g01031/laws.FnDownTimes", spec := "fnDownTimes", apart := false, narrowed := true }
def FnDownTimesUptoSaid : Prop := fnDownTimesUptoRow.holds Try.pinned (OpenSpec.upto fnDownTimesSpec)

end Rows
end Go.Proofs.Ytljpmccnppplgaa
