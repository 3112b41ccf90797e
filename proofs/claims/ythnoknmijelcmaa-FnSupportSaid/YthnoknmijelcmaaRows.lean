/-
  No cell of these rows narrows 'for every input' (looked for: loops, veiled, ifaces, maps, wideKeys, modest, calm, conditions, laid).
  DERIVED. THE GIVEN ROWS OF THIS SEAT. 9 by the template 'for every input the law returns true; each argument reads behind the call as it read before'; 0 by the template 'total and deterministic' (their statements: YthnoknmijelcmaaTotals.lean).
  GIVEN WITH THE SEED: the statements are not yours to turn. If you find one false, say at which input.
  Laid BY PROGRAM, IN A SANDBOX (cutbox-rows.mjs): the forced cells as the released guide's own fill.sh prints them over the translation c50650a2f8d853fc… (all of the seat's roots in one cut). By AI agents, Wed Nov 11 2026. No macro, syntax, notation, axiom, sorry.
-/
import Derived.Test.YthnoknmijelcmaaChecked
import GoSem.Claim
import GoSem.ClaimJoined
import GoSem.ClaimMapViews
import Derived.JoinedTies
import Derived.KernelRfl
namespace Go.Proofs.Ythnoknmijelcmaa
/- THE CELL 'sum', in the pinned program and in every row, IS THE sha256 OF THE DUMP (.gsa) THAT YthnoknmijelcmaaProg.lean LOADS. Nothing in Lean hashes anything: it is a label: what it is worth is what the hold of that sum in a sandbox is worth. -/
noncomputable def Try.pinned : Pinned := { name := "ythnoknmijelcmaa", sum := "c50650a2f8d853fc033ac07c60fed16965ba05e3d44f34513f60fe23d6136ede", checked := Try.checked }
namespace Rows
def none {H : Type} : Left H := { results := [], args := [] }

/-- 'laws.FnExactIsSounding': WHATEVER THE INPUT: true; the input reads as it did. -/
def fnExactIsSoundingSpec : ChangeSpec := { name := "fnExactIsSounding", fn := fun _ => fun
  | [d] => { results := [.lit (.bool true)], args := [d] }
  | _ => none }
def fnExactIsSoundingRow : OpenClaim := { program := "ythnoknmijelcmaa", sum := "c50650a2f8d853fc033ac07c60fed16965ba05e3d44f34513f60fe23d6136ede", func := "loop.example/g01031/laws.FnExactIsSounding", spec := "fnExactIsSounding", apart := false }
def FnExactIsSoundingSaid : Prop := fnExactIsSoundingRow.holds Try.pinned (OpenSpec.ofChange fnExactIsSoundingSpec)

/-- ITS FALSE NEIGHBOUR: 'it returns false'. Refute it at one input. -/
def fnExactIsSoundingWrong : ChangeSpec := { name := "fnExactIsSounding", fn := fun _ => fun
  | [d] => { results := [.lit (.bool false)], args := [d] }
  | _ => none }
def FnExactIsSoundingWrongFalsely : Prop := fnExactIsSoundingRow.holds Try.pinned (OpenSpec.ofChange fnExactIsSoundingWrong)

/-- 'laws.FnExactAreSoundings': WHATEVER THE INPUT: true; the input reads as it did. -/
def fnExactAreSoundingsSpec : ChangeSpec := { name := "fnExactAreSoundings", fn := fun _ => fun
  | [d] => { results := [.lit (.bool true)], args := [d] }
  | _ => none }
def fnExactAreSoundingsRow : OpenClaim := { program := "ythnoknmijelcmaa", sum := "c50650a2f8d853fc033ac07c60fed16965ba05e3d44f34513f60fe23d6136ede", func := "loop.example/g01031/laws.FnExactAreSoundings", spec := "fnExactAreSoundings", apart := false }
def FnExactAreSoundingsSaid : Prop := fnExactAreSoundingsRow.holds Try.pinned (OpenSpec.ofChange fnExactAreSoundingsSpec)

/-- ITS FALSE NEIGHBOUR: 'it returns false'. Refute it at one input. -/
def fnExactAreSoundingsWrong : ChangeSpec := { name := "fnExactAreSoundings", fn := fun _ => fun
  | [d] => { results := [.lit (.bool false)], args := [d] }
  | _ => none }
def FnExactAreSoundingsWrongFalsely : Prop := fnExactAreSoundingsRow.holds Try.pinned (OpenSpec.ofChange fnExactAreSoundingsWrong)

/-- 'laws.FnExactSupportedDepth': WHATEVER THE INPUT: true; the input reads as it did. -/
def fnExactSupportedDepthSpec : ChangeSpec := { name := "fnExactSupportedDepth", fn := fun _ => fun
  | [d1, d2, d3] => { results := [.lit (.bool true)], args := [d1, d2, d3] }
  | _ => none }
def fnExactSupportedDepthRow : OpenClaim := { program := "ythnoknmijelcmaa", sum := "c50650a2f8d853fc033ac07c60fed16965ba05e3d44f34513f60fe23d6136ede", func := "loop.example/g01031/laws.FnExactSupportedDepth", spec := "fnExactSupportedDepth", unfollowed := true, recurses := true, apart := false }
def FnExactSupportedDepthSaid : Prop := fnExactSupportedDepthRow.holds Try.pinned (OpenSpec.ofChange fnExactSupportedDepthSpec)

/-- ITS FALSE NEIGHBOUR: 'it returns false'. Refute it at one input. -/
def fnExactSupportedDepthWrong : ChangeSpec := { name := "fnExactSupportedDepth", fn := fun _ => fun
  | [d1, d2, d3] => { results := [.lit (.bool false)], args := [d1, d2, d3] }
  | _ => none }
def FnExactSupportedDepthWrongFalsely : Prop := fnExactSupportedDepthRow.holds Try.pinned (OpenSpec.ofChange fnExactSupportedDepthWrong)

/-- 'laws.FnExactAllAgree': WHATEVER THE INPUT: true; the input reads as it did. -/
def fnExactAllAgreeSpec : ChangeSpec := { name := "fnExactAllAgree", fn := fun _ => fun
  | [d] => { results := [.lit (.bool true)], args := [d] }
  | _ => none }
def fnExactAllAgreeRow : OpenClaim := { program := "ythnoknmijelcmaa", sum := "c50650a2f8d853fc033ac07c60fed16965ba05e3d44f34513f60fe23d6136ede", func := "loop.example/g01031/laws.FnExactAllAgree", spec := "fnExactAllAgree", apart := false }
def FnExactAllAgreeSaid : Prop := fnExactAllAgreeRow.holds Try.pinned (OpenSpec.ofChange fnExactAllAgreeSpec)

/-- ITS FALSE NEIGHBOUR: 'it returns false'. Refute it at one input. -/
def fnExactAllAgreeWrong : ChangeSpec := { name := "fnExactAllAgree", fn := fun _ => fun
  | [d] => { results := [.lit (.bool false)], args := [d] }
  | _ => none }
def FnExactAllAgreeWrongFalsely : Prop := fnExactAllAgreeRow.holds Try.pinned (OpenSpec.ofChange fnExactAllAgreeWrong)

/-- 'laws.FnExactDoAgree': WHATEVER THE INPUT: true; the input reads as it did. -/
def fnExactDoAgreeSpec : ChangeSpec := { name := "fnExactDoAgree", fn := fun _ => fun
  | [d1, d2, d3] => { results := [.lit (.bool true)], args := [d1, d2, d3] }
  | _ => none }
def fnExactDoAgreeRow : OpenClaim := { program := "ythnoknmijelcmaa", sum := "c50650a2f8d853fc033ac07c60fed16965ba05e3d44f34513f60fe23d6136ede", func := "loop.example/g01031/laws.FnExactDoAgree", spec := "fnExactDoAgree", unfollowed := true, recurses := true, apart := false }
def FnExactDoAgreeSaid : Prop := fnExactDoAgreeRow.holds Try.pinned (OpenSpec.ofChange fnExactDoAgreeSpec)

/-- ITS FALSE NEIGHBOUR: 'it returns false'. Refute it at one input. -/
def fnExactDoAgreeWrong : ChangeSpec := { name := "fnExactDoAgree", fn := fun _ => fun
  | [d1, d2, d3] => { results := [.lit (.bool false)], args := [d1, d2, d3] }
  | _ => none }
def FnExactDoAgreeWrongFalsely : Prop := fnExactDoAgreeRow.holds Try.pinned (OpenSpec.ofChange fnExactDoAgreeWrong)

/-- 'laws.FnExactMeanDepth': WHATEVER THE INPUT: true; the input reads as it did. -/
def fnExactMeanDepthSpec : ChangeSpec := { name := "fnExactMeanDepth", fn := fun _ => fun
  | [d] => { results := [.lit (.bool true)], args := [d] }
  | _ => none }
def fnExactMeanDepthRow : OpenClaim := { program := "ythnoknmijelcmaa", sum := "c50650a2f8d853fc033ac07c60fed16965ba05e3d44f34513f60fe23d6136ede", func := "loop.example/g01031/laws.FnExactMeanDepth", spec := "fnExactMeanDepth", apart := false }
def FnExactMeanDepthSaid : Prop := fnExactMeanDepthRow.holds Try.pinned (OpenSpec.ofChange fnExactMeanDepthSpec)

/-- ITS FALSE NEIGHBOUR: 'it returns false'. Refute it at one input. -/
def fnExactMeanDepthWrong : ChangeSpec := { name := "fnExactMeanDepth", fn := fun _ => fun
  | [d] => { results := [.lit (.bool false)], args := [d] }
  | _ => none }
def FnExactMeanDepthWrongFalsely : Prop := fnExactMeanDepthRow.holds Try.pinned (OpenSpec.ofChange fnExactMeanDepthWrong)

/-- 'laws.FnExactShoalestIn': WHATEVER THE INPUT: true; the input reads as it did. -/
def fnExactShoalestInSpec : ChangeSpec := { name := "fnExactShoalestIn", fn := fun _ => fun
  | [d1, d2] => { results := [.lit (.bool true)], args := [d1, d2] }
  | _ => none }
def fnExactShoalestInRow : OpenClaim := { program := "ythnoknmijelcmaa", sum := "c50650a2f8d853fc033ac07c60fed16965ba05e3d44f34513f60fe23d6136ede", func := "loop.example/g01031/laws.FnExactShoalestIn", spec := "fnExactShoalestIn", unfollowed := true, recurses := true, apart := false }
def FnExactShoalestInSaid : Prop := fnExactShoalestInRow.holds Try.pinned (OpenSpec.ofChange fnExactShoalestInSpec)

/-- ITS FALSE NEIGHBOUR: 'it returns false'. Refute it at one input. -/
def fnExactShoalestInWrong : ChangeSpec := { name := "fnExactShoalestIn", fn := fun _ => fun
  | [d1, d2] => { results := [.lit (.bool false)], args := [d1, d2] }
  | _ => none }
def FnExactShoalestInWrongFalsely : Prop := fnExactShoalestInRow.holds Try.pinned (OpenSpec.ofChange fnExactShoalestInWrong)

/-- 'laws.FnExactLowerAll': WHATEVER THE INPUT: true; the input reads as it did. -/
def fnExactLowerAllSpec : ChangeSpec := { name := "fnExactLowerAll", fn := fun _ => fun
  | [d1, d2, d3] => { results := [.lit (.bool true)], args := [d1, d2, d3] }
  | _ => none }
def fnExactLowerAllRow : OpenClaim := { program := "ythnoknmijelcmaa", sum := "c50650a2f8d853fc033ac07c60fed16965ba05e3d44f34513f60fe23d6136ede", func := "loop.example/g01031/laws.FnExactLowerAll", spec := "fnExactLowerAll", apart := false }
def FnExactLowerAllSaid : Prop := fnExactLowerAllRow.holds Try.pinned (OpenSpec.ofChange fnExactLowerAllSpec)

/-- ITS FALSE NEIGHBOUR: 'it returns false'. Refute it at one input. -/
def fnExactLowerAllWrong : ChangeSpec := { name := "fnExactLowerAll", fn := fun _ => fun
  | [d1, d2, d3] => { results := [.lit (.bool false)], args := [d1, d2, d3] }
  | _ => none }
def FnExactLowerAllWrongFalsely : Prop := fnExactLowerAllRow.holds Try.pinned (OpenSpec.ofChange fnExactLowerAllWrong)

/-- 'laws.FnSupport': WHATEVER THE INPUT: true; the input reads as it did. -/
def fnSupportSpec : ChangeSpec := { name := "fnSupport", fn := fun _ => fun
  | [d] => { results := [.lit (.bool true)], args := [d] }
  | _ => none }
def fnSupportRow : OpenClaim := { program := "ythnoknmijelcmaa", sum := "c50650a2f8d853fc033ac07c60fed16965ba05e3d44f34513f60fe23d6136ede", func := "loop.example/g01031/laws.FnSupport", spec := "fnSupport", unfollowed := true, recurses := true, apart := false }
def FnSupportSaid : Prop := fnSupportRow.holds Try.pinned (OpenSpec.ofChange fnSupportSpec)

/-- ITS FALSE NEIGHBOUR: 'it returns false'. Refute it at one input. -/
def fnSupportWrong : ChangeSpec := { name := "fnSupport", fn := fun _ => fun
  | [d] => { results := [.lit (.bool false)], args := [d] }
  | _ => none }
def FnSupportWrongFalsely : Prop := fnSupportRow.holds Try.pinned (OpenSpec.ofChange fnSupportWrong)

/- THE SECOND FORM. 'bulk': how many values and letters a reading holds, each counted each time it is reached (what is shared counts as often as it is met; a slice's spare places count too). A statement '..UptoSaid' is the law's where the arguments, and the package variables that the reading takes, are together of bulk at most 1048576: NARROWER than '..Said'. Prove '..Said' where nothing that the law and all that it calls make is longer than what came in: it says more and counts as full. Else prove '..UptoSaid'. A law counts once. -/
mutual
def uptoBulk {H : Type} : DataW H → Nat
  | .lit (.string bytes) => bytes.length + 1
  | .lit _ => 1
  | .nil => 1
  | .ptr d => uptoBulk d + 1
  | .slice elems spare => uptoBulkAll elems + uptoBulkAll spare + 1
  | .agg parts => uptoBulkAll parts + 1
  | .iface _ d => uptoBulk d + 1
  | .map entries => uptoBulkEntries entries + 1
  | .held _ => 1
def uptoBulkAll {H : Type} : List (DataW H) → Nat
  | [] => 0
  | d :: r => uptoBulk d + uptoBulkAll r
def uptoBulkEntries {H : Type} : List (Lit × DataW H) → Nat
  | [] => 0
  | x :: r => uptoBulkEntry x + uptoBulkEntries r
def uptoBulkEntry {H : Type} : Lit × DataW H → Nat
  | (.string bytes, d) => bytes.length + uptoBulk d + 1
  | (_, d) => uptoBulk d + 1
 end
def uptoSmall : (H : Type) → List (DataW H) → Bool := fun _ ds => decide (uptoBulkAll ds ≤ 1048576)
def OpenSpec.upto (s : _root_.Go.ChangeSpec) : _root_.Go.OpenSpec := { _root_.Go.OpenSpec.ofChange s with cond := some uptoSmall }

/-- 'laws.FnExactIsSounding', WHERE WHAT IT READS IS OF BULK AT MOST 1048576: true; the input reads as it did. -/
def fnExactIsSoundingUptoRow : OpenClaim := { program := "ythnoknmijelcmaa", sum := "c50650a2f8d853fc033ac07c60fed16965ba05e3d44f34513f60fe23d6136ede", func := "loop.example/g01031/laws.FnExactIsSounding", spec := "fnExactIsSounding", apart := false, narrowed := true }
def FnExactIsSoundingUptoSaid : Prop := fnExactIsSoundingUptoRow.holds Try.pinned (OpenSpec.upto fnExactIsSoundingSpec)

/-- 'laws.FnExactAreSoundings', WHERE WHAT IT READS IS OF BULK AT MOST 1048576: true; the input reads as it did. -/
def fnExactAreSoundingsUptoRow : OpenClaim := { program := "ythnoknmijelcmaa", sum := "c50650a2f8d853fc033ac07c60fed16965ba05e3d44f34513f60fe23d6136ede", func := "loop.example/g01031/laws.FnExactAreSoundings", spec := "fnExactAreSoundings", apart := false, narrowed := true }
def FnExactAreSoundingsUptoSaid : Prop := fnExactAreSoundingsUptoRow.holds Try.pinned (OpenSpec.upto fnExactAreSoundingsSpec)

/-- 'laws.FnExactSupportedDepth', WHERE WHAT IT READS IS OF BULK AT MOST 1048576: true; the input reads as it did. -/
def fnExactSupportedDepthUptoRow : OpenClaim := { program := "ythnoknmijelcmaa", sum := "c50650a2f8d853fc033ac07c60fed16965ba05e3d44f34513f60fe23d6136ede", func := "loop.example/g01031/laws.FnExactSupportedDepth", spec := "fnExactSupportedDepth", unfollowed := true, recurses := true, apart := false, narrowed := true }
def FnExactSupportedDepthUptoSaid : Prop := fnExactSupportedDepthUptoRow.holds Try.pinned (OpenSpec.upto fnExactSupportedDepthSpec)

/-- 'laws.FnExactAllAgree', WHERE WHAT IT READS IS OF BULK AT MOST 1048576: true; the input reads as it did. -/
def fnExactAllAgreeUptoRow : OpenClaim := { program := "ythnoknmijelcmaa", sum := "c50650a2f8d853fc033ac07c60fed16965ba05e3d44f34513f60fe23d6136ede", func := "loop.example/g01031/laws.FnExactAllAgree", spec := "fnExactAllAgree", apart := false, narrowed := true }
def FnExactAllAgreeUptoSaid : Prop := fnExactAllAgreeUptoRow.holds Try.pinned (OpenSpec.upto fnExactAllAgreeSpec)

/-- 'laws.FnExactDoAgree', WHERE WHAT IT READS IS OF BULK AT MOST 1048576: true; the input reads as it did. -/
def fnExactDoAgreeUptoRow : OpenClaim := { program := "ythnoknmijelcmaa", sum := "c50650a2f8d853fc033ac07c60fed16965ba05e3d44f34513f60fe23d6136ede", func := "loop.example/g01031/laws.FnExactDoAgree", spec := "fnExactDoAgree", unfollowed := true, recurses := true, apart := false, narrowed := true }
def FnExactDoAgreeUptoSaid : Prop := fnExactDoAgreeUptoRow.holds Try.pinned (OpenSpec.upto fnExactDoAgreeSpec)

/-- 'laws.FnExactMeanDepth', WHERE WHAT IT READS IS OF BULK AT MOST 1048576: true; the input reads as it did. -/
def fnExactMeanDepthUptoRow : OpenClaim := { program := "ythnoknmijelcmaa", sum := "c50650a2f8d853fc033ac07c60fed16965ba05e3d44f34513f60fe23d6136ede", func := "loop.example/g01031/laws.FnExactMeanDepth", spec := "fnExactMeanDepth", apart := false, narrowed := true }
def FnExactMeanDepthUptoSaid : Prop := fnExactMeanDepthUptoRow.holds Try.pinned (OpenSpec.upto fnExactMeanDepthSpec)

/-- 'laws.FnExactShoalestIn', WHERE WHAT IT READS IS OF BULK AT MOST 1048576: true; the input reads as it did. -/
def fnExactShoalestInUptoRow : OpenClaim := { program := "ythnoknmijelcmaa", sum := "c50650a2f8d853fc033ac07c60fed16965ba05e3d44f34513f60fe23d6136ede", func := "loop.example/g01031/laws.FnExactShoalestIn", spec := "fnExactShoalestIn", unfollowed := true, recurses := true, apart := false, narrowed := true }
def FnExactShoalestInUptoSaid : Prop := fnExactShoalestInUptoRow.holds Try.pinned (OpenSpec.upto fnExactShoalestInSpec)

/-- 'laws.FnExactLowerAll', WHERE WHAT IT READS IS OF BULK AT MOST 1048576: true; the input reads as it did. -/
def fnExactLowerAllUptoRow : OpenClaim := { program := "ythnoknmijelcmaa", sum := "c50650a2f8d853fc033ac07c60fed16965ba05e3d44f34513f60fe23d6136ede", func := "loop.example/g01031/laws.FnExactLowerAll", spec := "fnExactLowerAll", apart := false, narrowed := true }
def FnExactLowerAllUptoSaid : Prop := fnExactLowerAllUptoRow.holds Try.pinned (OpenSpec.upto fnExactLowerAllSpec)

/-- 'laws.FnSupport', WHERE WHAT IT READS IS OF BULK AT MOST 1048576: true; the input reads as it did. -/
def fnSupportUptoRow : OpenClaim := { program := "ythnoknmijelcmaa", sum := "c50650a2f8d853fc033ac07c60fed16965ba05e3d44f34513f60fe23d6136ede", func := "loop.example/g01031/laws.FnSupport", spec := "fnSupport", unfollowed := true, recurses := true, apart := false, narrowed := true }
def FnSupportUptoSaid : Prop := fnSupportUptoRow.holds Try.pinned (OpenSpec.upto fnSupportSpec)

end Rows
end Go.Proofs.Ythnoknmijelcmaa
