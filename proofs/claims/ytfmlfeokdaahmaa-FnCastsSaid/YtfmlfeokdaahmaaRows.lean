/-
  No cell of these rows narrows 'for every input' (looked for: loops, veiled, ifaces, maps, wideKeys, modest, calm, conditions, laid).
  DERIVED. THE GIVEN ROWS OF THIS SEAT. 12 by the template 'for every input the law returns true; each argument reads behind the call as it read before'; 0 by the template 'total and deterministic' (their statements: YtfmlfeokdaahmaaTotals.lean).
  GIVEN WITH THE SEED: the statements are not yours to turn. If you find one false, say at which input.
  Laid BY PROGRAM, IN A SANDBOX (cutbox-rows.mjs): the forced cells as the released guide's own fill.sh prints them over the translation 70ec106c04cb3e23… (all of the seat's roots in one cut). By AI agents, Wed Nov 11 2026. No macro, syntax, notation, axiom, sorry.
-/
import Derived.Test.YtfmlfeokdaahmaaChecked
import GoSem.Claim
import GoSem.ClaimJoined
import GoSem.ClaimMapViews
import Derived.JoinedTies
import Derived.KernelRfl
namespace Go.Proofs.Ytfmlfeokdaahmaa
/- THE CELL 'sum', in the pinned program and in every row, IS THE sha256 OF THE DUMP (.gsa) THAT YtfmlfeokdaahmaaProg.lean LOADS. Nothing in Lean hashes anything: it is a label: what it is worth is what the hold of that sum in a sandbox is worth. -/
noncomputable def Try.pinned : Pinned := { name := "ytfmlfeokdaahmaa", sum := "70ec106c04cb3e23ee9db933032717053b74483607ed55b65cfdc2b74157fd3d", checked := Try.checked }
namespace Rows
def none {H : Type} : Left H := { results := [], args := [] }

/-- 'laws.FnExactIsCast': WHATEVER THE INPUT: true; the input reads as it did. -/
def fnExactIsCastSpec : ChangeSpec := { name := "fnExactIsCast", fn := fun _ => fun
  | [d] => { results := [.lit (.bool true)], args := [d] }
  | _ => none }
def fnExactIsCastRow : OpenClaim := { program := "ytfmlfeokdaahmaa", sum := "70ec106c04cb3e23ee9db933032717053b74483607ed55b65cfdc2b74157fd3d", func := "loop.example/g01031/laws.FnExactIsCast", spec := "fnExactIsCast", apart := false }
def FnExactIsCastSaid : Prop := fnExactIsCastRow.holds Try.pinned (OpenSpec.ofChange fnExactIsCastSpec)

/-- ITS FALSE NEIGHBOUR: 'it returns false'. Refute it at one input. -/
def fnExactIsCastWrong : ChangeSpec := { name := "fnExactIsCast", fn := fun _ => fun
  | [d] => { results := [.lit (.bool false)], args := [d] }
  | _ => none }
def FnExactIsCastWrongFalsely : Prop := fnExactIsCastRow.holds Try.pinned (OpenSpec.ofChange fnExactIsCastWrong)

/-- 'laws.FnExactSpeedAt': WHATEVER THE INPUT: true; the input reads as it did. -/
def fnExactSpeedAtSpec : ChangeSpec := { name := "fnExactSpeedAt", fn := fun _ => fun
  | [d1, d2] => { results := [.lit (.bool true)], args := [d1, d2] }
  | _ => none }
def fnExactSpeedAtRow : OpenClaim := { program := "ytfmlfeokdaahmaa", sum := "70ec106c04cb3e23ee9db933032717053b74483607ed55b65cfdc2b74157fd3d", func := "loop.example/g01031/laws.FnExactSpeedAt", spec := "fnExactSpeedAt", apart := false }
def FnExactSpeedAtSaid : Prop := fnExactSpeedAtRow.holds Try.pinned (OpenSpec.ofChange fnExactSpeedAtSpec)

/-- ITS FALSE NEIGHBOUR: 'it returns false'. Refute it at one input. -/
def fnExactSpeedAtWrong : ChangeSpec := { name := "fnExactSpeedAt", fn := fun _ => fun
  | [d1, d2] => { results := [.lit (.bool false)], args := [d1, d2] }
  | _ => none }
def FnExactSpeedAtWrongFalsely : Prop := fnExactSpeedAtRow.holds Try.pinned (OpenSpec.ofChange fnExactSpeedAtWrong)

/-- 'laws.FnExactSameLayers': WHATEVER THE INPUT: true; the input reads as it did. -/
def fnExactSameLayersSpec : ChangeSpec := { name := "fnExactSameLayers", fn := fun _ => fun
  | [d1, d2, d3] => { results := [.lit (.bool true)], args := [d1, d2, d3] }
  | _ => none }
def fnExactSameLayersRow : OpenClaim := { program := "ytfmlfeokdaahmaa", sum := "70ec106c04cb3e23ee9db933032717053b74483607ed55b65cfdc2b74157fd3d", func := "loop.example/g01031/laws.FnExactSameLayers", spec := "fnExactSameLayers", apart := false }
def FnExactSameLayersSaid : Prop := fnExactSameLayersRow.holds Try.pinned (OpenSpec.ofChange fnExactSameLayersSpec)

/-- ITS FALSE NEIGHBOUR: 'it returns false'. Refute it at one input. -/
def fnExactSameLayersWrong : ChangeSpec := { name := "fnExactSameLayers", fn := fun _ => fun
  | [d1, d2, d3] => { results := [.lit (.bool false)], args := [d1, d2, d3] }
  | _ => none }
def FnExactSameLayersWrongFalsely : Prop := fnExactSameLayersRow.holds Try.pinned (OpenSpec.ofChange fnExactSameLayersWrong)

/-- 'laws.FnExactTravelTo': WHATEVER THE INPUT: true; the input reads as it did. -/
def fnExactTravelToSpec : ChangeSpec := { name := "fnExactTravelTo", fn := fun _ => fun
  | [d1, d2] => { results := [.lit (.bool true)], args := [d1, d2] }
  | _ => none }
def fnExactTravelToRow : OpenClaim := { program := "ytfmlfeokdaahmaa", sum := "70ec106c04cb3e23ee9db933032717053b74483607ed55b65cfdc2b74157fd3d", func := "loop.example/g01031/laws.FnExactTravelTo", spec := "fnExactTravelTo", apart := false }
def FnExactTravelToSaid : Prop := fnExactTravelToRow.holds Try.pinned (OpenSpec.ofChange fnExactTravelToSpec)

/-- ITS FALSE NEIGHBOUR: 'it returns false'. Refute it at one input. -/
def fnExactTravelToWrong : ChangeSpec := { name := "fnExactTravelTo", fn := fun _ => fun
  | [d1, d2] => { results := [.lit (.bool false)], args := [d1, d2] }
  | _ => none }
def FnExactTravelToWrongFalsely : Prop := fnExactTravelToRow.holds Try.pinned (OpenSpec.ofChange fnExactTravelToWrong)

/-- 'laws.FnExactThinCast': WHATEVER THE INPUT: true; the input reads as it did. -/
def fnExactThinCastSpec : ChangeSpec := { name := "fnExactThinCast", fn := fun _ => fun
  | [d] => { results := [.lit (.bool true)], args := [d] }
  | _ => none }
def fnExactThinCastRow : OpenClaim := { program := "ytfmlfeokdaahmaa", sum := "70ec106c04cb3e23ee9db933032717053b74483607ed55b65cfdc2b74157fd3d", func := "loop.example/g01031/laws.FnExactThinCast", spec := "fnExactThinCast", apart := false }
def FnExactThinCastSaid : Prop := fnExactThinCastRow.holds Try.pinned (OpenSpec.ofChange fnExactThinCastSpec)

/-- ITS FALSE NEIGHBOUR: 'it returns false'. Refute it at one input. -/
def fnExactThinCastWrong : ChangeSpec := { name := "fnExactThinCast", fn := fun _ => fun
  | [d] => { results := [.lit (.bool false)], args := [d] }
  | _ => none }
def FnExactThinCastWrongFalsely : Prop := fnExactThinCastRow.holds Try.pinned (OpenSpec.ofChange fnExactThinCastWrong)

/-- 'laws.FnExactAreCasts': WHATEVER THE INPUT: true; the input reads as it did. -/
def fnExactAreCastsSpec : ChangeSpec := { name := "fnExactAreCasts", fn := fun _ => fun
  | [d] => { results := [.lit (.bool true)], args := [d] }
  | _ => none }
def fnExactAreCastsRow : OpenClaim := { program := "ytfmlfeokdaahmaa", sum := "70ec106c04cb3e23ee9db933032717053b74483607ed55b65cfdc2b74157fd3d", func := "loop.example/g01031/laws.FnExactAreCasts", spec := "fnExactAreCasts", unfollowed := true, recurses := true, apart := false }
def FnExactAreCastsSaid : Prop := fnExactAreCastsRow.holds Try.pinned (OpenSpec.ofChange fnExactAreCastsSpec)

/-- ITS FALSE NEIGHBOUR: 'it returns false'. Refute it at one input. -/
def fnExactAreCastsWrong : ChangeSpec := { name := "fnExactAreCasts", fn := fun _ => fun
  | [d] => { results := [.lit (.bool false)], args := [d] }
  | _ => none }
def FnExactAreCastsWrongFalsely : Prop := fnExactAreCastsRow.holds Try.pinned (OpenSpec.ofChange fnExactAreCastsWrong)

/-- 'laws.FnExactDepthFor': WHATEVER THE INPUT: true; the input reads as it did. -/
def fnExactDepthForSpec : ChangeSpec := { name := "fnExactDepthFor", fn := fun _ => fun
  | [d1, d2] => { results := [.lit (.bool true)], args := [d1, d2] }
  | _ => none }
def fnExactDepthForRow : OpenClaim := { program := "ytfmlfeokdaahmaa", sum := "70ec106c04cb3e23ee9db933032717053b74483607ed55b65cfdc2b74157fd3d", func := "loop.example/g01031/laws.FnExactDepthFor", spec := "fnExactDepthFor", apart := false }
def FnExactDepthForSaid : Prop := fnExactDepthForRow.holds Try.pinned (OpenSpec.ofChange fnExactDepthForSpec)

/-- ITS FALSE NEIGHBOUR: 'it returns false'. Refute it at one input. -/
def fnExactDepthForWrong : ChangeSpec := { name := "fnExactDepthFor", fn := fun _ => fun
  | [d1, d2] => { results := [.lit (.bool false)], args := [d1, d2] }
  | _ => none }
def FnExactDepthForWrongFalsely : Prop := fnExactDepthForRow.holds Try.pinned (OpenSpec.ofChange fnExactDepthForWrong)

/-- 'laws.FnExactMeanSpeed': WHATEVER THE INPUT: true; the input reads as it did. -/
def fnExactMeanSpeedSpec : ChangeSpec := { name := "fnExactMeanSpeed", fn := fun _ => fun
  | [d1, d2] => { results := [.lit (.bool true)], args := [d1, d2] }
  | _ => none }
def fnExactMeanSpeedRow : OpenClaim := { program := "ytfmlfeokdaahmaa", sum := "70ec106c04cb3e23ee9db933032717053b74483607ed55b65cfdc2b74157fd3d", func := "loop.example/g01031/laws.FnExactMeanSpeed", spec := "fnExactMeanSpeed", apart := false }
def FnExactMeanSpeedSaid : Prop := fnExactMeanSpeedRow.holds Try.pinned (OpenSpec.ofChange fnExactMeanSpeedSpec)

/-- ITS FALSE NEIGHBOUR: 'it returns false'. Refute it at one input. -/
def fnExactMeanSpeedWrong : ChangeSpec := { name := "fnExactMeanSpeed", fn := fun _ => fun
  | [d1, d2] => { results := [.lit (.bool false)], args := [d1, d2] }
  | _ => none }
def FnExactMeanSpeedWrongFalsely : Prop := fnExactMeanSpeedRow.holds Try.pinned (OpenSpec.ofChange fnExactMeanSpeedWrong)

/-- 'laws.FnExactCastAt': WHATEVER THE INPUT: true; the input reads as it did. -/
def fnExactCastAtSpec : ChangeSpec := { name := "fnExactCastAt", fn := fun _ => fun
  | [d1, d2] => { results := [.lit (.bool true)], args := [d1, d2] }
  | _ => none }
def fnExactCastAtRow : OpenClaim := { program := "ytfmlfeokdaahmaa", sum := "70ec106c04cb3e23ee9db933032717053b74483607ed55b65cfdc2b74157fd3d", func := "loop.example/g01031/laws.FnExactCastAt", spec := "fnExactCastAt", unfollowed := true, recurses := true, apart := false }
def FnExactCastAtSaid : Prop := fnExactCastAtRow.holds Try.pinned (OpenSpec.ofChange fnExactCastAtSpec)

/-- ITS FALSE NEIGHBOUR: 'it returns false'. Refute it at one input. -/
def fnExactCastAtWrong : ChangeSpec := { name := "fnExactCastAt", fn := fun _ => fun
  | [d1, d2] => { results := [.lit (.bool false)], args := [d1, d2] }
  | _ => none }
def FnExactCastAtWrongFalsely : Prop := fnExactCastAtRow.holds Try.pinned (OpenSpec.ofChange fnExactCastAtWrong)

/-- 'laws.FnExactNearestCast': WHATEVER THE INPUT: true; the input reads as it did. -/
def fnExactNearestCastSpec : ChangeSpec := { name := "fnExactNearestCast", fn := fun _ => fun
  | [d1, d2, d3, d4] => { results := [.lit (.bool true)], args := [d1, d2, d3, d4] }
  | _ => none }
def fnExactNearestCastRow : OpenClaim := { program := "ytfmlfeokdaahmaa", sum := "70ec106c04cb3e23ee9db933032717053b74483607ed55b65cfdc2b74157fd3d", func := "loop.example/g01031/laws.FnExactNearestCast", spec := "fnExactNearestCast", unfollowed := true, recurses := true, apart := false }
def FnExactNearestCastSaid : Prop := fnExactNearestCastRow.holds Try.pinned (OpenSpec.ofChange fnExactNearestCastSpec)

/-- ITS FALSE NEIGHBOUR: 'it returns false'. Refute it at one input. -/
def fnExactNearestCastWrong : ChangeSpec := { name := "fnExactNearestCast", fn := fun _ => fun
  | [d1, d2, d3, d4] => { results := [.lit (.bool false)], args := [d1, d2, d3, d4] }
  | _ => none }
def FnExactNearestCastWrongFalsely : Prop := fnExactNearestCastRow.holds Try.pinned (OpenSpec.ofChange fnExactNearestCastWrong)

/-- 'laws.FnCasts': WHATEVER THE INPUT: true; the input reads as it did. -/
def fnCastsSpec : ChangeSpec := { name := "fnCasts", fn := fun _ => fun
  | [d] => { results := [.lit (.bool true)], args := [d] }
  | _ => none }
def fnCastsRow : OpenClaim := { program := "ytfmlfeokdaahmaa", sum := "70ec106c04cb3e23ee9db933032717053b74483607ed55b65cfdc2b74157fd3d", func := "loop.example/g01031/laws.FnCasts", spec := "fnCasts", apart := false }
def FnCastsSaid : Prop := fnCastsRow.holds Try.pinned (OpenSpec.ofChange fnCastsSpec)

/-- ITS FALSE NEIGHBOUR: 'it returns false'. Refute it at one input. -/
def fnCastsWrong : ChangeSpec := { name := "fnCasts", fn := fun _ => fun
  | [d] => { results := [.lit (.bool false)], args := [d] }
  | _ => none }
def FnCastsWrongFalsely : Prop := fnCastsRow.holds Try.pinned (OpenSpec.ofChange fnCastsWrong)

/-- 'laws.FnSpeeds': WHATEVER THE INPUT: true; the input reads as it did. -/
def fnSpeedsSpec : ChangeSpec := { name := "fnSpeeds", fn := fun _ => fun
  | [d] => { results := [.lit (.bool true)], args := [d] }
  | _ => none }
def fnSpeedsRow : OpenClaim := { program := "ytfmlfeokdaahmaa", sum := "70ec106c04cb3e23ee9db933032717053b74483607ed55b65cfdc2b74157fd3d", func := "loop.example/g01031/laws.FnSpeeds", spec := "fnSpeeds", unfollowed := true, recurses := true, apart := false }
def FnSpeedsSaid : Prop := fnSpeedsRow.holds Try.pinned (OpenSpec.ofChange fnSpeedsSpec)

/-- ITS FALSE NEIGHBOUR: 'it returns false'. Refute it at one input. -/
def fnSpeedsWrong : ChangeSpec := { name := "fnSpeeds", fn := fun _ => fun
  | [d] => { results := [.lit (.bool false)], args := [d] }
  | _ => none }
def FnSpeedsWrongFalsely : Prop := fnSpeedsRow.holds Try.pinned (OpenSpec.ofChange fnSpeedsWrong)

/- THE SECOND FORM. 'bulk': how many values and letters a reading holds, each counted each time it is reached (what is shared counts as often as it is met; a slice's spare places count too). A statement '..UptoSaid' is the law's where the arguments, and the package variables that the reading takes, are together of bulk at most 1048576: NARROWER than '..Said'. Prove '..Said' where nothing that the law and all that it calls make is longer than what came in: it says more and counts as full. Else prove '..UptoSaid'. A law counts once. -/
mutual
def uptoBulk {H : Type} : DataW H → Nat
  | .lit (.string bytes) => bytes.length + 1
  | .lit _ => 1
  | .nil => 1
  | .ptr d => uptoBulk d + 1
  | .slice elems spare => uptoBulkAll elems + uptoBulkAll spare + 1
  | .agg parts => uptoBulkAll parts + 1
  | .iface _ d => uptoBulk d + 1
  | .map entries => uptoBulkEntries entries + 1
  | .held _ => 1
def uptoBulkAll {H : Type} : List (DataW H) → Nat
  | [] => 0
  | d :: r => uptoBulk d + uptoBulkAll r
def uptoBulkEntries {H : Type} : List (Lit × DataW H) → Nat
  | [] => 0
  | x :: r => uptoBulkEntry x + uptoBulkEntries r
def uptoBulkEntry {H : Type} : Lit × DataW H → Nat
  | (.string bytes, d) => bytes.length + uptoBulk d + 1
  | (_, d) => uptoBulk d + 1
 end
def uptoSmall : (H : Type) → List (DataW H) → Bool := fun _ ds => decide (uptoBulkAll ds ≤ 1048576)
def OpenSpec.upto (s : _root_.Go.ChangeSpec) : _root_.Go.OpenSpec := { _root_.Go.OpenSpec.ofChange s with cond := some uptoSmall }

/-- 'laws.FnExactIsCast', WHERE WHAT IT READS IS OF BULK AT MOST 1048576: true; the input reads as it did. -/
def fnExactIsCastUptoRow : OpenClaim := { program := "ytfmlfeokdaahmaa", sum := "70ec106c04cb3e23ee9db933032717053b74483607ed55b65cfdc2b74157fd3d", func := "loop.example/g01031/laws.FnExactIsCast", spec := "fnExactIsCast", apart := false, narrowed := true }
def FnExactIsCastUptoSaid : Prop := fnExactIsCastUptoRow.holds Try.pinned (OpenSpec.upto fnExactIsCastSpec)

/-- 'laws.FnExactSpeedAt', WHERE WHAT IT READS IS OF BULK AT MOST 1048576: true; the input reads as it did. -/
def fnExactSpeedAtUptoRow : OpenClaim := { program := "ytfmlfeokdaahmaa", sum := "70ec106c04cb3e23ee9db933032717053b74483607ed55b65cfdc2b74157fd3d", func := "loop.example/g01031/laws.FnExactSpeedAt", spec := "fnExactSpeedAt", apart := false, narrowed := true }
def FnExactSpeedAtUptoSaid : Prop := fnExactSpeedAtUptoRow.holds Try.pinned (OpenSpec.upto fnExactSpeedAtSpec)

/-- 'laws.FnExactSameLayers', WHERE WHAT IT READS IS OF BULK AT MOST 1048576: true; the input reads as it did. -/
def fnExactSameLayersUptoRow : OpenClaim := { program := "ytfmlfeokdaahmaa", sum := "70ec106c04cb3e23ee9db933032717053b74483607ed55b65cfdc2b74157fd3d", func := "loop.example/g01031/laws.FnExactSameLayers", spec := "fnExactSameLayers", apart := false, narrowed := true }
def FnExactSameLayersUptoSaid : Prop := fnExactSameLayersUptoRow.holds Try.pinned (OpenSpec.upto fnExactSameLayersSpec)

/-- 'laws.FnExactTravelTo', WHERE WHAT IT READS IS OF BULK AT MOST 1048576: true; the input reads as it did. -/
def fnExactTravelToUptoRow : OpenClaim := { program := "ytfmlfeokdaahmaa", sum := "70ec106c04cb3e23ee9db933032717053b74483607ed55b65cfdc2b74157fd3d", func := "loop.example/g01031/laws.FnExactTravelTo", spec := "fnExactTravelTo", apart := false, narrowed := true }
def FnExactTravelToUptoSaid : Prop := fnExactTravelToUptoRow.holds Try.pinned (OpenSpec.upto fnExactTravelToSpec)

/-- 'laws.FnExactThinCast', WHERE WHAT IT READS IS OF BULK AT MOST 1048576: true; the input reads as it did. -/
def fnExactThinCastUptoRow : OpenClaim := { program := "ytfmlfeokdaahmaa", sum := "70ec106c04cb3e23ee9db933032717053b74483607ed55b65cfdc2b74157fd3d", func := "loop.example/g01031/laws.FnExactThinCast", spec := "fnExactThinCast", apart := false, narrowed := true }
def FnExactThinCastUptoSaid : Prop := fnExactThinCastUptoRow.holds Try.pinned (OpenSpec.upto fnExactThinCastSpec)

/-- 'laws.FnExactAreCasts', WHERE WHAT IT READS IS OF BULK AT MOST 1048576: true; the input reads as it did. -/
def fnExactAreCastsUptoRow : OpenClaim := { program := "ytfmlfeokdaahmaa", sum := "70ec106c04cb3e23ee9db933032717053b74483607ed55b65cfdc2b74157fd3d", func := "loop.example/g01031/laws.FnExactAreCasts", spec := "fnExactAreCasts", unfollowed := true, recurses := true, apart := false, narrowed := true }
def FnExactAreCastsUptoSaid : Prop := fnExactAreCastsUptoRow.holds Try.pinned (OpenSpec.upto fnExactAreCastsSpec)

/-- 'laws.FnExactDepthFor', WHERE WHAT IT READS IS OF BULK AT MOST 1048576: true; the input reads as it did. -/
def fnExactDepthForUptoRow : OpenClaim := { program := "ytfmlfeokdaahmaa", sum := "70ec106c04cb3e23ee9db933032717053b74483607ed55b65cfdc2b74157fd3d", func := "loop.example/g01031/laws.FnExactDepthFor", spec := "fnExactDepthFor", apart := false, narrowed := true }
def FnExactDepthForUptoSaid : Prop := fnExactDepthForUptoRow.holds Try.pinned (OpenSpec.upto fnExactDepthForSpec)

/-- 'laws.FnExactMeanSpeed', WHERE WHAT IT READS IS OF BULK AT MOST 1048576: true; the input reads as it did. -/
def fnExactMeanSpeedUptoRow : OpenClaim := { program := "ytfmlfeokdaahmaa", sum := "70ec106c04cb3e23ee9db933032717053b74483607ed55b65cfdc2b74157fd3d", func := "loop.example/g01031/laws.FnExactMeanSpeed", spec := "fnExactMeanSpeed", apart := false, narrowed := true }
def FnExactMeanSpeedUptoSaid : Prop := fnExactMeanSpeedUptoRow.holds Try.pinned (OpenSpec.upto fnExactMeanSpeedSpec)

/-- 'laws.FnExactCastAt', WHERE WHAT IT READS IS OF BULK AT MOST 1048576: true; the input reads as it did. -/
def fnExactCastAtUptoRow : OpenClaim := { program := "ytfmlfeokdaahmaa", sum := "70ec106c04cb3e23ee9db933032717053b74483607ed55b65cfdc2b74157fd3d", func := "loop.example/g01031/laws.FnExactCastAt", spec := "fnExactCastAt", unfollowed := true, recurses := true, apart := false, narrowed := true }
def FnExactCastAtUptoSaid : Prop := fnExactCastAtUptoRow.holds Try.pinned (OpenSpec.upto fnExactCastAtSpec)

/-- 'laws.FnExactNearestCast', WHERE WHAT IT READS IS OF BULK AT MOST 1048576: true; the input reads as it did. -/
def fnExactNearestCastUptoRow : OpenClaim := { program := "ytfmlfeokdaahmaa", sum := "70ec106c04cb3e23ee9db933032717053b74483607ed55b65cfdc2b74157fd3d", func := "loop.example/g01031/laws.FnExactNearestCast", spec := "fnExactNearestCast", unfollowed := true, recurses := true, apart := false, narrowed := true }
def FnExactNearestCastUptoSaid : Prop := fnExactNearestCastUptoRow.holds Try.pinned (OpenSpec.upto fnExactNearestCastSpec)

/-- 'laws.FnCasts', WHERE WHAT IT READS IS OF BULK AT MOST 1048576: true; the input reads as it did. -/
def fnCastsUptoRow : OpenClaim := { program := "ytfmlfeokdaahmaa", sum := "70ec106c04cb3e23ee9db933032717053b74483607ed55b65cfdc2b74157fd3d", func := "loop.example/g01031/laws.FnCasts", spec := "fnCasts", apart := false, narrowed := true }
def FnCastsUptoSaid : Prop := fnCastsUptoRow.holds Try.pinned (OpenSpec.upto fnCastsSpec)

/-- 'laws.FnSpeeds', WHERE WHAT IT READS IS OF BULK AT MOST 1048576: true; the input reads as it did. -/
def fnSpeedsUptoRow : OpenClaim := { program := "ytfmlfeokdaahmaa", sum := "70ec106c04cb3e23ee9db933032717053b74483607ed55b65cfdc2b74157fd3d", func := "loop.example/g01031/laws.FnSpeeds", spec := "fnSpeeds", unfollowed := true, recurses := true, apart := false, narrowed := true }
def FnSpeedsUptoSaid : Prop := fnSpeedsUptoRow.holds Try.pinned (OpenSpec.upto fnSpeedsSpec)

end Rows
end Go.Proofs.Ytfmlfeokdaahmaa
