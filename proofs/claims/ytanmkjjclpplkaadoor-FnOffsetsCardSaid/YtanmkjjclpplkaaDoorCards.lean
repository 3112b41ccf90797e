/-
  DERIVED. GIVEN WITH THE SEED: THE CARDS: each row of YtanmkjjclpplkaaDoorRows.lean that lists a variable, with what it lists TIED to the program's text (the seventh form; the later family's looks); each row that meets fmt, with fmt's text TOLD by the authors' own Lean function (tested against real Go, not proved from fmt's source: count such statements apart). THE CARD IS WHAT COUNTS. Prove the row's statement (the work); the ties are given (YtanmkjjclpplkaaDoorTie.lean); close each card by the builder's one call (the guide's Derived/Test/ToyasCard.lean, 'card_holds'). Laid BY PROGRAM, IN A SANDBOX (cutbox-door.mjs). By AI agents, Wed Nov 11 2026. No macro, syntax, notation, axiom, sorry.
-/
import Derived.Test.YtanmkjjclpplkaaDoorRows
import GoSem.ClaimSeven
namespace Go.Proofs.YtanmkjjclpplkaaDoor
namespace Rows

/-- THE TIED CARD OF 'laws.FnExactCraftText'. -/
def fnExactCraftTextCard : Claim7 := { stood := { row := fnExactCraftTextRow, standIns := [], harness := (true, "197406fd7ea1f44938e8cdb238b91d6a024a44865790571fbce4a6e3093d0bf2"), looks := false }, kinds := [], alts := [], laidByText := true, laidKinds := [.data, .data, .data], laidTests := true, laidLooks := .later }
def FnExactCraftTextCardSaid : Prop := Claim7.holds Tryd.pinned (.plain (OpenSpec.ofChange fnExactCraftTextSpec)) fnExactCraftTextCard

/-- THE TIED CARD OF 'laws.FnOffsets'. -/
def fnOffsetsCard : Claim7 := { stood := { row := fnOffsetsRow, standIns := [], harness := (true, "197406fd7ea1f44938e8cdb238b91d6a024a44865790571fbce4a6e3093d0bf2"), looks := false }, kinds := [], alts := [], laidByText := true, laidKinds := [.data, .data, .data], laidTests := true, laidLooks := .later }
def FnOffsetsCardSaid : Prop := Claim7.holds Tryd.pinned (.plain (OpenSpec.ofChange fnOffsetsSpec)) fnOffsetsCard

/-- THE SECOND FORM's CARD OF 'laws.FnExactCraftText'. -/
def fnExactCraftTextUptoCard : Claim7 := { stood := { row := fnExactCraftTextUptoRow, standIns := [], harness := (true, "197406fd7ea1f44938e8cdb238b91d6a024a44865790571fbce4a6e3093d0bf2"), looks := false }, kinds := [], alts := [], laidByText := true, laidKinds := [.data, .data, .data], laidTests := true, laidLooks := .later }
def FnExactCraftTextUptoCardSaid : Prop := Claim7.holds Tryd.pinned (.plain (OpenSpec.upto fnExactCraftTextSpec)) fnExactCraftTextUptoCard

/-- THE SECOND FORM's CARD OF 'laws.FnOffsets'. -/
def fnOffsetsUptoCard : Claim7 := { stood := { row := fnOffsetsUptoRow, standIns := [], harness := (true, "197406fd7ea1f44938e8cdb238b91d6a024a44865790571fbce4a6e3093d0bf2"), looks := false }, kinds := [], alts := [], laidByText := true, laidKinds := [.data, .data, .data], laidTests := true, laidLooks := .later }
def FnOffsetsUptoCardSaid : Prop := Claim7.holds Tryd.pinned (.plain (OpenSpec.upto fnOffsetsSpec)) fnOffsetsUptoCard
end Rows
end Go.Proofs.YtanmkjjclpplkaaDoor
