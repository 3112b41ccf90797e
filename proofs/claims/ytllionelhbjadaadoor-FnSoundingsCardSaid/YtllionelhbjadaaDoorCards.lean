/-
  DERIVED. GIVEN WITH THE SEED: THE CARDS: each row of YtllionelhbjadaaDoorRows.lean that lists a variable, with what it lists TIED to the program's text (the seventh form; the later family's looks); each row that meets fmt, with fmt's text TOLD by the authors' own Lean function (tested against real Go, not proved from fmt's source: count such statements apart). THE CARD IS WHAT COUNTS. Prove the row's statement (the work); the ties are given (YtllionelhbjadaaDoorTie.lean); close each card by the builder's one call (the guide's Derived/Test/ToyasCard.lean, 'card_holds'). Laid BY PROGRAM, IN A SANDBOX (cutbox-door.mjs). By AI agents, Wed Nov 11 2026. No macro, syntax, notation, axiom, sorry.
-/
import Derived.Test.YtllionelhbjadaaDoorRows
import GoSem.ClaimSeven
namespace Go.Proofs.YtllionelhbjadaaDoor
namespace Rows

/-- THE TIED CARD OF 'laws.FnExactSoundingText'. -/
def fnExactSoundingTextCard : Claim7 := { stood := { row := fnExactSoundingTextRow, standIns := [], harness := (true, "fe4c7afe0a03b1d8a7c408ecdb39d2a4a8bcbc4ce83be6e6b7ff7ea377e2b527"), looks := true }, kinds := [], alts := [], laidByText := true, laidKinds := [.data, .data, .data], laidTests := true, laidLooks := .later }
def FnExactSoundingTextCardSaid : Prop := Claim7.holds Tryd.pinned (.plain (OpenSpec.ofChange fnExactSoundingTextSpec)) fnExactSoundingTextCard

/-- THE TIED CARD OF 'laws.FnExactParseSounding'. -/
def fnExactParseSoundingCard : Claim7 := { stood := { row := fnExactParseSoundingRow, standIns := [], harness := (true, "fe4c7afe0a03b1d8a7c408ecdb39d2a4a8bcbc4ce83be6e6b7ff7ea377e2b527"), looks := true }, kinds := [], alts := [], laidByText := true, laidKinds := [.data, .data, .data, .sentinel, .sentinel], laidTests := true, laidLooks := .later }
def FnExactParseSoundingCardSaid : Prop := Claim7.holds Tryd.pinned (.plain (OpenSpec.ofChange fnExactParseSoundingSpec)) fnExactParseSoundingCard

/-- THE TIED CARD OF 'laws.FnSoundings'. -/
def fnSoundingsCard : Claim7 := { stood := { row := fnSoundingsRow, standIns := [], harness := (true, "fe4c7afe0a03b1d8a7c408ecdb39d2a4a8bcbc4ce83be6e6b7ff7ea377e2b527"), looks := true }, kinds := [], alts := [], laidByText := true, laidKinds := [.data, .data, .data, .sentinel, .sentinel], laidTests := true, laidLooks := .later }
def FnSoundingsCardSaid : Prop := Claim7.holds Tryd.pinned (.plain (OpenSpec.ofChange fnSoundingsSpec)) fnSoundingsCard

/-- THE SECOND FORM's CARD OF 'laws.FnExactSoundingText'. -/
def fnExactSoundingTextUptoCard : Claim7 := { stood := { row := fnExactSoundingTextUptoRow, standIns := [], harness := (true, "fe4c7afe0a03b1d8a7c408ecdb39d2a4a8bcbc4ce83be6e6b7ff7ea377e2b527"), looks := true }, kinds := [], alts := [], laidByText := true, laidKinds := [.data, .data, .data], laidTests := true, laidLooks := .later }
def FnExactSoundingTextUptoCardSaid : Prop := Claim7.holds Tryd.pinned (.plain (OpenSpec.upto fnExactSoundingTextSpec)) fnExactSoundingTextUptoCard

/-- THE SECOND FORM's CARD OF 'laws.FnExactParseSounding'. -/
def fnExactParseSoundingUptoCard : Claim7 := { stood := { row := fnExactParseSoundingUptoRow, standIns := [], harness := (true, "fe4c7afe0a03b1d8a7c408ecdb39d2a4a8bcbc4ce83be6e6b7ff7ea377e2b527"), looks := true }, kinds := [], alts := [], laidByText := true, laidKinds := [.data, .data, .data, .sentinel, .sentinel], laidTests := true, laidLooks := .later }
def FnExactParseSoundingUptoCardSaid : Prop := Claim7.holds Tryd.pinned (.plain (OpenSpec.upto fnExactParseSoundingSpec)) fnExactParseSoundingUptoCard

/-- THE SECOND FORM's CARD OF 'laws.FnSoundings'. -/
def fnSoundingsUptoCard : Claim7 := { stood := { row := fnSoundingsUptoRow, standIns := [], harness := (true, "fe4c7afe0a03b1d8a7c408ecdb39d2a4a8bcbc4ce83be6e6b7ff7ea377e2b527"), looks := true }, kinds := [], alts := [], laidByText := true, laidKinds := [.data, .data, .data, .sentinel, .sentinel], laidTests := true, laidLooks := .later }
def FnSoundingsUptoCardSaid : Prop := Claim7.holds Tryd.pinned (.plain (OpenSpec.upto fnSoundingsSpec)) fnSoundingsUptoCard
end Rows
end Go.Proofs.YtllionelhbjadaaDoor
