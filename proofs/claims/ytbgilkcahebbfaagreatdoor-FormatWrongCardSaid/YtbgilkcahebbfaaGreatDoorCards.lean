/-
  DERIVED. GIVEN WITH THE SEED: THE CARDS: each row of YtbgilkcahebbfaaGreatDoorRows.lean that lists a variable, with what it lists TIED to the program's text (the seventh form; the later family's looks); each row that meets fmt, with fmt's text TOLD by the authors' own Lean function (tested against real Go, not proved from fmt's source: count such statements apart). THE CARD IS WHAT COUNTS. Prove the row's statement (the work); the ties are given (YtbgilkcahebbfaaGreatDoorTie.lean); close each card by the builder's one call (the guide's Derived/Test/ToyasCard.lean, 'card_holds'). Laid BY PROGRAM, IN A SANDBOX (cutbox-door.mjs). By AI agents, Wed Nov 11 2026. No macro, syntax, notation, axiom, sorry.
-/
import Derived.Test.YtbgilkcahebbfaaGreatDoorRows
import GoSem.ClaimSeven
namespace Go.Proofs.YtbgilkcahebbfaaGreatDoor
namespace Rows

/-- THE TIED CARD OF 'annuitantlaw13.FormatWrong'. -/
def formatWrongCard : Claim7 := { stood := { row := formatWrongRow, standIns := [], harness := (true, "a90169cb6b294a1368fa9437746e4850c5745bc59b1a8e9d5ebb831fa7598500"), looks := false }, kinds := [], alts := [], laidByText := true, laidKinds := [.data, .data, .data, .data, .data, .data], laidTests := true, laidLooks := .later }
def FormatWrongCardSaid : Prop := Claim7.holds Tryz.pinned (.plain (OpenSpec.ofChange formatWrongSpec)) formatWrongCard

/-- THE TIED CARD OF 'annuitantlaw13.FormatLong'. -/
def formatLongCard : Claim7 := { stood := { row := formatLongRow, standIns := [], harness := (true, "a90169cb6b294a1368fa9437746e4850c5745bc59b1a8e9d5ebb831fa7598500"), looks := false }, kinds := [], alts := [], laidByText := true, laidKinds := [.data, .data, .data, .data, .data, .data], laidTests := true, laidLooks := .later }
def FormatLongCardSaid : Prop := Claim7.holds Tryz.pinned (.plain (OpenSpec.ofChange formatLongSpec)) formatLongCard

/-- THE TIED CARD OF 'annuitantlaw13.FormatSigns'. -/
def formatSignsCard : Claim7 := { stood := { row := formatSignsRow, standIns := [], harness := (true, "a90169cb6b294a1368fa9437746e4850c5745bc59b1a8e9d5ebb831fa7598500"), looks := false }, kinds := [], alts := [], laidByText := true, laidKinds := [.data, .data, .data, .data, .data, .data], laidTests := true, laidLooks := .later }
def FormatSignsCardSaid : Prop := Claim7.holds Tryz.pinned (.plain (OpenSpec.ofChange formatSignsSpec)) formatSignsCard

/-- THE SECOND FORM's CARD OF 'annuitantlaw13.FormatWrong'. -/
def formatWrongUptoCard : Claim7 := { stood := { row := formatWrongUptoRow, standIns := [], harness := (true, "a90169cb6b294a1368fa9437746e4850c5745bc59b1a8e9d5ebb831fa7598500"), looks := false }, kinds := [], alts := [], laidByText := true, laidKinds := [.data, .data, .data, .data, .data, .data], laidTests := true, laidLooks := .later }
def FormatWrongUptoCardSaid : Prop := Claim7.holds Tryz.pinned (.plain (OpenSpec.upto formatWrongSpec)) formatWrongUptoCard

/-- THE SECOND FORM's CARD OF 'annuitantlaw13.FormatLong'. -/
def formatLongUptoCard : Claim7 := { stood := { row := formatLongUptoRow, standIns := [], harness := (true, "a90169cb6b294a1368fa9437746e4850c5745bc59b1a8e9d5ebb831fa7598500"), looks := false }, kinds := [], alts := [], laidByText := true, laidKinds := [.data, .data, .data, .data, .data, .data], laidTests := true, laidLooks := .later }
def FormatLongUptoCardSaid : Prop := Claim7.holds Tryz.pinned (.plain (OpenSpec.upto formatLongSpec)) formatLongUptoCard

/-- THE SECOND FORM's CARD OF 'annuitantlaw13.FormatSigns'. -/
def formatSignsUptoCard : Claim7 := { stood := { row := formatSignsUptoRow, standIns := [], harness := (true, "a90169cb6b294a1368fa9437746e4850c5745bc59b1a8e9d5ebb831fa7598500"), looks := false }, kinds := [], alts := [], laidByText := true, laidKinds := [.data, .data, .data, .data, .data, .data], laidTests := true, laidLooks := .later }
def FormatSignsUptoCardSaid : Prop := Claim7.holds Tryz.pinned (.plain (OpenSpec.upto formatSignsSpec)) formatSignsUptoCard
end Rows
end Go.Proofs.YtbgilkcahebbfaaGreatDoor
