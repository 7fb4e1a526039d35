/-
  DERIVED. GIVEN WITH THE SEED: THE CARDS: each row of YtmmedgeabnpnhaaGreatDoorRows.lean that lists a variable, with what it lists TIED to the program's text (the seventh form; the later family's looks); each row that meets fmt, with fmt's text TOLD by the authors' own Lean function (tested against real Go, not proved from fmt's source: count such statements apart). THE CARD IS WHAT COUNTS. Prove the row's statement (the work); the ties are given (YtmmedgeabnpnhaaGreatDoorTie.lean); close each card by the builder's one call (the guide's Derived/Test/ToyasCard.lean, 'card_holds'). Laid BY PROGRAM, IN A SANDBOX (cutbox-door.mjs). By AI agents, Wed Nov 11 2026. No macro, syntax, notation, axiom, sorry.
-/
import Derived.Test.YtmmedgeabnpnhaaGreatDoorRows
import GoSem.ClaimSeven
namespace Go.Proofs.YtmmedgeabnpnhaaGreatDoor
namespace Rows

/-- THE TIED CARD OF 'annuitantlaw13.FormatTells'. -/
def formatTellsCard : Claim7 := { stood := { row := formatTellsRow, standIns := [], harness := (true, "04595142e73dd48ddfedd612009f1be058f4f98f3c5005848bfa2ef205a3a28f"), looks := false }, kinds := [], alts := [], laidByText := true, laidKinds := [.data, .data, .data, .data, .data, .data], laidTests := true, laidLooks := .later }
def FormatTellsCardSaid : Prop := Claim7.holds Tryz.pinned (.plain (OpenSpec.ofChange formatTellsSpec)) formatTellsCard

/-- THE TIED CARD OF 'annuitantlaw13.FormatExprs'. -/
def formatExprsCard : Claim7 := { stood := { row := formatExprsRow, standIns := [], harness := (true, "04595142e73dd48ddfedd612009f1be058f4f98f3c5005848bfa2ef205a3a28f"), looks := false }, kinds := [], alts := [], laidByText := true, laidKinds := [.data, .data, .data, .data, .data, .data], laidTests := true, laidLooks := .later }
def FormatExprsCardSaid : Prop := Claim7.holds Tryz.pinned (.plain (OpenSpec.ofChange formatExprsSpec)) formatExprsCard

/-- THE TIED CARD OF 'annuitantlaw13.FormatSmall'. -/
def formatSmallCard : Claim7 := { stood := { row := formatSmallRow, standIns := [], harness := (true, "04595142e73dd48ddfedd612009f1be058f4f98f3c5005848bfa2ef205a3a28f"), looks := false }, kinds := [], alts := [], laidByText := true, laidKinds := [.data, .data, .data, .data, .data, .data], laidTests := true, laidLooks := .later }
def FormatSmallCardSaid : Prop := Claim7.holds Tryz.pinned (.plain (OpenSpec.ofChange formatSmallSpec)) formatSmallCard

/-- THE SECOND FORM's CARD OF 'annuitantlaw13.FormatTells'. -/
def formatTellsUptoCard : Claim7 := { stood := { row := formatTellsUptoRow, standIns := [], harness := (true, "04595142e73dd48ddfedd612009f1be058f4f98f3c5005848bfa2ef205a3a28f"), looks := false }, kinds := [], alts := [], laidByText := true, laidKinds := [.data, .data, .data, .data, .data, .data], laidTests := true, laidLooks := .later }
def FormatTellsUptoCardSaid : Prop := Claim7.holds Tryz.pinned (.plain (OpenSpec.upto formatTellsSpec)) formatTellsUptoCard

/-- THE SECOND FORM's CARD OF 'annuitantlaw13.FormatExprs'. -/
def formatExprsUptoCard : Claim7 := { stood := { row := formatExprsUptoRow, standIns := [], harness := (true, "04595142e73dd48ddfedd612009f1be058f4f98f3c5005848bfa2ef205a3a28f"), looks := false }, kinds := [], alts := [], laidByText := true, laidKinds := [.data, .data, .data, .data, .data, .data], laidTests := true, laidLooks := .later }
def FormatExprsUptoCardSaid : Prop := Claim7.holds Tryz.pinned (.plain (OpenSpec.upto formatExprsSpec)) formatExprsUptoCard

/-- THE SECOND FORM's CARD OF 'annuitantlaw13.FormatSmall'. -/
def formatSmallUptoCard : Claim7 := { stood := { row := formatSmallUptoRow, standIns := [], harness := (true, "04595142e73dd48ddfedd612009f1be058f4f98f3c5005848bfa2ef205a3a28f"), looks := false }, kinds := [], alts := [], laidByText := true, laidKinds := [.data, .data, .data, .data, .data, .data], laidTests := true, laidLooks := .later }
def FormatSmallUptoCardSaid : Prop := Claim7.holds Tryz.pinned (.plain (OpenSpec.upto formatSmallSpec)) formatSmallUptoCard
end Rows
end Go.Proofs.YtmmedgeabnpnhaaGreatDoor
