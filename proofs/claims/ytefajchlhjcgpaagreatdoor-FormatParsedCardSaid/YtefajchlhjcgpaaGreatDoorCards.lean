/-
  DERIVED. GIVEN WITH THE SEED: THE CARDS: each row of YtefajchlhjcgpaaGreatDoorRows.lean that lists a variable, with what it lists TIED to the program's text (the seventh form; the later family's looks); each row that meets fmt, with fmt's text TOLD by the authors' own Lean function (tested against real Go, not proved from fmt's source: count such statements apart). THE CARD IS WHAT COUNTS. Prove the row's statement (the work); the ties are given (YtefajchlhjcgpaaGreatDoorTie.lean); close each card by the builder's one call (the guide's Derived/Test/ToyasCard.lean, 'card_holds'). Laid BY PROGRAM, IN A SANDBOX (cutbox-door.mjs). By AI agents, Wed Nov 11 2026. No macro, syntax, notation, axiom, sorry.
-/
import Derived.Test.YtefajchlhjcgpaaGreatDoorRows
import GoSem.ClaimSeven
namespace Go.Proofs.YtefajchlhjcgpaaGreatDoor
namespace Rows

/-- THE TIED CARD OF 'annuitantlaw13.FormatLeast'. -/
def formatLeastCard : Claim7 := { stood := { row := formatLeastRow, standIns := [], harness := (true, "6b0823cb8924700f545c450c584c2b8ab8a86323679b05588ebd6422043737a1"), looks := true }, kinds := [], alts := [], laidByText := true, laidKinds := [.data, .data, .data, .data, .data, .data], laidTests := true, laidLooks := .later }
def FormatLeastCardSaid : Prop := Claim7.holds Tryz.pinned (.plain (OpenSpec.ofChange formatLeastSpec)) formatLeastCard

/-- THE TIED CARD OF 'annuitantlaw13.FormatReads'. -/
def formatReadsCard : Claim7 := { stood := { row := formatReadsRow, standIns := [], harness := (true, "6b0823cb8924700f545c450c584c2b8ab8a86323679b05588ebd6422043737a1"), looks := true }, kinds := [], alts := [], laidByText := true, laidKinds := [.data, .data, .data, .data, .data, .data], laidTests := true, laidLooks := .later }
def FormatReadsCardSaid : Prop := Claim7.holds Tryz.pinned (.plain (OpenSpec.ofChange formatReadsSpec)) formatReadsCard

/-- THE TIED CARD OF 'annuitantlaw13.FormatBack'. -/
def formatBackCard : Claim7 := { stood := { row := formatBackRow, standIns := [], harness := (true, "6b0823cb8924700f545c450c584c2b8ab8a86323679b05588ebd6422043737a1"), looks := true }, kinds := [], alts := [], laidByText := true, laidKinds := [.data, .data, .data, .data, .data, .data], laidTests := true, laidLooks := .later }
def FormatBackCardSaid : Prop := Claim7.holds Tryz.pinned (.plain (OpenSpec.ofChange formatBackSpec)) formatBackCard

/-- THE TIED CARD OF 'annuitantlaw13.FormatParsed'. -/
def formatParsedCard : Claim7 := { stood := { row := formatParsedRow, standIns := [], harness := (true, "6b0823cb8924700f545c450c584c2b8ab8a86323679b05588ebd6422043737a1"), looks := true }, kinds := [], alts := [], laidByText := true, laidKinds := [.data, .data, .data, .data, .data, .data], laidTests := true, laidLooks := .later }
def FormatParsedCardSaid : Prop := Claim7.holds Tryz.pinned (.plain (OpenSpec.ofChange formatParsedSpec)) formatParsedCard

/-- THE SECOND FORM's CARD OF 'annuitantlaw13.FormatLeast'. -/
def formatLeastUptoCard : Claim7 := { stood := { row := formatLeastUptoRow, standIns := [], harness := (true, "6b0823cb8924700f545c450c584c2b8ab8a86323679b05588ebd6422043737a1"), looks := true }, kinds := [], alts := [], laidByText := true, laidKinds := [.data, .data, .data, .data, .data, .data], laidTests := true, laidLooks := .later }
def FormatLeastUptoCardSaid : Prop := Claim7.holds Tryz.pinned (.plain (OpenSpec.upto formatLeastSpec)) formatLeastUptoCard

/-- THE SECOND FORM's CARD OF 'annuitantlaw13.FormatReads'. -/
def formatReadsUptoCard : Claim7 := { stood := { row := formatReadsUptoRow, standIns := [], harness := (true, "6b0823cb8924700f545c450c584c2b8ab8a86323679b05588ebd6422043737a1"), looks := true }, kinds := [], alts := [], laidByText := true, laidKinds := [.data, .data, .data, .data, .data, .data], laidTests := true, laidLooks := .later }
def FormatReadsUptoCardSaid : Prop := Claim7.holds Tryz.pinned (.plain (OpenSpec.upto formatReadsSpec)) formatReadsUptoCard

/-- THE SECOND FORM's CARD OF 'annuitantlaw13.FormatBack'. -/
def formatBackUptoCard : Claim7 := { stood := { row := formatBackUptoRow, standIns := [], harness := (true, "6b0823cb8924700f545c450c584c2b8ab8a86323679b05588ebd6422043737a1"), looks := true }, kinds := [], alts := [], laidByText := true, laidKinds := [.data, .data, .data, .data, .data, .data], laidTests := true, laidLooks := .later }
def FormatBackUptoCardSaid : Prop := Claim7.holds Tryz.pinned (.plain (OpenSpec.upto formatBackSpec)) formatBackUptoCard

/-- THE SECOND FORM's CARD OF 'annuitantlaw13.FormatParsed'. -/
def formatParsedUptoCard : Claim7 := { stood := { row := formatParsedUptoRow, standIns := [], harness := (true, "6b0823cb8924700f545c450c584c2b8ab8a86323679b05588ebd6422043737a1"), looks := true }, kinds := [], alts := [], laidByText := true, laidKinds := [.data, .data, .data, .data, .data, .data], laidTests := true, laidLooks := .later }
def FormatParsedUptoCardSaid : Prop := Claim7.holds Tryz.pinned (.plain (OpenSpec.upto formatParsedSpec)) formatParsedUptoCard
end Rows
end Go.Proofs.YtefajchlhjcgpaaGreatDoor
