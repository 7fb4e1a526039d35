/-
  DERIVED. GIVEN WITH THE SEED: THE CARDS: each row of YthmbkdkibhffbaaGreatDoorRows.lean that lists a variable, with what it lists TIED to the program's text (the seventh form; the later family's looks); each row that meets fmt, with fmt's text TOLD by the authors' own Lean function (tested against real Go, not proved from fmt's source: count such statements apart). THE CARD IS WHAT COUNTS. Prove the row's statement (the work); the ties are given (YthmbkdkibhffbaaGreatDoorTie.lean); close each card by the builder's one call (the guide's Derived/Test/ToyasCard.lean, 'card_holds'). Laid BY PROGRAM, IN A SANDBOX (cutbox-door.mjs). By AI agents, Wed Nov 11 2026. No macro, syntax, notation, axiom, sorry.
-/
import Derived.Test.YthmbkdkibhffbaaGreatDoorRows
import GoSem.ClaimSeven
namespace Go.Proofs.YthmbkdkibhffbaaGreatDoor
namespace Rows

/-- THE TIED CARD OF 'annuitantlaw19.CompileTells'. -/
def compileTellsCard : Claim7 := { stood := { row := compileTellsRow, standIns := [], harness := (true, "de73e16d1e4db2c14a8198ea6980b3954d8aef82a2fdce1ca783859b51da1afc"), looks := false }, kinds := [], alts := [], laidByText := true, laidKinds := [.data, .data, .data, .data], laidTests := true, laidLooks := .later }
def CompileTellsCardSaid : Prop := Claim7.holds Tryz.pinned (.plain (OpenSpec.ofChange compileTellsSpec)) compileTellsCard

/-- THE TIED CARD OF 'annuitantlaw19.CompileReads'. -/
def compileReadsCard : Claim7 := { stood := { row := compileReadsRow, standIns := [], harness := (true, "de73e16d1e4db2c14a8198ea6980b3954d8aef82a2fdce1ca783859b51da1afc"), looks := false }, kinds := [], alts := [], laidByText := true, laidKinds := [.data, .data, .data, .data], laidTests := true, laidLooks := .later }
def CompileReadsCardSaid : Prop := Claim7.holds Tryz.pinned (.plain (OpenSpec.ofChange compileReadsSpec)) compileReadsCard

/-- THE TIED CARD OF 'annuitantlaw19.CompileSmall'. -/
def compileSmallCard : Claim7 := { stood := { row := compileSmallRow, standIns := [], harness := (true, "de73e16d1e4db2c14a8198ea6980b3954d8aef82a2fdce1ca783859b51da1afc"), looks := false }, kinds := [], alts := [], laidByText := true, laidKinds := [.data, .data, .data, .data], laidTests := true, laidLooks := .later }
def CompileSmallCardSaid : Prop := Claim7.holds Tryz.pinned (.plain (OpenSpec.ofChange compileSmallSpec)) compileSmallCard

/-- THE TIED CARD OF 'annuitantlaw19.CompileEnds'. -/
def compileEndsCard : Claim7 := { stood := { row := compileEndsRow, standIns := [], harness := (true, "de73e16d1e4db2c14a8198ea6980b3954d8aef82a2fdce1ca783859b51da1afc"), looks := false }, kinds := [], alts := [], laidByText := true, laidKinds := [.data, .data, .data, .data], laidTests := true, laidLooks := .later }
def CompileEndsCardSaid : Prop := Claim7.holds Tryz.pinned (.plain (OpenSpec.ofChange compileEndsSpec)) compileEndsCard

/-- THE TIED CARD OF 'annuitantlaw19.CompileLists'. -/
def compileListsCard : Claim7 := { stood := { row := compileListsRow, standIns := [], harness := (true, "de73e16d1e4db2c14a8198ea6980b3954d8aef82a2fdce1ca783859b51da1afc"), looks := false }, kinds := [], alts := [], laidByText := true, laidKinds := [.data, .data, .data, .data], laidTests := true, laidLooks := .later }
def CompileListsCardSaid : Prop := Claim7.holds Tryz.pinned (.plain (OpenSpec.ofChange compileListsSpec)) compileListsCard

/-- THE TIED CARD OF 'annuitantlaw19.CompileApart'. -/
def compileApartCard : Claim7 := { stood := { row := compileApartRow, standIns := [], harness := (true, "de73e16d1e4db2c14a8198ea6980b3954d8aef82a2fdce1ca783859b51da1afc"), looks := false }, kinds := [], alts := [], laidByText := true, laidKinds := [.data, .data, .data, .data], laidTests := true, laidLooks := .later }
def CompileApartCardSaid : Prop := Claim7.holds Tryz.pinned (.plain (OpenSpec.ofChange compileApartSpec)) compileApartCard

/-- THE TIED CARD OF 'annuitantlaw19.CompileWrong'. -/
def compileWrongCard : Claim7 := { stood := { row := compileWrongRow, standIns := [], harness := (true, "de73e16d1e4db2c14a8198ea6980b3954d8aef82a2fdce1ca783859b51da1afc"), looks := false }, kinds := [], alts := [], laidByText := true, laidKinds := [.data, .data, .data, .data], laidTests := true, laidLooks := .later }
def CompileWrongCardSaid : Prop := Claim7.holds Tryz.pinned (.plain (OpenSpec.ofChange compileWrongSpec)) compileWrongCard

/-- THE TIED CARD OF 'annuitantlaw19.CompileShort'. -/
def compileShortCard : Claim7 := { stood := { row := compileShortRow, standIns := [], harness := (true, "de73e16d1e4db2c14a8198ea6980b3954d8aef82a2fdce1ca783859b51da1afc"), looks := false }, kinds := [], alts := [], laidByText := true, laidKinds := [.data, .data, .data, .data], laidTests := true, laidLooks := .later }
def CompileShortCardSaid : Prop := Claim7.holds Tryz.pinned (.plain (OpenSpec.ofChange compileShortSpec)) compileShortCard

/-- THE TIED CARD OF 'annuitantlaw19.CompileOnly'. -/
def compileOnlyCard : Claim7 := { stood := { row := compileOnlyRow, standIns := [], harness := (true, "de73e16d1e4db2c14a8198ea6980b3954d8aef82a2fdce1ca783859b51da1afc"), looks := false }, kinds := [], alts := [], laidByText := true, laidKinds := [.data, .data, .data, .data], laidTests := true, laidLooks := .later }
def CompileOnlyCardSaid : Prop := Claim7.holds Tryz.pinned (.plain (OpenSpec.ofChange compileOnlySpec)) compileOnlyCard

/-- THE TIED CARD OF 'annuitantlaw19.CompileBack'. -/
def compileBackCard : Claim7 := { stood := { row := compileBackRow, standIns := [], harness := (true, "de73e16d1e4db2c14a8198ea6980b3954d8aef82a2fdce1ca783859b51da1afc"), looks := false }, kinds := [], alts := [], laidByText := true, laidKinds := [.data, .data, .data, .data, .data, .data], laidTests := true, laidLooks := .later }
def CompileBackCardSaid : Prop := Claim7.holds Tryz.pinned (.plain (OpenSpec.ofChange compileBackSpec)) compileBackCard

/-- THE SECOND FORM's CARD OF 'annuitantlaw19.CompileTells'. -/
def compileTellsUptoCard : Claim7 := { stood := { row := compileTellsUptoRow, standIns := [], harness := (true, "de73e16d1e4db2c14a8198ea6980b3954d8aef82a2fdce1ca783859b51da1afc"), looks := false }, kinds := [], alts := [], laidByText := true, laidKinds := [.data, .data, .data, .data], laidTests := true, laidLooks := .later }
def CompileTellsUptoCardSaid : Prop := Claim7.holds Tryz.pinned (.plain (OpenSpec.upto compileTellsSpec)) compileTellsUptoCard

/-- THE SECOND FORM's CARD OF 'annuitantlaw19.CompileReads'. -/
def compileReadsUptoCard : Claim7 := { stood := { row := compileReadsUptoRow, standIns := [], harness := (true, "de73e16d1e4db2c14a8198ea6980b3954d8aef82a2fdce1ca783859b51da1afc"), looks := false }, kinds := [], alts := [], laidByText := true, laidKinds := [.data, .data, .data, .data], laidTests := true, laidLooks := .later }
def CompileReadsUptoCardSaid : Prop := Claim7.holds Tryz.pinned (.plain (OpenSpec.upto compileReadsSpec)) compileReadsUptoCard

/-- THE SECOND FORM's CARD OF 'annuitantlaw19.CompileSmall'. -/
def compileSmallUptoCard : Claim7 := { stood := { row := compileSmallUptoRow, standIns := [], harness := (true, "de73e16d1e4db2c14a8198ea6980b3954d8aef82a2fdce1ca783859b51da1afc"), looks := false }, kinds := [], alts := [], laidByText := true, laidKinds := [.data, .data, .data, .data], laidTests := true, laidLooks := .later }
def CompileSmallUptoCardSaid : Prop := Claim7.holds Tryz.pinned (.plain (OpenSpec.upto compileSmallSpec)) compileSmallUptoCard

/-- THE SECOND FORM's CARD OF 'annuitantlaw19.CompileEnds'. -/
def compileEndsUptoCard : Claim7 := { stood := { row := compileEndsUptoRow, standIns := [], harness := (true, "de73e16d1e4db2c14a8198ea6980b3954d8aef82a2fdce1ca783859b51da1afc"), looks := false }, kinds := [], alts := [], laidByText := true, laidKinds := [.data, .data, .data, .data], laidTests := true, laidLooks := .later }
def CompileEndsUptoCardSaid : Prop := Claim7.holds Tryz.pinned (.plain (OpenSpec.upto compileEndsSpec)) compileEndsUptoCard

/-- THE SECOND FORM's CARD OF 'annuitantlaw19.CompileLists'. -/
def compileListsUptoCard : Claim7 := { stood := { row := compileListsUptoRow, standIns := [], harness := (true, "de73e16d1e4db2c14a8198ea6980b3954d8aef82a2fdce1ca783859b51da1afc"), looks := false }, kinds := [], alts := [], laidByText := true, laidKinds := [.data, .data, .data, .data], laidTests := true, laidLooks := .later }
def CompileListsUptoCardSaid : Prop := Claim7.holds Tryz.pinned (.plain (OpenSpec.upto compileListsSpec)) compileListsUptoCard

/-- THE SECOND FORM's CARD OF 'annuitantlaw19.CompileApart'. -/
def compileApartUptoCard : Claim7 := { stood := { row := compileApartUptoRow, standIns := [], harness := (true, "de73e16d1e4db2c14a8198ea6980b3954d8aef82a2fdce1ca783859b51da1afc"), looks := false }, kinds := [], alts := [], laidByText := true, laidKinds := [.data, .data, .data, .data], laidTests := true, laidLooks := .later }
def CompileApartUptoCardSaid : Prop := Claim7.holds Tryz.pinned (.plain (OpenSpec.upto compileApartSpec)) compileApartUptoCard

/-- THE SECOND FORM's CARD OF 'annuitantlaw19.CompileWrong'. -/
def compileWrongUptoCard : Claim7 := { stood := { row := compileWrongUptoRow, standIns := [], harness := (true, "de73e16d1e4db2c14a8198ea6980b3954d8aef82a2fdce1ca783859b51da1afc"), looks := false }, kinds := [], alts := [], laidByText := true, laidKinds := [.data, .data, .data, .data], laidTests := true, laidLooks := .later }
def CompileWrongUptoCardSaid : Prop := Claim7.holds Tryz.pinned (.plain (OpenSpec.upto compileWrongSpec)) compileWrongUptoCard

/-- THE SECOND FORM's CARD OF 'annuitantlaw19.CompileShort'. -/
def compileShortUptoCard : Claim7 := { stood := { row := compileShortUptoRow, standIns := [], harness := (true, "de73e16d1e4db2c14a8198ea6980b3954d8aef82a2fdce1ca783859b51da1afc"), looks := false }, kinds := [], alts := [], laidByText := true, laidKinds := [.data, .data, .data, .data], laidTests := true, laidLooks := .later }
def CompileShortUptoCardSaid : Prop := Claim7.holds Tryz.pinned (.plain (OpenSpec.upto compileShortSpec)) compileShortUptoCard

/-- THE SECOND FORM's CARD OF 'annuitantlaw19.CompileOnly'. -/
def compileOnlyUptoCard : Claim7 := { stood := { row := compileOnlyUptoRow, standIns := [], harness := (true, "de73e16d1e4db2c14a8198ea6980b3954d8aef82a2fdce1ca783859b51da1afc"), looks := false }, kinds := [], alts := [], laidByText := true, laidKinds := [.data, .data, .data, .data], laidTests := true, laidLooks := .later }
def CompileOnlyUptoCardSaid : Prop := Claim7.holds Tryz.pinned (.plain (OpenSpec.upto compileOnlySpec)) compileOnlyUptoCard

/-- THE SECOND FORM's CARD OF 'annuitantlaw19.CompileBack'. -/
def compileBackUptoCard : Claim7 := { stood := { row := compileBackUptoRow, standIns := [], harness := (true, "de73e16d1e4db2c14a8198ea6980b3954d8aef82a2fdce1ca783859b51da1afc"), looks := false }, kinds := [], alts := [], laidByText := true, laidKinds := [.data, .data, .data, .data, .data, .data], laidTests := true, laidLooks := .later }
def CompileBackUptoCardSaid : Prop := Claim7.holds Tryz.pinned (.plain (OpenSpec.upto compileBackSpec)) compileBackUptoCard
end Rows
end Go.Proofs.YthmbkdkibhffbaaGreatDoor
