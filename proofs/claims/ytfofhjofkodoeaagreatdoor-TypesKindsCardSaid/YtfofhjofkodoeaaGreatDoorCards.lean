/-
  DERIVED. GIVEN WITH THE SEED: THE CARDS: each row of YtfofhjofkodoeaaGreatDoorRows.lean that lists a variable, with what it lists TIED to the program's text (the seventh form; the later family's looks); each row that meets fmt, with fmt's text TOLD by the authors' own Lean function (tested against real Go, not proved from fmt's source: count such statements apart). THE CARD IS WHAT COUNTS. Prove the row's statement (the work); the ties are given (YtfofhjofkodoeaaGreatDoorTie.lean); close each card by the builder's one call (the guide's Derived/Test/ToyasCard.lean, 'card_holds'). Laid BY PROGRAM, IN A SANDBOX (cutbox-door.mjs). By AI agents, Wed Nov 11 2026. No macro, syntax, notation, axiom, sorry.
-/
import Derived.Test.YtfofhjofkodoeaaGreatDoorRows
import GoSem.ClaimSeven
namespace Go.Proofs.YtfofhjofkodoeaaGreatDoor
namespace Rows

/-- THE TIED CARD OF 'annuitantlaw14.TypesKinds'. -/
def typesKindsCard : Claim7 := { stood := { row := typesKindsRow, standIns := [], harness := (true, "11ae52a29a140cc1b8caa91cda01195e29b808fe4043aac516a0ab04c7d2562a"), looks := false }, kinds := [], alts := [], laidByText := true, laidKinds := [.data, .data, .data, .data, .data], laidTests := true, laidLooks := .later }
def TypesKindsCardSaid : Prop := Claim7.holds Tryz.pinned (.plain (OpenSpec.ofChange typesKindsSpec)) typesKindsCard

/-- THE TIED CARD OF 'annuitantlaw14.TypesTells'. -/
def typesTellsCard : Claim7 := { stood := { row := typesTellsRow, standIns := [], harness := (true, "11ae52a29a140cc1b8caa91cda01195e29b808fe4043aac516a0ab04c7d2562a"), looks := false }, kinds := [], alts := [], laidByText := true, laidKinds := [.data, .data, .data, .data, .data], laidTests := true, laidLooks := .later }
def TypesTellsCardSaid : Prop := Claim7.holds Tryz.pinned (.plain (OpenSpec.ofChange typesTellsSpec)) typesTellsCard

/-- THE TIED CARD OF 'annuitantlaw14.TypesSmall'. -/
def typesSmallCard : Claim7 := { stood := { row := typesSmallRow, standIns := [], harness := (true, "11ae52a29a140cc1b8caa91cda01195e29b808fe4043aac516a0ab04c7d2562a"), looks := false }, kinds := [], alts := [], laidByText := true, laidKinds := [.data, .data, .data, .data, .data], laidTests := true, laidLooks := .later }
def TypesSmallCardSaid : Prop := Claim7.holds Tryz.pinned (.plain (OpenSpec.ofChange typesSmallSpec)) typesSmallCard

/-- THE SECOND FORM's CARD OF 'annuitantlaw14.TypesKinds'. -/
def typesKindsUptoCard : Claim7 := { stood := { row := typesKindsUptoRow, standIns := [], harness := (true, "11ae52a29a140cc1b8caa91cda01195e29b808fe4043aac516a0ab04c7d2562a"), looks := false }, kinds := [], alts := [], laidByText := true, laidKinds := [.data, .data, .data, .data, .data], laidTests := true, laidLooks := .later }
def TypesKindsUptoCardSaid : Prop := Claim7.holds Tryz.pinned (.plain (OpenSpec.upto typesKindsSpec)) typesKindsUptoCard

/-- THE SECOND FORM's CARD OF 'annuitantlaw14.TypesTells'. -/
def typesTellsUptoCard : Claim7 := { stood := { row := typesTellsUptoRow, standIns := [], harness := (true, "11ae52a29a140cc1b8caa91cda01195e29b808fe4043aac516a0ab04c7d2562a"), looks := false }, kinds := [], alts := [], laidByText := true, laidKinds := [.data, .data, .data, .data, .data], laidTests := true, laidLooks := .later }
def TypesTellsUptoCardSaid : Prop := Claim7.holds Tryz.pinned (.plain (OpenSpec.upto typesTellsSpec)) typesTellsUptoCard

/-- THE SECOND FORM's CARD OF 'annuitantlaw14.TypesSmall'. -/
def typesSmallUptoCard : Claim7 := { stood := { row := typesSmallUptoRow, standIns := [], harness := (true, "11ae52a29a140cc1b8caa91cda01195e29b808fe4043aac516a0ab04c7d2562a"), looks := false }, kinds := [], alts := [], laidByText := true, laidKinds := [.data, .data, .data, .data, .data], laidTests := true, laidLooks := .later }
def TypesSmallUptoCardSaid : Prop := Claim7.holds Tryz.pinned (.plain (OpenSpec.upto typesSmallSpec)) typesSmallUptoCard
end Rows
end Go.Proofs.YtfofhjofkodoeaaGreatDoor
