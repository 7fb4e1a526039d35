/-
  DERIVED. GIVEN WITH THE SEED: THE CARDS: each row of YtfijloeeppcipaaGreatDoorRows.lean that lists a variable, with what it lists TIED to the program's text (the seventh form; the later family's looks); each row that meets fmt, with fmt's text TOLD by the authors' own Lean function (tested against real Go, not proved from fmt's source: count such statements apart). THE CARD IS WHAT COUNTS. Prove the row's statement (the work); the ties are given (YtfijloeeppcipaaGreatDoorTie.lean); close each card by the builder's one call (the guide's Derived/Test/ToyasCard.lean, 'card_holds'). Laid BY PROGRAM, IN A SANDBOX (cutbox-door.mjs). By AI agents, Wed Nov 11 2026. No macro, syntax, notation, axiom, sorry.
-/
import Derived.Test.YtfijloeeppcipaaGreatDoorRows
import GoSem.ClaimSeven
namespace Go.Proofs.YtfijloeeppcipaaGreatDoor
namespace Rows

/-- THE TIED CARD OF 'annuitantlaw14.TypesSubst'. -/
def typesSubstCard : Claim7 := { stood := { row := typesSubstRow, standIns := [], harness := (true, "4ca4bae741df3ee67646995a9230b32134802d275fbc993d6af49cb48b595e22"), looks := false }, kinds := [], alts := [], laidByText := true, laidKinds := [.data, .data, .data, .data, .data], laidTests := true, laidLooks := .later }
def TypesSubstCardSaid : Prop := Claim7.holds Tryz.pinned (.plain (OpenSpec.ofChange typesSubstSpec)) typesSubstCard

/-- THE TIED CARD OF 'annuitantlaw14.TypesFirst'. -/
def typesFirstCard : Claim7 := { stood := { row := typesFirstRow, standIns := [], harness := (true, "4ca4bae741df3ee67646995a9230b32134802d275fbc993d6af49cb48b595e22"), looks := false }, kinds := [], alts := [], laidByText := true, laidKinds := [.data, .data, .data, .data, .data], laidTests := true, laidLooks := .later }
def TypesFirstCardSaid : Prop := Claim7.holds Tryz.pinned (.plain (OpenSpec.ofChange typesFirstSpec)) typesFirstCard

/-- THE TIED CARD OF 'annuitantlaw14.TypesLess'. -/
def typesLessCard : Claim7 := { stood := { row := typesLessRow, standIns := [], harness := (true, "4ca4bae741df3ee67646995a9230b32134802d275fbc993d6af49cb48b595e22"), looks := false }, kinds := [], alts := [], laidByText := true, laidKinds := [.data, .data, .data, .data, .data], laidTests := true, laidLooks := .later }
def TypesLessCardSaid : Prop := Claim7.holds Tryz.pinned (.plain (OpenSpec.ofChange typesLessSpec)) typesLessCard

/-- THE TIED CARD OF 'annuitantlaw14.TypesRename'. -/
def typesRenameCard : Claim7 := { stood := { row := typesRenameRow, standIns := [], harness := (true, "4ca4bae741df3ee67646995a9230b32134802d275fbc993d6af49cb48b595e22"), looks := false }, kinds := [], alts := [], laidByText := true, laidKinds := [.data, .data, .data, .data, .data], laidTests := true, laidLooks := .later }
def TypesRenameCardSaid : Prop := Claim7.holds Tryz.pinned (.plain (OpenSpec.ofChange typesRenameSpec)) typesRenameCard

/-- THE TIED CARD OF 'annuitantlaw14.TypesParts'. -/
def typesPartsCard : Claim7 := { stood := { row := typesPartsRow, standIns := [], harness := (true, "4ca4bae741df3ee67646995a9230b32134802d275fbc993d6af49cb48b595e22"), looks := false }, kinds := [], alts := [], laidByText := true, laidKinds := [.data, .data, .data, .data, .data], laidTests := true, laidLooks := .later }
def TypesPartsCardSaid : Prop := Claim7.holds Tryz.pinned (.plain (OpenSpec.ofChange typesPartsSpec)) typesPartsCard

/-- THE TIED CARD OF 'annuitantlaw14.TypesDeclared'. -/
def typesDeclaredCard : Claim7 := { stood := { row := typesDeclaredRow, standIns := [], harness := (true, "4ca4bae741df3ee67646995a9230b32134802d275fbc993d6af49cb48b595e22"), looks := false }, kinds := [], alts := [], laidByText := true, laidKinds := [.data, .data, .data, .data, .data], laidTests := true, laidLooks := .later }
def TypesDeclaredCardSaid : Prop := Claim7.holds Tryz.pinned (.plain (OpenSpec.ofChange typesDeclaredSpec)) typesDeclaredCard

/-- THE SECOND FORM's CARD OF 'annuitantlaw14.TypesSubst'. -/
def typesSubstUptoCard : Claim7 := { stood := { row := typesSubstUptoRow, standIns := [], harness := (true, "4ca4bae741df3ee67646995a9230b32134802d275fbc993d6af49cb48b595e22"), looks := false }, kinds := [], alts := [], laidByText := true, laidKinds := [.data, .data, .data, .data, .data], laidTests := true, laidLooks := .later }
def TypesSubstUptoCardSaid : Prop := Claim7.holds Tryz.pinned (.plain (OpenSpec.upto typesSubstSpec)) typesSubstUptoCard

/-- THE SECOND FORM's CARD OF 'annuitantlaw14.TypesFirst'. -/
def typesFirstUptoCard : Claim7 := { stood := { row := typesFirstUptoRow, standIns := [], harness := (true, "4ca4bae741df3ee67646995a9230b32134802d275fbc993d6af49cb48b595e22"), looks := false }, kinds := [], alts := [], laidByText := true, laidKinds := [.data, .data, .data, .data, .data], laidTests := true, laidLooks := .later }
def TypesFirstUptoCardSaid : Prop := Claim7.holds Tryz.pinned (.plain (OpenSpec.upto typesFirstSpec)) typesFirstUptoCard

/-- THE SECOND FORM's CARD OF 'annuitantlaw14.TypesLess'. -/
def typesLessUptoCard : Claim7 := { stood := { row := typesLessUptoRow, standIns := [], harness := (true, "4ca4bae741df3ee67646995a9230b32134802d275fbc993d6af49cb48b595e22"), looks := false }, kinds := [], alts := [], laidByText := true, laidKinds := [.data, .data, .data, .data, .data], laidTests := true, laidLooks := .later }
def TypesLessUptoCardSaid : Prop := Claim7.holds Tryz.pinned (.plain (OpenSpec.upto typesLessSpec)) typesLessUptoCard

/-- THE SECOND FORM's CARD OF 'annuitantlaw14.TypesRename'. -/
def typesRenameUptoCard : Claim7 := { stood := { row := typesRenameUptoRow, standIns := [], harness := (true, "4ca4bae741df3ee67646995a9230b32134802d275fbc993d6af49cb48b595e22"), looks := false }, kinds := [], alts := [], laidByText := true, laidKinds := [.data, .data, .data, .data, .data], laidTests := true, laidLooks := .later }
def TypesRenameUptoCardSaid : Prop := Claim7.holds Tryz.pinned (.plain (OpenSpec.upto typesRenameSpec)) typesRenameUptoCard

/-- THE SECOND FORM's CARD OF 'annuitantlaw14.TypesParts'. -/
def typesPartsUptoCard : Claim7 := { stood := { row := typesPartsUptoRow, standIns := [], harness := (true, "4ca4bae741df3ee67646995a9230b32134802d275fbc993d6af49cb48b595e22"), looks := false }, kinds := [], alts := [], laidByText := true, laidKinds := [.data, .data, .data, .data, .data], laidTests := true, laidLooks := .later }
def TypesPartsUptoCardSaid : Prop := Claim7.holds Tryz.pinned (.plain (OpenSpec.upto typesPartsSpec)) typesPartsUptoCard

/-- THE SECOND FORM's CARD OF 'annuitantlaw14.TypesDeclared'. -/
def typesDeclaredUptoCard : Claim7 := { stood := { row := typesDeclaredUptoRow, standIns := [], harness := (true, "4ca4bae741df3ee67646995a9230b32134802d275fbc993d6af49cb48b595e22"), looks := false }, kinds := [], alts := [], laidByText := true, laidKinds := [.data, .data, .data, .data, .data], laidTests := true, laidLooks := .later }
def TypesDeclaredUptoCardSaid : Prop := Claim7.holds Tryz.pinned (.plain (OpenSpec.upto typesDeclaredSpec)) typesDeclaredUptoCard
end Rows
end Go.Proofs.YtfijloeeppcipaaGreatDoor
