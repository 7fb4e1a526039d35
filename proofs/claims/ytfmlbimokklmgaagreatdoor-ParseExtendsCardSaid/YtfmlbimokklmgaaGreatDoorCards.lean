/-
  DERIVED. GIVEN WITH THE SEED: THE CARDS: each row of YtfmlbimokklmgaaGreatDoorRows.lean that lists a variable, with what it lists TIED to the program's text (the seventh form; the later family's looks); each row that meets fmt, with fmt's text TOLD by the authors' own Lean function (tested against real Go, not proved from fmt's source: count such statements apart). THE CARD IS WHAT COUNTS. Prove the row's statement (the work); the ties are given (YtfmlbimokklmgaaGreatDoorTie.lean); close each card by the builder's one call (the guide's Derived/Test/ToyasCard.lean, 'card_holds'). Laid BY PROGRAM, IN A SANDBOX (cutbox-door.mjs). By AI agents, Wed Nov 11 2026. No macro, syntax, notation, axiom, sorry.
-/
import Derived.Test.YtfmlbimokklmgaaGreatDoorRows
import GoSem.ClaimSeven
namespace Go.Proofs.YtfmlbimokklmgaaGreatDoor
namespace Rows

/-- THE TIED CARD OF 'annuitantlaw12.ParseExtends'. -/
def parseExtendsCard : Claim7 := { stood := { row := parseExtendsRow, standIns := [], harness := (true, "02e22dc9e263e1aa98c66175805efa30025401d5425beb95ddb3447ac4931bba"), looks := true }, kinds := [], alts := [], laidByText := true, laidKinds := [.data, .data, .data], laidTests := true, laidLooks := .later }
def ParseExtendsCardSaid : Prop := Claim7.holds Tryz.pinned (.plain (OpenSpec.ofChange parseExtendsSpec)) parseExtendsCard

/-- THE TIED CARD OF 'annuitantlaw12.ParseBinds'. -/
def parseBindsCard : Claim7 := { stood := { row := parseBindsRow, standIns := [], harness := (true, "02e22dc9e263e1aa98c66175805efa30025401d5425beb95ddb3447ac4931bba"), looks := true }, kinds := [], alts := [], laidByText := true, laidKinds := [.data, .data, .data], laidTests := true, laidLooks := .later }
def ParseBindsCardSaid : Prop := Claim7.holds Tryz.pinned (.plain (OpenSpec.ofChange parseBindsSpec)) parseBindsCard

/-- THE TIED CARD OF 'annuitantlaw12.ParseConstants'. -/
def parseConstantsCard : Claim7 := { stood := { row := parseConstantsRow, standIns := [], harness := (true, "02e22dc9e263e1aa98c66175805efa30025401d5425beb95ddb3447ac4931bba"), looks := true }, kinds := [], alts := [], laidByText := true, laidKinds := [.data, .data, .data], laidTests := true, laidLooks := .later }
def ParseConstantsCardSaid : Prop := Claim7.holds Tryz.pinned (.plain (OpenSpec.ofChange parseConstantsSpec)) parseConstantsCard

/-- THE TIED CARD OF 'annuitantlaw12.ParseTokens'. -/
def parseTokensCard : Claim7 := { stood := { row := parseTokensRow, standIns := [], harness := (true, "02e22dc9e263e1aa98c66175805efa30025401d5425beb95ddb3447ac4931bba"), looks := true }, kinds := [], alts := [], laidByText := true, laidKinds := [.data, .data, .data], laidTests := true, laidLooks := .later }
def ParseTokensCardSaid : Prop := Claim7.holds Tryz.pinned (.plain (OpenSpec.ofChange parseTokensSpec)) parseTokensCard

/-- THE TIED CARD OF 'annuitantlaw12.ParseParens'. -/
def parseParensCard : Claim7 := { stood := { row := parseParensRow, standIns := [], harness := (true, "02e22dc9e263e1aa98c66175805efa30025401d5425beb95ddb3447ac4931bba"), looks := true }, kinds := [], alts := [], laidByText := true, laidKinds := [.data, .data, .data], laidTests := true, laidLooks := .later }
def ParseParensCardSaid : Prop := Claim7.holds Tryz.pinned (.plain (OpenSpec.ofChange parseParensSpec)) parseParensCard

/-- THE TIED CARD OF 'annuitantlaw12.ParsePlaces'. -/
def parsePlacesCard : Claim7 := { stood := { row := parsePlacesRow, standIns := [], harness := (true, "02e22dc9e263e1aa98c66175805efa30025401d5425beb95ddb3447ac4931bba"), looks := true }, kinds := [], alts := [], laidByText := true, laidKinds := [.data, .data, .data], laidTests := true, laidLooks := .later }
def ParsePlacesCardSaid : Prop := Claim7.holds Tryz.pinned (.plain (OpenSpec.ofChange parsePlacesSpec)) parsePlacesCard

/-- THE SECOND FORM's CARD OF 'annuitantlaw12.ParseExtends'. -/
def parseExtendsUptoCard : Claim7 := { stood := { row := parseExtendsUptoRow, standIns := [], harness := (true, "02e22dc9e263e1aa98c66175805efa30025401d5425beb95ddb3447ac4931bba"), looks := true }, kinds := [], alts := [], laidByText := true, laidKinds := [.data, .data, .data], laidTests := true, laidLooks := .later }
def ParseExtendsUptoCardSaid : Prop := Claim7.holds Tryz.pinned (.plain (OpenSpec.upto parseExtendsSpec)) parseExtendsUptoCard

/-- THE SECOND FORM's CARD OF 'annuitantlaw12.ParseBinds'. -/
def parseBindsUptoCard : Claim7 := { stood := { row := parseBindsUptoRow, standIns := [], harness := (true, "02e22dc9e263e1aa98c66175805efa30025401d5425beb95ddb3447ac4931bba"), looks := true }, kinds := [], alts := [], laidByText := true, laidKinds := [.data, .data, .data], laidTests := true, laidLooks := .later }
def ParseBindsUptoCardSaid : Prop := Claim7.holds Tryz.pinned (.plain (OpenSpec.upto parseBindsSpec)) parseBindsUptoCard

/-- THE SECOND FORM's CARD OF 'annuitantlaw12.ParseConstants'. -/
def parseConstantsUptoCard : Claim7 := { stood := { row := parseConstantsUptoRow, standIns := [], harness := (true, "02e22dc9e263e1aa98c66175805efa30025401d5425beb95ddb3447ac4931bba"), looks := true }, kinds := [], alts := [], laidByText := true, laidKinds := [.data, .data, .data], laidTests := true, laidLooks := .later }
def ParseConstantsUptoCardSaid : Prop := Claim7.holds Tryz.pinned (.plain (OpenSpec.upto parseConstantsSpec)) parseConstantsUptoCard

/-- THE SECOND FORM's CARD OF 'annuitantlaw12.ParseTokens'. -/
def parseTokensUptoCard : Claim7 := { stood := { row := parseTokensUptoRow, standIns := [], harness := (true, "02e22dc9e263e1aa98c66175805efa30025401d5425beb95ddb3447ac4931bba"), looks := true }, kinds := [], alts := [], laidByText := true, laidKinds := [.data, .data, .data], laidTests := true, laidLooks := .later }
def ParseTokensUptoCardSaid : Prop := Claim7.holds Tryz.pinned (.plain (OpenSpec.upto parseTokensSpec)) parseTokensUptoCard

/-- THE SECOND FORM's CARD OF 'annuitantlaw12.ParseParens'. -/
def parseParensUptoCard : Claim7 := { stood := { row := parseParensUptoRow, standIns := [], harness := (true, "02e22dc9e263e1aa98c66175805efa30025401d5425beb95ddb3447ac4931bba"), looks := true }, kinds := [], alts := [], laidByText := true, laidKinds := [.data, .data, .data], laidTests := true, laidLooks := .later }
def ParseParensUptoCardSaid : Prop := Claim7.holds Tryz.pinned (.plain (OpenSpec.upto parseParensSpec)) parseParensUptoCard

/-- THE SECOND FORM's CARD OF 'annuitantlaw12.ParsePlaces'. -/
def parsePlacesUptoCard : Claim7 := { stood := { row := parsePlacesUptoRow, standIns := [], harness := (true, "02e22dc9e263e1aa98c66175805efa30025401d5425beb95ddb3447ac4931bba"), looks := true }, kinds := [], alts := [], laidByText := true, laidKinds := [.data, .data, .data], laidTests := true, laidLooks := .later }
def ParsePlacesUptoCardSaid : Prop := Claim7.holds Tryz.pinned (.plain (OpenSpec.upto parsePlacesSpec)) parsePlacesUptoCard
end Rows
end Go.Proofs.YtfmlbimokklmgaaGreatDoor
