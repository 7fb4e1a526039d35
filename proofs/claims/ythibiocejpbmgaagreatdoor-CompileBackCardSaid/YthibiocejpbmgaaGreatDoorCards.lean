/-
  DERIVED. GIVEN WITH THE SEED: THE CARDS: each row of YthibiocejpbmgaaGreatDoorRows.lean that lists a variable, with what it lists TIED to the program's text (the seventh form; the later family's looks); each row that meets fmt, with fmt's text TOLD by the authors' own Lean function (tested against real Go, not proved from fmt's source: count such statements apart). THE CARD IS WHAT COUNTS. Prove the row's statement (the work); the ties are given (YthibiocejpbmgaaGreatDoorTie.lean); close each card by the builder's one call (the guide's Derived/Test/ToyasCard.lean, 'card_holds'). Laid BY PROGRAM, IN A SANDBOX (cutbox-door.mjs). By AI agents, Wed Nov 11 2026. No macro, syntax, notation, axiom, sorry.
-/
import Derived.Test.YthibiocejpbmgaaGreatDoorRows
import GoSem.ClaimSeven
namespace Go.Proofs.YthibiocejpbmgaaGreatDoor
namespace Rows

/-- THE TIED CARD OF 'annuitantlaw19.CompileBack'. -/
def compileBackCard : Claim7 := { stood := { row := compileBackRow, standIns := [], harness := (true, "7fb5d6f73f461db463ab7a8f9db25d3ea209dab883066e611d0fb102fa5be4f4"), looks := false }, kinds := [], alts := [], laidByText := true, laidKinds := [.data, .data, .data, .data, .data, .data], laidTests := true, laidLooks := .later }
def CompileBackCardSaid : Prop := Claim7.holds Tryz.pinned (.plain (OpenSpec.ofChange compileBackSpec)) compileBackCard

/-- THE SECOND FORM's CARD OF 'annuitantlaw19.CompileBack'. -/
def compileBackUptoCard : Claim7 := { stood := { row := compileBackUptoRow, standIns := [], harness := (true, "7fb5d6f73f461db463ab7a8f9db25d3ea209dab883066e611d0fb102fa5be4f4"), looks := false }, kinds := [], alts := [], laidByText := true, laidKinds := [.data, .data, .data, .data, .data, .data], laidTests := true, laidLooks := .later }
def CompileBackUptoCardSaid : Prop := Claim7.holds Tryz.pinned (.plain (OpenSpec.upto compileBackSpec)) compileBackUptoCard
end Rows
end Go.Proofs.YthibiocejpbmgaaGreatDoor
