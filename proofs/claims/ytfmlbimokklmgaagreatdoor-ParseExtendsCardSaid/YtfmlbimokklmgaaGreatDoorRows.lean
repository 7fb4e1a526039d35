/-
  NARROWER THAN 'FOR EVERY INPUT', by the rows' own cells (each row's printed sentence says how): ParseExtends: laid · ParseBinds: laid · ParseConstants: laid · ParseTokens: laid · ParseParens: laid · ParsePlaces: laid.
  DERIVED. THE GIVEN ROWS OF THIS SEAT. 6 by the template 'for every input the law returns true; each argument reads behind the call as it read before'; 0 by the template 'total and deterministic' (their statements: YtfmlbimokklmgaaGreatDoorTotals.lean).
  GIVEN WITH THE SEED: the statements are not yours to turn. If you find one false, say at which input.
  Laid BY PROGRAM, IN A SANDBOX (cutbox-rows.mjs): the forced cells as the released guide's own fill.sh prints them over the translation 5c7527edb496142a… (all of the seat's roots in one cut). By AI agents, Wed Nov 11 2026. No macro, syntax, notation, axiom, sorry.
-/
import Derived.Test.YtfmlbimokklmgaaGreatDoorChecked
import GoSem.Claim
import GoSem.ClaimJoined
import GoSem.ClaimMapViews
import Derived.JoinedTies
import Derived.KernelRfl
namespace Go.Proofs.YtfmlbimokklmgaaGreatDoor
/- THE CELL 'sum', in the pinned program and in every row, IS THE sha256 OF THE DUMP (.gsa) THAT YtfmlbimokklmgaaGreatDoorProg.lean LOADS. Nothing in Lean hashes anything: it is a label: what it is worth is what the hold of that sum in a sandbox is worth. -/
noncomputable def Tryz.pinned : Pinned := { name := "ytfmlbimokklmgaagreatdoor", sum := "5c7527edb496142a3156865a938b5ba2125fc121d90dacfbf4fcd19fa3d6854a", checked := Tryz.checked }
namespace Rows
def none {H : Type} : Left H := { results := [], args := [] }

/- WHAT THE LISTED PACKAGE-LEVEL VARIABLES READ AS WHEN THE CALL BEGINS. Each datum BY PROGRAM (the guide's laid-datum.mjs) off the statement by which the dump's own 'gosem.cut.vars' lays the variable. In a bare row this is a premise. The card (YtfmlbimokklmgaaGreatDoorCards.lean) ties it to the program's text. -/
def laid_annuitant_calendar_lengths {H : Type} : DataW H := .agg [.lit (.int .i64 31), .lit (.int .i64 28), .lit (.int .i64 31), .lit (.int .i64 30), .lit (.int .i64 31), .lit (.int .i64 30), .lit (.int .i64 31), .lit (.int .i64 31), .lit (.int .i64 30), .lit (.int .i64 31), .lit (.int .i64 30), .lit (.int .i64 31)]
def laid_annuitant_parse_kindWords {H : Type} : DataW H := .agg [.lit (.string []), .lit (.string [116, 114, 117, 116, 104]), .lit (.string [110, 117, 109, 98, 101, 114]), .lit (.string [109, 111, 110, 101, 121]), .lit (.string [100, 97, 116, 101]), .lit (.string [100, 97, 121, 115]), .lit (.string [109, 111, 110, 116, 104, 115])]
def laid_annuitant_parse_modeWords {H : Type} : DataW H := .agg [.lit (.string []), .lit (.string [100, 111, 119, 110]), .lit (.string [117, 112]), .lit (.string [102, 108, 111, 111, 114]), .lit (.string [99, 101, 105, 108]), .lit (.string [104, 97, 108, 102]), .lit (.string [101, 118, 101, 110])]

/-- 'annuitantlaw12.ParseExtends': WHATEVER THE INPUT: true; the input reads as it did. -/
def parseExtendsSpec : ChangeSpec := { name := "parseExtends", fn := fun _ => fun
  | [d1, d2] => { results := [.lit (.bool true)], args := [d1, d2] }
  | _ => none }
def parseExtendsRow : OpenClaim := { program := "ytfmlbimokklmgaagreatdoor", sum := "5c7527edb496142a3156865a938b5ba2125fc121d90dacfbf4fcd19fa3d6854a", func := "annuitant/annuitantlaw12.ParseExtends", spec := "parseExtends", inPlace := ["internal/bytealg.IndexByteString", "internal/bytealg.CountString", "internal/bytealg.IndexString"], unfollowed := true, recurses := true, named := ["annuitant/calendar.lengths", "internal/bytealg.MaxLen", "annuitant/parse.kindWords", "math/bits.overflowError", "annuitant/parse.modeWords"], apart := false, laid := [("annuitant/calendar.lengths", laid_annuitant_calendar_lengths), ("annuitant/parse.kindWords", laid_annuitant_parse_kindWords), ("annuitant/parse.modeWords", laid_annuitant_parse_modeWords)] }
def ParseExtendsSaid : Prop := parseExtendsRow.holds Tryz.pinned (OpenSpec.ofChange parseExtendsSpec)

/-- ITS FALSE NEIGHBOUR: 'it returns false'. Refute it at one input. -/
def parseExtendsWrong : ChangeSpec := { name := "parseExtends", fn := fun _ => fun
  | [d1, d2] => { results := [.lit (.bool false)], args := [d1, d2] }
  | _ => none }
def ParseExtendsWrongFalsely : Prop := parseExtendsRow.holds Tryz.pinned (OpenSpec.ofChange parseExtendsWrong)

/-- 'annuitantlaw12.ParseBinds': WHATEVER THE INPUT: true; the input reads as it did. -/
def parseBindsSpec : ChangeSpec := { name := "parseBinds", fn := fun _ => fun
  | [d1, d2] => { results := [.lit (.bool true)], args := [d1, d2] }
  | _ => none }
def parseBindsRow : OpenClaim := { program := "ytfmlbimokklmgaagreatdoor", sum := "5c7527edb496142a3156865a938b5ba2125fc121d90dacfbf4fcd19fa3d6854a", func := "annuitant/annuitantlaw12.ParseBinds", spec := "parseBinds", inPlace := ["internal/bytealg.IndexByteString", "internal/bytealg.CountString", "internal/bytealg.IndexString"], unfollowed := true, recurses := true, named := ["annuitant/calendar.lengths", "internal/bytealg.MaxLen", "annuitant/parse.kindWords", "math/bits.overflowError", "annuitant/parse.modeWords"], apart := false, laid := [("annuitant/calendar.lengths", laid_annuitant_calendar_lengths), ("annuitant/parse.kindWords", laid_annuitant_parse_kindWords), ("annuitant/parse.modeWords", laid_annuitant_parse_modeWords)] }
def ParseBindsSaid : Prop := parseBindsRow.holds Tryz.pinned (OpenSpec.ofChange parseBindsSpec)

/-- ITS FALSE NEIGHBOUR: 'it returns false'. Refute it at one input. -/
def parseBindsWrong : ChangeSpec := { name := "parseBinds", fn := fun _ => fun
  | [d1, d2] => { results := [.lit (.bool false)], args := [d1, d2] }
  | _ => none }
def ParseBindsWrongFalsely : Prop := parseBindsRow.holds Tryz.pinned (OpenSpec.ofChange parseBindsWrong)

/-- 'annuitantlaw12.ParseConstants': WHATEVER THE INPUT: true; the input reads as it did. -/
def parseConstantsSpec : ChangeSpec := { name := "parseConstants", fn := fun _ => fun
  | [d1, d2] => { results := [.lit (.bool true)], args := [d1, d2] }
  | _ => none }
def parseConstantsRow : OpenClaim := { program := "ytfmlbimokklmgaagreatdoor", sum := "5c7527edb496142a3156865a938b5ba2125fc121d90dacfbf4fcd19fa3d6854a", func := "annuitant/annuitantlaw12.ParseConstants", spec := "parseConstants", inPlace := ["internal/bytealg.IndexByteString", "internal/bytealg.CountString", "internal/bytealg.IndexString"], unfollowed := true, recurses := true, named := ["annuitant/calendar.lengths", "internal/bytealg.MaxLen", "annuitant/parse.kindWords", "math/bits.overflowError", "annuitant/parse.modeWords"], apart := false, laid := [("annuitant/calendar.lengths", laid_annuitant_calendar_lengths), ("annuitant/parse.kindWords", laid_annuitant_parse_kindWords), ("annuitant/parse.modeWords", laid_annuitant_parse_modeWords)] }
def ParseConstantsSaid : Prop := parseConstantsRow.holds Tryz.pinned (OpenSpec.ofChange parseConstantsSpec)

/-- ITS FALSE NEIGHBOUR: 'it returns false'. Refute it at one input. -/
def parseConstantsWrong : ChangeSpec := { name := "parseConstants", fn := fun _ => fun
  | [d1, d2] => { results := [.lit (.bool false)], args := [d1, d2] }
  | _ => none }
def ParseConstantsWrongFalsely : Prop := parseConstantsRow.holds Tryz.pinned (OpenSpec.ofChange parseConstantsWrong)

/-- 'annuitantlaw12.ParseTokens': WHATEVER THE INPUT: true; the input reads as it did. -/
def parseTokensSpec : ChangeSpec := { name := "parseTokens", fn := fun _ => fun
  | [d] => { results := [.lit (.bool true)], args := [d] }
  | _ => none }
def parseTokensRow : OpenClaim := { program := "ytfmlbimokklmgaagreatdoor", sum := "5c7527edb496142a3156865a938b5ba2125fc121d90dacfbf4fcd19fa3d6854a", func := "annuitant/annuitantlaw12.ParseTokens", spec := "parseTokens", inPlace := ["internal/bytealg.IndexByteString", "internal/bytealg.CountString", "internal/bytealg.IndexString", "internal/abi.NoEscape"], unfollowed := true, recurses := true, named := ["annuitant/calendar.lengths", "internal/bytealg.MaxLen", "annuitant/parse.kindWords", "math/bits.overflowError", "annuitant/parse.modeWords"], apart := false, laid := [("annuitant/calendar.lengths", laid_annuitant_calendar_lengths), ("annuitant/parse.kindWords", laid_annuitant_parse_kindWords), ("annuitant/parse.modeWords", laid_annuitant_parse_modeWords)] }
def ParseTokensSaid : Prop := parseTokensRow.holds Tryz.pinned (OpenSpec.ofChange parseTokensSpec)

/-- ITS FALSE NEIGHBOUR: 'it returns false'. Refute it at one input. -/
def parseTokensWrong : ChangeSpec := { name := "parseTokens", fn := fun _ => fun
  | [d] => { results := [.lit (.bool false)], args := [d] }
  | _ => none }
def ParseTokensWrongFalsely : Prop := parseTokensRow.holds Tryz.pinned (OpenSpec.ofChange parseTokensWrong)

/-- 'annuitantlaw12.ParseParens': WHATEVER THE INPUT: true; the input reads as it did. -/
def parseParensSpec : ChangeSpec := { name := "parseParens", fn := fun _ => fun
  | [d] => { results := [.lit (.bool true)], args := [d] }
  | _ => none }
def parseParensRow : OpenClaim := { program := "ytfmlbimokklmgaagreatdoor", sum := "5c7527edb496142a3156865a938b5ba2125fc121d90dacfbf4fcd19fa3d6854a", func := "annuitant/annuitantlaw12.ParseParens", spec := "parseParens", inPlace := ["internal/bytealg.IndexByteString", "internal/bytealg.CountString", "internal/bytealg.IndexString", "internal/abi.NoEscape"], unfollowed := true, recurses := true, named := ["annuitant/calendar.lengths", "internal/bytealg.MaxLen", "annuitant/parse.kindWords", "math/bits.overflowError", "annuitant/parse.modeWords"], apart := false, laid := [("annuitant/calendar.lengths", laid_annuitant_calendar_lengths), ("annuitant/parse.kindWords", laid_annuitant_parse_kindWords), ("annuitant/parse.modeWords", laid_annuitant_parse_modeWords)] }
def ParseParensSaid : Prop := parseParensRow.holds Tryz.pinned (OpenSpec.ofChange parseParensSpec)

/-- ITS FALSE NEIGHBOUR: 'it returns false'. Refute it at one input. -/
def parseParensWrong : ChangeSpec := { name := "parseParens", fn := fun _ => fun
  | [d] => { results := [.lit (.bool false)], args := [d] }
  | _ => none }
def ParseParensWrongFalsely : Prop := parseParensRow.holds Tryz.pinned (OpenSpec.ofChange parseParensWrong)

/-- 'annuitantlaw12.ParsePlaces': WHATEVER THE INPUT: true; the input reads as it did. -/
def parsePlacesSpec : ChangeSpec := { name := "parsePlaces", fn := fun _ => fun
  | [d] => { results := [.lit (.bool true)], args := [d] }
  | _ => none }
def parsePlacesRow : OpenClaim := { program := "ytfmlbimokklmgaagreatdoor", sum := "5c7527edb496142a3156865a938b5ba2125fc121d90dacfbf4fcd19fa3d6854a", func := "annuitant/annuitantlaw12.ParsePlaces", spec := "parsePlaces", inPlace := ["internal/bytealg.IndexByteString", "internal/bytealg.CountString", "internal/bytealg.IndexString", "internal/abi.NoEscape"], unfollowed := true, recurses := true, named := ["annuitant/calendar.lengths", "internal/bytealg.MaxLen", "annuitant/parse.kindWords", "math/bits.overflowError", "annuitant/parse.modeWords"], apart := false, laid := [("annuitant/calendar.lengths", laid_annuitant_calendar_lengths), ("annuitant/parse.kindWords", laid_annuitant_parse_kindWords), ("annuitant/parse.modeWords", laid_annuitant_parse_modeWords)] }
def ParsePlacesSaid : Prop := parsePlacesRow.holds Tryz.pinned (OpenSpec.ofChange parsePlacesSpec)

/-- ITS FALSE NEIGHBOUR: 'it returns false'. Refute it at one input. -/
def parsePlacesWrong : ChangeSpec := { name := "parsePlaces", fn := fun _ => fun
  | [d] => { results := [.lit (.bool false)], args := [d] }
  | _ => none }
def ParsePlacesWrongFalsely : Prop := parsePlacesRow.holds Tryz.pinned (OpenSpec.ofChange parsePlacesWrong)

/- THE SECOND FORM. 'bulk': how many values and letters a reading holds, each counted each time it is reached (what is shared counts as often as it is met; a slice's spare places count too). A statement '..UptoSaid' is the law's where the arguments, and the package variables that the reading takes, are together of bulk at most 1048576: NARROWER than '..Said'. Prove '..Said' where nothing that the law and all that it calls make is longer than what came in: it says more and counts as full. Else prove '..UptoSaid'. A law counts once. -/
mutual
def uptoBulk {H : Type} : DataW H → Nat
  | .lit (.string bytes) => bytes.length + 1
  | .lit _ => 1
  | .nil => 1
  | .ptr d => uptoBulk d + 1
  | .slice elems spare => uptoBulkAll elems + uptoBulkAll spare + 1
  | .agg parts => uptoBulkAll parts + 1
  | .iface _ d => uptoBulk d + 1
  | .map entries => uptoBulkEntries entries + 1
  | .held _ => 1
def uptoBulkAll {H : Type} : List (DataW H) → Nat
  | [] => 0
  | d :: r => uptoBulk d + uptoBulkAll r
def uptoBulkEntries {H : Type} : List (Lit × DataW H) → Nat
  | [] => 0
  | x :: r => uptoBulkEntry x + uptoBulkEntries r
def uptoBulkEntry {H : Type} : Lit × DataW H → Nat
  | (.string bytes, d) => bytes.length + uptoBulk d + 1
  | (_, d) => uptoBulk d + 1
 end
def uptoSmall : (H : Type) → List (DataW H) → Bool := fun _ ds => decide (uptoBulkAll ds ≤ 1048576)
def OpenSpec.upto (s : _root_.Go.ChangeSpec) : _root_.Go.OpenSpec := { _root_.Go.OpenSpec.ofChange s with cond := some uptoSmall }

/-- 'annuitantlaw12.ParseExtends', WHERE WHAT IT READS IS OF BULK AT MOST 1048576: true; the input reads as it did. -/
def parseExtendsUptoRow : OpenClaim := { program := "ytfmlbimokklmgaagreatdoor", sum := "5c7527edb496142a3156865a938b5ba2125fc121d90dacfbf4fcd19fa3d6854a", func := "annuitant/annuitantlaw12.ParseExtends", spec := "parseExtends", inPlace := ["internal/bytealg.IndexByteString", "internal/bytealg.CountString", "internal/bytealg.IndexString"], unfollowed := true, recurses := true, named := ["annuitant/calendar.lengths", "internal/bytealg.MaxLen", "annuitant/parse.kindWords", "math/bits.overflowError", "annuitant/parse.modeWords"], apart := false, laid := [("annuitant/calendar.lengths", laid_annuitant_calendar_lengths), ("annuitant/parse.kindWords", laid_annuitant_parse_kindWords), ("annuitant/parse.modeWords", laid_annuitant_parse_modeWords)], narrowed := true }
def ParseExtendsUptoSaid : Prop := parseExtendsUptoRow.holds Tryz.pinned (OpenSpec.upto parseExtendsSpec)

/-- 'annuitantlaw12.ParseBinds', WHERE WHAT IT READS IS OF BULK AT MOST 1048576: true; the input reads as it did. -/
def parseBindsUptoRow : OpenClaim := { program := "ytfmlbimokklmgaagreatdoor", sum := "5c7527edb496142a3156865a938b5ba2125fc121d90dacfbf4fcd19fa3d6854a", func := "annuitant/annuitantlaw12.ParseBinds", spec := "parseBinds", inPlace := ["internal/bytealg.IndexByteString", "internal/bytealg.CountString", "internal/bytealg.IndexString"], unfollowed := true, recurses := true, named := ["annuitant/calendar.lengths", "internal/bytealg.MaxLen", "annuitant/parse.kindWords", "math/bits.overflowError", "annuitant/parse.modeWords"], apart := false, laid := [("annuitant/calendar.lengths", laid_annuitant_calendar_lengths), ("annuitant/parse.kindWords", laid_annuitant_parse_kindWords), ("annuitant/parse.modeWords", laid_annuitant_parse_modeWords)], narrowed := true }
def ParseBindsUptoSaid : Prop := parseBindsUptoRow.holds Tryz.pinned (OpenSpec.upto parseBindsSpec)

/-- 'annuitantlaw12.ParseConstants', WHERE WHAT IT READS IS OF BULK AT MOST 1048576: true; the input reads as it did. -/
def parseConstantsUptoRow : OpenClaim := { program := "ytfmlbimokklmgaagreatdoor", sum := "5c7527edb496142a3156865a938b5ba2125fc121d90dacfbf4fcd19fa3d6854a", func := "annuitant/annuitantlaw12.ParseConstants", spec := "parseConstants", inPlace := ["internal/bytealg.IndexByteString", "internal/bytealg.CountString", "internal/bytealg.IndexString"], unfollowed := true, recurses := true, named := ["annuitant/calendar.lengths", "internal/bytealg.MaxLen", "annuitant/parse.kindWords", "math/bits.overflowError", "annuitant/parse.modeWords"], apart := false, laid := [("annuitant/calendar.lengths", laid_annuitant_calendar_lengths), ("annuitant/parse.kindWords", laid_annuitant_parse_kindWords), ("annuitant/parse.modeWords", laid_annuitant_parse_modeWords)], narrowed := true }
def ParseConstantsUptoSaid : Prop := parseConstantsUptoRow.holds Tryz.pinned (OpenSpec.upto parseConstantsSpec)

/-- 'annuitantlaw12.ParseTokens', WHERE WHAT IT READS IS OF BULK AT MOST 1048576: true; the input reads as it did. -/
def parseTokensUptoRow : OpenClaim := { program := "ytfmlbimokklmgaagreatdoor", sum := "5c7527edb496142a3156865a938b5ba2125fc121d90dacfbf4fcd19fa3d6854a", func := "annuitant/annuitantlaw12.ParseTokens", spec := "parseTokens", inPlace := ["internal/bytealg.IndexByteString", "internal/bytealg.CountString", "internal/bytealg.IndexString", "internal/abi.NoEscape"], unfollowed := true, recurses := true, named := ["annuitant/calendar.lengths", "internal/bytealg.MaxLen", "annuitant/parse.kindWords", "math/bits.overflowError", "annuitant/parse.modeWords"], apart := false, laid := [("annuitant/calendar.lengths", laid_annuitant_calendar_lengths), ("annuitant/parse.kindWords", laid_annuitant_parse_kindWords), ("annuitant/parse.modeWords", laid_annuitant_parse_modeWords)], narrowed := true }
def ParseTokensUptoSaid : Prop := parseTokensUptoRow.holds Tryz.pinned (OpenSpec.upto parseTokensSpec)

/-- 'annuitantlaw12.ParseParens', WHERE WHAT IT READS IS OF BULK AT MOST 1048576: true; the input reads as it did. -/
def parseParensUptoRow : OpenClaim := { program := "ytfmlbimokklmgaagreatdoor", sum := "5c7527edb496142a3156865a938b5ba2125fc121d90dacfbf4fcd19fa3d6854a", func := "annuitant/annuitantlaw12.ParseParens", spec := "parseParens", inPlace := ["internal/bytealg.IndexByteString", "internal/bytealg.CountString", "internal/bytealg.IndexString", "internal/abi.NoEscape"], unfollowed := true, recurses := true, named := ["annuitant/calendar.lengths", "internal/bytealg.MaxLen", "annuitant/parse.kindWords", "math/bits.overflowError", "annuitant/parse.modeWords"], apart := false, laid := [("annuitant/calendar.lengths", laid_annuitant_calendar_lengths), ("annuitant/parse.kindWords", laid_annuitant_parse_kindWords), ("annuitant/parse.modeWords", laid_annuitant_parse_modeWords)], narrowed := true }
def ParseParensUptoSaid : Prop := parseParensUptoRow.holds Tryz.pinned (OpenSpec.upto parseParensSpec)

/-- 'annuitantlaw12.ParsePlaces', WHERE WHAT IT READS IS OF BULK AT MOST 1048576: true; the input reads as it did. -/
def parsePlacesUptoRow : OpenClaim := { program := "ytfmlbimokklmgaagreatdoor", sum := "5c7527edb496142a3156865a938b5ba2125fc121d90dacfbf4fcd19fa3d6854a", func := "annuitant/annuitantlaw12.ParsePlaces", spec := "parsePlaces", inPlace := ["internal/bytealg.IndexByteString", "internal/bytealg.CountString", "internal/bytealg.IndexString", "internal/abi.NoEscape"], unfollowed := true, recurses := true, named := ["annuitant/calendar.lengths", "internal/bytealg.MaxLen", "annuitant/parse.kindWords", "math/bits.overflowError", "annuitant/parse.modeWords"], apart := false, laid := [("annuitant/calendar.lengths", laid_annuitant_calendar_lengths), ("annuitant/parse.kindWords", laid_annuitant_parse_kindWords), ("annuitant/parse.modeWords", laid_annuitant_parse_modeWords)], narrowed := true }
def ParsePlacesUptoSaid : Prop := parsePlacesUptoRow.holds Tryz.pinned (OpenSpec.upto parsePlacesSpec)

end Rows
end Go.Proofs.YtfmlbimokklmgaaGreatDoor
