/-
  NARROWER THAN 'FOR EVERY INPUT', by the rows' own cells (each row's printed sentence says how): FormatLeast: loops, laid · FormatReads: loops, laid · FormatBack: loops, laid · FormatParsed: laid.
  DERIVED. THE GIVEN ROWS OF THIS SEAT. 4 by the template 'for every input the law returns true; each argument reads behind the call as it read before'; 0 by the template 'total and deterministic' (their statements: YtefajchlhjcgpaaGreatDoorTotals.lean).
  GIVEN WITH THE SEED: the statements are not yours to turn. If you find one false, say at which input.
  Laid BY PROGRAM, IN A SANDBOX (cutbox-rows.mjs): the forced cells as the released guide's own fill.sh prints them over the translation 2107a9abe1d1554e… (all of the seat's roots in one cut). By AI agents, Wed Nov 11 2026. No macro, syntax, notation, axiom, sorry.
-/
import Derived.Test.YtefajchlhjcgpaaGreatDoorChecked
import GoSem.Claim
import GoSem.ClaimJoined
import GoSem.ClaimMapViews
import Derived.JoinedTies
import Derived.KernelRfl
namespace Go.Proofs.YtefajchlhjcgpaaGreatDoor
/- THE CELL 'sum', in the pinned program and in every row, IS THE sha256 OF THE DUMP (.gsa) THAT YtefajchlhjcgpaaGreatDoorProg.lean LOADS. Nothing in Lean hashes anything: it is a label: what it is worth is what the hold of that sum in a sandbox is worth. -/
noncomputable def Tryz.pinned : Pinned := { name := "ytefajchlhjcgpaagreatdoor", sum := "2107a9abe1d1554e1e16cca359bc0cb27d9f87e92912b6f6fe744afafe46c5cc", checked := Tryz.checked }
namespace Rows
def none {H : Type} : Left H := { results := [], args := [] }

/- WHAT THE LISTED PACKAGE-LEVEL VARIABLES READ AS WHEN THE CALL BEGINS. Each datum BY PROGRAM (the guide's laid-datum.mjs) off the statement by which the dump's own 'gosem.cut.vars' lays the variable. In a bare row this is a premise. The card (YtefajchlhjcgpaaGreatDoorCards.lean) ties it to the program's text. -/
def laid_math_bits_deBruijn32tab {H : Type} : DataW H := .agg [.lit (.int .u8 0), .lit (.int .u8 1), .lit (.int .u8 28), .lit (.int .u8 2), .lit (.int .u8 29), .lit (.int .u8 14), .lit (.int .u8 24), .lit (.int .u8 3), .lit (.int .u8 30), .lit (.int .u8 22), .lit (.int .u8 20), .lit (.int .u8 15), .lit (.int .u8 25), .lit (.int .u8 17), .lit (.int .u8 4), .lit (.int .u8 8), .lit (.int .u8 31), .lit (.int .u8 27), .lit (.int .u8 13), .lit (.int .u8 23), .lit (.int .u8 21), .lit (.int .u8 19), .lit (.int .u8 16), .lit (.int .u8 7), .lit (.int .u8 26), .lit (.int .u8 12), .lit (.int .u8 18), .lit (.int .u8 6), .lit (.int .u8 11), .lit (.int .u8 5), .lit (.int .u8 10), .lit (.int .u8 9)]
def laid_math_bits_deBruijn64tab {H : Type} : DataW H := .agg [.lit (.int .u8 0), .lit (.int .u8 1), .lit (.int .u8 56), .lit (.int .u8 2), .lit (.int .u8 57), .lit (.int .u8 49), .lit (.int .u8 28), .lit (.int .u8 3), .lit (.int .u8 61), .lit (.int .u8 58), .lit (.int .u8 42), .lit (.int .u8 50), .lit (.int .u8 38), .lit (.int .u8 29), .lit (.int .u8 17), .lit (.int .u8 4), .lit (.int .u8 62), .lit (.int .u8 47), .lit (.int .u8 59), .lit (.int .u8 36), .lit (.int .u8 45), .lit (.int .u8 43), .lit (.int .u8 51), .lit (.int .u8 22), .lit (.int .u8 53), .lit (.int .u8 39), .lit (.int .u8 33), .lit (.int .u8 30), .lit (.int .u8 24), .lit (.int .u8 18), .lit (.int .u8 12), .lit (.int .u8 5), .lit (.int .u8 63), .lit (.int .u8 55), .lit (.int .u8 48), .lit (.int .u8 27), .lit (.int .u8 60), .lit (.int .u8 41), .lit (.int .u8 37), .lit (.int .u8 16), .lit (.int .u8 46), .lit (.int .u8 35), .lit (.int .u8 44), .lit (.int .u8 21), .lit (.int .u8 52), .lit (.int .u8 32), .lit (.int .u8 23), .lit (.int .u8 11), .lit (.int .u8 54), .lit (.int .u8 26), .lit (.int .u8 40), .lit (.int .u8 15), .lit (.int .u8 34), .lit (.int .u8 20), .lit (.int .u8 31), .lit (.int .u8 10), .lit (.int .u8 25), .lit (.int .u8 14), .lit (.int .u8 19), .lit (.int .u8 9), .lit (.int .u8 13), .lit (.int .u8 8), .lit (.int .u8 7), .lit (.int .u8 6)]
def laid_internal_strconv_uint64pow10 {H : Type} : DataW H := .agg [.lit (.int .u64 1), .lit (.int .u64 10), .lit (.int .u64 100), .lit (.int .u64 1000), .lit (.int .u64 10000), .lit (.int .u64 100000), .lit (.int .u64 1000000), .lit (.int .u64 10000000), .lit (.int .u64 100000000), .lit (.int .u64 1000000000), .lit (.int .u64 10000000000), .lit (.int .u64 100000000000), .lit (.int .u64 1000000000000), .lit (.int .u64 10000000000000), .lit (.int .u64 100000000000000), .lit (.int .u64 1000000000000000), .lit (.int .u64 10000000000000000), .lit (.int .u64 100000000000000000), .lit (.int .u64 1000000000000000000), .lit (.int .u64 10000000000000000000)]
def laid_annuitant_calendar_lengths {H : Type} : DataW H := .agg [.lit (.int .i64 31), .lit (.int .i64 28), .lit (.int .i64 31), .lit (.int .i64 30), .lit (.int .i64 31), .lit (.int .i64 30), .lit (.int .i64 31), .lit (.int .i64 31), .lit (.int .i64 30), .lit (.int .i64 31), .lit (.int .i64 30), .lit (.int .i64 31)]
def laid_annuitant_parse_kindWords {H : Type} : DataW H := .agg [.lit (.string []), .lit (.string [116, 114, 117, 116, 104]), .lit (.string [110, 117, 109, 98, 101, 114]), .lit (.string [109, 111, 110, 101, 121]), .lit (.string [100, 97, 116, 101]), .lit (.string [100, 97, 121, 115]), .lit (.string [109, 111, 110, 116, 104, 115])]
def laid_annuitant_parse_modeWords {H : Type} : DataW H := .agg [.lit (.string []), .lit (.string [100, 111, 119, 110]), .lit (.string [117, 112]), .lit (.string [102, 108, 111, 111, 114]), .lit (.string [99, 101, 105, 108]), .lit (.string [104, 97, 108, 102]), .lit (.string [101, 118, 101, 110])]

/-- 'annuitantlaw13.FormatLeast': WHATEVER THE INPUT: true; the input reads as it did. -/
def formatLeastSpec : ChangeSpec := { name := "formatLeast", fn := fun _ => fun
  | [d] => { results := [.lit (.bool true)], args := [d] }
  | _ => none }
def formatLeastRow : OpenClaim := { program := "ytefajchlhjcgpaagreatdoor", sum := "2107a9abe1d1554e1e16cca359bc0cb27d9f87e92912b6f6fe744afafe46c5cc", func := "annuitant/annuitantlaw13.FormatLeast", spec := "formatLeast", inPlace := ["internal/bytealg.IndexByteString", "internal/bytealg.IndexString", "internal/abi.NoEscape", "internal/bytealg.CountString"], unfollowed := true, recurses := true, named := ["math/bits.overflowError", "internal/strconv.uint64pow10", "math/bits.deBruijn32tab", "math/bits.deBruijn64tab", "annuitant/calendar.lengths", "internal/bytealg.MaxLen", "annuitant/parse.kindWords", "annuitant/parse.modeWords"], loops := true, apart := false, laid := [("math/bits.deBruijn32tab", laid_math_bits_deBruijn32tab), ("math/bits.deBruijn64tab", laid_math_bits_deBruijn64tab), ("internal/strconv.uint64pow10", laid_internal_strconv_uint64pow10), ("annuitant/calendar.lengths", laid_annuitant_calendar_lengths), ("annuitant/parse.kindWords", laid_annuitant_parse_kindWords), ("annuitant/parse.modeWords", laid_annuitant_parse_modeWords)] }
def FormatLeastSaid : Prop := formatLeastRow.holds Tryz.pinned (OpenSpec.ofChange formatLeastSpec)

/-- ITS FALSE NEIGHBOUR: 'it returns false'. Refute it at one input. -/
def formatLeastWrong : ChangeSpec := { name := "formatLeast", fn := fun _ => fun
  | [d] => { results := [.lit (.bool false)], args := [d] }
  | _ => none }
def FormatLeastWrongFalsely : Prop := formatLeastRow.holds Tryz.pinned (OpenSpec.ofChange formatLeastWrong)

/-- 'annuitantlaw13.FormatReads': WHATEVER THE INPUT: true; the input reads as it did. -/
def formatReadsSpec : ChangeSpec := { name := "formatReads", fn := fun _ => fun
  | [d] => { results := [.lit (.bool true)], args := [d] }
  | _ => none }
def formatReadsRow : OpenClaim := { program := "ytefajchlhjcgpaagreatdoor", sum := "2107a9abe1d1554e1e16cca359bc0cb27d9f87e92912b6f6fe744afafe46c5cc", func := "annuitant/annuitantlaw13.FormatReads", spec := "formatReads", inPlace := ["internal/bytealg.IndexByteString", "internal/bytealg.IndexString", "internal/abi.NoEscape", "internal/bytealg.CountString"], unfollowed := true, recurses := true, named := ["math/bits.overflowError", "internal/strconv.uint64pow10", "math/bits.deBruijn32tab", "math/bits.deBruijn64tab", "annuitant/calendar.lengths", "internal/bytealg.MaxLen", "annuitant/parse.kindWords", "annuitant/parse.modeWords"], loops := true, apart := false, laid := [("math/bits.deBruijn32tab", laid_math_bits_deBruijn32tab), ("math/bits.deBruijn64tab", laid_math_bits_deBruijn64tab), ("internal/strconv.uint64pow10", laid_internal_strconv_uint64pow10), ("annuitant/calendar.lengths", laid_annuitant_calendar_lengths), ("annuitant/parse.kindWords", laid_annuitant_parse_kindWords), ("annuitant/parse.modeWords", laid_annuitant_parse_modeWords)] }
def FormatReadsSaid : Prop := formatReadsRow.holds Tryz.pinned (OpenSpec.ofChange formatReadsSpec)

/-- ITS FALSE NEIGHBOUR: 'it returns false'. Refute it at one input. -/
def formatReadsWrong : ChangeSpec := { name := "formatReads", fn := fun _ => fun
  | [d] => { results := [.lit (.bool false)], args := [d] }
  | _ => none }
def FormatReadsWrongFalsely : Prop := formatReadsRow.holds Tryz.pinned (OpenSpec.ofChange formatReadsWrong)

/-- 'annuitantlaw13.FormatBack': WHATEVER THE INPUT: true; the input reads as it did. -/
def formatBackSpec : ChangeSpec := { name := "formatBack", fn := fun _ => fun
  | [d] => { results := [.lit (.bool true)], args := [d] }
  | _ => none }
def formatBackRow : OpenClaim := { program := "ytefajchlhjcgpaagreatdoor", sum := "2107a9abe1d1554e1e16cca359bc0cb27d9f87e92912b6f6fe744afafe46c5cc", func := "annuitant/annuitantlaw13.FormatBack", spec := "formatBack", inPlace := ["internal/bytealg.IndexByteString", "internal/bytealg.IndexString", "internal/abi.NoEscape", "internal/bytealg.CountString"], unfollowed := true, recurses := true, named := ["math/bits.overflowError", "internal/strconv.uint64pow10", "math/bits.deBruijn32tab", "math/bits.deBruijn64tab", "annuitant/calendar.lengths", "internal/bytealg.MaxLen", "annuitant/parse.kindWords", "annuitant/parse.modeWords"], loops := true, apart := false, laid := [("math/bits.deBruijn32tab", laid_math_bits_deBruijn32tab), ("math/bits.deBruijn64tab", laid_math_bits_deBruijn64tab), ("internal/strconv.uint64pow10", laid_internal_strconv_uint64pow10), ("annuitant/calendar.lengths", laid_annuitant_calendar_lengths), ("annuitant/parse.kindWords", laid_annuitant_parse_kindWords), ("annuitant/parse.modeWords", laid_annuitant_parse_modeWords)] }
def FormatBackSaid : Prop := formatBackRow.holds Tryz.pinned (OpenSpec.ofChange formatBackSpec)

/-- ITS FALSE NEIGHBOUR: 'it returns false'. Refute it at one input. -/
def formatBackWrong : ChangeSpec := { name := "formatBack", fn := fun _ => fun
  | [d] => { results := [.lit (.bool false)], args := [d] }
  | _ => none }
def FormatBackWrongFalsely : Prop := formatBackRow.holds Tryz.pinned (OpenSpec.ofChange formatBackWrong)

/-- 'annuitantlaw13.FormatParsed': WHATEVER THE INPUT: true; the input reads as it did. -/
def formatParsedSpec : ChangeSpec := { name := "formatParsed", fn := fun _ => fun
  | [d] => { results := [.lit (.bool true)], args := [d] }
  | _ => none }
def formatParsedRow : OpenClaim := { program := "ytefajchlhjcgpaagreatdoor", sum := "2107a9abe1d1554e1e16cca359bc0cb27d9f87e92912b6f6fe744afafe46c5cc", func := "annuitant/annuitantlaw13.FormatParsed", spec := "formatParsed", inPlace := ["internal/bytealg.IndexByteString", "internal/bytealg.IndexString", "internal/abi.NoEscape", "internal/bytealg.CountString"], unfollowed := true, recurses := true, named := ["math/bits.overflowError", "internal/strconv.uint64pow10", "math/bits.deBruijn32tab", "math/bits.deBruijn64tab", "annuitant/calendar.lengths", "internal/bytealg.MaxLen", "annuitant/parse.kindWords", "annuitant/parse.modeWords"], apart := false, laid := [("math/bits.deBruijn32tab", laid_math_bits_deBruijn32tab), ("math/bits.deBruijn64tab", laid_math_bits_deBruijn64tab), ("internal/strconv.uint64pow10", laid_internal_strconv_uint64pow10), ("annuitant/calendar.lengths", laid_annuitant_calendar_lengths), ("annuitant/parse.kindWords", laid_annuitant_parse_kindWords), ("annuitant/parse.modeWords", laid_annuitant_parse_modeWords)] }
def FormatParsedSaid : Prop := formatParsedRow.holds Tryz.pinned (OpenSpec.ofChange formatParsedSpec)

/-- ITS FALSE NEIGHBOUR: 'it returns false'. Refute it at one input. -/
def formatParsedWrong : ChangeSpec := { name := "formatParsed", fn := fun _ => fun
  | [d] => { results := [.lit (.bool false)], args := [d] }
  | _ => none }
def FormatParsedWrongFalsely : Prop := formatParsedRow.holds Tryz.pinned (OpenSpec.ofChange formatParsedWrong)

/- THE SECOND FORM. 'bulk': how many values and letters a reading holds, each counted each time it is reached (what is shared counts as often as it is met; a slice's spare places count too). A statement '..UptoSaid' is the law's where the arguments, and the package variables that the reading takes, are together of bulk at most 1048576: NARROWER than '..Said'. Prove '..Said' where nothing that the law and all that it calls make is longer than what came in: it says more and counts as full. Else prove '..UptoSaid'. A law counts once. -/
mutual
def uptoBulk {H : Type} : DataW H → Nat
  | .lit (.string bytes) => bytes.length + 1
  | .lit _ => 1
  | .nil => 1
  | .ptr d => uptoBulk d + 1
  | .slice elems spare => uptoBulkAll elems + uptoBulkAll spare + 1
  | .agg parts => uptoBulkAll parts + 1
  | .iface _ d => uptoBulk d + 1
  | .map entries => uptoBulkEntries entries + 1
  | .held _ => 1
def uptoBulkAll {H : Type} : List (DataW H) → Nat
  | [] => 0
  | d :: r => uptoBulk d + uptoBulkAll r
def uptoBulkEntries {H : Type} : List (Lit × DataW H) → Nat
  | [] => 0
  | x :: r => uptoBulkEntry x + uptoBulkEntries r
def uptoBulkEntry {H : Type} : Lit × DataW H → Nat
  | (.string bytes, d) => bytes.length + uptoBulk d + 1
  | (_, d) => uptoBulk d + 1
 end
def uptoSmall : (H : Type) → List (DataW H) → Bool := fun _ ds => decide (uptoBulkAll ds ≤ 1048576)
def OpenSpec.upto (s : _root_.Go.ChangeSpec) : _root_.Go.OpenSpec := { _root_.Go.OpenSpec.ofChange s with cond := some uptoSmall }

/-- 'annuitantlaw13.FormatLeast', WHERE WHAT IT READS IS OF BULK AT MOST 1048576: true; the input reads as it did. -/
def formatLeastUptoRow : OpenClaim := { program := "ytefajchlhjcgpaagreatdoor", sum := "2107a9abe1d1554e1e16cca359bc0cb27d9f87e92912b6f6fe744afafe46c5cc", func := "annuitant/annuitantlaw13.FormatLeast", spec := "formatLeast", inPlace := ["internal/bytealg.IndexByteString", "internal/bytealg.IndexString", "internal/abi.NoEscape", "internal/bytealg.CountString"], unfollowed := true, recurses := true, named := ["math/bits.overflowError", "internal/strconv.uint64pow10", "math/bits.deBruijn32tab", "math/bits.deBruijn64tab", "annuitant/calendar.lengths", "internal/bytealg.MaxLen", "annuitant/parse.kindWords", "annuitant/parse.modeWords"], loops := true, apart := false, laid := [("math/bits.deBruijn32tab", laid_math_bits_deBruijn32tab), ("math/bits.deBruijn64tab", laid_math_bits_deBruijn64tab), ("internal/strconv.uint64pow10", laid_internal_strconv_uint64pow10), ("annuitant/calendar.lengths", laid_annuitant_calendar_lengths), ("annuitant/parse.kindWords", laid_annuitant_parse_kindWords), ("annuitant/parse.modeWords", laid_annuitant_parse_modeWords)], narrowed := true }
def FormatLeastUptoSaid : Prop := formatLeastUptoRow.holds Tryz.pinned (OpenSpec.upto formatLeastSpec)

/-- 'annuitantlaw13.FormatReads', WHERE WHAT IT READS IS OF BULK AT MOST 1048576: true; the input reads as it did. -/
def formatReadsUptoRow : OpenClaim := { program := "ytefajchlhjcgpaagreatdoor", sum := "2107a9abe1d1554e1e16cca359bc0cb27d9f87e92912b6f6fe744afafe46c5cc", func := "annuitant/annuitantlaw13.FormatReads", spec := "formatReads", inPlace := ["internal/bytealg.IndexByteString", "internal/bytealg.IndexString", "internal/abi.NoEscape", "internal/bytealg.CountString"], unfollowed := true, recurses := true, named := ["math/bits.overflowError", "internal/strconv.uint64pow10", "math/bits.deBruijn32tab", "math/bits.deBruijn64tab", "annuitant/calendar.lengths", "internal/bytealg.MaxLen", "annuitant/parse.kindWords", "annuitant/parse.modeWords"], loops := true, apart := false, laid := [("math/bits.deBruijn32tab", laid_math_bits_deBruijn32tab), ("math/bits.deBruijn64tab", laid_math_bits_deBruijn64tab), ("internal/strconv.uint64pow10", laid_internal_strconv_uint64pow10), ("annuitant/calendar.lengths", laid_annuitant_calendar_lengths), ("annuitant/parse.kindWords", laid_annuitant_parse_kindWords), ("annuitant/parse.modeWords", laid_annuitant_parse_modeWords)], narrowed := true }
def FormatReadsUptoSaid : Prop := formatReadsUptoRow.holds Tryz.pinned (OpenSpec.upto formatReadsSpec)

/-- 'annuitantlaw13.FormatBack', WHERE WHAT IT READS IS OF BULK AT MOST 1048576: true; the input reads as it did. -/
def formatBackUptoRow : OpenClaim := { program := "ytefajchlhjcgpaagreatdoor", sum := "2107a9abe1d1554e1e16cca359bc0cb27d9f87e92912b6f6fe744afafe46c5cc", func := "annuitant/annuitantlaw13.FormatBack", spec := "formatBack", inPlace := ["internal/bytealg.IndexByteString", "internal/bytealg.IndexString", "internal/abi.NoEscape", "internal/bytealg.CountString"], unfollowed := true, recurses := true, named := ["math/bits.overflowError", "internal/strconv.uint64pow10", "math/bits.deBruijn32tab", "math/bits.deBruijn64tab", "annuitant/calendar.lengths", "internal/bytealg.MaxLen", "annuitant/parse.kindWords", "annuitant/parse.modeWords"], loops := true, apart := false, laid := [("math/bits.deBruijn32tab", laid_math_bits_deBruijn32tab), ("math/bits.deBruijn64tab", laid_math_bits_deBruijn64tab), ("internal/strconv.uint64pow10", laid_internal_strconv_uint64pow10), ("annuitant/calendar.lengths", laid_annuitant_calendar_lengths), ("annuitant/parse.kindWords", laid_annuitant_parse_kindWords), ("annuitant/parse.modeWords", laid_annuitant_parse_modeWords)], narrowed := true }
def FormatBackUptoSaid : Prop := formatBackUptoRow.holds Tryz.pinned (OpenSpec.upto formatBackSpec)

/-- 'annuitantlaw13.FormatParsed', WHERE WHAT IT READS IS OF BULK AT MOST 1048576: true; the input reads as it did. -/
def formatParsedUptoRow : OpenClaim := { program := "ytefajchlhjcgpaagreatdoor", sum := "2107a9abe1d1554e1e16cca359bc0cb27d9f87e92912b6f6fe744afafe46c5cc", func := "annuitant/annuitantlaw13.FormatParsed", spec := "formatParsed", inPlace := ["internal/bytealg.IndexByteString", "internal/bytealg.IndexString", "internal/abi.NoEscape", "internal/bytealg.CountString"], unfollowed := true, recurses := true, named := ["math/bits.overflowError", "internal/strconv.uint64pow10", "math/bits.deBruijn32tab", "math/bits.deBruijn64tab", "annuitant/calendar.lengths", "internal/bytealg.MaxLen", "annuitant/parse.kindWords", "annuitant/parse.modeWords"], apart := false, laid := [("math/bits.deBruijn32tab", laid_math_bits_deBruijn32tab), ("math/bits.deBruijn64tab", laid_math_bits_deBruijn64tab), ("internal/strconv.uint64pow10", laid_internal_strconv_uint64pow10), ("annuitant/calendar.lengths", laid_annuitant_calendar_lengths), ("annuitant/parse.kindWords", laid_annuitant_parse_kindWords), ("annuitant/parse.modeWords", laid_annuitant_parse_modeWords)], narrowed := true }
def FormatParsedUptoSaid : Prop := formatParsedUptoRow.holds Tryz.pinned (OpenSpec.upto formatParsedSpec)

end Rows
end Go.Proofs.YtefajchlhjcgpaaGreatDoor
