/-
  NARROWER THAN 'FOR EVERY INPUT', by the rows' own cells (each row's printed sentence says how): CompileTells: loops, laid · CompileReads: loops, laid · CompileSmall: laid · CompileEnds: loops, laid · CompileLists: loops, laid · CompileApart: loops, laid · CompileWrong: loops, laid · CompileShort: loops, laid · CompileOnly: loops, laid · CompileBack: loops, laid.
  DERIVED. THE GIVEN ROWS OF THIS SEAT. 10 by the template 'for every input the law returns true; each argument reads behind the call as it read before'; 0 by the template 'total and deterministic' (their statements: YthmbkdkibhffbaaGreatDoorTotals.lean).
  GIVEN WITH THE SEED: the statements are not yours to turn. If you find one false, say at which input.
  Laid BY PROGRAM, IN A SANDBOX (cutbox-rows.mjs): the forced cells as the released guide's own fill.sh prints them over the translation ddd96650afbaa3c2… (all of the seat's roots in one cut). By AI agents, Wed Nov 11 2026. No macro, syntax, notation, axiom, sorry.
-/
import Derived.Test.YthmbkdkibhffbaaGreatDoorChecked
import GoSem.Claim
import GoSem.ClaimJoined
import GoSem.ClaimMapViews
import Derived.JoinedTies
import Derived.KernelRfl
namespace Go.Proofs.YthmbkdkibhffbaaGreatDoor
/- THE CELL 'sum', in the pinned program and in every row, IS THE sha256 OF THE DUMP (.gsa) THAT YthmbkdkibhffbaaGreatDoorProg.lean LOADS. Nothing in Lean hashes anything: it is a label: what it is worth is what the hold of that sum in a sandbox is worth. -/
noncomputable def Tryz.pinned : Pinned := { name := "ythmbkdkibhffbaagreatdoor", sum := "ddd96650afbaa3c2145e6b388a4fb73f7df90cc31e9cc3172194a0a6eb8cba2e", checked := Tryz.checked }
namespace Rows
def none {H : Type} : Left H := { results := [], args := [] }

/- WHAT THE LISTED PACKAGE-LEVEL VARIABLES READ AS WHEN THE CALL BEGINS. Each datum BY PROGRAM (the guide's laid-datum.mjs) off the statement by which the dump's own 'gosem.cut.vars' lays the variable. In a bare row this is a premise. The card (YthmbkdkibhffbaaGreatDoorCards.lean) ties it to the program's text. -/
def laid_math_bits_deBruijn32tab {H : Type} : DataW H := .agg [.lit (.int .u8 0), .lit (.int .u8 1), .lit (.int .u8 28), .lit (.int .u8 2), .lit (.int .u8 29), .lit (.int .u8 14), .lit (.int .u8 24), .lit (.int .u8 3), .lit (.int .u8 30), .lit (.int .u8 22), .lit (.int .u8 20), .lit (.int .u8 15), .lit (.int .u8 25), .lit (.int .u8 17), .lit (.int .u8 4), .lit (.int .u8 8), .lit (.int .u8 31), .lit (.int .u8 27), .lit (.int .u8 13), .lit (.int .u8 23), .lit (.int .u8 21), .lit (.int .u8 19), .lit (.int .u8 16), .lit (.int .u8 7), .lit (.int .u8 26), .lit (.int .u8 12), .lit (.int .u8 18), .lit (.int .u8 6), .lit (.int .u8 11), .lit (.int .u8 5), .lit (.int .u8 10), .lit (.int .u8 9)]
def laid_math_bits_deBruijn64tab {H : Type} : DataW H := .agg [.lit (.int .u8 0), .lit (.int .u8 1), .lit (.int .u8 56), .lit (.int .u8 2), .lit (.int .u8 57), .lit (.int .u8 49), .lit (.int .u8 28), .lit (.int .u8 3), .lit (.int .u8 61), .lit (.int .u8 58), .lit (.int .u8 42), .lit (.int .u8 50), .lit (.int .u8 38), .lit (.int .u8 29), .lit (.int .u8 17), .lit (.int .u8 4), .lit (.int .u8 62), .lit (.int .u8 47), .lit (.int .u8 59), .lit (.int .u8 36), .lit (.int .u8 45), .lit (.int .u8 43), .lit (.int .u8 51), .lit (.int .u8 22), .lit (.int .u8 53), .lit (.int .u8 39), .lit (.int .u8 33), .lit (.int .u8 30), .lit (.int .u8 24), .lit (.int .u8 18), .lit (.int .u8 12), .lit (.int .u8 5), .lit (.int .u8 63), .lit (.int .u8 55), .lit (.int .u8 48), .lit (.int .u8 27), .lit (.int .u8 60), .lit (.int .u8 41), .lit (.int .u8 37), .lit (.int .u8 16), .lit (.int .u8 46), .lit (.int .u8 35), .lit (.int .u8 44), .lit (.int .u8 21), .lit (.int .u8 52), .lit (.int .u8 32), .lit (.int .u8 23), .lit (.int .u8 11), .lit (.int .u8 54), .lit (.int .u8 26), .lit (.int .u8 40), .lit (.int .u8 15), .lit (.int .u8 34), .lit (.int .u8 20), .lit (.int .u8 31), .lit (.int .u8 10), .lit (.int .u8 25), .lit (.int .u8 14), .lit (.int .u8 19), .lit (.int .u8 9), .lit (.int .u8 13), .lit (.int .u8 8), .lit (.int .u8 7), .lit (.int .u8 6)]
def laid_internal_strconv_uint64pow10 {H : Type} : DataW H := .agg [.lit (.int .u64 1), .lit (.int .u64 10), .lit (.int .u64 100), .lit (.int .u64 1000), .lit (.int .u64 10000), .lit (.int .u64 100000), .lit (.int .u64 1000000), .lit (.int .u64 10000000), .lit (.int .u64 100000000), .lit (.int .u64 1000000000), .lit (.int .u64 10000000000), .lit (.int .u64 100000000000), .lit (.int .u64 1000000000000), .lit (.int .u64 10000000000000), .lit (.int .u64 100000000000000), .lit (.int .u64 1000000000000000), .lit (.int .u64 10000000000000000), .lit (.int .u64 100000000000000000), .lit (.int .u64 1000000000000000000), .lit (.int .u64 10000000000000000000)]
def laid_annuitant_operation_argumentKinds {H : Type} : DataW H := .agg [.lit (.string []), .lit (.string []), .lit (.string []), .lit (.string [52]), .lit (.string [52]), .lit (.string []), .lit (.string [50, 32, 50, 50]), .lit (.string [50, 50, 32, 51, 51, 32, 53, 53, 32, 54, 54, 32, 52, 53, 32, 52, 54]), .lit (.string [50, 50, 32, 51, 51, 32, 53, 53, 32, 54, 54, 32, 52, 52, 32, 52, 53, 32, 52, 54]), .lit (.string [50, 50, 32, 51, 50, 32, 50, 51]), .lit (.string [50, 50, 32, 51, 51, 32, 51, 50]), .lit (.string [50, 50, 32, 51, 51, 32, 52, 52, 32, 53, 53, 32, 54, 54]), .lit (.string [50, 50, 32, 51, 51, 32, 52, 52, 32, 53, 53, 32, 54, 54]), .lit (.string [50, 50, 32, 51, 51, 32, 52, 52, 32, 53, 53, 32, 54, 54]), .lit (.string [49, 49, 32, 50, 50, 32, 51, 51, 32, 52, 52, 32, 53, 53, 32, 54, 54]), .lit (.string []), .lit (.string []), .lit (.string [49]), .lit (.string []), .lit (.string [50, 50, 32, 51, 51]), .lit (.string [52, 52]), .lit (.string [52, 52]), .lit (.string [52, 52, 54]), .lit (.string [52, 52]), .lit (.string [50]), .lit (.string [50, 32, 51, 32, 53, 32, 54]), .lit (.string [52])]
def laid_annuitant_calendar_lengths {H : Type} : DataW H := .agg [.lit (.int .i64 31), .lit (.int .i64 28), .lit (.int .i64 31), .lit (.int .i64 30), .lit (.int .i64 31), .lit (.int .i64 30), .lit (.int .i64 31), .lit (.int .i64 31), .lit (.int .i64 30), .lit (.int .i64 31), .lit (.int .i64 30), .lit (.int .i64 31)]
def laid_annuitant_parse_modeWords {H : Type} : DataW H := .agg [.lit (.string []), .lit (.string [100, 111, 119, 110]), .lit (.string [117, 112]), .lit (.string [102, 108, 111, 111, 114]), .lit (.string [99, 101, 105, 108]), .lit (.string [104, 97, 108, 102]), .lit (.string [101, 118, 101, 110])]

/-- 'annuitantlaw19.CompileTells': WHATEVER THE INPUT: true; the input reads as it did. -/
def compileTellsSpec : ChangeSpec := { name := "compileTells", fn := fun _ => fun
  | [d] => { results := [.lit (.bool true)], args := [d] }
  | _ => none }
def compileTellsRow : OpenClaim := { program := "ythmbkdkibhffbaagreatdoor", sum := "ddd96650afbaa3c2145e6b388a4fb73f7df90cc31e9cc3172194a0a6eb8cba2e", func := "annuitant/annuitantlaw19.CompileTells", spec := "compileTells", inPlace := ["internal/bytealg.IndexByteString", "internal/bytealg.IndexString"], unfollowed := true, recurses := true, named := ["math/bits.overflowError", "annuitant/operation.argumentKinds", "internal/bytealg.MaxLen", "internal/strconv.uint64pow10", "math/bits.deBruijn32tab", "math/bits.deBruijn64tab"], loops := true, apart := false, laid := [("math/bits.deBruijn32tab", laid_math_bits_deBruijn32tab), ("math/bits.deBruijn64tab", laid_math_bits_deBruijn64tab), ("internal/strconv.uint64pow10", laid_internal_strconv_uint64pow10), ("annuitant/operation.argumentKinds", laid_annuitant_operation_argumentKinds)] }
def CompileTellsSaid : Prop := compileTellsRow.holds Tryz.pinned (OpenSpec.ofChange compileTellsSpec)

/-- ITS FALSE NEIGHBOUR: 'it returns false'. Refute it at one input. -/
def compileTellsWrong : ChangeSpec := { name := "compileTells", fn := fun _ => fun
  | [d] => { results := [.lit (.bool false)], args := [d] }
  | _ => none }
def CompileTellsWrongFalsely : Prop := compileTellsRow.holds Tryz.pinned (OpenSpec.ofChange compileTellsWrong)

/-- 'annuitantlaw19.CompileReads': WHATEVER THE INPUT: true; the input reads as it did. -/
def compileReadsSpec : ChangeSpec := { name := "compileReads", fn := fun _ => fun
  | [d] => { results := [.lit (.bool true)], args := [d] }
  | _ => none }
def compileReadsRow : OpenClaim := { program := "ythmbkdkibhffbaagreatdoor", sum := "ddd96650afbaa3c2145e6b388a4fb73f7df90cc31e9cc3172194a0a6eb8cba2e", func := "annuitant/annuitantlaw19.CompileReads", spec := "compileReads", inPlace := ["internal/bytealg.IndexByteString", "internal/bytealg.IndexString"], unfollowed := true, recurses := true, named := ["math/bits.overflowError", "annuitant/operation.argumentKinds", "internal/bytealg.MaxLen", "internal/strconv.uint64pow10", "math/bits.deBruijn32tab", "math/bits.deBruijn64tab"], loops := true, apart := false, laid := [("math/bits.deBruijn32tab", laid_math_bits_deBruijn32tab), ("math/bits.deBruijn64tab", laid_math_bits_deBruijn64tab), ("internal/strconv.uint64pow10", laid_internal_strconv_uint64pow10), ("annuitant/operation.argumentKinds", laid_annuitant_operation_argumentKinds)] }
def CompileReadsSaid : Prop := compileReadsRow.holds Tryz.pinned (OpenSpec.ofChange compileReadsSpec)

/-- ITS FALSE NEIGHBOUR: 'it returns false'. Refute it at one input. -/
def compileReadsWrong : ChangeSpec := { name := "compileReads", fn := fun _ => fun
  | [d] => { results := [.lit (.bool false)], args := [d] }
  | _ => none }
def CompileReadsWrongFalsely : Prop := compileReadsRow.holds Tryz.pinned (OpenSpec.ofChange compileReadsWrong)

/-- 'annuitantlaw19.CompileSmall': WHATEVER THE INPUT: true; the input reads as it did. -/
def compileSmallSpec : ChangeSpec := { name := "compileSmall", fn := fun _ => fun
  | [] => { results := [.lit (.bool true)], args := [] }
  | _ => none }
def compileSmallRow : OpenClaim := { program := "ythmbkdkibhffbaagreatdoor", sum := "ddd96650afbaa3c2145e6b388a4fb73f7df90cc31e9cc3172194a0a6eb8cba2e", func := "annuitant/annuitantlaw19.CompileSmall", spec := "compileSmall", inPlace := ["internal/bytealg.IndexByteString", "internal/bytealg.IndexString"], unfollowed := true, recurses := true, named := ["math/bits.overflowError", "annuitant/operation.argumentKinds", "internal/bytealg.MaxLen", "internal/strconv.uint64pow10", "math/bits.deBruijn32tab", "math/bits.deBruijn64tab"], apart := false, laid := [("math/bits.deBruijn32tab", laid_math_bits_deBruijn32tab), ("math/bits.deBruijn64tab", laid_math_bits_deBruijn64tab), ("internal/strconv.uint64pow10", laid_internal_strconv_uint64pow10), ("annuitant/operation.argumentKinds", laid_annuitant_operation_argumentKinds)] }
def CompileSmallSaid : Prop := compileSmallRow.holds Tryz.pinned (OpenSpec.ofChange compileSmallSpec)

/-- ITS FALSE NEIGHBOUR: 'it returns false'. Refute it at one input. -/
def compileSmallWrong : ChangeSpec := { name := "compileSmall", fn := fun _ => fun
  | [] => { results := [.lit (.bool false)], args := [] }
  | _ => none }
def CompileSmallWrongFalsely : Prop := compileSmallRow.holds Tryz.pinned (OpenSpec.ofChange compileSmallWrong)

/-- 'annuitantlaw19.CompileEnds': WHATEVER THE INPUT: true; the input reads as it did. -/
def compileEndsSpec : ChangeSpec := { name := "compileEnds", fn := fun _ => fun
  | [d1, d2] => { results := [.lit (.bool true)], args := [d1, d2] }
  | _ => none }
def compileEndsRow : OpenClaim := { program := "ythmbkdkibhffbaagreatdoor", sum := "ddd96650afbaa3c2145e6b388a4fb73f7df90cc31e9cc3172194a0a6eb8cba2e", func := "annuitant/annuitantlaw19.CompileEnds", spec := "compileEnds", inPlace := ["internal/bytealg.IndexByteString", "internal/bytealg.IndexString"], unfollowed := true, recurses := true, named := ["math/bits.overflowError", "annuitant/operation.argumentKinds", "internal/bytealg.MaxLen", "internal/strconv.uint64pow10", "math/bits.deBruijn32tab", "math/bits.deBruijn64tab"], loops := true, apart := false, laid := [("math/bits.deBruijn32tab", laid_math_bits_deBruijn32tab), ("math/bits.deBruijn64tab", laid_math_bits_deBruijn64tab), ("internal/strconv.uint64pow10", laid_internal_strconv_uint64pow10), ("annuitant/operation.argumentKinds", laid_annuitant_operation_argumentKinds)] }
def CompileEndsSaid : Prop := compileEndsRow.holds Tryz.pinned (OpenSpec.ofChange compileEndsSpec)

/-- ITS FALSE NEIGHBOUR: 'it returns false'. Refute it at one input. -/
def compileEndsWrong : ChangeSpec := { name := "compileEnds", fn := fun _ => fun
  | [d1, d2] => { results := [.lit (.bool false)], args := [d1, d2] }
  | _ => none }
def CompileEndsWrongFalsely : Prop := compileEndsRow.holds Tryz.pinned (OpenSpec.ofChange compileEndsWrong)

/-- 'annuitantlaw19.CompileLists': WHATEVER THE INPUT: true; the input reads as it did. -/
def compileListsSpec : ChangeSpec := { name := "compileLists", fn := fun _ => fun
  | [d] => { results := [.lit (.bool true)], args := [d] }
  | _ => none }
def compileListsRow : OpenClaim := { program := "ythmbkdkibhffbaagreatdoor", sum := "ddd96650afbaa3c2145e6b388a4fb73f7df90cc31e9cc3172194a0a6eb8cba2e", func := "annuitant/annuitantlaw19.CompileLists", spec := "compileLists", inPlace := ["internal/bytealg.IndexByteString", "internal/bytealg.IndexString"], unfollowed := true, recurses := true, named := ["math/bits.overflowError", "annuitant/operation.argumentKinds", "internal/bytealg.MaxLen", "internal/strconv.uint64pow10", "math/bits.deBruijn32tab", "math/bits.deBruijn64tab"], loops := true, apart := false, laid := [("math/bits.deBruijn32tab", laid_math_bits_deBruijn32tab), ("math/bits.deBruijn64tab", laid_math_bits_deBruijn64tab), ("internal/strconv.uint64pow10", laid_internal_strconv_uint64pow10), ("annuitant/operation.argumentKinds", laid_annuitant_operation_argumentKinds)] }
def CompileListsSaid : Prop := compileListsRow.holds Tryz.pinned (OpenSpec.ofChange compileListsSpec)

/-- ITS FALSE NEIGHBOUR: 'it returns false'. Refute it at one input. -/
def compileListsWrong : ChangeSpec := { name := "compileLists", fn := fun _ => fun
  | [d] => { results := [.lit (.bool false)], args := [d] }
  | _ => none }
def CompileListsWrongFalsely : Prop := compileListsRow.holds Tryz.pinned (OpenSpec.ofChange compileListsWrong)

/-- 'annuitantlaw19.CompileApart': WHATEVER THE INPUT: true; the input reads as it did. -/
def compileApartSpec : ChangeSpec := { name := "compileApart", fn := fun _ => fun
  | [d1, d2] => { results := [.lit (.bool true)], args := [d1, d2] }
  | _ => none }
def compileApartRow : OpenClaim := { program := "ythmbkdkibhffbaagreatdoor", sum := "ddd96650afbaa3c2145e6b388a4fb73f7df90cc31e9cc3172194a0a6eb8cba2e", func := "annuitant/annuitantlaw19.CompileApart", spec := "compileApart", inPlace := ["internal/bytealg.IndexByteString", "internal/bytealg.IndexString"], unfollowed := true, recurses := true, named := ["math/bits.overflowError", "annuitant/operation.argumentKinds", "internal/bytealg.MaxLen", "internal/strconv.uint64pow10", "math/bits.deBruijn32tab", "math/bits.deBruijn64tab"], loops := true, apart := false, laid := [("math/bits.deBruijn32tab", laid_math_bits_deBruijn32tab), ("math/bits.deBruijn64tab", laid_math_bits_deBruijn64tab), ("internal/strconv.uint64pow10", laid_internal_strconv_uint64pow10), ("annuitant/operation.argumentKinds", laid_annuitant_operation_argumentKinds)] }
def CompileApartSaid : Prop := compileApartRow.holds Tryz.pinned (OpenSpec.ofChange compileApartSpec)

/-- ITS FALSE NEIGHBOUR: 'it returns false'. Refute it at one input. -/
def compileApartWrong : ChangeSpec := { name := "compileApart", fn := fun _ => fun
  | [d1, d2] => { results := [.lit (.bool false)], args := [d1, d2] }
  | _ => none }
def CompileApartWrongFalsely : Prop := compileApartRow.holds Tryz.pinned (OpenSpec.ofChange compileApartWrong)

/-- 'annuitantlaw19.CompileWrong': WHATEVER THE INPUT: true; the input reads as it did. -/
def compileWrongSpec : ChangeSpec := { name := "compileWrong", fn := fun _ => fun
  | [d1, d2, d3] => { results := [.lit (.bool true)], args := [d1, d2, d3] }
  | _ => none }
def compileWrongRow : OpenClaim := { program := "ythmbkdkibhffbaagreatdoor", sum := "ddd96650afbaa3c2145e6b388a4fb73f7df90cc31e9cc3172194a0a6eb8cba2e", func := "annuitant/annuitantlaw19.CompileWrong", spec := "compileWrong", inPlace := ["internal/bytealg.IndexByteString", "internal/bytealg.IndexString"], unfollowed := true, recurses := true, named := ["math/bits.overflowError", "annuitant/operation.argumentKinds", "internal/bytealg.MaxLen", "internal/strconv.uint64pow10", "math/bits.deBruijn32tab", "math/bits.deBruijn64tab"], loops := true, apart := false, laid := [("math/bits.deBruijn32tab", laid_math_bits_deBruijn32tab), ("math/bits.deBruijn64tab", laid_math_bits_deBruijn64tab), ("internal/strconv.uint64pow10", laid_internal_strconv_uint64pow10), ("annuitant/operation.argumentKinds", laid_annuitant_operation_argumentKinds)] }
def CompileWrongSaid : Prop := compileWrongRow.holds Tryz.pinned (OpenSpec.ofChange compileWrongSpec)

/-- ITS FALSE NEIGHBOUR: 'it returns false'. Refute it at one input. -/
def compileWrongWrong : ChangeSpec := { name := "compileWrong", fn := fun _ => fun
  | [d1, d2, d3] => { results := [.lit (.bool false)], args := [d1, d2, d3] }
  | _ => none }
def CompileWrongWrongFalsely : Prop := compileWrongRow.holds Tryz.pinned (OpenSpec.ofChange compileWrongWrong)

/-- 'annuitantlaw19.CompileShort': WHATEVER THE INPUT: true; the input reads as it did. -/
def compileShortSpec : ChangeSpec := { name := "compileShort", fn := fun _ => fun
  | [d] => { results := [.lit (.bool true)], args := [d] }
  | _ => none }
def compileShortRow : OpenClaim := { program := "ythmbkdkibhffbaagreatdoor", sum := "ddd96650afbaa3c2145e6b388a4fb73f7df90cc31e9cc3172194a0a6eb8cba2e", func := "annuitant/annuitantlaw19.CompileShort", spec := "compileShort", inPlace := ["internal/bytealg.IndexByteString", "internal/bytealg.IndexString"], unfollowed := true, recurses := true, named := ["math/bits.overflowError", "annuitant/operation.argumentKinds", "internal/bytealg.MaxLen", "internal/strconv.uint64pow10", "math/bits.deBruijn32tab", "math/bits.deBruijn64tab"], loops := true, apart := false, laid := [("math/bits.deBruijn32tab", laid_math_bits_deBruijn32tab), ("math/bits.deBruijn64tab", laid_math_bits_deBruijn64tab), ("internal/strconv.uint64pow10", laid_internal_strconv_uint64pow10), ("annuitant/operation.argumentKinds", laid_annuitant_operation_argumentKinds)] }
def CompileShortSaid : Prop := compileShortRow.holds Tryz.pinned (OpenSpec.ofChange compileShortSpec)

/-- ITS FALSE NEIGHBOUR: 'it returns false'. Refute it at one input. -/
def compileShortWrong : ChangeSpec := { name := "compileShort", fn := fun _ => fun
  | [d] => { results := [.lit (.bool false)], args := [d] }
  | _ => none }
def CompileShortWrongFalsely : Prop := compileShortRow.holds Tryz.pinned (OpenSpec.ofChange compileShortWrong)

/-- 'annuitantlaw19.CompileOnly': WHATEVER THE INPUT: true; the input reads as it did. -/
def compileOnlySpec : ChangeSpec := { name := "compileOnly", fn := fun _ => fun
  | [d1, d2] => { results := [.lit (.bool true)], args := [d1, d2] }
  | _ => none }
def compileOnlyRow : OpenClaim := { program := "ythmbkdkibhffbaagreatdoor", sum := "ddd96650afbaa3c2145e6b388a4fb73f7df90cc31e9cc3172194a0a6eb8cba2e", func := "annuitant/annuitantlaw19.CompileOnly", spec := "compileOnly", inPlace := ["internal/bytealg.IndexByteString", "internal/bytealg.IndexString"], unfollowed := true, recurses := true, named := ["math/bits.overflowError", "annuitant/operation.argumentKinds", "internal/bytealg.MaxLen", "internal/strconv.uint64pow10", "math/bits.deBruijn32tab", "math/bits.deBruijn64tab"], loops := true, apart := false, laid := [("math/bits.deBruijn32tab", laid_math_bits_deBruijn32tab), ("math/bits.deBruijn64tab", laid_math_bits_deBruijn64tab), ("internal/strconv.uint64pow10", laid_internal_strconv_uint64pow10), ("annuitant/operation.argumentKinds", laid_annuitant_operation_argumentKinds)] }
def CompileOnlySaid : Prop := compileOnlyRow.holds Tryz.pinned (OpenSpec.ofChange compileOnlySpec)

/-- ITS FALSE NEIGHBOUR: 'it returns false'. Refute it at one input. -/
def compileOnlyWrong : ChangeSpec := { name := "compileOnly", fn := fun _ => fun
  | [d1, d2] => { results := [.lit (.bool false)], args := [d1, d2] }
  | _ => none }
def CompileOnlyWrongFalsely : Prop := compileOnlyRow.holds Tryz.pinned (OpenSpec.ofChange compileOnlyWrong)

/-- 'annuitantlaw19.CompileBack': WHATEVER THE INPUT: true; the input reads as it did. -/
def compileBackSpec : ChangeSpec := { name := "compileBack", fn := fun _ => fun
  | [d] => { results := [.lit (.bool true)], args := [d] }
  | _ => none }
def compileBackRow : OpenClaim := { program := "ythmbkdkibhffbaagreatdoor", sum := "ddd96650afbaa3c2145e6b388a4fb73f7df90cc31e9cc3172194a0a6eb8cba2e", func := "annuitant/annuitantlaw19.CompileBack", spec := "compileBack", inPlace := ["internal/bytealg.IndexByteString", "internal/bytealg.IndexString", "internal/abi.NoEscape"], unfollowed := true, recurses := true, named := ["math/bits.overflowError", "annuitant/operation.argumentKinds", "internal/bytealg.MaxLen", "internal/strconv.uint64pow10", "math/bits.deBruijn32tab", "math/bits.deBruijn64tab", "annuitant/calendar.lengths", "annuitant/parse.modeWords"], loops := true, apart := false, laid := [("math/bits.deBruijn32tab", laid_math_bits_deBruijn32tab), ("math/bits.deBruijn64tab", laid_math_bits_deBruijn64tab), ("internal/strconv.uint64pow10", laid_internal_strconv_uint64pow10), ("annuitant/calendar.lengths", laid_annuitant_calendar_lengths), ("annuitant/parse.modeWords", laid_annuitant_parse_modeWords), ("annuitant/operation.argumentKinds", laid_annuitant_operation_argumentKinds)] }
def CompileBackSaid : Prop := compileBackRow.holds Tryz.pinned (OpenSpec.ofChange compileBackSpec)

/-- ITS FALSE NEIGHBOUR: 'it returns false'. Refute it at one input. -/
def compileBackWrong : ChangeSpec := { name := "compileBack", fn := fun _ => fun
  | [d] => { results := [.lit (.bool false)], args := [d] }
  | _ => none }
def CompileBackWrongFalsely : Prop := compileBackRow.holds Tryz.pinned (OpenSpec.ofChange compileBackWrong)

/- THE SECOND FORM. 'bulk': how many values and letters a reading holds, each counted each time it is reached (what is shared counts as often as it is met; a slice's spare places count too). A statement '..UptoSaid' is the law's where the arguments, and the package variables that the reading takes, are together of bulk at most 1048576: NARROWER than '..Said'. Prove '..Said' where nothing that the law and all that it calls make is longer than what came in: it says more and counts as full. Else prove '..UptoSaid'. A law counts once. -/
mutual
def uptoBulk {H : Type} : DataW H → Nat
  | .lit (.string bytes) => bytes.length + 1
  | .lit _ => 1
  | .nil => 1
  | .ptr d => uptoBulk d + 1
  | .slice elems spare => uptoBulkAll elems + uptoBulkAll spare + 1
  | .agg parts => uptoBulkAll parts + 1
  | .iface _ d => uptoBulk d + 1
  | .map entries => uptoBulkEntries entries + 1
  | .held _ => 1
def uptoBulkAll {H : Type} : List (DataW H) → Nat
  | [] => 0
  | d :: r => uptoBulk d + uptoBulkAll r
def uptoBulkEntries {H : Type} : List (Lit × DataW H) → Nat
  | [] => 0
  | x :: r => uptoBulkEntry x + uptoBulkEntries r
def uptoBulkEntry {H : Type} : Lit × DataW H → Nat
  | (.string bytes, d) => bytes.length + uptoBulk d + 1
  | (_, d) => uptoBulk d + 1
 end
def uptoSmall : (H : Type) → List (DataW H) → Bool := fun _ ds => decide (uptoBulkAll ds ≤ 1048576)
def OpenSpec.upto (s : _root_.Go.ChangeSpec) : _root_.Go.OpenSpec := { _root_.Go.OpenSpec.ofChange s with cond := some uptoSmall }

/-- 'annuitantlaw19.CompileTells', WHERE WHAT IT READS IS OF BULK AT MOST 1048576: true; the input reads as it did. -/
def compileTellsUptoRow : OpenClaim := { program := "ythmbkdkibhffbaagreatdoor", sum := "ddd96650afbaa3c2145e6b388a4fb73f7df90cc31e9cc3172194a0a6eb8cba2e", func := "annuitant/annuitantlaw19.CompileTells", spec := "compileTells", inPlace := ["internal/bytealg.IndexByteString", "internal/bytealg.IndexString"], unfollowed := true, recurses := true, named := ["math/bits.overflowError", "annuitant/operation.argumentKinds", "internal/bytealg.MaxLen", "internal/strconv.uint64pow10", "math/bits.deBruijn32tab", "math/bits.deBruijn64tab"], loops := true, apart := false, laid := [("math/bits.deBruijn32tab", laid_math_bits_deBruijn32tab), ("math/bits.deBruijn64tab", laid_math_bits_deBruijn64tab), ("internal/strconv.uint64pow10", laid_internal_strconv_uint64pow10), ("annuitant/operation.argumentKinds", laid_annuitant_operation_argumentKinds)], narrowed := true }
def CompileTellsUptoSaid : Prop := compileTellsUptoRow.holds Tryz.pinned (OpenSpec.upto compileTellsSpec)

/-- 'annuitantlaw19.CompileReads', WHERE WHAT IT READS IS OF BULK AT MOST 1048576: true; the input reads as it did. -/
def compileReadsUptoRow : OpenClaim := { program := "ythmbkdkibhffbaagreatdoor", sum := "ddd96650afbaa3c2145e6b388a4fb73f7df90cc31e9cc3172194a0a6eb8cba2e", func := "annuitant/annuitantlaw19.CompileReads", spec := "compileReads", inPlace := ["internal/bytealg.IndexByteString", "internal/bytealg.IndexString"], unfollowed := true, recurses := true, named := ["math/bits.overflowError", "annuitant/operation.argumentKinds", "internal/bytealg.MaxLen", "internal/strconv.uint64pow10", "math/bits.deBruijn32tab", "math/bits.deBruijn64tab"], loops := true, apart := false, laid := [("math/bits.deBruijn32tab", laid_math_bits_deBruijn32tab), ("math/bits.deBruijn64tab", laid_math_bits_deBruijn64tab), ("internal/strconv.uint64pow10", laid_internal_strconv_uint64pow10), ("annuitant/operation.argumentKinds", laid_annuitant_operation_argumentKinds)], narrowed := true }
def CompileReadsUptoSaid : Prop := compileReadsUptoRow.holds Tryz.pinned (OpenSpec.upto compileReadsSpec)

/-- 'annuitantlaw19.CompileSmall', WHERE WHAT IT READS IS OF BULK AT MOST 1048576: true; the input reads as it did. -/
def compileSmallUptoRow : OpenClaim := { program := "ythmbkdkibhffbaagreatdoor", sum := "ddd96650afbaa3c2145e6b388a4fb73f7df90cc31e9cc3172194a0a6eb8cba2e", func := "annuitant/annuitantlaw19.CompileSmall", spec := "compileSmall", inPlace := ["internal/bytealg.IndexByteString", "internal/bytealg.IndexString"], unfollowed := true, recurses := true, named := ["math/bits.overflowError", "annuitant/operation.argumentKinds", "internal/bytealg.MaxLen", "internal/strconv.uint64pow10", "math/bits.deBruijn32tab", "math/bits.deBruijn64tab"], apart := false, laid := [("math/bits.deBruijn32tab", laid_math_bits_deBruijn32tab), ("math/bits.deBruijn64tab", laid_math_bits_deBruijn64tab), ("internal/strconv.uint64pow10", laid_internal_strconv_uint64pow10), ("annuitant/operation.argumentKinds", laid_annuitant_operation_argumentKinds)], narrowed := true }
def CompileSmallUptoSaid : Prop := compileSmallUptoRow.holds Tryz.pinned (OpenSpec.upto compileSmallSpec)

/-- 'annuitantlaw19.CompileEnds', WHERE WHAT IT READS IS OF BULK AT MOST 1048576: true; the input reads as it did. -/
def compileEndsUptoRow : OpenClaim := { program := "ythmbkdkibhffbaagreatdoor", sum := "ddd96650afbaa3c2145e6b388a4fb73f7df90cc31e9cc3172194a0a6eb8cba2e", func := "annuitant/annuitantlaw19.CompileEnds", spec := "compileEnds", inPlace := ["internal/bytealg.IndexByteString", "internal/bytealg.IndexString"], unfollowed := true, recurses := true, named := ["math/bits.overflowError", "annuitant/operation.argumentKinds", "internal/bytealg.MaxLen", "internal/strconv.uint64pow10", "math/bits.deBruijn32tab", "math/bits.deBruijn64tab"], loops := true, apart := false, laid := [("math/bits.deBruijn32tab", laid_math_bits_deBruijn32tab), ("math/bits.deBruijn64tab", laid_math_bits_deBruijn64tab), ("internal/strconv.uint64pow10", laid_internal_strconv_uint64pow10), ("annuitant/operation.argumentKinds", laid_annuitant_operation_argumentKinds)], narrowed := true }
def CompileEndsUptoSaid : Prop := compileEndsUptoRow.holds Tryz.pinned (OpenSpec.upto compileEndsSpec)

/-- 'annuitantlaw19.CompileLists', WHERE WHAT IT READS IS OF BULK AT MOST 1048576: true; the input reads as it did. -/
def compileListsUptoRow : OpenClaim := { program := "ythmbkdkibhffbaagreatdoor", sum := "ddd96650afbaa3c2145e6b388a4fb73f7df90cc31e9cc3172194a0a6eb8cba2e", func := "annuitant/annuitantlaw19.CompileLists", spec := "compileLists", inPlace := ["internal/bytealg.IndexByteString", "internal/bytealg.IndexString"], unfollowed := true, recurses := true, named := ["math/bits.overflowError", "annuitant/operation.argumentKinds", "internal/bytealg.MaxLen", "internal/strconv.uint64pow10", "math/bits.deBruijn32tab", "math/bits.deBruijn64tab"], loops := true, apart := false, laid := [("math/bits.deBruijn32tab", laid_math_bits_deBruijn32tab), ("math/bits.deBruijn64tab", laid_math_bits_deBruijn64tab), ("internal/strconv.uint64pow10", laid_internal_strconv_uint64pow10), ("annuitant/operation.argumentKinds", laid_annuitant_operation_argumentKinds)], narrowed := true }
def CompileListsUptoSaid : Prop := compileListsUptoRow.holds Tryz.pinned (OpenSpec.upto compileListsSpec)

/-- 'annuitantlaw19.CompileApart', WHERE WHAT IT READS IS OF BULK AT MOST 1048576: true; the input reads as it did. -/
def compileApartUptoRow : OpenClaim := { program := "ythmbkdkibhffbaagreatdoor", sum := "ddd96650afbaa3c2145e6b388a4fb73f7df90cc31e9cc3172194a0a6eb8cba2e", func := "annuitant/annuitantlaw19.CompileApart", spec := "compileApart", inPlace := ["internal/bytealg.IndexByteString", "internal/bytealg.IndexString"], unfollowed := true, recurses := true, named := ["math/bits.overflowError", "annuitant/operation.argumentKinds", "internal/bytealg.MaxLen", "internal/strconv.uint64pow10", "math/bits.deBruijn32tab", "math/bits.deBruijn64tab"], loops := true, apart := false, laid := [("math/bits.deBruijn32tab", laid_math_bits_deBruijn32tab), ("math/bits.deBruijn64tab", laid_math_bits_deBruijn64tab), ("internal/strconv.uint64pow10", laid_internal_strconv_uint64pow10), ("annuitant/operation.argumentKinds", laid_annuitant_operation_argumentKinds)], narrowed := true }
def CompileApartUptoSaid : Prop := compileApartUptoRow.holds Tryz.pinned (OpenSpec.upto compileApartSpec)

/-- 'annuitantlaw19.CompileWrong', WHERE WHAT IT READS IS OF BULK AT MOST 1048576: true; the input reads as it did. -/
def compileWrongUptoRow : OpenClaim := { program := "ythmbkdkibhffbaagreatdoor", sum := "ddd96650afbaa3c2145e6b388a4fb73f7df90cc31e9cc3172194a0a6eb8cba2e", func := "annuitant/annuitantlaw19.CompileWrong", spec := "compileWrong", inPlace := ["internal/bytealg.IndexByteString", "internal/bytealg.IndexString"], unfollowed := true, recurses := true, named := ["math/bits.overflowError", "annuitant/operation.argumentKinds", "internal/bytealg.MaxLen", "internal/strconv.uint64pow10", "math/bits.deBruijn32tab", "math/bits.deBruijn64tab"], loops := true, apart := false, laid := [("math/bits.deBruijn32tab", laid_math_bits_deBruijn32tab), ("math/bits.deBruijn64tab", laid_math_bits_deBruijn64tab), ("internal/strconv.uint64pow10", laid_internal_strconv_uint64pow10), ("annuitant/operation.argumentKinds", laid_annuitant_operation_argumentKinds)], narrowed := true }
def CompileWrongUptoSaid : Prop := compileWrongUptoRow.holds Tryz.pinned (OpenSpec.upto compileWrongSpec)

/-- 'annuitantlaw19.CompileShort', WHERE WHAT IT READS IS OF BULK AT MOST 1048576: true; the input reads as it did. -/
def compileShortUptoRow : OpenClaim := { program := "ythmbkdkibhffbaagreatdoor", sum := "ddd96650afbaa3c2145e6b388a4fb73f7df90cc31e9cc3172194a0a6eb8cba2e", func := "annuitant/annuitantlaw19.CompileShort", spec := "compileShort", inPlace := ["internal/bytealg.IndexByteString", "internal/bytealg.IndexString"], unfollowed := true, recurses := true, named := ["math/bits.overflowError", "annuitant/operation.argumentKinds", "internal/bytealg.MaxLen", "internal/strconv.uint64pow10", "math/bits.deBruijn32tab", "math/bits.deBruijn64tab"], loops := true, apart := false, laid := [("math/bits.deBruijn32tab", laid_math_bits_deBruijn32tab), ("math/bits.deBruijn64tab", laid_math_bits_deBruijn64tab), ("internal/strconv.uint64pow10", laid_internal_strconv_uint64pow10), ("annuitant/operation.argumentKinds", laid_annuitant_operation_argumentKinds)], narrowed := true }
def CompileShortUptoSaid : Prop := compileShortUptoRow.holds Tryz.pinned (OpenSpec.upto compileShortSpec)

/-- 'annuitantlaw19.CompileOnly', WHERE WHAT IT READS IS OF BULK AT MOST 1048576: true; the input reads as it did. -/
def compileOnlyUptoRow : OpenClaim := { program := "ythmbkdkibhffbaagreatdoor", sum := "ddd96650afbaa3c2145e6b388a4fb73f7df90cc31e9cc3172194a0a6eb8cba2e", func := "annuitant/annuitantlaw19.CompileOnly", spec := "compileOnly", inPlace := ["internal/bytealg.IndexByteString", "internal/bytealg.IndexString"], unfollowed := true, recurses := true, named := ["math/bits.overflowError", "annuitant/operation.argumentKinds", "internal/bytealg.MaxLen", "internal/strconv.uint64pow10", "math/bits.deBruijn32tab", "math/bits.deBruijn64tab"], loops := true, apart := false, laid := [("math/bits.deBruijn32tab", laid_math_bits_deBruijn32tab), ("math/bits.deBruijn64tab", laid_math_bits_deBruijn64tab), ("internal/strconv.uint64pow10", laid_internal_strconv_uint64pow10), ("annuitant/operation.argumentKinds", laid_annuitant_operation_argumentKinds)], narrowed := true }
def CompileOnlyUptoSaid : Prop := compileOnlyUptoRow.holds Tryz.pinned (OpenSpec.upto compileOnlySpec)

/-- 'annuitantlaw19.CompileBack', WHERE WHAT IT READS IS OF BULK AT MOST 1048576: true; the input reads as it did. -/
def compileBackUptoRow : OpenClaim := { program := "ythmbkdkibhffbaagreatdoor", sum := "ddd96650afbaa3c2145e6b388a4fb73f7df90cc31e9cc3172194a0a6eb8cba2e", func := "annuitant/annuitantlaw19.CompileBack", spec := "compileBack", inPlace := ["internal/bytealg.IndexByteString", "internal/bytealg.IndexString", "internal/abi.NoEscape"], unfollowed := true, recurses := true, named := ["math/bits.overflowError", "annuitant/operation.argumentKinds", "internal/bytealg.MaxLen", "internal/strconv.uint64pow10", "math/bits.deBruijn32tab", "math/bits.deBruijn64tab", "annuitant/calendar.lengths", "annuitant/parse.modeWords"], loops := true, apart := false, laid := [("math/bits.deBruijn32tab", laid_math_bits_deBruijn32tab), ("math/bits.deBruijn64tab", laid_math_bits_deBruijn64tab), ("internal/strconv.uint64pow10", laid_internal_strconv_uint64pow10), ("annuitant/calendar.lengths", laid_annuitant_calendar_lengths), ("annuitant/parse.modeWords", laid_annuitant_parse_modeWords), ("annuitant/operation.argumentKinds", laid_annuitant_operation_argumentKinds)], narrowed := true }
def CompileBackUptoSaid : Prop := compileBackUptoRow.holds Tryz.pinned (OpenSpec.upto compileBackSpec)

end Rows
end Go.Proofs.YthmbkdkibhffbaaGreatDoor
