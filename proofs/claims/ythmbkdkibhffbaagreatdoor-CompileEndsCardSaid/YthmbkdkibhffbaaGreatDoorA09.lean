/- The closed run of annuitantlaw19.awake on the abstract machine ends in true. -/
import Derived.KernelRfl
import Derived.Test.YthmbkdkibhffbaaGreatDoorA07
import Derived.Test.YthmbkdkibhffbaaGreatDoorA08
set_option linter.all false
noncomputable section
set_option maxRecDepth 100000
namespace Go.Proofs
open Go Go.Am
def zly : List (List Nat) := [[], [], [], [52], [52], [], [50, 32, 50, 50], [50, 50, 32, 51, 51, 32, 53, 53, 32, 54, 54, 32, 52, 53, 32, 52, 54], [50, 50, 32, 51, 51, 32, 53, 53, 32, 54, 54, 32, 52, 52, 32, 52, 53, 32, 52, 54], [50, 50, 32, 51, 50, 32, 50, 51], [50, 50, 32, 51, 51, 32, 51, 50], [50, 50, 32, 51, 51, 32, 52, 52, 32, 53, 53, 32, 54, 54], [50, 50, 32, 51, 51, 32, 52, 52, 32, 53, 53, 32, 54, 54], [50, 50, 32, 51, 51, 32, 52, 52, 32, 53, 53, 32, 54, 54], [49, 49, 32, 50, 50, 32, 51, 51, 32, 52, 52, 32, 53, 53, 32, 54, 54], [], [], [49], [], [50, 50, 32, 51, 51], [52, 52], [52, 52], [52, 52, 54], [52, 52], [50], [50, 32, 51, 32, 53, 32, 54], [52]]
def zlg : List Int := (List.range 20).map fun n => ((10 ^ n : Nat) : Int)
def H19 : zaj := ⟨256, glob 0 (zly.map zab.str) (glob 5 (zlg.map fun n => .int .u64 n) .leaf)⟩
def zty : Tr (List zab -> zaj -> Option zab) := (Tr.leaf.set 343 znf).set 242 zp8
def C19w : Ctx := ⟨fns, ks, tys, plans, zty, 256, 14⟩
theorem z94 : fin (z0p C19w 16 (zld C19w 14 [] H19)) = 1 := by kernel_rfl
end Go.Proofs
