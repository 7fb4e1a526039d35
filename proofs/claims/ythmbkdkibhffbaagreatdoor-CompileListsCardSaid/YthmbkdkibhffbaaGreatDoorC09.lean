/- The closed run of annuitantlaw19.awake on the abstract machine ends in true. -/
import Derived.KernelRfl
import Derived.Test.YthmbkdkibhffbaaGreatDoorC07
import Derived.Test.YthmbkdkibhffbaaGreatDoorC08
set_option linter.all false
noncomputable section
set_option maxRecDepth 100000
namespace Go.Proofs
open Go Go.Am
def zl1 : List (List Nat) := [[], [], [], [52], [52], [], [50, 32, 50, 50], [50, 50, 32, 51, 51, 32, 53, 53, 32, 54, 54, 32, 52, 53, 32, 52, 54], [50, 50, 32, 51, 51, 32, 53, 53, 32, 54, 54, 32, 52, 52, 32, 52, 53, 32, 52, 54], [50, 50, 32, 51, 50, 32, 50, 51], [50, 50, 32, 51, 51, 32, 51, 50], [50, 50, 32, 51, 51, 32, 52, 52, 32, 53, 53, 32, 54, 54], [50, 50, 32, 51, 51, 32, 52, 52, 32, 53, 53, 32, 54, 54], [50, 50, 32, 51, 51, 32, 52, 52, 32, 53, 53, 32, 54, 54], [49, 49, 32, 50, 50, 32, 51, 51, 32, 52, 52, 32, 53, 53, 32, 54, 54], [], [], [49], [], [50, 50, 32, 51, 51], [52, 52], [52, 52], [52, 52, 54], [52, 52], [50], [50, 32, 51, 32, 53, 32, 54], [52]]
def zlj : List Int := (List.range 20).map fun n => ((10 ^ n : Nat) : Int)
def H19 : zai := ⟨256, glob 0 (zl1.map zab.str) (glob 5 (zlj.map fun n => .int .u64 n) .leaf)⟩
def zt3 : Tr (List zab -> zai -> Option zab) := (Tr.leaf.set 343 zng).set 242 zqa
def C19w : Ctx := ⟨fns, ks, tys, plans, zt3, 256, 14⟩
theorem zzae : fin (z0w C19w 16 (zlg C19w 14 [] H19)) = 1 := by kernel_rfl
end Go.Proofs
