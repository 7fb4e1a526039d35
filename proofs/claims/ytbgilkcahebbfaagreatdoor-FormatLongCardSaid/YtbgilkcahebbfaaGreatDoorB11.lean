/- The expression 2 of awake is written as it should be. -/
import Derived.Test.YtbgilkcahebbfaaGreatDoorB09
set_option linter.all false
noncomputable section
set_option maxRecDepth 100000
namespace Go.Proofs
open Go Go.Am
theorem zz7 : fin (z5k (z4y 15) 16 (zmh (z4y 15) 15 [.str [40, 49, 32, 45, 32, 50, 41, 32, 45, 32, 51], .str [49, 32, 45, 32, 50, 32, 45, 32, 51]] H13)) = 1 := by kernel_rfl
end Go.Proofs
