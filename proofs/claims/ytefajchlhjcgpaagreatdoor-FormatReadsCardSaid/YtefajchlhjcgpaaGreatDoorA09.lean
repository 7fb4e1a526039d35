/- The expression 1 of awake is written as it should be. -/
import Derived.Test.YtefajchlhjcgpaaGreatDoorA08
set_option linter.all false
noncomputable section
set_option maxRecDepth 100000
namespace Go.Proofs
open Go Go.Am
theorem RK:jH (nU (xU 24) 16 (As (xU 24) 24 [.str [49,45,40,40,50,45,51,41,41],.str [49,32,45,32,40,50,32,45,32,51,41]] H33))=1:=by kernel_rfl
end Go.Proofs
