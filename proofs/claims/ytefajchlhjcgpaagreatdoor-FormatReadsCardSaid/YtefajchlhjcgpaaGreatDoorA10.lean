/- The expression 2 of awake is written as it should be. -/
import Derived.Test.YtefajchlhjcgpaaGreatDoorA08
set_option linter.all false
noncomputable section
set_option maxRecDepth 100000
namespace Go.Proofs
open Go Go.Am
theorem RJ:jH (nU (xU 24) 16 (As (xU 24) 24 [.str [40,49,32,45,32,50,41,32,45,32,51],.str [49,32,45,32,50,32,45,32,51]] H33))=1:=by kernel_rfl
end Go.Proofs
