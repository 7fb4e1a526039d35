/- The expression 4 of awake is written as it should be. -/
import Derived.Test.YtefajchlhjcgpaaGreatDoorA08
set_option linter.all false
noncomputable section
set_option maxRecDepth 100000
namespace Go.Proofs
open Go Go.Am
theorem RH:jH (nU (xU 24) 16 (As (xU 24) 24 [.str [40,110,111,116,32,116,114,117,101,41,32,60,32,49],.str [40,110,111,116,32,116,114,117,101,41,32,60,32,49]] H33))=1:=by kernel_rfl
end Go.Proofs
