/- The expression 3 of awake is written as it should be. -/
import Derived.Test.YtefajchlhjcgpaaGreatDoorA08
set_option linter.all false
noncomputable section
set_option maxRecDepth 100000
namespace Go.Proofs
open Go Go.Am
theorem RI:jH (nU (xU 24) 16 (As (xU 24) 24 [.str [110,111,116,32,40,120,32,97,116,32,116,111,100,97,121,60,49,41],.str [110,111,116,32,120,32,97,116,32,116,111,100,97,121,32,60,32,49]] H33))=1:=by kernel_rfl
end Go.Proofs
