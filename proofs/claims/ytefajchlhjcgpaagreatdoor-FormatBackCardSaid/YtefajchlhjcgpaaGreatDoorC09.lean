/- The expression 1 of awake is written as it should be. -/
import Derived.Test.YtefajchlhjcgpaaGreatDoorC08
set_option linter.all false
noncomputable section
set_option maxRecDepth 100000
namespace Go.Proofs
open Go Go.Am
theorem UF:L7 (jW (wW 24) 16 (Dk (wW 24) 24 [.h [49,45,40,40,50,45,51,41,41],.h [49,32,45,32,40,50,32,45,32,51,41]] L8))=1:=by kernel_rfl
end Go.Proofs
