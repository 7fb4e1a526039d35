/- The expression 2 of awake is written as it should be. -/
import Derived.Test.YtefajchlhjcgpaaGreatDoorC08
set_option linter.all false
noncomputable section
set_option maxRecDepth 100000
namespace Go.Proofs
open Go Go.Am
theorem UE:L7 (jW (wW 24) 16 (Dk (wW 24) 24 [.h [40,49,32,45,32,50,41,32,45,32,51],.h [49,32,45,32,50,32,45,32,51]] L8))=1:=by kernel_rfl
end Go.Proofs
