/- The expression 2 of awake is written as it should be. -/
import Derived.Test.YtefajchlhjcgpaaGreatDoorP08
set_option linter.all false
noncomputable section
set_option maxRecDepth 100000
namespace Go.Proofs
open Go Go.Am
theorem UT:M4 (sX (fW 24) 16 (Ea (fW 24) 24 [.h [40,49,32,45,32,50,41,32,45,32,51],.h [49,32,45,32,50,32,45,32,51]] M5))=1:=by kernel_rfl
end Go.Proofs
