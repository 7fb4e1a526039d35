/- The expression 1 of awake is written as it should be. -/
import Derived.Test.YtefajchlhjcgpaaGreatDoorP08
set_option linter.all false
noncomputable section
set_option maxRecDepth 100000
namespace Go.Proofs
open Go Go.Am
theorem UU:M4 (sX (fW 24) 16 (Ea (fW 24) 24 [.h [49,45,40,40,50,45,51,41,41],.h [49,32,45,32,40,50,32,45,32,51,41]] M5))=1:=by kernel_rfl
end Go.Proofs
