/- The expression 4 of awake is written as it should be. -/
import Derived.Test.YtefajchlhjcgpaaGreatDoorP08
set_option linter.all false
noncomputable section
set_option maxRecDepth 100000
namespace Go.Proofs
open Go Go.Am
theorem UR:M4 (sX (fW 24) 16 (Ea (fW 24) 24 [.h [40,110,111,116,32,116,114,117,101,41,32,60,32,49],.h [40,110,111,116,32,116,114,117,101,41,32,60,32,49]] M5))=1:=by kernel_rfl
end Go.Proofs
