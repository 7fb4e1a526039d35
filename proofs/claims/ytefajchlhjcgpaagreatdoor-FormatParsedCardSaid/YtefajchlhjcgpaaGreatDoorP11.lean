/- The expression 3 of awake is written as it should be. -/
import Derived.Test.YtefajchlhjcgpaaGreatDoorP08
set_option linter.all false
noncomputable section
set_option maxRecDepth 100000
namespace Go.Proofs
open Go Go.Am
theorem US:M4 (sX (fW 24) 16 (Ea (fW 24) 24 [.h [110,111,116,32,40,120,32,97,116,32,116,111,100,97,121,60,49,41],.h [110,111,116,32,120,32,97,116,32,116,111,100,97,121,32,60,32,49]] M5))=1:=by kernel_rfl
end Go.Proofs
