/- The expression 5 of awake is written as it should be. -/
import Derived.Test.YtefajchlhjcgpaaGreatDoorP08
set_option linter.all false
noncomputable section
set_option maxRecDepth 100000
namespace Go.Proofs
open Go Go.Am
theorem UQ:M4 (sX (fW 24) 16 (Ea (fW 24) 24 [.h [97,32,97,116,32,40,116,111,100,97,121,43,49,32,100,97,121,115,41],.h [97,32,97,116,32,40,116,111,100,97,121,32,43,32,49,32,100,97,121,115,41]] M5))=1:=by kernel_rfl
end Go.Proofs
