/- The expression 2 of awake is written as it should be. -/
import Derived.Test.YtmmedgeabnpnhaaGreatDoorA08
set_option linter.all false
noncomputable section
set_option maxRecDepth 100000
namespace Go.Proofs
open Go Go.Am
def LG:uF (zP (lO 22) 16 (kU (lO 22) 22 [.str [40,49,32,45,32,50,41,32,45,32,51],.str [49,32,45,32,50,32,45,32,51]] H23))=1:=by kernel_rfl
end Go.Proofs
