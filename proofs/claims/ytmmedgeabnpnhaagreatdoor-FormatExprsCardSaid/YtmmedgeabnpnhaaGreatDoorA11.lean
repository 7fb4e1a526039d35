/- The expression 3 of awake is written as it should be. -/
import Derived.Test.YtmmedgeabnpnhaaGreatDoorA08
set_option linter.all false
noncomputable section
set_option maxRecDepth 100000
namespace Go.Proofs
open Go Go.Am
def LF:uF (zP (lO 22) 16 (kU (lO 22) 22 [.str [110,111,116,32,40,120,32,97,116,32,116,111,100,97,121,60,49,41],.str [110,111,116,32,120,32,97,116,32,116,111,100,97,121,32,60,32,49]] H23))=1:=by kernel_rfl
end Go.Proofs
