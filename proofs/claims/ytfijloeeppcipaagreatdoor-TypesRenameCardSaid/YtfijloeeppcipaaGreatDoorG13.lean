/- What awake reads: closed runs. -/
import Derived.Test.YtfijloeeppcipaaGreatDoorG10
set_option linter.all false
noncomputable section
set_option maxRecDepth 100000
namespace Go.Proofs
open Go Go.Am
def zxz:(zwt.all fun p=>z01 p.2 (zq3 (z2j 26) 14 (aP (z2j 26) 26 [.str p.1] H14)))=true:=by kernel_rfl
end Go.Proofs
