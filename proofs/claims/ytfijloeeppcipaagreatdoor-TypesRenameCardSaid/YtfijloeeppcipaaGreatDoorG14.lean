/- What awake reads: closed runs. -/
import Derived.Test.YtfijloeeppcipaaGreatDoorG10
set_option linter.all false
noncomputable section
set_option maxRecDepth 100000
namespace Go.Proofs
open Go Go.Am
def zyc:(zwu.all fun p=>z01 p.2 (zq3 (z2j 27) 15 (aP (z2j 27) 27 [.str p.1] H14)))=true:=by kernel_rfl
end Go.Proofs
