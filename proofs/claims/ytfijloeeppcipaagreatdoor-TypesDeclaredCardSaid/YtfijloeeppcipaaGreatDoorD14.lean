/- What awake reads: closed runs. -/
import Derived.Test.YtfijloeeppcipaaGreatDoorD10
set_option linter.all false
noncomputable section
set_option maxRecDepth 100000
namespace Go.Proofs
open Go Go.Am
def zx9:(zwr.all fun p=>z0x p.2 (zqv (z16 27) 15 (kP (z16 27) 27 [.str p.1] H14)))=true:=by kernel_rfl
end Go.Proofs
