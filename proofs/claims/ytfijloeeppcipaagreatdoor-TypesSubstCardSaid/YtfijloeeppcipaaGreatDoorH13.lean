/- What awake reads: closed runs. -/
import Derived.Test.YtfijloeeppcipaaGreatDoorH10
set_option linter.all false
noncomputable section
set_option maxRecDepth 100000
namespace Go.Proofs
open Go Go.Am
def zxk:(zwd.all fun p=>z0o p.2 (zqg (z12 26) 14 (kP (z12 26) 26 [.str p.1] H14)))=true:=by kernel_rfl
end Go.Proofs
