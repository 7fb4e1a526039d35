/- What awake reads: closed runs. -/
import Derived.Test.YtfijloeeppcipaaGreatDoorA10
set_option linter.all false
noncomputable section
set_option maxRecDepth 100000
namespace Go.Proofs
open Go Go.Am
theorem zwm:(zvm.all fun p=>zzo p.2 (zpv (z0w 26) 14 (oP (z0w 26) 26 [.str p.1] H14)))=true:=by kernel_rfl
end Go.Proofs
