/- What awake reads: closed runs. -/
import Derived.Test.YtfijloeeppcipaaGreatDoorB10
set_option linter.all false
noncomputable section
set_option maxRecDepth 100000
namespace Go.Proofs
open Go Go.Am
theorem zw0:(zvh.all fun p=>zzs p.2 (zpu (z02 27) 15 (rP (z02 27) 27 [.str p.1] H14)))=true:=by kernel_rfl
end Go.Proofs
