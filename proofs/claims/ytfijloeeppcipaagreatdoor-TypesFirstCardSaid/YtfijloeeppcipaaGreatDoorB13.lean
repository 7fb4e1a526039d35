/- What awake reads: closed runs. -/
import Derived.Test.YtfijloeeppcipaaGreatDoorB10
set_option linter.all false
noncomputable section
set_option maxRecDepth 100000
namespace Go.Proofs
open Go Go.Am
theorem zwl:(zvg.all fun p=>zzs p.2 (zpu (z02 26) 14 (rP (z02 26) 26 [.str p.1] H14)))=true:=by kernel_rfl
end Go.Proofs
