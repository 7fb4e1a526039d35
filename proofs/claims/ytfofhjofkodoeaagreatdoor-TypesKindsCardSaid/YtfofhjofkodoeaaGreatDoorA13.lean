/- What awake reads: closed runs. -/
import Derived.Test.YtfofhjofkodoeaaGreatDoorA09
set_option linter.all false
noncomputable section
set_option maxRecDepth 100000
namespace Go.Proofs
open Go Go.Am
def TJ:(AV.all fun p=>Lb p.2 (rP (lU 11) 15 (cU (lU 11) 11 [.str p.1] H24)))=true:=by kernel_rfl
end Go.Proofs
