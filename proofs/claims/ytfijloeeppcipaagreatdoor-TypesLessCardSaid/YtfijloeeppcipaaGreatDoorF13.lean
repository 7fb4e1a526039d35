/- What awake reads: closed runs. -/
import Derived.Test.YtfijloeeppcipaaGreatDoorF10
set_option linter.all false
noncomputable section
set_option maxRecDepth 100000
namespace Go.Proofs
open Go Go.Am
def zv7:(zu4.all fun p=>zy8 p.2 (zpg (z0j 26) 14 (sP (z0j 26) 26 [.str p.1] H14)))=true:=by kernel_rfl
end Go.Proofs
