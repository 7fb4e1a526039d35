/- What awake reads: closed runs. -/
import Derived.Test.YtfijloeeppcipaaGreatDoorF10
set_option linter.all false
noncomputable section
set_option maxRecDepth 100000
namespace Go.Proofs
open Go Go.Am
def zwl:(zu5.all fun p=>zy8 p.2 (zpg (z0j 27) 15 (sP (z0j 27) 27 [.str p.1] H14)))=true:=by kernel_rfl
end Go.Proofs
