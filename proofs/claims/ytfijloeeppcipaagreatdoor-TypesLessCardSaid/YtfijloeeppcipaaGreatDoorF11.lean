/- The closed run of annuitantlaw14.awake ends in true. -/
import Derived.Test.YtfijloeeppcipaaGreatDoorF10
set_option linter.all false
noncomputable section
set_option maxRecDepth 100000
namespace Go.Proofs
open Go Go.Am
def zz3:mD (zpg C14w 16 (sP C14w 9 [] H14))=1:=by kernel_rfl
end Go.Proofs
