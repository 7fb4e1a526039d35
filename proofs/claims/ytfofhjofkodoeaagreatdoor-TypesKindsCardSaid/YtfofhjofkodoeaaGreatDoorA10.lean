/- The closed run of annuitantlaw14.awake ends in true. -/
import Derived.Test.YtfofhjofkodoeaaGreatDoorA09
set_option linter.all false
noncomputable section
set_option maxRecDepth 100000
namespace Go.Proofs
open Go Go.Am
def zab:fF (rP C24w 16 (cU C24w 8 [] H24))=1:=by kernel_rfl
end Go.Proofs
