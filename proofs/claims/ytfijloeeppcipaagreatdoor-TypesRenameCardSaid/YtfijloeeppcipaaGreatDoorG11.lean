/- The closed run of annuitantlaw14.awake ends in true. -/
import Derived.Test.YtfijloeeppcipaaGreatDoorG10
set_option linter.all false
noncomputable section
set_option maxRecDepth 100000
namespace Go.Proofs
open Go Go.Am
def z12:aC (zq3 C14w 16 (aP C14w 9 [] H14))=1:=by kernel_rfl
end Go.Proofs
