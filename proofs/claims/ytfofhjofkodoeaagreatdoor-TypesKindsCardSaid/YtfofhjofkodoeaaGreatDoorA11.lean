/- Lengths of months and dates: closed runs. -/
import Derived.Test.YtfofhjofkodoeaaGreatDoorA09
set_option linter.all false
noncomputable section
set_option maxRecDepth 100000
namespace Go.Proofs
open Go Go.Am
def zb8:((List.range 101).all fun y=>(List.range 12).all fun m=>Wo (1900+y) (1+m))=true:=by kernel_rfl
set_option maxHeartbeats 4000000 in
def YF:(zfo.all LJ)=true:=by kernel_rfl
end Go.Proofs
