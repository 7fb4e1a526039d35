/- Lengths of months and dates: closed runs. -/
import Derived.Test.YtfijloeeppcipaaGreatDoorB10
set_option linter.all false
noncomputable section
set_option maxRecDepth 100000
namespace Go.Proofs
open Go Go.Am
theorem z2y:((List.range 101).all fun y=>(List.range 12).all fun m=>zxw (1900+y) (1+m))=true:=by kernel_rfl
set_option maxHeartbeats 4000000 in
theorem zz0:(z6p.all zz1)=true:=by kernel_rfl
end Go.Proofs
