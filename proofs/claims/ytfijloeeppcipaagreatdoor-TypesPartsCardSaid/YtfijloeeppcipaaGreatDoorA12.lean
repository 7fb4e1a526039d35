/- Lengths of months and dates: closed runs. -/
import Derived.Test.YtfijloeeppcipaaGreatDoorA10
set_option linter.all false
noncomputable section
set_option maxRecDepth 100000
namespace Go.Proofs
open Go Go.Am
theorem z2u:((List.range 101).all fun y=>(List.range 12).all fun m=>zxv (1900+y) (1+m))=true:=by kernel_rfl
set_option maxHeartbeats 4000000 in
theorem zzx:(z6e.all zzy)=true:=by kernel_rfl
end Go.Proofs
