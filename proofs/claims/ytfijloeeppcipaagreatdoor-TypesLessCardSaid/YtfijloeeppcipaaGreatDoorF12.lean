/- Lengths of months and dates: closed runs. -/
import Derived.Test.YtfijloeeppcipaaGreatDoorF10
set_option linter.all false
noncomputable section
set_option maxRecDepth 100000
namespace Go.Proofs
open Go Go.Am
def z2n:((List.range 101).all fun y=>(List.range 12).all fun m=>zxg (1900+y) (1+m))=true:=by kernel_rfl
set_option maxHeartbeats 4000000 in
def zzf:(z52.all zzg)=true:=by kernel_rfl
end Go.Proofs
