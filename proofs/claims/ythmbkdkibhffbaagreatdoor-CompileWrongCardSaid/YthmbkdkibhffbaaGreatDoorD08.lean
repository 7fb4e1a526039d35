/- The closed run of annuitantlaw19.awake on the abstract machine ends in true. -/
import Derived.KernelRfl
import Derived.Test.YthmbkdkibhffbaaGreatDoorD06
import Derived.Test.YthmbkdkibhffbaaGreatDoorD07
set_option linter.all false
noncomputable section
set_option maxRecDepth 100000
namespace Go.Proofs
open Go Go.Am
def bT:List (List Nat):=[[],[],[],[52],[52],[],[50,32,50,50],[50,50,32,51,51,32,53,53,32,54,54,32,52,53,32,52,54],[50,50,32,51,51,32,53,53,32,54,54,32,52,52,32,52,53,32,52,54],[50,50,32,51,50,32,50,51],[50,50,32,51,51,32,51,50],[50,50,32,51,51,32,52,52,32,53,53,32,54,54],[50,50,32,51,51,32,52,52,32,53,53,32,54,54],[50,50,32,51,51,32,52,52,32,53,53,32,54,54],[49,49,32,50,50,32,51,51,32,52,52,32,53,53,32,54,54],[],[],[49],[],[50,50,32,51,51],[52,52],[52,52],[52,52,54],[52,52],[50],[50,32,51,32,53,32,54],[52]]
def oP:List Int:=(List.range 20).map fun n=>((10^n:Nat):Int)
def H19:rA:=⟨256,glob 0 (bT.map zA.str) (glob 5 (oP.map fun n=>.int .u64 n) .leaf)⟩
def zfs:Tr (List zA->rA->Option zA):=(Tr.leaf.set 343 bY).set 242 zb9
def C19w:iA:=⟨fns,ks,tys,plans,zfs,256,14⟩
theorem zwp:dC (zms C19w 16 (qP C19w 14 [] H19))=1:=by kernel_rfl
end Go.Proofs
