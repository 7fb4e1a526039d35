/- The closed run of annuitantlaw19.awake on the abstract machine ends in true. -/
import Derived.KernelRfl
import Derived.Test.YthmbkdkibhffbaaGreatDoorE06
import Derived.Test.YthmbkdkibhffbaaGreatDoorE07
set_option linter.all false
noncomputable section
set_option maxRecDepth 100000
namespace Go.Proofs
open Go Go.Am
def sU:List (List Nat):=[[],[],[],[52],[52],[],[50,32,50,50],[50,50,32,51,51,32,53,53,32,54,54,32,52,53,32,52,54],[50,50,32,51,51,32,53,53,32,54,54,32,52,52,32,52,53,32,52,54],[50,50,32,51,50,32,50,51],[50,50,32,51,51,32,51,50],[50,50,32,51,51,32,52,52,32,53,53,32,54,54],[50,50,32,51,51,32,52,52,32,53,53,32,54,54],[50,50,32,51,51,32,52,52,32,53,53,32,54,54],[49,49,32,50,50,32,51,51,32,52,52,32,53,53,32,54,54],[],[],[49],[],[50,50,32,51,51],[52,52],[52,52],[52,52,54],[52,52],[50],[50,32,51,32,53,32,54],[52]]
def aP:List Int:=(List.range 20).map fun n=>((10^n:Nat):Int)
def H19:pA:=⟨256,glob 0 (sU.map zA.str) (glob 5 (aP.map fun n=>.int .u64 n) .leaf)⟩
def zgg:Tr (List zA->pA->Option zA):=(Tr.leaf.set 343 zan).set 242 zcl
def C19w:iA:=⟨fns,ks,tys,plans,zgg,256,14⟩
theorem zyc:fC (znt C19w 16 (eP C19w 14 [] H19))=1:=by kernel_rfl
end Go.Proofs
