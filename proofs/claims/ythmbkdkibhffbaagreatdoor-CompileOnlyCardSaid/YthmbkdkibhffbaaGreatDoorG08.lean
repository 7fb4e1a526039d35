/- The closed run of annuitantlaw19.awake on the abstract machine ends in true. -/
import Derived.KernelRfl
import Derived.Test.YthmbkdkibhffbaaGreatDoorG06
import Derived.Test.YthmbkdkibhffbaaGreatDoorG07
set_option linter.all false
noncomputable section
set_option maxRecDepth 100000
namespace Go.Proofs
open Go Go.Am
def gU:List (List Nat):=[[],[],[],[52],[52],[],[50,32,50,50],[50,50,32,51,51,32,53,53,32,54,54,32,52,53,32,52,54],[50,50,32,51,51,32,53,53,32,54,54,32,52,52,32,52,53,32,52,54],[50,50,32,51,50,32,50,51],[50,50,32,51,51,32,51,50],[50,50,32,51,51,32,52,52,32,53,53,32,54,54],[50,50,32,51,51,32,52,52,32,53,53,32,54,54],[50,50,32,51,51,32,52,52,32,53,53,32,54,54],[49,49,32,50,50,32,51,51,32,52,52,32,53,53,32,54,54],[],[],[49],[],[50,50,32,51,51],[52,52],[52,52],[52,52,54],[52,52],[50],[50,32,51,32,53,32,54],[52]]
def wQ:List Int:=(List.range 20).map fun n=>((10^n:Nat):Int)
def H19:qA:=⟨256,glob 0 (gU.map zA.str) (glob 5 (wQ.map fun n=>.int .u64 n) .leaf)⟩
def zgy:Tr (List zA->qA->Option zA):=(Tr.leaf.set 343 zar).set 242 zc5
def C19w:iA:=⟨fns,ks,tys,plans,zgy,256,14⟩
theorem zya:aC (zn5 C19w 16 (zQ C19w 14 [] H19))=1:=by kernel_rfl
end Go.Proofs
