/- The closed run of annuitantlaw19.awake on the abstract machine ends in true. -/
import Derived.KernelRfl
import Derived.Test.YthibiocejpbmgaaGreatDoorA07
set_option linter.all false
noncomputable section
set_option maxRecDepth 100000
namespace Go.Proofs
open Go Go.Am
def lN:List (List UInt8):=[[],[],[],[52],[52],[],[50,32,50,50],[50,50,32,51,51,32,53,53,32,54,54,32,52,53,32,52,54],[50,50,32,51,51,32,53,53,32,54,54,32,52,52,32,52,53,32,52,54],[50,50,32,51,50,32,50,51],[50,50,32,51,51,32,51,50],[50,50,32,51,51,32,52,52,32,53,53,32,54,54],[50,50,32,51,51,32,52,52,32,53,53,32,54,54],[50,50,32,51,51,32,52,52,32,53,53,32,54,54],[49,49,32,50,50,32,51,51,32,52,52,32,53,53,32,54,54],[],[],[49],[],[50,50,32,51,51],[52,52],[52,52],[52,52,54],[52,52],[50],[50,32,51,32,53,32,54],[52]]
def gP:List (List UInt8):=[[],[100,111,119,110],[117,112],[102,108,111,111,114],[99,101,105,108],[104,97,108,102],[101,118,101,110]]
def dQ:List Int:=[31,28,31,30,31,30,31,31,30,31,30,31]
def pW:List Int:=(List.range 20).map fun n=>((10^n:Nat):Int)
def Ad (l:List (List UInt8)):List zA:=l.map fun b=>zA.str (b.map UInt8.toNat)
def bY (k:IntKind)(l:List Int):List zA:=l.map fun n=>zA.int k n
def H26:pA:=⟨256,glob 0 (Ad lN) (glob 1 (Ad gP) (glob 4 (bY .i64 dQ) (glob 5 (bY .u64 pW) .leaf)))⟩
def Wj:Tr (List zA->pA->Option (zA × pA)):=(Tr.leaf.set 220 (hO Wp)).set 141 (hO Hd)
def C26w:fA:=⟨fns,ks,tys,plans,Wj,256,4⟩
def zbd:bD (Dc C26w 16 (Vg C26w 4 [] H26))=1:=by kernel_rfl
end Go.Proofs
