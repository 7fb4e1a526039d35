/- The closed run of annuitantlaw12.awake on the abstract machine ends in true. -/
import Derived.KernelRfl
import Derived.Test.YtfmlbimokklmgaaGreatDoorF07
set_option linter.all false
noncomputable section
set_option maxRecDepth 100000
namespace Go.Proofs
open Go Go.Am
def jZ:List (List UInt8):=[[],[116,114,117,116,104],[110,117,109,98,101,114],[109,111,110,101,121],[100,97,116,101],[100,97,121,115],[109,111,110,116,104,115]]
def vZ:List (List UInt8):=[[],[100,111,119,110],[117,112],[102,108,111,111,114],[99,101,105,108],[104,97,108,102],[101,118,101,110]]
def nZ:List Int:=[31,28,31,30,31,30,31,31,30,31,30,31]
def Bf (l:List (List UInt8)):List zA:=l.map fun b=>zA.str (b.map UInt8.toNat)
def intA (k:IntKind)(l:List Int):List zA:=l.map fun n=>zA.int k n
def H30:xA:=⟨256,glob 1 (Bf jZ) (glob 4 (Bf vZ) (glob 2 (intA .i64 nZ) .leaf))⟩
def Xa:Tr (List zA->xA->Option (zA × xA)):=(((Tr.leaf.set 107 (lO Kz)).set 66 (lO He)).set 98 (lO pCut)).set 54 (lO La)
def C30w:oA:=⟨fns,ks,tys,plans,Xa,256,9⟩
def zag:fin (Dw C30w 16 (Vy C30w 9 [] H30))=1:=by kernel_rfl
end Go.Proofs
