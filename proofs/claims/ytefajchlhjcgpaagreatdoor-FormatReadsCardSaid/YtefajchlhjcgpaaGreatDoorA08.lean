/- The closed run of annuitantlaw13.awake on the abstract machine ends in true (the five expressions by runs of their own). -/
import Derived.KernelRfl
import Derived.Test.YtefajchlhjcgpaaGreatDoorA07
set_option linter.all false
noncomputable section
set_option maxRecDepth 100000
namespace Go.Proofs
open Go Go.Am
def sR:List (List UInt8):=[[],[116,114,117,116,104],[110,117,109,98,101,114],[109,111,110,101,121],[100,97,116,101],[100,97,121,115],[109,111,110,116,104,115]]
def zR:List (List UInt8):=[[],[100,111,119,110],[117,112],[102,108,111,111,114],[99,101,105,108],[104,97,108,102],[101,118,101,110]]
def uT:List Int:=[31,28,31,30,31,30,31,31,30,31,30,31]
def Bc:List Int:=(List.range 20).map fun n=>((10^n:Nat):Int)
def Du (l:List (List UInt8)):List zA:=l.map fun b=>zA.str (b.map UInt8.toNat)
def Bs (k:IntKind)(l:List Int):List zA:=l.map fun n=>zA.int k n
def H33:xA:=⟨256,glob 0 (Du sR) (glob 1 (Du zR) (glob 3 (Bs .i64 uT) (glob 5 (Bs .u64 Bc) .leaf)))⟩
def We:List (List Nat × List Nat):=[([49,45,40,40,50,45,51,41,41],[49,32,45,32,40,50,32,45,32,51,41]),
 ([40,49,32,45,32,50,41,32,45,32,51],[49,32,45,32,50,32,45,32,51]),
 ([110,111,116,32,40,120,32,97,116,32,116,111,100,97,121,60,49,41],[110,111,116,32,120,32,97,116,32,116,111,100,97,121,32,60,32,49]),
 ([40,110,111,116,32,116,114,117,101,41,32,60,32,49],[40,110,111,116,32,116,114,117,101,41,32,60,32,49]),
 ([97,32,97,116,32,40,116,111,100,97,121,43,49,32,100,97,121,115,41],[97,32,97,116,32,40,116,111,100,97,121,32,43,32,49,32,100,97,121,115,41])]
def inW:List (List Nat × List Nat)->List Nat->List Nat->Bool
 | [],_,_=>false
 | p::r,a,b=>bif qF p.1 a&&qF p.2 b then true else inW r a b
def Zz(a:List zA)(_:xA):Option zA:=match a with
 | [.str x,.str y]=>tB (inW We x y) (some (.bool true))
 | _=>none
def Sp:Tr (List zA->xA->Option (zA × xA)):=((((((Tr.leaf.set 87 (Ha 256 Oo)).set 44 (Gz 256 5)).set 137 (bL Kb)).set 238 (bL Nz)).set 143 (bL Kc)).set 262 (bL Oa))
def Zt:Tr (List zA->xA->Option (zA × xA)):=Sp.set 24 (bL Zz)
def xU (f:Nat):iA:=⟨fns,ks,tys,plans,Sp,256,f⟩
def C33w:iA:=⟨fns,ks,tys,plans,Zt,256,7⟩
def zfn:jH (nU C33w 16 (As C33w 7 [] H33))=1:=by kernel_rfl
end Go.Proofs
