/- The closed run of annuitantlaw13.awake on the abstract machine ends in true (the five expressions by runs of their own). -/
import Derived.KernelRfl
import Derived.Test.YtmmedgeabnpnhaaGreatDoorA07
set_option linter.all false
noncomputable section
set_option maxRecDepth 100000
namespace Go.Proofs
open Go Go.Am
def gM:List (List UInt8):=[[],[116,114,117,116,104],[110,117,109,98,101,114],[109,111,110,101,121],[100,97,116,101],[100,97,121,115],[109,111,110,116,104,115]]
def kM:List (List UInt8):=[[],[100,111,119,110],[117,112],[102,108,111,111,114],[99,101,105,108],[104,97,108,102],[101,118,101,110]]
def zO:List Int:=[31,28,31,30,31,30,31,31,30,31,30,31]
def zT:List Int:=(List.range 20).map fun n=>((10^n:Nat):Int)
def dW (l:List (List UInt8)):List zA:=l.map fun b=>zA.str (b.map UInt8.toNat)
def lV (k:IntKind)(l:List Int):List zA:=l.map fun n=>zA.int k n
def H23:xA:=⟨256,glob 0 (dW gM) (glob 1 (dW kM) (glob 2 (lV .i64 zO) (glob 4 (lV .u64 zT) .leaf)))⟩
def Oo:List (List Nat × List Nat):=[([49,45,40,40,50,45,51,41,41],[49,32,45,32,40,50,32,45,32,51,41]),
 ([40,49,32,45,32,50,41,32,45,32,51],[49,32,45,32,50,32,45,32,51]),
 ([110,111,116,32,40,120,32,97,116,32,116,111,100,97,121,60,49,41],[110,111,116,32,120,32,97,116,32,116,111,100,97,121,32,60,32,49]),
 ([40,110,111,116,32,116,114,117,101,41,32,60,32,49],[40,110,111,116,32,116,114,117,101,41,32,60,32,49]),
 ([97,32,97,116,32,40,116,111,100,97,121,43,49,32,100,97,121,115,41],[97,32,97,116,32,40,116,111,100,97,121,32,43,32,49,32,100,97,121,115,41])]
def inW:List (List Nat × List Nat)->List Nat->List Nat->Bool
 | [],_,_=>false
 | p::r,a,b=>bif cC p.1 a&&cC p.2 b then true else inW r a b
def Ss(a:List zA)(_:xA):Option zA:=match a with
 | [.str x,.str y]=>xB (inW Oo x y) (some (.bool true))
 | _=>none
def Ks:Tr (List zA->xA->Option (zA × xA)):=((((((Tr.leaf.set 104 (mZ 256 Gy)).set 47 (Ci 256 5)).set 164 (fL Cj)).set 243 (fL Gm)).set 220 (fL Ck)).set 278 (fL Su))
def Sm:Tr (List zA->xA->Option (zA × xA)):=Ks.set 22 (fL Ss)
def lO (f:Nat):oA:=⟨fns,ks,tys,plans,Ks,256,f⟩
def C23w:oA:=⟨fns,ks,tys,plans,Sm,256,7⟩
def YY:uF (zP C23w 16 (kU C23w 7 [] H23))=1:=by kernel_rfl
end Go.Proofs
