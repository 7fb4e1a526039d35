/- The closed run of annuitantlaw13.awake on the abstract machine ends in true (the five expressions by runs of their own). -/
import Derived.KernelRfl
import Derived.Test.YtefajchlhjcgpaaGreatDoorC07
set_option linter.all false
noncomputable section
set_option maxRecDepth 100000
namespace Go.Proofs
open Go Go.Am
def jT:List (List UInt8):=[[],[116,114,117,116,104],[110,117,109,98,101,114],[109,111,110,101,121],[100,97,116,101],[100,97,121,115],[109,111,110,116,104,115]]
def rT:List (List UInt8):=[[],[100,111,119,110],[117,112],[102,108,111,111,114],[99,101,105,108],[104,97,108,102],[101,118,101,110]]
def oV:List Int:=[31,28,31,30,31,30,31,31,30,31,30,31]
def Dw:List Int:=(List.range 20).map λn=>((10^n:Nat):Int)
def Gt (l:List (List UInt8)):List O:=l.map λb=>O.h (b.map UInt8.toNat)
def Em (k:IntKind)(l:List Int):List O:=l.map λn=>O.e k n
def L8:sA:=⟨256,F8 0 (Gt jT) (F8 1 (Gt rT) (F8 3 (Em .i64 oV) (F8 5 (Em .u64 Dw) .aj)))⟩
def AH:List (List Nat × List Nat):=[([49,45,40,40,50,45,51,41,41],[49,32,45,32,40,50,32,45,32,51,41]),
 ([40,49,32,45,32,50,41,32,45,32,51],[49,32,45,32,50,32,45,32,51]),
 ([110,111,116,32,40,120,32,97,116,32,116,111,100,97,121,60,49,41],[110,111,116,32,120,32,97,116,32,116,111,100,97,121,32,60,32,49]),
 ([40,110,111,116,32,116,114,117,101,41,32,60,32,49],[40,110,111,116,32,116,114,117,101,41,32,60,32,49]),
 ([97,32,97,116,32,40,116,111,100,97,121,43,49,32,100,97,121,115,41],[97,32,97,116,32,40,116,111,100,97,121,32,43,32,49,32,100,97,121,115,41])]
def tj:List (List Nat × List Nat)->List Nat->List Nat->Bool
 | [],_,_=>false
 | p::r,a,b=>bif sF p.1 a&&sF p.2 b then true else tj r a b
def CX(a:List O)(_:sA):Option O:=match a with
 | [.h x,.h y]=>tB (tj AH x y) (some (.d true))
 | _=>none
def Wn:G (List O->sA->Option (O × sA)):=((((((G.aj.d 87 (Ki 256 Si)).d 44 (Kh 256 5)).d 137 (rN Np)).d 238 (rN Ru)).d 143 (rN Nq)).d 262 (rN Rv))
def CT:G (List O->sA->Option (O × sA)):=Wn.d 24 (rN CX)
def wW (f:Nat):fA:=⟨K8,ks,m8,O6,Wn,256,f⟩
def N2:fA:=⟨K8,ks,m8,O6,CT,256,7⟩
def zjs:L7 (jW N2 16 (Dk N2 7 [] L8))=1:=by kernel_rfl
end Go.Proofs
