/- The closed run of annuitantlaw13.awake on the abstract machine ends in true (the five expressions by runs of their own). -/
import Derived.KernelRfl
import Derived.Test.YtefajchlhjcgpaaGreatDoorP07
set_option linter.all false
noncomputable section
set_option maxRecDepth 100000
namespace Go.Proofs
open Go Go.Am
def rU:List (List UInt8):=[[],[116,114,117,116,104],[110,117,109,98,101,114],[109,111,110,101,121],[100,97,116,101],[100,97,121,115],[109,111,110,116,104,115]]
def zU:List (List UInt8):=[[],[100,111,119,110],[117,112],[102,108,111,111,114],[99,101,105,108],[104,97,108,102],[101,118,101,110]]
def aV:List Int:=[31,28,31,30,31,30,31,31,30,31,30,31]
def Ej:List Int:=(List.range 20).map λn=>((10^n:Nat):Int)
def Hc (l:List (List UInt8)):List O:=l.map λb=>O.h (b.map UInt8.toNat)
def Fb (k:IntKind)(l:List Int):List O:=l.map λn=>O.e k n
def M5:sA:=⟨256,G0 0 (Hc rU) (G0 1 (Hc zU) (G0 3 (Fb .i64 aV) (G0 5 (Fb .u64 Ej) .aj)))⟩
def ww:List (List Nat × List Nat):=[([49,45,40,40,50,45,51,41,41],[49,32,45,32,40,50,32,45,32,51,41]),
 ([40,49,32,45,32,50,41,32,45,32,51],[49,32,45,32,50,32,45,32,51]),
 ([110,111,116,32,40,120,32,97,116,32,116,111,100,97,121,60,49,41],[110,111,116,32,120,32,97,116,32,116,111,100,97,121,32,60,32,49]),
 ([40,110,111,116,32,116,114,117,101,41,32,60,32,49],[40,110,111,116,32,116,114,117,101,41,32,60,32,49]),
 ([97,32,97,116,32,40,116,111,100,97,121,43,49,32,100,97,121,115,41],[97,32,97,116,32,40,116,111,100,97,121,32,43,32,49,32,100,97,121,115,41])]
def te:List (List Nat × List Nat)->List Nat->List Nat->Bool
 | [],_,_=>false
 | p::r,a,b=>bif sF p.1 a&&sF p.2 b then true else te r a b
def CU(a:List O)(_:sA):Option O:=match a with
 | [.h x,.h y]=>sB (te ww x y) (some (.d true))
 | _=>none
def Wv:G (List O->sA->Option (O × sA)):=((((((G.aj.d 87 (Km 256 Sn)).d 44 (Kl 256 5)).d 137 (jN Ns)).d 238 (jN Rz)).d 143 (jN Nt)).d 262 (jN Sa))
def CQ:G (List O->sA->Option (O × sA)):=Wv.d 24 (jN CU)
def fW (f:Nat):fA:=⟨L5,ks,mr,P3,Wv,256,f⟩
def N8:fA:=⟨L5,ks,mr,P3,CQ,256,7⟩
def zkq:M4 (sX N8 16 (Ea N8 7 [] M5))=1:=by kernel_rfl
end Go.Proofs
