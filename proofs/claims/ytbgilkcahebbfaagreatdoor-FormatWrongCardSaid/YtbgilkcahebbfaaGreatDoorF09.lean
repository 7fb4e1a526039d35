/- The closed run of annuitantlaw13.awake on the abstract machine ends in true (the five expressions by runs of their own). -/
import Derived.KernelRfl
import Derived.Test.YtbgilkcahebbfaaGreatDoorF08
set_option linter.all false
noncomputable section
set_option maxRecDepth 100000
namespace Go.Proofs
open Go Go.Am
def jM:List (List UInt8):=[[],[116,114,117,116,104],[110,117,109,98,101,114],[109,111,110,101,121],[100,97,116,101],[100,97,121,115],[109,111,110,116,104,115]]
def cK:List (List UInt8):=[[],[100,111,119,110],[117,112],[102,108,111,111,114],[99,101,105,108],[104,97,108,102],[101,118,101,110]]
def zmx:List Int:=[31,28,31,30,31,30,31,31,30,31,30,31]
def zzn:List Int:=(List.range 20).map fun n=>((10^n:Nat):Int)
def z3s (l:List (List UInt8)):List zA:=l.map fun b=>zA.str (b.map UInt8.toNat)
def z1q (k:IntKind)(l:List Int):List zA:=l.map fun n=>zA.int k n
def H13:xA:=⟨256,glob 0 (z3s jM) (glob 1 (z3s cK) (glob 2 (z1q .i64 zmx) (glob 5 (z1q .u64 zzn) .leaf)))⟩
def ztm:List (List Nat × List Nat):=[([49,45,40,40,50,45,51,41,41],[49,32,45,32,40,50,32,45,32,51,41]),
 ([40,49,32,45,32,50,41,32,45,32,51],[49,32,45,32,50,32,45,32,51]),
 ([110,111,116,32,40,120,32,97,116,32,116,111,100,97,121,60,49,41],[110,111,116,32,120,32,97,116,32,116,111,100,97,121,32,60,32,49]),
 ([40,110,111,116,32,116,114,117,101,41,32,60,32,49],[40,110,111,116,32,116,114,117,101,41,32,60,32,49]),
 ([97,32,97,116,32,40,116,111,100,97,121,43,49,32,100,97,121,115,41],[97,32,97,116,32,40,116,111,100,97,121,32,43,32,49,32,100,97,121,115,41])]
def inW:List (List Nat × List Nat)->List Nat->List Nat->Bool
 | [],_,_=>false
 | p::r,a,b=>bif xG p.1 a&&xG p.2 b then true else inW r a b
def zmg(a:List zA)(_:xA):Option zA:=match a with
 | [.str x,.str y]=>jA (inW ztm x y) (some (.bool true))
 | _=>none
def zbp:Tr (List zA->xA->Option (zA × xA)):=((((((Tr.leaf.set 46 (zc3 256 pU)).set 25 (uU 256 5)).set 98 (tK zru)).set 154 (tK zvv)).set 113 (tK tU)).set 188 (tK zaq))
def zhb:Tr (List zA->xA->Option (zA × xA)):=zbp.set 15 (tK zmg)
def zqo (f:Nat):oA:=⟨fns,ks,tys,plans,zbp,256,f⟩
def C13w:oA:=⟨fns,ks,tys,plans,zhb,256,6⟩
def zy2:uE (zrj C13w 16 (vQ C13w 6 [] H13))=1:=by kernel_rfl
end Go.Proofs
