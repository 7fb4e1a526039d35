/- Closed runs of awake (chapter 14): contexts, what is run on its own. -/
import Derived.KernelRfl
import Derived.Test.YtfofhjofkodoeaaGreatDoorA07
import Derived.Test.YtfofhjofkodoeaaGreatDoorA08
set_option linter.all false
noncomputable section
set_option maxRecDepth 100000
namespace Go.Proofs
open Go Go.Am
def tO:List (List UInt8):=[[],[100,111,119,110],[117,112],[102,108,111,111,114],[99,101,105,108],[104,97,108,102],[101,118,101,110]]
def gP:List Int:=[31,28,31,30,31,30,31,31,30,31,30,31]
def dW:List Int:=(List.range 20).map fun n=>((10^n:Nat):Int)
def strA (l:List (List UInt8)):List zA:=l.map fun b=>zA.str (b.map UInt8.toNat)
def lX (k:IntKind)(l:List Int):List zA:=l.map fun n=>zA.int k n
def H24:wA:=⟨256,glob 0 (strA tO) (glob 3 (lX .i64 gP) (glob 4 (lX .u64 dW) .leaf))⟩
def finV:aE->Option zA
 | .done v _=>some v
 | _=>none
def lenR (y m:Nat):Nat:=if m=2 then(if y%400=0 then 29 else if y%4=0 then(if y%100=0 then 28 else 29)else 28)else if m=4\/m=6\/m=9\/m=11 then 30 else 31
def lenO (y m:Nat):Option zA:=pB (Nat.ble 1900 y&&(Nat.ble y 2000&&(Nat.ble 1 m&&Nat.ble m 12))) (some (.int .i64 (lenR y m:Nat)))
def zg4(a:List zA)(_:wA):Option zA:=match a with
 | [.int .i64 (.ofNat y),.int .i64 (.ofNat m)]=>lenO y m
 | _=>none
def zfo:List (List Nat × Int):=[([50,48,48,48,45,48,49,45,48,49],36524),([49,57,48,48,45,48,49,45,48,49],0)]
def Qi:List (List Nat × Int)->List Nat->Option zA
 | [],_=>none
 | p::r,s=>bif fC p.1 s then some (.tup [.int .i64 p.2,.int .i64 0])else Qi r s
def zg5(a:List zA)(_:wA):Option zA:=match a with
 | [.str s]=>Qi zfo s
 | _=>none
def sRead0:List Nat:=[102,97,99,116,32,115,32,97,116,32,116,111,100,97,121,32,42,32,50]
def gRead0:pK:=⟨.agg [.int .u8 9,.str [],.int .u8 0,.bool false,.nilslice,.bool false,.nilslice,.int .i64 0,.slice 395 0 2 2],[395,327,360,370],[([.int .u8 3,.str [115],.int .u8 0,.bool false,.nilslice,.bool false,.nilslice,.int .i64 0,.slice 327 0 1 1,.int .u8 1,.str [],.int .u8 2,.bool false,.slice 360 0 1 1,.bool false,.slice 370 0 1 1,.int .i64 0,.nilslice],none),([.int .u8 2,.str [],.int .u8 0,.bool false,.nilslice,.bool false,.nilslice,.int .i64 0,.nilslice],some (.sz 9)),([.int .u16 2],some (.sz 1)),([.int .u16 1],some (.sz 1))]⟩
def sRead1:List Nat:=[102,97,99,116,32,115,32,97,116,32,116,111,100,97,121,32,47,32,109,111,110,101,121,32,53]
def gRead1:pK:=⟨.agg [.int .u8 10,.str [],.int .u8 0,.bool false,.nilslice,.bool false,.nilslice,.int .i64 0,.slice 408 0 2 2],[408,329,373,383],[([.int .u8 3,.str [115],.int .u8 0,.bool false,.nilslice,.bool false,.nilslice,.int .i64 0,.slice 329 0 1 1,.int .u8 1,.str [],.int .u8 3,.bool false,.slice 373 0 1 1,.bool false,.slice 383 0 1 1,.int .i64 0,.nilslice],none),([.int .u8 2,.str [],.int .u8 0,.bool false,.nilslice,.bool false,.nilslice,.int .i64 0,.nilslice],some (.sz 9)),([.int .u16 5],some (.sz 1)),([.int .u16 1],some (.sz 1))]⟩
def sRead2:List Nat:=[116,111,100,97,121,32,45,32,50,48,48,48,45,48,49,45,48,49]
def gRead2:pK:=⟨.agg [.int .u8 8,.str [],.int .u8 0,.bool false,.nilslice,.bool false,.nilslice,.int .i64 0,.slice 332 0 2 2],[332],[([.int .u8 2,.str [],.int .u8 0,.bool false,.nilslice,.bool false,.nilslice,.int .i64 0,.nilslice,.int .u8 1,.str [],.int .u8 4,.bool false,.nilslice,.bool false,.nilslice,.int .i64 36524,.nilslice],none)]⟩
def sRead3:List Nat:=[97,32,97,116,32,53]
def gRead3:pK:=⟨.agg [.int .u8 5,.str [97],.int .u8 0,.bool false,.nilslice,.bool false,.nilslice,.int .i64 0,.slice 364 0 1 1],[364,331,341],[([.int .u8 1,.str [],.int .u8 2,.bool false,.slice 331 0 1 1,.bool false,.slice 341 0 1 1,.int .i64 0,.nilslice],some (.sz 9)),([.int .u16 5],some (.sz 1)),([.int .u16 1],some (.sz 1))]⟩
def sRead4:List Nat:=[116,111,100,97,121,32,43,32,116,111,100,97,121]
def gRead4:pK:=⟨.agg [.int .u8 7,.str [],.int .u8 0,.bool false,.nilslice,.bool false,.nilslice,.int .i64 0,.slice 330 0 2 2],[330],[([.int .u8 2,.str [],.int .u8 0,.bool false,.nilslice,.bool false,.nilslice,.int .i64 0,.nilslice,.int .u8 2,.str [],.int .u8 0,.bool false,.nilslice,.bool false,.nilslice,.int .i64 0,.nilslice],none)]⟩
def sRead5:List Nat:=[115,32,97,116,32,116,111,100,97,121]
def gRead5:pK:=⟨.agg [.int .u8 5,.str [115],.int .u8 0,.bool false,.nilslice,.bool false,.nilslice,.int .i64 0,.slice 323 0 1 1],[323],[([.int .u8 2,.str [],.int .u8 0,.bool false,.nilslice,.bool false,.nilslice,.int .i64 0,.nilslice],some (.sz 9))]⟩
def sRead6:List Nat:=[108,111,111,107,40,117,44,32,49,41]
def gRead6:pK:=⟨.agg [.int .u8 6,.str [117],.int .u8 0,.bool false,.nilslice,.bool false,.nilslice,.int .i64 0,.slice 385 0 1 1],[385,331,341],[([.int .u8 1,.str [],.int .u8 2,.bool false,.slice 331 0 1 1,.bool false,.slice 341 0 1 1,.int .i64 0,.nilslice],some (.sz 9)),([.int .u16 1],some (.sz 1)),([.int .u16 1],some (.sz 1))]⟩
def sRead7:List Nat:=[108,111,111,107,40,116,44,32,49,44,32,50,41]
def gRead7:pK:=⟨.agg [.int .u8 6,.str [116],.int .u8 0,.bool false,.nilslice,.bool false,.nilslice,.int .i64 0,.slice 482 0 2 2],[482,335,345,428,438],[([.int .u8 1,.str [],.int .u8 2,.bool false,.slice 335 0 1 1,.bool false,.slice 345 0 1 1,.int .i64 0,.nilslice,.int .u8 1,.str [],.int .u8 2,.bool false,.slice 428 0 1 1,.bool false,.slice 438 0 1 1,.int .i64 0,.nilslice],some (.sz 9)),([.int .u16 1],some (.sz 1)),([.int .u16 1],some (.sz 1)),([.int .u16 2],some (.sz 1)),([.int .u16 1],some (.sz 1))]⟩
def AU:List (List Nat × pK):=[(sRead0,gRead0),(sRead1,gRead1),(sRead2,gRead2),(sRead3,gRead3),(sRead4,gRead4),(sRead5,gRead5),(sRead6,gRead6),(sRead7,gRead7)]
def sPlan0:List Nat:=[112,108,97,110,32,120,10,102,97,99,116,32,115,32,109,111,110,101,121,10,100,101,102,32,97,32,110,117,109,98,101,114,10,116,97,98,108,101,32,116,32,111,110,101]
def gPlan0:pK:=⟨.agg [.str [120],.slice 330 0 2 2,.slice 348 0 1 1,.nilslice],[330,348],[([.str [115],.int .u8 3,.bool true,.str [97],.int .u8 2,.bool false],some (.sz 3)),([.str [116],.bool false,.nilslice],some (.sz 3))]⟩
def sPlan1:List Nat:=[112,108,97,110,32,120,10,100,101,102,32,97,32,110,117,109,98,101,114,10,99,108,97,117,115,101,32,97,32,108,32,102,114,111,109,32,49,57,48,48,45,48,49,45,48,49,32,116,111,32,101,110,100,32,107,110,111,119,110,32,49,57,48,48,45,48,49,45,48,49,32,119,104,101,110,32,116,114,117,101,32,116,104,101,110,32,53,10,99,108,97,117,115,101,32,97,32,109,32,102,114,111,109,32,49,57,48,48,45,48,49,45,48,49,32,116,111,32,101,110,100,32,107,110,111,119,110,32,49,57,48,48,45,48,49,45,48,49,32,119,104,101,110,32,53,32,116,104,101,110,32,53]
def gPlan1:pK:=⟨.agg [.str [120],.slice 352 0 1 1,.nilslice,.slice 740 0 2 2],[352,740,470,480,595,605,686,696],[([.str [97],.int .u8 2,.bool false],some (.sz 3)),([.str [97],.str [108],.int .i64 0,.int .i64 65536,.int .i64 0,.bool false,.int .u8 1,.str [],.int .u8 1,.bool false,.nilslice,.bool false,.nilslice,.int .i64 1,.nilslice,.int .u8 1,.str [],.int .u8 2,.bool false,.slice 470 0 1 1,.bool false,.slice 480 0 1 1,.int .i64 0,.nilslice,.str [97],.str [109],.int .i64 0,.int .i64 65536,.int .i64 0,.bool false,.int .u8 1,.str [],.int .u8 2,.bool false,.slice 595 0 1 1,.bool false,.slice 605 0 1 1,.int .i64 0,.nilslice,.int .u8 1,.str [],.int .u8 2,.bool false,.slice 686 0 1 1,.bool false,.slice 696 0 1 1,.int .i64 0,.nilslice],some (.sz 24)),([.int .u16 5],some (.sz 1)),([.int .u16 1],some (.sz 1)),([.int .u16 5],some (.sz 1)),([.int .u16 1],some (.sz 1)),([.int .u16 5],some (.sz 1)),([.int .u16 1],some (.sz 1))]⟩
def AV:List (List Nat × pK):=[(sPlan0,gPlan0),(sPlan1,gPlan1)]
def Qj:List (List Nat × pK)->List Nat->Option pK
 | [],_=>none
 | p::r,s=>bif fC p.1 s then some p.2 else Qj r s
def Of(tab:List (List Nat × pK))(a:List zA)(H:wA):Option (zA × wA):=match a with
 | [.str s]=>ob (Qj tab s) fun g=>some (Kv g H)
 | _=>none
def Fb:Tr (List zA->wA->Option (zA × wA)):=(((((Tr.leaf.set 223 (Bw 256 Jw)).set 149 (Fe 256 5)).set 243 (gM Ff)).set 256 (gM Jl)).set 219 (gM Fg)).set 264 (gM Vu)
def Vn:Tr (List zA->wA->Option (zA × wA)):=Fb.set 199 (gM zg4)
def Vo:Tr (List zA->wA->Option (zA × wA)):=Fb.set 172 (gM zg5)
def Vm:Tr (List zA->wA->Option (zA × wA)):=(Fb.set 12 (Of AU)).set 11 (Of AV)
def C24v (f:Nat):dA:=⟨fns,ks,tys,plans,Fb,256,f⟩
def C24l (f:Nat):dA:=⟨fns,ks,tys,plans,Vn,256,f⟩
def lU (f:Nat):dA:=⟨fns,ks,tys,plans,Vo,256,f⟩
def C24w:dA:=⟨fns,ks,tys,plans,Vm,256,8⟩
def LJ(p:List Nat × Int):Bool:=match finV (rP (C24l 172) 14 (cU (C24l 172) 172 [.str p.1] H24))with
 | some v=>same 9 v (.tup [.int .i64 p.2,.int .i64 0])
 | none=>false
def Wo(y m:Nat):Bool:=match finV (rP (C24v 199) 7 (cU (C24v 199) 199 [.int .i64 (.ofNat y),.int .i64 (.ofNat m)] H24))with
 | some (.int .i64 (.ofNat n))=>Nat.beq n (lenR y m)
 | _=>false
end Go.Proofs
