/- Facts on types. (Printed by a tool.) -/
import Derived.Test.YthibiocejpbmgaaGreatDoorA13
set_option linter.all false
noncomputable section
set_option maxRecDepth 100000
namespace Go.Proofs
open Go Go.Am
variable [tC]
theorem zI:yA.tys.get 3=some ⟨(.int .i64),1,8,[.int .i64 0],true⟩:=by kernel_rfl
def ty4:yA.tys.get 4=some ⟨.bool,1,1,[.bool false],true⟩:=by kernel_rfl
theorem pP:yA.tys.get 5=some ⟨(.int .u8),1,1,[.int .u8 0],true⟩:=by kernel_rfl
theorem yK:yA.tys.get 9=some ⟨.string,1,16,[.str []],true⟩:=by kernel_rfl
def ty22:yA.tys.get 22=some ⟨(.slice 65),1,24,[.nilslice],true⟩:=by kernel_rfl
def ty23:yA.tys.get 23=some ⟨(.slice 68),1,24,[.nilslice],true⟩:=by kernel_rfl
def ty24:yA.tys.get 24=some ⟨(.slice 50),1,24,[.nilslice],true⟩:=by kernel_rfl
def Cq:yA.tys.get 29=some ⟨(.slice 9),1,24,[.nilslice],true⟩:=by kernel_rfl
def Ab:yA.tys.get 30=some ⟨(.slice 45),1,24,[.nilslice],true⟩:=by kernel_rfl
def Cp:yA.tys.get 31=some ⟨(.slice 51),1,24,[.nilslice],true⟩:=by kernel_rfl
def ty33:yA.tys.get 33=some ⟨(.struct [(0,26,4),(4,29,1),(5,30,1),(6,31,1),(7,31,1)]),8,184,[.str [],.nilslice,.nilslice,.nilslice,.nilslice,.nilslice,.nilslice,.nilslice],true⟩:=by kernel_rfl
def ty39:yA.tys.get 39=some ⟨(.slice 204),1,24,[.nilslice],true⟩:=by kernel_rfl
def ty41:yA.tys.get 41=some ⟨(.struct [(0,4,1),(1,39,1)]),2,32,[.bool false,.nilslice],true⟩:=by kernel_rfl
def ty43:yA.tys.get 43=some ⟨(.struct [(0,41,2),(2,41,2)]),4,64,[.bool false,.nilslice,.bool false,.nilslice],true⟩:=by kernel_rfl
def ty45:yA.tys.get 45=some ⟨(.struct [(0,5,1),(1,43,4),(5,3,1)]),6,80,[.int .u8 0,.bool false,.nilslice,.bool false,.nilslice,.int .i64 0],true⟩:=by kernel_rfl
def ty46:yA.tys.get 46=some ⟨(.slice 48),1,24,[.nilslice],true⟩:=by kernel_rfl
def jO:yA.tys.get 48=some ⟨(.struct [(0,5,1),(1,9,1),(2,45,6),(8,46,1)]),9,128,[.int .u8 0,.str [],.int .u8 0,.bool false,.nilslice,.bool false,.nilslice,.int .i64 0,.nilslice],true⟩:=by kernel_rfl
def Co:yA.tys.get 50=some ⟨(.struct [(0,9,1),(1,9,1),(2,3,1),(3,3,1),(4,3,1),(5,4,1),(6,48,9),(15,48,9)]),24,320,[.str [],.str [],.int .i64 0,.int .i64 0,.int .i64 0,.bool false,.int .u8 0,.str [],.int .u8 0,.bool false,.nilslice,.bool false,.nilslice,.int .i64 0,.nilslice,.int .u8 0,.str [],.int .u8 0,.bool false,.nilslice,.bool false,.nilslice,.int .i64 0,.nilslice],true⟩:=by kernel_rfl
def iR:yA.tys.get 51=some ⟨(.slice 61),1,24,[.nilslice],true⟩:=by kernel_rfl
def ty61:yA.tys.get 61=some ⟨(.struct [(0,5,1),(1,3,1),(2,3,1)]),3,24,[.int .u8 0,.int .i64 0,.int .i64 0],true⟩:=by kernel_rfl
def ty65:yA.tys.get 65=some ⟨(.struct [(0,9,1),(1,5,1),(2,4,1)]),3,24,[.str [],.int .u8 0,.bool false],true⟩:=by kernel_rfl
def ty66:yA.tys.get 66=some ⟨(.slice 71),1,24,[.nilslice],true⟩:=by kernel_rfl
def ty68:yA.tys.get 68=some ⟨(.struct [(0,9,1),(1,4,1),(2,66,1)]),3,48,[.str [],.bool false,.nilslice],true⟩:=by kernel_rfl
def ty71:yA.tys.get 71=some ⟨(.struct [(0,3,1),(1,3,1),(2,3,1),(3,43,4)]),7,88,[.int .i64 0,.int .i64 0,.int .i64 0,.bool false,.nilslice,.bool false,.nilslice],true⟩:=by kernel_rfl
def ty73:yA.tys.get 73=some ⟨(.ptr 76),1,8,[.nilptr],true⟩:=by kernel_rfl
def ty74:yA.tys.get 74=some ⟨(.map 9 3),1,8,[.nilmap],true⟩:=by kernel_rfl
def ty86:yA.tys.get 86=some ⟨(.struct [(0,33,8),(8,51,1)]),9,208,[.str [],.nilslice,.nilslice,.nilslice,.nilslice,.nilslice,.nilslice,.nilslice,.nilslice],true⟩:=by kernel_rfl
def ty89:yA.tys.get 89=some ⟨(.ptr 176),1,8,[.nilptr],true⟩:=by kernel_rfl
def ty93:yA.tys.get 93=some ⟨.func,1,8,[.nilfunc],true⟩:=by kernel_rfl
def xW:yA.tys.get 123=some ⟨(.slice 3),1,24,[.nilslice],true⟩:=by kernel_rfl
theorem ty138:yA.tys.get 138=some ⟨(.struct [(0,5,1),(1,9,1),(2,4,1),(3,3,1),(4,3,1),(5,3,1),(6,3,1),(7,3,1)]),8,72,[.int .u8 0,.str [],.bool false,.int .i64 0,.int .i64 0,.int .i64 0,.int .i64 0,.int .i64 0],true⟩:=by kernel_rfl
def oP:yA.tys.get 142=some ⟨(.slice 5),1,24,[.nilslice],true⟩:=by kernel_rfl
def zgw:yA.tys.get 167=some ⟨(.arr 14 3),14,112,[.int .i64 0,.int .i64 0,.int .i64 0,.int .i64 0,.int .i64 0,.int .i64 0,.int .i64 0,.int .i64 0,.int .i64 0,.int .i64 0,.int .i64 0,.int .i64 0,.int .i64 0,.int .i64 0],true⟩:=by kernel_rfl
def ty198:yA.tys.get 198=some ⟨(.arr 27 9),27,432,[.str [],.str [],.str [],.str [],.str [],.str [],.str [],.str [],.str [],.str [],.str [],.str [],.str [],.str [],.str [],.str [],.str [],.str [],.str [],.str [],.str [],.str [],.str [],.str [],.str [],.str [],.str []],true⟩:=by kernel_rfl
def Cr:yA.tys.get 204=some ⟨(.int .u16),1,2,[.int .u16 0],true⟩:=by kernel_rfl
def ty205:yA.tys.get 205=some ⟨(.map 3 9),1,8,[.nilmap],true⟩:=by kernel_rfl
def Jt:yA.tys.get 237=some ⟨(.arr 10 5),10,10,[.int .u8 0,.int .u8 0,.int .u8 0,.int .u8 0,.int .u8 0,.int .u8 0,.int .u8 0,.int .u8 0,.int .u8 0,.int .u8 0],true⟩:=by kernel_rfl
def ty239:yA.tys.get 239=some ⟨(.arr 7 9),7,112,[.str [],.str [],.str [],.str [],.str [],.str [],.str []],true⟩:=by kernel_rfl
def Js:yA.tys.get 245=some ⟨(.int .u64),1,8,[.int .u64 0],true⟩:=by kernel_rfl
def rQ:yA.tys.get 253=some ⟨(.slice 256),1,24,[.nilslice],true⟩:=by kernel_rfl
def cH:yA.tys.get 256=some ⟨(.int .u32),1,4,[.int .u32 0],true⟩:=by kernel_rfl
def ty271:yA.tys.get 271=some ⟨(.slice 41),1,24,[.nilslice],true⟩:=by kernel_rfl
def ty298:yA.tys.get 298=some ⟨(.arr 12 3),12,96,[.int .i64 0,.int .i64 0,.int .i64 0,.int .i64 0,.int .i64 0,.int .i64 0,.int .i64 0,.int .i64 0,.int .i64 0,.int .i64 0,.int .i64 0,.int .i64 0],true⟩:=by kernel_rfl
def sl22:eD yA 22 65 3 true:=⟨⟨_,ty22,rfl⟩,⟨_,ty65,rfl,rfl⟩⟩
def Gl:eD yA 23 68 3 true:=⟨⟨_,ty23,rfl⟩,⟨_,ty68,rfl,rfl⟩⟩
def Ae:eD yA 24 50 24 true:=⟨⟨_,ty24,rfl⟩,⟨_,Co,rfl,rfl⟩⟩
def sl29:eD yA 29 9 1 false:=⟨⟨_,Cq,rfl⟩,⟨_,yK,rfl,rfl⟩⟩
def sl30:eD yA 30 45 6 true:=⟨⟨_,Ab,rfl⟩,⟨_,ty45,rfl,rfl⟩⟩
def sl31:eD yA 31 51 1 false:=⟨⟨_,Cp,rfl⟩,⟨_,iR,rfl,rfl⟩⟩
def rU:eD yA 39 204 1 false:=⟨⟨_,ty39,rfl⟩,⟨_,Cr,rfl,rfl⟩⟩
def bR:eD yA 46 48 9 true:=⟨⟨_,ty46,rfl⟩,⟨_,jO,rfl,rfl⟩⟩
def sl51:eD yA 51 61 3 true:=⟨⟨_,iR,rfl⟩,⟨_,ty61,rfl,rfl⟩⟩
def Gk:eD yA 66 71 7 true:=⟨⟨_,ty66,rfl⟩,⟨_,ty71,rfl,rfl⟩⟩
def Kh:eD yA 123 3 1 false:=⟨⟨_,xW,rfl⟩,⟨_,zI,rfl,rfl⟩⟩
def sl142:eD yA 142 5 1 false:=⟨⟨_,oP,rfl⟩,⟨_,pP,rfl,rfl⟩⟩
def xH:eD yA 253 256 1 false:=⟨⟨_,rQ,rfl⟩,⟨_,cH,rfl,rfl⟩⟩
def sl271:eD yA 271 41 2 true:=⟨⟨_,ty271,rfl⟩,⟨_,ty41,rfl,rfl⟩⟩
end Go.Proofs
namespace Go.Am
open Go Go.RowKit
def wC (l:List Nat):List D:=l.map fun(n:Nat)=>D.int .u16 (n:Int)
def aT(l:List Nat):(wC l).length=l.length:=by simp[wC]
structure eH where
 neg:Bool
 limbs:List Nat
def eH.d(w:eH):D:=.st [.bool w.neg,.sl 1 (wC w.limbs)]
structure rE where
 n:eH
 d:eH
def rE.dd(f:rE):D:=.st [f.n.d,f.d.d]
structure yB where
 kind:Nat
 f:rE
 i:Int
def yB.d(v:yB):D:=.st [.int .u8 v.kind,v.f.dd,.int .i64 v.i]
inductive vA where
 | mk (op:Nat) (name:List Nat) (v:yB) (args:List vA)
def vA.op:vA->Nat | .mk o _ _ _=>o
def vA.name:vA->List Nat | .mk _ n _ _=>n
def vA.v:vA->yB | .mk _ _ v _=>v
def vA.args:vA->List vA | .mk _ _ _ a=>a
mutual
def vA.d:vA->D
 | .mk op name v args=>.st [.int .u8 op,.str name,v.d,.sl 9 (vA.ds args)]
def vA.ds:List vA->List D
 | []=>[]
 | x::l=>x.d::vA.ds l
end
theorem vA.ds_eq(l:List vA):vA.ds l=l.map vA.d:=by
 induction l with
 | nil=>rfl
 | cons x l ih=>simp[vA.ds,ih]
structure vF where
 a:Int
 b:Int
 known:Int
 f:rE
def vF.d(r:vF):D:=.st [.int .i64 r.a,.int .i64 r.b,.int .i64 r.known,r.f.dd]
structure oE where
 name:List Nat
 two:Bool
 rows:List vF
def oE.d(x:oE):D:=.st [.str x.name,.bool x.two,.sl 7 (x.rows.map vF.d)]
structure eI where
 name:List Nat
 kind:Nat
 fact:Bool
def eI.d(x:eI):D:=.st [.str x.name,.int .u8 x.kind,.bool x.fact]
structure fC where
 name:List Nat
 label:List Nat
 from_:Int
 to:Int
 known:Int
 off:Bool
 when_:vA
 then_:vA
def fC.d(x:fC):D:=.st [.str x.name,.str x.label,.int .i64 x.from_,.int .i64 x.to,.int .i64 x.known,.bool x.off,x.when_.d,x.then_.d]
structure rG where
 name:List Nat
 defs:List eI
 tables:List oE
 clauses:List fC
def rG.d(x:rG):D:=.st [.str x.name,.sl 3 (x.defs.map eI.d),.sl 3 (x.tables.map oE.d),.sl 24 (x.clauses.map fC.d)]
section
variable {t:Tr qA}{cs:List zA}
theorem De{w:eH}(h:RD t w.d cs):∃v,cs=[.bool w.neg,v]/\sA t 1 (wC w.limbs) v:=by
 grind [eH.d,yJ,uF,bE,cL,oX]
theorem Dh{f:rE}(h:RD t f.dd cs):∃u v,cs=[.bool f.n.neg,u,.bool f.d.neg,v]/\sA t 1 (wC f.n.limbs) u/\sA t 1 (wC f.d.limbs) v:=by
 grind [rE.dd,yJ,uF,bE,De]
def Gy{v:yB}(h:RD t v.d cs):∃a b,cs=[.int .u8 v.kind,.bool v.f.n.neg,a,.bool v.f.d.neg,b,.int .i64 v.i]/\sA t 1 (wC v.f.n.limbs) a/\sA t 1 (wC v.f.d.limbs) b:=by
 unfold yB.d at h;simp only[yJ,uF,bE,yQ]at h;obtain⟨cl,rfl,c,r,rfl,rfl,c',r',rfl,h2,c'',r'',rfl,rfl,rfl⟩:=h;obtain⟨a,b,rfl,h3,h4⟩:=Dh h2;exact⟨a,b,rfl,h3,h4⟩
def iK{x:vA}(h:RD t x.d cs):∃a b c,cs=[.int .u8 x.op,.str x.name,.int .u8 x.v.kind,.bool x.v.f.n.neg,a,.bool x.v.f.d.neg,b,.int .i64 x.v.i,c] ∧
  sA t 1 (wC x.v.f.n.limbs) a/\sA t 1 (wC x.v.f.d.limbs) b/\sA t 9 (x.args.map vA.d) c:=by
 obtain⟨op,name,v,args⟩:=x;unfold vA.d at h;rw[vA.ds_eq]at h;simp only[yJ,uF,bE,yQ,gV,cL]at h;obtain⟨cl,rfl,c,r,rfl,rfl,c',r',rfl,rfl,c'',r'',rfl,hv,c3,r3,rfl,⟨w,rfl,h4⟩,rfl⟩:=h;obtain⟨a,b,rfl,h5,h6⟩:=Gy hv;exact⟨a,b,w,rfl,h5,h6,h4⟩
theorem Dg{r:vF}(h:RD t r.d cs):∃a b,cs=[.int .i64 r.a,.int .i64 r.b,.int .i64 r.known,.bool r.f.n.neg,a,.bool r.f.d.neg,b]/\sA t 1 (wC r.f.n.limbs) a/\sA t 1 (wC r.f.d.limbs) b:=by
 grind [vF.d,yJ,uF,bE,yQ,Dh]
theorem Df{x:oE}(h:RD t x.d cs):∃a,cs=[.str x.name,.bool x.two,a]/\sA t 7 (x.rows.map vF.d) a:=by
 grind [oE.d,yJ,uF,bE,gV,oX,cL]
theorem Wd{x:eI}(h:RD t x.d cs):cs=[.str x.name,.int .u8 x.kind,.bool x.fact]:=by
 grind [eI.d,yJ,uF,bE,gV,oX,yQ]
def oC(x:vA)(a b c:zA):List zA:=[.int .u8 x.op,.str x.name,.int .u8 x.v.kind,.bool x.v.f.n.neg,a,.bool x.v.f.d.neg,b,.int .i64 x.v.i,c]
def vY{x:fC}(h:RD t x.d cs):∃a b c a' b' c',cs=[.str x.name,.str x.label,.int .i64 x.from_,.int .i64 x.to,.int .i64 x.known,.bool x.off]++oC x.when_ a b c++oC x.then_ a' b' c' ∧
  RD t x.when_.d (oC x.when_ a b c)/\RD t x.then_.d (oC x.then_ a' b' c'):=by
 unfold fC.d at h;simp only[yJ,uF,bE,gV,oX,yQ]at h;obtain⟨cl,rfl,c1,r1,rfl,rfl,c2,r2,rfl,rfl,c3,r3,rfl,rfl,c4,r4,rfl,rfl,c5,r5,rfl,rfl,c6,r6,rfl,rfl,c7,r7,rfl,h7,c8,r8,rfl,h8,rfl⟩:=h;obtain⟨a,b,c,e1,_⟩:=iK h7;obtain⟨a',b',c',e2,_⟩:=iK h8;subst e1 e2;exact⟨a,b,c,a',b',c',rfl,h7,h8⟩
theorem Aj{x:rG}(h:RD t x.d cs):∃a b c,cs=[.str x.name,a,b,c]/\sA t 3 (x.defs.map eI.d) a/\sA t 3 (x.tables.map oE.d) b/\sA t 24 (x.clauses.map fC.d) c:=by
 grind [rG.d,yJ,uF,bE,gV,cL]
end
def eH.zs(x:eH):x.d.zs=[.bool false,.nilslice]:=rfl
def rE.zs(x:rE):x.dd.zs=[.bool false,.nilslice,.bool false,.nilslice]:=rfl
def yB.zs(x:yB):x.d.zs=[.int .u8 0,.bool false,.nilslice,.bool false,.nilslice,.int .i64 0]:=rfl
def vA.zs(x:vA):x.d.zs=[.int .u8 0,.str [],.int .u8 0,.bool false,.nilslice,.bool false,.nilslice,.int .i64 0,.nilslice]:=by cases x;rfl
def vF.zs(x:vF):x.d.zs=[.int .i64 0,.int .i64 0,.int .i64 0,.bool false,.nilslice,.bool false,.nilslice]:=rfl
def oE.zs(x:oE):x.d.zs=[.str [],.bool false,.nilslice]:=rfl
def eI.zs(x:eI):x.d.zs=[.str [],.int .u8 0,.bool false]:=rfl
def fC.zs(x:fC):x.d.zs=[.str [],.str [],.int .i64 0,.int .i64 0,.int .i64 0,.bool false,.int .u8 0,.str [],.int .u8 0,.bool false,.nilslice,.bool false,.nilslice,.int .i64 0,.nilslice,.int .u8 0,.str [],.int .u8 0,.bool false,.nilslice,.bool false,.nilslice,.int .i64 0,.nilslice]:=by
 obtain⟨_,_,_,_,_,_,w,v⟩:=x;cases w;cases v;rfl
def rG.zs(x:rG):x.d.zs=[.str [],.nilslice,.nilslice,.nilslice]:=rfl
def iO(f:rE):Nat:=1+f.n.limbs.length+f.d.limbs.length
mutual
/-- the size, as it is counted up to a limit -/
def vM:vA->Int->Int
 | .mk _ name v args,left=>yT args left (iO v.f+(name.length:Int) / 30)
def yT:List vA->Int->Int->Int
 | [],_,n=>n
 | x::l,left,n=>if n<=left then yT l left (n+vM x (left-n))else n
end
def sE:Nat:=1125899906842624
def rE.ok(f:rE):Prop:=f.n.limbs.length<sE/\f.d.limbs.length<sE
mutual
def vA.ok:vA->Prop
 | .mk _ name v args=>name.length<sE/\v.f.ok/\args.length<sE/\vA.oks args
def vA.oks:List vA->Prop
 | []=>True
 | x::l=>x.ok/\vA.oks l
end
end Go.Am
namespace Go.Am
open Go Go.RowKit
section
def Ki{f:rE}(h:f.ok):iO f<4503599627370496:=by
 grind [rE.ok,sE,iO]
mutual
def Pa:∀(x:vA) (left:Int),x.ok->0<=vM x left/\vM x left<=max left 0+9007199254740992
 | .mk op name v args,left,h=>by
  unfold vA.ok at h;obtain⟨h1,h2,_,h4⟩:=h;have hf:=Ki h2;unfold sE at h1;unfold vM;have:=Kj args left (iO v.f+(name.length:Int) / 30) h4 (by omega);omega
def Kj:∀(l:List vA) (left n:Int),vA.oks l->0<=n->n<=yT l left n/\yT l left n<=max n (left+9007199254740992)
 | [],left,n,_,_=>by grind [yT]
 | x::l,left,n,h,hn=>by
  unfold vA.oks at h;unfold yT;split
  ·have h1:=Pa x (left-n) h.1;have h2:=Kj l left (n+vM x (left-n)) h.2 (by omega);omega
  ·omega
end
theorem aB{a b:Int}:(jB a b=true) ↔ a<b:=Ht a b
theorem vG{a b:Int}:(eC a b=true) ↔ a<=b:=Rj a b
def Mo{α:Type}{l:List α}{i:Nat}{x:α}{r:List α}(h:l.drop i=x::r):l[i]?=some x/\l.drop (i+1)=r/\i<l.length:=by
 have h1:(l.drop i)[0]?=some x:=by grind
 rw[yde]at h1;have hi:i<l.length:=by
  grind
 refine⟨by omega,?_,hi⟩;have:=List.drop_drop (l:=l) (i:=1) (j:=i)
 simp_all
def Mn{α:Type}{l:List α}{i:Nat}(h:l.drop i=[]):l.length<=i:=by
 simp_all
def mN(l:List Nat):(Int.ofNat (wB l))=(l.length:Int):=by rw[oD];rfl
def Fv(cs:List zA):Ny true cs=.agg cs:=rfl
end
section
variable {T cap el i j n ty x:Nat}{y:lD}
def zC(k:IntKind)(l:List Nat):List D:=l.map fun(n:Nat)=>D.int k (n:Int)
theorem kG{k:IntKind}(l:List Nat):(zC k l).length=l.length:=by simp[zC]
def za2{k:IntKind}{l:List Nat} (h:l[i]?=some x):(zC k l)[i]?=some (.int k (x:Int)):=by simp[zC,h]
theorem LU{k:IntKind}{l:List Nat}  : (zC k l).take n=zC k (l.take n):=by simp[zC]
def eF (t:Tr qA)(b:Nat)(k:IntKind)(l:List Nat):Prop:=∃c,t.get b=some (.cells c l.length none)/\∀(j:Nat) x,l[j]?=some x->c.get j=some (.int k (x:Int))
def aC (b:Nat)(t t':Tr qA):Prop:=∀c,c≠b->t'.get c=t.get c
theorem aC.refl(b:Nat)(t:Tr qA):aC b t t:=fun _ _=>rfl
def aC.trans{b:Nat}{x y z:Tr qA}(h:aC b x y)(k:aC b y z):aC b x z:=fun c hc=>(k c hc).trans (h c hc)
section
variable {t t' t0:Tr qA}{C:fA}{b:Nat}{k:IntKind}{l:List Nat}
theorem eF.off(h:eF t b k l){c:Nat}(hc:b≠c)(ho:aC c t t'):eF t' b k l:=by
 obtain⟨x,h1,h2⟩:=h;exact⟨x,by rw[ho b hc];exact h1,h2⟩
def eF.tle(h:eF t b k l)(ho:iA t t'):eF t' b k l:=by
 obtain⟨x,h1,h2⟩:=h;exact⟨x,ho _ _ h1,h2⟩
theorem iA.off(h:iA t0 t)(hb:t0.get b=none)(ho:aC b t t'):iA t0 t':=by
 intro c y hc;rw[ho c (by grind)];exact h c y hc
theorem eF.slice(h:eF t b k l){off:Nat}(hn:off+n<=l.length)(hc:n<=cap):sA t 1 (zC k ((l.drop off).take n)) (.slice b off n cap):=by
 obtain⟨c,h1,h2⟩:=h;refine⟨((l.drop off).take n).map fun(x:Nat)=>[.int k (x:Int)],.inr ⟨b,off,cap,?_,?_,⟨c,_,none,h1,.inl rfl⟩,fun i cs hi=>?_⟩,?_⟩
 ·grind
 ·grind
 ·simp only[ybu,yar]at hi;obtain⟨x,hx,rfl⟩:=hi;refine⟨rfl,c,_,none,h1,fun j a hj=>?_⟩
  grind
 ·refine qC.mk (by simp[zC]) fun i d cs hd hc=>?_;simp only[zC,ybu,yar]at hd hc;obtain⟨x,hx,rfl⟩:=hd
  simp_all
theorem eF.all(h:eF t b k l) (hc:l.length<=cap):sA t 1 (zC k l) (.slice b 0 l.length cap):=by
 have:=h.slice (off:=0) (n:=l.length) (by omega) hc
 simp_all
def rP{sz:Nat}{agg:Bool}(h:eD C T el sz agg){off:Nat}(hi:i<n):aA C T (.slice b off n cap) (.int .i64 (i:Int))=some (.ptr b (off+i*sz)):=by
 obtain⟨⟨y,hy1,hy2⟩,⟨z,hz1,hz2,hz3⟩⟩:=h;unfold aA;rw[hy1,uA];have:(zA.int .i64 (i:Int)).asNat=some i:=rfl;rw[this,uA];simp only[zA.asSlice];rw[hy2,uA,hz1,uA,sC.2 hi,hz2];rfl
theorem eF.load(h:eF t b k l) (hj:l[j]?=some x)  (hy:C.tys.get ty=some y)(ha:y.desc.isAgg=false):mA C ty ⟨0,t⟩ (.ptr b j)=some (.int k (x:Int)):=by
 obtain⟨c,h1,h2⟩:=h
 simp_all [mA,zA.asPtr,rD,qA.asCells,qS]
theorem eF.store(h:eF t b k l)(hb:C.base<=b) (hj:j<l.length)(x:Nat)  (hy:C.tys.get ty=some y)(hs:y.size=1) :
  ∃t',(∀n,cC C ty (.ptr b j) (.int k (x:Int)) ⟨n,t⟩=some (kD,⟨n,t'⟩))/\eF t' b k (l.set j x)/\aC b t t':=by
 obtain⟨c,h1,h2⟩:=h;refine⟨t.set b (.cells (c.setMany [.int k (x:Int)] j) l.length none),fun n=>?_,⟨c.setMany [.int k (x:Int)] j,?_,fun i y hi=>?_⟩,fun d hd=>?_⟩
 ·unfold cC;rw[hy,uA];simp only[zA.asPtr,uA,zA.cells,zA.asAgg];rw[hs];have e1:Nat.beq (wB [zA.int k (x:Int)]) 1=true:=rfl;rw[e1,mD];unfold lJ rD;have e2:(!Nat.blt b C.base)=true:=by
   grind [sC]
  rw[e2,mD,h1,uA];simp only[qA.asCells,uA];have e3:Nat.ble (j+wB [zA.int k (x:Int)]) l.length=true:=pE.2 hj;have e4:zD zA.one [zA.int k (x:Int)]=true:=rfl;rw[e3,e4];rfl
 all_goals grind [Tr.get_set,Tr.get_setMany]
theorem Dx {z:lD}(hT:C.tys.get T=some y)(hel:y.desc.asSlice=some el)(hz:C.tys.get el=some z)(hzero:z.zero=[.int k 0])(hs:z.size=1)(hby:z.bytes<=8) (hn:n<1000000)(hb:t.get b=none) :
  ∃t',mO C T (.int .i64 (n:Int)) (.int .i64 (n:Int)) ⟨b,t⟩=some (.slice b 0 n n,⟨b+1,t'⟩)/\eF t' b k (List.replicate n 0)/\iA t t'/\aC b t t':=by
 have hrep:∀n,uM [zA.int k 0] n=List.replicate n (.int k 0):=by
  intro n;induction n with
  | zero=>rfl
  | succ n ih=>grind [uM,fH]
 refine⟨t.set b (.cells (Tr.ofList (uM z.zero n)) (wB (uM z.zero n)) none),?_,⟨Tr.ofList (uM z.zero n),?_,fun j x hj=>?_⟩,fun c y' hc=>?_,fun c hc=>?_⟩
 ·unfold mO;rw[hT,uA,hel,uA,hz,uA];have e1:(zA.int .i64 (n:Int)).asNat=some n:=rfl;rw[e1,uA,uA];have e2:(Nat.ble n n&&Nat.blt n 1000000&&Nat.blt (n*z.bytes) 1000000000&&Nat.beq (wB z.zero) z.size)=true:=by
   rw[hzero,hs,show Nat.ble n n=true from pE.2 (ybk n),sC.2 hn];have:n*z.bytes<1000000000:=by
    have:=ydb (Nat.le_of_lt hn) hby
    omega
   rw[sC.2 this];rfl
  rw[e2,mD];rfl
 all_goals grind [Tr.get_set,oD,Tr.get_ofList]
end
end
end Go.Am
namespace Go.Am
variable {B:Nat}{l m:List Nat}
def val (B:Nat):List Nat->Nat
 | []=>0
 | a::l=>a+B*val B l
def mB(B:Nat)(l:List Nat):Prop:=∀x∈l,x<B
def norm (l:List Nat):Prop:=∀h:l≠[],l.getLast h≠0
theorem Fu(B:Nat):∀(l m:List Nat),val B (l++m)=val B l+B^l.length*val B m
 | [],m=>by simp[val]
 | a::l,m=>by
  simp only[List.cons_append,val,Fu B l m,ybn,yag];grind
theorem nO{B:Nat}(hB:0<B):∀ {l:List Nat},mB B l->val B l<B^l.length
 | [],_=>by simp[val]
 | a::l,h=>by
  have h1:=h a (yby);have h2:=nO hB (l:=l) fun x hx=>h x (ybr _ hx);simp only[val,ybn,yag];have h3:B*(val B l+1)<=B*B^l.length:=ybv B h2
  grind
theorem Cj(B:Nat)(l:List Nat)(n:Nat):val B l=val B (l.take n)+B^(l.take n).length*val B (l.drop n):=by
 rw[<- Fu,List.take_append_drop]
theorem Bl  (h:mB B l)(n:Nat):mB B (l.take n):=fun x hx=>h x (List.mem_of_mem_take hx)
def OL  (h:mB B l)(n:Nat):mB B (l.drop n):=fun x hx=>h x (List.mem_of_mem_drop hx)
def OM  (h:mB B l)(k:mB B m):mB B (l++m):=fun x hx=>(yaf.1 hx).elim (h x) (k x)
def wG:List Nat->List Nat
 | []=>[]
 | a::l=>if wG l=[]/\a=0 then []else a::wG l
theorem iX(B:Nat):∀l:List Nat,val B (wG l)=val B l
 | []=>rfl
 | a::l=>by
  unfold wG;have ih:=iX B l
  grind [val]
theorem pY:∀l:List Nat,norm (wG l)
 | []=>fun h=>(h rfl).elim
 | a::l=>by
  have ih:=pY l;unfold wG;split
  ·simp_all
  ·rename_i h;intro hne;by_cases hs:wG l=[]
   ·simp_all
   ·rw[List.getLast_cons hs];exact ih hs
theorem iZ{B:Nat}:∀ {l:List Nat},mB B l->mB B (wG l)
 | [],h=>h
 | a::l,h=>by
  have ih:=iZ (l:=l) fun x hx=>h x (ybr _ hx);unfold wG;split
  ·simp_all
  ·exact fun x hx=>(ybs.1 hx).elim (fun e=>e ▸ h a yby) (ih x)
theorem Vc:∀l:List Nat,(wG l).length<=l.length
 | []=>ybk _
 | a::l=>by unfold wG;have:=Vc l;split<;>simp<;>omega
theorem Uz:∀l:List Nat,wG (l++[0])=wG l
 | []=>by simp[wG]
 | a::l=>by
  show(if wG (l++[0])=[]/\a=0 then []else a::wG (l++[0]))=_;rw[Uz l];rfl
def Kb:∀ {l:List Nat},norm l->wG l=l
 | [],_=>rfl
 | a::l,h=>by
  have hl:norm l:=by
   intro hne;have:=h (by simp)
   grind
  unfold wG;rw[Kb hl];split
  ·rename_i e;have:=h (by simp)
   simp_all
  ·rfl
def Qk (hB:0<B) (h:norm l)(h0:val B l=0):l=[]:=by
 have key:∀l:List Nat,val B l=0->∀x∈l,x=0:=by
  intro l;induction l with
  | nil=>simp_all
  | cons a l ih=>
   grind [val,Nat.mul_eq_zero]
 rcases List.eq_nil_or_concat l with e | ⟨m,a,e⟩
 ·exact e
 ·exfalso;subst e;have:=h (by simp);simp at this;exact this (key _ h0 a (by simp))
def Tk  (h:norm l)(hne:l≠[]):B^(l.length-1)<=val B l:=by
 rcases List.eq_nil_or_concat l with e | ⟨m,a,e⟩
 ·simp_all
 ·rw[List.concat_eq_append]at e;subst e;have:=h (by simp);simp at this;rw[Fu];simp only[ybg,ybn,ybx,val];have:1<=a+B*0:=by omega
  calc B^(m.length+1-1)=B^m.length*1:=by simp
   _<=B^m.length*(a+B*0):=ybv _ this
   _<=_:=Nat.le_add_left _ _
def AQ{B:Nat}(hB:0<B):∀ {l m:List Nat},mB B l->mB B m->l.length=m.length->val B l=val B m->l=m
 | [],[],_,_,_,_=>rfl
 | a::l,b::m,h1,h2,hl,hv=>by
  have ha:=h1 a yby
  have hb:=h2 b yby
  simp only[val]at hv;have e1:a=b:=by
   grind [Nat.add_mul_mod_self_left,Nat.mod_eq_of_lt]
  subst e1;have e2:val B l=val B m:=by
   grind [Nat.eq_of_mul_eq_mul_left]
  rw[AQ hB (fun x hx=>h1 x (ybr _ hx)) (fun x hx=>h2 x (ybr _ hx)) (by simp_all) e2]
 | [],_::_,_,_,h,_=>by simp at h
 | _::_,[],_,_,h,_=>by simp at h
def kU (hB:1<B) (h1:mB B l)(h3:norm m)(hv:val B m<=val B l):m.length<=l.length:=by
 by_cases hm:m=[]
 ·simp[hm]
 ·have a:=Tk (B:=B) h3 hm;have b:=nO (by omega) h1;have:B^(m.length-1)<B^l.length:=by omega
  grind [Nat.pow_lt_pow_iff_right]
def zcx (hB:1<B) (h1:mB B l)(h2:mB B m)(h3:norm l)(h4:norm m)(hv:val B l=val B m):l=m:=by
 have a:=kU hB h1 h4 (by omega);have b:=kU hB h2 h3 (by omega);exact AQ (by omega) h1 h2 (by omega) hv
def aM (a b:List Nat):Int:=if a.length≠b.length then(if a.length<b.length then -1 else 1)else go a b
where go:List Nat->List Nat->Int
 | a::l,b::m=>if go l m≠0 then go l m else if a<b then -1 else if b<a then 1 else 0
 | _,_=>0
theorem MO{B:Nat}:∀ {a b:List Nat},mB B a->mB B b->a.length=b.length->(aM.go a b<0 ↔ val B a<val B b)/\(aM.go a b=0 ↔ val B a=val B b)
 | [],[],_,_,_=>by simp[aM.go,val]
 | a::l,b::m,h1,h2,hl=>by
  have ha:=h1 a yby
  have hb:=h2 b yby
  obtain⟨i1,i2⟩:=MO (a:=l) (b:=m) (fun x hx=>h1 x (ybr _ hx)) (fun x hx=>h2 x (ybr _ hx)) (by simp_all);have lt_of:∀ {x y:Nat},x<y->∀u v,u<B->u+B*x<v+B*y:=by
   intro x y h u v hu;have:B*(x+1)<=B*y:=ybv B h
   grind
  unfold aM.go;simp only[val];by_cases h0:aM.go l m=0
  ·grind
  ·rw[yab h0];constructor
   ·rw[i1];constructor
    ·simp_all
    grind [Nat.lt_trichotomy]
   ·constructor
    ·omega
    ·intro h;rcases Nat.lt_trichotomy (val B l) (val B m)with g | g | g
     ·have:=lt_of g a b ha;omega
     ·omega
     ·have:=lt_of g b a hb;omega
 | [],_::_,_,_,h=>by simp at h
 | _::_,[],_,_,h=>by simp at h
def MN (hB:1<B){a b:List Nat}(h1:mB B a)(h2:mB B b)(h3:norm a)(h4:norm b):aM a b<0 ↔ val B a<val B b:=by
 unfold aM;by_cases hl:a.length=b.length
 ·grind [MO]
 ·rw[yab hl];by_cases hlt:a.length<b.length
  ·rw[yab hlt];refine⟨fun _=>?_,fun _=>by omega⟩;rcases yau (val B a) (val B b)with g | g
   ·exact g
   ·have:=kU hB h1 h4 g;omega
  ·rw[yaa hlt];refine⟨fun h=>by omega,fun h=>?_⟩;have:=kU hB h2 h3 (by omega);omega
end Go.Am
namespace Go.Am
open Go Go.RowKit
variable {a b n:Int}{k:IntKind}{i x y:Nat}{l:List Nat}
theorem nG (h1:0<=n)(h2:n<18446744073709551616):dA .u64 n=n:=by
 grind [sN,IntKind.wrap,IntKind.bits,IntKind.signed]
theorem aZ (h1:0<=n)(h2:n<4294967296):dA .u32 n=n:=by
 grind [sN,IntKind.wrap,IntKind.bits,IntKind.signed]
def zbq (h1:0<=n)(h2:n<65536):dA .u16 n=n:=by
 grind [sN,IntKind.wrap,IntKind.bits,IntKind.signed]
theorem Nq (h1:0<=n)(h2:n<256):dA .u8 n=n:=by
 grind [sN,IntKind.wrap,IntKind.bits,IntKind.signed]
theorem Nn(n:Int):dA .u64 n=n%18446744073709551616:=by
 grind [sN,IntKind.wrap,IntKind.bits,IntKind.signed]
theorem tU(n:Int):dA .u32 n=n%4294967296:=by
 grind [sN,IntKind.wrap,IntKind.bits,IntKind.signed]
def OY(n:Int):dA .u16 n=n%65536:=by
 grind [sN,IntKind.wrap,IntKind.bits,IntKind.signed]
def JQ   : iAnd k (x:Int) (y:Int)=qJ Nat.land k (x:Int) (y:Int):=rfl
theorem tV{f:Nat->Nat->Nat}  (h1:x<nH k)(h2:y<nH k):qJ f k (x:Int) (y:Int)=some (.int k (f x y:Nat)):=by
 unfold qJ;have e1:sM (x:Int)=some x:=rfl;have e2:sM (y:Int)=some y:=rfl;rw[e1,uA,e2,uA,sC.2 h1,sC.2 h2];rfl
def Yj  (h0:0<y)(hw:dA k ((x / y:Nat):Int)=((x / y:Nat):Int)):zZ k (x:Int) (y:Int)=some (.int k ((x / y:Nat):Int)):=by
 unfold zZ;have:cA (y:Int) 0=false:=by
  grind [fW]
 rw[this,cond_false,Int.tdiv_eq_ediv_of_nonneg (by omega)];rw[<- Int.natCast_ediv,hw]
def Ri  (h0:0<y):aY k (x:Int) (y:Int)=some (.int k ((x%y:Nat):Int)):=by
 unfold aY;have:cA (y:Int) 0=false:=by
  grind [fW]
 rw[this,cond_false,Int.tmod_eq_emod_of_nonneg (by omega),<- Int.natCast_emod]
theorem qE  : (cA a b=true) ↔ a=b:=fW a b
theorem zL  : ((!cA a b)=true) ↔ a≠b:=by rw[ycp,<- Bool.not_eq_true,qE]
def Qi{b:Bool}:((!b)=true) ↔ b=false:=by simp
theorem Gn{a b n:Nat}(h:b<2^n):Nat.lor (a*2^n) b=a*2^n+b:=by
 show a*2^n ||| b=_;rw[<- Nat.shiftLeft_eq,<- Nat.shiftLeft_add_eq_or_of_lt h,Nat.shiftLeft_eq]
def or_low{a b n:Nat}(h:b<2^n)(ha:a%2^n=0):Nat.lor a b=a+b:=by
 obtain⟨c,hc⟩:=Nat.dvd_of_mod_eq_zero ha
 grind [Nat.mul_comm,Gn]
def sA.idx{t:Tr qA}{C:fA}{T el:Nat}(h:eD C T el 1 false)  {v:zA}(hr:sA t 1 (zC k l) v) (hi:l[i]?=some x) :
  ∃b off,aA C T v (.int .i64 (i:Int))=some (.ptr b off)/\mA C el ⟨0,t⟩ (.ptr b off)=some (.int k (x:Int)):=by
 obtain⟨b,off,cs,h1,h2,_,_,h5⟩:=eD.at h (fun _=>rfl) hr (za2 hi);rw[yQ]at h5;subst h5;exact⟨b,off,h1,h2⟩
def qZ(x:Nat)(n:Nat):Int.fdiv (x:Int) (n:Int)=((x / n:Nat):Int):=by
 grind
def getElem?_of_lt  (h:i<l.length):∃x,l[i]?=some x:=⟨l[i],ybd h⟩
def qK{B:Nat} (h:mB B l) (hi:l[i]?=some x):x<B:=h x (ycv hi)
def Qs (h:l≠[]):∃m x,l=m++[x]:=by
 rcases List.eq_nil_or_concat l with e | ⟨m,a,e⟩
 all_goals simp_all
end Go.Am
namespace Go.Proofs
open Go Go.Am
variable {a b l:List Nat}{u v:zA}{neg:Bool}
variable [tC]
variable {t:Tr qA}
theorem QM:∀(n:Nat) (l:List Nat) (v:zA),l.length=n->n<1125899906842624->sA t 1 (zC .u32 l) v->∃v',jp 224 2 [v] t (fun u m=>u=v'/\m=t)/\sA t 1 (zC .u32 (wG l)) v':=by
 intro n;induction n with
 | zero=>
  intro l v hl _ hv;have:l=[]:=ycc.1 hl;subst this;refine⟨v,Xv ?_,hv⟩;simp only[uI,uL,uZ,uW,Oo,tA,hv.len,xA,zB,kG,aB];simp_all
 | succ n ih=>
  intro l v hl hn hv;obtain⟨m,x,rfl⟩:=Qs (l:=l) (by grind);have hm:m.length=n:=by simp_all
  have hx:(m++[x])[m.length]?=some x:=by simp
  obtain⟨b,off,g1,g2⟩:=hv.idx xH hx;obtain⟨u,g3,g4⟩:=eD.front xH hv (k:=m.length) (by simp[zC]);rw[LU]at g4;simp only[List.take_left']at g4;have e1:(((m++[x]).length:Nat):Int)-1=(m.length:Int):=by simp
  by_cases hx0:x=0
  ·subst hx0;obtain⟨w,h1,h2⟩:=ih m u hm (by omega) g4;refine⟨w,Xv ?_,by grind [Uz]⟩;simp (disch:=omega) only[uI,uL,uZ,uW,Oo,tA,hv.len,xA,zB,kG,aB,qE,wrap_i64,e1,g1,g2,g3]
   simp_all
  ·refine⟨v,Xv ?_,?_⟩
   ·simp (disch:=omega) only[uI,uL,uZ,uW,Oo,tA,hv.len,xA,zB,kG,aB,qE,wrap_i64,e1,g1,g2,g3]
    simp_all
   ·rw[Kb]
    ·exact hv
    ·intro _;simp_all
def Ct  (hl:l.length<1125899906842624)(hv:sA t 1 (zC .u32 l) v):∃v',iB yA F 224 [v] t=some v'/\sA t 1 (zC .u32 (wG l)) v':=by
 obtain⟨v',h1,h2⟩:=QM _ l v rfl hl hv;exact⟨v',pC.2 (w224 h1),h2⟩
theorem zd9  (hu:sA t 1 (zC .u32 a) u)(hv:sA t 1 (zC .u32 b) v)(hl:a.length=b.length):∀(n:Nat),n<=a.length->n<1125899906842624->jp 225 2 [u,v,.int .i64 ((n:Int)-1)] t (fun w m=>w=.int .i64 (aM.go (a.take n) (b.take n))/\m=t):=by
 intro n;induction n with
 | zero=>
  intro _ _;refine zfu ?_;simp only[uL,uZ,uW,Uk,tA,vG];grind [aM.go]
 | succ n ih=>
  intro hn hn2;obtain⟨x,hx⟩:=getElem?_of_lt (l:=a) (i:=n) (by omega);obtain⟨y,hy⟩:=getElem?_of_lt (l:=b) (i:=n) (by omega);obtain⟨c,off,g1,g2⟩:=hu.idx xH hx;obtain⟨d,off',g3,g4⟩:=hv.idx xH hy;have e1:(((n+1:Nat):Int)-1)=(n:Int):=by omega
  have key:∀(a b:List Nat) (x y:Nat),a.length=b.length->aM.go (a++[x]) (b++[y])=if x<y then -1 else if y<x then 1 else aM.go a b:=by
   intro a;induction a with
   | nil=>
    grind [aM.go]
   | cons p a ih=>
    intro b x y h
    cases b with
    | nil=>simp at h
    | cons q b=>
     grind [aM.go]
  have e2:aM.go (a.take (n+1)) (b.take (n+1))=if x<y then -1 else if y<x then 1 else aM.go (a.take n) (b.take n):=by
   grind [List.take_add_one]
  rw[e1,e2];refine zfu ?_;simp (disch:=omega) only[uL,uZ,uW,Uk,tA,xA,zB,aB,vG,zL,g1,g2,g3,g4,wrap_i64]
  grind
theorem zgf  (ha:a.length<1125899906842624)(hu:sA t 1 (zC .u32 a) u)(hv:sA t 1 (zC .u32 b) v):iB yA F 225 [u,v] t=some (.int .i64 (aM a b)):=by
 refine pC.2 (w225 ?_);simp (disch:=omega) only[uI,uZ,uW,t225,tA,hu.len,hv.len,xA,zB,kG,aB,zL,wrap_i64];unfold aM;by_cases hl:a.length=b.length
 ·rw[yaa (by omega),yaa (by omega)];have:=zd9 hu hv hl a.length (ybk _) ha
  grind
 grind
def iM(neg:Bool)(l:List Nat):Bool:=if l=[]then !neg else decide (l.length<=1024)&&decide (l.getLast?≠some 0)
theorem Nv   (hl:l.length<1125899906842624)(hv:sA t 1 (zC .u16 l) v):iB yA F 135 [.agg [.bool neg,v]] t=some (.bool (iM neg l)):=by
 refine pC.2 (w135 ?_);unfold iM;by_cases h0:l=[]
 ·subst h0;simp only[uI,uH,bA,uZ,uW,t135,tA,hv.len,xA,zB,kG,qE];simp
 ·obtain⟨m,x,rfl⟩:=Qs h0;have hx:(m++[x])[m.length]?=some x:=by simp
  obtain⟨b,off,g1,g2⟩:=hv.idx rU hx;have e1:(((m++[x]).length:Nat):Int)-1=(m.length:Int):=by simp
  have hlm:m.length<1125899906842624:=by omega
  simp (disch:=omega) only[uI,uH,bA,uZ,uW,t135,tA,hv.len,xA,zB,kG,qE,vG,wrap_i64,e1,g1,g2];rw[yaa (by omega),yaa h0];by_cases h1:(m++[x]).length<=1024
  ·rw[yab (by omega)];simp only[h1,decide_true,ycn];by_cases hx0:x=0
   ·grind [xZ]
   ·have:cA (x:Int) 0=false:=by
     grind [fW]
    simp_all
  grind
theorem Yd   (hv:sA t 1 (zC .u16 l) v):iB yA F 137 [.agg [.bool neg,v]] t=some (.bool (!neg&&decide (l=[1]))):=by
 refine pC.2 (w137 ?_)
 cases neg with
 | true=>simp[uI,uH,bA,uZ,t137,tA]
 | false=>
  simp only[uI,uH,bA,uZ,t137,tA,hv.len,xA,zB,kG,qE];rw[yab (by rfl)];by_cases h1:l.length=1
  ·obtain⟨x,rfl⟩:∃x,l=[x]:=by
    cases l with
    | nil=>simp at h1
    | cons x r=>simp_all
   obtain⟨b,off,g1,g2⟩:=hv.idx rU (i:=0) (x:=x) (by simp);simp only[Int.natCast_zero]at g1;rw[yab (by simp)];simp only[g1,g2,xA,zB];by_cases hx:x=1
   ·grind [xZ]
   ·have:cA (x:Int) 1=false:=by
     grind [fW]
    simp_all
  ·rw[yaa (by omega)];have:l≠[1]:=by grind
   grind
end Go.Proofs
namespace Go.Am
def bG:List Nat->List Nat
 | []=>[]
 | [a]=>[a]
 | a::b::l=>(a+65536*b)::bG l
theorem uT:∀l:List Nat,(bG l).length=(l.length+1) / 2
 | []=>rfl
 | [a]=>by simp[bG]
 | a::b::l=>by simp[bG,uT l];omega
theorem Tj:∀l:List Nat,val 4294967296 (bG l)=val 65536 l
 | []=>rfl
 | [a]=>by simp[bG,val]
 | a::b::l=>by simp only[bG,val,Tj l];omega
def Mw:∀ {l:List Nat},mB 65536 l->mB 4294967296 (bG l)
 | [],_=>fun x hx=>(by cases hx)
 | [a],h=>fun x hx=>by
  have:=h a (by simp)
  grind [bG]
 | a::b::l,h=>fun x hx=>by
  have h1:=h a (by simp);have h2:=h b (by simp);rcases ybs.1 hx with rfl | hx
  ·omega
  ·exact Mw (l:=l) (fun y hy=>h y (by simp[hy])) x hx
def Qj:∀ {l:List Nat},norm l->norm (bG l)
 | [],_=>fun h=>(h rfl).elim
 | [a],h=>by
  grind [bG]
 | [a,b],h=>by
  intro _;have:=h (by simp)
  grind [bG]
 | a::b::c::l,h=>by
  intro _;have hn:norm (c::l):=by
   intro hne;have:=h (by simp)
   simp_all
  have hne:bG (c::l)≠[]:=by
   grind [uT]
  have:=Qj (l:=c::l) hn hne
  grind [bG]
def Wo:∀(l:List Nat) (x:Nat),l.length%2=0->bG (l++[x])=bG l++[x]
 | [],x,_=>rfl
 | [a],x,h=>by simp at h
 | a::b::l,x,h=>by
  show(a+65536*b)::bG (l++[x])=(a+65536*b)::(bG l++[x]);rw[Wo l x (by grind)]
theorem FO:∀(l:List Nat) (a x:Nat),l.length%2=0->bG (l++[a,x])=bG l++[a+65536*x]
 | [],a,x,_=>rfl
 | [b],a,x,h=>by simp at h
 | c::b::l,a,x,h=>by
  show(c+65536*b)::bG (l++[a,x])=(c+65536*b)::(bG l++[a+65536*x]);rw[FO l a x (by grind)]
def jI:List Nat->List Nat
 | []=>[]
 | w::l=>w%65536::w / 65536::jI l
theorem Ob:∀l:List Nat,(jI l).length=2*l.length
 | []=>rfl
 | w::l=>by simp[jI,Ob l];omega
def AP:∀l:List Nat,val 65536 (jI l)=val 4294967296 l
 | []=>rfl
 | w::l=>by
  simp only[jI,val,AP l];omega
def OI:∀ {l:List Nat},mB 4294967296 l->mB 65536 (jI l)
 | [],_=>fun x hx=>(by cases hx)
 | w::l,h=>fun x hx=>by
  have h1:=h w (by simp);rcases ybs.1 hx with rfl | hx
  ·omega
  ·rcases ybs.1 hx with rfl | hx
   ·omega
   ·exact OI (l:=l) (fun y hy=>h y (by simp[hy])) x hx
theorem Jn:∀(l:List Nat) (w:Nat),jI (l++[w])=jI l++[w%65536,w / 65536]
 | [],w=>rfl
 | a::l,w=>by simp[jI,Jn l w]
theorem CF{l:List Nat}{w:Nat}(hw:w≠0):wG (jI (l++[w]))=if w / 65536=0 then jI l++[w%65536]else jI (l++[w]):=by
 rw[Jn];split
 ·rename_i h;rw[h,show jI l++[w%65536,0]=(jI l++[w%65536])++[0] by simp,Uz];refine Kb fun _=>?_
  grind
 ·rename_i h;refine Kb fun _=>?_
  grind
end Go.Am
namespace Go.Proofs
open Go Go.Am
variable {l:List Nat}{v:zA}{Q:xC}
variable [tC]
variable {t:Tr qA}
theorem set_append_right{m:List Nat}{i x:Nat}(h:l.length=i):(l++m).set i x=l++m.set 0 x:=by
 simp_all
theorem UG  {b:Nat} (hv:sA t 1 (zC .u16 l) v)(hl:l.length<1000000)(hlt:mB 65536 l)(hbase:yA.base<=b)(hb:t.get b=none)
  (hQ:∀t' v',iA t t'->sA t' 1 (zC .u32 (bG l)) v'->Q v' t'):∀(k i:Nat) (t':Tr qA),i+k=l.length->iA t t'->eF t' b .u32 (bG (l.take i)++List.replicate ((l.length+1) / 2-(i+1) / 2) 0) →
  jp 200 2 [.slice b 0 ((l.length+1) / 2) ((l.length+1) / 2),v,.int .i64 l.length,.int .i64 i] t' Q:=by
 intro k;induction k with
 | zero=>
  intro i t' hi ht ho;refine zfw ?_;simp only[uL,uH,kB,uZ,uW,Um,tA,aB];rw[yaa (by omega)];rw[yca (by omega),show(l.length+1) / 2-(i+1) / 2=0 by omega,List.replicate_zero,ycd]at ho;refine hQ _ _ ht ?_;have:=ho.all (ybk _)
  grind [uT]
 | succ k ih=>
  intro i t' hi ht ho;obtain⟨x,hx⟩:=getElem?_of_lt (l:=l) (i:=i) (by omega);have hxlt:x<65536:=qK hlt hx;obtain⟨c,off,g1,g2⟩:=(hv.mono ht).idx rU hx;have htake:l.take (i+1)=l.take i++[x]:=by grind [List.take_add_one]
  have hlen:(l.take i).length=i:=by grind
  obtain⟨y,hy,hnew⟩:∃y,(bG (l.take i)++List.replicate ((l.length+1) / 2-(i+1) / 2) 0)[i / 2]?=some y/\y<4294967296/\Nat.lor y (x*2^(16*(i%2)))<4294967296 ∧
    (bG (l.take i)++List.replicate ((l.length+1) / 2-(i+1) / 2) 0).set (i / 2) (Nat.lor y (x*2^(16*(i%2))))=bG (l.take (i+1))++List.replicate ((l.length+1) / 2-(i+1+1) / 2) 0:=by
   rcases Nat.mod_two_eq_zero_or_one i with he | ho1
   ·have hp:(bG (l.take i)).length=i / 2:=by grind [uT]
    refine⟨0,?_,by decide,?_,?_⟩
    ·rw[ybp (by omega),hp,Nat.sub_self,List.getElem?_replicate,yab (by omega)]
    ·rw[he];simp;omega
    ·rw[set_append_right hp,he,htake,Wo _ _ (by omega)];have:Nat.lor 0 (x*2^(16*0))=x:=by simp_all
     rw[this];obtain⟨r,hr⟩:∃r,(l.length+1) / 2-(i+1) / 2=r+1:=⟨(l.length+1) / 2-(i+1) / 2-1,by omega⟩;rw[hr,List.replicate_succ,List.set_cons_zero,show(l.length+1) / 2-(i+1+1) / 2=r by omega];simp
   ·obtain⟨p,a,hpa⟩:=Qs (l:=l.take i) (by grind);have hpl:p.length=i-1:=by grind
    have hpe:p.length%2=0:=by omega
    have ha:a<65536:=hlt a (List.mem_of_mem_take (by simp_all:a∈l.take i));have hp:(bG p).length=i / 2:=by grind [uT]
    rw[hpa,Wo _ _ hpe];have hlor:Nat.lor a (x*2^(16*1))=a+65536*x:=by
     show a ||| x*2^(16*1)=_;rw[Nat.or_comm];have:=Gn (a:=x) (b:=a) (n:=16) (by omega);show Nat.lor (x*2^16) a=_;omega
    refine⟨a,?_,by omega,?_,?_⟩
    all_goals grind [set_append_right,FO]
  obtain⟨hy1,hy2,hy3⟩:=hnew;have hwlen:(bG (l.take i)++List.replicate ((l.length+1) / 2-(i+1) / 2) 0).length=(l.length+1) / 2:=by
   grind [uT]
  have g3:aA yA 253 (.slice b 0 ((l.length+1) / 2) ((l.length+1) / 2)) (.int .i64 ((i / 2:Nat):Int))=some (.ptr b (0+i / 2*1)):=rP xH (by omega);rw[show 0+i / 2*1=i / 2 by omega]at g3;have g4:=ho.load hy cH rfl;obtain⟨t2,g5,g6,g7⟩:=ho.store (C:=yA) hbase (j:=i / 2) (by omega) (Nat.lor y (x*2^(16*(i%2)))) cH rfl;rw[hy3]at g6;refine zfw ?_;have e1:Int.tdiv (i:Int) 2=((i / 2:Nat):Int):=by simp_all
  have e2:Int.tmod (i:Int) 2=((i%2:Nat):Int):=by grind
  have hm:=ycy i (show 0<2 by decide);simp (disch:=omega) only[uL,uH,kB,uZ,uW,Um,tA,aB,g1,g2,xA,zB,wrap_i64,aZ,e1,e2,g3,g4];rw[yab (by omega)];have e3:uV .u32 (x:Int) (16*((i%2:Nat):Int))=some (.int .u32 ((x*2^(16*(i%2)):Nat):Int)):=by
   rcases Nat.mod_two_eq_zero_or_one i with h | h<;>rw[h]
   ·simp[uV,Cx,sM];rw[aZ (by omega) (by omega)]
   ·have:uV .u32 (x:Int) (16*((1:Nat):Int))=some (.int .u32 (dA .u32 ((x:Int)*65536))):=rfl
    grind [aZ]
  rw[e3];have hb2:x*2^(16*(i%2))<4294967296:=by
   rcases Nat.mod_two_eq_zero_or_one i with h | h<;>rw[h]<;>omega
  simp only[xA,zB];rw[tV (show y<nH .u32 from hy1) (show x*2^(16*(i%2))<nH .u32 from hb2)];simp only[xA,zB];intro d _ _;rw[g5];simp only[xA];have:=ih (i+1) t2 (by omega) (ht.off hb g7) g6
  simp_all
theorem Wn   (hv:sA t 1 (zC .u16 l) v)(hl:l.length<1000000)(hlt:mB 65536 l)
  (hQ:∀t' v',iA t t'->sA t' 1 (zC .u32 (bG l)) v'->Q v' t'):Wc yA F 200 [v] t Q:=by
 refine w200 ?_;have e1:Int.tdiv ((l.length:Int)+1) 2=(((l.length+1) / 2:Nat):Int):=by grind
 simp (disch:=omega) only[uI,uZ,uW,t200,tA,hv.len,xA,zB,kG,wrap_i64,e1];intro b hb hbase;obtain⟨t',g1,g2,g3,_⟩:=Dx (C:=yA) (k:=.u32) rQ rfl cH rfl rfl (by decide) (n:=(l.length+1) / 2) (by omega) hb;rw[g1];simp only[xA];exact UG hv hl hlt hbase hb hQ l.length 0 t' (by omega) g3 (by grind [bG])
end Go.Proofs
namespace Go.Proofs
open Go Go.Am
variable {n s x y:Nat}
variable [tC]
variable {t:Tr qA}
theorem zgy (h:n<4294967296):n / 2147483648=if n.testBit 31 then 1 else 0:=by
 grind
theorem Tw (h:n<4294967296):n.testBit 31=decide (2147483648<=n):=by
 grind
theorem AW (h:x<4294967296):Cm (.int .u32 (x:Int))=some (.int .u32 (Nat.xor 4294967295 x:Nat)):=by
 grind [Cm,zA.asIntK,uA,Nat.beq,kLo,mD,tV,nH]
theorem zbz{b:Nat}(hx:x<4294967296)(hy:y<4294967296)(hb:b<2) :
  iB yA F 253 [.int .u32 x,.int .u32 y,.int .u32 b] t=some (.tup [.int .u32 (((x+8589934592-y-b)%4294967296:Nat):Int),.int .u32 (((if x<y+b then 1 else 0):Nat):Int)]):=by
 refine pC.2 (w253 ?_);obtain⟨d,hd⟩:∃d,d=(x+8589934592-y-b)%4294967296:=⟨_,rfl⟩;have hdl:d<4294967296:=by omega
 have e1:dA .u32 (dA .u32 ((x:Int)-y)-b)=(d:Int):=by
  grind [tU]
 have hn1:Nat.xor 4294967295 x<4294967296:=Nat.xor_lt_two_pow (n:=32) (by decide) hx;have hn2:Nat.xor x y<4294967296:=Nat.xor_lt_two_pow (n:=32) hx hy;have hn3:Nat.xor 4294967295 (Nat.xor x y)<4294967296:=Nat.xor_lt_two_pow (n:=32) (by decide) hn2;have hn4:Nat.land (Nat.xor 4294967295 x) y<4294967296:=yam Nat.and_le_left hn1;have hn5:Nat.land (Nat.xor 4294967295 (Nat.xor x y)) d<4294967296:=yam Nat.and_le_left hn3
 have hn6:Nat.lor (Nat.land (Nat.xor 4294967295 x) y) (Nat.land (Nat.xor 4294967295 (Nat.xor x y)) d)<4294967296:=Nat.or_lt_two_pow (n:=32) hn4 hn5;simp only[uL,t253,tA,e1];rw[AW hx];simp only[xA,zB];rw[JQ,tV (k:=.u32) hn1 hy];simp only[xA,zB];rw[tV (k:=.u32) hx hy];simp only[xA,zB];rw[AW hn2];simp only[xA,zB];rw[JQ,tV (k:=.u32) hn3 hdl]
 simp only[xA,zB];rw[tV (k:=.u32) hn4 hn5];simp only[xA,zB];have e2:Int.fdiv ((Nat.lor (Nat.land (Nat.xor 4294967295 x) y) (Nat.land (Nat.xor 4294967295 (Nat.xor x y)) d):Nat):Int) 2147483648=(((if x<y+b then 1 else 0):Nat):Int):=by
  rw[show(2147483648:Int)=((2147483648:Nat):Int) from rfl,qZ,zgy hn6];congr 1;have tb:(Nat.lor (Nat.land (Nat.xor 4294967295 x) y) (Nat.land (Nat.xor 4294967295 (Nat.xor x y)) d)).testBit 31=decide (x<y+b):=by
   show((4294967295 ^^^ x) &&& y ||| (4294967295 ^^^ (x ^^^ y)) &&& d).testBit 31=_;rw[Nat.testBit_or,Nat.testBit_and,Nat.testBit_and,Nat.testBit_xor,Nat.testBit_xor,Nat.testBit_xor,Tw hx,Tw hy,Tw hdl];have:(4294967295:Nat).testBit 31=true:=by decide
   rw[this];by_cases c1:2147483648<=x<;>by_cases c2:2147483648<=y<;>by_cases c3:2147483648<=d<;>by_cases c4:x<y+b<;>simp only[c1,c2,c3,c4,decide_true,decide_false,Bool.xor_true,Bool.xor_false,Bool.true_xor,Bool.false_xor,Bool.not_true,ycl,Bool.and_true,yay,Bool.or_true,Bool.or_false,Bool.xor_self]<;>omega
  simp_all
 simp_all
theorem zem{c:Nat}(hx:x<4294967296)(hy:y<4294967296)(hc:c<2) :
  iB yA F 262 [.int .u32 x,.int .u32 y,.int .u32 c] t=some (.tup [.int .u32 (((x+y+c)%4294967296:Nat):Int),.int .u32 (((x+y+c) / 4294967296:Nat):Int)]):=by
 refine pC.2 (w262 ?_);have e0:((x:Int)+y)+c=((x+y+c:Nat):Int):=by omega
 simp (disch:=omega) only[t262,tA,nG]
 grind [tU]
theorem zd0{h l d:Nat}(hh:h<d)(hl:l<4294967296)(hd:d<4294967296) :
  iB yA F 231 [.int .u32 h,.int .u32 l,.int .u32 d] t=some (.tup [.int .u32 (((h*4294967296+l) / d:Nat):Int),.int .u32 (((h*4294967296+l)%d:Nat):Int)]):=by
 refine pC.2 (w231 ?_);simp only[t231,tA,zL,vG];rw[yab (by omega),yaa (by omega)];refine j231_7 ?_;have e1:(h:Int)*4294967296=((h*4294967296:Nat):Int):=by omega
 have hq:(h*4294967296+l) / d<4294967296:=ycu (by
  omega)
 have hr:(h*4294967296+l)%d<d:=ycy _ (by omega);simp (disch:=omega) only[uE,ze2,tA,nG,e1];have e2:qJ Nat.lor .u64 ((h*4294967296:Nat):Int) (l:Int)=some (.int .u64 ((h*4294967296+l:Nat):Int)):=by
  rw[tV (k:=.u64) (show h*4294967296<nH .u64 by show _<18446744073709551616;omega) (show l<nH .u64 by show _<18446744073709551616;omega)];have:=Gn (a:=h) (b:=l) (n:=32) hl;rw[show h*4294967296=h*2^32 by rfl,this]
 rw[e2];simp only[xA,zB];rw[Yj (k:=.u64) (by omega) (by
  grind [nG]),Ri (k:=.u64) (by omega)]
 grind [xA,zB,aZ]
theorem zc4(v:Nat)(hv:v<256):∃k,k<9/\tD [0,1,2,2,3,3,3,3,4,4,4,4,4,4,4,4,5,5,5,5,5,5,5,5,5,5,5,5,5,5,5,5,6,6,6,6,6,6,6,6,6,6,6,6,6,6,6,6,6,6,6,6,6,6,6,6,6,6,6,6,6,6,6,6,7,7,7,7,7,7,7,7,7,7,7,7,7,7,7,7,7,7,7,7,7,7,7,7,7,7,7,7,7,7,7,7,7,7,7,7,7,7,7,7,7,7,7,7,7,7,7,7,7,7,7,7,7,7,7,7,7,7,7,7,7,7,7,7,8,8,8,8,8,8,8,8,8,8,8,8,8,8,8,8,8,8,8,8,8,8,8,8,8,8,8,8,8,8,8,8,8,8,8,8,8,8,8,8,8,8,8,8,8,8,8,8,8,8,8,8,8,8,8,8,8,8,8,8,8,8,8,8,8,8,8,8,8,8,8,8,8,8,8,8,8,8,8,8,8,8,8,8,8,8,8,8,8,8,8,8,8,8,8,8,8,8,8,8,8,8,8,8,8,8,8,8,8,8,8,8,8,8,8,8,8,8,8,8,8,8,8,8,8,8,8,8] v=some k/\(v=0/\k=0\/0<k/\2^(k-1)<=v/\v<2^k):=by
 have h:∀v:Fin 256,(tD [0,1,2,2,3,3,3,3,4,4,4,4,4,4,4,4,5,5,5,5,5,5,5,5,5,5,5,5,5,5,5,5,6,6,6,6,6,6,6,6,6,6,6,6,6,6,6,6,6,6,6,6,6,6,6,6,6,6,6,6,6,6,6,6,7,7,7,7,7,7,7,7,7,7,7,7,7,7,7,7,7,7,7,7,7,7,7,7,7,7,7,7,7,7,7,7,7,7,7,7,7,7,7,7,7,7,7,7,7,7,7,7,7,7,7,7,7,7,7,7,7,7,7,7,7,7,7,7,8,8,8,8,8,8,8,8,8,8,8,8,8,8,8,8,8,8,8,8,8,8,8,8,8,8,8,8,8,8,8,8,8,8,8,8,8,8,8,8,8,8,8,8,8,8,8,8,8,8,8,8,8,8,8,8,8,8,8,8,8,8,8,8,8,8,8,8,8,8,8,8,8,8,8,8,8,8,8,8,8,8,8,8,8,8,8,8,8,8,8,8,8,8,8,8,8,8,8,8,8,8,8,8,8,8,8,8,8,8,8,8,8,8,8,8,8,8,8,8,8,8,8,8,8,8,8,8] v.val).elim false (fun k=>decide (k<9)&&(decide (v.val=0)&&decide (k=0)||decide (0<k)&&decide (2^(k-1)<=v.val)&&decide (v.val<2^k)))=true:=by decide +kernel
 have hv:=h ⟨v,hv⟩;simp only[]at hv;generalize tD _ v=r at hv ⊢
 cases r with
 | none=>simp at hv
 | some k=>
  grind
def BL (x k:Nat):Prop:=x=0/\k=0\/0<k/\2^(k-1)<=x/\x<2^k
theorem HF (hx:x<256)(hs:s<100):∃k,k<=8/\BL x k/\jp 260 15 [.int .u32 x,.int .i64 s] t (fun v m=>v=.int .i64 ((s+k:Nat):Int)/\m=t):=by
 obtain⟨k,hk,h1,h2⟩:=zc4 x hx;refine⟨k,by omega,h2,zif ?_⟩;simp (disch:=omega) only[uU,uZ,uY,uW,BY,tA,Nq];unfold lO;rw[yK,uA];have:(zA.int .u8 (x:Int)).asNat=some x:=rfl;rw[this,uA];simp only[zA.asStr];rw[show(lD.desc ⟨.string,1,16,[.str []],true⟩).isString=true from rfl,mD]
 grind [uA,xA,zB,wrap_i64]
theorem HE (hx:x<65536)(hs:s<90):∃k,k<=16/\BL x k/\jp 260 9 [.int .u32 x,.int .i64 s] t (fun v m=>v=.int .i64 ((s+k:Nat):Int)/\m=t):=by
 by_cases h:256<=x
 ·obtain⟨k,h1,h2,h3⟩:=HF (t:=t) (x:=x / 256) (s:=s+8) (by omega) (by omega);refine⟨k+8,by omega,?_,zfm ?_⟩
  ·rcases h2 with h2 | ⟨g1,g2,g3⟩
   ·omega
   ·refine .inr ⟨by omega,?_,?_⟩
    ·rw[show k+8-1=(k-1)+8 by omega,Nat.pow_add];omega
    grind
  ·simp (disch:=omega) only[uZ,uW,Ub,tA,vG,wrap_i64]
   grind
 ·obtain⟨k,h1,h2,h3⟩:=HF (t:=t) (x:=x) (s:=s) (by omega) (by omega);refine⟨k,by omega,h2,zfm ?_⟩;simp only[uZ,uW,Ub,tA,vG];grind
theorem zc5 (hx:x<4294967296):∃k,k<=32/\BL x k/\iB yA F 260 [.int .u32 x] t=some (.int .i64 (k:Int)):=by
 by_cases h:65536<=x
 ·obtain⟨k,h1,h2,h3⟩:=HE (t:=t) (x:=x / 65536) (s:=16) (by omega) (by omega);refine⟨k+16,by omega,?_,pC.2 (w260 ?_)⟩
  ·rcases h2 with h2 | ⟨g1,g2,g3⟩
   ·omega
   ·refine .inr ⟨by omega,?_,?_⟩
    ·rw[show k+16-1=(k-1)+16 by omega,Nat.pow_add];omega
    grind
  ·simp only[uZ,t260,tA,vG]
   grind
 ·obtain⟨k,h1,h2,h3⟩:=HE (t:=t) (x:=x) (s:=0) (by omega) (by omega);refine⟨k,by omega,h2,pC.2 (w260 ?_)⟩;simp only[uZ,t260,tA,vG];grind
theorem GN (hx:x<4294967296)(h0:0<x):∃s:Nat,s<32/\2147483648<=x*2^s/\x*2^s<4294967296/\iB yA F 248 [.int .u32 x] t=some (.int .i64 (s:Int)):=by
 obtain⟨k,h1,h2,h3⟩:=zc5 (t:=t) hx;rcases h2 with h2 | ⟨g1,g2,g3⟩
 ·omega
 ·refine⟨32-k,by omega,?_,?_,pC.2 (w248 ?_)⟩
  ·have:2^(k-1)*2^(32-k)=2147483648:=by rw[<- Nat.pow_add,show k-1+(32-k)=31 by omega]
   rw[<- this];exact ybi _ g2
  ·have:2^k*2^(32-k)=4294967296:=by rw[<- Nat.pow_add,show k+(32-k)=32 by omega]
   rw[<- this];exact Nat.mul_lt_mul_of_pos_right g3 (Nat.pow_pos (Nat.succ_pos 1))
  ·simp (disch:=omega) only[uI,uZ,uW,t248,tA,q260,h3,xA,zB,wrap_i64]
   grind
end Go.Proofs
namespace Go.Am
variable {B i x:Nat}{l:List Nat}
theorem Pc{p:List Nat}{n:Nat}:(p++List.replicate (n+1) 0).set p.length x=(p++[x])++List.replicate n 0:=by
 grind
theorem sP(B:Nat)(l:List Nat)(x:Nat):val B (l++[x])=val B l+B^l.length*x:=by rw[Fu];simp[val]
def Bm   (h:mB B l)(hx:x<B):mB B (l++[x]):=OM h fun y hy=>by simp_all
def SD {r w d:Nat}(hr:r<d)(hw:w<B):(r*B+w) / d<B:=by
 have hd:0<d:=by omega
 refine ycu ?_;have:(r+1)*B<=d*B:=ybi B hr
 grind
def dX  (h:l[i]?=some x):l.take (i+1)=l.take i++[x]:=by rw[ydg,h];rfl
def uR  (h:l[i]?=some x):l.drop i=x::l.drop (i+1):=by
 have hi:=(ybc.1 h);rw[ybl hi.1,hi.2]
end Go.Am
namespace Go.Am
open Go Go.RowKit
variable {el n sz:Nat}{v:zA}{cl:List (List zA)}
section
variable {t:Tr qA}{C:fA}
theorem VL{c:Tr zA}  : ∀(cl:List (List zA)) (off:Nat),(∀(i:Nat) cs,cl[i]?=some cs->cs.length=sz/\∀(j:Nat) a,cs[j]?=some a->c.get (off+i*sz+j)=some a)->c.many (cl.length*sz) off=some cl.flatten:=by
 intro cl;induction cl with
 | nil=>intro off _;simp;rfl
 | cons cs cl ih=>
  intro off h;obtain⟨h1,h2⟩:=h 0 cs (by simp);have hrest:=ih (off+sz) fun i cs' hi=>by
   obtain⟨g1,g2⟩:=h (i+1) cs' (by simp_all)
   grind
  have key:∀(n:Nat) (l r:List zA) (off:Nat),l.length=n->(∀(j:Nat) a,l[j]?=some a->c.get (off+j)=some a)->∀m,c.many m (off+n)=some r->c.many (n+m) off=some (l++r):=by
   intro n;induction n with
   | zero=>
    simp_all
   | succ n ihn=>
    intro l r off hl hg m hm
    cases l with
    | nil=>simp at hl
    | cons a l=>
     rw[show n+1+m=(n+m)+1 by omega,Tr.many_succ];have:=hg 0 a (by simp);rw[yct]at this;rw[this,uA,ihn l r (off+1) (by simp_all) (fun j b hj=>by
      have:=hg (j+1) b (by simp_all)
      grind) m (by grind)]
     rfl
  grind [Nat.add_mul]
theorem iH.first   (h:iH t sz v cl)  : cT ⟨n,t⟩ sz cl.length v=some cl.flatten/\Aq v=some cl.length:=by
 rcases h with⟨rfl,rfl⟩ | ⟨b,off,cap,rfl,_,⟨c,m,lo,h1,_⟩,h2⟩
 ·exact⟨rfl,rfl⟩
 ·refine⟨?_,rfl⟩;unfold cT;simp only[zA.asSlice];unfold rD;rw[h1,uA];simp only[qA.asCells,uA];refine VL cl off fun i cs hi=>?_;obtain⟨g1,c',m',lo',g2,g3⟩:=h2 i cs hi
  simp_all
theorem pV  : ∀ {cl:List (List zA)},(∀(i:Nat) cs,cl[i]?=some cs->cs.length=sz)->cl.flatten.length=cl.length*sz:=by
 intro cl;induction cl with
 | nil=>grind
 | cons c cl ih=>
  intro h;rw[yas,ybg,ybn,ybo,ih fun i cs hi=>h (i+1) cs (by simp_all),h 0 c (by simp)];omega
theorem kS  : ∀ {cl:List (List zA)},(∀(i:Nat) cs,cl[i]?=some cs->cs.length=sz)->∀(i j:Nat) cs a,cl[i]?=some cs->cs[j]?=some a->cl.flatten[i*sz+j]?=some a:=by
 intro cl;induction cl with
 | nil=>simp_all
 | cons c cl ih=>
  intro h i j cs a hi hj;have hc:=h 0 c (by simp);rw[yas]
  cases i with
  | zero=>
   grind
  | succ i=>
   rw[ybp (by grind),hc,show(i+1)*sz+j-sz=i*sz+j by grind];exact ih (fun i cs hi=>h (i+1) cs (by simp_all)) i j cs a (by simp_all) hj
theorem iH.len   (h:iH t sz v cl):∀(i:Nat) cs,cl[i]?=some cs->cs.length=sz:=by
 rcases h with⟨rfl,rfl⟩ | ⟨b,off,cap,rfl,_,_,h2⟩
 all_goals grind
theorem Rx  {t':Tr qA}{lo:Option Lo}(hl:∀(i:Nat) cs,cl[i]?=some cs->cs.length=sz)(h:t'.get n=some (.cells (Tr.ofList cl.flatten) (wB cl.flatten) lo))(hlo:lo=none\/∃x,lo=some x/\x.es=sz):iH t' sz (.slice n 0 cl.length cl.length) cl:=
 .inr ⟨n,0,cl.length,rfl,ybk _,⟨_,_,_,h,hlo⟩,fun i cs hi=>⟨hl i cs hi,_,_,_,h,fun j a hj=>by
  grind [Tr.get_ofList,kS]⟩⟩
def NB (C:fA)(el:Nat):Prop:=∀y,C.tys.get el=some y->JH y=false
def NB.code {z:lD}(h:NB C el)(hz:C.tys.get el=some z):vL el z=.sz z.size:=by
 unfold vL;rw[h z hz,yay];rfl
structure Bu (C:fA) (T el sz:Nat):Prop where
 ty:∃y,C.tys.get T=some y/\y.desc.asSlice=some el/\Nat.beq y.desc.tag 1=false
 el:∃y,C.tys.get el=some y/\y.size=sz/\wB y.zero=sz/\y.bytes<=500/\0<sz
structure mK (C:fA) (T e sz:Nat):Prop where
 ty:∃y,C.tys.get T=some y/\y.desc.asSlice=some e/\Nat.beq y.desc.tag 1=false
 el:∃y,C.tys.get e=some y/\y.size=sz/\wB y.zero=sz/\y.bytes<=500/\0<sz
 nb:NB C e
theorem ZO{T:Nat}(hT:mK C T el sz){l:List D}{x s:zA}(hx:sA t sz l x)(hl:l.length<1000000) (hn:t.get n=none)
  (hs:s=.nilslice\/∃b c m,s=.slice b 0 0 0/\t.get b=some (.cells c m none)) :
  ∃v H',qD C T T s x ⟨n,t⟩=some (v,H')/\sA H'.t sz l v/\iA t H'.t/\aC n t H'.t:=by
 obtain⟨⟨y,hy1,hy2,hy3⟩,⟨z,hz1,hz2,hz3,hz4,hz5⟩,hnb⟩:=hT;have hcode:=NB.code hnb hz1;obtain⟨cl,he,hd⟩:=hx;have hcl:=hd.length;obtain⟨hf,hlen⟩:=he.first (n:=n);have hall:=he.len
 have base:qD C T T s x ⟨n,t⟩=(match s.asSlice with
  | some s=>bif Nat.ble (s.2.2.1+cl.length) s.2.2.2 then sV C ⟨n,t⟩ z cl.length cl.flatten s else rV C ⟨n,t⟩ el z cl.length cl.flatten s
  | none=>vB (Nat.beq s.tag 5) (eT ⟨n,t⟩ el z cl.length cl.flatten)):=by
  unfold qD pR;grind [uA,mD]
 have hfl:wB cl.flatten=cl.length*sz:=by grind [oD,pV]
 have ok:mS z 0 0 cl.length cl.flatten=true:=by
  unfold mS;have h1:Nat.blt (0+cl.length+0) 1000000000=true:=sC.2 (by omega);have h2:Nat.blt ((0+cl.length+0)*z.bytes) 1000000000=true:=sC.2 (by
   have:=ydb (show 0+cl.length+0<=1000000 by omega) hz4;omega)
  grind [sC,gC]
 have newT:∀(q:qA),iA t (t.set n q)/\aC n t (t.set n q):=fun q=>⟨fun c u hc=>by
   grind [Tr.get_set],fun c hc=>by rw[Tr.get_set,yaa hc]⟩
 rcases hs with rfl | ⟨b,c,m,rfl,hb⟩
 ·by_cases h0:cl.length=0
  ·have:cl=[]:=ycc.1 h0;subst this;refine⟨.nilslice,⟨n,t⟩,?_,⟨[],.inl ⟨rfl,rfl⟩,hd⟩,iA.refl _,aC.refl _ _⟩;rw[base];rfl
  ·refine⟨.slice n 0 cl.length cl.length,⟨n+1,t.set n (.cells (Tr.ofList cl.flatten) (wB cl.flatten) (some (vL el z)))⟩,?_,⟨cl,Rx hall (show(t.set n _).get n=_ by rw[Tr.get_set,yab rfl]) (.inr ⟨_,rfl,by rw[Fb,hz2]⟩),qC.mono (newT _).1 _ _ hd⟩,(newT _).1,(newT _).2⟩;rw[base];simp only[zA.asSlice];show vB true (eT ⟨n,t⟩ el z cl.length cl.flatten)=_;rw[mD];unfold eT;have:Nat.beq cl.length 0=false:=by
    grind [gC]
   rw[this,cond_false,ok];rfl
 ·by_cases h0:cl.length=0
  ·have:cl=[]:=ycc.1 h0;subst this;refine⟨.slice b 0 0 0,⟨n,t⟩,?_,⟨[],.inr ⟨b,0,0,rfl,ybk _,⟨c,m,none,hb,.inl rfl⟩,fun i cs hi=>by simp at hi⟩,hd⟩,iA.refl _,aC.refl _ _⟩;rw[base];rfl
  ·refine⟨.slice n 0 cl.length cl.length,⟨n+1,t.set n (.cells (Tr.ofList cl.flatten) (wB cl.flatten) (some (vL el z)))⟩,?_,⟨cl,Rx hall (show(t.set n _).get n=_ by rw[Tr.get_set,yab rfl]) (.inr ⟨_,rfl,by rw[Fb,hz2]⟩),qC.mono (newT _).1 _ _ hd⟩,(newT _).1,(newT _).2⟩;rw[base];simp only[zA.asSlice];have:Nat.ble (0+cl.length) 0=false:=by
    grind [pE]
   rw[this,cond_false];unfold rV;simp only[];rw[show ∀x,(!(Nat.beq 0 1&&x))=true from fun _=>rfl,mD,ok,mD];unfold rD;rw[hb,uA];simp only[qA.asCells,uA];unfold Ei;simp only[Nat.zero_mul];show ob (c.many 0 0) _=_;rw[show c.many 0 0=some [] from rfl,uA];rw[fH,yah,ybw];rfl
end
end Go.Am
namespace Go.Proofs
open Go Go.Am
variable {T b el n:Nat}{y z:lD}{l:List Nat}{v:zA}{Q:xC}{k:IntKind}{neg:Bool}
variable [tC]
variable {t:Tr qA}
def el314:mK yA 253 256 1:=⟨⟨_,rQ,rfl,rfl⟩,⟨_,cH,rfl,rfl,by decide,by decide⟩,fun y h=>by rw[cH]at h;cases h;rfl⟩
theorem lit0  (hT:yA.tys.get T=some y)(hel:y.desc.asSlice=some el)(hz:yA.tys.get el=some z)(hs:wB z.zero=z.size) (hb:t.get b=none) :
  ∃H',aE yA T 0 [] ⟨b,t⟩=some (.slice b 0 0 0,H')/\(∃c,H'.t.get b=some (.cells c 0 none))/\iA t H'.t:=by
 refine⟨lF ⟨b,t⟩ [] none,?_,⟨Tr.ofList [],?_⟩,?_⟩
 ·unfold aE;rw[hT,uA,hel,uA,hz,uA];have:(Nat.blt (0*z.size) 1000000&&Nat.beq (wB z.zero) z.size)=true:=by simp_all
  rw[this];rfl
 ·show(t.set b _).get b=_;rw[Tr.get_set,yab rfl];rfl
 ·intro c u hc;show(t.set b _).get c=_
  grind [Tr.get_set]
theorem zea   (hv:sA t 1 (zC .u32 l) v)(hl:l.length<1000000)
  (hQ:∀t' v',iA t t'->sA t' 1 (zC .u32 l) v'->Q v' t'):Wc yA F 250 [v] t Q:=by
 refine w250 ?_;have e:(zN .eql).f yA 253 (.tmp 3) (.const (.slice none 0 0)) v .nilslice=some (.bool (Nat.beq v.tag 5)):=by
  obtain⟨cl,h1,_⟩:=hv;rcases h1 with⟨rfl,_⟩ | ⟨b,off,cap,rfl,_⟩
  ·kernel_rfl
  ·kernel_rfl
 simp only[uB,t250,tA,e,xA,lE];split
 ·grind [sW,gC,iA.refl]
 ·intro b hb hbase;obtain⟨H1,g1,⟨c,g2⟩,g3⟩:=lit0 (t:=t) rQ rfl cH rfl hb;rw[g1];simp only[xA];intro n hn _;obtain⟨u,H',g4,g5,g6,_⟩:=ZO el314 (hv.mono g3) (by grind [kG]) hn (.inr ⟨b,c,0,rfl,g2⟩);rw[g4];simp only[xA];exact hQ _ _ (g3.trans g6) g5
def Kk(n:Nat):List Nat:=wG [n%4294967296,n / 4294967296]
theorem PF(n:Nat):val 4294967296 (Kk n)=n:=by grind [Kk,iX,val]
theorem ZS (h:n<18446744073709551616):mB 4294967296 (Kk n):=iZ fun x hx=>by
 grind
theorem UY(n:Nat):norm (Kk n):=pY _
theorem Xg   (hT:yA.tys.get T=some y)(hel:y.desc.asSlice=some el)(hz:yA.tys.get el=some z)(hzero:z.zero=[.int k 0])(hs:z.size=1)(x:Nat)(hk:True) (hb:t.get b=none) :
  ∃H',aE yA T 1 [(0,.int k (x:Int))] ⟨b,t⟩=some (.slice b 0 1 1,H')/\eF H'.t b k [x]/\iA t H'.t:=by
 refine⟨lF ⟨b,t⟩ [.int k (x:Int)] none,?_,⟨Tr.ofList [.int k (x:Int)],?_,fun j u hj=>?_⟩,?_⟩
 ·unfold aE;rw[hT,uA,hel,uA,hz,uA,hs,hzero];rfl
 ·show(t.set b _).get b=_;rw[Tr.get_set,yab rfl];rfl
 ·grind [Tr.get_ofList]
 ·intro c u hc;show(t.set b _).get c=_
  grind [Tr.get_set]
theorem zc3   (hT:yA.tys.get T=some y)(hel:y.desc.asSlice=some el)(hz:yA.tys.get el=some z)(hzero:z.zero=[.int k 0])(hs:z.size=1)(x x':Nat) (hb:t.get b=none) :
  ∃H',aE yA T 2 [(0,.int k (x:Int)),(1,.int k (x':Int))] ⟨b,t⟩=some (.slice b 0 2 2,H')/\eF H'.t b k [x,x']/\iA t H'.t:=by
 refine⟨lF ⟨b,t⟩ [.int k (x:Int),.int k (x':Int)] none,?_,⟨Tr.ofList [.int k (x:Int),.int k (x':Int)],?_,fun j u hj=>?_⟩,?_⟩
 ·unfold aE;rw[hT,uA,hel,uA,hz,uA,hs,hzero];rfl
 ·show(t.set b _).get b=_;rw[Tr.get_set,yab rfl];rfl
 ·grind [Tr.get_ofList]
 ·intro c u hc;show(t.set b _).get c=_
  grind [Tr.get_set]
theorem zb9  (hn:n<18446744073709551616)(hQ:∀t' v',iA t t'->sA t' 1 (zC .u32 (Kk n)) v'->Q v' t'):Wc yA F 230 [.int .u64 n] t Q:=by
 refine w230 ?_;have e1:dA .u32 (n:Int)=((n%4294967296:Nat):Int):=by rw[tU];omega
 have e2:dA .u32 (Int.fdiv (n:Int) 4294967296)=((n / 4294967296:Nat):Int):=by
  rw[show Int.fdiv (n:Int) 4294967296=((n / 4294967296:Nat):Int) from qZ _ 4294967296,aZ (by omega) (by omega)]
 simp only[t230,tA,e1,e2];intro b hb _;obtain⟨H',g1,g2,g3⟩:=zc3 (t:=t) (k:=.u32) rQ rfl cH rfl rfl (n%4294967296) (n / 4294967296) hb;rw[g1];simp only[xA];obtain⟨v',h1,h2⟩:=Ct (l:=[n%4294967296,n / 4294967296]) (by simp) (g2.all (ybk _));simp only[Gz];have h1:iB yA F 224 [.slice b 0 2 2] H'.t=some v':=h1;rw[h1];exact hQ _ _ g3 h2
theorem QB     (hv:sA t 1 (zC .u32 l) v)(hl:l.length<400000)(hlt:mB 4294967296 l)(hne:l≠[])(hnorm:norm l)(hbase:yA.base<=b)(hb:t.get b=none)
  (hQ:∀t' v',iA t t'->sA t' 1 (zC .u16 (wG (jI l))) v'->Q (.agg [.bool neg,v']) t'):∀(k i:Nat) (t':Tr qA),i+k=l.length->iA t t'->eF t' b .u16 (jI (l.take i)++List.replicate (2*k) 0) →
  jp 198 2 [.bool neg,.slice b 0 (2*l.length) (2*l.length),v,.int .i64 l.length,.int .i64 i,.bool false,.nilslice] t' Q:=by
 intro k;induction k with
 | zero=>
  intro i t' hi ht ho;refine zfx ?_;rw[yca (by omega),yat,List.replicate_zero,ycd]at ho;obtain⟨m,w,rfl⟩:=Qs hne;have hw:w≠0:=by have:=hnorm (by simp);simp_all
  have hwlt:w<4294967296:=hlt w (by simp);have hul:(jI (m++[w])).length=2*(m++[w]).length:=Ob _;have hml:(m++[w]).length=m.length+1:=by simp
  have hlast:(jI (m++[w]))[2*m.length+1]?=some (w / 65536):=by
   grind [Jn]
  have hread:=ho.all (cap:=2*(m++[w]).length) (by omega);rw[hul]at hread;have g3:aA yA 39 (.slice b 0 (2*(m++[w]).length) (2*(m++[w]).length)) (.int .i64 ((2*m.length+1:Nat):Int))=some (.ptr b (0+(2*m.length+1)*1)):=rP rU (by omega);rw[show 0+(2*m.length+1)*1=2*m.length+1 by omega]at g3;have g4:=ho.load hlast Cr rfl;have e1:((2*(m++[w]).length:Nat):Int)-1=((2*m.length+1:Nat):Int):=by omega
  have hlen:tB (.slice b 0 (2*(m++[w]).length) (2*(m++[w]).length))=some (.int .i64 ((2*(m++[w]).length:Nat):Int)):=rfl;have hb2:2*m.length+1<1000000:=by omega
  simp (disch:=omega) only[uI,uL,uH,fB,kB,uZ,uW,Un,tA,aB,hlen,xA,zB,e1,wrap_i64,g3,g4,qE];rw[yaa (by omega)];by_cases hz:w / 65536=0
  ·rw[yab (by omega)];obtain⟨u,g5,g6⟩:=eD.front rU hread (k:=2*m.length+1) (by grind [kG]);rw[g5];simp only[xA];have hone:zD zA.one [.bool neg,u]=true:=by
    show(bif zA.one (.bool neg)then(bif zA.one u then true else false)else false)=true;rw[g6.one];rfl
   grind [LU,CF,Jn,Ob]
  ·rw[yaa (by omega)];have hone:zD zA.one [.bool neg,.slice b 0 (2*(m++[w]).length) (2*(m++[w]).length)]=true:=rfl
   grind [CF]
 | succ k ih=>
  intro i t' hi ht ho;obtain⟨x,hx⟩:=getElem?_of_lt (l:=l) (i:=i) (by omega);have hxlt:x<4294967296:=qK hlt hx;obtain⟨c,off,g1,g2⟩:=(hv.mono ht).idx xH hx;have htl:(l.take i).length=i:=by grind
  have hpl:(jI (l.take i)).length=2*i:=by rw[Ob,htl]
  have hlen0:(jI (l.take i)++List.replicate (2*(k+1)) 0).length=2*l.length:=by grind
  have g3:∀j,j<2*l.length->aA yA 39 (.slice b 0 (2*l.length) (2*l.length)) (.int .i64 (j:Int))=some (.ptr b j):=by
   intro j hj;have:=rP (b:=b) (off:=0) (cap:=2*l.length) rU hj
   simp_all
  have g3a:=g3 (2*i) (by omega);have g3b:=g3 (2*i+1) (by omega);obtain⟨t1,s1,s2,s3⟩:=ho.store (C:=yA) hbase (j:=2*i) (by omega) (x%65536) Cr rfl;have hs2:(jI (l.take i)++List.replicate (2*(k+1)) 0).set (2*i) (x%65536)=(jI (l.take i)++[x%65536])++List.replicate (2*k+1) 0:=by
   grind [Pc]
  rw[hs2]at s2;obtain⟨t2,s4,s5,s6⟩:=s2.store (C:=yA) hbase (j:=2*i+1) (by simp[hpl]) (x / 65536) Cr rfl;have hs5:((jI (l.take i)++[x%65536])++List.replicate (2*k+1) 0).set (2*i+1) (x / 65536)=jI (l.take (i+1))++List.replicate (2*k) 0:=by
   have hq:(jI (l.take i)++[x%65536]).length=2*i+1:=by simp[hpl]
   rw[<- hq,Pc,dX hx,Jn];simp
  rw[hs5]at s5;have e1:dA .u16 (x:Int)=((x%65536:Nat):Int):=by rw[OY];omega
  have e2:dA .u16 (Int.fdiv (x:Int) 65536)=((x / 65536:Nat):Int):=by
   rw[show Int.fdiv (x:Int) 65536=((x / 65536:Nat):Int) from qZ _ 65536,zbq (by omega) (by omega)]
  have e3:(2:Int)*(i:Int)=((2*i:Nat):Int):=by omega
  have e4:((2*i:Nat):Int)+1=((2*i+1:Nat):Int):=by omega
  refine zfx ?_;simp (disch:=omega) only[uI,uL,uH,fB,kB,uZ,uW,Un,tA,aB,g1,g2,xA,zB,e1,e2,e3,e4,wrap_i64,g3a,g3b];rw[yab (by omega)];intro d _ _;rw[s1];simp only[xA];intro d' _ _;rw[s4];simp only[xA];have:=ih (i+1) t2 (by omega) ((ht.off hb s3).off hb s6) s5
  grind
theorem QA    (hv:sA t 1 (zC .u32 l) v)(hl:l.length<400000)(hlt:mB 4294967296 l)
  (hQ:∀t' v',iA t t'->sA t' 1 (zC .u16 (wG (jI (wG l)))) v'->Q (.agg [.bool (if wG l=[]then false else neg),v']) t'):Wc yA F 198 [.bool neg,v] t Q:=by
 refine w198 ?_;obtain⟨u,h1,h2⟩:=Ct (l:=l) (by omega) hv;have hsl:=Vc l;simp only[uI,uZ,uW,t198,tA,Gz,h1,xA,h2.len,zB,kG,qE];by_cases h0:wG l=[]
 ·rw[yab (by grind)];simp only[if_true];have:=hQ t .nilslice (iA.refl _) (by rw[h0];exact⟨[],.inl ⟨rfl,rfl⟩,by simp[jI,wG,zC,qC]⟩)
  simp_all
 ·have hpos:0<(wG l).length:=List.length_pos_iff.2 h0;rw[yaa (by omega)];have e1:(2:Int)*((wG l).length:Int)=((2*(wG l).length:Nat):Int):=by omega
  simp (disch:=omega) only[e1,wrap_i64];intro b hb hbase;obtain⟨t',g1,g2,g3,_⟩:=Dx (C:=yA) (k:=.u16) ty39 rfl Cr rfl rfl (by decide) (n:=2*(wG l).length) (by omega) hb;rw[g1];simp only[xA];refine QB h2 (by omega) (iZ hlt) h0 (pY l) hbase hb (fun t2 v2 a b=>?_) (wG l).length 0 t' (by omega) g3 (by grind [jI])
  simp_all
end Go.Proofs
namespace Go.Proofs
open Go Go.Am
variable {b d s x:Nat}{l:List Nat}{v:zA}{Q:xC}
variable [tC]
variable {t:Tr qA}
theorem Ee{T el:Nat}(h:eD yA T el 1 false){n cap j:Nat}(hj:j<n):aA yA T (.slice b 0 n cap) (.int .i64 (j:Int))=some (.ptr b j):=by
 have:=rP (b:=b) (off:=0) (cap:=cap) h hj
 simp_all
theorem JP (hs:s<64)(hx:x*2^s<18446744073709551616):uV .u64 (x:Int) (s:Int)=some (.int .u64 ((x*2^s:Nat):Int)):=by
 unfold uV Cx;have:sM (s:Int)=some s:=rfl;rw[this,uA,uA];have hm:min s (IntKind.bits .u64)=s:=by show min s 64=s;omega
 rw[hm];have e:(x:Int)*Int.ofNat (2^s)=((x*2^s:Nat):Int):=by simp_all
 rw[e,nG (by omega) (by omega)]
def JO (hs:s<65):Ef .u64 (x:Int) (s:Int)=some (.int .u64 ((x / 2^s:Nat):Int)):=by
 unfold Ef Cx;have:sM (s:Int)=some s:=rfl;rw[this,uA,uA];have hm:min s (IntKind.bits .u64)=s:=by show min s 64=s;omega
 rw[hm];have e:Int.fdiv (x:Int) (Int.ofNat (2^s))=((x / 2^s:Nat):Int):=qZ x (2^s);rw[e]
def UC (hs:s<32):2^s<=2147483648:=yao (n:=2) (by decide) (show s<=31 by omega)
def FD (hs:s<=32):2^s*2^(32-s)=4294967296:=by rw[<- Nat.pow_add,show s+(32-s)=32 by omega]
def zh4 (hs:s<=32):(x*2^s%4294967296)%2^s=0:=by
 rw[<- FD hs,ybh x,Nat.mul_mod_mul_left,Nat.mul_mod_right]
theorem SE    (hv:sA t 1 (zC .u32 l) v)(hl:l.length<900000)(hlt:mB 4294967296 l)(hs:s<32)(hbase:yA.base<=b)(hb:t.get b=none)
  (hQ:∀t' r,iA t t'->aC b t t'->eF t' b .u32 r->r.length=l.length+1->mB 4294967296 r->val 4294967296 r=val 4294967296 l*2^s->Q (.slice b 0 (l.length+1) (l.length+1)) t') :
  ∀(k i:Nat) (t':Tr qA) (P:List Nat) (c:Nat),i+k=l.length->iA t t'->aC b t t'->eF t' b .u32 ((P++[c])++List.replicate k 0)->P.length=i->c<2^s->mB 4294967296 P->val 4294967296 P+4294967296^i*c=val 4294967296 (l.take i)*2^s →
  jp 251 2 [.int .i64 s,.slice b 0 (l.length+1) (l.length+1),v,.int .i64 l.length,.int .i64 i] t' Q:=by
 have hp2:=UC hs
 intro k;induction k with
 | zero=>
  intro i t' P c hi ht hoff ho hP hc hPl hval;refine zfp ?_;simp only[uL,uE,kB,uZ,Uf,tA,aB];rw[yaa (by omega)];rw[List.replicate_zero,ycd]at ho;refine hQ t' (P++[c]) ht hoff ho (by grind) (Bm hPl (by omega)) ?_;rw[sP,hP,hval,yca (by omega)]
 | succ k ih=>
  intro i t' P c hi ht hoff ho hP hc hPl hval;obtain⟨x,hx⟩:=getElem?_of_lt (l:=l) (i:=i) (by omega);have hxlt:x<4294967296:=qK hlt hx;obtain⟨d,off,g1,g2⟩:=(hv.mono ht).idx xH hx;have hxs:x*2^s<4294967296*2^s:=Nat.mul_lt_mul_of_pos_right hxlt (Nat.pow_pos (by decide));have hxs2:x*2^s<18446744073709551616:=by
   omega
  have hlow:=zh4 (x:=x) (s:=s) (by omega);have hlor:Nat.lor c (x*2^s%4294967296)=x*2^s%4294967296+c:=by
   have:=or_low (a:=x*2^s%4294967296) (b:=c) (n:=s) hc hlow
   simp_all [Nat.or_comm]
  have hsum:x*2^s%4294967296+c<4294967296:=by
   have h1:x*2^s%4294967296<4294967296:=ycy _ (by decide);have h2:(4294967296:Nat)%2^s=0:=by rw[<- FD (s:=s) (by omega),Nat.mul_mod_right]
   obtain⟨p,hp⟩:=Nat.dvd_of_mod_eq_zero hlow;obtain⟨q,hq⟩:=Nat.dvd_of_mod_eq_zero h2;have hpq:p<q:=by
    rcases yau p q with g | g
    ·exact g
    ·have:=ybv (2^s) g;omega
   have:=ybv (2^s) (show p+1<=q from hpq)
   grind
  have hhigh:x*2^s / 4294967296<2^s:=ycu (by omega);have hlen0:((P++[c])++List.replicate (k+1) 0).length=l.length+1:=by simp;omega
  have g3a:=Ee xH (b:=b) (n:=l.length+1) (cap:=l.length+1) (j:=i) (by omega);have g3b:=Ee xH (b:=b) (n:=l.length+1) (cap:=l.length+1) (j:=i+1) (by omega);have g4:=ho.load (j:=i) (x:=c) (by simp_all [ybp]) cH rfl;obtain⟨t1,s1,s2,s3⟩:=ho.store (C:=yA) hbase (j:=i) (by omega) (x*2^s%4294967296+c) cH rfl;have hs2:((P++[c])++List.replicate (k+1) 0).set i (x*2^s%4294967296+c)=(P++[x*2^s%4294967296+c])++List.replicate (k+1) 0:=by
   simp_all
  rw[hs2]at s2;obtain⟨t2,s4,s5,s6⟩:=s2.store (C:=yA) hbase (j:=i+1) (by grind) (x*2^s / 4294967296) cH rfl;have hs5:((P++[x*2^s%4294967296+c])++List.replicate (k+1) 0).set (i+1) (x*2^s / 4294967296)=((P++[x*2^s%4294967296+c])++[x*2^s / 4294967296])++List.replicate k 0:=by
   have hq:(P++[x*2^s%4294967296+c]).length=i+1:=by simp[hP]
   grind [Pc]
  rw[hs5]at s5;refine zfp ?_;have e1:dA .u32 ((x*2^s:Nat):Int)=((x*2^s%4294967296:Nat):Int):=by rw[tU];omega
  have e2:dA .u32 (Int.fdiv ((x*2^s:Nat):Int) 4294967296)=((x*2^s / 4294967296:Nat):Int):=by
   rw[show Int.fdiv ((x*2^s:Nat):Int) 4294967296=((x*2^s / 4294967296:Nat):Int) from qZ _ 4294967296];generalize x*2^s=z at hhigh ⊢;rw[aZ (by omega) (by omega)]
  simp (disch:=omega) only[uL,uE,kB,uZ,Uf,tA,aB,g1,g2,xA,zB,nG,g3a,g4];rw[yab (by omega),JP (by omega) hxs2];simp only[xA,zB,e1];have e3:qJ Nat.lor .u32 (c:Int) ((x*2^s%4294967296:Nat):Int)=some (.int .u32 ((x*2^s%4294967296+c:Nat):Int)):=by
   rw[tV (k:=.u32) (x:=c) (y:=x*2^s%4294967296) (show c<nH .u32 by show c<4294967296;omega) (by show x*2^s%4294967296<4294967296;omega),hlor]
  rw[e3];simp only[xA,zB];intro _ _ _;rw[s1];simp (disch:=omega) only[xA,wrap_i64];rw[show(i:Int)+1=((i+1:Nat):Int) by omega,g3b];simp only[xA,e2];intro _ _ _;rw[s4];simp only[xA];refine ih (i+1) t2 _ _ (by omega) ((ht.off hb s3).off hb s6) ((hoff.trans s3).trans s6) s5 (by simp[hP]) hhigh (Bm hPl hsum) ?_;rw[sP,hP,dX hx,sP,ybo,<- hval];have:(l.take i).length=i:=by simp;omega
  grind [Nat.div_add_mod]
theorem DJ    (hv:sA t 1 (zC .u32 l) v)(hl:l.length<900000)(hlt:mB 4294967296 l)(hs:s<32)
  (hQ:∀t' b r,iA t t'->t.get b=none->yA.base<=b->eF t' b .u32 r->r.length=l.length+1->mB 4294967296 r->val 4294967296 r=val 4294967296 l*2^s->Q (.slice b 0 (l.length+1) (l.length+1)) t'):Wc yA F 251 [v,.int .i64 s] t Q:=by
 refine w251 ?_;simp (disch:=omega) only[uI,kB,uZ,t251,tA,hv.len,xA,zB,kG,wrap_i64];intro b hb hbase;obtain⟨t',g1,g2,g3,g4⟩:=Dx (C:=yA) (k:=.u32) rQ rfl cH rfl rfl (by decide) (n:=l.length+1) (by omega) hb;rw[show(l.length:Int)+1=((l.length+1:Nat):Int) by omega,g1];simp only[xA];have:=SE hv hl hlt hs hbase hb (fun t' r a _ c d e f=>hQ t' b r a hb hbase c d e f) l.length 0 t' [] 0 (by omega) g3 g4 (by grind) rfl (Nat.pow_pos (by decide)) (fun x hx=>by cases hx) (by simp[val])
 exact this
theorem XR    (hv:sA t 1 (zC .u32 l) v)(hl:l.length<900000)(hlt:mB 4294967296 l)(hd:d<4294967296)(hd0:0<d)(hbase:yA.base<=b)(hb:t.get b=none)
  (hQ:∀t' v' q r,iA t t'->sA t' 1 (zC .u32 (wG q)) v'->mB 4294967296 q->q.length=l.length->r<d->val 4294967296 l=val 4294967296 q*d+r->Q (.tup [v',.int .u32 (r:Nat)]) t') :
  ∀(i:Nat) (t':Tr qA) (q:List Nat) (r:Nat),i<=l.length->iA t t'->eF t' b .u32 (List.replicate i 0++q)->q.length=l.length-i->mB 4294967296 q->r<d->val 4294967296 (l.drop i)=val 4294967296 q*d+r →
  jp 201 2 [v,.int .u32 d,.slice b 0 l.length l.length,.int .u32 r,.int .i64 ((i:Int)-1)] t' Q:=by
 intro i;induction i with
 | zero=>
  intro t' q r _ ht ho hq hql hr hval;refine zfv ?_;simp only[uL,uX,uZ,uW,Ul,tA,vG];rw[yaa (by omega)];rw[List.replicate_zero,yah]at ho;have hread:=ho.all (ybk _);have hqlen:q.length=l.length:=by omega
  rw[hqlen]at hread;obtain⟨v',h1,h2⟩:=Ct (l:=q) (by omega) hread;simp only[Gz,h1,xA];grind
 | succ i ih=>
  intro t' q r hi ht ho hq hql hr hval;obtain⟨x,hx⟩:=getElem?_of_lt (l:=l) (i:=i) (by omega);have hxlt:x<4294967296:=qK hlt hx;obtain⟨c,off,g1,g2⟩:=(hv.mono ht).idx xH hx;have e1:((i+1:Nat):Int)-1=(i:Int):=by omega
  have g3:=Ee xH (b:=b) (n:=l.length) (cap:=l.length) (j:=i) (by omega);have hlen0:(List.replicate (i+1) 0++q).length=l.length:=by grind
  have hdiv:=zd0 (t:=t') hr hxlt hd;have hqlt:(r*4294967296+x) / d<4294967296:=SD hr hxlt;have hrlt:(r*4294967296+x)%d<d:=ycy _ hd0;obtain⟨t1,s1,s2,s3⟩:=ho.store (C:=yA) hbase (j:=i) (by omega) ((r*4294967296+x) / d) cH rfl;have hs2:(List.replicate (i+1) 0++q).set i ((r*4294967296+x) / d)=List.replicate i 0++((r*4294967296+x) / d::q):=by
   grind [List.replicate_succ',set_append_right]
  rw[hs2]at s2;rw[e1];refine zfv ?_;simp (disch:=omega) only[uL,uX,uZ,uW,Ul,tA,vG,g1,g2,xA,zB,q231,hdiv,gE,zA.asTup,uA,g3,wrap_i64];rw[yab (by omega)];simp only[vE,yaz,yba,xA,zB];intro _ _ _;rw[s1];simp only[xA];refine ih t1 _ _ (by omega) (ht.off hb s3) s2 (by grind) ?_ hrlt ?_
  ·intro y hy;rcases ybs.1 hy with rfl | hy
   ·exact hqlt
   ·exact hql y hy
  ·rw[uR hx]
   grind [val,Nat.div_add_mod]
theorem LM    (hv:sA t 1 (zC .u32 l) v)(hl:l.length<900000)(hlt:mB 4294967296 l)(hd:d<4294967296)(hd0:0<d)
  (hQ:∀t' v' q r,iA t t'->sA t' 1 (zC .u32 (wG q)) v'->mB 4294967296 q->q.length=l.length->r<d->val 4294967296 l=val 4294967296 q*d+r->Q (.tup [v',.int .u32 (r:Nat)]) t'):Wc yA F 201 [v,.int .u32 d] t Q:=by
 refine w201 ?_;simp (disch:=omega) only[uI,uZ,uW,t201,tA,hv.len,xA,zB,kG,wrap_i64];intro b hb hbase;obtain⟨t',g1,g2,g3,g4⟩:=Dx (C:=yA) (k:=.u32) rQ rfl cH rfl rfl (by decide) (n:=l.length) (by omega) hb;rw[g1];simp only[xA];exact XR hv hl hlt hd hd0 hbase hb hQ l.length t' [] 0 (ybk _) g3 (by simp_all) (by simp) (fun x hx=>by cases hx) hd0 (by simp[val])
end Go.Proofs
namespace Go.Am
variable {B U V a b d head m top u2 ur v2 vr:Nat}{l:List Nat}
def kn_ge (hU:U=(head*B+u2)*B^m+ur)(hur:ur<B^m)(hu2:u2<B)(hV:V=(top*B+v2)*B^m+vr)(htop:0<top):U / V<=head / top:=by
 have hBm:0<B^m:=by omega
 rw[Nat.le_div_iff_mul_le htop];have h1:U / V*V<=U:=Nat.div_mul_le_self U V;have h2:top*B*B^m<=V:=by
  grind
 have h3:U<(head+1)*B*B^m:=by
  have:head*B+u2+1<=(head+1)*B:=by grind
  have:=ybi (B^m) this
  grind
 have h4:U / V*top*(B*B^m)<(head+1)*(B*B^m):=by
  calc U / V*top*(B*B^m)=U / V*(top*B*B^m):=by rw[ybj,ybj]
   _<=U / V*V:=ybv _ h2
   _<=U:=h1
   _<(head+1)*B*B^m:=h3
   _=(head+1)*(B*B^m):=by rw[ybj]
 exact Nat.lt_succ_iff.1 (Nat.lt_of_mul_lt_mul_right h4)
def kn_gt (hU:U=(head*B+u2)*B^m+ur)(hur:ur<B^m)(hV:V=(top*B+v2)*B^m+vr)(h:head*B+u2<d*(top*B+v2)):U / V<d:=by
 rcases yau (U / V) d with g | g
 ·exact g
 ·exfalso;have h1:U / V*V<=U:=Nat.div_mul_le_self U V;have h2:d*V<=U:=Nat.le_trans (ybi _ g) h1;have h3:d*(top*B+v2)*B^m<=d*V:=by simp_all [ybj,ybv]
  have h4:=ybi (B^m) (show head*B+u2+1<=d*(top*B+v2) from h)
  grind
def kn_le (hB:0<B)(hU:U=(head*B+u2)*B^m+ur)(hV:V=(top*B+v2)*B^m+vr)(hvr:vr<B^m)(htop:0<top)(hd:d<=B)(h:d*(top*B+v2)<=head*B+u2):d<=U / V+1:=by
 have hVpos:0<V:=by
  rw[hV];have:0<top*B+v2:=by have:=Nat.mul_pos htop hB;omega
  have:=Nat.mul_pos this (show 0<B^m by omega);omega
 rcases yau (U / V+1) d with g | g
 ·exfalso;have h1:(d-1)*V<=U:=by
   have e1:d*V<=d*((top*B+v2)*B^m)+d*B^m:=by
    simp_all [ybm,ybv,Nat.le_of_lt]
   have e2:d*((top*B+v2)*B^m)<=(head*B+u2)*B^m:=by rw[<- ybj];exact ybi _ h
   have e3:d*B^m<=V:=by
    have:d*B^m<=top*B*B^m:=by
     refine ybi _ (Nat.le_trans hd ?_);exact yan _ htop
    grind
   grind [Nat.sub_mul]
  have:=(Nat.le_div_iff_mul_le hVpos).2 h1;omega
 ·exact g
def top2 (hB:0<B)  (hlt:mB B l)(hl:l.length=m+2)(ha:l[m+1]?=some a)(hb:l[m]?=some b):val B l=(a*B+b)*B^m+val B (l.take m)/\val B (l.take m)<B^m:=by
 have e1:=Cj B l m;have hlen:(l.take m).length=m:=by grind
 rw[hlen]at e1;have e2:l.drop m=[b,a]:=by
  rw[uR hb,uR ha,List.drop_of_length_le (by omega)]
 grind [val,nO,Bl]
def top3 (hB:0<B) {c:Nat}(hlt:mB B l)(hl:l.length=m+3)(ha:l[m+2]?=some a)(hb:l[m+1]?=some b)(hc:l[m]?=some c):val B l=((a*B+b)*B+c)*B^m+val B (l.take m)/\val B (l.take m)<B^m:=by
 have e1:=Cj B l m;have hlen:(l.take m).length=m:=by grind
 rw[hlen]at e1;have e2:l.drop m=[c,b,a]:=by
  rw[uR hc,uR hb,uR ha,List.drop_of_length_le (by omega)]
 grind [val,nO,Bl]
end Go.Am
namespace Go.Proofs
open Go Go.Am
variable {b cap d j x:Nat}{A Z lv w:List Nat}{v:zA}{t0:Tr qA}{Q:xC}
variable [tC]
variable {t:Tr qA}
def BB:Nat:=4294967296
def oO:BB=4294967296:=rfl
def uJ:0<BB:=by decide
theorem Rh{T el:Nat}(h:eD yA T el 1 false){off n:Nat}(hj:j<n):aA yA T (.slice b off n cap) (.int .i64 (j:Int))=some (.ptr b (off+j)):=by
 have:=rP (b:=b) (off:=off) (cap:=cap) h hj
 simp_all
theorem Hg  (h:w[j]?=some x):(A++w++Z)[A.length+j]?=some x:=by
 grind
def Ln  (h:j<w.length):(A++w++Z).set (A.length+j) x=A++w.set j x++Z:=by
 rw[ybz,List.set_append_right _ _ (by omega),Nat.add_sub_cancel_left,List.set_append_left _ _ h,ybz]
theorem ZV     (hv:sA t0 1 (zC .u32 lv) v)(hl:lv.length<900000)(hlv:mB BB lv)(hbase:yA.base<=b)(hb:t0.get b=none)(hd:0<d)(hd2:d<=BB)(W:List Nat)(hWl:W.length=lv.length)(hWlt:mB BB W)(last:Nat)(hlast:last<BB)(hcap:lv.length+1<=cap)
  (hQ:∀t' r up,aC b t t'->eF t' b .u32 (A++(r++[(last+up)%BB])++Z)->r.length=lv.length->mB BB r->up<2->val BB r+BB^lv.length*up=val BB W+val BB lv->Q (.int .u32 ((d-1:Nat):Int)) t') :
  ∀(k i up:Nat) (t':Tr qA) (r:List Nat),i+k=lv.length->iA t0 t'->aC b t t'->eF t' b .u32 (A++(r++(W++[last]).drop i)++Z)->r.length=i->mB BB r->up<2->val BB r+BB^i*up=val BB (W.take i)+val BB (lv.take i) →
  jp 252 10 [.slice b A.length (lv.length+1) cap,.int .i64 lv.length,.int .u64 d,.int .u32 up,v,.int .i64 lv.length,.int .i64 i] t' Q:=by
 intro k;induction k with
 | zero=>
  intro i up t' r hi ht hoff ho hr hrl hup hval;have hi':i=lv.length:=by omega
  subst hi';have hdrop:(W++[last]).drop lv.length=[last]:=by simp_all
  rw[hdrop]at ho;refine JC ?_;have g1:=Rh xH (b:=b) (off:=A.length) (n:=lv.length+1) (cap:=cap) (j:=lv.length) (by omega);have hget:(r++[last])[lv.length]?=some last:=by simp_all
  have g2:=ho.load (Hg (A:=A) (Z:=Z) hget) cH rfl;obtain⟨t1,s1,s2,s3⟩:=ho.store (C:=yA) hbase (j:=A.length+lv.length) (by grind) ((last+up)%BB) cH rfl;rw[Ln (by grind)]at s2;have hset:(r++[last]).set lv.length ((last+up)%BB)=r++[(last+up)%BB]:=by simp_all
  rw[hset]at s2;have e1:dA .u32 ((last:Int)+(up:Int))=(((last+up)%BB:Nat):Int):=by rw[tU];show _=(((last+up)%4294967296:Nat):Int);omega
  simp only[uL,kB,uX,uZ,Ue,tA,aB,g1,g2,xA,zB,e1];rw[yaa (by omega)];intro _ _ _;rw[s1];simp only[xA];rw[yca (by omega),yca (by omega)]at hval;have e2:dA .u32 (dA .u64 ((d:Int)-1))=((d-1:Nat):Int):=by
   have:d<=4294967296:=hd2
   grind [nG,aZ]
  rw[e2];exact hQ t1 r up (hoff.trans s3) s2 hr hrl hup hval
 | succ k ih=>
  intro i up t' r hi ht hoff ho hr hrl hup hval;obtain⟨x,hx⟩:=getElem?_of_lt (l:=lv) (i:=i) (by omega);obtain⟨y,hy⟩:=getElem?_of_lt (l:=W) (i:=i) (by omega);have hxlt:x<BB:=qK hlv hx;have hylt:y<BB:=qK hWlt hy;obtain⟨c,off,g1,g2⟩:=(hv.mono ht).idx xH hx;have hy':(W++[last])[i]?=some y:=by grind
  have hdrop:(W++[last]).drop i=y::(W++[last]).drop (i+1):=uR hy';have g3:=Rh xH (b:=b) (off:=A.length) (n:=lv.length+1) (cap:=cap) (j:=i) (by omega);have hget:(r++(W++[last]).drop i)[i]?=some y:=by simp_all
  have g4:=ho.load (Hg (A:=A) (Z:=Z) hget) cH rfl;have hlen:i<(r++(W++[last]).drop i).length:=by simp_all
  obtain⟨t1,s1,s2,s3⟩:=ho.store (C:=yA) hbase (j:=A.length+i) (by grind) ((y+x+up)%BB) cH rfl;rw[Ln hlen]at s2;have hset:(r++(W++[last]).drop i).set i ((y+x+up)%BB)=(r++[(y+x+up)%BB])++(W++[last]).drop (i+1):=by
   simp_all
  rw[hset]at s2;have hadd:=zem (t:=t') (x:=y) (y:=x) (c:=up) hylt hxlt hup;refine JC ?_;simp (disch:=omega) only[uL,kB,uX,uZ,Ue,tA,aB,g1,g2,g3,g4,xA,zB,q262,hadd,gE,zA.asTup,uA,vE,yaz,yba,wrap_i64];rw[yab (by omega)];intro _ _ _;have s1':∀n,cC yA 256 (.ptr b (A.length+i)) (.int .u32 (((y+x+up)%4294967296:Nat):Int)) ⟨n,t'⟩=some (kD,⟨n,t1⟩):=s1
  rw[s1'];simp only[xA];refine ih (i+1) ((y+x+up) / BB) t1 _ (by omega) (ht.off hb s3) (hoff.trans s3) s2 (by simp[hr]) (Bm hrl (ycy _ (by decide))) ?_ ?_
  ·have h1:y<4294967296:=hylt;have h2:x<4294967296:=hxlt;show(y+x+up) / 4294967296<2;omega
  ·rw[sP,hr,dX hx,dX hy,sP,sP]
   grind [Nat.div_add_mod]
theorem CE{u low bo:Nat}(hu:u<BB)(hl:low<BB)(hb:bo<2):∃w b',w<BB/\b'<2/\u+BB*b'=w+low+bo ∧
  dA .u32 (dA .u64 (dA .u64 ((u:Int)-(low:Int))-(bo:Int)))=(w:Int)/\Int.fdiv (dA .u64 (dA .u64 ((u:Int)-(low:Int))-(bo:Int))) 9223372036854775808=(b':Int):=by
 have hu:u<4294967296:=hu;have hl:low<4294967296:=hl;rcases yau u (low+bo)with g | g
 ·refine⟨u+BB-low-bo,1,by omega,by omega,by omega,?_,?_⟩
  ·rw[tU,Nn,Nn];show _=((u+4294967296-low-bo:Nat):Int);omega
  grind [Nn]
 ·refine⟨u-low-bo,0,by omega,by omega,by omega,?_,?_⟩
  all_goals grind [tU,Nn]
theorem VF{lu:List Nat}    (hv:sA t0 1 (zC .u32 lv) v)(hl:lv.length<900000)(hlv:mB BB lv)(hbase:yA.base<=b)(hb:t0.get b=none)(hd:d<BB)(hlul:lu.length=lv.length+1)(hlu:mB BB lu)(hcap:lv.length+1<=cap)
  (hQ:∀t' (W:List Nat) last bo,iA t0 t'->aC b t t'->eF t' b .u32 (A++(W++[last])++Z)->W.length=lv.length->mB BB W->last<BB->bo<2->val BB (W++[last])+d*val BB lv=val BB lu+BB^(lv.length+1)*bo →
   if bo=0 then Q (.int .u32 (d:Int)) t' else jp 252 10 [.slice b A.length (lv.length+1) cap,.int .i64 lv.length,.int .u64 d,.int .u32 0,v,.int .i64 lv.length,.int .i64 (0:Nat)] t' Q) :
  ∀(k i carry borrow:Nat) (t':Tr qA) (W:List Nat),i+k=lv.length->iA t0 t'->aC b t t'->eF t' b .u32 (A++(W++lu.drop i)++Z)->W.length=i->mB BB W->carry<BB->borrow<2->val BB W+d*val BB (lv.take i)=val BB (lu.take i)+BB^i*(carry+borrow) →
  jp 252 6 [.slice b A.length (lv.length+1) cap,v,.int .i64 lv.length,.int .u64 d,.int .u64 carry,.int .u64 borrow,v,.int .i64 lv.length,.int .i64 i] t' Q:=by
 intro k;induction k with
 | zero=>
  intro i carry borrow t' W hi ht hoff ho hW hWl hc hbo hval;have hi':i=lv.length:=by omega
  subst hi';obtain⟨x,hx⟩:=getElem?_of_lt (l:=lu) (i:=lv.length) (by omega);have hxlt:x<BB:=qK hlu hx;have hdrop:lu.drop lv.length=[x]:=by rw[uR hx,List.drop_of_length_le (by omega)]
  rw[hdrop]at ho;obtain⟨w,bo,hw,hbo',hsum,e1,e2⟩:=CE hxlt hc hbo;have g1:=Rh xH (b:=b) (off:=A.length) (n:=lv.length+1) (cap:=cap) (j:=lv.length) (by omega);have hget:(W++[x])[lv.length]?=some x:=by simp_all
  have g2:=ho.load (Hg (A:=A) (Z:=Z) hget) cH rfl;obtain⟨t1,s1,s2,s3⟩:=ho.store (C:=yA) hbase (j:=A.length+lv.length) (by grind) w cH rfl;rw[Ln (by grind)]at s2;have hset:(W++[x]).set lv.length w=W++[w]:=by simp_all
  rw[hset]at s2;have hx32:x<4294967296:=hxlt;have e0:dA .u64 (x:Int)=(x:Int):=nG (by omega) (by omega);refine zfn ?_;simp only[uI,uL,kB,uZ,Uc,tA,aB,g1,g2,xA,zB,e0,e1,e2,qE];rw[yaa (by omega)];intro _ _ _;rw[s1];simp only[xA];have hfin:=hQ t1 W w bo (ht.off hb s3) (hoff.trans s3) s2 hW hWl hw hbo' (by
   grind [sP,val,Cj])
  by_cases hz:bo=0
  ·rw[yab (by omega)];rw[yab hz]at hfin;have hd32:d<4294967296:=hd
   grind [aZ]
  ·rw[yaa (by omega)];rw[yaa hz]at hfin;simp only[(hv.mono (ht.off hb s3)).len,xA,zB,kG];exact hfin
 | succ k ih=>
  intro i carry borrow t' W hi ht hoff ho hW hWl hc hbo hval;obtain⟨x,hx⟩:=getElem?_of_lt (l:=lu) (i:=i) (by omega);obtain⟨y,hy⟩:=getElem?_of_lt (l:=lv) (i:=i) (by omega);have hxlt:x<BB:=qK hlu hx;have hylt:y<BB:=qK hlv hy;have hd32:d<4294967296:=hd;have hx32:x<4294967296:=hxlt;have hy32:y<4294967296:=hylt;have hc32:carry<4294967296:=hc;have hdrop:lu.drop i=x::lu.drop (i+1):=uR hx
  obtain⟨c,off,g1,g2⟩:=(hv.mono ht).idx xH hy;have g3:=Rh xH (b:=b) (off:=A.length) (n:=lv.length+1) (cap:=cap) (j:=i) (by omega);have hget:(W++lu.drop i)[i]?=some x:=by simp_all
  have g4:=ho.load (Hg (A:=A) (Z:=Z) hget) cH rfl;have hprod:d*y<=4294967295*4294967295:=ydb (by omega) (by omega);obtain⟨P,hP⟩:∃P,P=d*y+carry:=⟨_,rfl⟩;have hPlt:P<18446744073709551616:=by omega
  have hPhi:P / 4294967296<4294967296:=by omega
  obtain⟨w,bo,hw,hbo',hsum,e1,e2⟩:=CE (u:=x) (low:=P%4294967296) (bo:=borrow) hxlt (ycy _ (by decide)) hbo;obtain⟨t1,s1,s2,s3⟩:=ho.store (C:=yA) hbase (j:=A.length+i) (by simp_all) w cH rfl;rw[Ln (by simp_all)]at s2;have hset:(W++lu.drop i).set i w=(W++[w])++lu.drop (i+1):=by simp_all
  rw[hset]at s2;have e0:dA .u64 (x:Int)=(x:Int):=nG (by omega) (by omega);have e0':dA .u64 (y:Int)=(y:Int):=nG (by omega) (by omega);have e3:(d:Int)*(y:Int)=((d*y:Nat):Int):=(Int.natCast_mul d y).symm;have e4:dA .u64 ((d*y:Nat):Int)=((d*y:Nat):Int):=by
   grind [nG]
  have e5:dA .u64 (((d*y:Nat):Int)+(carry:Int))=(P:Int):=by
   rw[hP,<- Int.natCast_add];grind [nG]
  have e6:dA .u64 (dA .u32 (P:Int))=((P%4294967296:Nat):Int):=by
   grind [tU,nG]
  have e7:Int.fdiv (P:Int) 4294967296=((P / 4294967296:Nat):Int):=qZ P 4294967296;refine zfn ?_;simp only[uI,uL,kB,uZ,Uc,tA,aB,g1,g2,g3,g4,xA,zB,e0,e0',e3,e4,e5,e6,e7,e1,e2];rw[yab (by omega)];intro _ _ _;rw[s1];simp (disch:=omega) only[xA,wrap_i64];refine ih (i+1) (P / 4294967296) bo t1 _ (by omega) (ht.off hb s3) (hoff.trans s3) s2 (by simp[hW]) (Bm hWl hw) hPhi hbo' ?_
  rw[sP,hW,dX hx,dX hy,sP,sP];have l1:(lu.take i).length=i:=by simp;omega
  have l2:(lv.take i).length=i:=by simp;omega
  grind [Nat.div_add_mod,BB]
attribute [irreducible] BB
end Go.Proofs
namespace Go.Proofs
open Go Go.Am
section
variable [tC]
variable {t:Tr qA}
theorem or32{x y:Nat}(hx:x<4294967296)(hy:y<4294967296):qJ Nat.lor .u64 ((x*4294967296:Nat):Int) (y:Int)=some (.int .u64 ((x*4294967296+y:Nat):Int)):=by
 have h:=Gn (a:=x) (b:=y) (n:=32) hy;have e:(2:Nat)^32=4294967296:=by decide
 rw[e]at h;rw[tV (k:=.u64) (show x*4294967296<nH .u64 by show _<18446744073709551616;omega) (show y<nH .u64 by show _<18446744073709551616;omega),h]
theorem WP{lu lv:List Nat}{u v:zA}{Q:xC}{m head top u2 v2 U V ur vr:Nat}(hu:sA t 1 (zC .u32 lu) u)(hv:sA t 1 (zC .u32 lv) v)(hl:m<900000)(hu2:lu[m]?=some u2)(hv2:lv[m]?=some v2)(hu2lt:u2<BB)(hv2lt:v2<BB)(htop:0<top)(htoplt:top<BB)
  (hU:U=(head*BB+u2)*BB^m+ur) (hur:ur<BB^m) (hV:V=(top*BB+v2)*BB^m+vr) (hvr:vr<BB^m) (hq:U / V<BB) (hhead:head<=top*BB+(BB-1))
  (hexit:∀d,U / V<=d->d<=U / V+1->d<BB->jp 252 19 [u,v,.int .i64 (m+2:Nat),.int .u64 d] t Q) :
  ∀(d rest:Nat),d*top+rest=head->U / V<=d->d<=BB+1->rest<BB->jp 252 2 [u,v,.int .i64 (m+2:Nat),.int .u64 top,.int .u64 d,.int .u64 rest] t Q:=by
 intro d;induction d with
 | zero=>
  intro rest hsum hge _ hrest;have hBB:=oO;have hr32:rest<4294967296:=by omega
  obtain⟨b,off,g1,g2⟩:=hv.idx xH hv2;obtain⟨c,off',g3,g4⟩:=hu.idx xH hu2;have hu32:u2<4294967296:=by omega
  have hv32:v2<4294967296:=by omega
  obtain⟨D,hD⟩:∃D:Int,((0:Nat):Int)=D:=⟨_,rfl⟩;rw[hD];refine zfo ?_;unfold Ud uQ16 uL uE uZ uW;generalize hC:(4294967296:Int)=C;generalize hG:qJ Nat.lor .u64 (dA .u64 ((rest:Int)*C))=G;have e4:D*(v2:Int)=0:=by grind
  have e1:((m+2:Nat):Int)-2=(m:Int):=by omega
  have e2:(rest:Int)*C=((rest*4294967296:Nat):Int):=by simp_all
  have e3:G (u2:Int)=some (.int .u64 ((rest*4294967296+u2:Nat):Int)):=by rw[<- hG,e2,nG (by omega) (by omega)];grind [or32]
  simp only[tA,vG];rw[yaa (by omega)];simp (disch:=omega) only[e1,wrap_i64,g1,xA];rw[g2];simp only[xA,zB,g3];rw[g4,xA,zB,xA,nG (n:=(u2:Int)) (by omega) (by omega),e3,xA,zB,xA,nG (n:=(v2:Int)) (by omega) (by omega),e4,nG (n:=0) (by decide) (by decide)]
  grind [aB]
 | succ d ih=>
  intro rest hsum hge hle hrest;have hBB:=oO;have hr32:rest<4294967296:=by omega
  have ht32:top<4294967296:=by omega
  have hle32:d+1<=4294967296+1:=by omega
  have hsum':d*top+(rest+top)=head:=by grind
  obtain⟨D,hD⟩:∃D:Int,((d+1:Nat):Int)=D:=⟨_,rfl⟩;rw[hD];have e1:D-1=(d:Int):=by omega
  have e0:(rest:Int)+(top:Int)=((rest+top:Nat):Int):=by omega
  have less:U / V<=d->(if (4294967296:Int)<=((rest+top:Nat):Int)then jp 252 19 [u,v,.int .i64 (m+2:Nat),.int .u64 d] t Q else jp 252 2 [u,v,.int .i64 (m+2:Nat),.int .u64 top,.int .u64 d,.int .u64 ((rest+top:Nat):Int)] t Q):=by
   intro hge';split
   ·rename_i hb;have hb':BB<=rest+top:=by omega
    have hdlt:d<BB:=by
     grind
    refine hexit d hge' ?_ hdlt;refine kn_le uJ hU hV hvr htop (Nat.le_of_lt hdlt) ?_;have h1:d*v2<=BB*BB:=ydb (Nat.le_of_lt hdlt) (Nat.le_of_lt hv2lt);have h2:BB*BB<=(rest+top)*BB:=ybi _ hb';have h3:head*BB=d*top*BB+(rest+top)*BB:=by rw[<- hsum',ybo]
    grind
   ·rename_i hb;exact ih (rest+top) hsum' hge' (by omega) (by omega)
  refine zfo ?_;unfold Ud uQ16 uL uE uZ uW;generalize hC:(4294967296:Int)=C;generalize hG:qJ Nat.lor .u64 (dA .u64 ((rest:Int)*C))=G;by_cases hbig:4294967296<=d+1
  ·simp (disch:=omega) only[tA,vG,e0,e1,nG];rw[yab (by omega)]
   grind
  ·obtain⟨b,off,g1,g2⟩:=hv.idx xH hv2;obtain⟨c,off',g3,g4⟩:=hu.idx xH hu2;have hu32:u2<4294967296:=by omega
   have hv32:v2<4294967296:=by omega
   have e5:((m+2:Nat):Int)-2=(m:Int):=by omega
   have e2:(rest:Int)*C=((rest*4294967296:Nat):Int):=by simp_all
   have e6:dA .u64 (D*(v2:Int))=(((d+1)*v2:Nat):Int):=by
    rw[<- hD,<- Int.natCast_mul];have:(d+1)*v2<=4294967295*4294967295:=ydb (by omega) (by omega)
    grind [nG]
   have e3:G (u2:Int)=some (.int .u64 ((rest*4294967296+u2:Nat):Int)):=by rw[<- hG,e2,nG (by omega) (by omega)];grind [or32]
   simp only[tA,vG];rw[yaa (by omega)];simp (disch:=omega) only[e5,wrap_i64,g1,xA];rw[g2];simp only[xA,zB,g3];rw[g4,xA,zB,xA,nG (n:=(u2:Int)) (by omega) (by omega),e3,xA,zB,xA,nG (n:=(v2:Int)) (by omega) (by omega),e6];have e7:dA .u64 ((rest:Int)+(top:Int))=((rest+top:Nat):Int):=by rw[e0];exact nG (by omega) (by omega)
   have e8:dA .u64 (D-1)=(d:Int):=by rw[e1];grind [nG]
   rw[e7,e8];have key:(d+1)*(top*BB+v2)=(d+1)*top*BB+(d+1)*v2:=by rw[ybm,<- ybj]
   have key2:head*BB=(d+1)*top*BB+rest*BB:=by rw[<- hsum,ybo]
   by_cases htest:rest*4294967296+u2<(d+1)*v2
   ·rw[yab (aB.2 (by omega))];subst hC;refine less (Nat.lt_succ_iff.1 (kn_gt hU hur hV ?_))
    grind
   ·rw[yaa (fun h=>absurd (aB.1 h) (by omega))];rw[<- hD];refine hexit (d+1) hge (kn_le uJ hU hV hvr htop (by omega) ?_) (by omega)
    grind
end
section
variable [tC]
variable {t:Tr qA}
def zdz{A lu lv Z:List Nat}{v:zA}{b cap m:Nat}{t0 t':Tr qA}{Q:xC}(hv:sA t0 1 (zC .u32 lv) v)(hl:lv.length=m+2)(hm:m<800000)(hlv:mB BB lv)(hbase:yA.base<=b)(hb:t0.get b=none)(hlul:lu.length=m+3)(hlu:mB BB lu)(hcap:m+3<=cap)
  (htop:∀top,lv[m+1]?=some top->2147483648<=top) (hlt:val BB lu<BB*val BB lv) (ht:iA t0 t') (hoff:aC b t t') (ho:eF t' b .u32 (A++lu++Z))
  (hQ:∀t2 r,iA t0 t2->aC b t t2->eF t2 b .u32 (A++(r++[0])++Z)->r.length=m+2->mB BB r->val BB r=val BB lu%val BB lv->val BB lu / val BB lv<BB->Q (.int .u32 ((val BB lu / val BB lv:Nat):Int)) t2) :
  Wc yA F 252 [.slice b A.length (m+3) cap,v] t' Q:=by
 obtain⟨top,h1⟩:=getElem?_of_lt (l:=lv) (i:=m+1) (by omega);obtain⟨v2,h2⟩:=getElem?_of_lt (l:=lv) (i:=m) (by omega);obtain⟨un,h3⟩:=getElem?_of_lt (l:=lu) (i:=m+2) (by omega);obtain⟨u1,h4⟩:=getElem?_of_lt (l:=lu) (i:=m+1) (by omega);obtain⟨u2,h5⟩:=getElem?_of_lt (l:=lu) (i:=m) (by omega);have b1:top<BB:=qK hlv h1;have b2:v2<BB:=qK hlv h2;have b3:un<BB:=qK hlu h3;have b4:u1<BB:=qK hlu h4
 have b5:u2<BB:=qK hlu h5;have hBB:=oO;have c1:top<4294967296:=by omega
 have c3:un<4294967296:=by omega
 have c4:u1<4294967296:=by omega
 have htop2:=htop top h1;obtain⟨hV,hvr⟩:=top2 (B:=BB) uJ hlv hl h1 h2;obtain⟨hU,hur⟩:=top3 (B:=BB) uJ hlu hlul h3 h4 h5;have hVpos:0<val BB lv:=by
  have:0<(top*BB+v2)*BB^m:=Nat.mul_pos (by have:0<top*BB:=Nat.mul_pos (by omega) uJ;omega) (Nat.pow_pos uJ);omega
 have hq:val BB lu / val BB lv<BB:=ycu (by rw[ybh];exact hlt);have hread:sA t' 1 (zC .u32 lu) (.slice b A.length (m+3) cap):=by
  have:=ho.slice (off:=A.length) (n:=m+3) (cap:=cap) (by simp;omega) hcap;rw[ybz,List.drop_left,List.take_left' hlul]at this;exact this
 have hv':=hv.mono ht;obtain⟨d1,o1,g1,g1'⟩:=hread.idx xH h3;obtain⟨d2,o2,g2,g2'⟩:=hread.idx xH h4;obtain⟨d3,o3,g3,g3'⟩:=hv'.idx xH h1;have hun:un<=top:=by
  rcases yau top un with g | g
  ·exfalso;have e1:(un*BB)*BB*BB^m<=val BB lu:=by rw[hU,ybo,ybo,ybo];omega
   have e2:val BB lv<(top+1)*BB*BB^m:=by
    have h:top*BB+v2+1<=(top+1)*BB:=by rw[ybo];omega
    have:=ybi (BB^m) h;rw[ybo (top*BB+v2) 1,Nat.one_mul]at this;omega
   have e3:BB*val BB lv<BB*((top+1)*BB*BB^m):=Nat.mul_lt_mul_of_pos_left e2 uJ;have e4:BB*((top+1)*BB*BB^m)<=un*BB*BB*BB^m:=by
    have:(top+1)*BB*BB^m<=un*BB*BB^m:=ybi _ (ybi _ g);have:=ybv BB this
    calc BB*((top+1)*BB*BB^m)<=BB*(un*BB*BB^m):=this
     _=un*BB*BB*BB^m:=by rw[<- ybj,ybh BB (un*BB)]
   omega
  ·exact g
 have hh:un*BB+u1<=top*BB+(BB-1):=by
  have:=ybi BB hun;omega
 have hge:val BB lu / val BB lv<=(un*BB+u1) / top:=kn_ge hU hur b5 hV (by omega);have hdle:(un*BB+u1) / top<=BB+1:=by
  have:un*BB+u1<(BB+2)*top:=by
   rw[ybo,ybh BB top];generalize top*BB=P at hh ⊢;generalize un*BB=R at hh ⊢;omega
  have:=ycu (show un*BB+u1<top*(BB+2) by rw[ybh top];exact this);omega
 have hrest:(un*BB+u1)%top<BB:=Nat.lt_trans (ycy _ (by omega)) b1;refine w252 ?_;have e1:((lv.length:Nat):Int)=((m+2:Nat):Int):=by rw[hl]
 have e2:((m+2:Nat):Int)-1=((m+1:Nat):Int):=by omega
 have e3:(un:Int)*4294967296=((un*4294967296:Nat):Int):=by omega
 simp (disch:=omega) only[uI,uL,uE,uZ,uW,t252,tA,hv'.len,xA,zB,kG,e1,g1,g1',e2,wrap_i64,g2,g2',g3,g3',nG,e3];have e4:qJ Nat.lor .u64 ((un*4294967296:Nat):Int) (u1:Int)=some (.int .u64 ((un*4294967296+u1:Nat):Int)):=by
  rw[tV (k:=.u64) (show un*4294967296<nH .u64 by show _<18446744073709551616;omega) (show u1<nH .u64 by show _<18446744073709551616;omega)];have:=Gn (a:=un) (b:=u1) (n:=32) c4;rw[show un*4294967296=un*2^32 by rfl,this]
 rw[e4];simp only[xA,zB];have e5:zZ .u64 ((un*4294967296+u1:Nat):Int) (top:Int)=some (.int .u64 (((un*4294967296+u1) / top:Nat):Int)):=Yj (by omega) (by
  have h:(un*4294967296+u1) / top<=4294967296+1:=by rw[hBB]at hdle;exact hdle
  generalize (un*4294967296+u1) / top=z at h ⊢;exact nG (by omega) (by omega))
 rw[e5];simp only[xA,zB];rw[Ri (by omega)];simp only[xA,zB];refine WP hread hv' (by omega) h5 h2 b5 b2 (by omega) b1 hU hur hV hvr hq hh (fun d q1 q2 q3=>?_) _ _ ?_ (by rw[hBB]at hge ⊢;exact hge) (by rw[hBB]at hdle ⊢;exact hdle) (by rw[hBB]at hrest ⊢;exact hrest)
 ·refine zig ?_;simp only[uI,uZ,BZ,tA,hv'.len,xA,zB,kG,e1];have hms:=VF (t:=t) (A:=A) (Z:=Z) (lu:=lu) (lv:=lv) (v:=v) (b:=b) (cap:=cap) (d:=d) (t0:=t0) (Q:=Q) hv (by omega) hlv hbase hb q3 (by omega) hlu (by omega) ?_ lv.length 0 0 0 t' [] (by omega) ht hoff (by simpa using ho) rfl (fun x hx=>by cases hx) (by first | omega | decide) (by first | omega | decide) (by simp[val])
  ·rw[hl]at hms;exact hms
  ·intro t2 W last bo k1 k2 k3 k4 k5 k6 k7 k8;have hWall:val BB (W++[last])<BB^(lv.length+1):=by
    have:=nO (B:=BB) uJ (Bm k5 k6);simp only[ybg,ybn,ybx,k4]at this;exact this
   have hVlt:val BB lv<BB^lv.length:=nO uJ hlv;have hdm:=ych (val BB lu) (val BB lv);have hmod:val BB lu%val BB lv<val BB lv:=ycy _ hVpos;have hWs:val BB (W++[last])=val BB W+BB^lv.length*last:=by rw[sP,k4]
   split
   ·rename_i hz;subst hz;rw[yat,yct]at k8;have hd:d=val BB lu / val BB lv:=by
     refine Nat.le_antisymm ?_ q1;rw[Nat.le_div_iff_mul_le hVpos];omega
    have hr:val BB (W++[last])=val BB lu%val BB lv:=by
     rw[hd,ybh]at k8;omega
    have hlast:last=0:=by
     rcases yav last with g | g
     ·exact g
     ·exfalso;have:=ybv (BB^lv.length) g;rw[Nat.mul_one]at this;omega
    subst hlast;rw[hd];exact hQ t2 W k1 k2 k3 (by omega) k5 (by rw[<- hr,hWs];simp) hq
   ·rename_i hz;have hbo:bo=1:=by omega
    subst hbo;rw[Nat.mul_one]at k8;have hd:d=val BB lu / val BB lv+1:=by
     refine Nat.le_antisymm q2 ?_;rcases yau (val BB lu / val BB lv) d with g | g
     ·exact g
     ·exfalso;have:d*val BB lv<=val BB lu:=Nat.le_trans (ybi _ g) (Nat.div_mul_le_self _ _);omega
    have hk9:val BB (W++[last])+val BB lv=val BB lu%val BB lv+BB^(lv.length+1):=by
     rw[hd,ybo,Nat.one_mul,ybh (val BB lu / val BB lv)]at k8;omega
    refine ZV (t:=t) (A:=A) (Z:=Z) (t0:=t0) hv (by omega) hlv hbase hb (by rw[hd];exact Nat.succ_pos _) (by omega) W k4 k5 last k6 (by omega) (fun t3 r up n1 n2 n3 n4 n5 n6=>?_) lv.length 0 0 t2 [] (by omega) k1 k2 (by simpa using k3) rfl (fun x hx=>by cases hx) (by first | omega | decide) (by simp[val])
    have hrlt:val BB r<BB^lv.length:=by
     have:=nO (B:=BB) uJ n4;rw[n3]at this;exact this
    rw[hWs,yag]at hk9;have hfin:val BB r+BB^lv.length*(up+last)=val BB lu%val BB lv+BB^lv.length*BB:=by
     rw[ybm];omega
    have hsplit:up+last=BB/\val BB r=val BB lu%val BB lv:=by
     have hmlt:val BB lu%val BB lv<BB^lv.length:=by omega
     have hB:0<BB^lv.length:=by omega
     have e1:(val BB r+BB^lv.length*(up+last)) / BB^lv.length=up+last:=by rw[Nat.add_mul_div_left _ _ hB,Nat.div_eq_of_lt hrlt];simp
     have e2:(val BB lu%val BB lv+BB^lv.length*BB) / BB^lv.length=BB:=by rw[Nat.add_mul_div_left _ _ hB,Nat.div_eq_of_lt hmlt];simp
     rw[hfin,e2]at e1;refine⟨e1.symm,?_⟩;rw[<- e1]at hfin;omega
    have hl0:(last+up)%BB=0:=by rw[yap,hsplit.1];exact Nat.mod_self _
    rw[hl0]at n2;have hd1:d-1=val BB lu / val BB lv:=by rw[hd];exact Nat.add_sub_cancel _ _
    rw[hd1];exact hQ t3 r (k1.off hb (fun c hc=>by
     rw[n1 c hc,<- k2 c hc])) n1 n2 (by omega) n4 hsplit.2 hq
 ·rw[ybh,hBB];exact ych _ _
end
end Go.Proofs
namespace Go.Am
def PY{B p K:Nat}(hB:B=p*K)(hp:0<p)(hK:0<K){x y:Nat}{l:List Nat}(hx:x<B) :
  val B (x::y::l) / p=(y*B+x) / p%B+B*(val B (y::l) / p):=by
 have e1:val B (x::y::l)=x+p*(K*val B (y::l)):=by
  show x+B*val B (y::l)=_;rw[hB,ybj]
 have e2:y*B+x=x+p*(K*y):=by rw[hB,yap,ybh y,ybj]
 have e3:val B (y::l)%p=y%p:=by
  show(y+B*val B l)%p=_;rw[hB,ybj,Nat.add_mul_mod_self_left]
 have e4:K*y=K*(y%p)+B*(y / p):=by
  grind [Nat.div_add_mod]
 have e5:K*val B (y::l)=K*(y%p)+B*(val B (y::l) / p):=by
  grind [Nat.div_add_mod]
 have e6:x / p<K:=ycu (by omega);have e7:x / p+K*(y%p)<B:=by
  have h1:y%p<p:=ycy _ hp;have h2:K*(y%p+1)<=K*p:=ybv _ h1
  grind
 rw[e1,Nat.add_mul_div_left _ _ hp,e2,Nat.add_mul_div_left _ _ hp,e4,<- Nat.add_assoc,Nat.add_mul_mod_self_left,Nat.mod_eq_of_lt e7,e5,<- Nat.add_assoc]
end Go.Am
namespace Go.Proofs
open Go Go.Am
variable [tC]
variable {t:Tr qA}
theorem RU{l:List Nat}{b L lo hi:Nat}(ho:eF t b .u32 l)(h1:lo<=hi)(h2:hi<=L)(h3:lo<L) :
  nF yA 253 ⟨0,t⟩ (.slice b 0 L L) (some (.int .i64 (lo:Int))) (some (.int .i64 (hi:Int)))=some (.slice b lo (hi-lo) (L-lo)):=by
 obtain⟨c,hg,_⟩:=ho;obtain⟨⟨y,hy1,hy2⟩,⟨z,hz1,hz2,hz3⟩⟩:=xH;unfold nF;rw[hy1,uA];have hb:∀y (k:Nat),xU y (.int .i64 (k:Int))=vB (Nat.ble k y) (some k):=fun y k=>rfl;unfold aK;simp only[zA.asStr,zA.asSlice];rw[hy2,uA];unfold qN;rw[hz1,uA];unfold qO wX;simp only[hb];rw[show Nat.ble hi L=true from pE.2 h2];simp only[mD,uA];rw[show Nat.ble lo hi=true from pE.2 h1];simp only[mD,uA];have he2:kJ ⟨0,t⟩ b z.size L lo false=false:=by
  unfold kJ rD;rw[hg,uA];rfl
 rw[he2,yay,cond_false];have hf:jK ⟨0,t⟩ b z.size L lo false=true:=by
  unfold jK rD;rw[hg,uA];rfl
 rw[show Nat.ble hi L=true from pE.2 h2,hf];simp only[Bool.and_self,mD];have hq:Nat.beq L lo=false:=by
  grind [gC]
 rw[hq,cond_false,hz2,Nat.mul_one,ybw]
theorem PZ{qv:zA}{Z c:List Nat}{b n s L cn:Nat}{Q:xC}(hn:n<900000)(hc:c.length=n+1)(hcl:mB BB c)(hcn:c[n]?=some cn)(hbase:yA.base<=b)(hs:s<32)(hL:n+1<=L)
  (hexit:∀t' W,aC b t t'->eF t' b .u32 (W++[cn]++Z)->W.length=n->mB BB W->val BB W+BB^n*(cn / 2^s)=val BB c / 2^s->jp 227 6 [.int .i64 (n:Int),.int .i64 (s:Int),.slice b 0 L L,qv,.int .i64 (n:Int),.int .i64 (n:Int)] t' Q) :
  ∀(k i:Nat) (t':Tr qA) (W:List Nat),i+k=n->aC b t t'->eF t' b .u32 (W++c.drop i++Z)->W.length=i->mB BB W->val BB W+BB^i*(val BB (c.drop i) / 2^s)=val BB c / 2^s →
  jp 227 6 [.int .i64 (n:Int),.int .i64 (s:Int),.slice b 0 L L,qv,.int .i64 (n:Int),.int .i64 (i:Int)] t' Q:=by
 intro k;induction k with
 | zero=>
  intro i t' W hi hoff ho hW hWl hval;have hi':i=n:=by omega
  subst hi';have hd:c.drop i=[cn]:=by
   rw[uR hcn,ybt (by omega)]
  grind [val]
 | succ k ih=>
  intro i t' W hi hoff ho hW hWl hval;have hBB:=oO;obtain⟨x,hx⟩:=getElem?_of_lt (l:=c) (i:=i) (by omega);obtain⟨y,hy⟩:=getElem?_of_lt (l:=c) (i:=i+1) (by omega);have hx32:x<4294967296:=by have:=qK hcl hx;omega
  have hy32:y<4294967296:=by have:=qK hcl hy;omega
  have hd1:c.drop (i+1)=y::c.drop (i+2):=uR hy;have hd0:c.drop i=x::y::c.drop (i+2):=by rw[uR hx,hd1]
  have m0:=Hg (A:=W) (w:=c.drop i) (Z:=Z) (j:=0) (x:=x) (by grind);have m1:=Hg (A:=W) (w:=c.drop i) (Z:=Z) (j:=1) (x:=y) (by grind);rw[hW]at m0 m1;rw[yct]at m0;have g0:=Ee xH (b:=b) (n:=L) (cap:=L) (j:=i) (by omega);have g1:=Ee xH (b:=b) (n:=L) (cap:=L) (j:=i+1) (by omega);have l0:=ho.load (C:=yA) m0 cH rfl;have l1:=ho.load (C:=yA) m1 cH rfl;have ei:(i:Int)+1=((i+1:Nat):Int):=by omega
  have e2:(y:Int)*4294967296=((y*4294967296:Nat):Int):=by omega
  obtain⟨t1,s1,s2,s3⟩:=ho.store (C:=yA) hbase (j:=i) (by grind) ((y*4294967296+x) / 2^s%4294967296) cH rfl;have hset:=Ln (A:=W) (w:=c.drop i) (Z:=Z) (j:=0) (x:=(y*4294967296+x) / 2^s%4294967296) (by grind);rw[yct,hW]at hset;rw[hset]at s2;refine zfs ?_;simp only[uL,uE,kB,uZ,Ui,tA,aB];rw[yab (by omega)];simp (disch:=omega) only[ei,wrap_i64,g0,g1,xA,l0,l1,zB];rw[nG (n:=(y:Int)) (by omega) (by omega),e2,nG (n:=((y*4294967296:Nat):Int)) (by omega) (by omega),nG (n:=(x:Int)) (by omega) (by omega),or32 hy32 hx32,xA,zB,xA,JO (by omega),xA,zB,xA]
  have e3:dA .u32 (((y*4294967296+x) / 2^s:Nat):Int)=(((y*4294967296+x) / 2^s%4294967296:Nat):Int):=by
   grind [tU]
  rw[e3];intro _ _ _;rw[s1,xA];have hw:(y*4294967296+x) / 2^s%4294967296<BB:=by omega
  refine ih (i+1) t1 (W++[(y*4294967296+x) / 2^s%4294967296]) (by omega) (hoff.trans s3) ?_ (by simp[hW]) (Bm hWl hw) ?_
  ·grind
  ·have hst:=PY (B:=BB) (p:=2^s) (K:=2^(32-s)) (by rw[<- Nat.pow_add,show s+(32-s)=32 by omega,hBB]) (Nat.pow_pos (by decide)) (Nat.pow_pos (by decide)) (x:=x) (y:=y) (l:=c.drop (i+2)) (by omega);rw[<- hval,hd0,hst,sP,hW,hd1,yag,ybm,hBB];grind
end Go.Proofs
namespace Go.Proofs
open Go Go.Am
variable [tC]
variable {t:Tr qA}
theorem XU{lv:List Nat}{v:zA}{b bq m s L Lq U:Nat}{t0:Tr qA}{Q:xC}(hv:sA t0 1 (zC .u32 lv) v)(hl:lv.length=m+2)(hm:m<800000)(hlv:mB BB lv)(hbase:yA.base<=b)(hbaseq:yA.base<=bq)(hb:t0.get b=none)(hbq:t0.get bq=none)(hne:b≠bq)(hL:L<1000000)
  (htop:∀top,lv[m+1]?=some top->2147483648<=top) (hVpos:0<val BB lv)
  (hexit:∀t' q r Z,iA t0 t'->eF t' b .u32 (r++[0]++Z)->eF t' bq .u32 q->r.length=m+2->mB BB r->mB BB q->q.length=Lq->m+3+Z.length=L->val BB r<val BB lv->U=val BB lv*val BB q+val BB r->jp 227 6 [.int .i64 ((m+2:Nat):Int),.int .i64 (s:Int),.slice b 0 L L,.slice bq 0 Lq Lq,.int .i64 ((m+2:Nat):Int),.int .i64 0] t' Q) :
  ∀(j:Nat) (A c Z Qd:List Nat) (t':Tr qA),A.length=j->c.length=m+3->mB BB A->mB BB c->mB BB Qd->A.length+(m+3)+Z.length=L->j+1+Qd.length=Lq->val BB c<BB*val BB lv->iA t0 t'->eF t' b .u32 (A++c++Z)->eF t' bq .u32 (List.replicate (j+1) 0++Qd)->U=val BB lv*(BB^(j+1)*val BB Qd)+val BB (A++c) →
  jp 227 2 [.int .i64 ((m+2:Nat):Int),.int .i64 (s:Int),v,.slice b 0 L L,.slice bq 0 Lq Lq,.int .i64 (j:Int)] t' Q:=by
 intro j;induction j using Nat.strongRecOn with
 | ind j ih=>
  intro A c Z Qd t' hA hc hAl hcl hQl hLen hLq hlt ht ho hoq hU;have gs:=RU (b:=b) (L:=L) (lo:=j) (hi:=j+(m+2)+1) ho (by omega) (by omega) (by omega);rw[show j+(m+2)+1-j=m+3 by omega]at gs;have e1:(j:Int)+((m+2:Nat):Int)=((j+(m+2):Nat):Int):=by omega
  have e2:((j+(m+2):Nat):Int)+1=((j+(m+2)+1:Nat):Int):=by omega
  refine zft ?_;simp only[uL,uZ,uW,Uj,tA,vG];rw[yab (by omega)];simp (disch:=omega) only[e1,wrap_i64,e2,gs,xA,q252];subst hA;refine zdz (A:=A) (Z:=Z) (t:=t') (t0:=t0) hv hl hm hlv hbase hb hc hcl (by omega) htop hlt ht (aC.refl _ _) ho (fun t2 r k1 k2 k3 k4 k5 k6 k7=>?_);have hoq2:=hoq.off (fun e=>hne e.symm) k2;have g1:=Ee xH (b:=bq) (n:=Lq) (cap:=Lq) (j:=A.length) (by omega)
  obtain⟨t3,s1,s2,s3⟩:=hoq2.store (C:=yA) hbaseq (j:=A.length) (by grind) (val BB c / val BB lv) cH rfl;have hset:(List.replicate (A.length+1) 0++Qd).set A.length (val BB c / val BB lv)=List.replicate A.length 0++((val BB c / val BB lv)::Qd):=by
   simp_all [List.replicate_succ']
  rw[hset]at s2;rw[zB,xA,g1,xA];intro _ _ _;rw[s1,xA];have ho3:=k3.off hne s3;have ht3:=k1.off hbq s3;have hr:val BB r<val BB lv:=by grind [Nat.mod_lt]
  have hdm:=ych (val BB c) (val BB lv);have hU2:U=val BB lv*(BB^A.length*val BB ((val BB c / val BB lv)::Qd))+val BB (A++r):=by
   grind [Fu,val]
  rcases hA:A.length with _ | j'
  ·have hnil:A=[]:=List.eq_nil_of_length_eq_zero hA;subst hnil;refine zft ?_;have e3:((0:Nat):Int)-1 = -1:=by omega
   rw[e3];simp only[uL,uZ,uW,Uj,tA,vG];rw[yaa (by omega)];refine hexit t3 _ r Z ht3 (by simp_all) (by omega) k4 k5 (fun x hx=>?_) (by grind) (by omega) hr (by simp_all);rcases ybs.1 hx with rfl | hx
   ·exact k7
   ·exact hQl x hx
  ·obtain⟨x,hx⟩:=getElem?_of_lt (l:=A) (i:=j') (by omega);have hAx:A=A.take j'++[x]:=by
    rw[<- dX hx,yca (by omega)]
   have hxB:x<BB:=qK hAl hx;have e3:((j'+1:Nat):Int)-1=(j':Int):=by omega
   rw[e3];have hvx:val BB (x::r)=x+BB*val BB r:=rfl;refine ih j' (by omega) (A.take j') (x::r) (0::Z) ((val BB c / val BB lv)::Qd) t3 (by grind) (by simp[k4]) (Bl hAl _) (fun y hy=>?_) (fun y hy=>?_) (by grind) (by grind) ?_ ht3 ?_ ?_ ?_
   ·rcases ybs.1 hy with rfl | hy
    ·exact hxB
    ·exact k5 y hy
   ·rcases ybs.1 hy with rfl | hy
    ·exact k7
    ·exact hQl y hy
   ·rw[hvx];have:=ybv BB hr;rw[Nat.mul_succ]at this;omega
   ·have:A.take j'++x::r++0::Z=A++(r++[0])++Z:=by
     conv=>rhs;rw[hAx]
     simp
    grind
   ·grind
   ·rw[hU2,hA];have:A++r=A.take j'++x::r:=by
     grind
    rw[this]
end Go.Proofs
namespace Go.Am
def zaz{a b q R p:Nat}(hp:0<p)(h:a*p=b*p*q+R)(hR:R<b*p):a=b*q+R / p/\R / p<b:=by
 have h1:p ∣ R:=(Nat.dvd_add_right (⟨b*q,by rw[ybh b p,ybj]⟩:p ∣ b*p*q)).1 (h ▸ ⟨a,ybh a p⟩);obtain⟨R',rfl⟩:=h1;rw[Nat.mul_div_cancel_left _ hp];refine⟨Nat.eq_of_mul_eq_mul_left hp ?_,Nat.lt_of_mul_lt_mul_left (a:=p) ?_⟩
 all_goals grind
def div_v{B p K n top:Nat}{b rb:List Nat}(hB:B=p*K)(hp:0<p)(hlt:mB B b)(hl:b.length=n+1)(htop:b[n]?=some top)(ht:top*p<B)(hbig:B<=2*(top*p))(hrl:mB B rb)(hrb:rb.length=n+2)(hv:val B rb=val B b*p) :
  val B (rb.take (n+1))=val B b*p/\∀x,(rb.take (n+1))[n]?=some x->B<=2*x:=by
 have hB0:0<B:=by omega
 have hbv:val B b=val B (b.take n)+B^n*top:=by
  have:=Cj B b n
  simp_all [uR,ybt,val]
 have hlow:val B (b.take n)<B^n:=by
  have:=nO hB0 (Bl hlt n)
  simp_all
 have hK:top<K:=by
  simp_all [ybh]
 have hup:val B b*p<B^(n+1):=by
  have h1:val B b<B^n*(top+1):=by grind
  have h2:B^n*(top+1)<=B^n*K:=ybv _ hK;have h3:val B b*p<B^n*K*p:=Nat.mul_lt_mul_of_pos_right (by omega) hp
  grind
 have hsplit:=Cj B rb (n+1);have htl:(rb.take (n+1)).length=n+1:=by grind
 rw[htl]at hsplit;have hz:val B (rb.drop (n+1))=0:=by
  rcases yav (val B (rb.drop (n+1)))with h | h
  ·exact h
  ·exfalso;have:=ybv (B^(n+1)) h;omega
 have hval:val B (rb.take (n+1))=val B b*p:=by simp_all
 refine⟨hval,fun x hx=>?_⟩;have h1:val B (rb.take (n+1))=val B ((rb.take (n+1)).take n)+B^n*x:=by
  have:=Cj B (rb.take (n+1)) n
  simp_all [uR,ybt,val]
 have h2:val B ((rb.take (n+1)).take n)<B^n:=by
  grind [nO,Bl]
 have h3:B^n*(top*p)<=val B b*p:=by
  grind [Nat.add_mul]
 have h4:B^n*(top*p)<B^n*(x+1):=by grind
 have h5:top*p<x+1:=Nat.lt_of_mul_lt_mul_left h4;omega
def div_u{B p n j:Nat}{a b ru:List Nat}(hB0:0<B)(hal:mB B a)(hb:B^n<=val B b)(hj:a.length=j+(n+1))(hru:ru.length=a.length+1)(hp:0<p)(hv:val B ru=val B a*p):val B (ru.drop j)<B*(val B b*p):=by
 have h1:=Cj B ru j;have htl:(ru.take j).length=j:=by grind
 rw[htl]at h1;have h2:val B a<B^(j+(n+1)):=by grind [nO]
 have h3:val B a*p<B^(j+(n+1))*p:=Nat.mul_lt_mul_of_pos_right h2 hp;have h4:B^(j+(n+1))*p=B^j*(B*(B^n*p)):=by
  rw[Nat.pow_add,yag,ybh (B^n) B,ybj,ybj]
 have h5:B^j*val B (ru.drop j)<B^j*(B*(B^n*p)):=by omega
 have h6:=Nat.lt_of_mul_lt_mul_left h5;have h7:B*(B^n*p)<=B*(val B b*p):=ybv _ (ybi _ hb);omega
end Go.Am
namespace Go.Proofs
open Go Go.Am
variable [tC]
variable {t:Tr qA}
theorem CX{l:List Nat}{b L hi:Nat}(ho:eF t b .u32 l)(h2:hi<=L)(h3:0<L) :
  nF yA 253 ⟨0,t⟩ (.slice b 0 L L) none (some (.int .i64 (hi:Int)))=some (.slice b 0 hi L):=by
 obtain⟨c,hg,_⟩:=ho;obtain⟨⟨y,hy1,hy2⟩,⟨z,hz1,hz2,hz3⟩⟩:=xH;unfold nF;rw[hy1,uA];have hb:∀y (k:Nat),xU y (.int .i64 (k:Int))=vB (Nat.ble k y) (some k):=fun y k=>rfl;unfold aK;simp only[zA.asStr,zA.asSlice];rw[hy2,uA];unfold qN;rw[hz1,uA];unfold qO wX;simp only[hb];rw[show Nat.ble hi L=true from pE.2 h2];simp only[mD,uA];have he2:kJ ⟨0,t⟩ b z.size L 0 false=false:=by
  unfold kJ rD;rw[hg,uA];rfl
 rw[he2,yay,cond_false];have hf:jK ⟨0,t⟩ b z.size L 0 false=true:=by
  unfold jK rD;rw[hg,uA];rfl
 grind [pE,mD]
theorem SN{b o n c:Nat}:same 10 (.slice b o n c) (.slice b o n c)=true:=by
 simp[same]
theorem XT{q W Z:List Nat}{b bq n s L Lq:Nat}{Q:xC}(ho:eF t b .u32 (W++[0]++Z))(hoq:eF t bq .u32 q)(hW:W.length=n)(hn:n<1000000)(hL:n+1+Z.length=L)(hq:q.length=Lq)(hLq:Lq<1000000)
  (hQ:∀qv rv,sA t 1 (zC .u32 (wG q)) qv->sA t 1 (zC .u32 (wG W)) rv->Q (.tup [qv,rv]) t) :
  jp 227 6 [.int .i64 (n:Int),.int .i64 (s:Int),.slice b 0 L L,.slice bq 0 Lq Lq,.int .i64 (n:Int),.int .i64 (n:Int)] t Q:=by
 have e1:=CX (L:=L) (hi:=n) ho (by omega) (by omega);have e2:sA t 1 (zC .u32 W) (.slice b 0 n L):=by
  have:=ho.slice (off:=0) (n:=n) (cap:=L) (by grind) (by omega)
  simp_all
 have e3:sA t 1 (zC .u32 q) (.slice bq 0 Lq Lq):=by
  have:=hoq.all (cap:=Lq) (by omega)
  simp_all
 obtain⟨qv,f1,f2⟩:=Ct (by omega) e3;obtain⟨rv,f3,f4⟩:=Ct (by omega) e2;refine zfs ?_;simp only[uL,uE,kB,uZ,Ui,tA,aB];rw[yaa (by omega)];simp only[e1,xA,Gz,f1,f3];grind [SN]
theorem LN{a b:List Nat}{u v:zA}{Q:xC}(hu:sA t 1 (zC .u32 a) u)(hv:sA t 1 (zC .u32 b) v)(ha:a.length<700000)(hal:mB BB a)(hbl:mB BB b)(han:norm a)(hbn:norm b)(hb0:b≠[])
  (hQ:∀t' q r qv rv,iA t t'->sA t' 1 (zC .u32 q) qv->sA t' 1 (zC .u32 r) rv->mB BB q->mB BB r->norm q->norm r->val BB a=val BB b*val BB q+val BB r->val BB r<val BB b->Q (.tup [qv,rv]) t') :
  Wc yA F 227 [u,v] t Q:=by
 have hBB:=oO;have hB1:1<BB:=by omega
 have hlt:=MN hB1 hal hbl han hbn;refine w227 ?_;simp only[uI,uL,uX,uZ,uW,t227,tA,q225,zgf (by omega) hu hv,xA,zB,aB];by_cases hc:aM a b<0
 ·rw[yab hc];simp only[q250];refine zea hu (by omega) fun t' v' h1 h2=>?_;exact hQ t' [] a _ _ h1 ⟨[],.inl ⟨rfl,rfl⟩,by simp[zC,qC]⟩ h2 (fun x hx=>by cases hx) hal (fun h=>absurd rfl h) han (by simp[val]) (hlt.1 hc)
 ·rw[yaa hc];have hge:val BB b<=val BB a:=Nat.le_of_not_lt fun h=>hc (hlt.2 h);have hlen:b.length<=a.length:=kU hB1 hal hbn hge;simp only[hv.len,xA,zB,kG,qE];by_cases h1:b.length=1
  ·rw[yab (by omega)];obtain⟨d,rfl⟩:∃d,b=[d]:=by
    match b,h1 with
    | [d],_=>simp_all
   have hd:d<4294967296:=by have:=hbl d (by simp);omega
   have hd0:0<d:=by have:=hbn (by simp);grind
   obtain⟨c,off,g1,g2⟩:=hv.idx xH (i:=0) (x:=d) rfl;have g1':aA yA 253 v (.int .i64 0)=some (.ptr c off):=g1;simp only[g1',g2,xA,zB,q201];refine LM hu (by omega) (by simp_all) hd hd0 fun t' v' q r k1 k2 k3 k4 k5 k6=>?_;simp only[gE,zA.asTup,uA,vE,yaz,yba,xA,zB];intro b' hb' _;obtain⟨H',m1,m2,m3⟩:=Xg (k:=.u32) rQ rfl cH rfl rfl r trivial hb'
   have hR:=m2.all (cap:=1) (by simp);obtain⟨rv,f1,f2⟩:=Ct (by simp) hR;have f1':iB yA F 224 [.slice b' 0 1 1] H'.t=some rv:=f1;rw[m1];simp only[xA,Gz,f1'];rw[<- hBB]at k3 k6;have hrl:mB BB [r]:=fun x hx=>by grind
   refine hQ H'.t (wG q) (wG [r]) v' rv (k1.trans m3) (k2.mono m3) f2 (iZ k3) (iZ hrl) (pY _) (pY _) ?_ ?_
   all_goals grind [iX,val]
  ·rw[yaa (by omega)];have hbpos:0<b.length:=List.length_pos_iff.2 hb0;obtain⟨m,hm⟩:∃m,b.length=m+2:=⟨b.length-2,by omega⟩;obtain⟨j,hj⟩:∃j,a.length=j+(m+2):=⟨a.length-(m+2),by omega⟩;obtain⟨top,htop⟩:=getElem?_of_lt (l:=b) (i:=m+1) (by omega);have htlt:top<4294967296:=by have:=qK hbl htop;omega
   have ht0:0<top:=by
    have:=hbn hb0
    grind
   obtain⟨s,hs,hs1,hs2,hs3⟩:=GN (t:=t) htlt ht0;obtain⟨c,off,g1,g2⟩:=hv.idx xH htop;have eb:((m+2:Nat):Int)-1=((m+1:Nat):Int):=by omega
   simp (disch:=omega) only[hm,eb,wrap_i64,g1,g2,xA,zB,q248,hs3,q251];refine DJ hv (by omega) (by simp_all) hs fun t1 b1 rb k1 k2 k3 k4 k5 k6 k7=>?_;rw[<- hBB]at k6 k7;rw[hm]at k5 ⊢;have hK:BB=2^s*2^(32-s):=by rw[<- Nat.pow_add,show s+(32-s)=32 by omega,hBB]
   have hp:0<2^s:=Nat.pow_pos (by decide);obtain⟨w1,w2⟩:=div_v (n:=m+1) hK hp hbl hm htop (by omega) (by omega) k6 k5 k7;have e1:=CX (L:=m+2+1) (hi:=m+2) k4 (by omega) (by omega);have hv1:sA t1 1 (zC .u32 (rb.take (m+2))) (.slice b1 0 (m+2) (m+2+1)):=by
    have:=k4.slice (off:=0) (n:=m+2) (cap:=m+2+1) (by omega) (by omega)
    simp_all
   simp only[e1,xA];refine DJ (hu.mono k1) (by omega) (by simp_all) hs fun t2 b2 ra n1 n2 n3 n4 n5 n6 n7=>?_;rw[<- hBB]at n6 n7;rw[hj]at n5 ⊢;have ea:((j+(m+2):Nat):Int)-((m+2:Nat):Int)=(j:Int):=by omega
   have ea2:(j:Int)+1=((j+1:Nat):Int):=by omega
   simp (disch:=omega) only[hu.len,kG,hj,xA,zB,ea,ea2,wrap_i64];intro bq hbq hbaseq;obtain⟨t3,p1,p2,p3,p4⟩:=Dx (C:=yA) (k:=.u32) rQ rfl cH rfl rfl (by decide) (n:=j+1) (by omega) hbq;rw[p1];have el:tB (.slice bq 0 (j+1) (j+1))=some (.int .i64 ((j+1:Nat):Int)):=rfl;have el2:((j+1:Nat):Int)-1=(j:Int):=by omega
   simp (disch:=omega) only[xA,el,zB,el2,wrap_i64];have hne:b2≠bq:=by
    intro e;obtain⟨c,hc1,_⟩:=n4
    simp_all
   have hbq1:t1.get bq=none:=by
    cases hg:t1.get bq with
    | none=>rfl
    | some x=>rw[n1 _ _ hg]at hbq;cases hbq
   have hVpos:0<val BB (rb.take (m+2)):=by
    rw[w1];refine Nat.mul_pos ?_ hp;have:=Tk (B:=BB) hbn hb0
    grind
   have hbge:BB^(m+1)<=val BB b:=by
    have:=Tk (B:=BB) hbn hb0
    simp_all
   have hcl:=div_u (n:=m+1) (j:=j) (p:=2^s) uJ hal hbge (by omega) (by omega) hp n7;have hta:ra.take j++ra.drop j=ra:=List.take_append_drop _ _;refine XU (U:=val BB ra) hv1 (by grind) (by omega) (Bl k6 _) n3 hbaseq n2 hbq1 hne (by omega) (fun x hx=>by grind) hVpos (fun t4 q r Z z1 z2 z3 z4 z5 z6 z7 z8 z9 z10=>?_) j (ra.take j) (ra.drop j) [] [] t3 (by grind) (by grind) (Bl n6 _) (OL n6 _) (fun x hx=>by cases hx) (by grind) (by simp) ?_ (n1.trans p3) ?_ (by simp_all) ?_
   ·have hcl2:mB BB (r++[0]):=Bm z5 uJ;refine PZ (t:=t4) (Z:=Z) (c:=r++[0]) (cn:=0) (by omega) (by simp[z4]) hcl2 (by simp_all) n3 hs (by omega) (fun t5 W y1 y2 y3 y4 y5=>?_) (m+2) 0 t4 [] (by omega) (aC.refl _ _) (by simp_all) rfl (fun x hx=>by cases hx) (by rw[ycr,Nat.pow_zero,Nat.one_mul];exact ybw _);have y6:val BB W=val BB r / 2^s:=by
     grind [sP,Nat.zero_div]
    rw[w1]at z9 z10;rw[n7]at z10;obtain⟨x1,x2⟩:=zaz hp z10 z9;refine XT y2 (z3.off (fun e=>hne e.symm) y1) y3 (by omega) (by omega) z7 (by omega) fun qv rv x3 x4=>?_;have ht5:iA t t5:=k1.trans (z1.off n2 y1)
    grind [iZ,pY,iX]
   ·simp_all
   ·rw[hta,ycd];exact n4.tle p3
   simp_all [val]
end Go.Proofs
namespace Go.Am
variable {B P W u x:Nat}
def wd (l:List Nat)(i:Nat):Nat:=(l[i]?).getD 0
def Ch (hB:0<B){l:List Nat}(h:mB B l)(i:Nat):wd l i<B:=by
 unfold wd
 cases hx:l[i]? with
 | none=>exact hB
 | some x=>exact qK h hx
def Jl(B:Nat)(l:List Nat)(i:Nat):val B (l.take (i+1))=val B (l.take i)+B^i*wd l i:=by
 unfold wd
 cases hx:l[i]? with
 | none=>
  grind [List.take_of_length_le]
 | some x=>
  have hi:=(ybc.1 hx).1;rw[dX hx,sP];grind
def za0{v Va Vb w y bo ai bi x' y' lx ly bo':Nat}(h:W+P*x+v*Vb=u*Va+P*(y+bo))(hx:B*x'+lx=x+u*ai)(hy:B*y'+ly=y+v*bi)(hw:lx+B*bo'=w+ly+bo) :
  (W+P*w)+P*B*x'+v*(Vb+P*bi)=u*(Va+P*ai)+P*B*(y'+bo'):=by
 grind
theorem zd4{z X Y:Nat}(h:W+P*x+Y=X+P*z)(hW:W<P)(hX:X<P)(hle:Y<=X):W=X-Y:=by
 rcases Nat.lt_trichotomy x z with g | g | g
 ·have:=ybv P g
  grind
 ·grind
 ·have:=ybv P g
  grind
def MX{a:Nat}(hx:x<=u)(ha:a<B):(x+u*a) / B<=u:=by
 have h:x+u*a<=u*B:=by
  have:=ybv u (Nat.succ_le_of_lt ha)
  grind
 simp_all [Nat.div_le_of_le_mul,ybh]
end Go.Am
