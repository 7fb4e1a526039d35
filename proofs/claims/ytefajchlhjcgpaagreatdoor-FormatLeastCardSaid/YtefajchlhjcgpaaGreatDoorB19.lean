/- Facts on types. (Printed by a tool.) -/
import Derived.Test.YtefajchlhjcgpaaGreatDoorB18
set_option linter.all false
noncomputable section
set_option maxRecDepth 100000
namespace Go.Proofs
open Go Go.Am
variable [rC]
theorem iJ:yA.tys.get 3=some ⟨(.int .i64),1,8,[.int .i64 0],true⟩:=by kernel_rfl
def ty4:yA.tys.get 4=some ⟨.bool,1,1,[.bool false],true⟩:=by kernel_rfl
theorem ty5:yA.tys.get 5=some ⟨(.int .u8),1,1,[.int .u8 0],true⟩:=by kernel_rfl
theorem yL:yA.tys.get 9=some ⟨.string,1,16,[.str []],true⟩:=by kernel_rfl
def ty22:yA.tys.get 22=some ⟨(.slice 261),1,24,[.nilslice],true⟩:=by kernel_rfl
def ty24:yA.tys.get 24=some ⟨(.struct [(0,4,1),(1,22,1)]),2,32,[.bool false,.nilslice],true⟩:=by kernel_rfl
def ty29:yA.tys.get 29=some ⟨(.slice 31),1,24,[.nilslice],true⟩:=by kernel_rfl
def vZ:yA.tys.get 31=some ⟨(.struct [(0,5,1),(1,9,1),(2,28,6),(8,29,1)]),9,128,[.int .u8 0,.str [],.int .u8 0,.bool false,.nilslice,.bool false,.nilslice,.int .i64 0,.nilslice],true⟩:=by kernel_rfl
def wZ:yA.tys.get 34=some ⟨(.int .i64),1,8,[.int .i64 0],true⟩:=by kernel_rfl
def bS:yA.tys.get 39=some ⟨(.struct [(0,3,1),(1,3,1)]),2,16,[.int .i64 0,.int .i64 0],true⟩:=by kernel_rfl
def ty62:yA.tys.get 62=some ⟨(.slice 9),1,24,[.nilslice],true⟩:=by kernel_rfl
def ty69:yA.tys.get 69=some ⟨(.ptr 191),1,8,[.nilptr],true⟩:=by kernel_rfl
def ty76:yA.tys.get 76=some ⟨(.ptr 141),1,8,[.nilptr],true⟩:=by kernel_rfl
def bT:yA.tys.get 96=some ⟨(.slice 5),1,24,[.nilslice],true⟩:=by kernel_rfl
theorem ty131:yA.tys.get 131=some ⟨(.struct [(0,5,1),(1,9,1),(2,4,1),(3,3,1),(4,3,1),(5,3,1),(6,3,1),(7,3,1)]),8,72,[.int .u8 0,.str [],.bool false,.int .i64 0,.int .i64 0,.int .i64 0,.int .i64 0,.int .i64 0],true⟩:=by kernel_rfl
def aS:yA.tys.get 136=some ⟨(.slice 149),1,24,[.nilslice],true⟩:=by kernel_rfl
def zkl:yA.tys.get 147=some ⟨(.struct [(0,9,1),(1,5,1)]),2,24,[.str [],.int .u8 0],true⟩:=by kernel_rfl
def Pq:yA.tys.get 149=some ⟨(.struct [(0,5,1),(1,9,1),(2,39,2)]),4,40,[.int .u8 0,.str [],.int .i64 0,.int .i64 0],true⟩:=by kernel_rfl
def zkk:yA.tys.get 201=some ⟨(.slice 147),1,24,[.nilslice],true⟩:=by kernel_rfl
def La:yA.tys.get 209=some ⟨(.arr 10 5),10,10,[.int .u8 0,.int .u8 0,.int .u8 0,.int .u8 0,.int .u8 0,.int .u8 0,.int .u8 0,.int .u8 0,.int .u8 0,.int .u8 0],true⟩:=by kernel_rfl
def ty223:yA.tys.get 223=some ⟨(.arr 7 9),7,112,[.str [],.str [],.str [],.str [],.str [],.str [],.str []],true⟩:=by kernel_rfl
def ty236:yA.tys.get 236=some ⟨(.map 3 9),1,8,[.nilmap],true⟩:=by kernel_rfl
def ty239:yA.tys.get 239=some ⟨(.struct [(0,39,2),(2,9,1),(3,3,1)]),4,40,[.int .i64 0,.int .i64 0,.str [],.int .i64 0],true⟩:=by kernel_rfl
def ty249:yA.tys.get 249=some ⟨(.slice 3),1,24,[.nilslice],true⟩:=by kernel_rfl
def xL:yA.tys.get 253=some ⟨(.slice 254),1,24,[.nilslice],true⟩:=by kernel_rfl
def fG:yA.tys.get 254=some ⟨(.int .u32),1,4,[.int .u32 0],true⟩:=by kernel_rfl
def Bz:yA.tys.get 261=some ⟨(.int .u16),1,2,[.int .u16 0],true⟩:=by kernel_rfl
def aP:yA.tys.get 270=some ⟨(.int .u64),1,8,[.int .u64 0],true⟩:=by kernel_rfl
def ty287:yA.tys.get 287=some ⟨(.ptr 253),1,8,[.nilptr],true⟩:=by kernel_rfl
def ty304:yA.tys.get 304=some ⟨(.arr 12 3),12,96,[.int .i64 0,.int .i64 0,.int .i64 0,.int .i64 0,.int .i64 0,.int .i64 0,.int .i64 0,.int .i64 0,.int .i64 0,.int .i64 0,.int .i64 0,.int .i64 0],true⟩:=by kernel_rfl
def zkj:yA.tys.get 323=some ⟨(.slice 24),1,24,[.nilslice],true⟩:=by kernel_rfl
def ty340:yA.tys.get 340=some ⟨(.arr 12 339),60,480,[.str [],.int .u8 0,.bool false,.int .i64 0,.int .i64 0,.str [],.int .u8 0,.bool false,.int .i64 0,.int .i64 0,.str [],.int .u8 0,.bool false,.int .i64 0,.int .i64 0,.str [],.int .u8 0,.bool false,.int .i64 0,.int .i64 0,.str [],.int .u8 0,.bool false,.int .i64 0,.int .i64 0,.str [],.int .u8 0,.bool false,.int .i64 0,.int .i64 0,.str [],.int .u8 0,.bool false,.int .i64 0,.int .i64 0,.str [],.int .u8 0,.bool false,.int .i64 0,.int .i64 0,.str [],.int .u8 0,.bool false,.int .i64 0,.int .i64 0,.str [],.int .u8 0,.bool false,.int .i64 0,.int .i64 0,.str [],.int .u8 0,.bool false,.int .i64 0,.int .i64 0,.str [],.int .u8 0,.bool false,.int .i64 0,.int .i64 0],true⟩:=by kernel_rfl
def kV:dH yA 22 261 1 false:=⟨⟨_,ty22,rfl⟩,⟨_,Bz,rfl,rfl⟩⟩
def Es:dH yA 29 31 9 true:=⟨⟨_,ty29,rfl⟩,⟨_,vZ,rfl,rfl⟩⟩
def sl62:dH yA 62 9 1 false:=⟨⟨_,ty62,rfl⟩,⟨_,yL,rfl,rfl⟩⟩
def sl96:dH yA 96 5 1 false:=⟨⟨_,bT,rfl⟩,⟨_,ty5,rfl,rfl⟩⟩
def sl136:dH yA 136 149 4 true:=⟨⟨_,aS,rfl⟩,⟨_,Pq,rfl,rfl⟩⟩
def sl201:dH yA 201 147 2 true:=⟨⟨_,zkk,rfl⟩,⟨_,zkl,rfl,rfl⟩⟩
def sl249:dH yA 249 3 1 false:=⟨⟨_,ty249,rfl⟩,⟨_,iJ,rfl,rfl⟩⟩
def qG:dH yA 253 254 1 false:=⟨⟨_,xL,rfl⟩,⟨_,fG,rfl,rfl⟩⟩
def sl323:dH yA 323 24 2 true:=⟨⟨_,zkj,rfl⟩,⟨_,ty24,rfl,rfl⟩⟩
end Go.Proofs
namespace Go.Am
open Go Go.RowKit
def cC (l:List Nat):List D:=l.map fun(n:Nat)=>D.int .u16 (n:Int)
theorem eO(l:List Nat):(cC l).length=l.length:=by simp[cC]
structure pJ where
 neg:Bool
 limbs:List Nat
def pJ.d(w:pJ):D:=.st [.bool w.neg,.sl 1 (cC w.limbs)]
structure eE where
 n:pJ
 d:pJ
def eE.dd(f:eE):D:=.st [f.n.d,f.d.d]
structure zF where
 kind:Nat
 f:eE
 i:Int
def zF.d(v:zF):D:=.st [.int .u8 v.kind,v.f.dd,.int .i64 v.i]
inductive mA where
 | mk (op:Nat) (name:List Nat) (v:zF) (args:List mA)
def mA.op:mA->Nat | .mk o _ _ _=>o
def mA.name:mA->List Nat | .mk _ n _ _=>n
def mA.v:mA->zF | .mk _ _ v _=>v
def mA.args:mA->List mA | .mk _ _ _ a=>a
mutual
def mA.d:mA->D
 | .mk op name v args=>.st [.int .u8 op,.str name,v.d,.sl 9 (mA.ds args)]
def mA.ds:List mA->List D
 | []=>[]
 | x::l=>x.d::mA.ds l
end
theorem mA.ds_eq(l:List mA):mA.ds l=l.map mA.d:=by
 induction l with
 | nil=>rfl
 | cons x l ih=>simp[mA.ds,ih]
structure XRow where
 a:Int
 b:Int
 known:Int
 f:eE
def XRow.d(r:XRow):D:=.st [.int .i64 r.a,.int .i64 r.b,.int .i64 r.known,r.f.dd]
structure Jv where
 name:List Nat
 two:Bool
 rows:List XRow
def Jv.d(x:Jv):D:=.st [.str x.name,.bool x.two,.sl 7 (x.rows.map XRow.d)]
structure XDef where
 name:List Nat
 kind:Nat
 fact:Bool
def XDef.d(x:XDef):D:=.st [.str x.name,.int .u8 x.kind,.bool x.fact]
structure Bq where
 name:List Nat
 label:List Nat
 from_:Int
 to:Int
 known:Int
 off:Bool
 when_:mA
 then_:mA
def Bq.d(x:Bq):D:=.st [.str x.name,.str x.label,.int .i64 x.from_,.int .i64 x.to,.int .i64 x.known,.bool x.off,x.when_.d,x.then_.d]
structure Gt where
 name:List Nat
 defs:List XDef
 tables:List Jv
 clauses:List Bq
def Gt.d(x:Gt):D:=.st [.str x.name,.sl 3 (x.defs.map XDef.d),.sl 3 (x.tables.map Jv.d),.sl 24 (x.clauses.map Bq.d)]
section
variable {t:Tr tA}{cs:List zA}
theorem Hx{w:pJ}(h:RD t w.d cs):∃v,cs=[.bool w.neg,v]/\cA t 1 (cC w.limbs) v:=by
 grind [pJ.d,zO,cG,cH,vV,Uk]
theorem rd_frac{f:eE}(h:RD t f.dd cs):∃u v,cs=[.bool f.n.neg,u,.bool f.d.neg,v]/\cA t 1 (cC f.n.limbs) u/\cA t 1 (cC f.d.limbs) v:=by
 grind [eE.dd,zO,cG,cH,Hx]
theorem Ez{v:zF}(h:RD t v.d cs):∃a b,cs=[.int .u8 v.kind,.bool v.f.n.neg,a,.bool v.f.d.neg,b,.int .i64 v.i]/\cA t 1 (cC v.f.n.limbs) a/\cA t 1 (cC v.f.d.limbs) b:=by
 unfold zF.d at h;simp only[zO,cG,cH,aY]at h;obtain⟨cl,rfl,c,r,rfl,rfl,c',r',rfl,h2,c'',r'',rfl,rfl,rfl⟩:=h
 obtain⟨a,b,rfl,h3,h4⟩:=rd_frac h2
 exact⟨a,b,rfl,h3,h4⟩
def qH{x:mA}(h:RD t x.d cs):∃a b c,cs=[.int .u8 x.op,.str x.name,.int .u8 x.v.kind,.bool x.v.f.n.neg,a,.bool x.v.f.d.neg,b,.int .i64 x.v.i,c] ∧
  cA t 1 (cC x.v.f.n.limbs) a/\cA t 1 (cC x.v.f.d.limbs) b/\cA t 9 (x.args.map mA.d) c:=by
 obtain⟨op,name,v,args⟩:=x
 unfold mA.d at h;rw[mA.ds_eq]at h;simp only[zO,cG,cH,aY,bY,vV]at h;obtain⟨cl,rfl,c,r,rfl,rfl,c',r',rfl,rfl,c'',r'',rfl,hv,c3,r3,rfl,⟨w,rfl,h4⟩,rfl⟩:=h
 obtain⟨a,b,rfl,h5,h6⟩:=Ez hv
 exact⟨a,b,w,rfl,h5,h6,h4⟩
def cExpr(x:mA)(a b c:zA):List zA:=[.int .u8 x.op,.str x.name,.int .u8 x.v.kind,.bool x.v.f.n.neg,a,.bool x.v.f.d.neg,b,.int .i64 x.v.i,c]
end
def pJ.zs(x:pJ):x.d.zs=[.bool false,.nilslice]:=rfl
def eE.zs(x:eE):x.dd.zs=[.bool false,.nilslice,.bool false,.nilslice]:=rfl
def zF.zs(x:zF):x.d.zs=[.int .u8 0,.bool false,.nilslice,.bool false,.nilslice,.int .i64 0]:=rfl
def mA.zs(x:mA):x.d.zs=[.int .u8 0,.str [],.int .u8 0,.bool false,.nilslice,.bool false,.nilslice,.int .i64 0,.nilslice]:=by cases x;rfl
def Hm(f:eE):Nat:=1+f.n.limbs.length+f.d.limbs.length
mutual
/-- the size, as it is counted up to a limit -/
def oZ:mA->Int->Int
 | .mk _ name v args,left=>nZ args left (Hm v.f+(name.length:Int) / 30)
def nZ:List mA->Int->Int->Int
 | [],_,n=>n
 | x::l,left,n=>if n<=left then nZ l left (n+oZ x (left-n))else n
end
def nG:Nat:=1125899906842624
def eE.ok(f:eE):Prop:=f.n.limbs.length<nG/\f.d.limbs.length<nG
mutual
def mA.ok:mA->Prop
 | .mk _ name v args=>name.length<nG/\v.f.ok/\args.length<nG/\mA.oks args
def mA.oks:List mA->Prop
 | []=>True
 | x::l=>x.ok/\mA.oks l
end
end Go.Am
namespace Go.Am
open Go Go.RowKit
section
def Xi{f:eE}(h:f.ok):Hm f<4503599627370496:=by
 grind [eE.ok,nG,Hm]
mutual
def FK:∀(x:mA) (left:Int),x.ok->0<=oZ x left/\oZ x left<=max left 0+9007199254740992
 | .mk op name v args,left,h=>by
  unfold mA.ok at h;obtain⟨h1,h2,_,h4⟩:=h
  have hf:=Xi h2
  unfold nG at h1;unfold oZ;have:=FN args left (Hm v.f+(name.length:Int) / 30) h4 (by omega)
  omega
def FN:∀(l:List mA) (left n:Int),mA.oks l->0<=n->n<=nZ l left n/\nZ l left n<=max n (left+9007199254740992)
 | [],left,n,_,_=>by grind [nZ]
 | x::l,left,n,h,hn=>by
  unfold mA.oks at h;unfold nZ;split
  ·have h1:=FK x (left-n) h.1
   have h2:=FN l left (n+oZ x (left-n)) h.2 (by omega)
   omega
  ·omega
end
theorem gE{a b:Int}:(jB a b=true) ↔ a<b:=Fw a b
theorem sI{a b:Int}:(mE a b=true) ↔ a<=b:=Sl a b
def BF{α:Type}{l:List α}{i:Nat}{x:α}{r:List α}(h:l.drop i=x::r):l[i]?=some x/\l.drop (i+1)=r/\i<l.length:=by
 have h1:(l.drop i)[0]?=some x:=by grind
 rw[yde]at h1;have hi:i<l.length:=by
  grind
 refine⟨by omega,?_,hi⟩
 have:=List.drop_drop (l:=l) (i:=1) (j:=i)
 simp_all
def OM{α:Type}{l:List α}{i:Nat}(h:l.drop i=[]):l.length<=i:=by
 simp_all
def eV(l:List Nat):(Int.ofNat (aA l))=(l.length:Int):=by rw[lD];rfl
def Ku(cs:List zA):Pj true cs=.agg cs:=rfl
end
section
variable {cap el i j n ty x:Nat}{y:mD}
def fB(k:IntKind)(l:List Nat):List D:=l.map fun(n:Nat)=>D.int k (n:Int)
theorem fF{k:IntKind}(l:List Nat):(fB k l).length=l.length:=by simp[fB]
def OS{k:IntKind}{l:List Nat} (h:l[i]?=some x):(fB k l)[i]?=some (.int k (x:Int)):=by simp[fB,h]
theorem OR{k:IntKind}{l:List Nat}  : (fB k l).take n=fB k (l.take n):=by simp[fB]
def iF (t:Tr tA)(b:Nat)(k:IntKind)(l:List Nat):Prop:=∃c,t.get b=some (.cells c l.length none)/\∀(j:Nat) x,l[j]?=some x->c.get j=some (.int k (x:Int))
def yF (b:Nat)(t t':Tr tA):Prop:=∀c,c≠b->t'.get c=t.get c
theorem yF.refl(b:Nat)(t:Tr tA):yF b t t:=fun _ _=>rfl
def yF.trans{b:Nat}{x y z:Tr tA}(h:yF b x y)(k:yF b y z):yF b x z:=fun c hc=>(k c hc).trans (h c hc)
section
variable {t t' t0:Tr tA}{C:lA}{b:Nat}{k:IntKind}{l:List Nat}
theorem iF.off(h:iF t b k l){c:Nat}(hc:b≠c)(ho:yF c t t'):iF t' b k l:=by
 obtain⟨x,h1,h2⟩:=h;exact⟨x,by rw[ho b hc];exact h1,h2⟩
def iF.tle(h:iF t b k l)(ho:bA t t'):iF t' b k l:=by
 obtain⟨x,h1,h2⟩:=h;exact⟨x,ho _ _ h1,h2⟩
theorem bA.off(h:bA t0 t)(hb:t0.get b=none)(ho:yF b t t'):bA t0 t':=by
 intro c y hc;rw[ho c (by grind)]
 exact h c y hc
theorem iF.slice(h:iF t b k l){off:Nat}(hn:off+n<=l.length)(hc:n<=cap):cA t 1 (fB k ((l.drop off).take n)) (.slice b off n cap):=by
 obtain⟨c,h1,h2⟩:=h
 refine⟨((l.drop off).take n).map fun(x:Nat)=>[.int k (x:Int)],.inr ⟨b,off,cap,?_,?_,⟨c,_,none,h1,.inl rfl⟩,fun i cs hi=>?_⟩,?_⟩
 ·grind
 ·grind
 ·simp only[ybu,yar]at hi
  obtain⟨x,hx,rfl⟩:=hi
  refine⟨rfl,c,_,none,h1,fun j a hj=>?_⟩
  grind
 ·refine uD.mk (by simp[fB]) fun i d cs hd hc=>?_
  simp only[fB,ybu,yar]at hd hc;obtain⟨x,hx,rfl⟩:=hd
  simp_all
theorem iF.all(h:iF t b k l) (hc:l.length<=cap):cA t 1 (fB k l) (.slice b 0 l.length cap):=by
 have:=h.slice (off:=0) (n:=l.length) (by omega) hc
 simp_all
def Ek{T sz:Nat}{agg:Bool}(h:dH C T el sz agg){off:Nat}(hi:i<n):tC C T (.slice b off n cap) (.int .i64 (i:Int))=some (.ptr b (off+i*sz)):=by
 obtain⟨⟨y,hy1,hy2⟩,⟨z,hz1,hz2,hz3⟩⟩:=h
 unfold tC;rw[hy1,qA];have:(zA.int .i64 (i:Int)).asNat=some i:=rfl
 rw[this,qA];simp only[zA.asSlice];rw[hy2,qA,hz1,qA,nC.2 hi,hz2];rfl
theorem iF.load(h:iF t b k l) (hj:l[j]?=some x)  (hy:C.tys.get ty=some y)(ha:y.desc.isAgg=false):iA C ty ⟨0,t⟩ (.ptr b j)=some (.int k (x:Int)):=by
 obtain⟨c,h1,h2⟩:=h
 simp_all [iA,zA.asPtr,qD,tA.asCells,aR]
theorem iF.store(h:iF t b k l)(hb:C.base<=b) (hj:j<l.length)(x:Nat)  (hy:C.tys.get ty=some y)(hs:y.size=1) :
  ∃t',(∀n,sC C ty (.ptr b j) (.int k (x:Int)) ⟨n,t⟩=some (pD,⟨n,t'⟩))/\iF t' b k (l.set j x)/\yF b t t':=by
 obtain⟨c,h1,h2⟩:=h
 refine⟨t.set b (.cells (c.setMany [.int k (x:Int)] j) l.length none),fun n=>?_,⟨c.setMany [.int k (x:Int)] j,?_,fun i y hi=>?_⟩,fun d hd=>?_⟩
 ·unfold sC
  rw[hy,qA];simp only[zA.asPtr,qA,zA.cells,zA.asAgg];rw[hs];have e1:Nat.beq (aA [zA.int k (x:Int)]) 1=true:=rfl
  rw[e1,cD];unfold yJ qD;have e2:(!Nat.blt b C.base)=true:=by
   grind [nC]
  rw[e2,cD,h1,qA];simp only[tA.asCells,qA];have e3:Nat.ble (j+aA [zA.int k (x:Int)]) l.length=true:=fE.2 hj
  have e4:fD zA.one [zA.int k (x:Int)]=true:=rfl
  rw[e3,e4];rfl
 all_goals grind [Tr.get_set,Tr.get_setMany]
theorem Fo{T:Nat}{z:mD}(hT:C.tys.get T=some y)(hel:y.desc.asSlice=some el)(hz:C.tys.get el=some z)(hzero:z.zero=[.int k 0])(hs:z.size=1)(hby:z.bytes<=8) (hn:n<1000000)(hb:t.get b=none) :
  ∃t',yP C T (.int .i64 (n:Int)) (.int .i64 (n:Int)) ⟨b,t⟩=some (.slice b 0 n n,⟨b+1,t'⟩)/\iF t' b k (List.replicate n 0)/\bA t t'/\yF b t t':=by
 have hrep:∀n,xI [zA.int k 0] n=List.replicate n (.int k 0):=by
  intro n;induction n with
  | zero=>rfl
  | succ n ih=>grind [xI,kG]
 refine⟨t.set b (.cells (Tr.ofList (xI z.zero n)) (aA (xI z.zero n)) none),?_,⟨Tr.ofList (xI z.zero n),?_,fun j x hj=>?_⟩,fun c y' hc=>?_,fun c hc=>?_⟩
 ·unfold yP
  rw[hT,qA,hel,qA,hz,qA];have e1:(zA.int .i64 (n:Int)).asNat=some n:=rfl
  rw[e1,qA,qA];have e2:(Nat.ble n n&&Nat.blt n 1000000&&Nat.blt (n*z.bytes) 1000000000&&Nat.beq (aA z.zero) z.size)=true:=by
   rw[hzero,hs,show Nat.ble n n=true from fE.2 (ybk n),nC.2 hn]
   have:n*z.bytes<1000000000:=by
    have:=ydb (Nat.le_of_lt hn) hby
    omega
   rw[nC.2 this];rfl
  rw[e2,cD];rfl
 all_goals grind [Tr.get_set,lD,Tr.get_ofList]
end
end
end Go.Am
namespace Go.Am
variable {B:Nat}{l m:List Nat}
def val (B:Nat):List Nat->Nat
 | []=>0
 | a::l=>a+B*val B l
def qB(B:Nat)(l:List Nat):Prop:=∀x∈l,x<B
def norm (l:List Nat):Prop:=∀h:l≠[],l.getLast h≠0
theorem Hc(B:Nat):∀(l m:List Nat),val B (l++m)=val B l+B^l.length*val B m
 | [],m=>by simp[val]
 | a::l,m=>by
  simp only[List.cons_append,val,Hc B l m,ybn,yag];grind
theorem sO{B:Nat}(hB:0<B):∀ {l:List Nat},qB B l->val B l<B^l.length
 | [],_=>by simp[val]
 | a::l,h=>by
  have h1:=h a (yby)
  have h2:=sO hB (l:=l) fun x hx=>h x (ybr _ hx)
  simp only[val,ybn,yag];have h3:B*(val B l+1)<=B*B^l.length:=ybv B h2
  grind
theorem Ej(B:Nat)(l:List Nat)(n:Nat):val B l=val B (l.take n)+B^(l.take n).length*val B (l.drop n):=by
 rw[<- Hc,List.take_append_drop]
theorem Dn  (h:qB B l)(n:Nat):qB B (l.take n):=fun x hx=>h x (List.mem_of_mem_take hx)
def CC  (h:qB B l)(n:Nat):qB B (l.drop n):=fun x hx=>h x (List.mem_of_mem_drop hx)
def QU  (h:qB B l)(k:qB B m):qB B (l++m):=fun x hx=>(yaf.1 hx).elim (h x) (k x)
def oE:List Nat->List Nat
 | []=>[]
 | a::l=>if oE l=[]/\a=0 then []else a::oE l
theorem uR(B:Nat):∀l:List Nat,val B (oE l)=val B l
 | []=>rfl
 | a::l=>by
  unfold oE;have ih:=uR B l
  grind [val]
theorem sU:∀l:List Nat,norm (oE l)
 | []=>fun h=>(h rfl).elim
 | a::l=>by
  have ih:=sU l
  unfold oE;split
  ·simp_all
  ·rename_i h
   intro hne;by_cases hs:oE l=[]
   ·simp_all
   ·rw[List.getLast_cons hs];exact ih hs
theorem jS{B:Nat}:∀ {l:List Nat},qB B l->qB B (oE l)
 | [],h=>h
 | a::l,h=>by
  have ih:=jS (l:=l) fun x hx=>h x (ybr _ hx)
  unfold oE;split
  ·simp_all
  ·exact fun x hx=>(ybs.1 hx).elim (fun e=>e ▸ h a yby) (ih x)
theorem Lg:∀l:List Nat,(oE l).length<=l.length
 | []=>ybk _
 | a::l=>by unfold oE;have:=Lg l;split<;>simp<;>omega
theorem Xa:∀l:List Nat,oE (l++[0])=oE l
 | []=>by simp[oE]
 | a::l=>by
  show(if oE (l++[0])=[]/\a=0 then []else a::oE (l++[0]))=_
  rw[Xa l];rfl
def Lf:∀ {l:List Nat},norm l->oE l=l
 | [],_=>rfl
 | a::l,h=>by
  have hl:norm l:=by
   intro hne;have:=h (by simp)
   grind
  unfold oE;rw[Lf hl];split
  ·rename_i e
   have:=h (by simp)
   simp_all
  ·rfl
def Rl (hB:0<B) (h:norm l)(h0:val B l=0):l=[]:=by
 have key:∀l:List Nat,val B l=0->∀x∈l,x=0:=by
  intro l;induction l with
  | nil=>simp_all
  | cons a l ih=>
   grind [val,Nat.mul_eq_zero]
 rcases List.eq_nil_or_concat l with e | ⟨m,a,e⟩
 ·exact e
 ·exfalso
  subst e;have:=h (by simp)
  simp at this;exact this (key _ h0 a (by simp))
def Uu  (h:norm l)(hne:l≠[]):B^(l.length-1)<=val B l:=by
 rcases List.eq_nil_or_concat l with e | ⟨m,a,e⟩
 ·simp_all
 ·rw[List.concat_eq_append]at e
  subst e;have:=h (by simp)
  simp at this;rw[Hc];simp only[ybg,ybn,ybx,val];have:1<=a+B*0:=by omega
  calc B^(m.length+1-1)=B^m.length*1:=by simp
   _<=B^m.length*(a+B*0):=ybv _ this
   _<=_:=Nat.le_add_left _ _
def CW{B:Nat}(hB:0<B):∀ {l m:List Nat},qB B l->qB B m->l.length=m.length->val B l=val B m->l=m
 | [],[],_,_,_,_=>rfl
 | a::l,b::m,h1,h2,hl,hv=>by
  have ha:=h1 a yby
  have hb:=h2 b yby
  simp only[val]at hv;have e1:a=b:=by
   grind [Nat.add_mul_mod_self_left,Nat.mod_eq_of_lt]
  subst e1;have e2:val B l=val B m:=by
   grind [Nat.eq_of_mul_eq_mul_left]
  rw[CW hB (fun x hx=>h1 x (ybr _ hx)) (fun x hx=>h2 x (ybr _ hx)) (by simp_all) e2]
 | [],_::_,_,_,h,_=>by simp at h
 | _::_,[],_,_,h,_=>by simp at h
def eR (hB:1<B) (h1:qB B l)(h3:norm m)(hv:val B m<=val B l):m.length<=l.length:=by
 by_cases hm:m=[]
 ·simp[hm]
 ·have a:=Uu (B:=B) h3 hm
  have b:=sO (by omega) h1
  have:B^(m.length-1)<B^l.length:=by omega
  grind [Nat.pow_lt_pow_iff_right]
def IU (hB:1<B) (h1:qB B l)(h2:qB B m)(h3:norm l)(h4:norm m)(hv:val B l=val B m):l=m:=by
 have a:=eR hB h1 h4 (by omega)
 have b:=eR hB h2 h3 (by omega)
 exact CW (by omega) h1 h2 (by omega) hv
def uN (a b:List Nat):Int:=if a.length≠b.length then(if a.length<b.length then -1 else 1)else go a b
where go:List Nat->List Nat->Int
 | a::l,b::m=>if go l m≠0 then go l m else if a<b then -1 else if b<a then 1 else 0
 | _,_=>0
theorem zcy{B:Nat}:∀ {a b:List Nat},qB B a->qB B b->a.length=b.length->(uN.go a b<0 ↔ val B a<val B b)/\(uN.go a b=0 ↔ val B a=val B b)
 | [],[],_,_,_=>by simp[uN.go,val]
 | a::l,b::m,h1,h2,hl=>by
  have ha:=h1 a yby
  have hb:=h2 b yby
  obtain⟨i1,i2⟩:=zcy (a:=l) (b:=m) (fun x hx=>h1 x (ybr _ hx)) (fun x hx=>h2 x (ybr _ hx)) (by simp_all)
  have lt_of:∀ {x y:Nat},x<y->∀u v,u<B->u+B*x<v+B*y:=by
   intro x y h u v hu;have:B*(x+1)<=B*y:=ybv B h
   grind
  unfold uN.go;simp only[val];by_cases h0:uN.go l m=0
  ·grind
  ·rw[yab h0]
   constructor
   ·rw[i1]
    constructor
    ·simp_all
    grind [Nat.lt_trichotomy]
   ·constructor
    ·omega
    ·intro h
     rcases Nat.lt_trichotomy (val B l) (val B m)with g | g | g
     ·have:=lt_of g a b ha;omega
     ·omega
     ·have:=lt_of g b a hb;omega
 | [],_::_,_,_,h=>by simp at h
 | _::_,[],_,_,h=>by simp at h
def zcx (hB:1<B){a b:List Nat}(h1:qB B a)(h2:qB B b)(h3:norm a)(h4:norm b):uN a b<0 ↔ val B a<val B b:=by
 unfold uN;by_cases hl:a.length=b.length
 ·grind [zcy]
 ·rw[yab hl]
  by_cases hlt:a.length<b.length
  ·rw[yab hlt]
   refine⟨fun _=>?_,fun _=>by omega⟩
   rcases yau (val B a) (val B b)with g | g
   ·exact g
   ·have:=eR hB h1 h4 g;omega
  ·rw[yaa hlt]
   refine⟨fun h=>by omega,fun h=>?_⟩
   have:=eR hB h2 h3 (by omega);omega
end Go.Am
namespace Go.Am
open Go Go.RowKit
variable {a b n:Int}{k:IntKind}{i x y:Nat}{l:List Nat}
theorem nF (h1:0<=n)(h2:n<18446744073709551616):fA .u64 n=n:=by
 grind [aO,IntKind.wrap,IntKind.bits,IntKind.signed]
theorem dT (h1:0<=n)(h2:n<4294967296):fA .u32 n=n:=by
 grind [aO,IntKind.wrap,IntKind.bits,IntKind.signed]
def zdq (h1:0<=n)(h2:n<65536):fA .u16 n=n:=by
 grind [aO,IntKind.wrap,IntKind.bits,IntKind.signed]
theorem Gy (h1:0<=n)(h2:n<256):fA .u8 n=n:=by
 grind [aO,IntKind.wrap,IntKind.bits,IntKind.signed]
theorem Pa(n:Int):fA .u64 n=n%18446744073709551616:=by
 grind [aO,IntKind.wrap,IntKind.bits,IntKind.signed]
theorem eT(n:Int):fA .u32 n=n%4294967296:=by
 grind [aO,IntKind.wrap,IntKind.bits,IntKind.signed]
def zaa(n:Int):fA .u16 n=n%65536:=by
 grind [aO,IntKind.wrap,IntKind.bits,IntKind.signed]
def ML   : iAnd k (x:Int) (y:Int)=rI Nat.land k (x:Int) (y:Int):=rfl
theorem iU{f:Nat->Nat->Nat}  (h1:x<pG k)(h2:y<pG k):rI f k (x:Int) (y:Int)=some (.int k (f x y:Nat)):=by
 unfold rI;have e1:wM (x:Int)=some x:=rfl
 have e2:wM (y:Int)=some y:=rfl
 rw[e1,qA,e2,qA,nC.2 h1,nC.2 h2];rfl
def AH  (h0:0<y)(hw:fA k ((x / y:Nat):Int)=((x / y:Nat):Int)):Ak k (x:Int) (y:Int)=some (.int k ((x / y:Nat):Int)):=by
 unfold Ak;have:kB (y:Int) 0=false:=by
  grind [lW]
 rw[this,cond_false,Int.tdiv_eq_ediv_of_nonneg (by omega)]
 rw[<- Int.natCast_ediv,hw]
def Sk  (h0:0<y):Aj k (x:Int) (y:Int)=some (.int k ((x%y:Nat):Int)):=by
 unfold Aj;have:kB (y:Int) 0=false:=by
  grind [lW]
 rw[this,cond_false,Int.tmod_eq_emod_of_nonneg (by omega),<- Int.natCast_emod]
theorem lI  : (kB a b=true) ↔ a=b:=lW a b
theorem cM  : ((!kB a b)=true) ↔ a≠b:=by rw[ycp,<- Bool.not_eq_true,lI]
def Ys{b:Bool}:((!b)=true) ↔ b=false:=by simp
theorem Et{a b n:Nat}(h:b<2^n):Nat.lor (a*2^n) b=a*2^n+b:=by
 show a*2^n ||| b=_
 rw[<- Nat.shiftLeft_eq,<- Nat.shiftLeft_add_eq_or_of_lt h,Nat.shiftLeft_eq]
def or_low{a b n:Nat}(h:b<2^n)(ha:a%2^n=0):Nat.lor a b=a+b:=by
 obtain⟨c,hc⟩:=Nat.dvd_of_mod_eq_zero ha
 grind [Nat.mul_comm,Et]
def cA.idx{t:Tr tA}{C:lA}{T el:Nat}(h:dH C T el 1 false)  {v:zA}(hr:cA t 1 (fB k l) v) (hi:l[i]?=some x) :
  ∃b off,tC C T v (.int .i64 (i:Int))=some (.ptr b off)/\iA C el ⟨0,t⟩ (.ptr b off)=some (.int k (x:Int)):=by
 obtain⟨b,off,cs,h1,h2,_,_,h5⟩:=dH.at h (fun _=>rfl) hr (OS hi)
 rw[aY]at h5;subst h5;exact⟨b,off,h1,h2⟩
def De(x:Nat)(n:Nat):Int.fdiv (x:Int) (n:Int)=((x / n:Nat):Int):=by
 grind
def getElem?_of_lt  (h:i<l.length):∃x,l[i]?=some x:=⟨l[i],ybd h⟩
def dK{B:Nat} (h:qB B l) (hi:l[i]?=some x):x<B:=h x (ycv hi)
def Rs (h:l≠[]):∃m x,l=m++[x]:=by
 rcases List.eq_nil_or_concat l with e | ⟨m,a,e⟩
 all_goals simp_all
end Go.Am
namespace Go.Proofs
open Go Go.Am
variable {a b l:List Nat}{u v:zA}{neg:Bool}
variable [rC]
variable {t:Tr tA}
theorem zao:∀(n:Nat) (l:List Nat) (v:zA),l.length=n->n<1125899906842624->cA t 1 (fB .u32 l) v->∃v',jp 247 2 [v] t (fun u m=>u=v'/\m=t)/\cA t 1 (fB .u32 (oE l)) v':=by
 intro n;induction n with
 | zero=>
  intro l v hl _ hv;have:l=[]:=ycc.1 hl
  subst this;refine⟨v,Zv ?_,hv⟩
  simp only[uI,uL,uZ,uW,Qc,oA,hv.len,vA,zC,fF,gE];simp_all
 | succ n ih=>
  intro l v hl hn hv;obtain⟨m,x,rfl⟩:=Rs (l:=l) (by grind)
  have hm:m.length=n:=by simp_all
  have hx:(m++[x])[m.length]?=some x:=by simp
  obtain⟨b,off,g1,g2⟩:=hv.idx qG hx
  obtain⟨u,g3,g4⟩:=dH.front qG hv (k:=m.length) (by simp[fB])
  rw[OR]at g4;simp only[List.take_left']at g4;have e1:(((m++[x]).length:Nat):Int)-1=(m.length:Int):=by simp
  by_cases hx0:x=0
  ·subst hx0
   obtain⟨w,h1,h2⟩:=ih m u hm (by omega) g4
   refine⟨w,Zv ?_,by grind [Xa]⟩
   simp (disch:=omega) only[uI,uL,uZ,uW,Qc,oA,hv.len,vA,zC,fF,gE,lI,wrap_i64,e1,g1,g2,g3]
   simp_all
  ·refine⟨v,Zv ?_,?_⟩
   ·simp (disch:=omega) only[uI,uL,uZ,uW,Qc,oA,hv.len,vA,zC,fF,gE,lI,wrap_i64,e1,g1,g2,g3]
    simp_all
   ·rw[Lf]
    ·exact hv
    ·intro _;simp_all
def Cb  (hl:l.length<1125899906842624)(hv:cA t 1 (fB .u32 l) v):∃v',lB yA F 247 [v] t=some v'/\cA t 1 (fB .u32 (oE l)) v':=by
 obtain⟨v',h1,h2⟩:=zao _ l v rfl hl hv
 exact⟨v',kC.2 (w247 h1),h2⟩
theorem zgx  (hu:cA t 1 (fB .u32 a) u)(hv:cA t 1 (fB .u32 b) v)(hl:a.length=b.length):∀(n:Nat),n<=a.length->n<1125899906842624->jp 300 2 [u,v,.int .i64 ((n:Int)-1)] t (fun w m=>w=.int .i64 (uN.go (a.take n) (b.take n))/\m=t):=by
 intro n;induction n with
 | zero=>
  intro _ _;refine zix ?_
  simp only[uL,uZ,uW,Vu,oA,sI];grind [uN.go]
 | succ n ih=>
  intro hn hn2;obtain⟨x,hx⟩:=getElem?_of_lt (l:=a) (i:=n) (by omega)
  obtain⟨y,hy⟩:=getElem?_of_lt (l:=b) (i:=n) (by omega)
  obtain⟨c,off,g1,g2⟩:=hu.idx qG hx
  obtain⟨d,off',g3,g4⟩:=hv.idx qG hy
  have e1:(((n+1:Nat):Int)-1)=(n:Int):=by omega
  have key:∀(a b:List Nat) (x y:Nat),a.length=b.length->uN.go (a++[x]) (b++[y])=if x<y then -1 else if y<x then 1 else uN.go a b:=by
   intro a;induction a with
   | nil=>
    grind [uN.go]
   | cons p a ih=>
    intro b x y h
    cases b with
    | nil=>simp at h
    | cons q b=>
     grind [uN.go]
  have e2:uN.go (a.take (n+1)) (b.take (n+1))=if x<y then -1 else if y<x then 1 else uN.go (a.take n) (b.take n):=by
   grind [List.take_add_one]
  rw[e1,e2];refine zix ?_
  simp (disch:=omega) only[uL,uZ,uW,Vu,oA,vA,zC,gE,sI,cM,g1,g2,g3,g4,wrap_i64]
  grind
theorem zjw  (ha:a.length<1125899906842624)(hu:cA t 1 (fB .u32 a) u)(hv:cA t 1 (fB .u32 b) v):lB yA F 300 [u,v] t=some (.int .i64 (uN a b)):=by
 refine kC.2 (w300 ?_)
 simp (disch:=omega) only[uI,uZ,uW,t300,oA,hu.len,hv.len,vA,zC,fF,gE,cM,wrap_i64]
 unfold uN;by_cases hl:a.length=b.length
 ·rw[yaa (by omega),yaa (by omega)]
  have:=zgx hu hv hl a.length (ybk _) ha
  grind
 grind
def eL(neg:Bool)(l:List Nat):Bool:=if l=[]then !neg else decide (l.length<=1024)&&decide (l.getLast?≠some 0)
theorem Ei   (hl:l.length<1125899906842624)(hv:cA t 1 (fB .u16 l) v):lB yA F 196 [.agg [.bool neg,v]] t=some (.bool (eL neg l)):=by
 refine kC.2 (w196 ?_)
 unfold eL;by_cases h0:l=[]
 ·subst h0
  simp only[uI,uH,bB,uZ,uW,t196,oA,hv.len,vA,zC,fF,lI];simp
 ·obtain⟨m,x,rfl⟩:=Rs h0
  have hx:(m++[x])[m.length]?=some x:=by simp
  obtain⟨b,off,g1,g2⟩:=hv.idx kV hx
  have e1:(((m++[x]).length:Nat):Int)-1=(m.length:Int):=by simp
  have hlm:m.length<1125899906842624:=by omega
  simp (disch:=omega) only[uI,uH,bB,uZ,uW,t196,oA,hv.len,vA,zC,fF,lI,sI,wrap_i64,e1,g1,g2]
  rw[yaa (by omega),yaa h0]
  by_cases h1:(m++[x]).length<=1024
  ·rw[yab (by omega)]
   simp only[h1,decide_true,ycn];by_cases hx0:x=0
   ·grind [Al]
   ·have:kB (x:Int) 0=false:=by
     grind [lW]
    simp_all
  grind
theorem AB   (hv:cA t 1 (fB .u16 l) v):lB yA F 233 [.agg [.bool neg,v]] t=some (.bool (!neg&&decide (l=[1]))):=by
 refine kC.2 (w233 ?_)
 cases neg with
 | true=>simp[uQ17,uI,uH,bB,uZ,t233,oA]
 | false=>
  simp only[uQ17,uI,uH,bB,uZ,t233,oA,hv.len,vA,zC,fF,lI];rw[yab (by rfl)]
  by_cases h1:l.length=1
  ·obtain⟨x,rfl⟩:∃x,l=[x]:=by
    cases l with
    | nil=>simp at h1
    | cons x r=>simp_all
   obtain⟨b,off,g1,g2⟩:=hv.idx kV (i:=0) (x:=x) (by simp)
   simp only[Int.natCast_zero]at g1;rw[yab (by simp)]
   simp only[g1,g2,vA,zC];by_cases hx:x=1
   ·grind [Al]
   ·have:kB (x:Int) 1=false:=by
     grind [lW]
    simp_all
  ·rw[yaa (by omega)]
   have:l≠[1]:=by grind
   grind
end Go.Proofs
namespace Go.Am
def dF:List Nat->List Nat
 | []=>[]
 | [a]=>[a]
 | a::b::l=>(a+65536*b)::dF l
theorem wQ:∀l:List Nat,(dF l).length=(l.length+1) / 2
 | []=>rfl
 | [a]=>by simp[dF]
 | a::b::l=>by simp[dF,wQ l];omega
theorem Pi:∀l:List Nat,val 4294967296 (dF l)=val 65536 l
 | []=>rfl
 | [a]=>by simp[dF,val]
 | a::b::l=>by simp only[dF,val,Pi l];omega
def Gs:∀ {l:List Nat},qB 65536 l->qB 4294967296 (dF l)
 | [],_=>fun x hx=>(by cases hx)
 | [a],h=>fun x hx=>by
  have:=h a (by simp)
  grind [dF]
 | a::b::l,h=>fun x hx=>by
  have h1:=h a (by simp)
  have h2:=h b (by simp)
  rcases ybs.1 hx with rfl | hx
  ·omega
  ·exact Gs (l:=l) (fun y hy=>h y (by simp[hy])) x hx
def Ih:∀ {l:List Nat},norm l->norm (dF l)
 | [],_=>fun h=>(h rfl).elim
 | [a],h=>by
  grind [dF]
 | [a,b],h=>by
  intro _;have:=h (by simp)
  grind [dF]
 | a::b::c::l,h=>by
  intro _;have hn:norm (c::l):=by
   intro hne;have:=h (by simp)
   simp_all
  have hne:dF (c::l)≠[]:=by
   grind [wQ]
  have:=Ih (l:=c::l) hn hne
  grind [dF]
def Yh:∀(l:List Nat) (x:Nat),l.length%2=0->dF (l++[x])=dF l++[x]
 | [],x,_=>rfl
 | [a],x,h=>by simp at h
 | a::b::l,x,h=>by
  show(a+65536*b)::dF (l++[x])=(a+65536*b)::(dF l++[x])
  rw[Yh l x (by grind)]
theorem IA:∀(l:List Nat) (a x:Nat),l.length%2=0->dF (l++[a,x])=dF l++[a+65536*x]
 | [],a,x,_=>rfl
 | [b],a,x,h=>by simp at h
 | c::b::l,a,x,h=>by
  show(c+65536*b)::dF (l++[a,x])=(c+65536*b)::(dF l++[a+65536*x])
  rw[IA l a x (by grind)]
def sH:List Nat->List Nat
 | []=>[]
 | w::l=>w%65536::w / 65536::sH l
theorem Kx:∀l:List Nat,(sH l).length=2*l.length
 | []=>rfl
 | w::l=>by simp[sH,Kx l];omega
def Ph:∀l:List Nat,val 65536 (sH l)=val 4294967296 l
 | []=>rfl
 | w::l=>by
  simp only[sH,val,Ph l];omega
def Ug:∀ {l:List Nat},qB 4294967296 l->qB 65536 (sH l)
 | [],_=>fun x hx=>(by cases hx)
 | w::l,h=>fun x hx=>by
  have h1:=h w (by simp)
  rcases ybs.1 hx with rfl | hx
  ·omega
  ·rcases ybs.1 hx with rfl | hx
   ·omega
   ·exact Ug (l:=l) (fun y hy=>h y (by simp[hy])) x hx
theorem Ky:∀(l:List Nat) (w:Nat),sH (l++[w])=sH l++[w%65536,w / 65536]
 | [],w=>rfl
 | a::l,w=>by simp[sH,Ky l w]
theorem ER{l:List Nat}{w:Nat}(hw:w≠0):oE (sH (l++[w]))=if w / 65536=0 then sH l++[w%65536]else sH (l++[w]):=by
 rw[Ky];split
 ·rename_i h
  rw[h,show sH l++[w%65536,0]=(sH l++[w%65536])++[0] by simp,Xa]
  refine Lf fun _=>?_
  grind
 ·rename_i h
  refine Lf fun _=>?_
  grind
end Go.Am
namespace Go.Proofs
open Go Go.Am
variable {l:List Nat}{v:zA}{Q:mB}
variable [rC]
variable {t:Tr tA}
theorem set_append_right{m:List Nat}{i x:Nat}(h:l.length=i):(l++m).set i x=l++m.set 0 x:=by
 simp_all
theorem zba  {b:Nat} (hv:cA t 1 (fB .u16 l) v)(hl:l.length<1000000)(hlt:qB 65536 l)(hbase:yA.base<=b)(hb:t.get b=none)
  (hQ:∀t' v',bA t t'->cA t' 1 (fB .u32 (dF l)) v'->Q v' t'):∀(k i:Nat) (t':Tr tA),i+k=l.length->bA t t'->iF t' b .u32 (dF (l.take i)++List.replicate ((l.length+1) / 2-(i+1) / 2) 0) →
  jp 235 2 [.slice b 0 ((l.length+1) / 2) ((l.length+1) / 2),v,.int .i64 l.length,.int .i64 i] t' Q:=by
 intro k;induction k with
 | zero=>
  intro i t' hi ht ho;refine zi5 ?_
  simp only[uL,uH,vC,uZ,uW,We,oA,gE];rw[yaa (by omega)]
  rw[yca (by omega),show(l.length+1) / 2-(i+1) / 2=0 by omega,List.replicate_zero,ycd]at ho
  refine hQ _ _ ht ?_
  have:=ho.all (ybk _)
  grind [wQ]
 | succ k ih=>
  intro i t' hi ht ho;obtain⟨x,hx⟩:=getElem?_of_lt (l:=l) (i:=i) (by omega)
  have hxlt:x<65536:=dK hlt hx
  obtain⟨c,off,g1,g2⟩:=(hv.mono ht).idx kV hx
  have htake:l.take (i+1)=l.take i++[x]:=by grind [List.take_add_one]
  have hlen:(l.take i).length=i:=by grind
  obtain⟨y,hy,hnew⟩:∃y,(dF (l.take i)++List.replicate ((l.length+1) / 2-(i+1) / 2) 0)[i / 2]?=some y/\y<4294967296/\Nat.lor y (x*2^(16*(i%2)))<4294967296 ∧
    (dF (l.take i)++List.replicate ((l.length+1) / 2-(i+1) / 2) 0).set (i / 2) (Nat.lor y (x*2^(16*(i%2))))=dF (l.take (i+1))++List.replicate ((l.length+1) / 2-(i+1+1) / 2) 0:=by
   rcases Nat.mod_two_eq_zero_or_one i with he | ho1
   ·have hp:(dF (l.take i)).length=i / 2:=by grind [wQ]
    refine⟨0,?_,by decide,?_,?_⟩
    ·rw[ybp (by omega),hp,Nat.sub_self,List.getElem?_replicate,yab (by omega)]
    ·rw[he];simp;omega
    ·rw[set_append_right hp,he,htake,Yh _ _ (by omega)]
     have:Nat.lor 0 (x*2^(16*0))=x:=by simp_all
     rw[this];obtain⟨r,hr⟩:∃r,(l.length+1) / 2-(i+1) / 2=r+1:=⟨(l.length+1) / 2-(i+1) / 2-1,by omega⟩
     rw[hr,List.replicate_succ,List.set_cons_zero,show(l.length+1) / 2-(i+1+1) / 2=r by omega]
     simp
   ·obtain⟨p,a,hpa⟩:=Rs (l:=l.take i) (by grind)
    have hpl:p.length=i-1:=by grind
    have hpe:p.length%2=0:=by omega
    have ha:a<65536:=hlt a (List.mem_of_mem_take (by simp_all:a∈l.take i))
    have hp:(dF p).length=i / 2:=by grind [wQ]
    rw[hpa,Yh _ _ hpe];have hlor:Nat.lor a (x*2^(16*1))=a+65536*x:=by
     show a ||| x*2^(16*1)=_
     rw[Nat.or_comm];have:=Et (a:=x) (b:=a) (n:=16) (by omega)
     show Nat.lor (x*2^16) a=_
     omega
    refine⟨a,?_,by omega,?_,?_⟩
    all_goals grind [set_append_right,IA]
  obtain⟨hy1,hy2,hy3⟩:=hnew
  have hwlen:(dF (l.take i)++List.replicate ((l.length+1) / 2-(i+1) / 2) 0).length=(l.length+1) / 2:=by
   grind [wQ]
  have g3:tC yA 253 (.slice b 0 ((l.length+1) / 2) ((l.length+1) / 2)) (.int .i64 ((i / 2:Nat):Int))=some (.ptr b (0+i / 2*1)):=Ek qG (by omega)
  rw[show 0+i / 2*1=i / 2 by omega]at g3;have g4:=ho.load hy fG rfl
  obtain⟨t2,g5,g6,g7⟩:=ho.store (C:=yA) hbase (j:=i / 2) (by omega) (Nat.lor y (x*2^(16*(i%2)))) fG rfl
  rw[hy3]at g6;refine zi5 ?_
  have e1:Int.tdiv (i:Int) 2=((i / 2:Nat):Int):=by simp_all
  have e2:Int.tmod (i:Int) 2=((i%2:Nat):Int):=by grind
  have hm:=ycy i (show 0<2 by decide)
  simp (disch:=omega) only[uL,uH,vC,uZ,uW,We,oA,gE,g1,g2,vA,zC,wrap_i64,dT,e1,e2,g3,g4]
  rw[yab (by omega)]
  have e3:mW .u32 (x:Int) (16*((i%2:Nat):Int))=some (.int .u32 ((x*2^(16*(i%2)):Nat):Int)):=by
   rcases Nat.mod_two_eq_zero_or_one i with h | h<;>rw[h]
   ·simp[mW,Eu,wM]
    rw[dT (by omega) (by omega)]
   ·have:mW .u32 (x:Int) (16*((1:Nat):Int))=some (.int .u32 (fA .u32 ((x:Int)*65536))):=rfl
    grind [dT]
  rw[e3];have hb2:x*2^(16*(i%2))<4294967296:=by
   rcases Nat.mod_two_eq_zero_or_one i with h | h<;>rw[h]<;>omega
  simp only[vA,zC];rw[iU (show y<pG .u32 from hy1) (show x*2^(16*(i%2))<pG .u32 from hb2)]
  simp only[vA,zC];intro d _ _;rw[g5];simp only[vA];have:=ih (i+1) t2 (by omega) (ht.off hb g7) g6
  simp_all
theorem Lz   (hv:cA t 1 (fB .u16 l) v)(hl:l.length<1000000)(hlt:qB 65536 l)
  (hQ:∀t' v',bA t t'->cA t' 1 (fB .u32 (dF l)) v'->Q v' t'):Wc yA F 235 [v] t Q:=by
 refine w235 ?_
 have e1:Int.tdiv ((l.length:Int)+1) 2=(((l.length+1) / 2:Nat):Int):=by grind
 simp (disch:=omega) only[uI,uZ,uW,t235,oA,hv.len,vA,zC,fF,wrap_i64,e1]
 intro b hb hbase;obtain⟨t',g1,g2,g3,_⟩:=Fo (C:=yA) (k:=.u32) xL rfl fG rfl rfl (by decide) (n:=(l.length+1) / 2) (by omega) hb
 rw[g1];simp only[vA];exact zba hv hl hlt hbase hb hQ l.length 0 t' (by omega) g3 (by grind [dF])
end Go.Proofs
namespace Go.Proofs
open Go Go.Am
variable {n s x y:Nat}
variable [rC]
variable {t:Tr tA}
theorem zkn (h:n<4294967296):n / 2147483648=if n.testBit 31 then 1 else 0:=by
 grind
theorem Vd (h:n<4294967296):n.testBit 31=decide (2147483648<=n):=by
 grind
theorem DB (h:x<4294967296):El (.int .u32 (x:Int))=some (.int .u32 (Nat.xor 4294967295 x:Nat)):=by
 grind [El,zA.asIntK,qA,Nat.beq,kLo,cD,iU,pG]
theorem zea{b:Nat}(hx:x<4294967296)(hy:y<4294967296)(hb:b<2) :
  lB yA F 311 [.int .u32 x,.int .u32 y,.int .u32 b] t=some (.tup [.int .u32 (((x+8589934592-y-b)%4294967296:Nat):Int),.int .u32 (((if x<y+b then 1 else 0):Nat):Int)]):=by
 refine kC.2 (w311 ?_)
 obtain⟨d,hd⟩:∃d,d=(x+8589934592-y-b)%4294967296:=⟨_,rfl⟩
 have hdl:d<4294967296:=by omega
 have e1:fA .u32 (fA .u32 ((x:Int)-y)-b)=(d:Int):=by
  grind [eT]
 have hn1:Nat.xor 4294967295 x<4294967296:=Nat.xor_lt_two_pow (n:=32) (by decide) hx
 have hn2:Nat.xor x y<4294967296:=Nat.xor_lt_two_pow (n:=32) hx hy
 have hn3:Nat.xor 4294967295 (Nat.xor x y)<4294967296:=Nat.xor_lt_two_pow (n:=32) (by decide) hn2
 have hn4:Nat.land (Nat.xor 4294967295 x) y<4294967296:=yam Nat.and_le_left hn1
 have hn5:Nat.land (Nat.xor 4294967295 (Nat.xor x y)) d<4294967296:=yam Nat.and_le_left hn3
 have hn6:Nat.lor (Nat.land (Nat.xor 4294967295 x) y) (Nat.land (Nat.xor 4294967295 (Nat.xor x y)) d)<4294967296:=Nat.or_lt_two_pow (n:=32) hn4 hn5
 simp only[uL,t311,oA,e1];rw[DB hx];simp only[vA,zC];rw[ML,iU (k:=.u32) hn1 hy]
 simp only[vA,zC];rw[iU (k:=.u32) hx hy]
 simp only[vA,zC];rw[DB hn2];simp only[vA,zC];rw[ML,iU (k:=.u32) hn3 hdl]
 simp only[vA,zC];rw[iU (k:=.u32) hn4 hn5]
 simp only[vA,zC];have e2:Int.fdiv ((Nat.lor (Nat.land (Nat.xor 4294967295 x) y) (Nat.land (Nat.xor 4294967295 (Nat.xor x y)) d):Nat):Int) 2147483648=(((if x<y+b then 1 else 0):Nat):Int):=by
  rw[show(2147483648:Int)=((2147483648:Nat):Int) from rfl,De,zkn hn6]
  congr 1
  have tb:(Nat.lor (Nat.land (Nat.xor 4294967295 x) y) (Nat.land (Nat.xor 4294967295 (Nat.xor x y)) d)).testBit 31=decide (x<y+b):=by
   show((4294967295 ^^^ x) &&& y ||| (4294967295 ^^^ (x ^^^ y)) &&& d).testBit 31=_
   rw[Nat.testBit_or,Nat.testBit_and,Nat.testBit_and,Nat.testBit_xor,Nat.testBit_xor,Nat.testBit_xor,Vd hx,Vd hy,Vd hdl];have:(4294967295:Nat).testBit 31=true:=by decide
   rw[this];by_cases c1:2147483648<=x<;>by_cases c2:2147483648<=y<;>by_cases c3:2147483648<=d<;>by_cases c4:x<y+b<;>simp only[c1,c2,c3,c4,decide_true,decide_false,Bool.xor_true,Bool.xor_false,Bool.true_xor,Bool.false_xor,Bool.not_true,ycl,Bool.and_true,yay,Bool.or_true,Bool.or_false,Bool.xor_self]<;>omega
  simp_all
 simp_all
theorem zhd{c:Nat}(hx:x<4294967296)(hy:y<4294967296)(hc:c<2) :
  lB yA F 317 [.int .u32 x,.int .u32 y,.int .u32 c] t=some (.tup [.int .u32 (((x+y+c)%4294967296:Nat):Int),.int .u32 (((x+y+c) / 4294967296:Nat):Int)]):=by
 refine kC.2 (w317 ?_)
 have e0:((x:Int)+y)+c=((x+y+c:Nat):Int):=by omega
 simp (disch:=omega) only[t317,oA,nF]
 grind [eT]
theorem zgd{h l d:Nat}(hh:h<d)(hl:l<4294967296)(hd:d<4294967296) :
  lB yA F 268 [.int .u32 h,.int .u32 l,.int .u32 d] t=some (.tup [.int .u32 (((h*4294967296+l) / d:Nat):Int),.int .u32 (((h*4294967296+l)%d:Nat):Int)]):=by
 refine kC.2 (w268 ?_)
 simp only[t268,oA,cM,sI];rw[yab (by omega),yaa (by omega)]
 refine j268_7 ?_
 have e1:(h:Int)*4294967296=((h*4294967296:Nat):Int):=by omega
 have hq:(h*4294967296+l) / d<4294967296:=ycu (by
  omega)
 have hr:(h*4294967296+l)%d<d:=ycy _ (by omega)
 simp (disch:=omega) only[uE,zh0,oA,nF,e1]
 have e2:rI Nat.lor .u64 ((h*4294967296:Nat):Int) (l:Int)=some (.int .u64 ((h*4294967296+l:Nat):Int)):=by
  rw[iU (k:=.u64) (show h*4294967296<pG .u64 by show _<18446744073709551616;omega) (show l<pG .u64 by show _<18446744073709551616;omega)]
  have:=Et (a:=h) (b:=l) (n:=32) hl
  rw[show h*4294967296=h*2^32 by rfl,this]
 rw[e2];simp only[vA,zC];rw[AH (k:=.u64) (by omega) (by
  grind [nF]),Sk (k:=.u64) (by omega)]
 grind [vA,zC,dT]
theorem zfc(v:Nat)(hv:v<256):∃k,k<9/\tD [0,1,2,2,3,3,3,3,4,4,4,4,4,4,4,4,5,5,5,5,5,5,5,5,5,5,5,5,5,5,5,5,6,6,6,6,6,6,6,6,6,6,6,6,6,6,6,6,6,6,6,6,6,6,6,6,6,6,6,6,6,6,6,6,7,7,7,7,7,7,7,7,7,7,7,7,7,7,7,7,7,7,7,7,7,7,7,7,7,7,7,7,7,7,7,7,7,7,7,7,7,7,7,7,7,7,7,7,7,7,7,7,7,7,7,7,7,7,7,7,7,7,7,7,7,7,7,7,8,8,8,8,8,8,8,8,8,8,8,8,8,8,8,8,8,8,8,8,8,8,8,8,8,8,8,8,8,8,8,8,8,8,8,8,8,8,8,8,8,8,8,8,8,8,8,8,8,8,8,8,8,8,8,8,8,8,8,8,8,8,8,8,8,8,8,8,8,8,8,8,8,8,8,8,8,8,8,8,8,8,8,8,8,8,8,8,8,8,8,8,8,8,8,8,8,8,8,8,8,8,8,8,8,8,8,8,8,8,8,8,8,8,8,8,8,8,8,8,8,8,8,8,8,8,8,8] v=some k/\(v=0/\k=0\/0<k/\2^(k-1)<=v/\v<2^k):=by
 have h:∀v:Fin 256,(tD [0,1,2,2,3,3,3,3,4,4,4,4,4,4,4,4,5,5,5,5,5,5,5,5,5,5,5,5,5,5,5,5,6,6,6,6,6,6,6,6,6,6,6,6,6,6,6,6,6,6,6,6,6,6,6,6,6,6,6,6,6,6,6,6,7,7,7,7,7,7,7,7,7,7,7,7,7,7,7,7,7,7,7,7,7,7,7,7,7,7,7,7,7,7,7,7,7,7,7,7,7,7,7,7,7,7,7,7,7,7,7,7,7,7,7,7,7,7,7,7,7,7,7,7,7,7,7,7,8,8,8,8,8,8,8,8,8,8,8,8,8,8,8,8,8,8,8,8,8,8,8,8,8,8,8,8,8,8,8,8,8,8,8,8,8,8,8,8,8,8,8,8,8,8,8,8,8,8,8,8,8,8,8,8,8,8,8,8,8,8,8,8,8,8,8,8,8,8,8,8,8,8,8,8,8,8,8,8,8,8,8,8,8,8,8,8,8,8,8,8,8,8,8,8,8,8,8,8,8,8,8,8,8,8,8,8,8,8,8,8,8,8,8,8,8,8,8,8,8,8,8,8,8,8,8,8] v.val).elim false (fun k=>decide (k<9)&&(decide (v.val=0)&&decide (k=0)||decide (0<k)&&decide (2^(k-1)<=v.val)&&decide (v.val<2^k)))=true:=by decide +kernel
 have hv:=h ⟨v,hv⟩
 simp only[]at hv;generalize tD _ v=r at hv ⊢
 cases r with
 | none=>simp at hv
 | some k=>
  grind
def BL (x k:Nat):Prop:=x=0/\k=0\/0<k/\2^(k-1)<=x/\x<2^k
theorem JW (hx:x<256)(hs:s<100):∃k,k<=8/\BL x k/\jp 316 15 [.int .u32 x,.int .i64 s] t (fun v m=>v=.int .i64 ((s+k:Nat):Int)/\m=t):=by
 obtain⟨k,hk,h1,h2⟩:=zfc x hx
 refine⟨k,by omega,h2,zmh ?_⟩
 simp (disch:=omega) only[uU,uZ,uY,uW,EA,oA,Gy]
 unfold bG;rw[yL,qA];have:(zA.int .u8 (x:Int)).asNat=some x:=rfl
 rw[this,qA];simp only[zA.asStr];rw[show(mD.desc ⟨.string,1,16,[.str []],true⟩).isString=true from rfl,cD]
 grind [qA,vA,zC,wrap_i64]
theorem JV (hx:x<65536)(hs:s<90):∃k,k<=16/\BL x k/\jp 316 9 [.int .u32 x,.int .i64 s] t (fun v m=>v=.int .i64 ((s+k:Nat):Int)/\m=t):=by
 by_cases h:256<=x
 ·obtain⟨k,h1,h2,h3⟩:=JW (t:=t) (x:=x / 256) (s:=s+8) (by omega) (by omega)
  refine⟨k+8,by omega,?_,ziq ?_⟩
  ·rcases h2 with h2 | ⟨g1,g2,g3⟩
   ·omega
   ·refine .inr ⟨by omega,?_,?_⟩
    ·rw[show k+8-1=(k-1)+8 by omega,Nat.pow_add];omega
    grind
  ·simp (disch:=omega) only[uZ,uW,Vm,oA,sI,wrap_i64]
   grind
 ·obtain⟨k,h1,h2,h3⟩:=JW (t:=t) (x:=x) (s:=s) (by omega) (by omega)
  refine⟨k,by omega,h2,ziq ?_⟩
  simp only[uZ,uW,Vm,oA,sI];grind
theorem zfd (hx:x<4294967296):∃k,k<=32/\BL x k/\lB yA F 316 [.int .u32 x] t=some (.int .i64 (k:Int)):=by
 by_cases h:65536<=x
 ·obtain⟨k,h1,h2,h3⟩:=JV (t:=t) (x:=x / 65536) (s:=16) (by omega) (by omega)
  refine⟨k+16,by omega,?_,kC.2 (w316 ?_)⟩
  ·rcases h2 with h2 | ⟨g1,g2,g3⟩
   ·omega
   ·refine .inr ⟨by omega,?_,?_⟩
    ·rw[show k+16-1=(k-1)+16 by omega,Nat.pow_add];omega
    grind
  ·simp only[uZ,t316,oA,sI]
   grind
 ·obtain⟨k,h1,h2,h3⟩:=JV (t:=t) (x:=x) (s:=0) (by omega) (by omega)
  refine⟨k,by omega,h2,kC.2 (w316 ?_)⟩
  simp only[uZ,t316,oA,sI];grind
theorem JI (hx:x<4294967296)(h0:0<x):∃s:Nat,s<32/\2147483648<=x*2^s/\x*2^s<4294967296/\lB yA F 308 [.int .u32 x] t=some (.int .i64 (s:Int)):=by
 obtain⟨k,h1,h2,h3⟩:=zfd (t:=t) hx
 rcases h2 with h2 | ⟨g1,g2,g3⟩
 ·omega
 ·refine⟨32-k,by omega,?_,?_,kC.2 (w308 ?_)⟩
  ·have:2^(k-1)*2^(32-k)=2147483648:=by rw[<- Nat.pow_add,show k-1+(32-k)=31 by omega]
   rw[<- this];exact ybi _ g2
  ·have:2^k*2^(32-k)=4294967296:=by rw[<- Nat.pow_add,show k+(32-k)=32 by omega]
   rw[<- this];exact Nat.mul_lt_mul_of_pos_right g3 (Nat.pow_pos (Nat.succ_pos 1))
  ·simp (disch:=omega) only[uI,uZ,uW,t308,oA,q316,h3,vA,zC,wrap_i64]
   grind
end Go.Proofs
namespace Go.Am
variable {B i x:Nat}{l:List Nat}
theorem Qi{p:List Nat}{n:Nat}:(p++List.replicate (n+1) 0).set p.length x=(p++[x])++List.replicate n 0:=by
 grind
theorem mN(B:Nat)(l:List Nat)(x:Nat):val B (l++[x])=val B l+B^l.length*x:=by rw[Hc];simp[val]
theorem eY   (h:qB B l)(hx:x<B):qB B (l++[x]):=QU h fun y hy=>by simp_all
def TV {r w d:Nat}(hr:r<d)(hw:w<B):(r*B+w) / d<B:=by
 have hd:0<d:=by omega
 refine ycu ?_
 have:(r+1)*B<=d*B:=ybi B hr
 grind
def zQ  (h:l[i]?=some x):l.take (i+1)=l.take i++[x]:=by rw[ydg,h];rfl
def fQ  (h:l[i]?=some x):l.drop i=x::l.drop (i+1):=by
 have hi:=(ybc.1 h)
 rw[ybl hi.1,hi.2]
end Go.Am
namespace Go.Am
open Go Go.RowKit
variable {el n sz:Nat}{v:zA}{cl:List (List zA)}
section
variable {t:Tr tA}{C:lA}
theorem zbj{c:Tr zA}  : ∀(cl:List (List zA)) (off:Nat),(∀(i:Nat) cs,cl[i]?=some cs->cs.length=sz/\∀(j:Nat) a,cs[j]?=some a->c.get (off+i*sz+j)=some a)->c.many (cl.length*sz) off=some cl.flatten:=by
 intro cl;induction cl with
 | nil=>intro off _;simp;rfl
 | cons cs cl ih=>
  intro off h;obtain⟨h1,h2⟩:=h 0 cs (by simp)
  have hrest:=ih (off+sz) fun i cs' hi=>by
   obtain⟨g1,g2⟩:=h (i+1) cs' (by simp_all)
   grind
  have key:∀(n:Nat) (l r:List zA) (off:Nat),l.length=n->(∀(j:Nat) a,l[j]?=some a->c.get (off+j)=some a)->∀m,c.many m (off+n)=some r->c.many (n+m) off=some (l++r):=by
   intro n;induction n with
   | zero=>
    simp_all
   | succ n ihn=>
    intro l r off hl hg m hm
    cases l with
    | nil=>simp at hl
    | cons a l=>
     rw[show n+1+m=(n+m)+1 by omega,Tr.many_succ]
     have:=hg 0 a (by simp)
     rw[yct]at this;rw[this,qA,ihn l r (off+1) (by simp_all) (fun j b hj=>by
      have:=hg (j+1) b (by simp_all)
      grind) m (by grind)]
     rfl
  grind [Nat.add_mul]
theorem cN.first   (h:cN t sz v cl)  : fU ⟨n,t⟩ sz cl.length v=some cl.flatten/\Ct v=some cl.length:=by
 rcases h with⟨rfl,rfl⟩ | ⟨b,off,cap,rfl,_,⟨c,m,lo,h1,_⟩,h2⟩
 ·exact⟨rfl,rfl⟩
 ·refine⟨?_,rfl⟩
  unfold fU;simp only[zA.asSlice];unfold qD;rw[h1,qA];simp only[tA.asCells,qA];refine zbj cl off fun i cs hi=>?_
  obtain⟨g1,c',m',lo',g2,g3⟩:=h2 i cs hi
  simp_all
theorem AO  : ∀ {cl:List (List zA)},(∀(i:Nat) cs,cl[i]?=some cs->cs.length=sz)->cl.flatten.length=cl.length*sz:=by
 intro cl;induction cl with
 | nil=>grind
 | cons c cl ih=>
  intro h;rw[yas,ybg,ybn,ybo,ih fun i cs hi=>h (i+1) cs (by simp_all),h 0 c (by simp)]
  omega
theorem AP  : ∀ {cl:List (List zA)},(∀(i:Nat) cs,cl[i]?=some cs->cs.length=sz)->∀(i j:Nat) cs a,cl[i]?=some cs->cs[j]?=some a->cl.flatten[i*sz+j]?=some a:=by
 intro cl;induction cl with
 | nil=>simp_all
 | cons c cl ih=>
  intro h i j cs a hi hj;have hc:=h 0 c (by simp)
  rw[yas]
  cases i with
  | zero=>
   grind
  | succ i=>
   rw[ybp (by grind),hc,show(i+1)*sz+j-sz=i*sz+j by grind]
   exact ih (fun i cs hi=>h (i+1) cs (by simp_all)) i j cs a (by simp_all) hj
theorem cN.len   (h:cN t sz v cl):∀(i:Nat) cs,cl[i]?=some cs->cs.length=sz:=by
 rcases h with⟨rfl,rfl⟩ | ⟨b,off,cap,rfl,_,_,h2⟩
 all_goals grind
theorem BE  {t':Tr tA}{lo:Option Lo}(hl:∀(i:Nat) cs,cl[i]?=some cs->cs.length=sz)(h:t'.get n=some (.cells (Tr.ofList cl.flatten) (aA cl.flatten) lo))(hlo:lo=none\/∃x,lo=some x/\x.es=sz):cN t' sz (.slice n 0 cl.length cl.length) cl:=
 .inr ⟨n,0,cl.length,rfl,ybk _,⟨_,_,_,h,hlo⟩,fun i cs hi=>⟨hl i cs hi,_,_,_,h,fun j a hj=>by
  grind [Tr.get_ofList,AP]⟩⟩
def NB (C:lA)(el:Nat):Prop:=∀y,C.tys.get el=some y->MD y=false
def NB.code {z:mD}(h:NB C el)(hz:C.tys.get el=some z):jM el z=.sz z.size:=by
 unfold jM;rw[h z hz,yay];rfl
structure Br (C:lA) (T el sz:Nat):Prop where
 ty:∃y,C.tys.get T=some y/\y.desc.asSlice=some el/\Nat.beq y.desc.tag 1=false
 el:∃y,C.tys.get el=some y/\y.size=sz/\aA y.zero=sz/\y.bytes<=500/\0<sz
structure Gw (C:lA) (T e sz:Nat):Prop where
 ty:∃y,C.tys.get T=some y/\y.desc.asSlice=some e/\Nat.beq y.desc.tag 1=false
 el:∃y,C.tys.get e=some y/\y.size=sz/\aA y.zero=sz/\y.bytes<=500/\0<sz
 nb:NB C e
theorem QP{T:Nat}(hT:Gw C T el sz){l:List D}{x s:zA}(hx:cA t sz l x)(hl:l.length<1000000) (hn:t.get n=none)
  (hs:s=.nilslice\/∃b c m,s=.slice b 0 0 0/\t.get b=some (.cells c m none)) :
  ∃v H',aG C T T s x ⟨n,t⟩=some (v,H')/\cA H'.t sz l v/\bA t H'.t/\yF n t H'.t:=by
 obtain⟨⟨y,hy1,hy2,hy3⟩,⟨z,hz1,hz2,hz3,hz4,hz5⟩,hnb⟩:=hT
 have hcode:=NB.code hnb hz1
 obtain⟨cl,he,hd⟩:=hx
 have hcl:=hd.length
 obtain⟨hf,hlen⟩:=he.first (n:=n)
 have hall:=he.len
 have base:aG C T T s x ⟨n,t⟩=(match s.asSlice with
  | some s=>bif Nat.ble (s.2.2.1+cl.length) s.2.2.2 then Ao C ⟨n,t⟩ z cl.length cl.flatten s else Aq C ⟨n,t⟩ el z cl.length cl.flatten s
  | none=>wB (Nat.beq s.tag 5) (vY ⟨n,t⟩ el z cl.length cl.flatten)):=by
  unfold aG iY;grind [qA,cD]
 have hfl:aA cl.flatten=cl.length*sz:=by grind [lD,AO]
 have ok:Ap z 0 0 cl.length cl.flatten=true:=by
  unfold Ap;have h1:Nat.blt (0+cl.length+0) 1000000000=true:=nC.2 (by omega)
  have h2:Nat.blt ((0+cl.length+0)*z.bytes) 1000000000=true:=nC.2 (by
   have:=ydb (show 0+cl.length+0<=1000000 by omega) hz4
   omega)
  grind [nC,fC]
 have newT:∀(q:tA),bA t (t.set n q)/\yF n t (t.set n q):=fun q=>⟨fun c u hc=>by
   grind [Tr.get_set],fun c hc=>by rw[Tr.get_set,yaa hc]⟩
 rcases hs with rfl | ⟨b,c,m,rfl,hb⟩
 ·by_cases h0:cl.length=0
  ·have:cl=[]:=ycc.1 h0
   subst this;refine⟨.nilslice,⟨n,t⟩,?_,⟨[],.inl ⟨rfl,rfl⟩,hd⟩,bA.refl _,yF.refl _ _⟩
   rw[base];rfl
  ·refine⟨.slice n 0 cl.length cl.length,⟨n+1,t.set n (.cells (Tr.ofList cl.flatten) (aA cl.flatten) (some (jM el z)))⟩,?_,⟨cl,BE hall (show(t.set n _).get n=_ by rw[Tr.get_set,yab rfl]) (.inr ⟨_,rfl,by rw[Jj,hz2]⟩),uD.mono (newT _).1 _ _ hd⟩,(newT _).1,(newT _).2⟩
   rw[base];simp only[zA.asSlice];show wB true (vY ⟨n,t⟩ el z cl.length cl.flatten)=_
   rw[cD];unfold vY;have:Nat.beq cl.length 0=false:=by
    grind [fC]
   rw[this,cond_false,ok];rfl
 ·by_cases h0:cl.length=0
  ·have:cl=[]:=ycc.1 h0
   subst this;refine⟨.slice b 0 0 0,⟨n,t⟩,?_,⟨[],.inr ⟨b,0,0,rfl,ybk _,⟨c,m,none,hb,.inl rfl⟩,fun i cs hi=>by simp at hi⟩,hd⟩,bA.refl _,yF.refl _ _⟩
   rw[base];rfl
  ·refine⟨.slice n 0 cl.length cl.length,⟨n+1,t.set n (.cells (Tr.ofList cl.flatten) (aA cl.flatten) (some (jM el z)))⟩,?_,⟨cl,BE hall (show(t.set n _).get n=_ by rw[Tr.get_set,yab rfl]) (.inr ⟨_,rfl,by rw[Jj,hz2]⟩),uD.mono (newT _).1 _ _ hd⟩,(newT _).1,(newT _).2⟩
   rw[base];simp only[zA.asSlice];have:Nat.ble (0+cl.length) 0=false:=by
    grind [fE]
   rw[this,cond_false];unfold Aq;simp only[];rw[show ∀x,(!(Nat.beq 0 1&&x))=true from fun _=>rfl,cD,ok,cD]
   unfold qD;rw[hb,qA];simp only[tA.asCells,qA];unfold Iy;simp only[Nat.zero_mul];show ob (c.many 0 0) _=_
   rw[show c.many 0 0=some [] from rfl,qA];rw[kG,yah,ybw];rfl
end
end Go.Am
namespace Go.Proofs
open Go Go.Am
variable {b el n:Nat}{y z:mD}{l:List Nat}{v:zA}{Q:mB}{k:IntKind}{neg:Bool}
variable [rC]
variable {t:Tr tA}
def el350:Gw yA 253 254 1:=⟨⟨_,xL,rfl,rfl⟩,⟨_,fG,rfl,rfl,by decide,by decide⟩,fun y h=>by rw[fG]at h;cases h;rfl⟩
theorem lit0{T:Nat} (hT:yA.tys.get T=some y)(hel:y.desc.asSlice=some el)(hz:yA.tys.get el=some z)(hs:aA z.zero=z.size) (hb:t.get b=none) :
  ∃H',wE yA T 0 [] ⟨b,t⟩=some (.slice b 0 0 0,H')/\(∃c,H'.t.get b=some (.cells c 0 none))/\bA t H'.t:=by
 refine⟨uF ⟨b,t⟩ [] none,?_,⟨Tr.ofList [],?_⟩,?_⟩
 ·unfold wE
  rw[hT,qA,hel,qA,hz,qA];have:(Nat.blt (0*z.size) 1000000&&Nat.beq (aA z.zero) z.size)=true:=by simp_all
  rw[this];rfl
 ·show(t.set b _).get b=_
  rw[Tr.get_set,yab rfl];rfl
 ·intro c u hc
  show(t.set b _).get c=_
  grind [Tr.get_set]
theorem zgz   (hv:cA t 1 (fB .u32 l) v)(hl:l.length<1000000)
  (hQ:∀t' v',bA t t'->cA t' 1 (fB .u32 l) v'->Q v' t'):Wc yA F 307 [v] t Q:=by
 refine w307 ?_
 have e:(Bk .eql).f yA 253 (.tmp 3) (.const (.slice none 0 0)) v .nilslice=some (.bool (Nat.beq v.tag 5)):=by
  obtain⟨cl,h1,_⟩:=hv
  rcases h1 with⟨rfl,_⟩ | ⟨b,off,cap,rfl,_⟩
  ·kernel_rfl
  ·kernel_rfl
 simp only[uB,t307,oA,e,vA,Dm];split
 ·grind [oV,fC,bA.refl]
 ·intro b hb hbase
  obtain⟨H1,g1,⟨c,g2⟩,g3⟩:=lit0 (t:=t) xL rfl fG rfl hb
  rw[g1];simp only[vA];intro n hn _;obtain⟨u,H',g4,g5,g6,_⟩:=QP el350 (hv.mono g3) (by grind [fF]) hn (.inr ⟨b,c,0,rfl,g2⟩)
  rw[g4];simp only[vA];exact hQ _ _ (g3.trans g6) g5
def Lk(n:Nat):List Nat:=oE [n%4294967296,n / 4294967296]
theorem RV(n:Nat):val 4294967296 (Lk n)=n:=by grind [Lk,uR,val]
theorem ZT (h:n<18446744073709551616):qB 4294967296 (Lk n):=jS fun x hx=>by
 grind
theorem VV(n:Nat):norm (Lk n):=sU _
theorem Zd{T:Nat}  (hT:yA.tys.get T=some y)(hel:y.desc.asSlice=some el)(hz:yA.tys.get el=some z)(hzero:z.zero=[.int k 0])(hs:z.size=1)(x:Nat)(hk:True) (hb:t.get b=none) :
  ∃H',wE yA T 1 [(0,.int k (x:Int))] ⟨b,t⟩=some (.slice b 0 1 1,H')/\iF H'.t b k [x]/\bA t H'.t:=by
 refine⟨uF ⟨b,t⟩ [.int k (x:Int)] none,?_,⟨Tr.ofList [.int k (x:Int)],?_,fun j u hj=>?_⟩,?_⟩
 ·unfold wE
  rw[hT,qA,hel,qA,hz,qA,hs,hzero];rfl
 ·show(t.set b _).get b=_
  rw[Tr.get_set,yab rfl];rfl
 ·grind [Tr.get_ofList]
 ·intro c u hc
  show(t.set b _).get c=_
  grind [Tr.get_set]
theorem ze5{T:Nat}  (hT:yA.tys.get T=some y)(hel:y.desc.asSlice=some el)(hz:yA.tys.get el=some z)(hzero:z.zero=[.int k 0])(hs:z.size=1)(x x':Nat) (hb:t.get b=none) :
  ∃H',wE yA T 2 [(0,.int k (x:Int)),(1,.int k (x':Int))] ⟨b,t⟩=some (.slice b 0 2 2,H')/\iF H'.t b k [x,x']/\bA t H'.t:=by
 refine⟨uF ⟨b,t⟩ [.int k (x:Int),.int k (x':Int)] none,?_,⟨Tr.ofList [.int k (x:Int),.int k (x':Int)],?_,fun j u hj=>?_⟩,?_⟩
 ·unfold wE
  rw[hT,qA,hel,qA,hz,qA,hs,hzero];rfl
 ·show(t.set b _).get b=_
  rw[Tr.get_set,yab rfl];rfl
 ·grind [Tr.get_ofList]
 ·intro c u hc
  show(t.set b _).get c=_
  grind [Tr.get_set]
theorem zei  (hn:n<18446744073709551616)(hQ:∀t' v',bA t t'->cA t' 1 (fB .u32 (Lk n)) v'->Q v' t'):Wc yA F 304 [.int .u64 n] t Q:=by
 refine w304 ?_
 have e1:fA .u32 (n:Int)=((n%4294967296:Nat):Int):=by rw[eT];omega
 have e2:fA .u32 (Int.fdiv (n:Int) 4294967296)=((n / 4294967296:Nat):Int):=by
  rw[show Int.fdiv (n:Int) 4294967296=((n / 4294967296:Nat):Int) from De _ 4294967296,dT (by omega) (by omega)]
 simp only[t304,oA,e1,e2];intro b hb _;obtain⟨H',g1,g2,g3⟩:=ze5 (t:=t) (k:=.u32) xL rfl fG rfl rfl (n%4294967296) (n / 4294967296) hb
 rw[g1];simp only[vA];obtain⟨v',h1,h2⟩:=Cb (l:=[n%4294967296,n / 4294967296]) (by simp) (g2.all (ybk _))
 simp only[Fc];have h1:lB yA F 247 [.slice b 0 2 2] H'.t=some v':=h1
 rw[h1];exact hQ _ _ g3 h2
theorem SI     (hv:cA t 1 (fB .u32 l) v)(hl:l.length<400000)(hlt:qB 4294967296 l)(hne:l≠[])(hnorm:norm l)(hbase:yA.base<=b)(hb:t.get b=none)
  (hQ:∀t' v',bA t t'->cA t' 1 (fB .u16 (oE (sH l))) v'->Q (.agg [.bool neg,v']) t'):∀(k i:Nat) (t':Tr tA),i+k=l.length->bA t t'->iF t' b .u16 (sH (l.take i)++List.replicate (2*k) 0) →
  jp 248 2 [.bool neg,.slice b 0 (2*l.length) (2*l.length),v,.int .i64 l.length,.int .i64 i,.bool false,.nilslice] t' Q:=by
 intro k;induction k with
 | zero=>
  intro i t' hi ht ho;refine zi3 ?_
  rw[yca (by omega),yat,List.replicate_zero,ycd]at ho
  obtain⟨m,w,rfl⟩:=Rs hne
  have hw:w≠0:=by have:=hnorm (by simp);simp_all
  have hwlt:w<4294967296:=hlt w (by simp)
  have hul:(sH (m++[w])).length=2*(m++[w]).length:=Kx _
  have hml:(m++[w]).length=m.length+1:=by simp
  have hlast:(sH (m++[w]))[2*m.length+1]?=some (w / 65536):=by
   grind [Ky]
  have hread:=ho.all (cap:=2*(m++[w]).length) (by omega)
  rw[hul]at hread;have g3:tC yA 22 (.slice b 0 (2*(m++[w]).length) (2*(m++[w]).length)) (.int .i64 ((2*m.length+1:Nat):Int))=some (.ptr b (0+(2*m.length+1)*1)):=Ek kV (by omega)
  rw[show 0+(2*m.length+1)*1=2*m.length+1 by omega]at g3
  have g4:=ho.load hlast Bz rfl
  have e1:((2*(m++[w]).length:Nat):Int)-1=((2*m.length+1:Nat):Int):=by omega
  have hlen:qC (.slice b 0 (2*(m++[w]).length) (2*(m++[w]).length))=some (.int .i64 ((2*(m++[w]).length:Nat):Int)):=rfl
  have hb2:2*m.length+1<1000000:=by omega
  simp (disch:=omega) only[uI,uL,uH,yC,vC,uZ,uW,Wb,oA,gE,hlen,vA,zC,e1,wrap_i64,g3,g4,lI]
  rw[yaa (by omega)]
  by_cases hz:w / 65536=0
  ·rw[yab (by omega)]
   obtain⟨u,g5,g6⟩:=dH.front kV hread (k:=2*m.length+1) (by grind [fF])
   rw[g5];simp only[vA];have hone:fD zA.one [.bool neg,u]=true:=by
    show(bif zA.one (.bool neg)then(bif zA.one u then true else false)else false)=true
    rw[g6.one];rfl
   grind [OR,ER,Ky,Kx]
  ·rw[yaa (by omega)]
   have hone:fD zA.one [.bool neg,.slice b 0 (2*(m++[w]).length) (2*(m++[w]).length)]=true:=rfl
   grind [ER]
 | succ k ih=>
  intro i t' hi ht ho;obtain⟨x,hx⟩:=getElem?_of_lt (l:=l) (i:=i) (by omega)
  have hxlt:x<4294967296:=dK hlt hx
  obtain⟨c,off,g1,g2⟩:=(hv.mono ht).idx qG hx
  have htl:(l.take i).length=i:=by grind
  have hpl:(sH (l.take i)).length=2*i:=by rw[Kx,htl]
  have hlen0:(sH (l.take i)++List.replicate (2*(k+1)) 0).length=2*l.length:=by grind
  have g3:∀j,j<2*l.length->tC yA 22 (.slice b 0 (2*l.length) (2*l.length)) (.int .i64 (j:Int))=some (.ptr b j):=by
   intro j hj;have:=Ek (b:=b) (off:=0) (cap:=2*l.length) kV hj
   simp_all
  have g3a:=g3 (2*i) (by omega)
  have g3b:=g3 (2*i+1) (by omega)
  obtain⟨t1,s1,s2,s3⟩:=ho.store (C:=yA) hbase (j:=2*i) (by omega) (x%65536) Bz rfl
  have hs2:(sH (l.take i)++List.replicate (2*(k+1)) 0).set (2*i) (x%65536)=(sH (l.take i)++[x%65536])++List.replicate (2*k+1) 0:=by
   grind [Qi]
  rw[hs2]at s2;obtain⟨t2,s4,s5,s6⟩:=s2.store (C:=yA) hbase (j:=2*i+1) (by simp[hpl]) (x / 65536) Bz rfl
  have hs5:((sH (l.take i)++[x%65536])++List.replicate (2*k+1) 0).set (2*i+1) (x / 65536)=sH (l.take (i+1))++List.replicate (2*k) 0:=by
   have hq:(sH (l.take i)++[x%65536]).length=2*i+1:=by simp[hpl]
   rw[<- hq,Qi,zQ hx,Ky];simp
  rw[hs5]at s5;have e1:fA .u16 (x:Int)=((x%65536:Nat):Int):=by rw[zaa];omega
  have e2:fA .u16 (Int.fdiv (x:Int) 65536)=((x / 65536:Nat):Int):=by
   rw[show Int.fdiv (x:Int) 65536=((x / 65536:Nat):Int) from De _ 65536,zdq (by omega) (by omega)]
  have e3:(2:Int)*(i:Int)=((2*i:Nat):Int):=by omega
  have e4:((2*i:Nat):Int)+1=((2*i+1:Nat):Int):=by omega
  refine zi3 ?_
  simp (disch:=omega) only[uI,uL,uH,yC,vC,uZ,uW,Wb,oA,gE,g1,g2,vA,zC,e1,e2,e3,e4,wrap_i64,g3a,g3b]
  rw[yab (by omega)]
  intro d _ _;rw[s1];simp only[vA];intro d' _ _;rw[s4];simp only[vA];have:=ih (i+1) t2 (by omega) ((ht.off hb s3).off hb s6) s5
  grind
theorem Uw    (hv:cA t 1 (fB .u32 l) v)(hl:l.length<400000)(hlt:qB 4294967296 l)
  (hQ:∀t' v',bA t t'->cA t' 1 (fB .u16 (oE (sH (oE l)))) v'->Q (.agg [.bool (if oE l=[]then false else neg),v']) t'):Wc yA F 248 [.bool neg,v] t Q:=by
 refine w248 ?_
 obtain⟨u,h1,h2⟩:=Cb (l:=l) (by omega) hv
 have hsl:=Lg l
 simp only[uI,uZ,uW,t248,oA,Fc,h1,vA,h2.len,zC,fF,lI];by_cases h0:oE l=[]
 ·rw[yab (by grind)]
  simp only[if_true];have:=hQ t .nilslice (bA.refl _) (by rw[h0];exact⟨[],.inl ⟨rfl,rfl⟩,by simp[sH,oE,fB,uD]⟩)
  simp_all
 ·have hpos:0<(oE l).length:=List.length_pos_iff.2 h0
  rw[yaa (by omega)]
  have e1:(2:Int)*((oE l).length:Int)=((2*(oE l).length:Nat):Int):=by omega
  simp (disch:=omega) only[e1,wrap_i64]
  intro b hb hbase;obtain⟨t',g1,g2,g3,_⟩:=Fo (C:=yA) (k:=.u16) ty22 rfl Bz rfl rfl (by decide) (n:=2*(oE l).length) (by omega) hb
  rw[g1];simp only[vA];refine SI h2 (by omega) (jS hlt) h0 (sU l) hbase hb (fun t2 v2 a b=>?_) (oE l).length 0 t' (by omega) g3 (by grind [sH])
  simp_all
end Go.Proofs
namespace Go.Proofs
open Go Go.Am
section
variable {b d s x:Nat}{l:List Nat}{v:zA}{Q:mB}
variable [rC]
variable {t:Tr tA}
theorem Fu{T el:Nat}(h:dH yA T el 1 false){n cap j:Nat}(hj:j<n):tC yA T (.slice b 0 n cap) (.int .i64 (j:Int))=some (.ptr b j):=by
 have:=Ek (b:=b) (off:=0) (cap:=cap) h hj
 simp_all
theorem MK (hs:s<64)(hx:x*2^s<18446744073709551616):mW .u64 (x:Int) (s:Int)=some (.int .u64 ((x*2^s:Nat):Int)):=by
 unfold mW Eu;have:wM (s:Int)=some s:=rfl
 rw[this,qA,qA];have hm:min s (IntKind.bits .u64)=s:=by show min s 64=s;omega
 rw[hm];have e:(x:Int)*Int.ofNat (2^s)=((x*2^s:Nat):Int):=by simp_all
 rw[e,nF (by omega) (by omega)]
def MJ (hs:s<65):Fv .u64 (x:Int) (s:Int)=some (.int .u64 ((x / 2^s:Nat):Int)):=by
 unfold Fv Eu;have:wM (s:Int)=some s:=rfl
 rw[this,qA,qA];have hm:min s (IntKind.bits .u64)=s:=by show min s 64=s;omega
 rw[hm];have e:Int.fdiv (x:Int) (Int.ofNat (2^s))=((x / 2^s:Nat):Int):=De x (2^s)
 rw[e]
def za8 (hs:s<32):2^s<=2147483648:=yao (n:=2) (by decide) (show s<=31 by omega)
def HS (hs:s<=32):2^s*2^(32-s)=4294967296:=by rw[<- Nat.pow_add,show s+(32-s)=32 by omega]
def zly (hs:s<=32):(x*2^s%4294967296)%2^s=0:=by
 rw[<- HS hs,ybh x,Nat.mul_mod_mul_left,Nat.mul_mod_right]
theorem TW    (hv:cA t 1 (fB .u32 l) v)(hl:l.length<900000)(hlt:qB 4294967296 l)(hs:s<32)(hbase:yA.base<=b)(hb:t.get b=none)
  (hQ:∀t' r,bA t t'->yF b t t'->iF t' b .u32 r->r.length=l.length+1->qB 4294967296 r->val 4294967296 r=val 4294967296 l*2^s->Q (.slice b 0 (l.length+1) (l.length+1)) t') :
  ∀(k i:Nat) (t':Tr tA) (P:List Nat) (c:Nat),i+k=l.length->bA t t'->yF b t t'->iF t' b .u32 ((P++[c])++List.replicate k 0)->P.length=i->c<2^s->qB 4294967296 P->val 4294967296 P+4294967296^i*c=val 4294967296 (l.take i)*2^s →
  jp 309 2 [.int .i64 s,.slice b 0 (l.length+1) (l.length+1),v,.int .i64 l.length,.int .i64 i] t' Q:=by
 have hp2:=za8 hs
 intro k;induction k with
 | zero=>
  intro i t' P c hi ht hoff ho hP hc hPl hval;refine ziv ?_
  simp only[uL,uE,vC,uZ,Vs,oA,gE];rw[yaa (by omega)]
  rw[List.replicate_zero,ycd]at ho;refine hQ t' (P++[c]) ht hoff ho (by grind) (eY hPl (by omega)) ?_
  rw[mN,hP,hval,yca (by omega)]
 | succ k ih=>
  intro i t' P c hi ht hoff ho hP hc hPl hval;obtain⟨x,hx⟩:=getElem?_of_lt (l:=l) (i:=i) (by omega)
  have hxlt:x<4294967296:=dK hlt hx
  obtain⟨d,off,g1,g2⟩:=(hv.mono ht).idx qG hx
  have hxs:x*2^s<4294967296*2^s:=Nat.mul_lt_mul_of_pos_right hxlt (Nat.pow_pos (by decide))
  have hxs2:x*2^s<18446744073709551616:=by
   omega
  have hlow:=zly (x:=x) (s:=s) (by omega)
  have hlor:Nat.lor c (x*2^s%4294967296)=x*2^s%4294967296+c:=by
   have:=or_low (a:=x*2^s%4294967296) (b:=c) (n:=s) hc hlow
   simp_all [Nat.or_comm]
  have hsum:x*2^s%4294967296+c<4294967296:=by
   have h1:x*2^s%4294967296<4294967296:=ycy _ (by decide)
   have h2:(4294967296:Nat)%2^s=0:=by rw[<- HS (s:=s) (by omega),Nat.mul_mod_right]
   obtain⟨p,hp⟩:=Nat.dvd_of_mod_eq_zero hlow
   obtain⟨q,hq⟩:=Nat.dvd_of_mod_eq_zero h2
   have hpq:p<q:=by
    rcases yau p q with g | g
    ·exact g
    ·have:=ybv (2^s) g;omega
   have:=ybv (2^s) (show p+1<=q from hpq)
   grind
  have hhigh:x*2^s / 4294967296<2^s:=ycu (by omega)
  have hlen0:((P++[c])++List.replicate (k+1) 0).length=l.length+1:=by simp;omega
  have g3a:=Fu qG (b:=b) (n:=l.length+1) (cap:=l.length+1) (j:=i) (by omega)
  have g3b:=Fu qG (b:=b) (n:=l.length+1) (cap:=l.length+1) (j:=i+1) (by omega)
  have g4:=ho.load (j:=i) (x:=c) (by simp_all [ybp]) fG rfl
  obtain⟨t1,s1,s2,s3⟩:=ho.store (C:=yA) hbase (j:=i) (by omega) (x*2^s%4294967296+c) fG rfl
  have hs2:((P++[c])++List.replicate (k+1) 0).set i (x*2^s%4294967296+c)=(P++[x*2^s%4294967296+c])++List.replicate (k+1) 0:=by
   simp_all
  rw[hs2]at s2;obtain⟨t2,s4,s5,s6⟩:=s2.store (C:=yA) hbase (j:=i+1) (by grind) (x*2^s / 4294967296) fG rfl
  have hs5:((P++[x*2^s%4294967296+c])++List.replicate (k+1) 0).set (i+1) (x*2^s / 4294967296)=((P++[x*2^s%4294967296+c])++[x*2^s / 4294967296])++List.replicate k 0:=by
   have hq:(P++[x*2^s%4294967296+c]).length=i+1:=by simp[hP]
   grind [Qi]
  rw[hs5]at s5;refine ziv ?_
  have e1:fA .u32 ((x*2^s:Nat):Int)=((x*2^s%4294967296:Nat):Int):=by rw[eT];omega
  have e2:fA .u32 (Int.fdiv ((x*2^s:Nat):Int) 4294967296)=((x*2^s / 4294967296:Nat):Int):=by
   rw[show Int.fdiv ((x*2^s:Nat):Int) 4294967296=((x*2^s / 4294967296:Nat):Int) from De _ 4294967296]
   generalize x*2^s=z at hhigh ⊢
   rw[dT (by omega) (by omega)]
  simp (disch:=omega) only[uL,uE,vC,uZ,Vs,oA,gE,g1,g2,vA,zC,nF,g3a,g4]
  rw[yab (by omega),MK (by omega) hxs2]
  simp only[vA,zC,e1];have e3:rI Nat.lor .u32 (c:Int) ((x*2^s%4294967296:Nat):Int)=some (.int .u32 ((x*2^s%4294967296+c:Nat):Int)):=by
   rw[iU (k:=.u32) (x:=c) (y:=x*2^s%4294967296) (show c<pG .u32 by show c<4294967296;omega) (by show x*2^s%4294967296<4294967296;omega),hlor]
  rw[e3];simp only[vA,zC];intro _ _ _;rw[s1];simp (disch:=omega) only[vA,wrap_i64]
  rw[show(i:Int)+1=((i+1:Nat):Int) by omega,g3b]
  simp only[vA,e2];intro _ _ _;rw[s4];simp only[vA];refine ih (i+1) t2 _ _ (by omega) ((ht.off hb s3).off hb s6) ((hoff.trans s3).trans s6) s5 (by simp[hP]) hhigh (eY hPl hsum) ?_
  rw[mN,hP,zQ hx,mN,ybo,<- hval];have:(l.take i).length=i:=by simp;omega
  grind [Nat.div_add_mod]
theorem FP    (hv:cA t 1 (fB .u32 l) v)(hl:l.length<900000)(hlt:qB 4294967296 l)(hs:s<32)
  (hQ:∀t' b r,bA t t'->t.get b=none->yA.base<=b->iF t' b .u32 r->r.length=l.length+1->qB 4294967296 r->val 4294967296 r=val 4294967296 l*2^s->Q (.slice b 0 (l.length+1) (l.length+1)) t'):Wc yA F 309 [v,.int .i64 s] t Q:=by
 refine w309 ?_
 simp (disch:=omega) only[uI,vC,uZ,t309,oA,hv.len,vA,zC,fF,wrap_i64]
 intro b hb hbase;obtain⟨t',g1,g2,g3,g4⟩:=Fo (C:=yA) (k:=.u32) xL rfl fG rfl rfl (by decide) (n:=l.length+1) (by omega) hb
 rw[show(l.length:Int)+1=((l.length+1:Nat):Int) by omega,g1]
 simp only[vA];have:=TW hv hl hlt hs hbase hb (fun t' r a _ c d e f=>hQ t' b r a hb hbase c d e f) l.length 0 t' [] 0 (by omega) g3 g4 (by grind) rfl (Nat.pow_pos (by decide)) (fun x hx=>by cases hx) (by simp[val])
 exact this
theorem XW    (hv:cA t 1 (fB .u32 l) v)(hl:l.length<900000)(hlt:qB 4294967296 l)(hd:d<4294967296)(hd0:0<d)(hbase:yA.base<=b)(hb:t.get b=none)
  (hQ:∀t' v' q r,bA t t'->cA t' 1 (fB .u32 (oE q)) v'->qB 4294967296 q->q.length=l.length->r<d->val 4294967296 l=val 4294967296 q*d+r->Q (.tup [v',.int .u32 (r:Nat)]) t') :
  ∀(i:Nat) (t':Tr tA) (q:List Nat) (r:Nat),i<=l.length->bA t t'->iF t' b .u32 (List.replicate i 0++q)->q.length=l.length-i->qB 4294967296 q->r<d->val 4294967296 (l.drop i)=val 4294967296 q*d+r →
  jp 236 2 [v,.int .u32 d,.slice b 0 l.length l.length,.int .u32 r,.int .i64 ((i:Int)-1)] t' Q:=by
 intro i;induction i with
 | zero=>
  intro t' q r _ ht ho hq hql hr hval;refine zi4 ?_
  simp only[uL,uX,uZ,uW,Wd,oA,sI];rw[yaa (by omega)]
  rw[List.replicate_zero,yah]at ho;have hread:=ho.all (ybk _)
  have hqlen:q.length=l.length:=by omega
  rw[hqlen]at hread;obtain⟨v',h1,h2⟩:=Cb (l:=q) (by omega) hread
  simp only[Fc,h1,vA];grind
 | succ i ih=>
  intro t' q r hi ht ho hq hql hr hval;obtain⟨x,hx⟩:=getElem?_of_lt (l:=l) (i:=i) (by omega)
  have hxlt:x<4294967296:=dK hlt hx
  obtain⟨c,off,g1,g2⟩:=(hv.mono ht).idx qG hx
  have e1:((i+1:Nat):Int)-1=(i:Int):=by omega
  have g3:=Fu qG (b:=b) (n:=l.length) (cap:=l.length) (j:=i) (by omega)
  have hlen0:(List.replicate (i+1) 0++q).length=l.length:=by grind
  have hdiv:=zgd (t:=t') hr hxlt hd
  have hqlt:(r*4294967296+x) / d<4294967296:=TV hr hxlt
  have hrlt:(r*4294967296+x)%d<d:=ycy _ hd0
  obtain⟨t1,s1,s2,s3⟩:=ho.store (C:=yA) hbase (j:=i) (by omega) ((r*4294967296+x) / d) fG rfl
  have hs2:(List.replicate (i+1) 0++q).set i ((r*4294967296+x) / d)=List.replicate i 0++((r*4294967296+x) / d::q):=by
   grind [List.replicate_succ',set_append_right]
  rw[hs2]at s2;rw[e1];refine zi4 ?_
  simp (disch:=omega) only[uL,uX,uZ,uW,Wd,oA,sI,g1,g2,vA,zC,q268,hdiv,iI,zA.asTup,qA,g3,wrap_i64]
  rw[yab (by omega)]
  simp only[lG,yaz,yba,vA,zC];intro _ _ _;rw[s1];simp only[vA];refine ih t1 _ _ (by omega) (ht.off hb s3) s2 (by grind) ?_ hrlt ?_
  ·intro y hy
   rcases ybs.1 hy with rfl | hy
   ·exact hqlt
   ·exact hql y hy
  ·rw[fQ hx]
   grind [val,Nat.div_add_mod]
theorem OJ    (hv:cA t 1 (fB .u32 l) v)(hl:l.length<900000)(hlt:qB 4294967296 l)(hd:d<4294967296)(hd0:0<d)
  (hQ:∀t' v' q r,bA t t'->cA t' 1 (fB .u32 (oE q)) v'->qB 4294967296 q->q.length=l.length->r<d->val 4294967296 l=val 4294967296 q*d+r->Q (.tup [v',.int .u32 (r:Nat)]) t'):Wc yA F 236 [v,.int .u32 d] t Q:=by
 refine w236 ?_
 simp (disch:=omega) only[uI,uZ,uW,t236,oA,hv.len,vA,zC,fF,wrap_i64]
 intro b hb hbase;obtain⟨t',g1,g2,g3,g4⟩:=Fo (C:=yA) (k:=.u32) xL rfl fG rfl rfl (by decide) (n:=l.length) (by omega) hb
 rw[g1];simp only[vA];exact XW hv hl hlt hd hd0 hbase hb hQ l.length t' [] 0 (ybk _) g3 (by simp_all) (by simp) (fun x hx=>by cases hx) hd0 (by simp[val])
end
section
variable {l:List Nat}{v y:zA}{box:Nat}{Q:mB}{I:Nat->Tr tA->Prop}
variable [rC]
theorem zci      (hl:l.length<1000000)
  (hr:∀k t,I k t->iA yA 253 ⟨0,t⟩ (.ptr box 0)=some v/\cA t 1 (fB .u32 l) v)
  (hy:∀k x t,l[k]?=some x->I (k+1) t->∀R:mB,(∀t',I k t'->R (.bool true) t')->oD (eK y [.int .u32 (x:Nat)]) fun p=>Wq yA F wD p.1 p.2 t R)
  (hQ:∀t,I 0 t->Q (.tup []) t):∀(k:Nat) (t:Tr tA),k<=l.length->I k t->jp 269 2 [y,.ptr box 0,.int .i64 ((k:Int)-1)] t Q:=by
 intro k;induction k with
 | zero=>
  intro t _ h;refine zi2 ?_
  simp only[uL,uB,uZ,uW,Wa,oA,sI];simp_all
 | succ k ih=>
  intro t hk h;obtain⟨g0,hv⟩:=hr _ _ h
  obtain⟨x,hx⟩:=getElem?_of_lt (l:=l) (i:=k) (by omega)
  obtain⟨c,off,g1,g2⟩:=hv.idx qG hx
  have e1:((k+1:Nat):Int)-1=(k:Int):=by omega
  rw[e1];refine zi2 ?_
  simp (disch:=omega) only[uL,uB,uZ,uW,Wa,oA,sI,g0,g1,g2,vA,zC,wrap_i64]
  rw[yab (by omega)]
  refine hy k x t hx h _ fun t' ht'=>?_
  grind [zA.asBool,vA]
def znj     {t:Tr tA} (hl:l.length<1000000)
  (hr:∀k t,I k t->iA yA 253 ⟨0,t⟩ (.ptr box 0)=some v/\cA t 1 (fB .u32 l) v)
  (hy:∀k x t,l[k]?=some x->I (k+1) t->∀R:mB,(∀t',I k t'->R (.bool true) t')->oD (eK y [.int .u32 (x:Nat)]) fun p=>Wq yA F wD p.1 p.2 t R)
  (hQ:∀t,I 0 t->Q (.tup []) t) (h:I l.length t):Wc yA F 269 [y,.ptr box 0] t Q:=by
 obtain⟨g0,hv⟩:=hr _ _ h
 refine w269 ?_
 simp (disch:=omega) only[uI,uZ,uW,t269,oA,g0,hv.len,fF,vA,zC,wrap_i64]
 exact zci hl hr hy hQ l.length t (ybk _) h
end
end Go.Proofs
namespace Go.Am
open Go Go.RowKit
variable {b base el k n sz:Nat}{cl cm:List (List zA)}{t':Tr tA}{cd:Lo}{l m:List D}{v x:zA}
section
variable {t tf:Tr tA}{C:lA}
theorem nO (hn:t.get n=none)(q:tA):bA t (t.set n q)/\yF n t (t.set n q):=
 ⟨fun c u hc=>by grind [Tr.get_set],fun c hc=>by rw[Tr.get_set,yaa hc]⟩
theorem OI   {lo:Option Lo}(hl:∀(i:Nat) cs,cl[i]?=some cs->cs.length=sz)(h:t'.get n=some (.cells (Tr.ofList cl.flatten) (aA cl.flatten) lo))(hlo:lo=none\/∃x,lo=some x/\x.es=sz) (hk:cl.length=k):cN t' sz (.slice n 0 k k) cl:=by
 grind [BE]
theorem Mp{T:Nat}{y z:mD}{ps:List (Nat × zA)} (hT:C.tys.get T=some y)(hel:y.desc.asSlice=some el)(hz:C.tys.get el=some z)(hs:z.size=sz)(h0:aA z.zero=sz)(hn:n*sz<1000000)
  (hfill:kL (fun i=>some (i*sz,sz)) ps (xI z.zero n)=some cl.flatten) (hcl:∀(i:Nat) cs,cl[i]?=some cs->cs.length=sz) (hlen:cl.length=n)  (hb:t.get b=none) :
  ∃t',wE C T n ps ⟨b,t⟩=some (.slice b 0 n n,⟨b+1,t'⟩)/\cN t' sz (.slice b 0 n n) cl/\bA t t'/\yF b t t':=by
 refine⟨t.set b (.cells (Tr.ofList cl.flatten) (aA cl.flatten) none),?_,OI hcl (by rw[Tr.get_set,yab rfl]) (.inl rfl) hlen,(nO hb _).1,(nO hb _).2⟩
 unfold wE;rw[hT,qA,hel,qA,hz,qA];have:(Nat.blt (n*z.size) 1000000&&Nat.beq (aA z.zero) z.size)=true:=by
  simp_all
 rw[this,cD,hs,hfill];rfl
def tG(cd:Lo)(base:Nat)(tf t:Tr tA)(sz:Nat)(l:List D)(v:zA):Prop:=
 (v=.nilslice/\l=[])\/∃b cl c,v=.slice b 0 l.length l.length/\base<=b/\tf.get b=none/\t.get b=some (.cells c (l.length*sz) (some cd)) ∧
  (∀(i:Nat) cs,cl[i]?=some cs->cs.length=sz/\∀(j:Nat) a,cs[j]?=some a->c.get (i*sz+j)=some a)/\uD tf l cl
abbrev uV(base:Nat)(tf t:Tr tA)(sz:Nat)(l:List D)(v:zA):Prop:=tG (.sz sz) base tf t sz l v
def mM(v:zA)(b:Nat):Prop:=∃o n c,v=.slice b o n c
theorem AE  : ¬ mM .nilslice b:=fun⟨_,_,_,h⟩=>by cases h
theorem Cx{c o:Nat}:mM (.slice b o n k) c ↔ c=b:=⟨fun⟨_,_,_,h⟩=>by grind,fun h=>by subst h;exact⟨_,_,_,rfl⟩⟩
theorem tG.read    (hcd:cd.es=sz)(h:tG cd base tf t sz l v)(ht:bA tf t):cA t sz l v:=by
 rcases h with⟨rfl,rfl⟩ | ⟨b,cl,c,rfl,_,_,h1,h2,h3⟩
 ·exact⟨[],.inl ⟨rfl,rfl⟩,cH.2 rfl⟩
 ·have hlen:=h3.length
  refine⟨cl,.inr ⟨b,0,l.length,by rw[hlen],by omega,⟨c,_,_,h1,.inr ⟨_,rfl,hcd⟩⟩,fun i cs hi=>⟨(h2 i cs hi).1,c,_,_,h1,fun j a hj=>?_⟩⟩,uD.mono ht _ _ h3⟩
  simp_all
theorem tG.len    (h:tG cd base tf t sz l v):qC v=some (.int .i64 (l.length:Int)):=by
 rcases h with⟨rfl,rfl⟩ | ⟨b,cl,c,rfl,_⟩
 ·rfl
 ·rfl
theorem tG.one    (h:tG cd base tf t sz l v):zA.one v=true:=by
 rcases h with⟨rfl,rfl⟩ | ⟨b,cl,c,rfl,_⟩<;>rfl
theorem tG.same{cd:Lo}{base sz d:Nat}{l:List D}{v:zA}(h:tG cd base tf t sz l v):same d v v=true:=by
 rcases h with⟨rfl,rfl⟩ | ⟨b,cl,c,rfl,_⟩
 all_goals grind [Am.same,Nat.beq_refl]
theorem tG.none{cd:Lo}{base sz:Nat}{l:List D}{v:zA}(h:tG cd base tf t sz l v){b:Nat}(hb:mM v b):tf.get b=none/\base<=b/\∃y,t.get b=some y:=by
 rcases h with⟨rfl,rfl⟩ | ⟨c,cl,x,rfl,h1,h2,h3,_⟩
 all_goals grind [AE,Cx]
theorem uV.keep   {tf':Tr tA}(h:uV base tf t sz l v)(hf:bA tf tf')(hk:∀b,mM v b->t'.get b=t.get b/\tf'.get b=Option.none):uV base tf' t' sz l v:=by
 rcases h with⟨rfl,rfl⟩ | ⟨b,cl,c,rfl,h0,h1,h2,h3,h4⟩
 ·exact .inl ⟨rfl,rfl⟩
 ·obtain⟨k1,k2⟩:=hk b (Cx.2 rfl)
  exact .inr ⟨b,cl,c,rfl,h0,k2,by simp_all,h3,uD.mono hf _ _ h4⟩
theorem QM{T U:Nat} (hT:Br C T el sz)(hU:∃u,C.tys.get U=some u/\Nat.beq u.desc.tag 1=false)(hcd:∀z,C.tys.get el=some z->jM el z=cd)   (hv:tG cd C.base tf t sz l v)(hall:∀(i:Nat) cs,cm[i]?=some cs->cs.length=sz)(hx:∀n,fU ⟨n,t⟩ sz cm.length x=some cm.flatten/\Ct x=some cm.length)(hm:uD tf m cm)(hone:∀a∈cm.flatten,zA.one a=true)(hpos:0<m.length)(hl:l.length+m.length<400000) (hn:t.get n=none)(hbase:C.base<=n)(ht:bA tf t) :
  ∃t',aG C T U v x ⟨n,t⟩=some (.slice n 0 (l.length+m.length) (l.length+m.length),⟨n+1,t'⟩)/\tG cd C.base tf t' sz (l++m) (.slice n 0 (l.length+m.length) (l.length+m.length))/\bA tf t'/\(∀c,c≠n->¬ mM v c->t'.get c=t.get c):=by
 obtain⟨⟨y,hy1,hy2,hy3⟩,⟨z,hz1,hz2,hz3,hz4,hz5⟩⟩:=hT
 have hcode:=hcd z hz1
 have hcm:=hm.length
 obtain⟨hf,hlen⟩:=hx n
 obtain⟨u,hu1,hu2⟩:=hU
 have hflat:=AO hall
 have hfl:aA cm.flatten=cm.length*sz:=by grind [lD]
 have hfn:tf.get n=none:=by
  cases hq:tf.get n with
  | none=>rfl
  | some u=>rw[ht _ _ hq]at hn;cases hn
 have base:aG C T U v x ⟨n,t⟩=(match v.asSlice with
  | some s=>bif Nat.ble (s.2.2.1+cm.length) s.2.2.2 then Ao C ⟨n,t⟩ z cm.length cm.flatten s else Aq C ⟨n,t⟩ el z cm.length cm.flatten s
  | none=>wB (Nat.beq v.tag 5) (vY ⟨n,t⟩ el z cm.length cm.flatten)):=by
  unfold aG iY;grind [qA,cD]
 have ok:Ap z l.length l.length cm.length cm.flatten=true:=by
  unfold Ap;have h1:Nat.blt (l.length+cm.length+l.length) 1000000000=true:=nC.2 (by omega)
  have h2:Nat.blt ((l.length+cm.length+l.length)*z.bytes) 1000000000=true:=nC.2 (by
   have:=ydb (show l.length+cm.length+l.length<=800000 by omega) hz4
   omega)
  grind [nC,fC]
 rcases hv with⟨rfl,rfl⟩ | ⟨b,cl,c,rfl,hb0,hb1,hb2,hb3,hb4⟩
 ·refine⟨t.set n (.cells (Tr.ofList cm.flatten) (aA cm.flatten) (some cd)),?_,.inr ⟨n,cm,Tr.ofList cm.flatten,by simp,hbase,hfn,?_,fun i cs hi=>⟨hall i cs hi,fun j a hj=>?_⟩,by simp_all⟩,?_,fun c hc _=>(nO hn _).2 c hc⟩
  ·rw[base]
   simp only[zA.asSlice];show wB true (vY ⟨n,t⟩ el z cm.length cm.flatten)=_
   rw[cD];unfold vY;have:Nat.beq cm.length 0=false:=by
    grind [fC]
   have ok:Ap z 0 0 cm.length cm.flatten=true:=ok
   rw[this,cond_false,ok,cD,hcm,hcode];simp only[ybx,ybw];rfl
  ·grind [Tr.get_set]
  ·grind [Tr.get_ofList,AP]
  ·exact ht.trans (nO hn _).1
 ·have hcl:=hb4.length
  have hbn:b≠n:=by grind
  refine⟨(t.del b).set n (.cells (c.setMany cm.flatten (l.length*z.size)) ((l.length+cm.length)*z.size) (some cd)),?_,.inr ⟨n,cl++cm,c.setMany cm.flatten (l.length*z.size),by simp,hbase,hfn,?_,fun i cs hi=>?_,?_⟩,fun k u hk=>?_,fun k hk1 hk2=>?_⟩
  ·rw[base]
   simp only[zA.asSlice];have:Nat.ble (l.length+cm.length) l.length=false:=by
    grind [fE]
   rw[this,cond_false];unfold Aq;simp only[];rw[show ∀x,(!(Nat.beq 0 1&&x))=true from fun _=>rfl,cD,ok,cD]
   unfold qD;rw[hb2,qA];simp only[tA.asCells,qA];unfold Iz;simp only[];have g1:loEq cd (jM el z)=true:=by grind [JQ]
   have g2:Nat.ble (l.length*z.size) (l.length*sz)=true:=fE.2 (by simp_all)
   have g3:Nat.ble (l.length*sz) ((l.length+cm.length)*z.size)=true:=fE.2 (by grind)
   have g4:fD zA.one cm.flatten=true:=by grind [vI]
   have g5:(!Nat.blt b C.base)=true:=by
    grind [nC]
   rw[g1,g2,g3,g4,g5];simp_all
  ·rw[Tr.get_set,yab rfl,hz2,hcm,ybg]
  ·rw[List.getElem?_append]at hi
   split at hi
   ·rename_i hlt
    obtain⟨k1,k2⟩:=hb3 i cs hi
    refine⟨k1,fun j a hj=>?_⟩
    have hjl:j<sz:=by grind
    have:i*sz+j<l.length*sz:=by
     have:=ybi sz (show i+1<=l.length by omega)
     grind
    grind [Tr.get_setMany]
   ·rename_i hge
    have k1:=hall _ cs hi
    refine⟨k1,fun j a hj=>?_⟩
    have hf1:=AP hall _ j cs a hi hj
    have hlt:=(ybc.1 hf1).1
    have e:i*sz=l.length*sz+(i-cl.length)*sz:=by rw[<- ybo];simp_all
    grind [Tr.get_setMany]
  ·have app:∀ {l m:List D} {cl cm:List (List zA)},uD tf l cl->uD tf m cm->uD tf (l++m) (cl++cm):=by
    intro l;induction l with
    | nil=>grind [cH]
    | cons d l ih=>
     grind [cG]
   simp_all
  ·have h1:k≠b:=by grind
   have h2:k≠n:=by grind
   rw[Tr.get_set,yaa h2,Tr.get_del,yaa h1];exact ht _ _ hk
  grind [Tr.get_set,Tr.get_del,Cx]
def QN{T:Nat} (hT:Br C T el sz)(hcd:∀z,C.tys.get el=some z->jM el z=cd)   (hv:tG cd C.base tf t sz l v)(hx:cN t sz x cm)(hm:uD tf m cm)(hone:∀a∈cm.flatten,zA.one a=true)(hpos:0<m.length)(hl:l.length+m.length<400000) (hn:t.get n=none)(hbase:C.base<=n)(ht:bA tf t) :
  ∃t',aG C T T v x ⟨n,t⟩=some (.slice n 0 (l.length+m.length) (l.length+m.length),⟨n+1,t'⟩)/\tG cd C.base tf t' sz (l++m) (.slice n 0 (l.length+m.length) (l.length+m.length))/\bA tf t'/\(∀c,c≠n->¬ mM v c->t'.get c=t.get c):=by
 obtain⟨y,hy1,hy2,hy3⟩:=hT.ty
 exact QM hT ⟨y,hy1,hy3⟩ hcd hv hx.len (fun n=>hx.first (n:=n)) hm hone hpos hl hn hbase ht
def ZQ{T:Nat}(hT:Gw C T el sz)   (hv:uV C.base tf t sz l v)(hx:cN t sz x cm)(hm:uD tf m cm)(hone:∀a∈cm.flatten,zA.one a=true)(hpos:0<m.length)(hl:l.length+m.length<400000) (hn:t.get n=none)(hbase:C.base<=n)(ht:bA tf t) :
  ∃t',aG C T T v x ⟨n,t⟩=some (.slice n 0 (l.length+m.length) (l.length+m.length),⟨n+1,t'⟩)/\uV C.base tf t' sz (l++m) (.slice n 0 (l.length+m.length) (l.length+m.length))/\bA tf t'/\(∀c,c≠n->¬ mM v c->t'.get c=t.get c):=by
 refine QN ⟨hT.ty,hT.el⟩ (fun z h=>?_) hv hx hm hone hpos hl hn hbase ht
 obtain⟨y,h1,h2,_⟩:=hT.el
 rw[hT.nb.code h,show z=y from yci (h.symm.trans h1),h2]
theorem tG.freeze    (hcd:cd.es=sz)(h:tG cd base tf t sz l v)(ht:bA tf t):∃tf',bA tf tf'/\bA tf' t/\cA tf' sz l v/\∀b,¬ mM v b->tf'.get b=tf.get b:=by
 rcases h with⟨rfl,rfl⟩ | ⟨b,cl,c,rfl,h0,h1,h2,h3,h4⟩
 ·exact⟨tf,bA.refl _,ht,⟨[],.inl ⟨rfl,rfl⟩,cH.2 rfl⟩,fun _ _=>rfl⟩
 ·have hlen:=h4.length
  refine⟨tf.set b (.cells c (l.length*sz) (some cd)),(nO h1 _).1,fun k u hk=>?_,⟨cl,.inr ⟨b,0,l.length,by rw[hlen],by omega,⟨c,_,_,by rw[Tr.get_set,yab rfl],.inr ⟨_,rfl,hcd⟩⟩,fun i cs hi=>⟨(h3 i cs hi).1,c,_,_,(by rw[Tr.get_set,yab rfl]),fun j a hj=>?_⟩⟩,uD.mono (nO h1 _).1 _ _ h4⟩,fun k hk=>by rw[Tr.get_set,yaa (fun e=>hk (Cx.2 e))]⟩
  ·rw[Tr.get_set]at hk
   split at hk
   ·simp_all
   ·exact ht _ _ hk
  simp_all
theorem uV.freeze   (h:uV base tf t sz l v)(ht:bA tf t):∃tf',bA tf tf'/\bA tf' t/\cA tf' sz l v/\∀b,¬ mM v b->tf'.get b=tf.get b:=tG.freeze rfl h ht
end
end Go.Am
namespace Go.Am
open Go Go.RowKit
section
variable {l:List zA}{j:Nat}{y:mD}{v:zA}
def iC (t:Tr tA)(b:Nat)(lo:Option Lo)(cs:List zA):Prop:=∃c,t.get b=some (.cells c cs.length lo)/\∀(j:Nat) a,cs[j]?=some a->c.get j=some a
def yM(cs:List zA)(j:Nat)(l:List zA):List zA:=cs.take j++(l++cs.drop (j+l.length))
theorem IC{cs:List zA} (h:j+l.length<=cs.length):(yM cs j l).length=cs.length:=by
 grind [yM]
theorem Rb{cs:List zA} (h:j+l.length<=cs.length)(k:Nat):(yM cs j l)[k]?=if j<=k/\k<j+l.length then l[k-j]? else cs[k]?:=by
 grind [yM]
section
variable {t tf:Tr tA}{C:lA}{b:Nat}{lo:Option Lo}{cs:List zA}
theorem iC.at(h:iC t b lo cs):At t b 0 cs:=by
 obtain⟨c,h1,h2⟩:=h
 exact⟨c,_,_,h1,fun j a hj=>by simp_all⟩
theorem iC.off(h:iC t b lo cs){t':Tr tA}(k:t'.get b=t.get b):iC t' b lo cs:=by
 obtain⟨c,h1,h2⟩:=h
 exact⟨c,by simp_all,h2⟩
theorem iC.load1(h:iC t b lo cs) {a:zA}{ty:Nat} (hy:C.tys.get ty=some y)(ha:y.desc.isAgg=false)(hj:cs[j]?=some a):iA C ty ⟨0,t⟩ (.ptr b j)=some a:=by
 have:=h.at.load1 hy ha hj
 simp_all
theorem iC.store(h:iC t b lo cs)(hb:C.base<=b){T:Nat}  (hT:C.tys.get T=some y)(hl:v.cells.length=y.size)(hj:j+v.cells.length<=cs.length)(hone:fD zA.one v.cells=true) :
  ∃t',(∀n,sC C T (.ptr b j) v ⟨n,t⟩=some (pD,⟨n,t'⟩))/\iC t' b lo (yM cs j v.cells)/\yF b t t':=by
 obtain⟨c,h1,h2⟩:=h
 refine⟨t.set b (.cells (c.setMany v.cells j) cs.length lo),fun n=>?_,⟨c.setMany v.cells j,?_,fun k a hk=>?_⟩,fun d hd=>by rw[Tr.get_set,yaa hd]⟩
 ·unfold sC
  rw[hT,qA];simp only[zA.asPtr,qA];have e1:Nat.beq (aA v.cells) y.size=true:=by grind [lD,fC]
  rw[e1,cD];unfold yJ qD;have e2:(!Nat.blt b C.base)=true:=by
   grind [nC]
  rw[e2,cD,h1,qA];simp only[tA.asCells,qA];have e3:Nat.ble (j+aA v.cells) cs.length=true:=by simp_all
  rw[e3,hone];rfl
 all_goals grind [Tr.get_set,IC,Rb,Tr.get_setMany]
theorem iC.store1(h:iC t b lo cs)(hb:C.base<=b){T:Nat}  (hT:C.tys.get T=some y)(hs:y.size=1)(hv:v.cells=[v])(hone:zA.one v=true)(hj:j<cs.length) :
  ∃t',(∀n,sC C T (.ptr b j) v ⟨n,t⟩=some (pD,⟨n,t'⟩))/\iC t' b lo (cs.set j v)/\yF b t t':=by
 obtain⟨t',h1,h2,h3⟩:=h.store hb hT (v:=v) (j:=j) (by simp_all) (by grind) (by rw[hv];show(bif zA.one v then true else false)=true;simp_all)
 refine⟨t',h1,?_,h3⟩
 have e:yM cs j v.cells=cs.set j v:=by
  rw[hv];apply List.ext_getElem?
  grind [Rb]
 simp_all
theorem Fj{b:Nat}(hb:t.get b=none)(cs:List zA)(lo:Option Lo):∃t',uF ⟨b,t⟩ cs lo=⟨b+1,t'⟩/\iC t' b lo cs/\bA t t'/\yF b t t':=
 ⟨t.set b (.cells (Tr.ofList cs) (aA cs) lo),rfl,⟨Tr.ofList cs,by rw[Tr.get_set,yab rfl,lD],fun j a hj=>by grind [Tr.get_ofList]⟩,(nO hb _).1,(nO hb _).2⟩
def dO{b T:Nat} (hT:C.tys.get T=some y)(hb:t.get b=none):∃t',yI C T ⟨b,t⟩=some (.ptr b 0,⟨b+1,t'⟩)/\iC t' b none y.zero/\bA t t'/\yF b t t':=by
 obtain⟨t',h1,h2,h3,h4⟩:=Fj hb y.zero none
 refine⟨t',?_,h2,h3,h4⟩
 unfold yI;rw[hT,qA,<- h1]
theorem Tv{b:Nat} (hb:t.get b=none):∃t',zL v ⟨b,t⟩=some (.ptr b 0,⟨b+1,t'⟩)/\iC t' b none v.cells/\bA t t'/\yF b t t':=by
 simp_all [Fj,zL]
end
end
section
variable {k n:Nat}{t':Tr tA}
structure pF where
 blks:List Nat
 ok:Tr tA->Tr tA->Prop
 keep:∀ {tf t tf' t':Tr tA},ok tf t->bA tf tf'->(∀k∈blks,t'.get k=t.get k/\tf'.get k=none)->ok tf' t'
 live:∀ {tf t:Tr tA},ok tf t->∀k∈blks,∃y,t.get k=some y
structure yB (base:Nat) (tf t:Tr tA) (l:List pF):Prop where
 tle:bA tf t
 nodup:(l.flatMap pF.blks).Nodup
 ok:∀o∈l,o.ok tf t
 low:∀k∈l.flatMap pF.blks,base<=k/\tf.get k=none
def Di (v:zA):List Nat:=match v with | .slice b _ _ _=>[b] | _=>[]
theorem Rn{v:zA}{k:Nat}:k∈Di v ↔ mM v k:=by
 unfold Di mM;grind
def aC (b:Nat)(lo:Option Lo)(cs:List zA):pF where
 blks:=[b]
 ok:=fun _ t=>iC t b lo cs
 keep:=fun h _ k=>h.off (k b (by simp)).1
 live:=fun h k hk=>by rw[ydd]at hk;subst hk;obtain⟨c,hc,_⟩:=h;simp_all
def jO(base sz:Nat)(l:List D)(v:zA):pF where
 blks:=Di v
 ok:=fun tf t=>uV base tf t sz l v
 keep:=fun h hf k=>h.keep hf fun b hb=>k b (Rn.2 hb)
 live:=fun h k hk=>(h.none (Rn.1 hk)).2.2
section
variable {base:Nat}{tf t:Tr tA}{l A B:List pF}{o o':pF}
theorem yB.live(h:yB base tf t l) (hk:k∈l.flatMap pF.blks):∃y,t.get k=some y:=by
 obtain⟨o,ho,hk⟩:=List.mem_flatMap.1 hk
 exact o.live (h.ok o ho) k hk
theorem yB.fresh(h:yB base tf t l) (hn:t.get n=none):n∉l.flatMap pF.blks:=by
 intro hm;obtain⟨y,hy⟩:=h.live hm
 simp_all
theorem yB.tfn(h:yB base tf t l) (hn:t.get n=none):tf.get n=none:=by
 cases hq:tf.get n with
 | none=>rfl
 | some y=>have:=h.tle _ _ hq;simp_all
theorem yB.keep(h:yB base tf t l){tf':Tr tA}(hf:bA tf tf')(ht:bA tf' t')(hk:∀k∈l.flatMap pF.blks,t'.get k=t.get k/\tf'.get k=none):yB base tf' t' l:=
 ⟨ht,h.nodup,fun o ho=>o.keep (h.ok o ho) hf fun k hk'=>hk k (List.mem_flatMap.2 ⟨o,ho,hk'⟩),fun k hk'=>⟨(h.low k hk').1,(hk k hk').2⟩⟩
theorem yB.junk(h:yB base tf t l)  (hn:t.get n=none)(ho:yF n t t'):yB base tf t' l:=
 h.keep (bA.refl _) (h.tle.off (h.tfn hn) ho) fun k hk=>⟨ho k (fun e:k=n=>h.fresh hn (e ▸ hk)),(h.low k hk).2⟩
def yB.other(h:yB base tf t l)  (hn:n∉l.flatMap pF.blks)(hf:tf.get n=none)(ho:yF n t t'):yB base tf t' l:=
 h.keep (bA.refl _) (h.tle.off hf ho) fun k hk=>⟨ho k (fun e:k=n=>hn (e ▸ hk)),(h.low k hk).2⟩
theorem yB.froze(h:yB base tf t l) {y:tA}(hn:n∉l.flatMap pF.blks)(hy:t.get n=some y)(hf:tf.get n=none):yB base (tf.set n y) t l/\bA tf (tf.set n y):=by
 have h1:=(nO (t:=tf) hf y).1
 refine⟨h.keep h1 (fun k u hk=>?_) fun k hk=>⟨rfl,?_⟩,h1⟩
 ·rw[Tr.get_set]at hk
  split at hk
  ·simp_all
  ·exact h.tle _ _ hk
 ·rw[Tr.get_set,yaa (fun e:k=n=>hn (e ▸ hk))];exact(h.low k hk).2
def Su:(A++o::B).flatMap pF.blks=A.flatMap pF.blks++(o.blks++B.flatMap pF.blks):=by simp
theorem yB.upd(h:yB base tf t (A++o::B)) (hk:∀k,k∉o.blks->k∉o'.blks->t'.get k=t.get k)(hn:∀k∈o'.blks,k∈o.blks\/(t.get k=none/\base<=k))(hok:o'.ok tf t')(hnd:o'.blks.Nodup)(ht:bA tf t'):yB base tf t' (A++o'::B):=by
 have hd:=h.nodup
 rw[Su]at hd;rw[List.nodup_append]at hd;obtain⟨d1,d2,d3⟩:=hd
 rw[List.nodup_append]at d2;obtain⟨d4,d5,d6⟩:=d2
 have oth:∀k,k∈A.flatMap pF.blks\/k∈B.flatMap pF.blks->k∉o.blks/\k∉o'.blks/\t'.get k=t.get k/\base<=k/\tf.get k=none:=by
  intro k hk';have hm:k∈(A++o::B).flatMap pF.blks:=by rw[Su];simp only[yaf];rcases hk' with h | h<;>simp[h]
  have h1:k∉o.blks:=fun hc=>by
   grind
  have h2:k∉o'.blks:=fun hc=>by
   rcases hn k hc with h' | h'
   ·grind
   ·obtain⟨y,hy⟩:=h.live hm
    simp_all
  exact⟨h1,h2,hk k h1 h2,h.low k hm⟩
 have mem:∀k,k∈(A++o'::B).flatMap pF.blks->(k∈A.flatMap pF.blks\/k∈B.flatMap pF.blks)\/k∈o'.blks:=by
  grind
 refine⟨ht,?_,fun p hp=>?_,fun k hk'=>?_⟩
 ·grind
 ·have hp':p∈A\/p=o'\/p∈B:=by simp_all
  rcases hp' with h' | h' | h'
  ·exact p.keep (h.ok p (by simp[h'])) (bA.refl _) fun k hk'=>by
    grind
  ·simp_all
  ·exact p.keep (h.ok p (by simp[h'])) (bA.refl _) fun k hk'=>by
    grind
 ·rcases mem k hk' with h' | h'
  ·simp_all
  ·rcases hn k h' with h'' | h''
   ·exact h.low k (by simp_all)
   ·exact⟨h''.2,h.tfn h''.1⟩
def Rk:pF:=⟨[],fun _ _=>True,fun _ _ _=>trivial,fun _ _ h=>by cases h⟩
theorem yB.add(h:yB base tf t (A++B)) (hk:∀k,k∉o'.blks->t'.get k=t.get k)(hn:∀k∈o'.blks,t.get k=none/\base<=k)(hok:o'.ok tf t')(hnd:o'.blks.Nodup)(ht:bA tf t'):yB base tf t' (A++o'::B):=by
 have e:yB base tf t (A++Rk::B):=by
  have hm:(A++Rk::B).flatMap pF.blks=(A++B).flatMap pF.blks:=by simp[Rk]
  refine⟨h.tle,by rw[hm];exact h.nodup,fun o ho=>?_,fun k hk=>h.low k (by simp_all)⟩
  have:o∈A\/o=Rk\/o∈B:=by simp_all
  rcases this with h' | h' | h'
  ·exact h.ok o (by simp[h'])
  ·subst h';trivial
  ·exact h.ok o (by simp[h'])
 exact e.upd (fun k _ h2=>hk k h2) (fun k hk=>.inr (hn k hk)) hok hnd ht
theorem yB.drop(h:yB base tf t (A++o::B)):yB base tf t (A++B):=by
 have hd:=h.nodup
 rw[Su]at hd;refine⟨h.tle,?_,fun p hp=>h.ok p (by rcases yaf.1 hp with h | h<;>simp[h]),fun k hk=>h.low k (by rw[Su];rw[List.flatMap_append]at hk;rcases yaf.1 hk with h | h<;>simp[h])⟩
 grind
theorem yB.notin(h:yB base tf t (A++o::B)) (hk:k∈o.blks):k∉(A++B).flatMap pF.blks:=by
 have hd:=h.nodup
 grind
def yB.freezeL{sz:Nat}{m:List D}{v:zA}(h:yB base tf t (A++jO base sz m v::B)):∃tf',bA tf tf'/\yB base tf' t (A++B)/\cA tf' sz m v:=by
 have hl:uV base tf t sz m v:=h.ok (jO base sz m v) (by simp)
 obtain⟨tf',h1,h2,h3,h4⟩:=hl.freeze h.tle
 refine⟨tf',h1,h.drop.keep h1 h2 fun k hk=>⟨rfl,?_⟩,h3⟩
 have hb:¬ mM v k:=fun hb=>h.notin (o:=jO base sz m v) (Rn.2 hb) hk
 rw[h4 k hb];exact(h.drop.low k hk).2
end
end
section
variable {b cap el k:Nat}{cs:List zA}{lo:Option Lo}
section
variable {t tf:Tr tA}{C:lA}
theorem ZP{T m n:Nat}  {x:zA}{cm:List (List zA)}(hT:Br C T el 1)(hc:iC t b lo cs)(hb:C.base<=b)(hx:cN t 1 x cm)(hm:cm.length=m)(h0:0<m)(hk:k+m<=cap)(hcap:cap<=cs.length)(hone:∀a∈cm.flatten,zA.one a=true) :
  ∃t',aG C T T (.slice b 0 k cap) x ⟨n,t⟩=some (.slice b 0 (k+m) cap,⟨n,t'⟩)/\iC t' b lo (yM cs k cm.flatten)/\yF b t t':=by
 obtain⟨⟨y,hy1,hy2,hy3⟩,⟨z,hz1,hz2,hz3,hz4,hz5⟩⟩:=hT
 obtain⟨hf,hlen⟩:=hx.first (n:=n)
 have hfl:=AO hx.len
 rw[Nat.mul_one,hm]at hfl;obtain⟨c,h1,h2⟩:=hc
 have hne:cm.flatten≠[]:=by grind
 refine⟨t.set b (.cells (c.setMany cm.flatten k) cs.length lo),?_,⟨c.setMany cm.flatten k,by rw[Tr.get_set,yab rfl,IC (by omega)],fun j a hj=>?_⟩,fun d hd=>by rw[Tr.get_set,yaa hd]⟩
 ·unfold aG iY
  rw[hy1,qA,qA,hy3];simp only[ycl,cD];rw[hy2,qA,hz1,qA,hlen,qA,hz2,hf,qA];simp only[zA.asSlice,hm];rw[fE.2 hk,cond_true];unfold Ao
  cases hq:cm.flatten with
  | nil=>simp_all
  | cons a r=>
   simp only[hz2,Nat.mul_one,ybw];rw[<- hq];unfold yJ qD;have e2:(!Nat.blt b C.base)=true:=by
    grind [nC]
   rw[e2,cD,h1,qA];simp only[tA.asCells,qA];have e3:Nat.ble (k+aA cm.flatten) cs.length=true:=by grind [lD,fE]
   have e4:fD zA.one cm.flatten=true:=by grind [vI]
   rw[e3,e4];rfl
 grind [Rb,Tr.get_setMany]
def Jo(l:List Nat):List zA:=l.map fun(n:Nat)=>zA.int .u8 (n:Int)
theorem YH{S Dt:Nat}  {l:List Nat}{yS yD yE:mD}(hS:C.tys.get S=some yS)(hD:C.tys.get Dt=some yD)(h1:yD.desc.asInt=none)(h2:yD.desc.isString=true)(h3:yS.desc.asSlice=some el)(h4:C.tys.get el=some yE)(h5:yE.desc.asInt=some .u8)
  (hc:iC t b lo cs) (hk:l.length=k) (hl:∀(j:Nat) x,l[j]?=some x->cs[j]?=some (.int .u8 (x:Int))) (hlt:qB 256 l):xP C S Dt ⟨0,t⟩ (.slice b 0 k cap)=some (.str l):=by
 obtain⟨c,g1,g2⟩:=hc
 unfold xP oS;rw[hS,qA,hD,qA,h1];simp only[];rw[h2,cD];have e1:Nat.beq (zA.slice b 0 k cap).tag 2=false:=rfl
 rw[e1,cond_false,h3,qA,h4,qA,h5,qA,uM.2 rfl,cD];unfold Gh;simp only[zA.asSlice];unfold qD;rw[g1,qA];simp only[tA.asCells,qA]
 have hm:∀(l:List Nat) (off:Nat),(∀(j:Nat) x,l[j]?=some x->c.get (off+j)=some (.int .u8 (x:Int)))->c.many l.length off=some (Jo l):=by
  intro l;induction l with
  | nil=>intro off _;rfl
  | cons x l ih=>
   intro off h;rw[ybn,Tr.many_succ];have:=h 0 x rfl
   rw[yct]at this;rw[this,qA,ih (off+1) (fun j y hj=>by rw[show off+1+j=off+(j+1) by omega];simp_all),qA]
   rfl
 subst hk;rw[hm l 0 (fun j x hj=>by simp_all),qA]
 have hb:∀(l:List Nat),qB 256 l->aF yV (Jo l)=some l:=by
  intro l;induction l with
  | nil=>intro _;rfl
  | cons x l ih=>
   intro h;have e:yV (.int .u8 (x:Int))=some x:=by
    unfold yV;have e1:wM (x:Int)=some x:=rfl
    simp only[zA.asIntK,qA];rw[uM.2 rfl,cD,e1,qA,nC.2 (h x (by simp))];rfl
   show aF yV (.int .u8 (x:Int)::Jo l)=_
   rw[fN,e,qA,ih fun y hy=>h y (by simp[hy]),qA]
 rw[hb l hlt,qA]
theorem zbk{T:Nat}{y z:mD}{k:IntKind}(hT:C.tys.get T=some y)(hel:y.desc.asSlice=some el)(hz:C.tys.get el=some z)(hzero:z.zero=[.int k 0])(hs:z.size=1)(hby:z.bytes<=8)(hn:cap<1000000) (hb:t.get b=none) :
  ∃t',yP C T (.int .i64 0) (.int .i64 (cap:Int)) ⟨b,t⟩=some (.slice b 0 0 cap,⟨b+1,t'⟩)/\iC t' b none (List.replicate cap (.int k 0))/\bA t t'/\yF b t t':=by
 have hrep:∀n,xI [zA.int k 0] n=List.replicate n (.int k 0):=by
  intro n;induction n with
  | zero=>rfl
  | succ n ih=>grind [xI,kG]
 obtain⟨t',h1,h2,h3,h4⟩:=Fj hb (List.replicate cap (.int k 0)) none
 refine⟨t',?_,h2,h3,h4⟩
 unfold yP;rw[hT,qA,hel,qA,hz,qA];have e1:(zA.int .i64 (cap:Int)).asNat=some cap:=rfl
 have e0:(zA.int .i64 0).asNat=some 0:=rfl
 rw[e1,e0,qA,qA];have e2:(Nat.ble 0 cap&&Nat.blt cap 1000000&&Nat.blt (cap*z.bytes) 1000000000&&Nat.beq (aA z.zero) z.size)=true:=by
  rw[hzero,hs,show Nat.ble 0 cap=true from fE.2 (yaw _),nC.2 hn]
  have:cap*z.bytes<1000000000:=by
   have:=ydb (Nat.le_of_lt hn) hby
   omega
  rw[nC.2 this];rfl
 rw[e2,cD,hzero,hrep,h1]
end
end
end Go.Am
namespace Go.Am
open Go
variable {k:IntKind}{l m:List Nat}{base el n sz:Nat}{v:zA}{cd:Lo}
section
variable {C:lA}{t tf:Tr tA}
def mS(k:IntKind)(l:List Nat):List (List zA):=l.map fun(x:Nat)=>[zA.int k (x:Int)]
theorem Du{k:IntKind}:∀ {l:List Nat} {cl:List (List zA)},uD t (fB k l) cl ↔ cl=mS k l
 | [],cl=>by
  show uD t [] cl ↔ cl=[]
  exact cH
 | x::l,cl=>by
  show uD t (.int k (x:Int)::fB k l) cl ↔ cl=[.int k (x:Int)]::mS k l
  rw[cG];constructor
  ·rintro⟨c,r,rfl,h1,h2⟩
   rw[aY]at h1;rw[h1,Du.1 h2]
  ·rintro rfl
   exact⟨_,_,rfl,aY.2 rfl,Du.2 rfl⟩
def Tq{k:IntKind}:∀(l:List Nat),(mS k l).flatten=l.map fun(x:Nat)=>zA.int k (x:Int)
 | []=>rfl
 | x::l=>by
  show [zA.int k (x:Int)]++(mS k l).flatten=_
  rw[Tq l];rfl
theorem PT   : (mS k l).length=l.length:=by simp[mS]
theorem YS  (i:Nat)(cs:List zA)(h:(mS k l)[i]?=some cs):cs.length=1:=by
 grind [mS]
def ZB(l:List Nat)(h:qB 256 l):aF yV (Jo l)=some l:=by
 induction l with
 | nil=>rfl
 | cons x l ih=>
  have e:yV (.int .u8 (x:Int))=some x:=by
   unfold yV;have e1:wM (x:Int)=some x:=rfl
   simp only[zA.asIntK,qA];rw[uM.2 rfl,cD,e1,qA,nC.2 (h x (by simp))];rfl
  show aF yV (.int .u8 (x:Int)::Jo l)=_
  rw[fN,e,qA,ih fun y hy=>h y (by simp[hy]),qA]
theorem zgs{S Dt:Nat}  {yS yD yE:mD}(hS:C.tys.get S=some yS)(hD:C.tys.get Dt=some yD)(h1:yD.desc.asInt=none)(h2:yD.desc.isString=true)(h3:yS.desc.asSlice=some el)(h4:C.tys.get el=some yE)(h5:yE.desc.asInt=some .u8)
  (hv:cA t 1 (fB .u8 l) v) (hlt:qB 256 l):xP C S Dt ⟨0,t⟩ v=some (.str l):=by
 obtain⟨cl,g1,g2⟩:=hv
 rw[Du]at g2;subst g2;have hf:=(g1.first (n:=0)).1
 have htag:Nat.beq v.tag 2=false:=by
  rcases g1 with⟨rfl,_⟩ | ⟨b,off,cap,rfl,_⟩<;>rfl
 unfold xP oS;rw[hS,qA,hD,qA,h1];simp only[];rw[h2,cD,htag,cond_false,h3,qA,h4,qA,h5,qA,uM.2 rfl,cD];unfold Gh;rcases g1 with⟨rfl,hn⟩ | ⟨b,off,cap,rfl,_⟩
 ·have:l=[]:=by
   grind [PT]
  subst this;rfl
 ·unfold fU at hf
  simp only[zA.asSlice,Nat.mul_one]at hf ⊢
  rw[sA]at hf;obtain⟨c,hc,hf⟩:=hf
  rw[hc,qA,hf,qA,Tq];have:=ZB l hlt
  unfold Jo at this;rw[this,qA]
theorem XC{k:Nat} (h:l.length=k):fU ⟨n,t⟩ 1 k (.str l)=some (mS .u8 l).flatten/\Ct (.str l)=some k:=by
 subst h;constructor
 ·unfold fU
  simp only[zA.asSlice,zA.asStr];rw[Tq,bR,List.take_length];rfl
 grind [Ct,zA.asSlice,zA.asStr,lD]
def IH   : ∀a∈(mS k l).flatten,zA.one a=true:=by
 intro a ha;rw[Tq]at ha;obtain⟨x,_,rfl⟩:=yaq.1 ha
 rfl
theorem OT   : fB k (l++m)=fB k l++fB k m:=by simp[fB]
theorem QL{T U:Nat} (hT:Br C T el 1)(hU:∃u,C.tys.get U=some u/\Nat.beq u.desc.tag 1=false)(hcd:∀z,C.tys.get el=some z->jM el z=cd)  (hv:tG cd C.base tf t 1 (fB .u8 l) v)(hpos:m≠[])(hl:l.length+m.length<400000) (hn:t.get n=none)(hbase:C.base<=n)(ht:bA tf t) :
  ∃t',aG C T U v (.str m) ⟨n,t⟩=some (.slice n 0 (l.length+m.length) (l.length+m.length),⟨n+1,t'⟩)/\tG cd C.base tf t' 1 (fB .u8 (l++m)) (.slice n 0 (l.length+m.length) (l.length+m.length))/\bA tf t'/\(∀c,c≠n->¬ mM v c->t'.get c=t.get c):=by
 have h0:0<m.length:=List.length_pos_iff.2 hpos
 obtain⟨t',h1,h2,h3,h4⟩:=QM hT hU hcd (l:=fB .u8 l) (m:=fB .u8 m) (x:=.str m) (cm:=mS .u8 m) hv YS (fun n=>by grind [PT,XC]) (Du.2 rfl) IH (by grind [fF]) (by grind [fF]) hn hbase ht
 grind [fF,OT]
theorem QO{T:Nat}  (hT:Br C T el 1)(hcd:∀z,C.tys.get el=some z->jM el z=cd) {x:zA}(hv:tG cd C.base tf t 1 (fB k l) v)(hx:cA t 1 (fB k m) x)(hpos:m≠[])(hl:l.length+m.length<400000) (hn:t.get n=none)(hbase:C.base<=n)(ht:bA tf t) :
  ∃t',aG C T T v x ⟨n,t⟩=some (.slice n 0 (l.length+m.length) (l.length+m.length),⟨n+1,t'⟩)/\tG cd C.base tf t' 1 (fB k (l++m)) (.slice n 0 (l.length+m.length) (l.length+m.length))/\bA tf t'/\(∀c,c≠n->¬ mM v c->t'.get c=t.get c):=by
 have h0:0<m.length:=List.length_pos_iff.2 hpos
 obtain⟨cl,g1,g2⟩:=hx
 rw[Du]at g2;subst g2;obtain⟨t',h1,h2,h3,h4⟩:=QN hT hcd (l:=fB k l) (m:=fB k m) (x:=x) (cm:=mS k m) hv g1 (Du.2 rfl) IH (by grind [fF]) (by grind [fF]) hn hbase ht
 grind [fF,OT]
def JM   : tG cd base tf t sz [] .nilslice:=.inl ⟨rfl,rfl⟩
theorem tG.keep'  {l:List D} {t':Tr tA}(h:tG cd base tf t sz l v)(hk:∀b,mM v b->t'.get b=t.get b):tG cd base tf t' sz l v:=by
 rcases h with⟨rfl,rfl⟩ | ⟨b,cl,c,rfl,h0,h1,h2,h3,h4⟩
 ·exact .inl ⟨rfl,rfl⟩
 ·exact .inr ⟨b,cl,c,rfl,h0,h1,by grind [Cx],h3,h4⟩
end
end Go.Am
namespace Go.Am
variable {B U V a b d head m top u2 ur v2 vr:Nat}{l:List Nat}
def kn_ge (hU:U=(head*B+u2)*B^m+ur)(hur:ur<B^m)(hu2:u2<B)(hV:V=(top*B+v2)*B^m+vr)(htop:0<top):U / V<=head / top:=by
 have hBm:0<B^m:=by omega
 rw[Nat.le_div_iff_mul_le htop];have h1:U / V*V<=U:=Nat.div_mul_le_self U V
 have h2:top*B*B^m<=V:=by
  grind
 have h3:U<(head+1)*B*B^m:=by
  have:head*B+u2+1<=(head+1)*B:=by grind
  have:=ybi (B^m) this
  grind
 have h4:U / V*top*(B*B^m)<(head+1)*(B*B^m):=by
  calc U / V*top*(B*B^m)=U / V*(top*B*B^m):=by rw[ybj,ybj]
   _<=U / V*V:=ybv _ h2
   _<=U:=h1
   _<(head+1)*B*B^m:=h3
   _=(head+1)*(B*B^m):=by rw[ybj]
 exact Nat.lt_succ_iff.1 (Nat.lt_of_mul_lt_mul_right h4)
def kn_gt (hU:U=(head*B+u2)*B^m+ur)(hur:ur<B^m)(hV:V=(top*B+v2)*B^m+vr)(h:head*B+u2<d*(top*B+v2)):U / V<d:=by
 rcases yau (U / V) d with g | g
 ·exact g
 ·exfalso
  have h1:U / V*V<=U:=Nat.div_mul_le_self U V
  have h2:d*V<=U:=Nat.le_trans (ybi _ g) h1
  have h3:d*(top*B+v2)*B^m<=d*V:=by simp_all [ybj,ybv]
  have h4:=ybi (B^m) (show head*B+u2+1<=d*(top*B+v2) from h)
  grind
def kn_le (hB:0<B)(hU:U=(head*B+u2)*B^m+ur)(hV:V=(top*B+v2)*B^m+vr)(hvr:vr<B^m)(htop:0<top)(hd:d<=B)(h:d*(top*B+v2)<=head*B+u2):d<=U / V+1:=by
 have hVpos:0<V:=by
  rw[hV];have:0<top*B+v2:=by have:=Nat.mul_pos htop hB;omega
  have:=Nat.mul_pos this (show 0<B^m by omega)
  omega
 rcases yau (U / V+1) d with g | g
 ·exfalso
  have h1:(d-1)*V<=U:=by
   have e1:d*V<=d*((top*B+v2)*B^m)+d*B^m:=by
    simp_all [ybm,ybv,Nat.le_of_lt]
   have e2:d*((top*B+v2)*B^m)<=(head*B+u2)*B^m:=by rw[<- ybj];exact ybi _ h
   have e3:d*B^m<=V:=by
    have:d*B^m<=top*B*B^m:=by
     refine ybi _ (Nat.le_trans hd ?_)
     exact yan _ htop
    grind
   grind [Nat.sub_mul]
  have:=(Nat.le_div_iff_mul_le hVpos).2 h1
  omega
 ·exact g
def top2 (hB:0<B)  (hlt:qB B l)(hl:l.length=m+2)(ha:l[m+1]?=some a)(hb:l[m]?=some b):val B l=(a*B+b)*B^m+val B (l.take m)/\val B (l.take m)<B^m:=by
 have e1:=Ej B l m
 have hlen:(l.take m).length=m:=by grind
 rw[hlen]at e1;have e2:l.drop m=[b,a]:=by
  rw[fQ hb,fQ ha,List.drop_of_length_le (by omega)]
 grind [val,sO,Dn]
def top3 (hB:0<B) {c:Nat}(hlt:qB B l)(hl:l.length=m+3)(ha:l[m+2]?=some a)(hb:l[m+1]?=some b)(hc:l[m]?=some c):val B l=((a*B+b)*B+c)*B^m+val B (l.take m)/\val B (l.take m)<B^m:=by
 have e1:=Ej B l m
 have hlen:(l.take m).length=m:=by grind
 rw[hlen]at e1;have e2:l.drop m=[c,b,a]:=by
  rw[fQ hc,fQ hb,fQ ha,List.drop_of_length_le (by omega)]
 grind [val,sO,Dn]
end Go.Am
namespace Go.Proofs
open Go Go.Am
variable {b cap d j x:Nat}{A Z lv w:List Nat}{v:zA}{t0:Tr tA}{Q:mB}
variable [rC]
variable {t:Tr tA}
def BB:Nat:=4294967296
def vO:BB=4294967296:=rfl
def cI:0<BB:=by decide
theorem Sj{T el:Nat}(h:dH yA T el 1 false){off n:Nat}(hj:j<n):tC yA T (.slice b off n cap) (.int .i64 (j:Int))=some (.ptr b (off+j)):=by
 have:=Ek (b:=b) (off:=off) (cap:=cap) h hj
 simp_all
theorem Il  (h:w[j]?=some x):(A++w++Z)[A.length+j]?=some x:=by
 grind
def Ml  (h:j<w.length):(A++w++Z).set (A.length+j) x=A++w.set j x++Z:=by
 rw[ybz,List.set_append_right _ _ (by omega),Nat.add_sub_cancel_left,List.set_append_left _ _ h,ybz]
theorem ZW     (hv:cA t0 1 (fB .u32 lv) v)(hl:lv.length<900000)(hlv:qB BB lv)(hbase:yA.base<=b)(hb:t0.get b=none)(hd:0<d)(hd2:d<=BB)(W:List Nat)(hWl:W.length=lv.length)(hWlt:qB BB W)(last:Nat)(hlast:last<BB)(hcap:lv.length+1<=cap)
  (hQ:∀t' r up,yF b t t'->iF t' b .u32 (A++(r++[(last+up)%BB])++Z)->r.length=lv.length->qB BB r->up<2->val BB r+BB^lv.length*up=val BB W+val BB lv->Q (.int .u32 ((d-1:Nat):Int)) t') :
  ∀(k i up:Nat) (t':Tr tA) (r:List Nat),i+k=lv.length->bA t0 t'->yF b t t'->iF t' b .u32 (A++(r++(W++[last]).drop i)++Z)->r.length=i->qB BB r->up<2->val BB r+BB^i*up=val BB (W.take i)+val BB (lv.take i) →
  jp 310 10 [.slice b A.length (lv.length+1) cap,.int .i64 lv.length,.int .u64 d,.int .u32 up,v,.int .i64 lv.length,.int .i64 i] t' Q:=by
 intro k;induction k with
 | zero=>
  intro i up t' r hi ht hoff ho hr hrl hup hval;have hi':i=lv.length:=by omega
  subst hi'
  have hdrop:(W++[last]).drop lv.length=[last]:=by simp_all
  rw[hdrop]at ho;refine LW ?_
  have g1:=Sj qG (b:=b) (off:=A.length) (n:=lv.length+1) (cap:=cap) (j:=lv.length) (by omega)
  have hget:(r++[last])[lv.length]?=some last:=by simp_all
  have g2:=ho.load (Il (A:=A) (Z:=Z) hget) fG rfl
  obtain⟨t1,s1,s2,s3⟩:=ho.store (C:=yA) hbase (j:=A.length+lv.length) (by grind) ((last+up)%BB) fG rfl
  rw[Ml (by grind)]at s2
  have hset:(r++[last]).set lv.length ((last+up)%BB)=r++[(last+up)%BB]:=by simp_all
  rw[hset]at s2;have e1:fA .u32 ((last:Int)+(up:Int))=(((last+up)%BB:Nat):Int):=by rw[eT];show _=(((last+up)%4294967296:Nat):Int);omega
  simp only[uL,vC,uX,uZ,Vr,oA,gE,g1,g2,vA,zC,e1];rw[yaa (by omega)]
  intro _ _ _;rw[s1];simp only[vA];rw[yca (by omega),yca (by omega)]at hval
  have e2:fA .u32 (fA .u64 ((d:Int)-1))=((d-1:Nat):Int):=by
   have:d<=4294967296:=hd2
   grind [nF,dT]
  rw[e2];exact hQ t1 r up (hoff.trans s3) s2 hr hrl hup hval
 | succ k ih=>
  intro i up t' r hi ht hoff ho hr hrl hup hval;obtain⟨x,hx⟩:=getElem?_of_lt (l:=lv) (i:=i) (by omega)
  obtain⟨y,hy⟩:=getElem?_of_lt (l:=W) (i:=i) (by omega)
  have hxlt:x<BB:=dK hlv hx
  have hylt:y<BB:=dK hWlt hy
  obtain⟨c,off,g1,g2⟩:=(hv.mono ht).idx qG hx
  have hy':(W++[last])[i]?=some y:=by grind
  have hdrop:(W++[last]).drop i=y::(W++[last]).drop (i+1):=fQ hy'
  have g3:=Sj qG (b:=b) (off:=A.length) (n:=lv.length+1) (cap:=cap) (j:=i) (by omega)
  have hget:(r++(W++[last]).drop i)[i]?=some y:=by simp_all
  have g4:=ho.load (Il (A:=A) (Z:=Z) hget) fG rfl
  have hlen:i<(r++(W++[last]).drop i).length:=by simp_all
  obtain⟨t1,s1,s2,s3⟩:=ho.store (C:=yA) hbase (j:=A.length+i) (by grind) ((y+x+up)%BB) fG rfl
  rw[Ml hlen]at s2;have hset:(r++(W++[last]).drop i).set i ((y+x+up)%BB)=(r++[(y+x+up)%BB])++(W++[last]).drop (i+1):=by
   simp_all
  rw[hset]at s2;have hadd:=zhd (t:=t') (x:=y) (y:=x) (c:=up) hylt hxlt hup
  refine LW ?_
  simp (disch:=omega) only[uL,vC,uX,uZ,Vr,oA,gE,g1,g2,g3,g4,vA,zC,q317,hadd,iI,zA.asTup,qA,lG,yaz,yba,wrap_i64]
  rw[yab (by omega)]
  intro _ _ _;have s1':∀n,sC yA 254 (.ptr b (A.length+i)) (.int .u32 (((y+x+up)%4294967296:Nat):Int)) ⟨n,t'⟩=some (pD,⟨n,t1⟩):=s1
  rw[s1'];simp only[vA];refine ih (i+1) ((y+x+up) / BB) t1 _ (by omega) (ht.off hb s3) (hoff.trans s3) s2 (by simp[hr]) (eY hrl (ycy _ (by decide))) ?_ ?_
  ·have h1:y<4294967296:=hylt
   have h2:x<4294967296:=hxlt
   show(y+x+up) / 4294967296<2
   omega
  ·rw[mN,hr,zQ hx,zQ hy,mN,mN]
   grind [Nat.div_add_mod]
theorem EQ{u low bo:Nat}(hu:u<BB)(hl:low<BB)(hb:bo<2):∃w b',w<BB/\b'<2/\u+BB*b'=w+low+bo ∧
  fA .u32 (fA .u64 (fA .u64 ((u:Int)-(low:Int))-(bo:Int)))=(w:Int)/\Int.fdiv (fA .u64 (fA .u64 ((u:Int)-(low:Int))-(bo:Int))) 9223372036854775808=(b':Int):=by
 have hu:u<4294967296:=hu
 have hl:low<4294967296:=hl
 rcases yau u (low+bo)with g | g
 ·refine⟨u+BB-low-bo,1,by omega,by omega,by omega,?_,?_⟩
  ·rw[eT,Pa,Pa];show _=((u+4294967296-low-bo:Nat):Int);omega
  grind [Pa]
 ·refine⟨u-low-bo,0,by omega,by omega,by omega,?_,?_⟩
  all_goals grind [eT,Pa]
theorem WC{lu:List Nat}    (hv:cA t0 1 (fB .u32 lv) v)(hl:lv.length<900000)(hlv:qB BB lv)(hbase:yA.base<=b)(hb:t0.get b=none)(hd:d<BB)(hlul:lu.length=lv.length+1)(hlu:qB BB lu)(hcap:lv.length+1<=cap)
  (hQ:∀t' (W:List Nat) last bo,bA t0 t'->yF b t t'->iF t' b .u32 (A++(W++[last])++Z)->W.length=lv.length->qB BB W->last<BB->bo<2->val BB (W++[last])+d*val BB lv=val BB lu+BB^(lv.length+1)*bo →
   if bo=0 then Q (.int .u32 (d:Int)) t' else jp 310 10 [.slice b A.length (lv.length+1) cap,.int .i64 lv.length,.int .u64 d,.int .u32 0,v,.int .i64 lv.length,.int .i64 (0:Nat)] t' Q) :
  ∀(k i carry borrow:Nat) (t':Tr tA) (W:List Nat),i+k=lv.length->bA t0 t'->yF b t t'->iF t' b .u32 (A++(W++lu.drop i)++Z)->W.length=i->qB BB W->carry<BB->borrow<2->val BB W+d*val BB (lv.take i)=val BB (lu.take i)+BB^i*(carry+borrow) →
  jp 310 6 [.slice b A.length (lv.length+1) cap,v,.int .i64 lv.length,.int .u64 d,.int .u64 carry,.int .u64 borrow,v,.int .i64 lv.length,.int .i64 i] t' Q:=by
 intro k;induction k with
 | zero=>
  intro i carry borrow t' W hi ht hoff ho hW hWl hc hbo hval;have hi':i=lv.length:=by omega
  subst hi'
  obtain⟨x,hx⟩:=getElem?_of_lt (l:=lu) (i:=lv.length) (by omega)
  have hxlt:x<BB:=dK hlu hx
  have hdrop:lu.drop lv.length=[x]:=by rw[fQ hx,List.drop_of_length_le (by omega)]
  rw[hdrop]at ho;obtain⟨w,bo,hw,hbo',hsum,e1,e2⟩:=EQ hxlt hc hbo
  have g1:=Sj qG (b:=b) (off:=A.length) (n:=lv.length+1) (cap:=cap) (j:=lv.length) (by omega)
  have hget:(W++[x])[lv.length]?=some x:=by simp_all
  have g2:=ho.load (Il (A:=A) (Z:=Z) hget) fG rfl
  obtain⟨t1,s1,s2,s3⟩:=ho.store (C:=yA) hbase (j:=A.length+lv.length) (by grind) w fG rfl
  rw[Ml (by grind)]at s2
  have hset:(W++[x]).set lv.length w=W++[w]:=by simp_all
  rw[hset]at s2;have hx32:x<4294967296:=hxlt
  have e0:fA .u64 (x:Int)=(x:Int):=nF (by omega) (by omega)
  refine zit ?_
  simp only[uI,uL,vC,uZ,Vp,oA,gE,g1,g2,vA,zC,e0,e1,e2,lI];rw[yaa (by omega)]
  intro _ _ _;rw[s1];simp only[vA];have hfin:=hQ t1 W w bo (ht.off hb s3) (hoff.trans s3) s2 hW hWl hw hbo' (by
   grind [mN,val,Ej])
  by_cases hz:bo=0
  ·rw[yab (by omega)]
   rw[yab hz]at hfin;have hd32:d<4294967296:=hd
   grind [dT]
  ·rw[yaa (by omega)]
   rw[yaa hz]at hfin;simp only[(hv.mono (ht.off hb s3)).len,vA,zC,fF]
   exact hfin
 | succ k ih=>
  intro i carry borrow t' W hi ht hoff ho hW hWl hc hbo hval;obtain⟨x,hx⟩:=getElem?_of_lt (l:=lu) (i:=i) (by omega)
  obtain⟨y,hy⟩:=getElem?_of_lt (l:=lv) (i:=i) (by omega)
  have hxlt:x<BB:=dK hlu hx
  have hylt:y<BB:=dK hlv hy
  have hd32:d<4294967296:=hd
  have hx32:x<4294967296:=hxlt
  have hy32:y<4294967296:=hylt
  have hc32:carry<4294967296:=hc
  have hdrop:lu.drop i=x::lu.drop (i+1):=fQ hx
  obtain⟨c,off,g1,g2⟩:=(hv.mono ht).idx qG hy
  have g3:=Sj qG (b:=b) (off:=A.length) (n:=lv.length+1) (cap:=cap) (j:=i) (by omega)
  have hget:(W++lu.drop i)[i]?=some x:=by simp_all
  have g4:=ho.load (Il (A:=A) (Z:=Z) hget) fG rfl
  have hprod:d*y<=4294967295*4294967295:=ydb (by omega) (by omega)
  obtain⟨P,hP⟩:∃P,P=d*y+carry:=⟨_,rfl⟩
  have hPlt:P<18446744073709551616:=by omega
  have hPhi:P / 4294967296<4294967296:=by omega
  obtain⟨w,bo,hw,hbo',hsum,e1,e2⟩:=EQ (u:=x) (low:=P%4294967296) (bo:=borrow) hxlt (ycy _ (by decide)) hbo
  obtain⟨t1,s1,s2,s3⟩:=ho.store (C:=yA) hbase (j:=A.length+i) (by simp_all) w fG rfl
  rw[Ml (by simp_all)]at s2
  have hset:(W++lu.drop i).set i w=(W++[w])++lu.drop (i+1):=by simp_all
  rw[hset]at s2;have e0:fA .u64 (x:Int)=(x:Int):=nF (by omega) (by omega)
  have e0':fA .u64 (y:Int)=(y:Int):=nF (by omega) (by omega)
  have e3:(d:Int)*(y:Int)=((d*y:Nat):Int):=(Int.natCast_mul d y).symm
  have e4:fA .u64 ((d*y:Nat):Int)=((d*y:Nat):Int):=by
   grind [nF]
  have e5:fA .u64 (((d*y:Nat):Int)+(carry:Int))=(P:Int):=by
   rw[hP,<- Int.natCast_add];grind [nF]
  have e6:fA .u64 (fA .u32 (P:Int))=((P%4294967296:Nat):Int):=by
   grind [eT,nF]
  have e7:Int.fdiv (P:Int) 4294967296=((P / 4294967296:Nat):Int):=De P 4294967296
  refine zit ?_
  simp only[uI,uL,vC,uZ,Vp,oA,gE,g1,g2,g3,g4,vA,zC,e0,e0',e3,e4,e5,e6,e7,e1,e2];rw[yab (by omega)]
  intro _ _ _;rw[s1];simp (disch:=omega) only[vA,wrap_i64]
  refine ih (i+1) (P / 4294967296) bo t1 _ (by omega) (ht.off hb s3) (hoff.trans s3) s2 (by simp[hW]) (eY hWl hw) hPhi hbo' ?_
  rw[mN,hW,zQ hx,zQ hy,mN,mN];have l1:(lu.take i).length=i:=by simp;omega
  have l2:(lv.take i).length=i:=by simp;omega
  grind [Nat.div_add_mod,BB]
attribute [irreducible] BB
end Go.Proofs
namespace Go.Proofs
open Go Go.Am
variable [rC]
variable {t:Tr tA}
theorem or32{x y:Nat}(hx:x<4294967296)(hy:y<4294967296):rI Nat.lor .u64 ((x*4294967296:Nat):Int) (y:Int)=some (.int .u64 ((x*4294967296+y:Nat):Int)):=by
 have h:=Et (a:=x) (b:=y) (n:=32) hy
 have e:(2:Nat)^32=4294967296:=by decide
 rw[e]at h;rw[iU (k:=.u64) (show x*4294967296<pG .u64 by show _<18446744073709551616;omega) (show y<pG .u64 by show _<18446744073709551616;omega),h]
theorem WV{lu lv:List Nat}{u v:zA}{Q:mB}{m head top u2 v2 U V ur vr:Nat}(hu:cA t 1 (fB .u32 lu) u)(hv:cA t 1 (fB .u32 lv) v)(hl:m<900000)(hu2:lu[m]?=some u2)(hv2:lv[m]?=some v2)(hu2lt:u2<BB)(hv2lt:v2<BB)(htop:0<top)(htoplt:top<BB)
  (hU:U=(head*BB+u2)*BB^m+ur) (hur:ur<BB^m) (hV:V=(top*BB+v2)*BB^m+vr) (hvr:vr<BB^m) (hq:U / V<BB) (hhead:head<=top*BB+(BB-1))
  (hexit:∀d,U / V<=d->d<=U / V+1->d<BB->jp 310 19 [u,v,.int .i64 (m+2:Nat),.int .u64 d] t Q) :
  ∀(d rest:Nat),d*top+rest=head->U / V<=d->d<=BB+1->rest<BB->jp 310 2 [u,v,.int .i64 (m+2:Nat),.int .u64 top,.int .u64 d,.int .u64 rest] t Q:=by
 intro d;induction d with
 | zero=>
  intro rest hsum hge _ hrest;have hBB:=vO
  have hr32:rest<4294967296:=by omega
  obtain⟨b,off,g1,g2⟩:=hv.idx qG hv2
  obtain⟨c,off',g3,g4⟩:=hu.idx qG hu2
  have hu32:u2<4294967296:=by omega
  have hv32:v2<4294967296:=by omega
  obtain⟨D,hD⟩:∃D:Int,((0:Nat):Int)=D:=⟨_,rfl⟩
  rw[hD];refine ziu ?_
  unfold Vq uQ13 uL uE uZ uW;generalize hC:(4294967296:Int)=C
  generalize hG:rI Nat.lor .u64 (fA .u64 ((rest:Int)*C))=G
  have e4:D*(v2:Int)=0:=by grind
  have e1:((m+2:Nat):Int)-2=(m:Int):=by omega
  have e2:(rest:Int)*C=((rest*4294967296:Nat):Int):=by simp_all
  have e3:G (u2:Int)=some (.int .u64 ((rest*4294967296+u2:Nat):Int)):=by rw[<- hG,e2,nF (by omega) (by omega)];grind [or32]
  simp only[oA,sI];rw[yaa (by omega)]
  simp (disch:=omega) only[e1,wrap_i64,g1,vA]
  rw[g2];simp only[vA,zC,g3];rw[g4,vA,zC,vA,nF (n:=(u2:Int)) (by omega) (by omega),e3,vA,zC,vA,nF (n:=(v2:Int)) (by omega) (by omega),e4,nF (n:=0) (by decide) (by decide)]
  grind [gE]
 | succ d ih=>
  intro rest hsum hge hle hrest;have hBB:=vO
  have hr32:rest<4294967296:=by omega
  have ht32:top<4294967296:=by omega
  have hle32:d+1<=4294967296+1:=by omega
  have hsum':d*top+(rest+top)=head:=by grind
  obtain⟨D,hD⟩:∃D:Int,((d+1:Nat):Int)=D:=⟨_,rfl⟩
  rw[hD];have e1:D-1=(d:Int):=by omega
  have e0:(rest:Int)+(top:Int)=((rest+top:Nat):Int):=by omega
  have less:U / V<=d->(if (4294967296:Int)<=((rest+top:Nat):Int)then jp 310 19 [u,v,.int .i64 (m+2:Nat),.int .u64 d] t Q else jp 310 2 [u,v,.int .i64 (m+2:Nat),.int .u64 top,.int .u64 d,.int .u64 ((rest+top:Nat):Int)] t Q):=by
   intro hge';split
   ·rename_i hb
    have hb':BB<=rest+top:=by omega
    have hdlt:d<BB:=by
     grind
    refine hexit d hge' ?_ hdlt
    refine kn_le cI hU hV hvr htop (Nat.le_of_lt hdlt) ?_
    have h1:d*v2<=BB*BB:=ydb (Nat.le_of_lt hdlt) (Nat.le_of_lt hv2lt)
    have h2:BB*BB<=(rest+top)*BB:=ybi _ hb'
    have h3:head*BB=d*top*BB+(rest+top)*BB:=by rw[<- hsum',ybo]
    grind
   ·rename_i hb
    exact ih (rest+top) hsum' hge' (by omega) (by omega)
  refine ziu ?_
  unfold Vq uQ13 uL uE uZ uW;generalize hC:(4294967296:Int)=C
  generalize hG:rI Nat.lor .u64 (fA .u64 ((rest:Int)*C))=G
  by_cases hbig:4294967296<=d+1
  ·simp (disch:=omega) only[oA,sI,e0,e1,nF]
   rw[yab (by omega)]
   grind
  ·obtain⟨b,off,g1,g2⟩:=hv.idx qG hv2
   obtain⟨c,off',g3,g4⟩:=hu.idx qG hu2
   have hu32:u2<4294967296:=by omega
   have hv32:v2<4294967296:=by omega
   have e5:((m+2:Nat):Int)-2=(m:Int):=by omega
   have e2:(rest:Int)*C=((rest*4294967296:Nat):Int):=by simp_all
   have e6:fA .u64 (D*(v2:Int))=(((d+1)*v2:Nat):Int):=by
    rw[<- hD,<- Int.natCast_mul];have:(d+1)*v2<=4294967295*4294967295:=ydb (by omega) (by omega)
    grind [nF]
   have e3:G (u2:Int)=some (.int .u64 ((rest*4294967296+u2:Nat):Int)):=by rw[<- hG,e2,nF (by omega) (by omega)];grind [or32]
   simp only[oA,sI];rw[yaa (by omega)]
   simp (disch:=omega) only[e5,wrap_i64,g1,vA]
   rw[g2];simp only[vA,zC,g3];rw[g4,vA,zC,vA,nF (n:=(u2:Int)) (by omega) (by omega),e3,vA,zC,vA,nF (n:=(v2:Int)) (by omega) (by omega),e6]
   have e7:fA .u64 ((rest:Int)+(top:Int))=((rest+top:Nat):Int):=by rw[e0];exact nF (by omega) (by omega)
   have e8:fA .u64 (D-1)=(d:Int):=by rw[e1];grind [nF]
   rw[e7,e8];have key:(d+1)*(top*BB+v2)=(d+1)*top*BB+(d+1)*v2:=by rw[ybm,<- ybj]
   have key2:head*BB=(d+1)*top*BB+rest*BB:=by rw[<- hsum,ybo]
   by_cases htest:rest*4294967296+u2<(d+1)*v2
   ·rw[yab (gE.2 (by omega))]
    subst hC;refine less (Nat.lt_succ_iff.1 (kn_gt hU hur hV ?_))
    grind
   ·rw[yaa (fun h=>absurd (gE.1 h) (by omega))]
    rw[<- hD];refine hexit (d+1) hge (kn_le cI hU hV hvr htop (by omega) ?_) (by omega)
    grind
end Go.Proofs
