/- Facts on types. (Printed by a tool.) -/
import Derived.Test.YtefajchlhjcgpaaGreatDoorA18
set_option linter.all false
noncomputable section
set_option maxRecDepth 100000
namespace Go.Proofs
open Go Go.Am
variable [nC]
theorem aJ:yA.tys.get 3=some ⟨(.int .i64),1,8,[.int .i64 0],true⟩:=by kernel_rfl
def ty4:yA.tys.get 4=some ⟨.bool,1,1,[.bool false],true⟩:=by kernel_rfl
theorem ty5:yA.tys.get 5=some ⟨(.int .u8),1,1,[.int .u8 0],true⟩:=by kernel_rfl
theorem gL:yA.tys.get 9=some ⟨.string,1,16,[.str []],true⟩:=by kernel_rfl
def ty22:yA.tys.get 22=some ⟨(.slice 261),1,24,[.nilslice],true⟩:=by kernel_rfl
def ty24:yA.tys.get 24=some ⟨(.struct [(0,4,1),(1,22,1)]),2,32,[.bool false,.nilslice],true⟩:=by kernel_rfl
def ty28:yA.tys.get 28=some ⟨(.struct [(0,5,1),(1,26,4),(5,3,1)]),6,80,[.int .u8 0,.bool false,.nilslice,.bool false,.nilslice,.int .i64 0],true⟩:=by kernel_rfl
def ty29:yA.tys.get 29=some ⟨(.slice 31),1,24,[.nilslice],true⟩:=by kernel_rfl
def ty31:yA.tys.get 31=some ⟨(.struct [(0,5,1),(1,9,1),(2,28,6),(8,29,1)]),9,128,[.int .u8 0,.str [],.int .u8 0,.bool false,.nilslice,.bool false,.nilslice,.int .i64 0,.nilslice],true⟩:=by kernel_rfl
def Ak:yA.tys.get 34=some ⟨(.int .i64),1,8,[.int .i64 0],true⟩:=by kernel_rfl
def yX:yA.tys.get 39=some ⟨(.struct [(0,3,1),(1,3,1)]),2,16,[.int .i64 0,.int .i64 0],true⟩:=by kernel_rfl
def ty62:yA.tys.get 62=some ⟨(.slice 9),1,24,[.nilslice],true⟩:=by kernel_rfl
def ty69:yA.tys.get 69=some ⟨(.ptr 191),1,8,[.nilptr],true⟩:=by kernel_rfl
def ty76:yA.tys.get 76=some ⟨(.ptr 141),1,8,[.nilptr],true⟩:=by kernel_rfl
def mV:yA.tys.get 96=some ⟨(.slice 5),1,24,[.nilslice],true⟩:=by kernel_rfl
theorem ty131:yA.tys.get 131=some ⟨(.struct [(0,5,1),(1,9,1),(2,4,1),(3,3,1),(4,3,1),(5,3,1),(6,3,1),(7,3,1)]),8,72,[.int .u8 0,.str [],.bool false,.int .i64 0,.int .i64 0,.int .i64 0,.int .i64 0,.int .i64 0],true⟩:=by kernel_rfl
def qU:yA.tys.get 136=some ⟨(.slice 149),1,24,[.nilslice],true⟩:=by kernel_rfl
def zno:yA.tys.get 147=some ⟨(.struct [(0,9,1),(1,5,1)]),2,24,[.str [],.int .u8 0],true⟩:=by kernel_rfl
def zgd:yA.tys.get 149=some ⟨(.struct [(0,5,1),(1,9,1),(2,39,2)]),4,40,[.int .u8 0,.str [],.int .i64 0,.int .i64 0],true⟩:=by kernel_rfl
def znn:yA.tys.get 201=some ⟨(.slice 147),1,24,[.nilslice],true⟩:=by kernel_rfl
def Na:yA.tys.get 209=some ⟨(.arr 10 5),10,10,[.int .u8 0,.int .u8 0,.int .u8 0,.int .u8 0,.int .u8 0,.int .u8 0,.int .u8 0,.int .u8 0,.int .u8 0,.int .u8 0],true⟩:=by kernel_rfl
def ty223:yA.tys.get 223=some ⟨(.arr 7 9),7,112,[.str [],.str [],.str [],.str [],.str [],.str [],.str []],true⟩:=by kernel_rfl
def ty236:yA.tys.get 236=some ⟨(.map 3 9),1,8,[.nilmap],true⟩:=by kernel_rfl
def ty239:yA.tys.get 239=some ⟨(.struct [(0,39,2),(2,9,1),(3,3,1)]),4,40,[.int .i64 0,.int .i64 0,.str [],.int .i64 0],true⟩:=by kernel_rfl
def ty249:yA.tys.get 249=some ⟨(.slice 3),1,24,[.nilslice],true⟩:=by kernel_rfl
def fL:yA.tys.get 253=some ⟨(.slice 254),1,24,[.nilslice],true⟩:=by kernel_rfl
def yH:yA.tys.get 254=some ⟨(.int .u32),1,4,[.int .u32 0],true⟩:=by kernel_rfl
def Dm:yA.tys.get 261=some ⟨(.int .u16),1,2,[.int .u16 0],true⟩:=by kernel_rfl
def gQ:yA.tys.get 270=some ⟨(.int .u64),1,8,[.int .u64 0],true⟩:=by kernel_rfl
def ty287:yA.tys.get 287=some ⟨(.ptr 253),1,8,[.nilptr],true⟩:=by kernel_rfl
def ty304:yA.tys.get 304=some ⟨(.arr 12 3),12,96,[.int .i64 0,.int .i64 0,.int .i64 0,.int .i64 0,.int .i64 0,.int .i64 0,.int .i64 0,.int .i64 0,.int .i64 0,.int .i64 0,.int .i64 0,.int .i64 0],true⟩:=by kernel_rfl
def znm:yA.tys.get 323=some ⟨(.slice 24),1,24,[.nilslice],true⟩:=by kernel_rfl
def ty340:yA.tys.get 340=some ⟨(.arr 12 339),60,480,[.str [],.int .u8 0,.bool false,.int .i64 0,.int .i64 0,.str [],.int .u8 0,.bool false,.int .i64 0,.int .i64 0,.str [],.int .u8 0,.bool false,.int .i64 0,.int .i64 0,.str [],.int .u8 0,.bool false,.int .i64 0,.int .i64 0,.str [],.int .u8 0,.bool false,.int .i64 0,.int .i64 0,.str [],.int .u8 0,.bool false,.int .i64 0,.int .i64 0,.str [],.int .u8 0,.bool false,.int .i64 0,.int .i64 0,.str [],.int .u8 0,.bool false,.int .i64 0,.int .i64 0,.str [],.int .u8 0,.bool false,.int .i64 0,.int .i64 0,.str [],.int .u8 0,.bool false,.int .i64 0,.int .i64 0,.str [],.int .u8 0,.bool false,.int .i64 0,.int .i64 0,.str [],.int .u8 0,.bool false,.int .i64 0,.int .i64 0],true⟩:=by kernel_rfl
def Au:gI yA 22 261 1 false:=⟨⟨_,ty22,rfl⟩,⟨_,Dm,rfl,rfl⟩⟩
def sl29:gI yA 29 31 9 true:=⟨⟨_,ty29,rfl⟩,⟨_,ty31,rfl,rfl⟩⟩
def sl62:gI yA 62 9 1 false:=⟨⟨_,ty62,rfl⟩,⟨_,gL,rfl,rfl⟩⟩
def sl96:gI yA 96 5 1 false:=⟨⟨_,mV,rfl⟩,⟨_,ty5,rfl,rfl⟩⟩
def sl136:gI yA 136 149 4 true:=⟨⟨_,qU,rfl⟩,⟨_,zgd,rfl,rfl⟩⟩
def sl201:gI yA 201 147 2 true:=⟨⟨_,znn,rfl⟩,⟨_,zno,rfl,rfl⟩⟩
def sl249:gI yA 249 3 1 false:=⟨⟨_,ty249,rfl⟩,⟨_,aJ,rfl,rfl⟩⟩
def iG:gI yA 253 254 1 false:=⟨⟨_,fL,rfl⟩,⟨_,yH,rfl,rfl⟩⟩
def sl323:gI yA 323 24 2 true:=⟨⟨_,znm,rfl⟩,⟨_,ty24,rfl,rfl⟩⟩
end Go.Proofs
namespace Go.Am
open Go Go.RowKit
def cC (l:List Nat):List D:=l.map fun(n:Nat)=>D.int .u16 (n:Int)
theorem dR(l:List Nat):(cC l).length=l.length:=by simp[cC]
structure iJ where
 neg:Bool
 limbs:List Nat
def iJ.d(w:iJ):D:=.st [.bool w.neg,.sl 1 (cC w.limbs)]
structure zF where
 n:iJ
 d:iJ
def zF.dd(f:zF):D:=.st [f.n.d,f.d.d]
structure eD where
 kind:Nat
 f:zF
 i:Int
def eD.d(v:eD):D:=.st [.int .u8 v.kind,v.f.dd,.int .i64 v.i]
inductive lA where
 | mk (op:Nat) (name:List Nat) (v:eD) (args:List lA)
def lA.op:lA->Nat | .mk o _ _ _=>o
def lA.name:lA->List Nat | .mk _ n _ _=>n
def lA.v:lA->eD | .mk _ _ v _=>v
def lA.args:lA->List lA | .mk _ _ _ a=>a
mutual
def lA.d:lA->D
 | .mk op name v args=>.st [.int .u8 op,.str name,v.d,.sl 9 (lA.ds args)]
def lA.ds:List lA->List D
 | []=>[]
 | x::l=>x.d::lA.ds l
end
theorem lA.ds_eq(l:List lA):lA.ds l=l.map lA.d:=by
 induction l with
 | nil=>rfl
 | cons x l ih=>simp[lA.ds,ih]
structure XRow where
 a:Int
 b:Int
 known:Int
 f:zF
def XRow.d(r:XRow):D:=.st [.int .i64 r.a,.int .i64 r.b,.int .i64 r.known,r.f.dd]
structure Lu where
 name:List Nat
 two:Bool
 rows:List XRow
def Lu.d(x:Lu):D:=.st [.str x.name,.bool x.two,.sl 7 (x.rows.map XRow.d)]
structure XDef where
 name:List Nat
 kind:Nat
 fact:Bool
def XDef.d(x:XDef):D:=.st [.str x.name,.int .u8 x.kind,.bool x.fact]
structure Da where
 name:List Nat
 label:List Nat
 from_:Int
 to:Int
 known:Int
 off:Bool
 when_:lA
 then_:lA
def Da.d(x:Da):D:=.st [.str x.name,.str x.label,.int .i64 x.from_,.int .i64 x.to,.int .i64 x.known,.bool x.off,x.when_.d,x.then_.d]
structure Ip where
 name:List Nat
 defs:List XDef
 tables:List Lu
 clauses:List Da
def Ip.d(x:Ip):D:=.st [.str x.name,.sl 3 (x.defs.map XDef.d),.sl 3 (x.tables.map Lu.d),.sl 24 (x.clauses.map Da.d)]
section
variable {t:Tr tA}{cs:List zA}
theorem Sl{w:iJ}(h:RD t w.d cs):∃v,cs=[.bool w.neg,v]/\aA t 1 (cC w.limbs) v:=by
 grind [iJ.d,eO,vH,cH,fW,Vy]
theorem rd_frac{f:zF}(h:RD t f.dd cs):∃u v,cs=[.bool f.n.neg,u,.bool f.d.neg,v]/\aA t 1 (cC f.n.limbs) u/\aA t 1 (cC f.d.limbs) v:=by
 grind [zF.dd,eO,vH,cH,Sl]
theorem oX{v:eD}(h:RD t v.d cs):∃a b,cs=[.int .u8 v.kind,.bool v.f.n.neg,a,.bool v.f.d.neg,b,.int .i64 v.i]/\aA t 1 (cC v.f.n.limbs) a/\aA t 1 (cC v.f.d.limbs) b:=by
 unfold eD.d at h;simp only[eO,vH,cH,Ah]at h;obtain⟨cl,rfl,c,r,rfl,rfl,c',r',rfl,h2,c'',r'',rfl,rfl,rfl⟩:=h
 obtain⟨a,b,rfl,h3,h4⟩:=rd_frac h2
 exact⟨a,b,rfl,h3,h4⟩
def nI{x:lA}(h:RD t x.d cs):∃a b c,cs=[.int .u8 x.op,.str x.name,.int .u8 x.v.kind,.bool x.v.f.n.neg,a,.bool x.v.f.d.neg,b,.int .i64 x.v.i,c] ∧
  aA t 1 (cC x.v.f.n.limbs) a/\aA t 1 (cC x.v.f.d.limbs) b/\aA t 9 (x.args.map lA.d) c:=by
 obtain⟨op,name,v,args⟩:=x
 unfold lA.d at h;rw[lA.ds_eq]at h;simp only[eO,vH,cH,Ah,Ag,fW]at h;obtain⟨cl,rfl,c,r,rfl,rfl,c',r',rfl,rfl,c'',r'',rfl,hv,c3,r3,rfl,⟨w,rfl,h4⟩,rfl⟩:=h
 obtain⟨a,b,rfl,h5,h6⟩:=oX hv
 exact⟨a,b,w,rfl,h5,h6,h4⟩
def cExpr(x:lA)(a b c:zA):List zA:=[.int .u8 x.op,.str x.name,.int .u8 x.v.kind,.bool x.v.f.n.neg,a,.bool x.v.f.d.neg,b,.int .i64 x.v.i,c]
end
def iJ.zs(x:iJ):x.d.zs=[.bool false,.nilslice]:=rfl
def zF.zs(x:zF):x.dd.zs=[.bool false,.nilslice,.bool false,.nilslice]:=rfl
def eD.zs(x:eD):x.d.zs=[.int .u8 0,.bool false,.nilslice,.bool false,.nilslice,.int .i64 0]:=rfl
def lA.zs(x:lA):x.d.zs=[.int .u8 0,.str [],.int .u8 0,.bool false,.nilslice,.bool false,.nilslice,.int .i64 0,.nilslice]:=by cases x;rfl
def Jo(f:zF):Nat:=1+f.n.limbs.length+f.d.limbs.length
mutual
/-- the size, as it is counted up to a limit -/
def Av:lA->Int->Int
 | .mk _ name v args,left=>Aw args left (Jo v.f+(name.length:Int) / 30)
def Aw:List lA->Int->Int->Int
 | [],_,n=>n
 | x::l,left,n=>if n<=left then Aw l left (n+Av x (left-n))else n
end
def fG:Nat:=1125899906842624
def zF.ok(f:zF):Prop:=f.n.limbs.length<fG/\f.d.limbs.length<fG
mutual
def lA.ok:lA->Prop
 | .mk _ name v args=>name.length<fG/\v.f.ok/\args.length<fG/\lA.oks args
def lA.oks:List lA->Prop
 | []=>True
 | x::l=>x.ok/\lA.oks l
end
end Go.Am
namespace Go.Am
open Go Go.RowKit
section
def Za{f:zF}(h:f.ok):Jo f<4503599627370496:=by
 grind [zF.ok,fG,Jo]
mutual
def GM:∀(x:lA) (left:Int),x.ok->0<=Av x left/\Av x left<=max left 0+9007199254740992
 | .mk op name v args,left,h=>by
  unfold lA.ok at h;obtain⟨h1,h2,_,h4⟩:=h
  have hf:=Za h2
  unfold fG at h1;unfold Av;have:=GN args left (Jo v.f+(name.length:Int) / 30) h4 (by omega)
  omega
def GN:∀(l:List lA) (left n:Int),lA.oks l->0<=n->n<=Aw l left n/\Aw l left n<=max n (left+9007199254740992)
 | [],left,n,_,_=>by grind [Aw]
 | x::l,left,n,h,hn=>by
  unfold lA.oks at h;unfold Aw;split
  ·have h1:=GM x (left-n) h.1
   have h2:=GN l left (n+Av x (left-n)) h.2 (by omega)
   omega
  ·omega
end
theorem bE{a b:Int}:(fB a b=true) ↔ a<b:=Hp a b
theorem kI{a b:Int}:(gE a b=true) ↔ a<=b:=Ua a b
def OM{α:Type}{l:List α}{i:Nat}{x:α}{r:List α}(h:l.drop i=x::r):l[i]?=some x/\l.drop (i+1)=r/\i<l.length:=by
 have h1:(l.drop i)[0]?=some x:=by grind
 rw[yde]at h1;have hi:i<l.length:=by
  grind
 refine⟨by omega,?_,hi⟩
 have:=List.drop_drop (l:=l) (i:=1) (j:=i)
 simp_all
def OL{α:Type}{l:List α}{i:Nat}(h:l.drop i=[]):l.length<=i:=by
 simp_all
def kX(l:List Nat):(Int.ofNat (yB l))=(l.length:Int):=by rw[kD];rfl
def Mt(cs:List zA):Rm true cs=.agg cs:=rfl
end
section
variable {cap el i j n ty x:Nat}{y:lD}
def bB(k:IntKind)(l:List Nat):List D:=l.map fun(n:Nat)=>D.int k (n:Int)
theorem vG{k:IntKind}(l:List Nat):(bB k l).length=l.length:=by simp[bB]
def OU{k:IntKind}{l:List Nat} (h:l[i]?=some x):(bB k l)[i]?=some (.int k (x:Int)):=by simp[bB,h]
theorem OT{k:IntKind}{l:List Nat}  : (bB k l).take n=bB k (l.take n):=by simp[bB]
def zG (t:Tr tA)(b:Nat)(k:IntKind)(l:List Nat):Prop:=∃c,t.get b=some (.cells c l.length none)/\∀(j:Nat) x,l[j]?=some x->c.get j=some (.int k (x:Int))
def wF (b:Nat)(t t':Tr tA):Prop:=∀c,c≠b->t'.get c=t.get c
theorem wF.refl(b:Nat)(t:Tr tA):wF b t t:=fun _ _=>rfl
def wF.trans{b:Nat}{x y z:Tr tA}(h:wF b x y)(k:wF b y z):wF b x z:=fun c hc=>(k c hc).trans (h c hc)
section
variable {t t' t0:Tr tA}{C:iA}{b:Nat}{k:IntKind}{l:List Nat}
theorem zG.off(h:zG t b k l){c:Nat}(hc:b≠c)(ho:wF c t t'):zG t' b k l:=by
 obtain⟨x,h1,h2⟩:=h;exact⟨x,by rw[ho b hc];exact h1,h2⟩
def zG.tle(h:zG t b k l)(ho:zB t t'):zG t' b k l:=by
 obtain⟨x,h1,h2⟩:=h;exact⟨x,ho _ _ h1,h2⟩
theorem zB.off(h:zB t0 t)(hb:t0.get b=none)(ho:wF b t t'):zB t0 t':=by
 intro c y hc;rw[ho c (by grind)]
 exact h c y hc
theorem zG.slice(h:zG t b k l){off:Nat}(hn:off+n<=l.length)(hc:n<=cap):aA t 1 (bB k ((l.drop off).take n)) (.slice b off n cap):=by
 obtain⟨c,h1,h2⟩:=h
 refine⟨((l.drop off).take n).map fun(x:Nat)=>[.int k (x:Int)],.inr ⟨b,off,cap,?_,?_,⟨c,_,none,h1,.inl rfl⟩,fun i cs hi=>?_⟩,?_⟩
 ·grind
 ·grind
 ·simp only[ybu,yar]at hi
  obtain⟨x,hx,rfl⟩:=hi
  refine⟨rfl,c,_,none,h1,fun j a hj=>?_⟩
  grind
 ·refine uD.mk (by simp[bB]) fun i d cs hd hc=>?_
  simp only[bB,ybu,yar]at hd hc;obtain⟨x,hx,rfl⟩:=hd
  simp_all
theorem zG.all(h:zG t b k l) (hc:l.length<=cap):aA t 1 (bB k l) (.slice b 0 l.length cap):=by
 have:=h.slice (off:=0) (n:=l.length) (by omega) hc
 simp_all
def Gi{T sz:Nat}{agg:Bool}(h:gI C T el sz agg){off:Nat}(hi:i<n):uC C T (.slice b off n cap) (.int .i64 (i:Int))=some (.ptr b (off+i*sz)):=by
 obtain⟨⟨y,hy1,hy2⟩,⟨z,hz1,hz2,hz3⟩⟩:=h
 unfold uC;rw[hy1,pA];have:(zA.int .i64 (i:Int)).asNat=some i:=rfl
 rw[this,pA];simp only[zA.asSlice];rw[hy2,pA,hz1,pA,qC.2 hi,hz2];rfl
theorem zG.load(h:zG t b k l) (hj:l[j]?=some x)  (hy:C.tys.get ty=some y)(ha:y.desc.isAgg=false):cA C ty ⟨0,t⟩ (.ptr b j)=some (.int k (x:Int)):=by
 obtain⟨c,h1,h2⟩:=h
 simp_all [cA,zA.asPtr,qD,tA.asCells,wT]
theorem zG.store(h:zG t b k l)(hb:C.base<=b) (hj:j<l.length)(x:Nat)  (hy:C.tys.get ty=some y)(hs:y.size=1) :
  ∃t',(∀n,mC C ty (.ptr b j) (.int k (x:Int)) ⟨n,t⟩=some (pD,⟨n,t'⟩))/\zG t' b k (l.set j x)/\wF b t t':=by
 obtain⟨c,h1,h2⟩:=h
 refine⟨t.set b (.cells (c.setMany [.int k (x:Int)] j) l.length none),fun n=>?_,⟨c.setMany [.int k (x:Int)] j,?_,fun i y hi=>?_⟩,fun d hd=>?_⟩
 ·unfold mC
  rw[hy,pA];simp only[zA.asPtr,pA,zA.cells,zA.asAgg];rw[hs];have e1:Nat.beq (yB [zA.int k (x:Int)]) 1=true:=rfl
  rw[e1,cD];unfold sJ qD;have e2:(!Nat.blt b C.base)=true:=by
   grind [qC]
  rw[e2,cD,h1,pA];simp only[tA.asCells,pA];have e3:Nat.ble (j+yB [zA.int k (x:Int)]) l.length=true:=aE.2 hj
  have e4:sD zA.one [zA.int k (x:Int)]=true:=rfl
  rw[e3,e4];rfl
 all_goals grind [Tr.get_set,Tr.get_setMany]
theorem Hg{T:Nat}{z:lD}(hT:C.tys.get T=some y)(hel:y.desc.asSlice=some el)(hz:C.tys.get el=some z)(hzero:z.zero=[.int k 0])(hs:z.size=1)(hby:z.bytes<=8) (hn:n<1000000)(hb:t.get b=none) :
  ∃t',fP C T (.int .i64 (n:Int)) (.int .i64 (n:Int)) ⟨b,t⟩=some (.slice b 0 n n,⟨b+1,t'⟩)/\zG t' b k (List.replicate n 0)/\zB t t'/\wF b t t':=by
 have hrep:∀n,oI [zA.int k 0] n=List.replicate n (.int k 0):=by
  intro n;induction n with
  | zero=>rfl
  | succ n ih=>grind [oI,aG]
 refine⟨t.set b (.cells (Tr.ofList (oI z.zero n)) (yB (oI z.zero n)) none),?_,⟨Tr.ofList (oI z.zero n),?_,fun j x hj=>?_⟩,fun c y' hc=>?_,fun c hc=>?_⟩
 ·unfold fP
  rw[hT,pA,hel,pA,hz,pA];have e1:(zA.int .i64 (n:Int)).asNat=some n:=rfl
  rw[e1,pA,pA];have e2:(Nat.ble n n&&Nat.blt n 1000000&&Nat.blt (n*z.bytes) 1000000000&&Nat.beq (yB z.zero) z.size)=true:=by
   rw[hzero,hs,show Nat.ble n n=true from aE.2 (ybk n),qC.2 hn]
   have:n*z.bytes<1000000000:=by
    have:=ydb (Nat.le_of_lt hn) hby
    omega
   rw[qC.2 this];rfl
  rw[e2,cD];rfl
 all_goals grind [Tr.get_set,kD,Tr.get_ofList]
end
end
end Go.Am
namespace Go.Am
variable {B:Nat}{l m:List Nat}
def val (B:Nat):List Nat->Nat
 | []=>0
 | a::l=>a+B*val B l
def oB(B:Nat)(l:List Nat):Prop:=∀x∈l,x<B
def norm (l:List Nat):Prop:=∀h:l≠[],l.getLast h≠0
theorem Jd(B:Nat):∀(l m:List Nat),val B (l++m)=val B l+B^l.length*val B m
 | [],m=>by simp[val]
 | a::l,m=>by
  simp only[List.cons_append,val,Jd B l m,ybn,yag];grind
theorem vP{B:Nat}(hB:0<B):∀ {l:List Nat},oB B l->val B l<B^l.length
 | [],_=>by simp[val]
 | a::l,h=>by
  have h1:=h a (yby)
  have h2:=vP hB (l:=l) fun x hx=>h x (ybr _ hx)
  simp only[val,ybn,yag];have h3:B*(val B l+1)<=B*B^l.length:=ybv B h2
  grind
theorem Gh(B:Nat)(l:List Nat)(n:Nat):val B l=val B (l.take n)+B^(l.take n).length*val B (l.drop n):=by
 rw[<- Jd,List.take_append_drop]
theorem Fl  (h:oB B l)(n:Nat):oB B (l.take n):=fun x hx=>h x (List.mem_of_mem_take hx)
def DW  (h:oB B l)(n:Nat):oB B (l.drop n):=fun x hx=>h x (List.mem_of_mem_drop hx)
def QT  (h:oB B l)(k:oB B m):oB B (l++m):=fun x hx=>(yaf.1 hx).elim (h x) (k x)
def lE:List Nat->List Nat
 | []=>[]
 | a::l=>if lE l=[]/\a=0 then []else a::lE l
theorem mS(B:Nat):∀l:List Nat,val B (lE l)=val B l
 | []=>rfl
 | a::l=>by
  unfold lE;have ih:=mS B l
  grind [val]
theorem bV:∀l:List Nat,norm (lE l)
 | []=>fun h=>(h rfl).elim
 | a::l=>by
  have ih:=bV l
  unfold lE;split
  ·simp_all
  ·rename_i h
   intro hne;by_cases hs:lE l=[]
   ·simp_all
   ·rw[List.getLast_cons hs];exact ih hs
theorem zU{B:Nat}:∀ {l:List Nat},oB B l->oB B (lE l)
 | [],h=>h
 | a::l,h=>by
  have ih:=zU (l:=l) fun x hx=>h x (ybr _ hx)
  unfold lE;split
  ·simp_all
  ·exact fun x hx=>(ybs.1 hx).elim (fun e=>e ▸ h a yby) (ih x)
theorem Nh:∀l:List Nat,(lE l).length<=l.length
 | []=>ybk _
 | a::l=>by unfold lE;have:=Nh l;split<;>simp<;>omega
theorem Yp:∀l:List Nat,lE (l++[0])=lE l
 | []=>by simp[lE]
 | a::l=>by
  show(if lE (l++[0])=[]/\a=0 then []else a::lE (l++[0]))=_
  rw[Yp l];rfl
def Ng:∀ {l:List Nat},norm l->lE l=l
 | [],_=>rfl
 | a::l,h=>by
  have hl:norm l:=by
   intro hne;have:=h (by simp)
   grind
  unfold lE;rw[Ng hl];split
  ·rename_i e
   have:=h (by simp)
   simp_all
  ·rfl
def Td (hB:0<B) (h:norm l)(h0:val B l=0):l=[]:=by
 have key:∀l:List Nat,val B l=0->∀x∈l,x=0:=by
  intro l;induction l with
  | nil=>simp_all
  | cons a l ih=>
   grind [val,Nat.mul_eq_zero]
 rcases List.eq_nil_or_concat l with e | ⟨m,a,e⟩
 ·exact e
 ·exfalso
  subst e;have:=h (by simp)
  simp at this;exact this (key _ h0 a (by simp))
def Wj  (h:norm l)(hne:l≠[]):B^(l.length-1)<=val B l:=by
 rcases List.eq_nil_or_concat l with e | ⟨m,a,e⟩
 ·simp_all
 ·rw[List.concat_eq_append]at e
  subst e;have:=h (by simp)
  simp at this;rw[Jd];simp only[ybg,ybn,ybx,val];have:1<=a+B*0:=by omega
  calc B^(m.length+1-1)=B^m.length*1:=by simp
   _<=B^m.length*(a+B*0):=ybv _ this
   _<=_:=Nat.le_add_left _ _
def zae{B:Nat}(hB:0<B):∀ {l m:List Nat},oB B l->oB B m->l.length=m.length->val B l=val B m->l=m
 | [],[],_,_,_,_=>rfl
 | a::l,b::m,h1,h2,hl,hv=>by
  have ha:=h1 a yby
  have hb:=h2 b yby
  simp only[val]at hv;have e1:a=b:=by
   grind [Nat.add_mul_mod_self_left,Nat.mod_eq_of_lt]
  subst e1;have e2:val B l=val B m:=by
   grind [Nat.eq_of_mul_eq_mul_left]
  rw[zae hB (fun x hx=>h1 x (ybr _ hx)) (fun x hx=>h2 x (ybr _ hx)) (by simp_all) e2]
 | [],_::_,_,_,h,_=>by simp at h
 | _::_,[],_,_,h,_=>by simp at h
def zT (hB:1<B) (h1:oB B l)(h3:norm m)(hv:val B m<=val B l):m.length<=l.length:=by
 by_cases hm:m=[]
 ·simp[hm]
 ·have a:=Wj (B:=B) h3 hm
  have b:=vP (by omega) h1
  have:B^(m.length-1)<B^l.length:=by omega
  grind [Nat.pow_lt_pow_iff_right]
def JQ (hB:1<B) (h1:oB B l)(h2:oB B m)(h3:norm l)(h4:norm m)(hv:val B l=val B m):l=m:=by
 have a:=zT hB h1 h4 (by omega)
 have b:=zT hB h2 h3 (by omega)
 exact zae (by omega) h1 h2 (by omega) hv
def bN (a b:List Nat):Int:=if a.length≠b.length then(if a.length<b.length then -1 else 1)else go a b
where go:List Nat->List Nat->Int
 | a::l,b::m=>if go l m≠0 then go l m else if a<b then -1 else if b<a then 1 else 0
 | _,_=>0
theorem ze8{B:Nat}:∀ {a b:List Nat},oB B a->oB B b->a.length=b.length->(bN.go a b<0 ↔ val B a<val B b)/\(bN.go a b=0 ↔ val B a=val B b)
 | [],[],_,_,_=>by simp[bN.go,val]
 | a::l,b::m,h1,h2,hl=>by
  have ha:=h1 a yby
  have hb:=h2 b yby
  obtain⟨i1,i2⟩:=ze8 (a:=l) (b:=m) (fun x hx=>h1 x (ybr _ hx)) (fun x hx=>h2 x (ybr _ hx)) (by simp_all)
  have lt_of:∀ {x y:Nat},x<y->∀u v,u<B->u+B*x<v+B*y:=by
   intro x y h u v hu;have:B*(x+1)<=B*y:=ybv B h
   grind
  unfold bN.go;simp only[val];by_cases h0:bN.go l m=0
  ·grind
  ·rw[yab h0]
   constructor
   ·rw[i1]
    constructor
    ·simp_all
    grind [Nat.lt_trichotomy]
   ·constructor
    ·omega
    ·intro h
     rcases Nat.lt_trichotomy (val B l) (val B m)with g | g | g
     ·have:=lt_of g a b ha;omega
     ·omega
     ·have:=lt_of g b a hb;omega
 | [],_::_,_,_,h=>by simp at h
 | _::_,[],_,_,h=>by simp at h
def ze7 (hB:1<B){a b:List Nat}(h1:oB B a)(h2:oB B b)(h3:norm a)(h4:norm b):bN a b<0 ↔ val B a<val B b:=by
 unfold bN;by_cases hl:a.length=b.length
 ·grind [ze8]
 ·rw[yab hl]
  by_cases hlt:a.length<b.length
  ·rw[yab hlt]
   refine⟨fun _=>?_,fun _=>by omega⟩
   rcases yau (val B a) (val B b)with g | g
   ·exact g
   ·have:=zT hB h1 h4 g;omega
  ·rw[yaa hlt]
   refine⟨fun h=>by omega,fun h=>?_⟩
   have:=zT hB h2 h3 (by omega);omega
end Go.Am
namespace Go.Am
open Go Go.RowKit
variable {a b n:Int}{k:IntKind}{i x y:Nat}{l:List Nat}
theorem fF (h1:0<=n)(h2:n<18446744073709551616):fA .u64 n=n:=by
 grind [gP,IntKind.wrap,IntKind.bits,IntKind.signed]
theorem qV (h1:0<=n)(h2:n<4294967296):fA .u32 n=n:=by
 grind [gP,IntKind.wrap,IntKind.bits,IntKind.signed]
def zf3 (h1:0<=n)(h2:n<65536):fA .u16 n=n:=by
 grind [gP,IntKind.wrap,IntKind.bits,IntKind.signed]
theorem Iw (h1:0<=n)(h2:n<256):fA .u8 n=n:=by
 grind [gP,IntKind.wrap,IntKind.bits,IntKind.signed]
theorem Rg(n:Int):fA .u64 n=n%18446744073709551616:=by
 grind [gP,IntKind.wrap,IntKind.bits,IntKind.signed]
theorem rV(n:Int):fA .u32 n=n%4294967296:=by
 grind [gP,IntKind.wrap,IntKind.bits,IntKind.signed]
def zab(n:Int):fA .u16 n=n%65536:=by
 grind [gP,IntKind.wrap,IntKind.bits,IntKind.signed]
def ML   : iAnd k (x:Int) (y:Int)=jI Nat.land k (x:Int) (y:Int):=rfl
theorem rW{f:Nat->Nat->Nat}  (h1:x<gG k)(h2:y<gG k):jI f k (x:Int) (y:Int)=some (.int k (f x y:Nat)):=by
 unfold jI;have e1:mM (x:Int)=some x:=rfl
 have e2:mM (y:Int)=some y:=rfl
 rw[e1,pA,e2,pA,qC.2 h1,qC.2 h2];rfl
def CB  (h0:0<y)(hw:fA k ((x / y:Nat):Int)=((x / y:Nat):Int)):Bu k (x:Int) (y:Int)=some (.int k ((x / y:Nat):Int)):=by
 unfold Bu;have:lB (y:Int) 0=false:=by
  grind [sY]
 rw[this,cond_false,Int.tdiv_eq_ediv_of_nonneg (by omega)]
 rw[<- Int.natCast_ediv,hw]
def Tz  (h0:0<y):Bt k (x:Int) (y:Int)=some (.int k ((x%y:Nat):Int)):=by
 unfold Bt;have:lB (y:Int) 0=false:=by
  grind [sY]
 rw[this,cond_false,Int.tmod_eq_emod_of_nonneg (by omega),<- Int.natCast_emod]
theorem kJ  : (lB a b=true) ↔ a=b:=sY a b
def Ej  : ((!lB a b)=true) ↔ a≠b:=by rw[ycp,<- Bool.not_eq_true,kJ]
def AI{b:Bool}:((!b)=true) ↔ b=false:=by simp
theorem Gp{a b n:Nat}(h:b<2^n):Nat.lor (a*2^n) b=a*2^n+b:=by
 show a*2^n ||| b=_
 rw[<- Nat.shiftLeft_eq,<- Nat.shiftLeft_add_eq_or_of_lt h,Nat.shiftLeft_eq]
def or_low{a b n:Nat}(h:b<2^n)(ha:a%2^n=0):Nat.lor a b=a+b:=by
 obtain⟨c,hc⟩:=Nat.dvd_of_mod_eq_zero ha
 grind [Nat.mul_comm,Gp]
def aA.idx{t:Tr tA}{C:iA}{T el:Nat}(h:gI C T el 1 false)  {v:zA}(hr:aA t 1 (bB k l) v) (hi:l[i]?=some x) :
  ∃b off,uC C T v (.int .i64 (i:Int))=some (.ptr b off)/\cA C el ⟨0,t⟩ (.ptr b off)=some (.int k (x:Int)):=by
 obtain⟨b,off,cs,h1,h2,_,_,h5⟩:=gI.at h (fun _=>rfl) hr (OU hi)
 rw[Ah]at h5;subst h5;exact⟨b,off,h1,h2⟩
def Fb(x:Nat)(n:Nat):Int.fdiv (x:Int) (n:Int)=((x / n:Nat):Int):=by
 grind
def getElem?_of_lt  (h:i<l.length):∃x,l[i]?=some x:=⟨l[i],ybd h⟩
def lL{B:Nat} (h:oB B l) (hi:l[i]?=some x):x<B:=h x (ycv hi)
def Th (h:l≠[]):∃m x,l=m++[x]:=by
 rcases List.eq_nil_or_concat l with e | ⟨m,a,e⟩
 all_goals simp_all
end Go.Am
namespace Go.Proofs
open Go Go.Am
variable {a b l:List Nat}{u v:zA}{neg:Bool}
variable [nC]
variable {t:Tr tA}
theorem zaq:∀(n:Nat) (l:List Nat) (v:zA),l.length=n->n<1125899906842624->aA t 1 (bB .u32 l) v->∃v',jp 247 2 [v] t (fun u m=>u=v'/\m=t)/\aA t 1 (bB .u32 (lE l)) v':=by
 intro n;induction n with
 | zero=>
  intro l v hl _ hv;have:l=[]:=ycc.1 hl
  subst this;refine⟨v,BO ?_,hv⟩
  simp only[uI,uL,uZ,uW,Ry,oA,hv.len,uA,aB,vG,bE];simp_all
 | succ n ih=>
  intro l v hl hn hv;obtain⟨m,x,rfl⟩:=Th (l:=l) (by grind)
  have hm:m.length=n:=by simp_all
  have hx:(m++[x])[m.length]?=some x:=by simp
  obtain⟨b,off,g1,g2⟩:=hv.idx iG hx
  obtain⟨u,g3,g4⟩:=gI.front iG hv (k:=m.length) (by simp[bB])
  rw[OT]at g4;simp only[List.take_left']at g4;have e1:(((m++[x]).length:Nat):Int)-1=(m.length:Int):=by simp
  by_cases hx0:x=0
  ·subst hx0
   obtain⟨w,h1,h2⟩:=ih m u hm (by omega) g4
   refine⟨w,BO ?_,by grind [Yp]⟩
   simp (disch:=omega) only[uI,uL,uZ,uW,Ry,oA,hv.len,uA,aB,vG,bE,kJ,wrap_i64,e1,g1,g2,g3]
   simp_all
  ·refine⟨v,BO ?_,?_⟩
   ·simp (disch:=omega) only[uI,uL,uZ,uW,Ry,oA,hv.len,uA,aB,vG,bE,kJ,wrap_i64,e1,g1,g2,g3]
    simp_all
   ·rw[Ng]
    ·exact hv
    ·intro _;simp_all
def Dp  (hl:l.length<1125899906842624)(hv:aA t 1 (bB .u32 l) v):∃v',kB yA F 247 [v] t=some v'/\aA t 1 (bB .u32 (lE l)) v':=by
 obtain⟨v',h1,h2⟩:=zaq _ l v rfl hl hv
 exact⟨v',iC.2 (w247 h1),h2⟩
theorem zjw  (hu:aA t 1 (bB .u32 a) u)(hv:aA t 1 (bB .u32 b) v)(hl:a.length=b.length):∀(n:Nat),n<=a.length->n<1125899906842624->jp 300 2 [u,v,.int .i64 ((n:Int)-1)] t (fun w m=>w=.int .i64 (bN.go (a.take n) (b.take n))/\m=t):=by
 intro n;induction n with
 | zero=>
  intro _ _;refine zlt ?_
  simp only[uL,uZ,uW,Xl,oA,kI];grind [bN.go]
 | succ n ih=>
  intro hn hn2;obtain⟨x,hx⟩:=getElem?_of_lt (l:=a) (i:=n) (by omega)
  obtain⟨y,hy⟩:=getElem?_of_lt (l:=b) (i:=n) (by omega)
  obtain⟨c,off,g1,g2⟩:=hu.idx iG hx
  obtain⟨d,off',g3,g4⟩:=hv.idx iG hy
  have e1:(((n+1:Nat):Int)-1)=(n:Int):=by omega
  have key:∀(a b:List Nat) (x y:Nat),a.length=b.length->bN.go (a++[x]) (b++[y])=if x<y then -1 else if y<x then 1 else bN.go a b:=by
   intro a;induction a with
   | nil=>
    grind [bN.go]
   | cons p a ih=>
    intro b x y h
    cases b with
    | nil=>simp at h
    | cons q b=>
     grind [bN.go]
  have e2:bN.go (a.take (n+1)) (b.take (n+1))=if x<y then -1 else if y<x then 1 else bN.go (a.take n) (b.take n):=by
   grind [List.take_add_one]
  rw[e1,e2];refine zlt ?_
  simp (disch:=omega) only[uL,uZ,uW,Xl,oA,uA,aB,bE,kI,Ej,g1,g2,g3,g4,wrap_i64]
  grind
theorem zmu  (ha:a.length<1125899906842624)(hu:aA t 1 (bB .u32 a) u)(hv:aA t 1 (bB .u32 b) v):kB yA F 300 [u,v] t=some (.int .i64 (bN a b)):=by
 refine iC.2 (w300 ?_)
 simp (disch:=omega) only[uI,uZ,uW,t300,oA,hu.len,hv.len,uA,aB,vG,bE,Ej,wrap_i64]
 unfold bN;by_cases hl:a.length=b.length
 ·rw[yaa (by omega),yaa (by omega)]
  have:=zjw hu hv hl a.length (ybk _) ha
  grind
 grind
def rK(neg:Bool)(l:List Nat):Bool:=if l=[]then !neg else decide (l.length<=1024)&&decide (l.getLast?≠some 0)
theorem Gg   (hl:l.length<1125899906842624)(hv:aA t 1 (bB .u16 l) v):kB yA F 196 [.agg [.bool neg,v]] t=some (.bool (rK neg l)):=by
 refine iC.2 (w196 ?_)
 unfold rK;by_cases h0:l=[]
 ·subst h0
  simp only[uI,uH,wC,uZ,uW,t196,oA,hv.len,uA,aB,vG,kJ];simp
 ·obtain⟨m,x,rfl⟩:=Th h0
  have hx:(m++[x])[m.length]?=some x:=by simp
  obtain⟨b,off,g1,g2⟩:=hv.idx Au hx
  have e1:(((m++[x]).length:Nat):Int)-1=(m.length:Int):=by simp
  have hlm:m.length<1125899906842624:=by omega
  simp (disch:=omega) only[uI,uH,wC,uZ,uW,t196,oA,hv.len,uA,aB,vG,kJ,kI,wrap_i64,e1,g1,g2]
  rw[yaa (by omega),yaa h0]
  by_cases h1:(m++[x]).length<=1024
  ·rw[yab (by omega)]
   simp only[h1,decide_true,ycn];by_cases hx0:x=0
   ·grind [Bv]
   ·have:lB (x:Int) 0=false:=by
     grind [sY]
    simp_all
  grind
theorem BU   (hv:aA t 1 (bB .u16 l) v):kB yA F 233 [.agg [.bool neg,v]] t=some (.bool (!neg&&decide (l=[1]))):=by
 refine iC.2 (w233 ?_)
 cases neg with
 | true=>simp[uQ17,uI,uH,wC,uZ,t233,oA]
 | false=>
  simp only[uQ17,uI,uH,wC,uZ,t233,oA,hv.len,uA,aB,vG,kJ];rw[yab (by rfl)]
  by_cases h1:l.length=1
  ·obtain⟨x,rfl⟩:∃x,l=[x]:=by
    cases l with
    | nil=>simp at h1
    | cons x r=>simp_all
   obtain⟨b,off,g1,g2⟩:=hv.idx Au (i:=0) (x:=x) (by simp)
   simp only[Int.natCast_zero]at g1;rw[yab (by simp)]
   simp only[g1,g2,uA,aB];by_cases hx:x=1
   ·grind [Bv]
   ·have:lB (x:Int) 1=false:=by
     grind [sY]
    simp_all
  ·rw[yaa (by omega)]
   have:l≠[1]:=by grind
   grind
end Go.Proofs
namespace Go.Am
def tG:List Nat->List Nat
 | []=>[]
 | [a]=>[a]
 | a::b::l=>(a+65536*b)::tG l
theorem dQ:∀l:List Nat,(tG l).length=(l.length+1) / 2
 | []=>rfl
 | [a]=>by simp[tG]
 | a::b::l=>by simp[tG,dQ l];omega
theorem Rl:∀l:List Nat,val 4294967296 (tG l)=val 65536 l
 | []=>rfl
 | [a]=>by simp[tG,val]
 | a::b::l=>by simp only[tG,val,Rl l];omega
def Io:∀ {l:List Nat},oB 65536 l->oB 4294967296 (tG l)
 | [],_=>fun x hx=>(by cases hx)
 | [a],h=>fun x hx=>by
  have:=h a (by simp)
  grind [tG]
 | a::b::l,h=>fun x hx=>by
  have h1:=h a (by simp)
  have h2:=h b (by simp)
  rcases ybs.1 hx with rfl | hx
  ·omega
  ·exact Io (l:=l) (fun y hy=>h y (by simp[hy])) x hx
def Ke:∀ {l:List Nat},norm l->norm (tG l)
 | [],_=>fun h=>(h rfl).elim
 | [a],h=>by
  grind [tG]
 | [a,b],h=>by
  intro _;have:=h (by simp)
  grind [tG]
 | a::b::c::l,h=>by
  intro _;have hn:norm (c::l):=by
   intro hne;have:=h (by simp)
   simp_all
  have hne:tG (c::l)≠[]:=by
   grind [dQ]
  have:=Ke (l:=c::l) hn hne
  grind [tG]
def Zy:∀(l:List Nat) (x:Nat),l.length%2=0->tG (l++[x])=tG l++[x]
 | [],x,_=>rfl
 | [a],x,h=>by simp at h
 | a::b::l,x,h=>by
  show(a+65536*b)::tG (l++[x])=(a+65536*b)::(tG l++[x])
  rw[Zy l x (by grind)]
theorem JA:∀(l:List Nat) (a x:Nat),l.length%2=0->tG (l++[a,x])=tG l++[a+65536*x]
 | [],a,x,_=>rfl
 | [b],a,x,h=>by simp at h
 | c::b::l,a,x,h=>by
  show(c+65536*b)::tG (l++[a,x])=(c+65536*b)::(tG l++[a+65536*x])
  rw[JA l a x (by grind)]
def lH:List Nat->List Nat
 | []=>[]
 | w::l=>w%65536::w / 65536::lH l
theorem Mx:∀l:List Nat,(lH l).length=2*l.length
 | []=>rfl
 | w::l=>by simp[lH,Mx l];omega
def Rk:∀l:List Nat,val 65536 (lH l)=val 4294967296 l
 | []=>rfl
 | w::l=>by
  simp only[lH,val,Rk l];omega
def Vv:∀ {l:List Nat},oB 4294967296 l->oB 65536 (lH l)
 | [],_=>fun x hx=>(by cases hx)
 | w::l,h=>fun x hx=>by
  have h1:=h w (by simp)
  rcases ybs.1 hx with rfl | hx
  ·omega
  ·rcases ybs.1 hx with rfl | hx
   ·omega
   ·exact Vv (l:=l) (fun y hy=>h y (by simp[hy])) x hx
theorem My:∀(l:List Nat) (w:Nat),lH (l++[w])=lH l++[w%65536,w / 65536]
 | [],w=>rfl
 | a::l,w=>by simp[lH,My l w]
theorem FX{l:List Nat}{w:Nat}(hw:w≠0):lE (lH (l++[w]))=if w / 65536=0 then lH l++[w%65536]else lH (l++[w]):=by
 rw[My];split
 ·rename_i h
  rw[h,show lH l++[w%65536,0]=(lH l++[w%65536])++[0] by simp,Yp]
  refine Ng fun _=>?_
  grind
 ·rename_i h
  refine Ng fun _=>?_
  grind
end Go.Am
namespace Go.Proofs
open Go Go.Am
variable {l:List Nat}{v:zA}{Q:mB}
variable [nC]
variable {t:Tr tA}
theorem set_append_right{m:List Nat}{i x:Nat}(h:l.length=i):(l++m).set i x=l++m.set 0 x:=by
 simp_all
theorem zb8  {b:Nat} (hv:aA t 1 (bB .u16 l) v)(hl:l.length<1000000)(hlt:oB 65536 l)(hbase:yA.base<=b)(hb:t.get b=none)
  (hQ:∀t' v',zB t t'->aA t' 1 (bB .u32 (tG l)) v'->Q v' t'):∀(k i:Nat) (t':Tr tA),i+k=l.length->zB t t'->zG t' b .u32 (tG (l.take i)++List.replicate ((l.length+1) / 2-(i+1) / 2) 0) →
  jp 235 2 [.slice b 0 ((l.length+1) / 2) ((l.length+1) / 2),v,.int .i64 l.length,.int .i64 i] t' Q:=by
 intro k;induction k with
 | zero=>
  intro i t' hi ht ho;refine zl1 ?_
  simp only[uL,uH,kC,uZ,uW,Xv,oA,bE];rw[yaa (by omega)]
  rw[yca (by omega),show(l.length+1) / 2-(i+1) / 2=0 by omega,List.replicate_zero,ycd]at ho
  refine hQ _ _ ht ?_
  have:=ho.all (ybk _)
  grind [dQ]
 | succ k ih=>
  intro i t' hi ht ho;obtain⟨x,hx⟩:=getElem?_of_lt (l:=l) (i:=i) (by omega)
  have hxlt:x<65536:=lL hlt hx
  obtain⟨c,off,g1,g2⟩:=(hv.mono ht).idx Au hx
  have htake:l.take (i+1)=l.take i++[x]:=by grind [List.take_add_one]
  have hlen:(l.take i).length=i:=by grind
  obtain⟨y,hy,hnew⟩:∃y,(tG (l.take i)++List.replicate ((l.length+1) / 2-(i+1) / 2) 0)[i / 2]?=some y/\y<4294967296/\Nat.lor y (x*2^(16*(i%2)))<4294967296 ∧
    (tG (l.take i)++List.replicate ((l.length+1) / 2-(i+1) / 2) 0).set (i / 2) (Nat.lor y (x*2^(16*(i%2))))=tG (l.take (i+1))++List.replicate ((l.length+1) / 2-(i+1+1) / 2) 0:=by
   rcases Nat.mod_two_eq_zero_or_one i with he | ho1
   ·have hp:(tG (l.take i)).length=i / 2:=by grind [dQ]
    refine⟨0,?_,by decide,?_,?_⟩
    ·rw[ybp (by omega),hp,Nat.sub_self,List.getElem?_replicate,yab (by omega)]
    ·rw[he];simp;omega
    ·rw[set_append_right hp,he,htake,Zy _ _ (by omega)]
     have:Nat.lor 0 (x*2^(16*0))=x:=by simp_all
     rw[this];obtain⟨r,hr⟩:∃r,(l.length+1) / 2-(i+1) / 2=r+1:=⟨(l.length+1) / 2-(i+1) / 2-1,by omega⟩
     rw[hr,List.replicate_succ,List.set_cons_zero,show(l.length+1) / 2-(i+1+1) / 2=r by omega]
     simp
   ·obtain⟨p,a,hpa⟩:=Th (l:=l.take i) (by grind)
    have hpl:p.length=i-1:=by grind
    have hpe:p.length%2=0:=by omega
    have ha:a<65536:=hlt a (List.mem_of_mem_take (by simp_all:a∈l.take i))
    have hp:(tG p).length=i / 2:=by grind [dQ]
    rw[hpa,Zy _ _ hpe];have hlor:Nat.lor a (x*2^(16*1))=a+65536*x:=by
     show a ||| x*2^(16*1)=_
     rw[Nat.or_comm];have:=Gp (a:=x) (b:=a) (n:=16) (by omega)
     show Nat.lor (x*2^16) a=_
     omega
    refine⟨a,?_,by omega,?_,?_⟩
    all_goals grind [set_append_right,JA]
  obtain⟨hy1,hy2,hy3⟩:=hnew
  have hwlen:(tG (l.take i)++List.replicate ((l.length+1) / 2-(i+1) / 2) 0).length=(l.length+1) / 2:=by
   grind [dQ]
  have g3:uC yA 253 (.slice b 0 ((l.length+1) / 2) ((l.length+1) / 2)) (.int .i64 ((i / 2:Nat):Int))=some (.ptr b (0+i / 2*1)):=Gi iG (by omega)
  rw[show 0+i / 2*1=i / 2 by omega]at g3;have g4:=ho.load hy yH rfl
  obtain⟨t2,g5,g6,g7⟩:=ho.store (C:=yA) hbase (j:=i / 2) (by omega) (Nat.lor y (x*2^(16*(i%2)))) yH rfl
  rw[hy3]at g6;refine zl1 ?_
  have e1:Int.tdiv (i:Int) 2=((i / 2:Nat):Int):=by simp_all
  have e2:Int.tmod (i:Int) 2=((i%2:Nat):Int):=by grind
  have hm:=ycy i (show 0<2 by decide)
  simp (disch:=omega) only[uL,uH,kC,uZ,uW,Xv,oA,bE,g1,g2,uA,aB,wrap_i64,qV,e1,e2,g3,g4]
  rw[yab (by omega)]
  have e3:tY .u32 (x:Int) (16*((i%2:Nat):Int))=some (.int .u32 ((x*2^(16*(i%2)):Nat):Int)):=by
   rcases Nat.mod_two_eq_zero_or_one i with h | h<;>rw[h]
   ·simp[tY,Gq,mM]
    rw[qV (by omega) (by omega)]
   ·have:tY .u32 (x:Int) (16*((1:Nat):Int))=some (.int .u32 (fA .u32 ((x:Int)*65536))):=rfl
    grind [qV]
  rw[e3];have hb2:x*2^(16*(i%2))<4294967296:=by
   rcases Nat.mod_two_eq_zero_or_one i with h | h<;>rw[h]<;>omega
  simp only[uA,aB];rw[rW (show y<gG .u32 from hy1) (show x*2^(16*(i%2))<gG .u32 from hb2)]
  simp only[uA,aB];intro d _ _;rw[g5];simp only[uA];have:=ih (i+1) t2 (by omega) (ht.off hb g7) g6
  simp_all
theorem Ny   (hv:aA t 1 (bB .u16 l) v)(hl:l.length<1000000)(hlt:oB 65536 l)
  (hQ:∀t' v',zB t t'->aA t' 1 (bB .u32 (tG l)) v'->Q v' t'):Wc yA F 235 [v] t Q:=by
 refine w235 ?_
 have e1:Int.tdiv ((l.length:Int)+1) 2=(((l.length+1) / 2:Nat):Int):=by grind
 simp (disch:=omega) only[uI,uZ,uW,t235,oA,hv.len,uA,aB,vG,wrap_i64,e1]
 intro b hb hbase;obtain⟨t',g1,g2,g3,_⟩:=Hg (C:=yA) (k:=.u32) fL rfl yH rfl rfl (by decide) (n:=(l.length+1) / 2) (by omega) hb
 rw[g1];simp only[uA];exact zb8 hv hl hlt hbase hb hQ l.length 0 t' (by omega) g3 (by grind [tG])
end Go.Proofs
namespace Go.Proofs
open Go Go.Am
variable {n s x y:Nat}
variable [nC]
variable {t:Tr tA}
theorem znq (h:n<4294967296):n / 2147483648=if n.testBit 31 then 1 else 0:=by
 grind
theorem Ws (h:n<4294967296):n.testBit 31=decide (2147483648<=n):=by
 grind
theorem EY (h:x<4294967296):Gj (.int .u32 (x:Int))=some (.int .u32 (Nat.xor 4294967295 x:Nat)):=by
 grind [Gj,zA.asIntK,pA,Nat.beq,kLo,cD,rW,gG]
theorem zgz{b:Nat}(hx:x<4294967296)(hy:y<4294967296)(hb:b<2) :
  kB yA F 311 [.int .u32 x,.int .u32 y,.int .u32 b] t=some (.tup [.int .u32 (((x+8589934592-y-b)%4294967296:Nat):Int),.int .u32 (((if x<y+b then 1 else 0):Nat):Int)]):=by
 refine iC.2 (w311 ?_)
 obtain⟨d,hd⟩:∃d,d=(x+8589934592-y-b)%4294967296:=⟨_,rfl⟩
 have hdl:d<4294967296:=by omega
 have e1:fA .u32 (fA .u32 ((x:Int)-y)-b)=(d:Int):=by
  grind [rV]
 have hn1:Nat.xor 4294967295 x<4294967296:=Nat.xor_lt_two_pow (n:=32) (by decide) hx
 have hn2:Nat.xor x y<4294967296:=Nat.xor_lt_two_pow (n:=32) hx hy
 have hn3:Nat.xor 4294967295 (Nat.xor x y)<4294967296:=Nat.xor_lt_two_pow (n:=32) (by decide) hn2
 have hn4:Nat.land (Nat.xor 4294967295 x) y<4294967296:=yam Nat.and_le_left hn1
 have hn5:Nat.land (Nat.xor 4294967295 (Nat.xor x y)) d<4294967296:=yam Nat.and_le_left hn3
 have hn6:Nat.lor (Nat.land (Nat.xor 4294967295 x) y) (Nat.land (Nat.xor 4294967295 (Nat.xor x y)) d)<4294967296:=Nat.or_lt_two_pow (n:=32) hn4 hn5
 simp only[uL,t311,oA,e1];rw[EY hx];simp only[uA,aB];rw[ML,rW (k:=.u32) hn1 hy]
 simp only[uA,aB];rw[rW (k:=.u32) hx hy]
 simp only[uA,aB];rw[EY hn2];simp only[uA,aB];rw[ML,rW (k:=.u32) hn3 hdl]
 simp only[uA,aB];rw[rW (k:=.u32) hn4 hn5]
 simp only[uA,aB];have e2:Int.fdiv ((Nat.lor (Nat.land (Nat.xor 4294967295 x) y) (Nat.land (Nat.xor 4294967295 (Nat.xor x y)) d):Nat):Int) 2147483648=(((if x<y+b then 1 else 0):Nat):Int):=by
  rw[show(2147483648:Int)=((2147483648:Nat):Int) from rfl,Fb,znq hn6]
  congr 1
  have tb:(Nat.lor (Nat.land (Nat.xor 4294967295 x) y) (Nat.land (Nat.xor 4294967295 (Nat.xor x y)) d)).testBit 31=decide (x<y+b):=by
   show((4294967295 ^^^ x) &&& y ||| (4294967295 ^^^ (x ^^^ y)) &&& d).testBit 31=_
   rw[Nat.testBit_or,Nat.testBit_and,Nat.testBit_and,Nat.testBit_xor,Nat.testBit_xor,Nat.testBit_xor,Ws hx,Ws hy,Ws hdl];have:(4294967295:Nat).testBit 31=true:=by decide
   rw[this];by_cases c1:2147483648<=x<;>by_cases c2:2147483648<=y<;>by_cases c3:2147483648<=d<;>by_cases c4:x<y+b<;>simp only[c1,c2,c3,c4,decide_true,decide_false,Bool.xor_true,Bool.xor_false,Bool.true_xor,Bool.false_xor,Bool.not_true,ycl,Bool.and_true,yay,Bool.or_true,Bool.or_false,Bool.xor_self]<;>omega
  simp_all
 simp_all
theorem zkb{c:Nat}(hx:x<4294967296)(hy:y<4294967296)(hc:c<2) :
  kB yA F 317 [.int .u32 x,.int .u32 y,.int .u32 c] t=some (.tup [.int .u32 (((x+y+c)%4294967296:Nat):Int),.int .u32 (((x+y+c) / 4294967296:Nat):Int)]):=by
 refine iC.2 (w317 ?_)
 have e0:((x:Int)+y)+c=((x+y+c:Nat):Int):=by omega
 simp (disch:=omega) only[t317,oA,fF]
 grind [rV]
theorem zjd{h l d:Nat}(hh:h<d)(hl:l<4294967296)(hd:d<4294967296) :
  kB yA F 268 [.int .u32 h,.int .u32 l,.int .u32 d] t=some (.tup [.int .u32 (((h*4294967296+l) / d:Nat):Int),.int .u32 (((h*4294967296+l)%d:Nat):Int)]):=by
 refine iC.2 (w268 ?_)
 simp only[t268,oA,Ej,kI];rw[yab (by omega),yaa (by omega)]
 refine j268_7 ?_
 have e1:(h:Int)*4294967296=((h*4294967296:Nat):Int):=by omega
 have hq:(h*4294967296+l) / d<4294967296:=ycu (by
  omega)
 have hr:(h*4294967296+l)%d<d:=ycy _ (by omega)
 simp (disch:=omega) only[uE,zkx,oA,fF,e1]
 have e2:jI Nat.lor .u64 ((h*4294967296:Nat):Int) (l:Int)=some (.int .u64 ((h*4294967296+l:Nat):Int)):=by
  rw[rW (k:=.u64) (show h*4294967296<gG .u64 by show _<18446744073709551616;omega) (show l<gG .u64 by show _<18446744073709551616;omega)]
  have:=Gp (a:=h) (b:=l) (n:=32) hl
  rw[show h*4294967296=h*2^32 by rfl,this]
 rw[e2];simp only[uA,aB];rw[CB (k:=.u64) (by omega) (by
  grind [fF]),Tz (k:=.u64) (by omega)]
 grind [uA,aB,qV]
theorem zh8(v:Nat)(hv:v<256):∃k,k<9/\tD [0,1,2,2,3,3,3,3,4,4,4,4,4,4,4,4,5,5,5,5,5,5,5,5,5,5,5,5,5,5,5,5,6,6,6,6,6,6,6,6,6,6,6,6,6,6,6,6,6,6,6,6,6,6,6,6,6,6,6,6,6,6,6,6,7,7,7,7,7,7,7,7,7,7,7,7,7,7,7,7,7,7,7,7,7,7,7,7,7,7,7,7,7,7,7,7,7,7,7,7,7,7,7,7,7,7,7,7,7,7,7,7,7,7,7,7,7,7,7,7,7,7,7,7,7,7,7,7,8,8,8,8,8,8,8,8,8,8,8,8,8,8,8,8,8,8,8,8,8,8,8,8,8,8,8,8,8,8,8,8,8,8,8,8,8,8,8,8,8,8,8,8,8,8,8,8,8,8,8,8,8,8,8,8,8,8,8,8,8,8,8,8,8,8,8,8,8,8,8,8,8,8,8,8,8,8,8,8,8,8,8,8,8,8,8,8,8,8,8,8,8,8,8,8,8,8,8,8,8,8,8,8,8,8,8,8,8,8,8,8,8,8,8,8,8,8,8,8,8,8,8,8,8,8,8,8] v=some k/\(v=0/\k=0\/0<k/\2^(k-1)<=v/\v<2^k):=by
 have h:∀v:Fin 256,(tD [0,1,2,2,3,3,3,3,4,4,4,4,4,4,4,4,5,5,5,5,5,5,5,5,5,5,5,5,5,5,5,5,6,6,6,6,6,6,6,6,6,6,6,6,6,6,6,6,6,6,6,6,6,6,6,6,6,6,6,6,6,6,6,6,7,7,7,7,7,7,7,7,7,7,7,7,7,7,7,7,7,7,7,7,7,7,7,7,7,7,7,7,7,7,7,7,7,7,7,7,7,7,7,7,7,7,7,7,7,7,7,7,7,7,7,7,7,7,7,7,7,7,7,7,7,7,7,7,8,8,8,8,8,8,8,8,8,8,8,8,8,8,8,8,8,8,8,8,8,8,8,8,8,8,8,8,8,8,8,8,8,8,8,8,8,8,8,8,8,8,8,8,8,8,8,8,8,8,8,8,8,8,8,8,8,8,8,8,8,8,8,8,8,8,8,8,8,8,8,8,8,8,8,8,8,8,8,8,8,8,8,8,8,8,8,8,8,8,8,8,8,8,8,8,8,8,8,8,8,8,8,8,8,8,8,8,8,8,8,8,8,8,8,8,8,8,8,8,8,8,8,8,8,8,8,8] v.val).elim false (fun k=>decide (k<9)&&(decide (v.val=0)&&decide (k=0)||decide (0<k)&&decide (2^(k-1)<=v.val)&&decide (v.val<2^k)))=true:=by decide +kernel
 have hv:=h ⟨v,hv⟩
 simp only[]at hv;generalize tD _ v=r at hv ⊢
 cases r with
 | none=>simp at hv
 | some k=>
  grind
def BL (x k:Nat):Prop:=x=0/\k=0\/0<k/\2^(k-1)<=x/\x<2^k
theorem KM (hx:x<256)(hs:s<100):∃k,k<=8/\BL x k/\jp 316 15 [.int .u32 x,.int .i64 s] t (fun v m=>v=.int .i64 ((s+k:Nat):Int)/\m=t):=by
 obtain⟨k,hk,h1,h2⟩:=zh8 x hx
 refine⟨k,by omega,h2,zpc ?_⟩
 simp (disch:=omega) only[uU,uZ,uY,uW,zaz,oA,Iw]
 unfold rI;rw[gL,pA];have:(zA.int .u8 (x:Int)).asNat=some x:=rfl
 rw[this,pA];simp only[zA.asStr];rw[show(lD.desc ⟨.string,1,16,[.str []],true⟩).isString=true from rfl,cD]
 grind [pA,uA,aB,wrap_i64]
theorem KL (hx:x<65536)(hs:s<90):∃k,k<=16/\BL x k/\jp 316 9 [.int .u32 x,.int .i64 s] t (fun v m=>v=.int .i64 ((s+k:Nat):Int)/\m=t):=by
 by_cases h:256<=x
 ·obtain⟨k,h1,h2,h3⟩:=KM (t:=t) (x:=x / 256) (s:=s+8) (by omega) (by omega)
  refine⟨k+8,by omega,?_,zlm ?_⟩
  ·rcases h2 with h2 | ⟨g1,g2,g3⟩
   ·omega
   ·refine .inr ⟨by omega,?_,?_⟩
    ·rw[show k+8-1=(k-1)+8 by omega,Nat.pow_add];omega
    grind
  ·simp (disch:=omega) only[uZ,uW,Xd,oA,kI,wrap_i64]
   grind
 ·obtain⟨k,h1,h2,h3⟩:=KM (t:=t) (x:=x) (s:=s) (by omega) (by omega)
  refine⟨k,by omega,h2,zlm ?_⟩
  simp only[uZ,uW,Xd,oA,kI];grind
theorem zh9 (hx:x<4294967296):∃k,k<=32/\BL x k/\kB yA F 316 [.int .u32 x] t=some (.int .i64 (k:Int)):=by
 by_cases h:65536<=x
 ·obtain⟨k,h1,h2,h3⟩:=KL (t:=t) (x:=x / 65536) (s:=16) (by omega) (by omega)
  refine⟨k+16,by omega,?_,iC.2 (w316 ?_)⟩
  ·rcases h2 with h2 | ⟨g1,g2,g3⟩
   ·omega
   ·refine .inr ⟨by omega,?_,?_⟩
    ·rw[show k+16-1=(k-1)+16 by omega,Nat.pow_add];omega
    grind
  ·simp only[uZ,t316,oA,kI]
   grind
 ·obtain⟨k,h1,h2,h3⟩:=KL (t:=t) (x:=x) (s:=0) (by omega) (by omega)
  refine⟨k,by omega,h2,iC.2 (w316 ?_)⟩
  simp only[uZ,t316,oA,kI];grind
theorem zcu (hx:x<4294967296)(h0:0<x):∃s:Nat,s<32/\2147483648<=x*2^s/\x*2^s<4294967296/\kB yA F 308 [.int .u32 x] t=some (.int .i64 (s:Int)):=by
 obtain⟨k,h1,h2,h3⟩:=zh9 (t:=t) hx
 rcases h2 with h2 | ⟨g1,g2,g3⟩
 ·omega
 ·refine⟨32-k,by omega,?_,?_,iC.2 (w308 ?_)⟩
  ·have:2^(k-1)*2^(32-k)=2147483648:=by rw[<- Nat.pow_add,show k-1+(32-k)=31 by omega]
   rw[<- this];exact ybi _ g2
  ·have:2^k*2^(32-k)=4294967296:=by rw[<- Nat.pow_add,show k+(32-k)=32 by omega]
   rw[<- this];exact Nat.mul_lt_mul_of_pos_right g3 (Nat.pow_pos (Nat.succ_pos 1))
  ·simp (disch:=omega) only[uI,uZ,uW,t308,oA,q316,h3,uA,aB,wrap_i64]
   grind
end Go.Proofs
namespace Go.Am
variable {B i x:Nat}{l:List Nat}
theorem Sc{p:List Nat}{n:Nat}:(p++List.replicate (n+1) 0).set p.length x=(p++[x])++List.replicate n 0:=by
 grind
theorem tO(B:Nat)(l:List Nat)(x:Nat):val B (l++[x])=val B l+B^l.length*x:=by rw[Jd];simp[val]
theorem Ad   (h:oB B l)(hx:x<B):oB B (l++[x]):=QT h fun y hy=>by simp_all
def TQ {r w d:Nat}(hr:r<d)(hw:w<B):(r*B+w) / d<B:=by
 have hd:0<d:=by omega
 refine ycu ?_
 have:(r+1)*B<=d*B:=ybi B hr
 grind
def fQ  (h:l[i]?=some x):l.take (i+1)=l.take i++[x]:=by rw[ydg,h];rfl
def fR  (h:l[i]?=some x):l.drop i=x::l.drop (i+1):=by
 have hi:=(ybc.1 h)
 rw[ybl hi.1,hi.2]
end Go.Am
namespace Go.Am
open Go Go.RowKit
variable {el n sz:Nat}{v:zA}{cl:List (List zA)}
section
variable {t:Tr tA}{C:iA}
theorem zcs{c:Tr zA}  : ∀(cl:List (List zA)) (off:Nat),(∀(i:Nat) cs,cl[i]?=some cs->cs.length=sz/\∀(j:Nat) a,cs[j]?=some a->c.get (off+i*sz+j)=some a)->c.many (cl.length*sz) off=some cl.flatten:=by
 intro cl;induction cl with
 | nil=>intro off _;simp;rfl
 | cons cs cl ih=>
  intro off h;obtain⟨h1,h2⟩:=h 0 cs (by simp)
  have hrest:=ih (off+sz) fun i cs' hi=>by
   obtain⟨g1,g2⟩:=h (i+1) cs' (by simp_all)
   grind
  have key:∀(n:Nat) (l r:List zA) (off:Nat),l.length=n->(∀(j:Nat) a,l[j]?=some a->c.get (off+j)=some a)->∀m,c.many m (off+n)=some r->c.many (n+m) off=some (l++r):=by
   intro n;induction n with
   | zero=>
    simp_all
   | succ n ihn=>
    intro l r off hl hg m hm
    cases l with
    | nil=>simp at hl
    | cons a l=>
     rw[show n+1+m=(n+m)+1 by omega,Tr.many_succ]
     have:=hg 0 a (by simp)
     rw[yct]at this;rw[this,pA,ihn l r (off+1) (by simp_all) (fun j b hj=>by
      have:=hg (j+1) b (by simp_all)
      grind) m (by grind)]
     rfl
  grind [Nat.add_mul]
theorem jO.first   (h:jO t sz v cl)  : oW ⟨n,t⟩ sz cl.length v=some cl.flatten/\Em v=some cl.length:=by
 rcases h with⟨rfl,rfl⟩ | ⟨b,off,cap,rfl,_,⟨c,m,lo,h1,_⟩,h2⟩
 ·exact⟨rfl,rfl⟩
 ·refine⟨?_,rfl⟩
  unfold oW;simp only[zA.asSlice];unfold qD;rw[h1,pA];simp only[tA.asCells,pA];refine zcs cl off fun i cs hi=>?_
  obtain⟨g1,c',m',lo',g2,g3⟩:=h2 i cs hi
  simp_all
theorem CL  : ∀ {cl:List (List zA)},(∀(i:Nat) cs,cl[i]?=some cs->cs.length=sz)->cl.flatten.length=cl.length*sz:=by
 intro cl;induction cl with
 | nil=>grind
 | cons c cl ih=>
  intro h;rw[yas,ybg,ybn,ybo,ih fun i cs hi=>h (i+1) cs (by simp_all),h 0 c (by simp)]
  omega
theorem CM  : ∀ {cl:List (List zA)},(∀(i:Nat) cs,cl[i]?=some cs->cs.length=sz)->∀(i j:Nat) cs a,cl[i]?=some cs->cs[j]?=some a->cl.flatten[i*sz+j]?=some a:=by
 intro cl;induction cl with
 | nil=>simp_all
 | cons c cl ih=>
  intro h i j cs a hi hj;have hc:=h 0 c (by simp)
  rw[yas]
  cases i with
  | zero=>
   grind
  | succ i=>
   rw[ybp (by grind),hc,show(i+1)*sz+j-sz=i*sz+j by grind]
   exact ih (fun i cs hi=>h (i+1) cs (by simp_all)) i j cs a (by simp_all) hj
theorem jO.len   (h:jO t sz v cl):∀(i:Nat) cs,cl[i]?=some cs->cs.length=sz:=by
 rcases h with⟨rfl,rfl⟩ | ⟨b,off,cap,rfl,_,_,h2⟩
 all_goals grind
theorem DA  {t':Tr tA}{lo:Option Lo}(hl:∀(i:Nat) cs,cl[i]?=some cs->cs.length=sz)(h:t'.get n=some (.cells (Tr.ofList cl.flatten) (yB cl.flatten) lo))(hlo:lo=none\/∃x,lo=some x/\x.es=sz):jO t' sz (.slice n 0 cl.length cl.length) cl:=
 .inr ⟨n,0,cl.length,rfl,ybk _,⟨_,_,_,h,hlo⟩,fun i cs hi=>⟨hl i cs hi,_,_,_,h,fun j a hj=>by
  grind [Tr.get_ofList,CM]⟩⟩
def NB (C:iA)(el:Nat):Prop:=∀y,C.tys.get el=some y->zdt y=false
def NB.code {z:lD}(h:NB C el)(hz:C.tys.get el=some z):qN el z=.sz z.size:=by
 unfold qN;rw[h z hz,yay];rfl
structure Db (C:iA) (T el sz:Nat):Prop where
 ty:∃y,C.tys.get T=some y/\y.desc.asSlice=some el/\Nat.beq y.desc.tag 1=false
 el:∃y,C.tys.get el=some y/\y.size=sz/\yB y.zero=sz/\y.bytes<=500/\0<sz
structure Iu (C:iA) (T e sz:Nat):Prop where
 ty:∃y,C.tys.get T=some y/\y.desc.asSlice=some e/\Nat.beq y.desc.tag 1=false
 el:∃y,C.tys.get e=some y/\y.size=sz/\yB y.zero=sz/\y.bytes<=500/\0<sz
 nb:NB C e
theorem QO{T:Nat}(hT:Iu C T el sz){l:List D}{x s:zA}(hx:aA t sz l x)(hl:l.length<1000000) (hn:t.get n=none)
  (hs:s=.nilslice\/∃b c m,s=.slice b 0 0 0/\t.get b=some (.cells c m none)) :
  ∃v H',sH C T T s x ⟨n,t⟩=some (v,H')/\aA H'.t sz l v/\zB t H'.t/\wF n t H'.t:=by
 obtain⟨⟨y,hy1,hy2,hy3⟩,⟨z,hz1,hz2,hz3,hz4,hz5⟩,hnb⟩:=hT
 have hcode:=NB.code hnb hz1
 obtain⟨cl,he,hd⟩:=hx
 have hcl:=hd.length
 obtain⟨hf,hlen⟩:=he.first (n:=n)
 have hall:=he.len
 have base:sH C T T s x ⟨n,t⟩=(match s.asSlice with
  | some s=>bif Nat.ble (s.2.2.1+cl.length) s.2.2.2 then Bx C ⟨n,t⟩ z cl.length cl.flatten s else Ca C ⟨n,t⟩ el z cl.length cl.flatten s
  | none=>tB (Nat.beq s.tag 5) (jZ ⟨n,t⟩ el z cl.length cl.flatten)):=by
  unfold sH Aa;grind [pA,cD]
 have hfl:yB cl.flatten=cl.length*sz:=by grind [kD,CL]
 have ok:Bz z 0 0 cl.length cl.flatten=true:=by
  unfold Bz;have h1:Nat.blt (0+cl.length+0) 1000000000=true:=qC.2 (by omega)
  have h2:Nat.blt ((0+cl.length+0)*z.bytes) 1000000000=true:=qC.2 (by
   have:=ydb (show 0+cl.length+0<=1000000 by omega) hz4
   omega)
  grind [qC,gC]
 have newT:∀(q:tA),zB t (t.set n q)/\wF n t (t.set n q):=fun q=>⟨fun c u hc=>by
   grind [Tr.get_set],fun c hc=>by rw[Tr.get_set,yaa hc]⟩
 rcases hs with rfl | ⟨b,c,m,rfl,hb⟩
 ·by_cases h0:cl.length=0
  ·have:cl=[]:=ycc.1 h0
   subst this;refine⟨.nilslice,⟨n,t⟩,?_,⟨[],.inl ⟨rfl,rfl⟩,hd⟩,zB.refl _,wF.refl _ _⟩
   rw[base];rfl
  ·refine⟨.slice n 0 cl.length cl.length,⟨n+1,t.set n (.cells (Tr.ofList cl.flatten) (yB cl.flatten) (some (qN el z)))⟩,?_,⟨cl,DA hall (show(t.set n _).get n=_ by rw[Tr.get_set,yab rfl]) (.inr ⟨_,rfl,by rw[Lg,hz2]⟩),uD.mono (newT _).1 _ _ hd⟩,(newT _).1,(newT _).2⟩
   rw[base];simp only[zA.asSlice];show tB true (jZ ⟨n,t⟩ el z cl.length cl.flatten)=_
   rw[cD];unfold jZ;have:Nat.beq cl.length 0=false:=by
    grind [gC]
   rw[this,cond_false,ok];rfl
 ·by_cases h0:cl.length=0
  ·have:cl=[]:=ycc.1 h0
   subst this;refine⟨.slice b 0 0 0,⟨n,t⟩,?_,⟨[],.inr ⟨b,0,0,rfl,ybk _,⟨c,m,none,hb,.inl rfl⟩,fun i cs hi=>by simp at hi⟩,hd⟩,zB.refl _,wF.refl _ _⟩
   rw[base];rfl
  ·refine⟨.slice n 0 cl.length cl.length,⟨n+1,t.set n (.cells (Tr.ofList cl.flatten) (yB cl.flatten) (some (qN el z)))⟩,?_,⟨cl,DA hall (show(t.set n _).get n=_ by rw[Tr.get_set,yab rfl]) (.inr ⟨_,rfl,by rw[Lg,hz2]⟩),uD.mono (newT _).1 _ _ hd⟩,(newT _).1,(newT _).2⟩
   rw[base];simp only[zA.asSlice];have:Nat.ble (0+cl.length) 0=false:=by
    grind [aE]
   rw[this,cond_false];unfold Ca;simp only[];rw[show ∀x,(!(Nat.beq 0 1&&x))=true from fun _=>rfl,cD,ok,cD]
   unfold qD;rw[hb,pA];simp only[tA.asCells,pA];unfold Kv;simp only[Nat.zero_mul];show ob (c.many 0 0) _=_
   rw[show c.many 0 0=some [] from rfl,pA];rw[aG,yah,ybw];rfl
end
end Go.Am
namespace Go.Proofs
open Go Go.Am
variable {b el n:Nat}{y z:lD}{l:List Nat}{v:zA}{Q:mB}{k:IntKind}{neg:Bool}
variable [nC]
variable {t:Tr tA}
def el350:Iu yA 253 254 1:=⟨⟨_,fL,rfl,rfl⟩,⟨_,yH,rfl,rfl,by decide,by decide⟩,fun y h=>by rw[yH]at h;cases h;rfl⟩
theorem lit0{T:Nat} (hT:yA.tys.get T=some y)(hel:y.desc.asSlice=some el)(hz:yA.tys.get el=some z)(hs:yB z.zero=z.size) (hb:t.get b=none) :
  ∃H',tE yA T 0 [] ⟨b,t⟩=some (.slice b 0 0 0,H')/\(∃c,H'.t.get b=some (.cells c 0 none))/\zB t H'.t:=by
 refine⟨rF ⟨b,t⟩ [] none,?_,⟨Tr.ofList [],?_⟩,?_⟩
 ·unfold tE
  rw[hT,pA,hel,pA,hz,pA];have:(Nat.blt (0*z.size) 1000000&&Nat.beq (yB z.zero) z.size)=true:=by simp_all
  rw[this];rfl
 ·show(t.set b _).get b=_
  rw[Tr.get_set,yab rfl];rfl
 ·intro c u hc
  show(t.set b _).get c=_
  grind [Tr.get_set]
theorem zjy   (hv:aA t 1 (bB .u32 l) v)(hl:l.length<1000000)
  (hQ:∀t' v',zB t t'->aA t' 1 (bB .u32 l) v'->Q v' t'):Wc yA F 307 [v] t Q:=by
 refine w307 ?_
 have e:(Cu .eql).f yA 253 (.tmp 3) (.const (.slice none 0 0)) v .nilslice=some (.bool (Nat.beq v.tag 5)):=by
  obtain⟨cl,h1,_⟩:=hv
  rcases h1 with⟨rfl,_⟩ | ⟨b,off,cap,rfl,_⟩
  ·kernel_rfl
  ·kernel_rfl
 simp only[uB,t307,oA,e,uA,Fk];split
 ·grind [xX,gC,zB.refl]
 ·intro b hb hbase
  obtain⟨H1,g1,⟨c,g2⟩,g3⟩:=lit0 (t:=t) fL rfl yH rfl hb
  rw[g1];simp only[uA];intro n hn _;obtain⟨u,H',g4,g5,g6,_⟩:=QO el350 (hv.mono g3) (by grind [vG]) hn (.inr ⟨b,c,0,rfl,g2⟩)
  rw[g4];simp only[uA];exact hQ _ _ (g3.trans g6) g5
def Nl(n:Nat):List Nat:=lE [n%4294967296,n / 4294967296]
theorem RQ(n:Nat):val 4294967296 (Nl n)=n:=by grind [Nl,mS,val]
theorem ZT (h:n<18446744073709551616):oB 4294967296 (Nl n):=zU fun x hx=>by
 grind
theorem VQ(n:Nat):norm (Nl n):=bV _
theorem AV{T:Nat}  (hT:yA.tys.get T=some y)(hel:y.desc.asSlice=some el)(hz:yA.tys.get el=some z)(hzero:z.zero=[.int k 0])(hs:z.size=1)(x:Nat)(hk:True) (hb:t.get b=none) :
  ∃H',tE yA T 1 [(0,.int k (x:Int))] ⟨b,t⟩=some (.slice b 0 1 1,H')/\zG H'.t b k [x]/\zB t H'.t:=by
 refine⟨rF ⟨b,t⟩ [.int k (x:Int)] none,?_,⟨Tr.ofList [.int k (x:Int)],?_,fun j u hj=>?_⟩,?_⟩
 ·unfold tE
  rw[hT,pA,hel,pA,hz,pA,hs,hzero];rfl
 ·show(t.set b _).get b=_
  rw[Tr.get_set,yab rfl];rfl
 ·grind [Tr.get_ofList]
 ·intro c u hc
  show(t.set b _).get c=_
  grind [Tr.get_set]
theorem zh4{T:Nat}  (hT:yA.tys.get T=some y)(hel:y.desc.asSlice=some el)(hz:yA.tys.get el=some z)(hzero:z.zero=[.int k 0])(hs:z.size=1)(x x':Nat) (hb:t.get b=none) :
  ∃H',tE yA T 2 [(0,.int k (x:Int)),(1,.int k (x':Int))] ⟨b,t⟩=some (.slice b 0 2 2,H')/\zG H'.t b k [x,x']/\zB t H'.t:=by
 refine⟨rF ⟨b,t⟩ [.int k (x:Int),.int k (x':Int)] none,?_,⟨Tr.ofList [.int k (x:Int),.int k (x':Int)],?_,fun j u hj=>?_⟩,?_⟩
 ·unfold tE
  rw[hT,pA,hel,pA,hz,pA,hs,hzero];rfl
 ·show(t.set b _).get b=_
  rw[Tr.get_set,yab rfl];rfl
 ·grind [Tr.get_ofList]
 ·intro c u hc
  show(t.set b _).get c=_
  grind [Tr.get_set]
theorem zg7  (hn:n<18446744073709551616)(hQ:∀t' v',zB t t'->aA t' 1 (bB .u32 (Nl n)) v'->Q v' t'):Wc yA F 304 [.int .u64 n] t Q:=by
 refine w304 ?_
 have e1:fA .u32 (n:Int)=((n%4294967296:Nat):Int):=by rw[rV];omega
 have e2:fA .u32 (Int.fdiv (n:Int) 4294967296)=((n / 4294967296:Nat):Int):=by
  rw[show Int.fdiv (n:Int) 4294967296=((n / 4294967296:Nat):Int) from Fb _ 4294967296,qV (by omega) (by omega)]
 simp only[t304,oA,e1,e2];intro b hb _;obtain⟨H',g1,g2,g3⟩:=zh4 (t:=t) (k:=.u32) fL rfl yH rfl rfl (n%4294967296) (n / 4294967296) hb
 rw[g1];simp only[uA];obtain⟨v',h1,h2⟩:=Dp (l:=[n%4294967296,n / 4294967296]) (by simp) (g2.all (ybk _))
 simp only[Gv];have h1:kB yA F 247 [.slice b 0 2 2] H'.t=some v':=h1
 rw[h1];exact hQ _ _ g3 h2
theorem SF     (hv:aA t 1 (bB .u32 l) v)(hl:l.length<400000)(hlt:oB 4294967296 l)(hne:l≠[])(hnorm:norm l)(hbase:yA.base<=b)(hb:t.get b=none)
  (hQ:∀t' v',zB t t'->aA t' 1 (bB .u16 (lE (lH l))) v'->Q (.agg [.bool neg,v']) t'):∀(k i:Nat) (t':Tr tA),i+k=l.length->zB t t'->zG t' b .u16 (lH (l.take i)++List.replicate (2*k) 0) →
  jp 248 2 [.bool neg,.slice b 0 (2*l.length) (2*l.length),v,.int .i64 l.length,.int .i64 i,.bool false,.nilslice] t' Q:=by
 intro k;induction k with
 | zero=>
  intro i t' hi ht ho;refine zlz ?_
  rw[yca (by omega),yat,List.replicate_zero,ycd]at ho
  obtain⟨m,w,rfl⟩:=Th hne
  have hw:w≠0:=by have:=hnorm (by simp);simp_all
  have hwlt:w<4294967296:=hlt w (by simp)
  have hul:(lH (m++[w])).length=2*(m++[w]).length:=Mx _
  have hml:(m++[w]).length=m.length+1:=by simp
  have hlast:(lH (m++[w]))[2*m.length+1]?=some (w / 65536):=by
   grind [My]
  have hread:=ho.all (cap:=2*(m++[w]).length) (by omega)
  rw[hul]at hread;have g3:uC yA 22 (.slice b 0 (2*(m++[w]).length) (2*(m++[w]).length)) (.int .i64 ((2*m.length+1:Nat):Int))=some (.ptr b (0+(2*m.length+1)*1)):=Gi Au (by omega)
  rw[show 0+(2*m.length+1)*1=2*m.length+1 by omega]at g3
  have g4:=ho.load hlast Dm rfl
  have e1:((2*(m++[w]).length:Nat):Int)-1=((2*m.length+1:Nat):Int):=by omega
  have hlen:pC (.slice b 0 (2*(m++[w]).length) (2*(m++[w]).length))=some (.int .i64 ((2*(m++[w]).length:Nat):Int)):=rfl
  have hb2:2*m.length+1<1000000:=by omega
  simp (disch:=omega) only[uI,uL,uH,jB,kC,uZ,uW,Xs,oA,bE,hlen,uA,aB,e1,wrap_i64,g3,g4,kJ]
  rw[yaa (by omega)]
  by_cases hz:w / 65536=0
  ·rw[yab (by omega)]
   obtain⟨u,g5,g6⟩:=gI.front Au hread (k:=2*m.length+1) (by grind [vG])
   rw[g5];simp only[uA];have hone:sD zA.one [.bool neg,u]=true:=by
    show(bif zA.one (.bool neg)then(bif zA.one u then true else false)else false)=true
    rw[g6.one];rfl
   grind [OT,FX,My,Mx]
  ·rw[yaa (by omega)]
   have hone:sD zA.one [.bool neg,.slice b 0 (2*(m++[w]).length) (2*(m++[w]).length)]=true:=rfl
   grind [FX]
 | succ k ih=>
  intro i t' hi ht ho;obtain⟨x,hx⟩:=getElem?_of_lt (l:=l) (i:=i) (by omega)
  have hxlt:x<4294967296:=lL hlt hx
  obtain⟨c,off,g1,g2⟩:=(hv.mono ht).idx iG hx
  have htl:(l.take i).length=i:=by grind
  have hpl:(lH (l.take i)).length=2*i:=by rw[Mx,htl]
  have hlen0:(lH (l.take i)++List.replicate (2*(k+1)) 0).length=2*l.length:=by grind
  have g3:∀j,j<2*l.length->uC yA 22 (.slice b 0 (2*l.length) (2*l.length)) (.int .i64 (j:Int))=some (.ptr b j):=by
   intro j hj;have:=Gi (b:=b) (off:=0) (cap:=2*l.length) Au hj
   simp_all
  have g3a:=g3 (2*i) (by omega)
  have g3b:=g3 (2*i+1) (by omega)
  obtain⟨t1,s1,s2,s3⟩:=ho.store (C:=yA) hbase (j:=2*i) (by omega) (x%65536) Dm rfl
  have hs2:(lH (l.take i)++List.replicate (2*(k+1)) 0).set (2*i) (x%65536)=(lH (l.take i)++[x%65536])++List.replicate (2*k+1) 0:=by
   grind [Sc]
  rw[hs2]at s2;obtain⟨t2,s4,s5,s6⟩:=s2.store (C:=yA) hbase (j:=2*i+1) (by simp[hpl]) (x / 65536) Dm rfl
  have hs5:((lH (l.take i)++[x%65536])++List.replicate (2*k+1) 0).set (2*i+1) (x / 65536)=lH (l.take (i+1))++List.replicate (2*k) 0:=by
   have hq:(lH (l.take i)++[x%65536]).length=2*i+1:=by simp[hpl]
   rw[<- hq,Sc,fQ hx,My];simp
  rw[hs5]at s5;have e1:fA .u16 (x:Int)=((x%65536:Nat):Int):=by rw[zab];omega
  have e2:fA .u16 (Int.fdiv (x:Int) 65536)=((x / 65536:Nat):Int):=by
   rw[show Int.fdiv (x:Int) 65536=((x / 65536:Nat):Int) from Fb _ 65536,zf3 (by omega) (by omega)]
  have e3:(2:Int)*(i:Int)=((2*i:Nat):Int):=by omega
  have e4:((2*i:Nat):Int)+1=((2*i+1:Nat):Int):=by omega
  refine zlz ?_
  simp (disch:=omega) only[uI,uL,uH,jB,kC,uZ,uW,Xs,oA,bE,g1,g2,uA,aB,e1,e2,e3,e4,wrap_i64,g3a,g3b]
  rw[yab (by omega)]
  intro d _ _;rw[s1];simp only[uA];intro d' _ _;rw[s4];simp only[uA];have:=ih (i+1) t2 (by omega) ((ht.off hb s3).off hb s6) s5
  grind
theorem Wl    (hv:aA t 1 (bB .u32 l) v)(hl:l.length<400000)(hlt:oB 4294967296 l)
  (hQ:∀t' v',zB t t'->aA t' 1 (bB .u16 (lE (lH (lE l)))) v'->Q (.agg [.bool (if lE l=[]then false else neg),v']) t'):Wc yA F 248 [.bool neg,v] t Q:=by
 refine w248 ?_
 obtain⟨u,h1,h2⟩:=Dp (l:=l) (by omega) hv
 have hsl:=Nh l
 simp only[uI,uZ,uW,t248,oA,Gv,h1,uA,h2.len,aB,vG,kJ];by_cases h0:lE l=[]
 ·rw[yab (by grind)]
  simp only[if_true];have:=hQ t .nilslice (zB.refl _) (by rw[h0];exact⟨[],.inl ⟨rfl,rfl⟩,by simp[lH,lE,bB,uD]⟩)
  simp_all
 ·have hpos:0<(lE l).length:=List.length_pos_iff.2 h0
  rw[yaa (by omega)]
  have e1:(2:Int)*((lE l).length:Int)=((2*(lE l).length:Nat):Int):=by omega
  simp (disch:=omega) only[e1,wrap_i64]
  intro b hb hbase;obtain⟨t',g1,g2,g3,_⟩:=Hg (C:=yA) (k:=.u16) ty22 rfl Dm rfl rfl (by decide) (n:=2*(lE l).length) (by omega) hb
  rw[g1];simp only[uA];refine SF h2 (by omega) (zU hlt) h0 (bV l) hbase hb (fun t2 v2 a b=>?_) (lE l).length 0 t' (by omega) g3 (by grind [lH])
  simp_all
end Go.Proofs
namespace Go.Proofs
open Go Go.Am
section
variable {b d s x:Nat}{l:List Nat}{v:zA}{Q:mB}
variable [nC]
variable {t:Tr tA}
theorem Hm{T el:Nat}(h:gI yA T el 1 false){n cap j:Nat}(hj:j<n):uC yA T (.slice b 0 n cap) (.int .i64 (j:Int))=some (.ptr b j):=by
 have:=Gi (b:=b) (off:=0) (cap:=cap) h hj
 simp_all
theorem MK (hs:s<64)(hx:x*2^s<18446744073709551616):tY .u64 (x:Int) (s:Int)=some (.int .u64 ((x*2^s:Nat):Int)):=by
 unfold tY Gq;have:mM (s:Int)=some s:=rfl
 rw[this,pA,pA];have hm:min s (IntKind.bits .u64)=s:=by show min s 64=s;omega
 rw[hm];have e:(x:Int)*Int.ofNat (2^s)=((x*2^s:Nat):Int):=by simp_all
 rw[e,fF (by omega) (by omega)]
def MJ (hs:s<65):Ho .u64 (x:Int) (s:Int)=some (.int .u64 ((x / 2^s:Nat):Int)):=by
 unfold Ho Gq;have:mM (s:Int)=some s:=rfl
 rw[this,pA,pA];have hm:min s (IntKind.bits .u64)=s:=by show min s 64=s;omega
 rw[hm];have e:Int.fdiv (x:Int) (Int.ofNat (2^s))=((x / 2^s:Nat):Int):=Fb x (2^s)
 rw[e]
def zb6 (hs:s<32):2^s<=2147483648:=yao (n:=2) (by decide) (show s<=31 by omega)
def IS (hs:s<=32):2^s*2^(32-s)=4294967296:=by rw[<- Nat.pow_add,show s+(32-s)=32 by omega]
def zoy (hs:s<=32):(x*2^s%4294967296)%2^s=0:=by
 rw[<- IS hs,ybh x,Nat.mul_mod_mul_left,Nat.mul_mod_right]
theorem TS    (hv:aA t 1 (bB .u32 l) v)(hl:l.length<900000)(hlt:oB 4294967296 l)(hs:s<32)(hbase:yA.base<=b)(hb:t.get b=none)
  (hQ:∀t' r,zB t t'->wF b t t'->zG t' b .u32 r->r.length=l.length+1->oB 4294967296 r->val 4294967296 r=val 4294967296 l*2^s->Q (.slice b 0 (l.length+1) (l.length+1)) t') :
  ∀(k i:Nat) (t':Tr tA) (P:List Nat) (c:Nat),i+k=l.length->zB t t'->wF b t t'->zG t' b .u32 ((P++[c])++List.replicate k 0)->P.length=i->c<2^s->oB 4294967296 P->val 4294967296 P+4294967296^i*c=val 4294967296 (l.take i)*2^s →
  jp 309 2 [.int .i64 s,.slice b 0 (l.length+1) (l.length+1),v,.int .i64 l.length,.int .i64 i] t' Q:=by
 have hp2:=zb6 hs
 intro k;induction k with
 | zero=>
  intro i t' P c hi ht hoff ho hP hc hPl hval;refine zlr ?_
  simp only[uL,uE,kC,uZ,Xj,oA,bE];rw[yaa (by omega)]
  rw[List.replicate_zero,ycd]at ho;refine hQ t' (P++[c]) ht hoff ho (by grind) (Ad hPl (by omega)) ?_
  rw[tO,hP,hval,yca (by omega)]
 | succ k ih=>
  intro i t' P c hi ht hoff ho hP hc hPl hval;obtain⟨x,hx⟩:=getElem?_of_lt (l:=l) (i:=i) (by omega)
  have hxlt:x<4294967296:=lL hlt hx
  obtain⟨d,off,g1,g2⟩:=(hv.mono ht).idx iG hx
  have hxs:x*2^s<4294967296*2^s:=Nat.mul_lt_mul_of_pos_right hxlt (Nat.pow_pos (by decide))
  have hxs2:x*2^s<18446744073709551616:=by
   omega
  have hlow:=zoy (x:=x) (s:=s) (by omega)
  have hlor:Nat.lor c (x*2^s%4294967296)=x*2^s%4294967296+c:=by
   have:=or_low (a:=x*2^s%4294967296) (b:=c) (n:=s) hc hlow
   simp_all [Nat.or_comm]
  have hsum:x*2^s%4294967296+c<4294967296:=by
   have h1:x*2^s%4294967296<4294967296:=ycy _ (by decide)
   have h2:(4294967296:Nat)%2^s=0:=by rw[<- IS (s:=s) (by omega),Nat.mul_mod_right]
   obtain⟨p,hp⟩:=Nat.dvd_of_mod_eq_zero hlow
   obtain⟨q,hq⟩:=Nat.dvd_of_mod_eq_zero h2
   have hpq:p<q:=by
    rcases yau p q with g | g
    ·exact g
    ·have:=ybv (2^s) g;omega
   have:=ybv (2^s) (show p+1<=q from hpq)
   grind
  have hhigh:x*2^s / 4294967296<2^s:=ycu (by omega)
  have hlen0:((P++[c])++List.replicate (k+1) 0).length=l.length+1:=by simp;omega
  have g3a:=Hm iG (b:=b) (n:=l.length+1) (cap:=l.length+1) (j:=i) (by omega)
  have g3b:=Hm iG (b:=b) (n:=l.length+1) (cap:=l.length+1) (j:=i+1) (by omega)
  have g4:=ho.load (j:=i) (x:=c) (by simp_all [ybp]) yH rfl
  obtain⟨t1,s1,s2,s3⟩:=ho.store (C:=yA) hbase (j:=i) (by omega) (x*2^s%4294967296+c) yH rfl
  have hs2:((P++[c])++List.replicate (k+1) 0).set i (x*2^s%4294967296+c)=(P++[x*2^s%4294967296+c])++List.replicate (k+1) 0:=by
   simp_all
  rw[hs2]at s2;obtain⟨t2,s4,s5,s6⟩:=s2.store (C:=yA) hbase (j:=i+1) (by grind) (x*2^s / 4294967296) yH rfl
  have hs5:((P++[x*2^s%4294967296+c])++List.replicate (k+1) 0).set (i+1) (x*2^s / 4294967296)=((P++[x*2^s%4294967296+c])++[x*2^s / 4294967296])++List.replicate k 0:=by
   have hq:(P++[x*2^s%4294967296+c]).length=i+1:=by simp[hP]
   grind [Sc]
  rw[hs5]at s5;refine zlr ?_
  have e1:fA .u32 ((x*2^s:Nat):Int)=((x*2^s%4294967296:Nat):Int):=by rw[rV];omega
  have e2:fA .u32 (Int.fdiv ((x*2^s:Nat):Int) 4294967296)=((x*2^s / 4294967296:Nat):Int):=by
   rw[show Int.fdiv ((x*2^s:Nat):Int) 4294967296=((x*2^s / 4294967296:Nat):Int) from Fb _ 4294967296]
   generalize x*2^s=z at hhigh ⊢
   rw[qV (by omega) (by omega)]
  simp (disch:=omega) only[uL,uE,kC,uZ,Xj,oA,bE,g1,g2,uA,aB,fF,g3a,g4]
  rw[yab (by omega),MK (by omega) hxs2]
  simp only[uA,aB,e1];have e3:jI Nat.lor .u32 (c:Int) ((x*2^s%4294967296:Nat):Int)=some (.int .u32 ((x*2^s%4294967296+c:Nat):Int)):=by
   rw[rW (k:=.u32) (x:=c) (y:=x*2^s%4294967296) (show c<gG .u32 by show c<4294967296;omega) (by show x*2^s%4294967296<4294967296;omega),hlor]
  rw[e3];simp only[uA,aB];intro _ _ _;rw[s1];simp (disch:=omega) only[uA,wrap_i64]
  rw[show(i:Int)+1=((i+1:Nat):Int) by omega,g3b]
  simp only[uA,e2];intro _ _ _;rw[s4];simp only[uA];refine ih (i+1) t2 _ _ (by omega) ((ht.off hb s3).off hb s6) ((hoff.trans s3).trans s6) s5 (by simp[hP]) hhigh (Ad hPl hsum) ?_
  rw[tO,hP,fQ hx,tO,ybo,<- hval];have:(l.take i).length=i:=by simp;omega
  grind [Nat.div_add_mod]
theorem GR    (hv:aA t 1 (bB .u32 l) v)(hl:l.length<900000)(hlt:oB 4294967296 l)(hs:s<32)
  (hQ:∀t' b r,zB t t'->t.get b=none->yA.base<=b->zG t' b .u32 r->r.length=l.length+1->oB 4294967296 r->val 4294967296 r=val 4294967296 l*2^s->Q (.slice b 0 (l.length+1) (l.length+1)) t'):Wc yA F 309 [v,.int .i64 s] t Q:=by
 refine w309 ?_
 simp (disch:=omega) only[uI,kC,uZ,t309,oA,hv.len,uA,aB,vG,wrap_i64]
 intro b hb hbase;obtain⟨t',g1,g2,g3,g4⟩:=Hg (C:=yA) (k:=.u32) fL rfl yH rfl rfl (by decide) (n:=l.length+1) (by omega) hb
 rw[show(l.length:Int)+1=((l.length+1:Nat):Int) by omega,g1]
 simp only[uA];have:=TS hv hl hlt hs hbase hb (fun t' r a _ c d e f=>hQ t' b r a hb hbase c d e f) l.length 0 t' [] 0 (by omega) g3 g4 (by grind) rfl (Nat.pow_pos (by decide)) (fun x hx=>by cases hx) (by simp[val])
 exact this
theorem XR    (hv:aA t 1 (bB .u32 l) v)(hl:l.length<900000)(hlt:oB 4294967296 l)(hd:d<4294967296)(hd0:0<d)(hbase:yA.base<=b)(hb:t.get b=none)
  (hQ:∀t' v' q r,zB t t'->aA t' 1 (bB .u32 (lE q)) v'->oB 4294967296 q->q.length=l.length->r<d->val 4294967296 l=val 4294967296 q*d+r->Q (.tup [v',.int .u32 (r:Nat)]) t') :
  ∀(i:Nat) (t':Tr tA) (q:List Nat) (r:Nat),i<=l.length->zB t t'->zG t' b .u32 (List.replicate i 0++q)->q.length=l.length-i->oB 4294967296 q->r<d->val 4294967296 (l.drop i)=val 4294967296 q*d+r →
  jp 236 2 [v,.int .u32 d,.slice b 0 l.length l.length,.int .u32 r,.int .i64 ((i:Int)-1)] t' Q:=by
 intro i;induction i with
 | zero=>
  intro t' q r _ ht ho hq hql hr hval;refine zl0 ?_
  simp only[uL,uX,uZ,uW,Xu,oA,kI];rw[yaa (by omega)]
  rw[List.replicate_zero,yah]at ho;have hread:=ho.all (ybk _)
  have hqlen:q.length=l.length:=by omega
  rw[hqlen]at hread;obtain⟨v',h1,h2⟩:=Dp (l:=q) (by omega) hread
  simp only[Gv,h1,uA];grind
 | succ i ih=>
  intro t' q r hi ht ho hq hql hr hval;obtain⟨x,hx⟩:=getElem?_of_lt (l:=l) (i:=i) (by omega)
  have hxlt:x<4294967296:=lL hlt hx
  obtain⟨c,off,g1,g2⟩:=(hv.mono ht).idx iG hx
  have e1:((i+1:Nat):Int)-1=(i:Int):=by omega
  have g3:=Hm iG (b:=b) (n:=l.length) (cap:=l.length) (j:=i) (by omega)
  have hlen0:(List.replicate (i+1) 0++q).length=l.length:=by grind
  have hdiv:=zjd (t:=t') hr hxlt hd
  have hqlt:(r*4294967296+x) / d<4294967296:=TQ hr hxlt
  have hrlt:(r*4294967296+x)%d<d:=ycy _ hd0
  obtain⟨t1,s1,s2,s3⟩:=ho.store (C:=yA) hbase (j:=i) (by omega) ((r*4294967296+x) / d) yH rfl
  have hs2:(List.replicate (i+1) 0++q).set i ((r*4294967296+x) / d)=List.replicate i 0++((r*4294967296+x) / d::q):=by
   grind [List.replicate_succ',set_append_right]
  rw[hs2]at s2;rw[e1];refine zl0 ?_
  simp (disch:=omega) only[uL,uX,uZ,uW,Xu,oA,kI,g1,g2,uA,aB,q268,hdiv,aI,zA.asTup,pA,g3,wrap_i64]
  rw[yab (by omega)]
  simp only[bG,yaz,yba,uA,aB];intro _ _ _;rw[s1];simp only[uA];refine ih t1 _ _ (by omega) (ht.off hb s3) s2 (by grind) ?_ hrlt ?_
  ·intro y hy
   rcases ybs.1 hy with rfl | hy
   ·exact hqlt
   ·exact hql y hy
  ·rw[fR hx]
   grind [val,Nat.div_add_mod]
theorem OJ    (hv:aA t 1 (bB .u32 l) v)(hl:l.length<900000)(hlt:oB 4294967296 l)(hd:d<4294967296)(hd0:0<d)
  (hQ:∀t' v' q r,zB t t'->aA t' 1 (bB .u32 (lE q)) v'->oB 4294967296 q->q.length=l.length->r<d->val 4294967296 l=val 4294967296 q*d+r->Q (.tup [v',.int .u32 (r:Nat)]) t'):Wc yA F 236 [v,.int .u32 d] t Q:=by
 refine w236 ?_
 simp (disch:=omega) only[uI,uZ,uW,t236,oA,hv.len,uA,aB,vG,wrap_i64]
 intro b hb hbase;obtain⟨t',g1,g2,g3,g4⟩:=Hg (C:=yA) (k:=.u32) fL rfl yH rfl rfl (by decide) (n:=l.length) (by omega) hb
 rw[g1];simp only[uA];exact XR hv hl hlt hd hd0 hbase hb hQ l.length t' [] 0 (ybk _) g3 (by simp_all) (by simp) (fun x hx=>by cases hx) hd0 (by simp[val])
end
section
variable {l:List Nat}{v y:zA}{box:Nat}{Q:mB}{I:Nat->Tr tA->Prop}
variable [nC]
theorem zeo      (hl:l.length<1000000)
  (hr:∀k t,I k t->cA yA 253 ⟨0,t⟩ (.ptr box 0)=some v/\aA t 1 (bB .u32 l) v)
  (hy:∀k x t,l[k]?=some x->I (k+1) t->∀R:mB,(∀t',I k t'->R (.bool true) t')->oD (mL y [.int .u32 (x:Nat)]) fun p=>Wq yA F jC p.1 p.2 t R)
  (hQ:∀t,I 0 t->Q (.tup []) t):∀(k:Nat) (t:Tr tA),k<=l.length->I k t->jp 269 2 [y,.ptr box 0,.int .i64 ((k:Int)-1)] t Q:=by
 intro k;induction k with
 | zero=>
  intro t _ h;refine zly ?_
  simp only[uL,uB,uZ,uW,Xr,oA,kI];simp_all
 | succ k ih=>
  intro t hk h;obtain⟨g0,hv⟩:=hr _ _ h
  obtain⟨x,hx⟩:=getElem?_of_lt (l:=l) (i:=k) (by omega)
  obtain⟨c,off,g1,g2⟩:=hv.idx iG hx
  have e1:((k+1:Nat):Int)-1=(k:Int):=by omega
  rw[e1];refine zly ?_
  simp (disch:=omega) only[uL,uB,uZ,uW,Xr,oA,kI,g0,g1,g2,uA,aB,wrap_i64]
  rw[yab (by omega)]
  refine hy k x t hx h _ fun t' ht'=>?_
  grind [zA.asBool,uA]
def zqc     {t:Tr tA} (hl:l.length<1000000)
  (hr:∀k t,I k t->cA yA 253 ⟨0,t⟩ (.ptr box 0)=some v/\aA t 1 (bB .u32 l) v)
  (hy:∀k x t,l[k]?=some x->I (k+1) t->∀R:mB,(∀t',I k t'->R (.bool true) t')->oD (mL y [.int .u32 (x:Nat)]) fun p=>Wq yA F jC p.1 p.2 t R)
  (hQ:∀t,I 0 t->Q (.tup []) t) (h:I l.length t):Wc yA F 269 [y,.ptr box 0] t Q:=by
 obtain⟨g0,hv⟩:=hr _ _ h
 refine w269 ?_
 simp (disch:=omega) only[uI,uZ,uW,t269,oA,g0,hv.len,vG,uA,aB,wrap_i64]
 exact zeo hl hr hy hQ l.length t (ybk _) h
end
end Go.Proofs
namespace Go.Am
open Go Go.RowKit
variable {b base el k n sz:Nat}{cl cm:List (List zA)}{t':Tr tA}{cd:Lo}{l m:List D}{v x:zA}
section
variable {t tf:Tr tA}{C:iA}
theorem rP (hn:t.get n=none)(q:tA):zB t (t.set n q)/\wF n t (t.set n q):=
 ⟨fun c u hc=>by grind [Tr.get_set],fun c hc=>by rw[Tr.get_set,yaa hc]⟩
theorem OI   {lo:Option Lo}(hl:∀(i:Nat) cs,cl[i]?=some cs->cs.length=sz)(h:t'.get n=some (.cells (Tr.ofList cl.flatten) (yB cl.flatten) lo))(hlo:lo=none\/∃x,lo=some x/\x.es=sz) (hk:cl.length=k):jO t' sz (.slice n 0 k k) cl:=by
 grind [DA]
theorem Ou{T:Nat}{y z:lD}{ps:List (Nat × zA)} (hT:C.tys.get T=some y)(hel:y.desc.asSlice=some el)(hz:C.tys.get el=some z)(hs:z.size=sz)(h0:yB z.zero=sz)(hn:n*sz<1000000)
  (hfill:vM (fun i=>some (i*sz,sz)) ps (oI z.zero n)=some cl.flatten) (hcl:∀(i:Nat) cs,cl[i]?=some cs->cs.length=sz) (hlen:cl.length=n)  (hb:t.get b=none) :
  ∃t',tE C T n ps ⟨b,t⟩=some (.slice b 0 n n,⟨b+1,t'⟩)/\jO t' sz (.slice b 0 n n) cl/\zB t t'/\wF b t t':=by
 refine⟨t.set b (.cells (Tr.ofList cl.flatten) (yB cl.flatten) none),?_,OI hcl (by rw[Tr.get_set,yab rfl]) (.inl rfl) hlen,(rP hb _).1,(rP hb _).2⟩
 unfold tE;rw[hT,pA,hel,pA,hz,pA];have:(Nat.blt (n*z.size) 1000000&&Nat.beq (yB z.zero) z.size)=true:=by
  simp_all
 rw[this,cD,hs,hfill];rfl
def kG(cd:Lo)(base:Nat)(tf t:Tr tA)(sz:Nat)(l:List D)(v:zA):Prop:=
 (v=.nilslice/\l=[])\/∃b cl c,v=.slice b 0 l.length l.length/\base<=b/\tf.get b=none/\t.get b=some (.cells c (l.length*sz) (some cd)) ∧
  (∀(i:Nat) cs,cl[i]?=some cs->cs.length=sz/\∀(j:Nat) a,cs[j]?=some a->c.get (i*sz+j)=some a)/\uD tf l cl
abbrev eW(base:Nat)(tf t:Tr tA)(sz:Nat)(l:List D)(v:zA):Prop:=kG (.sz sz) base tf t sz l v
def uN(v:zA)(b:Nat):Prop:=∃o n c,v=.slice b o n c
theorem BY  : ¬ uN .nilslice b:=fun⟨_,_,_,h⟩=>by cases h
theorem Es{c o:Nat}:uN (.slice b o n k) c ↔ c=b:=⟨fun⟨_,_,_,h⟩=>by grind,fun h=>by subst h;exact⟨_,_,_,rfl⟩⟩
theorem kG.read    (hcd:cd.es=sz)(h:kG cd base tf t sz l v)(ht:zB tf t):aA t sz l v:=by
 rcases h with⟨rfl,rfl⟩ | ⟨b,cl,c,rfl,_,_,h1,h2,h3⟩
 ·exact⟨[],.inl ⟨rfl,rfl⟩,cH.2 rfl⟩
 ·have hlen:=h3.length
  refine⟨cl,.inr ⟨b,0,l.length,by rw[hlen],by omega,⟨c,_,_,h1,.inr ⟨_,rfl,hcd⟩⟩,fun i cs hi=>⟨(h2 i cs hi).1,c,_,_,h1,fun j a hj=>?_⟩⟩,uD.mono ht _ _ h3⟩
  simp_all
theorem kG.len    (h:kG cd base tf t sz l v):pC v=some (.int .i64 (l.length:Int)):=by
 rcases h with⟨rfl,rfl⟩ | ⟨b,cl,c,rfl,_⟩
 ·rfl
 ·rfl
theorem kG.one    (h:kG cd base tf t sz l v):zA.one v=true:=by
 rcases h with⟨rfl,rfl⟩ | ⟨b,cl,c,rfl,_⟩<;>rfl
theorem kG.same{cd:Lo}{base sz d:Nat}{l:List D}{v:zA}(h:kG cd base tf t sz l v):same d v v=true:=by
 rcases h with⟨rfl,rfl⟩ | ⟨b,cl,c,rfl,_⟩
 all_goals grind [Am.same,Nat.beq_refl]
theorem kG.none{cd:Lo}{base sz:Nat}{l:List D}{v:zA}(h:kG cd base tf t sz l v){b:Nat}(hb:uN v b):tf.get b=none/\base<=b/\∃y,t.get b=some y:=by
 rcases h with⟨rfl,rfl⟩ | ⟨c,cl,x,rfl,h1,h2,h3,_⟩
 all_goals grind [BY,Es]
theorem eW.keep   {tf':Tr tA}(h:eW base tf t sz l v)(hf:zB tf tf')(hk:∀b,uN v b->t'.get b=t.get b/\tf'.get b=Option.none):eW base tf' t' sz l v:=by
 rcases h with⟨rfl,rfl⟩ | ⟨b,cl,c,rfl,h0,h1,h2,h3,h4⟩
 ·exact .inl ⟨rfl,rfl⟩
 ·obtain⟨k1,k2⟩:=hk b (Es.2 rfl)
  exact .inr ⟨b,cl,c,rfl,h0,k2,by simp_all,h3,uD.mono hf _ _ h4⟩
theorem QL{T U:Nat} (hT:Db C T el sz)(hU:∃u,C.tys.get U=some u/\Nat.beq u.desc.tag 1=false)(hcd:∀z,C.tys.get el=some z->qN el z=cd)   (hv:kG cd C.base tf t sz l v)(hall:∀(i:Nat) cs,cm[i]?=some cs->cs.length=sz)(hx:∀n,oW ⟨n,t⟩ sz cm.length x=some cm.flatten/\Em x=some cm.length)(hm:uD tf m cm)(hone:∀a∈cm.flatten,zA.one a=true)(hpos:0<m.length)(hl:l.length+m.length<400000) (hn:t.get n=none)(hbase:C.base<=n)(ht:zB tf t) :
  ∃t',sH C T U v x ⟨n,t⟩=some (.slice n 0 (l.length+m.length) (l.length+m.length),⟨n+1,t'⟩)/\kG cd C.base tf t' sz (l++m) (.slice n 0 (l.length+m.length) (l.length+m.length))/\zB tf t'/\(∀c,c≠n->¬ uN v c->t'.get c=t.get c):=by
 obtain⟨⟨y,hy1,hy2,hy3⟩,⟨z,hz1,hz2,hz3,hz4,hz5⟩⟩:=hT
 have hcode:=hcd z hz1
 have hcm:=hm.length
 obtain⟨hf,hlen⟩:=hx n
 obtain⟨u,hu1,hu2⟩:=hU
 have hflat:=CL hall
 have hfl:yB cm.flatten=cm.length*sz:=by grind [kD]
 have hfn:tf.get n=none:=by
  cases hq:tf.get n with
  | none=>rfl
  | some u=>rw[ht _ _ hq]at hn;cases hn
 have base:sH C T U v x ⟨n,t⟩=(match v.asSlice with
  | some s=>bif Nat.ble (s.2.2.1+cm.length) s.2.2.2 then Bx C ⟨n,t⟩ z cm.length cm.flatten s else Ca C ⟨n,t⟩ el z cm.length cm.flatten s
  | none=>tB (Nat.beq v.tag 5) (jZ ⟨n,t⟩ el z cm.length cm.flatten)):=by
  unfold sH Aa;grind [pA,cD]
 have ok:Bz z l.length l.length cm.length cm.flatten=true:=by
  unfold Bz;have h1:Nat.blt (l.length+cm.length+l.length) 1000000000=true:=qC.2 (by omega)
  have h2:Nat.blt ((l.length+cm.length+l.length)*z.bytes) 1000000000=true:=qC.2 (by
   have:=ydb (show l.length+cm.length+l.length<=800000 by omega) hz4
   omega)
  grind [qC,gC]
 rcases hv with⟨rfl,rfl⟩ | ⟨b,cl,c,rfl,hb0,hb1,hb2,hb3,hb4⟩
 ·refine⟨t.set n (.cells (Tr.ofList cm.flatten) (yB cm.flatten) (some cd)),?_,.inr ⟨n,cm,Tr.ofList cm.flatten,by simp,hbase,hfn,?_,fun i cs hi=>⟨hall i cs hi,fun j a hj=>?_⟩,by simp_all⟩,?_,fun c hc _=>(rP hn _).2 c hc⟩
  ·rw[base]
   simp only[zA.asSlice];show tB true (jZ ⟨n,t⟩ el z cm.length cm.flatten)=_
   rw[cD];unfold jZ;have:Nat.beq cm.length 0=false:=by
    grind [gC]
   have ok:Bz z 0 0 cm.length cm.flatten=true:=ok
   rw[this,cond_false,ok,cD,hcm,hcode];simp only[ybx,ybw];rfl
  ·grind [Tr.get_set]
  ·grind [Tr.get_ofList,CM]
  ·exact ht.trans (rP hn _).1
 ·have hcl:=hb4.length
  have hbn:b≠n:=by grind
  refine⟨(t.del b).set n (.cells (c.setMany cm.flatten (l.length*z.size)) ((l.length+cm.length)*z.size) (some cd)),?_,.inr ⟨n,cl++cm,c.setMany cm.flatten (l.length*z.size),by simp,hbase,hfn,?_,fun i cs hi=>?_,?_⟩,fun k u hk=>?_,fun k hk1 hk2=>?_⟩
  ·rw[base]
   simp only[zA.asSlice];have:Nat.ble (l.length+cm.length) l.length=false:=by
    grind [aE]
   rw[this,cond_false];unfold Ca;simp only[];rw[show ∀x,(!(Nat.beq 0 1&&x))=true from fun _=>rfl,cD,ok,cD]
   unfold qD;rw[hb2,pA];simp only[tA.asCells,pA];unfold Kw;simp only[];have g1:loEq cd (qN el z)=true:=by grind [zcz]
   have g2:Nat.ble (l.length*z.size) (l.length*sz)=true:=aE.2 (by simp_all)
   have g3:Nat.ble (l.length*sz) ((l.length+cm.length)*z.size)=true:=aE.2 (by grind)
   have g4:sD zA.one cm.flatten=true:=by grind [mI]
   have g5:(!Nat.blt b C.base)=true:=by
    grind [qC]
   rw[g1,g2,g3,g4,g5];simp_all
  ·rw[Tr.get_set,yab rfl,hz2,hcm,ybg]
  ·rw[List.getElem?_append]at hi
   split at hi
   ·rename_i hlt
    obtain⟨k1,k2⟩:=hb3 i cs hi
    refine⟨k1,fun j a hj=>?_⟩
    have hjl:j<sz:=by grind
    have:i*sz+j<l.length*sz:=by
     have:=ybi sz (show i+1<=l.length by omega)
     grind
    grind [Tr.get_setMany]
   ·rename_i hge
    have k1:=hall _ cs hi
    refine⟨k1,fun j a hj=>?_⟩
    have hf1:=CM hall _ j cs a hi hj
    have hlt:=(ybc.1 hf1).1
    have e:i*sz=l.length*sz+(i-cl.length)*sz:=by rw[<- ybo];simp_all
    grind [Tr.get_setMany]
  ·have app:∀ {l m:List D} {cl cm:List (List zA)},uD tf l cl->uD tf m cm->uD tf (l++m) (cl++cm):=by
    intro l;induction l with
    | nil=>grind [cH]
    | cons d l ih=>
     grind [vH]
   simp_all
  ·have h1:k≠b:=by grind
   have h2:k≠n:=by grind
   rw[Tr.get_set,yaa h2,Tr.get_del,yaa h1];exact ht _ _ hk
  grind [Tr.get_set,Tr.get_del,Es]
def QM{T:Nat} (hT:Db C T el sz)(hcd:∀z,C.tys.get el=some z->qN el z=cd)   (hv:kG cd C.base tf t sz l v)(hx:jO t sz x cm)(hm:uD tf m cm)(hone:∀a∈cm.flatten,zA.one a=true)(hpos:0<m.length)(hl:l.length+m.length<400000) (hn:t.get n=none)(hbase:C.base<=n)(ht:zB tf t) :
  ∃t',sH C T T v x ⟨n,t⟩=some (.slice n 0 (l.length+m.length) (l.length+m.length),⟨n+1,t'⟩)/\kG cd C.base tf t' sz (l++m) (.slice n 0 (l.length+m.length) (l.length+m.length))/\zB tf t'/\(∀c,c≠n->¬ uN v c->t'.get c=t.get c):=by
 obtain⟨y,hy1,hy2,hy3⟩:=hT.ty
 exact QL hT ⟨y,hy1,hy3⟩ hcd hv hx.len (fun n=>hx.first (n:=n)) hm hone hpos hl hn hbase ht
def ZQ{T:Nat}(hT:Iu C T el sz)   (hv:eW C.base tf t sz l v)(hx:jO t sz x cm)(hm:uD tf m cm)(hone:∀a∈cm.flatten,zA.one a=true)(hpos:0<m.length)(hl:l.length+m.length<400000) (hn:t.get n=none)(hbase:C.base<=n)(ht:zB tf t) :
  ∃t',sH C T T v x ⟨n,t⟩=some (.slice n 0 (l.length+m.length) (l.length+m.length),⟨n+1,t'⟩)/\eW C.base tf t' sz (l++m) (.slice n 0 (l.length+m.length) (l.length+m.length))/\zB tf t'/\(∀c,c≠n->¬ uN v c->t'.get c=t.get c):=by
 refine QM ⟨hT.ty,hT.el⟩ (fun z h=>?_) hv hx hm hone hpos hl hn hbase ht
 obtain⟨y,h1,h2,_⟩:=hT.el
 rw[hT.nb.code h,show z=y from yci (h.symm.trans h1),h2]
theorem kG.freeze    (hcd:cd.es=sz)(h:kG cd base tf t sz l v)(ht:zB tf t):∃tf',zB tf tf'/\zB tf' t/\aA tf' sz l v/\∀b,¬ uN v b->tf'.get b=tf.get b:=by
 rcases h with⟨rfl,rfl⟩ | ⟨b,cl,c,rfl,h0,h1,h2,h3,h4⟩
 ·exact⟨tf,zB.refl _,ht,⟨[],.inl ⟨rfl,rfl⟩,cH.2 rfl⟩,fun _ _=>rfl⟩
 ·have hlen:=h4.length
  refine⟨tf.set b (.cells c (l.length*sz) (some cd)),(rP h1 _).1,fun k u hk=>?_,⟨cl,.inr ⟨b,0,l.length,by rw[hlen],by omega,⟨c,_,_,by rw[Tr.get_set,yab rfl],.inr ⟨_,rfl,hcd⟩⟩,fun i cs hi=>⟨(h3 i cs hi).1,c,_,_,(by rw[Tr.get_set,yab rfl]),fun j a hj=>?_⟩⟩,uD.mono (rP h1 _).1 _ _ h4⟩,fun k hk=>by rw[Tr.get_set,yaa (fun e=>hk (Es.2 e))]⟩
  ·rw[Tr.get_set]at hk
   split at hk
   ·simp_all
   ·exact ht _ _ hk
  simp_all
theorem eW.freeze   (h:eW base tf t sz l v)(ht:zB tf t):∃tf',zB tf tf'/\zB tf' t/\aA tf' sz l v/\∀b,¬ uN v b->tf'.get b=tf.get b:=kG.freeze rfl h ht
end
end Go.Am
namespace Go.Am
open Go Go.RowKit
section
variable {l:List zA}{j:Nat}{y:lD}{v:zA}
def lC (t:Tr tA)(b:Nat)(lo:Option Lo)(cs:List zA):Prop:=∃c,t.get b=some (.cells c cs.length lo)/\∀(j:Nat) a,cs[j]?=some a->c.get j=some a
def oM(cs:List zA)(j:Nat)(l:List zA):List zA:=cs.take j++(l++cs.drop (j+l.length))
theorem JB{cs:List zA} (h:j+l.length<=cs.length):(oM cs j l).length=cs.length:=by
 grind [oM]
theorem Sw{cs:List zA} (h:j+l.length<=cs.length)(k:Nat):(oM cs j l)[k]?=if j<=k/\k<j+l.length then l[k-j]? else cs[k]?:=by
 grind [oM]
section
variable {t tf:Tr tA}{C:iA}{b:Nat}{lo:Option Lo}{cs:List zA}
theorem lC.at(h:lC t b lo cs):At t b 0 cs:=by
 obtain⟨c,h1,h2⟩:=h
 exact⟨c,_,_,h1,fun j a hj=>by simp_all⟩
theorem lC.off(h:lC t b lo cs){t':Tr tA}(k:t'.get b=t.get b):lC t' b lo cs:=by
 obtain⟨c,h1,h2⟩:=h
 exact⟨c,by simp_all,h2⟩
theorem lC.load1(h:lC t b lo cs) {a:zA}{ty:Nat} (hy:C.tys.get ty=some y)(ha:y.desc.isAgg=false)(hj:cs[j]?=some a):cA C ty ⟨0,t⟩ (.ptr b j)=some a:=by
 have:=h.at.load1 hy ha hj
 simp_all
theorem lC.store(h:lC t b lo cs)(hb:C.base<=b){T:Nat}  (hT:C.tys.get T=some y)(hl:v.cells.length=y.size)(hj:j+v.cells.length<=cs.length)(hone:sD zA.one v.cells=true) :
  ∃t',(∀n,mC C T (.ptr b j) v ⟨n,t⟩=some (pD,⟨n,t'⟩))/\lC t' b lo (oM cs j v.cells)/\wF b t t':=by
 obtain⟨c,h1,h2⟩:=h
 refine⟨t.set b (.cells (c.setMany v.cells j) cs.length lo),fun n=>?_,⟨c.setMany v.cells j,?_,fun k a hk=>?_⟩,fun d hd=>by rw[Tr.get_set,yaa hd]⟩
 ·unfold mC
  rw[hT,pA];simp only[zA.asPtr,pA];have e1:Nat.beq (yB v.cells) y.size=true:=by grind [kD,gC]
  rw[e1,cD];unfold sJ qD;have e2:(!Nat.blt b C.base)=true:=by
   grind [qC]
  rw[e2,cD,h1,pA];simp only[tA.asCells,pA];have e3:Nat.ble (j+yB v.cells) cs.length=true:=by simp_all
  rw[e3,hone];rfl
 all_goals grind [Tr.get_set,JB,Sw,Tr.get_setMany]
theorem lC.store1(h:lC t b lo cs)(hb:C.base<=b){T:Nat}  (hT:C.tys.get T=some y)(hs:y.size=1)(hv:v.cells=[v])(hone:zA.one v=true)(hj:j<cs.length) :
  ∃t',(∀n,mC C T (.ptr b j) v ⟨n,t⟩=some (pD,⟨n,t'⟩))/\lC t' b lo (cs.set j v)/\wF b t t':=by
 obtain⟨t',h1,h2,h3⟩:=h.store hb hT (v:=v) (j:=j) (by simp_all) (by grind) (by rw[hv];show(bif zA.one v then true else false)=true;simp_all)
 refine⟨t',h1,?_,h3⟩
 have e:oM cs j v.cells=cs.set j v:=by
  rw[hv];apply List.ext_getElem?
  grind [Sw]
 simp_all
theorem Hd{b:Nat}(hb:t.get b=none)(cs:List zA)(lo:Option Lo):∃t',rF ⟨b,t⟩ cs lo=⟨b+1,t'⟩/\lC t' b lo cs/\zB t t'/\wF b t t':=
 ⟨t.set b (.cells (Tr.ofList cs) (yB cs) lo),rfl,⟨Tr.ofList cs,by rw[Tr.get_set,yab rfl,kD],fun j a hj=>by grind [Tr.get_ofList]⟩,(rP hb _).1,(rP hb _).2⟩
def xS{b T:Nat} (hT:C.tys.get T=some y)(hb:t.get b=none):∃t',iL C T ⟨b,t⟩=some (.ptr b 0,⟨b+1,t'⟩)/\lC t' b none y.zero/\zB t t'/\wF b t t':=by
 obtain⟨t',h1,h2,h3,h4⟩:=Hd hb y.zero none
 refine⟨t',?_,h2,h3,h4⟩
 unfold iL;rw[hT,pA,<- h1]
theorem Vl{b:Nat} (hb:t.get b=none):∃t',jL v ⟨b,t⟩=some (.ptr b 0,⟨b+1,t'⟩)/\lC t' b none v.cells/\zB t t'/\wF b t t':=by
 simp_all [Hd,jL]
end
end
section
variable {k n:Nat}{t':Tr tA}
structure iF where
 blks:List Nat
 ok:Tr tA->Tr tA->Prop
 keep:∀ {tf t tf' t':Tr tA},ok tf t->zB tf tf'->(∀k∈blks,t'.get k=t.get k/\tf'.get k=none)->ok tf' t'
 live:∀ {tf t:Tr tA},ok tf t->∀k∈blks,∃y,t.get k=some y
structure xB (base:Nat) (tf t:Tr tA) (l:List iF):Prop where
 tle:zB tf t
 nodup:(l.flatMap iF.blks).Nodup
 ok:∀o∈l,o.ok tf t
 low:∀k∈l.flatMap iF.blks,base<=k/\tf.get k=none
def Fh (v:zA):List Nat:=match v with | .slice b _ _ _=>[b] | _=>[]
theorem Tf{v:zA}{k:Nat}:k∈Fh v ↔ uN v k:=by
 unfold Fh uN;grind
def wD (b:Nat)(lo:Option Lo)(cs:List zA):iF where
 blks:=[b]
 ok:=fun _ t=>lC t b lo cs
 keep:=fun h _ k=>h.off (k b (by simp)).1
 live:=fun h k hk=>by rw[ydd]at hk;subst hk;obtain⟨c,hc,_⟩:=h;simp_all
def nP(base sz:Nat)(l:List D)(v:zA):iF where
 blks:=Fh v
 ok:=fun tf t=>eW base tf t sz l v
 keep:=fun h hf k=>h.keep hf fun b hb=>k b (Tf.2 hb)
 live:=fun h k hk=>(h.none (Tf.1 hk)).2.2
section
variable {base:Nat}{tf t:Tr tA}{l A B:List iF}{o o':iF}
theorem xB.live(h:xB base tf t l) (hk:k∈l.flatMap iF.blks):∃y,t.get k=some y:=by
 obtain⟨o,ho,hk⟩:=List.mem_flatMap.1 hk
 exact o.live (h.ok o ho) k hk
theorem xB.fresh(h:xB base tf t l) (hn:t.get n=none):n∉l.flatMap iF.blks:=by
 intro hm;obtain⟨y,hy⟩:=h.live hm
 simp_all
theorem xB.tfn(h:xB base tf t l) (hn:t.get n=none):tf.get n=none:=by
 cases hq:tf.get n with
 | none=>rfl
 | some y=>have:=h.tle _ _ hq;simp_all
theorem xB.keep(h:xB base tf t l){tf':Tr tA}(hf:zB tf tf')(ht:zB tf' t')(hk:∀k∈l.flatMap iF.blks,t'.get k=t.get k/\tf'.get k=none):xB base tf' t' l:=
 ⟨ht,h.nodup,fun o ho=>o.keep (h.ok o ho) hf fun k hk'=>hk k (List.mem_flatMap.2 ⟨o,ho,hk'⟩),fun k hk'=>⟨(h.low k hk').1,(hk k hk').2⟩⟩
theorem xB.junk(h:xB base tf t l)  (hn:t.get n=none)(ho:wF n t t'):xB base tf t' l:=
 h.keep (zB.refl _) (h.tle.off (h.tfn hn) ho) fun k hk=>⟨ho k (fun e:k=n=>h.fresh hn (e ▸ hk)),(h.low k hk).2⟩
def xB.other(h:xB base tf t l)  (hn:n∉l.flatMap iF.blks)(hf:tf.get n=none)(ho:wF n t t'):xB base tf t' l:=
 h.keep (zB.refl _) (h.tle.off hf ho) fun k hk=>⟨ho k (fun e:k=n=>hn (e ▸ hk)),(h.low k hk).2⟩
theorem xB.froze(h:xB base tf t l) {y:tA}(hn:n∉l.flatMap iF.blks)(hy:t.get n=some y)(hf:tf.get n=none):xB base (tf.set n y) t l/\zB tf (tf.set n y):=by
 have h1:=(rP (t:=tf) hf y).1
 refine⟨h.keep h1 (fun k u hk=>?_) fun k hk=>⟨rfl,?_⟩,h1⟩
 ·rw[Tr.get_set]at hk
  split at hk
  ·simp_all
  ·exact h.tle _ _ hk
 ·rw[Tr.get_set,yaa (fun e:k=n=>hn (e ▸ hk))];exact(h.low k hk).2
def Uj:(A++o::B).flatMap iF.blks=A.flatMap iF.blks++(o.blks++B.flatMap iF.blks):=by simp
theorem xB.upd(h:xB base tf t (A++o::B)) (hk:∀k,k∉o.blks->k∉o'.blks->t'.get k=t.get k)(hn:∀k∈o'.blks,k∈o.blks\/(t.get k=none/\base<=k))(hok:o'.ok tf t')(hnd:o'.blks.Nodup)(ht:zB tf t'):xB base tf t' (A++o'::B):=by
 have hd:=h.nodup
 rw[Uj]at hd;rw[List.nodup_append]at hd;obtain⟨d1,d2,d3⟩:=hd
 rw[List.nodup_append]at d2;obtain⟨d4,d5,d6⟩:=d2
 have oth:∀k,k∈A.flatMap iF.blks\/k∈B.flatMap iF.blks->k∉o.blks/\k∉o'.blks/\t'.get k=t.get k/\base<=k/\tf.get k=none:=by
  intro k hk';have hm:k∈(A++o::B).flatMap iF.blks:=by rw[Uj];simp only[yaf];rcases hk' with h | h<;>simp[h]
  have h1:k∉o.blks:=fun hc=>by
   grind
  have h2:k∉o'.blks:=fun hc=>by
   rcases hn k hc with h' | h'
   ·grind
   ·obtain⟨y,hy⟩:=h.live hm
    simp_all
  exact⟨h1,h2,hk k h1 h2,h.low k hm⟩
 have mem:∀k,k∈(A++o'::B).flatMap iF.blks->(k∈A.flatMap iF.blks\/k∈B.flatMap iF.blks)\/k∈o'.blks:=by
  grind
 refine⟨ht,?_,fun p hp=>?_,fun k hk'=>?_⟩
 ·grind
 ·have hp':p∈A\/p=o'\/p∈B:=by simp_all
  rcases hp' with h' | h' | h'
  ·exact p.keep (h.ok p (by simp[h'])) (zB.refl _) fun k hk'=>by
    grind
  ·simp_all
  ·exact p.keep (h.ok p (by simp[h'])) (zB.refl _) fun k hk'=>by
    grind
 ·rcases mem k hk' with h' | h'
  ·simp_all
  ·rcases hn k h' with h'' | h''
   ·exact h.low k (by simp_all)
   ·exact⟨h''.2,h.tfn h''.1⟩
def zhu:iF:=⟨[],fun _ _=>True,fun _ _ _=>trivial,fun _ _ h=>by cases h⟩
theorem xB.add(h:xB base tf t (A++B)) (hk:∀k,k∉o'.blks->t'.get k=t.get k)(hn:∀k∈o'.blks,t.get k=none/\base<=k)(hok:o'.ok tf t')(hnd:o'.blks.Nodup)(ht:zB tf t'):xB base tf t' (A++o'::B):=by
 have e:xB base tf t (A++zhu::B):=by
  have hm:(A++zhu::B).flatMap iF.blks=(A++B).flatMap iF.blks:=by simp[zhu]
  refine⟨h.tle,by rw[hm];exact h.nodup,fun o ho=>?_,fun k hk=>h.low k (by simp_all)⟩
  have:o∈A\/o=zhu\/o∈B:=by simp_all
  rcases this with h' | h' | h'
  ·exact h.ok o (by simp[h'])
  ·subst h';trivial
  ·exact h.ok o (by simp[h'])
 exact e.upd (fun k _ h2=>hk k h2) (fun k hk=>.inr (hn k hk)) hok hnd ht
theorem xB.drop(h:xB base tf t (A++o::B)):xB base tf t (A++B):=by
 have hd:=h.nodup
 rw[Uj]at hd;refine⟨h.tle,?_,fun p hp=>h.ok p (by rcases yaf.1 hp with h | h<;>simp[h]),fun k hk=>h.low k (by rw[Uj];rw[List.flatMap_append]at hk;rcases yaf.1 hk with h | h<;>simp[h])⟩
 grind
theorem xB.notin(h:xB base tf t (A++o::B)) (hk:k∈o.blks):k∉(A++B).flatMap iF.blks:=by
 have hd:=h.nodup
 grind
def xB.freezeL{sz:Nat}{m:List D}{v:zA}(h:xB base tf t (A++nP base sz m v::B)):∃tf',zB tf tf'/\xB base tf' t (A++B)/\aA tf' sz m v:=by
 have hl:eW base tf t sz m v:=h.ok (nP base sz m v) (by simp)
 obtain⟨tf',h1,h2,h3,h4⟩:=hl.freeze h.tle
 refine⟨tf',h1,h.drop.keep h1 h2 fun k hk=>⟨rfl,?_⟩,h3⟩
 have hb:¬ uN v k:=fun hb=>h.notin (o:=nP base sz m v) (Tf.2 hb) hk
 rw[h4 k hb];exact(h.drop.low k hk).2
end
end
section
variable {b cap el k:Nat}{cs:List zA}{lo:Option Lo}
section
variable {t tf:Tr tA}{C:iA}
theorem ZP{T m n:Nat}  {x:zA}{cm:List (List zA)}(hT:Db C T el 1)(hc:lC t b lo cs)(hb:C.base<=b)(hx:jO t 1 x cm)(hm:cm.length=m)(h0:0<m)(hk:k+m<=cap)(hcap:cap<=cs.length)(hone:∀a∈cm.flatten,zA.one a=true) :
  ∃t',sH C T T (.slice b 0 k cap) x ⟨n,t⟩=some (.slice b 0 (k+m) cap,⟨n,t'⟩)/\lC t' b lo (oM cs k cm.flatten)/\wF b t t':=by
 obtain⟨⟨y,hy1,hy2,hy3⟩,⟨z,hz1,hz2,hz3,hz4,hz5⟩⟩:=hT
 obtain⟨hf,hlen⟩:=hx.first (n:=n)
 have hfl:=CL hx.len
 rw[Nat.mul_one,hm]at hfl;obtain⟨c,h1,h2⟩:=hc
 have hne:cm.flatten≠[]:=by grind
 refine⟨t.set b (.cells (c.setMany cm.flatten k) cs.length lo),?_,⟨c.setMany cm.flatten k,by rw[Tr.get_set,yab rfl,JB (by omega)],fun j a hj=>?_⟩,fun d hd=>by rw[Tr.get_set,yaa hd]⟩
 ·unfold sH Aa
  rw[hy1,pA,pA,hy3];simp only[ycl,cD];rw[hy2,pA,hz1,pA,hlen,pA,hz2,hf,pA];simp only[zA.asSlice,hm];rw[aE.2 hk,cond_true];unfold Bx
  cases hq:cm.flatten with
  | nil=>simp_all
  | cons a r=>
   simp only[hz2,Nat.mul_one,ybw];rw[<- hq];unfold sJ qD;have e2:(!Nat.blt b C.base)=true:=by
    grind [qC]
   rw[e2,cD,h1,pA];simp only[tA.asCells,pA];have e3:Nat.ble (k+yB cm.flatten) cs.length=true:=by grind [kD,aE]
   have e4:sD zA.one cm.flatten=true:=by grind [mI]
   rw[e3,e4];rfl
 grind [Sw,Tr.get_setMany]
def Ll(l:List Nat):List zA:=l.map fun(n:Nat)=>zA.int .u8 (n:Int)
theorem YE{S Dt:Nat}  {l:List Nat}{yS yD yE:lD}(hS:C.tys.get S=some yS)(hD:C.tys.get Dt=some yD)(h1:yD.desc.asInt=none)(h2:yD.desc.isString=true)(h3:yS.desc.asSlice=some el)(h4:C.tys.get el=some yE)(h5:yE.desc.asInt=some .u8)
  (hc:lC t b lo cs) (hk:l.length=k) (hl:∀(j:Nat) x,l[j]?=some x->cs[j]?=some (.int .u8 (x:Int))) (hlt:oB 256 l):eP C S Dt ⟨0,t⟩ (.slice b 0 k cap)=some (.str l):=by
 obtain⟨c,g1,g2⟩:=hc
 unfold eP gT;rw[hS,pA,hD,pA,h1];simp only[];rw[h2,cD];have e1:Nat.beq (zA.slice b 0 k cap).tag 2=false:=rfl
 rw[e1,cond_false,h3,pA,h4,pA,h5,pA,iM.2 rfl,cD];unfold Ib;simp only[zA.asSlice];unfold qD;rw[g1,pA];simp only[tA.asCells,pA]
 have hm:∀(l:List Nat) (off:Nat),(∀(j:Nat) x,l[j]?=some x->c.get (off+j)=some (.int .u8 (x:Int)))->c.many l.length off=some (Ll l):=by
  intro l;induction l with
  | nil=>intro off _;rfl
  | cons x l ih=>
   intro off h;rw[ybn,Tr.many_succ];have:=h 0 x rfl
   rw[yct]at this;rw[this,pA,ih (off+1) (fun j y hj=>by rw[show off+1+j=off+(j+1) by omega];simp_all),pA]
   rfl
 subst hk;rw[hm l 0 (fun j x hj=>by simp_all),pA]
 have hb:∀(l:List Nat),oB 256 l->pG jW (Ll l)=some l:=by
  intro l;induction l with
  | nil=>intro _;rfl
  | cons x l ih=>
   intro h;have e:jW (.int .u8 (x:Int))=some x:=by
    unfold jW;have e1:mM (x:Int)=some x:=rfl
    simp only[zA.asIntK,pA];rw[iM.2 rfl,cD,e1,pA,qC.2 (h x (by simp))];rfl
   show pG jW (.int .u8 (x:Int)::Ll l)=_
   rw[lO,e,pA,ih fun y hy=>h y (by simp[hy]),pA]
 rw[hb l hlt,pA]
theorem zct{T:Nat}{y z:lD}{k:IntKind}(hT:C.tys.get T=some y)(hel:y.desc.asSlice=some el)(hz:C.tys.get el=some z)(hzero:z.zero=[.int k 0])(hs:z.size=1)(hby:z.bytes<=8)(hn:cap<1000000) (hb:t.get b=none) :
  ∃t',fP C T (.int .i64 0) (.int .i64 (cap:Int)) ⟨b,t⟩=some (.slice b 0 0 cap,⟨b+1,t'⟩)/\lC t' b none (List.replicate cap (.int k 0))/\zB t t'/\wF b t t':=by
 have hrep:∀n,oI [zA.int k 0] n=List.replicate n (.int k 0):=by
  intro n;induction n with
  | zero=>rfl
  | succ n ih=>grind [oI,aG]
 obtain⟨t',h1,h2,h3,h4⟩:=Hd hb (List.replicate cap (.int k 0)) none
 refine⟨t',?_,h2,h3,h4⟩
 unfold fP;rw[hT,pA,hel,pA,hz,pA];have e1:(zA.int .i64 (cap:Int)).asNat=some cap:=rfl
 have e0:(zA.int .i64 0).asNat=some 0:=rfl
 rw[e1,e0,pA,pA];have e2:(Nat.ble 0 cap&&Nat.blt cap 1000000&&Nat.blt (cap*z.bytes) 1000000000&&Nat.beq (yB z.zero) z.size)=true:=by
  rw[hzero,hs,show Nat.ble 0 cap=true from aE.2 (yaw _),qC.2 hn]
  have:cap*z.bytes<1000000000:=by
   have:=ydb (Nat.le_of_lt hn) hby
   omega
  rw[qC.2 this];rfl
 rw[e2,cD,hzero,hrep,h1]
end
end
end Go.Am
namespace Go.Am
open Go
variable {k:IntKind}{l m:List Nat}{base el n sz:Nat}{v:zA}{cd:Lo}
section
variable {C:iA}{t tf:Tr tA}
def cT(k:IntKind)(l:List Nat):List (List zA):=l.map fun(x:Nat)=>[zA.int k (x:Int)]
theorem Fr{k:IntKind}:∀ {l:List Nat} {cl:List (List zA)},uD t (bB k l) cl ↔ cl=cT k l
 | [],cl=>by
  show uD t [] cl ↔ cl=[]
  exact cH
 | x::l,cl=>by
  show uD t (.int k (x:Int)::bB k l) cl ↔ cl=[.int k (x:Int)]::cT k l
  rw[vH];constructor
  ·rintro⟨c,r,rfl,h1,h2⟩
   rw[Ah]at h1;rw[h1,Fr.1 h2]
  ·rintro rfl
   exact⟨_,_,rfl,Ah.2 rfl,Fr.2 rfl⟩
def Vi{k:IntKind}:∀(l:List Nat),(cT k l).flatten=l.map fun(x:Nat)=>zA.int k (x:Int)
 | []=>rfl
 | x::l=>by
  show [zA.int k (x:Int)]++(cT k l).flatten=_
  rw[Vi l];rfl
theorem PP   : (cT k l).length=l.length:=by simp[cT]
theorem YS  (i:Nat)(cs:List zA)(h:(cT k l)[i]?=some cs):cs.length=1:=by
 grind [cT]
def ZB(l:List Nat)(h:oB 256 l):pG jW (Ll l)=some l:=by
 induction l with
 | nil=>rfl
 | cons x l ih=>
  have e:jW (.int .u8 (x:Int))=some x:=by
   unfold jW;have e1:mM (x:Int)=some x:=rfl
   simp only[zA.asIntK,pA];rw[iM.2 rfl,cD,e1,pA,qC.2 (h x (by simp))];rfl
  show pG jW (.int .u8 (x:Int)::Ll l)=_
  rw[lO,e,pA,ih fun y hy=>h y (by simp[hy]),pA]
theorem zjs{S Dt:Nat}  {yS yD yE:lD}(hS:C.tys.get S=some yS)(hD:C.tys.get Dt=some yD)(h1:yD.desc.asInt=none)(h2:yD.desc.isString=true)(h3:yS.desc.asSlice=some el)(h4:C.tys.get el=some yE)(h5:yE.desc.asInt=some .u8)
  (hv:aA t 1 (bB .u8 l) v) (hlt:oB 256 l):eP C S Dt ⟨0,t⟩ v=some (.str l):=by
 obtain⟨cl,g1,g2⟩:=hv
 rw[Fr]at g2;subst g2;have hf:=(g1.first (n:=0)).1
 have htag:Nat.beq v.tag 2=false:=by
  rcases g1 with⟨rfl,_⟩ | ⟨b,off,cap,rfl,_⟩<;>rfl
 unfold eP gT;rw[hS,pA,hD,pA,h1];simp only[];rw[h2,cD,htag,cond_false,h3,pA,h4,pA,h5,pA,iM.2 rfl,cD];unfold Ib;rcases g1 with⟨rfl,hn⟩ | ⟨b,off,cap,rfl,_⟩
 ·have:l=[]:=by
   grind [PP]
  subst this;rfl
 ·unfold oW at hf
  simp only[zA.asSlice,Nat.mul_one]at hf ⊢
  rw[sA]at hf;obtain⟨c,hc,hf⟩:=hf
  rw[hc,pA,hf,pA,Vi];have:=ZB l hlt
  unfold Ll at this;rw[this,pA]
theorem WW{k:Nat} (h:l.length=k):oW ⟨n,t⟩ 1 k (.str l)=some (cT .u8 l).flatten/\Em (.str l)=some k:=by
 subst h;constructor
 ·unfold oW
  simp only[zA.asSlice,zA.asStr];rw[Vi,xT,List.take_length];rfl
 grind [Em,zA.asSlice,zA.asStr,kD]
def JH   : ∀a∈(cT k l).flatten,zA.one a=true:=by
 intro a ha;rw[Vi]at ha;obtain⟨x,_,rfl⟩:=yaq.1 ha
 rfl
theorem OV   : bB k (l++m)=bB k l++bB k m:=by simp[bB]
theorem QK{T U:Nat} (hT:Db C T el 1)(hU:∃u,C.tys.get U=some u/\Nat.beq u.desc.tag 1=false)(hcd:∀z,C.tys.get el=some z->qN el z=cd)  (hv:kG cd C.base tf t 1 (bB .u8 l) v)(hpos:m≠[])(hl:l.length+m.length<400000) (hn:t.get n=none)(hbase:C.base<=n)(ht:zB tf t) :
  ∃t',sH C T U v (.str m) ⟨n,t⟩=some (.slice n 0 (l.length+m.length) (l.length+m.length),⟨n+1,t'⟩)/\kG cd C.base tf t' 1 (bB .u8 (l++m)) (.slice n 0 (l.length+m.length) (l.length+m.length))/\zB tf t'/\(∀c,c≠n->¬ uN v c->t'.get c=t.get c):=by
 have h0:0<m.length:=List.length_pos_iff.2 hpos
 obtain⟨t',h1,h2,h3,h4⟩:=QL hT hU hcd (l:=bB .u8 l) (m:=bB .u8 m) (x:=.str m) (cm:=cT .u8 m) hv YS (fun n=>by grind [PP,WW]) (Fr.2 rfl) JH (by grind [vG]) (by grind [vG]) hn hbase ht
 grind [vG,OV]
theorem QN{T:Nat}  (hT:Db C T el 1)(hcd:∀z,C.tys.get el=some z->qN el z=cd) {x:zA}(hv:kG cd C.base tf t 1 (bB k l) v)(hx:aA t 1 (bB k m) x)(hpos:m≠[])(hl:l.length+m.length<400000) (hn:t.get n=none)(hbase:C.base<=n)(ht:zB tf t) :
  ∃t',sH C T T v x ⟨n,t⟩=some (.slice n 0 (l.length+m.length) (l.length+m.length),⟨n+1,t'⟩)/\kG cd C.base tf t' 1 (bB k (l++m)) (.slice n 0 (l.length+m.length) (l.length+m.length))/\zB tf t'/\(∀c,c≠n->¬ uN v c->t'.get c=t.get c):=by
 have h0:0<m.length:=List.length_pos_iff.2 hpos
 obtain⟨cl,g1,g2⟩:=hx
 rw[Fr]at g2;subst g2;obtain⟨t',h1,h2,h3,h4⟩:=QM hT hcd (l:=bB k l) (m:=bB k m) (x:=x) (cm:=cT k m) hv g1 (Fr.2 rfl) JH (by grind [vG]) (by grind [vG]) hn hbase ht
 grind [vG,OV]
def KE   : kG cd base tf t sz [] .nilslice:=.inl ⟨rfl,rfl⟩
theorem kG.keep'  {l:List D} {t':Tr tA}(h:kG cd base tf t sz l v)(hk:∀b,uN v b->t'.get b=t.get b):kG cd base tf t' sz l v:=by
 rcases h with⟨rfl,rfl⟩ | ⟨b,cl,c,rfl,h0,h1,h2,h3,h4⟩
 ·exact .inl ⟨rfl,rfl⟩
 ·exact .inr ⟨b,cl,c,rfl,h0,h1,by grind [Es],h3,h4⟩
end
end Go.Am
namespace Go.Am
variable {B U V a b d head m top u2 ur v2 vr:Nat}{l:List Nat}
def kn_ge (hU:U=(head*B+u2)*B^m+ur)(hur:ur<B^m)(hu2:u2<B)(hV:V=(top*B+v2)*B^m+vr)(htop:0<top):U / V<=head / top:=by
 have hBm:0<B^m:=by omega
 rw[Nat.le_div_iff_mul_le htop];have h1:U / V*V<=U:=Nat.div_mul_le_self U V
 have h2:top*B*B^m<=V:=by
  grind
 have h3:U<(head+1)*B*B^m:=by
  have:head*B+u2+1<=(head+1)*B:=by grind
  have:=ybi (B^m) this
  grind
 have h4:U / V*top*(B*B^m)<(head+1)*(B*B^m):=by
  calc U / V*top*(B*B^m)=U / V*(top*B*B^m):=by rw[ybj,ybj]
   _<=U / V*V:=ybv _ h2
   _<=U:=h1
   _<(head+1)*B*B^m:=h3
   _=(head+1)*(B*B^m):=by rw[ybj]
 exact Nat.lt_succ_iff.1 (Nat.lt_of_mul_lt_mul_right h4)
def kn_gt (hU:U=(head*B+u2)*B^m+ur)(hur:ur<B^m)(hV:V=(top*B+v2)*B^m+vr)(h:head*B+u2<d*(top*B+v2)):U / V<d:=by
 rcases yau (U / V) d with g | g
 ·exact g
 ·exfalso
  have h1:U / V*V<=U:=Nat.div_mul_le_self U V
  have h2:d*V<=U:=Nat.le_trans (ybi _ g) h1
  have h3:d*(top*B+v2)*B^m<=d*V:=by simp_all [ybj,ybv]
  have h4:=ybi (B^m) (show head*B+u2+1<=d*(top*B+v2) from h)
  grind
def kn_le (hB:0<B)(hU:U=(head*B+u2)*B^m+ur)(hV:V=(top*B+v2)*B^m+vr)(hvr:vr<B^m)(htop:0<top)(hd:d<=B)(h:d*(top*B+v2)<=head*B+u2):d<=U / V+1:=by
 have hVpos:0<V:=by
  rw[hV];have:0<top*B+v2:=by have:=Nat.mul_pos htop hB;omega
  have:=Nat.mul_pos this (show 0<B^m by omega)
  omega
 rcases yau (U / V+1) d with g | g
 ·exfalso
  have h1:(d-1)*V<=U:=by
   have e1:d*V<=d*((top*B+v2)*B^m)+d*B^m:=by
    simp_all [ybm,ybv,Nat.le_of_lt]
   have e2:d*((top*B+v2)*B^m)<=(head*B+u2)*B^m:=by rw[<- ybj];exact ybi _ h
   have e3:d*B^m<=V:=by
    have:d*B^m<=top*B*B^m:=by
     refine ybi _ (Nat.le_trans hd ?_)
     exact yan _ htop
    grind
   grind [Nat.sub_mul]
  have:=(Nat.le_div_iff_mul_le hVpos).2 h1
  omega
 ·exact g
def top2 (hB:0<B)  (hlt:oB B l)(hl:l.length=m+2)(ha:l[m+1]?=some a)(hb:l[m]?=some b):val B l=(a*B+b)*B^m+val B (l.take m)/\val B (l.take m)<B^m:=by
 have e1:=Gh B l m
 have hlen:(l.take m).length=m:=by grind
 rw[hlen]at e1;have e2:l.drop m=[b,a]:=by
  rw[fR hb,fR ha,List.drop_of_length_le (by omega)]
 grind [val,vP,Fl]
def top3 (hB:0<B) {c:Nat}(hlt:oB B l)(hl:l.length=m+3)(ha:l[m+2]?=some a)(hb:l[m+1]?=some b)(hc:l[m]?=some c):val B l=((a*B+b)*B+c)*B^m+val B (l.take m)/\val B (l.take m)<B^m:=by
 have e1:=Gh B l m
 have hlen:(l.take m).length=m:=by grind
 rw[hlen]at e1;have e2:l.drop m=[c,b,a]:=by
  rw[fR hc,fR hb,fR ha,List.drop_of_length_le (by omega)]
 grind [val,vP,Fl]
end Go.Am
namespace Go.Proofs
open Go Go.Am
variable {b cap d j x:Nat}{A Z lv w:List Nat}{v:zA}{t0:Tr tA}{Q:mB}
variable [nC]
variable {t:Tr tA}
def BB:Nat:=4294967296
def aO:BB=4294967296:=rfl
def tJ:0<BB:=by decide
theorem Tx{T el:Nat}(h:gI yA T el 1 false){off n:Nat}(hj:j<n):uC yA T (.slice b off n cap) (.int .i64 (j:Int))=some (.ptr b (off+j)):=by
 have:=Gi (b:=b) (off:=off) (cap:=cap) h hj
 simp_all
theorem Kj  (h:w[j]?=some x):(A++w++Z)[A.length+j]?=some x:=by
 grind
def Om  (h:j<w.length):(A++w++Z).set (A.length+j) x=A++w.set j x++Z:=by
 rw[ybz,List.set_append_right _ _ (by omega),Nat.add_sub_cancel_left,List.set_append_left _ _ h,ybz]
theorem ZW     (hv:aA t0 1 (bB .u32 lv) v)(hl:lv.length<900000)(hlv:oB BB lv)(hbase:yA.base<=b)(hb:t0.get b=none)(hd:0<d)(hd2:d<=BB)(W:List Nat)(hWl:W.length=lv.length)(hWlt:oB BB W)(last:Nat)(hlast:last<BB)(hcap:lv.length+1<=cap)
  (hQ:∀t' r up,wF b t t'->zG t' b .u32 (A++(r++[(last+up)%BB])++Z)->r.length=lv.length->oB BB r->up<2->val BB r+BB^lv.length*up=val BB W+val BB lv->Q (.int .u32 ((d-1:Nat):Int)) t') :
  ∀(k i up:Nat) (t':Tr tA) (r:List Nat),i+k=lv.length->zB t0 t'->wF b t t'->zG t' b .u32 (A++(r++(W++[last]).drop i)++Z)->r.length=i->oB BB r->up<2->val BB r+BB^i*up=val BB (W.take i)+val BB (lv.take i) →
  jp 310 10 [.slice b A.length (lv.length+1) cap,.int .i64 lv.length,.int .u64 d,.int .u32 up,v,.int .i64 lv.length,.int .i64 i] t' Q:=by
 intro k;induction k with
 | zero=>
  intro i up t' r hi ht hoff ho hr hrl hup hval;have hi':i=lv.length:=by omega
  subst hi'
  have hdrop:(W++[last]).drop lv.length=[last]:=by simp_all
  rw[hdrop]at ho;refine zdo ?_
  have g1:=Tx iG (b:=b) (off:=A.length) (n:=lv.length+1) (cap:=cap) (j:=lv.length) (by omega)
  have hget:(r++[last])[lv.length]?=some last:=by simp_all
  have g2:=ho.load (Kj (A:=A) (Z:=Z) hget) yH rfl
  obtain⟨t1,s1,s2,s3⟩:=ho.store (C:=yA) hbase (j:=A.length+lv.length) (by grind) ((last+up)%BB) yH rfl
  rw[Om (by grind)]at s2
  have hset:(r++[last]).set lv.length ((last+up)%BB)=r++[(last+up)%BB]:=by simp_all
  rw[hset]at s2;have e1:fA .u32 ((last:Int)+(up:Int))=(((last+up)%BB:Nat):Int):=by rw[rV];show _=(((last+up)%4294967296:Nat):Int);omega
  simp only[uL,kC,uX,uZ,Xi,oA,bE,g1,g2,uA,aB,e1];rw[yaa (by omega)]
  intro _ _ _;rw[s1];simp only[uA];rw[yca (by omega),yca (by omega)]at hval
  have e2:fA .u32 (fA .u64 ((d:Int)-1))=((d-1:Nat):Int):=by
   have:d<=4294967296:=hd2
   grind [fF,qV]
  rw[e2];exact hQ t1 r up (hoff.trans s3) s2 hr hrl hup hval
 | succ k ih=>
  intro i up t' r hi ht hoff ho hr hrl hup hval;obtain⟨x,hx⟩:=getElem?_of_lt (l:=lv) (i:=i) (by omega)
  obtain⟨y,hy⟩:=getElem?_of_lt (l:=W) (i:=i) (by omega)
  have hxlt:x<BB:=lL hlv hx
  have hylt:y<BB:=lL hWlt hy
  obtain⟨c,off,g1,g2⟩:=(hv.mono ht).idx iG hx
  have hy':(W++[last])[i]?=some y:=by grind
  have hdrop:(W++[last]).drop i=y::(W++[last]).drop (i+1):=fR hy'
  have g3:=Tx iG (b:=b) (off:=A.length) (n:=lv.length+1) (cap:=cap) (j:=i) (by omega)
  have hget:(r++(W++[last]).drop i)[i]?=some y:=by simp_all
  have g4:=ho.load (Kj (A:=A) (Z:=Z) hget) yH rfl
  have hlen:i<(r++(W++[last]).drop i).length:=by simp_all
  obtain⟨t1,s1,s2,s3⟩:=ho.store (C:=yA) hbase (j:=A.length+i) (by grind) ((y+x+up)%BB) yH rfl
  rw[Om hlen]at s2;have hset:(r++(W++[last]).drop i).set i ((y+x+up)%BB)=(r++[(y+x+up)%BB])++(W++[last]).drop (i+1):=by
   simp_all
  rw[hset]at s2;have hadd:=zkb (t:=t') (x:=y) (y:=x) (c:=up) hylt hxlt hup
  refine zdo ?_
  simp (disch:=omega) only[uL,kC,uX,uZ,Xi,oA,bE,g1,g2,g3,g4,uA,aB,q317,hadd,aI,zA.asTup,pA,bG,yaz,yba,wrap_i64]
  rw[yab (by omega)]
  intro _ _ _;have s1':∀n,mC yA 254 (.ptr b (A.length+i)) (.int .u32 (((y+x+up)%4294967296:Nat):Int)) ⟨n,t'⟩=some (pD,⟨n,t1⟩):=s1
  rw[s1'];simp only[uA];refine ih (i+1) ((y+x+up) / BB) t1 _ (by omega) (ht.off hb s3) (hoff.trans s3) s2 (by simp[hr]) (Ad hrl (ycy _ (by decide))) ?_ ?_
  ·have h1:y<4294967296:=hylt
   have h2:x<4294967296:=hxlt
   show(y+x+up) / 4294967296<2
   omega
  ·rw[tO,hr,fQ hx,fQ hy,tO,tO]
   grind [Nat.div_add_mod]
theorem FW{u low bo:Nat}(hu:u<BB)(hl:low<BB)(hb:bo<2):∃w b',w<BB/\b'<2/\u+BB*b'=w+low+bo ∧
  fA .u32 (fA .u64 (fA .u64 ((u:Int)-(low:Int))-(bo:Int)))=(w:Int)/\Int.fdiv (fA .u64 (fA .u64 ((u:Int)-(low:Int))-(bo:Int))) 9223372036854775808=(b':Int):=by
 have hu:u<4294967296:=hu
 have hl:low<4294967296:=hl
 rcases yau u (low+bo)with g | g
 ·refine⟨u+BB-low-bo,1,by omega,by omega,by omega,?_,?_⟩
  ·rw[rV,Rg,Rg];show _=((u+4294967296-low-bo:Nat):Int);omega
  grind [Rg]
 ·refine⟨u-low-bo,0,by omega,by omega,by omega,?_,?_⟩
  all_goals grind [rV,Rg]
theorem VX{lu:List Nat}    (hv:aA t0 1 (bB .u32 lv) v)(hl:lv.length<900000)(hlv:oB BB lv)(hbase:yA.base<=b)(hb:t0.get b=none)(hd:d<BB)(hlul:lu.length=lv.length+1)(hlu:oB BB lu)(hcap:lv.length+1<=cap)
  (hQ:∀t' (W:List Nat) last bo,zB t0 t'->wF b t t'->zG t' b .u32 (A++(W++[last])++Z)->W.length=lv.length->oB BB W->last<BB->bo<2->val BB (W++[last])+d*val BB lv=val BB lu+BB^(lv.length+1)*bo →
   if bo=0 then Q (.int .u32 (d:Int)) t' else jp 310 10 [.slice b A.length (lv.length+1) cap,.int .i64 lv.length,.int .u64 d,.int .u32 0,v,.int .i64 lv.length,.int .i64 (0:Nat)] t' Q) :
  ∀(k i carry borrow:Nat) (t':Tr tA) (W:List Nat),i+k=lv.length->zB t0 t'->wF b t t'->zG t' b .u32 (A++(W++lu.drop i)++Z)->W.length=i->oB BB W->carry<BB->borrow<2->val BB W+d*val BB (lv.take i)=val BB (lu.take i)+BB^i*(carry+borrow) →
  jp 310 6 [.slice b A.length (lv.length+1) cap,v,.int .i64 lv.length,.int .u64 d,.int .u64 carry,.int .u64 borrow,v,.int .i64 lv.length,.int .i64 i] t' Q:=by
 intro k;induction k with
 | zero=>
  intro i carry borrow t' W hi ht hoff ho hW hWl hc hbo hval;have hi':i=lv.length:=by omega
  subst hi'
  obtain⟨x,hx⟩:=getElem?_of_lt (l:=lu) (i:=lv.length) (by omega)
  have hxlt:x<BB:=lL hlu hx
  have hdrop:lu.drop lv.length=[x]:=by rw[fR hx,List.drop_of_length_le (by omega)]
  rw[hdrop]at ho;obtain⟨w,bo,hw,hbo',hsum,e1,e2⟩:=FW hxlt hc hbo
  have g1:=Tx iG (b:=b) (off:=A.length) (n:=lv.length+1) (cap:=cap) (j:=lv.length) (by omega)
  have hget:(W++[x])[lv.length]?=some x:=by simp_all
  have g2:=ho.load (Kj (A:=A) (Z:=Z) hget) yH rfl
  obtain⟨t1,s1,s2,s3⟩:=ho.store (C:=yA) hbase (j:=A.length+lv.length) (by grind) w yH rfl
  rw[Om (by grind)]at s2
  have hset:(W++[x]).set lv.length w=W++[w]:=by simp_all
  rw[hset]at s2;have hx32:x<4294967296:=hxlt
  have e0:fA .u64 (x:Int)=(x:Int):=fF (by omega) (by omega)
  refine zlp ?_
  simp only[uI,uL,kC,uZ,Xg,oA,bE,g1,g2,uA,aB,e0,e1,e2,kJ];rw[yaa (by omega)]
  intro _ _ _;rw[s1];simp only[uA];have hfin:=hQ t1 W w bo (ht.off hb s3) (hoff.trans s3) s2 hW hWl hw hbo' (by
   grind [tO,val,Gh])
  by_cases hz:bo=0
  ·rw[yab (by omega)]
   rw[yab hz]at hfin;have hd32:d<4294967296:=hd
   grind [qV]
  ·rw[yaa (by omega)]
   rw[yaa hz]at hfin;simp only[(hv.mono (ht.off hb s3)).len,uA,aB,vG]
   exact hfin
 | succ k ih=>
  intro i carry borrow t' W hi ht hoff ho hW hWl hc hbo hval;obtain⟨x,hx⟩:=getElem?_of_lt (l:=lu) (i:=i) (by omega)
  obtain⟨y,hy⟩:=getElem?_of_lt (l:=lv) (i:=i) (by omega)
  have hxlt:x<BB:=lL hlu hx
  have hylt:y<BB:=lL hlv hy
  have hd32:d<4294967296:=hd
  have hx32:x<4294967296:=hxlt
  have hy32:y<4294967296:=hylt
  have hc32:carry<4294967296:=hc
  have hdrop:lu.drop i=x::lu.drop (i+1):=fR hx
  obtain⟨c,off,g1,g2⟩:=(hv.mono ht).idx iG hy
  have g3:=Tx iG (b:=b) (off:=A.length) (n:=lv.length+1) (cap:=cap) (j:=i) (by omega)
  have hget:(W++lu.drop i)[i]?=some x:=by simp_all
  have g4:=ho.load (Kj (A:=A) (Z:=Z) hget) yH rfl
  have hprod:d*y<=4294967295*4294967295:=ydb (by omega) (by omega)
  obtain⟨P,hP⟩:∃P,P=d*y+carry:=⟨_,rfl⟩
  have hPlt:P<18446744073709551616:=by omega
  have hPhi:P / 4294967296<4294967296:=by omega
  obtain⟨w,bo,hw,hbo',hsum,e1,e2⟩:=FW (u:=x) (low:=P%4294967296) (bo:=borrow) hxlt (ycy _ (by decide)) hbo
  obtain⟨t1,s1,s2,s3⟩:=ho.store (C:=yA) hbase (j:=A.length+i) (by simp_all) w yH rfl
  rw[Om (by simp_all)]at s2
  have hset:(W++lu.drop i).set i w=(W++[w])++lu.drop (i+1):=by simp_all
  rw[hset]at s2;have e0:fA .u64 (x:Int)=(x:Int):=fF (by omega) (by omega)
  have e0':fA .u64 (y:Int)=(y:Int):=fF (by omega) (by omega)
  have e3:(d:Int)*(y:Int)=((d*y:Nat):Int):=(Int.natCast_mul d y).symm
  have e4:fA .u64 ((d*y:Nat):Int)=((d*y:Nat):Int):=by
   grind [fF]
  have e5:fA .u64 (((d*y:Nat):Int)+(carry:Int))=(P:Int):=by
   rw[hP,<- Int.natCast_add];grind [fF]
  have e6:fA .u64 (fA .u32 (P:Int))=((P%4294967296:Nat):Int):=by
   grind [rV,fF]
  have e7:Int.fdiv (P:Int) 4294967296=((P / 4294967296:Nat):Int):=Fb P 4294967296
  refine zlp ?_
  simp only[uI,uL,kC,uZ,Xg,oA,bE,g1,g2,g3,g4,uA,aB,e0,e0',e3,e4,e5,e6,e7,e1,e2];rw[yab (by omega)]
  intro _ _ _;rw[s1];simp (disch:=omega) only[uA,wrap_i64]
  refine ih (i+1) (P / 4294967296) bo t1 _ (by omega) (ht.off hb s3) (hoff.trans s3) s2 (by simp[hW]) (Ad hWl hw) hPhi hbo' ?_
  rw[tO,hW,fQ hx,fQ hy,tO,tO];have l1:(lu.take i).length=i:=by simp;omega
  have l2:(lv.take i).length=i:=by simp;omega
  grind [Nat.div_add_mod,BB]
attribute [irreducible] BB
end Go.Proofs
namespace Go.Proofs
open Go Go.Am
variable [nC]
variable {t:Tr tA}
theorem or32{x y:Nat}(hx:x<4294967296)(hy:y<4294967296):jI Nat.lor .u64 ((x*4294967296:Nat):Int) (y:Int)=some (.int .u64 ((x*4294967296+y:Nat):Int)):=by
 have h:=Gp (a:=x) (b:=y) (n:=32) hy
 have e:(2:Nat)^32=4294967296:=by decide
 rw[e]at h;rw[rW (k:=.u64) (show x*4294967296<gG .u64 by show _<18446744073709551616;omega) (show y<gG .u64 by show _<18446744073709551616;omega),h]
theorem WQ{lu lv:List Nat}{u v:zA}{Q:mB}{m head top u2 v2 U V ur vr:Nat}(hu:aA t 1 (bB .u32 lu) u)(hv:aA t 1 (bB .u32 lv) v)(hl:m<900000)(hu2:lu[m]?=some u2)(hv2:lv[m]?=some v2)(hu2lt:u2<BB)(hv2lt:v2<BB)(htop:0<top)(htoplt:top<BB)
  (hU:U=(head*BB+u2)*BB^m+ur) (hur:ur<BB^m) (hV:V=(top*BB+v2)*BB^m+vr) (hvr:vr<BB^m) (hq:U / V<BB) (hhead:head<=top*BB+(BB-1))
  (hexit:∀d,U / V<=d->d<=U / V+1->d<BB->jp 310 19 [u,v,.int .i64 (m+2:Nat),.int .u64 d] t Q) :
  ∀(d rest:Nat),d*top+rest=head->U / V<=d->d<=BB+1->rest<BB->jp 310 2 [u,v,.int .i64 (m+2:Nat),.int .u64 top,.int .u64 d,.int .u64 rest] t Q:=by
 intro d;induction d with
 | zero=>
  intro rest hsum hge _ hrest;have hBB:=aO
  have hr32:rest<4294967296:=by omega
  obtain⟨b,off,g1,g2⟩:=hv.idx iG hv2
  obtain⟨c,off',g3,g4⟩:=hu.idx iG hu2
  have hu32:u2<4294967296:=by omega
  have hv32:v2<4294967296:=by omega
  obtain⟨D,hD⟩:∃D:Int,((0:Nat):Int)=D:=⟨_,rfl⟩
  rw[hD];refine zlq ?_
  unfold Xh uQ13 uL uE uZ uW;generalize hC:(4294967296:Int)=C
  generalize hG:jI Nat.lor .u64 (fA .u64 ((rest:Int)*C))=G
  have e4:D*(v2:Int)=0:=by grind
  have e1:((m+2:Nat):Int)-2=(m:Int):=by omega
  have e2:(rest:Int)*C=((rest*4294967296:Nat):Int):=by simp_all
  have e3:G (u2:Int)=some (.int .u64 ((rest*4294967296+u2:Nat):Int)):=by rw[<- hG,e2,fF (by omega) (by omega)];grind [or32]
  simp only[oA,kI];rw[yaa (by omega)]
  simp (disch:=omega) only[e1,wrap_i64,g1,uA]
  rw[g2];simp only[uA,aB,g3];rw[g4,uA,aB,uA,fF (n:=(u2:Int)) (by omega) (by omega),e3,uA,aB,uA,fF (n:=(v2:Int)) (by omega) (by omega),e4,fF (n:=0) (by decide) (by decide)]
  grind [bE]
 | succ d ih=>
  intro rest hsum hge hle hrest;have hBB:=aO
  have hr32:rest<4294967296:=by omega
  have ht32:top<4294967296:=by omega
  have hle32:d+1<=4294967296+1:=by omega
  have hsum':d*top+(rest+top)=head:=by grind
  obtain⟨D,hD⟩:∃D:Int,((d+1:Nat):Int)=D:=⟨_,rfl⟩
  rw[hD];have e1:D-1=(d:Int):=by omega
  have e0:(rest:Int)+(top:Int)=((rest+top:Nat):Int):=by omega
  have less:U / V<=d->(if (4294967296:Int)<=((rest+top:Nat):Int)then jp 310 19 [u,v,.int .i64 (m+2:Nat),.int .u64 d] t Q else jp 310 2 [u,v,.int .i64 (m+2:Nat),.int .u64 top,.int .u64 d,.int .u64 ((rest+top:Nat):Int)] t Q):=by
   intro hge';split
   ·rename_i hb
    have hb':BB<=rest+top:=by omega
    have hdlt:d<BB:=by
     grind
    refine hexit d hge' ?_ hdlt
    refine kn_le tJ hU hV hvr htop (Nat.le_of_lt hdlt) ?_
    have h1:d*v2<=BB*BB:=ydb (Nat.le_of_lt hdlt) (Nat.le_of_lt hv2lt)
    have h2:BB*BB<=(rest+top)*BB:=ybi _ hb'
    have h3:head*BB=d*top*BB+(rest+top)*BB:=by rw[<- hsum',ybo]
    grind
   ·rename_i hb
    exact ih (rest+top) hsum' hge' (by omega) (by omega)
  refine zlq ?_
  unfold Xh uQ13 uL uE uZ uW;generalize hC:(4294967296:Int)=C
  generalize hG:jI Nat.lor .u64 (fA .u64 ((rest:Int)*C))=G
  by_cases hbig:4294967296<=d+1
  ·simp (disch:=omega) only[oA,kI,e0,e1,fF]
   rw[yab (by omega)]
   grind
  ·obtain⟨b,off,g1,g2⟩:=hv.idx iG hv2
   obtain⟨c,off',g3,g4⟩:=hu.idx iG hu2
   have hu32:u2<4294967296:=by omega
   have hv32:v2<4294967296:=by omega
   have e5:((m+2:Nat):Int)-2=(m:Int):=by omega
   have e2:(rest:Int)*C=((rest*4294967296:Nat):Int):=by simp_all
   have e6:fA .u64 (D*(v2:Int))=(((d+1)*v2:Nat):Int):=by
    rw[<- hD,<- Int.natCast_mul];have:(d+1)*v2<=4294967295*4294967295:=ydb (by omega) (by omega)
    grind [fF]
   have e3:G (u2:Int)=some (.int .u64 ((rest*4294967296+u2:Nat):Int)):=by rw[<- hG,e2,fF (by omega) (by omega)];grind [or32]
   simp only[oA,kI];rw[yaa (by omega)]
   simp (disch:=omega) only[e5,wrap_i64,g1,uA]
   rw[g2];simp only[uA,aB,g3];rw[g4,uA,aB,uA,fF (n:=(u2:Int)) (by omega) (by omega),e3,uA,aB,uA,fF (n:=(v2:Int)) (by omega) (by omega),e6]
   have e7:fA .u64 ((rest:Int)+(top:Int))=((rest+top:Nat):Int):=by rw[e0];exact fF (by omega) (by omega)
   have e8:fA .u64 (D-1)=(d:Int):=by rw[e1];grind [fF]
   rw[e7,e8];have key:(d+1)*(top*BB+v2)=(d+1)*top*BB+(d+1)*v2:=by rw[ybm,<- ybj]
   have key2:head*BB=(d+1)*top*BB+rest*BB:=by rw[<- hsum,ybo]
   by_cases htest:rest*4294967296+u2<(d+1)*v2
   ·rw[yab (bE.2 (by omega))]
    subst hC;refine less (Nat.lt_succ_iff.1 (kn_gt hU hur hV ?_))
    grind
   ·rw[yaa (fun h=>absurd (bE.1 h) (by omega))]
    rw[<- hD];refine hexit (d+1) hge (kn_le tJ hU hV hvr htop (by omega) ?_) (by omega)
    grind
end Go.Proofs
