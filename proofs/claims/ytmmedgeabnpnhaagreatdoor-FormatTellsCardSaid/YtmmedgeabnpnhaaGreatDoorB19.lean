/- Facts on types. (Printed by a tool.) -/
import Derived.Test.YtmmedgeabnpnhaaGreatDoorB18
set_option linter.all false
noncomputable section
set_option maxRecDepth 100000
namespace Go.Proofs
open Go Go.Am
variable [kC]
theorem ty3:yA.tys.get 3=some ⟨(.int .i64),1,8,[.int .i64 0],true⟩:=by kernel_rfl
def ty4:yA.tys.get 4=some ⟨.bool,1,1,[.bool false],true⟩:=by kernel_rfl
theorem tN:yA.tys.get 5=some ⟨(.int .u8),1,1,[.int .u8 0],true⟩:=by kernel_rfl
theorem gH:yA.tys.get 9=some ⟨.string,1,16,[.str []],true⟩:=by kernel_rfl
def ty22:yA.tys.get 22=some ⟨(.slice 47),1,24,[.nilslice],true⟩:=by kernel_rfl
def ty23:yA.tys.get 23=some ⟨(.slice 50),1,24,[.nilslice],true⟩:=by kernel_rfl
def ty24:yA.tys.get 24=some ⟨(.slice 55),1,24,[.nilslice],true⟩:=by kernel_rfl
def tV:yA.tys.get 30=some ⟨(.slice 72),1,24,[.nilslice],true⟩:=by kernel_rfl
def ty32:yA.tys.get 32=some ⟨(.struct [(0,4,1),(1,30,1)]),2,32,[.bool false,.nilslice],true⟩:=by kernel_rfl
def ty34:yA.tys.get 34=some ⟨(.struct [(0,32,2),(2,32,2)]),4,64,[.bool false,.nilslice,.bool false,.nilslice],true⟩:=by kernel_rfl
def ty37:yA.tys.get 37=some ⟨(.slice 39),1,24,[.nilslice],true⟩:=by kernel_rfl
def ty39:yA.tys.get 39=some ⟨(.struct [(0,5,1),(1,9,1),(2,36,6),(8,37,1)]),9,128,[.int .u8 0,.str [],.int .u8 0,.bool false,.nilslice,.bool false,.nilslice,.int .i64 0,.nilslice],true⟩:=by kernel_rfl
def ty42:yA.tys.get 42=some ⟨(.slice 9),1,24,[.nilslice],true⟩:=by kernel_rfl
def ty47:yA.tys.get 47=some ⟨(.struct [(0,9,1),(1,5,1),(2,4,1)]),3,24,[.str [],.int .u8 0,.bool false],true⟩:=by kernel_rfl
def ty48:yA.tys.get 48=some ⟨(.slice 53),1,24,[.nilslice],true⟩:=by kernel_rfl
def ty50:yA.tys.get 50=some ⟨(.struct [(0,9,1),(1,4,1),(2,48,1)]),3,48,[.str [],.bool false,.nilslice],true⟩:=by kernel_rfl
def ty53:yA.tys.get 53=some ⟨(.struct [(0,3,1),(1,3,1),(2,3,1),(3,34,4)]),7,88,[.int .i64 0,.int .i64 0,.int .i64 0,.bool false,.nilslice,.bool false,.nilslice],true⟩:=by kernel_rfl
def ty55:yA.tys.get 55=some ⟨(.struct [(0,9,1),(1,9,1),(2,3,1),(3,3,1),(4,3,1),(5,4,1),(6,39,9),(15,39,9)]),24,320,[.str [],.str [],.int .i64 0,.int .i64 0,.int .i64 0,.bool false,.int .u8 0,.str [],.int .u8 0,.bool false,.nilslice,.bool false,.nilslice,.int .i64 0,.nilslice,.int .u8 0,.str [],.int .u8 0,.bool false,.nilslice,.bool false,.nilslice,.int .i64 0,.nilslice],true⟩:=by kernel_rfl
def Cf:yA.tys.get 56=some ⟨(.int .i64),1,8,[.int .i64 0],true⟩:=by kernel_rfl
theorem lM:yA.tys.get 72=some ⟨(.int .u16),1,2,[.int .u16 0],true⟩:=by kernel_rfl
def sO:yA.tys.get 90=some ⟨(.slice 5),1,24,[.nilslice],true⟩:=by kernel_rfl
def ty92:yA.tys.get 92=some ⟨(.struct [(0,89,1),(1,90,1)]),2,32,[.nilptr,.nilslice],true⟩:=by kernel_rfl
def ty101:yA.tys.get 101=some ⟨(.ptr 201),1,8,[.nilptr],true⟩:=by kernel_rfl
def zg2:yA.tys.get 112=some ⟨.func,1,8,[.nilfunc],true⟩:=by kernel_rfl
theorem ty168:yA.tys.get 168=some ⟨(.struct [(0,5,1),(1,9,1),(2,4,1),(3,3,1),(4,3,1),(5,3,1),(6,3,1),(7,3,1)]),8,72,[.int .u8 0,.str [],.bool false,.int .i64 0,.int .i64 0,.int .i64 0,.int .i64 0,.int .i64 0],true⟩:=by kernel_rfl
def Jb:yA.tys.get 192=some ⟨(.arr 10 5),10,10,[.int .u8 0,.int .u8 0,.int .u8 0,.int .u8 0,.int .u8 0,.int .u8 0,.int .u8 0,.int .u8 0,.int .u8 0,.int .u8 0],true⟩:=by kernel_rfl
def ty194:yA.tys.get 194=some ⟨(.arr 7 9),7,112,[.str [],.str [],.str [],.str [],.str [],.str [],.str []],true⟩:=by kernel_rfl
def Ja:yA.tys.get 209=some ⟨(.int .u64),1,8,[.int .u64 0],true⟩:=by kernel_rfl
def ty230:yA.tys.get 230=some ⟨(.map 3 9),1,8,[.nilmap],true⟩:=by kernel_rfl
def mP:yA.tys.get 240=some ⟨(.slice 242),1,24,[.nilslice],true⟩:=by kernel_rfl
def xH:yA.tys.get 242=some ⟨(.int .u32),1,4,[.int .u32 0],true⟩:=by kernel_rfl
def ty257:yA.tys.get 257=some ⟨(.arr 12 3),12,96,[.int .i64 0,.int .i64 0,.int .i64 0,.int .i64 0,.int .i64 0,.int .i64 0,.int .i64 0,.int .i64 0,.int .i64 0,.int .i64 0,.int .i64 0,.int .i64 0],true⟩:=by kernel_rfl
def ty271:yA.tys.get 271=some ⟨(.slice 32),1,24,[.nilslice],true⟩:=by kernel_rfl
def rX:rD yA 22 47 3 true:=⟨⟨_,ty22,rfl⟩,⟨_,ty47,rfl,rfl⟩⟩
def lV:rD yA 23 50 3 true:=⟨⟨_,ty23,rfl⟩,⟨_,ty50,rfl,rfl⟩⟩
def mV:rD yA 24 55 24 true:=⟨⟨_,ty24,rfl⟩,⟨_,ty55,rfl,rfl⟩⟩
def zI:rD yA 30 72 1 false:=⟨⟨_,tV,rfl⟩,⟨_,lM,rfl,rfl⟩⟩
def nT:rD yA 37 39 9 true:=⟨⟨_,ty37,rfl⟩,⟨_,ty39,rfl,rfl⟩⟩
def sl42:rD yA 42 9 1 false:=⟨⟨_,ty42,rfl⟩,⟨_,gH,rfl,rfl⟩⟩
def nV:rD yA 48 53 7 true:=⟨⟨_,ty48,rfl⟩,⟨_,ty53,rfl,rfl⟩⟩
def sl90:rD yA 90 5 1 false:=⟨⟨_,sO,rfl⟩,⟨_,tN,rfl,rfl⟩⟩
def oG:rD yA 240 242 1 false:=⟨⟨_,mP,rfl⟩,⟨_,xH,rfl,rfl⟩⟩
def sl271:rD yA 271 32 2 true:=⟨⟨_,ty271,rfl⟩,⟨_,ty32,rfl,rfl⟩⟩
end Go.Proofs
namespace Go.Am
open Go Go.RowKit
def jC (l:List Nat):List D:=l.map fun(n:Nat)=>D.int .u16 (n:Int)
theorem fN(l:List Nat):(jC l).length=l.length:=by simp[jC]
structure nF where
 neg:Bool
 limbs:List Nat
def nF.d(w:nF):D:=.st [.bool w.neg,.sl 1 (jC w.limbs)]
structure fC where
 n:nF
 d:nF
def fC.dd(f:fC):D:=.st [f.n.d,f.d.d]
structure xE where
 kind:Nat
 f:fC
 i:Int
def xE.d(v:xE):D:=.st [.int .u8 v.kind,v.f.dd,.int .i64 v.i]
inductive qA where
 | mk (op:Nat) (name:List Nat) (v:xE) (args:List qA)
def qA.op:qA->Nat | .mk o _ _ _=>o
def qA.name:qA->List Nat | .mk _ n _ _=>n
def qA.v:qA->xE | .mk _ _ v _=>v
def qA.args:qA->List qA | .mk _ _ _ a=>a
mutual
def qA.d:qA->D
 | .mk op name v args=>.st [.int .u8 op,.str name,v.d,.sl 9 (qA.ds args)]
def qA.ds:List qA->List D
 | []=>[]
 | x::l=>x.d::qA.ds l
end
theorem qA.ds_eq(l:List qA):qA.ds l=l.map qA.d:=by
 induction l with
 | nil=>rfl
 | cons x l ih=>simp[qA.ds,ih]
structure vD where
 a:Int
 b:Int
 known:Int
 f:fC
def vD.d(r:vD):D:=.st [.int .i64 r.a,.int .i64 r.b,.int .i64 r.known,r.f.dd]
structure tD where
 name:List Nat
 two:Bool
 rows:List vD
def tD.d(x:tD):D:=.st [.str x.name,.bool x.two,.sl 7 (x.rows.map vD.d)]
structure cE where
 name:List Nat
 kind:Nat
 fact:Bool
def cE.d(x:cE):D:=.st [.str x.name,.int .u8 x.kind,.bool x.fact]
structure gC where
 name:List Nat
 label:List Nat
 from_:Int
 to:Int
 known:Int
 off:Bool
 when_:qA
 then_:qA
def gC.d(x:gC):D:=.st [.str x.name,.str x.label,.int .i64 x.from_,.int .i64 x.to,.int .i64 x.known,.bool x.off,x.when_.d,x.then_.d]
structure wF where
 name:List Nat
 defs:List cE
 tables:List tD
 clauses:List gC
def wF.d(x:wF):D:=.st [.str x.name,.sl 3 (x.defs.map cE.d),.sl 3 (x.tables.map tD.d),.sl 24 (x.clauses.map gC.d)]
section
variable {t:Tr sA}{cs:List zA}
theorem Fq{w:nF}(h:RD t w.d cs):∃v,cs=[.bool w.neg,v]/\mA t 1 (jC w.limbs) v:=by
 grind [nF.d,qJ,jH,wI,qM,oQ]
theorem Fs{f:fC}(h:RD t f.dd cs):∃u v,cs=[.bool f.n.neg,u,.bool f.d.neg,v]/\mA t 1 (jC f.n.limbs) u/\mA t 1 (jC f.d.limbs) v:=by
 grind [fC.dd,qJ,jH,wI,Fq]
def Js{v:xE}(h:RD t v.d cs):∃a b,cs=[.int .u8 v.kind,.bool v.f.n.neg,a,.bool v.f.d.neg,b,.int .i64 v.i]/\mA t 1 (jC v.f.n.limbs) a/\mA t 1 (jC v.f.d.limbs) b:=by
 unfold xE.d at h;simp only[qJ,jH,wI,vP]at h;obtain⟨cl,rfl,c,r,rfl,rfl,c',r',rfl,h2,c'',r'',rfl,rfl,rfl⟩:=h;obtain⟨a,b,rfl,h3,h4⟩:=Fs h2;exact⟨a,b,rfl,h3,h4⟩
def xJ{x:qA}(h:RD t x.d cs):∃a b c,cs=[.int .u8 x.op,.str x.name,.int .u8 x.v.kind,.bool x.v.f.n.neg,a,.bool x.v.f.d.neg,b,.int .i64 x.v.i,c] ∧
  mA t 1 (jC x.v.f.n.limbs) a/\mA t 1 (jC x.v.f.d.limbs) b/\mA t 9 (x.args.map qA.d) c:=by
 obtain⟨op,name,v,args⟩:=x;unfold qA.d at h;rw[qA.ds_eq]at h;simp only[qJ,jH,wI,vP,mR,qM]at h;obtain⟨cl,rfl,c,r,rfl,rfl,c',r',rfl,rfl,c'',r'',rfl,hv,c3,r3,rfl,⟨w,rfl,h4⟩,rfl⟩:=h;obtain⟨a,b,rfl,h5,h6⟩:=Js hv;exact⟨a,b,w,rfl,h5,h6,h4⟩
theorem kX{r:vD}(h:RD t r.d cs):∃a b,cs=[.int .i64 r.a,.int .i64 r.b,.int .i64 r.known,.bool r.f.n.neg,a,.bool r.f.d.neg,b]/\mA t 1 (jC r.f.n.limbs) a/\mA t 1 (jC r.f.d.limbs) b:=by
 grind [vD.d,qJ,jH,wI,vP,Fs]
theorem lX{x:tD}(h:RD t x.d cs):∃a,cs=[.str x.name,.bool x.two,a]/\mA t 7 (x.rows.map vD.d) a:=by
 grind [tD.d,qJ,jH,wI,mR,oQ,qM]
theorem gT{x:cE}(h:RD t x.d cs):cs=[.str x.name,.int .u8 x.kind,.bool x.fact]:=by
 grind [cE.d,qJ,jH,wI,mR,oQ,vP]
def qH(x:qA)(a b c:zA):List zA:=[.int .u8 x.op,.str x.name,.int .u8 x.v.kind,.bool x.v.f.n.neg,a,.bool x.v.f.d.neg,b,.int .i64 x.v.i,c]
def jX{x:gC}(h:RD t x.d cs):∃a b c a' b' c',cs=[.str x.name,.str x.label,.int .i64 x.from_,.int .i64 x.to,.int .i64 x.known,.bool x.off]++qH x.when_ a b c++qH x.then_ a' b' c' ∧
  RD t x.when_.d (qH x.when_ a b c)/\RD t x.then_.d (qH x.then_ a' b' c'):=by
 unfold gC.d at h;simp only[qJ,jH,wI,mR,oQ,vP]at h;obtain⟨cl,rfl,c1,r1,rfl,rfl,c2,r2,rfl,rfl,c3,r3,rfl,rfl,c4,r4,rfl,rfl,c5,r5,rfl,rfl,c6,r6,rfl,rfl,c7,r7,rfl,h7,c8,r8,rfl,h8,rfl⟩:=h;obtain⟨a,b,c,e1,_⟩:=xJ h7;obtain⟨a',b',c',e2,_⟩:=xJ h8;subst e1 e2;exact⟨a,b,c,a',b',c',rfl,h7,h8⟩
theorem zR{x:wF}(h:RD t x.d cs):∃a b c,cs=[.str x.name,a,b,c]/\mA t 3 (x.defs.map cE.d) a/\mA t 3 (x.tables.map tD.d) b/\mA t 24 (x.clauses.map gC.d) c:=by
 grind [wF.d,qJ,jH,wI,mR,qM]
end
def nF.zs(x:nF):x.d.zs=[.bool false,.nilslice]:=rfl
def fC.zs(x:fC):x.dd.zs=[.bool false,.nilslice,.bool false,.nilslice]:=rfl
def xE.zs(x:xE):x.d.zs=[.int .u8 0,.bool false,.nilslice,.bool false,.nilslice,.int .i64 0]:=rfl
def qA.zs(x:qA):x.d.zs=[.int .u8 0,.str [],.int .u8 0,.bool false,.nilslice,.bool false,.nilslice,.int .i64 0,.nilslice]:=by cases x;rfl
def vD.zs(x:vD):x.d.zs=[.int .i64 0,.int .i64 0,.int .i64 0,.bool false,.nilslice,.bool false,.nilslice]:=rfl
def tD.zs(x:tD):x.d.zs=[.str [],.bool false,.nilslice]:=rfl
def cE.zs(x:cE):x.d.zs=[.str [],.int .u8 0,.bool false]:=rfl
def gC.zs(x:gC):x.d.zs=[.str [],.str [],.int .i64 0,.int .i64 0,.int .i64 0,.bool false,.int .u8 0,.str [],.int .u8 0,.bool false,.nilslice,.bool false,.nilslice,.int .i64 0,.nilslice,.int .u8 0,.str [],.int .u8 0,.bool false,.nilslice,.bool false,.nilslice,.int .i64 0,.nilslice]:=by
 obtain⟨_,_,_,_,_,_,w,v⟩:=x;cases w;cases v;rfl
def wF.zs(x:wF):x.d.zs=[.str [],.nilslice,.nilslice,.nilslice]:=rfl
def zM(f:fC):Nat:=1+f.n.limbs.length+f.d.limbs.length
mutual
/-- the size, as it is counted up to a limit -/
def kI:qA->Int->Int
 | .mk _ name v args,left=>yM args left (zM v.f+(name.length:Int) / 30)
def yM:List qA->Int->Int->Int
 | [],_,n=>n
 | x::l,left,n=>if n<=left then yM l left (n+kI x (left-n))else n
end
def dD:Nat:=1125899906842624
def fC.ok(f:fC):Prop:=f.n.limbs.length<dD/\f.d.limbs.length<dD
mutual
def qA.ok:qA->Prop
 | .mk _ name v args=>name.length<dD/\v.f.ok/\args.length<dD/\qA.oks args
def qA.oks:List qA->Prop
 | []=>True
 | x::l=>x.ok/\qA.oks l
end
end Go.Am
namespace Go.Am
open Go Go.RowKit
section
def Ji{f:fC}(h:f.ok):zM f<4503599627370496:=by
 grind [fC.ok,dD,zM]
mutual
def Nv:∀(x:qA) (left:Int),x.ok->0<=kI x left/\kI x left<=max left 0+9007199254740992
 | .mk op name v args,left,h=>by
  unfold qA.ok at h;obtain⟨h1,h2,_,h4⟩:=h;have hf:=Ji h2;unfold dD at h1;unfold kI;have:=Fe args left (zM v.f+(name.length:Int) / 30) h4 (by omega);omega
def Fe:∀(l:List qA) (left n:Int),qA.oks l->0<=n->n<=yM l left n/\yM l left n<=max n (left+9007199254740992)
 | [],left,n,_,_=>by grind [yM]
 | x::l,left,n,h,hn=>by
  unfold qA.oks at h;unfold yM;split
  ·have h1:=Nv x (left-n) h.1;have h2:=Fe l left (n+kI x (left-n)) h.2 (by omega);omega
  ·omega
end
theorem uC{a b:Int}:(lB a b=true) ↔ a<b:=An a b
theorem mD{a b:Int}:(qC a b=true) ↔ a<=b:=Qo a b
def Zv{α:Type}{l:List α}{i:Nat}{x:α}{r:List α}(h:l.drop i=x::r):l[i]?=some x/\l.drop (i+1)=r/\i<l.length:=by
 have h1:(l.drop i)[0]?=some x:=by grind
 rw[yde]at h1;have hi:i<l.length:=by
  grind
 refine⟨by omega,?_,hi⟩;have:=List.drop_drop (l:=l) (i:=1) (j:=i)
 simp_all
def Zu{α:Type}{l:List α}{i:Nat}(h:l.drop i=[]):l.length<=i:=by
 simp_all
theorem vJ(l:List Nat):(Int.ofNat (kB l))=(l.length:Int):=by rw[jD];rfl
def qL(cs:List zA):En true cs=.agg cs:=rfl
end
section
def sB(k:IntKind)(l:List Nat):List D:=l.map fun(n:Nat)=>D.int k (n:Int)
theorem pD{k:IntKind}(l:List Nat):(sB k l).length=l.length:=by simp[sB]
def zas{k:IntKind}{l:List Nat}{i x:Nat}(h:l[i]?=some x):(sB k l)[i]?=some (.int k (x:Int)):=by simp[sB,h]
theorem Rm{k:IntKind}{l:List Nat}{n:Nat}:(sB k l).take n=sB k (l.take n):=by simp[sB]
def jF (t:Tr sA)(b:Nat)(k:IntKind)(l:List Nat):Prop:=∃c,t.get b=some (.cells c l.length none)/\∀(j:Nat) x,l[j]?=some x->c.get j=some (.int k (x:Int))
def rE (b:Nat)(t t':Tr sA):Prop:=∀c,c≠b->t'.get c=t.get c
theorem rE.refl(b:Nat)(t:Tr sA):rE b t t:=fun _ _=>rfl
def rE.trans{b:Nat}{x y z:Tr sA}(h:rE b x y)(k:rE b y z):rE b x z:=fun c hc=>(k c hc).trans (h c hc)
section
variable {t t' t0:Tr sA}{C:fA}{b:Nat}{k:IntKind}{l:List Nat}
theorem jF.off(h:jF t b k l){c:Nat}(hc:b≠c)(ho:rE c t t'):jF t' b k l:=by
 obtain⟨x,h1,h2⟩:=h;exact⟨x,by rw[ho b hc];exact h1,h2⟩
def jF.tle(h:jF t b k l)(ho:yB t t'):jF t' b k l:=by
 obtain⟨x,h1,h2⟩:=h;exact⟨x,ho _ _ h1,h2⟩
theorem yB.off(h:yB t0 t)(hb:t0.get b=none)(ho:rE b t t'):yB t0 t':=by
 intro c y hc;rw[ho c (by grind)];exact h c y hc
theorem jF.slice(h:jF t b k l){off n cap:Nat}(hn:off+n<=l.length)(hc:n<=cap):mA t 1 (sB k ((l.drop off).take n)) (.slice b off n cap):=by
 obtain⟨c,h1,h2⟩:=h;refine⟨((l.drop off).take n).map fun(x:Nat)=>[.int k (x:Int)],.inr ⟨b,off,cap,?_,?_,⟨c,_,none,h1,.inl rfl⟩,fun i cs hi=>?_⟩,?_⟩
 ·grind
 ·grind
 ·simp only[ybu,yar]at hi;obtain⟨x,hx,rfl⟩:=hi;refine⟨rfl,c,_,none,h1,fun j a hj=>?_⟩
  grind
 ·refine iC.mk (by simp[sB]) fun i d cs hd hc=>?_;simp only[sB,ybu,yar]at hd hc;obtain⟨x,hx,rfl⟩:=hd
  simp_all
theorem jF.all(h:jF t b k l){cap:Nat}(hc:l.length<=cap):mA t 1 (sB k l) (.slice b 0 l.length cap):=by
 have:=h.slice (off:=0) (n:=l.length) (by omega) hc
 simp_all
def Ep{T el sz:Nat}{agg:Bool}(h:rD C T el sz agg){off n cap i:Nat}(hi:i<n):rB C T (.slice b off n cap) (.int .i64 (i:Int))=some (.ptr b (off+i*sz)):=by
 obtain⟨⟨y,hy1,hy2⟩,⟨z,hz1,hz2,hz3⟩⟩:=h;unfold rB;rw[hy1,pA];have:(zA.int .i64 (i:Int)).asNat=some i:=rfl;rw[this,pA];simp only[zA.asSlice];rw[hy2,pA,hz1,pA,lC.2 hi,hz2];rfl
theorem jF.load(h:jF t b k l){j x:Nat}(hj:l[j]?=some x){ty:Nat}{y:eC}(hy:C.tys.get ty=some y)(ha:y.desc.isAgg=false):dA C ty ⟨0,t⟩ (.ptr b j)=some (.int k (x:Int)):=by
 obtain⟨c,h1,h2⟩:=h
 simp_all [dA,zA.asPtr,oD,sA.asCells,xR]
theorem jF.store(h:jF t b k l)(hb:C.base<=b){j:Nat}(hj:j<l.length)(x:Nat){ty:Nat}{y:eC}(hy:C.tys.get ty=some y)(hs:y.size=1) :
  ∃t',(∀n,pE C ty (.ptr b j) (.int k (x:Int)) ⟨n,t⟩=some (vE,⟨n,t'⟩))/\jF t' b k (l.set j x)/\rE b t t':=by
 obtain⟨c,h1,h2⟩:=h;refine⟨t.set b (.cells (c.setMany [.int k (x:Int)] j) l.length none),fun n=>?_,⟨c.setMany [.int k (x:Int)] j,?_,fun i y hi=>?_⟩,fun d hd=>?_⟩
 ·unfold pE;rw[hy,pA];simp only[zA.asPtr,pA,zA.cells,zA.asAgg];rw[hs];have e1:Nat.beq (kB [zA.int k (x:Int)]) 1=true:=rfl;rw[e1,sE];unfold zJ oD;have e2:(!Nat.blt b C.base)=true:=by
   grind [lC]
  rw[e2,sE,h1,pA];simp only[sA.asCells,pA];have e3:Nat.ble (j+kB [zA.int k (x:Int)]) l.length=true:=rF.2 hj;have e4:nE zA.one [zA.int k (x:Int)]=true:=rfl;rw[e3,e4];rfl
 all_goals grind [Tr.get_set,Tr.get_setMany]
theorem Af{T el:Nat}{y z:eC}(hT:C.tys.get T=some y)(hel:y.desc.asSlice=some el)(hz:C.tys.get el=some z)(hzero:z.zero=[.int k 0])(hs:z.size=1)(hby:z.bytes<=8){n:Nat}(hn:n<1000000)(hb:t.get b=none) :
  ∃t',fJ C T (.int .i64 (n:Int)) (.int .i64 (n:Int)) ⟨b,t⟩=some (.slice b 0 n n,⟨b+1,t'⟩)/\jF t' b k (List.replicate n 0)/\yB t t'/\rE b t t':=by
 have hrep:∀n,oJ [zA.int k 0] n=List.replicate n (.int k 0):=by
  intro n;induction n with
  | zero=>rfl
  | succ n ih=>grind [oJ,zH]
 refine⟨t.set b (.cells (Tr.ofList (oJ z.zero n)) (kB (oJ z.zero n)) none),?_,⟨Tr.ofList (oJ z.zero n),?_,fun j x hj=>?_⟩,fun c y' hc=>?_,fun c hc=>?_⟩
 ·unfold fJ;rw[hT,pA,hel,pA,hz,pA];have e1:(zA.int .i64 (n:Int)).asNat=some n:=rfl;rw[e1,pA,pA];have e2:(Nat.ble n n&&Nat.blt n 1000000&&Nat.blt (n*z.bytes) 1000000000&&Nat.beq (kB z.zero) z.size)=true:=by
   rw[hzero,hs,show Nat.ble n n=true from rF.2 (ybk n),lC.2 hn];have:n*z.bytes<1000000000:=by
    have:=ydb (Nat.le_of_lt hn) hby
    omega
   rw[lC.2 this];rfl
  rw[e2,sE];rfl
 all_goals grind [Tr.get_set,jD,Tr.get_ofList]
end
end
end Go.Am
namespace Go.Am
def val (B:Nat):List Nat->Nat
 | []=>0
 | a::l=>a+B*val B l
def wB(B:Nat)(l:List Nat):Prop:=∀x∈l,x<B
def norm (l:List Nat):Prop:=∀h:l≠[],l.getLast h≠0
theorem Em(B:Nat):∀(l m:List Nat),val B (l++m)=val B l+B^l.length*val B m
 | [],m=>by simp[val]
 | a::l,m=>by
  simp only[List.cons_append,val,Em B l m,ybn,yag];grind
theorem lK{B:Nat}(hB:0<B):∀ {l:List Nat},wB B l->val B l<B^l.length
 | [],_=>by simp[val]
 | a::l,h=>by
  have h1:=h a (yby);have h2:=lK hB (l:=l) fun x hx=>h x (ybr _ hx);simp only[val,ybn,yag];have h3:B*(val B l+1)<=B*B^l.length:=ybv B h2
  grind
theorem Cb(B:Nat)(l:List Nat)(n:Nat):val B l=val B (l.take n)+B^(l.take n).length*val B (l.drop n):=by
 rw[<- Em,List.take_append_drop]
theorem Bj{B:Nat}{l:List Nat}(h:wB B l)(n:Nat):wB B (l.take n):=fun x hx=>h x (List.mem_of_mem_take hx)
def OG{B:Nat}{l:List Nat}(h:wB B l)(n:Nat):wB B (l.drop n):=fun x hx=>h x (List.mem_of_mem_drop hx)
def OH{B:Nat}{l m:List Nat}(h:wB B l)(k:wB B m):wB B (l++m):=fun x hx=>(yaf.1 hx).elim (h x) (k x)
def eD:List Nat->List Nat
 | []=>[]
 | a::l=>if eD l=[]/\a=0 then []else a::eD l
theorem gQ(B:Nat):∀l:List Nat,val B (eD l)=val B l
 | []=>rfl
 | a::l=>by
  unfold eD;have ih:=gQ B l
  grind [val]
theorem yR:∀l:List Nat,norm (eD l)
 | []=>fun h=>(h rfl).elim
 | a::l=>by
  have ih:=yR l;unfold eD;split
  ·simp_all
  ·rename_i h;intro hne;by_cases hs:eD l=[]
   ·simp_all
   ·rw[List.getLast_cons hs];exact ih hs
theorem bS{B:Nat}:∀ {l:List Nat},wB B l->wB B (eD l)
 | [],h=>h
 | a::l,h=>by
  have ih:=bS (l:=l) fun x hx=>h x (ybr _ hx);unfold eD;split
  ·simp_all
  ·exact fun x hx=>(ybs.1 hx).elim (fun e=>e ▸ h a yby) (ih x)
theorem Vf:∀l:List Nat,(eD l).length<=l.length
 | []=>ybk _
 | a::l=>by unfold eD;have:=Vf l;split<;>simp<;>omega
theorem Nl:∀l:List Nat,eD (l++[0])=eD l
 | []=>by simp[eD]
 | a::l=>by
  show(if eD (l++[0])=[]/\a=0 then []else a::eD (l++[0]))=_;rw[Nl l];rfl
def Ci:∀ {l:List Nat},norm l->eD l=l
 | [],_=>rfl
 | a::l,h=>by
  have hl:norm l:=by
   intro hne;have:=h (by simp)
   grind
  unfold eD;rw[Ci hl];split
  ·rename_i e;have:=h (by simp)
   simp_all
  ·rfl
def Gc{B:Nat}(hB:0<B){l:List Nat}(h:norm l)(h0:val B l=0):l=[]:=by
 have key:∀l:List Nat,val B l=0->∀x∈l,x=0:=by
  intro l;induction l with
  | nil=>simp_all
  | cons a l ih=>
   grind [val,Nat.mul_eq_zero]
 rcases List.eq_nil_or_concat l with e | ⟨m,a,e⟩
 ·exact e
 ·exfalso;subst e;have:=h (by simp);simp at this;exact this (key _ h0 a (by simp))
def El{B:Nat}{l:List Nat}(h:norm l)(hne:l≠[]):B^(l.length-1)<=val B l:=by
 rcases List.eq_nil_or_concat l with e | ⟨m,a,e⟩
 ·simp_all
 ·rw[List.concat_eq_append]at e;subst e;have:=h (by simp);simp at this;rw[Em];simp only[ybg,ybn,ybx,val];have:1<=a+B*0:=by omega
  calc B^(m.length+1-1)=B^m.length*1:=by simp
   _<=B^m.length*(a+B*0):=ybv _ this
   _<=_:=Nat.le_add_left _ _
def Su{B:Nat}(hB:0<B):∀ {l m:List Nat},wB B l->wB B m->l.length=m.length->val B l=val B m->l=m
 | [],[],_,_,_,_=>rfl
 | a::l,b::m,h1,h2,hl,hv=>by
  have ha:=h1 a yby
  have hb:=h2 b yby
  simp only[val]at hv;have e1:a=b:=by
   grind [Nat.add_mul_mod_self_left,Nat.mod_eq_of_lt]
  subst e1;have e2:val B l=val B m:=by
   grind [Nat.eq_of_mul_eq_mul_left]
  rw[Su hB (fun x hx=>h1 x (ybr _ hx)) (fun x hx=>h2 x (ybr _ hx)) (by simp_all) e2]
 | [],_::_,_,_,h,_=>by simp at h
 | _::_,[],_,_,h,_=>by simp at h
def eM{B:Nat}(hB:1<B){l m:List Nat}(h1:wB B l)(h3:norm m)(hv:val B m<=val B l):m.length<=l.length:=by
 by_cases hm:m=[]
 ·simp[hm]
 ·have a:=El (B:=B) h3 hm;have b:=lK (by omega) h1;have:B^(m.length-1)<B^l.length:=by omega
  grind [Nat.pow_lt_pow_iff_right]
def zcm{B:Nat}(hB:1<B){l m:List Nat}(h1:wB B l)(h2:wB B m)(h3:norm l)(h4:norm m)(hv:val B l=val B m):l=m:=by
 have a:=eM hB h1 h4 (by omega);have b:=eM hB h2 h3 (by omega);exact Su (by omega) h1 h2 (by omega) hv
def dH (a b:List Nat):Int:=if a.length≠b.length then(if a.length<b.length then -1 else 1)else go a b
where go:List Nat->List Nat->Int
 | a::l,b::m=>if go l m≠0 then go l m else if a<b then -1 else if b<a then 1 else 0
 | _,_=>0
theorem MV{B:Nat}:∀ {a b:List Nat},wB B a->wB B b->a.length=b.length->(dH.go a b<0 ↔ val B a<val B b)/\(dH.go a b=0 ↔ val B a=val B b)
 | [],[],_,_,_=>by simp[dH.go,val]
 | a::l,b::m,h1,h2,hl=>by
  have ha:=h1 a yby
  have hb:=h2 b yby
  obtain⟨i1,i2⟩:=MV (a:=l) (b:=m) (fun x hx=>h1 x (ybr _ hx)) (fun x hx=>h2 x (ybr _ hx)) (by simp_all);have lt_of:∀ {x y:Nat},x<y->∀u v,u<B->u+B*x<v+B*y:=by
   intro x y h u v hu;have:B*(x+1)<=B*y:=ybv B h
   grind
  unfold dH.go;simp only[val];by_cases h0:dH.go l m=0
  ·grind
  ·rw[yab h0];constructor
   ·rw[i1];constructor
    ·simp_all
    grind [Nat.lt_trichotomy]
   ·constructor
    ·omega
    ·intro h;rcases Nat.lt_trichotomy (val B l) (val B m)with g | g | g
     ·have:=lt_of g a b ha;omega
     ·omega
     ·have:=lt_of g b a hb;omega
 | [],_::_,_,_,h=>by simp at h
 | _::_,[],_,_,h=>by simp at h
def AE{B:Nat}(hB:1<B){a b:List Nat}(h1:wB B a)(h2:wB B b)(h3:norm a)(h4:norm b):dH a b<0 ↔ val B a<val B b:=by
 unfold dH;by_cases hl:a.length=b.length
 ·grind [MV]
 ·rw[yab hl];by_cases hlt:a.length<b.length
  ·rw[yab hlt];refine⟨fun _=>?_,fun _=>by omega⟩;rcases yau (val B a) (val B b)with g | g
   ·exact g
   ·have:=eM hB h1 h4 g;omega
  ·rw[yaa hlt];refine⟨fun h=>by omega,fun h=>?_⟩;have:=eM hB h2 h3 (by omega);omega
end Go.Am
namespace Go.Am
open Go Go.RowKit
theorem yG{n:Int}(h1:0<=n)(h2:n<18446744073709551616):iA .u64 n=n:=by
 grind [wN,IntKind.wrap,IntKind.bits,IntKind.signed]
theorem jZ{n:Int}(h1:0<=n)(h2:n<4294967296):iA .u32 n=n:=by
 grind [wN,IntKind.wrap,IntKind.bits,IntKind.signed]
theorem Bv{n:Int}(h1:0<=n)(h2:n<65536):iA .u16 n=n:=by
 grind [wN,IntKind.wrap,IntKind.bits,IntKind.signed]
theorem Eg{n:Int}(h1:0<=n)(h2:n<256):iA .u8 n=n:=by
 grind [wN,IntKind.wrap,IntKind.bits,IntKind.signed]
theorem Il(n:Int):iA .u64 n=n%18446744073709551616:=by
 grind [wN,IntKind.wrap,IntKind.bits,IntKind.signed]
theorem wT(n:Int):iA .u32 n=n%4294967296:=by
 grind [wN,IntKind.wrap,IntKind.bits,IntKind.signed]
def OZ(n:Int):iA .u16 n=n%65536:=by
 grind [wN,IntKind.wrap,IntKind.bits,IntKind.signed]
def KM{k:IntKind}{x y:Nat}:iAnd k (x:Int) (y:Int)=gI Nat.land k (x:Int) (y:Int):=rfl
theorem iU{f:Nat->Nat->Nat}{k:IntKind}{x y:Nat}(h1:x<gG k)(h2:y<gG k):gI f k (x:Int) (y:Int)=some (.int k (f x y:Nat)):=by
 unfold gI;have e1:yL (x:Int)=some x:=rfl;have e2:yL (y:Int)=some y:=rfl;rw[e1,pA,e2,pA,lC.2 h1,lC.2 h2];rfl
def Qn{k:IntKind}{x y:Nat}(h0:0<y)(hw:iA k ((x / y:Nat):Int)=((x / y:Nat):Int)):wW k (x:Int) (y:Int)=some (.int k ((x / y:Nat):Int)):=by
 unfold wW;have:zB (y:Int) 0=false:=by
  grind [jU]
 rw[this,cond_false,Int.tdiv_eq_ediv_of_nonneg (by omega)];rw[<- Int.natCast_ediv,hw]
def Lg{k:IntKind}{x y:Nat}(h0:0<y):xW k (x:Int) (y:Int)=some (.int k ((x%y:Nat):Int)):=by
 unfold xW;have:zB (y:Int) 0=false:=by
  grind [jU]
 rw[this,cond_false,Int.tmod_eq_emod_of_nonneg (by omega),<- Int.natCast_emod]
theorem tE{a b:Int}:(zB a b=true) ↔ a=b:=jU a b
theorem oN{a b:Int}:((!zB a b)=true) ↔ a≠b:=by rw[ycp,<- Bool.not_eq_true,tE]
def Xp{b:Bool}:((!b)=true) ↔ b=false:=by simp
theorem Fg{a b n:Nat}(h:b<2^n):Nat.lor (a*2^n) b=a*2^n+b:=by
 show a*2^n ||| b=_;rw[<- Nat.shiftLeft_eq,<- Nat.shiftLeft_add_eq_or_of_lt h,Nat.shiftLeft_eq]
def or_low{a b n:Nat}(h:b<2^n)(ha:a%2^n=0):Nat.lor a b=a+b:=by
 obtain⟨c,hc⟩:=Nat.dvd_of_mod_eq_zero ha
 grind [Nat.mul_comm,Fg]
def mA.idx{t:Tr sA}{C:fA}{T el:Nat}(h:rD C T el 1 false){k:IntKind}{l:List Nat}{v:zA}(hr:mA t 1 (sB k l) v){i x:Nat}(hi:l[i]?=some x) :
  ∃b off,rB C T v (.int .i64 (i:Int))=some (.ptr b off)/\dA C el ⟨0,t⟩ (.ptr b off)=some (.int k (x:Int)):=by
 obtain⟨b,off,cs,h1,h2,_,_,h5⟩:=rD.at h (fun _=>rfl) hr (zas hi);rw[vP]at h5;subst h5;exact⟨b,off,h1,h2⟩
def Ax(x:Nat)(n:Nat):Int.fdiv (x:Int) (n:Int)=((x / n:Nat):Int):=by
 grind
def getElem?_of_lt{l:List Nat}{i:Nat}(h:i<l.length):∃x,l[i]?=some x:=⟨l[i],ybd h⟩
def xI{B:Nat}{l:List Nat}(h:wB B l){i x:Nat}(hi:l[i]?=some x):x<B:=h x (ycv hi)
def Cy{l:List Nat}(h:l≠[]):∃m x,l=m++[x]:=by
 rcases List.eq_nil_or_concat l with e | ⟨m,a,e⟩
 all_goals simp_all
end Go.Am
namespace Go.Proofs
open Go Go.Am
variable [kC]
variable {t:Tr sA}
theorem QO:∀(n:Nat) (l:List Nat) (v:zA),l.length=n->n<1125899906842624->mA t 1 (sB .u32 l) v->∃v',jp 260 2 [v] t (fun u m=>u=v'/\m=t)/\mA t 1 (sB .u32 (eD l)) v':=by
 intro n;induction n with
 | zero=>
  intro l v hl _ hv;have:l=[]:=ycc.1 hl;subst this;refine⟨v,Yo ?_,hv⟩;simp only[uI,uL,uZ,uW,Ni,lA,hv.len,xA,aB,pD,uC];simp_all
 | succ n ih=>
  intro l v hl hn hv;obtain⟨m,x,rfl⟩:=Cy (l:=l) (by grind);have hm:m.length=n:=by simp_all
  have hx:(m++[x])[m.length]?=some x:=by simp
  obtain⟨b,off,g1,g2⟩:=hv.idx oG hx;obtain⟨u,g3,g4⟩:=rD.front oG hv (k:=m.length) (by simp[sB]);rw[Rm]at g4;simp only[List.take_left']at g4;have e1:(((m++[x]).length:Nat):Int)-1=(m.length:Int):=by simp
  by_cases hx0:x=0
  ·subst hx0;obtain⟨w,h1,h2⟩:=ih m u hm (by omega) g4;refine⟨w,Yo ?_,by grind [Nl]⟩;simp (disch:=omega) only[uI,uL,uZ,uW,Ni,lA,hv.len,xA,aB,pD,uC,tE,wrap_i64,e1,g1,g2,g3]
   simp_all
  ·refine⟨v,Yo ?_,?_⟩
   ·simp (disch:=omega) only[uI,uL,uZ,uW,Ni,lA,hv.len,xA,aB,pD,uC,tE,wrap_i64,e1,g1,g2,g3]
    simp_all
   ·rw[Ci]
    ·exact hv
    ·intro _;simp_all
def Ch{l:List Nat}{v:zA}(hl:l.length<1125899906842624)(hv:mA t 1 (sB .u32 l) v):∃v',vB yA F 260 [v] t=some v'/\mA t 1 (sB .u32 (eD l)) v':=by
 obtain⟨v',h1,h2⟩:=QO _ l v rfl hl hv;exact⟨v',bB.2 (w260 h1),h2⟩
theorem zdy{a b:List Nat}{u v:zA}(hu:mA t 1 (sB .u32 a) u)(hv:mA t 1 (sB .u32 b) v)(hl:a.length=b.length):∀(n:Nat),n<=a.length->n<1125899906842624->jp 283 2 [u,v,.int .i64 ((n:Int)-1)] t (fun w m=>w=.int .i64 (dH.go (a.take n) (b.take n))/\m=t):=by
 intro n;induction n with
 | zero=>
  intro _ _;refine zfn ?_;simp only[uL,uZ,uW,Tt,lA,mD];grind [dH.go]
 | succ n ih=>
  intro hn hn2;obtain⟨x,hx⟩:=getElem?_of_lt (l:=a) (i:=n) (by omega);obtain⟨y,hy⟩:=getElem?_of_lt (l:=b) (i:=n) (by omega);obtain⟨c,off,g1,g2⟩:=hu.idx oG hx;obtain⟨d,off',g3,g4⟩:=hv.idx oG hy;have e1:(((n+1:Nat):Int)-1)=(n:Int):=by omega
  have key:∀(a b:List Nat) (x y:Nat),a.length=b.length->dH.go (a++[x]) (b++[y])=if x<y then -1 else if y<x then 1 else dH.go a b:=by
   intro a;induction a with
   | nil=>
    grind [dH.go]
   | cons p a ih=>
    intro b x y h
    cases b with
    | nil=>simp at h
    | cons q b=>
     grind [dH.go]
  have e2:dH.go (a.take (n+1)) (b.take (n+1))=if x<y then -1 else if y<x then 1 else dH.go (a.take n) (b.take n):=by
   grind [List.take_add_one]
  rw[e1,e2];refine zfn ?_;simp (disch:=omega) only[uL,uZ,uW,Tt,lA,xA,aB,uC,mD,oN,g1,g2,g3,g4,wrap_i64]
  grind
theorem zgn{a b:List Nat}{u v:zA}(ha:a.length<1125899906842624)(hu:mA t 1 (sB .u32 a) u)(hv:mA t 1 (sB .u32 b) v):vB yA F 283 [u,v] t=some (.int .i64 (dH a b)):=by
 refine bB.2 (w283 ?_);simp (disch:=omega) only[uI,uZ,uW,t283,lA,hu.len,hv.len,xA,aB,pD,uC,oN,wrap_i64];unfold dH;by_cases hl:a.length=b.length
 ·rw[yaa (by omega),yaa (by omega)];have:=zdy hu hv hl a.length (ybk _) ha
  grind
 grind
def tI(neg:Bool)(l:List Nat):Bool:=if l=[]then !neg else decide (l.length<=1024)&&decide (l.getLast?≠some 0)
theorem Mr{neg:Bool}{l:List Nat}{v:zA}(hl:l.length<1125899906842624)(hv:mA t 1 (sB .u16 l) v):vB yA F 237 [.agg [.bool neg,v]] t=some (.bool (tI neg l)):=by
 refine bB.2 (w237 ?_);unfold tI;by_cases h0:l=[]
 ·subst h0;simp only[uI,uH,jA,uZ,uW,t237,lA,hv.len,xA,aB,pD,tE];simp
 ·obtain⟨m,x,rfl⟩:=Cy h0;have hx:(m++[x])[m.length]?=some x:=by simp
  obtain⟨b,off,g1,g2⟩:=hv.idx zI hx;have e1:(((m++[x]).length:Nat):Int)-1=(m.length:Int):=by simp
  have hlm:m.length<1125899906842624:=by omega
  simp (disch:=omega) only[uI,uH,jA,uZ,uW,t237,lA,hv.len,xA,aB,pD,tE,mD,wrap_i64,e1,g1,g2];rw[yaa (by omega),yaa h0];by_cases h1:(m++[x]).length<=1024
  ·rw[yab (by omega)];simp only[h1,decide_true,ycn];by_cases hx0:x=0
   ·grind [lY]
   ·have:zB (x:Int) 0=false:=by
     grind [jU]
    simp_all
  grind
theorem Yw{neg:Bool}{l:List Nat}{v:zA}(hv:mA t 1 (sB .u16 l) v):vB yA F 238 [.agg [.bool neg,v]] t=some (.bool (!neg&&decide (l=[1]))):=by
 refine bB.2 (w238 ?_)
 cases neg with
 | true=>simp[uQ16,uI,uH,jA,uZ,t238,lA]
 | false=>
  simp only[uQ16,uI,uH,jA,uZ,t238,lA,hv.len,xA,aB,pD,tE];rw[yab (by rfl)];by_cases h1:l.length=1
  ·obtain⟨x,rfl⟩:∃x,l=[x]:=by
    cases l with
    | nil=>simp at h1
    | cons x r=>simp_all
   obtain⟨b,off,g1,g2⟩:=hv.idx zI (i:=0) (x:=x) (by simp);simp only[Int.natCast_zero]at g1;rw[yab (by simp)];simp only[g1,g2,xA,aB];by_cases hx:x=1
   ·grind [lY]
   ·have:zB (x:Int) 1=false:=by
     grind [jU]
    simp_all
  ·rw[yaa (by omega)];have:l≠[1]:=by grind
   grind
end Go.Proofs
namespace Go.Am
def qG:List Nat->List Nat
 | []=>[]
 | [a]=>[a]
 | a::b::l=>(a+65536*b)::qG l
theorem vS:∀l:List Nat,(qG l).length=(l.length+1) / 2
 | []=>rfl
 | [a]=>by simp[qG]
 | a::b::l=>by simp[qG,vS l];omega
theorem Ss:∀l:List Nat,val 4294967296 (qG l)=val 65536 l
 | []=>rfl
 | [a]=>by simp[qG,val]
 | a::b::l=>by simp only[qG,val,Ss l];omega
def Mb:∀ {l:List Nat},wB 65536 l->wB 4294967296 (qG l)
 | [],_=>fun x hx=>(by cases hx)
 | [a],h=>fun x hx=>by
  have:=h a (by simp)
  grind [qG]
 | a::b::l,h=>fun x hx=>by
  have h1:=h a (by simp);have h2:=h b (by simp);rcases ybs.1 hx with rfl | hx
  ·omega
  ·exact Mb (l:=l) (fun y hy=>h y (by simp[hy])) x hx
def Pk:∀ {l:List Nat},norm l->norm (qG l)
 | [],_=>fun h=>(h rfl).elim
 | [a],h=>by
  grind [qG]
 | [a,b],h=>by
  intro _;have:=h (by simp)
  grind [qG]
 | a::b::c::l,h=>by
  intro _;have hn:norm (c::l):=by
   intro hne;have:=h (by simp)
   simp_all
  have hne:qG (c::l)≠[]:=by
   grind [vS]
  have:=Pk (l:=c::l) hn hne
  grind [qG]
def Xg:∀(l:List Nat) (x:Nat),l.length%2=0->qG (l++[x])=qG l++[x]
 | [],x,_=>rfl
 | [a],x,h=>by simp at h
 | a::b::l,x,h=>by
  show(a+65536*b)::qG (l++[x])=(a+65536*b)::(qG l++[x]);rw[Xg l x (by grind)]
theorem GO:∀(l:List Nat) (a x:Nat),l.length%2=0->qG (l++[a,x])=qG l++[a+65536*x]
 | [],a,x,_=>rfl
 | [b],a,x,h=>by simp at h
 | c::b::l,a,x,h=>by
  show(c+65536*b)::qG (l++[a,x])=(c+65536*b)::(qG l++[a+65536*x]);rw[GO l a x (by grind)]
def bH:List Nat->List Nat
 | []=>[]
 | w::l=>w%65536::w / 65536::bH l
theorem Mw:∀l:List Nat,(bH l).length=2*l.length
 | []=>rfl
 | w::l=>by simp[bH,Mw l];omega
def BP:∀l:List Nat,val 65536 (bH l)=val 4294967296 l
 | []=>rfl
 | w::l=>by
  simp only[bH,val,BP l];omega
def OE:∀ {l:List Nat},wB 4294967296 l->wB 65536 (bH l)
 | [],_=>fun x hx=>(by cases hx)
 | w::l,h=>fun x hx=>by
  have h1:=h w (by simp);rcases ybs.1 hx with rfl | hx
  ·omega
  ·rcases ybs.1 hx with rfl | hx
   ·omega
   ·exact OE (l:=l) (fun y hy=>h y (by simp[hy])) x hx
theorem Iw:∀(l:List Nat) (w:Nat),bH (l++[w])=bH l++[w%65536,w / 65536]
 | [],w=>rfl
 | a::l,w=>by simp[bH,Iw l w]
theorem DE{l:List Nat}{w:Nat}(hw:w≠0):eD (bH (l++[w]))=if w / 65536=0 then bH l++[w%65536]else bH (l++[w]):=by
 rw[Iw];split
 ·rename_i h;rw[h,show bH l++[w%65536,0]=(bH l++[w%65536])++[0] by simp,Nl];refine Ci fun _=>?_
  grind
 ·rename_i h;refine Ci fun _=>?_
  grind
end Go.Am
namespace Go.Proofs
open Go Go.Am
variable [kC]
variable {t:Tr sA}
theorem set_append_right{l m:List Nat}{i x:Nat}(h:l.length=i):(l++m).set i x=l++m.set 0 x:=by
 simp_all
theorem UM{l:List Nat}{v:zA}{b:Nat}{Q:wC}(hv:mA t 1 (sB .u16 l) v)(hl:l.length<1000000)(hlt:wB 65536 l)(hbase:yA.base<=b)(hb:t.get b=none)
  (hQ:∀t' v',yB t t'->mA t' 1 (sB .u32 (qG l)) v'->Q v' t'):∀(k i:Nat) (t':Tr sA),i+k=l.length->yB t t'->jF t' b .u32 (qG (l.take i)++List.replicate ((l.length+1) / 2-(i+1) / 2) 0) →
  jp 240 2 [.slice b 0 ((l.length+1) / 2) ((l.length+1) / 2),v,.int .i64 l.length,.int .i64 i] t' Q:=by
 intro k;induction k with
 | zero=>
  intro i t' hi ht ho;refine zf0 ?_;simp only[uL,uH,qB,uZ,uW,Uh,lA,uC];rw[yaa (by omega)];rw[yca (by omega),show(l.length+1) / 2-(i+1) / 2=0 by omega,List.replicate_zero,ycd]at ho;refine hQ _ _ ht ?_;have:=ho.all (ybk _)
  grind [vS]
 | succ k ih=>
  intro i t' hi ht ho;obtain⟨x,hx⟩:=getElem?_of_lt (l:=l) (i:=i) (by omega);have hxlt:x<65536:=xI hlt hx;obtain⟨c,off,g1,g2⟩:=(hv.mono ht).idx zI hx;have htake:l.take (i+1)=l.take i++[x]:=by grind [List.take_add_one]
  have hlen:(l.take i).length=i:=by grind
  obtain⟨y,hy,hnew⟩:∃y,(qG (l.take i)++List.replicate ((l.length+1) / 2-(i+1) / 2) 0)[i / 2]?=some y/\y<4294967296/\Nat.lor y (x*2^(16*(i%2)))<4294967296 ∧
    (qG (l.take i)++List.replicate ((l.length+1) / 2-(i+1) / 2) 0).set (i / 2) (Nat.lor y (x*2^(16*(i%2))))=qG (l.take (i+1))++List.replicate ((l.length+1) / 2-(i+1+1) / 2) 0:=by
   rcases Nat.mod_two_eq_zero_or_one i with he | ho1
   ·have hp:(qG (l.take i)).length=i / 2:=by grind [vS]
    refine⟨0,?_,by decide,?_,?_⟩
    ·rw[ybp (by omega),hp,Nat.sub_self,List.getElem?_replicate,yab (by omega)]
    ·rw[he];simp;omega
    ·rw[set_append_right hp,he,htake,Xg _ _ (by omega)];have:Nat.lor 0 (x*2^(16*0))=x:=by simp_all
     rw[this];obtain⟨r,hr⟩:∃r,(l.length+1) / 2-(i+1) / 2=r+1:=⟨(l.length+1) / 2-(i+1) / 2-1,by omega⟩;rw[hr,List.replicate_succ,List.set_cons_zero,show(l.length+1) / 2-(i+1+1) / 2=r by omega];simp
   ·obtain⟨p,a,hpa⟩:=Cy (l:=l.take i) (by grind);have hpl:p.length=i-1:=by grind
    have hpe:p.length%2=0:=by omega
    have ha:a<65536:=hlt a (List.mem_of_mem_take (by simp_all:a∈l.take i));have hp:(qG p).length=i / 2:=by grind [vS]
    rw[hpa,Xg _ _ hpe];have hlor:Nat.lor a (x*2^(16*1))=a+65536*x:=by
     show a ||| x*2^(16*1)=_;rw[Nat.or_comm];have:=Fg (a:=x) (b:=a) (n:=16) (by omega);show Nat.lor (x*2^16) a=_;omega
    refine⟨a,?_,by omega,?_,?_⟩
    all_goals grind [set_append_right,GO]
  obtain⟨hy1,hy2,hy3⟩:=hnew;have hwlen:(qG (l.take i)++List.replicate ((l.length+1) / 2-(i+1) / 2) 0).length=(l.length+1) / 2:=by
   grind [vS]
  have g3:rB yA 240 (.slice b 0 ((l.length+1) / 2) ((l.length+1) / 2)) (.int .i64 ((i / 2:Nat):Int))=some (.ptr b (0+i / 2*1)):=Ep oG (by omega);rw[show 0+i / 2*1=i / 2 by omega]at g3;have g4:=ho.load hy xH rfl;obtain⟨t2,g5,g6,g7⟩:=ho.store (C:=yA) hbase (j:=i / 2) (by omega) (Nat.lor y (x*2^(16*(i%2)))) xH rfl;rw[hy3]at g6;refine zf0 ?_;have e1:Int.tdiv (i:Int) 2=((i / 2:Nat):Int):=by simp_all
  have e2:Int.tmod (i:Int) 2=((i%2:Nat):Int):=by grind
  have hm:=ycy i (show 0<2 by decide);simp (disch:=omega) only[uL,uH,qB,uZ,uW,Uh,lA,uC,g1,g2,xA,aB,wrap_i64,jZ,e1,e2,g3,g4];rw[yab (by omega)];have e3:kU .u32 (x:Int) (16*((i%2:Nat):Int))=some (.int .u32 ((x*2^(16*(i%2)):Nat):Int)):=by
   rcases Nat.mod_two_eq_zero_or_one i with h | h<;>rw[h]
   ·simp[kU,Ck,yL];rw[jZ (by omega) (by omega)]
   ·have:kU .u32 (x:Int) (16*((1:Nat):Int))=some (.int .u32 (iA .u32 ((x:Int)*65536))):=rfl
    grind [jZ]
  rw[e3];have hb2:x*2^(16*(i%2))<4294967296:=by
   rcases Nat.mod_two_eq_zero_or_one i with h | h<;>rw[h]<;>omega
  simp only[xA,aB];rw[iU (show y<gG .u32 from hy1) (show x*2^(16*(i%2))<gG .u32 from hb2)];simp only[xA,aB];intro d _ _;rw[g5];simp only[xA];have:=ih (i+1) t2 (by omega) (ht.off hb g7) g6
  simp_all
theorem Xf{l:List Nat}{v:zA}{Q:wC}(hv:mA t 1 (sB .u16 l) v)(hl:l.length<1000000)(hlt:wB 65536 l)
  (hQ:∀t' v',yB t t'->mA t' 1 (sB .u32 (qG l)) v'->Q v' t'):Wc yA F 240 [v] t Q:=by
 refine w240 ?_;have e1:Int.tdiv ((l.length:Int)+1) 2=(((l.length+1) / 2:Nat):Int):=by grind
 simp (disch:=omega) only[uI,uZ,uW,t240,lA,hv.len,xA,aB,pD,wrap_i64,e1];intro b hb hbase;obtain⟨t',g1,g2,g3,_⟩:=Af (C:=yA) (k:=.u32) mP rfl xH rfl rfl (by decide) (n:=(l.length+1) / 2) (by omega) hb;rw[g1];simp only[xA];exact UM hv hl hlt hbase hb hQ l.length 0 t' (by omega) g3 (by grind [qG])
end Go.Proofs
namespace Go.Proofs
open Go Go.Am
variable [kC]
variable {t:Tr sA}
theorem zg4{n:Nat}(h:n<4294967296):n / 2147483648=if n.testBit 31 then 1 else 0:=by
 grind
theorem Tc{n:Nat}(h:n<4294967296):n.testBit 31=decide (2147483648<=n):=by
 grind
theorem BU{x:Nat}(h:x<4294967296):Cd (.int .u32 (x:Int))=some (.int .u32 (Nat.xor 4294967295 x:Nat)):=by
 grind [Cd,zA.asIntK,pA,Nat.beq,kLo,sE,iU,gG]
theorem zbp{x y b:Nat}(hx:x<4294967296)(hy:y<4294967296)(hb:b<2) :
  vB yA F 299 [.int .u32 x,.int .u32 y,.int .u32 b] t=some (.tup [.int .u32 (((x+8589934592-y-b)%4294967296:Nat):Int),.int .u32 (((if x<y+b then 1 else 0):Nat):Int)]):=by
 refine bB.2 (w299 ?_);obtain⟨d,hd⟩:∃d,d=(x+8589934592-y-b)%4294967296:=⟨_,rfl⟩;have hdl:d<4294967296:=by omega
 have e1:iA .u32 (iA .u32 ((x:Int)-y)-b)=(d:Int):=by
  grind [wT]
 have hn1:Nat.xor 4294967295 x<4294967296:=Nat.xor_lt_two_pow (n:=32) (by decide) hx;have hn2:Nat.xor x y<4294967296:=Nat.xor_lt_two_pow (n:=32) hx hy;have hn3:Nat.xor 4294967295 (Nat.xor x y)<4294967296:=Nat.xor_lt_two_pow (n:=32) (by decide) hn2;have hn4:Nat.land (Nat.xor 4294967295 x) y<4294967296:=yam Nat.and_le_left hn1;have hn5:Nat.land (Nat.xor 4294967295 (Nat.xor x y)) d<4294967296:=yam Nat.and_le_left hn3
 have hn6:Nat.lor (Nat.land (Nat.xor 4294967295 x) y) (Nat.land (Nat.xor 4294967295 (Nat.xor x y)) d)<4294967296:=Nat.or_lt_two_pow (n:=32) hn4 hn5;simp only[uL,t299,lA,e1];rw[BU hx];simp only[xA,aB];rw[KM,iU (k:=.u32) hn1 hy];simp only[xA,aB];rw[iU (k:=.u32) hx hy];simp only[xA,aB];rw[BU hn2];simp only[xA,aB];rw[KM,iU (k:=.u32) hn3 hdl]
 simp only[xA,aB];rw[iU (k:=.u32) hn4 hn5];simp only[xA,aB];have e2:Int.fdiv ((Nat.lor (Nat.land (Nat.xor 4294967295 x) y) (Nat.land (Nat.xor 4294967295 (Nat.xor x y)) d):Nat):Int) 2147483648=(((if x<y+b then 1 else 0):Nat):Int):=by
  rw[show(2147483648:Int)=((2147483648:Nat):Int) from rfl,Ax,zg4 hn6];congr 1;have tb:(Nat.lor (Nat.land (Nat.xor 4294967295 x) y) (Nat.land (Nat.xor 4294967295 (Nat.xor x y)) d)).testBit 31=decide (x<y+b):=by
   show((4294967295 ^^^ x) &&& y ||| (4294967295 ^^^ (x ^^^ y)) &&& d).testBit 31=_;rw[Nat.testBit_or,Nat.testBit_and,Nat.testBit_and,Nat.testBit_xor,Nat.testBit_xor,Nat.testBit_xor,Tc hx,Tc hy,Tc hdl];have:(4294967295:Nat).testBit 31=true:=by decide
   rw[this];by_cases c1:2147483648<=x<;>by_cases c2:2147483648<=y<;>by_cases c3:2147483648<=d<;>by_cases c4:x<y+b<;>simp only[c1,c2,c3,c4,decide_true,decide_false,Bool.xor_true,Bool.xor_false,Bool.true_xor,Bool.false_xor,Bool.not_true,ycl,Bool.and_true,yay,Bool.or_true,Bool.or_false,Bool.xor_self]<;>omega
  simp_all
 simp_all
theorem zd9{x y c:Nat}(hx:x<4294967296)(hy:y<4294967296)(hc:c<2) :
  vB yA F 303 [.int .u32 x,.int .u32 y,.int .u32 c] t=some (.tup [.int .u32 (((x+y+c)%4294967296:Nat):Int),.int .u32 (((x+y+c) / 4294967296:Nat):Int)]):=by
 refine bB.2 (w303 ?_);have e0:((x:Int)+y)+c=((x+y+c:Nat):Int):=by omega
 simp (disch:=omega) only[t303,lA,yG]
 grind [wT]
theorem zdn{h l d:Nat}(hh:h<d)(hl:l<4294967296)(hd:d<4294967296) :
  vB yA F 259 [.int .u32 h,.int .u32 l,.int .u32 d] t=some (.tup [.int .u32 (((h*4294967296+l) / d:Nat):Int),.int .u32 (((h*4294967296+l)%d:Nat):Int)]):=by
 refine bB.2 (w259 ?_);simp only[t259,lA,oN,mD];rw[yab (by omega),yaa (by omega)];refine j259_7 ?_;have e1:(h:Int)*4294967296=((h*4294967296:Nat):Int):=by omega
 have hq:(h*4294967296+l) / d<4294967296:=ycu (by
  omega)
 have hr:(h*4294967296+l)%d<d:=ycy _ (by omega);simp (disch:=omega) only[uE,zes,lA,yG,e1];have e2:gI Nat.lor .u64 ((h*4294967296:Nat):Int) (l:Int)=some (.int .u64 ((h*4294967296+l:Nat):Int)):=by
  rw[iU (k:=.u64) (show h*4294967296<gG .u64 by show _<18446744073709551616;omega) (show l<gG .u64 by show _<18446744073709551616;omega)];have:=Fg (a:=h) (b:=l) (n:=32) hl;rw[show h*4294967296=h*2^32 by rfl,this]
 rw[e2];simp only[xA,aB];rw[Qn (k:=.u64) (by omega) (by
  grind [yG]),Lg (k:=.u64) (by omega)]
 grind [xA,aB,jZ]
theorem zcu(v:Nat)(hv:v<256):∃k,k<9/\uD [0,1,2,2,3,3,3,3,4,4,4,4,4,4,4,4,5,5,5,5,5,5,5,5,5,5,5,5,5,5,5,5,6,6,6,6,6,6,6,6,6,6,6,6,6,6,6,6,6,6,6,6,6,6,6,6,6,6,6,6,6,6,6,6,7,7,7,7,7,7,7,7,7,7,7,7,7,7,7,7,7,7,7,7,7,7,7,7,7,7,7,7,7,7,7,7,7,7,7,7,7,7,7,7,7,7,7,7,7,7,7,7,7,7,7,7,7,7,7,7,7,7,7,7,7,7,7,7,8,8,8,8,8,8,8,8,8,8,8,8,8,8,8,8,8,8,8,8,8,8,8,8,8,8,8,8,8,8,8,8,8,8,8,8,8,8,8,8,8,8,8,8,8,8,8,8,8,8,8,8,8,8,8,8,8,8,8,8,8,8,8,8,8,8,8,8,8,8,8,8,8,8,8,8,8,8,8,8,8,8,8,8,8,8,8,8,8,8,8,8,8,8,8,8,8,8,8,8,8,8,8,8,8,8,8,8,8,8,8,8,8,8,8,8,8,8,8,8,8,8,8,8,8,8,8,8] v=some k/\(v=0/\k=0\/0<k/\2^(k-1)<=v/\v<2^k):=by
 have h:∀v:Fin 256,(uD [0,1,2,2,3,3,3,3,4,4,4,4,4,4,4,4,5,5,5,5,5,5,5,5,5,5,5,5,5,5,5,5,6,6,6,6,6,6,6,6,6,6,6,6,6,6,6,6,6,6,6,6,6,6,6,6,6,6,6,6,6,6,6,6,7,7,7,7,7,7,7,7,7,7,7,7,7,7,7,7,7,7,7,7,7,7,7,7,7,7,7,7,7,7,7,7,7,7,7,7,7,7,7,7,7,7,7,7,7,7,7,7,7,7,7,7,7,7,7,7,7,7,7,7,7,7,7,7,8,8,8,8,8,8,8,8,8,8,8,8,8,8,8,8,8,8,8,8,8,8,8,8,8,8,8,8,8,8,8,8,8,8,8,8,8,8,8,8,8,8,8,8,8,8,8,8,8,8,8,8,8,8,8,8,8,8,8,8,8,8,8,8,8,8,8,8,8,8,8,8,8,8,8,8,8,8,8,8,8,8,8,8,8,8,8,8,8,8,8,8,8,8,8,8,8,8,8,8,8,8,8,8,8,8,8,8,8,8,8,8,8,8,8,8,8,8,8,8,8,8,8,8,8,8,8,8] v.val).elim false (fun k=>decide (k<9)&&(decide (v.val=0)&&decide (k=0)||decide (0<k)&&decide (2^(k-1)<=v.val)&&decide (v.val<2^k)))=true:=by decide +kernel
 have hv:=h ⟨v,hv⟩;simp only[]at hv;generalize uD _ v=r at hv ⊢
 cases r with
 | none=>simp at hv
 | some k=>
  grind
def BL (x k:Nat):Prop:=x=0/\k=0\/0<k/\2^(k-1)<=x/\x<2^k
theorem HS{x s:Nat}(hx:x<256)(hs:s<100):∃k,k<=8/\BL x k/\jp 301 15 [.int .u32 x,.int .i64 s] t (fun v m=>v=.int .i64 ((s+k:Nat):Int)/\m=t):=by
 obtain⟨k,hk,h1,h2⟩:=zcu x hx;refine⟨k,by omega,h2,zit ?_⟩;simp (disch:=omega) only[uU,uZ,uY,uW,CS,lA,Eg];unfold fR;rw[gH,pA];have:(zA.int .u8 (x:Int)).asNat=some x:=rfl;rw[this,pA];simp only[zA.asStr];rw[show(eC.desc ⟨.string,1,16,[.str []],true⟩).isString=true from rfl,sE]
 grind [pA,xA,aB,wrap_i64]
theorem HR{x s:Nat}(hx:x<65536)(hs:s<90):∃k,k<=16/\BL x k/\jp 301 9 [.int .u32 x,.int .i64 s] t (fun v m=>v=.int .i64 ((s+k:Nat):Int)/\m=t):=by
 by_cases h:256<=x
 ·obtain⟨k,h1,h2,h3⟩:=HS (t:=t) (x:=x / 256) (s:=s+8) (by omega) (by omega);refine⟨k+8,by omega,?_,zfg ?_⟩
  ·rcases h2 with h2 | ⟨g1,g2,g3⟩
   ·omega
   ·refine .inr ⟨by omega,?_,?_⟩
    ·rw[show k+8-1=(k-1)+8 by omega,Nat.pow_add];omega
    grind
  ·simp (disch:=omega) only[uZ,uW,Ti,lA,mD,wrap_i64]
   grind
 ·obtain⟨k,h1,h2,h3⟩:=HS (t:=t) (x:=x) (s:=s) (by omega) (by omega);refine⟨k,by omega,h2,zfg ?_⟩;simp only[uZ,uW,Ti,lA,mD];grind
theorem zcv{x:Nat}(hx:x<4294967296):∃k,k<=32/\BL x k/\vB yA F 301 [.int .u32 x] t=some (.int .i64 (k:Int)):=by
 by_cases h:65536<=x
 ·obtain⟨k,h1,h2,h3⟩:=HR (t:=t) (x:=x / 65536) (s:=16) (by omega) (by omega);refine⟨k+16,by omega,?_,bB.2 (w301 ?_)⟩
  ·rcases h2 with h2 | ⟨g1,g2,g3⟩
   ·omega
   ·refine .inr ⟨by omega,?_,?_⟩
    ·rw[show k+16-1=(k-1)+16 by omega,Nat.pow_add];omega
    grind
  ·simp only[uZ,t301,lA,mD]
   grind
 ·obtain⟨k,h1,h2,h3⟩:=HR (t:=t) (x:=x) (s:=0) (by omega) (by omega);refine⟨k,by omega,h2,bB.2 (w301 ?_)⟩;simp only[uZ,t301,lA,mD];grind
theorem HG{x:Nat}(hx:x<4294967296)(h0:0<x):∃s:Nat,s<32/\2147483648<=x*2^s/\x*2^s<4294967296/\vB yA F 294 [.int .u32 x] t=some (.int .i64 (s:Int)):=by
 obtain⟨k,h1,h2,h3⟩:=zcv (t:=t) hx;rcases h2 with h2 | ⟨g1,g2,g3⟩
 ·omega
 ·refine⟨32-k,by omega,?_,?_,bB.2 (w294 ?_)⟩
  ·have:2^(k-1)*2^(32-k)=2147483648:=by rw[<- Nat.pow_add,show k-1+(32-k)=31 by omega]
   rw[<- this];exact ybi _ g2
  ·have:2^k*2^(32-k)=4294967296:=by rw[<- Nat.pow_add,show k+(32-k)=32 by omega]
   rw[<- this];exact Nat.mul_lt_mul_of_pos_right g3 (Nat.pow_pos (Nat.succ_pos 1))
  ·simp (disch:=omega) only[uI,uZ,uW,t294,lA,q301,h3,xA,aB,wrap_i64]
   grind
end Go.Proofs
namespace Go.Am
theorem Nw{p:List Nat}{n x:Nat}:(p++List.replicate (n+1) 0).set p.length x=(p++[x])++List.replicate n 0:=by
 grind
theorem mK(B:Nat)(l:List Nat)(x:Nat):val B (l++[x])=val B l+B^l.length*x:=by rw[Em];simp[val]
def aS{B:Nat}{l:List Nat}{x:Nat}(h:wB B l)(hx:x<B):wB B (l++[x]):=OH h fun y hy=>by simp_all
def DU{B:Nat}{r w d:Nat}(hr:r<d)(hw:w<B):(r*B+w) / d<B:=by
 have hd:0<d:=by omega
 refine ycu ?_;have:(r+1)*B<=d*B:=ybi B hr
 grind
def uT{l:List Nat}{i x:Nat}(h:l[i]?=some x):l.take (i+1)=l.take i++[x]:=by rw[ydg,h];rfl
def drop_cons'{l:List Nat}{i x:Nat}(h:l[i]?=some x):l.drop i=x::l.drop (i+1):=by
 have hi:=(ybc.1 h);rw[ybl hi.1,hi.2]
end Go.Am
namespace Go.Am
open Go Go.RowKit
section
variable {t:Tr sA}{C:fA}
theorem VT{c:Tr zA}{sz:Nat}:∀(cl:List (List zA)) (off:Nat),(∀(i:Nat) cs,cl[i]?=some cs->cs.length=sz/\∀(j:Nat) a,cs[j]?=some a->c.get (off+i*sz+j)=some a)->c.many (cl.length*sz) off=some cl.flatten:=by
 intro cl;induction cl with
 | nil=>intro off _;simp;rfl
 | cons cs cl ih=>
  intro off h;obtain⟨h1,h2⟩:=h 0 cs (by simp);have hrest:=ih (off+sz) fun i cs' hi=>by
   obtain⟨g1,g2⟩:=h (i+1) cs' (by simp_all)
   grind
  have key:∀(n:Nat) (l r:List zA) (off:Nat),l.length=n->(∀(j:Nat) a,l[j]?=some a->c.get (off+j)=some a)->∀m,c.many m (off+n)=some r->c.many (n+m) off=some (l++r):=by
   intro n;induction n with
   | zero=>
    simp_all
   | succ n ihn=>
    intro l r off hl hg m hm
    cases l with
    | nil=>simp at hl
    | cons a l=>
     rw[show n+1+m=(n+m)+1 by omega,Tr.many_succ];have:=hg 0 a (by simp);rw[yct]at this;rw[this,pA,ihn l r (off+1) (by simp_all) (fun j b hj=>by
      have:=hg (j+1) b (by simp_all)
      grind) m (by grind)]
     rfl
  grind [Nat.add_mul]
theorem tJ.first{sz:Nat}{v:zA}{cl:List (List zA)}(h:tJ t sz v cl){n:Nat}:pR ⟨n,t⟩ sz cl.length v=some cl.flatten/\sY v=some cl.length:=by
 rcases h with⟨rfl,rfl⟩ | ⟨b,off,cap,rfl,_,⟨c,m,lo,h1,_⟩,h2⟩
 ·exact⟨rfl,rfl⟩
 ·refine⟨?_,rfl⟩;unfold pR;simp only[zA.asSlice];unfold oD;rw[h1,pA];simp only[sA.asCells,pA];refine VT cl off fun i cs hi=>?_;obtain⟨g1,c',m',lo',g2,g3⟩:=h2 i cs hi
  simp_all
theorem Zj{sz:Nat}:∀ {cl:List (List zA)},(∀(i:Nat) cs,cl[i]?=some cs->cs.length=sz)->cl.flatten.length=cl.length*sz:=by
 intro cl;induction cl with
 | nil=>grind
 | cons c cl ih=>
  intro h;rw[yas,ybg,ybn,ybo,ih fun i cs hi=>h (i+1) cs (by simp_all),h 0 c (by simp)];omega
theorem Di{sz:Nat}:∀ {cl:List (List zA)},(∀(i:Nat) cs,cl[i]?=some cs->cs.length=sz)->∀(i j:Nat) cs a,cl[i]?=some cs->cs[j]?=some a->cl.flatten[i*sz+j]?=some a:=by
 intro cl;induction cl with
 | nil=>simp_all
 | cons c cl ih=>
  intro h i j cs a hi hj;have hc:=h 0 c (by simp);rw[yas]
  cases i with
  | zero=>
   grind
  | succ i=>
   rw[ybp (by grind),hc,show(i+1)*sz+j-sz=i*sz+j by grind];exact ih (fun i cs hi=>h (i+1) cs (by simp_all)) i j cs a (by simp_all) hj
theorem tJ.len{sz:Nat}{v:zA}{cl:List (List zA)}(h:tJ t sz v cl):∀(i:Nat) cs,cl[i]?=some cs->cs.length=sz:=by
 rcases h with⟨rfl,rfl⟩ | ⟨b,off,cap,rfl,_,_,h2⟩
 all_goals grind
theorem Zt{sz n:Nat}{cl:List (List zA)}{t':Tr sA}{lo:Option Lo}(hl:∀(i:Nat) cs,cl[i]?=some cs->cs.length=sz)(h:t'.get n=some (.cells (Tr.ofList cl.flatten) (kB cl.flatten) lo))(hlo:lo=none\/∃x,lo=some x/\x.es=sz):tJ t' sz (.slice n 0 cl.length cl.length) cl:=
 .inr ⟨n,0,cl.length,rfl,ybk _,⟨_,_,_,h,hlo⟩,fun i cs hi=>⟨hl i cs hi,_,_,_,h,fun j a hj=>by
  grind [Tr.get_ofList,Di]⟩⟩
def NB (C:fA)(el:Nat):Prop:=∀y,C.tys.get el=some y->KD y=false
def NB.code{el:Nat}{z:eC}(h:NB C el)(hz:C.tys.get el=some z):cK el z=.sz z.size:=by
 unfold cK;rw[h z hz,yay];rfl
structure Ia (C:fA) (T el sz:Nat):Prop where
 ty:∃y,C.tys.get T=some y/\y.desc.asSlice=some el/\Nat.beq y.desc.tag 1=false
 el:∃y,C.tys.get el=some y/\y.size=sz/\kB y.zero=sz/\y.bytes<=500/\0<sz
structure gL (C:fA) (T e sz:Nat):Prop where
 ty:∃y,C.tys.get T=some y/\y.desc.asSlice=some e/\Nat.beq y.desc.tag 1=false
 el:∃y,C.tys.get e=some y/\y.size=sz/\kB y.zero=sz/\y.bytes<=500/\0<sz
 nb:NB C e
theorem OB{T el sz:Nat}(hT:gL C T el sz){l:List D}{x s:zA}(hx:mA t sz l x)(hl:l.length<1000000){n:Nat}(hn:t.get n=none)
  (hs:s=.nilslice\/∃b c m,s=.slice b 0 0 0/\t.get b=some (.cells c m none)) :
  ∃v H',vF C T T s x ⟨n,t⟩=some (v,H')/\mA H'.t sz l v/\yB t H'.t/\rE n t H'.t:=by
 obtain⟨⟨y,hy1,hy2,hy3⟩,⟨z,hz1,hz2,hz3,hz4,hz5⟩,hnb⟩:=hT;have hcode:=NB.code hnb hz1;obtain⟨cl,he,hd⟩:=hx;have hcl:=hd.length;obtain⟨hf,hlen⟩:=he.first (n:=n);have hall:=he.len
 have base:vF C T T s x ⟨n,t⟩=(match s.asSlice with
  | some s=>bif Nat.ble (s.2.2.1+cl.length) s.2.2.2 then jY C ⟨n,t⟩ z cl.length cl.flatten s else fY C ⟨n,t⟩ el z cl.length cl.flatten s
  | none=>mB (Nat.beq s.tag 5) (tW ⟨n,t⟩ el z cl.length cl.flatten)):=by
  unfold vF iW;grind [pA,sE]
 have hfl:kB cl.flatten=cl.length*sz:=by grind [jD,Zj]
 have ok:iY z 0 0 cl.length cl.flatten=true:=by
  unfold iY;have h1:Nat.blt (0+cl.length+0) 1000000000=true:=lC.2 (by omega);have h2:Nat.blt ((0+cl.length+0)*z.bytes) 1000000000=true:=lC.2 (by
   have:=ydb (show 0+cl.length+0<=1000000 by omega) hz4;omega)
  grind [lC,bC]
 have newT:∀(q:sA),yB t (t.set n q)/\rE n t (t.set n q):=fun q=>⟨fun c u hc=>by
   grind [Tr.get_set],fun c hc=>by rw[Tr.get_set,yaa hc]⟩
 rcases hs with rfl | ⟨b,c,m,rfl,hb⟩
 ·by_cases h0:cl.length=0
  ·have:cl=[]:=ycc.1 h0;subst this;refine⟨.nilslice,⟨n,t⟩,?_,⟨[],.inl ⟨rfl,rfl⟩,hd⟩,yB.refl _,rE.refl _ _⟩;rw[base];rfl
  ·refine⟨.slice n 0 cl.length cl.length,⟨n+1,t.set n (.cells (Tr.ofList cl.flatten) (kB cl.flatten) (some (cK el z)))⟩,?_,⟨cl,Zt hall (show(t.set n _).get n=_ by rw[Tr.get_set,yab rfl]) (.inr ⟨_,rfl,by rw[Hc,hz2]⟩),iC.mono (newT _).1 _ _ hd⟩,(newT _).1,(newT _).2⟩;rw[base];simp only[zA.asSlice];show mB true (tW ⟨n,t⟩ el z cl.length cl.flatten)=_;rw[sE];unfold tW;have:Nat.beq cl.length 0=false:=by
    grind [bC]
   rw[this,cond_false,ok];rfl
 ·by_cases h0:cl.length=0
  ·have:cl=[]:=ycc.1 h0;subst this;refine⟨.slice b 0 0 0,⟨n,t⟩,?_,⟨[],.inr ⟨b,0,0,rfl,ybk _,⟨c,m,none,hb,.inl rfl⟩,fun i cs hi=>by simp at hi⟩,hd⟩,yB.refl _,rE.refl _ _⟩;rw[base];rfl
  ·refine⟨.slice n 0 cl.length cl.length,⟨n+1,t.set n (.cells (Tr.ofList cl.flatten) (kB cl.flatten) (some (cK el z)))⟩,?_,⟨cl,Zt hall (show(t.set n _).get n=_ by rw[Tr.get_set,yab rfl]) (.inr ⟨_,rfl,by rw[Hc,hz2]⟩),iC.mono (newT _).1 _ _ hd⟩,(newT _).1,(newT _).2⟩;rw[base];simp only[zA.asSlice];have:Nat.ble (0+cl.length) 0=false:=by
    grind [rF]
   rw[this,cond_false];unfold fY;simp only[];rw[show ∀x,(!(Nat.beq 0 1&&x))=true from fun _=>rfl,sE,ok,sE];unfold oD;rw[hb,pA];simp only[sA.asCells,pA];unfold Gs;simp only[Nat.zero_mul];show ob (c.many 0 0) _=_;rw[show c.many 0 0=some [] from rfl,pA];rw[zH,yah,ybw];rfl
end
end Go.Am
namespace Go.Proofs
open Go Go.Am
variable [kC]
variable {t:Tr sA}
def el296:gL yA 240 242 1:=⟨⟨_,mP,rfl,rfl⟩,⟨_,xH,rfl,rfl,by decide,by decide⟩,fun y h=>by rw[xH]at h;cases h;rfl⟩
theorem lit0{T el:Nat}{y z:eC}(hT:yA.tys.get T=some y)(hel:y.desc.asSlice=some el)(hz:yA.tys.get el=some z)(hs:kB z.zero=z.size){b:Nat}(hb:t.get b=none) :
  ∃H',jE yA T 0 [] ⟨b,t⟩=some (.slice b 0 0 0,H')/\(∃c,H'.t.get b=some (.cells c 0 none))/\yB t H'.t:=by
 refine⟨uF ⟨b,t⟩ [] none,?_,⟨Tr.ofList [],?_⟩,?_⟩
 ·unfold jE;rw[hT,pA,hel,pA,hz,pA];have:(Nat.blt (0*z.size) 1000000&&Nat.beq (kB z.zero) z.size)=true:=by simp_all
  rw[this];rfl
 ·show(t.set b _).get b=_;rw[Tr.get_set,yab rfl];rfl
 ·intro c u hc;show(t.set b _).get c=_
  grind [Tr.get_set]
theorem zdz{l:List Nat}{v:zA}{Q:wC}(hv:mA t 1 (sB .u32 l) v)(hl:l.length<1000000)
  (hQ:∀t' v',yB t t'->mA t' 1 (sB .u32 l) v'->Q v' t'):Wc yA F 296 [v] t Q:=by
 refine w296 ?_;have e:(zN .eql).f yA 240 (.tmp 3) (.const (.slice none 0 0)) v .nilslice=some (.bool (Nat.beq v.tag 5)):=by
  obtain⟨cl,h1,_⟩:=hv;rcases h1 with⟨rfl,_⟩ | ⟨b,off,cap,rfl,_⟩
  ·kernel_rfl
  ·kernel_rfl
 simp only[uB,t296,lA,e,xA,Dx];split
 ·grind [qV,bC,yB.refl]
 ·intro b hb hbase;obtain⟨H1,g1,⟨c,g2⟩,g3⟩:=lit0 (t:=t) mP rfl xH rfl hb;rw[g1];simp only[xA];intro n hn _;obtain⟨u,H',g4,g5,g6,_⟩:=OB el296 (hv.mono g3) (by grind [pD]) hn (.inr ⟨b,c,0,rfl,g2⟩);rw[g4];simp only[xA];exact hQ _ _ (g3.trans g6) g5
def Jj(n:Nat):List Nat:=eD [n%4294967296,n / 4294967296]
theorem PH(n:Nat):val 4294967296 (Jj n)=n:=by grind [Jj,gQ,val]
theorem ZT{n:Nat}(h:n<18446744073709551616):wB 4294967296 (Jj n):=bS fun x hx=>by
 grind
theorem VE(n:Nat):norm (Jj n):=yR _
theorem Cx{T el:Nat}{y z:eC}{k:IntKind}(hT:yA.tys.get T=some y)(hel:y.desc.asSlice=some el)(hz:yA.tys.get el=some z)(hzero:z.zero=[.int k 0])(hs:z.size=1)(x:Nat)(hk:True){b:Nat}(hb:t.get b=none) :
  ∃H',jE yA T 1 [(0,.int k (x:Int))] ⟨b,t⟩=some (.slice b 0 1 1,H')/\jF H'.t b k [x]/\yB t H'.t:=by
 refine⟨uF ⟨b,t⟩ [.int k (x:Int)] none,?_,⟨Tr.ofList [.int k (x:Int)],?_,fun j u hj=>?_⟩,?_⟩
 ·unfold jE;rw[hT,pA,hel,pA,hz,pA,hs,hzero];rfl
 ·show(t.set b _).get b=_;rw[Tr.get_set,yab rfl];rfl
 ·grind [Tr.get_ofList]
 ·intro c u hc;show(t.set b _).get c=_
  grind [Tr.get_set]
theorem zcs{T el:Nat}{y z:eC}{k:IntKind}(hT:yA.tys.get T=some y)(hel:y.desc.asSlice=some el)(hz:yA.tys.get el=some z)(hzero:z.zero=[.int k 0])(hs:z.size=1)(x x':Nat){b:Nat}(hb:t.get b=none) :
  ∃H',jE yA T 2 [(0,.int k (x:Int)),(1,.int k (x':Int))] ⟨b,t⟩=some (.slice b 0 2 2,H')/\jF H'.t b k [x,x']/\yB t H'.t:=by
 refine⟨uF ⟨b,t⟩ [.int k (x:Int),.int k (x':Int)] none,?_,⟨Tr.ofList [.int k (x:Int),.int k (x':Int)],?_,fun j u hj=>?_⟩,?_⟩
 ·unfold jE;rw[hT,pA,hel,pA,hz,pA,hs,hzero];rfl
 ·show(t.set b _).get b=_;rw[Tr.get_set,yab rfl];rfl
 ·grind [Tr.get_ofList]
 ·intro c u hc;show(t.set b _).get c=_
  grind [Tr.get_set]
theorem zbx{n:Nat}{Q:wC}(hn:n<18446744073709551616)(hQ:∀t' v',yB t t'->mA t' 1 (sB .u32 (Jj n)) v'->Q v' t'):Wc yA F 288 [.int .u64 n] t Q:=by
 refine w288 ?_;have e1:iA .u32 (n:Int)=((n%4294967296:Nat):Int):=by rw[wT];omega
 have e2:iA .u32 (Int.fdiv (n:Int) 4294967296)=((n / 4294967296:Nat):Int):=by
  rw[show Int.fdiv (n:Int) 4294967296=((n / 4294967296:Nat):Int) from Ax _ 4294967296,jZ (by omega) (by omega)]
 simp only[t288,lA,e1,e2];intro b hb _;obtain⟨H',g1,g2,g3⟩:=zcs (t:=t) (k:=.u32) mP rfl xH rfl rfl (n%4294967296) (n / 4294967296) hb;rw[g1];simp only[xA];obtain⟨v',h1,h2⟩:=Ch (l:=[n%4294967296,n / 4294967296]) (by simp) (g2.all (ybk _));simp only[Fv];have h1:vB yA F 260 [.slice b 0 2 2] H'.t=some v':=h1;rw[h1];exact hQ _ _ g3 h2
theorem QD{l:List Nat}{v:zA}{b:Nat}{neg:Bool}{Q:wC}(hv:mA t 1 (sB .u32 l) v)(hl:l.length<400000)(hlt:wB 4294967296 l)(hne:l≠[])(hnorm:norm l)(hbase:yA.base<=b)(hb:t.get b=none)
  (hQ:∀t' v',yB t t'->mA t' 1 (sB .u16 (eD (bH l))) v'->Q (.agg [.bool neg,v']) t'):∀(k i:Nat) (t':Tr sA),i+k=l.length->yB t t'->jF t' b .u16 (bH (l.take i)++List.replicate (2*k) 0) →
  jp 271 2 [.bool neg,.slice b 0 (2*l.length) (2*l.length),v,.int .i64 l.length,.int .i64 i,.bool false,.nilslice] t' Q:=by
 intro k;induction k with
 | zero=>
  intro i t' hi ht ho;refine zfo ?_;rw[yca (by omega),yat,List.replicate_zero,ycd]at ho;obtain⟨m,w,rfl⟩:=Cy hne;have hw:w≠0:=by have:=hnorm (by simp);simp_all
  have hwlt:w<4294967296:=hlt w (by simp);have hul:(bH (m++[w])).length=2*(m++[w]).length:=Mw _;have hml:(m++[w]).length=m.length+1:=by simp
  have hlast:(bH (m++[w]))[2*m.length+1]?=some (w / 65536):=by
   grind [Iw]
  have hread:=ho.all (cap:=2*(m++[w]).length) (by omega);rw[hul]at hread;have g3:rB yA 30 (.slice b 0 (2*(m++[w]).length) (2*(m++[w]).length)) (.int .i64 ((2*m.length+1:Nat):Int))=some (.ptr b (0+(2*m.length+1)*1)):=Ep zI (by omega);rw[show 0+(2*m.length+1)*1=2*m.length+1 by omega]at g3;have g4:=ho.load hlast lM rfl;have e1:((2*(m++[w]).length:Nat):Int)-1=((2*m.length+1:Nat):Int):=by omega
  have hlen:aA (.slice b 0 (2*(m++[w]).length) (2*(m++[w]).length))=some (.int .i64 ((2*(m++[w]).length:Nat):Int)):=rfl;have hb2:2*m.length+1<1000000:=by omega
  simp (disch:=omega) only[uI,uL,uH,mC,qB,uZ,uW,Tu,lA,uC,hlen,xA,aB,e1,wrap_i64,g3,g4,tE];rw[yaa (by omega)];by_cases hz:w / 65536=0
  ·rw[yab (by omega)];obtain⟨u,g5,g6⟩:=rD.front zI hread (k:=2*m.length+1) (by grind [pD]);rw[g5];simp only[xA];have hone:nE zA.one [.bool neg,u]=true:=by
    show(bif zA.one (.bool neg)then(bif zA.one u then true else false)else false)=true;rw[g6.one];rfl
   grind [Rm,DE,Iw,Mw]
  ·rw[yaa (by omega)];have hone:nE zA.one [.bool neg,.slice b 0 (2*(m++[w]).length) (2*(m++[w]).length)]=true:=rfl
   grind [DE]
 | succ k ih=>
  intro i t' hi ht ho;obtain⟨x,hx⟩:=getElem?_of_lt (l:=l) (i:=i) (by omega);have hxlt:x<4294967296:=xI hlt hx;obtain⟨c,off,g1,g2⟩:=(hv.mono ht).idx oG hx;have htl:(l.take i).length=i:=by grind
  have hpl:(bH (l.take i)).length=2*i:=by rw[Mw,htl]
  have hlen0:(bH (l.take i)++List.replicate (2*(k+1)) 0).length=2*l.length:=by grind
  have g3:∀j,j<2*l.length->rB yA 30 (.slice b 0 (2*l.length) (2*l.length)) (.int .i64 (j:Int))=some (.ptr b j):=by
   intro j hj;have:=Ep (b:=b) (off:=0) (cap:=2*l.length) zI hj
   simp_all
  have g3a:=g3 (2*i) (by omega);have g3b:=g3 (2*i+1) (by omega);obtain⟨t1,s1,s2,s3⟩:=ho.store (C:=yA) hbase (j:=2*i) (by omega) (x%65536) lM rfl;have hs2:(bH (l.take i)++List.replicate (2*(k+1)) 0).set (2*i) (x%65536)=(bH (l.take i)++[x%65536])++List.replicate (2*k+1) 0:=by
   grind [Nw]
  rw[hs2]at s2;obtain⟨t2,s4,s5,s6⟩:=s2.store (C:=yA) hbase (j:=2*i+1) (by simp[hpl]) (x / 65536) lM rfl;have hs5:((bH (l.take i)++[x%65536])++List.replicate (2*k+1) 0).set (2*i+1) (x / 65536)=bH (l.take (i+1))++List.replicate (2*k) 0:=by
   have hq:(bH (l.take i)++[x%65536]).length=2*i+1:=by simp[hpl]
   rw[<- hq,Nw,uT hx,Iw];simp
  rw[hs5]at s5;have e1:iA .u16 (x:Int)=((x%65536:Nat):Int):=by rw[OZ];omega
  have e2:iA .u16 (Int.fdiv (x:Int) 65536)=((x / 65536:Nat):Int):=by
   rw[show Int.fdiv (x:Int) 65536=((x / 65536:Nat):Int) from Ax _ 65536,Bv (by omega) (by omega)]
  have e3:(2:Int)*(i:Int)=((2*i:Nat):Int):=by omega
  have e4:((2*i:Nat):Int)+1=((2*i+1:Nat):Int):=by omega
  refine zfo ?_;simp (disch:=omega) only[uI,uL,uH,mC,qB,uZ,uW,Tu,lA,uC,g1,g2,xA,aB,e1,e2,e3,e4,wrap_i64,g3a,g3b];rw[yab (by omega)];intro d _ _;rw[s1];simp only[xA];intro d' _ _;rw[s4];simp only[xA];have:=ih (i+1) t2 (by omega) ((ht.off hb s3).off hb s6) s5
  grind
theorem QC{l:List Nat}{v:zA}{neg:Bool}{Q:wC}(hv:mA t 1 (sB .u32 l) v)(hl:l.length<400000)(hlt:wB 4294967296 l)
  (hQ:∀t' v',yB t t'->mA t' 1 (sB .u16 (eD (bH (eD l)))) v'->Q (.agg [.bool (if eD l=[]then false else neg),v']) t'):Wc yA F 271 [.bool neg,v] t Q:=by
 refine w271 ?_;obtain⟨u,h1,h2⟩:=Ch (l:=l) (by omega) hv;have hsl:=Vf l;simp only[uI,uZ,uW,t271,lA,Fv,h1,xA,h2.len,aB,pD,tE];by_cases h0:eD l=[]
 ·rw[yab (by grind)];simp only[if_true];have:=hQ t .nilslice (yB.refl _) (by rw[h0];exact⟨[],.inl ⟨rfl,rfl⟩,by simp[bH,eD,sB,iC]⟩)
  simp_all
 ·have hpos:0<(eD l).length:=List.length_pos_iff.2 h0;rw[yaa (by omega)];have e1:(2:Int)*((eD l).length:Int)=((2*(eD l).length:Nat):Int):=by omega
  simp (disch:=omega) only[e1,wrap_i64];intro b hb hbase;obtain⟨t',g1,g2,g3,_⟩:=Af (C:=yA) (k:=.u16) tV rfl lM rfl rfl (by decide) (n:=2*(eD l).length) (by omega) hb;rw[g1];simp only[xA];refine QD h2 (by omega) (bS hlt) h0 (yR l) hbase hb (fun t2 v2 a b=>?_) (eD l).length 0 t' (by omega) g3 (by grind [bH])
  simp_all
end Go.Proofs
namespace Go.Proofs
open Go Go.Am
section
variable [kC]
variable {t:Tr sA}
theorem Dd{T el:Nat}(h:rD yA T el 1 false){b n cap j:Nat}(hj:j<n):rB yA T (.slice b 0 n cap) (.int .i64 (j:Int))=some (.ptr b j):=by
 have:=Ep (b:=b) (off:=0) (cap:=cap) h hj
 simp_all
theorem KL{x s:Nat}(hs:s<64)(hx:x*2^s<18446744073709551616):kU .u64 (x:Int) (s:Int)=some (.int .u64 ((x*2^s:Nat):Int)):=by
 unfold kU Ck;have:yL (s:Int)=some s:=rfl;rw[this,pA,pA];have hm:min s (IntKind.bits .u64)=s:=by show min s 64=s;omega
 rw[hm];have e:(x:Int)*Int.ofNat (2^s)=((x*2^s:Nat):Int):=by simp_all
 rw[e,yG (by omega) (by omega)]
def KK{x s:Nat}(hs:s<65):De .u64 (x:Int) (s:Int)=some (.int .u64 ((x / 2^s:Nat):Int)):=by
 unfold De Ck;have:yL (s:Int)=some s:=rfl;rw[this,pA,pA];have hm:min s (IntKind.bits .u64)=s:=by show min s 64=s;omega
 rw[hm];have e:Int.fdiv (x:Int) (Int.ofNat (2^s))=((x / 2^s:Nat):Int):=Ax x (2^s);rw[e]
def UH{s:Nat}(hs:s<32):2^s<=2147483648:=yao (n:=2) (by decide) (show s<=31 by omega)
def GD{s:Nat}(hs:s<=32):2^s*2^(32-s)=4294967296:=by rw[<- Nat.pow_add,show s+(32-s)=32 by omega]
def zid{x s:Nat}(hs:s<=32):(x*2^s%4294967296)%2^s=0:=by
 rw[<- GD hs,ybh x,Nat.mul_mod_mul_left,Nat.mul_mod_right]
theorem RY{l:List Nat}{v:zA}{b s:Nat}{Q:wC}(hv:mA t 1 (sB .u32 l) v)(hl:l.length<900000)(hlt:wB 4294967296 l)(hs:s<32)(hbase:yA.base<=b)(hb:t.get b=none)
  (hQ:∀t' r,yB t t'->rE b t t'->jF t' b .u32 r->r.length=l.length+1->wB 4294967296 r->val 4294967296 r=val 4294967296 l*2^s->Q (.slice b 0 (l.length+1) (l.length+1)) t') :
  ∀(k i:Nat) (t':Tr sA) (P:List Nat) (c:Nat),i+k=l.length->yB t t'->rE b t t'->jF t' b .u32 ((P++[c])++List.replicate k 0)->P.length=i->c<2^s->wB 4294967296 P->val 4294967296 P+4294967296^i*c=val 4294967296 (l.take i)*2^s →
  jp 297 2 [.int .i64 s,.slice b 0 (l.length+1) (l.length+1),v,.int .i64 l.length,.int .i64 i] t' Q:=by
 have hp2:=UH hs
 intro k;induction k with
 | zero=>
  intro i t' P c hi ht hoff ho hP hc hPl hval;refine zfj ?_;simp only[uL,uE,qB,uZ,Tn,lA,uC];rw[yaa (by omega)];rw[List.replicate_zero,ycd]at ho;refine hQ t' (P++[c]) ht hoff ho (by grind) (aS hPl (by omega)) ?_;rw[mK,hP,hval,yca (by omega)]
 | succ k ih=>
  intro i t' P c hi ht hoff ho hP hc hPl hval;obtain⟨x,hx⟩:=getElem?_of_lt (l:=l) (i:=i) (by omega);have hxlt:x<4294967296:=xI hlt hx;obtain⟨d,off,g1,g2⟩:=(hv.mono ht).idx oG hx;have hxs:x*2^s<4294967296*2^s:=Nat.mul_lt_mul_of_pos_right hxlt (Nat.pow_pos (by decide));have hxs2:x*2^s<18446744073709551616:=by
   omega
  have hlow:=zid (x:=x) (s:=s) (by omega);have hlor:Nat.lor c (x*2^s%4294967296)=x*2^s%4294967296+c:=by
   have:=or_low (a:=x*2^s%4294967296) (b:=c) (n:=s) hc hlow
   simp_all [Nat.or_comm]
  have hsum:x*2^s%4294967296+c<4294967296:=by
   have h1:x*2^s%4294967296<4294967296:=ycy _ (by decide);have h2:(4294967296:Nat)%2^s=0:=by rw[<- GD (s:=s) (by omega),Nat.mul_mod_right]
   obtain⟨p,hp⟩:=Nat.dvd_of_mod_eq_zero hlow;obtain⟨q,hq⟩:=Nat.dvd_of_mod_eq_zero h2;have hpq:p<q:=by
    rcases yau p q with g | g
    ·exact g
    ·have:=ybv (2^s) g;omega
   have:=ybv (2^s) (show p+1<=q from hpq)
   grind
  have hhigh:x*2^s / 4294967296<2^s:=ycu (by omega);have hlen0:((P++[c])++List.replicate (k+1) 0).length=l.length+1:=by simp;omega
  have g3a:=Dd oG (b:=b) (n:=l.length+1) (cap:=l.length+1) (j:=i) (by omega);have g3b:=Dd oG (b:=b) (n:=l.length+1) (cap:=l.length+1) (j:=i+1) (by omega);have g4:=ho.load (j:=i) (x:=c) (by simp_all [ybp]) xH rfl;obtain⟨t1,s1,s2,s3⟩:=ho.store (C:=yA) hbase (j:=i) (by omega) (x*2^s%4294967296+c) xH rfl;have hs2:((P++[c])++List.replicate (k+1) 0).set i (x*2^s%4294967296+c)=(P++[x*2^s%4294967296+c])++List.replicate (k+1) 0:=by
   simp_all
  rw[hs2]at s2;obtain⟨t2,s4,s5,s6⟩:=s2.store (C:=yA) hbase (j:=i+1) (by grind) (x*2^s / 4294967296) xH rfl;have hs5:((P++[x*2^s%4294967296+c])++List.replicate (k+1) 0).set (i+1) (x*2^s / 4294967296)=((P++[x*2^s%4294967296+c])++[x*2^s / 4294967296])++List.replicate k 0:=by
   have hq:(P++[x*2^s%4294967296+c]).length=i+1:=by simp[hP]
   grind [Nw]
  rw[hs5]at s5;refine zfj ?_;have e1:iA .u32 ((x*2^s:Nat):Int)=((x*2^s%4294967296:Nat):Int):=by rw[wT];omega
  have e2:iA .u32 (Int.fdiv ((x*2^s:Nat):Int) 4294967296)=((x*2^s / 4294967296:Nat):Int):=by
   rw[show Int.fdiv ((x*2^s:Nat):Int) 4294967296=((x*2^s / 4294967296:Nat):Int) from Ax _ 4294967296];generalize x*2^s=z at hhigh ⊢;rw[jZ (by omega) (by omega)]
  simp (disch:=omega) only[uL,uE,qB,uZ,Tn,lA,uC,g1,g2,xA,aB,yG,g3a,g4];rw[yab (by omega),KL (by omega) hxs2];simp only[xA,aB,e1];have e3:gI Nat.lor .u32 (c:Int) ((x*2^s%4294967296:Nat):Int)=some (.int .u32 ((x*2^s%4294967296+c:Nat):Int)):=by
   rw[iU (k:=.u32) (x:=c) (y:=x*2^s%4294967296) (show c<gG .u32 by show c<4294967296;omega) (by show x*2^s%4294967296<4294967296;omega),hlor]
  rw[e3];simp only[xA,aB];intro _ _ _;rw[s1];simp (disch:=omega) only[xA,wrap_i64];rw[show(i:Int)+1=((i+1:Nat):Int) by omega,g3b];simp only[xA,e2];intro _ _ _;rw[s4];simp only[xA];refine ih (i+1) t2 _ _ (by omega) ((ht.off hb s3).off hb s6) ((hoff.trans s3).trans s6) s5 (by simp[hP]) hhigh (aS hPl hsum) ?_;rw[mK,hP,uT hx,mK,ybo,<- hval];have:(l.take i).length=i:=by simp;omega
  grind [Nat.div_add_mod]
theorem DV{l:List Nat}{v:zA}{s:Nat}{Q:wC}(hv:mA t 1 (sB .u32 l) v)(hl:l.length<900000)(hlt:wB 4294967296 l)(hs:s<32)
  (hQ:∀t' b r,yB t t'->t.get b=none->yA.base<=b->jF t' b .u32 r->r.length=l.length+1->wB 4294967296 r->val 4294967296 r=val 4294967296 l*2^s->Q (.slice b 0 (l.length+1) (l.length+1)) t'):Wc yA F 297 [v,.int .i64 s] t Q:=by
 refine w297 ?_;simp (disch:=omega) only[uI,qB,uZ,t297,lA,hv.len,xA,aB,pD,wrap_i64];intro b hb hbase;obtain⟨t',g1,g2,g3,g4⟩:=Af (C:=yA) (k:=.u32) mP rfl xH rfl rfl (by decide) (n:=l.length+1) (by omega) hb;rw[show(l.length:Int)+1=((l.length+1:Nat):Int) by omega,g1];simp only[xA];have:=RY hv hl hlt hs hbase hb (fun t' r a _ c d e f=>hQ t' b r a hb hbase c d e f) l.length 0 t' [] 0 (by omega) g3 g4 (by grind) rfl (Nat.pow_pos (by decide)) (fun x hx=>by cases hx) (by simp[val])
 exact this
theorem YB{l:List Nat}{v:zA}{b d:Nat}{Q:wC}(hv:mA t 1 (sB .u32 l) v)(hl:l.length<900000)(hlt:wB 4294967296 l)(hd:d<4294967296)(hd0:0<d)(hbase:yA.base<=b)(hb:t.get b=none)
  (hQ:∀t' v' q r,yB t t'->mA t' 1 (sB .u32 (eD q)) v'->wB 4294967296 q->q.length=l.length->r<d->val 4294967296 l=val 4294967296 q*d+r->Q (.tup [v',.int .u32 (r:Nat)]) t') :
  ∀(i:Nat) (t':Tr sA) (q:List Nat) (r:Nat),i<=l.length->yB t t'->jF t' b .u32 (List.replicate i 0++q)->q.length=l.length-i->wB 4294967296 q->r<d->val 4294967296 (l.drop i)=val 4294967296 q*d+r →
  jp 241 2 [v,.int .u32 d,.slice b 0 l.length l.length,.int .u32 r,.int .i64 ((i:Int)-1)] t' Q:=by
 intro i;induction i with
 | zero=>
  intro t' q r _ ht ho hq hql hr hval;refine zfz ?_;simp only[uL,uX,uZ,uW,Ug,lA,mD];rw[yaa (by omega)];rw[List.replicate_zero,yah]at ho;have hread:=ho.all (ybk _);have hqlen:q.length=l.length:=by omega
  rw[hqlen]at hread;obtain⟨v',h1,h2⟩:=Ch (l:=q) (by omega) hread;simp only[Fv,h1,xA];grind
 | succ i ih=>
  intro t' q r hi ht ho hq hql hr hval;obtain⟨x,hx⟩:=getElem?_of_lt (l:=l) (i:=i) (by omega);have hxlt:x<4294967296:=xI hlt hx;obtain⟨c,off,g1,g2⟩:=(hv.mono ht).idx oG hx;have e1:((i+1:Nat):Int)-1=(i:Int):=by omega
  have g3:=Dd oG (b:=b) (n:=l.length) (cap:=l.length) (j:=i) (by omega);have hlen0:(List.replicate (i+1) 0++q).length=l.length:=by grind
  have hdiv:=zdn (t:=t') hr hxlt hd;have hqlt:(r*4294967296+x) / d<4294967296:=DU hr hxlt;have hrlt:(r*4294967296+x)%d<d:=ycy _ hd0;obtain⟨t1,s1,s2,s3⟩:=ho.store (C:=yA) hbase (j:=i) (by omega) ((r*4294967296+x) / d) xH rfl;have hs2:(List.replicate (i+1) 0++q).set i ((r*4294967296+x) / d)=List.replicate i 0++((r*4294967296+x) / d::q):=by
   grind [List.replicate_succ',set_append_right]
  rw[hs2]at s2;rw[e1];refine zfz ?_;simp (disch:=omega) only[uL,uX,uZ,uW,Ug,lA,mD,g1,g2,xA,aB,q259,hdiv,eJ,zA.asTup,pA,g3,wrap_i64];rw[yab (by omega)];simp only[nG,yaz,yba,xA,aB];intro _ _ _;rw[s1];simp only[xA];refine ih t1 _ _ (by omega) (ht.off hb s3) s2 (by grind) ?_ hrlt ?_
  ·intro y hy;rcases ybs.1 hy with rfl | hy
   ·exact hqlt
   ·exact hql y hy
  ·rw[drop_cons' hx]
   grind [val,Nat.div_add_mod]
theorem MC{l:List Nat}{v:zA}{d:Nat}{Q:wC}(hv:mA t 1 (sB .u32 l) v)(hl:l.length<900000)(hlt:wB 4294967296 l)(hd:d<4294967296)(hd0:0<d)
  (hQ:∀t' v' q r,yB t t'->mA t' 1 (sB .u32 (eD q)) v'->wB 4294967296 q->q.length=l.length->r<d->val 4294967296 l=val 4294967296 q*d+r->Q (.tup [v',.int .u32 (r:Nat)]) t'):Wc yA F 241 [v,.int .u32 d] t Q:=by
 refine w241 ?_;simp (disch:=omega) only[uI,uZ,uW,t241,lA,hv.len,xA,aB,pD,wrap_i64];intro b hb hbase;obtain⟨t',g1,g2,g3,g4⟩:=Af (C:=yA) (k:=.u32) mP rfl xH rfl rfl (by decide) (n:=l.length) (by omega) hb;rw[g1];simp only[xA];exact YB hv hl hlt hd hd0 hbase hb hQ l.length t' [] 0 (ybk _) g3 (by simp_all) (by simp) (fun x hx=>by cases hx) hd0 (by simp[val])
end
section
variable [kC]
theorem zao{l:List Nat}{y:zA}{box:Nat}{v:zA}{Q:wC}{I:Nat->Tr sA->Prop}(hl:l.length<1000000)
  (hr:∀k t,I k t->dA yA 240 ⟨0,t⟩ (.ptr box 0)=some v/\mA t 1 (sB .u32 l) v)
  (hy:∀k x t,l[k]?=some x->I (k+1) t->∀R:wC,(∀t',I k t'->R (.bool true) t')->oE (cS y [.int .u32 (x:Nat)]) fun p=>Wq yA F gE p.1 p.2 t R)
  (hQ:∀t,I 0 t->Q (.tup []) t):∀(k:Nat) (t:Tr sA),k<=l.length->I k t->jp 261 2 [y,.ptr box 0,.int .i64 ((k:Int)-1)] t Q:=by
 intro k;induction k with
 | zero=>
  intro t _ h;refine zfq ?_;simp only[Tw,lA,mD];simp_all
 | succ k ih=>
  intro t hk h;obtain⟨g0,hv⟩:=hr _ _ h;obtain⟨x,hx⟩:=getElem?_of_lt (l:=l) (i:=k) (by omega);obtain⟨c,off,g1,g2⟩:=hv.idx oG hx;have e1:((k+1:Nat):Int)-1=(k:Int):=by omega
  rw[e1];refine zfq ?_;simp (disch:=omega) only[Tw,lA,mD,g0,g1,g2,xA,aB,wrap_i64];rw[yab (by omega)];refine hy k x t hx h _ fun t' ht'=>?_
  grind [zA.asBool,xA]
def zjq{l:List Nat}{y:zA}{box:Nat}{v:zA}{Q:wC}{t:Tr sA}{I:Nat->Tr sA->Prop}(hl:l.length<1000000)
  (hr:∀k t,I k t->dA yA 240 ⟨0,t⟩ (.ptr box 0)=some v/\mA t 1 (sB .u32 l) v)
  (hy:∀k x t,l[k]?=some x->I (k+1) t->∀R:wC,(∀t',I k t'->R (.bool true) t')->oE (cS y [.int .u32 (x:Nat)]) fun p=>Wq yA F gE p.1 p.2 t R)
  (hQ:∀t,I 0 t->Q (.tup []) t) (h:I l.length t):Wc yA F 261 [y,.ptr box 0] t Q:=by
 obtain⟨g0,hv⟩:=hr _ _ h;refine w261 ?_;simp (disch:=omega) only[t261,lA,g0,hv.len,pD,xA,aB,wrap_i64];exact zao hl hr hy hQ l.length t (ybk _) h
end
end Go.Proofs
namespace Go.Am
open Go Go.RowKit
section
variable {t tf:Tr sA}{C:fA}
theorem iK{n:Nat}(hn:t.get n=none)(q:sA):yB t (t.set n q)/\rE n t (t.set n q):=
 ⟨fun c u hc=>by grind [Tr.get_set],fun c hc=>by rw[Tr.get_set,yaa hc]⟩
theorem XY{sz n:Nat}{cl:List (List zA)}{t':Tr sA}{lo:Option Lo}(hl:∀(i:Nat) cs,cl[i]?=some cs->cs.length=sz)(h:t'.get n=some (.cells (Tr.ofList cl.flatten) (kB cl.flatten) lo))(hlo:lo=none\/∃x,lo=some x/\x.es=sz){k:Nat}(hk:cl.length=k):tJ t' sz (.slice n 0 k k) cl:=by
 grind [Zt]
theorem Pq{T el sz n:Nat}{y z:eC}{ps:List (Nat × zA)}{cl:List (List zA)}(hT:C.tys.get T=some y)(hel:y.desc.asSlice=some el)(hz:C.tys.get el=some z)(hs:z.size=sz)(h0:kB z.zero=sz)(hn:n*sz<1000000)
  (hfill:iN (fun i=>some (i*sz,sz)) ps (oJ z.zero n)=some cl.flatten) (hcl:∀(i:Nat) cs,cl[i]?=some cs->cs.length=sz) (hlen:cl.length=n) {b:Nat} (hb:t.get b=none) :
  ∃t',jE C T n ps ⟨b,t⟩=some (.slice b 0 n n,⟨b+1,t'⟩)/\tJ t' sz (.slice b 0 n n) cl/\yB t t'/\rE b t t':=by
 refine⟨t.set b (.cells (Tr.ofList cl.flatten) (kB cl.flatten) none),?_,XY hcl (by rw[Tr.get_set,yab rfl]) (.inl rfl) hlen,(iK hb _).1,(iK hb _).2⟩;unfold jE;rw[hT,pA,hel,pA,hz,pA];have:(Nat.blt (n*z.size) 1000000&&Nat.beq (kB z.zero) z.size)=true:=by
  simp_all
 rw[this,sE,hs,hfill];rfl
def cG(cd:Lo)(base:Nat)(tf t:Tr sA)(sz:Nat)(l:List D)(v:zA):Prop:=
 (v=.nilslice/\l=[])\/∃b cl c,v=.slice b 0 l.length l.length/\base<=b/\tf.get b=none/\t.get b=some (.cells c (l.length*sz) (some cd)) ∧
  (∀(i:Nat) cs,cl[i]?=some cs->cs.length=sz/\∀(j:Nat) a,cs[j]?=some a->c.get (i*sz+j)=some a)/\iC tf l cl
abbrev Bn(base:Nat)(tf t:Tr sA)(sz:Nat)(l:List D)(v:zA):Prop:=cG (.sz sz) base tf t sz l v
def dM(v:zA)(b:Nat):Prop:=∃o n c,v=.slice b o n c
theorem Qj{b:Nat}:¬ dM .nilslice b:=fun⟨_,_,_,h⟩=>by cases h
theorem Ak{b c o n k:Nat}:dM (.slice b o n k) c ↔ c=b:=⟨fun⟨_,_,_,h⟩=>by grind,fun h=>by subst h;exact⟨_,_,_,rfl⟩⟩
theorem cG.read{cd:Lo}{base sz:Nat}{l:List D}{v:zA}(hcd:cd.es=sz)(h:cG cd base tf t sz l v)(ht:yB tf t):mA t sz l v:=by
 rcases h with⟨rfl,rfl⟩ | ⟨b,cl,c,rfl,_,_,h1,h2,h3⟩
 ·exact⟨[],.inl ⟨rfl,rfl⟩,wI.2 rfl⟩
 ·have hlen:=h3.length;refine⟨cl,.inr ⟨b,0,l.length,by rw[hlen],by omega,⟨c,_,_,h1,.inr ⟨_,rfl,hcd⟩⟩,fun i cs hi=>⟨(h2 i cs hi).1,c,_,_,h1,fun j a hj=>?_⟩⟩,iC.mono ht _ _ h3⟩
  simp_all
theorem cG.len{cd:Lo}{base sz:Nat}{l:List D}{v:zA}(h:cG cd base tf t sz l v):aA v=some (.int .i64 (l.length:Int)):=by
 rcases h with⟨rfl,rfl⟩ | ⟨b,cl,c,rfl,_⟩
 ·rfl
 ·rfl
theorem cG.none{cd:Lo}{base sz:Nat}{l:List D}{v:zA}(h:cG cd base tf t sz l v){b:Nat}(hb:dM v b):tf.get b=none/\base<=b/\∃y,t.get b=some y:=by
 rcases h with⟨rfl,rfl⟩ | ⟨c,cl,x,rfl,h1,h2,h3,_⟩
 all_goals grind [Qj,Ak]
theorem OA{T U el sz:Nat}{cd:Lo}(hT:Ia C T el sz)(hU:∃u,C.tys.get U=some u/\Nat.beq u.desc.tag 1=false)(hcd:∀z,C.tys.get el=some z->cK el z=cd){l m:List D}{v x:zA}{cm:List (List zA)}(hv:cG cd C.base tf t sz l v)(hall:∀(i:Nat) cs,cm[i]?=some cs->cs.length=sz)(hx:∀n,pR ⟨n,t⟩ sz cm.length x=some cm.flatten/\sY x=some cm.length)(hm:iC tf m cm)(hone:∀a∈cm.flatten,zA.one a=true)(hpos:0<m.length)(hl:l.length+m.length<400000){n:Nat}(hn:t.get n=none)(hbase:C.base<=n)(ht:yB tf t) :
  ∃t',vF C T U v x ⟨n,t⟩=some (.slice n 0 (l.length+m.length) (l.length+m.length),⟨n+1,t'⟩)/\cG cd C.base tf t' sz (l++m) (.slice n 0 (l.length+m.length) (l.length+m.length))/\yB tf t'/\(∀c,c≠n->¬ dM v c->t'.get c=t.get c):=by
 obtain⟨⟨y,hy1,hy2,hy3⟩,⟨z,hz1,hz2,hz3,hz4,hz5⟩⟩:=hT;have hcode:=hcd z hz1;have hcm:=hm.length;obtain⟨hf,hlen⟩:=hx n;obtain⟨u,hu1,hu2⟩:=hU;have hflat:=Zj hall;have hfl:kB cm.flatten=cm.length*sz:=by grind [jD]
 have hfn:tf.get n=none:=by
  cases hq:tf.get n with
  | none=>rfl
  | some u=>rw[ht _ _ hq]at hn;cases hn
 have base:vF C T U v x ⟨n,t⟩=(match v.asSlice with
  | some s=>bif Nat.ble (s.2.2.1+cm.length) s.2.2.2 then jY C ⟨n,t⟩ z cm.length cm.flatten s else fY C ⟨n,t⟩ el z cm.length cm.flatten s
  | none=>mB (Nat.beq v.tag 5) (tW ⟨n,t⟩ el z cm.length cm.flatten)):=by
  unfold vF iW;grind [pA,sE]
 have ok:iY z l.length l.length cm.length cm.flatten=true:=by
  unfold iY;have h1:Nat.blt (l.length+cm.length+l.length) 1000000000=true:=lC.2 (by omega);have h2:Nat.blt ((l.length+cm.length+l.length)*z.bytes) 1000000000=true:=lC.2 (by
   have:=ydb (show l.length+cm.length+l.length<=800000 by omega) hz4;omega)
  grind [lC,bC]
 rcases hv with⟨rfl,rfl⟩ | ⟨b,cl,c,rfl,hb0,hb1,hb2,hb3,hb4⟩
 ·refine⟨t.set n (.cells (Tr.ofList cm.flatten) (kB cm.flatten) (some cd)),?_,.inr ⟨n,cm,Tr.ofList cm.flatten,by simp,hbase,hfn,?_,fun i cs hi=>⟨hall i cs hi,fun j a hj=>?_⟩,by simp_all⟩,?_,fun c hc _=>(iK hn _).2 c hc⟩
  ·rw[base];simp only[zA.asSlice];show mB true (tW ⟨n,t⟩ el z cm.length cm.flatten)=_;rw[sE];unfold tW;have:Nat.beq cm.length 0=false:=by
    grind [bC]
   have ok:iY z 0 0 cm.length cm.flatten=true:=ok;rw[this,cond_false,ok,sE,hcm,hcode];simp only[ybx,ybw];rfl
  ·grind [Tr.get_set]
  ·grind [Tr.get_ofList,Di]
  ·exact ht.trans (iK hn _).1
 ·have hcl:=hb4.length;have hbn:b≠n:=by grind
  refine⟨(t.del b).set n (.cells (c.setMany cm.flatten (l.length*z.size)) ((l.length+cm.length)*z.size) (some cd)),?_,.inr ⟨n,cl++cm,c.setMany cm.flatten (l.length*z.size),by simp,hbase,hfn,?_,fun i cs hi=>?_,?_⟩,fun k u hk=>?_,fun k hk1 hk2=>?_⟩
  ·rw[base];simp only[zA.asSlice];have:Nat.ble (l.length+cm.length) l.length=false:=by
    grind [rF]
   rw[this,cond_false];unfold fY;simp only[];rw[show ∀x,(!(Nat.beq 0 1&&x))=true from fun _=>rfl,sE,ok,sE];unfold oD;rw[hb2,pA];simp only[sA.asCells,pA];unfold Gt;simp only[];have g1:loEq cd (cK el z)=true:=by grind [HK]
   have g2:Nat.ble (l.length*z.size) (l.length*sz)=true:=rF.2 (by simp_all);have g3:Nat.ble (l.length*sz) ((l.length+cm.length)*z.size)=true:=rF.2 (by grind);have g4:nE zA.one cm.flatten=true:=by grind [iI]
   have g5:(!Nat.blt b C.base)=true:=by
    grind [lC]
   rw[g1,g2,g3,g4,g5];simp_all
  ·rw[Tr.get_set,yab rfl,hz2,hcm,ybg]
  ·rw[List.getElem?_append]at hi;split at hi
   ·rename_i hlt;obtain⟨k1,k2⟩:=hb3 i cs hi;refine⟨k1,fun j a hj=>?_⟩;have hjl:j<sz:=by grind
    have:i*sz+j<l.length*sz:=by
     have:=ybi sz (show i+1<=l.length by omega)
     grind
    grind [Tr.get_setMany]
   ·rename_i hge;have k1:=hall _ cs hi;refine⟨k1,fun j a hj=>?_⟩;have hf1:=Di hall _ j cs a hi hj;have hlt:=(ybc.1 hf1).1;have e:i*sz=l.length*sz+(i-cl.length)*sz:=by rw[<- ybo];simp_all
    grind [Tr.get_setMany]
  ·have app:∀ {l m:List D} {cl cm:List (List zA)},iC tf l cl->iC tf m cm->iC tf (l++m) (cl++cm):=by
    intro l;induction l with
    | nil=>grind [wI]
    | cons d l ih=>
     grind [jH]
   simp_all
  ·have h1:k≠b:=by grind
   have h2:k≠n:=by grind
   rw[Tr.get_set,yaa h2,Tr.get_del,yaa h1];exact ht _ _ hk
  grind [Tr.get_set,Tr.get_del,Ak]
def ZM{T el sz:Nat}{cd:Lo}(hT:Ia C T el sz)(hcd:∀z,C.tys.get el=some z->cK el z=cd){l m:List D}{v x:zA}{cm:List (List zA)}(hv:cG cd C.base tf t sz l v)(hx:tJ t sz x cm)(hm:iC tf m cm)(hone:∀a∈cm.flatten,zA.one a=true)(hpos:0<m.length)(hl:l.length+m.length<400000){n:Nat}(hn:t.get n=none)(hbase:C.base<=n)(ht:yB tf t) :
  ∃t',vF C T T v x ⟨n,t⟩=some (.slice n 0 (l.length+m.length) (l.length+m.length),⟨n+1,t'⟩)/\cG cd C.base tf t' sz (l++m) (.slice n 0 (l.length+m.length) (l.length+m.length))/\yB tf t'/\(∀c,c≠n->¬ dM v c->t'.get c=t.get c):=by
 obtain⟨y,hy1,hy2,hy3⟩:=hT.ty;exact OA hT ⟨y,hy1,hy3⟩ hcd hv hx.len (fun n=>hx.first (n:=n)) hm hone hpos hl hn hbase ht
theorem cG.freeze{cd:Lo}{base sz:Nat}{l:List D}{v:zA}(hcd:cd.es=sz)(h:cG cd base tf t sz l v)(ht:yB tf t):∃tf',yB tf tf'/\yB tf' t/\mA tf' sz l v/\∀b,¬ dM v b->tf'.get b=tf.get b:=by
 rcases h with⟨rfl,rfl⟩ | ⟨b,cl,c,rfl,h0,h1,h2,h3,h4⟩
 ·exact⟨tf,yB.refl _,ht,⟨[],.inl ⟨rfl,rfl⟩,wI.2 rfl⟩,fun _ _=>rfl⟩
 ·have hlen:=h4.length;refine⟨tf.set b (.cells c (l.length*sz) (some cd)),(iK h1 _).1,fun k u hk=>?_,⟨cl,.inr ⟨b,0,l.length,by rw[hlen],by omega,⟨c,_,_,by rw[Tr.get_set,yab rfl],.inr ⟨_,rfl,hcd⟩⟩,fun i cs hi=>⟨(h3 i cs hi).1,c,_,_,(by rw[Tr.get_set,yab rfl]),fun j a hj=>?_⟩⟩,iC.mono (iK h1 _).1 _ _ h4⟩,fun k hk=>by rw[Tr.get_set,yaa (fun e=>hk (Ak.2 e))]⟩
  ·rw[Tr.get_set]at hk;split at hk
   ·simp_all
   ·exact ht _ _ hk
  simp_all
theorem Bn.read{base sz:Nat}{l:List D}{v:zA}(h:Bn base tf t sz l v)(ht:yB tf t):mA t sz l v:=cG.read rfl h ht
end
end Go.Am
namespace Go.Am
open Go Go.RowKit
section
def wD (t:Tr sA)(b:Nat)(lo:Option Lo)(cs:List zA):Prop:=∃c,t.get b=some (.cells c cs.length lo)/\∀(j:Nat) a,cs[j]?=some a->c.get j=some a
def eX(cs:List zA)(j:Nat)(l:List zA):List zA:=cs.take j++(l++cs.drop (j+l.length))
theorem UP{cs l:List zA}{j:Nat}(h:j+l.length<=cs.length):(eX cs j l).length=cs.length:=by
 grind [eX]
theorem GP{cs l:List zA}{j:Nat}(h:j+l.length<=cs.length)(k:Nat):(eX cs j l)[k]?=if j<=k/\k<j+l.length then l[k-j]? else cs[k]?:=by
 grind [eX]
section
variable {t tf:Tr sA}{C:fA}{b:Nat}{lo:Option Lo}{cs:List zA}
theorem wD.at(h:wD t b lo cs):At t b 0 cs:=by
 obtain⟨c,h1,h2⟩:=h;exact⟨c,_,_,h1,fun j a hj=>by simp_all⟩
theorem wD.off(h:wD t b lo cs){t':Tr sA}(k:t'.get b=t.get b):wD t' b lo cs:=by
 obtain⟨c,h1,h2⟩:=h;exact⟨c,by simp_all,h2⟩
theorem wD.load1(h:wD t b lo cs){j:Nat}{a:zA}{ty:Nat}{y:eC}(hy:C.tys.get ty=some y)(ha:y.desc.isAgg=false)(hj:cs[j]?=some a):dA C ty ⟨0,t⟩ (.ptr b j)=some a:=by
 have:=h.at.load1 hy ha hj
 simp_all
theorem wD.store(h:wD t b lo cs)(hb:C.base<=b){j T:Nat}{y:eC}{v:zA}(hT:C.tys.get T=some y)(hl:v.cells.length=y.size)(hj:j+v.cells.length<=cs.length)(hone:nE zA.one v.cells=true) :
  ∃t',(∀n,pE C T (.ptr b j) v ⟨n,t⟩=some (vE,⟨n,t'⟩))/\wD t' b lo (eX cs j v.cells)/\rE b t t':=by
 obtain⟨c,h1,h2⟩:=h;refine⟨t.set b (.cells (c.setMany v.cells j) cs.length lo),fun n=>?_,⟨c.setMany v.cells j,?_,fun k a hk=>?_⟩,fun d hd=>by rw[Tr.get_set,yaa hd]⟩
 ·unfold pE;rw[hT,pA];simp only[zA.asPtr,pA];have e1:Nat.beq (kB v.cells) y.size=true:=by grind [jD,bC]
  rw[e1,sE];unfold zJ oD;have e2:(!Nat.blt b C.base)=true:=by
   grind [lC]
  rw[e2,sE,h1,pA];simp only[sA.asCells,pA];have e3:Nat.ble (j+kB v.cells) cs.length=true:=by simp_all
  rw[e3,hone];rfl
 all_goals grind [Tr.get_set,UP,GP,Tr.get_setMany]
theorem wD.store1(h:wD t b lo cs)(hb:C.base<=b){j T:Nat}{y:eC}{v:zA}(hT:C.tys.get T=some y)(hs:y.size=1)(hv:v.cells=[v])(hone:zA.one v=true)(hj:j<cs.length) :
  ∃t',(∀n,pE C T (.ptr b j) v ⟨n,t⟩=some (vE,⟨n,t'⟩))/\wD t' b lo (cs.set j v)/\rE b t t':=by
 obtain⟨t',h1,h2,h3⟩:=h.store hb hT (v:=v) (j:=j) (by simp_all) (by grind) (by rw[hv];show(bif zA.one v then true else false)=true;simp_all);refine⟨t',h1,?_,h3⟩;have e:eX cs j v.cells=cs.set j v:=by
  rw[hv];apply List.ext_getElem?
  grind [GP]
 simp_all
theorem aX{b:Nat}(hb:t.get b=none)(cs:List zA)(lo:Option Lo):∃t',uF ⟨b,t⟩ cs lo=⟨b+1,t'⟩/\wD t' b lo cs/\yB t t'/\rE b t t':=
 ⟨t.set b (.cells (Tr.ofList cs) (kB cs) lo),rfl,⟨Tr.ofList cs,by rw[Tr.get_set,yab rfl,jD],fun j a hj=>by grind [Tr.get_ofList]⟩,(iK hb _).1,(iK hb _).2⟩
def Hp{b T:Nat}{y:eC}(hT:C.tys.get T=some y)(hb:t.get b=none):∃t',eR C T ⟨b,t⟩=some (.ptr b 0,⟨b+1,t'⟩)/\wD t' b none y.zero/\yB t t'/\rE b t t':=by
 obtain⟨t',h1,h2,h3,h4⟩:=aX hb y.zero none;refine⟨t',?_,h2,h3,h4⟩;unfold eR;rw[hT,pA,<- h1]
end
end
section
structure dG where
 blks:List Nat
 ok:Tr sA->Tr sA->Prop
 keep:∀ {tf t tf' t':Tr sA},ok tf t->yB tf tf'->(∀k∈blks,t'.get k=t.get k/\tf'.get k=none)->ok tf' t'
 live:∀ {tf t:Tr sA},ok tf t->∀k∈blks,∃y,t.get k=some y
structure kE (base:Nat) (tf t:Tr sA) (l:List dG):Prop where
 tle:yB tf t
 nodup:(l.flatMap dG.blks).Nodup
 ok:∀o∈l,o.ok tf t
 low:∀k∈l.flatMap dG.blks,base<=k/\tf.get k=none
section
variable {base:Nat}{tf t:Tr sA}{l A B:List dG}{o o':dG}
def kE.live(h:kE base tf t l){k:Nat}(hk:k∈l.flatMap dG.blks):∃y,t.get k=some y:=by
 obtain⟨o,ho,hk⟩:=List.mem_flatMap.1 hk;exact o.live (h.ok o ho) k hk
theorem kE.fresh(h:kE base tf t l){n:Nat}(hn:t.get n=none):n∉l.flatMap dG.blks:=by
 intro hm;obtain⟨y,hy⟩:=h.live hm
 simp_all
theorem kE.tfn(h:kE base tf t l){n:Nat}(hn:t.get n=none):tf.get n=none:=by
 cases hq:tf.get n with
 | none=>rfl
 | some y=>have:=h.tle _ _ hq;simp_all
theorem kE.keep(h:kE base tf t l){tf' t':Tr sA}(hf:yB tf tf')(ht:yB tf' t')(hk:∀k∈l.flatMap dG.blks,t'.get k=t.get k/\tf'.get k=none):kE base tf' t' l:=
 ⟨ht,h.nodup,fun o ho=>o.keep (h.ok o ho) hf fun k hk'=>hk k (List.mem_flatMap.2 ⟨o,ho,hk'⟩),fun k hk'=>⟨(h.low k hk').1,(hk k hk').2⟩⟩
theorem kE.junk(h:kE base tf t l){n:Nat}{t':Tr sA}(hn:t.get n=none)(ho:rE n t t'):kE base tf t' l:=
 h.keep (yB.refl _) (h.tle.off (h.tfn hn) ho) fun k hk=>⟨ho k (fun e:k=n=>h.fresh hn (e ▸ hk)),(h.low k hk).2⟩
theorem kE.froze(h:kE base tf t l){n:Nat}{y:sA}(hn:n∉l.flatMap dG.blks)(hy:t.get n=some y)(hf:tf.get n=none):kE base (tf.set n y) t l/\yB tf (tf.set n y):=by
 have h1:=(iK (t:=tf) hf y).1;refine⟨h.keep h1 (fun k u hk=>?_) fun k hk=>⟨rfl,?_⟩,h1⟩
 ·rw[Tr.get_set]at hk;split at hk
  ·simp_all
  ·exact h.tle _ _ hk
 ·rw[Tr.get_set,yaa (fun e:k=n=>hn (e ▸ hk))];exact(h.low k hk).2
def Qx:(A++o::B).flatMap dG.blks=A.flatMap dG.blks++(o.blks++B.flatMap dG.blks):=by simp
theorem kE.upd(h:kE base tf t (A++o::B)){t':Tr sA}(hk:∀k,k∉o.blks->k∉o'.blks->t'.get k=t.get k)(hn:∀k∈o'.blks,k∈o.blks\/(t.get k=none/\base<=k))(hok:o'.ok tf t')(hnd:o'.blks.Nodup)(ht:yB tf t'):kE base tf t' (A++o'::B):=by
 have hd:=h.nodup;rw[Qx]at hd;rw[List.nodup_append]at hd;obtain⟨d1,d2,d3⟩:=hd;rw[List.nodup_append]at d2;obtain⟨d4,d5,d6⟩:=d2;have oth:∀k,k∈A.flatMap dG.blks\/k∈B.flatMap dG.blks->k∉o.blks/\k∉o'.blks/\t'.get k=t.get k/\base<=k/\tf.get k=none:=by
  intro k hk';have hm:k∈(A++o::B).flatMap dG.blks:=by rw[Qx];simp only[yaf];rcases hk' with h | h<;>simp[h]
  have h1:k∉o.blks:=fun hc=>by
   grind
  have h2:k∉o'.blks:=fun hc=>by
   rcases hn k hc with h' | h'
   ·grind
   ·obtain⟨y,hy⟩:=h.live hm
    simp_all
  exact⟨h1,h2,hk k h1 h2,h.low k hm⟩
 have mem:∀k,k∈(A++o'::B).flatMap dG.blks->(k∈A.flatMap dG.blks\/k∈B.flatMap dG.blks)\/k∈o'.blks:=by
  grind
 refine⟨ht,?_,fun p hp=>?_,fun k hk'=>?_⟩
 ·grind
 ·have hp':p∈A\/p=o'\/p∈B:=by simp_all
  rcases hp' with h' | h' | h'
  ·exact p.keep (h.ok p (by simp[h'])) (yB.refl _) fun k hk'=>by
    grind
  ·simp_all
  ·exact p.keep (h.ok p (by simp[h'])) (yB.refl _) fun k hk'=>by
    grind
 ·rcases mem k hk' with h' | h'
  ·simp_all
  ·rcases hn k h' with h'' | h''
   ·exact h.low k (by simp_all)
   ·exact⟨h''.2,h.tfn h''.1⟩
def Ph:dG:=⟨[],fun _ _=>True,fun _ _ _=>trivial,fun _ _ h=>by cases h⟩
theorem kE.add(h:kE base tf t (A++B)){t':Tr sA}(hk:∀k,k∉o'.blks->t'.get k=t.get k)(hn:∀k∈o'.blks,t.get k=none/\base<=k)(hok:o'.ok tf t')(hnd:o'.blks.Nodup)(ht:yB tf t'):kE base tf t' (A++o'::B):=by
 have e:kE base tf t (A++Ph::B):=by
  have hm:(A++Ph::B).flatMap dG.blks=(A++B).flatMap dG.blks:=by simp[Ph]
  refine⟨h.tle,by rw[hm];exact h.nodup,fun o ho=>?_,fun k hk=>h.low k (by simp_all)⟩;have:o∈A\/o=Ph\/o∈B:=by simp_all
  rcases this with h' | h' | h'
  ·exact h.ok o (by simp[h'])
  ·subst h';trivial
  ·exact h.ok o (by simp[h'])
 exact e.upd (fun k _ h2=>hk k h2) (fun k hk=>.inr (hn k hk)) hok hnd ht
theorem kE.drop(h:kE base tf t (A++o::B)):kE base tf t (A++B):=by
 have hd:=h.nodup;rw[Qx]at hd;refine⟨h.tle,?_,fun p hp=>h.ok p (by rcases yaf.1 hp with h | h<;>simp[h]),fun k hk=>h.low k (by rw[Qx];rw[List.flatMap_append]at hk;rcases yaf.1 hk with h | h<;>simp[h])⟩
 grind
theorem kE.notin(h:kE base tf t (A++o::B)){k:Nat}(hk:k∈o.blks):k∉(A++B).flatMap dG.blks:=by
 have hd:=h.nodup
 grind
end
end
section
section
variable {t tf:Tr sA}{C:fA}
def Hj(l:List Nat):List zA:=l.map fun(n:Nat)=>zA.int .u8 (n:Int)
theorem MP{S Dt b k cap el:Nat}{cs:List zA}{lo:Option Lo}{l:List Nat}{yS yD yE:eC}(hS:C.tys.get S=some yS)(hD:C.tys.get Dt=some yD)(h1:yD.desc.asInt=none)(h2:yD.desc.isString=true)(h3:yS.desc.asSlice=some el)(h4:C.tys.get el=some yE)(h5:yE.desc.asInt=some .u8)
  (hc:wD t b lo cs) (hk:l.length=k) (hl:∀(j:Nat) x,l[j]?=some x->cs[j]?=some (.int .u8 (x:Int))) (hlt:wB 256 l):kK C S Dt ⟨0,t⟩ (.slice b 0 k cap)=some (.str l):=by
 obtain⟨c,g1,g2⟩:=hc;unfold kK tQ;rw[hS,pA,hD,pA,h1];simp only[];rw[h2,sE];have e1:Nat.beq (zA.slice b 0 k cap).tag 2=false:=rfl;rw[e1,cond_false,h3,pA,h4,pA,h5,pA,dK.2 rfl,sE];unfold Dp;simp only[zA.asSlice];unfold oD;rw[g1,pA];simp only[sA.asCells,pA];have hm:∀(l:List Nat) (off:Nat),(∀(j:Nat) x,l[j]?=some x->c.get (off+j)=some (.int .u8 (x:Int)))->c.many l.length off=some (Hj l):=by
  intro l;induction l with
  | nil=>intro off _;rfl
  | cons x l ih=>
   intro off h;rw[ybn,Tr.many_succ];have:=h 0 x rfl;rw[yct]at this;rw[this,pA,ih (off+1) (fun j y hj=>by rw[show off+1+j=off+(j+1) by omega];simp_all),pA];rfl
 subst hk;rw[hm l 0 (fun j x hj=>by simp_all),pA];have hb:∀(l:List Nat),wB 256 l->iG eS (Hj l)=some l:=by
  intro l;induction l with
  | nil=>intro _;rfl
  | cons x l ih=>
   intro h;have e:eS (.int .u8 (x:Int))=some x:=by
    unfold eS;have e1:yL (x:Int)=some x:=rfl;simp only[zA.asIntK,pA];rw[dK.2 rfl,sE,e1,pA,lC.2 (h x (by simp))];rfl
   show iG eS (.int .u8 (x:Int)::Hj l)=_;rw[nN,e,pA,ih fun y hy=>h y (by simp[hy]),pA]
 rw[hb l hlt,pA]
end
end
end Go.Am
namespace Go.Am
open Go
section
variable {C:fA}{t tf:Tr sA}
def sQ(k:IntKind)(l:List Nat):List (List zA):=l.map fun(x:Nat)=>[zA.int k (x:Int)]
theorem oZ{k:IntKind}:∀ {l:List Nat} {cl:List (List zA)},iC t (sB k l) cl ↔ cl=sQ k l
 | [],cl=>by
  show iC t [] cl ↔ cl=[];exact wI
 | x::l,cl=>by
  show iC t (.int k (x:Int)::sB k l) cl ↔ cl=[.int k (x:Int)]::sQ k l;rw[jH];constructor
  ·rintro⟨c,r,rfl,h1,h2⟩;rw[vP]at h1;rw[h1,oZ.1 h2]
  ·rintro rfl;exact⟨_,_,rfl,vP.2 rfl,oZ.2 rfl⟩
def Rq{k:IntKind}:∀(l:List Nat),(sQ k l).flatten=l.map fun(x:Nat)=>zA.int k (x:Int)
 | []=>rfl
 | x::l=>by
  show [zA.int k (x:Int)]++(sQ k l).flatten=_;rw[Rq l];rfl
theorem ND{k:IntKind}{l:List Nat}:(sQ k l).length=l.length:=by simp[sQ]
theorem YT{k:IntKind}{l:List Nat}(i:Nat)(cs:List zA)(h:(sQ k l)[i]?=some cs):cs.length=1:=by
 grind [sQ]
def ZB(l:List Nat)(h:wB 256 l):iG eS (Hj l)=some l:=by
 induction l with
 | nil=>rfl
 | cons x l ih=>
  have e:eS (.int .u8 (x:Int))=some x:=by
   unfold eS;have e1:yL (x:Int)=some x:=rfl;simp only[zA.asIntK,pA];rw[dK.2 rfl,sE,e1,pA,lC.2 (h x (by simp))];rfl
  show iG eS (.int .u8 (x:Int)::Hj l)=_;rw[nN,e,pA,ih fun y hy=>h y (by simp[hy]),pA]
theorem MO{S Dt el:Nat}{l:List Nat}{v:zA}{yS yD yE:eC}(hS:C.tys.get S=some yS)(hD:C.tys.get Dt=some yD)(h1:yD.desc.asInt=none)(h2:yD.desc.isString=true)(h3:yS.desc.asSlice=some el)(h4:C.tys.get el=some yE)(h5:yE.desc.asInt=some .u8)
  (hv:mA t 1 (sB .u8 l) v) (hlt:wB 256 l):kK C S Dt ⟨0,t⟩ v=some (.str l):=by
 obtain⟨cl,g1,g2⟩:=hv;rw[oZ]at g2;subst g2;have hf:=(g1.first (n:=0)).1;have htag:Nat.beq v.tag 2=false:=by
  rcases g1 with⟨rfl,_⟩ | ⟨b,off,cap,rfl,_⟩<;>rfl
 unfold kK tQ;rw[hS,pA,hD,pA,h1];simp only[];rw[h2,sE,htag,cond_false,h3,pA,h4,pA,h5,pA,dK.2 rfl,sE];unfold Dp;rcases g1 with⟨rfl,hn⟩ | ⟨b,off,cap,rfl,_⟩
 ·have:l=[]:=by
   grind [ND]
  subst this;rfl
 ·unfold pR at hf;simp only[zA.asSlice,Nat.mul_one]at hf ⊢;rw[rA]at hf;obtain⟨c,hc,hf⟩:=hf;rw[hc,pA,hf,pA,Rq];have:=ZB l hlt;unfold Hj at this;rw[this,pA]
theorem XH{n k:Nat}{l:List Nat}(h:l.length=k):pR ⟨n,t⟩ 1 k (.str l)=some (sQ .u8 l).flatten/\sY (.str l)=some k:=by
 subst h;constructor
 ·unfold pR;simp only[zA.asSlice,zA.asStr];rw[Rq,sS,List.take_length];rfl
 grind [sY,zA.asSlice,zA.asStr,jD]
def GR{k:IntKind}{l:List Nat}:∀a∈(sQ k l).flatten,zA.one a=true:=by
 intro a ha;rw[Rq]at ha;obtain⟨x,_,rfl⟩:=yaq.1 ha;rfl
theorem ML{k:IntKind}{l m:List Nat}:sB k (l++m)=sB k l++sB k m:=by simp[sB]
theorem NZ{T U el:Nat}{cd:Lo}(hT:Ia C T el 1)(hU:∃u,C.tys.get U=some u/\Nat.beq u.desc.tag 1=false)(hcd:∀z,C.tys.get el=some z->cK el z=cd){l m:List Nat}{v:zA}(hv:cG cd C.base tf t 1 (sB .u8 l) v)(hpos:m≠[])(hl:l.length+m.length<400000){n:Nat}(hn:t.get n=none)(hbase:C.base<=n)(ht:yB tf t) :
  ∃t',vF C T U v (.str m) ⟨n,t⟩=some (.slice n 0 (l.length+m.length) (l.length+m.length),⟨n+1,t'⟩)/\cG cd C.base tf t' 1 (sB .u8 (l++m)) (.slice n 0 (l.length+m.length) (l.length+m.length))/\yB tf t'/\(∀c,c≠n->¬ dM v c->t'.get c=t.get c):=by
 have h0:0<m.length:=List.length_pos_iff.2 hpos;obtain⟨t',h1,h2,h3,h4⟩:=OA hT hU hcd (l:=sB .u8 l) (m:=sB .u8 m) (x:=.str m) (cm:=sQ .u8 m) hv YT (fun n=>by grind [ND,XH]) (oZ.2 rfl) GR (by grind [pD]) (by grind [pD]) hn hbase ht
 grind [pD,ML]
theorem AR{T el:Nat}{cd:Lo}{k:IntKind}(hT:Ia C T el 1)(hcd:∀z,C.tys.get el=some z->cK el z=cd){l m:List Nat}{v x:zA}(hv:cG cd C.base tf t 1 (sB k l) v)(hx:mA t 1 (sB k m) x)(hpos:m≠[])(hl:l.length+m.length<400000){n:Nat}(hn:t.get n=none)(hbase:C.base<=n)(ht:yB tf t) :
  ∃t',vF C T T v x ⟨n,t⟩=some (.slice n 0 (l.length+m.length) (l.length+m.length),⟨n+1,t'⟩)/\cG cd C.base tf t' 1 (sB k (l++m)) (.slice n 0 (l.length+m.length) (l.length+m.length))/\yB tf t'/\(∀c,c≠n->¬ dM v c->t'.get c=t.get c):=by
 have h0:0<m.length:=List.length_pos_iff.2 hpos;obtain⟨cl,g1,g2⟩:=hx;rw[oZ]at g2;subst g2;obtain⟨t',h1,h2,h3,h4⟩:=ZM hT hcd (l:=sB k l) (m:=sB k m) (x:=x) (cm:=sQ k m) hv g1 (oZ.2 rfl) GR (by grind [pD]) (by grind [pD]) hn hbase ht
 grind [pD,ML]
def Kp{cd:Lo}{base sz:Nat}:cG cd base tf t sz [] .nilslice:=.inl ⟨rfl,rfl⟩
theorem cG.keep'{cd:Lo}{base sz:Nat}{l:List D}{v:zA}{t':Tr sA}(h:cG cd base tf t sz l v)(hk:∀b,dM v b->t'.get b=t.get b):cG cd base tf t' sz l v:=by
 rcases h with⟨rfl,rfl⟩ | ⟨b,cl,c,rfl,h0,h1,h2,h3,h4⟩
 ·exact .inl ⟨rfl,rfl⟩
 ·exact .inr ⟨b,cl,c,rfl,h0,h1,by grind [Ak],h3,h4⟩
end
end Go.Am
namespace Go.Am
def kn_ge{B m U V head top u2 v2 ur vr:Nat}(hU:U=(head*B+u2)*B^m+ur)(hur:ur<B^m)(hu2:u2<B)(hV:V=(top*B+v2)*B^m+vr)(htop:0<top):U / V<=head / top:=by
 have hBm:0<B^m:=by omega
 rw[Nat.le_div_iff_mul_le htop];have h1:U / V*V<=U:=Nat.div_mul_le_self U V;have h2:top*B*B^m<=V:=by
  grind
 have h3:U<(head+1)*B*B^m:=by
  have:head*B+u2+1<=(head+1)*B:=by grind
  have:=ybi (B^m) this
  grind
 have h4:U / V*top*(B*B^m)<(head+1)*(B*B^m):=by
  calc U / V*top*(B*B^m)=U / V*(top*B*B^m):=by rw[ybj,ybj]
   _<=U / V*V:=ybv _ h2
   _<=U:=h1
   _<(head+1)*B*B^m:=h3
   _=(head+1)*(B*B^m):=by rw[ybj]
 exact Nat.lt_succ_iff.1 (Nat.lt_of_mul_lt_mul_right h4)
def kn_gt{B m U V head top u2 v2 ur vr d:Nat}(hU:U=(head*B+u2)*B^m+ur)(hur:ur<B^m)(hV:V=(top*B+v2)*B^m+vr)(h:head*B+u2<d*(top*B+v2)):U / V<d:=by
 rcases yau (U / V) d with g | g
 ·exact g
 ·exfalso;have h1:U / V*V<=U:=Nat.div_mul_le_self U V;have h2:d*V<=U:=Nat.le_trans (ybi _ g) h1;have h3:d*(top*B+v2)*B^m<=d*V:=by simp_all [ybj,ybv]
  have h4:=ybi (B^m) (show head*B+u2+1<=d*(top*B+v2) from h)
  grind
def kn_le{B m U V head top u2 v2 ur vr d:Nat}(hB:0<B)(hU:U=(head*B+u2)*B^m+ur)(hV:V=(top*B+v2)*B^m+vr)(hvr:vr<B^m)(htop:0<top)(hd:d<=B)(h:d*(top*B+v2)<=head*B+u2):d<=U / V+1:=by
 have hVpos:0<V:=by
  rw[hV];have:0<top*B+v2:=by have:=Nat.mul_pos htop hB;omega
  have:=Nat.mul_pos this (show 0<B^m by omega);omega
 rcases yau (U / V+1) d with g | g
 ·exfalso;have h1:(d-1)*V<=U:=by
   have e1:d*V<=d*((top*B+v2)*B^m)+d*B^m:=by
    simp_all [ybm,ybv,Nat.le_of_lt]
   have e2:d*((top*B+v2)*B^m)<=(head*B+u2)*B^m:=by rw[<- ybj];exact ybi _ h
   have e3:d*B^m<=V:=by
    have:d*B^m<=top*B*B^m:=by
     refine ybi _ (Nat.le_trans hd ?_);exact yan _ htop
    grind
   grind [Nat.sub_mul]
  have:=(Nat.le_div_iff_mul_le hVpos).2 h1;omega
 ·exact g
def top2{B:Nat}(hB:0<B){l:List Nat}{m a b:Nat}(hlt:wB B l)(hl:l.length=m+2)(ha:l[m+1]?=some a)(hb:l[m]?=some b):val B l=(a*B+b)*B^m+val B (l.take m)/\val B (l.take m)<B^m:=by
 have e1:=Cb B l m;have hlen:(l.take m).length=m:=by grind
 rw[hlen]at e1;have e2:l.drop m=[b,a]:=by
  rw[drop_cons' hb,drop_cons' ha,List.drop_of_length_le (by omega)]
 grind [val,lK,Bj]
def top3{B:Nat}(hB:0<B){l:List Nat}{m a b c:Nat}(hlt:wB B l)(hl:l.length=m+3)(ha:l[m+2]?=some a)(hb:l[m+1]?=some b)(hc:l[m]?=some c):val B l=((a*B+b)*B+c)*B^m+val B (l.take m)/\val B (l.take m)<B^m:=by
 have e1:=Cb B l m;have hlen:(l.take m).length=m:=by grind
 rw[hlen]at e1;have e2:l.drop m=[c,b,a]:=by
  rw[drop_cons' hc,drop_cons' hb,drop_cons' ha,List.drop_of_length_le (by omega)]
 grind [val,lK,Bj]
end Go.Am
namespace Go.Proofs
open Go Go.Am
variable [kC]
variable {t:Tr sA}
def BB:Nat:=4294967296
def yN:BB=4294967296:=rfl
def nI:0<BB:=by decide
theorem Qm{T el:Nat}(h:rD yA T el 1 false){b off n cap j:Nat}(hj:j<n):rB yA T (.slice b off n cap) (.int .i64 (j:Int))=some (.ptr b (off+j)):=by
 have:=Ep (b:=b) (off:=off) (cap:=cap) h hj
 simp_all
theorem Ge{A w Z:List Nat}{j x:Nat}(h:w[j]?=some x):(A++w++Z)[A.length+j]?=some x:=by
 grind
def Km{A w Z:List Nat}{j x:Nat}(h:j<w.length):(A++w++Z).set (A.length+j) x=A++w.set j x++Z:=by
 rw[ybz,List.set_append_right _ _ (by omega),Nat.add_sub_cancel_left,List.set_append_left _ _ h,ybz]
theorem ZW{A Z lv:List Nat}{v:zA}{b cap d:Nat}{t0:Tr sA}{Q:wC}(hv:mA t0 1 (sB .u32 lv) v)(hl:lv.length<900000)(hlv:wB BB lv)(hbase:yA.base<=b)(hb:t0.get b=none)(hd:0<d)(hd2:d<=BB)(W:List Nat)(hWl:W.length=lv.length)(hWlt:wB BB W)(last:Nat)(hlast:last<BB)(hcap:lv.length+1<=cap)
  (hQ:∀t' r up,rE b t t'->jF t' b .u32 (A++(r++[(last+up)%BB])++Z)->r.length=lv.length->wB BB r->up<2->val BB r+BB^lv.length*up=val BB W+val BB lv->Q (.int .u32 ((d-1:Nat):Int)) t') :
  ∀(k i up:Nat) (t':Tr sA) (r:List Nat),i+k=lv.length->yB t0 t'->rE b t t'->jF t' b .u32 (A++(r++(W++[last]).drop i)++Z)->r.length=i->wB BB r->up<2->val BB r+BB^i*up=val BB (W.take i)+val BB (lv.take i) →
  jp 298 10 [.slice b A.length (lv.length+1) cap,.int .i64 lv.length,.int .u64 d,.int .u32 up,v,.int .i64 lv.length,.int .i64 i] t' Q:=by
 intro k;induction k with
 | zero=>
  intro i up t' r hi ht hoff ho hr hrl hup hval;have hi':i=lv.length:=by omega
  subst hi';have hdrop:(W++[last]).drop lv.length=[last]:=by simp_all
  rw[hdrop]at ho;refine JT ?_;have g1:=Qm oG (b:=b) (off:=A.length) (n:=lv.length+1) (cap:=cap) (j:=lv.length) (by omega);have hget:(r++[last])[lv.length]?=some last:=by simp_all
  have g2:=ho.load (Ge (A:=A) (Z:=Z) hget) xH rfl;obtain⟨t1,s1,s2,s3⟩:=ho.store (C:=yA) hbase (j:=A.length+lv.length) (by grind) ((last+up)%BB) xH rfl;rw[Km (by grind)]at s2;have hset:(r++[last]).set lv.length ((last+up)%BB)=r++[(last+up)%BB]:=by simp_all
  rw[hset]at s2;have e1:iA .u32 ((last:Int)+(up:Int))=(((last+up)%BB:Nat):Int):=by rw[wT];show _=(((last+up)%4294967296:Nat):Int);omega
  simp only[uL,qB,uX,uZ,Tl,lA,uC,g1,g2,xA,aB,e1];rw[yaa (by omega)];intro _ _ _;rw[s1];simp only[xA];rw[yca (by omega),yca (by omega)]at hval;have e2:iA .u32 (iA .u64 ((d:Int)-1))=((d-1:Nat):Int):=by
   have:d<=4294967296:=hd2
   grind [yG,jZ]
  rw[e2];exact hQ t1 r up (hoff.trans s3) s2 hr hrl hup hval
 | succ k ih=>
  intro i up t' r hi ht hoff ho hr hrl hup hval;obtain⟨x,hx⟩:=getElem?_of_lt (l:=lv) (i:=i) (by omega);obtain⟨y,hy⟩:=getElem?_of_lt (l:=W) (i:=i) (by omega);have hxlt:x<BB:=xI hlv hx;have hylt:y<BB:=xI hWlt hy;obtain⟨c,off,g1,g2⟩:=(hv.mono ht).idx oG hx;have hy':(W++[last])[i]?=some y:=by grind
  have hdrop:(W++[last]).drop i=y::(W++[last]).drop (i+1):=drop_cons' hy';have g3:=Qm oG (b:=b) (off:=A.length) (n:=lv.length+1) (cap:=cap) (j:=i) (by omega);have hget:(r++(W++[last]).drop i)[i]?=some y:=by simp_all
  have g4:=ho.load (Ge (A:=A) (Z:=Z) hget) xH rfl;have hlen:i<(r++(W++[last]).drop i).length:=by simp_all
  obtain⟨t1,s1,s2,s3⟩:=ho.store (C:=yA) hbase (j:=A.length+i) (by grind) ((y+x+up)%BB) xH rfl;rw[Km hlen]at s2;have hset:(r++(W++[last]).drop i).set i ((y+x+up)%BB)=(r++[(y+x+up)%BB])++(W++[last]).drop (i+1):=by
   simp_all
  rw[hset]at s2;have hadd:=zd9 (t:=t') (x:=y) (y:=x) (c:=up) hylt hxlt hup;refine JT ?_;simp (disch:=omega) only[uL,qB,uX,uZ,Tl,lA,uC,g1,g2,g3,g4,xA,aB,q303,hadd,eJ,zA.asTup,pA,nG,yaz,yba,wrap_i64];rw[yab (by omega)];intro _ _ _;have s1':∀n,pE yA 242 (.ptr b (A.length+i)) (.int .u32 (((y+x+up)%4294967296:Nat):Int)) ⟨n,t'⟩=some (vE,⟨n,t1⟩):=s1
  rw[s1'];simp only[xA];refine ih (i+1) ((y+x+up) / BB) t1 _ (by omega) (ht.off hb s3) (hoff.trans s3) s2 (by simp[hr]) (aS hrl (ycy _ (by decide))) ?_ ?_
  ·have h1:y<4294967296:=hylt;have h2:x<4294967296:=hxlt;show(y+x+up) / 4294967296<2;omega
  ·rw[mK,hr,uT hx,uT hy,mK,mK]
   grind [Nat.div_add_mod]
theorem DD{u low bo:Nat}(hu:u<BB)(hl:low<BB)(hb:bo<2):∃w b',w<BB/\b'<2/\u+BB*b'=w+low+bo ∧
  iA .u32 (iA .u64 (iA .u64 ((u:Int)-(low:Int))-(bo:Int)))=(w:Int)/\Int.fdiv (iA .u64 (iA .u64 ((u:Int)-(low:Int))-(bo:Int))) 9223372036854775808=(b':Int):=by
 have hu:u<4294967296:=hu;have hl:low<4294967296:=hl;rcases yau u (low+bo)with g | g
 ·refine⟨u+BB-low-bo,1,by omega,by omega,by omega,?_,?_⟩
  ·rw[wT,Il,Il];show _=((u+4294967296-low-bo:Nat):Int);omega
  grind [Il]
 ·refine⟨u-low-bo,0,by omega,by omega,by omega,?_,?_⟩
  all_goals grind [wT,Il]
theorem VK{A Z lu lv:List Nat}{v:zA}{b cap d:Nat}{t0:Tr sA}{Q:wC}(hv:mA t0 1 (sB .u32 lv) v)(hl:lv.length<900000)(hlv:wB BB lv)(hbase:yA.base<=b)(hb:t0.get b=none)(hd:d<BB)(hlul:lu.length=lv.length+1)(hlu:wB BB lu)(hcap:lv.length+1<=cap)
  (hQ:∀t' (W:List Nat) last bo,yB t0 t'->rE b t t'->jF t' b .u32 (A++(W++[last])++Z)->W.length=lv.length->wB BB W->last<BB->bo<2->val BB (W++[last])+d*val BB lv=val BB lu+BB^(lv.length+1)*bo →
   if bo=0 then Q (.int .u32 (d:Int)) t' else jp 298 10 [.slice b A.length (lv.length+1) cap,.int .i64 lv.length,.int .u64 d,.int .u32 0,v,.int .i64 lv.length,.int .i64 (0:Nat)] t' Q) :
  ∀(k i carry borrow:Nat) (t':Tr sA) (W:List Nat),i+k=lv.length->yB t0 t'->rE b t t'->jF t' b .u32 (A++(W++lu.drop i)++Z)->W.length=i->wB BB W->carry<BB->borrow<2->val BB W+d*val BB (lv.take i)=val BB (lu.take i)+BB^i*(carry+borrow) →
  jp 298 6 [.slice b A.length (lv.length+1) cap,v,.int .i64 lv.length,.int .u64 d,.int .u64 carry,.int .u64 borrow,v,.int .i64 lv.length,.int .i64 i] t' Q:=by
 intro k;induction k with
 | zero=>
  intro i carry borrow t' W hi ht hoff ho hW hWl hc hbo hval;have hi':i=lv.length:=by omega
  subst hi';obtain⟨x,hx⟩:=getElem?_of_lt (l:=lu) (i:=lv.length) (by omega);have hxlt:x<BB:=xI hlu hx;have hdrop:lu.drop lv.length=[x]:=by rw[drop_cons' hx,List.drop_of_length_le (by omega)]
  rw[hdrop]at ho;obtain⟨w,bo,hw,hbo',hsum,e1,e2⟩:=DD hxlt hc hbo;have g1:=Qm oG (b:=b) (off:=A.length) (n:=lv.length+1) (cap:=cap) (j:=lv.length) (by omega);have hget:(W++[x])[lv.length]?=some x:=by simp_all
  have g2:=ho.load (Ge (A:=A) (Z:=Z) hget) xH rfl;obtain⟨t1,s1,s2,s3⟩:=ho.store (C:=yA) hbase (j:=A.length+lv.length) (by grind) w xH rfl;rw[Km (by grind)]at s2;have hset:(W++[x]).set lv.length w=W++[w]:=by simp_all
  rw[hset]at s2;have hx32:x<4294967296:=hxlt;have e0:iA .u64 (x:Int)=(x:Int):=yG (by omega) (by omega);refine zfh ?_;simp only[uI,uL,qB,uZ,Tj,lA,uC,g1,g2,xA,aB,e0,e1,e2,tE];rw[yaa (by omega)];intro _ _ _;rw[s1];simp only[xA];have hfin:=hQ t1 W w bo (ht.off hb s3) (hoff.trans s3) s2 hW hWl hw hbo' (by
   grind [mK,val,Cb])
  by_cases hz:bo=0
  ·rw[yab (by omega)];rw[yab hz]at hfin;have hd32:d<4294967296:=hd
   grind [jZ]
  ·rw[yaa (by omega)];rw[yaa hz]at hfin;simp only[(hv.mono (ht.off hb s3)).len,xA,aB,pD];exact hfin
 | succ k ih=>
  intro i carry borrow t' W hi ht hoff ho hW hWl hc hbo hval;obtain⟨x,hx⟩:=getElem?_of_lt (l:=lu) (i:=i) (by omega);obtain⟨y,hy⟩:=getElem?_of_lt (l:=lv) (i:=i) (by omega);have hxlt:x<BB:=xI hlu hx;have hylt:y<BB:=xI hlv hy;have hd32:d<4294967296:=hd;have hx32:x<4294967296:=hxlt;have hy32:y<4294967296:=hylt;have hc32:carry<4294967296:=hc;have hdrop:lu.drop i=x::lu.drop (i+1):=drop_cons' hx
  obtain⟨c,off,g1,g2⟩:=(hv.mono ht).idx oG hy;have g3:=Qm oG (b:=b) (off:=A.length) (n:=lv.length+1) (cap:=cap) (j:=i) (by omega);have hget:(W++lu.drop i)[i]?=some x:=by simp_all
  have g4:=ho.load (Ge (A:=A) (Z:=Z) hget) xH rfl;have hprod:d*y<=4294967295*4294967295:=ydb (by omega) (by omega);obtain⟨P,hP⟩:∃P,P=d*y+carry:=⟨_,rfl⟩;have hPlt:P<18446744073709551616:=by omega
  have hPhi:P / 4294967296<4294967296:=by omega
  obtain⟨w,bo,hw,hbo',hsum,e1,e2⟩:=DD (u:=x) (low:=P%4294967296) (bo:=borrow) hxlt (ycy _ (by decide)) hbo;obtain⟨t1,s1,s2,s3⟩:=ho.store (C:=yA) hbase (j:=A.length+i) (by grind [List.length_append]) w xH rfl;rw[Km (by simp_all)]at s2;have hset:(W++lu.drop i).set i w=(W++[w])++lu.drop (i+1):=by simp_all
  rw[hset]at s2;have e0:iA .u64 (x:Int)=(x:Int):=yG (by omega) (by omega);have e0':iA .u64 (y:Int)=(y:Int):=yG (by omega) (by omega);have e3:(d:Int)*(y:Int)=((d*y:Nat):Int):=(Int.natCast_mul d y).symm;have e4:iA .u64 ((d*y:Nat):Int)=((d*y:Nat):Int):=by
   grind [yG]
  have e5:iA .u64 (((d*y:Nat):Int)+(carry:Int))=(P:Int):=by
   rw[hP,<- Int.natCast_add];grind [yG]
  have e6:iA .u64 (iA .u32 (P:Int))=((P%4294967296:Nat):Int):=by
   grind [wT,yG]
  have e7:Int.fdiv (P:Int) 4294967296=((P / 4294967296:Nat):Int):=Ax P 4294967296;refine zfh ?_;simp only[uI,uL,qB,uZ,Tj,lA,uC,g1,g2,g3,g4,xA,aB,e0,e0',e3,e4,e5,e6,e7,e1,e2];rw[yab (by omega)];intro _ _ _;rw[s1];simp (disch:=omega) only[xA,wrap_i64];refine ih (i+1) (P / 4294967296) bo t1 _ (by omega) (ht.off hb s3) (hoff.trans s3) s2 (by simp[hW]) (aS hWl hw) hPhi hbo' ?_
  rw[mK,hW,uT hx,uT hy,mK,mK];have l1:(lu.take i).length=i:=by simp;omega
  have l2:(lv.take i).length=i:=by simp;omega
  grind [Nat.div_add_mod,BB]
attribute [irreducible] BB
end Go.Proofs
namespace Go.Proofs
open Go Go.Am
variable [kC]
variable {t:Tr sA}
theorem or32{x y:Nat}(hx:x<4294967296)(hy:y<4294967296):gI Nat.lor .u64 ((x*4294967296:Nat):Int) (y:Int)=some (.int .u64 ((x*4294967296+y:Nat):Int)):=by
 have h:=Fg (a:=x) (b:=y) (n:=32) hy;have e:(2:Nat)^32=4294967296:=by decide
 rw[e]at h;rw[iU (k:=.u64) (show x*4294967296<gG .u64 by show _<18446744073709551616;omega) (show y<gG .u64 by show _<18446744073709551616;omega),h]
theorem WX{lu lv:List Nat}{u v:zA}{Q:wC}{m head top u2 v2 U V ur vr:Nat}(hu:mA t 1 (sB .u32 lu) u)(hv:mA t 1 (sB .u32 lv) v)(hl:m<900000)(hu2:lu[m]?=some u2)(hv2:lv[m]?=some v2)(hu2lt:u2<BB)(hv2lt:v2<BB)(htop:0<top)(htoplt:top<BB)
  (hU:U=(head*BB+u2)*BB^m+ur) (hur:ur<BB^m) (hV:V=(top*BB+v2)*BB^m+vr) (hvr:vr<BB^m) (hq:U / V<BB) (hhead:head<=top*BB+(BB-1))
  (hexit:∀d,U / V<=d->d<=U / V+1->d<BB->jp 298 19 [u,v,.int .i64 (m+2:Nat),.int .u64 d] t Q) :
  ∀(d rest:Nat),d*top+rest=head->U / V<=d->d<=BB+1->rest<BB->jp 298 2 [u,v,.int .i64 (m+2:Nat),.int .u64 top,.int .u64 d,.int .u64 rest] t Q:=by
 intro d;induction d with
 | zero=>
  intro rest hsum hge _ hrest;have hBB:=yN;have hr32:rest<4294967296:=by omega
  obtain⟨b,off,g1,g2⟩:=hv.idx oG hv2;obtain⟨c,off',g3,g4⟩:=hu.idx oG hu2;have hu32:u2<4294967296:=by omega
  have hv32:v2<4294967296:=by omega
  obtain⟨D,hD⟩:∃D:Int,((0:Nat):Int)=D:=⟨_,rfl⟩;rw[hD];refine zfi ?_;unfold Tk uQ12 uL uE uZ uW;generalize hC:(4294967296:Int)=C;generalize hG:gI Nat.lor .u64 (iA .u64 ((rest:Int)*C))=G;have e4:D*(v2:Int)=0:=by grind
  have e1:((m+2:Nat):Int)-2=(m:Int):=by omega
  have e2:(rest:Int)*C=((rest*4294967296:Nat):Int):=by simp_all
  have e3:G (u2:Int)=some (.int .u64 ((rest*4294967296+u2:Nat):Int)):=by rw[<- hG,e2,yG (by omega) (by omega)];grind [or32]
  simp only[lA,mD];rw[yaa (by omega)];simp (disch:=omega) only[e1,wrap_i64,g1,xA];rw[g2];simp only[xA,aB,g3];rw[g4,xA,aB,xA,yG (n:=(u2:Int)) (by omega) (by omega),e3,xA,aB,xA,yG (n:=(v2:Int)) (by omega) (by omega),e4,yG (n:=0) (by decide) (by decide)]
  grind [uC]
 | succ d ih=>
  intro rest hsum hge hle hrest;have hBB:=yN;have hr32:rest<4294967296:=by omega
  have ht32:top<4294967296:=by omega
  have hle32:d+1<=4294967296+1:=by omega
  have hsum':d*top+(rest+top)=head:=by grind
  obtain⟨D,hD⟩:∃D:Int,((d+1:Nat):Int)=D:=⟨_,rfl⟩;rw[hD];have e1:D-1=(d:Int):=by omega
  have e0:(rest:Int)+(top:Int)=((rest+top:Nat):Int):=by omega
  have less:U / V<=d->(if (4294967296:Int)<=((rest+top:Nat):Int)then jp 298 19 [u,v,.int .i64 (m+2:Nat),.int .u64 d] t Q else jp 298 2 [u,v,.int .i64 (m+2:Nat),.int .u64 top,.int .u64 d,.int .u64 ((rest+top:Nat):Int)] t Q):=by
   intro hge';split
   ·rename_i hb;have hb':BB<=rest+top:=by omega
    have hdlt:d<BB:=by
     grind
    refine hexit d hge' ?_ hdlt;refine kn_le nI hU hV hvr htop (Nat.le_of_lt hdlt) ?_;have h1:d*v2<=BB*BB:=ydb (Nat.le_of_lt hdlt) (Nat.le_of_lt hv2lt);have h2:BB*BB<=(rest+top)*BB:=ybi _ hb';have h3:head*BB=d*top*BB+(rest+top)*BB:=by rw[<- hsum',ybo]
    grind
   ·rename_i hb;exact ih (rest+top) hsum' hge' (by omega) (by omega)
  refine zfi ?_;unfold Tk uQ12 uL uE uZ uW;generalize hC:(4294967296:Int)=C;generalize hG:gI Nat.lor .u64 (iA .u64 ((rest:Int)*C))=G;by_cases hbig:4294967296<=d+1
  ·simp (disch:=omega) only[lA,mD,e0,e1,yG];rw[yab (by omega)]
   grind
  ·obtain⟨b,off,g1,g2⟩:=hv.idx oG hv2;obtain⟨c,off',g3,g4⟩:=hu.idx oG hu2;have hu32:u2<4294967296:=by omega
   have hv32:v2<4294967296:=by omega
   have e5:((m+2:Nat):Int)-2=(m:Int):=by omega
   have e2:(rest:Int)*C=((rest*4294967296:Nat):Int):=by simp_all
   have e6:iA .u64 (D*(v2:Int))=(((d+1)*v2:Nat):Int):=by
    rw[<- hD,<- Int.natCast_mul];have:(d+1)*v2<=4294967295*4294967295:=ydb (by omega) (by omega)
    grind [yG]
   have e3:G (u2:Int)=some (.int .u64 ((rest*4294967296+u2:Nat):Int)):=by rw[<- hG,e2,yG (by omega) (by omega)];grind [or32]
   simp only[lA,mD];rw[yaa (by omega)];simp (disch:=omega) only[e5,wrap_i64,g1,xA];rw[g2];simp only[xA,aB,g3];rw[g4,xA,aB,xA,yG (n:=(u2:Int)) (by omega) (by omega),e3,xA,aB,xA,yG (n:=(v2:Int)) (by omega) (by omega),e6];have e7:iA .u64 ((rest:Int)+(top:Int))=((rest+top:Nat):Int):=by rw[e0];exact yG (by omega) (by omega)
   have e8:iA .u64 (D-1)=(d:Int):=by rw[e1];grind [yG]
   rw[e7,e8];have key:(d+1)*(top*BB+v2)=(d+1)*top*BB+(d+1)*v2:=by rw[ybm,<- ybj]
   have key2:head*BB=(d+1)*top*BB+rest*BB:=by rw[<- hsum,ybo]
   by_cases htest:rest*4294967296+u2<(d+1)*v2
   ·rw[yab (uC.2 (by omega))];subst hC;refine less (Nat.lt_succ_iff.1 (kn_gt hU hur hV ?_))
    grind
   ·rw[yaa (fun h=>absurd (uC.1 h) (by omega))];rw[<- hD];refine hexit (d+1) hge (kn_le nI hU hV hvr htop (by omega) ?_) (by omega)
    grind
end Go.Proofs
