/- Facts on types. (Printed by a tool.) -/
import Derived.Test.YtfijloeeppcipaaGreatDoorF19
set_option linter.all false
noncomputable section
set_option maxRecDepth 100000
namespace Go.Proofs
open Go Go.Am
variable [nC]
def ty3:yA.tys.get 3=some ⟨(.int .i64),1,8,[.int .i64 0],true⟩:=by kernel_rfl
def ty4:yA.tys.get 4=some ⟨.bool,1,1,[.bool false],true⟩:=by kernel_rfl
def ty5:yA.tys.get 5=some ⟨(.int .u8),1,1,[.int .u8 0],true⟩:=by kernel_rfl
def ty9:yA.tys.get 9=some ⟨.string,1,16,[.str []],true⟩:=by kernel_rfl
def ty22:yA.tys.get 22=some ⟨(.slice 59),1,24,[.nilslice],true⟩:=by kernel_rfl
def ty23:yA.tys.get 23=some ⟨(.slice 81),1,24,[.nilslice],true⟩:=by kernel_rfl
def ty24:yA.tys.get 24=some ⟨(.slice 56),1,24,[.nilslice],true⟩:=by kernel_rfl
def ty26:yA.tys.get 26=some ⟨(.struct [(0,9,1),(1,22,1),(2,23,1),(3,24,1)]),4,88,[.str [],.nilslice,.nilslice,.nilslice],true⟩:=by kernel_rfl
def ty27:yA.tys.get 27=some ⟨(.slice 202),1,24,[.nilslice],true⟩:=by kernel_rfl
def ty29:yA.tys.get 29=some ⟨(.struct [(0,4,1),(1,27,1)]),2,32,[.bool false,.nilslice],true⟩:=by kernel_rfl
def ty31:yA.tys.get 31=some ⟨(.struct [(0,29,2),(2,29,2)]),4,64,[.bool false,.nilslice,.bool false,.nilslice],true⟩:=by kernel_rfl
def ty34:yA.tys.get 34=some ⟨(.slice 36),1,24,[.nilslice],true⟩:=by kernel_rfl
def ty36:yA.tys.get 36=some ⟨(.struct [(0,5,1),(1,9,1),(2,33,6),(8,34,1)]),9,128,[.int .u8 0,.str [],.int .u8 0,.bool false,.nilslice,.bool false,.nilslice,.int .i64 0,.nilslice],true⟩:=by kernel_rfl
def z6j:yA.tys.get 38=some ⟨(.slice 5),1,24,[.nilslice],true⟩:=by kernel_rfl
def ty56:yA.tys.get 56=some ⟨(.struct [(0,9,1),(1,9,1),(2,3,1),(3,3,1),(4,3,1),(5,4,1),(6,36,9),(15,36,9)]),24,320,[.str [],.str [],.int .i64 0,.int .i64 0,.int .i64 0,.bool false,.int .u8 0,.str [],.int .u8 0,.bool false,.nilslice,.bool false,.nilslice,.int .i64 0,.nilslice,.int .u8 0,.str [],.int .u8 0,.bool false,.nilslice,.bool false,.nilslice,.int .i64 0,.nilslice],true⟩:=by kernel_rfl
def z00:yA.tys.get 59=some ⟨(.struct [(0,9,1),(1,5,1),(2,4,1)]),3,24,[.str [],.int .u8 0,.bool false],true⟩:=by kernel_rfl
def ty79:yA.tys.get 79=some ⟨(.slice 84),1,24,[.nilslice],true⟩:=by kernel_rfl
def ty81:yA.tys.get 81=some ⟨(.struct [(0,9,1),(1,4,1),(2,79,1)]),3,48,[.str [],.bool false,.nilslice],true⟩:=by kernel_rfl
def ty84:yA.tys.get 84=some ⟨(.struct [(0,3,1),(1,3,1),(2,3,1),(3,31,4)]),7,88,[.int .i64 0,.int .i64 0,.int .i64 0,.bool false,.nilslice,.bool false,.nilslice],true⟩:=by kernel_rfl
def z6l:yA.tys.get 100=some ⟨(.map 99 5),1,8,[.nilmap],true⟩:=by kernel_rfl
def ty137:yA.tys.get 137=some ⟨(.arr 3 5),3,3,[.int .u8 0,.int .u8 0,.int .u8 0],true⟩:=by kernel_rfl
def ty140:yA.tys.get 140=some ⟨(.map 9 4),1,8,[.nilmap],true⟩:=by kernel_rfl
def ty159:yA.tys.get 159=some ⟨(.struct [(0,5,1),(1,9,1),(2,4,1),(3,3,1),(4,3,1),(5,3,1),(6,3,1),(7,3,1)]),8,72,[.int .u8 0,.str [],.bool false,.int .i64 0,.int .i64 0,.int .i64 0,.int .i64 0,.int .i64 0],true⟩:=by kernel_rfl
def z6k:yA.tys.get 191=some ⟨.func,1,8,[.nilfunc],true⟩:=by kernel_rfl
def zmj:yA.tys.get 202=some ⟨(.int .u16),1,2,[.int .u16 0],true⟩:=by kernel_rfl
def ty213:yA.tys.get 213=some ⟨(.map 3 9),1,8,[.nilmap],true⟩:=by kernel_rfl
def zus:yA.tys.get 225=some ⟨(.int .u64),1,8,[.int .u64 0],true⟩:=by kernel_rfl
def jL:yA.tys.get 244=some ⟨(.slice 246),1,24,[.nilslice],true⟩:=by kernel_rfl
def uG:yA.tys.get 246=some ⟨(.int .u32),1,4,[.int .u32 0],true⟩:=by kernel_rfl
def ty279:yA.tys.get 279=some ⟨(.slice 29),1,24,[.nilslice],true⟩:=by kernel_rfl
def sl22:zE yA 22 59 3 true:=⟨⟨_,ty22,rfl⟩,⟨_,z00,rfl,rfl⟩⟩
def sl23:zE yA 23 81 3 true:=⟨⟨_,ty23,rfl⟩,⟨_,ty81,rfl,rfl⟩⟩
def z1m:zE yA 24 56 24 true:=⟨⟨_,ty24,rfl⟩,⟨_,ty56,rfl,rfl⟩⟩
def sl27:zE yA 27 202 1 false:=⟨⟨_,ty27,rfl⟩,⟨_,zmj,rfl,rfl⟩⟩
def sl34:zE yA 34 36 9 true:=⟨⟨_,ty34,rfl⟩,⟨_,ty36,rfl,rfl⟩⟩
def sl38:zE yA 38 5 1 false:=⟨⟨_,z6j,rfl⟩,⟨_,ty5,rfl,rfl⟩⟩
def sl79:zE yA 79 84 7 true:=⟨⟨_,ty79,rfl⟩,⟨_,ty84,rfl,rfl⟩⟩
def lF:zE yA 244 246 1 false:=⟨⟨_,jL,rfl⟩,⟨_,uG,rfl,rfl⟩⟩
def sl279:zE yA 279 29 2 true:=⟨⟨_,ty279,rfl⟩,⟨_,ty29,rfl,rfl⟩⟩
end Go.Proofs
namespace Go.Am
open Go Go.RowKit
def cD (l:List Nat):List D:=l.map fun(n:Nat)=>D.int .u16 (n:Int)
def wV(l:List Nat):(cD l).length=l.length:=by simp[cD]
structure zI where
 neg:Bool
 limbs:List Nat
def zI.d(w:zI):D:=.st [.bool w.neg,.sl 1 (cD w.limbs)]
structure eE where
 n:zI
 d:zI
def eE.dd(f:eE):D:=.st [f.n.d,f.d.d]
structure kH where
 kind:Nat
 f:eE
 i:Int
def kH.d(v:kH):D:=.st [.int .u8 v.kind,v.f.dd,.int .i64 v.i]
inductive jA where
 | mk (op:Nat) (name:List Nat) (v:kH) (args:List jA)
def jA.op:jA->Nat | .mk o _ _ _=>o
def jA.name:jA->List Nat | .mk _ n _ _=>n
def jA.v:jA->kH | .mk _ _ v _=>v
def jA.args:jA->List jA | .mk _ _ _ a=>a
mutual
def jA.d:jA->D
 | .mk op name v args=>.st [.int .u8 op,.str name,v.d,.sl 9 (jA.ds args)]
def jA.ds:List jA->List D
 | []=>[]
 | x::l=>x.d::jA.ds l
end
def jA.ds_eq(l:List jA):jA.ds l=l.map jA.d:=by
 induction l with
 | nil=>rfl
 | cons x l ih=>simp[jA.ds,ih]
structure vH where
 a:Int
 b:Int
 known:Int
 f:eE
def vH.d(r:vH):D:=.st [.int .i64 r.a,.int .i64 r.b,.int .i64 r.known,r.f.dd]
structure fD where
 name:List Nat
 two:Bool
 rows:List vH
def fD.d(x:fD):D:=.st [.str x.name,.bool x.two,.sl 7 (x.rows.map vH.d)]
structure cE where
 name:List Nat
 kind:Nat
 fact:Bool
def cE.d(x:cE):D:=.st [.str x.name,.int .u8 x.kind,.bool x.fact]
structure zC where
 name:List Nat
 label:List Nat
 from_:Int
 to:Int
 known:Int
 off:Bool
 when_:jA
 then_:jA
def zC.d(x:zC):D:=.st [.str x.name,.str x.label,.int .i64 x.from_,.int .i64 x.to,.int .i64 x.known,.bool x.off,x.when_.d,x.then_.d]
structure oC where
 name:List Nat
 defs:List cE
 tables:List fD
 clauses:List zC
def oC.d(x:oC):D:=.st [.str x.name,.sl 3 (x.defs.map cE.d),.sl 3 (x.tables.map fD.d),.sl 24 (x.clauses.map zC.d)]
section
variable {t:Tr rA}{cs:List zA}
def nU{w:zI}(h:RD t w.d cs):∃v,cs=[.bool w.neg,v]/\lA t 1 (cD w.limbs) v:=by
 unfold zI.d at h;simp only[rI,jE,sG,pJ,wQ]at h;obtain⟨cl,rfl,c,r,rfl,rfl,c',r',rfl,⟨v,rfl,h⟩,rfl⟩:=h
 exact⟨v,rfl,h⟩
def zc1{f:eE}(h:RD t f.dd cs):∃u v,cs=[.bool f.n.neg,u,.bool f.d.neg,v]/\lA t 1 (cD f.n.limbs) u/\lA t 1 (cD f.d.limbs) v:=by
 unfold eE.dd at h;simp only[rI,jE,sG]at h;obtain⟨cl,rfl,c,r,rfl,h1,c',r',rfl,h2,rfl⟩:=h
 obtain⟨u,rfl,h3⟩:=nU h1
 obtain⟨v,rfl,h4⟩:=nU h2
 exact⟨u,v,rfl,h3,h4⟩
def zv8{v:kH}(h:RD t v.d cs):∃a b,cs=[.int .u8 v.kind,.bool v.f.n.neg,a,.bool v.f.d.neg,b,.int .i64 v.i]/\lA t 1 (cD v.f.n.limbs) a/\lA t 1 (cD v.f.d.limbs) b:=by
 unfold kH.d at h;simp only[rI,jE,sG,vN]at h;obtain⟨cl,rfl,c,r,rfl,rfl,c',r',rfl,h2,c'',r'',rfl,rfl,rfl⟩:=h
 obtain⟨a,b,rfl,h3,h4⟩:=zc1 h2
 exact⟨a,b,rfl,h3,h4⟩
def wL{x:jA}(h:RD t x.d cs):∃a b c,cs=[.int .u8 x.op,.str x.name,.int .u8 x.v.kind,.bool x.v.f.n.neg,a,.bool x.v.f.d.neg,b,.int .i64 x.v.i,c] ∧
  lA t 1 (cD x.v.f.n.limbs) a/\lA t 1 (cD x.v.f.d.limbs) b/\lA t 9 (x.args.map jA.d) c:=by
 obtain⟨op,name,v,args⟩:=x
 unfold jA.d at h;rw[jA.ds_eq]at h;simp only[rI,jE,sG,vN,xQ,pJ]at h;obtain⟨cl,rfl,c,r,rfl,rfl,c',r',rfl,rfl,c'',r'',rfl,hv,c3,r3,rfl,⟨w,rfl,h4⟩,rfl⟩:=h
 obtain⟨a,b,rfl,h5,h6⟩:=zv8 hv
 exact⟨a,b,w,rfl,h5,h6,h4⟩
def zv9{r:vH}(h:RD t r.d cs):∃a b,cs=[.int .i64 r.a,.int .i64 r.b,.int .i64 r.known,.bool r.f.n.neg,a,.bool r.f.d.neg,b]/\lA t 1 (cD r.f.n.limbs) a/\lA t 1 (cD r.f.d.limbs) b:=by
 unfold vH.d at h;simp only[rI,jE,sG,vN]at h;obtain⟨cl,rfl,c,r,rfl,rfl,c',r',rfl,rfl,c'',r'',rfl,rfl,c3,r3,rfl,hf,rfl⟩:=h
 obtain⟨a,b,rfl,h3,h4⟩:=zc1 hf
 exact⟨a,b,rfl,h3,h4⟩
def mU{x:fD}(h:RD t x.d cs):∃a,cs=[.str x.name,.bool x.two,a]/\lA t 7 (x.rows.map vH.d) a:=by
 unfold fD.d at h;simp only[rI,jE,sG,xQ,wQ,pJ]at h;obtain⟨cl,rfl,c,r,rfl,rfl,c',r',rfl,rfl,c'',r'',rfl,⟨a,rfl,h⟩,rfl⟩:=h
 exact⟨a,rfl,h⟩
def zpm{x:cE}(h:RD t x.d cs):cs=[.str x.name,.int .u8 x.kind,.bool x.fact]:=by
 unfold cE.d at h;simp only[rI,jE,sG,xQ,wQ,vN]at h;obtain⟨cl,rfl,c,r,rfl,rfl,c',r',rfl,rfl,c'',r'',rfl,rfl,rfl⟩:=h
 rfl
def iG(x:jA)(a b c:zA):List zA:=[.int .u8 x.op,.str x.name,.int .u8 x.v.kind,.bool x.v.f.n.neg,a,.bool x.v.f.d.neg,b,.int .i64 x.v.i,c]
def zW{x:zC}(h:RD t x.d cs):∃a b c a' b' c',cs=[.str x.name,.str x.label,.int .i64 x.from_,.int .i64 x.to,.int .i64 x.known,.bool x.off]++iG x.when_ a b c++iG x.then_ a' b' c' ∧
  RD t x.when_.d (iG x.when_ a b c)/\RD t x.then_.d (iG x.then_ a' b' c'):=by
 unfold zC.d at h;simp only[rI,jE,sG,xQ,wQ,vN]at h;obtain⟨cl,rfl,c1,r1,rfl,rfl,c2,r2,rfl,rfl,c3,r3,rfl,rfl,c4,r4,rfl,rfl,c5,r5,rfl,rfl,c6,r6,rfl,rfl,c7,r7,rfl,h7,c8,r8,rfl,h8,rfl⟩:=h
 obtain⟨a,b,c,e1,_⟩:=wL h7
 obtain⟨a',b',c',e2,_⟩:=wL h8
 subst e1 e2
 exact⟨a,b,c,a',b',c',rfl,h7,h8⟩
def jM{x:oC}(h:RD t x.d cs):∃a b c,cs=[.str x.name,a,b,c]/\lA t 3 (x.defs.map cE.d) a/\lA t 3 (x.tables.map fD.d) b/\lA t 24 (x.clauses.map zC.d) c:=by
 unfold oC.d at h;simp only[rI,jE,sG,xQ,pJ]at h;obtain⟨cl,rfl,c1,r1,rfl,rfl,c2,r2,rfl,⟨a,rfl,h1⟩,c3,r3,rfl,⟨b,rfl,h2⟩,c4,r4,rfl,⟨c,rfl,h3⟩,rfl⟩:=h
 exact⟨a,b,c,rfl,h1,h2,h3⟩
end
def zI.zs(x:zI):x.d.zs=[.bool false,.nilslice]:=rfl
def eE.zs(x:eE):x.dd.zs=[.bool false,.nilslice,.bool false,.nilslice]:=rfl
def kH.zs(x:kH):x.d.zs=[.int .u8 0,.bool false,.nilslice,.bool false,.nilslice,.int .i64 0]:=rfl
def jA.zs(x:jA):x.d.zs=[.int .u8 0,.str [],.int .u8 0,.bool false,.nilslice,.bool false,.nilslice,.int .i64 0,.nilslice]:=by cases x;rfl
def vH.zs(x:vH):x.d.zs=[.int .i64 0,.int .i64 0,.int .i64 0,.bool false,.nilslice,.bool false,.nilslice]:=rfl
def fD.zs(x:fD):x.d.zs=[.str [],.bool false,.nilslice]:=rfl
def cE.zs(x:cE):x.d.zs=[.str [],.int .u8 0,.bool false]:=rfl
def zC.zs(x:zC):x.d.zs=[.str [],.str [],.int .i64 0,.int .i64 0,.int .i64 0,.bool false,.int .u8 0,.str [],.int .u8 0,.bool false,.nilslice,.bool false,.nilslice,.int .i64 0,.nilslice,.int .u8 0,.str [],.int .u8 0,.bool false,.nilslice,.bool false,.nilslice,.int .i64 0,.nilslice]:=by
 obtain⟨_,_,_,_,_,_,w,v⟩:=x;cases w;cases v;rfl
def oC.zs(x:oC):x.d.zs=[.str [],.nilslice,.nilslice,.nilslice]:=rfl
def jK(f:eE):Nat:=1+f.n.limbs.length+f.d.limbs.length
mutual
/-- the size, as it is counted up to a limit -/
def wJ:jA->Int->Int
 | .mk _ name v args,left=>qN args left (jK v.f+(name.length:Int) / 30)
def qN:List jA->Int->Int->Int
 | [],_,n=>n
 | x::l,left,n=>if n<=left then qN l left (n+wJ x (left-n))else n
end
def jC:Nat:=1125899906842624
def eE.ok(f:eE):Prop:=f.n.limbs.length<jC/\f.d.limbs.length<jC
mutual
def jA.ok:jA->Prop
 | .mk _ name v args=>name.length<jC/\v.f.ok/\args.length<jC/\jA.oks args
def jA.oks:List jA->Prop
 | []=>True
 | x::l=>x.ok/\jA.oks l
end
end Go.Am
namespace Go.Am
open Go Go.RowKit
section
def fV{f:eE}(h:f.ok):jK f<4503599627370496:=by
 unfold eE.ok jC at h;unfold jK;omega
mutual
def vX:∀(x:jA) (left:Int),x.ok->0<=wJ x left/\wJ x left<=max left 0+9007199254740992
 | .mk op name v args,left,h=>by
  unfold jA.ok at h;obtain⟨h1,h2,_,h4⟩:=h
  have hf:=fV h2
  unfold jC at h1;unfold wJ;have:=eV args left (jK v.f+(name.length:Int) / 30) h4 (by omega)
  omega
def eV:∀(l:List jA) (left n:Int),jA.oks l->0<=n->n<=qN l left n/\qN l left n<=max n (left+9007199254740992)
 | [],left,n,_,_=>by unfold qN;omega
 | x::l,left,n,h,hn=>by
  unfold jA.oks at h;unfold qN;split
  ·have h1:=vX x (left-n) h.1
   have h2:=eV l left (n+wJ x (left-n)) h.2 (by omega)
   omega
  ·omega
end
def cC{a b:Int}:(iB a b=true) ↔ a<b:=dU a b
def yG{a b:Int}:(pC a b=true) ↔ a<=b:=zh9 a b
def rY{α:Type}{l:List α}{i:Nat}{x:α}{r:List α}(h:l.drop i=x::r):l[i]?=some x/\l.drop (i+1)=r/\i<l.length:=by
 have h1:(l.drop i)[0]?=some x:=by rw[h];rfl
 rw[yde]at h1;have hi:i<l.length:=by
  rcases yau i l.length with hl | hl
  ·exact hl
  ·rw[ybt hl]at h;cases h
 refine⟨by simpa using h1,?_,hi⟩
 have:=List.drop_drop (l:=l) (i:=1) (j:=i)
 rw[h]at this;simpa[yap]using this.symm
def zd7{α:Type}{l:List α}{i:Nat}(h:l.drop i=[]):l.length<=i:=by
 rcases yau i l.length with hl | hl
 ·have:=congrArg List.length h;simp at this;omega
 ·exact hl
def mN(l:List Nat):(Int.ofNat (zB l))=(l.length:Int):=by rw[fC];rfl
def kL(cs:List zA):zfb true cs=.agg cs:=rfl
end
section
def lB(k:IntKind)(l:List Nat):List D:=l.map fun(n:Nat)=>D.int k (n:Int)
def tF{k:IntKind}(l:List Nat):(lB k l).length=l.length:=by simp[lB]
def zzh{k:IntKind}{l:List Nat}{i x:Nat}(h:l[i]?=some x):(lB k l)[i]?=some (.int k (x:Int)):=by simp[lB,h]
def zgj{k:IntKind}{l:List Nat}{n:Nat}:(lB k l).take n=lB k (l.take n):=by simp[lB]
def wF (t:Tr rA)(b:Nat)(k:IntKind)(l:List Nat):Prop:=∃c,t.get b=some (.cells c l.length none)/\∀(j:Nat) x,l[j]?=some x->c.get j=some (.int k (x:Int))
def oD (b:Nat)(t t':Tr rA):Prop:=∀c,c≠b->t'.get c=t.get c
def oD.refl(b:Nat)(t:Tr rA):oD b t t:=fun _ _=>rfl
def oD.trans{b:Nat}{x y z:Tr rA}(h:oD b x y)(k:oD b y z):oD b x z:=fun c hc=>(k c hc).trans (h c hc)
section
variable {t t' t0:Tr rA}{C:pA}{b:Nat}{k:IntKind}{l:List Nat}
def wF.off(h:wF t b k l){c:Nat}(hc:b≠c)(ho:oD c t t'):wF t' b k l:=by
 obtain⟨x,h1,h2⟩:=h;exact⟨x,by rw[ho b hc];exact h1,h2⟩
def wF.tle(h:wF t b k l)(ho:cA t t'):wF t' b k l:=by
 obtain⟨x,h1,h2⟩:=h;exact⟨x,ho _ _ h1,h2⟩
def cA.off(h:cA t0 t)(hb:t0.get b=none)(ho:oD b t t'):cA t0 t':=by
 intro c y hc;rw[ho c (by intro e;rw[e,hb]at hc;cases hc)]
 exact h c y hc
def wF.slice(h:wF t b k l){off n cap:Nat}(hn:off+n<=l.length)(hc:n<=cap):lA t 1 (lB k ((l.drop off).take n)) (.slice b off n cap):=by
 obtain⟨c,h1,h2⟩:=h
 refine⟨((l.drop off).take n).map fun(x:Nat)=>[.int k (x:Int)],.inr ⟨b,off,cap,?_,?_,⟨c,_,none,h1,.inl rfl⟩,fun i cs hi=>?_⟩,?_⟩
 ·congr 1;simp;omega
 ·simp;omega
 ·simp only[ybu,yar]at hi
  obtain⟨x,hx,rfl⟩:=hi
  refine⟨rfl,c,_,none,h1,fun j a hj=>?_⟩
  cases j with
  | zero=>
   simp at hj;subst hj;rw[ydf]at hx;split at hx
   ·rw[yde]at hx
    exact h2 (off+i*1+0) x (by rw[show off+i*1+0=off+i by omega];exact hx)
   ·cases hx
  | succ j=>simp at hj
 ·refine uC.mk (by simp[lB]) fun i d cs hd hc=>?_
  simp only[lB,ybu,yar]at hd hc;obtain⟨x,hx,rfl⟩:=hd
  obtain⟨y,hy,rfl⟩:=hc
  rw[hx]at hy;cases hy;rfl
def wF.all(h:wF t b k l){cap:Nat}(hc:l.length<=cap):lA t 1 (lB k l) (.slice b 0 l.length cap):=by
 have:=h.slice (off:=0) (n:=l.length) (by omega) hc
 simpa using this
def oV{T el sz:Nat}{agg:Bool}(h:zE C T el sz agg){off n cap i:Nat}(hi:i<n):jB C T (.slice b off n cap) (.int .i64 (i:Int))=some (.ptr b (off+i*sz)):=by
 obtain⟨⟨y,hy1,hy2⟩,⟨z,hz1,hz2,hz3⟩⟩:=h
 unfold jB;rw[hy1,tA];have:(zA.int .i64 (i:Int)).asNat=some i:=rfl
 rw[this,tA];simp only[zA.asSlice];rw[hy2,tA,hz1,tA,tC.2 hi,hz2];rfl
def wF.load(h:wF t b k l){j x:Nat}(hj:l[j]?=some x){ty:Nat}{y:rC}(hy:C.tys.get ty=some y)(ha:y.desc.isAgg=false):oA C ty ⟨0,t⟩ (.ptr b j)=some (.int k (x:Int)):=by
 obtain⟨c,h1,h2⟩:=h
 unfold oA;simp only[zA.asPtr,tA];rw[hy,tA];unfold tD;rw[h1,tA];simp only[rA.asCells,tA];unfold dM;rw[ha,cond_false];exact h2 j x hj
def wF.store(h:wF t b k l)(hb:C.base<=b){j:Nat}(hj:j<l.length)(x:Nat){ty:Nat}{y:rC}(hy:C.tys.get ty=some y)(hs:y.size=1) :
  ∃t',(∀n,qD C ty (.ptr b j) (.int k (x:Int)) ⟨n,t⟩=some (pD,⟨n,t'⟩))/\wF t' b k (l.set j x)/\oD b t t':=by
 obtain⟨c,h1,h2⟩:=h
 refine⟨t.set b (.cells (c.setMany [.int k (x:Int)] j) l.length none),fun n=>?_,⟨c.setMany [.int k (x:Int)] j,?_,fun i y hi=>?_⟩,fun d hd=>?_⟩
 ·unfold qD
  rw[hy,tA];simp only[zA.asPtr,tA,zA.cells,zA.asAgg];rw[hs];have e1:Nat.beq (zB [zA.int k (x:Int)]) 1=true:=rfl
  rw[e1,gD];unfold aH tD;have e2:(!Nat.blt b C.base)=true:=by
   cases hq:Nat.blt b C.base with
   | true=>have:=tC.1 hq;omega
   | false=>rfl
  rw[e2,gD,h1,tA];simp only[rA.asCells,tA];have e3:Nat.ble (j+zB [zA.int k (x:Int)]) l.length=true:=lD.2 hj
  have e4:rB zA.one [zA.int k (x:Int)]=true:=rfl
  rw[e3,e4];rfl
 ·rw[Tr.get_set,yab rfl,ydh]
 ·rw[Tr.get_setMany]
  rw[ycw]at hi;split at hi
  ·rename_i e
   subst e;rw[yab (by simp)]
   cases hi;simp
  ·rename_i e
   rw[yaa (by simp;omega)]
   exact h2 i y hi
 ·rw[Tr.get_set,yaa hd]
def fU{T el:Nat}{y z:rC}(hT:C.tys.get T=some y)(hel:y.desc.asSlice=some el)(hz:C.tys.get el=some z)(hzero:z.zero=[.int k 0])(hs:z.size=1)(hby:z.bytes<=8){n:Nat}(hn:n<1000000)(hb:t.get b=none) :
  ∃t',sN C T (.int .i64 (n:Int)) (.int .i64 (n:Int)) ⟨b,t⟩=some (.slice b 0 n n,⟨b+1,t'⟩)/\wF t' b k (List.replicate n 0)/\cA t t'/\oD b t t':=by
 have hrep:∀n,mJ [zA.int k 0] n=List.replicate n (.int k 0):=by
  intro n;induction n with
  | zero=>rfl
  | succ n ih=>unfold mJ;rw[ih,pG,List.replicate_succ];rfl
 refine⟨t.set b (.cells (Tr.ofList (mJ z.zero n)) (zB (mJ z.zero n)) none),?_,⟨Tr.ofList (mJ z.zero n),?_,fun j x hj=>?_⟩,fun c y' hc=>?_,fun c hc=>?_⟩
 ·unfold sN
  rw[hT,tA,hel,tA,hz,tA];have e1:(zA.int .i64 (n:Int)).asNat=some n:=rfl
  rw[e1,tA,tA];have e2:(Nat.ble n n&&Nat.blt n 1000000&&Nat.blt (n*z.bytes) 1000000000&&Nat.beq (zB z.zero) z.size)=true:=by
   rw[hzero,hs,show Nat.ble n n=true from lD.2 (ybk n),tC.2 hn]
   have:n*z.bytes<1000000000:=by
    have:=ydb (Nat.le_of_lt hn) hby
    omega
   rw[tC.2 this];rfl
  rw[e2,gD];rfl
 ·rw[Tr.get_set,yab rfl,hzero,hrep,fC];simp
 ·rw[List.getElem?_replicate]at hj
  split at hj
  ·cases hj
   rw[Tr.get_ofList,hzero,hrep,List.getElem?_replicate];rename_i e;rw[yab e];rfl
  ·cases hj
 ·rw[Tr.get_set,yaa (by intro e;rw[e,hb]at hc;cases hc)];exact hc
 ·rw[Tr.get_set,yaa hc]
end
end
end Go.Am
namespace Go.Am
def val (B:Nat):List Nat->Nat
 | []=>0
 | a::l=>a+B*val B l
def pB(B:Nat)(l:List Nat):Prop:=∀x∈l,x<B
def norm (l:List Nat):Prop:=∀h:l≠[],l.getLast h≠0
def gS(B:Nat):∀(l m:List Nat),val B (l++m)=val B l+B^l.length*val B m
 | [],m=>by simp[val]
 | a::l,m=>by
  simp only[List.cons_append,val,gS B l m,ybn,yag];rw[ybm,<- ybj,ybh B (B^l.length)]
  omega
def lK{B:Nat}(hB:0<B):∀ {l:List Nat},pB B l->val B l<B^l.length
 | [],_=>by simp[val]
 | a::l,h=>by
  have h1:=h a (yby)
  have h2:=lK hB (l:=l) fun x hx=>h x (ybr _ hx)
  simp only[val,ybn,yag];have h3:B*(val B l+1)<=B*B^l.length:=ybv B h2
  rw[ybm,ybh B (B^l.length)]at h3
  omega
def iS(B:Nat)(l:List Nat)(n:Nat):val B l=val B (l.take n)+B^(l.take n).length*val B (l.drop n):=by
 rw[<- gS,List.take_append_drop]
def rR{B:Nat}{l:List Nat}(h:pB B l)(n:Nat):pB B (l.take n):=fun x hx=>h x (List.mem_of_mem_take hx)
def zgt{B:Nat}{l:List Nat}(h:pB B l)(n:Nat):pB B (l.drop n):=fun x hx=>h x (List.mem_of_mem_drop hx)
def zly{B:Nat}{l m:List Nat}(h:pB B l)(k:pB B m):pB B (l++m):=fun x hx=>(yaf.1 hx).elim (h x) (k x)
def pE:List Nat->List Nat
 | []=>[]
 | a::l=>if pE l=[]/\a=0 then []else a::pE l
def pM(B:Nat):∀l:List Nat,val B (pE l)=val B l
 | []=>rfl
 | a::l=>by
  unfold pE;have ih:=pM B l
  split
  ·rename_i h
   rw[h.1]at ih;have:val B l=0:=by rw[<- ih];rfl
   simp[val,this,h.2]
  ·simp[val,ih]
def pP:∀l:List Nat,norm (pE l)
 | []=>fun h=>(h rfl).elim
 | a::l=>by
  have ih:=pP l
  unfold pE;split
  ·exact fun h=>(h rfl).elim
  ·rename_i h
   intro hne;by_cases hs:pE l=[]
   ·have ha:a≠0:=fun e=>h ⟨hs,e⟩
    simp[hs,ha]
   ·rw[List.getLast_cons hs];exact ih hs
def bP{B:Nat}:∀ {l:List Nat},pB B l->pB B (pE l)
 | [],h=>h
 | a::l,h=>by
  have ih:=bP (l:=l) fun x hx=>h x (ybr _ hx)
  unfold pE;split
  ·exact fun x hx=>(by cases hx)
  ·exact fun x hx=>(ybs.1 hx).elim (fun e=>e ▸ h a yby) (ih x)
def zcl:∀l:List Nat,(pE l).length<=l.length
 | []=>ybk _
 | a::l=>by unfold pE;have:=zcl l;split<;>simp<;>omega
def zas:∀l:List Nat,pE (l++[0])=pE l
 | []=>by simp[pE]
 | a::l=>by
  show(if pE (l++[0])=[]/\a=0 then []else a::pE (l++[0]))=_
  rw[zas l];rfl
def jV:∀ {l:List Nat},norm l->pE l=l
 | [],_=>rfl
 | a::l,h=>by
  have hl:norm l:=by
   intro hne;have:=h (by simp)
   rw[List.getLast_cons hne]at this;exact this
  unfold pE;rw[jV hl];split
  ·rename_i e
   have:=h (by simp)
   obtain⟨rfl,rfl⟩:=e
   simp at this
  ·rfl
def kX{B:Nat}(hB:0<B){l:List Nat}(h:norm l)(h0:val B l=0):l=[]:=by
 have key:∀l:List Nat,val B l=0->∀x∈l,x=0:=by
  intro l;induction l with
  | nil=>intro _ x hx;cases hx
  | cons a l ih=>
   intro h x hx;simp only[val]at h;have ha:a=0:=by omega
   have hm:B*val B l=0:=by omega
   have hl:val B l=0:=by
    rcases Nat.mul_eq_zero.1 hm with e | e
    ·omega
    ·exact e
   rcases ybs.1 hx with rfl | hx
   ·exact ha
   ·exact ih hl x hx
 rcases List.eq_nil_or_concat l with e | ⟨m,a,e⟩
 ·exact e
 ·exfalso
  subst e;have:=h (by simp)
  simp at this;exact this (key _ h0 a (by simp))
def zug{B:Nat}{l:List Nat}(h:norm l)(hne:l≠[]):B^(l.length-1)<=val B l:=by
 rcases List.eq_nil_or_concat l with e | ⟨m,a,e⟩
 ·exact absurd e hne
 ·rw[List.concat_eq_append]at e
  subst e;have:=h (by simp)
  simp at this;rw[gS];simp only[ybg,ybn,ybx,val];have:1<=a+B*0:=by omega
  calc B^(m.length+1-1)=B^m.length*1:=by simp
   _<=B^m.length*(a+B*0):=ybv _ this
   _<=_:=Nat.le_add_left _ _
def zuf{B:Nat}(hB:0<B):∀ {l m:List Nat},pB B l->pB B m->l.length=m.length->val B l=val B m->l=m
 | [],[],_,_,_,_=>rfl
 | a::l,b::m,h1,h2,hl,hv=>by
  have ha:=h1 a yby
  have hb:=h2 b yby
  simp only[val]at hv;have e1:a=b:=by
   have:=congrArg (· % B) hv
   simp only[Nat.add_mul_mod_self_left,Nat.mod_eq_of_lt ha,Nat.mod_eq_of_lt hb]at this;exact this
  subst e1;have e2:val B l=val B m:=by
   have:B*val B l=B*val B m:=by omega
   exact Nat.eq_of_mul_eq_mul_left hB this
  rw[zuf hB (fun x hx=>h1 x (ybr _ hx)) (fun x hx=>h2 x (ybr _ hx)) (by simpa using hl) e2]
 | [],_::_,_,_,h,_=>by simp at h
 | _::_,[],_,_,h,_=>by simp at h
def uO{B:Nat}(hB:1<B){l m:List Nat}(h1:pB B l)(h3:norm m)(hv:val B m<=val B l):m.length<=l.length:=by
 by_cases hm:m=[]
 ·simp[hm]
 ·have a:=zug (B:=B) h3 hm
  have b:=lK (by omega) h1
  have:B^(m.length-1)<B^l.length:=by omega
  have:=(Nat.pow_lt_pow_iff_right hB).1 this
  omega
def z2e{B:Nat}(hB:1<B){l m:List Nat}(h1:pB B l)(h2:pB B m)(h3:norm l)(h4:norm m)(hv:val B l=val B m):l=m:=by
 have a:=uO hB h1 h4 (by omega)
 have b:=uO hB h2 h3 (by omega)
 exact zuf (by omega) h1 h2 (by omega) hv
def iJ (a b:List Nat):Int:=if a.length≠b.length then(if a.length<b.length then -1 else 1)else go a b
where go:List Nat->List Nat->Int
 | a::l,b::m=>if go l m≠0 then go l m else if a<b then -1 else if b<a then 1 else 0
 | _,_=>0
def zzp{B:Nat}:∀ {a b:List Nat},pB B a->pB B b->a.length=b.length->(iJ.go a b<0 ↔ val B a<val B b)/\(iJ.go a b=0 ↔ val B a=val B b)
 | [],[],_,_,_=>by simp[iJ.go,val]
 | a::l,b::m,h1,h2,hl=>by
  have ha:=h1 a yby
  have hb:=h2 b yby
  obtain⟨i1,i2⟩:=zzp (a:=l) (b:=m) (fun x hx=>h1 x (ybr _ hx)) (fun x hx=>h2 x (ybr _ hx)) (by simpa using hl)
  have lt_of:∀ {x y:Nat},x<y->∀u v,u<B->u+B*x<v+B*y:=by
   intro x y h u v hu;have:B*(x+1)<=B*y:=ybv B h
   rw[ybm]at this;omega
  unfold iJ.go;simp only[val];by_cases h0:iJ.go l m=0
  ·have e:=i2.1 h0
   rw[yaa (by simpa using h0),e]
   by_cases c1:a<b
   ·rw[yab c1];constructor<;>constructor<;>intro h<;>omega
   ·rw[yaa c1]
    by_cases c2:b<a
    ·rw[yab c2];constructor<;>constructor<;>intro h<;>omega
    ·rw[yaa c2];constructor<;>constructor<;>intro h<;>omega
  ·rw[yab h0]
   constructor
   ·rw[i1]
    constructor
    ·intro h;exact lt_of h a b ha
    ·intro h
     rcases Nat.lt_trichotomy (val B l) (val B m)with g | g | g
     ·exact g
     ·exact absurd (i2.2 g) h0
     ·have:=lt_of g b a hb;omega
   ·constructor
    ·intro h;exact absurd h h0
    ·intro h
     rcases Nat.lt_trichotomy (val B l) (val B m)with g | g | g
     ·have:=lt_of g a b ha;omega
     ·exact i2.2 g
     ·have:=lt_of g b a hb;omega
 | [],_::_,_,_,h=>by simp at h
 | _::_,[],_,_,h=>by simp at h
def zzo{B:Nat}(hB:1<B){a b:List Nat}(h1:pB B a)(h2:pB B b)(h3:norm a)(h4:norm b):iJ a b<0 ↔ val B a<val B b:=by
 unfold iJ;by_cases hl:a.length=b.length
 ·rw[yaa (by simpa using hl)];exact(zzp h1 h2 hl).1
 ·rw[yab hl]
  by_cases hlt:a.length<b.length
  ·rw[yab hlt]
   refine⟨fun _=>?_,fun _=>by omega⟩
   rcases yau (val B a) (val B b)with g | g
   ·exact g
   ·have:=uO hB h1 h4 g;omega
  ·rw[yaa hlt]
   refine⟨fun h=>by omega,fun h=>?_⟩
   have:=uO hB h2 h3 (by omega);omega
end Go.Am
namespace Go.Am
open Go Go.RowKit
def iE{n:Int}(h1:0<=n)(h2:n<18446744073709551616):sA .u64 n=n:=by
 rw[mK];simp only[IntKind.wrap,IntKind.bits,IntKind.signed];simp;omega
def uQ{n:Int}(h1:0<=n)(h2:n<4294967296):sA .u32 n=n:=by
 rw[mK];simp only[IntKind.wrap,IntKind.bits,IntKind.signed];simp;omega
def z0u{n:Int}(h1:0<=n)(h2:n<65536):sA .u16 n=n:=by
 rw[mK];simp only[IntKind.wrap,IntKind.bits,IntKind.signed];simp;omega
def zuc{n:Int}(h1:0<=n)(h2:n<256):sA .u8 n=n:=by
 rw[mK];simp only[IntKind.wrap,IntKind.bits,IntKind.signed];simp;omega
def oR(n:Int):sA .u64 n=n%18446744073709551616:=by
 rw[mK];simp only[IntKind.wrap,IntKind.bits,IntKind.signed];simp
def qM(n:Int):sA .u32 n=n%4294967296:=by
 rw[mK];simp only[IntKind.wrap,IntKind.bits,IntKind.signed];simp
def zub(n:Int):sA .u16 n=n%65536:=by
 rw[mK];simp only[IntKind.wrap,IntKind.bits,IntKind.signed];simp
def zqp{k:IntKind}{x y:Nat}:iAnd k (x:Int) (y:Int)=rH Nat.land k (x:Int) (y:Int):=rfl
def jO{f:Nat->Nat->Nat}{k:IntKind}{x y:Nat}(h1:x<jF k)(h2:y<jF k):rH f k (x:Int) (y:Int)=some (.int k (f x y:Nat)):=by
 unfold rH;have e1:lJ (x:Int)=some x:=rfl
 have e2:lJ (y:Int)=some y:=rfl
 rw[e1,tA,e2,tA,tC.2 h1,tC.2 h2];rfl
def zh8{k:IntKind}{x y:Nat}(h0:0<y)(hw:sA k ((x / y:Nat):Int)=((x / y:Nat):Int)):z24 k (x:Int) (y:Int)=some (.int k ((x / y:Nat):Int)):=by
 unfold z24;have:mA (y:Int) 0=false:=by
  cases hq:mA (y:Int) 0 with
  | false=>rfl
  | true=>have:=(kP _ _).1 hq;omega
 rw[this,cond_false,Int.tdiv_eq_ediv_of_nonneg (by omega)]
 rw[<- Int.natCast_ediv,hw]
def zb2{k:IntKind}{x y:Nat}(h0:0<y):zt6 k (x:Int) (y:Int)=some (.int k ((x%y:Nat):Int)):=by
 unfold zt6;have:mA (y:Int) 0=false:=by
  cases hq:mA (y:Int) 0 with
  | false=>rfl
  | true=>have:=(kP _ _).1 hq;omega
 rw[this,cond_false,Int.tmod_eq_emod_of_nonneg (by omega),<- Int.natCast_emod]
def yH{a b:Int}:(mA a b=true) ↔ a=b:=kP a b
def zhu{a b:Int}:((!mA a b)=true) ↔ a≠b:=by rw[ycp,<- Bool.not_eq_true,yH]
def zhv{b:Bool}:((!b)=true) ↔ b=false:=by simp
def zfl{a b n:Nat}(h:b<2^n):Nat.lor (a*2^n) b=a*2^n+b:=by
 show a*2^n ||| b=_
 rw[<- Nat.shiftLeft_eq,<- Nat.shiftLeft_add_eq_or_of_lt h,Nat.shiftLeft_eq]
def or_low{a b n:Nat}(h:b<2^n)(ha:a%2^n=0):Nat.lor a b=a+b:=by
 obtain⟨c,hc⟩:=Nat.dvd_of_mod_eq_zero ha
 subst hc;rw[ybh];exact zfl h
def lA.idx{t:Tr rA}{C:pA}{T el:Nat}(h:zE C T el 1 false){k:IntKind}{l:List Nat}{v:zA}(hr:lA t 1 (lB k l) v){i x:Nat}(hi:l[i]?=some x) :
  ∃b off,jB C T v (.int .i64 (i:Int))=some (.ptr b off)/\oA C el ⟨0,t⟩ (.ptr b off)=some (.int k (x:Int)):=by
 obtain⟨b,off,cs,h1,h2,_,_,h5⟩:=zE.at h (fun _=>rfl) hr (zzh hi)
 rw[vN]at h5;subst h5;exact⟨b,off,h1,h2⟩
def hO(x:Nat)(n:Nat):Int.fdiv (x:Int) (n:Int)=((x / n:Nat):Int):=by
 rw[Int.fdiv_eq_ediv_of_nonneg _ (by omega)];exact(Int.natCast_ediv x n).symm
def getElem?_of_lt{l:List Nat}{i:Nat}(h:i<l.length):∃x,l[i]?=some x:=⟨l[i],ybd h⟩
def mI{B:Nat}{l:List Nat}(h:pB B l){i x:Nat}(hi:l[i]?=some x):x<B:=h x (ycv hi)
def iX{l:List Nat}(h:l≠[]):∃m x,l=m++[x]:=by
 rcases List.eq_nil_or_concat l with e | ⟨m,a,e⟩
 ·exact absurd e h
 ·exact⟨m,a,by rw[e,List.concat_eq_append]⟩
end Go.Am
namespace Go.Proofs
open Go Go.Am
variable [nC]
variable {t:Tr rA}
def zuv:∀(n:Nat) (l:List Nat) (v:zA),l.length=n->n<1125899906842624->lA t 1 (lB .u32 l) v->∃v',jp 212 2 [v] t (fun u m=>u=v'/\m=t)/\lA t 1 (lB .u32 (pE l)) v':=by
 intro n;induction n with
 | zero=>
  intro l v hl _ hv;have:l=[]:=ycc.1 hl
  subst this;refine⟨v,zx7 _ ?_,hv⟩
  simp only[zo9,qA,hv.len,wA,tB,tF,cC];rw[yaa (by simp)]
  simp
 | succ n ih=>
  intro l v hl hn hv;obtain⟨m,x,rfl⟩:=iX (l:=l) (by intro e;subst e;simp at hl)
  have hm:m.length=n:=by simpa using hl
  have hx:(m++[x])[m.length]?=some x:=by simp
  obtain⟨b,off,g1,g2⟩:=hv.idx lF hx
  obtain⟨u,g3,g4⟩:=zE.front lF hv (k:=m.length) (by simp[lB])
  rw[zgj]at g4;simp only[List.take_left']at g4;have e1:(((m++[x]).length:Nat):Int)-1=(m.length:Int):=by simp
  by_cases hx0:x=0
  ·subst hx0
   obtain⟨w,h1,h2⟩:=ih m u hm (by omega) g4
   refine⟨w,zx7 _ ?_,by rw[zas];exact h2⟩
   simp (disch:=omega) only[zo9,qA,hv.len,wA,tB,tF,cC,yH,wrap_i64,e1,g1,g2,g3]
   rw[yab (by simp),yab (by simp)]
   exact h1
  ·refine⟨v,zx7 _ ?_,?_⟩
   ·simp (disch:=omega) only[zo9,qA,hv.len,wA,tB,tF,cC,yH,wrap_i64,e1,g1,g2,g3]
    rw[yab (by simp),yaa (by simpa using hx0)]
    simp
   ·rw[jV]
    ·exact hv
    ·intro _;simpa using hx0
def cS{l:List Nat}{v:zA}(hl:l.length<1125899906842624)(hv:lA t 1 (lB .u32 l) v):∃v',wC yA F 212 [v] t=some v'/\lA t 1 (lB .u32 (pE l)) v':=by
 obtain⟨v',h1,h2⟩:=zuv _ l v rfl hl hv
 exact⟨v',wD.2 (w212 _ h1),h2⟩
def z3z{a b:List Nat}{u v:zA}(hu:lA t 1 (lB .u32 a) u)(hv:lA t 1 (lB .u32 b) v)(hl:a.length=b.length):∀(n:Nat),n<=a.length->n<1125899906842624->jp 236 2 [u,v,.int .i64 ((n:Int)-1)] t (fun w m=>w=.int .i64 (iJ.go (a.take n) (b.take n))/\m=t):=by
 intro n;induction n with
 | zero=>
  intro _ _;refine z5l _ _ _ ?_
  simp only[zvi,qA,yG];rw[yaa (by omega)]
  simp[iJ.go]
 | succ n ih=>
  intro hn hn2;obtain⟨x,hx⟩:=getElem?_of_lt (l:=a) (i:=n) (by omega)
  obtain⟨y,hy⟩:=getElem?_of_lt (l:=b) (i:=n) (by omega)
  obtain⟨c,off,g1,g2⟩:=hu.idx lF hx
  obtain⟨d,off',g3,g4⟩:=hv.idx lF hy
  have e1:(((n+1:Nat):Int)-1)=(n:Int):=by omega
  have key:∀(a b:List Nat) (x y:Nat),a.length=b.length->iJ.go (a++[x]) (b++[y])=if x<y then -1 else if y<x then 1 else iJ.go a b:=by
   intro a;induction a with
   | nil=>
    intro b x y h;have:b=[]:=ycc.1 (by simpa using h.symm)
    subst this;simp[iJ.go]
   | cons p a ih=>
    intro b x y h
    cases b with
    | nil=>simp at h
    | cons q b=>
     simp only[List.cons_append,iJ.go];rw[ih b x y (by simpa using h)]
     by_cases c1:x<y
     ·simp[c1]
     ·by_cases c2:y<x
      ·simp[c1,c2]
      ·simp[c1,c2]
  have e2:iJ.go (a.take (n+1)) (b.take (n+1))=if x<y then -1 else if y<x then 1 else iJ.go (a.take n) (b.take n):=by
   rw[ydg,ydg,hx,hy];exact key _ _ _ _ (by simp;omega)
  rw[e1,e2];refine z5l _ _ _ ?_
  simp (disch:=omega) only[zvi,qA,wA,tB,cC,yG,zhu,g1,g2,g3,g4,wrap_i64]
  rw[yab (by omega)]
  by_cases c0:x=y
  ·subst c0
   rw[yaa (by simp),yaa (by omega),yaa (by omega)]
   exact ih (by omega) (by omega)
  ·rw[yab (by omega)]
   by_cases c1:x<y
   ·rw[yab (by omega),yab c1];simp
   ·rw[yaa (by omega),yaa c1,yab (by omega)];simp
def z54{a b:List Nat}{u v:zA}(ha:a.length<1125899906842624)(hu:lA t 1 (lB .u32 a) u)(hv:lA t 1 (lB .u32 b) v):wC yA F 236 [u,v] t=some (.int .i64 (iJ a b)):=by
 refine wD.2 (w236 _ _ ?_)
 simp (disch:=omega) only[t236,qA,hu.len,hv.len,wA,tB,tF,cC,zhu,wrap_i64]
 unfold iJ;by_cases hl:a.length=b.length
 ·rw[yaa (by omega),yaa (by omega)]
  have:=z3z hu hv hl a.length (ybk _) ha
  rw[List.take_length,hl,List.take_length]at this;rw[hl];exact this
 ·rw[yab (by omega),yab hl]
  by_cases hlt:a.length<b.length
  ·rw[yab (by omega),yab hlt];simp
  ·rw[yaa (by omega),yaa hlt];simp
def oJ(neg:Bool)(l:List Nat):Bool:=if l=[]then !neg else decide (l.length<=1024)&&decide (l.getLast?≠some 0)
def zbr{neg:Bool}{l:List Nat}{v:zA}(hl:l.length<1125899906842624)(hv:lA t 1 (lB .u16 l) v):wC yA F 187 [.agg [.bool neg,v]] t=some (.bool (oJ neg l)):=by
 refine wD.2 (w187 _ _ ?_)
 unfold oJ;by_cases h0:l=[]
 ·subst h0
  simp only[t187,qA,hv.len,wA,tB,tF,yH];simp
 ·obtain⟨m,x,rfl⟩:=iX h0
  have hx:(m++[x])[m.length]?=some x:=by simp
  obtain⟨b,off,g1,g2⟩:=hv.idx sl27 hx
  have e1:(((m++[x]).length:Nat):Int)-1=(m.length:Int):=by simp
  have hlm:m.length<1125899906842624:=by simp at hl;omega
  simp (disch:=omega) only[t187,qA,hv.len,wA,tB,tF,yH,yG,wrap_i64,e1,g1,g2]
  rw[yaa (by simp;omega),yaa h0]
  by_cases h1:(m++[x]).length<=1024
  ·rw[yab (by omega)]
   simp only[h1,decide_true,ycn];by_cases hx0:x=0
   ·subst hx0;simp[jP]
   ·have:mA (x:Int) 0=false:=by
     cases hq:mA (x:Int) 0 with
     | false=>rfl
     | true=>have:=(kP _ _).1 hq;omega
    simp[this,hx0]
  ·rw[yaa (by omega),decide_eq_false h1]
   simp
def zh4{neg:Bool}{l:List Nat}{v:zA}(hv:lA t 1 (lB .u16 l) v):wC yA F 188 [.agg [.bool neg,v]] t=some (.bool (!neg&&decide (l=[1]))):=by
 refine wD.2 (w188 _ _ ?_)
 cases neg with
 | true=>simp[t188,qA]
 | false=>
  simp only[t188,qA,hv.len,wA,tB,tF,yH];rw[yab (by rfl)]
  by_cases h1:l.length=1
  ·obtain⟨x,rfl⟩:∃x,l=[x]:=by
    cases l with
    | nil=>simp at h1
    | cons x r=>cases r with
     | nil=>exact⟨x,rfl⟩
     | cons y r=>simp at h1
   obtain⟨b,off,g1,g2⟩:=hv.idx sl27 (i:=0) (x:=x) (by simp)
   simp only[Int.natCast_zero]at g1;rw[yab (by simp)]
   simp only[g1,g2,wA,tB];by_cases hx:x=1
   ·subst hx;simp[jP]
   ·have:mA (x:Int) 1=false:=by
     cases hq:mA (x:Int) 1 with
     | false=>rfl
     | true=>have:=(kP _ _).1 hq;omega
    simp[this,hx]
  ·rw[yaa (by omega)]
   have:l≠[1]:=by intro e;subst e;simp at h1
   simp[this]
end Go.Proofs
namespace Go.Am
def oF:List Nat->List Nat
 | []=>[]
 | [a]=>[a]
 | a::b::l=>(a+65536*b)::oF l
def oN:∀l:List Nat,(oF l).length=(l.length+1) / 2
 | []=>rfl
 | [a]=>by simp[oF]
 | a::b::l=>by simp[oF,oN l];omega
def zcg:∀l:List Nat,val 4294967296 (oF l)=val 65536 l
 | []=>rfl
 | [a]=>by simp[oF,val]
 | a::b::l=>by simp only[oF,val,zcg l];omega
def cW:∀ {l:List Nat},pB 65536 l->pB 4294967296 (oF l)
 | [],_=>fun x hx=>(by cases hx)
 | [a],h=>fun x hx=>by
  have:=h a (by simp)
  have e:x=a:=by simpa[oF]using hx
  omega
 | a::b::l,h=>fun x hx=>by
  have h1:=h a (by simp)
  have h2:=h b (by simp)
  rcases ybs.1 hx with rfl | hx
  ·omega
  ·exact cW (l:=l) (fun y hy=>h y (by simp[hy])) x hx
def lX:∀ {l:List Nat},norm l->norm (oF l)
 | [],_=>fun h=>(h rfl).elim
 | [a],h=>by
  intro _;have:=h (by simp)
  simpa[oF]using this
 | [a,b],h=>by
  intro _;have:=h (by simp)
  simp at this;simp[oF];omega
 | a::b::c::l,h=>by
  intro _;have hn:norm (c::l):=by
   intro hne;have:=h (by simp)
   rw[List.getLast_cons (by simp),List.getLast_cons hne]at this
   exact this
  have hne:oF (c::l)≠[]:=by
   intro e;have:=congrArg List.length e
   rw[oN]at this;simp at this;omega
  have:=lX (l:=c::l) hn hne
  show((a+65536*b)::oF (c::l)).getLast _≠0
  rw[List.getLast_cons hne];exact this
def zaw:∀(l:List Nat) (x:Nat),l.length%2=0->oF (l++[x])=oF l++[x]
 | [],x,_=>rfl
 | [a],x,h=>by simp at h
 | a::b::l,x,h=>by
  show(a+65536*b)::oF (l++[x])=(a+65536*b)::(oF l++[x])
  rw[zaw l x (by simp at h;omega)]
def zj0:∀(l:List Nat) (a x:Nat),l.length%2=0->oF (l++[a,x])=oF l++[a+65536*x]
 | [],a,x,_=>rfl
 | [b],a,x,h=>by simp at h
 | c::b::l,a,x,h=>by
  show(c+65536*b)::oF (l++[a,x])=(c+65536*b)::(oF l++[a+65536*x])
  rw[zj0 l a x (by simp at h;omega)]
def vG:List Nat->List Nat
 | []=>[]
 | w::l=>w%65536::w / 65536::vG l
def wU:∀l:List Nat,(vG l).length=2*l.length
 | []=>rfl
 | w::l=>by simp[vG,wU l];omega
def zcf:∀l:List Nat,val 65536 (vG l)=val 4294967296 l
 | []=>rfl
 | w::l=>by
  simp only[vG,val,zcf l];have:=ych w 65536
  omega
def zao:∀ {l:List Nat},pB 4294967296 l->pB 65536 (vG l)
 | [],_=>fun x hx=>(by cases hx)
 | w::l,h=>fun x hx=>by
  have h1:=h w (by simp)
  rcases ybs.1 hx with rfl | hx
  ·exact ycy _ (by decide)
  ·rcases ybs.1 hx with rfl | hx
   ·exact ycu (by omega)
   ·exact zao (l:=l) (fun y hy=>h y (by simp[hy])) x hx
def mV:∀(l:List Nat) (w:Nat),vG (l++[w])=vG l++[w%65536,w / 65536]
 | [],w=>rfl
 | a::l,w=>by simp[vG,mV l w]
def zab{l:List Nat}{w:Nat}(hw:w≠0):pE (vG (l++[w]))=if w / 65536=0 then vG l++[w%65536]else vG (l++[w]):=by
 rw[mV];split
 ·rename_i h
  rw[h,show vG l++[w%65536,0]=(vG l++[w%65536])++[0] by simp,zas]
  refine jV fun _=>?_
  simp;omega
 ·rename_i h
  refine jV fun _=>?_
  simpa using h
end Go.Am
namespace Go.Proofs
open Go Go.Am
variable [nC]
variable {t:Tr rA}
def set_append_right{l m:List Nat}{i x:Nat}(h:l.length=i):(l++m).set i x=l++m.set 0 x:=by
 rw[List.set_append_right _ _ (by omega)];congr 1;congr 1;omega
def zwp{l:List Nat}{v:zA}{b:Nat}{Q:xC}(hv:lA t 1 (lB .u16 l) v)(hl:l.length<1000000)(hlt:pB 65536 l)(hbase:yA.base<=b)(hb:t.get b=none)
  (hQ:∀t' v',cA t t'->lA t' 1 (lB .u32 (oF l)) v'->Q v' t'):∀(k i:Nat) (t':Tr rA),i+k=l.length->cA t t'->wF t' b .u32 (oF (l.take i)++List.replicate ((l.length+1) / 2-(i+1) / 2) 0) →
  jp 190 2 [.slice b 0 ((l.length+1) / 2) ((l.length+1) / 2),v,.int .i64 l.length,.int .i64 i] t' Q:=by
 intro k;induction k with
 | zero=>
  intro i t' hi ht ho;refine z5q _ _ _ _ ?_
  simp only[zvo,qA,cC];rw[yaa (by omega)]
  rw[yca (by omega),show(l.length+1) / 2-(i+1) / 2=0 by omega,List.replicate_zero,ycd]at ho
  refine hQ _ _ ht ?_
  have:=ho.all (ybk _)
  rw[oN]at this;exact this
 | succ k ih=>
  intro i t' hi ht ho;obtain⟨x,hx⟩:=getElem?_of_lt (l:=l) (i:=i) (by omega)
  have hxlt:x<65536:=mI hlt hx
  obtain⟨c,off,g1,g2⟩:=(hv.mono ht).idx sl27 hx
  have htake:l.take (i+1)=l.take i++[x]:=by rw[ydg,hx];rfl
  have hlen:(l.take i).length=i:=by simp;omega
  obtain⟨y,hy,hnew⟩:∃y,(oF (l.take i)++List.replicate ((l.length+1) / 2-(i+1) / 2) 0)[i / 2]?=some y/\y<4294967296/\Nat.lor y (x*2^(16*(i%2)))<4294967296 ∧
    (oF (l.take i)++List.replicate ((l.length+1) / 2-(i+1) / 2) 0).set (i / 2) (Nat.lor y (x*2^(16*(i%2))))=oF (l.take (i+1))++List.replicate ((l.length+1) / 2-(i+1+1) / 2) 0:=by
   rcases Nat.mod_two_eq_zero_or_one i with he | ho1
   ·have hp:(oF (l.take i)).length=i / 2:=by rw[oN,hlen];omega
    refine⟨0,?_,by decide,?_,?_⟩
    ·rw[ybp (by omega),hp,Nat.sub_self,List.getElem?_replicate,yab (by omega)]
    ·rw[he];simp;omega
    ·rw[set_append_right hp,he,htake,zaw _ _ (by rw[hlen];exact he)]
     have:Nat.lor 0 (x*2^(16*0))=x:=by show 0 ||| _=x;simp
     rw[this];obtain⟨r,hr⟩:∃r,(l.length+1) / 2-(i+1) / 2=r+1:=⟨(l.length+1) / 2-(i+1) / 2-1,by omega⟩
     rw[hr,List.replicate_succ,List.set_cons_zero,show(l.length+1) / 2-(i+1+1) / 2=r by omega]
     simp
   ·obtain⟨p,a,hpa⟩:=iX (l:=l.take i) (by intro e;rw[e]at hlen;simp at hlen;omega)
    have hpl:p.length=i-1:=by rw[hpa]at hlen;simp at hlen;omega
    have hpe:p.length%2=0:=by omega
    have ha:a<65536:=hlt a (List.mem_of_mem_take (by rw[hpa];simp:a∈l.take i))
    have hp:(oF p).length=i / 2:=by rw[oN,hpl];omega
    rw[hpa,zaw _ _ hpe];have hlor:Nat.lor a (x*2^(16*1))=a+65536*x:=by
     show a ||| x*2^(16*1)=_
     rw[Nat.or_comm];have:=zfl (a:=x) (b:=a) (n:=16) (by omega)
     show Nat.lor (x*2^16) a=_
     rw[this];omega
    refine⟨a,?_,by omega,?_,?_⟩
    ·rw[ybz,ybp (by omega),hp,Nat.sub_self];rfl
    ·rw[ho1,hlor];omega
    ·rw[ho1,hlor,ybz,set_append_right hp,htake,hpa,ybz]
     rw[show [a]++[x]=[a,x] from rfl,zj0 _ _ _ hpe,ybz];rw[show(l.length+1) / 2-(i+1+1) / 2=(l.length+1) / 2-(i+1) / 2 by omega]
     rfl
  obtain⟨hy1,hy2,hy3⟩:=hnew
  have hwlen:(oF (l.take i)++List.replicate ((l.length+1) / 2-(i+1) / 2) 0).length=(l.length+1) / 2:=by
   rw[ybg,oN,hlen,List.length_replicate];omega
  have g3:jB yA 244 (.slice b 0 ((l.length+1) / 2) ((l.length+1) / 2)) (.int .i64 ((i / 2:Nat):Int))=some (.ptr b (0+i / 2*1)):=oV lF (by omega)
  rw[show 0+i / 2*1=i / 2 by omega]at g3;have g4:=ho.load hy uG rfl
  obtain⟨t2,g5,g6,g7⟩:=ho.store (C:=yA) hbase (j:=i / 2) (by omega) (Nat.lor y (x*2^(16*(i%2)))) uG rfl
  rw[hy3]at g6;refine z5q _ _ _ _ ?_
  have e1:Int.tdiv (i:Int) 2=((i / 2:Nat):Int):=by rw[Int.tdiv_eq_ediv_of_nonneg (by omega)];rfl
  have e2:Int.tmod (i:Int) 2=((i%2:Nat):Int):=by rw[Int.tmod_eq_emod_of_nonneg (by omega)];rfl
  have hm:=ycy i (show 0<2 by decide)
  simp (disch:=omega) only[zvo,qA,cC,g1,g2,wA,tB,wrap_i64,uQ,e1,e2,g3,g4]
  rw[yab (by omega)]
  have e3:zyf .u32 (x:Int) (16*((i%2:Nat):Int))=some (.int .u32 ((x*2^(16*(i%2)):Nat):Int)):=by
   rcases Nat.mod_two_eq_zero_or_one i with h | h<;>rw[h]
   ·simp[zyf,zct,lJ]
    rw[uQ (by omega) (by omega)]
   ·have:zyf .u32 (x:Int) (16*((1:Nat):Int))=some (.int .u32 (sA .u32 ((x:Int)*65536))):=rfl
    rw[this,uQ (by omega) (by omega)]
    simp
  rw[e3];have hb2:x*2^(16*(i%2))<4294967296:=by
   rcases Nat.mod_two_eq_zero_or_one i with h | h<;>rw[h]<;>omega
  simp only[wA,tB];rw[jO (show y<jF .u32 from hy1) (show x*2^(16*(i%2))<jF .u32 from hb2)]
  simp only[wA,tB];intro d _ _;rw[g5];simp only[wA];have:=ih (i+1) t2 (by omega) (ht.off hb g7) g6
  rw[show((i+1:Nat):Int)=(i:Int)+1 by omega]at this
  exact this
def zna{l:List Nat}{v:zA}{Q:xC}(hv:lA t 1 (lB .u16 l) v)(hl:l.length<1000000)(hlt:pB 65536 l)
  (hQ:∀t' v',cA t t'->lA t' 1 (lB .u32 (oF l)) v'->Q v' t'):Wc yA F 190 [v] t Q:=by
 refine w190 _ ?_
 have e1:Int.tdiv ((l.length:Int)+1) 2=(((l.length+1) / 2:Nat):Int):=by rw[Int.tdiv_eq_ediv_of_nonneg (by omega)];rfl
 simp (disch:=omega) only[t190,qA,hv.len,wA,tB,tF,wrap_i64,e1]
 intro b hb hbase;obtain⟨t',g1,g2,g3,_⟩:=fU (C:=yA) (k:=.u32) jL rfl uG rfl rfl (by decide) (n:=(l.length+1) / 2) (by omega) hb
 rw[g1];simp only[wA];exact zwp hv hl hlt hbase hb hQ l.length 0 t' (by omega) g3 (by simpa[oF]using g2)
end Go.Proofs
namespace Go.Proofs
open Go Go.Am
variable [nC]
variable {t:Tr rA}
def zuy{n:Nat}(h:n<4294967296):n / 2147483648=if n.testBit 31 then 1 else 0:=by
 have:n.testBit 31=decide (n / 2^31%2=1):=Nat.testBit_eq_decide_div_mod_eq
 rw[this];have h2:n / 2^31<2:=by omega
 by_cases c:n / 2^31%2=1
 ·rw[decide_eq_true c];simp;omega
 ·rw[decide_eq_false c];simp;omega
def zux{n:Nat}(h:n<4294967296):n.testBit 31=decide (2147483648<=n):=by
 have:=zuy h
 by_cases c:2147483648<=n
 ·rw[decide_eq_true c]
  cases hb:n.testBit 31 with
  | true=>rfl
  | false=>rw[hb]at this;simp at this;omega
 ·rw[decide_eq_false c]
  cases hb:n.testBit 31 with
  | false=>rfl
  | true=>rw[hb]at this;simp at this;omega
def zi4{x:Nat}(h:x<4294967296):zmi (.int .u32 (x:Int))=some (.int .u32 (Nat.xor 4294967295 x:Nat)):=by
 unfold zmi;simp only[zA.asIntK,tA];have:Nat.beq (kLo .u32) 0=true:=rfl
 rw[this,gD];exact jO (k:=.u32) (x:=4294967295) (show 4294967295<jF .u32 by decide) (show x<jF .u32 from h)
def z1b{x y b:Nat}(hx:x<4294967296)(hy:y<4294967296)(hb:b<2) :
  wC yA F 254 [.int .u32 x,.int .u32 y,.int .u32 b] t=some (.tup [.int .u32 (((x+8589934592-y-b)%4294967296:Nat):Int),.int .u32 (((if x<y+b then 1 else 0):Nat):Int)]):=by
 refine wD.2 (w254 _ _ _ ?_)
 obtain⟨d,hd⟩:∃d,d=(x+8589934592-y-b)%4294967296:=⟨_,rfl⟩
 have hdl:d<4294967296:=by rw[hd];exact ycy _ (by decide)
 have e1:sA .u32 (sA .u32 ((x:Int)-y)-b)=(d:Int):=by
  rw[qM,qM,hd];omega
 have hn1:Nat.xor 4294967295 x<4294967296:=Nat.xor_lt_two_pow (n:=32) (by decide) hx
 have hn2:Nat.xor x y<4294967296:=Nat.xor_lt_two_pow (n:=32) hx hy
 have hn3:Nat.xor 4294967295 (Nat.xor x y)<4294967296:=Nat.xor_lt_two_pow (n:=32) (by decide) hn2
 have hn4:Nat.land (Nat.xor 4294967295 x) y<4294967296:=yam Nat.and_le_left hn1
 have hn5:Nat.land (Nat.xor 4294967295 (Nat.xor x y)) d<4294967296:=yam Nat.and_le_left hn3
 have hn6:Nat.lor (Nat.land (Nat.xor 4294967295 x) y) (Nat.land (Nat.xor 4294967295 (Nat.xor x y)) d)<4294967296:=Nat.or_lt_two_pow (n:=32) hn4 hn5
 simp only[t254,qA,e1];rw[zi4 hx];simp only[wA,tB];rw[zqp,jO (k:=.u32) hn1 hy]
 simp only[wA,tB];rw[jO (k:=.u32) hx hy]
 simp only[wA,tB];rw[zi4 hn2];simp only[wA,tB];rw[zqp,jO (k:=.u32) hn3 hdl]
 simp only[wA,tB];rw[jO (k:=.u32) hn4 hn5]
 simp only[wA,tB];have e2:Int.fdiv ((Nat.lor (Nat.land (Nat.xor 4294967295 x) y) (Nat.land (Nat.xor 4294967295 (Nat.xor x y)) d):Nat):Int) 2147483648=(((if x<y+b then 1 else 0):Nat):Int):=by
  rw[show(2147483648:Int)=((2147483648:Nat):Int) from rfl,hO,zuy hn6]
  congr 1
  have tb:(Nat.lor (Nat.land (Nat.xor 4294967295 x) y) (Nat.land (Nat.xor 4294967295 (Nat.xor x y)) d)).testBit 31=decide (x<y+b):=by
   show((4294967295 ^^^ x) &&& y ||| (4294967295 ^^^ (x ^^^ y)) &&& d).testBit 31=_
   rw[Nat.testBit_or,Nat.testBit_and,Nat.testBit_and,Nat.testBit_xor,Nat.testBit_xor,Nat.testBit_xor,zux hx,zux hy,zux hdl];have:(4294967295:Nat).testBit 31=true:=by decide
   rw[this];by_cases c1:2147483648<=x<;>by_cases c2:2147483648<=y<;>by_cases c3:2147483648<=d<;>by_cases c4:x<y+b<;>simp only[c1,c2,c3,c4,decide_true,decide_false,Bool.xor_true,Bool.xor_false,Bool.true_xor,Bool.false_xor,Bool.not_true,ycl,Bool.and_true,yay,Bool.or_true,Bool.or_false,Bool.xor_self]<;>omega
  rw[tb];by_cases c:x<y+b
  ·simp[c]
  ·simp[c]
 rw[e2,hd];simp
def z4c{x y c:Nat}(hx:x<4294967296)(hy:y<4294967296)(hc:c<2) :
  wC yA F 260 [.int .u32 x,.int .u32 y,.int .u32 c] t=some (.tup [.int .u32 (((x+y+c)%4294967296:Nat):Int),.int .u32 (((x+y+c) / 4294967296:Nat):Int)]):=by
 refine wD.2 (w260 _ _ _ ?_)
 have e0:((x:Int)+y)+c=((x+y+c:Nat):Int):=by omega
 simp (disch:=omega) only[t260,qA,iE]
 have e1:((x+y+c:Nat):Int)%4294967296=(((x+y+c)%4294967296:Nat):Int):=by omega
 have e2:(((x+y+c) / 4294967296:Nat):Int)%4294967296=(((x+y+c) / 4294967296:Nat):Int):=by omega
 rw[e0,show Int.fdiv ((x+y+c:Nat):Int) 4294967296=(((x+y+c) / 4294967296:Nat):Int) from hO _ 4294967296,qM,qM,e1,e2]
 simp
def z3o{h l d:Nat}(hh:h<d)(hl:l<4294967296)(hd:d<4294967296) :
  wC yA F 211 [.int .u32 h,.int .u32 l,.int .u32 d] t=some (.tup [.int .u32 (((h*4294967296+l) / d:Nat):Int),.int .u32 (((h*4294967296+l)%d:Nat):Int)]):=by
 refine wD.2 (w211 _ _ _ ?_)
 simp only[t211,qA,zhu,yG];rw[yab (by omega),yaa (by omega)]
 refine j211_7 _ _ _ ?_
 have e1:(h:Int)*4294967296=((h*4294967296:Nat):Int):=by omega
 have hq:(h*4294967296+l) / d<4294967296:=ycu (by
  have:(h+1)*4294967296<=d*4294967296:=ybi _ hh
  omega)
 have hr:(h*4294967296+l)%d<d:=ycy _ (by omega)
 simp (disch:=omega) only[z4z,qA,iE,e1]
 have e2:rH Nat.lor .u64 ((h*4294967296:Nat):Int) (l:Int)=some (.int .u64 ((h*4294967296+l:Nat):Int)):=by
  rw[jO (k:=.u64) (show h*4294967296<jF .u64 by show _<18446744073709551616;omega) (show l<jF .u64 by show _<18446744073709551616;omega)]
  have:=zfl (a:=h) (b:=l) (n:=32) hl
  rw[show h*4294967296=h*2^32 by rfl,this]
 rw[e2];simp only[wA,tB];rw[zh8 (k:=.u64) (by omega) (by
  generalize (h*4294967296+l) / d=q at hq ⊢
  exact iE (by omega) (by omega)),zb2 (k:=.u64) (by omega)]
 simp only[wA,tB];generalize (h*4294967296+l) / d=q at hq ⊢
 generalize (h*4294967296+l)%d=r at hr ⊢
 rw[uQ (by omega) (by omega),uQ (by omega) (by omega)]
 simp
def z2o(v:Nat)(hv:v<256):∃k,k<9/\lC [0,1,2,2,3,3,3,3,4,4,4,4,4,4,4,4,5,5,5,5,5,5,5,5,5,5,5,5,5,5,5,5,6,6,6,6,6,6,6,6,6,6,6,6,6,6,6,6,6,6,6,6,6,6,6,6,6,6,6,6,6,6,6,6,7,7,7,7,7,7,7,7,7,7,7,7,7,7,7,7,7,7,7,7,7,7,7,7,7,7,7,7,7,7,7,7,7,7,7,7,7,7,7,7,7,7,7,7,7,7,7,7,7,7,7,7,7,7,7,7,7,7,7,7,7,7,7,7,8,8,8,8,8,8,8,8,8,8,8,8,8,8,8,8,8,8,8,8,8,8,8,8,8,8,8,8,8,8,8,8,8,8,8,8,8,8,8,8,8,8,8,8,8,8,8,8,8,8,8,8,8,8,8,8,8,8,8,8,8,8,8,8,8,8,8,8,8,8,8,8,8,8,8,8,8,8,8,8,8,8,8,8,8,8,8,8,8,8,8,8,8,8,8,8,8,8,8,8,8,8,8,8,8,8,8,8,8,8,8,8,8,8,8,8,8,8,8,8,8,8,8,8,8,8,8,8] v=some k/\(v=0/\k=0\/0<k/\2^(k-1)<=v/\v<2^k):=by
 have h:∀v:Fin 256,(lC [0,1,2,2,3,3,3,3,4,4,4,4,4,4,4,4,5,5,5,5,5,5,5,5,5,5,5,5,5,5,5,5,6,6,6,6,6,6,6,6,6,6,6,6,6,6,6,6,6,6,6,6,6,6,6,6,6,6,6,6,6,6,6,6,7,7,7,7,7,7,7,7,7,7,7,7,7,7,7,7,7,7,7,7,7,7,7,7,7,7,7,7,7,7,7,7,7,7,7,7,7,7,7,7,7,7,7,7,7,7,7,7,7,7,7,7,7,7,7,7,7,7,7,7,7,7,7,7,8,8,8,8,8,8,8,8,8,8,8,8,8,8,8,8,8,8,8,8,8,8,8,8,8,8,8,8,8,8,8,8,8,8,8,8,8,8,8,8,8,8,8,8,8,8,8,8,8,8,8,8,8,8,8,8,8,8,8,8,8,8,8,8,8,8,8,8,8,8,8,8,8,8,8,8,8,8,8,8,8,8,8,8,8,8,8,8,8,8,8,8,8,8,8,8,8,8,8,8,8,8,8,8,8,8,8,8,8,8,8,8,8,8,8,8,8,8,8,8,8,8,8,8,8,8,8,8] v.val).elim false (fun k=>decide (k<9)&&(decide (v.val=0)&&decide (k=0)||decide (0<k)&&decide (2^(k-1)<=v.val)&&decide (v.val<2^k)))=true:=by decide +kernel
 have hv:=h ⟨v,hv⟩
 simp only[]at hv;generalize lC _ v=r at hv ⊢
 cases r with
 | none=>simp at hv
 | some k=>
  simp only[Option.elim_some,ybb,ycq,decide_eq_true_eq]at hv;obtain⟨hk,hv⟩:=hv
  refine⟨k,hk,rfl,?_⟩
  rcases hv with hv | hv
  ·exact .inl hv
  ·exact .inr ⟨hv.1.1,hv.1.2,hv.2⟩
def BL (x k:Nat):Prop:=x=0/\k=0\/0<k/\2^(k-1)<=x/\x<2^k
def zkg{x s:Nat}(hx:x<256)(hs:s<100):∃k,k<=8/\BL x k/\jp 258 15 [.int .u32 x,.int .i64 s] t (fun v m=>v=.int .i64 ((s+k:Nat):Int)/\m=t):=by
 obtain⟨k,hk,h1,h2⟩:=z2o x hx
 refine⟨k,by omega,h2,z7y _ _ ?_⟩
 simp (disch:=omega) only[zu8,qA,zuc]
 unfold yJ;rw[ty9,tA];have:(zA.int .u8 (x:Int)).asNat=some x:=rfl
 rw[this,tA];simp only[zA.asStr];rw[show(rC.desc ⟨.string,1,16,[.str []],true⟩).isString=true from rfl,gD]
 rw[h1,tA];simp only[wA];rw[show z77 .u8 (.int .u8 (Int.ofNat k))=some (Int.ofNat k) from tB]
 simp only[wA];rw[show Int.ofNat k=(k:Int) from rfl]
 simp (disch:=omega) only[wrap_i64]
 simp
def zkf{x s:Nat}(hx:x<65536)(hs:s<90):∃k,k<=16/\BL x k/\jp 258 9 [.int .u32 x,.int .i64 s] t (fun v m=>v=.int .i64 ((s+k:Nat):Int)/\m=t):=by
 by_cases h:256<=x
 ·obtain⟨k,h1,h2,h3⟩:=zkg (t:=t) (x:=x / 256) (s:=s+8) (by omega) (by omega)
  refine⟨k+8,by omega,?_,z5e _ _ ?_⟩
  ·rcases h2 with h2 | ⟨g1,g2,g3⟩
   ·omega
   ·refine .inr ⟨by omega,?_,?_⟩
    ·rw[show k+8-1=(k-1)+8 by omega,Nat.pow_add];omega
    ·rw[Nat.pow_add];omega
  ·simp (disch:=omega) only[zu7,qA,yG,wrap_i64]
   rw[yab (by omega),show(256:Int)=((256:Nat):Int) from rfl,hO,show(s:Int)+8=((s+8:Nat):Int) by omega]
   rw[show s+(k+8)=s+8+k by omega]
   exact h3
 ·obtain⟨k,h1,h2,h3⟩:=zkg (t:=t) (x:=x) (s:=s) (by omega) (by omega)
  refine⟨k,by omega,h2,z5e _ _ ?_⟩
  simp only[zu7,qA,yG];rw[yaa (by omega)]
  exact h3
def z2p{x:Nat}(hx:x<4294967296):∃k,k<=32/\BL x k/\wC yA F 258 [.int .u32 x] t=some (.int .i64 (k:Int)):=by
 by_cases h:65536<=x
 ·obtain⟨k,h1,h2,h3⟩:=zkf (t:=t) (x:=x / 65536) (s:=16) (by omega) (by omega)
  refine⟨k+16,by omega,?_,wD.2 (w258 _ ?_)⟩
  ·rcases h2 with h2 | ⟨g1,g2,g3⟩
   ·omega
   ·refine .inr ⟨by omega,?_,?_⟩
    ·rw[show k+16-1=(k-1)+16 by omega,Nat.pow_add];omega
    ·rw[Nat.pow_add];omega
  ·simp only[t258,qA,yG]
   rw[yab (by omega),show(65536:Int)=((65536:Nat):Int) from rfl,hO]
   rw[show k+16=16+k by omega];exact h3
 ·obtain⟨k,h1,h2,h3⟩:=zkf (t:=t) (x:=x) (s:=0) (by omega) (by omega)
  refine⟨k,by omega,h2,wD.2 (w258 _ ?_)⟩
  simp only[t258,qA,yG];rw[yaa (by omega)]
  rw[ybw]at h3;exact h3
def zw8{x:Nat}(hx:x<4294967296)(h0:0<x):∃s:Nat,s<32/\2147483648<=x*2^s/\x*2^s<4294967296/\wC yA F 249 [.int .u32 x] t=some (.int .i64 (s:Int)):=by
 obtain⟨k,h1,h2,h3⟩:=z2p (t:=t) hx
 rcases h2 with h2 | ⟨g1,g2,g3⟩
 ·omega
 ·refine⟨32-k,by omega,?_,?_,wD.2 (w249 _ ?_)⟩
  ·have:2^(k-1)*2^(32-k)=2147483648:=by rw[<- Nat.pow_add,show k-1+(32-k)=31 by omega]
   rw[<- this];exact ybi _ g2
  ·have:2^k*2^(32-k)=4294967296:=by rw[<- Nat.pow_add,show k+(32-k)=32 by omega]
   rw[<- this];exact Nat.mul_lt_mul_of_pos_right g3 (Nat.pow_pos (Nat.succ_pos 1))
  ·simp (disch:=omega) only[t249,qA,q258,h3,wA,tB,wrap_i64]
   refine⟨?_,trivial⟩
   congr 1;omega
end Go.Proofs
namespace Go.Am
def uX{p:List Nat}{n x:Nat}:(p++List.replicate (n+1) 0).set p.length x=(p++[x])++List.replicate n 0:=by
 rw[List.set_append_right _ _ (ybk _),Nat.sub_self,List.replicate_succ,List.set_cons_zero];simp
def xL(B:Nat)(l:List Nat)(x:Nat):val B (l++[x])=val B l+B^l.length*x:=by rw[gS];simp[val]
def qS{B:Nat}{l:List Nat}{x:Nat}(h:pB B l)(hx:x<B):pB B (l++[x]):=zly h fun y hy=>by rw[ydd.1 hy];exact hx
def zr2{B:Nat}{r w d:Nat}(hr:r<d)(hw:w<B):(r*B+w) / d<B:=by
 have hd:0<d:=by omega
 refine ycu ?_
 have:(r+1)*B<=d*B:=ybi B hr
 rw[ybo]at this;omega
def mR{l:List Nat}{i x:Nat}(h:l[i]?=some x):l.take (i+1)=l.take i++[x]:=by rw[ydg,h];rfl
def aI{l:List Nat}{i x:Nat}(h:l[i]?=some x):l.drop i=x::l.drop (i+1):=by
 have hi:=(ybc.1 h)
 rw[ybl hi.1,hi.2]
end Go.Am
namespace Go.Am
open Go Go.RowKit
section
variable {t:Tr rA}{C:pA}
def zw7{c:Tr zA}{sz:Nat}:∀(cl:List (List zA)) (off:Nat),(∀(i:Nat) cs,cl[i]?=some cs->cs.length=sz/\∀(j:Nat) a,cs[j]?=some a->c.get (off+i*sz+j)=some a)->c.many (cl.length*sz) off=some cl.flatten:=by
 intro cl;induction cl with
 | nil=>intro off _;simp;rfl
 | cons cs cl ih=>
  intro off h;obtain⟨h1,h2⟩:=h 0 cs (by simp)
  have hrest:=ih (off+sz) fun i cs' hi=>by
   obtain⟨g1,g2⟩:=h (i+1) cs' (by simpa using hi)
   refine⟨g1,fun j a hj=>?_⟩
   have:=g2 j a hj
   rw[show off+sz+i*sz+j=off+(i+1)*sz+j by rw[ybo];omega]
   exact this
  have key:∀(n:Nat) (l r:List zA) (off:Nat),l.length=n->(∀(j:Nat) a,l[j]?=some a->c.get (off+j)=some a)->∀m,c.many m (off+n)=some r->c.many (n+m) off=some (l++r):=by
   intro n;induction n with
   | zero=>
    intro l r off hl _ m hm;have:l=[]:=ycc.1 hl
    subst this;simpa using hm
   | succ n ihn=>
    intro l r off hl hg m hm
    cases l with
    | nil=>simp at hl
    | cons a l=>
     rw[show n+1+m=(n+m)+1 by omega,Tr.many_succ]
     have:=hg 0 a (by simp)
     rw[yct]at this;rw[this,tA,ihn l r (off+1) (by simpa using hl) (fun j b hj=>by
      have:=hg (j+1) b (by simpa using hj)
      rw[show off+1+j=off+(j+1) by omega];exact this) m (by rw[show off+1+n=off+(n+1) by omega];exact hm)]
     rfl
  rw[yas,ybn,ybo,Nat.one_mul,yap];exact key sz cs _ off h1 (fun j a hj=>by have:=h2 j a hj;rw[Nat.zero_mul,yct]at this;exact this) _ hrest
def sJ.first{sz:Nat}{v:zA}{cl:List (List zA)}(h:sJ t sz v cl){n:Nat}:qL ⟨n,t⟩ sz cl.length v=some cl.flatten/\jQ v=some cl.length:=by
 rcases h with⟨rfl,rfl⟩ | ⟨b,off,cap,rfl,_,⟨c,m,lo,h1,_⟩,h2⟩
 ·exact⟨rfl,rfl⟩
 ·refine⟨?_,rfl⟩
  unfold qL;simp only[zA.asSlice];unfold tD;rw[h1,tA];simp only[rA.asCells,tA];refine zw7 cl off fun i cs hi=>?_
  obtain⟨g1,c',m',lo',g2,g3⟩:=h2 i cs hi
  rw[h1]at g2
  cases g2
  exact⟨g1,g3⟩
def mW{sz:Nat}:∀ {cl:List (List zA)},(∀(i:Nat) cs,cl[i]?=some cs->cs.length=sz)->cl.flatten.length=cl.length*sz:=by
 intro cl;induction cl with
 | nil=>intro _;simp
 | cons c cl ih=>
  intro h;rw[yas,ybg,ybn,ybo,ih fun i cs hi=>h (i+1) cs (by simpa using hi),h 0 c (by simp)]
  omega
def qT{sz:Nat}:∀ {cl:List (List zA)},(∀(i:Nat) cs,cl[i]?=some cs->cs.length=sz)->∀(i j:Nat) cs a,cl[i]?=some cs->cs[j]?=some a->cl.flatten[i*sz+j]?=some a:=by
 intro cl;induction cl with
 | nil=>intro _ i j cs a h;simp at h
 | cons c cl ih=>
  intro h i j cs a hi hj;have hc:=h 0 c (by simp)
  rw[yas]
  cases i with
  | zero=>
   simp at hi;subst hi;rw[Nat.zero_mul,ybw,yco (ybc.1 hj).1]
   exact hj
  | succ i=>
   rw[ybp (by rw[hc,ybo];omega),hc,show(i+1)*sz+j-sz=i*sz+j by rw[ybo];omega]
   exact ih (fun i cs hi=>h (i+1) cs (by simpa using hi)) i j cs a (by simpa using hi) hj
def sJ.len{sz:Nat}{v:zA}{cl:List (List zA)}(h:sJ t sz v cl):∀(i:Nat) cs,cl[i]?=some cs->cs.length=sz:=by
 rcases h with⟨rfl,rfl⟩ | ⟨b,off,cap,rfl,_,_,h2⟩
 ·intro i cs hi;simp at hi
 ·exact fun i cs hi=>(h2 i cs hi).1
def sY{sz n:Nat}{cl:List (List zA)}{t':Tr rA}{lo:Option Lo}(hl:∀(i:Nat) cs,cl[i]?=some cs->cs.length=sz)(h:t'.get n=some (.cells (Tr.ofList cl.flatten) (zB cl.flatten) lo))(hlo:lo=none\/∃x,lo=some x/\x.es=sz):sJ t' sz (.slice n 0 cl.length cl.length) cl:=
 .inr ⟨n,0,cl.length,rfl,ybk _,⟨_,_,_,h,hlo⟩,fun i cs hi=>⟨hl i cs hi,_,_,_,h,fun j a hj=>by
  rw[Tr.get_ofList,ybw];exact qT hl i j cs a hi hj⟩⟩
def NB (C:pA)(el:Nat):Prop:=∀y,C.tys.get el=some y->zyc y=false
def NB.code{el:Nat}{z:rC}(h:NB C el)(hz:C.tys.get el=some z):sI el z=.sz z.size:=by
 unfold sI;rw[h z hz,yay];rfl
structure zt1 (C:pA) (T el sz:Nat):Prop where
 ty:∃y,C.tys.get T=some y/\y.desc.asSlice=some el/\Nat.beq y.desc.tag 1=false
 el:∃y,C.tys.get el=some y/\y.size=sz/\zB y.zero=sz/\y.bytes<=500/\0<sz
structure eJ (C:pA) (T e sz:Nat):Prop where
 ty:∃y,C.tys.get T=some y/\y.desc.asSlice=some e/\Nat.beq y.desc.tag 1=false
 el:∃y,C.tys.get e=some y/\y.size=sz/\zB y.zero=sz/\y.bytes<=500/\0<sz
 nb:NB C e
def zop{T el sz:Nat}(hT:eJ C T el sz){l:List D}{x s:zA}(hx:lA t sz l x)(hl:l.length<1000000){n:Nat}(hn:t.get n=none)
  (hs:s=.nilslice\/∃b c m,s=.slice b 0 0 0/\t.get b=some (.cells c m none)) :
  ∃v H',gE C T T s x ⟨n,t⟩=some (v,H')/\lA H'.t sz l v/\cA t H'.t/\oD n t H'.t:=by
 obtain⟨⟨y,hy1,hy2,hy3⟩,⟨z,hz1,hz2,hz3,hz4,hz5⟩,hnb⟩:=hT
 have hcode:=NB.code hnb hz1
 obtain⟨cl,he,hd⟩:=hx
 have hcl:=hd.length
 obtain⟨hf,hlen⟩:=he.first (n:=n)
 have hall:=he.len
 have base:gE C T T s x ⟨n,t⟩=(match s.asSlice with
  | some s=>bif Nat.ble (s.2.2.1+cl.length) s.2.2.2 then fQ C ⟨n,t⟩ z cl.length cl.flatten s else eQ C ⟨n,t⟩ el z cl.length cl.flatten s
  | none=>dA (Nat.beq s.tag 5) (zM ⟨n,t⟩ el z cl.length cl.flatten)):=by
  unfold gE aO;rw[hy1,tA,tA,hy3];simp only[ycl,gD];rw[hy2,tA,hz1,tA,hlen,tA,hz2,hf,tA];rfl
 have hfl:zB cl.flatten=cl.length*sz:=by rw[fC];exact mW hall
 have ok:iO z 0 0 cl.length cl.flatten=true:=by
  unfold iO;have h1:Nat.blt (0+cl.length+0) 1000000000=true:=tC.2 (by omega)
  have h2:Nat.blt ((0+cl.length+0)*z.bytes) 1000000000=true:=tC.2 (by
   have:=ydb (show 0+cl.length+0<=1000000 by omega) hz4
   omega)
  have h3:Nat.blt z.bytes 1000000000=true:=tC.2 (by omega)
  have h4:(!Nat.beq z.size 0)=true:=by
   cases hq:Nat.beq z.size 0 with
   | true=>have:=qB.1 hq;omega
   | false=>rfl
  have h5:Nat.beq (zB cl.flatten) (cl.length*z.size)=true:=by rw[hfl,hz2];exact qB.2 rfl
  have h6:Nat.beq (zB z.zero) z.size=true:=by rw[hz3,hz2];exact qB.2 rfl
  rw[h1,h2,h3,h4,h5,h6];rfl
 have newT:∀(q:rA),cA t (t.set n q)/\oD n t (t.set n q):=fun q=>⟨fun c u hc=>by
   rw[Tr.get_set,yaa (by intro e;rw[e,hn]at hc;cases hc)];exact hc,fun c hc=>by rw[Tr.get_set,yaa hc]⟩
 rcases hs with rfl | ⟨b,c,m,rfl,hb⟩
 ·by_cases h0:cl.length=0
  ·have:cl=[]:=ycc.1 h0
   subst this;refine⟨.nilslice,⟨n,t⟩,?_,⟨[],.inl ⟨rfl,rfl⟩,hd⟩,cA.refl _,oD.refl _ _⟩
   rw[base];rfl
  ·refine⟨.slice n 0 cl.length cl.length,⟨n+1,t.set n (.cells (Tr.ofList cl.flatten) (zB cl.flatten) (some (sI el z)))⟩,?_,⟨cl,sY hall (show(t.set n _).get n=_ by rw[Tr.get_set,yab rfl]) (.inr ⟨_,rfl,by rw[jT,hz2]⟩),uC.mono (newT _).1 _ _ hd⟩,(newT _).1,(newT _).2⟩
   rw[base];simp only[zA.asSlice];show dA true (zM ⟨n,t⟩ el z cl.length cl.flatten)=_
   rw[gD];unfold zM;have:Nat.beq cl.length 0=false:=by
    cases hq:Nat.beq cl.length 0 with
    | true=>exact absurd (qB.1 hq) h0
    | false=>rfl
   rw[this,cond_false,ok];rfl
 ·by_cases h0:cl.length=0
  ·have:cl=[]:=ycc.1 h0
   subst this;refine⟨.slice b 0 0 0,⟨n,t⟩,?_,⟨[],.inr ⟨b,0,0,rfl,ybk _,⟨c,m,none,hb,.inl rfl⟩,fun i cs hi=>by simp at hi⟩,hd⟩,cA.refl _,oD.refl _ _⟩
   rw[base];rfl
  ·refine⟨.slice n 0 cl.length cl.length,⟨n+1,t.set n (.cells (Tr.ofList cl.flatten) (zB cl.flatten) (some (sI el z)))⟩,?_,⟨cl,sY hall (show(t.set n _).get n=_ by rw[Tr.get_set,yab rfl]) (.inr ⟨_,rfl,by rw[jT,hz2]⟩),uC.mono (newT _).1 _ _ hd⟩,(newT _).1,(newT _).2⟩
   rw[base];simp only[zA.asSlice];have:Nat.ble (0+cl.length) 0=false:=by
    cases hq:Nat.ble (0+cl.length) 0 with
    | true=>have:=lD.1 hq;omega
    | false=>rfl
   rw[this,cond_false];unfold eQ;simp only[];rw[show ∀x,(!(Nat.beq 0 1&&x))=true from fun _=>rfl,gD,ok,gD]
   unfold tD;rw[hb,tA];simp only[rA.asCells,tA];unfold aU;simp only[Nat.zero_mul];show ob (c.many 0 0) _=_
   rw[show c.many 0 0=some [] from rfl,tA];rw[pG,yah,ybw];rfl
end
end Go.Am
namespace Go.Proofs
open Go Go.Am
variable [nC]
variable {t:Tr rA}
def el305:eJ yA 244 246 1:=⟨⟨_,jL,rfl,rfl⟩,⟨_,uG,rfl,rfl,by decide,by decide⟩,fun y h=>by rw[uG]at h;cases h;rfl⟩
def lit0{T el:Nat}{y z:rC}(hT:yA.tys.get T=some y)(hel:y.desc.asSlice=some el)(hz:yA.tys.get el=some z)(hs:zB z.zero=z.size){b:Nat}(hb:t.get b=none) :
  ∃H',sH yA T 0 [] ⟨b,t⟩=some (.slice b 0 0 0,H')/\(∃c,H'.t.get b=some (.cells c 0 none))/\cA t H'.t:=by
 refine⟨sE ⟨b,t⟩ [] none,?_,⟨Tr.ofList [],?_⟩,?_⟩
 ·unfold sH
  rw[hT,tA,hel,tA,hz,tA];have:(Nat.blt (0*z.size) 1000000&&Nat.beq (zB z.zero) z.size)=true:=by rw[Nat.zero_mul,hs,qB.2 rfl];rfl
  rw[this];rfl
 ·show(t.set b _).get b=_
  rw[Tr.get_set,yab rfl];rfl
 ·intro c u hc
  show(t.set b _).get c=_
  rw[Tr.get_set,yaa (by intro e;rw[e,hb]at hc;cases hc)];exact hc
def z30{l:List Nat}{v:zA}{Q:xC}(hv:lA t 1 (lB .u32 l) v)(hl:l.length<1000000)
  (hQ:∀t' v',cA t t'->lA t' 1 (lB .u32 l) v'->Q v' t'):Wc yA F 251 [v] t Q:=by
 refine w251 _ ?_
 have e:(binA .eql).f yA 244 (.tmp 3) (.const (.slice none 0 0)) v .nilslice=some (.bool (Nat.beq v.tag 5)):=by
  obtain⟨cl,h1,_⟩:=hv
  rcases h1 with⟨rfl,_⟩ | ⟨b,off,cap,rfl,_⟩
  ·kernel_rfl
  ·kernel_rfl
 simp only[t251,qA,e,wA,bT];split
 ·rename_i h
  have:v=.nilslice:=(tP.2.1).1 (qB.1 h)
  subst this;exact hQ _ _ (cA.refl _) hv
 ·intro b hb hbase
  obtain⟨H1,g1,⟨c,g2⟩,g3⟩:=lit0 (t:=t) jL rfl uG rfl hb
  rw[g1];simp only[wA];intro n hn _;obtain⟨u,H',g4,g5,g6,_⟩:=zop el305 (hv.mono g3) (by rw[tF];exact hl) hn (.inr ⟨b,c,0,rfl,g2⟩)
  rw[g4];simp only[wA];exact hQ _ _ (g3.trans g6) g5
def zfk(n:Nat):List Nat:=pE [n%4294967296,n / 4294967296]
def zrl(n:Nat):val 4294967296 (zfk n)=n:=by unfold zfk;rw[pM];simp only[val];omega
def zlx{n:Nat}(h:n<18446744073709551616):pB 4294967296 (zfk n):=bP fun x hx=>by
 simp at hx;omega
def zng(n:Nat):norm (zfk n):=pP _
def znl{T el:Nat}{y z:rC}{k:IntKind}(hT:yA.tys.get T=some y)(hel:y.desc.asSlice=some el)(hz:yA.tys.get el=some z)(hzero:z.zero=[.int k 0])(hs:z.size=1)(x:Nat)(hk:True){b:Nat}(hb:t.get b=none) :
  ∃H',sH yA T 1 [(0,.int k (x:Int))] ⟨b,t⟩=some (.slice b 0 1 1,H')/\wF H'.t b k [x]/\cA t H'.t:=by
 refine⟨sE ⟨b,t⟩ [.int k (x:Int)] none,?_,⟨Tr.ofList [.int k (x:Int)],?_,fun j u hj=>?_⟩,?_⟩
 ·unfold sH
  rw[hT,tA,hel,tA,hz,tA,hs,hzero];rfl
 ·show(t.set b _).get b=_
  rw[Tr.get_set,yab rfl];rfl
 ·rw[Tr.get_ofList]
  cases j with
  | zero=>simp at hj;subst hj;rfl
  | succ j=>simp at hj
 ·intro c u hc
  show(t.set b _).get c=_
  rw[Tr.get_set,yaa (by intro e;rw[e,hb]at hc;cases hc)];exact hc
def z2k{T el:Nat}{y z:rC}{k:IntKind}(hT:yA.tys.get T=some y)(hel:y.desc.asSlice=some el)(hz:yA.tys.get el=some z)(hzero:z.zero=[.int k 0])(hs:z.size=1)(x x':Nat){b:Nat}(hb:t.get b=none) :
  ∃H',sH yA T 2 [(0,.int k (x:Int)),(1,.int k (x':Int))] ⟨b,t⟩=some (.slice b 0 2 2,H')/\wF H'.t b k [x,x']/\cA t H'.t:=by
 refine⟨sE ⟨b,t⟩ [.int k (x:Int),.int k (x':Int)] none,?_,⟨Tr.ofList [.int k (x:Int),.int k (x':Int)],?_,fun j u hj=>?_⟩,?_⟩
 ·unfold sH
  rw[hT,tA,hel,tA,hz,tA,hs,hzero];rfl
 ·show(t.set b _).get b=_
  rw[Tr.get_set,yab rfl];rfl
 ·rw[Tr.get_ofList]
  cases j with
  | zero=>simp at hj;subst hj;rfl
  | succ j=>
   cases j with
   | zero=>simp at hj;subst hj;rfl
   | succ j=>simp at hj
 ·intro c u hc
  show(t.set b _).get c=_
  rw[Tr.get_set,yaa (by intro e;rw[e,hb]at hc;cases hc)];exact hc
def z1n{n:Nat}{Q:xC}(hn:n<18446744073709551616)(hQ:∀t' v',cA t t'->lA t' 1 (lB .u32 (zfk n)) v'->Q v' t'):Wc yA F 241 [.int .u64 n] t Q:=by
 refine w241 _ ?_
 have e1:sA .u32 (n:Int)=((n%4294967296:Nat):Int):=by rw[qM];omega
 have e2:sA .u32 (Int.fdiv (n:Int) 4294967296)=((n / 4294967296:Nat):Int):=by
  rw[show Int.fdiv (n:Int) 4294967296=((n / 4294967296:Nat):Int) from hO _ 4294967296,uQ (by omega) (by omega)]
 simp only[t241,qA,e1,e2];intro b hb _;obtain⟨H',g1,g2,g3⟩:=z2k (t:=t) (k:=.u32) jL rfl uG rfl rfl (n%4294967296) (n / 4294967296) hb
 rw[g1];simp only[wA];obtain⟨v',h1,h2⟩:=cS (l:=[n%4294967296,n / 4294967296]) (by simp) (g2.all (ybk _))
 simp only[q212];have h1:wC yA F 212 [.slice b 0 2 2] H'.t=some v':=h1
 rw[h1];exact hQ _ _ g3 h2
def zmh{l:List Nat}{v:zA}{b:Nat}{neg:Bool}{Q:xC}(hv:lA t 1 (lB .u32 l) v)(hl:l.length<400000)(hlt:pB 4294967296 l)(hne:l≠[])(hnorm:norm l)(hbase:yA.base<=b)(hb:t.get b=none)
  (hQ:∀t' v',cA t t'->lA t' 1 (lB .u16 (pE (vG l))) v'->Q (.agg [.bool neg,v']) t'):∀(k i:Nat) (t':Tr rA),i+k=l.length->cA t t'->wF t' b .u16 (vG (l.take i)++List.replicate (2*k) 0) →
  jp 225 2 [.bool neg,.slice b 0 (2*l.length) (2*l.length),v,.int .i64 l.length,.int .i64 i,.bool false,.nilslice] t' Q:=by
 intro k;induction k with
 | zero=>
  intro i t' hi ht ho;refine z5m _ _ _ _ _ _ _ ?_
  rw[yca (by omega),yat,List.replicate_zero,ycd]at ho
  obtain⟨m,w,rfl⟩:=iX hne
  have hw:w≠0:=by have:=hnorm (by simp);simpa using this
  have hwlt:w<4294967296:=hlt w (by simp)
  have hul:(vG (m++[w])).length=2*(m++[w]).length:=wU _
  have hml:(m++[w]).length=m.length+1:=by simp
  have hlast:(vG (m++[w]))[2*m.length+1]?=some (w / 65536):=by
   rw[mV,ybp (by rw[wU];omega),wU]
   rw[show 2*m.length+1-2*m.length=1 by omega];rfl
  have hread:=ho.all (cap:=2*(m++[w]).length) (by omega)
  rw[hul]at hread;have g3:jB yA 27 (.slice b 0 (2*(m++[w]).length) (2*(m++[w]).length)) (.int .i64 ((2*m.length+1:Nat):Int))=some (.ptr b (0+(2*m.length+1)*1)):=oV sl27 (by omega)
  rw[show 0+(2*m.length+1)*1=2*m.length+1 by omega]at g3
  have g4:=ho.load hlast zmj rfl
  have e1:((2*(m++[w]).length:Nat):Int)-1=((2*m.length+1:Nat):Int):=by rw[hml];omega
  have hlen:oB (.slice b 0 (2*(m++[w]).length) (2*(m++[w]).length))=some (.int .i64 ((2*(m++[w]).length:Nat):Int)):=rfl
  have hb2:2*m.length+1<1000000:=by omega
  simp (disch:=omega) only[zvk,qA,cC,hlen,wA,tB,e1,wrap_i64,g3,g4,yH]
  rw[yaa (by omega)]
  by_cases hz:w / 65536=0
  ·rw[yab (by rw[hz];rfl)]
   obtain⟨u,g5,g6⟩:=zE.front sl27 hread (k:=2*m.length+1) (by rw[tF,hul];omega)
   rw[g5];simp only[wA];have hone:rB zA.one [.bool neg,u]=true:=by
    show(bif zA.one (.bool neg)then(bif zA.one u then true else false)else false)=true
    rw[g6.one];rfl
   rw[yab hone,yab hone];refine hQ _ _ ht ?_
   rw[zgj]at g6;rw[zab hw,yab hz];have:(vG (m++[w])).take (2*m.length+1)=vG m++[w%65536]:=by
    rw[mV,show vG m++[w%65536,w / 65536]=(vG m++[w%65536])++[w / 65536] by simp]
    rw[List.take_left' (by simp[wU])]
   rw[this]at g6;exact g6
  ·rw[yaa (by omega)]
   have hone:rB zA.one [.bool neg,.slice b 0 (2*(m++[w]).length) (2*(m++[w]).length)]=true:=rfl
   rw[yab hone,yab hone];refine hQ _ _ ht ?_
   rw[zab hw,yaa hz];exact hread
 | succ k ih=>
  intro i t' hi ht ho;obtain⟨x,hx⟩:=getElem?_of_lt (l:=l) (i:=i) (by omega)
  have hxlt:x<4294967296:=mI hlt hx
  obtain⟨c,off,g1,g2⟩:=(hv.mono ht).idx lF hx
  have htl:(l.take i).length=i:=by simp;omega
  have hpl:(vG (l.take i)).length=2*i:=by rw[wU,htl]
  have hlen0:(vG (l.take i)++List.replicate (2*(k+1)) 0).length=2*l.length:=by simp[hpl];omega
  have g3:∀j,j<2*l.length->jB yA 27 (.slice b 0 (2*l.length) (2*l.length)) (.int .i64 (j:Int))=some (.ptr b j):=by
   intro j hj;have:=oV (b:=b) (off:=0) (cap:=2*l.length) sl27 hj
   rw[show 0+j*1=j by omega]at this;exact this
  have g3a:=g3 (2*i) (by omega)
  have g3b:=g3 (2*i+1) (by omega)
  obtain⟨t1,s1,s2,s3⟩:=ho.store (C:=yA) hbase (j:=2*i) (by rw[hlen0];omega) (x%65536) zmj rfl
  have hs2:(vG (l.take i)++List.replicate (2*(k+1)) 0).set (2*i) (x%65536)=(vG (l.take i)++[x%65536])++List.replicate (2*k+1) 0:=by
   rw[<- hpl,show 2*(k+1)=(2*k+1)+1 by omega];exact uX
  rw[hs2]at s2;obtain⟨t2,s4,s5,s6⟩:=s2.store (C:=yA) hbase (j:=2*i+1) (by simp[hpl]) (x / 65536) zmj rfl
  have hs5:((vG (l.take i)++[x%65536])++List.replicate (2*k+1) 0).set (2*i+1) (x / 65536)=vG (l.take (i+1))++List.replicate (2*k) 0:=by
   have hq:(vG (l.take i)++[x%65536]).length=2*i+1:=by simp[hpl]
   rw[<- hq,uX,mR hx,mV];simp
  rw[hs5]at s5;have e1:sA .u16 (x:Int)=((x%65536:Nat):Int):=by rw[zub];omega
  have e2:sA .u16 (Int.fdiv (x:Int) 65536)=((x / 65536:Nat):Int):=by
   rw[show Int.fdiv (x:Int) 65536=((x / 65536:Nat):Int) from hO _ 65536,z0u (by omega) (by omega)]
  have e3:(2:Int)*(i:Int)=((2*i:Nat):Int):=by omega
  have e4:((2*i:Nat):Int)+1=((2*i+1:Nat):Int):=by omega
  refine z5m _ _ _ _ _ _ _ ?_
  simp (disch:=omega) only[zvk,qA,cC,g1,g2,wA,tB,e1,e2,e3,e4,wrap_i64,g3a,g3b]
  rw[yab (by omega)]
  intro d _ _;rw[s1];simp only[wA];intro d' _ _;rw[s4];simp only[wA];have:=ih (i+1) t2 (by omega) ((ht.off hb s3).off hb s6) s5
  rw[show((i+1:Nat):Int)=(i:Int)+1 by omega]at this
  exact this
def zuo{l:List Nat}{v:zA}{neg:Bool}{Q:xC}(hv:lA t 1 (lB .u32 l) v)(hl:l.length<400000)(hlt:pB 4294967296 l)
  (hQ:∀t' v',cA t t'->lA t' 1 (lB .u16 (pE (vG (pE l)))) v'->Q (.agg [.bool (if pE l=[]then false else neg),v']) t'):Wc yA F 225 [.bool neg,v] t Q:=by
 refine w225 _ _ ?_
 obtain⟨u,h1,h2⟩:=cS (l:=l) (by omega) hv
 have hsl:=zcl l
 simp only[t225,qA,q212,h1,wA,h2.len,tB,tF,yH];by_cases h0:pE l=[]
 ·rw[yab (by rw[h0];rfl)]
  simp only[if_true];have:=hQ t .nilslice (cA.refl _) (by rw[h0];exact⟨[],.inl ⟨rfl,rfl⟩,by simp[vG,pE,lB,uC]⟩)
  rw[yab h0]at this;exact this
 ·have hpos:0<(pE l).length:=List.length_pos_iff.2 h0
  rw[yaa (by omega)]
  have e1:(2:Int)*((pE l).length:Int)=((2*(pE l).length:Nat):Int):=by omega
  simp (disch:=omega) only[e1,wrap_i64]
  intro b hb hbase;obtain⟨t',g1,g2,g3,_⟩:=fU (C:=yA) (k:=.u16) ty27 rfl zmj rfl rfl (by decide) (n:=2*(pE l).length) (by omega) hb
  rw[g1];simp only[wA];refine zmh h2 (by omega) (bP hlt) h0 (pP l) hbase hb (fun t2 v2 a b=>?_) (pE l).length 0 t' (by omega) g3 (by simpa[vG]using g2)
  have:=hQ t2 v2 a b
  rw[yaa h0]at this;exact this
end Go.Proofs
namespace Go.Proofs
open Go Go.Am
section
variable [nC]
variable {t:Tr rA}
def uT{T el:Nat}(h:zE yA T el 1 false){b n cap j:Nat}(hj:j<n):jB yA T (.slice b 0 n cap) (.int .i64 (j:Int))=some (.ptr b j):=by
 have:=oV (b:=b) (off:=0) (cap:=cap) h hj
 rw[show 0+j*1=j by omega]at this;exact this
def zqo{x s:Nat}(hs:s<64)(hx:x*2^s<18446744073709551616):zyf .u64 (x:Int) (s:Int)=some (.int .u64 ((x*2^s:Nat):Int)):=by
 unfold zyf zct;have:lJ (s:Int)=some s:=rfl
 rw[this,tA,tA];have hm:min s (IntKind.bits .u64)=s:=by show min s 64=s;omega
 rw[hm];have e:(x:Int)*Int.ofNat (2^s)=((x*2^s:Nat):Int):=by rw[Int.natCast_mul];rfl
 rw[e,iE (by omega) (by omega)]
def zqn{x s:Nat}(hs:s<65):z79 .u64 (x:Int) (s:Int)=some (.int .u64 ((x / 2^s:Nat):Int)):=by
 unfold z79 zct;have:lJ (s:Int)=some s:=rfl
 rw[this,tA,tA];have hm:min s (IntKind.bits .u64)=s:=by show min s 64=s;omega
 rw[hm];have e:Int.fdiv (x:Int) (Int.ofNat (2^s))=((x / 2^s:Nat):Int):=hO x (2^s)
 rw[e]
def zwj{s:Nat}(hs:s<32):2^s<=2147483648:=yao (n:=2) (by decide) (show s<=31 by omega)
def zjw{s:Nat}(hs:s<=32):2^s*2^(32-s)=4294967296:=by rw[<- Nat.pow_add,show s+(32-s)=32 by omega]
def z7k{x s:Nat}(hs:s<=32):(x*2^s%4294967296)%2^s=0:=by
 rw[<- zjw hs,ybh x,Nat.mul_mod_mul_left,Nat.mul_mod_right]
def zje{l:List Nat}{v:zA}{b s:Nat}{Q:xC}(hv:lA t 1 (lB .u32 l) v)(hl:l.length<900000)(hlt:pB 4294967296 l)(hs:s<32)(hbase:yA.base<=b)(hb:t.get b=none)
  (hQ:∀t' r,cA t t'->oD b t t'->wF t' b .u32 r->r.length=l.length+1->pB 4294967296 r->val 4294967296 r=val 4294967296 l*2^s->Q (.slice b 0 (l.length+1) (l.length+1)) t') :
  ∀(k i:Nat) (t':Tr rA) (P:List Nat) (c:Nat),i+k=l.length->cA t t'->oD b t t'->wF t' b .u32 ((P++[c])++List.replicate k 0)->P.length=i->c<2^s->pB 4294967296 P->val 4294967296 P+4294967296^i*c=val 4294967296 (l.take i)*2^s →
  jp 252 2 [.int .i64 s,.slice b 0 (l.length+1) (l.length+1),v,.int .i64 l.length,.int .i64 i] t' Q:=by
 have hp2:=zwj hs
 intro k;induction k with
 | zero=>
  intro i t' P c hi ht hoff ho hP hc hPl hval;refine z5h _ _ _ _ _ ?_
  simp only[zvc,qA,cC];rw[yaa (by omega)]
  rw[List.replicate_zero,ycd]at ho;refine hQ t' (P++[c]) ht hoff ho (by simp;omega) (qS hPl (by omega)) ?_
  rw[xL,hP,hval,yca (by omega)]
 | succ k ih=>
  intro i t' P c hi ht hoff ho hP hc hPl hval;obtain⟨x,hx⟩:=getElem?_of_lt (l:=l) (i:=i) (by omega)
  have hxlt:x<4294967296:=mI hlt hx
  obtain⟨d,off,g1,g2⟩:=(hv.mono ht).idx lF hx
  have hxs:x*2^s<4294967296*2^s:=Nat.mul_lt_mul_of_pos_right hxlt (Nat.pow_pos (by decide))
  have hxs2:x*2^s<18446744073709551616:=by
   have:4294967296*2^s<=4294967296*2147483648:=ybv _ hp2
   omega
  have hlow:=z7k (x:=x) (s:=s) (by omega)
  have hlor:Nat.lor c (x*2^s%4294967296)=x*2^s%4294967296+c:=by
   have:=or_low (a:=x*2^s%4294967296) (b:=c) (n:=s) hc hlow
   show c ||| _=_
   rw[Nat.or_comm];exact this
  have hsum:x*2^s%4294967296+c<4294967296:=by
   have h1:x*2^s%4294967296<4294967296:=ycy _ (by decide)
   have h2:(4294967296:Nat)%2^s=0:=by rw[<- zjw (s:=s) (by omega),Nat.mul_mod_right]
   obtain⟨p,hp⟩:=Nat.dvd_of_mod_eq_zero hlow
   obtain⟨q,hq⟩:=Nat.dvd_of_mod_eq_zero h2
   have hpq:p<q:=by
    rcases yau p q with g | g
    ·exact g
    ·have:=ybv (2^s) g;omega
   have:=ybv (2^s) (show p+1<=q from hpq)
   rw[ybm]at this;omega
  have hhigh:x*2^s / 4294967296<2^s:=ycu (by omega)
  have hlen0:((P++[c])++List.replicate (k+1) 0).length=l.length+1:=by simp;omega
  have g3a:=uT lF (b:=b) (n:=l.length+1) (cap:=l.length+1) (j:=i) (by omega)
  have g3b:=uT lF (b:=b) (n:=l.length+1) (cap:=l.length+1) (j:=i+1) (by omega)
  have g4:=ho.load (j:=i) (x:=c) (by rw[ybz,ybp (by omega),hP,Nat.sub_self];rfl) uG rfl
  obtain⟨t1,s1,s2,s3⟩:=ho.store (C:=yA) hbase (j:=i) (by rw[hlen0];omega) (x*2^s%4294967296+c) uG rfl
  have hs2:((P++[c])++List.replicate (k+1) 0).set i (x*2^s%4294967296+c)=(P++[x*2^s%4294967296+c])++List.replicate (k+1) 0:=by
   rw[ybz,set_append_right hP];simp
  rw[hs2]at s2;obtain⟨t2,s4,s5,s6⟩:=s2.store (C:=yA) hbase (j:=i+1) (by simp;omega) (x*2^s / 4294967296) uG rfl
  have hs5:((P++[x*2^s%4294967296+c])++List.replicate (k+1) 0).set (i+1) (x*2^s / 4294967296)=((P++[x*2^s%4294967296+c])++[x*2^s / 4294967296])++List.replicate k 0:=by
   have hq:(P++[x*2^s%4294967296+c]).length=i+1:=by simp[hP]
   rw[<- hq];exact uX
  rw[hs5]at s5;refine z5h _ _ _ _ _ ?_
  have e1:sA .u32 ((x*2^s:Nat):Int)=((x*2^s%4294967296:Nat):Int):=by rw[qM];omega
  have e2:sA .u32 (Int.fdiv ((x*2^s:Nat):Int) 4294967296)=((x*2^s / 4294967296:Nat):Int):=by
   rw[show Int.fdiv ((x*2^s:Nat):Int) 4294967296=((x*2^s / 4294967296:Nat):Int) from hO _ 4294967296]
   generalize x*2^s=z at hhigh ⊢
   rw[uQ (by omega) (by omega)]
  simp (disch:=omega) only[zvc,qA,cC,g1,g2,wA,tB,iE,g3a,g4]
  rw[yab (by omega),zqo (by omega) hxs2]
  simp only[wA,tB,e1];have e3:rH Nat.lor .u32 (c:Int) ((x*2^s%4294967296:Nat):Int)=some (.int .u32 ((x*2^s%4294967296+c:Nat):Int)):=by
   rw[jO (k:=.u32) (x:=c) (y:=x*2^s%4294967296) (show c<jF .u32 by show c<4294967296;omega) (by show x*2^s%4294967296<4294967296;exact ycy _ (by decide)),hlor]
  rw[e3];simp only[wA,tB];intro _ _ _;rw[s1];simp (disch:=omega) only[wA,wrap_i64]
  rw[show(i:Int)+1=((i+1:Nat):Int) by omega,g3b]
  simp only[wA,e2];intro _ _ _;rw[s4];simp only[wA];refine ih (i+1) t2 _ _ (by omega) ((ht.off hb s3).off hb s6) ((hoff.trans s3).trans s6) s5 (by simp[hP]) hhigh (qS hPl hsum) ?_
  rw[xL,hP,mR hx,xL,ybo,<- hval];have:(l.take i).length=i:=by simp;omega
  rw[this,yag];have hd:=ych (x*2^s) 4294967296
  have e4:4294967296^i*x*2^s=4294967296^i*(4294967296*(x*2^s / 4294967296)+x*2^s%4294967296):=by rw[hd,ybj]
  rw[e4,ybm,ybm];have e5:4294967296^i*4294967296*(x*2^s / 4294967296)=4294967296^i*(4294967296*(x*2^s / 4294967296)):=by rw[ybj]
  rw[e5];omega
def zfm{l:List Nat}{v:zA}{s:Nat}{Q:xC}(hv:lA t 1 (lB .u32 l) v)(hl:l.length<900000)(hlt:pB 4294967296 l)(hs:s<32)
  (hQ:∀t' b r,cA t t'->t.get b=none->yA.base<=b->wF t' b .u32 r->r.length=l.length+1->pB 4294967296 r->val 4294967296 r=val 4294967296 l*2^s->Q (.slice b 0 (l.length+1) (l.length+1)) t'):Wc yA F 252 [v,.int .i64 s] t Q:=by
 refine w252 _ _ ?_
 simp (disch:=omega) only[t252,qA,hv.len,wA,tB,tF,wrap_i64]
 intro b hb hbase;obtain⟨t',g1,g2,g3,g4⟩:=fU (C:=yA) (k:=.u32) jL rfl uG rfl rfl (by decide) (n:=l.length+1) (by omega) hb
 rw[show(l.length:Int)+1=((l.length+1:Nat):Int) by omega,g1]
 simp only[wA];have:=zje hv hl hlt hs hbase hb (fun t' r a _ c d e f=>hQ t' b r a hb hbase c d e f) l.length 0 t' [] 0 (by omega) g3 g4 (by simpa[List.replicate_succ]using g2) rfl (Nat.pow_pos (by decide)) (fun x hx=>by cases hx) (by simp[val])
 exact this
def zn6{l:List Nat}{v:zA}{b d:Nat}{Q:xC}(hv:lA t 1 (lB .u32 l) v)(hl:l.length<900000)(hlt:pB 4294967296 l)(hd:d<4294967296)(hd0:0<d)(hbase:yA.base<=b)(hb:t.get b=none)
  (hQ:∀t' v' q r,cA t t'->lA t' 1 (lB .u32 (pE q)) v'->pB 4294967296 q->q.length=l.length->r<d->val 4294967296 l=val 4294967296 q*d+r->Q (.tup [v',.int .u32 (r:Nat)]) t') :
  ∀(i:Nat) (t':Tr rA) (q:List Nat) (r:Nat),i<=l.length->cA t t'->wF t' b .u32 (List.replicate i 0++q)->q.length=l.length-i->pB 4294967296 q->r<d->val 4294967296 (l.drop i)=val 4294967296 q*d+r →
  jp 191 2 [v,.int .u32 d,.slice b 0 l.length l.length,.int .u32 r,.int .i64 ((i:Int)-1)] t' Q:=by
 intro i;induction i with
 | zero=>
  intro t' q r _ ht ho hq hql hr hval;refine z5p _ _ _ _ _ ?_
  simp only[zvn,qA,yG];rw[yaa (by omega)]
  rw[List.replicate_zero,yah]at ho;have hread:=ho.all (ybk _)
  have hqlen:q.length=l.length:=by omega
  rw[hqlen]at hread;obtain⟨v',h1,h2⟩:=cS (l:=q) (by omega) hread
  simp only[q212,h1,wA];exact hQ t' v' q r ht h2 hql hqlen hr (by simpa using hval)
 | succ i ih=>
  intro t' q r hi ht ho hq hql hr hval;obtain⟨x,hx⟩:=getElem?_of_lt (l:=l) (i:=i) (by omega)
  have hxlt:x<4294967296:=mI hlt hx
  obtain⟨c,off,g1,g2⟩:=(hv.mono ht).idx lF hx
  have e1:((i+1:Nat):Int)-1=(i:Int):=by omega
  have g3:=uT lF (b:=b) (n:=l.length) (cap:=l.length) (j:=i) (by omega)
  have hlen0:(List.replicate (i+1) 0++q).length=l.length:=by simp;omega
  have hdiv:=z3o (t:=t') hr hxlt hd
  have hqlt:(r*4294967296+x) / d<4294967296:=zr2 hr hxlt
  have hrlt:(r*4294967296+x)%d<d:=ycy _ hd0
  obtain⟨t1,s1,s2,s3⟩:=ho.store (C:=yA) hbase (j:=i) (by rw[hlen0];omega) ((r*4294967296+x) / d) uG rfl
  have hs2:(List.replicate (i+1) 0++q).set i ((r*4294967296+x) / d)=List.replicate i 0++((r*4294967296+x) / d::q):=by
   rw[List.replicate_succ',ybz,set_append_right (by simp)];rfl
  rw[hs2]at s2;rw[e1];refine z5p _ _ _ _ _ ?_
  simp (disch:=omega) only[zvn,qA,yG,g1,g2,wA,tB,q211,hdiv,sB,zA.asTup,tA,g3,wrap_i64]
  rw[yab (by omega)]
  simp only[kF,yaz,yba,wA,tB];intro _ _ _;rw[s1];simp only[wA];refine ih t1 _ _ (by omega) (ht.off hb s3) s2 (by simp;omega) ?_ hrlt ?_
  ·intro y hy
   rcases ybs.1 hy with rfl | hy
   ·exact hqlt
   ·exact hql y hy
  ·rw[aI hx]
   simp only[val];rw[hval];have hd1:=ych (r*4294967296+x) d
   rw[ybo,ybm,ybj];rw[ybh ((r*4294967296+x) / d) d]
   rw[ybh 4294967296 r];omega
def zk7{l:List Nat}{v:zA}{d:Nat}{Q:xC}(hv:lA t 1 (lB .u32 l) v)(hl:l.length<900000)(hlt:pB 4294967296 l)(hd:d<4294967296)(hd0:0<d)
  (hQ:∀t' v' q r,cA t t'->lA t' 1 (lB .u32 (pE q)) v'->pB 4294967296 q->q.length=l.length->r<d->val 4294967296 l=val 4294967296 q*d+r->Q (.tup [v',.int .u32 (r:Nat)]) t'):Wc yA F 191 [v,.int .u32 d] t Q:=by
 refine w191 _ _ ?_
 simp (disch:=omega) only[t191,qA,hv.len,wA,tB,tF,wrap_i64]
 intro b hb hbase;obtain⟨t',g1,g2,g3,g4⟩:=fU (C:=yA) (k:=.u32) jL rfl uG rfl rfl (by decide) (n:=l.length) (by omega) hb
 rw[g1];simp only[wA];exact zn6 hv hl hlt hd hd0 hbase hb hQ l.length t' [] 0 (ybk _) g3 (by simpa using g2) (by simp) (fun x hx=>by cases hx) hd0 (by simp[val])
end
section
variable [nC]
def zzb{l:List Nat}{y:zA}{box:Nat}{v:zA}{Q:xC}{I:Nat->Tr rA->Prop}(hl:l.length<1000000)
  (hr:∀k t,I k t->oA yA 244 ⟨0,t⟩ (.ptr box 0)=some v/\lA t 1 (lB .u32 l) v)
  (hy:∀k x t,l[k]?=some x->I (k+1) t->∀R:xC,(∀t',I k t'->R (.bool true) t')->vD (wN y [.int .u32 (x:Nat)]) fun p=>Wq yA F eH p.1 p.2 t R)
  (hQ:∀t,I 0 t->Q (.tup []) t):∀(k:Nat) (t:Tr rA),k<=l.length->I k t->jp 213 2 [y,.ptr box 0,.int .i64 ((k:Int)-1)] t Q:=by
 intro k;induction k with
 | zero=>
  intro t _ h;refine z5o _ _ _ ?_
  simp only[zvm,qA,yG];rw[yaa (by omega)]
  exact hQ t h
 | succ k ih=>
  intro t hk h;obtain⟨g0,hv⟩:=hr _ _ h
  obtain⟨x,hx⟩:=getElem?_of_lt (l:=l) (i:=k) (by omega)
  obtain⟨c,off,g1,g2⟩:=hv.idx lF hx
  have e1:((k+1:Nat):Int)-1=(k:Int):=by omega
  rw[e1];refine z5o _ _ _ ?_
  simp (disch:=omega) only[zvm,qA,yG,g0,g1,g2,wA,tB,wrap_i64]
  rw[yab (by omega)]
  refine hy k x t hx h _ fun t' ht'=>?_
  simp only[zA.asBool,wA,Bool.not_true];rw[yaa (by simp)]
  exact ih t' (by omega) ht'
def z8r{l:List Nat}{y:zA}{box:Nat}{v:zA}{Q:xC}{t:Tr rA}{I:Nat->Tr rA->Prop}(hl:l.length<1000000)
  (hr:∀k t,I k t->oA yA 244 ⟨0,t⟩ (.ptr box 0)=some v/\lA t 1 (lB .u32 l) v)
  (hy:∀k x t,l[k]?=some x->I (k+1) t->∀R:xC,(∀t',I k t'->R (.bool true) t')->vD (wN y [.int .u32 (x:Nat)]) fun p=>Wq yA F eH p.1 p.2 t R)
  (hQ:∀t,I 0 t->Q (.tup []) t) (h:I l.length t):Wc yA F 213 [y,.ptr box 0] t Q:=by
 obtain⟨g0,hv⟩:=hr _ _ h
 refine w213 _ _ ?_
 simp (disch:=omega) only[t213,qA,g0,hv.len,tF,wA,tB,wrap_i64]
 exact zzb hl hr hy hQ l.length t (ybk _) h
end
end Go.Proofs
namespace Go.Am
open Go Go.RowKit
section
variable {t tf:Tr rA}{C:pA}
def vJ{n:Nat}(hn:t.get n=none)(q:rA):cA t (t.set n q)/\oD n t (t.set n q):=
 ⟨fun c u hc=>by rw[Tr.get_set,yaa (by intro e;rw[e,hn]at hc;cases hc)];exact hc,fun c hc=>by rw[Tr.get_set,yaa hc]⟩
def ztd{sz n:Nat}{cl:List (List zA)}{t':Tr rA}{lo:Option Lo}(hl:∀(i:Nat) cs,cl[i]?=some cs->cs.length=sz)(h:t'.get n=some (.cells (Tr.ofList cl.flatten) (zB cl.flatten) lo))(hlo:lo=none\/∃x,lo=some x/\x.es=sz){k:Nat}(hk:cl.length=k):sJ t' sz (.slice n 0 k k) cl:=by
 subst hk;exact sY hl h hlo
def zke{T el sz n:Nat}{y z:rC}{ps:List (Nat × zA)}{cl:List (List zA)}(hT:C.tys.get T=some y)(hel:y.desc.asSlice=some el)(hz:C.tys.get el=some z)(hs:z.size=sz)(h0:zB z.zero=sz)(hn:n*sz<1000000)
  (hfill:yM (fun i=>some (i*sz,sz)) ps (mJ z.zero n)=some cl.flatten) (hcl:∀(i:Nat) cs,cl[i]?=some cs->cs.length=sz) (hlen:cl.length=n) {b:Nat} (hb:t.get b=none) :
  ∃t',sH C T n ps ⟨b,t⟩=some (.slice b 0 n n,⟨b+1,t'⟩)/\sJ t' sz (.slice b 0 n n) cl/\cA t t'/\oD b t t':=by
 refine⟨t.set b (.cells (Tr.ofList cl.flatten) (zB cl.flatten) none),?_,ztd hcl (by rw[Tr.get_set,yab rfl]) (.inl rfl) hlen,(vJ hb _).1,(vJ hb _).2⟩
 unfold sH;rw[hT,tA,hel,tA,hz,tA];have:(Nat.blt (n*z.size) 1000000&&Nat.beq (zB z.zero) z.size)=true:=by
  rw[hs,h0,tC.2 hn,qB.2 rfl];rfl
 rw[this,gD,hs,hfill];rfl
def wG(cd:Lo)(base:Nat)(tf t:Tr rA)(sz:Nat)(l:List D)(v:zA):Prop:=
 (v=.nilslice/\l=[])\/∃b cl c,v=.slice b 0 l.length l.length/\base<=b/\tf.get b=none/\t.get b=some (.cells c (l.length*sz) (some cd)) ∧
  (∀(i:Nat) cs,cl[i]?=some cs->cs.length=sz/\∀(j:Nat) a,cs[j]?=some a->c.get (i*sz+j)=some a)/\uC tf l cl
abbrev jH(base:Nat)(tf t:Tr rA)(sz:Nat)(l:List D)(v:zA):Prop:=wG (.sz sz) base tf t sz l v
def kJ(v:zA)(b:Nat):Prop:=∃o n c,v=.slice b o n c
def zks{b:Nat}:¬ kJ .nilslice b:=fun⟨_,_,_,h⟩=>by cases h
def bR{b c o n k:Nat}:kJ (.slice b o n k) c ↔ c=b:=⟨fun⟨_,_,_,h⟩=>by cases h;rfl,fun h=>by subst h;exact⟨_,_,_,rfl⟩⟩
def wG.read{cd:Lo}{base sz:Nat}{l:List D}{v:zA}(hcd:cd.es=sz)(h:wG cd base tf t sz l v)(ht:cA tf t):lA t sz l v:=by
 rcases h with⟨rfl,rfl⟩ | ⟨b,cl,c,rfl,_,_,h1,h2,h3⟩
 ·exact⟨[],.inl ⟨rfl,rfl⟩,sG.2 rfl⟩
 ·have hlen:=h3.length
  refine⟨cl,.inr ⟨b,0,l.length,by rw[hlen],by omega,⟨c,_,_,h1,.inr ⟨_,rfl,hcd⟩⟩,fun i cs hi=>⟨(h2 i cs hi).1,c,_,_,h1,fun j a hj=>?_⟩⟩,uC.mono ht _ _ h3⟩
  rw[ybw];exact(h2 i cs hi).2 j a hj
def wG.len{cd:Lo}{base sz:Nat}{l:List D}{v:zA}(h:wG cd base tf t sz l v):oB v=some (.int .i64 (l.length:Int)):=by
 rcases h with⟨rfl,rfl⟩ | ⟨b,cl,c,rfl,_⟩
 ·rfl
 ·rfl
def wG.none{cd:Lo}{base sz:Nat}{l:List D}{v:zA}(h:wG cd base tf t sz l v){b:Nat}(hb:kJ v b):tf.get b=none/\base<=b/\∃y,t.get b=some y:=by
 rcases h with⟨rfl,rfl⟩ | ⟨c,cl,x,rfl,h1,h2,h3,_⟩
 ·exact absurd hb zks
 ·rw[bR]at hb;subst hb;exact⟨h2,h1,_,h3⟩
def jH.keep{base sz:Nat}{l:List D}{v:zA}{t' tf':Tr rA}(h:jH base tf t sz l v)(hf:cA tf tf')(hk:∀b,kJ v b->t'.get b=t.get b/\tf'.get b=Option.none):jH base tf' t' sz l v:=by
 rcases h with⟨rfl,rfl⟩ | ⟨b,cl,c,rfl,h0,h1,h2,h3,h4⟩
 ·exact .inl ⟨rfl,rfl⟩
 ·obtain⟨k1,k2⟩:=hk b (bR.2 rfl)
  exact .inr ⟨b,cl,c,rfl,h0,k2,by rw[k1];exact h2,h3,uC.mono hf _ _ h4⟩
def zam{T U el sz:Nat}{cd:Lo}(hT:zt1 C T el sz)(hU:∃u,C.tys.get U=some u/\Nat.beq u.desc.tag 1=false)(hcd:∀z,C.tys.get el=some z->sI el z=cd){l m:List D}{v x:zA}{cm:List (List zA)}(hv:wG cd C.base tf t sz l v)(hall:∀(i:Nat) cs,cm[i]?=some cs->cs.length=sz)(hx:∀n,qL ⟨n,t⟩ sz cm.length x=some cm.flatten/\jQ x=some cm.length)(hm:uC tf m cm)(hone:∀a∈cm.flatten,zA.one a=true)(hpos:0<m.length)(hl:l.length+m.length<400000){n:Nat}(hn:t.get n=none)(hbase:C.base<=n)(ht:cA tf t) :
  ∃t',gE C T U v x ⟨n,t⟩=some (.slice n 0 (l.length+m.length) (l.length+m.length),⟨n+1,t'⟩)/\wG cd C.base tf t' sz (l++m) (.slice n 0 (l.length+m.length) (l.length+m.length))/\cA tf t'/\(∀c,c≠n->¬ kJ v c->t'.get c=t.get c):=by
 obtain⟨⟨y,hy1,hy2,hy3⟩,⟨z,hz1,hz2,hz3,hz4,hz5⟩⟩:=hT
 have hcode:=hcd z hz1
 have hcm:=hm.length
 obtain⟨hf,hlen⟩:=hx n
 obtain⟨u,hu1,hu2⟩:=hU
 have hflat:=mW hall
 have hfl:zB cm.flatten=cm.length*sz:=by rw[fC];exact hflat
 have hfn:tf.get n=none:=by
  cases hq:tf.get n with
  | none=>rfl
  | some u=>rw[ht _ _ hq]at hn;cases hn
 have base:gE C T U v x ⟨n,t⟩=(match v.asSlice with
  | some s=>bif Nat.ble (s.2.2.1+cm.length) s.2.2.2 then fQ C ⟨n,t⟩ z cm.length cm.flatten s else eQ C ⟨n,t⟩ el z cm.length cm.flatten s
  | none=>dA (Nat.beq v.tag 5) (zM ⟨n,t⟩ el z cm.length cm.flatten)):=by
  unfold gE aO;rw[hy1,tA,hu1,tA,hu2];simp only[ycl,gD];rw[hy2,tA,hz1,tA,hlen,tA,hz2,hf,tA];rfl
 have ok:iO z l.length l.length cm.length cm.flatten=true:=by
  unfold iO;have h1:Nat.blt (l.length+cm.length+l.length) 1000000000=true:=tC.2 (by omega)
  have h2:Nat.blt ((l.length+cm.length+l.length)*z.bytes) 1000000000=true:=tC.2 (by
   have:=ydb (show l.length+cm.length+l.length<=800000 by omega) hz4
   omega)
  have h3:Nat.blt z.bytes 1000000000=true:=tC.2 (by omega)
  have h4:(!Nat.beq z.size 0)=true:=by
   cases hq:Nat.beq z.size 0 with
   | true=>have:=qB.1 hq;omega
   | false=>rfl
  have h5:Nat.beq (zB cm.flatten) (cm.length*z.size)=true:=by rw[hfl,hz2];exact qB.2 rfl
  have h6:Nat.beq (zB z.zero) z.size=true:=by rw[hz3,hz2];exact qB.2 rfl
  rw[h1,h2,h3,h4,h5,h6];rfl
 rcases hv with⟨rfl,rfl⟩ | ⟨b,cl,c,rfl,hb0,hb1,hb2,hb3,hb4⟩
 ·refine⟨t.set n (.cells (Tr.ofList cm.flatten) (zB cm.flatten) (some cd)),?_,.inr ⟨n,cm,Tr.ofList cm.flatten,by simp,hbase,hfn,?_,fun i cs hi=>⟨hall i cs hi,fun j a hj=>?_⟩,by simpa using hm⟩,?_,fun c hc _=>(vJ hn _).2 c hc⟩
  ·rw[base]
   simp only[zA.asSlice];show dA true (zM ⟨n,t⟩ el z cm.length cm.flatten)=_
   rw[gD];unfold zM;have:Nat.beq cm.length 0=false:=by
    cases hq:Nat.beq cm.length 0 with
    | true=>have:=qB.1 hq;omega
    | false=>rfl
   have ok:iO z 0 0 cm.length cm.flatten=true:=ok
   rw[this,cond_false,ok,gD,hcm,hcode];simp only[ybx,ybw];rfl
  ·rw[Tr.get_set,yab rfl,hfl,hcm];simp
  ·rw[Tr.get_ofList];exact qT hall i j cs a hi hj
  ·exact ht.trans (vJ hn _).1
 ·have hcl:=hb4.length
  have hbn:b≠n:=by intro e;rw[e,hn]at hb2;cases hb2
  refine⟨(t.del b).set n (.cells (c.setMany cm.flatten (l.length*z.size)) ((l.length+cm.length)*z.size) (some cd)),?_,.inr ⟨n,cl++cm,c.setMany cm.flatten (l.length*z.size),by simp,hbase,hfn,?_,fun i cs hi=>?_,?_⟩,fun k u hk=>?_,fun k hk1 hk2=>?_⟩
  ·rw[base]
   simp only[zA.asSlice];have:Nat.ble (l.length+cm.length) l.length=false:=by
    cases hq:Nat.ble (l.length+cm.length) l.length with
    | true=>have:=lD.1 hq;omega
    | false=>rfl
   rw[this,cond_false];unfold eQ;simp only[];rw[show ∀x,(!(Nat.beq 0 1&&x))=true from fun _=>rfl,gD,ok,gD]
   unfold tD;rw[hb2,tA];simp only[rA.asCells,tA];unfold zV;simp only[];have g1:loEq cd (sI el z)=true:=by rw[hcode];exact zxc.2 rfl
   have g2:Nat.ble (l.length*z.size) (l.length*sz)=true:=lD.2 (by rw[hz2];exact ybk _)
   have g3:Nat.ble (l.length*sz) ((l.length+cm.length)*z.size)=true:=lD.2 (by rw[hz2];exact ybi _ (by omega))
   have g4:rB zA.one cm.flatten=true:=by rw[nF];exact ycb.2 hone
   have g5:(!Nat.blt b C.base)=true:=by
    cases hq:Nat.blt b C.base with
    | true=>have:=tC.1 hq;omega
    | false=>rfl
   rw[g1,g2,g3,g4,g5];simp only[hz2,hcm];rfl
  ·rw[Tr.get_set,yab rfl,hz2,hcm,ybg]
  ·rw[List.getElem?_append]at hi
   split at hi
   ·rename_i hlt
    obtain⟨k1,k2⟩:=hb3 i cs hi
    refine⟨k1,fun j a hj=>?_⟩
    have hjl:j<sz:=by rw[<- k1];exact(ybc.1 hj).1
    have:i*sz+j<l.length*sz:=by
     have:=ybi sz (show i+1<=l.length by omega)
     rw[ybo]at this;omega
    rw[Tr.get_setMany,hz2,yaa (by omega)]
    exact k2 j a hj
   ·rename_i hge
    have k1:=hall _ cs hi
    refine⟨k1,fun j a hj=>?_⟩
    have hf1:=qT hall _ j cs a hi hj
    have hlt:=(ybc.1 hf1).1
    have e:i*sz=l.length*sz+(i-cl.length)*sz:=by rw[<- ybo];congr 1;omega
    rw[Tr.get_setMany,hz2,yab (by omega),show i*sz+j-l.length*sz=(i-cl.length)*sz+j by omega]
    exact hf1
  ·have app:∀ {l m:List D} {cl cm:List (List zA)},uC tf l cl->uC tf m cm->uC tf (l++m) (cl++cm):=by
    intro l;induction l with
    | nil=>intro m cl cm h k;rw[sG]at h;subst h;exact k
    | cons d l ih=>
     intro m cl cm h k;rw[jE]at h;obtain⟨c,r,rfl,h1,h2⟩:=h
     exact jE.2 ⟨c,r++cm,rfl,h1,ih h2 k⟩
   exact app hb4 hm
  ·have h1:k≠b:=by intro e;rw[e,hb1]at hk;cases hk
   have h2:k≠n:=by intro e;rw[e,hfn]at hk;cases hk
   rw[Tr.get_set,yaa h2,Tr.get_del,yaa h1];exact ht _ _ hk
  ·rw[Tr.get_set,yaa hk1,Tr.get_del,yaa (fun e=>hk2 (bR.2 e))]
def zan{T el sz:Nat}{cd:Lo}(hT:zt1 C T el sz)(hcd:∀z,C.tys.get el=some z->sI el z=cd){l m:List D}{v x:zA}{cm:List (List zA)}(hv:wG cd C.base tf t sz l v)(hx:sJ t sz x cm)(hm:uC tf m cm)(hone:∀a∈cm.flatten,zA.one a=true)(hpos:0<m.length)(hl:l.length+m.length<400000){n:Nat}(hn:t.get n=none)(hbase:C.base<=n)(ht:cA tf t) :
  ∃t',gE C T T v x ⟨n,t⟩=some (.slice n 0 (l.length+m.length) (l.length+m.length),⟨n+1,t'⟩)/\wG cd C.base tf t' sz (l++m) (.slice n 0 (l.length+m.length) (l.length+m.length))/\cA tf t'/\(∀c,c≠n->¬ kJ v c->t'.get c=t.get c):=by
 obtain⟨y,hy1,hy2,hy3⟩:=hT.ty
 exact zam hT ⟨y,hy1,hy3⟩ hcd hv hx.len (fun n=>hx.first (n:=n)) hm hone hpos hl hn hbase ht
def zls{T el sz:Nat}(hT:eJ C T el sz){l m:List D}{v x:zA}{cm:List (List zA)}(hv:jH C.base tf t sz l v)(hx:sJ t sz x cm)(hm:uC tf m cm)(hone:∀a∈cm.flatten,zA.one a=true)(hpos:0<m.length)(hl:l.length+m.length<400000){n:Nat}(hn:t.get n=none)(hbase:C.base<=n)(ht:cA tf t) :
  ∃t',gE C T T v x ⟨n,t⟩=some (.slice n 0 (l.length+m.length) (l.length+m.length),⟨n+1,t'⟩)/\jH C.base tf t' sz (l++m) (.slice n 0 (l.length+m.length) (l.length+m.length))/\cA tf t'/\(∀c,c≠n->¬ kJ v c->t'.get c=t.get c):=by
 refine zan ⟨hT.ty,hT.el⟩ (fun z h=>?_) hv hx hm hone hpos hl hn hbase ht
 obtain⟨y,h1,h2,_⟩:=hT.el
 rw[hT.nb.code h,show z=y from yci (h.symm.trans h1),h2]
def wG.freeze{cd:Lo}{base sz:Nat}{l:List D}{v:zA}(hcd:cd.es=sz)(h:wG cd base tf t sz l v)(ht:cA tf t):∃tf',cA tf tf'/\cA tf' t/\lA tf' sz l v/\∀b,¬ kJ v b->tf'.get b=tf.get b:=by
 rcases h with⟨rfl,rfl⟩ | ⟨b,cl,c,rfl,h0,h1,h2,h3,h4⟩
 ·exact⟨tf,cA.refl _,ht,⟨[],.inl ⟨rfl,rfl⟩,sG.2 rfl⟩,fun _ _=>rfl⟩
 ·have hlen:=h4.length
  refine⟨tf.set b (.cells c (l.length*sz) (some cd)),(vJ h1 _).1,fun k u hk=>?_,⟨cl,.inr ⟨b,0,l.length,by rw[hlen],by omega,⟨c,_,_,by rw[Tr.get_set,yab rfl],.inr ⟨_,rfl,hcd⟩⟩,fun i cs hi=>⟨(h3 i cs hi).1,c,_,_,(by rw[Tr.get_set,yab rfl]),fun j a hj=>?_⟩⟩,uC.mono (vJ h1 _).1 _ _ h4⟩,fun k hk=>by rw[Tr.get_set,yaa (fun e=>hk (bR.2 e))]⟩
  ·rw[Tr.get_set]at hk
   split at hk
   ·rename_i e;subst e;cases hk;exact h2
   ·exact ht _ _ hk
  ·rw[ybw];exact(h3 i cs hi).2 j a hj
def jH.freeze{base sz:Nat}{l:List D}{v:zA}(h:jH base tf t sz l v)(ht:cA tf t):∃tf',cA tf tf'/\cA tf' t/\lA tf' sz l v/\∀b,¬ kJ v b->tf'.get b=tf.get b:=wG.freeze rfl h ht
end
end Go.Am
namespace Go.Am
open Go Go.RowKit
section
def bE (t:Tr rA)(b:Nat)(lo:Option Lo)(cs:List zA):Prop:=∃c,t.get b=some (.cells c cs.length lo)/\∀(j:Nat) a,cs[j]?=some a->c.get j=some a
def zhr(cs:List zA)(j:Nat)(l:List zA):List zA:=cs.take j++(l++cs.drop (j+l.length))
def zws{cs l:List zA}{j:Nat}(h:j+l.length<=cs.length):(zhr cs j l).length=cs.length:=by
 unfold zhr;simp;omega
def zj2{cs l:List zA}{j:Nat}(h:j+l.length<=cs.length)(k:Nat):(zhr cs j l)[k]?=if j<=k/\k<j+l.length then l[k-j]? else cs[k]?:=by
 have ht:(cs.take j).length=j:=by simp;omega
 unfold zhr;rw[List.getElem?_append,ht];split
 ·rename_i h1
  rw[yaa (by omega),ydf,yab h1]
 ·rename_i h1
  rw[List.getElem?_append];split
  ·rw[yab (by omega)]
  ·rw[yaa (by omega),yde];congr 1;omega
section
variable {t tf:Tr rA}{C:pA}{b:Nat}{lo:Option Lo}{cs:List zA}
def bE.at(h:bE t b lo cs):At t b 0 cs:=by
 obtain⟨c,h1,h2⟩:=h
 exact⟨c,_,_,h1,fun j a hj=>by rw[ybw];exact h2 j a hj⟩
def bE.off(h:bE t b lo cs){t':Tr rA}(k:t'.get b=t.get b):bE t' b lo cs:=by
 obtain⟨c,h1,h2⟩:=h
 exact⟨c,by rw[k];exact h1,h2⟩
def bE.load1(h:bE t b lo cs){j:Nat}{a:zA}{ty:Nat}{y:rC}(hy:C.tys.get ty=some y)(ha:y.desc.isAgg=false)(hj:cs[j]?=some a):oA C ty ⟨0,t⟩ (.ptr b j)=some a:=by
 have:=h.at.load1 hy ha hj
 rw[ybw]at this;exact this
def bE.store(h:bE t b lo cs)(hb:C.base<=b){j T:Nat}{y:rC}{v:zA}(hT:C.tys.get T=some y)(hl:v.cells.length=y.size)(hj:j+v.cells.length<=cs.length)(hone:rB zA.one v.cells=true) :
  ∃t',(∀n,qD C T (.ptr b j) v ⟨n,t⟩=some (pD,⟨n,t'⟩))/\bE t' b lo (zhr cs j v.cells)/\oD b t t':=by
 obtain⟨c,h1,h2⟩:=h
 refine⟨t.set b (.cells (c.setMany v.cells j) cs.length lo),fun n=>?_,⟨c.setMany v.cells j,?_,fun k a hk=>?_⟩,fun d hd=>by rw[Tr.get_set,yaa hd]⟩
 ·unfold qD
  rw[hT,tA];simp only[zA.asPtr,tA];have e1:Nat.beq (zB v.cells) y.size=true:=by rw[fC,hl];exact qB.2 rfl
  rw[e1,gD];unfold aH tD;have e2:(!Nat.blt b C.base)=true:=by
   cases hq:Nat.blt b C.base with
   | true=>have:=tC.1 hq;omega
   | false=>rfl
  rw[e2,gD,h1,tA];simp only[rA.asCells,tA];have e3:Nat.ble (j+zB v.cells) cs.length=true:=by rw[fC];exact lD.2 hj
  rw[e3,hone];rfl
 ·rw[Tr.get_set,yab rfl,zws hj]
 ·rw[zj2 hj]at hk
  rw[Tr.get_setMany];split
  ·rename_i e;rw[yab e]at hk;exact hk
  ·rename_i e;rw[yaa e]at hk;exact h2 k a hk
def bE.store1(h:bE t b lo cs)(hb:C.base<=b){j T:Nat}{y:rC}{v:zA}(hT:C.tys.get T=some y)(hs:y.size=1)(hv:v.cells=[v])(hone:zA.one v=true)(hj:j<cs.length) :
  ∃t',(∀n,qD C T (.ptr b j) v ⟨n,t⟩=some (pD,⟨n,t'⟩))/\bE t' b lo (cs.set j v)/\oD b t t':=by
 obtain⟨t',h1,h2,h3⟩:=h.store hb hT (v:=v) (j:=j) (by rw[hv,hs];rfl) (by rw[hv];exact hj) (by rw[hv];show(bif zA.one v then true else false)=true;rw[hone];rfl)
 refine⟨t',h1,?_,h3⟩
 have e:zhr cs j v.cells=cs.set j v:=by
  rw[hv];apply List.ext_getElem?
  intro k;rw[zj2 (by exact hj),ycw]
  by_cases e:j=k
  ·subst e;rw[yab (by simp),yab rfl,yab hj];simp
  ·rw[yaa (by simp;omega),yaa e]
 rw[e]at h2;exact h2
def zhy{b:Nat}(hb:t.get b=none)(cs:List zA)(lo:Option Lo):∃t',sE ⟨b,t⟩ cs lo=⟨b+1,t'⟩/\bE t' b lo cs/\cA t t'/\oD b t t':=
 ⟨t.set b (.cells (Tr.ofList cs) (zB cs) lo),rfl,⟨Tr.ofList cs,by rw[Tr.get_set,yab rfl,fC],fun j a hj=>by rw[Tr.get_ofList];exact hj⟩,(vJ hb _).1,(vJ hb _).2⟩
def aT{b T:Nat}{y:rC}(hT:C.tys.get T=some y)(hb:t.get b=none):∃t',aG C T ⟨b,t⟩=some (.ptr b 0,⟨b+1,t'⟩)/\bE t' b none y.zero/\cA t t'/\oD b t t':=by
 obtain⟨t',h1,h2,h3,h4⟩:=zhy hb y.zero none
 refine⟨t',?_,h2,h3,h4⟩
 unfold aG;rw[hT,tA,<- h1]
end
end
section
structure cF where
 blks:List Nat
 ok:Tr rA->Tr rA->Prop
 keep:∀ {tf t tf' t':Tr rA},ok tf t->cA tf tf'->(∀k∈blks,t'.get k=t.get k/\tf'.get k=none)->ok tf' t'
 live:∀ {tf t:Tr rA},ok tf t->∀k∈blks,∃y,t.get k=some y
structure dD (base:Nat) (tf t:Tr rA) (l:List cF):Prop where
 tle:cA tf t
 nodup:(l.flatMap cF.blks).Nodup
 ok:∀o∈l,o.ok tf t
 low:∀k∈l.flatMap cF.blks,base<=k/\tf.get k=none
def zzx (v:zA):List Nat:=match v with | .slice b _ _ _=>[b] | _=>[]
def zbz{v:zA}{k:Nat}:k∈zzx v ↔ kJ v k:=by
 unfold zzx kJ;split
 ·rename_i b o n c
  constructor
  ·intro h;rw[ydd]at h;subst h;exact⟨_,_,_,rfl⟩
  ·rintro⟨o',n',c',e⟩;cases e;simp
 ·rename_i h
  constructor
  ·intro h;cases h
  ·rintro⟨o,n,c,e⟩;exact absurd e (h _ _ _ _)
def zH(base sz:Nat)(l:List D)(v:zA):cF where
 blks:=zzx v
 ok:=fun tf t=>jH base tf t sz l v
 keep:=fun h hf k=>h.keep hf fun b hb=>k b (zbz.2 hb)
 live:=fun h k hk=>(h.none (zbz.1 hk)).2.2
section
variable {base:Nat}{tf t:Tr rA}{l A B:List cF}{o o':cF}
def dD.live(h:dD base tf t l){k:Nat}(hk:k∈l.flatMap cF.blks):∃y,t.get k=some y:=by
 obtain⟨o,ho,hk⟩:=List.mem_flatMap.1 hk
 exact o.live (h.ok o ho) k hk
def dD.fresh(h:dD base tf t l){n:Nat}(hn:t.get n=none):n∉l.flatMap cF.blks:=by
 intro hm;obtain⟨y,hy⟩:=h.live hm
 rw[hn]at hy;cases hy
def dD.tfn(h:dD base tf t l){n:Nat}(hn:t.get n=none):tf.get n=none:=by
 cases hq:tf.get n with
 | none=>rfl
 | some y=>have:=h.tle _ _ hq;rw[hn]at this;cases this
def dD.keep(h:dD base tf t l){tf' t':Tr rA}(hf:cA tf tf')(ht:cA tf' t')(hk:∀k∈l.flatMap cF.blks,t'.get k=t.get k/\tf'.get k=none):dD base tf' t' l:=
 ⟨ht,h.nodup,fun o ho=>o.keep (h.ok o ho) hf fun k hk'=>hk k (List.mem_flatMap.2 ⟨o,ho,hk'⟩),fun k hk'=>⟨(h.low k hk').1,(hk k hk').2⟩⟩
def dD.junk(h:dD base tf t l){n:Nat}{t':Tr rA}(hn:t.get n=none)(ho:oD n t t'):dD base tf t' l:=
 h.keep (cA.refl _) (h.tle.off (h.tfn hn) ho) fun k hk=>⟨ho k (fun e:k=n=>h.fresh hn (e ▸ hk)),(h.low k hk).2⟩
def wS:(A++o::B).flatMap cF.blks=A.flatMap cF.blks++(o.blks++B.flatMap cF.blks):=by simp
def dD.upd(h:dD base tf t (A++o::B)){t':Tr rA}(hk:∀k,k∉o.blks->k∉o'.blks->t'.get k=t.get k)(hn:∀k∈o'.blks,k∈o.blks\/(t.get k=none/\base<=k))(hok:o'.ok tf t')(hnd:o'.blks.Nodup)(ht:cA tf t'):dD base tf t' (A++o'::B):=by
 have hd:=h.nodup
 rw[wS]at hd;rw[List.nodup_append]at hd;obtain⟨d1,d2,d3⟩:=hd
 rw[List.nodup_append]at d2;obtain⟨d4,d5,d6⟩:=d2
 have oth:∀k,k∈A.flatMap cF.blks\/k∈B.flatMap cF.blks->k∉o.blks/\k∉o'.blks/\t'.get k=t.get k/\base<=k/\tf.get k=none:=by
  intro k hk';have hm:k∈(A++o::B).flatMap cF.blks:=by rw[wS];simp only[yaf];rcases hk' with h | h<;>simp[h]
  have h1:k∉o.blks:=fun hc=>by
   rcases hk' with h' | h'
   ·exact d3 k h' k (by simp[hc]) rfl
   ·exact d6 k hc k h' rfl
  have h2:k∉o'.blks:=fun hc=>by
   rcases hn k hc with h' | h'
   ·exact h1 h'
   ·obtain⟨y,hy⟩:=h.live hm
    rw[h'.1]at hy;cases hy
  exact⟨h1,h2,hk k h1 h2,h.low k hm⟩
 have mem:∀k,k∈(A++o'::B).flatMap cF.blks->(k∈A.flatMap cF.blks\/k∈B.flatMap cF.blks)\/k∈o'.blks:=by
  intro k hk';rw[wS]at hk'
  simp only[yaf]at hk'
  rcases hk' with h | h | h
  ·exact .inl (.inl h)
  ·exact .inr h
  ·exact .inl (.inr h)
 refine⟨ht,?_,fun p hp=>?_,fun k hk'=>?_⟩
 ·rw[wS,List.nodup_append]
  refine⟨d1,?_,fun x hx y hy e=>?_⟩
  ·rw[List.nodup_append]
   exact⟨hnd,d5,fun x hx y hy e=>(oth y (.inr hy)).2.1 (e ▸ hx)⟩
  ·subst e
   rcases yaf.1 hy with h' | h'
   ·exact(oth x (.inl hx)).2.1 h'
   ·exact d3 x hx x (by simp[h']) rfl
 ·have hp':p∈A\/p=o'\/p∈B:=by simpa using hp
  rcases hp' with h' | h' | h'
  ·exact p.keep (h.ok p (by simp[h'])) (cA.refl _) fun k hk'=>by
    obtain⟨_,_,e,_,f⟩:=oth k (.inl (List.mem_flatMap.2 ⟨p,h',hk'⟩));exact⟨e,f⟩
  ·subst h';exact hok
  ·exact p.keep (h.ok p (by simp[h'])) (cA.refl _) fun k hk'=>by
    obtain⟨_,_,e,_,f⟩:=oth k (.inr (List.mem_flatMap.2 ⟨p,h',hk'⟩));exact⟨e,f⟩
 ·rcases mem k hk' with h' | h'
  ·obtain⟨_,_,_,e,f⟩:=oth k h';exact⟨e,f⟩
  ·rcases hn k h' with h'' | h''
   ·exact h.low k (by rw[wS];simp[h''])
   ·exact⟨h''.2,h.tfn h''.1⟩
def z2d:cF:=⟨[],fun _ _=>True,fun _ _ _=>trivial,fun _ _ h=>by cases h⟩
def dD.add(h:dD base tf t (A++B)){t':Tr rA}(hk:∀k,k∉o'.blks->t'.get k=t.get k)(hn:∀k∈o'.blks,t.get k=none/\base<=k)(hok:o'.ok tf t')(hnd:o'.blks.Nodup)(ht:cA tf t'):dD base tf t' (A++o'::B):=by
 have e:dD base tf t (A++z2d::B):=by
  have hm:(A++z2d::B).flatMap cF.blks=(A++B).flatMap cF.blks:=by simp[z2d]
  refine⟨h.tle,by rw[hm];exact h.nodup,fun o ho=>?_,fun k hk=>h.low k (by rw[hm]at hk;exact hk)⟩
  have:o∈A\/o=z2d\/o∈B:=by simpa using ho
  rcases this with h' | h' | h'
  ·exact h.ok o (by simp[h'])
  ·subst h';trivial
  ·exact h.ok o (by simp[h'])
 exact e.upd (fun k _ h2=>hk k h2) (fun k hk=>.inr (hn k hk)) hok hnd ht
def dD.drop(h:dD base tf t (A++o::B)):dD base tf t (A++B):=by
 have hd:=h.nodup
 rw[wS]at hd;refine⟨h.tle,?_,fun p hp=>h.ok p (by rcases yaf.1 hp with h | h<;>simp[h]),fun k hk=>h.low k (by rw[wS];rw[List.flatMap_append]at hk;rcases yaf.1 hk with h | h<;>simp[h])⟩
 rw[List.flatMap_append];rw[List.nodup_append]at hd ⊢
 obtain⟨d1,d2,d3⟩:=hd
 rw[List.nodup_append]at d2;exact⟨d1,d2.2.1,fun x hx y hy e=>d3 x hx y (by simp[hy]) e⟩
def dD.notin(h:dD base tf t (A++o::B)){k:Nat}(hk:k∈o.blks):k∉(A++B).flatMap cF.blks:=by
 have hd:=h.nodup
 rw[wS,List.nodup_append]at hd;obtain⟨d1,d2,d3⟩:=hd
 rw[List.nodup_append]at d2;rw[List.flatMap_append];intro hm;rcases yaf.1 hm with h' | h'
 ·exact d3 k h' k (by simp[hk]) rfl
 ·exact d2.2.2 k hk k h' rfl
def dD.freezeL{sz:Nat}{m:List D}{v:zA}(h:dD base tf t (A++zH base sz m v::B)):∃tf',cA tf tf'/\dD base tf' t (A++B)/\lA tf' sz m v:=by
 have hl:jH base tf t sz m v:=h.ok (zH base sz m v) (by simp)
 obtain⟨tf',h1,h2,h3,h4⟩:=hl.freeze h.tle
 refine⟨tf',h1,h.drop.keep h1 h2 fun k hk=>⟨rfl,?_⟩,h3⟩
 have hb:¬ kJ v k:=fun hb=>h.notin (o:=zH base sz m v) (zbz.2 hb) hk
 rw[h4 k hb];exact(h.drop.low k hk).2
end
end
section
section
variable {t tf:Tr rA}{C:pA}
def zlt{T el sz:Nat}(hT:eJ C T el sz){l:List D}{x:zA}(hx:lA tf sz l x)(ht:cA tf t)(hl:l.length<1000000){n:Nat}(hn:t.get n=none) :
  ∃v k t' tf',gE C T T .nilslice x ⟨n,t⟩=some (v,⟨k,t'⟩)/\lA tf' sz l v/\cA tf tf'/\cA tf' t'/\cA t t'/\oD n t t'/\oD n tf tf':=by
 obtain⟨⟨y,hy1,hy2,hy3⟩,⟨z,hz1,hz2,hz3,hz4,hz5⟩,hnb⟩:=hT
 have hcode:=NB.code hnb hz1
 obtain⟨cl,he,hd⟩:=hx
 have hcl:=hd.length
 obtain⟨hf,hlen⟩:=(he.mono ht).first (n:=n)
 have hall:=he.len
 have base:gE C T T .nilslice x ⟨n,t⟩=zM ⟨n,t⟩ el z cl.length cl.flatten:=by
  unfold gE aO;rw[hy1,tA,tA,hy3];simp only[ycl,gD];rw[hy2,tA,hz1,tA,hlen,tA,hz2,hf,tA];rfl
 have hfl:zB cl.flatten=cl.length*sz:=by rw[fC];exact mW hall
 have ok:iO z 0 0 cl.length cl.flatten=true:=by
  unfold iO;have h1:Nat.blt (0+cl.length+0) 1000000000=true:=tC.2 (by omega)
  have h2:Nat.blt ((0+cl.length+0)*z.bytes) 1000000000=true:=tC.2 (by
   have:=ydb (show 0+cl.length+0<=1000000 by omega) hz4
   omega)
  have h3:Nat.blt z.bytes 1000000000=true:=tC.2 (by omega)
  have h4:(!Nat.beq z.size 0)=true:=by
   cases hq:Nat.beq z.size 0 with
   | true=>have:=qB.1 hq;omega
   | false=>rfl
  have h5:Nat.beq (zB cl.flatten) (cl.length*z.size)=true:=by rw[hfl,hz2];exact qB.2 rfl
  have h6:Nat.beq (zB z.zero) z.size=true:=by rw[hz3,hz2];exact qB.2 rfl
  rw[h1,h2,h3,h4,h5,h6];rfl
 have hfn:tf.get n=none:=by
  cases hq:tf.get n with
  | none=>rfl
  | some u=>rw[ht _ _ hq]at hn;cases hn
 by_cases h0:cl.length=0
 ·have:cl=[]:=ycc.1 h0
  subst this;refine⟨.nilslice,n,t,tf,?_,⟨[],.inl ⟨rfl,rfl⟩,hd⟩,cA.refl _,ht,cA.refl _,oD.refl _ _,oD.refl _ _⟩
  rw[base];rfl
 ·have hb:Nat.beq cl.length 0=false:=by
   cases hq:Nat.beq cl.length 0 with
   | true=>exact absurd (qB.1 hq) h0
   | false=>rfl
  refine⟨.slice n 0 cl.length cl.length,n+1,t.set n (.cells (Tr.ofList cl.flatten) (zB cl.flatten) (some (sI el z))),tf.set n (.cells (Tr.ofList cl.flatten) (zB cl.flatten) (some (sI el z))),?_,⟨cl,sY hall (by rw[Tr.get_set,yab rfl]) (.inr ⟨_,rfl,by rw[jT,hz2]⟩),uC.mono (vJ hfn _).1 _ _ hd⟩,(vJ hfn _).1,fun k u hk=>?_,(vJ hn _).1,(vJ hn _).2,(vJ hfn _).2⟩
  ·rw[base]
   unfold zM;rw[hb,cond_false,ok];rfl
  ·rw[Tr.get_set]at hk ⊢
   split at hk
   ·rename_i e;rw[yab e];exact hk
   ·rename_i e;rw[yaa e];exact ht _ _ hk
def zzv(l:List Nat):List zA:=l.map fun(n:Nat)=>zA.int .u8 (n:Int)
end
end
end Go.Am
namespace Go.Am
open Go
section
variable {C:pA}{t tf:Tr rA}
def fN(k:IntKind)(l:List Nat):List (List zA):=l.map fun(x:Nat)=>[zA.int k (x:Int)]
def zU{k:IntKind}:∀ {l:List Nat} {cl:List (List zA)},uC t (lB k l) cl ↔ cl=fN k l
 | [],cl=>by
  show uC t [] cl ↔ cl=[]
  exact sG
 | x::l,cl=>by
  show uC t (.int k (x:Int)::lB k l) cl ↔ cl=[.int k (x:Int)]::fN k l
  rw[jE];constructor
  ·rintro⟨c,r,rfl,h1,h2⟩
   rw[vN]at h1;rw[h1,zU.1 h2]
  ·rintro rfl
   exact⟨_,_,rfl,vN.2 rfl,zU.2 rfl⟩
def lY{k:IntKind}:∀(l:List Nat),(fN k l).flatten=l.map fun(x:Nat)=>zA.int k (x:Int)
 | []=>rfl
 | x::l=>by
  show [zA.int k (x:Int)]++(fN k l).flatten=_
  rw[lY l];rfl
def zgl{k:IntKind}{l:List Nat}:(fN k l).length=l.length:=by simp[fN]
def ztm{k:IntKind}{l:List Nat}(i:Nat)(cs:List zA)(h:(fN k l)[i]?=some cs):cs.length=1:=by
 unfold fN at h;rw[ybu]at h
 cases hx:l[i]? with
 | none=>rw[hx]at h;cases h
 | some x=>rw[hx]at h;cases h;rfl
def zok(l:List Nat)(h:pB 256 l):zG uS (zzv l)=some l:=by
 induction l with
 | nil=>rfl
 | cons x l ih=>
  have e:uS (.int .u8 (x:Int))=some x:=by
   unfold uS;have e1:lJ (x:Int)=some x:=rfl
   simp only[zA.asIntK,tA];rw[tJ.2 rfl,gD,e1,tA,tC.2 (h x (by simp))];rfl
  show zG uS (.int .u8 (x:Int)::zzv l)=_
  rw[sL,e,tA,ih fun y hy=>h y (by simp[hy]),tA]
def z3x{S Dt el:Nat}{l:List Nat}{v:zA}{yS yD yE:rC}(hS:C.tys.get S=some yS)(hD:C.tys.get Dt=some yD)(h1:yD.desc.asInt=none)(h2:yD.desc.isString=true)(h3:yS.desc.asSlice=some el)(h4:C.tys.get el=some yE)(h5:yE.desc.asInt=some .u8)
  (hv:lA t 1 (lB .u8 l) v) (hlt:pB 256 l):rN C S Dt ⟨0,t⟩ v=some (.str l):=by
 obtain⟨cl,g1,g2⟩:=hv
 rw[zU]at g2;subst g2;have hf:=(g1.first (n:=0)).1
 have htag:Nat.beq v.tag 2=false:=by
  rcases g1 with⟨rfl,_⟩ | ⟨b,off,cap,rfl,_⟩<;>rfl
 unfold rN xN;rw[hS,tA,hD,tA,h1];simp only[];rw[h2,gD,htag,cond_false,h3,tA,h4,tA,h5,tA,tJ.2 rfl,gD];unfold vV;rcases g1 with⟨rfl,hn⟩ | ⟨b,off,cap,rfl,_⟩
 ·have:l=[]:=by
   have:=congrArg List.length hn
   rw[zgl]at this;exact ycc.1 this
  subst this;rfl
 ·unfold qL at hf
  simp only[zA.asSlice,Nat.mul_one]at hf ⊢
  rw[uA]at hf;obtain⟨c,hc,hf⟩:=hf
  rw[hc,tA,hf,tA,lY];have:=zok l hlt
  unfold zzv at this;rw[this,tA]
def zs4{n k:Nat}{l:List Nat}(h:l.length=k):qL ⟨n,t⟩ 1 k (.str l)=some (fN .u8 l).flatten/\jQ (.str l)=some k:=by
 subst h;constructor
 ·unfold qL
  simp only[zA.asSlice,zA.asStr];rw[lY,sO,List.take_length];rfl
 ·unfold jQ
  simp only[zA.asSlice,zA.asStr,fC]
def zpy{k:IntKind}{l:List Nat}:∀a∈(fN k l).flatten,zA.one a=true:=by
 intro a ha;rw[lY]at ha;obtain⟨x,_,rfl⟩:=yaq.1 ha
 rfl
def zla{k:IntKind}{l m:List Nat}:lB k (l++m)=lB k l++lB k m:=by simp[lB]
def ztu{T U el:Nat}{cd:Lo}(hT:zt1 C T el 1)(hU:∃u,C.tys.get U=some u/\Nat.beq u.desc.tag 1=false)(hcd:∀z,C.tys.get el=some z->sI el z=cd){l m:List Nat}{v:zA}(hv:wG cd C.base tf t 1 (lB .u8 l) v)(hpos:m≠[])(hl:l.length+m.length<400000){n:Nat}(hn:t.get n=none)(hbase:C.base<=n)(ht:cA tf t) :
  ∃t',gE C T U v (.str m) ⟨n,t⟩=some (.slice n 0 (l.length+m.length) (l.length+m.length),⟨n+1,t'⟩)/\wG cd C.base tf t' 1 (lB .u8 (l++m)) (.slice n 0 (l.length+m.length) (l.length+m.length))/\cA tf t'/\(∀c,c≠n->¬ kJ v c->t'.get c=t.get c):=by
 have h0:0<m.length:=List.length_pos_iff.2 hpos
 obtain⟨t',h1,h2,h3,h4⟩:=zam hT hU hcd (l:=lB .u8 l) (m:=lB .u8 m) (x:=.str m) (cm:=fN .u8 m) hv ztm (fun n=>by rw[zgl];exact zs4 rfl) (zU.2 rfl) zpy (by rw[tF];exact h0) (by rw[tF,tF];exact hl) hn hbase ht
 rw[tF,tF]at h1 h2;rw[<- zla]at h2;exact⟨t',h1,h2,h3,h4⟩
def zeg{T el:Nat}{cd:Lo}{k:IntKind}(hT:zt1 C T el 1)(hcd:∀z,C.tys.get el=some z->sI el z=cd){l m:List Nat}{v x:zA}(hv:wG cd C.base tf t 1 (lB k l) v)(hx:lA t 1 (lB k m) x)(hpos:m≠[])(hl:l.length+m.length<400000){n:Nat}(hn:t.get n=none)(hbase:C.base<=n)(ht:cA tf t) :
  ∃t',gE C T T v x ⟨n,t⟩=some (.slice n 0 (l.length+m.length) (l.length+m.length),⟨n+1,t'⟩)/\wG cd C.base tf t' 1 (lB k (l++m)) (.slice n 0 (l.length+m.length) (l.length+m.length))/\cA tf t'/\(∀c,c≠n->¬ kJ v c->t'.get c=t.get c):=by
 have h0:0<m.length:=List.length_pos_iff.2 hpos
 obtain⟨cl,g1,g2⟩:=hx
 rw[zU]at g2;subst g2;obtain⟨t',h1,h2,h3,h4⟩:=zan hT hcd (l:=lB k l) (m:=lB k m) (x:=x) (cm:=fN k m) hv g1 (zU.2 rfl) zpy (by rw[tF];exact h0) (by rw[tF,tF];exact hl) hn hbase ht
 rw[tF,tF]at h1 h2;rw[<- zla]at h2;exact⟨t',h1,h2,h3,h4⟩
def zka{cd:Lo}{base sz:Nat}:wG cd base tf t sz [] .nilslice:=.inl ⟨rfl,rfl⟩
def wG.keep'{cd:Lo}{base sz:Nat}{l:List D}{v:zA}{t':Tr rA}(h:wG cd base tf t sz l v)(hk:∀b,kJ v b->t'.get b=t.get b):wG cd base tf t' sz l v:=by
 rcases h with⟨rfl,rfl⟩ | ⟨b,cl,c,rfl,h0,h1,h2,h3,h4⟩
 ·exact .inl ⟨rfl,rfl⟩
 ·exact .inr ⟨b,cl,c,rfl,h0,h1,by rw[hk b (bR.2 rfl)];exact h2,h3,h4⟩
end
end Go.Am
namespace Go.Am
def kn_ge{B m U V head top u2 v2 ur vr:Nat}(hU:U=(head*B+u2)*B^m+ur)(hur:ur<B^m)(hu2:u2<B)(hV:V=(top*B+v2)*B^m+vr)(htop:0<top):U / V<=head / top:=by
 have hBm:0<B^m:=by omega
 rw[Nat.le_div_iff_mul_le htop];have h1:U / V*V<=U:=Nat.div_mul_le_self U V
 have h2:top*B*B^m<=V:=by
  rw[hV,ybo];omega
 have h3:U<(head+1)*B*B^m:=by
  have:head*B+u2+1<=(head+1)*B:=by rw[ybo];omega
  have:=ybi (B^m) this
  rw[hU];rw[ybo (head*B+u2) 1,Nat.one_mul]at this
  omega
 have h4:U / V*top*(B*B^m)<(head+1)*(B*B^m):=by
  calc U / V*top*(B*B^m)=U / V*(top*B*B^m):=by rw[ybj,ybj]
   _<=U / V*V:=ybv _ h2
   _<=U:=h1
   _<(head+1)*B*B^m:=h3
   _=(head+1)*(B*B^m):=by rw[ybj]
 exact Nat.lt_succ_iff.1 (Nat.lt_of_mul_lt_mul_right h4)
def kn_gt{B m U V head top u2 v2 ur vr d:Nat}(hU:U=(head*B+u2)*B^m+ur)(hur:ur<B^m)(hV:V=(top*B+v2)*B^m+vr)(h:head*B+u2<d*(top*B+v2)):U / V<d:=by
 rcases yau (U / V) d with g | g
 ·exact g
 ·exfalso
  have h1:U / V*V<=U:=Nat.div_mul_le_self U V
  have h2:d*V<=U:=Nat.le_trans (ybi _ g) h1
  have h3:d*(top*B+v2)*B^m<=d*V:=by rw[hV,ybj];exact ybv _ (Nat.le_add_right _ _)
  have h4:=ybi (B^m) (show head*B+u2+1<=d*(top*B+v2) from h)
  rw[ybo (head*B+u2) 1,Nat.one_mul]at h4
  omega
def kn_le{B m U V head top u2 v2 ur vr d:Nat}(hB:0<B)(hU:U=(head*B+u2)*B^m+ur)(hV:V=(top*B+v2)*B^m+vr)(hvr:vr<B^m)(htop:0<top)(hd:d<=B)(h:d*(top*B+v2)<=head*B+u2):d<=U / V+1:=by
 have hVpos:0<V:=by
  rw[hV];have:0<top*B+v2:=by have:=Nat.mul_pos htop hB;omega
  have:=Nat.mul_pos this (show 0<B^m by omega)
  omega
 rcases yau (U / V+1) d with g | g
 ·exfalso
  have h1:(d-1)*V<=U:=by
   have e1:d*V<=d*((top*B+v2)*B^m)+d*B^m:=by
    rw[hV,ybm];exact Nat.add_le_add_left (ybv _ (Nat.le_of_lt hvr)) _
   have e2:d*((top*B+v2)*B^m)<=(head*B+u2)*B^m:=by rw[<- ybj];exact ybi _ h
   have e3:d*B^m<=V:=by
    have:d*B^m<=top*B*B^m:=by
     refine ybi _ (Nat.le_trans hd ?_)
     exact yan _ htop
    rw[hV,ybo];omega
   rw[Nat.sub_mul,Nat.one_mul];omega
  have:=(Nat.le_div_iff_mul_le hVpos).2 h1
  omega
 ·exact g
def top2{B:Nat}(hB:0<B){l:List Nat}{m a b:Nat}(hlt:pB B l)(hl:l.length=m+2)(ha:l[m+1]?=some a)(hb:l[m]?=some b):val B l=(a*B+b)*B^m+val B (l.take m)/\val B (l.take m)<B^m:=by
 have e1:=iS B l m
 have hlen:(l.take m).length=m:=by simp;omega
 rw[hlen]at e1;have e2:l.drop m=[b,a]:=by
  rw[aI hb,aI ha,List.drop_of_length_le (by omega)]
 rw[e2]at e1;refine⟨?_,?_⟩
 ·rw[e1]
  simp only[val];rw[ybh (B^m),yat,yct,ybh B a]
  rw[yap b];omega
 ·have:=lK hB (rR hlt m);rw[hlen]at this;exact this
def top3{B:Nat}(hB:0<B){l:List Nat}{m a b c:Nat}(hlt:pB B l)(hl:l.length=m+3)(ha:l[m+2]?=some a)(hb:l[m+1]?=some b)(hc:l[m]?=some c):val B l=((a*B+b)*B+c)*B^m+val B (l.take m)/\val B (l.take m)<B^m:=by
 have e1:=iS B l m
 have hlen:(l.take m).length=m:=by simp;omega
 rw[hlen]at e1;have e2:l.drop m=[c,b,a]:=by
  rw[aI hc,aI hb,aI ha,List.drop_of_length_le (by omega)]
 rw[e2]at e1;refine⟨?_,?_⟩
 ·rw[e1]
  simp only[val];rw[ybh (B^m),yat,yct]
  have e3:c+B*(b+B*a)=(a*B+b)*B+c:=by
   rw[ybm,ybo,ybh B b,ybh B (B*a),ybh B a]
   omega
  rw[e3];omega
 ·have:=lK hB (rR hlt m);rw[hlen]at this;exact this
end Go.Am
