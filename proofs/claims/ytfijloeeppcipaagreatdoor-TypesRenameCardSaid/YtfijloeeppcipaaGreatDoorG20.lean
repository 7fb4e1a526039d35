/- Facts on types. (Printed by a tool.) -/
import Derived.Test.YtfijloeeppcipaaGreatDoorG19
set_option linter.all false
noncomputable section
set_option maxRecDepth 100000
namespace Go.Proofs
open Go Go.Am
variable [lC]
def ty3:yA.tys.get 3=some ⟨(.int .i64),1,8,[.int .i64 0],true⟩:=by kernel_rfl
def ty4:yA.tys.get 4=some ⟨.bool,1,1,[.bool false],true⟩:=by kernel_rfl
def ty5:yA.tys.get 5=some ⟨(.int .u8),1,1,[.int .u8 0],true⟩:=by kernel_rfl
def ty9:yA.tys.get 9=some ⟨.string,1,16,[.str []],true⟩:=by kernel_rfl
def ty22:yA.tys.get 22=some ⟨(.slice 59),1,24,[.nilslice],true⟩:=by kernel_rfl
def ty23:yA.tys.get 23=some ⟨(.slice 81),1,24,[.nilslice],true⟩:=by kernel_rfl
def ty24:yA.tys.get 24=some ⟨(.slice 56),1,24,[.nilslice],true⟩:=by kernel_rfl
def ty26:yA.tys.get 26=some ⟨(.struct [(0,9,1),(1,22,1),(2,23,1),(3,24,1)]),4,88,[.str [],.nilslice,.nilslice,.nilslice],true⟩:=by kernel_rfl
def ty27:yA.tys.get 27=some ⟨(.slice 202),1,24,[.nilslice],true⟩:=by kernel_rfl
def ty29:yA.tys.get 29=some ⟨(.struct [(0,4,1),(1,27,1)]),2,32,[.bool false,.nilslice],true⟩:=by kernel_rfl
def ty31:yA.tys.get 31=some ⟨(.struct [(0,29,2),(2,29,2)]),4,64,[.bool false,.nilslice,.bool false,.nilslice],true⟩:=by kernel_rfl
def ty34:yA.tys.get 34=some ⟨(.slice 36),1,24,[.nilslice],true⟩:=by kernel_rfl
def zqn:yA.tys.get 36=some ⟨(.struct [(0,5,1),(1,9,1),(2,33,6),(8,34,1)]),9,128,[.int .u8 0,.str [],.int .u8 0,.bool false,.nilslice,.bool false,.nilslice,.int .i64 0,.nilslice],true⟩:=by kernel_rfl
def z8w:yA.tys.get 38=some ⟨(.slice 5),1,24,[.nilslice],true⟩:=by kernel_rfl
def ty56:yA.tys.get 56=some ⟨(.struct [(0,9,1),(1,9,1),(2,3,1),(3,3,1),(4,3,1),(5,4,1),(6,36,9),(15,36,9)]),24,320,[.str [],.str [],.int .i64 0,.int .i64 0,.int .i64 0,.bool false,.int .u8 0,.str [],.int .u8 0,.bool false,.nilslice,.bool false,.nilslice,.int .i64 0,.nilslice,.int .u8 0,.str [],.int .u8 0,.bool false,.nilslice,.bool false,.nilslice,.int .i64 0,.nilslice],true⟩:=by kernel_rfl
def z2n:yA.tys.get 59=some ⟨(.struct [(0,9,1),(1,5,1),(2,4,1)]),3,24,[.str [],.int .u8 0,.bool false],true⟩:=by kernel_rfl
def ty79:yA.tys.get 79=some ⟨(.slice 84),1,24,[.nilslice],true⟩:=by kernel_rfl
def ty81:yA.tys.get 81=some ⟨(.struct [(0,9,1),(1,4,1),(2,79,1)]),3,48,[.str [],.bool false,.nilslice],true⟩:=by kernel_rfl
def ty84:yA.tys.get 84=some ⟨(.struct [(0,3,1),(1,3,1),(2,3,1),(3,31,4)]),7,88,[.int .i64 0,.int .i64 0,.int .i64 0,.bool false,.nilslice,.bool false,.nilslice],true⟩:=by kernel_rfl
def z8y:yA.tys.get 100=some ⟨(.map 99 5),1,8,[.nilmap],true⟩:=by kernel_rfl
def ty137:yA.tys.get 137=some ⟨(.arr 3 5),3,3,[.int .u8 0,.int .u8 0,.int .u8 0],true⟩:=by kernel_rfl
def ty140:yA.tys.get 140=some ⟨(.map 9 4),1,8,[.nilmap],true⟩:=by kernel_rfl
def ty159:yA.tys.get 159=some ⟨(.struct [(0,5,1),(1,9,1),(2,4,1),(3,3,1),(4,3,1),(5,3,1),(6,3,1),(7,3,1)]),8,72,[.int .u8 0,.str [],.bool false,.int .i64 0,.int .i64 0,.int .i64 0,.int .i64 0,.int .i64 0],true⟩:=by kernel_rfl
def z8x:yA.tys.get 191=some ⟨.func,1,8,[.nilfunc],true⟩:=by kernel_rfl
def znx:yA.tys.get 202=some ⟨(.int .u16),1,2,[.int .u16 0],true⟩:=by kernel_rfl
def ty213:yA.tys.get 213=some ⟨(.map 3 9),1,8,[.nilmap],true⟩:=by kernel_rfl
def zwh:yA.tys.get 225=some ⟨(.int .u64),1,8,[.int .u64 0],true⟩:=by kernel_rfl
def fL:yA.tys.get 244=some ⟨(.slice 246),1,24,[.nilslice],true⟩:=by kernel_rfl
def pG:yA.tys.get 246=some ⟨(.int .u32),1,4,[.int .u32 0],true⟩:=by kernel_rfl
def ty279:yA.tys.get 279=some ⟨(.slice 29),1,24,[.nilslice],true⟩:=by kernel_rfl
def sl22:oE yA 22 59 3 true:=⟨⟨_,ty22,rfl⟩,⟨_,z2n,rfl,rfl⟩⟩
def sl23:oE yA 23 81 3 true:=⟨⟨_,ty23,rfl⟩,⟨_,ty81,rfl,rfl⟩⟩
def z3m:oE yA 24 56 24 true:=⟨⟨_,ty24,rfl⟩,⟨_,ty56,rfl,rfl⟩⟩
def z7a:oE yA 27 202 1 false:=⟨⟨_,ty27,rfl⟩,⟨_,znx,rfl,rfl⟩⟩
def z3l:oE yA 34 36 9 true:=⟨⟨_,ty34,rfl⟩,⟨_,zqn,rfl,rfl⟩⟩
def sl38:oE yA 38 5 1 false:=⟨⟨_,z8w,rfl⟩,⟨_,ty5,rfl,rfl⟩⟩
def sl79:oE yA 79 84 7 true:=⟨⟨_,ty79,rfl⟩,⟨_,ty84,rfl,rfl⟩⟩
def fF:oE yA 244 246 1 false:=⟨⟨_,fL,rfl⟩,⟨_,pG,rfl,rfl⟩⟩
def sl279:oE yA 279 29 2 true:=⟨⟨_,ty279,rfl⟩,⟨_,ty29,rfl,rfl⟩⟩
end Go.Proofs
namespace Go.Am
open Go Go.RowKit
def oD (l:List Nat):List D:=l.map fun(n:Nat)=>D.int .u16 (n:Int)
def mR(l:List Nat):(oD l).length=l.length:=by simp[oD]
structure uI where
 neg:Bool
 limbs:List Nat
def uI.d(w:uI):D:=.st [.bool w.neg,.sl 1 (oD w.limbs)]
structure yF where
 n:uI
 d:uI
def yF.dd(f:yF):D:=.st [f.n.d,f.d.d]
structure lG where
 kind:Nat
 f:yF
 i:Int
def lG.d(v:lG):D:=.st [.int .u8 v.kind,v.f.dd,.int .i64 v.i]
inductive pA where
 | mk (op:Nat) (name:List Nat) (v:lG) (args:List pA)
def pA.op:pA->Nat | .mk o _ _ _=>o
def pA.name:pA->List Nat | .mk _ n _ _=>n
def pA.v:pA->lG | .mk _ _ v _=>v
def pA.args:pA->List pA | .mk _ _ _ a=>a
mutual
def pA.d:pA->D
 | .mk op name v args=>.st [.int .u8 op,.str name,v.d,.sl 9 (pA.ds args)]
def pA.ds:List pA->List D
 | []=>[]
 | x::l=>x.d::pA.ds l
end
def pA.ds_eq(l:List pA):pA.ds l=l.map pA.d:=by
 induction l with
 | nil=>rfl
 | cons x l ih=>simp[pA.ds,ih]
structure mH where
 a:Int
 b:Int
 known:Int
 f:yF
def mH.d(r:mH):D:=.st [.int .i64 r.a,.int .i64 r.b,.int .i64 r.known,r.f.dd]
structure uE where
 name:List Nat
 two:Bool
 rows:List mH
def uE.d(x:uE):D:=.st [.str x.name,.bool x.two,.sl 7 (x.rows.map mH.d)]
structure oC where
 name:List Nat
 kind:Nat
 fact:Bool
def oC.d(x:oC):D:=.st [.str x.name,.int .u8 x.kind,.bool x.fact]
structure nC where
 name:List Nat
 label:List Nat
 from_:Int
 to:Int
 known:Int
 off:Bool
 when_:pA
 then_:pA
def nC.d(x:nC):D:=.st [.str x.name,.str x.label,.int .i64 x.from_,.int .i64 x.to,.int .i64 x.known,.bool x.off,x.when_.d,x.then_.d]
structure fC where
 name:List Nat
 defs:List oC
 tables:List uE
 clauses:List nC
def fC.d(x:fC):D:=.st [.str x.name,.sl 3 (x.defs.map oC.d),.sl 3 (x.tables.map uE.d),.sl 24 (x.clauses.map nC.d)]
section
variable {t:Tr rA}{cs:List zA}
def xV{w:uI}(h:RD t w.d cs):∃v,cs=[.bool w.neg,v]/\lA t 1 (oD w.limbs) v:=by
 unfold uI.d at h;simp only[tI,uF,kG,kJ,gP]at h;obtain⟨cl,rfl,c,r,rfl,rfl,c',r',rfl,⟨v,rfl,h⟩,rfl⟩:=h
 exact⟨v,rfl,h⟩
def zdq{f:yF}(h:RD t f.dd cs):∃u v,cs=[.bool f.n.neg,u,.bool f.d.neg,v]/\lA t 1 (oD f.n.limbs) u/\lA t 1 (oD f.d.limbs) v:=by
 unfold yF.dd at h;simp only[tI,uF,kG]at h;obtain⟨cl,rfl,c,r,rfl,h1,c',r',rfl,h2,rfl⟩:=h
 obtain⟨u,rfl,h3⟩:=xV h1
 obtain⟨v,rfl,h4⟩:=xV h2
 exact⟨u,v,rfl,h3,h4⟩
def zgl{v:lG}(h:RD t v.d cs):∃a b,cs=[.int .u8 v.kind,.bool v.f.n.neg,a,.bool v.f.d.neg,b,.int .i64 v.i]/\lA t 1 (oD v.f.n.limbs) a/\lA t 1 (oD v.f.d.limbs) b:=by
 unfold lG.d at h;simp only[tI,uF,kG,oM]at h;obtain⟨cl,rfl,c,r,rfl,rfl,c',r',rfl,h2,c'',r'',rfl,rfl,rfl⟩:=h
 obtain⟨a,b,rfl,h3,h4⟩:=zdq h2
 exact⟨a,b,rfl,h3,h4⟩
def kH{x:pA}(h:RD t x.d cs):∃a b c,cs=[.int .u8 x.op,.str x.name,.int .u8 x.v.kind,.bool x.v.f.n.neg,a,.bool x.v.f.d.neg,b,.int .i64 x.v.i,c] ∧
  lA t 1 (oD x.v.f.n.limbs) a/\lA t 1 (oD x.v.f.d.limbs) b/\lA t 9 (x.args.map pA.d) c:=by
 obtain⟨op,name,v,args⟩:=x
 unfold pA.d at h;rw[pA.ds_eq]at h;simp only[tI,uF,kG,oM,iP,kJ]at h;obtain⟨cl,rfl,c,r,rfl,rfl,c',r',rfl,rfl,c'',r'',rfl,hv,c3,r3,rfl,⟨w,rfl,h4⟩,rfl⟩:=h
 obtain⟨a,b,rfl,h5,h6⟩:=zgl hv
 exact⟨a,b,w,rfl,h5,h6,h4⟩
def zx0{r:mH}(h:RD t r.d cs):∃a b,cs=[.int .i64 r.a,.int .i64 r.b,.int .i64 r.known,.bool r.f.n.neg,a,.bool r.f.d.neg,b]/\lA t 1 (oD r.f.n.limbs) a/\lA t 1 (oD r.f.d.limbs) b:=by
 unfold mH.d at h;simp only[tI,uF,kG,oM]at h;obtain⟨cl,rfl,c,r,rfl,rfl,c',r',rfl,rfl,c'',r'',rfl,rfl,c3,r3,rfl,hf,rfl⟩:=h
 obtain⟨a,b,rfl,h3,h4⟩:=zdq hf
 exact⟨a,b,rfl,h3,h4⟩
def wV{x:uE}(h:RD t x.d cs):∃a,cs=[.str x.name,.bool x.two,a]/\lA t 7 (x.rows.map mH.d) a:=by
 unfold uE.d at h;simp only[tI,uF,kG,iP,gP,kJ]at h;obtain⟨cl,rfl,c,r,rfl,rfl,c',r',rfl,rfl,c'',r'',rfl,⟨a,rfl,h⟩,rfl⟩:=h
 exact⟨a,rfl,h⟩
def zgm{x:oC}(h:RD t x.d cs):cs=[.str x.name,.int .u8 x.kind,.bool x.fact]:=by
 unfold oC.d at h;simp only[tI,uF,kG,iP,gP,oM]at h;obtain⟨cl,rfl,c,r,rfl,rfl,c',r',rfl,rfl,c'',r'',rfl,rfl,rfl⟩:=h
 rfl
def xE(x:pA)(a b c:zA):List zA:=[.int .u8 x.op,.str x.name,.int .u8 x.v.kind,.bool x.v.f.n.neg,a,.bool x.v.f.d.neg,b,.int .i64 x.v.i,c]
def xR{x:nC}(h:RD t x.d cs):∃a b c a' b' c',cs=[.str x.name,.str x.label,.int .i64 x.from_,.int .i64 x.to,.int .i64 x.known,.bool x.off]++xE x.when_ a b c++xE x.then_ a' b' c' ∧
  RD t x.when_.d (xE x.when_ a b c)/\RD t x.then_.d (xE x.then_ a' b' c'):=by
 unfold nC.d at h;simp only[tI,uF,kG,iP,gP,oM]at h;obtain⟨cl,rfl,c1,r1,rfl,rfl,c2,r2,rfl,rfl,c3,r3,rfl,rfl,c4,r4,rfl,rfl,c5,r5,rfl,rfl,c6,r6,rfl,rfl,c7,r7,rfl,h7,c8,r8,rfl,h8,rfl⟩:=h
 obtain⟨a,b,c,e1,_⟩:=kH h7
 obtain⟨a',b',c',e2,_⟩:=kH h8
 subst e1 e2
 exact⟨a,b,c,a',b',c',rfl,h7,h8⟩
def iO{x:fC}(h:RD t x.d cs):∃a b c,cs=[.str x.name,a,b,c]/\lA t 3 (x.defs.map oC.d) a/\lA t 3 (x.tables.map uE.d) b/\lA t 24 (x.clauses.map nC.d) c:=by
 unfold fC.d at h;simp only[tI,uF,kG,iP,kJ]at h;obtain⟨cl,rfl,c1,r1,rfl,rfl,c2,r2,rfl,⟨a,rfl,h1⟩,c3,r3,rfl,⟨b,rfl,h2⟩,c4,r4,rfl,⟨c,rfl,h3⟩,rfl⟩:=h
 exact⟨a,b,c,rfl,h1,h2,h3⟩
end
def uI.zs(x:uI):x.d.zs=[.bool false,.nilslice]:=rfl
def yF.zs(x:yF):x.dd.zs=[.bool false,.nilslice,.bool false,.nilslice]:=rfl
def lG.zs(x:lG):x.d.zs=[.int .u8 0,.bool false,.nilslice,.bool false,.nilslice,.int .i64 0]:=rfl
def pA.zs(x:pA):x.d.zs=[.int .u8 0,.str [],.int .u8 0,.bool false,.nilslice,.bool false,.nilslice,.int .i64 0,.nilslice]:=by cases x;rfl
def mH.zs(x:mH):x.d.zs=[.int .i64 0,.int .i64 0,.int .i64 0,.bool false,.nilslice,.bool false,.nilslice]:=rfl
def uE.zs(x:uE):x.d.zs=[.str [],.bool false,.nilslice]:=rfl
def oC.zs(x:oC):x.d.zs=[.str [],.int .u8 0,.bool false]:=rfl
def nC.zs(x:nC):x.d.zs=[.str [],.str [],.int .i64 0,.int .i64 0,.int .i64 0,.bool false,.int .u8 0,.str [],.int .u8 0,.bool false,.nilslice,.bool false,.nilslice,.int .i64 0,.nilslice,.int .u8 0,.str [],.int .u8 0,.bool false,.nilslice,.bool false,.nilslice,.int .i64 0,.nilslice]:=by
 obtain⟨_,_,_,_,_,_,w,v⟩:=x;cases w;cases v;rfl
def fC.zs(x:fC):x.d.zs=[.str [],.nilslice,.nilslice,.nilslice]:=rfl
def zL(f:yF):Nat:=1+f.n.limbs.length+f.d.limbs.length
mutual
/-- the size, as it is counted up to a limit -/
def pJ:pA->Int->Int
 | .mk _ name v args,left=>cN args left (zL v.f+(name.length:Int) / 30)
def cN:List pA->Int->Int->Int
 | [],_,n=>n
 | x::l,left,n=>if n<=left then cN l left (n+pJ x (left-n))else n
end
def mC:Nat:=1125899906842624
def yF.ok(f:yF):Prop:=f.n.limbs.length<mC/\f.d.limbs.length<mC
mutual
def pA.ok:pA->Prop
 | .mk _ name v args=>name.length<mC/\v.f.ok/\args.length<mC/\pA.oks args
def pA.oks:List pA->Prop
 | []=>True
 | x::l=>x.ok/\pA.oks l
end
end Go.Am
namespace Go.Am
open Go Go.RowKit
section
def yW{f:yF}(h:f.ok):zL f<4503599627370496:=by
 unfold yF.ok mC at h;unfold zL;omega
mutual
def oX:∀(x:pA) (left:Int),x.ok->0<=pJ x left/\pJ x left<=max left 0+9007199254740992
 | .mk op name v args,left,h=>by
  unfold pA.ok at h;obtain⟨h1,h2,_,h4⟩:=h
  have hf:=yW h2
  unfold mC at h1;unfold pJ;have:=xW args left (zL v.f+(name.length:Int) / 30) h4 (by omega)
  omega
def xW:∀(l:List pA) (left n:Int),pA.oks l->0<=n->n<=cN l left n/\cN l left n<=max n (left+9007199254740992)
 | [],left,n,_,_=>by unfold cN;omega
 | x::l,left,n,h,hn=>by
  unfold pA.oks at h;unfold cN;split
  ·have h1:=oX x (left-n) h.1
   have h2:=xW l left (n+pJ x (left-n)) h.2 (by omega)
   omega
  ·omega
end
def zD{a b:Int}:(bB a b=true) ↔ a<b:=zbj a b
def tG{a b:Int}:(jC a b=true) ↔ a<=b:=zjg a b
def zX{α:Type}{l:List α}{i:Nat}{x:α}{r:List α}(h:l.drop i=x::r):l[i]?=some x/\l.drop (i+1)=r/\i<l.length:=by
 have h1:(l.drop i)[0]?=some x:=by rw[h];rfl
 rw[yde]at h1;have hi:i<l.length:=by
  rcases yau i l.length with hl | hl
  ·exact hl
  ·rw[ybt hl]at h;cases h
 refine⟨by simpa using h1,?_,hi⟩
 have:=List.drop_drop (l:=l) (i:=1) (j:=i)
 rw[h]at this;simpa[yap]using this.symm
def zat{α:Type}{l:List α}{i:Nat}(h:l.drop i=[]):l.length<=i:=by
 rcases yau i l.length with hl | hl
 ·have:=congrArg List.length h;simp at this;omega
 ·exact hl
def xO(l:List Nat):(Int.ofNat (yB l))=(l.length:Int):=by rw[bC];rfl
def iM(cs:List zA):zf1 true cs=.agg cs:=rfl
end
section
def iB(k:IntKind)(l:List Nat):List D:=l.map fun(n:Nat)=>D.int k (n:Int)
def nF{k:IntKind}(l:List Nat):(iB k l).length=l.length:=by simp[iB]
def z1e{k:IntKind}{l:List Nat}{i x:Nat}(h:l[i]?=some x):(iB k l)[i]?=some (.int k (x:Int)):=by simp[iB,h]
def zhi{k:IntKind}{l:List Nat}{n:Nat}:(iB k l).take n=iB k (l.take n):=by simp[iB]
def rF (t:Tr rA)(b:Nat)(k:IntKind)(l:List Nat):Prop:=∃c,t.get b=some (.cells c l.length none)/\∀(j:Nat) x,l[j]?=some x->c.get j=some (.int k (x:Int))
def iD (b:Nat)(t t':Tr rA):Prop:=∀c,c≠b->t'.get c=t.get c
def iD.refl(b:Nat)(t:Tr rA):iD b t t:=fun _ _=>rfl
def iD.trans{b:Nat}{x y z:Tr rA}(h:iD b x y)(k:iD b y z):iD b x z:=fun c hc=>(k c hc).trans (h c hc)
section
variable {t t' t0:Tr rA}{C:oA}{b:Nat}{k:IntKind}{l:List Nat}
def rF.off(h:rF t b k l){c:Nat}(hc:b≠c)(ho:iD c t t'):rF t' b k l:=by
 obtain⟨x,h1,h2⟩:=h;exact⟨x,by rw[ho b hc];exact h1,h2⟩
def rF.tle(h:rF t b k l)(ho:dA t t'):rF t' b k l:=by
 obtain⟨x,h1,h2⟩:=h;exact⟨x,ho _ _ h1,h2⟩
def dA.off(h:dA t0 t)(hb:t0.get b=none)(ho:iD b t t'):dA t0 t':=by
 intro c y hc;rw[ho c (by intro e;rw[e,hb]at hc;cases hc)]
 exact h c y hc
def rF.slice(h:rF t b k l){off n cap:Nat}(hn:off+n<=l.length)(hc:n<=cap):lA t 1 (iB k ((l.drop off).take n)) (.slice b off n cap):=by
 obtain⟨c,h1,h2⟩:=h
 refine⟨((l.drop off).take n).map fun(x:Nat)=>[.int k (x:Int)],.inr ⟨b,off,cap,?_,?_,⟨c,_,none,h1,.inl rfl⟩,fun i cs hi=>?_⟩,?_⟩
 ·congr 1;simp;omega
 ·simp;omega
 ·simp only[ybu,yar]at hi
  obtain⟨x,hx,rfl⟩:=hi
  refine⟨rfl,c,_,none,h1,fun j a hj=>?_⟩
  cases j with
  | zero=>
   simp at hj;subst hj;rw[ydf]at hx;split at hx
   ·rw[yde]at hx
    exact h2 (off+i*1+0) x (by rw[show off+i*1+0=off+i by omega];exact hx)
   ·cases hx
  | succ j=>simp at hj
 ·refine sC.mk (by simp[iB]) fun i d cs hd hc=>?_
  simp only[iB,ybu,yar]at hd hc;obtain⟨x,hx,rfl⟩:=hd
  obtain⟨y,hy,rfl⟩:=hc
  rw[hx]at hy;cases hy;rfl
def rF.all(h:rF t b k l){cap:Nat}(hc:l.length<=cap):lA t 1 (iB k l) (.slice b 0 l.length cap):=by
 have:=h.slice (off:=0) (n:=l.length) (by omega) hc
 simpa using this
def vS{T el sz:Nat}{agg:Bool}(h:oE C T el sz agg){off n cap i:Nat}(hi:i<n):qB C T (.slice b off n cap) (.int .i64 (i:Int))=some (.ptr b (off+i*sz)):=by
 obtain⟨⟨y,hy1,hy2⟩,⟨z,hz1,hz2,hz3⟩⟩:=h
 unfold qB;rw[hy1,sA];have:(zA.int .i64 (i:Int)).asNat=some i:=rfl
 rw[this,sA];simp only[zA.asSlice];rw[hy2,sA,hz1,sA,vC.2 hi,hz2];rfl
def rF.load(h:rF t b k l){j x:Nat}(hj:l[j]?=some x){ty:Nat}{y:tC}(hy:C.tys.get ty=some y)(ha:y.desc.isAgg=false):mA C ty ⟨0,t⟩ (.ptr b j)=some (.int k (x:Int)):=by
 obtain⟨c,h1,h2⟩:=h
 unfold mA;simp only[zA.asPtr,sA];rw[hy,sA];unfold vE;rw[h1,sA];simp only[rA.asCells,sA];unfold wN;rw[ha,cond_false];exact h2 j x hj
def rF.store(h:rF t b k l)(hb:C.base<=b){j:Nat}(hj:j<l.length)(x:Nat){ty:Nat}{y:tC}(hy:C.tys.get ty=some y)(hs:y.size=1) :
  ∃t',(∀n,rC C ty (.ptr b j) (.int k (x:Int)) ⟨n,t⟩=some (nD,⟨n,t'⟩))/\rF t' b k (l.set j x)/\iD b t t':=by
 obtain⟨c,h1,h2⟩:=h
 refine⟨t.set b (.cells (c.setMany [.int k (x:Int)] j) l.length none),fun n=>?_,⟨c.setMany [.int k (x:Int)] j,?_,fun i y hi=>?_⟩,fun d hd=>?_⟩
 ·unfold rC
  rw[hy,sA];simp only[zA.asPtr,sA,zA.cells,zA.asAgg];rw[hs];have e1:Nat.beq (yB [zA.int k (x:Int)]) 1=true:=rfl
  rw[e1,lE];unfold eI vE;have e2:(!Nat.blt b C.base)=true:=by
   cases hq:Nat.blt b C.base with
   | true=>have:=vC.1 hq;omega
   | false=>rfl
  rw[e2,lE,h1,sA];simp only[rA.asCells,sA];have e3:Nat.ble (j+yB [zA.int k (x:Int)]) l.length=true:=kE.2 hj
  have e4:kB zA.one [zA.int k (x:Int)]=true:=rfl
  rw[e3,e4];rfl
 ·rw[Tr.get_set,yab rfl,ydh]
 ·rw[Tr.get_setMany]
  rw[ycw]at hi;split at hi
  ·rename_i e
   subst e;rw[yab (by simp)]
   cases hi;simp
  ·rename_i e
   rw[yaa (by simp;omega)]
   exact h2 i y hi
 ·rw[Tr.get_set,yaa hd]
def sV{T el:Nat}{y z:tC}(hT:C.tys.get T=some y)(hel:y.desc.asSlice=some el)(hz:C.tys.get el=some z)(hzero:z.zero=[.int k 0])(hs:z.size=1)(hby:z.bytes<=8){n:Nat}(hn:n<1000000)(hb:t.get b=none) :
  ∃t',fN C T (.int .i64 (n:Int)) (.int .i64 (n:Int)) ⟨b,t⟩=some (.slice b 0 n n,⟨b+1,t'⟩)/\rF t' b k (List.replicate n 0)/\dA t t'/\iD b t t':=by
 have hrep:∀n,gJ [zA.int k 0] n=List.replicate n (.int k 0):=by
  intro n;induction n with
  | zero=>rfl
  | succ n ih=>unfold gJ;rw[ih,iG,List.replicate_succ];rfl
 refine⟨t.set b (.cells (Tr.ofList (gJ z.zero n)) (yB (gJ z.zero n)) none),?_,⟨Tr.ofList (gJ z.zero n),?_,fun j x hj=>?_⟩,fun c y' hc=>?_,fun c hc=>?_⟩
 ·unfold fN
  rw[hT,sA,hel,sA,hz,sA];have e1:(zA.int .i64 (n:Int)).asNat=some n:=rfl
  rw[e1,sA,sA];have e2:(Nat.ble n n&&Nat.blt n 1000000&&Nat.blt (n*z.bytes) 1000000000&&Nat.beq (yB z.zero) z.size)=true:=by
   rw[hzero,hs,show Nat.ble n n=true from kE.2 (ybk n),vC.2 hn]
   have:n*z.bytes<1000000000:=by
    have:=ydb (Nat.le_of_lt hn) hby
    omega
   rw[vC.2 this];rfl
  rw[e2,lE];rfl
 ·rw[Tr.get_set,yab rfl,hzero,hrep,bC];simp
 ·rw[List.getElem?_replicate]at hj
  split at hj
  ·cases hj
   rw[Tr.get_ofList,hzero,hrep,List.getElem?_replicate];rename_i e;rw[yab e];rfl
  ·cases hj
 ·rw[Tr.get_set,yaa (by intro e;rw[e,hb]at hc;cases hc)];exact hc
 ·rw[Tr.get_set,yaa hc]
end
end
end Go.Am
namespace Go.Am
def val (B:Nat):List Nat->Nat
 | []=>0
 | a::l=>a+B*val B l
def jB(B:Nat)(l:List Nat):Prop:=∀x∈l,x<B
def norm (l:List Nat):Prop:=∀h:l≠[],l.getLast h≠0
def mT(B:Nat):∀(l m:List Nat),val B (l++m)=val B l+B^l.length*val B m
 | [],m=>by simp[val]
 | a::l,m=>by
  simp only[List.cons_append,val,mT B l m,ybn,yag];rw[ybm,<- ybj,ybh B (B^l.length)]
  omega
def bK{B:Nat}(hB:0<B):∀ {l:List Nat},jB B l->val B l<B^l.length
 | [],_=>by simp[val]
 | a::l,h=>by
  have h1:=h a (yby)
  have h2:=bK hB (l:=l) fun x hx=>h x (ybr _ hx)
  simp only[val,ybn,yag];have h3:B*(val B l+1)<=B*B^l.length:=ybv B h2
  rw[ybm,ybh B (B^l.length)]at h3
  omega
def nT(B:Nat)(l:List Nat)(n:Nat):val B l=val B (l.take n)+B^(l.take n).length*val B (l.drop n):=by
 rw[<- mT,List.take_append_drop]
def aR{B:Nat}{l:List Nat}(h:jB B l)(n:Nat):jB B (l.take n):=fun x hx=>h x (List.mem_of_mem_take hx)
def zhu{B:Nat}{l:List Nat}(h:jB B l)(n:Nat):jB B (l.drop n):=fun x hx=>h x (List.mem_of_mem_drop hx)
def zm9{B:Nat}{l m:List Nat}(h:jB B l)(k:jB B m):jB B (l++m):=fun x hx=>(yaf.1 hx).elim (h x) (k x)
def iE:List Nat->List Nat
 | []=>[]
 | a::l=>if iE l=[]/\a=0 then []else a::iE l
def jM(B:Nat):∀l:List Nat,val B (iE l)=val B l
 | []=>rfl
 | a::l=>by
  unfold iE;have ih:=jM B l
  split
  ·rename_i h
   rw[h.1]at ih;have:val B l=0:=by rw[<- ih];rfl
   simp[val,this,h.2]
  ·simp[val,ih]
def xQ:∀l:List Nat,norm (iE l)
 | []=>fun h=>(h rfl).elim
 | a::l=>by
  have ih:=xQ l
  unfold iE;split
  ·exact fun h=>(h rfl).elim
  ·rename_i h
   intro hne;by_cases hs:iE l=[]
   ·have ha:a≠0:=fun e=>h ⟨hs,e⟩
    simp[hs,ha]
   ·rw[List.getLast_cons hs];exact ih hs
def lQ{B:Nat}:∀ {l:List Nat},jB B l->jB B (iE l)
 | [],h=>h
 | a::l,h=>by
  have ih:=lQ (l:=l) fun x hx=>h x (ybr _ hx)
  unfold iE;split
  ·exact fun x hx=>(by cases hx)
  ·exact fun x hx=>(ybs.1 hx).elim (fun e=>e ▸ h a yby) (ih x)
def zda:∀l:List Nat,(iE l).length<=l.length
 | []=>ybk _
 | a::l=>by unfold iE;have:=zda l;split<;>simp<;>omega
def za3:∀l:List Nat,iE (l++[0])=iE l
 | []=>by simp[iE]
 | a::l=>by
  show(if iE (l++[0])=[]/\a=0 then []else a::iE (l++[0]))=_
  rw[za3 l];rfl
def bV:∀ {l:List Nat},norm l->iE l=l
 | [],_=>rfl
 | a::l,h=>by
  have hl:norm l:=by
   intro hne;have:=h (by simp)
   rw[List.getLast_cons hne]at this;exact this
  unfold iE;rw[bV hl];split
  ·rename_i e
   have:=h (by simp)
   obtain⟨rfl,rfl⟩:=e
   simp at this
  ·rfl
def cX{B:Nat}(hB:0<B){l:List Nat}(h:norm l)(h0:val B l=0):l=[]:=by
 have key:∀l:List Nat,val B l=0->∀x∈l,x=0:=by
  intro l;induction l with
  | nil=>intro _ x hx;cases hx
  | cons a l ih=>
   intro h x hx;simp only[val]at h;have ha:a=0:=by omega
   have hm:B*val B l=0:=by omega
   have hl:val B l=0:=by
    rcases Nat.mul_eq_zero.1 hm with e | e
    ·omega
    ·exact e
   rcases ybs.1 hx with rfl | hx
   ·exact ha
   ·exact ih hl x hx
 rcases List.eq_nil_or_concat l with e | ⟨m,a,e⟩
 ·exact e
 ·exfalso
  subst e;have:=h (by simp)
  simp at this;exact this (key _ h0 a (by simp))
def zv5{B:Nat}{l:List Nat}(h:norm l)(hne:l≠[]):B^(l.length-1)<=val B l:=by
 rcases List.eq_nil_or_concat l with e | ⟨m,a,e⟩
 ·exact absurd e hne
 ·rw[List.concat_eq_append]at e
  subst e;have:=h (by simp)
  simp at this;rw[mT];simp only[ybg,ybn,ybx,val];have:1<=a+B*0:=by omega
  calc B^(m.length+1-1)=B^m.length*1:=by simp
   _<=B^m.length*(a+B*0):=ybv _ this
   _<=_:=Nat.le_add_left _ _
def zv4{B:Nat}(hB:0<B):∀ {l m:List Nat},jB B l->jB B m->l.length=m.length->val B l=val B m->l=m
 | [],[],_,_,_,_=>rfl
 | a::l,b::m,h1,h2,hl,hv=>by
  have ha:=h1 a yby
  have hb:=h2 b yby
  simp only[val]at hv;have e1:a=b:=by
   have:=congrArg (· % B) hv
   simp only[Nat.add_mul_mod_self_left,Nat.mod_eq_of_lt ha,Nat.mod_eq_of_lt hb]at this;exact this
  subst e1;have e2:val B l=val B m:=by
   have:B*val B l=B*val B m:=by omega
   exact Nat.eq_of_mul_eq_mul_left hB this
  rw[zv4 hB (fun x hx=>h1 x (ybr _ hx)) (fun x hx=>h2 x (ybr _ hx)) (by simpa using hl) e2]
 | [],_::_,_,_,h,_=>by simp at h
 | _::_,[],_,_,h,_=>by simp at h
def gO{B:Nat}(hB:1<B){l m:List Nat}(h1:jB B l)(h3:norm m)(hv:val B m<=val B l):m.length<=l.length:=by
 by_cases hm:m=[]
 ·simp[hm]
 ·have a:=zv5 (B:=B) h3 hm
  have b:=bK (by omega) h1
  have:B^(m.length-1)<B^l.length:=by omega
  have:=(Nat.pow_lt_pow_iff_right hB).1 this
  omega
def z4l{B:Nat}(hB:1<B){l m:List Nat}(h1:jB B l)(h2:jB B m)(h3:norm l)(h4:norm m)(hv:val B l=val B m):l=m:=by
 have a:=gO hB h1 h4 (by omega)
 have b:=gO hB h2 h3 (by omega)
 exact zv4 (by omega) h1 h2 (by omega) hv
def bJ (a b:List Nat):Int:=if a.length≠b.length then(if a.length<b.length then -1 else 1)else go a b
where go:List Nat->List Nat->Int
 | a::l,b::m=>if go l m≠0 then go l m else if a<b then -1 else if b<a then 1 else 0
 | _,_=>0
def z1o{B:Nat}:∀ {a b:List Nat},jB B a->jB B b->a.length=b.length->(bJ.go a b<0 ↔ val B a<val B b)/\(bJ.go a b=0 ↔ val B a=val B b)
 | [],[],_,_,_=>by simp[bJ.go,val]
 | a::l,b::m,h1,h2,hl=>by
  have ha:=h1 a yby
  have hb:=h2 b yby
  obtain⟨i1,i2⟩:=z1o (a:=l) (b:=m) (fun x hx=>h1 x (ybr _ hx)) (fun x hx=>h2 x (ybr _ hx)) (by simpa using hl)
  have lt_of:∀ {x y:Nat},x<y->∀u v,u<B->u+B*x<v+B*y:=by
   intro x y h u v hu;have:B*(x+1)<=B*y:=ybv B h
   rw[ybm]at this;omega
  unfold bJ.go;simp only[val];by_cases h0:bJ.go l m=0
  ·have e:=i2.1 h0
   rw[yaa (by simpa using h0),e]
   by_cases c1:a<b
   ·rw[yab c1];constructor<;>constructor<;>intro h<;>omega
   ·rw[yaa c1]
    by_cases c2:b<a
    ·rw[yab c2];constructor<;>constructor<;>intro h<;>omega
    ·rw[yaa c2];constructor<;>constructor<;>intro h<;>omega
  ·rw[yab h0]
   constructor
   ·rw[i1]
    constructor
    ·intro h;exact lt_of h a b ha
    ·intro h
     rcases Nat.lt_trichotomy (val B l) (val B m)with g | g | g
     ·exact g
     ·exact absurd (i2.2 g) h0
     ·have:=lt_of g b a hb;omega
   ·constructor
    ·intro h;exact absurd h h0
    ·intro h
     rcases Nat.lt_trichotomy (val B l) (val B m)with g | g | g
     ·have:=lt_of g a b ha;omega
     ·exact i2.2 g
     ·have:=lt_of g b a hb;omega
 | [],_::_,_,_,h=>by simp at h
 | _::_,[],_,_,h=>by simp at h
def z1n{B:Nat}(hB:1<B){a b:List Nat}(h1:jB B a)(h2:jB B b)(h3:norm a)(h4:norm b):bJ a b<0 ↔ val B a<val B b:=by
 unfold bJ;by_cases hl:a.length=b.length
 ·rw[yaa (by simpa using hl)];exact(z1o h1 h2 hl).1
 ·rw[yab hl]
  by_cases hlt:a.length<b.length
  ·rw[yab hlt]
   refine⟨fun _=>?_,fun _=>by omega⟩
   rcases yau (val B a) (val B b)with g | g
   ·exact g
   ·have:=gO hB h1 h4 g;omega
  ·rw[yaa hlt]
   refine⟨fun h=>by omega,fun h=>?_⟩
   have:=gO hB h2 h3 (by omega);omega
end Go.Am
namespace Go.Am
open Go Go.RowKit
def bE{n:Int}(h1:0<=n)(h2:n<18446744073709551616):tA .u64 n=n:=by
 rw[cK];simp only[IntKind.wrap,IntKind.bits,IntKind.signed];simp;omega
def fQ{n:Int}(h1:0<=n)(h2:n<4294967296):tA .u32 n=n:=by
 rw[cK];simp only[IntKind.wrap,IntKind.bits,IntKind.signed];simp;omega
def z2u{n:Int}(h1:0<=n)(h2:n<65536):tA .u16 n=n:=by
 rw[cK];simp only[IntKind.wrap,IntKind.bits,IntKind.signed];simp;omega
def zv1{n:Int}(h1:0<=n)(h2:n<256):tA .u8 n=n:=by
 rw[cK];simp only[IntKind.wrap,IntKind.bits,IntKind.signed];simp;omega
def wS(n:Int):tA .u64 n=n%18446744073709551616:=by
 rw[cK];simp only[IntKind.wrap,IntKind.bits,IntKind.signed];simp
def kM(n:Int):tA .u32 n=n%4294967296:=by
 rw[cK];simp only[IntKind.wrap,IntKind.bits,IntKind.signed];simp
def zv0(n:Int):tA .u16 n=n%65536:=by
 rw[cK];simp only[IntKind.wrap,IntKind.bits,IntKind.signed];simp
def zse{k:IntKind}{x y:Nat}:iAnd k (x:Int) (y:Int)=gH Nat.land k (x:Int) (y:Int):=rfl
def vP{f:Nat->Nat->Nat}{k:IntKind}{x y:Nat}(h1:x<dF k)(h2:y<dF k):gH f k (x:Int) (y:Int)=some (.int k (f x y:Nat)):=by
 unfold gH;have e1:fJ (x:Int)=some x:=rfl
 have e2:fJ (y:Int)=some y:=rfl
 rw[e1,sA,e2,sA,vC.2 h1,vC.2 h2];rfl
def zjf{k:IntKind}{x y:Nat}(h0:0<y)(hw:tA k ((x / y:Nat):Int)=((x / y:Nat):Int)):z49 k (x:Int) (y:Int)=some (.int k ((x / y:Nat):Int)):=by
 unfold z49;have:jA (y:Int) 0=false:=by
  cases hq:jA (y:Int) 0 with
  | false=>rfl
  | true=>have:=(tQ _ _).1 hq;omega
 rw[this,cond_false,Int.tdiv_eq_ediv_of_nonneg (by omega)]
 rw[<- Int.natCast_ediv,hw]
def zcq{k:IntKind}{x y:Nat}(h0:0<y):zvu k (x:Int) (y:Int)=some (.int k ((x%y:Nat):Int)):=by
 unfold zvu;have:jA (y:Int) 0=false:=by
  cases hq:jA (y:Int) 0 with
  | false=>rfl
  | true=>have:=(tQ _ _).1 hq;omega
 rw[this,cond_false,Int.tmod_eq_emod_of_nonneg (by omega),<- Int.natCast_emod]
def mG{a b:Int}:(jA a b=true) ↔ a=b:=tQ a b
def bT{a b:Int}:((!jA a b)=true) ↔ a≠b:=by rw[ycp,<- Bool.not_eq_true,mG]
def zix{b:Bool}:((!b)=true) ↔ b=false:=by simp
def zgc{a b n:Nat}(h:b<2^n):Nat.lor (a*2^n) b=a*2^n+b:=by
 show a*2^n ||| b=_
 rw[<- Nat.shiftLeft_eq,<- Nat.shiftLeft_add_eq_or_of_lt h,Nat.shiftLeft_eq]
def or_low{a b n:Nat}(h:b<2^n)(ha:a%2^n=0):Nat.lor a b=a+b:=by
 obtain⟨c,hc⟩:=Nat.dvd_of_mod_eq_zero ha
 subst hc;rw[ybh];exact zgc h
def lA.idx{t:Tr rA}{C:oA}{T el:Nat}(h:oE C T el 1 false){k:IntKind}{l:List Nat}{v:zA}(hr:lA t 1 (iB k l) v){i x:Nat}(hi:l[i]?=some x) :
  ∃b off,qB C T v (.int .i64 (i:Int))=some (.ptr b off)/\mA C el ⟨0,t⟩ (.ptr b off)=some (.int k (x:Int)):=by
 obtain⟨b,off,cs,h1,h2,_,_,h5⟩:=oE.at h (fun _=>rfl) hr (z1e hi)
 rw[oM]at h5;subst h5;exact⟨b,off,h1,h2⟩
def rP(x:Nat)(n:Nat):Int.fdiv (x:Int) (n:Int)=((x / n:Nat):Int):=by
 rw[Int.fdiv_eq_ediv_of_nonneg _ (by omega)];exact(Int.natCast_ediv x n).symm
def getElem?_of_lt{l:List Nat}{i:Nat}(h:i<l.length):∃x,l[i]?=some x:=⟨l[i],ybd h⟩
def gI{B:Nat}{l:List Nat}(h:jB B l){i x:Nat}(hi:l[i]?=some x):x<B:=h x (ycv hi)
def zam{l:List Nat}(h:l≠[]):∃m x,l=m++[x]:=by
 rcases List.eq_nil_or_concat l with e | ⟨m,a,e⟩
 ·exact absurd e h
 ·exact⟨m,a,by rw[e,List.concat_eq_append]⟩
end Go.Am
namespace Go.Proofs
open Go Go.Am
variable [lC]
variable {t:Tr rA}
def zwk:∀(n:Nat) (l:List Nat) (v:zA),l.length=n->n<1125899906842624->lA t 1 (iB .u32 l) v->∃v',jp 212 2 [v] t (fun u m=>u=v'/\m=t)/\lA t 1 (iB .u32 (iE l)) v':=by
 intro n;induction n with
 | zero=>
  intro l v hl _ hv;have:l=[]:=ycc.1 hl
  subst this;refine⟨v,zz0 _ ?_,hv⟩
  simp only[zqw,qA,hv.len,wA,sB,nF,zD];rw[yaa (by simp)]
  simp
 | succ n ih=>
  intro l v hl hn hv;obtain⟨m,x,rfl⟩:=zam (l:=l) (by intro e;subst e;simp at hl)
  have hm:m.length=n:=by simpa using hl
  have hx:(m++[x])[m.length]?=some x:=by simp
  obtain⟨b,off,g1,g2⟩:=hv.idx fF hx
  obtain⟨u,g3,g4⟩:=oE.front fF hv (k:=m.length) (by simp[iB])
  rw[zhi]at g4;simp only[List.take_left']at g4;have e1:(((m++[x]).length:Nat):Int)-1=(m.length:Int):=by simp
  by_cases hx0:x=0
  ·subst hx0
   obtain⟨w,h1,h2⟩:=ih m u hm (by omega) g4
   refine⟨w,zz0 _ ?_,by rw[za3];exact h2⟩
   simp (disch:=omega) only[zqw,qA,hv.len,wA,sB,nF,zD,mG,wrap_i64,e1,g1,g2,g3]
   rw[yab (by simp),yab (by simp)]
   exact h1
  ·refine⟨v,zz0 _ ?_,?_⟩
   ·simp (disch:=omega) only[zqw,qA,hv.len,wA,sB,nF,zD,mG,wrap_i64,e1,g1,g2,g3]
    rw[yab (by simp),yaa (by simpa using hx0)]
    simp
   ·rw[bV]
    ·exact hv
    ·intro _;simpa using hx0
def iT{l:List Nat}{v:zA}(hl:l.length<1125899906842624)(hv:lA t 1 (iB .u32 l) v):∃v',uC yA F 212 [v] t=some v'/\lA t 1 (iB .u32 (iE l)) v':=by
 obtain⟨v',h1,h2⟩:=zwk _ l v rfl hl hv
 exact⟨v',mD.2 (w212 _ h1),h2⟩
def z59{a b:List Nat}{u v:zA}(hu:lA t 1 (iB .u32 a) u)(hv:lA t 1 (iB .u32 b) v)(hl:a.length=b.length):∀(n:Nat),n<=a.length->n<1125899906842624->jp 236 2 [u,v,.int .i64 ((n:Int)-1)] t (fun w m=>w=.int .i64 (bJ.go (a.take n) (b.take n))/\m=t):=by
 intro n;induction n with
 | zero=>
  intro _ _;refine z7x _ _ _ ?_
  simp only[zw7,qA,tG];rw[yaa (by omega)]
  simp[bJ.go]
 | succ n ih=>
  intro hn hn2;obtain⟨x,hx⟩:=getElem?_of_lt (l:=a) (i:=n) (by omega)
  obtain⟨y,hy⟩:=getElem?_of_lt (l:=b) (i:=n) (by omega)
  obtain⟨c,off,g1,g2⟩:=hu.idx fF hx
  obtain⟨d,off',g3,g4⟩:=hv.idx fF hy
  have e1:(((n+1:Nat):Int)-1)=(n:Int):=by omega
  have key:∀(a b:List Nat) (x y:Nat),a.length=b.length->bJ.go (a++[x]) (b++[y])=if x<y then -1 else if y<x then 1 else bJ.go a b:=by
   intro a;induction a with
   | nil=>
    intro b x y h;have:b=[]:=ycc.1 (by simpa using h.symm)
    subst this;simp[bJ.go]
   | cons p a ih=>
    intro b x y h
    cases b with
    | nil=>simp at h
    | cons q b=>
     simp only[List.cons_append,bJ.go];rw[ih b x y (by simpa using h)]
     by_cases c1:x<y
     ·simp[c1]
     ·by_cases c2:y<x
      ·simp[c1,c2]
      ·simp[c1,c2]
  have e2:bJ.go (a.take (n+1)) (b.take (n+1))=if x<y then -1 else if y<x then 1 else bJ.go (a.take n) (b.take n):=by
   rw[ydg,ydg,hx,hy];exact key _ _ _ _ (by simp;omega)
  rw[e1,e2];refine z7x _ _ _ ?_
  simp (disch:=omega) only[zw7,qA,wA,sB,zD,tG,bT,g1,g2,g3,g4,wrap_i64]
  rw[yab (by omega)]
  by_cases c0:x=y
  ·subst c0
   rw[yaa (by simp),yaa (by omega),yaa (by omega)]
   exact ih (by omega) (by omega)
  ·rw[yab (by omega)]
   by_cases c1:x<y
   ·rw[yab (by omega),yab c1];simp
   ·rw[yaa (by omega),yaa c1,yab (by omega)];simp
def z8h{a b:List Nat}{u v:zA}(ha:a.length<1125899906842624)(hu:lA t 1 (iB .u32 a) u)(hv:lA t 1 (iB .u32 b) v):uC yA F 236 [u,v] t=some (.int .i64 (bJ a b)):=by
 refine mD.2 (w236 _ _ ?_)
 simp (disch:=omega) only[t236,qA,hu.len,hv.len,wA,sB,nF,zD,bT,wrap_i64]
 unfold bJ;by_cases hl:a.length=b.length
 ·rw[yaa (by omega),yaa (by omega)]
  have:=z59 hu hv hl a.length (ybk _) ha
  rw[List.take_length,hl,List.take_length]at this;rw[hl];exact this
 ·rw[yab (by omega),yab hl]
  by_cases hlt:a.length<b.length
  ·rw[yab (by omega),yab hlt];simp
  ·rw[yaa (by omega),yaa hlt];simp
def jJ(neg:Bool)(l:List Nat):Bool:=if l=[]then !neg else decide (l.length<=1024)&&decide (l.getLast?≠some 0)
def zcf{neg:Bool}{l:List Nat}{v:zA}(hl:l.length<1125899906842624)(hv:lA t 1 (iB .u16 l) v):uC yA F 187 [.agg [.bool neg,v]] t=some (.bool (jJ neg l)):=by
 refine mD.2 (w187 _ _ ?_)
 unfold jJ;by_cases h0:l=[]
 ·subst h0
  simp only[t187,qA,hv.len,wA,sB,nF,mG];simp
 ·obtain⟨m,x,rfl⟩:=zam h0
  have hx:(m++[x])[m.length]?=some x:=by simp
  obtain⟨b,off,g1,g2⟩:=hv.idx z7a hx
  have e1:(((m++[x]).length:Nat):Int)-1=(m.length:Int):=by simp
  have hlm:m.length<1125899906842624:=by simp at hl;omega
  simp (disch:=omega) only[t187,qA,hv.len,wA,sB,nF,mG,tG,wrap_i64,e1,g1,g2]
  rw[yaa (by simp;omega),yaa h0]
  by_cases h1:(m++[x]).length<=1024
  ·rw[yab (by omega)]
   simp only[h1,decide_true,ycn];by_cases hx0:x=0
   ·subst hx0;simp[sQ]
   ·have:jA (x:Int) 0=false:=by
     cases hq:jA (x:Int) 0 with
     | false=>rfl
     | true=>have:=(tQ _ _).1 hq;omega
    simp[this,hx0]
  ·rw[yaa (by omega),decide_eq_false h1]
   simp
def zjb{neg:Bool}{l:List Nat}{v:zA}(hv:lA t 1 (iB .u16 l) v):uC yA F 188 [.agg [.bool neg,v]] t=some (.bool (!neg&&decide (l=[1]))):=by
 refine mD.2 (w188 _ _ ?_)
 cases neg with
 | true=>simp[t188,qA]
 | false=>
  simp only[t188,qA,hv.len,wA,sB,nF,mG];rw[yab (by rfl)]
  by_cases h1:l.length=1
  ·obtain⟨x,rfl⟩:∃x,l=[x]:=by
    cases l with
    | nil=>simp at h1
    | cons x r=>cases r with
     | nil=>exact⟨x,rfl⟩
     | cons y r=>simp at h1
   obtain⟨b,off,g1,g2⟩:=hv.idx z7a (i:=0) (x:=x) (by simp)
   simp only[Int.natCast_zero]at g1;rw[yab (by simp)]
   simp only[g1,g2,wA,sB];by_cases hx:x=1
   ·subst hx;simp[sQ]
   ·have:jA (x:Int) 1=false:=by
     cases hq:jA (x:Int) 1 with
     | false=>rfl
     | true=>have:=(tQ _ _).1 hq;omega
    simp[this,hx]
  ·rw[yaa (by omega)]
   have:l≠[1]:=by intro e;subst e;simp at h1
   simp[this]
end Go.Proofs
namespace Go.Am
def gF:List Nat->List Nat
 | []=>[]
 | [a]=>[a]
 | a::b::l=>(a+65536*b)::gF l
def zO:∀l:List Nat,(gF l).length=(l.length+1) / 2
 | []=>rfl
 | [a]=>by simp[gF]
 | a::b::l=>by simp[gF,zO l];omega
def zc5:∀l:List Nat,val 4294967296 (gF l)=val 65536 l
 | []=>rfl
 | [a]=>by simp[gF,val]
 | a::b::l=>by simp only[gF,val,zc5 l];omega
def tX:∀ {l:List Nat},jB 65536 l->jB 4294967296 (gF l)
 | [],_=>fun x hx=>(by cases hx)
 | [a],h=>fun x hx=>by
  have:=h a (by simp)
  have e:x=a:=by simpa[gF]using hx
  omega
 | a::b::l,h=>fun x hx=>by
  have h1:=h a (by simp)
  have h2:=h b (by simp)
  rcases ybs.1 hx with rfl | hx
  ·omega
  ·exact tX (l:=l) (fun y hy=>h y (by simp[hy])) x hx
def dX:∀ {l:List Nat},norm l->norm (gF l)
 | [],_=>fun h=>(h rfl).elim
 | [a],h=>by
  intro _;have:=h (by simp)
  simpa[gF]using this
 | [a,b],h=>by
  intro _;have:=h (by simp)
  simp at this;simp[gF];omega
 | a::b::c::l,h=>by
  intro _;have hn:norm (c::l):=by
   intro hne;have:=h (by simp)
   rw[List.getLast_cons (by simp),List.getLast_cons hne]at this
   exact this
  have hne:gF (c::l)≠[]:=by
   intro e;have:=congrArg List.length e
   rw[zO]at this;simp at this;omega
  have:=dX (l:=c::l) hn hne
  show((a+65536*b)::gF (c::l)).getLast _≠0
  rw[List.getLast_cons hne];exact this
def za9:∀(l:List Nat) (x:Nat),l.length%2=0->gF (l++[x])=gF l++[x]
 | [],x,_=>rfl
 | [a],x,h=>by simp at h
 | a::b::l,x,h=>by
  show(a+65536*b)::gF (l++[x])=(a+65536*b)::(gF l++[x])
  rw[za9 l x (by simp at h;omega)]
def zla:∀(l:List Nat) (a x:Nat),l.length%2=0->gF (l++[a,x])=gF l++[a+65536*x]
 | [],a,x,_=>rfl
 | [b],a,x,h=>by simp at h
 | c::b::l,a,x,h=>by
  show(c+65536*b)::gF (l++[a,x])=(c+65536*b)::(gF l++[a+65536*x])
  rw[zla l a x (by simp at h;omega)]
def qG:List Nat->List Nat
 | []=>[]
 | w::l=>w%65536::w / 65536::qG l
def fU:∀l:List Nat,(qG l).length=2*l.length
 | []=>rfl
 | w::l=>by simp[qG,fU l];omega
def zc4:∀l:List Nat,val 65536 (qG l)=val 4294967296 l
 | []=>rfl
 | w::l=>by
  simp only[qG,val,zc4 l];have:=ych w 65536
  omega
def za0:∀ {l:List Nat},jB 4294967296 l->jB 65536 (qG l)
 | [],_=>fun x hx=>(by cases hx)
 | w::l,h=>fun x hx=>by
  have h1:=h w (by simp)
  rcases ybs.1 hx with rfl | hx
  ·exact ycy _ (by decide)
  ·rcases ybs.1 hx with rfl | hx
   ·exact ycu (by omega)
   ·exact za0 (l:=l) (fun y hy=>h y (by simp[hy])) x hx
def eV:∀(l:List Nat) (w:Nat),qG (l++[w])=qG l++[w%65536,w / 65536]
 | [],w=>rfl
 | a::l,w=>by simp[qG,eV l w]
def zac{l:List Nat}{w:Nat}(hw:w≠0):iE (qG (l++[w]))=if w / 65536=0 then qG l++[w%65536]else qG (l++[w]):=by
 rw[eV];split
 ·rename_i h
  rw[h,show qG l++[w%65536,0]=(qG l++[w%65536])++[0] by simp,za3]
  refine bV fun _=>?_
  simp;omega
 ·rename_i h
  refine bV fun _=>?_
  simpa using h
end Go.Am
namespace Go.Proofs
open Go Go.Am
variable [lC]
variable {t:Tr rA}
def set_append_right{l m:List Nat}{i x:Nat}(h:l.length=i):(l++m).set i x=l++m.set 0 x:=by
 rw[List.set_append_right _ _ (by omega)];congr 1;congr 1;omega
def zyg{l:List Nat}{v:zA}{b:Nat}{Q:cB}(hv:lA t 1 (iB .u16 l) v)(hl:l.length<1000000)(hlt:jB 65536 l)(hbase:yA.base<=b)(hb:t.get b=none)
  (hQ:∀t' v',dA t t'->lA t' 1 (iB .u32 (gF l)) v'->Q v' t'):∀(k i:Nat) (t':Tr rA),i+k=l.length->dA t t'->rF t' b .u32 (gF (l.take i)++List.replicate ((l.length+1) / 2-(i+1) / 2) 0) →
  jp 190 2 [.slice b 0 ((l.length+1) / 2) ((l.length+1) / 2),v,.int .i64 l.length,.int .i64 i] t' Q:=by
 intro k;induction k with
 | zero=>
  intro i t' hi ht ho;refine z74 _ _ _ _ ?_
  simp only[zxd,qA,zD];rw[yaa (by omega)]
  rw[yca (by omega),show(l.length+1) / 2-(i+1) / 2=0 by omega,List.replicate_zero,ycd]at ho
  refine hQ _ _ ht ?_
  have:=ho.all (ybk _)
  rw[zO]at this;exact this
 | succ k ih=>
  intro i t' hi ht ho;obtain⟨x,hx⟩:=getElem?_of_lt (l:=l) (i:=i) (by omega)
  have hxlt:x<65536:=gI hlt hx
  obtain⟨c,off,g1,g2⟩:=(hv.mono ht).idx z7a hx
  have htake:l.take (i+1)=l.take i++[x]:=by rw[ydg,hx];rfl
  have hlen:(l.take i).length=i:=by simp;omega
  obtain⟨y,hy,hnew⟩:∃y,(gF (l.take i)++List.replicate ((l.length+1) / 2-(i+1) / 2) 0)[i / 2]?=some y/\y<4294967296/\Nat.lor y (x*2^(16*(i%2)))<4294967296 ∧
    (gF (l.take i)++List.replicate ((l.length+1) / 2-(i+1) / 2) 0).set (i / 2) (Nat.lor y (x*2^(16*(i%2))))=gF (l.take (i+1))++List.replicate ((l.length+1) / 2-(i+1+1) / 2) 0:=by
   rcases Nat.mod_two_eq_zero_or_one i with he | ho1
   ·have hp:(gF (l.take i)).length=i / 2:=by rw[zO,hlen];omega
    refine⟨0,?_,by decide,?_,?_⟩
    ·rw[ybp (by omega),hp,Nat.sub_self,List.getElem?_replicate,yab (by omega)]
    ·rw[he];simp;omega
    ·rw[set_append_right hp,he,htake,za9 _ _ (by rw[hlen];exact he)]
     have:Nat.lor 0 (x*2^(16*0))=x:=by show 0 ||| _=x;simp
     rw[this];obtain⟨r,hr⟩:∃r,(l.length+1) / 2-(i+1) / 2=r+1:=⟨(l.length+1) / 2-(i+1) / 2-1,by omega⟩
     rw[hr,List.replicate_succ,List.set_cons_zero,show(l.length+1) / 2-(i+1+1) / 2=r by omega]
     simp
   ·obtain⟨p,a,hpa⟩:=zam (l:=l.take i) (by intro e;rw[e]at hlen;simp at hlen;omega)
    have hpl:p.length=i-1:=by rw[hpa]at hlen;simp at hlen;omega
    have hpe:p.length%2=0:=by omega
    have ha:a<65536:=hlt a (List.mem_of_mem_take (by rw[hpa];simp:a∈l.take i))
    have hp:(gF p).length=i / 2:=by rw[zO,hpl];omega
    rw[hpa,za9 _ _ hpe];have hlor:Nat.lor a (x*2^(16*1))=a+65536*x:=by
     show a ||| x*2^(16*1)=_
     rw[Nat.or_comm];have:=zgc (a:=x) (b:=a) (n:=16) (by omega)
     show Nat.lor (x*2^16) a=_
     rw[this];omega
    refine⟨a,?_,by omega,?_,?_⟩
    ·rw[ybz,ybp (by omega),hp,Nat.sub_self];rfl
    ·rw[ho1,hlor];omega
    ·rw[ho1,hlor,ybz,set_append_right hp,htake,hpa,ybz]
     rw[show [a]++[x]=[a,x] from rfl,zla _ _ _ hpe,ybz];rw[show(l.length+1) / 2-(i+1+1) / 2=(l.length+1) / 2-(i+1) / 2 by omega]
     rfl
  obtain⟨hy1,hy2,hy3⟩:=hnew
  have hwlen:(gF (l.take i)++List.replicate ((l.length+1) / 2-(i+1) / 2) 0).length=(l.length+1) / 2:=by
   rw[ybg,zO,hlen,List.length_replicate];omega
  have g3:qB yA 244 (.slice b 0 ((l.length+1) / 2) ((l.length+1) / 2)) (.int .i64 ((i / 2:Nat):Int))=some (.ptr b (0+i / 2*1)):=vS fF (by omega)
  rw[show 0+i / 2*1=i / 2 by omega]at g3;have g4:=ho.load hy pG rfl
  obtain⟨t2,g5,g6,g7⟩:=ho.store (C:=yA) hbase (j:=i / 2) (by omega) (Nat.lor y (x*2^(16*(i%2)))) pG rfl
  rw[hy3]at g6;refine z74 _ _ _ _ ?_
  have e1:Int.tdiv (i:Int) 2=((i / 2:Nat):Int):=by rw[Int.tdiv_eq_ediv_of_nonneg (by omega)];rfl
  have e2:Int.tmod (i:Int) 2=((i%2:Nat):Int):=by rw[Int.tmod_eq_emod_of_nonneg (by omega)];rfl
  have hm:=ycy i (show 0<2 by decide)
  simp (disch:=omega) only[zxd,qA,zD,g1,g2,wA,sB,wrap_i64,fQ,e1,e2,g3,g4]
  rw[yab (by omega)]
  have e3:zz8 .u32 (x:Int) (16*((i%2:Nat):Int))=some (.int .u32 ((x*2^(16*(i%2)):Nat):Int)):=by
   rcases Nat.mod_two_eq_zero_or_one i with h | h<;>rw[h]
   ·simp[zz8,zdi,fJ]
    rw[fQ (by omega) (by omega)]
   ·have:zz8 .u32 (x:Int) (16*((1:Nat):Int))=some (.int .u32 (tA .u32 ((x:Int)*65536))):=rfl
    rw[this,fQ (by omega) (by omega)]
    simp
  rw[e3];have hb2:x*2^(16*(i%2))<4294967296:=by
   rcases Nat.mod_two_eq_zero_or_one i with h | h<;>rw[h]<;>omega
  simp only[wA,sB];rw[vP (show y<dF .u32 from hy1) (show x*2^(16*(i%2))<dF .u32 from hb2)]
  simp only[wA,sB];intro d _ _;rw[g5];simp only[wA];have:=ih (i+1) t2 (by omega) (ht.off hb g7) g6
  rw[show((i+1:Nat):Int)=(i:Int)+1 by omega]at this
  exact this
def zop{l:List Nat}{v:zA}{Q:cB}(hv:lA t 1 (iB .u16 l) v)(hl:l.length<1000000)(hlt:jB 65536 l)
  (hQ:∀t' v',dA t t'->lA t' 1 (iB .u32 (gF l)) v'->Q v' t'):Wc yA F 190 [v] t Q:=by
 refine w190 _ ?_
 have e1:Int.tdiv ((l.length:Int)+1) 2=(((l.length+1) / 2:Nat):Int):=by rw[Int.tdiv_eq_ediv_of_nonneg (by omega)];rfl
 simp (disch:=omega) only[t190,qA,hv.len,wA,sB,nF,wrap_i64,e1]
 intro b hb hbase;obtain⟨t',g1,g2,g3,_⟩:=sV (C:=yA) (k:=.u32) fL rfl pG rfl rfl (by decide) (n:=(l.length+1) / 2) (by omega) hb
 rw[g1];simp only[wA];exact zyg hv hl hlt hbase hb hQ l.length 0 t' (by omega) g3 (by simpa[gF]using g2)
end Go.Proofs
namespace Go.Proofs
open Go Go.Am
variable [lC]
variable {t:Tr rA}
def zwn{n:Nat}(h:n<4294967296):n / 2147483648=if n.testBit 31 then 1 else 0:=by
 have:n.testBit 31=decide (n / 2^31%2=1):=Nat.testBit_eq_decide_div_mod_eq
 rw[this];have h2:n / 2^31<2:=by omega
 by_cases c:n / 2^31%2=1
 ·rw[decide_eq_true c];simp;omega
 ·rw[decide_eq_false c];simp;omega
def zwm{n:Nat}(h:n<4294967296):n.testBit 31=decide (2147483648<=n):=by
 have:=zwn h
 by_cases c:2147483648<=n
 ·rw[decide_eq_true c]
  cases hb:n.testBit 31 with
  | true=>rfl
  | false=>rw[hb]at this;simp at this;omega
 ·rw[decide_eq_false c]
  cases hb:n.testBit 31 with
  | false=>rfl
  | true=>rw[hb]at this;simp at this;omega
def zkd{x:Nat}(h:x<4294967296):znw (.int .u32 (x:Int))=some (.int .u32 (Nat.xor 4294967295 x:Nat)):=by
 unfold znw;simp only[zA.asIntK,sA];have:Nat.beq (kLo .u32) 0=true:=rfl
 rw[this,lE];exact vP (k:=.u32) (x:=4294967295) (show 4294967295<dF .u32 by decide) (show x<dF .u32 from h)
def z3a{x y b:Nat}(hx:x<4294967296)(hy:y<4294967296)(hb:b<2) :
  uC yA F 254 [.int .u32 x,.int .u32 y,.int .u32 b] t=some (.tup [.int .u32 (((x+8589934592-y-b)%4294967296:Nat):Int),.int .u32 (((if x<y+b then 1 else 0):Nat):Int)]):=by
 refine mD.2 (w254 _ _ _ ?_)
 obtain⟨d,hd⟩:∃d,d=(x+8589934592-y-b)%4294967296:=⟨_,rfl⟩
 have hdl:d<4294967296:=by rw[hd];exact ycy _ (by decide)
 have e1:tA .u32 (tA .u32 ((x:Int)-y)-b)=(d:Int):=by
  rw[kM,kM,hd];omega
 have hn1:Nat.xor 4294967295 x<4294967296:=Nat.xor_lt_two_pow (n:=32) (by decide) hx
 have hn2:Nat.xor x y<4294967296:=Nat.xor_lt_two_pow (n:=32) hx hy
 have hn3:Nat.xor 4294967295 (Nat.xor x y)<4294967296:=Nat.xor_lt_two_pow (n:=32) (by decide) hn2
 have hn4:Nat.land (Nat.xor 4294967295 x) y<4294967296:=yam Nat.and_le_left hn1
 have hn5:Nat.land (Nat.xor 4294967295 (Nat.xor x y)) d<4294967296:=yam Nat.and_le_left hn3
 have hn6:Nat.lor (Nat.land (Nat.xor 4294967295 x) y) (Nat.land (Nat.xor 4294967295 (Nat.xor x y)) d)<4294967296:=Nat.or_lt_two_pow (n:=32) hn4 hn5
 simp only[t254,qA,e1];rw[zkd hx];simp only[wA,sB];rw[zse,vP (k:=.u32) hn1 hy]
 simp only[wA,sB];rw[vP (k:=.u32) hx hy]
 simp only[wA,sB];rw[zkd hn2];simp only[wA,sB];rw[zse,vP (k:=.u32) hn3 hdl]
 simp only[wA,sB];rw[vP (k:=.u32) hn4 hn5]
 simp only[wA,sB];have e2:Int.fdiv ((Nat.lor (Nat.land (Nat.xor 4294967295 x) y) (Nat.land (Nat.xor 4294967295 (Nat.xor x y)) d):Nat):Int) 2147483648=(((if x<y+b then 1 else 0):Nat):Int):=by
  rw[show(2147483648:Int)=((2147483648:Nat):Int) from rfl,rP,zwn hn6]
  congr 1
  have tb:(Nat.lor (Nat.land (Nat.xor 4294967295 x) y) (Nat.land (Nat.xor 4294967295 (Nat.xor x y)) d)).testBit 31=decide (x<y+b):=by
   show((4294967295 ^^^ x) &&& y ||| (4294967295 ^^^ (x ^^^ y)) &&& d).testBit 31=_
   rw[Nat.testBit_or,Nat.testBit_and,Nat.testBit_and,Nat.testBit_xor,Nat.testBit_xor,Nat.testBit_xor,zwm hx,zwm hy,zwm hdl];have:(4294967295:Nat).testBit 31=true:=by decide
   rw[this];by_cases c1:2147483648<=x<;>by_cases c2:2147483648<=y<;>by_cases c3:2147483648<=d<;>by_cases c4:x<y+b<;>simp only[c1,c2,c3,c4,decide_true,decide_false,Bool.xor_true,Bool.xor_false,Bool.true_xor,Bool.false_xor,Bool.not_true,ycl,Bool.and_true,yay,Bool.or_true,Bool.or_false,Bool.xor_self]<;>omega
  rw[tb];by_cases c:x<y+b
  ·simp[c]
  ·simp[c]
 rw[e2,hd];simp
def z6l{x y c:Nat}(hx:x<4294967296)(hy:y<4294967296)(hc:c<2) :
  uC yA F 260 [.int .u32 x,.int .u32 y,.int .u32 c] t=some (.tup [.int .u32 (((x+y+c)%4294967296:Nat):Int),.int .u32 (((x+y+c) / 4294967296:Nat):Int)]):=by
 refine mD.2 (w260 _ _ _ ?_)
 have e0:((x:Int)+y)+c=((x+y+c:Nat):Int):=by omega
 simp (disch:=omega) only[t260,qA,bE]
 have e1:((x+y+c:Nat):Int)%4294967296=(((x+y+c)%4294967296:Nat):Int):=by omega
 have e2:(((x+y+c) / 4294967296:Nat):Int)%4294967296=(((x+y+c) / 4294967296:Nat):Int):=by omega
 rw[e0,show Int.fdiv ((x+y+c:Nat):Int) 4294967296=(((x+y+c) / 4294967296:Nat):Int) from rP _ 4294967296,kM,kM,e1,e2]
 simp
def z5u{h l d:Nat}(hh:h<d)(hl:l<4294967296)(hd:d<4294967296) :
  uC yA F 211 [.int .u32 h,.int .u32 l,.int .u32 d] t=some (.tup [.int .u32 (((h*4294967296+l) / d:Nat):Int),.int .u32 (((h*4294967296+l)%d:Nat):Int)]):=by
 refine mD.2 (w211 _ _ _ ?_)
 simp only[t211,qA,bT,tG];rw[yab (by omega),yaa (by omega)]
 refine j211_7 _ _ _ ?_
 have e1:(h:Int)*4294967296=((h*4294967296:Nat):Int):=by omega
 have hq:(h*4294967296+l) / d<4294967296:=ycu (by
  have:(h+1)*4294967296<=d*4294967296:=ybi _ hh
  omega)
 have hr:(h*4294967296+l)%d<d:=ycy _ (by omega)
 simp (disch:=omega) only[z67,qA,bE,e1]
 have e2:gH Nat.lor .u64 ((h*4294967296:Nat):Int) (l:Int)=some (.int .u64 ((h*4294967296+l:Nat):Int)):=by
  rw[vP (k:=.u64) (show h*4294967296<dF .u64 by show _<18446744073709551616;omega) (show l<dF .u64 by show _<18446744073709551616;omega)]
  have:=zgc (a:=h) (b:=l) (n:=32) hl
  rw[show h*4294967296=h*2^32 by rfl,this]
 rw[e2];simp only[wA,sB];rw[zjf (k:=.u64) (by omega) (by
  generalize (h*4294967296+l) / d=q at hq ⊢
  exact bE (by omega) (by omega)),zcq (k:=.u64) (by omega)]
 simp only[wA,sB];generalize (h*4294967296+l) / d=q at hq ⊢
 generalize (h*4294967296+l)%d=r at hr ⊢
 rw[fQ (by omega) (by omega),fQ (by omega) (by omega)]
 simp
def z4u(v:Nat)(hv:v<256):∃k,k<9/\gC [0,1,2,2,3,3,3,3,4,4,4,4,4,4,4,4,5,5,5,5,5,5,5,5,5,5,5,5,5,5,5,5,6,6,6,6,6,6,6,6,6,6,6,6,6,6,6,6,6,6,6,6,6,6,6,6,6,6,6,6,6,6,6,6,7,7,7,7,7,7,7,7,7,7,7,7,7,7,7,7,7,7,7,7,7,7,7,7,7,7,7,7,7,7,7,7,7,7,7,7,7,7,7,7,7,7,7,7,7,7,7,7,7,7,7,7,7,7,7,7,7,7,7,7,7,7,7,7,8,8,8,8,8,8,8,8,8,8,8,8,8,8,8,8,8,8,8,8,8,8,8,8,8,8,8,8,8,8,8,8,8,8,8,8,8,8,8,8,8,8,8,8,8,8,8,8,8,8,8,8,8,8,8,8,8,8,8,8,8,8,8,8,8,8,8,8,8,8,8,8,8,8,8,8,8,8,8,8,8,8,8,8,8,8,8,8,8,8,8,8,8,8,8,8,8,8,8,8,8,8,8,8,8,8,8,8,8,8,8,8,8,8,8,8,8,8,8,8,8,8,8,8,8,8,8,8] v=some k/\(v=0/\k=0\/0<k/\2^(k-1)<=v/\v<2^k):=by
 have h:∀v:Fin 256,(gC [0,1,2,2,3,3,3,3,4,4,4,4,4,4,4,4,5,5,5,5,5,5,5,5,5,5,5,5,5,5,5,5,6,6,6,6,6,6,6,6,6,6,6,6,6,6,6,6,6,6,6,6,6,6,6,6,6,6,6,6,6,6,6,6,7,7,7,7,7,7,7,7,7,7,7,7,7,7,7,7,7,7,7,7,7,7,7,7,7,7,7,7,7,7,7,7,7,7,7,7,7,7,7,7,7,7,7,7,7,7,7,7,7,7,7,7,7,7,7,7,7,7,7,7,7,7,7,7,8,8,8,8,8,8,8,8,8,8,8,8,8,8,8,8,8,8,8,8,8,8,8,8,8,8,8,8,8,8,8,8,8,8,8,8,8,8,8,8,8,8,8,8,8,8,8,8,8,8,8,8,8,8,8,8,8,8,8,8,8,8,8,8,8,8,8,8,8,8,8,8,8,8,8,8,8,8,8,8,8,8,8,8,8,8,8,8,8,8,8,8,8,8,8,8,8,8,8,8,8,8,8,8,8,8,8,8,8,8,8,8,8,8,8,8,8,8,8,8,8,8,8,8,8,8,8,8] v.val).elim false (fun k=>decide (k<9)&&(decide (v.val=0)&&decide (k=0)||decide (0<k)&&decide (2^(k-1)<=v.val)&&decide (v.val<2^k)))=true:=by decide +kernel
 have hv:=h ⟨v,hv⟩
 simp only[]at hv;generalize gC _ v=r at hv ⊢
 cases r with
 | none=>simp at hv
 | some k=>
  simp only[Option.elim_some,ybb,ycq,decide_eq_true_eq]at hv;obtain⟨hk,hv⟩:=hv
  refine⟨k,hk,rfl,?_⟩
  rcases hv with hv | hv
  ·exact .inl hv
  ·exact .inr ⟨hv.1.1,hv.1.2,hv.2⟩
def BL (x k:Nat):Prop:=x=0/\k=0\/0<k/\2^(k-1)<=x/\x<2^k
def zls{x s:Nat}(hx:x<256)(hs:s<100):∃k,k<=8/\BL x k/\jp 258 15 [.int .u32 x,.int .i64 s] t (fun v m=>v=.int .i64 ((s+k:Nat):Int)/\m=t):=by
 obtain⟨k,hk,h1,h2⟩:=z4u x hx
 refine⟨k,by omega,h2,zzag _ _ ?_⟩
 simp (disch:=omega) only[zwx,qA,zv1]
 unfold sJ;rw[ty9,sA];have:(zA.int .u8 (x:Int)).asNat=some x:=rfl
 rw[this,sA];simp only[zA.asStr];rw[show(tC.desc ⟨.string,1,16,[.str []],true⟩).isString=true from rfl,lE]
 rw[h1,sA];simp only[wA];rw[show zzan .u8 (.int .u8 (Int.ofNat k))=some (Int.ofNat k) from sB]
 simp only[wA];rw[show Int.ofNat k=(k:Int) from rfl]
 simp (disch:=omega) only[wrap_i64]
 simp
def zlr{x s:Nat}(hx:x<65536)(hs:s<90):∃k,k<=16/\BL x k/\jp 258 9 [.int .u32 x,.int .i64 s] t (fun v m=>v=.int .i64 ((s+k:Nat):Int)/\m=t):=by
 by_cases h:256<=x
 ·obtain⟨k,h1,h2,h3⟩:=zls (t:=t) (x:=x / 256) (s:=s+8) (by omega) (by omega)
  refine⟨k+8,by omega,?_,z7q _ _ ?_⟩
  ·rcases h2 with h2 | ⟨g1,g2,g3⟩
   ·omega
   ·refine .inr ⟨by omega,?_,?_⟩
    ·rw[show k+8-1=(k-1)+8 by omega,Nat.pow_add];omega
    ·rw[Nat.pow_add];omega
  ·simp (disch:=omega) only[zww,qA,tG,wrap_i64]
   rw[yab (by omega),show(256:Int)=((256:Nat):Int) from rfl,rP,show(s:Int)+8=((s+8:Nat):Int) by omega]
   rw[show s+(k+8)=s+8+k by omega]
   exact h3
 ·obtain⟨k,h1,h2,h3⟩:=zls (t:=t) (x:=x) (s:=s) (by omega) (by omega)
  refine⟨k,by omega,h2,z7q _ _ ?_⟩
  simp only[zww,qA,tG];rw[yaa (by omega)]
  exact h3
def z4v{x:Nat}(hx:x<4294967296):∃k,k<=32/\BL x k/\uC yA F 258 [.int .u32 x] t=some (.int .i64 (k:Int)):=by
 by_cases h:65536<=x
 ·obtain⟨k,h1,h2,h3⟩:=zlr (t:=t) (x:=x / 65536) (s:=16) (by omega) (by omega)
  refine⟨k+16,by omega,?_,mD.2 (w258 _ ?_)⟩
  ·rcases h2 with h2 | ⟨g1,g2,g3⟩
   ·omega
   ·refine .inr ⟨by omega,?_,?_⟩
    ·rw[show k+16-1=(k-1)+16 by omega,Nat.pow_add];omega
    ·rw[Nat.pow_add];omega
  ·simp only[t258,qA,tG]
   rw[yab (by omega),show(65536:Int)=((65536:Nat):Int) from rfl,rP]
   rw[show k+16=16+k by omega];exact h3
 ·obtain⟨k,h1,h2,h3⟩:=zlr (t:=t) (x:=x) (s:=0) (by omega) (by omega)
  refine⟨k,by omega,h2,mD.2 (w258 _ ?_)⟩
  simp only[t258,qA,tG];rw[yaa (by omega)]
  rw[ybw]at h3;exact h3
def zy2{x:Nat}(hx:x<4294967296)(h0:0<x):∃s:Nat,s<32/\2147483648<=x*2^s/\x*2^s<4294967296/\uC yA F 249 [.int .u32 x] t=some (.int .i64 (s:Int)):=by
 obtain⟨k,h1,h2,h3⟩:=z4v (t:=t) hx
 rcases h2 with h2 | ⟨g1,g2,g3⟩
 ·omega
 ·refine⟨32-k,by omega,?_,?_,mD.2 (w249 _ ?_)⟩
  ·have:2^(k-1)*2^(32-k)=2147483648:=by rw[<- Nat.pow_add,show k-1+(32-k)=31 by omega]
   rw[<- this];exact ybi _ g2
  ·have:2^k*2^(32-k)=4294967296:=by rw[<- Nat.pow_add,show k+(32-k)=32 by omega]
   rw[<- this];exact Nat.mul_lt_mul_of_pos_right g3 (Nat.pow_pos (Nat.succ_pos 1))
  ·simp (disch:=omega) only[t249,qA,q258,h3,wA,sB,wrap_i64]
   refine⟨?_,trivial⟩
   congr 1;omega
end Go.Proofs
namespace Go.Am
def nX{p:List Nat}{n x:Nat}:(p++List.replicate (n+1) 0).set p.length x=(p++[x])++List.replicate n 0:=by
 rw[List.set_append_right _ _ (ybk _),Nat.sub_self,List.replicate_succ,List.set_cons_zero];simp
def pL(B:Nat)(l:List Nat)(x:Nat):val B (l++[x])=val B l+B^l.length*x:=by rw[mT];simp[val]
def wT{B:Nat}{l:List Nat}{x:Nat}(h:jB B l)(hx:x<B):jB B (l++[x]):=zm9 h fun y hy=>by rw[ydd.1 hy];exact hx
def ztp{B:Nat}{r w d:Nat}(hr:r<d)(hw:w<B):(r*B+w) / d<B:=by
 have hd:0<d:=by omega
 refine ycu ?_
 have:(r+1)*B<=d*B:=ybi B hr
 rw[ybo]at this;omega
def tS{l:List Nat}{i x:Nat}(h:l[i]?=some x):l.take (i+1)=l.take i++[x]:=by rw[ydg,h];rfl
def uJ{l:List Nat}{i x:Nat}(h:l[i]?=some x):l.drop i=x::l.drop (i+1):=by
 have hi:=(ybc.1 h)
 rw[ybl hi.1,hi.2]
end Go.Am
namespace Go.Am
open Go Go.RowKit
section
variable {t:Tr rA}{C:oA}
def zy1{c:Tr zA}{sz:Nat}:∀(cl:List (List zA)) (off:Nat),(∀(i:Nat) cs,cl[i]?=some cs->cs.length=sz/\∀(j:Nat) a,cs[j]?=some a->c.get (off+i*sz+j)=some a)->c.many (cl.length*sz) off=some cl.flatten:=by
 intro cl;induction cl with
 | nil=>intro off _;simp;rfl
 | cons cs cl ih=>
  intro off h;obtain⟨h1,h2⟩:=h 0 cs (by simp)
  have hrest:=ih (off+sz) fun i cs' hi=>by
   obtain⟨g1,g2⟩:=h (i+1) cs' (by simpa using hi)
   refine⟨g1,fun j a hj=>?_⟩
   have:=g2 j a hj
   rw[show off+sz+i*sz+j=off+(i+1)*sz+j by rw[ybo];omega]
   exact this
  have key:∀(n:Nat) (l r:List zA) (off:Nat),l.length=n->(∀(j:Nat) a,l[j]?=some a->c.get (off+j)=some a)->∀m,c.many m (off+n)=some r->c.many (n+m) off=some (l++r):=by
   intro n;induction n with
   | zero=>
    intro l r off hl _ m hm;have:l=[]:=ycc.1 hl
    subst this;simpa using hm
   | succ n ihn=>
    intro l r off hl hg m hm
    cases l with
    | nil=>simp at hl
    | cons a l=>
     rw[show n+1+m=(n+m)+1 by omega,Tr.many_succ]
     have:=hg 0 a (by simp)
     rw[yct]at this;rw[this,sA,ihn l r (off+1) (by simpa using hl) (fun j b hj=>by
      have:=hg (j+1) b (by simpa using hj)
      rw[show off+1+j=off+(j+1) by omega];exact this) m (by rw[show off+1+n=off+(n+1) by omega];exact hm)]
     rfl
  rw[yas,ybn,ybo,Nat.one_mul,yap];exact key sz cs _ off h1 (fun j a hj=>by have:=h2 j a hj;rw[Nat.zero_mul,yct]at this;exact this) _ hrest
def mJ.first{sz:Nat}{v:zA}{cl:List (List zA)}(h:mJ t sz v cl){n:Nat}:sO ⟨n,t⟩ sz cl.length v=some cl.flatten/\nS v=some cl.length:=by
 rcases h with⟨rfl,rfl⟩ | ⟨b,off,cap,rfl,_,⟨c,m,lo,h1,_⟩,h2⟩
 ·exact⟨rfl,rfl⟩
 ·refine⟨?_,rfl⟩
  unfold sO;simp only[zA.asSlice];unfold vE;rw[h1,sA];simp only[rA.asCells,sA];refine zy1 cl off fun i cs hi=>?_
  obtain⟨g1,c',m',lo',g2,g3⟩:=h2 i cs hi
  rw[h1]at g2
  cases g2
  exact⟨g1,g3⟩
def uU{sz:Nat}:∀ {cl:List (List zA)},(∀(i:Nat) cs,cl[i]?=some cs->cs.length=sz)->cl.flatten.length=cl.length*sz:=by
 intro cl;induction cl with
 | nil=>intro _;simp
 | cons c cl ih=>
  intro h;rw[yas,ybg,ybn,ybo,ih fun i cs hi=>h (i+1) cs (by simpa using hi),h 0 c (by simp)]
  omega
def rN{sz:Nat}:∀ {cl:List (List zA)},(∀(i:Nat) cs,cl[i]?=some cs->cs.length=sz)->∀(i j:Nat) cs a,cl[i]?=some cs->cs[j]?=some a->cl.flatten[i*sz+j]?=some a:=by
 intro cl;induction cl with
 | nil=>intro _ i j cs a h;simp at h
 | cons c cl ih=>
  intro h i j cs a hi hj;have hc:=h 0 c (by simp)
  rw[yas]
  cases i with
  | zero=>
   simp at hi;subst hi;rw[Nat.zero_mul,ybw,yco (ybc.1 hj).1]
   exact hj
  | succ i=>
   rw[ybp (by rw[hc,ybo];omega),hc,show(i+1)*sz+j-sz=i*sz+j by rw[ybo];omega]
   exact ih (fun i cs hi=>h (i+1) cs (by simpa using hi)) i j cs a (by simpa using hi) hj
def mJ.len{sz:Nat}{v:zA}{cl:List (List zA)}(h:mJ t sz v cl):∀(i:Nat) cs,cl[i]?=some cs->cs.length=sz:=by
 rcases h with⟨rfl,rfl⟩ | ⟨b,off,cap,rfl,_,_,h2⟩
 ·intro i cs hi;simp at hi
 ·exact fun i cs hi=>(h2 i cs hi).1
def zas{sz n:Nat}{cl:List (List zA)}{t':Tr rA}{lo:Option Lo}(hl:∀(i:Nat) cs,cl[i]?=some cs->cs.length=sz)(h:t'.get n=some (.cells (Tr.ofList cl.flatten) (yB cl.flatten) lo))(hlo:lo=none\/∃x,lo=some x/\x.es=sz):mJ t' sz (.slice n 0 cl.length cl.length) cl:=
 .inr ⟨n,0,cl.length,rfl,ybk _,⟨_,_,_,h,hlo⟩,fun i cs hi=>⟨hl i cs hi,_,_,_,h,fun j a hj=>by
  rw[Tr.get_ofList,ybw];exact rN hl i j cs a hi hj⟩⟩
def NB (C:oA)(el:Nat):Prop:=∀y,C.tys.get el=some y->zz5 y=false
def NB.code{el:Nat}{z:tC}(h:NB C el)(hz:C.tys.get el=some z):oI el z=.sz z.size:=by
 unfold oI;rw[h z hz,yay];rfl
structure zvo (C:oA) (T el sz:Nat):Prop where
 ty:∃y,C.tys.get T=some y/\y.desc.asSlice=some el/\Nat.beq y.desc.tag 1=false
 el:∃y,C.tys.get el=some y/\y.size=sz/\yB y.zero=sz/\y.bytes<=500/\0<sz
structure wK (C:oA) (T e sz:Nat):Prop where
 ty:∃y,C.tys.get T=some y/\y.desc.asSlice=some e/\Nat.beq y.desc.tag 1=false
 el:∃y,C.tys.get e=some y/\y.size=sz/\yB y.zero=sz/\y.bytes<=500/\0<sz
 nb:NB C e
def zp9{T el sz:Nat}(hT:wK C T el sz){l:List D}{x s:zA}(hx:lA t sz l x)(hl:l.length<1000000){n:Nat}(hn:t.get n=none)
  (hs:s=.nilslice\/∃b c m,s=.slice b 0 0 0/\t.get b=some (.cells c m none)) :
  ∃v H',pF C T T s x ⟨n,t⟩=some (v,H')/\lA H'.t sz l v/\dA t H'.t/\iD n t H'.t:=by
 obtain⟨⟨y,hy1,hy2,hy3⟩,⟨z,hz1,hz2,hz3,hz4,hz5⟩,hnb⟩:=hT
 have hcode:=NB.code hnb hz1
 obtain⟨cl,he,hd⟩:=hx
 have hcl:=hd.length
 obtain⟨hf,hlen⟩:=he.first (n:=n)
 have hall:=he.len
 have base:pF C T T s x ⟨n,t⟩=(match s.asSlice with
  | some s=>bif Nat.ble (s.2.2.1+cl.length) s.2.2.2 then dS C ⟨n,t⟩ z cl.length cl.flatten s else rR C ⟨n,t⟩ el z cl.length cl.flatten s
  | none=>cA (Nat.beq s.tag 5) (uM ⟨n,t⟩ el z cl.length cl.flatten)):=by
  unfold pF kP;rw[hy1,sA,sA,hy3];simp only[ycl,lE];rw[hy2,sA,hz1,sA,hlen,sA,hz2,hf,sA];rfl
 have hfl:yB cl.flatten=cl.length*sz:=by rw[bC];exact uU hall
 have ok:sP z 0 0 cl.length cl.flatten=true:=by
  unfold sP;have h1:Nat.blt (0+cl.length+0) 1000000000=true:=vC.2 (by omega)
  have h2:Nat.blt ((0+cl.length+0)*z.bytes) 1000000000=true:=vC.2 (by
   have:=ydb (show 0+cl.length+0<=1000000 by omega) hz4
   omega)
  have h3:Nat.blt z.bytes 1000000000=true:=vC.2 (by omega)
  have h4:(!Nat.beq z.size 0)=true:=by
   cases hq:Nat.beq z.size 0 with
   | true=>have:=fB.1 hq;omega
   | false=>rfl
  have h5:Nat.beq (yB cl.flatten) (cl.length*z.size)=true:=by rw[hfl,hz2];exact fB.2 rfl
  have h6:Nat.beq (yB z.zero) z.size=true:=by rw[hz3,hz2];exact fB.2 rfl
  rw[h1,h2,h3,h4,h5,h6];rfl
 have newT:∀(q:rA),dA t (t.set n q)/\iD n t (t.set n q):=fun q=>⟨fun c u hc=>by
   rw[Tr.get_set,yaa (by intro e;rw[e,hn]at hc;cases hc)];exact hc,fun c hc=>by rw[Tr.get_set,yaa hc]⟩
 rcases hs with rfl | ⟨b,c,m,rfl,hb⟩
 ·by_cases h0:cl.length=0
  ·have:cl=[]:=ycc.1 h0
   subst this;refine⟨.nilslice,⟨n,t⟩,?_,⟨[],.inl ⟨rfl,rfl⟩,hd⟩,dA.refl _,iD.refl _ _⟩
   rw[base];rfl
  ·refine⟨.slice n 0 cl.length cl.length,⟨n+1,t.set n (.cells (Tr.ofList cl.flatten) (yB cl.flatten) (some (oI el z)))⟩,?_,⟨cl,zas hall (show(t.set n _).get n=_ by rw[Tr.get_set,yab rfl]) (.inr ⟨_,rfl,by rw[oU,hz2]⟩),sC.mono (newT _).1 _ _ hd⟩,(newT _).1,(newT _).2⟩
   rw[base];simp only[zA.asSlice];show cA true (uM ⟨n,t⟩ el z cl.length cl.flatten)=_
   rw[lE];unfold uM;have:Nat.beq cl.length 0=false:=by
    cases hq:Nat.beq cl.length 0 with
    | true=>exact absurd (fB.1 hq) h0
    | false=>rfl
   rw[this,cond_false,ok];rfl
 ·by_cases h0:cl.length=0
  ·have:cl=[]:=ycc.1 h0
   subst this;refine⟨.slice b 0 0 0,⟨n,t⟩,?_,⟨[],.inr ⟨b,0,0,rfl,ybk _,⟨c,m,none,hb,.inl rfl⟩,fun i cs hi=>by simp at hi⟩,hd⟩,dA.refl _,iD.refl _ _⟩
   rw[base];rfl
  ·refine⟨.slice n 0 cl.length cl.length,⟨n+1,t.set n (.cells (Tr.ofList cl.flatten) (yB cl.flatten) (some (oI el z)))⟩,?_,⟨cl,zas hall (show(t.set n _).get n=_ by rw[Tr.get_set,yab rfl]) (.inr ⟨_,rfl,by rw[oU,hz2]⟩),sC.mono (newT _).1 _ _ hd⟩,(newT _).1,(newT _).2⟩
   rw[base];simp only[zA.asSlice];have:Nat.ble (0+cl.length) 0=false:=by
    cases hq:Nat.ble (0+cl.length) 0 with
    | true=>have:=kE.1 hq;omega
    | false=>rfl
   rw[this,cond_false];unfold rR;simp only[];rw[show ∀x,(!(Nat.beq 0 1&&x))=true from fun _=>rfl,lE,ok,lE]
   unfold vE;rw[hb,sA];simp only[rA.asCells,sA];unfold qV;simp only[Nat.zero_mul];show ob (c.many 0 0) _=_
   rw[show c.many 0 0=some [] from rfl,sA];rw[iG,yah,ybw];rfl
end
end Go.Am
namespace Go.Proofs
open Go Go.Am
variable [lC]
variable {t:Tr rA}
def el305:wK yA 244 246 1:=⟨⟨_,fL,rfl,rfl⟩,⟨_,pG,rfl,rfl,by decide,by decide⟩,fun y h=>by rw[pG]at h;cases h;rfl⟩
def lit0{T el:Nat}{y z:tC}(hT:yA.tys.get T=some y)(hel:y.desc.asSlice=some el)(hz:yA.tys.get el=some z)(hs:yB z.zero=z.size){b:Nat}(hb:t.get b=none) :
  ∃H',cH yA T 0 [] ⟨b,t⟩=some (.slice b 0 0 0,H')/\(∃c,H'.t.get b=some (.cells c 0 none))/\dA t H'.t:=by
 refine⟨mE ⟨b,t⟩ [] none,?_,⟨Tr.ofList [],?_⟩,?_⟩
 ·unfold cH
  rw[hT,sA,hel,sA,hz,sA];have:(Nat.blt (0*z.size) 1000000&&Nat.beq (yB z.zero) z.size)=true:=by rw[Nat.zero_mul,hs,fB.2 rfl];rfl
  rw[this];rfl
 ·show(t.set b _).get b=_
  rw[Tr.get_set,yab rfl];rfl
 ·intro c u hc
  show(t.set b _).get c=_
  rw[Tr.get_set,yaa (by intro e;rw[e,hb]at hc;cases hc)];exact hc
def z6a{l:List Nat}{v:zA}{Q:cB}(hv:lA t 1 (iB .u32 l) v)(hl:l.length<1000000)
  (hQ:∀t' v',dA t t'->lA t' 1 (iB .u32 l) v'->Q v' t'):Wc yA F 251 [v] t Q:=by
 refine w251 _ ?_
 have e:(binA .eql).f yA 244 (.tmp 3) (.const (.slice none 0 0)) v .nilslice=some (.bool (Nat.beq v.tag 5)):=by
  obtain⟨cl,h1,_⟩:=hv
  rcases h1 with⟨rfl,_⟩ | ⟨b,off,cap,rfl,_⟩
  ·kernel_rfl
  ·kernel_rfl
 simp only[t251,qA,e,wA,pO];split
 ·rename_i h
  have:v=.nilslice:=(bP.2.1).1 (fB.1 h)
  subst this;exact hQ _ _ (dA.refl _) hv
 ·intro b hb hbase
  obtain⟨H1,g1,⟨c,g2⟩,g3⟩:=lit0 (t:=t) fL rfl pG rfl hb
  rw[g1];simp only[wA];intro n hn _;obtain⟨u,H',g4,g5,g6,_⟩:=zp9 el305 (hv.mono g3) (by rw[nF];exact hl) hn (.inr ⟨b,c,0,rfl,g2⟩)
  rw[g4];simp only[wA];exact hQ _ _ (g3.trans g6) g5
def zgb(n:Nat):List Nat:=iE [n%4294967296,n / 4294967296]
def zs9(n:Nat):val 4294967296 (zgb n)=n:=by unfold zgb;rw[jM];simp only[val];omega
def zm8{n:Nat}(h:n<18446744073709551616):jB 4294967296 (zgb n):=lQ fun x hx=>by
 simp at hx;omega
def zow(n:Nat):norm (zgb n):=xQ _
def zo1{T el:Nat}{y z:tC}{k:IntKind}(hT:yA.tys.get T=some y)(hel:y.desc.asSlice=some el)(hz:yA.tys.get el=some z)(hzero:z.zero=[.int k 0])(hs:z.size=1)(x:Nat)(hk:True){b:Nat}(hb:t.get b=none) :
  ∃H',cH yA T 1 [(0,.int k (x:Int))] ⟨b,t⟩=some (.slice b 0 1 1,H')/\rF H'.t b k [x]/\dA t H'.t:=by
 refine⟨mE ⟨b,t⟩ [.int k (x:Int)] none,?_,⟨Tr.ofList [.int k (x:Int)],?_,fun j u hj=>?_⟩,?_⟩
 ·unfold cH
  rw[hT,sA,hel,sA,hz,sA,hs,hzero];rfl
 ·show(t.set b _).get b=_
  rw[Tr.get_set,yab rfl];rfl
 ·rw[Tr.get_ofList]
  cases j with
  | zero=>simp at hj;subst hj;rfl
  | succ j=>simp at hj
 ·intro c u hc
  show(t.set b _).get c=_
  rw[Tr.get_set,yaa (by intro e;rw[e,hb]at hc;cases hc)];exact hc
def z4r{T el:Nat}{y z:tC}{k:IntKind}(hT:yA.tys.get T=some y)(hel:y.desc.asSlice=some el)(hz:yA.tys.get el=some z)(hzero:z.zero=[.int k 0])(hs:z.size=1)(x x':Nat){b:Nat}(hb:t.get b=none) :
  ∃H',cH yA T 2 [(0,.int k (x:Int)),(1,.int k (x':Int))] ⟨b,t⟩=some (.slice b 0 2 2,H')/\rF H'.t b k [x,x']/\dA t H'.t:=by
 refine⟨mE ⟨b,t⟩ [.int k (x:Int),.int k (x':Int)] none,?_,⟨Tr.ofList [.int k (x:Int),.int k (x':Int)],?_,fun j u hj=>?_⟩,?_⟩
 ·unfold cH
  rw[hT,sA,hel,sA,hz,sA,hs,hzero];rfl
 ·show(t.set b _).get b=_
  rw[Tr.get_set,yab rfl];rfl
 ·rw[Tr.get_ofList]
  cases j with
  | zero=>simp at hj;subst hj;rfl
  | succ j=>
   cases j with
   | zero=>simp at hj;subst hj;rfl
   | succ j=>simp at hj
 ·intro c u hc
  show(t.set b _).get c=_
  rw[Tr.get_set,yaa (by intro e;rw[e,hb]at hc;cases hc)];exact hc
def z3p{n:Nat}{Q:cB}(hn:n<18446744073709551616)(hQ:∀t' v',dA t t'->lA t' 1 (iB .u32 (zgb n)) v'->Q v' t'):Wc yA F 241 [.int .u64 n] t Q:=by
 refine w241 _ ?_
 have e1:tA .u32 (n:Int)=((n%4294967296:Nat):Int):=by rw[kM];omega
 have e2:tA .u32 (Int.fdiv (n:Int) 4294967296)=((n / 4294967296:Nat):Int):=by
  rw[show Int.fdiv (n:Int) 4294967296=((n / 4294967296:Nat):Int) from rP _ 4294967296,fQ (by omega) (by omega)]
 simp only[t241,qA,e1,e2];intro b hb _;obtain⟨H',g1,g2,g3⟩:=z4r (t:=t) (k:=.u32) fL rfl pG rfl rfl (n%4294967296) (n / 4294967296) hb
 rw[g1];simp only[wA];obtain⟨v',h1,h2⟩:=iT (l:=[n%4294967296,n / 4294967296]) (by simp) (g2.all (ybk _))
 simp only[q212];have h1:uC yA F 212 [.slice b 0 2 2] H'.t=some v':=h1
 rw[h1];exact hQ _ _ g3 h2
def znv{l:List Nat}{v:zA}{b:Nat}{neg:Bool}{Q:cB}(hv:lA t 1 (iB .u32 l) v)(hl:l.length<400000)(hlt:jB 4294967296 l)(hne:l≠[])(hnorm:norm l)(hbase:yA.base<=b)(hb:t.get b=none)
  (hQ:∀t' v',dA t t'->lA t' 1 (iB .u16 (iE (qG l))) v'->Q (.agg [.bool neg,v']) t'):∀(k i:Nat) (t':Tr rA),i+k=l.length->dA t t'->rF t' b .u16 (qG (l.take i)++List.replicate (2*k) 0) →
  jp 225 2 [.bool neg,.slice b 0 (2*l.length) (2*l.length),v,.int .i64 l.length,.int .i64 i,.bool false,.nilslice] t' Q:=by
 intro k;induction k with
 | zero=>
  intro i t' hi ht ho;refine z7y _ _ _ _ _ _ _ ?_
  rw[yca (by omega),yat,List.replicate_zero,ycd]at ho
  obtain⟨m,w,rfl⟩:=zam hne
  have hw:w≠0:=by have:=hnorm (by simp);simpa using this
  have hwlt:w<4294967296:=hlt w (by simp)
  have hul:(qG (m++[w])).length=2*(m++[w]).length:=fU _
  have hml:(m++[w]).length=m.length+1:=by simp
  have hlast:(qG (m++[w]))[2*m.length+1]?=some (w / 65536):=by
   rw[eV,ybp (by rw[fU];omega),fU]
   rw[show 2*m.length+1-2*m.length=1 by omega];rfl
  have hread:=ho.all (cap:=2*(m++[w]).length) (by omega)
  rw[hul]at hread;have g3:qB yA 27 (.slice b 0 (2*(m++[w]).length) (2*(m++[w]).length)) (.int .i64 ((2*m.length+1:Nat):Int))=some (.ptr b (0+(2*m.length+1)*1)):=vS z7a (by omega)
  rw[show 0+(2*m.length+1)*1=2*m.length+1 by omega]at g3
  have g4:=ho.load hlast znx rfl
  have e1:((2*(m++[w]).length:Nat):Int)-1=((2*m.length+1:Nat):Int):=by rw[hml];omega
  have hlen:oB (.slice b 0 (2*(m++[w]).length) (2*(m++[w]).length))=some (.int .i64 ((2*(m++[w]).length:Nat):Int)):=rfl
  have hb2:2*m.length+1<1000000:=by omega
  simp (disch:=omega) only[zw9,qA,zD,hlen,wA,sB,e1,wrap_i64,g3,g4,mG]
  rw[yaa (by omega)]
  by_cases hz:w / 65536=0
  ·rw[yab (by rw[hz];rfl)]
   obtain⟨u,g5,g6⟩:=oE.front z7a hread (k:=2*m.length+1) (by rw[nF,hul];omega)
   rw[g5];simp only[wA];have hone:kB zA.one [.bool neg,u]=true:=by
    show(bif zA.one (.bool neg)then(bif zA.one u then true else false)else false)=true
    rw[g6.one];rfl
   rw[yab hone,yab hone];refine hQ _ _ ht ?_
   rw[zhi]at g6;rw[zac hw,yab hz];have:(qG (m++[w])).take (2*m.length+1)=qG m++[w%65536]:=by
    rw[eV,show qG m++[w%65536,w / 65536]=(qG m++[w%65536])++[w / 65536] by simp]
    rw[List.take_left' (by simp[fU])]
   rw[this]at g6;exact g6
  ·rw[yaa (by omega)]
   have hone:kB zA.one [.bool neg,.slice b 0 (2*(m++[w]).length) (2*(m++[w]).length)]=true:=rfl
   rw[yab hone,yab hone];refine hQ _ _ ht ?_
   rw[zac hw,yaa hz];exact hread
 | succ k ih=>
  intro i t' hi ht ho;obtain⟨x,hx⟩:=getElem?_of_lt (l:=l) (i:=i) (by omega)
  have hxlt:x<4294967296:=gI hlt hx
  obtain⟨c,off,g1,g2⟩:=(hv.mono ht).idx fF hx
  have htl:(l.take i).length=i:=by simp;omega
  have hpl:(qG (l.take i)).length=2*i:=by rw[fU,htl]
  have hlen0:(qG (l.take i)++List.replicate (2*(k+1)) 0).length=2*l.length:=by simp[hpl];omega
  have g3:∀j,j<2*l.length->qB yA 27 (.slice b 0 (2*l.length) (2*l.length)) (.int .i64 (j:Int))=some (.ptr b j):=by
   intro j hj;have:=vS (b:=b) (off:=0) (cap:=2*l.length) z7a hj
   rw[show 0+j*1=j by omega]at this;exact this
  have g3a:=g3 (2*i) (by omega)
  have g3b:=g3 (2*i+1) (by omega)
  obtain⟨t1,s1,s2,s3⟩:=ho.store (C:=yA) hbase (j:=2*i) (by rw[hlen0];omega) (x%65536) znx rfl
  have hs2:(qG (l.take i)++List.replicate (2*(k+1)) 0).set (2*i) (x%65536)=(qG (l.take i)++[x%65536])++List.replicate (2*k+1) 0:=by
   rw[<- hpl,show 2*(k+1)=(2*k+1)+1 by omega];exact nX
  rw[hs2]at s2;obtain⟨t2,s4,s5,s6⟩:=s2.store (C:=yA) hbase (j:=2*i+1) (by simp[hpl]) (x / 65536) znx rfl
  have hs5:((qG (l.take i)++[x%65536])++List.replicate (2*k+1) 0).set (2*i+1) (x / 65536)=qG (l.take (i+1))++List.replicate (2*k) 0:=by
   have hq:(qG (l.take i)++[x%65536]).length=2*i+1:=by simp[hpl]
   rw[<- hq,nX,tS hx,eV];simp
  rw[hs5]at s5;have e1:tA .u16 (x:Int)=((x%65536:Nat):Int):=by rw[zv0];omega
  have e2:tA .u16 (Int.fdiv (x:Int) 65536)=((x / 65536:Nat):Int):=by
   rw[show Int.fdiv (x:Int) 65536=((x / 65536:Nat):Int) from rP _ 65536,z2u (by omega) (by omega)]
  have e3:(2:Int)*(i:Int)=((2*i:Nat):Int):=by omega
  have e4:((2*i:Nat):Int)+1=((2*i+1:Nat):Int):=by omega
  refine z7y _ _ _ _ _ _ _ ?_
  simp (disch:=omega) only[zw9,qA,zD,g1,g2,wA,sB,e1,e2,e3,e4,wrap_i64,g3a,g3b]
  rw[yab (by omega)]
  intro d _ _;rw[s1];simp only[wA];intro d' _ _;rw[s4];simp only[wA];have:=ih (i+1) t2 (by omega) ((ht.off hb s3).off hb s6) s5
  rw[show((i+1:Nat):Int)=(i:Int)+1 by omega]at this
  exact this
def zwd{l:List Nat}{v:zA}{neg:Bool}{Q:cB}(hv:lA t 1 (iB .u32 l) v)(hl:l.length<400000)(hlt:jB 4294967296 l)
  (hQ:∀t' v',dA t t'->lA t' 1 (iB .u16 (iE (qG (iE l)))) v'->Q (.agg [.bool (if iE l=[]then false else neg),v']) t'):Wc yA F 225 [.bool neg,v] t Q:=by
 refine w225 _ _ ?_
 obtain⟨u,h1,h2⟩:=iT (l:=l) (by omega) hv
 have hsl:=zda l
 simp only[t225,qA,q212,h1,wA,h2.len,sB,nF,mG];by_cases h0:iE l=[]
 ·rw[yab (by rw[h0];rfl)]
  simp only[if_true];have:=hQ t .nilslice (dA.refl _) (by rw[h0];exact⟨[],.inl ⟨rfl,rfl⟩,by simp[qG,iE,iB,sC]⟩)
  rw[yab h0]at this;exact this
 ·have hpos:0<(iE l).length:=List.length_pos_iff.2 h0
  rw[yaa (by omega)]
  have e1:(2:Int)*((iE l).length:Int)=((2*(iE l).length:Nat):Int):=by omega
  simp (disch:=omega) only[e1,wrap_i64]
  intro b hb hbase;obtain⟨t',g1,g2,g3,_⟩:=sV (C:=yA) (k:=.u16) ty27 rfl znx rfl rfl (by decide) (n:=2*(iE l).length) (by omega) hb
  rw[g1];simp only[wA];refine znv h2 (by omega) (lQ hlt) h0 (xQ l) hbase hb (fun t2 v2 a b=>?_) (iE l).length 0 t' (by omega) g3 (by simpa[qG]using g2)
  have:=hQ t2 v2 a b
  rw[yaa h0]at this;exact this
end Go.Proofs
namespace Go.Proofs
open Go Go.Am
section
variable [lC]
variable {t:Tr rA}
def xU{T el:Nat}(h:oE yA T el 1 false){b n cap j:Nat}(hj:j<n):qB yA T (.slice b 0 n cap) (.int .i64 (j:Int))=some (.ptr b j):=by
 have:=vS (b:=b) (off:=0) (cap:=cap) h hj
 rw[show 0+j*1=j by omega]at this;exact this
def zsd{x s:Nat}(hs:s<64)(hx:x*2^s<18446744073709551616):zz8 .u64 (x:Int) (s:Int)=some (.int .u64 ((x*2^s:Nat):Int)):=by
 unfold zz8 zdi;have:fJ (s:Int)=some s:=rfl
 rw[this,sA,sA];have hm:min s (IntKind.bits .u64)=s:=by show min s 64=s;omega
 rw[hm];have e:(x:Int)*Int.ofNat (2^s)=((x*2^s:Nat):Int):=by rw[Int.natCast_mul];rfl
 rw[e,bE (by omega) (by omega)]
def zsc{x s:Nat}(hs:s<65):zzap .u64 (x:Int) (s:Int)=some (.int .u64 ((x / 2^s:Nat):Int)):=by
 unfold zzap zdi;have:fJ (s:Int)=some s:=rfl
 rw[this,sA,sA];have hm:min s (IntKind.bits .u64)=s:=by show min s 64=s;omega
 rw[hm];have e:Int.fdiv (x:Int) (Int.ofNat (2^s))=((x / 2^s:Nat):Int):=rP x (2^s)
 rw[e]
def zya{s:Nat}(hs:s<32):2^s<=2147483648:=yao (n:=2) (by decide) (show s<=31 by omega)
def zk6{s:Nat}(hs:s<=32):2^s*2^(32-s)=4294967296:=by rw[<- Nat.pow_add,show s+(32-s)=32 by omega]
def z92{x s:Nat}(hs:s<=32):(x*2^s%4294967296)%2^s=0:=by
 rw[<- zk6 hs,ybh x,Nat.mul_mod_mul_left,Nat.mul_mod_right]
def zkm{l:List Nat}{v:zA}{b s:Nat}{Q:cB}(hv:lA t 1 (iB .u32 l) v)(hl:l.length<900000)(hlt:jB 4294967296 l)(hs:s<32)(hbase:yA.base<=b)(hb:t.get b=none)
  (hQ:∀t' r,dA t t'->iD b t t'->rF t' b .u32 r->r.length=l.length+1->jB 4294967296 r->val 4294967296 r=val 4294967296 l*2^s->Q (.slice b 0 (l.length+1) (l.length+1)) t') :
  ∀(k i:Nat) (t':Tr rA) (P:List Nat) (c:Nat),i+k=l.length->dA t t'->iD b t t'->rF t' b .u32 ((P++[c])++List.replicate k 0)->P.length=i->c<2^s->jB 4294967296 P->val 4294967296 P+4294967296^i*c=val 4294967296 (l.take i)*2^s →
  jp 252 2 [.int .i64 s,.slice b 0 (l.length+1) (l.length+1),v,.int .i64 l.length,.int .i64 i] t' Q:=by
 have hp2:=zya hs
 intro k;induction k with
 | zero=>
  intro i t' P c hi ht hoff ho hP hc hPl hval;refine z7t _ _ _ _ _ ?_
  simp only[zw1,qA,zD];rw[yaa (by omega)]
  rw[List.replicate_zero,ycd]at ho;refine hQ t' (P++[c]) ht hoff ho (by simp;omega) (wT hPl (by omega)) ?_
  rw[pL,hP,hval,yca (by omega)]
 | succ k ih=>
  intro i t' P c hi ht hoff ho hP hc hPl hval;obtain⟨x,hx⟩:=getElem?_of_lt (l:=l) (i:=i) (by omega)
  have hxlt:x<4294967296:=gI hlt hx
  obtain⟨d,off,g1,g2⟩:=(hv.mono ht).idx fF hx
  have hxs:x*2^s<4294967296*2^s:=Nat.mul_lt_mul_of_pos_right hxlt (Nat.pow_pos (by decide))
  have hxs2:x*2^s<18446744073709551616:=by
   have:4294967296*2^s<=4294967296*2147483648:=ybv _ hp2
   omega
  have hlow:=z92 (x:=x) (s:=s) (by omega)
  have hlor:Nat.lor c (x*2^s%4294967296)=x*2^s%4294967296+c:=by
   have:=or_low (a:=x*2^s%4294967296) (b:=c) (n:=s) hc hlow
   show c ||| _=_
   rw[Nat.or_comm];exact this
  have hsum:x*2^s%4294967296+c<4294967296:=by
   have h1:x*2^s%4294967296<4294967296:=ycy _ (by decide)
   have h2:(4294967296:Nat)%2^s=0:=by rw[<- zk6 (s:=s) (by omega),Nat.mul_mod_right]
   obtain⟨p,hp⟩:=Nat.dvd_of_mod_eq_zero hlow
   obtain⟨q,hq⟩:=Nat.dvd_of_mod_eq_zero h2
   have hpq:p<q:=by
    rcases yau p q with g | g
    ·exact g
    ·have:=ybv (2^s) g;omega
   have:=ybv (2^s) (show p+1<=q from hpq)
   rw[ybm]at this;omega
  have hhigh:x*2^s / 4294967296<2^s:=ycu (by omega)
  have hlen0:((P++[c])++List.replicate (k+1) 0).length=l.length+1:=by simp;omega
  have g3a:=xU fF (b:=b) (n:=l.length+1) (cap:=l.length+1) (j:=i) (by omega)
  have g3b:=xU fF (b:=b) (n:=l.length+1) (cap:=l.length+1) (j:=i+1) (by omega)
  have g4:=ho.load (j:=i) (x:=c) (by rw[ybz,ybp (by omega),hP,Nat.sub_self];rfl) pG rfl
  obtain⟨t1,s1,s2,s3⟩:=ho.store (C:=yA) hbase (j:=i) (by rw[hlen0];omega) (x*2^s%4294967296+c) pG rfl
  have hs2:((P++[c])++List.replicate (k+1) 0).set i (x*2^s%4294967296+c)=(P++[x*2^s%4294967296+c])++List.replicate (k+1) 0:=by
   rw[ybz,set_append_right hP];simp
  rw[hs2]at s2;obtain⟨t2,s4,s5,s6⟩:=s2.store (C:=yA) hbase (j:=i+1) (by simp;omega) (x*2^s / 4294967296) pG rfl
  have hs5:((P++[x*2^s%4294967296+c])++List.replicate (k+1) 0).set (i+1) (x*2^s / 4294967296)=((P++[x*2^s%4294967296+c])++[x*2^s / 4294967296])++List.replicate k 0:=by
   have hq:(P++[x*2^s%4294967296+c]).length=i+1:=by simp[hP]
   rw[<- hq];exact nX
  rw[hs5]at s5;refine z7t _ _ _ _ _ ?_
  have e1:tA .u32 ((x*2^s:Nat):Int)=((x*2^s%4294967296:Nat):Int):=by rw[kM];omega
  have e2:tA .u32 (Int.fdiv ((x*2^s:Nat):Int) 4294967296)=((x*2^s / 4294967296:Nat):Int):=by
   rw[show Int.fdiv ((x*2^s:Nat):Int) 4294967296=((x*2^s / 4294967296:Nat):Int) from rP _ 4294967296]
   generalize x*2^s=z at hhigh ⊢
   rw[fQ (by omega) (by omega)]
  simp (disch:=omega) only[zw1,qA,zD,g1,g2,wA,sB,bE,g3a,g4]
  rw[yab (by omega),zsd (by omega) hxs2]
  simp only[wA,sB,e1];have e3:gH Nat.lor .u32 (c:Int) ((x*2^s%4294967296:Nat):Int)=some (.int .u32 ((x*2^s%4294967296+c:Nat):Int)):=by
   rw[vP (k:=.u32) (x:=c) (y:=x*2^s%4294967296) (show c<dF .u32 by show c<4294967296;omega) (by show x*2^s%4294967296<4294967296;exact ycy _ (by decide)),hlor]
  rw[e3];simp only[wA,sB];intro _ _ _;rw[s1];simp (disch:=omega) only[wA,wrap_i64]
  rw[show(i:Int)+1=((i+1:Nat):Int) by omega,g3b]
  simp only[wA,e2];intro _ _ _;rw[s4];simp only[wA];refine ih (i+1) t2 _ _ (by omega) ((ht.off hb s3).off hb s6) ((hoff.trans s3).trans s6) s5 (by simp[hP]) hhigh (wT hPl hsum) ?_
  rw[pL,hP,tS hx,pL,ybo,<- hval];have:(l.take i).length=i:=by simp;omega
  rw[this,yag];have hd:=ych (x*2^s) 4294967296
  have e4:4294967296^i*x*2^s=4294967296^i*(4294967296*(x*2^s / 4294967296)+x*2^s%4294967296):=by rw[hd,ybj]
  rw[e4,ybm,ybm];have e5:4294967296^i*4294967296*(x*2^s / 4294967296)=4294967296^i*(4294967296*(x*2^s / 4294967296)):=by rw[ybj]
  rw[e5];omega
def zgd{l:List Nat}{v:zA}{s:Nat}{Q:cB}(hv:lA t 1 (iB .u32 l) v)(hl:l.length<900000)(hlt:jB 4294967296 l)(hs:s<32)
  (hQ:∀t' b r,dA t t'->t.get b=none->yA.base<=b->rF t' b .u32 r->r.length=l.length+1->jB 4294967296 r->val 4294967296 r=val 4294967296 l*2^s->Q (.slice b 0 (l.length+1) (l.length+1)) t'):Wc yA F 252 [v,.int .i64 s] t Q:=by
 refine w252 _ _ ?_
 simp (disch:=omega) only[t252,qA,hv.len,wA,sB,nF,wrap_i64]
 intro b hb hbase;obtain⟨t',g1,g2,g3,g4⟩:=sV (C:=yA) (k:=.u32) fL rfl pG rfl rfl (by decide) (n:=l.length+1) (by omega) hb
 rw[show(l.length:Int)+1=((l.length+1:Nat):Int) by omega,g1]
 simp only[wA];have:=zkm hv hl hlt hs hbase hb (fun t' r a _ c d e f=>hQ t' b r a hb hbase c d e f) l.length 0 t' [] 0 (by omega) g3 g4 (by simpa[List.replicate_succ]using g2) rfl (Nat.pow_pos (by decide)) (fun x hx=>by cases hx) (by simp[val])
 exact this
def zpn{l:List Nat}{v:zA}{b d:Nat}{Q:cB}(hv:lA t 1 (iB .u32 l) v)(hl:l.length<900000)(hlt:jB 4294967296 l)(hd:d<4294967296)(hd0:0<d)(hbase:yA.base<=b)(hb:t.get b=none)
  (hQ:∀t' v' q r,dA t t'->lA t' 1 (iB .u32 (iE q)) v'->jB 4294967296 q->q.length=l.length->r<d->val 4294967296 l=val 4294967296 q*d+r->Q (.tup [v',.int .u32 (r:Nat)]) t') :
  ∀(i:Nat) (t':Tr rA) (q:List Nat) (r:Nat),i<=l.length->dA t t'->rF t' b .u32 (List.replicate i 0++q)->q.length=l.length-i->jB 4294967296 q->r<d->val 4294967296 (l.drop i)=val 4294967296 q*d+r →
  jp 191 2 [v,.int .u32 d,.slice b 0 l.length l.length,.int .u32 r,.int .i64 ((i:Int)-1)] t' Q:=by
 intro i;induction i with
 | zero=>
  intro t' q r _ ht ho hq hql hr hval;refine z73 _ _ _ _ _ ?_
  simp only[zxc,qA,tG];rw[yaa (by omega)]
  rw[List.replicate_zero,yah]at ho;have hread:=ho.all (ybk _)
  have hqlen:q.length=l.length:=by omega
  rw[hqlen]at hread;obtain⟨v',h1,h2⟩:=iT (l:=q) (by omega) hread
  simp only[q212,h1,wA];exact hQ t' v' q r ht h2 hql hqlen hr (by simpa using hval)
 | succ i ih=>
  intro t' q r hi ht ho hq hql hr hval;obtain⟨x,hx⟩:=getElem?_of_lt (l:=l) (i:=i) (by omega)
  have hxlt:x<4294967296:=gI hlt hx
  obtain⟨c,off,g1,g2⟩:=(hv.mono ht).idx fF hx
  have e1:((i+1:Nat):Int)-1=(i:Int):=by omega
  have g3:=xU fF (b:=b) (n:=l.length) (cap:=l.length) (j:=i) (by omega)
  have hlen0:(List.replicate (i+1) 0++q).length=l.length:=by simp;omega
  have hdiv:=z5u (t:=t') hr hxlt hd
  have hqlt:(r*4294967296+x) / d<4294967296:=ztp hr hxlt
  have hrlt:(r*4294967296+x)%d<d:=ycy _ hd0
  obtain⟨t1,s1,s2,s3⟩:=ho.store (C:=yA) hbase (j:=i) (by rw[hlen0];omega) ((r*4294967296+x) / d) pG rfl
  have hs2:(List.replicate (i+1) 0++q).set i ((r*4294967296+x) / d)=List.replicate i 0++((r*4294967296+x) / d::q):=by
   rw[List.replicate_succ',ybz,set_append_right (by simp)];rfl
  rw[hs2]at s2;rw[e1];refine z73 _ _ _ _ _ ?_
  simp (disch:=omega) only[zxc,qA,tG,g1,g2,wA,sB,q211,hdiv,mB,zA.asTup,sA,g3,wrap_i64]
  rw[yab (by omega)]
  simp only[eF,yaz,yba,wA,sB];intro _ _ _;rw[s1];simp only[wA];refine ih t1 _ _ (by omega) (ht.off hb s3) s2 (by simp;omega) ?_ hrlt ?_
  ·intro y hy
   rcases ybs.1 hy with rfl | hy
   ·exact hqlt
   ·exact hql y hy
  ·rw[uJ hx]
   simp only[val];rw[hval];have hd1:=ych (r*4294967296+x) d
   rw[ybo,ybm,ybj];rw[ybh ((r*4294967296+x) / d) d]
   rw[ybh 4294967296 r];omega
def zmj{l:List Nat}{v:zA}{d:Nat}{Q:cB}(hv:lA t 1 (iB .u32 l) v)(hl:l.length<900000)(hlt:jB 4294967296 l)(hd:d<4294967296)(hd0:0<d)
  (hQ:∀t' v' q r,dA t t'->lA t' 1 (iB .u32 (iE q)) v'->jB 4294967296 q->q.length=l.length->r<d->val 4294967296 l=val 4294967296 q*d+r->Q (.tup [v',.int .u32 (r:Nat)]) t'):Wc yA F 191 [v,.int .u32 d] t Q:=by
 refine w191 _ _ ?_
 simp (disch:=omega) only[t191,qA,hv.len,wA,sB,nF,wrap_i64]
 intro b hb hbase;obtain⟨t',g1,g2,g3,g4⟩:=sV (C:=yA) (k:=.u32) fL rfl pG rfl rfl (by decide) (n:=l.length) (by omega) hb
 rw[g1];simp only[wA];exact zpn hv hl hlt hd hd0 hbase hb hQ l.length t' [] 0 (ybk _) g3 (by simpa using g2) (by simp) (fun x hx=>by cases hx) hd0 (by simp[val])
end
section
variable [lC]
def z04{l:List Nat}{y:zA}{box:Nat}{v:zA}{Q:cB}{I:Nat->Tr rA->Prop}(hl:l.length<1000000)
  (hr:∀k t,I k t->mA yA 244 ⟨0,t⟩ (.ptr box 0)=some v/\lA t 1 (iB .u32 l) v)
  (hy:∀k x t,l[k]?=some x->I (k+1) t->∀R:cB,(∀t',I k t'->R (.bool true) t')->dD (kN y [.int .u32 (x:Nat)]) fun p=>Wq yA F aH p.1 p.2 t R)
  (hQ:∀t,I 0 t->Q (.tup []) t):∀(k:Nat) (t:Tr rA),k<=l.length->I k t->jp 213 2 [y,.ptr box 0,.int .i64 ((k:Int)-1)] t Q:=by
 intro k;induction k with
 | zero=>
  intro t _ h;refine z71 _ _ _ ?_
  simp only[zxb,qA,tG];rw[yaa (by omega)]
  exact hQ t h
 | succ k ih=>
  intro t hk h;obtain⟨g0,hv⟩:=hr _ _ h
  obtain⟨x,hx⟩:=getElem?_of_lt (l:=l) (i:=k) (by omega)
  obtain⟨c,off,g1,g2⟩:=hv.idx fF hx
  have e1:((k+1:Nat):Int)-1=(k:Int):=by omega
  rw[e1];refine z71 _ _ _ ?_
  simp (disch:=omega) only[zxb,qA,tG,g0,g1,g2,wA,sB,wrap_i64]
  rw[yab (by omega)]
  refine hy k x t hx h _ fun t' ht'=>?_
  simp only[zA.asBool,wA,Bool.not_true];rw[yaa (by simp)]
  exact ih t' (by omega) ht'
def zzba{l:List Nat}{y:zA}{box:Nat}{v:zA}{Q:cB}{t:Tr rA}{I:Nat->Tr rA->Prop}(hl:l.length<1000000)
  (hr:∀k t,I k t->mA yA 244 ⟨0,t⟩ (.ptr box 0)=some v/\lA t 1 (iB .u32 l) v)
  (hy:∀k x t,l[k]?=some x->I (k+1) t->∀R:cB,(∀t',I k t'->R (.bool true) t')->dD (kN y [.int .u32 (x:Nat)]) fun p=>Wq yA F aH p.1 p.2 t R)
  (hQ:∀t,I 0 t->Q (.tup []) t) (h:I l.length t):Wc yA F 213 [y,.ptr box 0] t Q:=by
 obtain⟨g0,hv⟩:=hr _ _ h
 refine w213 _ _ ?_
 simp (disch:=omega) only[t213,qA,g0,hv.len,nF,wA,sB,wrap_i64]
 exact z04 hl hr hy hQ l.length t (ybk _) h
end
end Go.Proofs
namespace Go.Am
open Go Go.RowKit
section
variable {t tf:Tr rA}{C:oA}
def yJ{n:Nat}(hn:t.get n=none)(q:rA):dA t (t.set n q)/\iD n t (t.set n q):=
 ⟨fun c u hc=>by rw[Tr.get_set,yaa (by intro e;rw[e,hn]at hc;cases hc)];exact hc,fun c hc=>by rw[Tr.get_set,yaa hc]⟩
def zuz{sz n:Nat}{cl:List (List zA)}{t':Tr rA}{lo:Option Lo}(hl:∀(i:Nat) cs,cl[i]?=some cs->cs.length=sz)(h:t'.get n=some (.cells (Tr.ofList cl.flatten) (yB cl.flatten) lo))(hlo:lo=none\/∃x,lo=some x/\x.es=sz){k:Nat}(hk:cl.length=k):mJ t' sz (.slice n 0 k k) cl:=by
 subst hk;exact zas hl h hlo
def zlq{T el sz n:Nat}{y z:tC}{ps:List (Nat × zA)}{cl:List (List zA)}(hT:C.tys.get T=some y)(hel:y.desc.asSlice=some el)(hz:C.tys.get el=some z)(hs:z.size=sz)(h0:yB z.zero=sz)(hn:n*sz<1000000)
  (hfill:tM (fun i=>some (i*sz,sz)) ps (gJ z.zero n)=some cl.flatten) (hcl:∀(i:Nat) cs,cl[i]?=some cs->cs.length=sz) (hlen:cl.length=n) {b:Nat} (hb:t.get b=none) :
  ∃t',cH C T n ps ⟨b,t⟩=some (.slice b 0 n n,⟨b+1,t'⟩)/\mJ t' sz (.slice b 0 n n) cl/\dA t t'/\iD b t t':=by
 refine⟨t.set b (.cells (Tr.ofList cl.flatten) (yB cl.flatten) none),?_,zuz hcl (by rw[Tr.get_set,yab rfl]) (.inl rfl) hlen,(yJ hb _).1,(yJ hb _).2⟩
 unfold cH;rw[hT,sA,hel,sA,hz,sA];have:(Nat.blt (n*z.size) 1000000&&Nat.beq (yB z.zero) z.size)=true:=by
  rw[hs,h0,vC.2 hn,fB.2 rfl];rfl
 rw[this,lE,hs,hfill];rfl
def rG(cd:Lo)(base:Nat)(tf t:Tr rA)(sz:Nat)(l:List D)(v:zA):Prop:=
 (v=.nilslice/\l=[])\/∃b cl c,v=.slice b 0 l.length l.length/\base<=b/\tf.get b=none/\t.get b=some (.cells c (l.length*sz) (some cd)) ∧
  (∀(i:Nat) cs,cl[i]?=some cs->cs.length=sz/\∀(j:Nat) a,cs[j]?=some a->c.get (i*sz+j)=some a)/\sC tf l cl
abbrev nM(base:Nat)(tf t:Tr rA)(sz:Nat)(l:List D)(v:zA):Prop:=rG (.sz sz) base tf t sz l v
def eJ(v:zA)(b:Nat):Prop:=∃o n c,v=.slice b o n c
def zek{b:Nat}:¬ eJ .nilslice b:=fun⟨_,_,_,h⟩=>by cases h
def iS{b c o n k:Nat}:eJ (.slice b o n k) c ↔ c=b:=⟨fun⟨_,_,_,h⟩=>by cases h;rfl,fun h=>by subst h;exact⟨_,_,_,rfl⟩⟩
def rG.read{cd:Lo}{base sz:Nat}{l:List D}{v:zA}(hcd:cd.es=sz)(h:rG cd base tf t sz l v)(ht:dA tf t):lA t sz l v:=by
 rcases h with⟨rfl,rfl⟩ | ⟨b,cl,c,rfl,_,_,h1,h2,h3⟩
 ·exact⟨[],.inl ⟨rfl,rfl⟩,kG.2 rfl⟩
 ·have hlen:=h3.length
  refine⟨cl,.inr ⟨b,0,l.length,by rw[hlen],by omega,⟨c,_,_,h1,.inr ⟨_,rfl,hcd⟩⟩,fun i cs hi=>⟨(h2 i cs hi).1,c,_,_,h1,fun j a hj=>?_⟩⟩,sC.mono ht _ _ h3⟩
  rw[ybw];exact(h2 i cs hi).2 j a hj
def rG.len{cd:Lo}{base sz:Nat}{l:List D}{v:zA}(h:rG cd base tf t sz l v):oB v=some (.int .i64 (l.length:Int)):=by
 rcases h with⟨rfl,rfl⟩ | ⟨b,cl,c,rfl,_⟩
 ·rfl
 ·rfl
def rG.none{cd:Lo}{base sz:Nat}{l:List D}{v:zA}(h:rG cd base tf t sz l v){b:Nat}(hb:eJ v b):tf.get b=none/\base<=b/\∃y,t.get b=some y:=by
 rcases h with⟨rfl,rfl⟩ | ⟨c,cl,x,rfl,h1,h2,h3,_⟩
 ·exact absurd hb zek
 ·rw[iS]at hb;subst hb;exact⟨h2,h1,_,h3⟩
def nM.keep{base sz:Nat}{l:List D}{v:zA}{t' tf':Tr rA}(h:nM base tf t sz l v)(hf:dA tf tf')(hk:∀b,eJ v b->t'.get b=t.get b/\tf'.get b=Option.none):nM base tf' t' sz l v:=by
 rcases h with⟨rfl,rfl⟩ | ⟨b,cl,c,rfl,h0,h1,h2,h3,h4⟩
 ·exact .inl ⟨rfl,rfl⟩
 ·obtain⟨k1,k2⟩:=hk b (iS.2 rfl)
  exact .inr ⟨b,cl,c,rfl,h0,k2,by rw[k1];exact h2,h3,sC.mono hf _ _ h4⟩
def zay{T U el sz:Nat}{cd:Lo}(hT:zvo C T el sz)(hU:∃u,C.tys.get U=some u/\Nat.beq u.desc.tag 1=false)(hcd:∀z,C.tys.get el=some z->oI el z=cd){l m:List D}{v x:zA}{cm:List (List zA)}(hv:rG cd C.base tf t sz l v)(hall:∀(i:Nat) cs,cm[i]?=some cs->cs.length=sz)(hx:∀n,sO ⟨n,t⟩ sz cm.length x=some cm.flatten/\nS x=some cm.length)(hm:sC tf m cm)(hone:∀a∈cm.flatten,zA.one a=true)(hpos:0<m.length)(hl:l.length+m.length<400000){n:Nat}(hn:t.get n=none)(hbase:C.base<=n)(ht:dA tf t) :
  ∃t',pF C T U v x ⟨n,t⟩=some (.slice n 0 (l.length+m.length) (l.length+m.length),⟨n+1,t'⟩)/\rG cd C.base tf t' sz (l++m) (.slice n 0 (l.length+m.length) (l.length+m.length))/\dA tf t'/\(∀c,c≠n->¬ eJ v c->t'.get c=t.get c):=by
 obtain⟨⟨y,hy1,hy2,hy3⟩,⟨z,hz1,hz2,hz3,hz4,hz5⟩⟩:=hT
 have hcode:=hcd z hz1
 have hcm:=hm.length
 obtain⟨hf,hlen⟩:=hx n
 obtain⟨u,hu1,hu2⟩:=hU
 have hflat:=uU hall
 have hfl:yB cm.flatten=cm.length*sz:=by rw[bC];exact hflat
 have hfn:tf.get n=none:=by
  cases hq:tf.get n with
  | none=>rfl
  | some u=>rw[ht _ _ hq]at hn;cases hn
 have base:pF C T U v x ⟨n,t⟩=(match v.asSlice with
  | some s=>bif Nat.ble (s.2.2.1+cm.length) s.2.2.2 then dS C ⟨n,t⟩ z cm.length cm.flatten s else rR C ⟨n,t⟩ el z cm.length cm.flatten s
  | none=>cA (Nat.beq v.tag 5) (uM ⟨n,t⟩ el z cm.length cm.flatten)):=by
  unfold pF kP;rw[hy1,sA,hu1,sA,hu2];simp only[ycl,lE];rw[hy2,sA,hz1,sA,hlen,sA,hz2,hf,sA];rfl
 have ok:sP z l.length l.length cm.length cm.flatten=true:=by
  unfold sP;have h1:Nat.blt (l.length+cm.length+l.length) 1000000000=true:=vC.2 (by omega)
  have h2:Nat.blt ((l.length+cm.length+l.length)*z.bytes) 1000000000=true:=vC.2 (by
   have:=ydb (show l.length+cm.length+l.length<=800000 by omega) hz4
   omega)
  have h3:Nat.blt z.bytes 1000000000=true:=vC.2 (by omega)
  have h4:(!Nat.beq z.size 0)=true:=by
   cases hq:Nat.beq z.size 0 with
   | true=>have:=fB.1 hq;omega
   | false=>rfl
  have h5:Nat.beq (yB cm.flatten) (cm.length*z.size)=true:=by rw[hfl,hz2];exact fB.2 rfl
  have h6:Nat.beq (yB z.zero) z.size=true:=by rw[hz3,hz2];exact fB.2 rfl
  rw[h1,h2,h3,h4,h5,h6];rfl
 rcases hv with⟨rfl,rfl⟩ | ⟨b,cl,c,rfl,hb0,hb1,hb2,hb3,hb4⟩
 ·refine⟨t.set n (.cells (Tr.ofList cm.flatten) (yB cm.flatten) (some cd)),?_,.inr ⟨n,cm,Tr.ofList cm.flatten,by simp,hbase,hfn,?_,fun i cs hi=>⟨hall i cs hi,fun j a hj=>?_⟩,by simpa using hm⟩,?_,fun c hc _=>(yJ hn _).2 c hc⟩
  ·rw[base]
   simp only[zA.asSlice];show cA true (uM ⟨n,t⟩ el z cm.length cm.flatten)=_
   rw[lE];unfold uM;have:Nat.beq cm.length 0=false:=by
    cases hq:Nat.beq cm.length 0 with
    | true=>have:=fB.1 hq;omega
    | false=>rfl
   have ok:sP z 0 0 cm.length cm.flatten=true:=ok
   rw[this,cond_false,ok,lE,hcm,hcode];simp only[ybx,ybw];rfl
  ·rw[Tr.get_set,yab rfl,hfl,hcm];simp
  ·rw[Tr.get_ofList];exact rN hall i j cs a hi hj
  ·exact ht.trans (yJ hn _).1
 ·have hcl:=hb4.length
  have hbn:b≠n:=by intro e;rw[e,hn]at hb2;cases hb2
  refine⟨(t.del b).set n (.cells (c.setMany cm.flatten (l.length*z.size)) ((l.length+cm.length)*z.size) (some cd)),?_,.inr ⟨n,cl++cm,c.setMany cm.flatten (l.length*z.size),by simp,hbase,hfn,?_,fun i cs hi=>?_,?_⟩,fun k u hk=>?_,fun k hk1 hk2=>?_⟩
  ·rw[base]
   simp only[zA.asSlice];have:Nat.ble (l.length+cm.length) l.length=false:=by
    cases hq:Nat.ble (l.length+cm.length) l.length with
    | true=>have:=kE.1 hq;omega
    | false=>rfl
   rw[this,cond_false];unfold rR;simp only[];rw[show ∀x,(!(Nat.beq 0 1&&x))=true from fun _=>rfl,lE,ok,lE]
   unfold vE;rw[hb2,sA];simp only[rA.asCells,sA];unfold pV;simp only[];have g1:loEq cd (oI el z)=true:=by rw[hcode];exact zy6.2 rfl
   have g2:Nat.ble (l.length*z.size) (l.length*sz)=true:=kE.2 (by rw[hz2];exact ybk _)
   have g3:Nat.ble (l.length*sz) ((l.length+cm.length)*z.size)=true:=kE.2 (by rw[hz2];exact ybi _ (by omega))
   have g4:kB zA.one cm.flatten=true:=by rw[yG];exact ycb.2 hone
   have g5:(!Nat.blt b C.base)=true:=by
    cases hq:Nat.blt b C.base with
    | true=>have:=vC.1 hq;omega
    | false=>rfl
   rw[g1,g2,g3,g4,g5];simp only[hz2,hcm];rfl
  ·rw[Tr.get_set,yab rfl,hz2,hcm,ybg]
  ·rw[List.getElem?_append]at hi
   split at hi
   ·rename_i hlt
    obtain⟨k1,k2⟩:=hb3 i cs hi
    refine⟨k1,fun j a hj=>?_⟩
    have hjl:j<sz:=by rw[<- k1];exact(ybc.1 hj).1
    have:i*sz+j<l.length*sz:=by
     have:=ybi sz (show i+1<=l.length by omega)
     rw[ybo]at this;omega
    rw[Tr.get_setMany,hz2,yaa (by omega)]
    exact k2 j a hj
   ·rename_i hge
    have k1:=hall _ cs hi
    refine⟨k1,fun j a hj=>?_⟩
    have hf1:=rN hall _ j cs a hi hj
    have hlt:=(ybc.1 hf1).1
    have e:i*sz=l.length*sz+(i-cl.length)*sz:=by rw[<- ybo];congr 1;omega
    rw[Tr.get_setMany,hz2,yab (by omega),show i*sz+j-l.length*sz=(i-cl.length)*sz+j by omega]
    exact hf1
  ·have app:∀ {l m:List D} {cl cm:List (List zA)},sC tf l cl->sC tf m cm->sC tf (l++m) (cl++cm):=by
    intro l;induction l with
    | nil=>intro m cl cm h k;rw[kG]at h;subst h;exact k
    | cons d l ih=>
     intro m cl cm h k;rw[uF]at h;obtain⟨c,r,rfl,h1,h2⟩:=h
     exact uF.2 ⟨c,r++cm,rfl,h1,ih h2 k⟩
   exact app hb4 hm
  ·have h1:k≠b:=by intro e;rw[e,hb1]at hk;cases hk
   have h2:k≠n:=by intro e;rw[e,hfn]at hk;cases hk
   rw[Tr.get_set,yaa h2,Tr.get_del,yaa h1];exact ht _ _ hk
  ·rw[Tr.get_set,yaa hk1,Tr.get_del,yaa (fun e=>hk2 (iS.2 e))]
def zaz{T el sz:Nat}{cd:Lo}(hT:zvo C T el sz)(hcd:∀z,C.tys.get el=some z->oI el z=cd){l m:List D}{v x:zA}{cm:List (List zA)}(hv:rG cd C.base tf t sz l v)(hx:mJ t sz x cm)(hm:sC tf m cm)(hone:∀a∈cm.flatten,zA.one a=true)(hpos:0<m.length)(hl:l.length+m.length<400000){n:Nat}(hn:t.get n=none)(hbase:C.base<=n)(ht:dA tf t) :
  ∃t',pF C T T v x ⟨n,t⟩=some (.slice n 0 (l.length+m.length) (l.length+m.length),⟨n+1,t'⟩)/\rG cd C.base tf t' sz (l++m) (.slice n 0 (l.length+m.length) (l.length+m.length))/\dA tf t'/\(∀c,c≠n->¬ eJ v c->t'.get c=t.get c):=by
 obtain⟨y,hy1,hy2,hy3⟩:=hT.ty
 exact zay hT ⟨y,hy1,hy3⟩ hcd hv hx.len (fun n=>hx.first (n:=n)) hm hone hpos hl hn hbase ht
def zb9{T el sz:Nat}(hT:wK C T el sz){l m:List D}{v x:zA}{cm:List (List zA)}(hv:nM C.base tf t sz l v)(hx:mJ t sz x cm)(hm:sC tf m cm)(hone:∀a∈cm.flatten,zA.one a=true)(hpos:0<m.length)(hl:l.length+m.length<400000){n:Nat}(hn:t.get n=none)(hbase:C.base<=n)(ht:dA tf t) :
  ∃t',pF C T T v x ⟨n,t⟩=some (.slice n 0 (l.length+m.length) (l.length+m.length),⟨n+1,t'⟩)/\nM C.base tf t' sz (l++m) (.slice n 0 (l.length+m.length) (l.length+m.length))/\dA tf t'/\(∀c,c≠n->¬ eJ v c->t'.get c=t.get c):=by
 refine zaz ⟨hT.ty,hT.el⟩ (fun z h=>?_) hv hx hm hone hpos hl hn hbase ht
 obtain⟨y,h1,h2,_⟩:=hT.el
 rw[hT.nb.code h,show z=y from yci (h.symm.trans h1),h2]
def rG.freeze{cd:Lo}{base sz:Nat}{l:List D}{v:zA}(hcd:cd.es=sz)(h:rG cd base tf t sz l v)(ht:dA tf t):∃tf',dA tf tf'/\dA tf' t/\lA tf' sz l v/\∀b,¬ eJ v b->tf'.get b=tf.get b:=by
 rcases h with⟨rfl,rfl⟩ | ⟨b,cl,c,rfl,h0,h1,h2,h3,h4⟩
 ·exact⟨tf,dA.refl _,ht,⟨[],.inl ⟨rfl,rfl⟩,kG.2 rfl⟩,fun _ _=>rfl⟩
 ·have hlen:=h4.length
  refine⟨tf.set b (.cells c (l.length*sz) (some cd)),(yJ h1 _).1,fun k u hk=>?_,⟨cl,.inr ⟨b,0,l.length,by rw[hlen],by omega,⟨c,_,_,by rw[Tr.get_set,yab rfl],.inr ⟨_,rfl,hcd⟩⟩,fun i cs hi=>⟨(h3 i cs hi).1,c,_,_,(by rw[Tr.get_set,yab rfl]),fun j a hj=>?_⟩⟩,sC.mono (yJ h1 _).1 _ _ h4⟩,fun k hk=>by rw[Tr.get_set,yaa (fun e=>hk (iS.2 e))]⟩
  ·rw[Tr.get_set]at hk
   split at hk
   ·rename_i e;subst e;cases hk;exact h2
   ·exact ht _ _ hk
  ·rw[ybw];exact(h3 i cs hi).2 j a hj
def nM.freeze{base sz:Nat}{l:List D}{v:zA}(h:nM base tf t sz l v)(ht:dA tf t):∃tf',dA tf tf'/\dA tf' t/\lA tf' sz l v/\∀b,¬ eJ v b->tf'.get b=tf.get b:=rG.freeze rfl h ht
end
end Go.Am
namespace Go.Am
open Go Go.RowKit
section
def gD (t:Tr rA)(b:Nat)(lo:Option Lo)(cs:List zA):Prop:=∃c,t.get b=some (.cells c cs.length lo)/\∀(j:Nat) a,cs[j]?=some a->c.get j=some a
def qI(cs:List zA)(j:Nat)(l:List zA):List zA:=cs.take j++(l++cs.drop (j+l.length))
def zdx{cs l:List zA}{j:Nat}(h:j+l.length<=cs.length):(qI cs j l).length=cs.length:=by
 unfold qI;simp;omega
def zai{cs l:List zA}{j:Nat}(h:j+l.length<=cs.length)(k:Nat):(qI cs j l)[k]?=if j<=k/\k<j+l.length then l[k-j]? else cs[k]?:=by
 have ht:(cs.take j).length=j:=by simp;omega
 unfold qI;rw[List.getElem?_append,ht];split
 ·rename_i h1
  rw[yaa (by omega),ydf,yab h1]
 ·rename_i h1
  rw[List.getElem?_append];split
  ·rw[yab (by omega)]
  ·rw[yaa (by omega),yde];congr 1;omega
section
variable {t tf:Tr rA}{C:oA}{b:Nat}{lo:Option Lo}{cs:List zA}
def gD.at(h:gD t b lo cs):At t b 0 cs:=by
 obtain⟨c,h1,h2⟩:=h
 exact⟨c,_,_,h1,fun j a hj=>by rw[ybw];exact h2 j a hj⟩
def gD.atN(h:gD t b lo cs){off n:Nat}{l:List zA}(hl:∀(j:Nat) a,l[j]?=some a->cs[off+j]?=some a):At t b off l:=by
 obtain⟨c,h1,h2⟩:=h
 exact⟨c,_,_,h1,fun j a hj=>h2 _ a (hl j a hj)⟩
def gD.off(h:gD t b lo cs){t':Tr rA}(k:t'.get b=t.get b):gD t' b lo cs:=by
 obtain⟨c,h1,h2⟩:=h
 exact⟨c,by rw[k];exact h1,h2⟩
def gD.load1(h:gD t b lo cs){j:Nat}{a:zA}{ty:Nat}{y:tC}(hy:C.tys.get ty=some y)(ha:y.desc.isAgg=false)(hj:cs[j]?=some a):mA C ty ⟨0,t⟩ (.ptr b j)=some a:=by
 have:=h.at.load1 hy ha hj
 rw[ybw]at this;exact this
def gD.store(h:gD t b lo cs)(hb:C.base<=b){j T:Nat}{y:tC}{v:zA}(hT:C.tys.get T=some y)(hl:v.cells.length=y.size)(hj:j+v.cells.length<=cs.length)(hone:kB zA.one v.cells=true) :
  ∃t',(∀n,rC C T (.ptr b j) v ⟨n,t⟩=some (nD,⟨n,t'⟩))/\gD t' b lo (qI cs j v.cells)/\iD b t t':=by
 obtain⟨c,h1,h2⟩:=h
 refine⟨t.set b (.cells (c.setMany v.cells j) cs.length lo),fun n=>?_,⟨c.setMany v.cells j,?_,fun k a hk=>?_⟩,fun d hd=>by rw[Tr.get_set,yaa hd]⟩
 ·unfold rC
  rw[hT,sA];simp only[zA.asPtr,sA];have e1:Nat.beq (yB v.cells) y.size=true:=by rw[bC,hl];exact fB.2 rfl
  rw[e1,lE];unfold eI vE;have e2:(!Nat.blt b C.base)=true:=by
   cases hq:Nat.blt b C.base with
   | true=>have:=vC.1 hq;omega
   | false=>rfl
  rw[e2,lE,h1,sA];simp only[rA.asCells,sA];have e3:Nat.ble (j+yB v.cells) cs.length=true:=by rw[bC];exact kE.2 hj
  rw[e3,hone];rfl
 ·rw[Tr.get_set,yab rfl,zdx hj]
 ·rw[zai hj]at hk
  rw[Tr.get_setMany];split
  ·rename_i e;rw[yab e]at hk;exact hk
  ·rename_i e;rw[yaa e]at hk;exact h2 k a hk
def gD.store1(h:gD t b lo cs)(hb:C.base<=b){j T:Nat}{y:tC}{v:zA}(hT:C.tys.get T=some y)(hs:y.size=1)(hv:v.cells=[v])(hone:zA.one v=true)(hj:j<cs.length) :
  ∃t',(∀n,rC C T (.ptr b j) v ⟨n,t⟩=some (nD,⟨n,t'⟩))/\gD t' b lo (cs.set j v)/\iD b t t':=by
 obtain⟨t',h1,h2,h3⟩:=h.store hb hT (v:=v) (j:=j) (by rw[hv,hs];rfl) (by rw[hv];exact hj) (by rw[hv];show(bif zA.one v then true else false)=true;rw[hone];rfl)
 refine⟨t',h1,?_,h3⟩
 have e:qI cs j v.cells=cs.set j v:=by
  rw[hv];apply List.ext_getElem?
  intro k;rw[zai (by exact hj),ycw]
  by_cases e:j=k
  ·subst e;rw[yab (by simp),yab rfl,yab hj];simp
  ·rw[yaa (by simp;omega),yaa e]
 rw[e]at h2;exact h2
def zi0{b:Nat}(hb:t.get b=none)(cs:List zA)(lo:Option Lo):∃t',mE ⟨b,t⟩ cs lo=⟨b+1,t'⟩/\gD t' b lo cs/\dA t t'/\iD b t t':=
 ⟨t.set b (.cells (Tr.ofList cs) (yB cs) lo),rfl,⟨Tr.ofList cs,by rw[Tr.get_set,yab rfl,bC],fun j a hj=>by rw[Tr.get_ofList];exact hj⟩,(yJ hb _).1,(yJ hb _).2⟩
def bR{b T:Nat}{y:tC}(hT:C.tys.get T=some y)(hb:t.get b=none):∃t',yH C T ⟨b,t⟩=some (.ptr b 0,⟨b+1,t'⟩)/\gD t' b none y.zero/\dA t t'/\iD b t t':=by
 obtain⟨t',h1,h2,h3,h4⟩:=zi0 hb y.zero none
 refine⟨t',?_,h2,h3,h4⟩
 unfold yH;rw[hT,sA,<- h1]
def znj (base:Nat)(tf t:Tr rA)(sz:Nat)(l:List D)(b:Nat)(lo:Option Lo):Prop:=
 base<=b/\tf.get b=none/\∃cl,gD t b lo cl.flatten/\(∀(i:Nat) cs,cl[i]?=some cs->cs.length=sz)/\sC tf l cl
def znj.read{base sz n:Nat}{l:List D}(h:znj base tf t sz l b lo)(hlo:lo=none\/∃x,lo=some x/\x.es=sz)(ht:dA tf t)(hn:l.length=n){cap:Nat}(hc:n<=cap):lA t sz l (.slice b 0 n cap):=by
 obtain⟨_,_,cl,⟨c,h1,h2⟩,h3,h4⟩:=h
 have hlen:=h4.length
 refine⟨cl,.inr ⟨b,0,cap,by rw[hlen,hn],by omega,⟨c,_,_,h1,hlo⟩,fun i cs hi=>⟨h3 i cs hi,c,_,_,h1,fun j a hj=>?_⟩⟩,sC.mono ht _ _ h4⟩
 rw[ybw];exact h2 _ _ (rN h3 i j cs a hi hj)
def z5l{sz:Nat}:∀ {cl:List (List zA)},(∀(i:Nat) cs,cl[i]?=some cs->cs.length=sz)->∀ {i o:Nat} {cs l:List zA},cl[i]?=some cs->o+l.length<=sz->qI cl.flatten (i*sz+o) l=(cl.set i (qI cs o l)).flatten:=by
 intro cl h i o cs l hi ho;have hlt:i<cl.length:=(ybc.1 hi).1
 have hcs:=h i cs hi
 have hfl:=uU h
 have hb:i*sz+sz<=cl.length*sz:=by
  have:=ybi sz (show i+1<=cl.length by omega)
  rw[ybo]at this;omega
 have hov:(qI cs o l).length=sz:=by rw[zdx (by omega)];exact hcs
 have h':∀(k:Nat) c,(cl.set i (qI cs o l))[k]?=some c->c.length=sz:=by
  intro k c hk;rw[ycw]at hk;split at hk
  ·cases hk;exact hov
  ·exact h k c hk
 have hfl':=uU h'
 rw[ydh]at hfl'
 have hsz:∀k,k<cl.length*sz->k / sz<cl.length/\k%sz<sz:=by
  intro k hk;have hpos:0<sz:=by
   rcases yav sz with e | e
   ·subst e;simp at hk
   ·exact e
  exact⟨ycu (by rw[ybh];exact hk),ycy _ hpos⟩
 apply List.ext_getElem?
 intro k;rw[zai (by rw[hfl];omega)]
 by_cases hk:k<cl.length*sz
 ·obtain⟨k1,k2⟩:=hsz k hk
  have hdm:=ych k sz
  have hkk:k=k / sz*sz+k%sz:=by rw[ybh];exact hdm.symm
  have hq:cl[k / sz]?=some cl[k / sz]:=ybd k1
  have hql:=h _ _ hq
  have e1:cl.flatten[k]?=cl[k / sz][k%sz]?:=by
   have hx:cl[k / sz][k%sz]?=some cl[k / sz][k%sz]:=ybd (by omega)
   rw[hx];conv=>lhs;rw[hkk]
   exact rN h _ _ _ _ hq hx
  have e2:∀c,(cl.set i (qI cs o l))[k / sz]?=some c->(cl.set i (qI cs o l)).flatten[k]?=c[k%sz]?:=by
   intro c hc;have hcl:=h' _ _ hc
   have hx:c[k%sz]?=some c[k%sz]:=ybd (by omega)
   rw[hx];conv=>lhs;rw[hkk]
   exact rN h' _ _ _ _ hc hx
  by_cases hi2:k / sz=i
  ·have hc:(cl.set i (qI cs o l))[k / sz]?=some (qI cs o l):=by rw[hi2,ycw,yab rfl,yab hlt]
   rw[e2 _ hc,zai (by omega)]
   rw[hi2]at hkk;have hcs2:cl[k / sz]=cs:=by
    have:cl[k / sz]?=some cs:=by rw[hi2];exact hi
    rw[hq]at this;exact yci this
   by_cases hin:o<=k%sz/\k%sz<o+l.length
   ·rw[yab (by omega),yab hin];congr 1;omega
   ·rw[yaa (by omega),yaa hin,e1,hcs2]
  ·have hc:(cl.set i (qI cs o l))[k / sz]?=some cl[k / sz]:=by rw[ycw,yaa (fun e=>hi2 e.symm)];exact hq
   rw[e2 _ hc,e1,yaa];intro⟨a1,a2⟩
   apply hi2
   have hpos:0<sz:=by omega
   exact Nat.div_eq_of_lt_le (by omega) (by rw[ybo];omega)
 ·rw[yaa (by omega),List.getElem?_eq_none (by rw[hfl];omega),List.getElem?_eq_none (by rw[hfl'];omega)]
def sC.set:∀ {l:List D} {cl:List (List zA)} {i:Nat} {d:D} {cs:List zA},sC tf l cl->RD tf d cs->sC tf (l.set i d) (cl.set i cs):=by
 intro l;induction l with
 | nil=>intro cl i d cs h _;rw[kG]at h;subst h;exact kG.2 rfl
 | cons e l ih=>
  intro cl i d cs h k;rw[uF]at h;obtain⟨c,r,rfl,h1,h2⟩:=h
  cases i with
  | zero=>exact uF.2 ⟨cs,r,rfl,k,h2⟩
  | succ i=>exact uF.2 ⟨c,r.set i cs,rfl,h1,ih h2 k⟩
def znj.grow{base sz:Nat}{l:List D}(h:znj base tf t sz l b lo){tf' t':Tr rA}(hf:dA tf tf')(hb:tf'.get b=none)(ht:t'.get b=t.get b):znj base tf' t' sz l b lo:=by
 obtain⟨h1,h2,cl,h3,h4,h5⟩:=h
 exact⟨h1,hb,cl,h3.off ht,h4,sC.mono hf _ _ h5⟩
def znj.cells{base sz:Nat}{l:List D}(h:znj base tf t sz l b lo){i:Nat}{d:D}(hi:l[i]?=some d):∃cs,cs.length=sz/\RD tf d cs/\At t b (i*sz) cs:=by
 obtain⟨h1,h2,cl,⟨c,h3,h4⟩,h5,h6⟩:=h
 obtain⟨cs,k1,k2⟩:=h6.get hi
 exact⟨cs,h5 i cs k1,k2,c,_,_,h3,fun j a hj=>h4 _ _ (rN h5 i j cs a k1 hj)⟩
def znj.store{sz:Nat}{l:List D}(h:znj C.base tf t sz l b lo){i o T:Nat}{d d':D}{y:tC}{v:zA}(hi:l[i]?=some d)(hT:C.tys.get T=some y)(hl:v.cells.length=y.size)(ho:o+v.cells.length<=sz)(hone:kB zA.one v.cells=true)
  (hd:∀cs,cs.length=sz->RD tf d cs->RD tf d' (qI cs o v.cells)) :
  ∃t',(∀n,rC C T (.ptr b (i*sz+o)) v ⟨n,t⟩=some (nD,⟨n,t'⟩))/\znj C.base tf t' sz (l.set i d') b lo/\iD b t t':=by
 obtain⟨h1,h2,cl,h3,h5,h6⟩:=h
 obtain⟨cs,k1,k2⟩:=h6.get hi
 have hlt:i<cl.length:=(ybc.1 k1).1
 have hfl:=uU h5
 have hb:i*sz+sz<=cl.length*sz:=by
  have:=ybi sz (show i+1<=cl.length by omega)
  rw[ybo]at this;omega
 obtain⟨t',g1,g2,g3⟩:=h3.store h1 hT hl (j:=i*sz+o) (by rw[hfl];omega) hone
 rw[z5l h5 k1 ho]at g2;refine⟨t',g1,⟨h1,h2,_,g2,fun k c hk=>?_,h6.set (hd cs (h5 i cs k1) k2)⟩,g3⟩
 rw[ycw]at hk;split at hk
 ·cases hk
  rw[zdx (by rw[h5 i cs k1];exact ho)]
  exact h5 i cs k1
 ·exact h5 k c hk
end
end
section
structure cD where
 blks:List Nat
 ok:Tr rA->Tr rA->Prop
 keep:∀ {tf t tf' t':Tr rA},ok tf t->dA tf tf'->(∀k∈blks,t'.get k=t.get k/\tf'.get k=none)->ok tf' t'
 live:∀ {tf t:Tr rA},ok tf t->∀k∈blks,∃y,t.get k=some y
structure rB (base:Nat) (tf t:Tr rA) (l:List cD):Prop where
 tle:dA tf t
 nodup:(l.flatMap cD.blks).Nodup
 ok:∀o∈l,o.ok tf t
 low:∀k∈l.flatMap cD.blks,base<=k/\tf.get k=none
def yI (v:zA):List Nat:=match v with | .slice b _ _ _=>[b] | _=>[]
def zcn{v:zA}{k:Nat}:k∈yI v ↔ eJ v k:=by
 unfold yI eJ;split
 ·rename_i b o n c
  constructor
  ·intro h;rw[ydd]at h;subst h;exact⟨_,_,_,rfl⟩
  ·rintro⟨o',n',c',e⟩;cases e;simp
 ·rename_i h
  constructor
  ·intro h;cases h
  ·rintro⟨o,n,c,e⟩;exact absurd e (h _ _ _ _)
def vG (b:Nat)(lo:Option Lo)(cs:List zA):cD where
 blks:=[b]
 ok:=fun _ t=>gD t b lo cs
 keep:=fun h _ k=>h.off (k b (by simp)).1
 live:=fun h k hk=>by rw[ydd]at hk;subst hk;obtain⟨c,hc,_⟩:=h;exact⟨_,hc⟩
def jH(base sz:Nat)(l:List D)(v:zA):cD where
 blks:=yI v
 ok:=fun tf t=>nM base tf t sz l v
 keep:=fun h hf k=>h.keep hf fun b hb=>k b (zcn.2 hb)
 live:=fun h k hk=>(h.none (zcn.1 hk)).2.2
section
variable {base:Nat}{tf t:Tr rA}{l A B:List cD}{o o':cD}
def rB.live(h:rB base tf t l){k:Nat}(hk:k∈l.flatMap cD.blks):∃y,t.get k=some y:=by
 obtain⟨o,ho,hk⟩:=List.mem_flatMap.1 hk
 exact o.live (h.ok o ho) k hk
def rB.fresh(h:rB base tf t l){n:Nat}(hn:t.get n=none):n∉l.flatMap cD.blks:=by
 intro hm;obtain⟨y,hy⟩:=h.live hm
 rw[hn]at hy;cases hy
def rB.tfn(h:rB base tf t l){n:Nat}(hn:t.get n=none):tf.get n=none:=by
 cases hq:tf.get n with
 | none=>rfl
 | some y=>have:=h.tle _ _ hq;rw[hn]at this;cases this
def rB.keep(h:rB base tf t l){tf' t':Tr rA}(hf:dA tf tf')(ht:dA tf' t')(hk:∀k∈l.flatMap cD.blks,t'.get k=t.get k/\tf'.get k=none):rB base tf' t' l:=
 ⟨ht,h.nodup,fun o ho=>o.keep (h.ok o ho) hf fun k hk'=>hk k (List.mem_flatMap.2 ⟨o,ho,hk'⟩),fun k hk'=>⟨(h.low k hk').1,(hk k hk').2⟩⟩
def rB.junk(h:rB base tf t l){n:Nat}{t':Tr rA}(hn:t.get n=none)(ho:iD n t t'):rB base tf t' l:=
 h.keep (dA.refl _) (h.tle.off (h.tfn hn) ho) fun k hk=>⟨ho k (fun e:k=n=>h.fresh hn (e ▸ hk)),(h.low k hk).2⟩
def rB.froze(h:rB base tf t l){n:Nat}{y:rA}(hn:n∉l.flatMap cD.blks)(hy:t.get n=some y)(hf:tf.get n=none):rB base (tf.set n y) t l/\dA tf (tf.set n y):=by
 have h1:=(yJ (t:=tf) hf y).1
 refine⟨h.keep h1 (fun k u hk=>?_) fun k hk=>⟨rfl,?_⟩,h1⟩
 ·rw[Tr.get_set]at hk
  split at hk
  ·rename_i e;subst e;cases hk;exact hy
  ·exact h.tle _ _ hk
 ·rw[Tr.get_set,yaa (fun e:k=n=>hn (e ▸ hk))];exact(h.low k hk).2
def cS:(A++o::B).flatMap cD.blks=A.flatMap cD.blks++(o.blks++B.flatMap cD.blks):=by simp
def rB.upd(h:rB base tf t (A++o::B)){t':Tr rA}(hk:∀k,k∉o.blks->k∉o'.blks->t'.get k=t.get k)(hn:∀k∈o'.blks,k∈o.blks\/(t.get k=none/\base<=k))(hok:o'.ok tf t')(hnd:o'.blks.Nodup)(ht:dA tf t'):rB base tf t' (A++o'::B):=by
 have hd:=h.nodup
 rw[cS]at hd;rw[List.nodup_append]at hd;obtain⟨d1,d2,d3⟩:=hd
 rw[List.nodup_append]at d2;obtain⟨d4,d5,d6⟩:=d2
 have oth:∀k,k∈A.flatMap cD.blks\/k∈B.flatMap cD.blks->k∉o.blks/\k∉o'.blks/\t'.get k=t.get k/\base<=k/\tf.get k=none:=by
  intro k hk';have hm:k∈(A++o::B).flatMap cD.blks:=by rw[cS];simp only[yaf];rcases hk' with h | h<;>simp[h]
  have h1:k∉o.blks:=fun hc=>by
   rcases hk' with h' | h'
   ·exact d3 k h' k (by simp[hc]) rfl
   ·exact d6 k hc k h' rfl
  have h2:k∉o'.blks:=fun hc=>by
   rcases hn k hc with h' | h'
   ·exact h1 h'
   ·obtain⟨y,hy⟩:=h.live hm
    rw[h'.1]at hy;cases hy
  exact⟨h1,h2,hk k h1 h2,h.low k hm⟩
 have mem:∀k,k∈(A++o'::B).flatMap cD.blks->(k∈A.flatMap cD.blks\/k∈B.flatMap cD.blks)\/k∈o'.blks:=by
  intro k hk';rw[cS]at hk'
  simp only[yaf]at hk'
  rcases hk' with h | h | h
  ·exact .inl (.inl h)
  ·exact .inr h
  ·exact .inl (.inr h)
 refine⟨ht,?_,fun p hp=>?_,fun k hk'=>?_⟩
 ·rw[cS,List.nodup_append]
  refine⟨d1,?_,fun x hx y hy e=>?_⟩
  ·rw[List.nodup_append]
   exact⟨hnd,d5,fun x hx y hy e=>(oth y (.inr hy)).2.1 (e ▸ hx)⟩
  ·subst e
   rcases yaf.1 hy with h' | h'
   ·exact(oth x (.inl hx)).2.1 h'
   ·exact d3 x hx x (by simp[h']) rfl
 ·have hp':p∈A\/p=o'\/p∈B:=by simpa using hp
  rcases hp' with h' | h' | h'
  ·exact p.keep (h.ok p (by simp[h'])) (dA.refl _) fun k hk'=>by
    obtain⟨_,_,e,_,f⟩:=oth k (.inl (List.mem_flatMap.2 ⟨p,h',hk'⟩));exact⟨e,f⟩
  ·subst h';exact hok
  ·exact p.keep (h.ok p (by simp[h'])) (dA.refl _) fun k hk'=>by
    obtain⟨_,_,e,_,f⟩:=oth k (.inr (List.mem_flatMap.2 ⟨p,h',hk'⟩));exact⟨e,f⟩
 ·rcases mem k hk' with h' | h'
  ·obtain⟨_,_,_,e,f⟩:=oth k h';exact⟨e,f⟩
  ·rcases hn k h' with h'' | h''
   ·exact h.low k (by rw[cS];simp[h''])
   ·exact⟨h''.2,h.tfn h''.1⟩
def z4k:cD:=⟨[],fun _ _=>True,fun _ _ _=>trivial,fun _ _ h=>by cases h⟩
def rB.add(h:rB base tf t (A++B)){t':Tr rA}(hk:∀k,k∉o'.blks->t'.get k=t.get k)(hn:∀k∈o'.blks,t.get k=none/\base<=k)(hok:o'.ok tf t')(hnd:o'.blks.Nodup)(ht:dA tf t'):rB base tf t' (A++o'::B):=by
 have e:rB base tf t (A++z4k::B):=by
  have hm:(A++z4k::B).flatMap cD.blks=(A++B).flatMap cD.blks:=by simp[z4k]
  refine⟨h.tle,by rw[hm];exact h.nodup,fun o ho=>?_,fun k hk=>h.low k (by rw[hm]at hk;exact hk)⟩
  have:o∈A\/o=z4k\/o∈B:=by simpa using ho
  rcases this with h' | h' | h'
  ·exact h.ok o (by simp[h'])
  ·subst h';trivial
  ·exact h.ok o (by simp[h'])
 exact e.upd (fun k _ h2=>hk k h2) (fun k hk=>.inr (hn k hk)) hok hnd ht
def rB.drop(h:rB base tf t (A++o::B)):rB base tf t (A++B):=by
 have hd:=h.nodup
 rw[cS]at hd;refine⟨h.tle,?_,fun p hp=>h.ok p (by rcases yaf.1 hp with h | h<;>simp[h]),fun k hk=>h.low k (by rw[cS];rw[List.flatMap_append]at hk;rcases yaf.1 hk with h | h<;>simp[h])⟩
 rw[List.flatMap_append];rw[List.nodup_append]at hd ⊢
 obtain⟨d1,d2,d3⟩:=hd
 rw[List.nodup_append]at d2;exact⟨d1,d2.2.1,fun x hx y hy e=>d3 x hx y (by simp[hy]) e⟩
def rB.notin(h:rB base tf t (A++o::B)){k:Nat}(hk:k∈o.blks):k∉(A++B).flatMap cD.blks:=by
 have hd:=h.nodup
 rw[cS,List.nodup_append]at hd;obtain⟨d1,d2,d3⟩:=hd
 rw[List.nodup_append]at d2;rw[List.flatMap_append];intro hm;rcases yaf.1 hm with h' | h'
 ·exact d3 k h' k (by simp[hk]) rfl
 ·exact d2.2.2 k hk k h' rfl
def rB.freezeL{sz:Nat}{m:List D}{v:zA}(h:rB base tf t (A++jH base sz m v::B)):∃tf',dA tf tf'/\rB base tf' t (A++B)/\lA tf' sz m v:=by
 have hl:nM base tf t sz m v:=h.ok (jH base sz m v) (by simp)
 obtain⟨tf',h1,h2,h3,h4⟩:=hl.freeze h.tle
 refine⟨tf',h1,h.drop.keep h1 h2 fun k hk=>⟨rfl,?_⟩,h3⟩
 have hb:¬ eJ v k:=fun hb=>h.notin (o:=jH base sz m v) (zcn.2 hb) hk
 rw[h4 k hb];exact(h.drop.low k hk).2
end
end
section
section
variable {t tf:Tr rA}{C:oA}
def zm4{T el sz:Nat}(hT:wK C T el sz){l:List D}{x:zA}(hx:lA tf sz l x)(ht:dA tf t)(hl:l.length<1000000){n:Nat}(hn:t.get n=none) :
  ∃v k t' tf',pF C T T .nilslice x ⟨n,t⟩=some (v,⟨k,t'⟩)/\lA tf' sz l v/\dA tf tf'/\dA tf' t'/\dA t t'/\iD n t t'/\iD n tf tf':=by
 obtain⟨⟨y,hy1,hy2,hy3⟩,⟨z,hz1,hz2,hz3,hz4,hz5⟩,hnb⟩:=hT
 have hcode:=NB.code hnb hz1
 obtain⟨cl,he,hd⟩:=hx
 have hcl:=hd.length
 obtain⟨hf,hlen⟩:=(he.mono ht).first (n:=n)
 have hall:=he.len
 have base:pF C T T .nilslice x ⟨n,t⟩=uM ⟨n,t⟩ el z cl.length cl.flatten:=by
  unfold pF kP;rw[hy1,sA,sA,hy3];simp only[ycl,lE];rw[hy2,sA,hz1,sA,hlen,sA,hz2,hf,sA];rfl
 have hfl:yB cl.flatten=cl.length*sz:=by rw[bC];exact uU hall
 have ok:sP z 0 0 cl.length cl.flatten=true:=by
  unfold sP;have h1:Nat.blt (0+cl.length+0) 1000000000=true:=vC.2 (by omega)
  have h2:Nat.blt ((0+cl.length+0)*z.bytes) 1000000000=true:=vC.2 (by
   have:=ydb (show 0+cl.length+0<=1000000 by omega) hz4
   omega)
  have h3:Nat.blt z.bytes 1000000000=true:=vC.2 (by omega)
  have h4:(!Nat.beq z.size 0)=true:=by
   cases hq:Nat.beq z.size 0 with
   | true=>have:=fB.1 hq;omega
   | false=>rfl
  have h5:Nat.beq (yB cl.flatten) (cl.length*z.size)=true:=by rw[hfl,hz2];exact fB.2 rfl
  have h6:Nat.beq (yB z.zero) z.size=true:=by rw[hz3,hz2];exact fB.2 rfl
  rw[h1,h2,h3,h4,h5,h6];rfl
 have hfn:tf.get n=none:=by
  cases hq:tf.get n with
  | none=>rfl
  | some u=>rw[ht _ _ hq]at hn;cases hn
 by_cases h0:cl.length=0
 ·have:cl=[]:=ycc.1 h0
  subst this;refine⟨.nilslice,n,t,tf,?_,⟨[],.inl ⟨rfl,rfl⟩,hd⟩,dA.refl _,ht,dA.refl _,iD.refl _ _,iD.refl _ _⟩
  rw[base];rfl
 ·have hb:Nat.beq cl.length 0=false:=by
   cases hq:Nat.beq cl.length 0 with
   | true=>exact absurd (fB.1 hq) h0
   | false=>rfl
  refine⟨.slice n 0 cl.length cl.length,n+1,t.set n (.cells (Tr.ofList cl.flatten) (yB cl.flatten) (some (oI el z))),tf.set n (.cells (Tr.ofList cl.flatten) (yB cl.flatten) (some (oI el z))),?_,⟨cl,zas hall (by rw[Tr.get_set,yab rfl]) (.inr ⟨_,rfl,by rw[oU,hz2]⟩),sC.mono (yJ hfn _).1 _ _ hd⟩,(yJ hfn _).1,fun k u hk=>?_,(yJ hn _).1,(yJ hn _).2,(yJ hfn _).2⟩
  ·rw[base]
   unfold uM;rw[hb,cond_false,ok];rfl
  ·rw[Tr.get_set]at hk ⊢
   split at hk
   ·rename_i e;rw[yab e];exact hk
   ·rename_i e;rw[yaa e];exact ht _ _ hk
def z1u(l:List Nat):List zA:=l.map fun(n:Nat)=>zA.int .u8 (n:Int)
end
end
end Go.Am
