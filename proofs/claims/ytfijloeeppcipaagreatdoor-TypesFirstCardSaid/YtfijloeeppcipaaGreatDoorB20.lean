/- Facts on types. (Printed by a tool.) -/
import Derived.Test.YtfijloeeppcipaaGreatDoorB19
set_option linter.all false
noncomputable section
set_option maxRecDepth 100000
namespace Go.Proofs
open Go Go.Am
variable [nC]
theorem ty3:yA.tys.get 3=some ⟨(.int .i64),1,8,[.int .i64 0],true⟩:=by kernel_rfl
theorem ty4:yA.tys.get 4=some ⟨.bool,1,1,[.bool false],true⟩:=by kernel_rfl
theorem ty5:yA.tys.get 5=some ⟨(.int .u8),1,1,[.int .u8 0],true⟩:=by kernel_rfl
theorem ty9:yA.tys.get 9=some ⟨.string,1,16,[.str []],true⟩:=by kernel_rfl
theorem ty22:yA.tys.get 22=some ⟨(.slice 59),1,24,[.nilslice],true⟩:=by kernel_rfl
theorem ty23:yA.tys.get 23=some ⟨(.slice 81),1,24,[.nilslice],true⟩:=by kernel_rfl
theorem ty24:yA.tys.get 24=some ⟨(.slice 56),1,24,[.nilslice],true⟩:=by kernel_rfl
theorem ty26:yA.tys.get 26=some ⟨(.struct [(0,9,1),(1,22,1),(2,23,1),(3,24,1)]),4,88,[.str [],.nilslice,.nilslice,.nilslice],true⟩:=by kernel_rfl
theorem ty27:yA.tys.get 27=some ⟨(.slice 202),1,24,[.nilslice],true⟩:=by kernel_rfl
theorem ty29:yA.tys.get 29=some ⟨(.struct [(0,4,1),(1,27,1)]),2,32,[.bool false,.nilslice],true⟩:=by kernel_rfl
theorem ty31:yA.tys.get 31=some ⟨(.struct [(0,29,2),(2,29,2)]),4,64,[.bool false,.nilslice,.bool false,.nilslice],true⟩:=by kernel_rfl
theorem ty34:yA.tys.get 34=some ⟨(.slice 36),1,24,[.nilslice],true⟩:=by kernel_rfl
theorem ty36:yA.tys.get 36=some ⟨(.struct [(0,5,1),(1,9,1),(2,33,6),(8,34,1)]),9,128,[.int .u8 0,.str [],.int .u8 0,.bool false,.nilslice,.bool false,.nilslice,.int .i64 0,.nilslice],true⟩:=by kernel_rfl
theorem zu3:yA.tys.get 38=some ⟨(.slice 5),1,24,[.nilslice],true⟩:=by kernel_rfl
theorem ty56:yA.tys.get 56=some ⟨(.struct [(0,9,1),(1,9,1),(2,3,1),(3,3,1),(4,3,1),(5,4,1),(6,36,9),(15,36,9)]),24,320,[.str [],.str [],.int .i64 0,.int .i64 0,.int .i64 0,.bool false,.int .u8 0,.str [],.int .u8 0,.bool false,.nilslice,.bool false,.nilslice,.int .i64 0,.nilslice,.int .u8 0,.str [],.int .u8 0,.bool false,.nilslice,.bool false,.nilslice,.int .i64 0,.nilslice],true⟩:=by kernel_rfl
theorem ty59:yA.tys.get 59=some ⟨(.struct [(0,9,1),(1,5,1),(2,4,1)]),3,24,[.str [],.int .u8 0,.bool false],true⟩:=by kernel_rfl
theorem ty79:yA.tys.get 79=some ⟨(.slice 84),1,24,[.nilslice],true⟩:=by kernel_rfl
theorem ty81:yA.tys.get 81=some ⟨(.struct [(0,9,1),(1,4,1),(2,79,1)]),3,48,[.str [],.bool false,.nilslice],true⟩:=by kernel_rfl
theorem ty84:yA.tys.get 84=some ⟨(.struct [(0,3,1),(1,3,1),(2,3,1),(3,31,4)]),7,88,[.int .i64 0,.int .i64 0,.int .i64 0,.bool false,.nilslice,.bool false,.nilslice],true⟩:=by kernel_rfl
theorem z68:yA.tys.get 100=some ⟨(.map 99 5),1,8,[.nilmap],true⟩:=by kernel_rfl
theorem ty132:yA.tys.get 132=some ⟨(.ptr 188),1,8,[.nilptr],true⟩:=by kernel_rfl
theorem ty137:yA.tys.get 137=some ⟨(.arr 3 5),3,3,[.int .u8 0,.int .u8 0,.int .u8 0],true⟩:=by kernel_rfl
theorem ty159:yA.tys.get 159=some ⟨(.struct [(0,5,1),(1,9,1),(2,4,1),(3,3,1),(4,3,1),(5,3,1),(6,3,1),(7,3,1)]),8,72,[.int .u8 0,.str [],.bool false,.int .i64 0,.int .i64 0,.int .i64 0,.int .i64 0,.int .i64 0],true⟩:=by kernel_rfl
theorem zmp:yA.tys.get 202=some ⟨(.int .u16),1,2,[.int .u16 0],true⟩:=by kernel_rfl
theorem ty213:yA.tys.get 213=some ⟨(.map 3 9),1,8,[.nilmap],true⟩:=by kernel_rfl
theorem zu5:yA.tys.get 225=some ⟨(.int .u64),1,8,[.int .u64 0],true⟩:=by kernel_rfl
theorem zu4:yA.tys.get 236=some ⟨(.arr 10 5),10,10,[.int .u8 0,.int .u8 0,.int .u8 0,.int .u8 0,.int .u8 0,.int .u8 0,.int .u8 0,.int .u8 0,.int .u8 0,.int .u8 0],true⟩:=by kernel_rfl
theorem ty238:yA.tys.get 238=some ⟨(.arr 7 9),7,112,[.str [],.str [],.str [],.str [],.str [],.str [],.str []],true⟩:=by kernel_rfl
theorem pL:yA.tys.get 244=some ⟨(.slice 246),1,24,[.nilslice],true⟩:=by kernel_rfl
theorem vG:yA.tys.get 246=some ⟨(.int .u32),1,4,[.int .u32 0],true⟩:=by kernel_rfl
theorem ty275:yA.tys.get 275=some ⟨(.arr 12 3),12,96,[.int .i64 0,.int .i64 0,.int .i64 0,.int .i64 0,.int .i64 0,.int .i64 0,.int .i64 0,.int .i64 0,.int .i64 0,.int .i64 0,.int .i64 0,.int .i64 0],true⟩:=by kernel_rfl
theorem ty279:yA.tys.get 279=some ⟨(.slice 29),1,24,[.nilslice],true⟩:=by kernel_rfl
theorem sl22:lF yA 22 59 3 true:=⟨⟨_,ty22,rfl⟩,⟨_,ty59,rfl,rfl⟩⟩
theorem sl23:lF yA 23 81 3 true:=⟨⟨_,ty23,rfl⟩,⟨_,ty81,rfl,rfl⟩⟩
theorem sl24:lF yA 24 56 24 true:=⟨⟨_,ty24,rfl⟩,⟨_,ty56,rfl,rfl⟩⟩
theorem sl27:lF yA 27 202 1 false:=⟨⟨_,ty27,rfl⟩,⟨_,zmp,rfl,rfl⟩⟩
theorem z7l:lF yA 34 36 9 true:=⟨⟨_,ty34,rfl⟩,⟨_,ty36,rfl,rfl⟩⟩
theorem sl38:lF yA 38 5 1 false:=⟨⟨_,zu3,rfl⟩,⟨_,ty5,rfl,rfl⟩⟩
theorem sl79:lF yA 79 84 7 true:=⟨⟨_,ty79,rfl⟩,⟨_,ty84,rfl,rfl⟩⟩
theorem rF:lF yA 244 246 1 false:=⟨⟨_,pL,rfl⟩,⟨_,vG,rfl,rfl⟩⟩
theorem sl279:lF yA 279 29 2 true:=⟨⟨_,ty279,rfl⟩,⟨_,ty29,rfl,rfl⟩⟩
end Go.Proofs
namespace Go.Am
open Go Go.RowKit
def cD (l:List Nat):List D:=l.map fun(n:Nat)=>D.int .u16 (n:Int)
theorem tV(l:List Nat):(cD l).length=l.length:=by simp[cD]
structure uH where
 neg:Bool
 limbs:List Nat
def uH.d(w:uH):D:=.st [.bool w.neg,.sl 1 (cD w.limbs)]
structure uE where
 n:uH
 d:uH
def uE.dd(f:uE):D:=.st [f.n.d,f.d.d]
structure gF where
 kind:Nat
 f:uE
 i:Int
def gF.d(v:gF):D:=.st [.int .u8 v.kind,v.f.dd,.int .i64 v.i]
inductive mA where
 | mk (op:Nat) (name:List Nat) (v:gF) (args:List mA)
def mA.op:mA->Nat | .mk o _ _ _=>o
def mA.name:mA->List Nat | .mk _ n _ _=>n
def mA.v:mA->gF | .mk _ _ v _=>v
def mA.args:mA->List mA | .mk _ _ _ a=>a
mutual
def mA.d:mA->D
 | .mk op name v args=>.st [.int .u8 op,.str name,v.d,.sl 9 (mA.ds args)]
def mA.ds:List mA->List D
 | []=>[]
 | x::l=>x.d::mA.ds l
end
theorem mA.ds_eq(l:List mA):mA.ds l=l.map mA.d:=by
 induction l with
 | nil=>rfl
 | cons x l ih=>simp[mA.ds,ih]
structure zl9 where
 a:Int
 b:Int
 known:Int
 f:uE
def zl9.d(r:zl9):D:=.st [.int .i64 r.a,.int .i64 r.b,.int .i64 r.known,r.f.dd]
structure aG where
 name:List Nat
 two:Bool
 rows:List zl9
def aG.d(x:aG):D:=.st [.str x.name,.bool x.two,.sl 7 (x.rows.map zl9.d)]
structure qI where
 name:List Nat
 kind:Nat
 fact:Bool
def qI.d(x:qI):D:=.st [.str x.name,.int .u8 x.kind,.bool x.fact]
structure iH where
 name:List Nat
 label:List Nat
 from_:Int
 to:Int
 known:Int
 off:Bool
 when_:mA
 then_:mA
def iH.d(x:iH):D:=.st [.str x.name,.str x.label,.int .i64 x.from_,.int .i64 x.to,.int .i64 x.known,.bool x.off,x.when_.d,x.then_.d]
structure bE where
 name:List Nat
 defs:List qI
 tables:List aG
 clauses:List iH
def bE.d(x:bE):D:=.st [.str x.name,.sl 3 (x.defs.map qI.d),.sl 3 (x.tables.map aG.d),.sl 24 (x.clauses.map iH.d)]
section
variable {t:Tr rA}{cs:List zA}
theorem nU{w:uH}(h:RD t w.d cs):∃v,cs=[.bool w.neg,v]/\jA t 1 (cD w.limbs) v:=by
 unfold uH.d at h;simp only[wI,vF,sH,fK,uR]at h;obtain⟨cl,rfl,c,r,rfl,rfl,c',r',rfl,⟨v,rfl,h⟩,rfl⟩:=h
 exact⟨v,rfl,h⟩
theorem zho{f:uE}(h:RD t f.dd cs):∃u v,cs=[.bool f.n.neg,u,.bool f.d.neg,v]/\jA t 1 (cD f.n.limbs) u/\jA t 1 (cD f.d.limbs) v:=by
 unfold uE.dd at h;simp only[wI,vF,sH]at h;obtain⟨cl,rfl,c,r,rfl,h1,c',r',rfl,h2,rfl⟩:=h
 obtain⟨u,rfl,h3⟩:=nU h1
 obtain⟨v,rfl,h4⟩:=nU h2
 exact⟨u,v,rfl,h3,h4⟩
theorem zwn{v:gF}(h:RD t v.d cs):∃a b,cs=[.int .u8 v.kind,.bool v.f.n.neg,a,.bool v.f.d.neg,b,.int .i64 v.i]/\jA t 1 (cD v.f.n.limbs) a/\jA t 1 (cD v.f.d.limbs) b:=by
 unfold gF.d at h;simp only[wI,vF,sH,uM]at h;obtain⟨cl,rfl,c,r,rfl,rfl,c',r',rfl,h2,c'',r'',rfl,rfl,rfl⟩:=h
 obtain⟨a,b,rfl,h3,h4⟩:=zho h2
 exact⟨a,b,rfl,h3,h4⟩
theorem bI{x:mA}(h:RD t x.d cs):∃a b c,cs=[.int .u8 x.op,.str x.name,.int .u8 x.v.kind,.bool x.v.f.n.neg,a,.bool x.v.f.d.neg,b,.int .i64 x.v.i,c] ∧
  jA t 1 (cD x.v.f.n.limbs) a/\jA t 1 (cD x.v.f.d.limbs) b/\jA t 9 (x.args.map mA.d) c:=by
 obtain⟨op,name,v,args⟩:=x
 unfold mA.d at h;rw[mA.ds_eq]at h;simp only[wI,vF,sH,uM,zeu,fK]at h;obtain⟨cl,rfl,c,r,rfl,rfl,c',r',rfl,rfl,c'',r'',rfl,hv,c3,r3,rfl,⟨w,rfl,h4⟩,rfl⟩:=h
 obtain⟨a,b,rfl,h5,h6⟩:=zwn hv
 exact⟨a,b,w,rfl,h5,h6,h4⟩
theorem rd_row{r:zl9}(h:RD t r.d cs):∃a b,cs=[.int .i64 r.a,.int .i64 r.b,.int .i64 r.known,.bool r.f.n.neg,a,.bool r.f.d.neg,b]/\jA t 1 (cD r.f.n.limbs) a/\jA t 1 (cD r.f.d.limbs) b:=by
 unfold zl9.d at h;simp only[wI,vF,sH,uM]at h;obtain⟨cl,rfl,c,r,rfl,rfl,c',r',rfl,rfl,c'',r'',rfl,rfl,c3,r3,rfl,hf,rfl⟩:=h
 obtain⟨a,b,rfl,h3,h4⟩:=zho hf
 exact⟨a,b,rfl,h3,h4⟩
theorem zpz{x:aG}(h:RD t x.d cs):∃a,cs=[.str x.name,.bool x.two,a]/\jA t 7 (x.rows.map zl9.d) a:=by
 unfold aG.d at h;simp only[wI,vF,sH,zeu,uR,fK]at h;obtain⟨cl,rfl,c,r,rfl,rfl,c',r',rfl,rfl,c'',r'',rfl,⟨a,rfl,h⟩,rfl⟩:=h
 exact⟨a,rfl,h⟩
theorem z5p{x:qI}(h:RD t x.d cs):cs=[.str x.name,.int .u8 x.kind,.bool x.fact]:=by
 unfold qI.d at h;simp only[wI,vF,sH,zeu,uR,uM]at h;obtain⟨cl,rfl,c,r,rfl,rfl,c',r',rfl,rfl,c'',r'',rfl,rfl,rfl⟩:=h
 rfl
def yM(x:mA)(a b c:zA):List zA:=[.int .u8 x.op,.str x.name,.int .u8 x.v.kind,.bool x.v.f.n.neg,a,.bool x.v.f.d.neg,b,.int .i64 x.v.i,c]
theorem zwo{x:iH}(h:RD t x.d cs):∃a b c a' b' c',cs=[.str x.name,.str x.label,.int .i64 x.from_,.int .i64 x.to,.int .i64 x.known,.bool x.off]++yM x.when_ a b c++yM x.then_ a' b' c' ∧
  RD t x.when_.d (yM x.when_ a b c)/\RD t x.then_.d (yM x.then_ a' b' c'):=by
 unfold iH.d at h;simp only[wI,vF,sH,zeu,uR,uM]at h;obtain⟨cl,rfl,c1,r1,rfl,rfl,c2,r2,rfl,rfl,c3,r3,rfl,rfl,c4,r4,rfl,rfl,c5,r5,rfl,rfl,c6,r6,rfl,rfl,c7,r7,rfl,h7,c8,r8,rfl,h8,rfl⟩:=h
 obtain⟨a,b,c,e1,_⟩:=bI h7
 obtain⟨a',b',c',e2,_⟩:=bI h8
 subst e1 e2
 exact⟨a,b,c,a',b',c',rfl,h7,h8⟩
theorem mR{x:bE}(h:RD t x.d cs):∃a b c,cs=[.str x.name,a,b,c]/\jA t 3 (x.defs.map qI.d) a/\jA t 3 (x.tables.map aG.d) b/\jA t 24 (x.clauses.map iH.d) c:=by
 unfold bE.d at h;simp only[wI,vF,sH,zeu,fK]at h;obtain⟨cl,rfl,c1,r1,rfl,rfl,c2,r2,rfl,⟨a,rfl,h1⟩,c3,r3,rfl,⟨b,rfl,h2⟩,c4,r4,rfl,⟨c,rfl,h3⟩,rfl⟩:=h
 exact⟨a,b,c,rfl,h1,h2,h3⟩
end
theorem uH.zs(x:uH):x.d.zs=[.bool false,.nilslice]:=rfl
theorem uE.zs(x:uE):x.dd.zs=[.bool false,.nilslice,.bool false,.nilslice]:=rfl
theorem gF.zs(x:gF):x.d.zs=[.int .u8 0,.bool false,.nilslice,.bool false,.nilslice,.int .i64 0]:=rfl
theorem mA.zs(x:mA):x.d.zs=[.int .u8 0,.str [],.int .u8 0,.bool false,.nilslice,.bool false,.nilslice,.int .i64 0,.nilslice]:=by cases x;rfl
theorem aG.zs(x:aG):x.d.zs=[.str [],.bool false,.nilslice]:=rfl
theorem qI.zs(x:qI):x.d.zs=[.str [],.int .u8 0,.bool false]:=rfl
theorem iH.zs(x:iH):x.d.zs=[.str [],.str [],.int .i64 0,.int .i64 0,.int .i64 0,.bool false,.int .u8 0,.str [],.int .u8 0,.bool false,.nilslice,.bool false,.nilslice,.int .i64 0,.nilslice,.int .u8 0,.str [],.int .u8 0,.bool false,.nilslice,.bool false,.nilslice,.int .i64 0,.nilslice]:=by
 obtain⟨_,_,_,_,_,_,w,v⟩:=x;cases w;cases v;rfl
theorem bE.zs(x:bE):x.d.zs=[.str [],.nilslice,.nilslice,.nilslice]:=rfl
def cK(f:uE):Nat:=1+f.n.limbs.length+f.d.limbs.length
mutual
/-- the size, as it is counted up to a limit -/
def jI:mA->Int->Int
 | .mk _ name v args,left=>pN args left (cK v.f+(name.length:Int) / 30)
def pN:List mA->Int->Int->Int
 | [],_,n=>n
 | x::l,left,n=>if n<=left then pN l left (n+jI x (left-n))else n
end
def iD:Nat:=1125899906842624
def uE.ok(f:uE):Prop:=f.n.limbs.length<iD/\f.d.limbs.length<iD
mutual
def mA.ok:mA->Prop
 | .mk _ name v args=>name.length<iD/\v.f.ok/\args.length<iD/\mA.oks args
def mA.oks:List mA->Prop
 | []=>True
 | x::l=>x.ok/\mA.oks l
end
end Go.Am
namespace Go.Am
open Go Go.RowKit
theorem cV{f:uE}(h:f.ok):cK f<4503599627370496:=by
 unfold uE.ok iD at h;unfold cK;omega
mutual
theorem sX:∀(x:mA) (left:Int),x.ok->0<=jI x left/\jI x left<=max left 0+9007199254740992
 | .mk op name v args,left,h=>by
  unfold mA.ok at h;obtain⟨h1,h2,_,h4⟩:=h
  have hf:=cV h2
  unfold iD at h1;unfold jI;have:=bV args left (cK v.f+(name.length:Int) / 30) h4 (by omega)
  omega
theorem bV:∀(l:List mA) (left n:Int),mA.oks l->0<=n->n<=pN l left n/\pN l left n<=max n (left+9007199254740992)
 | [],left,n,_,_=>by unfold pN;omega
 | x::l,left,n,h,hn=>by
  unfold mA.oks at h;unfold pN;split
  ·have h1:=sX x (left-n) h.1
   have h2:=bV l left (n+jI x (left-n)) h.2 (by omega)
   omega
  ·omega
end
theorem zD{a b:Int}:(vC a b=true) ↔ a<b:=cU a b
theorem dF{a b:Int}:(rC a b=true) ↔ a<=b:=zid a b
theorem pY{α:Type}{l:List α}{i:Nat}{x:α}{r:List α}(h:l.drop i=x::r):l[i]?=some x/\l.drop (i+1)=r/\i<l.length:=by
 have h1:(l.drop i)[0]?=some x:=by rw[h];rfl
 rw[ycf]at h1;have hi:i<l.length:=by
  rcases Nat.lt_or_ge i l.length with hl | hl
  ·exact hl
  ·rw[yau hl]at h;cases h
 refine⟨by simpa using h1,?_,hi⟩
 have:=List.drop_drop (l:=l) (i:=1) (j:=i)
 rw[h]at this;simpa[Nat.add_comm]using this.symm
theorem zee{α:Type}{l:List α}{i:Nat}(h:l.drop i=[]):l.length<=i:=by
 rcases Nat.lt_or_ge i l.length with hl | hl
 ·have:=congrArg List.length h;simp at this;omega
 ·exact hl
theorem yL(l:List Nat):(Int.ofNat (dA l))=(l.length:Int):=by rw[jC];rfl
theorem vP(cs:List zA):xX true cs=.agg cs:=rfl
end Go.Am
namespace Go.Am
open Go Go.RowKit
def pB(k:IntKind)(l:List Nat):List D:=l.map fun(n:Nat)=>D.int k (n:Int)
theorem lE{k:IntKind}(l:List Nat):(pB k l).length=l.length:=by simp[pB]
theorem zz2{k:IntKind}{l:List Nat}{i x:Nat}(h:l[i]?=some x):(pB k l)[i]?=some (.int k (x:Int)):=by simp[pB,h]
theorem zgn{k:IntKind}{l:List Nat}{n:Nat}:(pB k l).take n=pB k (l.take n):=by simp[pB]
def aE (t:Tr rA)(b:Nat)(k:IntKind)(l:List Nat):Prop:=∃c,t.get b=some (.cells c l.length none)/\∀(j:Nat) x,l[j]?=some x->c.get j=some (.int k (x:Int))
def mD (b:Nat)(t t':Tr rA):Prop:=∀c,c≠b->t'.get c=t.get c
theorem mD.refl(b:Nat)(t:Tr rA):mD b t t:=fun _ _=>rfl
theorem mD.trans{b:Nat}{x y z:Tr rA}(h:mD b x y)(k:mD b y z):mD b x z:=fun c hc=>(k c hc).trans (h c hc)
section
variable {t t' t0:Tr rA}{C:pA}{b:Nat}{k:IntKind}{l:List Nat}
theorem aE.off(h:aE t b k l){c:Nat}(hc:b≠c)(ho:mD c t t'):aE t' b k l:=by
 obtain⟨x,h1,h2⟩:=h;exact⟨x,by rw[ho b hc];exact h1,h2⟩
theorem aE.tle(h:aE t b k l)(ho:zB t t'):aE t' b k l:=by
 obtain⟨x,h1,h2⟩:=h;exact⟨x,ho _ _ h1,h2⟩
theorem zB.off(h:zB t0 t)(hb:t0.get b=none)(ho:mD b t t'):zB t0 t':=by
 intro c y hc;rw[ho c (by intro e;rw[e,hb]at hc;cases hc)]
 exact h c y hc
theorem aE.slice(h:aE t b k l){off n cap:Nat}(hn:off+n<=l.length)(hc:n<=cap):jA t 1 (pB k ((l.drop off).take n)) (.slice b off n cap):=by
 obtain⟨c,h1,h2⟩:=h
 refine⟨((l.drop off).take n).map fun(x:Nat)=>[.int k (x:Int)],.inr ⟨b,off,cap,?_,?_,⟨c,_,none,h1,.inl rfl⟩,fun i cs hi=>?_⟩,?_⟩
 ·congr 1;simp;omega
 ·simp;omega
 ·simp only[yav,Option.map_eq_some_iff]at hi
  obtain⟨x,hx,rfl⟩:=hi
  refine⟨rfl,c,_,none,h1,fun j a hj=>?_⟩
  cases j with
  | zero=>
   simp at hj;subst hj;rw[ycg]at hx;split at hx
   ·rw[ycf]at hx
    exact h2 (off+i*1+0) x (by rw[show off+i*1+0=off+i by omega];exact hx)
   ·cases hx
  | succ j=>simp at hj
 ·refine lC.mk (by simp[pB]) fun i d cs hd hc=>?_
  simp only[pB,yav,Option.map_eq_some_iff]at hd hc;obtain⟨x,hx,rfl⟩:=hd
  obtain⟨y,hy,rfl⟩:=hc
  rw[hx]at hy;cases hy;rfl
theorem aE.all(h:aE t b k l){cap:Nat}(hc:l.length<=cap):jA t 1 (pB k l) (.slice b 0 l.length cap):=by
 have:=h.slice (off:=0) (n:=l.length) (by omega) hc
 simpa using this
theorem lV{T el sz:Nat}{agg:Bool}(h:lF C T el sz agg){off n cap i:Nat}(hi:i<n):lB C T (.slice b off n cap) (.int .i64 (i:Int))=some (.ptr b (off+i*sz)):=by
 obtain⟨⟨y,hy1,hy2⟩,⟨z,hz1,hz2,hz3⟩⟩:=h
 unfold lB;rw[hy1,uA];have:(zA.int .i64 (i:Int)).asNat=some i:=rfl
 rw[this,uA];simp only[zA.asSlice];rw[hy2,uA,hz1,uA,dB.2 hi,hz2];rfl
theorem aE.load(h:aE t b k l){j x:Nat}(hj:l[j]?=some x){ty:Nat}{y:uC}(hy:C.tys.get ty=some y)(ha:y.desc.isAgg=false):oA C ty ⟨0,t⟩ (.ptr b j)=some (.int k (x:Int)):=by
 obtain⟨c,h1,h2⟩:=h
 unfold oA;simp only[zA.asPtr,uA];rw[hy,uA];unfold uD;rw[h1,uA];simp only[rA.asCells,uA];unfold fM;rw[ha,cond_false];exact h2 j x hj
theorem aE.store(h:aE t b k l)(hb:C.base<=b){j:Nat}(hj:j<l.length)(x:Nat){ty:Nat}{y:uC}(hy:C.tys.get ty=some y)(hs:y.size=1) :
  ∃t',(∀n,dC C ty (.ptr b j) (.int k (x:Int)) ⟨n,t⟩=some (pD,⟨n,t'⟩))/\aE t' b k (l.set j x)/\mD b t t':=by
 obtain⟨c,h1,h2⟩:=h
 refine⟨t.set b (.cells (c.setMany [.int k (x:Int)] j) l.length none),fun n=>?_,⟨c.setMany [.int k (x:Int)] j,?_,fun i y hi=>?_⟩,fun d hd=>?_⟩
 ·unfold dC
  rw[hy,uA];simp only[zA.asPtr,uA,zA.cells,zA.asAgg];rw[hs];have e1:Nat.beq (dA [zA.int k (x:Int)]) 1=true:=rfl
  rw[e1,nD];unfold uI uD;have e2:(!Nat.blt b C.base)=true:=by
   cases hq:Nat.blt b C.base with
   | true=>have:=dB.1 hq;omega
   | false=>rfl
  rw[e2,nD,h1,uA];simp only[rA.asCells,uA];have e3:Nat.ble (j+dA [zA.int k (x:Int)]) l.length=true:=eD.2 hj
  have e4:tC zA.one [zA.int k (x:Int)]=true:=rfl
  rw[e3,e4];rfl
 ·rw[Tr.get_set,if_pos rfl,yci]
 ·rw[Tr.get_setMany]
  rw[ybx]at hi;split at hi
  ·rename_i e
   subst e;rw[if_pos (by simp)]
   cases hi;simp
  ·rename_i e
   rw[if_neg (by simp;omega)]
   exact h2 i y hi
 ·rw[Tr.get_set,if_neg hd]
theorem eU{T el:Nat}{y z:uC}(hT:C.tys.get T=some y)(hel:y.desc.asSlice=some el)(hz:C.tys.get el=some z)(hzero:z.zero=[.int k 0])(hs:z.size=1)(hby:z.bytes<=8){n:Nat}(hn:n<1000000)(hb:t.get b=none) :
  ∃t',qN C T (.int .i64 (n:Int)) (.int .i64 (n:Int)) ⟨b,t⟩=some (.slice b 0 n n,⟨b+1,t'⟩)/\aE t' b k (List.replicate n 0)/\zB t t'/\mD b t t':=by
 have hrep:∀n,gI [zA.int k 0] n=List.replicate n (.int k 0):=by
  intro n;induction n with
  | zero=>rfl
  | succ n ih=>unfold gI;rw[ih,jF,List.replicate_succ];rfl
 refine⟨t.set b (.cells (Tr.ofList (gI z.zero n)) (dA (gI z.zero n)) none),?_,⟨Tr.ofList (gI z.zero n),?_,fun j x hj=>?_⟩,fun c y' hc=>?_,fun c hc=>?_⟩
 ·unfold qN
  rw[hT,uA,hel,uA,hz,uA];have e1:(zA.int .i64 (n:Int)).asNat=some n:=rfl
  rw[e1,uA,uA];have e2:(Nat.ble n n&&Nat.blt n 1000000&&Nat.blt (n*z.bytes) 1000000000&&Nat.beq (dA z.zero) z.size)=true:=by
   rw[hzero,hs,show Nat.ble n n=true from eD.2 (yal n),dB.2 hn]
   have:n*z.bytes<1000000000:=by
    have:=ycc (Nat.le_of_lt hn) hby
    omega
   rw[dB.2 this];rfl
  rw[e2,nD];rfl
 ·rw[Tr.get_set,if_pos rfl,hzero,hrep,jC];simp
 ·rw[List.getElem?_replicate]at hj
  split at hj
  ·cases hj
   rw[Tr.get_ofList,hzero,hrep,List.getElem?_replicate];rename_i e;rw[if_pos e];rfl
  ·cases hj
 ·rw[Tr.get_set,if_neg (by intro e;rw[e,hb]at hc;cases hc)];exact hc
 ·rw[Tr.get_set,if_neg hc]
end
end Go.Am
namespace Go.Am
def val (B:Nat):List Nat->Nat
 | []=>0
 | a::l=>a+B*val B l
def tB(B:Nat)(l:List Nat):Prop:=∀x∈l,x<B
def norm (l:List Nat):Prop:=∀h:l≠[],l.getLast h≠0
theorem eS(B:Nat):∀(l m:List Nat),val B (l++m)=val B l+B^l.length*val B m
 | [],m=>by simp[val]
 | a::l,m=>by
  simp only[List.cons_append,val,eS B l m,yao,Nat.pow_succ];rw[yan,<- yak,yai B (B^l.length)]
  omega
theorem oK{B:Nat}(hB:0<B):∀ {l:List Nat},tB B l->val B l<B^l.length
 | [],_=>by simp[val]
 | a::l,h=>by
  have h1:=h a (yaz)
  have h2:=oK hB (l:=l) fun x hx=>h x (yas _ hx)
  simp only[val,yao,Nat.pow_succ];have h3:B*(val B l+1)<=B*B^l.length:=yaw B h2
  rw[yan,yai B (B^l.length)]at h3
  omega
theorem fS(B:Nat)(l:List Nat)(n:Nat):val B l=val B (l.take n)+B^(l.take n).length*val B (l.drop n):=by
 rw[<- eS,List.take_append_drop]
theorem wR{B:Nat}{l:List Nat}(h:tB B l)(n:Nat):tB B (l.take n):=fun x hx=>h x (List.mem_of_mem_take hx)
theorem zg1{B:Nat}{l:List Nat}(h:tB B l)(n:Nat):tB B (l.drop n):=fun x hx=>h x (List.mem_of_mem_drop hx)
theorem zl1{B:Nat}{l m:List Nat}(h:tB B l)(k:tB B m):tB B (l++m):=fun x hx=>(List.mem_append.1 hx).elim (h x) (k x)
def sE:List Nat->List Nat
 | []=>[]
 | a::l=>if sE l=[]/\a=0 then []else a::sE l
theorem pM(B:Nat):∀l:List Nat,val B (sE l)=val B l
 | []=>rfl
 | a::l=>by
  unfold sE;have ih:=pM B l
  split
  ·rename_i h
   rw[h.1]at ih;have:val B l=0:=by rw[<- ih];rfl
   simp[val,this,h.2]
  ·simp[val,ih]
theorem oP:∀l:List Nat,norm (sE l)
 | []=>fun h=>(h rfl).elim
 | a::l=>by
  have ih:=oP l
  unfold sE;split
  ·exact fun h=>(h rfl).elim
  ·rename_i h
   intro hne;by_cases hs:sE l=[]
   ·have ha:a≠0:=fun e=>h ⟨hs,e⟩
    simp[hs,ha]
   ·rw[List.getLast_cons hs];exact ih hs
theorem zQ{B:Nat}:∀ {l:List Nat},tB B l->tB B (sE l)
 | [],h=>h
 | a::l,h=>by
  have ih:=zQ (l:=l) fun x hx=>h x (yas _ hx)
  unfold sE;split
  ·exact fun x hx=>(by cases hx)
  ·exact fun x hx=>(yat.1 hx).elim (fun e=>e ▸ h a yaz) (ih x)
theorem zct:∀l:List Nat,(sE l).length<=l.length
 | []=>yal _
 | a::l=>by unfold sE;have:=zct l;split<;>simp<;>omega
theorem zau:∀l:List Nat,sE (l++[0])=sE l
 | []=>by simp[sE]
 | a::l=>by
  show(if sE (l++[0])=[]/\a=0 then []else a::sE (l++[0]))=_
  rw[zau l];rfl
theorem fV:∀ {l:List Nat},norm l->sE l=l
 | [],_=>rfl
 | a::l,h=>by
  have hl:norm l:=by
   intro hne;have:=h (by simp)
   rw[List.getLast_cons hne]at this;exact this
  unfold sE;rw[fV hl];split
  ·rename_i e
   have:=h (by simp)
   obtain⟨rfl,rfl⟩:=e
   simp at this
  ·rfl
theorem eX{B:Nat}(hB:0<B){l:List Nat}(h:norm l)(h0:val B l=0):l=[]:=by
 have key:∀l:List Nat,val B l=0->∀x∈l,x=0:=by
  intro l;induction l with
  | nil=>intro _ x hx;cases hx
  | cons a l ih=>
   intro h x hx;simp only[val]at h;have ha:a=0:=by omega
   have hm:B*val B l=0:=by omega
   have hl:val B l=0:=by
    rcases Nat.mul_eq_zero.1 hm with e | e
    ·omega
    ·exact e
   rcases yat.1 hx with rfl | hx
   ·exact ha
   ·exact ih hl x hx
 rcases List.eq_nil_or_concat l with e | ⟨m,a,e⟩
 ·exact e
 ·exfalso
  subst e;have:=h (by simp)
  simp at this;exact this (key _ h0 a (by simp))
theorem zuq{B:Nat}{l:List Nat}(h:norm l)(hne:l≠[]):B^(l.length-1)<=val B l:=by
 rcases List.eq_nil_or_concat l with e | ⟨m,a,e⟩
 ·exact absurd e hne
 ·rw[List.concat_eq_append]at e
  subst e;have:=h (by simp)
  simp at this;rw[eS];simp only[yah,yao,yay,val];have:1<=a+B*0:=by omega
  calc B^(m.length+1-1)=B^m.length*1:=by simp
   _<=B^m.length*(a+B*0):=yaw _ this
   _<=_:=Nat.le_add_left _ _
theorem zup{B:Nat}(hB:0<B):∀ {l m:List Nat},tB B l->tB B m->l.length=m.length->val B l=val B m->l=m
 | [],[],_,_,_,_=>rfl
 | a::l,b::m,h1,h2,hl,hv=>by
  have ha:=h1 a yaz
  have hb:=h2 b yaz
  simp only[val]at hv;have e1:a=b:=by
   have:=congrArg (· % B) hv
   simp only[Nat.add_mul_mod_self_left,Nat.mod_eq_of_lt ha,Nat.mod_eq_of_lt hb]at this;exact this
  subst e1;have e2:val B l=val B m:=by
   have:B*val B l=B*val B m:=by omega
   exact Nat.eq_of_mul_eq_mul_left hB this
  rw[zup hB (fun x hx=>h1 x (yas _ hx)) (fun x hx=>h2 x (yas _ hx)) (by simpa using hl) e2]
 | [],_::_,_,_,h,_=>by simp at h
 | _::_,[],_,_,h,_=>by simp at h
theorem uO{B:Nat}(hB:1<B){l m:List Nat}(h1:tB B l)(h3:norm m)(hv:val B m<=val B l):m.length<=l.length:=by
 by_cases hm:m=[]
 ·simp[hm]
 ·have a:=zuq (B:=B) h3 hm
  have b:=oK (by omega) h1
  have:B^(m.length-1)<B^l.length:=by omega
  have:=(Nat.pow_lt_pow_iff_right hB).1 this
  omega
theorem z2q{B:Nat}(hB:1<B){l m:List Nat}(h1:tB B l)(h2:tB B m)(h3:norm l)(h4:norm m)(hv:val B l=val B m):l=m:=by
 have a:=uO hB h1 h4 (by omega)
 have b:=uO hB h2 h3 (by omega)
 exact zup (by omega) h1 h2 (by omega) hv
def pJ (a b:List Nat):Int:=if a.length≠b.length then(if a.length<b.length then -1 else 1)else go a b
where go:List Nat->List Nat->Int
 | a::l,b::m=>if go l m≠0 then go l m else if a<b then -1 else if b<a then 1 else 0
 | _,_=>0
theorem z0a{B:Nat}:∀ {a b:List Nat},tB B a->tB B b->a.length=b.length->(pJ.go a b<0 ↔ val B a<val B b)/\(pJ.go a b=0 ↔ val B a=val B b)
 | [],[],_,_,_=>by simp[pJ.go,val]
 | a::l,b::m,h1,h2,hl=>by
  have ha:=h1 a yaz
  have hb:=h2 b yaz
  obtain⟨i1,i2⟩:=z0a (a:=l) (b:=m) (fun x hx=>h1 x (yas _ hx)) (fun x hx=>h2 x (yas _ hx)) (by simpa using hl)
  have lt_of:∀ {x y:Nat},x<y->∀u v,u<B->u+B*x<v+B*y:=by
   intro x y h u v hu;have:B*(x+1)<=B*y:=yaw B h
   rw[yan]at this;omega
  unfold pJ.go;simp only[val];by_cases h0:pJ.go l m=0
  ·have e:=i2.1 h0
   rw[if_neg (by simpa using h0),e]
   by_cases c1:a<b
   ·rw[if_pos c1];constructor<;>constructor<;>intro h<;>omega
   ·rw[if_neg c1]
    by_cases c2:b<a
    ·rw[if_pos c2];constructor<;>constructor<;>intro h<;>omega
    ·rw[if_neg c2];constructor<;>constructor<;>intro h<;>omega
  ·rw[if_pos h0]
   constructor
   ·rw[i1]
    constructor
    ·intro h;exact lt_of h a b ha
    ·intro h
     rcases Nat.lt_trichotomy (val B l) (val B m)with g | g | g
     ·exact g
     ·exact absurd (i2.2 g) h0
     ·have:=lt_of g b a hb;omega
   ·constructor
    ·intro h;exact absurd h h0
    ·intro h
     rcases Nat.lt_trichotomy (val B l) (val B m)with g | g | g
     ·have:=lt_of g a b ha;omega
     ·exact i2.2 g
     ·have:=lt_of g b a hb;omega
 | [],_::_,_,_,h=>by simp at h
 | _::_,[],_,_,h=>by simp at h
theorem zz9{B:Nat}(hB:1<B){a b:List Nat}(h1:tB B a)(h2:tB B b)(h3:norm a)(h4:norm b):pJ a b<0 ↔ val B a<val B b:=by
 unfold pJ;by_cases hl:a.length=b.length
 ·rw[if_neg (by simpa using hl)];exact(z0a h1 h2 hl).1
 ·rw[if_pos hl]
  by_cases hlt:a.length<b.length
  ·rw[if_pos hlt]
   refine⟨fun _=>?_,fun _=>by omega⟩
   rcases Nat.lt_or_ge (val B a) (val B b)with g | g
   ·exact g
   ·have:=uO hB h1 h4 g;omega
  ·rw[if_neg hlt]
   refine⟨fun h=>by omega,fun h=>?_⟩
   have:=uO hB h2 h3 (by omega);omega
end Go.Am
namespace Go.Am
open Go Go.RowKit
theorem mE{n:Int}(h1:0<=n)(h2:n<18446744073709551616):wA .u64 n=n:=by
 rw[pK];simp only[IntKind.wrap,IntKind.bits,IntKind.signed];simp;omega
theorem tQ{n:Int}(h1:0<=n)(h2:n<4294967296):wA .u32 n=n:=by
 rw[pK];simp only[IntKind.wrap,IntKind.bits,IntKind.signed];simp;omega
theorem z1b{n:Int}(h1:0<=n)(h2:n<65536):wA .u16 n=n:=by
 rw[pK];simp only[IntKind.wrap,IntKind.bits,IntKind.signed];simp;omega
theorem zch{n:Int}(h1:0<=n)(h2:n<256):wA .u8 n=n:=by
 rw[pK];simp only[IntKind.wrap,IntKind.bits,IntKind.signed];simp;omega
theorem sR(n:Int):wA .u64 n=n%18446744073709551616:=by
 rw[pK];simp only[IntKind.wrap,IntKind.bits,IntKind.signed];simp
theorem qM(n:Int):wA .u32 n=n%4294967296:=by
 rw[pK];simp only[IntKind.wrap,IntKind.bits,IntKind.signed];simp
theorem zum(n:Int):wA .u16 n=n%65536:=by
 rw[pK];simp only[IntKind.wrap,IntKind.bits,IntKind.signed];simp
theorem zq7{k:IntKind}{x y:Nat}:iAnd k (x:Int) (y:Int)=yH Nat.land k (x:Int) (y:Int):=rfl
theorem kO{f:Nat->Nat->Nat}{k:IntKind}{x y:Nat}(h1:x<oF k)(h2:y<oF k):yH f k (x:Int) (y:Int)=some (.int k (f x y:Nat)):=by
 unfold yH;have e1:aI (x:Int)=some x:=rfl
 have e2:aI (y:Int)=some y:=rfl
 rw[e1,uA,e2,uA,dB.2 h1,dB.2 h2];rfl
theorem zic{k:IntKind}{x y:Nat}(h0:0<y)(hw:wA k ((x / y:Nat):Int)=((x / y:Nat):Int)):z3i k (x:Int) (y:Int)=some (.int k ((x / y:Nat):Int)):=by
 unfold z3i;have:lA (y:Int) 0=false:=by
  cases hq:lA (y:Int) 0 with
  | false=>rfl
  | true=>have:=(jP _ _).1 hq;omega
 rw[this,cond_false,Int.tdiv_eq_ediv_of_nonneg (by omega)]
 rw[<- Int.natCast_ediv,hw]
theorem zb6{k:IntKind}{x y:Nat}(h0:0<y):z3h k (x:Int) (y:Int)=some (.int k ((x%y:Nat):Int)):=by
 unfold z3h;have:lA (y:Int) 0=false:=by
  cases hq:lA (y:Int) 0 with
  | false=>rfl
  | true=>have:=(jP _ _).1 hq;omega
 rw[this,cond_false,Int.tmod_eq_emod_of_nonneg (by omega),<- Int.natCast_emod]
theorem cH{a b:Int}:(lA a b=true) ↔ a=b:=jP a b
theorem zhz{a b:Int}:((!lA a b)=true) ↔ a≠b:=by rw[ybq,<- Bool.not_eq_true,cH]
theorem zh0{b:Bool}:((!b)=true) ↔ b=false:=by simp
theorem zfp{a b n:Nat}(h:b<2^n):Nat.lor (a*2^n) b=a*2^n+b:=by
 show a*2^n ||| b=_
 rw[<- Nat.shiftLeft_eq,<- Nat.shiftLeft_add_eq_or_of_lt h,Nat.shiftLeft_eq]
theorem or_low{a b n:Nat}(h:b<2^n)(ha:a%2^n=0):Nat.lor a b=a+b:=by
 obtain⟨c,hc⟩:=Nat.dvd_of_mod_eq_zero ha
 subst hc;rw[yai];exact zfp h
theorem jA.idx{t:Tr rA}{C:pA}{T el:Nat}(h:lF C T el 1 false){k:IntKind}{l:List Nat}{v:zA}(hr:jA t 1 (pB k l) v){i x:Nat}(hi:l[i]?=some x) :
  ∃b off,lB C T v (.int .i64 (i:Int))=some (.ptr b off)/\oA C el ⟨0,t⟩ (.ptr b off)=some (.int k (x:Int)):=by
 obtain⟨b,off,cs,h1,h2,_,_,h5⟩:=lF.at h (fun _=>rfl) hr (zz2 hi)
 rw[uM]at h5;subst h5;exact⟨b,off,h1,h2⟩
theorem hO(x:Nat)(n:Nat):Int.fdiv (x:Int) (n:Int)=((x / n:Nat):Int):=by
 rw[Int.fdiv_eq_ediv_of_nonneg _ (by omega)];exact(Int.natCast_ediv x n).symm
theorem getElem?_of_lt{l:List Nat}{i:Nat}(h:i<l.length):∃x,l[i]?=some x:=⟨l[i],yae h⟩
theorem xI{B:Nat}{l:List Nat}(h:tB B l){i x:Nat}(hi:l[i]?=some x):x<B:=h x (ybw hi)
theorem cX{l:List Nat}(h:l≠[]):∃m x,l=m++[x]:=by
 rcases List.eq_nil_or_concat l with e | ⟨m,a,e⟩
 ·exact absurd e h
 ·exact⟨m,a,by rw[e,List.concat_eq_append]⟩
end Go.Am
namespace Go.Proofs
open Go Go.Am
variable [nC]
variable {t:Tr rA}
theorem zu6:∀(n:Nat) (l:List Nat) (v:zA),l.length=n->n<1125899906842624->jA t 1 (pB .u32 l) v->∃v',jp 212 2 [v] t (fun u m=>u=v'/\m=t)/\jA t 1 (pB .u32 (sE l)) v':=by
 intro n;induction n with
 | zero=>
  intro l v hl _ hv;have:l=[]:=ybd.1 hl
  subst this;refine⟨v,zyq _ ?_,hv⟩
  simp only[zpk,qA,hv.len,tA,qB,lE,zD];rw[if_neg (by simp)]
  simp
 | succ n ih=>
  intro l v hl hn hv;obtain⟨m,x,rfl⟩:=cX (l:=l) (by intro e;subst e;simp at hl)
  have hm:m.length=n:=by simpa using hl
  have hx:(m++[x])[m.length]?=some x:=by simp
  obtain⟨b,off,g1,g2⟩:=hv.idx rF hx
  obtain⟨u,g3,g4⟩:=lF.front rF hv (k:=m.length) (by simp[pB])
  rw[zgn]at g4;simp only[List.take_left']at g4;have e1:(((m++[x]).length:Nat):Int)-1=(m.length:Int):=by simp
  by_cases hx0:x=0
  ·subst hx0
   obtain⟨w,h1,h2⟩:=ih m u hm (by omega) g4
   refine⟨w,zyq _ ?_,by rw[zau];exact h2⟩
   simp (disch:=omega) only[zpk,qA,hv.len,tA,qB,lE,zD,cH,wrap_i64,e1,g1,g2,g3]
   rw[if_pos (by simp),if_pos (by simp)]
   exact h1
  ·refine⟨v,zyq _ ?_,?_⟩
   ·simp (disch:=omega) only[zpk,qA,hv.len,tA,qB,lE,zD,cH,wrap_i64,e1,g1,g2,g3]
    rw[if_pos (by simp),if_neg (by simpa using hx0)]
    simp
   ·rw[fV]
    ·exact hv
    ·intro _;simpa using hx0
theorem aS{l:List Nat}{v:zA}(hl:l.length<1125899906842624)(hv:jA t 1 (pB .u32 l) v):∃v',wC yA F 212 [v] t=some v'/\jA t 1 (pB .u32 (sE l)) v':=by
 obtain⟨v',h1,h2⟩:=zu6 _ l v rfl hl hv
 exact⟨v',fC.2 (w212 _ h1),h2⟩
theorem z4j{a b:List Nat}{u v:zA}(hu:jA t 1 (pB .u32 a) u)(hv:jA t 1 (pB .u32 b) v)(hl:a.length=b.length):∀(n:Nat),n<=a.length->n<1125899906842624->jp 236 2 [u,v,.int .i64 ((n:Int)-1)] t (fun w m=>w=.int .i64 (pJ.go (a.take n) (b.take n))/\m=t):=by
 intro n;induction n with
 | zero=>
  intro _ _;refine z58 _ _ _ ?_
  simp only[zvu,qA,dF];rw[if_neg (by omega)]
  simp[pJ.go]
 | succ n ih=>
  intro hn hn2;obtain⟨x,hx⟩:=getElem?_of_lt (l:=a) (i:=n) (by omega)
  obtain⟨y,hy⟩:=getElem?_of_lt (l:=b) (i:=n) (by omega)
  obtain⟨c,off,g1,g2⟩:=hu.idx rF hx
  obtain⟨d,off',g3,g4⟩:=hv.idx rF hy
  have e1:(((n+1:Nat):Int)-1)=(n:Int):=by omega
  have key:∀(a b:List Nat) (x y:Nat),a.length=b.length->pJ.go (a++[x]) (b++[y])=if x<y then -1 else if y<x then 1 else pJ.go a b:=by
   intro a;induction a with
   | nil=>
    intro b x y h;have:b=[]:=ybd.1 (by simpa using h.symm)
    subst this;simp[pJ.go]
   | cons p a ih=>
    intro b x y h
    cases b with
    | nil=>simp at h
    | cons q b=>
     simp only[List.cons_append,pJ.go];rw[ih b x y (by simpa using h)]
     by_cases c1:x<y
     ·simp[c1]
     ·by_cases c2:y<x
      ·simp[c1,c2]
      ·simp[c1,c2]
  have e2:pJ.go (a.take (n+1)) (b.take (n+1))=if x<y then -1 else if y<x then 1 else pJ.go (a.take n) (b.take n):=by
   rw[ych,ych,hx,hy];exact key _ _ _ _ (by simp;omega)
  rw[e1,e2];refine z58 _ _ _ ?_
  simp (disch:=omega) only[zvu,qA,tA,qB,zD,dF,zhz,g1,g2,g3,g4,wrap_i64]
  rw[if_pos (by omega)]
  by_cases c0:x=y
  ·subst c0
   rw[if_neg (by simp),if_neg (by omega),if_neg (by omega)]
   exact ih (by omega) (by omega)
  ·rw[if_pos (by omega)]
   by_cases c1:x<y
   ·rw[if_pos (by omega),if_pos c1];simp
   ·rw[if_neg (by omega),if_neg c1,if_pos (by omega)];simp
theorem z6q{a b:List Nat}{u v:zA}(ha:a.length<1125899906842624)(hu:jA t 1 (pB .u32 a) u)(hv:jA t 1 (pB .u32 b) v):wC yA F 236 [u,v] t=some (.int .i64 (pJ a b)):=by
 refine fC.2 (w236 _ _ ?_)
 simp (disch:=omega) only[t236,qA,hu.len,hv.len,tA,qB,lE,zD,zhz,wrap_i64]
 unfold pJ;by_cases hl:a.length=b.length
 ·rw[if_neg (by omega),if_neg (by omega)]
  have:=z4j hu hv hl a.length (yal _) ha
  rw[List.take_length,hl,List.take_length]at this;rw[hl];exact this
 ·rw[if_pos (by omega),if_pos hl]
  by_cases hlt:a.length<b.length
  ·rw[if_pos (by omega),if_pos hlt];simp
  ·rw[if_neg (by omega),if_neg hlt];simp
def wJ(neg:Bool)(l:List Nat):Bool:=if l=[]then !neg else decide (l.length<=1024)&&decide (l.getLast?≠some 0)
theorem zbu{neg:Bool}{l:List Nat}{v:zA}(hl:l.length<1125899906842624)(hv:jA t 1 (pB .u16 l) v):wC yA F 187 [.agg [.bool neg,v]] t=some (.bool (wJ neg l)):=by
 refine fC.2 (w187 _ _ ?_)
 unfold wJ;by_cases h0:l=[]
 ·subst h0
  simp only[t187,qA,hv.len,tA,qB,lE,cH];simp
 ·obtain⟨m,x,rfl⟩:=cX h0
  have hx:(m++[x])[m.length]?=some x:=by simp
  obtain⟨b,off,g1,g2⟩:=hv.idx sl27 hx
  have e1:(((m++[x]).length:Nat):Int)-1=(m.length:Int):=by simp
  have hlm:m.length<1125899906842624:=by simp at hl;omega
  simp (disch:=omega) only[t187,qA,hv.len,tA,qB,lE,cH,dF,wrap_i64,e1,g1,g2]
  rw[if_neg (by simp;omega),if_neg h0]
  by_cases h1:(m++[x]).length<=1024
  ·rw[if_pos (by omega)]
   simp only[h1,decide_true,ybo];by_cases hx0:x=0
   ·subst hx0;simp[iP]
   ·have:lA (x:Int) 0=false:=by
     cases hq:lA (x:Int) 0 with
     | false=>rfl
     | true=>have:=(jP _ _).1 hq;omega
    simp[this,hx0]
  ·rw[if_neg (by omega),decide_eq_false h1]
   simp
theorem zh8{neg:Bool}{l:List Nat}{v:zA}(hv:jA t 1 (pB .u16 l) v):wC yA F 188 [.agg [.bool neg,v]] t=some (.bool (!neg&&decide (l=[1]))):=by
 refine fC.2 (w188 _ _ ?_)
 cases neg with
 | true=>simp[t188,qA]
 | false=>
  simp only[t188,qA,hv.len,tA,qB,lE,cH];rw[if_pos (by rfl)]
  by_cases h1:l.length=1
  ·obtain⟨x,rfl⟩:∃x,l=[x]:=by
    cases l with
    | nil=>simp at h1
    | cons x r=>cases r with
     | nil=>exact⟨x,rfl⟩
     | cons y r=>simp at h1
   obtain⟨b,off,g1,g2⟩:=hv.idx sl27 (i:=0) (x:=x) (by simp)
   simp only[Int.natCast_zero]at g1;rw[if_pos (by simp)]
   simp only[g1,g2,tA,qB];by_cases hx:x=1
   ·subst hx;simp[iP]
   ·have:lA (x:Int) 1=false:=by
     cases hq:lA (x:Int) 1 with
     | false=>rfl
     | true=>have:=(jP _ _).1 hq;omega
    simp[this,hx]
  ·rw[if_neg (by omega)]
   have:l≠[1]:=by intro e;subst e;simp at h1
   simp[this]
end Go.Proofs
namespace Go.Am
def sF:List Nat->List Nat
 | []=>[]
 | [a]=>[a]
 | a::b::l=>(a+65536*b)::sF l
theorem mN:∀l:List Nat,(sF l).length=(l.length+1) / 2
 | []=>rfl
 | [a]=>by simp[sF]
 | a::b::l=>by simp[sF,mN l];omega
theorem zcn:∀l:List Nat,val 4294967296 (sF l)=val 65536 l
 | []=>rfl
 | [a]=>by simp[sF,val]
 | a::b::l=>by simp only[sF,val,zcn l];omega
theorem bW:∀ {l:List Nat},tB 65536 l->tB 4294967296 (sF l)
 | [],_=>fun x hx=>(by cases hx)
 | [a],h=>fun x hx=>by
  have:=h a (by simp)
  have e:x=a:=by simpa[sF]using hx
  omega
 | a::b::l,h=>fun x hx=>by
  have h1:=h a (by simp)
  have h2:=h b (by simp)
  rcases yat.1 hx with rfl | hx
  ·omega
  ·exact bW (l:=l) (fun y hy=>h y (by simp[hy])) x hx
theorem fX:∀ {l:List Nat},norm l->norm (sF l)
 | [],_=>fun h=>(h rfl).elim
 | [a],h=>by
  intro _;have:=h (by simp)
  simpa[sF]using this
 | [a,b],h=>by
  intro _;have:=h (by simp)
  simp at this;simp[sF];omega
 | a::b::c::l,h=>by
  intro _;have hn:norm (c::l):=by
   intro hne;have:=h (by simp)
   rw[List.getLast_cons (by simp),List.getLast_cons hne]at this
   exact this
  have hne:sF (c::l)≠[]:=by
   intro e;have:=congrArg List.length e
   rw[mN]at this;simp at this;omega
  have:=fX (l:=c::l) hn hne
  show((a+65536*b)::sF (c::l)).getLast _≠0
  rw[List.getLast_cons hne];exact this
theorem zax:∀(l:List Nat) (x:Nat),l.length%2=0->sF (l++[x])=sF l++[x]
 | [],x,_=>rfl
 | [a],x,h=>by simp at h
 | a::b::l,x,h=>by
  show(a+65536*b)::sF (l++[x])=(a+65536*b)::(sF l++[x])
  rw[zax l x (by simp at h;omega)]
theorem zj8:∀(l:List Nat) (a x:Nat),l.length%2=0->sF (l++[a,x])=sF l++[a+65536*x]
 | [],a,x,_=>rfl
 | [b],a,x,h=>by simp at h
 | c::b::l,a,x,h=>by
  show(c+65536*b)::sF (l++[a,x])=(c+65536*b)::(sF l++[a+65536*x])
  rw[zj8 l a x (by simp at h;omega)]
def wG:List Nat->List Nat
 | []=>[]
 | w::l=>w%65536::w / 65536::wG l
theorem xU:∀l:List Nat,(wG l).length=2*l.length
 | []=>rfl
 | w::l=>by simp[wG,xU l];omega
theorem zcm:∀l:List Nat,val 65536 (wG l)=val 4294967296 l
 | []=>rfl
 | w::l=>by
  simp only[wG,val,zcm l];have:=ybi w 65536
  omega
theorem zar:∀ {l:List Nat},tB 4294967296 l->tB 65536 (wG l)
 | [],_=>fun x hx=>(by cases hx)
 | w::l,h=>fun x hx=>by
  have h1:=h w (by simp)
  rcases yat.1 hx with rfl | hx
  ·exact ybz _ (by decide)
  ·rcases yat.1 hx with rfl | hx
   ·exact ybv (by omega)
   ·exact zar (l:=l) (fun y hy=>h y (by simp[hy])) x hx
theorem jV:∀(l:List Nat) (w:Nat),wG (l++[w])=wG l++[w%65536,w / 65536]
 | [],w=>rfl
 | a::l,w=>by simp[wG,jV l w]
theorem zab{l:List Nat}{w:Nat}(hw:w≠0):sE (wG (l++[w]))=if w / 65536=0 then wG l++[w%65536]else wG (l++[w]):=by
 rw[jV];split
 ·rename_i h
  rw[h,show wG l++[w%65536,0]=(wG l++[w%65536])++[0] by simp,zau]
  refine fV fun _=>?_
  simp;omega
 ·rename_i h
  refine fV fun _=>?_
  simpa using h
end Go.Am
namespace Go.Proofs
open Go Go.Am
variable [nC]
variable {t:Tr rA}
theorem set_append_right{l m:List Nat}{i x:Nat}(h:l.length=i):(l++m).set i x=l++m.set 0 x:=by
 rw[List.set_append_right _ _ (by omega)];congr 1;congr 1;omega
theorem zw5{l:List Nat}{v:zA}{b:Nat}{Q:aB}(hv:jA t 1 (pB .u16 l) v)(hl:l.length<1000000)(hlt:tB 65536 l)(hbase:yA.base<=b)(hb:t.get b=none)
  (hQ:∀t' v',zB t t'->jA t' 1 (pB .u32 (sF l)) v'->Q v' t'):∀(k i:Nat) (t':Tr rA),i+k=l.length->zB t t'->aE t' b .u32 (sF (l.take i)++List.replicate ((l.length+1) / 2-(i+1) / 2) 0) →
  jp 190 2 [.slice b 0 ((l.length+1) / 2) ((l.length+1) / 2),v,.int .i64 l.length,.int .i64 i] t' Q:=by
 intro k;induction k with
 | zero=>
  intro i t' hi ht ho;refine z6d _ _ _ _ ?_
  simp only[zv0,qA,zD];rw[if_neg (by omega)]
  rw[ybb (by omega),show(l.length+1) / 2-(i+1) / 2=0 by omega,List.replicate_zero,ybe]at ho
  refine hQ _ _ ht ?_
  have:=ho.all (yal _)
  rw[mN]at this;exact this
 | succ k ih=>
  intro i t' hi ht ho;obtain⟨x,hx⟩:=getElem?_of_lt (l:=l) (i:=i) (by omega)
  have hxlt:x<65536:=xI hlt hx
  obtain⟨c,off,g1,g2⟩:=(hv.mono ht).idx sl27 hx
  have htake:l.take (i+1)=l.take i++[x]:=by rw[ych,hx];rfl
  have hlen:(l.take i).length=i:=by simp;omega
  obtain⟨y,hy,hnew⟩:∃y,(sF (l.take i)++List.replicate ((l.length+1) / 2-(i+1) / 2) 0)[i / 2]?=some y/\y<4294967296/\Nat.lor y (x*2^(16*(i%2)))<4294967296 ∧
    (sF (l.take i)++List.replicate ((l.length+1) / 2-(i+1) / 2) 0).set (i / 2) (Nat.lor y (x*2^(16*(i%2))))=sF (l.take (i+1))++List.replicate ((l.length+1) / 2-(i+1+1) / 2) 0:=by
   rcases Nat.mod_two_eq_zero_or_one i with he | ho1
   ·have hp:(sF (l.take i)).length=i / 2:=by rw[mN,hlen];omega
    refine⟨0,?_,by decide,?_,?_⟩
    ·rw[yaq (by omega),hp,Nat.sub_self,List.getElem?_replicate,if_pos (by omega)]
    ·rw[he];simp;omega
    ·rw[set_append_right hp,he,htake,zax _ _ (by rw[hlen];exact he)]
     have:Nat.lor 0 (x*2^(16*0))=x:=by show 0 ||| _=x;simp
     rw[this];obtain⟨r,hr⟩:∃r,(l.length+1) / 2-(i+1) / 2=r+1:=⟨(l.length+1) / 2-(i+1) / 2-1,by omega⟩
     rw[hr,List.replicate_succ,List.set_cons_zero,show(l.length+1) / 2-(i+1+1) / 2=r by omega]
     simp
   ·obtain⟨p,a,hpa⟩:=cX (l:=l.take i) (by intro e;rw[e]at hlen;simp at hlen;omega)
    have hpl:p.length=i-1:=by rw[hpa]at hlen;simp at hlen;omega
    have hpe:p.length%2=0:=by omega
    have ha:a<65536:=hlt a (List.mem_of_mem_take (by rw[hpa];simp:a∈l.take i))
    have hp:(sF p).length=i / 2:=by rw[mN,hpl];omega
    rw[hpa,zax _ _ hpe];have hlor:Nat.lor a (x*2^(16*1))=a+65536*x:=by
     show a ||| x*2^(16*1)=_
     rw[Nat.or_comm];have:=zfp (a:=x) (b:=a) (n:=16) (by omega)
     show Nat.lor (x*2^16) a=_
     rw[this];omega
    refine⟨a,?_,by omega,?_,?_⟩
    ·rw[yba,yaq (by omega),hp,Nat.sub_self];rfl
    ·rw[ho1,hlor];omega
    ·rw[ho1,hlor,yba,set_append_right hp,htake,hpa,yba]
     rw[show [a]++[x]=[a,x] from rfl,zj8 _ _ _ hpe,yba];rw[show(l.length+1) / 2-(i+1+1) / 2=(l.length+1) / 2-(i+1) / 2 by omega]
     rfl
  obtain⟨hy1,hy2,hy3⟩:=hnew
  have hwlen:(sF (l.take i)++List.replicate ((l.length+1) / 2-(i+1) / 2) 0).length=(l.length+1) / 2:=by
   rw[yah,mN,hlen,List.length_replicate];omega
  have g3:lB yA 244 (.slice b 0 ((l.length+1) / 2) ((l.length+1) / 2)) (.int .i64 ((i / 2:Nat):Int))=some (.ptr b (0+i / 2*1)):=lV rF (by omega)
  rw[show 0+i / 2*1=i / 2 by omega]at g3;have g4:=ho.load hy vG rfl
  obtain⟨t2,g5,g6,g7⟩:=ho.store (C:=yA) hbase (j:=i / 2) (by omega) (Nat.lor y (x*2^(16*(i%2)))) vG rfl
  rw[hy3]at g6;refine z6d _ _ _ _ ?_
  have e1:Int.tdiv (i:Int) 2=((i / 2:Nat):Int):=by rw[Int.tdiv_eq_ediv_of_nonneg (by omega)];rfl
  have e2:Int.tmod (i:Int) 2=((i%2:Nat):Int):=by rw[Int.tmod_eq_emod_of_nonneg (by omega)];rfl
  have hm:=ybz i (show 0<2 by decide)
  simp (disch:=omega) only[zv0,qA,zD,g1,g2,tA,qB,wrap_i64,tQ,e1,e2,g3,g4]
  rw[if_pos (by omega)]
  have e3:zyy .u32 (x:Int) (16*((i%2:Nat):Int))=some (.int .u32 ((x*2^(16*(i%2)):Nat):Int)):=by
   rcases Nat.mod_two_eq_zero_or_one i with h | h<;>rw[h]
   ·simp[zyy,zc0,aI]
    rw[tQ (by omega) (by omega)]
   ·have:zyy .u32 (x:Int) (16*((1:Nat):Int))=some (.int .u32 (wA .u32 ((x:Int)*65536))):=rfl
    rw[this,tQ (by omega) (by omega)]
    simp
  rw[e3];have hb2:x*2^(16*(i%2))<4294967296:=by
   rcases Nat.mod_two_eq_zero_or_one i with h | h<;>rw[h]<;>omega
  simp only[tA,qB];rw[kO (show y<oF .u32 from hy1) (show x*2^(16*(i%2))<oF .u32 from hb2)]
  simp only[tA,qB];intro d _ _;rw[g5];simp only[tA];have:=ih (i+1) t2 (by omega) (ht.off hb g7) g6
  rw[show((i+1:Nat):Int)=(i:Int)+1 by omega]at this
  exact this
theorem znf{l:List Nat}{v:zA}{Q:aB}(hv:jA t 1 (pB .u16 l) v)(hl:l.length<1000000)(hlt:tB 65536 l)
  (hQ:∀t' v',zB t t'->jA t' 1 (pB .u32 (sF l)) v'->Q v' t'):Wc yA F 190 [v] t Q:=by
 refine w190 _ ?_
 have e1:Int.tdiv ((l.length:Int)+1) 2=(((l.length+1) / 2:Nat):Int):=by rw[Int.tdiv_eq_ediv_of_nonneg (by omega)];rfl
 simp (disch:=omega) only[t190,qA,hv.len,tA,qB,lE,wrap_i64,e1]
 intro b hb hbase;obtain⟨t',g1,g2,g3,_⟩:=eU (C:=yA) (k:=.u32) pL rfl vG rfl rfl (by decide) (n:=(l.length+1) / 2) (by omega) hb
 rw[g1];simp only[tA];exact zw5 hv hl hlt hbase hb hQ l.length 0 t' (by omega) g3 (by simpa[sF]using g2)
end Go.Proofs
namespace Go.Proofs
open Go Go.Am
variable [nC]
variable {t:Tr rA}
theorem zu9{n:Nat}(h:n<4294967296):n / 2147483648=if n.testBit 31 then 1 else 0:=by
 have:n.testBit 31=decide (n / 2^31%2=1):=Nat.testBit_eq_decide_div_mod_eq
 rw[this];have h2:n / 2^31<2:=by omega
 by_cases c:n / 2^31%2=1
 ·rw[decide_eq_true c];simp;omega
 ·rw[decide_eq_false c];simp;omega
theorem zu8{n:Nat}(h:n<4294967296):n.testBit 31=decide (2147483648<=n):=by
 have:=zu9 h
 by_cases c:2147483648<=n
 ·rw[decide_eq_true c]
  cases hb:n.testBit 31 with
  | true=>rfl
  | false=>rw[hb]at this;simp at this;omega
 ·rw[decide_eq_false c]
  cases hb:n.testBit 31 with
  | false=>rfl
  | true=>rw[hb]at this;simp at this;omega
theorem zje{x:Nat}(h:x<4294967296):zmo (.int .u32 (x:Int))=some (.int .u32 (Nat.xor 4294967295 x:Nat)):=by
 unfold zmo;simp only[zA.asIntK,uA];have:Nat.beq (kLo .u32) 0=true:=rfl
 rw[this,nD];exact kO (k:=.u32) (x:=4294967295) (show 4294967295<oF .u32 by decide) (show x<oF .u32 from h)
theorem z1p{x y b:Nat}(hx:x<4294967296)(hy:y<4294967296)(hb:b<2) :
  wC yA F 254 [.int .u32 x,.int .u32 y,.int .u32 b] t=some (.tup [.int .u32 (((x+8589934592-y-b)%4294967296:Nat):Int),.int .u32 (((if x<y+b then 1 else 0):Nat):Int)]):=by
 refine fC.2 (w254 _ _ _ ?_)
 obtain⟨d,hd⟩:∃d,d=(x+8589934592-y-b)%4294967296:=⟨_,rfl⟩
 have hdl:d<4294967296:=by rw[hd];exact ybz _ (by decide)
 have e1:wA .u32 (wA .u32 ((x:Int)-y)-b)=(d:Int):=by
  rw[qM,qM,hd];omega
 have hn1:Nat.xor 4294967295 x<4294967296:=Nat.xor_lt_two_pow (n:=32) (by decide) hx
 have hn2:Nat.xor x y<4294967296:=Nat.xor_lt_two_pow (n:=32) hx hy
 have hn3:Nat.xor 4294967295 (Nat.xor x y)<4294967296:=Nat.xor_lt_two_pow (n:=32) (by decide) hn2
 have hn4:Nat.land (Nat.xor 4294967295 x) y<4294967296:=Nat.lt_of_le_of_lt Nat.and_le_left hn1
 have hn5:Nat.land (Nat.xor 4294967295 (Nat.xor x y)) d<4294967296:=Nat.lt_of_le_of_lt Nat.and_le_left hn3
 have hn6:Nat.lor (Nat.land (Nat.xor 4294967295 x) y) (Nat.land (Nat.xor 4294967295 (Nat.xor x y)) d)<4294967296:=Nat.or_lt_two_pow (n:=32) hn4 hn5
 simp only[t254,qA,e1];rw[zje hx];simp only[tA,qB];rw[zq7,kO (k:=.u32) hn1 hy]
 simp only[tA,qB];rw[kO (k:=.u32) hx hy]
 simp only[tA,qB];rw[zje hn2];simp only[tA,qB];rw[zq7,kO (k:=.u32) hn3 hdl]
 simp only[tA,qB];rw[kO (k:=.u32) hn4 hn5]
 simp only[tA,qB];have e2:Int.fdiv ((Nat.lor (Nat.land (Nat.xor 4294967295 x) y) (Nat.land (Nat.xor 4294967295 (Nat.xor x y)) d):Nat):Int) 2147483648=(((if x<y+b then 1 else 0):Nat):Int):=by
  rw[show(2147483648:Int)=((2147483648:Nat):Int) from rfl,hO,zu9 hn6]
  congr 1
  have tb:(Nat.lor (Nat.land (Nat.xor 4294967295 x) y) (Nat.land (Nat.xor 4294967295 (Nat.xor x y)) d)).testBit 31=decide (x<y+b):=by
   show((4294967295 ^^^ x) &&& y ||| (4294967295 ^^^ (x ^^^ y)) &&& d).testBit 31=_
   rw[Nat.testBit_or,Nat.testBit_and,Nat.testBit_and,Nat.testBit_xor,Nat.testBit_xor,Nat.testBit_xor,zu8 hx,zu8 hy,zu8 hdl];have:(4294967295:Nat).testBit 31=true:=by decide
   rw[this];by_cases c1:2147483648<=x<;>by_cases c2:2147483648<=y<;>by_cases c3:2147483648<=d<;>by_cases c4:x<y+b<;>simp only[c1,c2,c3,c4,decide_true,decide_false,Bool.xor_true,Bool.xor_false,Bool.true_xor,Bool.false_xor,Bool.not_true,ybm,Bool.and_true,Bool.and_false,Bool.or_true,Bool.or_false,Bool.xor_self]<;>omega
  rw[tb];by_cases c:x<y+b
  ·simp[c]
  ·simp[c]
 rw[e2,hd];simp
theorem z4w{x y c:Nat}(hx:x<4294967296)(hy:y<4294967296)(hc:c<2) :
  wC yA F 260 [.int .u32 x,.int .u32 y,.int .u32 c] t=some (.tup [.int .u32 (((x+y+c)%4294967296:Nat):Int),.int .u32 (((x+y+c) / 4294967296:Nat):Int)]):=by
 refine fC.2 (w260 _ _ _ ?_)
 have e0:((x:Int)+y)+c=((x+y+c:Nat):Int):=by omega
 simp (disch:=omega) only[t260,qA,mE]
 have e1:((x+y+c:Nat):Int)%4294967296=(((x+y+c)%4294967296:Nat):Int):=by omega
 have e2:(((x+y+c) / 4294967296:Nat):Int)%4294967296=(((x+y+c) / 4294967296:Nat):Int):=by omega
 rw[e0,show Int.fdiv ((x+y+c:Nat):Int) 4294967296=(((x+y+c) / 4294967296:Nat):Int) from hO _ 4294967296,qM,qM,e1,e2]
 simp
theorem z35{h l d:Nat}(hh:h<d)(hl:l<4294967296)(hd:d<4294967296) :
  wC yA F 211 [.int .u32 h,.int .u32 l,.int .u32 d] t=some (.tup [.int .u32 (((h*4294967296+l) / d:Nat):Int),.int .u32 (((h*4294967296+l)%d:Nat):Int)]):=by
 refine fC.2 (w211 _ _ _ ?_)
 simp only[t211,qA,zhz,dF];rw[if_pos (by omega),if_neg (by omega)]
 refine j211_7 _ _ _ ?_
 have e1:(h:Int)*4294967296=((h*4294967296:Nat):Int):=by omega
 have hq:(h*4294967296+l) / d<4294967296:=ybv (by
  have:(h+1)*4294967296<=d*4294967296:=yaj _ hh
  omega)
 have hr:(h*4294967296+l)%d<d:=ybz _ (by omega)
 simp (disch:=omega) only[z5k,qA,mE,e1]
 have e2:yH Nat.lor .u64 ((h*4294967296:Nat):Int) (l:Int)=some (.int .u64 ((h*4294967296+l:Nat):Int)):=by
  rw[kO (k:=.u64) (show h*4294967296<oF .u64 by show _<18446744073709551616;omega) (show l<oF .u64 by show _<18446744073709551616;omega)]
  have:=zfp (a:=h) (b:=l) (n:=32) hl
  rw[show h*4294967296=h*2^32 by rfl,this]
 rw[e2];simp only[tA,qB];rw[zic (k:=.u64) (by omega) (by
  generalize (h*4294967296+l) / d=q at hq ⊢
  exact mE (by omega) (by omega)),zb6 (k:=.u64) (by omega)]
 simp only[tA,qB];generalize (h*4294967296+l) / d=q at hq ⊢
 generalize (h*4294967296+l)%d=r at hr ⊢
 rw[tQ (by omega) (by omega),tQ (by omega) (by omega)]
 simp
theorem z2z(v:Nat)(hv:v<256):∃k,k<9/\mC [0,1,2,2,3,3,3,3,4,4,4,4,4,4,4,4,5,5,5,5,5,5,5,5,5,5,5,5,5,5,5,5,6,6,6,6,6,6,6,6,6,6,6,6,6,6,6,6,6,6,6,6,6,6,6,6,6,6,6,6,6,6,6,6,7,7,7,7,7,7,7,7,7,7,7,7,7,7,7,7,7,7,7,7,7,7,7,7,7,7,7,7,7,7,7,7,7,7,7,7,7,7,7,7,7,7,7,7,7,7,7,7,7,7,7,7,7,7,7,7,7,7,7,7,7,7,7,7,8,8,8,8,8,8,8,8,8,8,8,8,8,8,8,8,8,8,8,8,8,8,8,8,8,8,8,8,8,8,8,8,8,8,8,8,8,8,8,8,8,8,8,8,8,8,8,8,8,8,8,8,8,8,8,8,8,8,8,8,8,8,8,8,8,8,8,8,8,8,8,8,8,8,8,8,8,8,8,8,8,8,8,8,8,8,8,8,8,8,8,8,8,8,8,8,8,8,8,8,8,8,8,8,8,8,8,8,8,8,8,8,8,8,8,8,8,8,8,8,8,8,8,8,8,8,8,8] v=some k/\(v=0/\k=0\/0<k/\2^(k-1)<=v/\v<2^k):=by
 have h:∀v:Fin 256,(mC [0,1,2,2,3,3,3,3,4,4,4,4,4,4,4,4,5,5,5,5,5,5,5,5,5,5,5,5,5,5,5,5,6,6,6,6,6,6,6,6,6,6,6,6,6,6,6,6,6,6,6,6,6,6,6,6,6,6,6,6,6,6,6,6,7,7,7,7,7,7,7,7,7,7,7,7,7,7,7,7,7,7,7,7,7,7,7,7,7,7,7,7,7,7,7,7,7,7,7,7,7,7,7,7,7,7,7,7,7,7,7,7,7,7,7,7,7,7,7,7,7,7,7,7,7,7,7,7,8,8,8,8,8,8,8,8,8,8,8,8,8,8,8,8,8,8,8,8,8,8,8,8,8,8,8,8,8,8,8,8,8,8,8,8,8,8,8,8,8,8,8,8,8,8,8,8,8,8,8,8,8,8,8,8,8,8,8,8,8,8,8,8,8,8,8,8,8,8,8,8,8,8,8,8,8,8,8,8,8,8,8,8,8,8,8,8,8,8,8,8,8,8,8,8,8,8,8,8,8,8,8,8,8,8,8,8,8,8,8,8,8,8,8,8,8,8,8,8,8,8,8,8,8,8,8,8] v.val).elim false (fun k=>decide (k<9)&&(decide (v.val=0)&&decide (k=0)||decide (0<k)&&decide (2^(k-1)<=v.val)&&decide (v.val<2^k)))=true:=by decide +kernel
 have hv:=h ⟨v,hv⟩
 simp only[]at hv;generalize mC _ v=r at hv ⊢
 cases r with
 | none=>simp at hv
 | some k=>
  simp only[Option.elim_some,yac,ybr,decide_eq_true_eq]at hv;obtain⟨hk,hv⟩:=hv
  refine⟨k,hk,rfl,?_⟩
  rcases hv with hv | hv
  ·exact .inl hv
  ·exact .inr ⟨hv.1.1,hv.1.2,hv.2⟩
def BL (x k:Nat):Prop:=x=0/\k=0\/0<k/\2^(k-1)<=x/\x<2^k
theorem zkl{x s:Nat}(hx:x<256)(hs:s<100):∃k,k<=8/\BL x k/\jp 258 15 [.int .u32 x,.int .i64 s] t (fun v m=>v=.int .i64 ((s+k:Nat):Int)/\m=t):=by
 obtain⟨k,hk,h1,h2⟩:=z2z x hx
 refine⟨k,by omega,h2,z8l _ _ ?_⟩
 simp (disch:=omega) only[zvk,qA,zch]
 unfold aJ;rw[ty9,uA];have:(zA.int .u8 (x:Int)).asNat=some x:=rfl
 rw[this,uA];simp only[zA.asStr];rw[show(uC.desc ⟨.string,1,16,[.str []],true⟩).isString=true from rfl,nD]
 rw[h1,uA];simp only[tA];rw[show z8t .u8 (.int .u8 (Int.ofNat k))=some (Int.ofNat k) from qB]
 simp only[tA];rw[show Int.ofNat k=(k:Int) from rfl]
 simp (disch:=omega) only[wrap_i64]
 simp
theorem zkk{x s:Nat}(hx:x<65536)(hs:s<90):∃k,k<=16/\BL x k/\jp 258 9 [.int .u32 x,.int .i64 s] t (fun v m=>v=.int .i64 ((s+k:Nat):Int)/\m=t):=by
 by_cases h:256<=x
 ·obtain⟨k,h1,h2,h3⟩:=zkl (t:=t) (x:=x / 256) (s:=s+8) (by omega) (by omega)
  refine⟨k+8,by omega,?_,z5z _ _ ?_⟩
  ·rcases h2 with h2 | ⟨g1,g2,g3⟩
   ·omega
   ·refine .inr ⟨by omega,?_,?_⟩
    ·rw[show k+8-1=(k-1)+8 by omega,Nat.pow_add];omega
    ·rw[Nat.pow_add];omega
  ·simp (disch:=omega) only[zvj,qA,dF,wrap_i64]
   rw[if_pos (by omega),show(256:Int)=((256:Nat):Int) from rfl,hO,show(s:Int)+8=((s+8:Nat):Int) by omega]
   rw[show s+(k+8)=s+8+k by omega]
   exact h3
 ·obtain⟨k,h1,h2,h3⟩:=zkl (t:=t) (x:=x) (s:=s) (by omega) (by omega)
  refine⟨k,by omega,h2,z5z _ _ ?_⟩
  simp only[zvj,qA,dF];rw[if_neg (by omega)]
  exact h3
theorem z21{x:Nat}(hx:x<4294967296):∃k,k<=32/\BL x k/\wC yA F 258 [.int .u32 x] t=some (.int .i64 (k:Int)):=by
 by_cases h:65536<=x
 ·obtain⟨k,h1,h2,h3⟩:=zkk (t:=t) (x:=x / 65536) (s:=16) (by omega) (by omega)
  refine⟨k+16,by omega,?_,fC.2 (w258 _ ?_)⟩
  ·rcases h2 with h2 | ⟨g1,g2,g3⟩
   ·omega
   ·refine .inr ⟨by omega,?_,?_⟩
    ·rw[show k+16-1=(k-1)+16 by omega,Nat.pow_add];omega
    ·rw[Nat.pow_add];omega
  ·simp only[t258,qA,dF]
   rw[if_pos (by omega),show(65536:Int)=((65536:Nat):Int) from rfl,hO]
   rw[show k+16=16+k by omega];exact h3
 ·obtain⟨k,h1,h2,h3⟩:=zkk (t:=t) (x:=x) (s:=0) (by omega) (by omega)
  refine⟨k,by omega,h2,fC.2 (w258 _ ?_)⟩
  simp only[t258,qA,dF];rw[if_neg (by omega)]
  rw[yax]at h3;exact h3
theorem zxn{x:Nat}(hx:x<4294967296)(h0:0<x):∃s:Nat,s<32/\2147483648<=x*2^s/\x*2^s<4294967296/\wC yA F 249 [.int .u32 x] t=some (.int .i64 (s:Int)):=by
 obtain⟨k,h1,h2,h3⟩:=z21 (t:=t) hx
 rcases h2 with h2 | ⟨g1,g2,g3⟩
 ·omega
 ·refine⟨32-k,by omega,?_,?_,fC.2 (w249 _ ?_)⟩
  ·have:2^(k-1)*2^(32-k)=2147483648:=by rw[<- Nat.pow_add,show k-1+(32-k)=31 by omega]
   rw[<- this];exact yaj _ g2
  ·have:2^k*2^(32-k)=4294967296:=by rw[<- Nat.pow_add,show k+(32-k)=32 by omega]
   rw[<- this];exact Nat.mul_lt_mul_of_pos_right g3 (Nat.pow_pos (Nat.succ_pos 1))
  ·simp (disch:=omega) only[t249,qA,q258,h3,tA,qB,wrap_i64]
   refine⟨?_,trivial⟩
   congr 1;omega
end Go.Proofs
namespace Go.Am
theorem qX{p:List Nat}{n x:Nat}:(p++List.replicate (n+1) 0).set p.length x=(p++[x])++List.replicate n 0:=by
 rw[List.set_append_right _ _ (yal _),Nat.sub_self,List.replicate_succ,List.set_cons_zero];simp
theorem eK(B:Nat)(l:List Nat)(x:Nat):val B (l++[x])=val B l+B^l.length*x:=by rw[eS];simp[val]
theorem pS{B:Nat}{l:List Nat}{x:Nat}(h:tB B l)(hx:x<B):tB B (l++[x]):=zl1 h fun y hy=>by rw[yce.1 hy];exact hx
theorem zsg{B:Nat}{r w d:Nat}(hr:r<d)(hw:w<B):(r*B+w) / d<B:=by
 have hd:0<d:=by omega
 refine ybv ?_
 have:(r+1)*B<=d*B:=yaj B hr
 rw[yap]at this;omega
theorem qR{l:List Nat}{i x:Nat}(h:l[i]?=some x):l.take (i+1)=l.take i++[x]:=by rw[ych,h];rfl
theorem uK{l:List Nat}{i x:Nat}(h:l[i]?=some x):l.drop i=x::l.drop (i+1):=by
 have hi:=(yad.1 h)
 rw[yam hi.1,hi.2]
end Go.Am
namespace Go.Am
open Go Go.RowKit
section
variable {t:Tr rA}{C:pA}
theorem zxm{c:Tr zA}{sz:Nat}:∀(cl:List (List zA)) (off:Nat),(∀(i:Nat) cs,cl[i]?=some cs->cs.length=sz/\∀(j:Nat) a,cs[j]?=some a->c.get (off+i*sz+j)=some a)->c.many (cl.length*sz) off=some cl.flatten:=by
 intro cl;induction cl with
 | nil=>intro off _;simp;rfl
 | cons cs cl ih=>
  intro off h;obtain⟨h1,h2⟩:=h 0 cs (by simp)
  have hrest:=ih (off+sz) fun i cs' hi=>by
   obtain⟨g1,g2⟩:=h (i+1) cs' (by simpa using hi)
   refine⟨g1,fun j a hj=>?_⟩
   have:=g2 j a hj
   rw[show off+sz+i*sz+j=off+(i+1)*sz+j by rw[yap];omega]
   exact this
  have key:∀(n:Nat) (l r:List zA) (off:Nat),l.length=n->(∀(j:Nat) a,l[j]?=some a->c.get (off+j)=some a)->∀m,c.many m (off+n)=some r->c.many (n+m) off=some (l++r):=by
   intro n;induction n with
   | zero=>
    intro l r off hl _ m hm;have:l=[]:=ybd.1 hl
    subst this;simpa using hm
   | succ n ihn=>
    intro l r off hl hg m hm
    cases l with
    | nil=>simp at hl
    | cons a l=>
     rw[show n+1+m=(n+m)+1 by omega,Tr.many_succ]
     have:=hg 0 a (by simp)
     rw[ybu]at this;rw[this,uA,ihn l r (off+1) (by simpa using hl) (fun j b hj=>by
      have:=hg (j+1) b (by simpa using hj)
      rw[show off+1+j=off+(j+1) by omega];exact this) m (by rw[show off+1+n=off+(n+1) by omega];exact hm)]
     rfl
  rw[List.flatten_cons,yao,yap,Nat.one_mul,Nat.add_comm];exact key sz cs _ off h1 (fun j a hj=>by have:=h2 j a hj;rw[Nat.zero_mul,ybu]at this;exact this) _ hrest
theorem yJ.first{sz:Nat}{v:zA}{cl:List (List zA)}(h:yJ t sz v cl){n:Nat}:cN ⟨n,t⟩ sz cl.length v=some cl.flatten/\jR v=some cl.length:=by
 rcases h with⟨rfl,rfl⟩ | ⟨b,off,cap,rfl,_,⟨c,m,lo,h1,_⟩,h2⟩
 ·exact⟨rfl,rfl⟩
 ·refine⟨?_,rfl⟩
  unfold cN;simp only[zA.asSlice];unfold uD;rw[h1,uA];simp only[rA.asCells,uA];refine zxm cl off fun i cs hi=>?_
  obtain⟨g1,c',m',lo',g2,g3⟩:=h2 i cs hi
  rw[h1]at g2
  cases g2
  exact⟨g1,g3⟩
theorem zig{sz:Nat}:∀ {cl:List (List zA)},(∀(i:Nat) cs,cl[i]?=some cs->cs.length=sz)->cl.flatten.length=cl.length*sz:=by
 intro cl;induction cl with
 | nil=>intro _;simp
 | cons c cl ih=>
  intro h;rw[List.flatten_cons,yah,yao,yap,ih fun i cs hi=>h (i+1) cs (by simpa using hi),h 0 c (by simp)]
  omega
theorem wV{sz:Nat}:∀ {cl:List (List zA)},(∀(i:Nat) cs,cl[i]?=some cs->cs.length=sz)->∀(i j:Nat) cs a,cl[i]?=some cs->cs[j]?=some a->cl.flatten[i*sz+j]?=some a:=by
 intro cl;induction cl with
 | nil=>intro _ i j cs a h;simp at h
 | cons c cl ih=>
  intro h i j cs a hi hj;have hc:=h 0 c (by simp)
  rw[List.flatten_cons]
  cases i with
  | zero=>
   simp at hi;subst hi;rw[Nat.zero_mul,yax,ybp (yad.1 hj).1]
   exact hj
  | succ i=>
   rw[yaq (by rw[hc,yap];omega),hc,show(i+1)*sz+j-sz=i*sz+j by rw[yap];omega]
   exact ih (fun i cs hi=>h (i+1) cs (by simpa using hi)) i j cs a (by simpa using hi) hj
theorem yJ.len{sz:Nat}{v:zA}{cl:List (List zA)}(h:yJ t sz v cl):∀(i:Nat) cs,cl[i]?=some cs->cs.length=sz:=by
 rcases h with⟨rfl,rfl⟩ | ⟨b,off,cap,rfl,_,_,h2⟩
 ·intro i cs hi;simp at hi
 ·exact fun i cs hi=>(h2 i cs hi).1
theorem zaj{sz n:Nat}{cl:List (List zA)}{t':Tr rA}{lo:Option Lo}(hl:∀(i:Nat) cs,cl[i]?=some cs->cs.length=sz)(h:t'.get n=some (.cells (Tr.ofList cl.flatten) (dA cl.flatten) lo))(hlo:lo=none\/∃x,lo=some x/\x.es=sz):yJ t' sz (.slice n 0 cl.length cl.length) cl:=
 .inr ⟨n,0,cl.length,rfl,yal _,⟨_,_,_,h,hlo⟩,fun i cs hi=>⟨hl i cs hi,_,_,_,h,fun j a hj=>by
  rw[Tr.get_ofList,yax];exact wV hl i j cs a hi hj⟩⟩
def NB (C:pA)(el:Nat):Prop:=∀y,C.tys.get el=some y->zyu y=false
theorem NB.code{el:Nat}{z:uC}(h:NB C el)(hz:C.tys.get el=some z):bH el z=.sz z.size:=by
 unfold bH;rw[h z hz,Bool.and_false];rfl
structure zt9 (C:pA) (T el sz:Nat):Prop where
 ty:∃y,C.tys.get T=some y/\y.desc.asSlice=some el/\Nat.beq y.desc.tag 1=false
 el:∃y,C.tys.get el=some y/\y.size=sz/\dA y.zero=sz/\y.bytes<=500/\0<sz
structure zuh (C:pA) (T e sz:Nat):Prop where
 ty:∃y,C.tys.get T=some y/\y.desc.asSlice=some e/\Nat.beq y.desc.tag 1=false
 el:∃y,C.tys.get e=some y/\y.size=sz/\dA y.zero=sz/\y.bytes<=500/\0<sz
 nb:NB C e
theorem zo0{T el sz:Nat}(hT:zuh C T el sz){l:List D}{x s:zA}(hx:jA t sz l x)(hl:l.length<1000000){n:Nat}(hn:t.get n=none)
  (hs:s=.nilslice\/∃b c m,s=.slice b 0 0 0/\t.get b=some (.cells c m none)) :
  ∃v H',zG C T T s x ⟨n,t⟩=some (v,H')/\jA H'.t sz l v/\zB t H'.t/\mD n t H'.t:=by
 obtain⟨⟨y,hy1,hy2,hy3⟩,⟨z,hz1,hz2,hz3,hz4,hz5⟩,hnb⟩:=hT
 have hcode:=NB.code hnb hz1
 obtain⟨cl,he,hd⟩:=hx
 have hcl:=hd.length
 obtain⟨hf,hlen⟩:=he.first (n:=n)
 have hall:=he.len
 have base:zG C T T s x ⟨n,t⟩=(match s.asSlice with
  | some s=>bif Nat.ble (s.2.2.1+cl.length) s.2.2.2 then xS C ⟨n,t⟩ z cl.length cl.flatten s else gQ C ⟨n,t⟩ el z cl.length cl.flatten s
  | none=>iA (Nat.beq s.tag 5) (eL ⟨n,t⟩ el z cl.length cl.flatten)):=by
  unfold zG aP;rw[hy1,uA,uA,hy3];simp only[ybm,nD];rw[hy2,uA,hz1,uA,hlen,uA,hz2,hf,uA];rfl
 have hfl:dA cl.flatten=cl.length*sz:=by rw[jC];exact zig hall
 have ok:jO z 0 0 cl.length cl.flatten=true:=by
  unfold jO;have h1:Nat.blt (0+cl.length+0) 1000000000=true:=dB.2 (by omega)
  have h2:Nat.blt ((0+cl.length+0)*z.bytes) 1000000000=true:=dB.2 (by
   have:=ycc (show 0+cl.length+0<=1000000 by omega) hz4
   omega)
  have h3:Nat.blt z.bytes 1000000000=true:=dB.2 (by omega)
  have h4:(!Nat.beq z.size 0)=true:=by
   cases hq:Nat.beq z.size 0 with
   | true=>have:=mB.1 hq;omega
   | false=>rfl
  have h5:Nat.beq (dA cl.flatten) (cl.length*z.size)=true:=by rw[hfl,hz2];exact mB.2 rfl
  have h6:Nat.beq (dA z.zero) z.size=true:=by rw[hz3,hz2];exact mB.2 rfl
  rw[h1,h2,h3,h4,h5,h6];rfl
 have newT:∀(q:rA),zB t (t.set n q)/\mD n t (t.set n q):=fun q=>⟨fun c u hc=>by
   rw[Tr.get_set,if_neg (by intro e;rw[e,hn]at hc;cases hc)];exact hc,fun c hc=>by rw[Tr.get_set,if_neg hc]⟩
 rcases hs with rfl | ⟨b,c,m,rfl,hb⟩
 ·by_cases h0:cl.length=0
  ·have:cl=[]:=ybd.1 h0
   subst this;refine⟨.nilslice,⟨n,t⟩,?_,⟨[],.inl ⟨rfl,rfl⟩,hd⟩,zB.refl _,mD.refl _ _⟩
   rw[base];rfl
  ·refine⟨.slice n 0 cl.length cl.length,⟨n+1,t.set n (.cells (Tr.ofList cl.flatten) (dA cl.flatten) (some (bH el z)))⟩,?_,⟨cl,zaj hall (show(t.set n _).get n=_ by rw[Tr.get_set,if_pos rfl]) (.inr ⟨_,rfl,by rw[iT,hz2]⟩),lC.mono (newT _).1 _ _ hd⟩,(newT _).1,(newT _).2⟩
   rw[base];simp only[zA.asSlice];show iA true (eL ⟨n,t⟩ el z cl.length cl.flatten)=_
   rw[nD];unfold eL;have:Nat.beq cl.length 0=false:=by
    cases hq:Nat.beq cl.length 0 with
    | true=>exact absurd (mB.1 hq) h0
    | false=>rfl
   rw[this,cond_false,ok];rfl
 ·by_cases h0:cl.length=0
  ·have:cl=[]:=ybd.1 h0
   subst this;refine⟨.slice b 0 0 0,⟨n,t⟩,?_,⟨[],.inr ⟨b,0,0,rfl,yal _,⟨c,m,none,hb,.inl rfl⟩,fun i cs hi=>by simp at hi⟩,hd⟩,zB.refl _,mD.refl _ _⟩
   rw[base];rfl
  ·refine⟨.slice n 0 cl.length cl.length,⟨n+1,t.set n (.cells (Tr.ofList cl.flatten) (dA cl.flatten) (some (bH el z)))⟩,?_,⟨cl,zaj hall (show(t.set n _).get n=_ by rw[Tr.get_set,if_pos rfl]) (.inr ⟨_,rfl,by rw[iT,hz2]⟩),lC.mono (newT _).1 _ _ hd⟩,(newT _).1,(newT _).2⟩
   rw[base];simp only[zA.asSlice];have:Nat.ble (0+cl.length) 0=false:=by
    cases hq:Nat.ble (0+cl.length) 0 with
    | true=>have:=eD.1 hq;omega
    | false=>rfl
   rw[this,cond_false];unfold gQ;simp only[];rw[show ∀x,(!(Nat.beq 0 1&&x))=true from fun _=>rfl,nD,ok,nD]
   unfold uD;rw[hb,uA];simp only[rA.asCells,uA];unfold zV;simp only[Nat.zero_mul];show ob (c.many 0 0) _=_
   rw[show c.many 0 0=some [] from rfl,uA];rw[jF,List.nil_append,yax];rfl
end
end Go.Am
namespace Go.Proofs
open Go Go.Am
variable [nC]
variable {t:Tr rA}
theorem el305:zuh yA 244 246 1:=⟨⟨_,pL,rfl,rfl⟩,⟨_,vG,rfl,rfl,by decide,by decide⟩,fun y h=>by rw[vG]at h;cases h;rfl⟩
theorem lit0{T el:Nat}{y z:uC}(hT:yA.tys.get T=some y)(hel:y.desc.asSlice=some el)(hz:yA.tys.get el=some z)(hs:dA z.zero=z.size){b:Nat}(hb:t.get b=none) :
  ∃H',jH yA T 0 [] ⟨b,t⟩=some (.slice b 0 0 0,H')/\(∃c,H'.t.get b=some (.cells c 0 none))/\zB t H'.t:=by
 refine⟨dD ⟨b,t⟩ [] none,?_,⟨Tr.ofList [],?_⟩,?_⟩
 ·unfold jH
  rw[hT,uA,hel,uA,hz,uA];have:(Nat.blt (0*z.size) 1000000&&Nat.beq (dA z.zero) z.size)=true:=by rw[Nat.zero_mul,hs,mB.2 rfl];rfl
  rw[this];rfl
 ·show(t.set b _).get b=_
  rw[Tr.get_set,if_pos rfl];rfl
 ·intro c u hc
  show(t.set b _).get c=_
  rw[Tr.get_set,if_neg (by intro e;rw[e,hb]at hc;cases hc)];exact hc
theorem z4k{l:List Nat}{v:zA}{Q:aB}(hv:jA t 1 (pB .u32 l) v)(hl:l.length<1000000)
  (hQ:∀t' v',zB t t'->jA t' 1 (pB .u32 l) v'->Q v' t'):Wc yA F 251 [v] t Q:=by
 refine w251 _ ?_
 have e:(binA .eql).f yA 244 (.tmp 3) (.const (.slice none 0 0)) v .nilslice=some (.bool (Nat.beq v.tag 5)):=by
  obtain⟨cl,h1,_⟩:=hv
  rcases h1 with⟨rfl,_⟩ | ⟨b,off,cap,rfl,_⟩
  ·kernel_rfl
  ·kernel_rfl
 simp only[t251,qA,e,tA,bT];split
 ·rename_i h
  have:v=.nilslice:=(sP.2.1).1 (mB.1 h)
  subst this;exact hQ _ _ (zB.refl _) hv
 ·intro b hb hbase
  obtain⟨H1,g1,⟨c,g2⟩,g3⟩:=lit0 (t:=t) pL rfl vG rfl hb
  rw[g1];simp only[tA];intro n hn _;obtain⟨u,H',g4,g5,g6,_⟩:=zo0 el305 (hv.mono g3) (by rw[lE];exact hl) hn (.inr ⟨b,c,0,rfl,g2⟩)
  rw[g4];simp only[tA];exact hQ _ _ (g3.trans g6) g5
def zfo(n:Nat):List Nat:=sE [n%4294967296,n / 4294967296]
theorem zr0(n:Nat):val 4294967296 (zfo n)=n:=by unfold zfo;rw[pM];simp only[val];omega
theorem zl0{n:Nat}(h:n<18446744073709551616):tB 4294967296 (zfo n):=zQ fun x hx=>by
 simp at hx;omega
theorem znl(n:Nat):norm (zfo n):=oP _
theorem znu{T el:Nat}{y z:uC}{k:IntKind}(hT:yA.tys.get T=some y)(hel:y.desc.asSlice=some el)(hz:yA.tys.get el=some z)(hzero:z.zero=[.int k 0])(hs:z.size=1)(x:Nat)(hk:True){b:Nat}(hb:t.get b=none) :
  ∃H',jH yA T 1 [(0,.int k (x:Int))] ⟨b,t⟩=some (.slice b 0 1 1,H')/\aE H'.t b k [x]/\zB t H'.t:=by
 refine⟨dD ⟨b,t⟩ [.int k (x:Int)] none,?_,⟨Tr.ofList [.int k (x:Int)],?_,fun j u hj=>?_⟩,?_⟩
 ·unfold jH
  rw[hT,uA,hel,uA,hz,uA,hs,hzero];rfl
 ·show(t.set b _).get b=_
  rw[Tr.get_set,if_pos rfl];rfl
 ·rw[Tr.get_ofList]
  cases j with
  | zero=>simp at hj;subst hj;rfl
  | succ j=>simp at hj
 ·intro c u hc
  show(t.set b _).get c=_
  rw[Tr.get_set,if_neg (by intro e;rw[e,hb]at hc;cases hc)];exact hc
theorem z2w{T el:Nat}{y z:uC}{k:IntKind}(hT:yA.tys.get T=some y)(hel:y.desc.asSlice=some el)(hz:yA.tys.get el=some z)(hzero:z.zero=[.int k 0])(hs:z.size=1)(x x':Nat){b:Nat}(hb:t.get b=none) :
  ∃H',jH yA T 2 [(0,.int k (x:Int)),(1,.int k (x':Int))] ⟨b,t⟩=some (.slice b 0 2 2,H')/\aE H'.t b k [x,x']/\zB t H'.t:=by
 refine⟨dD ⟨b,t⟩ [.int k (x:Int),.int k (x':Int)] none,?_,⟨Tr.ofList [.int k (x:Int),.int k (x':Int)],?_,fun j u hj=>?_⟩,?_⟩
 ·unfold jH
  rw[hT,uA,hel,uA,hz,uA,hs,hzero];rfl
 ·show(t.set b _).get b=_
  rw[Tr.get_set,if_pos rfl];rfl
 ·rw[Tr.get_ofList]
  cases j with
  | zero=>simp at hj;subst hj;rfl
  | succ j=>
   cases j with
   | zero=>simp at hj;subst hj;rfl
   | succ j=>simp at hj
 ·intro c u hc
  show(t.set b _).get c=_
  rw[Tr.get_set,if_neg (by intro e;rw[e,hb]at hc;cases hc)];exact hc
theorem z11{n:Nat}{Q:aB}(hn:n<18446744073709551616)(hQ:∀t' v',zB t t'->jA t' 1 (pB .u32 (zfo n)) v'->Q v' t'):Wc yA F 241 [.int .u64 n] t Q:=by
 refine w241 _ ?_
 have e1:wA .u32 (n:Int)=((n%4294967296:Nat):Int):=by rw[qM];omega
 have e2:wA .u32 (Int.fdiv (n:Int) 4294967296)=((n / 4294967296:Nat):Int):=by
  rw[show Int.fdiv (n:Int) 4294967296=((n / 4294967296:Nat):Int) from hO _ 4294967296,tQ (by omega) (by omega)]
 simp only[t241,qA,e1,e2];intro b hb _;obtain⟨H',g1,g2,g3⟩:=z2w (t:=t) (k:=.u32) pL rfl vG rfl rfl (n%4294967296) (n / 4294967296) hb
 rw[g1];simp only[tA];obtain⟨v',h1,h2⟩:=aS (l:=[n%4294967296,n / 4294967296]) (by simp) (g2.all (yal _))
 simp only[q212];have h1:wC yA F 212 [.slice b 0 2 2] H'.t=some v':=h1
 rw[h1];exact hQ _ _ g3 h2
theorem zmn{l:List Nat}{v:zA}{b:Nat}{neg:Bool}{Q:aB}(hv:jA t 1 (pB .u32 l) v)(hl:l.length<400000)(hlt:tB 4294967296 l)(hne:l≠[])(hnorm:norm l)(hbase:yA.base<=b)(hb:t.get b=none)
  (hQ:∀t' v',zB t t'->jA t' 1 (pB .u16 (sE (wG l))) v'->Q (.agg [.bool neg,v']) t'):∀(k i:Nat) (t':Tr rA),i+k=l.length->zB t t'->aE t' b .u16 (wG (l.take i)++List.replicate (2*k) 0) →
  jp 225 2 [.bool neg,.slice b 0 (2*l.length) (2*l.length),v,.int .i64 l.length,.int .i64 i,.bool false,.nilslice] t' Q:=by
 intro k;induction k with
 | zero=>
  intro i t' hi ht ho;refine z59 _ _ _ _ _ _ _ ?_
  rw[ybb (by omega),Nat.mul_zero,List.replicate_zero,ybe]at ho
  obtain⟨m,w,rfl⟩:=cX hne
  have hw:w≠0:=by have:=hnorm (by simp);simpa using this
  have hwlt:w<4294967296:=hlt w (by simp)
  have hul:(wG (m++[w])).length=2*(m++[w]).length:=xU _
  have hml:(m++[w]).length=m.length+1:=by simp
  have hlast:(wG (m++[w]))[2*m.length+1]?=some (w / 65536):=by
   rw[jV,yaq (by rw[xU];omega),xU]
   rw[show 2*m.length+1-2*m.length=1 by omega];rfl
  have hread:=ho.all (cap:=2*(m++[w]).length) (by omega)
  rw[hul]at hread;have g3:lB yA 27 (.slice b 0 (2*(m++[w]).length) (2*(m++[w]).length)) (.int .i64 ((2*m.length+1:Nat):Int))=some (.ptr b (0+(2*m.length+1)*1)):=lV sl27 (by omega)
  rw[show 0+(2*m.length+1)*1=2*m.length+1 by omega]at g3
  have g4:=ho.load hlast zmp rfl
  have e1:((2*(m++[w]).length:Nat):Int)-1=((2*m.length+1:Nat):Int):=by rw[hml];omega
  have hlen:xC (.slice b 0 (2*(m++[w]).length) (2*(m++[w]).length))=some (.int .i64 ((2*(m++[w]).length:Nat):Int)):=rfl
  have hb2:2*m.length+1<1000000:=by omega
  simp (disch:=omega) only[zvw,qA,zD,hlen,tA,qB,e1,wrap_i64,g3,g4,cH]
  rw[if_neg (by omega)]
  by_cases hz:w / 65536=0
  ·rw[if_pos (by rw[hz];rfl)]
   obtain⟨u,g5,g6⟩:=lF.front sl27 hread (k:=2*m.length+1) (by rw[lE,hul];omega)
   rw[g5];simp only[tA];have hone:tC zA.one [.bool neg,u]=true:=by
    show(bif zA.one (.bool neg)then(bif zA.one u then true else false)else false)=true
    rw[g6.one];rfl
   rw[if_pos hone,if_pos hone];refine hQ _ _ ht ?_
   rw[zgn]at g6;rw[zab hw,if_pos hz];have:(wG (m++[w])).take (2*m.length+1)=wG m++[w%65536]:=by
    rw[jV,show wG m++[w%65536,w / 65536]=(wG m++[w%65536])++[w / 65536] by simp]
    rw[List.take_left' (by simp[xU])]
   rw[this]at g6;exact g6
  ·rw[if_neg (by omega)]
   have hone:tC zA.one [.bool neg,.slice b 0 (2*(m++[w]).length) (2*(m++[w]).length)]=true:=rfl
   rw[if_pos hone,if_pos hone];refine hQ _ _ ht ?_
   rw[zab hw,if_neg hz];exact hread
 | succ k ih=>
  intro i t' hi ht ho;obtain⟨x,hx⟩:=getElem?_of_lt (l:=l) (i:=i) (by omega)
  have hxlt:x<4294967296:=xI hlt hx
  obtain⟨c,off,g1,g2⟩:=(hv.mono ht).idx rF hx
  have htl:(l.take i).length=i:=by simp;omega
  have hpl:(wG (l.take i)).length=2*i:=by rw[xU,htl]
  have hlen0:(wG (l.take i)++List.replicate (2*(k+1)) 0).length=2*l.length:=by simp[hpl];omega
  have g3:∀j,j<2*l.length->lB yA 27 (.slice b 0 (2*l.length) (2*l.length)) (.int .i64 (j:Int))=some (.ptr b j):=by
   intro j hj;have:=lV (b:=b) (off:=0) (cap:=2*l.length) sl27 hj
   rw[show 0+j*1=j by omega]at this;exact this
  have g3a:=g3 (2*i) (by omega)
  have g3b:=g3 (2*i+1) (by omega)
  obtain⟨t1,s1,s2,s3⟩:=ho.store (C:=yA) hbase (j:=2*i) (by rw[hlen0];omega) (x%65536) zmp rfl
  have hs2:(wG (l.take i)++List.replicate (2*(k+1)) 0).set (2*i) (x%65536)=(wG (l.take i)++[x%65536])++List.replicate (2*k+1) 0:=by
   rw[<- hpl,show 2*(k+1)=(2*k+1)+1 by omega];exact qX
  rw[hs2]at s2;obtain⟨t2,s4,s5,s6⟩:=s2.store (C:=yA) hbase (j:=2*i+1) (by simp[hpl]) (x / 65536) zmp rfl
  have hs5:((wG (l.take i)++[x%65536])++List.replicate (2*k+1) 0).set (2*i+1) (x / 65536)=wG (l.take (i+1))++List.replicate (2*k) 0:=by
   have hq:(wG (l.take i)++[x%65536]).length=2*i+1:=by simp[hpl]
   rw[<- hq,qX,qR hx,jV];simp
  rw[hs5]at s5;have e1:wA .u16 (x:Int)=((x%65536:Nat):Int):=by rw[zum];omega
  have e2:wA .u16 (Int.fdiv (x:Int) 65536)=((x / 65536:Nat):Int):=by
   rw[show Int.fdiv (x:Int) 65536=((x / 65536:Nat):Int) from hO _ 65536,z1b (by omega) (by omega)]
  have e3:(2:Int)*(i:Int)=((2*i:Nat):Int):=by omega
  have e4:((2*i:Nat):Int)+1=((2*i+1:Nat):Int):=by omega
  refine z59 _ _ _ _ _ _ _ ?_
  simp (disch:=omega) only[zvw,qA,zD,g1,g2,tA,qB,e1,e2,e3,e4,wrap_i64,g3a,g3b]
  rw[if_pos (by omega)]
  intro d _ _;rw[s1];simp only[tA];intro d' _ _;rw[s4];simp only[tA];have:=ih (i+1) t2 (by omega) ((ht.off hb s3).off hb s6) s5
  rw[show((i+1:Nat):Int)=(i:Int)+1 by omega]at this
  exact this
theorem zuz{l:List Nat}{v:zA}{neg:Bool}{Q:aB}(hv:jA t 1 (pB .u32 l) v)(hl:l.length<400000)(hlt:tB 4294967296 l)
  (hQ:∀t' v',zB t t'->jA t' 1 (pB .u16 (sE (wG (sE l)))) v'->Q (.agg [.bool (if sE l=[]then false else neg),v']) t'):Wc yA F 225 [.bool neg,v] t Q:=by
 refine w225 _ _ ?_
 obtain⟨u,h1,h2⟩:=aS (l:=l) (by omega) hv
 have hsl:=zct l
 simp only[t225,qA,q212,h1,tA,h2.len,qB,lE,cH];by_cases h0:sE l=[]
 ·rw[if_pos (by rw[h0];rfl)]
  simp only[if_true];have:=hQ t .nilslice (zB.refl _) (by rw[h0];exact⟨[],.inl ⟨rfl,rfl⟩,by simp[wG,sE,pB,lC]⟩)
  rw[if_pos h0]at this;exact this
 ·have hpos:0<(sE l).length:=List.length_pos_iff.2 h0
  rw[if_neg (by omega)]
  have e1:(2:Int)*((sE l).length:Int)=((2*(sE l).length:Nat):Int):=by omega
  simp (disch:=omega) only[e1,wrap_i64]
  intro b hb hbase;obtain⟨t',g1,g2,g3,_⟩:=eU (C:=yA) (k:=.u16) ty27 rfl zmp rfl rfl (by decide) (n:=2*(sE l).length) (by omega) hb
  rw[g1];simp only[tA];refine zmn h2 (by omega) (zQ hlt) h0 (oP l) hbase hb (fun t2 v2 a b=>?_) (sE l).length 0 t' (by omega) g3 (by simpa[wG]using g2)
  have:=hQ t2 v2 a b
  rw[if_neg h0]at this;exact this
end Go.Proofs
namespace Go.Proofs
open Go Go.Am
variable [nC]
variable {t:Tr rA}
theorem rT{T el:Nat}(h:lF yA T el 1 false){b n cap j:Nat}(hj:j<n):lB yA T (.slice b 0 n cap) (.int .i64 (j:Int))=some (.ptr b j):=by
 have:=lV (b:=b) (off:=0) (cap:=cap) h hj
 rw[show 0+j*1=j by omega]at this;exact this
theorem zq6{x s:Nat}(hs:s<64)(hx:x*2^s<18446744073709551616):zyy .u64 (x:Int) (s:Int)=some (.int .u64 ((x*2^s:Nat):Int)):=by
 unfold zyy zc0;have:aI (s:Int)=some s:=rfl
 rw[this,uA,uA];have hm:min s (IntKind.bits .u64)=s:=by show min s 64=s;omega
 rw[hm];have e:(x:Int)*Int.ofNat (2^s)=((x*2^s:Nat):Int):=by rw[Int.natCast_mul];rfl
 rw[e,mE (by omega) (by omega)]
theorem zq5{x s:Nat}(hs:s<65):z8v .u64 (x:Int) (s:Int)=some (.int .u64 ((x / 2^s:Nat):Int)):=by
 unfold z8v zc0;have:aI (s:Int)=some s:=rfl
 rw[this,uA,uA];have hm:min s (IntKind.bits .u64)=s:=by show min s 64=s;omega
 rw[hm];have e:Int.fdiv (x:Int) (Int.ofNat (2^s))=((x / 2^s:Nat):Int):=hO x (2^s)
 rw[e]
theorem zwy{s:Nat}(hs:s<32):2^s<=2147483648:=Nat.pow_le_pow_right (n:=2) (by decide) (show s<=31 by omega)
theorem zj5{s:Nat}(hs:s<=32):2^s*2^(32-s)=4294967296:=by rw[<- Nat.pow_add,show s+(32-s)=32 by omega]
theorem z79{x s:Nat}(hs:s<=32):(x*2^s%4294967296)%2^s=0:=by
 rw[<- zj5 hs,yai x,Nat.mul_mod_mul_left,Nat.mul_mod_right]
theorem zjp{l:List Nat}{v:zA}{b s:Nat}{Q:aB}(hv:jA t 1 (pB .u32 l) v)(hl:l.length<900000)(hlt:tB 4294967296 l)(hs:s<32)(hbase:yA.base<=b)(hb:t.get b=none)
  (hQ:∀t' r,zB t t'->mD b t t'->aE t' b .u32 r->r.length=l.length+1->tB 4294967296 r->val 4294967296 r=val 4294967296 l*2^s->Q (.slice b 0 (l.length+1) (l.length+1)) t') :
  ∀(k i:Nat) (t':Tr rA) (P:List Nat) (c:Nat),i+k=l.length->zB t t'->mD b t t'->aE t' b .u32 ((P++[c])++List.replicate k 0)->P.length=i->c<2^s->tB 4294967296 P->val 4294967296 P+4294967296^i*c=val 4294967296 (l.take i)*2^s →
  jp 252 2 [.int .i64 s,.slice b 0 (l.length+1) (l.length+1),v,.int .i64 l.length,.int .i64 i] t' Q:=by
 have hp2:=zwy hs
 intro k;induction k with
 | zero=>
  intro i t' P c hi ht hoff ho hP hc hPl hval;refine z54 _ _ _ _ _ ?_
  simp only[zvo,qA,zD];rw[if_neg (by omega)]
  rw[List.replicate_zero,ybe]at ho;refine hQ t' (P++[c]) ht hoff ho (by simp;omega) (pS hPl (by omega)) ?_
  rw[eK,hP,hval,ybb (by omega)]
 | succ k ih=>
  intro i t' P c hi ht hoff ho hP hc hPl hval;obtain⟨x,hx⟩:=getElem?_of_lt (l:=l) (i:=i) (by omega)
  have hxlt:x<4294967296:=xI hlt hx
  obtain⟨d,off,g1,g2⟩:=(hv.mono ht).idx rF hx
  have hxs:x*2^s<4294967296*2^s:=Nat.mul_lt_mul_of_pos_right hxlt (Nat.pow_pos (by decide))
  have hxs2:x*2^s<18446744073709551616:=by
   have:4294967296*2^s<=4294967296*2147483648:=yaw _ hp2
   omega
  have hlow:=z79 (x:=x) (s:=s) (by omega)
  have hlor:Nat.lor c (x*2^s%4294967296)=x*2^s%4294967296+c:=by
   have:=or_low (a:=x*2^s%4294967296) (b:=c) (n:=s) hc hlow
   show c ||| _=_
   rw[Nat.or_comm];exact this
  have hsum:x*2^s%4294967296+c<4294967296:=by
   have h1:x*2^s%4294967296<4294967296:=ybz _ (by decide)
   have h2:(4294967296:Nat)%2^s=0:=by rw[<- zj5 (s:=s) (by omega),Nat.mul_mod_right]
   obtain⟨p,hp⟩:=Nat.dvd_of_mod_eq_zero hlow
   obtain⟨q,hq⟩:=Nat.dvd_of_mod_eq_zero h2
   have hpq:p<q:=by
    rcases Nat.lt_or_ge p q with g | g
    ·exact g
    ·have:=yaw (2^s) g;omega
   have:=yaw (2^s) (show p+1<=q from hpq)
   rw[yan]at this;omega
  have hhigh:x*2^s / 4294967296<2^s:=ybv (by omega)
  have hlen0:((P++[c])++List.replicate (k+1) 0).length=l.length+1:=by simp;omega
  have g3a:=rT rF (b:=b) (n:=l.length+1) (cap:=l.length+1) (j:=i) (by omega)
  have g3b:=rT rF (b:=b) (n:=l.length+1) (cap:=l.length+1) (j:=i+1) (by omega)
  have g4:=ho.load (j:=i) (x:=c) (by rw[yba,yaq (by omega),hP,Nat.sub_self];rfl) vG rfl
  obtain⟨t1,s1,s2,s3⟩:=ho.store (C:=yA) hbase (j:=i) (by rw[hlen0];omega) (x*2^s%4294967296+c) vG rfl
  have hs2:((P++[c])++List.replicate (k+1) 0).set i (x*2^s%4294967296+c)=(P++[x*2^s%4294967296+c])++List.replicate (k+1) 0:=by
   rw[yba,set_append_right hP];simp
  rw[hs2]at s2;obtain⟨t2,s4,s5,s6⟩:=s2.store (C:=yA) hbase (j:=i+1) (by simp;omega) (x*2^s / 4294967296) vG rfl
  have hs5:((P++[x*2^s%4294967296+c])++List.replicate (k+1) 0).set (i+1) (x*2^s / 4294967296)=((P++[x*2^s%4294967296+c])++[x*2^s / 4294967296])++List.replicate k 0:=by
   have hq:(P++[x*2^s%4294967296+c]).length=i+1:=by simp[hP]
   rw[<- hq];exact qX
  rw[hs5]at s5;refine z54 _ _ _ _ _ ?_
  have e1:wA .u32 ((x*2^s:Nat):Int)=((x*2^s%4294967296:Nat):Int):=by rw[qM];omega
  have e2:wA .u32 (Int.fdiv ((x*2^s:Nat):Int) 4294967296)=((x*2^s / 4294967296:Nat):Int):=by
   rw[show Int.fdiv ((x*2^s:Nat):Int) 4294967296=((x*2^s / 4294967296:Nat):Int) from hO _ 4294967296]
   generalize x*2^s=z at hhigh ⊢
   rw[tQ (by omega) (by omega)]
  simp (disch:=omega) only[zvo,qA,zD,g1,g2,tA,qB,mE,g3a,g4]
  rw[if_pos (by omega),zq6 (by omega) hxs2]
  simp only[tA,qB,e1];have e3:yH Nat.lor .u32 (c:Int) ((x*2^s%4294967296:Nat):Int)=some (.int .u32 ((x*2^s%4294967296+c:Nat):Int)):=by
   rw[kO (k:=.u32) (x:=c) (y:=x*2^s%4294967296) (show c<oF .u32 by show c<4294967296;omega) (by show x*2^s%4294967296<4294967296;exact ybz _ (by decide)),hlor]
  rw[e3];simp only[tA,qB];intro _ _ _;rw[s1];simp (disch:=omega) only[tA,wrap_i64]
  rw[show(i:Int)+1=((i+1:Nat):Int) by omega,g3b]
  simp only[tA,e2];intro _ _ _;rw[s4];simp only[tA];refine ih (i+1) t2 _ _ (by omega) ((ht.off hb s3).off hb s6) ((hoff.trans s3).trans s6) s5 (by simp[hP]) hhigh (pS hPl hsum) ?_
  rw[eK,hP,qR hx,eK,yap,<- hval];have:(l.take i).length=i:=by simp;omega
  rw[this,Nat.pow_succ];have hd:=ybi (x*2^s) 4294967296
  have e4:4294967296^i*x*2^s=4294967296^i*(4294967296*(x*2^s / 4294967296)+x*2^s%4294967296):=by rw[hd,yak]
  rw[e4,yan,yan];have e5:4294967296^i*4294967296*(x*2^s / 4294967296)=4294967296^i*(4294967296*(x*2^s / 4294967296)):=by rw[yak]
  rw[e5];omega
theorem zfq{l:List Nat}{v:zA}{s:Nat}{Q:aB}(hv:jA t 1 (pB .u32 l) v)(hl:l.length<900000)(hlt:tB 4294967296 l)(hs:s<32)
  (hQ:∀t' b r,zB t t'->t.get b=none->yA.base<=b->aE t' b .u32 r->r.length=l.length+1->tB 4294967296 r->val 4294967296 r=val 4294967296 l*2^s->Q (.slice b 0 (l.length+1) (l.length+1)) t'):Wc yA F 252 [v,.int .i64 s] t Q:=by
 refine w252 _ _ ?_
 simp (disch:=omega) only[t252,qA,hv.len,tA,qB,lE,wrap_i64]
 intro b hb hbase;obtain⟨t',g1,g2,g3,g4⟩:=eU (C:=yA) (k:=.u32) pL rfl vG rfl rfl (by decide) (n:=l.length+1) (by omega) hb
 rw[show(l.length:Int)+1=((l.length+1:Nat):Int) by omega,g1]
 simp only[tA];have:=zjp hv hl hlt hs hbase hb (fun t' r a _ c d e f=>hQ t' b r a hb hbase c d e f) l.length 0 t' [] 0 (by omega) g3 g4 (by simpa[List.replicate_succ]using g2) rfl (Nat.pow_pos (by decide)) (fun x hx=>by cases hx) (by simp[val])
 exact this
theorem zoi{l:List Nat}{v:zA}{b d:Nat}{Q:aB}(hv:jA t 1 (pB .u32 l) v)(hl:l.length<900000)(hlt:tB 4294967296 l)(hd:d<4294967296)(hd0:0<d)(hbase:yA.base<=b)(hb:t.get b=none)
  (hQ:∀t' v' q r,zB t t'->jA t' 1 (pB .u32 (sE q)) v'->tB 4294967296 q->q.length=l.length->r<d->val 4294967296 l=val 4294967296 q*d+r->Q (.tup [v',.int .u32 (r:Nat)]) t') :
  ∀(i:Nat) (t':Tr rA) (q:List Nat) (r:Nat),i<=l.length->zB t t'->aE t' b .u32 (List.replicate i 0++q)->q.length=l.length-i->tB 4294967296 q->r<d->val 4294967296 (l.drop i)=val 4294967296 q*d+r →
  jp 191 2 [v,.int .u32 d,.slice b 0 l.length l.length,.int .u32 r,.int .i64 ((i:Int)-1)] t' Q:=by
 intro i;induction i with
 | zero=>
  intro t' q r _ ht ho hq hql hr hval;refine z6c _ _ _ _ _ ?_
  simp only[zvz,qA,dF];rw[if_neg (by omega)]
  rw[List.replicate_zero,List.nil_append]at ho;have hread:=ho.all (yal _)
  have hqlen:q.length=l.length:=by omega
  rw[hqlen]at hread;obtain⟨v',h1,h2⟩:=aS (l:=q) (by omega) hread
  simp only[q212,h1,tA];exact hQ t' v' q r ht h2 hql hqlen hr (by simpa using hval)
 | succ i ih=>
  intro t' q r hi ht ho hq hql hr hval;obtain⟨x,hx⟩:=getElem?_of_lt (l:=l) (i:=i) (by omega)
  have hxlt:x<4294967296:=xI hlt hx
  obtain⟨c,off,g1,g2⟩:=(hv.mono ht).idx rF hx
  have e1:((i+1:Nat):Int)-1=(i:Int):=by omega
  have g3:=rT rF (b:=b) (n:=l.length) (cap:=l.length) (j:=i) (by omega)
  have hlen0:(List.replicate (i+1) 0++q).length=l.length:=by simp;omega
  have hdiv:=z35 (t:=t') hr hxlt hd
  have hqlt:(r*4294967296+x) / d<4294967296:=zsg hr hxlt
  have hrlt:(r*4294967296+x)%d<d:=ybz _ hd0
  obtain⟨t1,s1,s2,s3⟩:=ho.store (C:=yA) hbase (j:=i) (by rw[hlen0];omega) ((r*4294967296+x) / d) vG rfl
  have hs2:(List.replicate (i+1) 0++q).set i ((r*4294967296+x) / d)=List.replicate i 0++((r*4294967296+x) / d::q):=by
   rw[List.replicate_succ',yba,set_append_right (by simp)];rfl
  rw[hs2]at s2;rw[e1];refine z6c _ _ _ _ _ ?_
  simp (disch:=omega) only[zvz,qA,dF,g1,g2,tA,qB,q211,hdiv,sB,zA.asTup,uA,g3,wrap_i64]
  rw[if_pos (by omega)]
  simp only[pF,yaa,yab,tA,qB];intro _ _ _;rw[s1];simp only[tA];refine ih t1 _ _ (by omega) (ht.off hb s3) s2 (by simp;omega) ?_ hrlt ?_
  ·intro y hy
   rcases yat.1 hy with rfl | hy
   ·exact hqlt
   ·exact hql y hy
  ·rw[uK hx]
   simp only[val];rw[hval];have hd1:=ybi (r*4294967296+x) d
   rw[yap,yan,yak];rw[yai ((r*4294967296+x) / d) d]
   rw[yai 4294967296 r];omega
theorem zld{l:List Nat}{v:zA}{d:Nat}{Q:aB}(hv:jA t 1 (pB .u32 l) v)(hl:l.length<900000)(hlt:tB 4294967296 l)(hd:d<4294967296)(hd0:0<d)
  (hQ:∀t' v' q r,zB t t'->jA t' 1 (pB .u32 (sE q)) v'->tB 4294967296 q->q.length=l.length->r<d->val 4294967296 l=val 4294967296 q*d+r->Q (.tup [v',.int .u32 (r:Nat)]) t'):Wc yA F 191 [v,.int .u32 d] t Q:=by
 refine w191 _ _ ?_
 simp (disch:=omega) only[t191,qA,hv.len,tA,qB,lE,wrap_i64]
 intro b hb hbase;obtain⟨t',g1,g2,g3,g4⟩:=eU (C:=yA) (k:=.u32) pL rfl vG rfl rfl (by decide) (n:=l.length) (by omega) hb
 rw[g1];simp only[tA];exact zoi hv hl hlt hd hd0 hbase hb hQ l.length t' [] 0 (yal _) g3 (by simpa using g2) (by simp) (fun x hx=>by cases hx) hd0 (by simp[val])
end Go.Proofs
namespace Go.Proofs
open Go Go.Am
variable [nC]
theorem zzv{l:List Nat}{y:zA}{box:Nat}{v:zA}{Q:aB}{I:Nat->Tr rA->Prop}(hl:l.length<1000000)
  (hr:∀k t,I k t->oA yA 244 ⟨0,t⟩ (.ptr box 0)=some v/\jA t 1 (pB .u32 l) v)
  (hy:∀k x t,l[k]?=some x->I (k+1) t->∀R:aB,(∀t',I k t'->R (.bool true) t')->rE (bO y [.int .u32 (x:Nat)]) fun p=>Wq yA F sJ p.1 p.2 t R)
  (hQ:∀t,I 0 t->Q (.tup []) t):∀(k:Nat) (t:Tr rA),k<=l.length->I k t->jp 213 2 [y,.ptr box 0,.int .i64 ((k:Int)-1)] t Q:=by
 intro k;induction k with
 | zero=>
  intro t _ h;refine z6b _ _ _ ?_
  simp only[zvy,qA,dF];rw[if_neg (by omega)]
  exact hQ t h
 | succ k ih=>
  intro t hk h;obtain⟨g0,hv⟩:=hr _ _ h
  obtain⟨x,hx⟩:=getElem?_of_lt (l:=l) (i:=k) (by omega)
  obtain⟨c,off,g1,g2⟩:=hv.idx rF hx
  have e1:((k+1:Nat):Int)-1=(k:Int):=by omega
  rw[e1];refine z6b _ _ _ ?_
  simp (disch:=omega) only[zvy,qA,dF,g0,g1,g2,tA,qB,wrap_i64]
  rw[if_pos (by omega)]
  refine hy k x t hx h _ fun t' ht'=>?_
  simp only[zA.asBool,tA,Bool.not_true];rw[if_neg (by simp)]
  exact ih t' (by omega) ht'
theorem z9e{l:List Nat}{y:zA}{box:Nat}{v:zA}{Q:aB}{t:Tr rA}{I:Nat->Tr rA->Prop}(hl:l.length<1000000)
  (hr:∀k t,I k t->oA yA 244 ⟨0,t⟩ (.ptr box 0)=some v/\jA t 1 (pB .u32 l) v)
  (hy:∀k x t,l[k]?=some x->I (k+1) t->∀R:aB,(∀t',I k t'->R (.bool true) t')->rE (bO y [.int .u32 (x:Nat)]) fun p=>Wq yA F sJ p.1 p.2 t R)
  (hQ:∀t,I 0 t->Q (.tup []) t) (h:I l.length t):Wc yA F 213 [y,.ptr box 0] t Q:=by
 obtain⟨g0,hv⟩:=hr _ _ h
 refine w213 _ _ ?_
 simp (disch:=omega) only[t213,qA,g0,hv.len,lE,tA,qB,wrap_i64]
 exact zzv hl hr hy hQ l.length t (yal _) h
end Go.Proofs
namespace Go.Am
open Go Go.RowKit
section
variable {t tf:Tr rA}{C:pA}
theorem iI{n:Nat}(hn:t.get n=none)(q:rA):zB t (t.set n q)/\mD n t (t.set n q):=
 ⟨fun c u hc=>by rw[Tr.get_set,if_neg (by intro e;rw[e,hn]at hc;cases hc)];exact hc,fun c hc=>by rw[Tr.get_set,if_neg hc]⟩
theorem zgl{sz n:Nat}{cl:List (List zA)}{t':Tr rA}{lo:Option Lo}(hl:∀(i:Nat) cs,cl[i]?=some cs->cs.length=sz)(h:t'.get n=some (.cells (Tr.ofList cl.flatten) (dA cl.flatten) lo))(hlo:lo=none\/∃x,lo=some x/\x.es=sz){k:Nat}(hk:cl.length=k):yJ t' sz (.slice n 0 k k) cl:=by
 subst hk;exact zaj hl h hlo
theorem zkj{T el sz n:Nat}{y z:uC}{ps:List (Nat × zA)}{cl:List (List zA)}(hT:C.tys.get T=some y)(hel:y.desc.asSlice=some el)(hz:C.tys.get el=some z)(hs:z.size=sz)(h0:dA z.zero=sz)(hn:n*sz<1000000)
  (hfill:fJ (fun i=>some (i*sz,sz)) ps (gI z.zero n)=some cl.flatten) (hcl:∀(i:Nat) cs,cl[i]?=some cs->cs.length=sz) (hlen:cl.length=n) {b:Nat} (hb:t.get b=none) :
  ∃t',jH C T n ps ⟨b,t⟩=some (.slice b 0 n n,⟨b+1,t'⟩)/\yJ t' sz (.slice b 0 n n) cl/\zB t t'/\mD b t t':=by
 refine⟨t.set b (.cells (Tr.ofList cl.flatten) (dA cl.flatten) none),?_,zgl hcl (by rw[Tr.get_set,if_pos rfl]) (.inl rfl) hlen,(iI hb _).1,(iI hb _).2⟩
 unfold jH;rw[hT,uA,hel,uA,hz,uA];have:(Nat.blt (n*z.size) 1000000&&Nat.beq (dA z.zero) z.size)=true:=by
  rw[hs,h0,dB.2 hn,mB.2 rfl];rfl
 rw[this,nD,hs,hfill];rfl
def bF(cd:Lo)(base:Nat)(tf t:Tr rA)(sz:Nat)(l:List D)(v:zA):Prop:=
 (v=.nilslice/\l=[])\/∃b cl c,v=.slice b 0 l.length l.length/\base<=b/\tf.get b=none/\t.get b=some (.cells c (l.length*sz) (some cd)) ∧
  (∀(i:Nat) cs,cl[i]?=some cs->cs.length=sz/\∀(j:Nat) a,cs[j]?=some a->c.get (i*sz+j)=some a)/\lC tf l cl
abbrev zfa(base:Nat)(tf t:Tr rA)(sz:Nat)(l:List D)(v:zA):Prop:=bF (.sz sz) base tf t sz l v
def zJ(v:zA)(b:Nat):Prop:=∃o n c,v=.slice b o n c
theorem zdz{b:Nat}:¬ zJ .nilslice b:=fun⟨_,_,_,h⟩=>by cases h
theorem kP{b c o n k:Nat}:zJ (.slice b o n k) c ↔ c=b:=⟨fun⟨_,_,_,h⟩=>by cases h;rfl,fun h=>by subst h;exact⟨_,_,_,rfl⟩⟩
theorem bF.read{cd:Lo}{base sz:Nat}{l:List D}{v:zA}(hcd:cd.es=sz)(h:bF cd base tf t sz l v)(ht:zB tf t):jA t sz l v:=by
 rcases h with⟨rfl,rfl⟩ | ⟨b,cl,c,rfl,_,_,h1,h2,h3⟩
 ·exact⟨[],.inl ⟨rfl,rfl⟩,sH.2 rfl⟩
 ·have hlen:=h3.length
  refine⟨cl,.inr ⟨b,0,l.length,by rw[hlen],by omega,⟨c,_,_,h1,.inr ⟨_,rfl,hcd⟩⟩,fun i cs hi=>⟨(h2 i cs hi).1,c,_,_,h1,fun j a hj=>?_⟩⟩,lC.mono ht _ _ h3⟩
  rw[yax];exact(h2 i cs hi).2 j a hj
theorem bF.len{cd:Lo}{base sz:Nat}{l:List D}{v:zA}(h:bF cd base tf t sz l v):xC v=some (.int .i64 (l.length:Int)):=by
 rcases h with⟨rfl,rfl⟩ | ⟨b,cl,c,rfl,_⟩
 ·rfl
 ·rfl
theorem bF.none{cd:Lo}{base sz:Nat}{l:List D}{v:zA}(h:bF cd base tf t sz l v){b:Nat}(hb:zJ v b):tf.get b=none/\base<=b/\∃y,t.get b=some y:=by
 rcases h with⟨rfl,rfl⟩ | ⟨c,cl,x,rfl,h1,h2,h3,_⟩
 ·exact absurd hb zdz
 ·rw[kP]at hb;subst hb;exact⟨h2,h1,_,h3⟩
theorem zfa.keep{base sz:Nat}{l:List D}{v:zA}{t' tf':Tr rA}(h:zfa base tf t sz l v)(hf:zB tf tf')(hk:∀b,zJ v b->t'.get b=t.get b/\tf'.get b=Option.none):zfa base tf' t' sz l v:=by
 rcases h with⟨rfl,rfl⟩ | ⟨b,cl,c,rfl,h0,h1,h2,h3,h4⟩
 ·exact .inl ⟨rfl,rfl⟩
 ·obtain⟨k1,k2⟩:=hk b (kP.2 rfl)
  exact .inr ⟨b,cl,c,rfl,h0,k2,by rw[k1];exact h2,h3,lC.mono hf _ _ h4⟩
theorem zap{T U el sz:Nat}{cd:Lo}(hT:zt9 C T el sz)(hU:∃u,C.tys.get U=some u/\Nat.beq u.desc.tag 1=false)(hcd:∀z,C.tys.get el=some z->bH el z=cd){l m:List D}{v x:zA}{cm:List (List zA)}(hv:bF cd C.base tf t sz l v)(hall:∀(i:Nat) cs,cm[i]?=some cs->cs.length=sz)(hx:∀n,cN ⟨n,t⟩ sz cm.length x=some cm.flatten/\jR x=some cm.length)(hm:lC tf m cm)(hone:∀a∈cm.flatten,zA.one a=true)(hpos:0<m.length)(hl:l.length+m.length<400000){n:Nat}(hn:t.get n=none)(hbase:C.base<=n)(ht:zB tf t) :
  ∃t',zG C T U v x ⟨n,t⟩=some (.slice n 0 (l.length+m.length) (l.length+m.length),⟨n+1,t'⟩)/\bF cd C.base tf t' sz (l++m) (.slice n 0 (l.length+m.length) (l.length+m.length))/\zB tf t'/\(∀c,c≠n->¬ zJ v c->t'.get c=t.get c):=by
 obtain⟨⟨y,hy1,hy2,hy3⟩,⟨z,hz1,hz2,hz3,hz4,hz5⟩⟩:=hT
 have hcode:=hcd z hz1
 have hcm:=hm.length
 obtain⟨hf,hlen⟩:=hx n
 obtain⟨u,hu1,hu2⟩:=hU
 have hflat:=zig hall
 have hfl:dA cm.flatten=cm.length*sz:=by rw[jC];exact hflat
 have hfn:tf.get n=none:=by
  cases hq:tf.get n with
  | none=>rfl
  | some u=>rw[ht _ _ hq]at hn;cases hn
 have base:zG C T U v x ⟨n,t⟩=(match v.asSlice with
  | some s=>bif Nat.ble (s.2.2.1+cm.length) s.2.2.2 then xS C ⟨n,t⟩ z cm.length cm.flatten s else gQ C ⟨n,t⟩ el z cm.length cm.flatten s
  | none=>iA (Nat.beq v.tag 5) (eL ⟨n,t⟩ el z cm.length cm.flatten)):=by
  unfold zG aP;rw[hy1,uA,hu1,uA,hu2];simp only[ybm,nD];rw[hy2,uA,hz1,uA,hlen,uA,hz2,hf,uA];rfl
 have ok:jO z l.length l.length cm.length cm.flatten=true:=by
  unfold jO;have h1:Nat.blt (l.length+cm.length+l.length) 1000000000=true:=dB.2 (by omega)
  have h2:Nat.blt ((l.length+cm.length+l.length)*z.bytes) 1000000000=true:=dB.2 (by
   have:=ycc (show l.length+cm.length+l.length<=800000 by omega) hz4
   omega)
  have h3:Nat.blt z.bytes 1000000000=true:=dB.2 (by omega)
  have h4:(!Nat.beq z.size 0)=true:=by
   cases hq:Nat.beq z.size 0 with
   | true=>have:=mB.1 hq;omega
   | false=>rfl
  have h5:Nat.beq (dA cm.flatten) (cm.length*z.size)=true:=by rw[hfl,hz2];exact mB.2 rfl
  have h6:Nat.beq (dA z.zero) z.size=true:=by rw[hz3,hz2];exact mB.2 rfl
  rw[h1,h2,h3,h4,h5,h6];rfl
 rcases hv with⟨rfl,rfl⟩ | ⟨b,cl,c,rfl,hb0,hb1,hb2,hb3,hb4⟩
 ·refine⟨t.set n (.cells (Tr.ofList cm.flatten) (dA cm.flatten) (some cd)),?_,.inr ⟨n,cm,Tr.ofList cm.flatten,by simp,hbase,hfn,?_,fun i cs hi=>⟨hall i cs hi,fun j a hj=>?_⟩,by simpa using hm⟩,?_,fun c hc _=>(iI hn _).2 c hc⟩
  ·rw[base]
   simp only[zA.asSlice];show iA true (eL ⟨n,t⟩ el z cm.length cm.flatten)=_
   rw[nD];unfold eL;have:Nat.beq cm.length 0=false:=by
    cases hq:Nat.beq cm.length 0 with
    | true=>have:=mB.1 hq;omega
    | false=>rfl
   have ok:jO z 0 0 cm.length cm.flatten=true:=ok
   rw[this,cond_false,ok,nD,hcm,hcode];simp only[yay,yax];rfl
  ·rw[Tr.get_set,if_pos rfl,hfl,hcm];simp
  ·rw[Tr.get_ofList];exact wV hall i j cs a hi hj
  ·exact ht.trans (iI hn _).1
 ·have hcl:=hb4.length
  have hbn:b≠n:=by intro e;rw[e,hn]at hb2;cases hb2
  refine⟨(t.del b).set n (.cells (c.setMany cm.flatten (l.length*z.size)) ((l.length+cm.length)*z.size) (some cd)),?_,.inr ⟨n,cl++cm,c.setMany cm.flatten (l.length*z.size),by simp,hbase,hfn,?_,fun i cs hi=>?_,?_⟩,fun k u hk=>?_,fun k hk1 hk2=>?_⟩
  ·rw[base]
   simp only[zA.asSlice];have:Nat.ble (l.length+cm.length) l.length=false:=by
    cases hq:Nat.ble (l.length+cm.length) l.length with
    | true=>have:=eD.1 hq;omega
    | false=>rfl
   rw[this,cond_false];unfold gQ;simp only[];rw[show ∀x,(!(Nat.beq 0 1&&x))=true from fun _=>rfl,nD,ok,nD]
   unfold uD;rw[hb2,uA];simp only[rA.asCells,uA];unfold yV;simp only[];have g1:loEq cd (bH el z)=true:=by rw[hcode];exact zxt.2 rfl
   have g2:Nat.ble (l.length*z.size) (l.length*sz)=true:=eD.2 (by rw[hz2];exact yal _)
   have g3:Nat.ble (l.length*sz) ((l.length+cm.length)*z.size)=true:=eD.2 (by rw[hz2];exact yaj _ (by omega))
   have g4:tC zA.one cm.flatten=true:=by rw[gG];exact ybc.2 hone
   have g5:(!Nat.blt b C.base)=true:=by
    cases hq:Nat.blt b C.base with
    | true=>have:=dB.1 hq;omega
    | false=>rfl
   rw[g1,g2,g3,g4,g5];simp only[hz2,hcm];rfl
  ·rw[Tr.get_set,if_pos rfl,hz2,hcm,yah]
  ·rw[List.getElem?_append]at hi
   split at hi
   ·rename_i hlt
    obtain⟨k1,k2⟩:=hb3 i cs hi
    refine⟨k1,fun j a hj=>?_⟩
    have hjl:j<sz:=by rw[<- k1];exact(yad.1 hj).1
    have:i*sz+j<l.length*sz:=by
     have:=yaj sz (show i+1<=l.length by omega)
     rw[yap]at this;omega
    rw[Tr.get_setMany,hz2,if_neg (by omega)]
    exact k2 j a hj
   ·rename_i hge
    have k1:=hall _ cs hi
    refine⟨k1,fun j a hj=>?_⟩
    have hf1:=wV hall _ j cs a hi hj
    have hlt:=(yad.1 hf1).1
    have e:i*sz=l.length*sz+(i-cl.length)*sz:=by rw[<- yap];congr 1;omega
    rw[Tr.get_setMany,hz2,if_pos (by omega),show i*sz+j-l.length*sz=(i-cl.length)*sz+j by omega]
    exact hf1
  ·have app:∀ {l m:List D} {cl cm:List (List zA)},lC tf l cl->lC tf m cm->lC tf (l++m) (cl++cm):=by
    intro l;induction l with
    | nil=>intro m cl cm h k;rw[sH]at h;subst h;exact k
    | cons d l ih=>
     intro m cl cm h k;rw[vF]at h;obtain⟨c,r,rfl,h1,h2⟩:=h
     exact vF.2 ⟨c,r++cm,rfl,h1,ih h2 k⟩
   exact app hb4 hm
  ·have h1:k≠b:=by intro e;rw[e,hb1]at hk;cases hk
   have h2:k≠n:=by intro e;rw[e,hfn]at hk;cases hk
   rw[Tr.get_set,if_neg h2,Tr.get_del,if_neg h1];exact ht _ _ hk
  ·rw[Tr.get_set,if_neg hk1,Tr.get_del,if_neg (fun e=>hk2 (kP.2 e))]
theorem zaq{T el sz:Nat}{cd:Lo}(hT:zt9 C T el sz)(hcd:∀z,C.tys.get el=some z->bH el z=cd){l m:List D}{v x:zA}{cm:List (List zA)}(hv:bF cd C.base tf t sz l v)(hx:yJ t sz x cm)(hm:lC tf m cm)(hone:∀a∈cm.flatten,zA.one a=true)(hpos:0<m.length)(hl:l.length+m.length<400000){n:Nat}(hn:t.get n=none)(hbase:C.base<=n)(ht:zB tf t) :
  ∃t',zG C T T v x ⟨n,t⟩=some (.slice n 0 (l.length+m.length) (l.length+m.length),⟨n+1,t'⟩)/\bF cd C.base tf t' sz (l++m) (.slice n 0 (l.length+m.length) (l.length+m.length))/\zB tf t'/\(∀c,c≠n->¬ zJ v c->t'.get c=t.get c):=by
 obtain⟨y,hy1,hy2,hy3⟩:=hT.ty
 exact zap hT ⟨y,hy1,hy3⟩ hcd hv hx.len (fun n=>hx.first (n:=n)) hm hone hpos hl hn hbase ht
theorem zlv{T el sz:Nat}(hT:zuh C T el sz){l m:List D}{v x:zA}{cm:List (List zA)}(hv:zfa C.base tf t sz l v)(hx:yJ t sz x cm)(hm:lC tf m cm)(hone:∀a∈cm.flatten,zA.one a=true)(hpos:0<m.length)(hl:l.length+m.length<400000){n:Nat}(hn:t.get n=none)(hbase:C.base<=n)(ht:zB tf t) :
  ∃t',zG C T T v x ⟨n,t⟩=some (.slice n 0 (l.length+m.length) (l.length+m.length),⟨n+1,t'⟩)/\zfa C.base tf t' sz (l++m) (.slice n 0 (l.length+m.length) (l.length+m.length))/\zB tf t'/\(∀c,c≠n->¬ zJ v c->t'.get c=t.get c):=by
 refine zaq ⟨hT.ty,hT.el⟩ (fun z h=>?_) hv hx hm hone hpos hl hn hbase ht
 obtain⟨y,h1,h2,_⟩:=hT.el
 rw[hT.nb.code h,show z=y from ybj (h.symm.trans h1),h2]
theorem bF.freeze{cd:Lo}{base sz:Nat}{l:List D}{v:zA}(hcd:cd.es=sz)(h:bF cd base tf t sz l v)(ht:zB tf t):∃tf',zB tf tf'/\zB tf' t/\jA tf' sz l v/\∀b,¬ zJ v b->tf'.get b=tf.get b:=by
 rcases h with⟨rfl,rfl⟩ | ⟨b,cl,c,rfl,h0,h1,h2,h3,h4⟩
 ·exact⟨tf,zB.refl _,ht,⟨[],.inl ⟨rfl,rfl⟩,sH.2 rfl⟩,fun _ _=>rfl⟩
 ·have hlen:=h4.length
  refine⟨tf.set b (.cells c (l.length*sz) (some cd)),(iI h1 _).1,fun k u hk=>?_,⟨cl,.inr ⟨b,0,l.length,by rw[hlen],by omega,⟨c,_,_,by rw[Tr.get_set,if_pos rfl],.inr ⟨_,rfl,hcd⟩⟩,fun i cs hi=>⟨(h3 i cs hi).1,c,_,_,(by rw[Tr.get_set,if_pos rfl]),fun j a hj=>?_⟩⟩,lC.mono (iI h1 _).1 _ _ h4⟩,fun k hk=>by rw[Tr.get_set,if_neg (fun e=>hk (kP.2 e))]⟩
  ·rw[Tr.get_set]at hk
   split at hk
   ·rename_i e;subst e;cases hk;exact h2
   ·exact ht _ _ hk
  ·rw[yax];exact(h3 i cs hi).2 j a hj
theorem zfa.freeze{base sz:Nat}{l:List D}{v:zA}(h:zfa base tf t sz l v)(ht:zB tf t):∃tf',zB tf tf'/\zB tf' t/\jA tf' sz l v/\∀b,¬ zJ v b->tf'.get b=tf.get b:=bF.freeze rfl h ht
end
end Go.Am
namespace Go.Am
open Go Go.RowKit
def jD (t:Tr rA)(b:Nat)(lo:Option Lo)(cs:List zA):Prop:=∃c,t.get b=some (.cells c cs.length lo)/\∀(j:Nat) a,cs[j]?=some a->c.get j=some a
def lN(cs:List zA)(j:Nat)(l:List zA):List zA:=cs.take j++(l++cs.drop (j+l.length))
theorem zw8{cs l:List zA}{j:Nat}(h:j+l.length<=cs.length):(lN cs j l).length=cs.length:=by
 unfold lN;simp;omega
theorem zj9{cs l:List zA}{j:Nat}(h:j+l.length<=cs.length)(k:Nat):(lN cs j l)[k]?=if j<=k/\k<j+l.length then l[k-j]? else cs[k]?:=by
 have ht:(cs.take j).length=j:=by simp;omega
 unfold lN;rw[List.getElem?_append,ht];split
 ·rename_i h1
  rw[if_neg (by omega),ycg,if_pos h1]
 ·rename_i h1
  rw[List.getElem?_append];split
  ·rw[if_pos (by omega)]
  ·rw[if_neg (by omega),ycf];congr 1;omega
section
variable {t tf:Tr rA}{C:pA}{b:Nat}{lo:Option Lo}{cs:List zA}
theorem jD.at(h:jD t b lo cs):At t b 0 cs:=by
 obtain⟨c,h1,h2⟩:=h
 exact⟨c,_,_,h1,fun j a hj=>by rw[yax];exact h2 j a hj⟩
theorem jD.off(h:jD t b lo cs){t':Tr rA}(k:t'.get b=t.get b):jD t' b lo cs:=by
 obtain⟨c,h1,h2⟩:=h
 exact⟨c,by rw[k];exact h1,h2⟩
theorem jD.load1(h:jD t b lo cs){j:Nat}{a:zA}{ty:Nat}{y:uC}(hy:C.tys.get ty=some y)(ha:y.desc.isAgg=false)(hj:cs[j]?=some a):oA C ty ⟨0,t⟩ (.ptr b j)=some a:=by
 have:=h.at.load1 hy ha hj
 rw[yax]at this;exact this
theorem jD.store(h:jD t b lo cs)(hb:C.base<=b){j T:Nat}{y:uC}{v:zA}(hT:C.tys.get T=some y)(hl:v.cells.length=y.size)(hj:j+v.cells.length<=cs.length)(hone:tC zA.one v.cells=true) :
  ∃t',(∀n,dC C T (.ptr b j) v ⟨n,t⟩=some (pD,⟨n,t'⟩))/\jD t' b lo (lN cs j v.cells)/\mD b t t':=by
 obtain⟨c,h1,h2⟩:=h
 refine⟨t.set b (.cells (c.setMany v.cells j) cs.length lo),fun n=>?_,⟨c.setMany v.cells j,?_,fun k a hk=>?_⟩,fun d hd=>by rw[Tr.get_set,if_neg hd]⟩
 ·unfold dC
  rw[hT,uA];simp only[zA.asPtr,uA];have e1:Nat.beq (dA v.cells) y.size=true:=by rw[jC,hl];exact mB.2 rfl
  rw[e1,nD];unfold uI uD;have e2:(!Nat.blt b C.base)=true:=by
   cases hq:Nat.blt b C.base with
   | true=>have:=dB.1 hq;omega
   | false=>rfl
  rw[e2,nD,h1,uA];simp only[rA.asCells,uA];have e3:Nat.ble (j+dA v.cells) cs.length=true:=by rw[jC];exact eD.2 hj
  rw[e3,hone];rfl
 ·rw[Tr.get_set,if_pos rfl,zw8 hj]
 ·rw[zj9 hj]at hk
  rw[Tr.get_setMany];split
  ·rename_i e;rw[if_pos e]at hk;exact hk
  ·rename_i e;rw[if_neg e]at hk;exact h2 k a hk
theorem jD.store1(h:jD t b lo cs)(hb:C.base<=b){j T:Nat}{y:uC}{v:zA}(hT:C.tys.get T=some y)(hs:y.size=1)(hv:v.cells=[v])(hone:zA.one v=true)(hj:j<cs.length) :
  ∃t',(∀n,dC C T (.ptr b j) v ⟨n,t⟩=some (pD,⟨n,t'⟩))/\jD t' b lo (cs.set j v)/\mD b t t':=by
 obtain⟨t',h1,h2,h3⟩:=h.store hb hT (v:=v) (j:=j) (by rw[hv,hs];rfl) (by rw[hv];exact hj) (by rw[hv];show(bif zA.one v then true else false)=true;rw[hone];rfl)
 refine⟨t',h1,?_,h3⟩
 have e:lN cs j v.cells=cs.set j v:=by
  rw[hv];apply List.ext_getElem?
  intro k;rw[zj9 (by exact hj),ybx]
  by_cases e:j=k
  ·subst e;rw[if_pos (by simp),if_pos rfl,if_pos hj];simp
  ·rw[if_neg (by simp;omega),if_neg e]
 rw[e]at h2;exact h2
theorem iU{b:Nat}(hb:t.get b=none)(cs:List zA)(lo:Option Lo):∃t',dD ⟨b,t⟩ cs lo=⟨b+1,t'⟩/\jD t' b lo cs/\zB t t'/\mD b t t':=
 ⟨t.set b (.cells (Tr.ofList cs) (dA cs) lo),rfl,⟨Tr.ofList cs,by rw[Tr.get_set,if_pos rfl,jC],fun j a hj=>by rw[Tr.get_ofList];exact hj⟩,(iI hb _).1,(iI hb _).2⟩
theorem aT{b T:Nat}{y:uC}(hT:C.tys.get T=some y)(hb:t.get b=none):∃t',dG C T ⟨b,t⟩=some (.ptr b 0,⟨b+1,t'⟩)/\jD t' b none y.zero/\zB t t'/\mD b t t':=by
 obtain⟨t',h1,h2,h3,h4⟩:=iU hb y.zero none
 refine⟨t',?_,h2,h3,h4⟩
 unfold dG;rw[hT,uA,<- h1]
end
end Go.Am
namespace Go.Am
open Go Go.RowKit
structure Thg where
 blks:List Nat
 ok:Tr rA->Tr rA->Prop
 keep:∀ {tf t tf' t':Tr rA},ok tf t->zB tf tf'->(∀k∈blks,t'.get k=t.get k/\tf'.get k=none)->ok tf' t'
 live:∀ {tf t:Tr rA},ok tf t->∀k∈blks,∃y,t.get k=some y
structure pE (base:Nat) (tf t:Tr rA) (l:List Thg):Prop where
 tle:zB tf t
 nodup:(l.flatMap Thg.blks).Nodup
 ok:∀o∈l,o.ok tf t
 low:∀k∈l.flatMap Thg.blks,base<=k/\tf.get k=none
def z6r (v:zA):List Nat:=match v with | .slice b _ _ _=>[b] | _=>[]
theorem zb3{v:zA}{k:Nat}:k∈z6r v ↔ zJ v k:=by
 unfold z6r zJ;split
 ·rename_i b o n c
  constructor
  ·intro h;rw[yce]at h;subst h;exact⟨_,_,_,rfl⟩
  ·rintro⟨o',n',c',e⟩;cases e;simp
 ·rename_i h
  constructor
  ·intro h;cases h
  ·rintro⟨o,n,c,e⟩;exact absurd e (h _ _ _ _)
def oCel (b:Nat)(lo:Option Lo)(cs:List zA):Thg where
 blks:=[b]
 ok:=fun _ t=>jD t b lo cs
 keep:=fun h _ k=>h.off (k b (by simp)).1
 live:=fun h k hk=>by rw[yce]at hk;subst hk;obtain⟨c,hc,_⟩:=h;exact⟨_,hc⟩
def kL(base sz:Nat)(l:List D)(v:zA):Thg where
 blks:=z6r v
 ok:=fun tf t=>zfa base tf t sz l v
 keep:=fun h hf k=>h.keep hf fun b hb=>k b (zb3.2 hb)
 live:=fun h k hk=>(h.none (zb3.1 hk)).2.2
section
variable {base:Nat}{tf t:Tr rA}{l A B:List Thg}{o o':Thg}
theorem pE.live(h:pE base tf t l){k:Nat}(hk:k∈l.flatMap Thg.blks):∃y,t.get k=some y:=by
 obtain⟨o,ho,hk⟩:=List.mem_flatMap.1 hk
 exact o.live (h.ok o ho) k hk
theorem pE.fresh(h:pE base tf t l){n:Nat}(hn:t.get n=none):n∉l.flatMap Thg.blks:=by
 intro hm;obtain⟨y,hy⟩:=h.live hm
 rw[hn]at hy;cases hy
theorem pE.tfn(h:pE base tf t l){n:Nat}(hn:t.get n=none):tf.get n=none:=by
 cases hq:tf.get n with
 | none=>rfl
 | some y=>have:=h.tle _ _ hq;rw[hn]at this;cases this
theorem pE.keep(h:pE base tf t l){tf' t':Tr rA}(hf:zB tf tf')(ht:zB tf' t')(hk:∀k∈l.flatMap Thg.blks,t'.get k=t.get k/\tf'.get k=none):pE base tf' t' l:=
 ⟨ht,h.nodup,fun o ho=>o.keep (h.ok o ho) hf fun k hk'=>hk k (List.mem_flatMap.2 ⟨o,ho,hk'⟩),fun k hk'=>⟨(h.low k hk').1,(hk k hk').2⟩⟩
theorem pE.junk(h:pE base tf t l){n:Nat}{t':Tr rA}(hn:t.get n=none)(ho:mD n t t'):pE base tf t' l:=
 h.keep (zB.refl _) (h.tle.off (h.tfn hn) ho) fun k hk=>⟨ho k (fun e:k=n=>h.fresh hn (e ▸ hk)),(h.low k hk).2⟩
theorem vS:(A++o::B).flatMap Thg.blks=A.flatMap Thg.blks++(o.blks++B.flatMap Thg.blks):=by simp
theorem pE.upd(h:pE base tf t (A++o::B)){t':Tr rA}(hk:∀k,k∉o.blks->k∉o'.blks->t'.get k=t.get k)(hn:∀k∈o'.blks,k∈o.blks\/(t.get k=none/\base<=k))(hok:o'.ok tf t')(hnd:o'.blks.Nodup)(ht:zB tf t'):pE base tf t' (A++o'::B):=by
 have hd:=h.nodup
 rw[vS]at hd;rw[List.nodup_append]at hd;obtain⟨d1,d2,d3⟩:=hd
 rw[List.nodup_append]at d2;obtain⟨d4,d5,d6⟩:=d2
 have oth:∀k,k∈A.flatMap Thg.blks\/k∈B.flatMap Thg.blks->k∉o.blks/\k∉o'.blks/\t'.get k=t.get k/\base<=k/\tf.get k=none:=by
  intro k hk';have hm:k∈(A++o::B).flatMap Thg.blks:=by rw[vS];simp only[List.mem_append];rcases hk' with h | h<;>simp[h]
  have h1:k∉o.blks:=fun hc=>by
   rcases hk' with h' | h'
   ·exact d3 k h' k (by simp[hc]) rfl
   ·exact d6 k hc k h' rfl
  have h2:k∉o'.blks:=fun hc=>by
   rcases hn k hc with h' | h'
   ·exact h1 h'
   ·obtain⟨y,hy⟩:=h.live hm
    rw[h'.1]at hy;cases hy
  exact⟨h1,h2,hk k h1 h2,h.low k hm⟩
 have mem:∀k,k∈(A++o'::B).flatMap Thg.blks->(k∈A.flatMap Thg.blks\/k∈B.flatMap Thg.blks)\/k∈o'.blks:=by
  intro k hk';rw[vS]at hk'
  simp only[List.mem_append]at hk'
  rcases hk' with h | h | h
  ·exact .inl (.inl h)
  ·exact .inr h
  ·exact .inl (.inr h)
 refine⟨ht,?_,fun p hp=>?_,fun k hk'=>?_⟩
 ·rw[vS,List.nodup_append]
  refine⟨d1,?_,fun x hx y hy e=>?_⟩
  ·rw[List.nodup_append]
   exact⟨hnd,d5,fun x hx y hy e=>(oth y (.inr hy)).2.1 (e ▸ hx)⟩
  ·subst e
   rcases List.mem_append.1 hy with h' | h'
   ·exact(oth x (.inl hx)).2.1 h'
   ·exact d3 x hx x (by simp[h']) rfl
 ·have hp':p∈A\/p=o'\/p∈B:=by simpa using hp
  rcases hp' with h' | h' | h'
  ·exact p.keep (h.ok p (by simp[h'])) (zB.refl _) fun k hk'=>by
    obtain⟨_,_,e,_,f⟩:=oth k (.inl (List.mem_flatMap.2 ⟨p,h',hk'⟩));exact⟨e,f⟩
  ·subst h';exact hok
  ·exact p.keep (h.ok p (by simp[h'])) (zB.refl _) fun k hk'=>by
    obtain⟨_,_,e,_,f⟩:=oth k (.inr (List.mem_flatMap.2 ⟨p,h',hk'⟩));exact⟨e,f⟩
 ·rcases mem k hk' with h' | h'
  ·obtain⟨_,_,_,e,f⟩:=oth k h';exact⟨e,f⟩
  ·rcases hn k h' with h'' | h''
   ·exact h.low k (by rw[vS];simp[h''])
   ·exact⟨h''.2,h.tfn h''.1⟩
def z2p:Thg:=⟨[],fun _ _=>True,fun _ _ _=>trivial,fun _ _ h=>by cases h⟩
theorem pE.add(h:pE base tf t (A++B)){t':Tr rA}(hk:∀k,k∉o'.blks->t'.get k=t.get k)(hn:∀k∈o'.blks,t.get k=none/\base<=k)(hok:o'.ok tf t')(hnd:o'.blks.Nodup)(ht:zB tf t'):pE base tf t' (A++o'::B):=by
 have e:pE base tf t (A++z2p::B):=by
  have hm:(A++z2p::B).flatMap Thg.blks=(A++B).flatMap Thg.blks:=by simp[z2p]
  refine⟨h.tle,by rw[hm];exact h.nodup,fun o ho=>?_,fun k hk=>h.low k (by rw[hm]at hk;exact hk)⟩
  have:o∈A\/o=z2p\/o∈B:=by simpa using ho
  rcases this with h' | h' | h'
  ·exact h.ok o (by simp[h'])
  ·subst h';trivial
  ·exact h.ok o (by simp[h'])
 exact e.upd (fun k _ h2=>hk k h2) (fun k hk=>.inr (hn k hk)) hok hnd ht
theorem pE.drop(h:pE base tf t (A++o::B)):pE base tf t (A++B):=by
 have hd:=h.nodup
 rw[vS]at hd;refine⟨h.tle,?_,fun p hp=>h.ok p (by rcases List.mem_append.1 hp with h | h<;>simp[h]),fun k hk=>h.low k (by rw[vS];rw[List.flatMap_append]at hk;rcases List.mem_append.1 hk with h | h<;>simp[h])⟩
 rw[List.flatMap_append];rw[List.nodup_append]at hd ⊢
 obtain⟨d1,d2,d3⟩:=hd
 rw[List.nodup_append]at d2;exact⟨d1,d2.2.1,fun x hx y hy e=>d3 x hx y (by simp[hy]) e⟩
theorem pE.notin(h:pE base tf t (A++o::B)){k:Nat}(hk:k∈o.blks):k∉(A++B).flatMap Thg.blks:=by
 have hd:=h.nodup
 rw[vS,List.nodup_append]at hd;obtain⟨d1,d2,d3⟩:=hd
 rw[List.nodup_append]at d2;rw[List.flatMap_append];intro hm;rcases List.mem_append.1 hm with h' | h'
 ·exact d3 k h' k (by simp[hk]) rfl
 ·exact d2.2.2 k hk k h' rfl
theorem pE.freezeL{sz:Nat}{m:List D}{v:zA}(h:pE base tf t (A++kL base sz m v::B)):∃tf',zB tf tf'/\pE base tf' t (A++B)/\jA tf' sz m v:=by
 have hl:zfa base tf t sz m v:=h.ok (kL base sz m v) (by simp)
 obtain⟨tf',h1,h2,h3,h4⟩:=hl.freeze h.tle
 refine⟨tf',h1,h.drop.keep h1 h2 fun k hk=>⟨rfl,?_⟩,h3⟩
 have hb:¬ zJ v k:=fun hb=>h.notin (o:=kL base sz m v) (zb3.2 hb) hk
 rw[h4 k hb];exact(h.drop.low k hk).2
end
end Go.Am
namespace Go.Am
open Go Go.RowKit
section
variable {t tf:Tr rA}{C:pA}
theorem zlw{T el sz:Nat}(hT:zuh C T el sz){l:List D}{x:zA}(hx:jA tf sz l x)(ht:zB tf t)(hl:l.length<1000000){n:Nat}(hn:t.get n=none) :
  ∃v k t' tf',zG C T T .nilslice x ⟨n,t⟩=some (v,⟨k,t'⟩)/\jA tf' sz l v/\zB tf tf'/\zB tf' t'/\zB t t'/\mD n t t'/\mD n tf tf':=by
 obtain⟨⟨y,hy1,hy2,hy3⟩,⟨z,hz1,hz2,hz3,hz4,hz5⟩,hnb⟩:=hT
 have hcode:=NB.code hnb hz1
 obtain⟨cl,he,hd⟩:=hx
 have hcl:=hd.length
 obtain⟨hf,hlen⟩:=(he.mono ht).first (n:=n)
 have hall:=he.len
 have base:zG C T T .nilslice x ⟨n,t⟩=eL ⟨n,t⟩ el z cl.length cl.flatten:=by
  unfold zG aP;rw[hy1,uA,uA,hy3];simp only[ybm,nD];rw[hy2,uA,hz1,uA,hlen,uA,hz2,hf,uA];rfl
 have hfl:dA cl.flatten=cl.length*sz:=by rw[jC];exact zig hall
 have ok:jO z 0 0 cl.length cl.flatten=true:=by
  unfold jO;have h1:Nat.blt (0+cl.length+0) 1000000000=true:=dB.2 (by omega)
  have h2:Nat.blt ((0+cl.length+0)*z.bytes) 1000000000=true:=dB.2 (by
   have:=ycc (show 0+cl.length+0<=1000000 by omega) hz4
   omega)
  have h3:Nat.blt z.bytes 1000000000=true:=dB.2 (by omega)
  have h4:(!Nat.beq z.size 0)=true:=by
   cases hq:Nat.beq z.size 0 with
   | true=>have:=mB.1 hq;omega
   | false=>rfl
  have h5:Nat.beq (dA cl.flatten) (cl.length*z.size)=true:=by rw[hfl,hz2];exact mB.2 rfl
  have h6:Nat.beq (dA z.zero) z.size=true:=by rw[hz3,hz2];exact mB.2 rfl
  rw[h1,h2,h3,h4,h5,h6];rfl
 have hfn:tf.get n=none:=by
  cases hq:tf.get n with
  | none=>rfl
  | some u=>rw[ht _ _ hq]at hn;cases hn
 by_cases h0:cl.length=0
 ·have:cl=[]:=ybd.1 h0
  subst this;refine⟨.nilslice,n,t,tf,?_,⟨[],.inl ⟨rfl,rfl⟩,hd⟩,zB.refl _,ht,zB.refl _,mD.refl _ _,mD.refl _ _⟩
  rw[base];rfl
 ·have hb:Nat.beq cl.length 0=false:=by
   cases hq:Nat.beq cl.length 0 with
   | true=>exact absurd (mB.1 hq) h0
   | false=>rfl
  refine⟨.slice n 0 cl.length cl.length,n+1,t.set n (.cells (Tr.ofList cl.flatten) (dA cl.flatten) (some (bH el z))),tf.set n (.cells (Tr.ofList cl.flatten) (dA cl.flatten) (some (bH el z))),?_,⟨cl,zaj hall (by rw[Tr.get_set,if_pos rfl]) (.inr ⟨_,rfl,by rw[iT,hz2]⟩),lC.mono (iI hfn _).1 _ _ hd⟩,(iI hfn _).1,fun k u hk=>?_,(iI hn _).1,(iI hn _).2,(iI hfn _).2⟩
  ·rw[base]
   unfold eL;rw[hb,cond_false,ok];rfl
  ·rw[Tr.get_set]at hk ⊢
   split at hk
   ·rename_i e;rw[if_pos e];exact hk
   ·rename_i e;rw[if_neg e];exact ht _ _ hk
def zgt(l:List Nat):List zA:=l.map fun(n:Nat)=>zA.int .u8 (n:Int)
theorem ztt{S Dt b k cap el:Nat}{cs:List zA}{lo:Option Lo}{l:List Nat}{yS yD yE:uC}(hS:C.tys.get S=some yS)(hD:C.tys.get Dt=some yD)(h1:yD.desc.asInt=none)(h2:yD.desc.isString=true)(h3:yS.desc.asSlice=some el)(h4:C.tys.get el=some yE)(h5:yE.desc.asInt=some .u8)
  (hc:jD t b lo cs) (hk:l.length=k) (hl:∀(j:Nat) x,l[j]?=some x->cs[j]?=some (.int .u8 (x:Int))) (hlt:tB 256 l):nK C S Dt ⟨0,t⟩ (.slice b 0 k cap)=some (.str l):=by
 obtain⟨c,g1,g2⟩:=hc
 unfold nK bL;rw[hS,uA,hD,uA,h1];simp only[];rw[h2,nD];have e1:Nat.beq (zA.slice b 0 k cap).tag 2=false:=rfl
 rw[e1,cond_false,h3,uA,h4,uA,h5,uA,tI.2 rfl,nD];unfold kT;simp only[zA.asSlice];unfold uD;rw[g1,uA];simp only[rA.asCells,uA]
 have hm:∀(l:List Nat) (off:Nat),(∀(j:Nat) x,l[j]?=some x->c.get (off+j)=some (.int .u8 (x:Int)))->c.many l.length off=some (zgt l):=by
  intro l;induction l with
  | nil=>intro off _;rfl
  | cons x l ih=>
   intro off h;rw[yao,Tr.many_succ];have:=h 0 x rfl
   rw[ybu]at this;rw[this,uA,ih (off+1) (fun j y hj=>by rw[show off+1+j=off+(j+1) by omega];exact h (j+1) y (by simpa using hj)),uA]
   rfl
 subst hk;rw[hm l 0 (fun j x hj=>by rw[yax];exact g2 _ _ (hl j x hj)),uA]
 have hb:∀(l:List Nat),tB 256 l->qF aN (zgt l)=some l:=by
  intro l;induction l with
  | nil=>intro _;rfl
  | cons x l ih=>
   intro h;have e:aN (.int .u8 (x:Int))=some x:=by
    unfold aN;have e1:aI (x:Int)=some x:=rfl
    simp only[zA.asIntK,uA];rw[tI.2 rfl,nD,e1,uA,dB.2 (h x (by simp))];rfl
   show qF aN (.int .u8 (x:Int)::zgt l)=_
   rw[wK,e,uA,ih fun y hy=>h y (by simp[hy]),uA]
 rw[hb l hlt,uA]
end
end Go.Am
namespace Go.Am
open Go
section
variable {C:pA}{t tf:Tr rA}
def aL(k:IntKind)(l:List Nat):List (List zA):=l.map fun(x:Nat)=>[zA.int k (x:Int)]
theorem lS{k:IntKind}:∀ {l:List Nat} {cl:List (List zA)},lC t (pB k l) cl ↔ cl=aL k l
 | [],cl=>by
  show lC t [] cl ↔ cl=[]
  exact sH
 | x::l,cl=>by
  show lC t (.int k (x:Int)::pB k l) cl ↔ cl=[.int k (x:Int)]::aL k l
  rw[vF];constructor
  ·rintro⟨c,r,rfl,h1,h2⟩
   rw[uM]at h1;rw[h1,lS.1 h2]
  ·rintro rfl
   exact⟨_,_,rfl,uM.2 rfl,lS.2 rfl⟩
theorem jY{k:IntKind}:∀(l:List Nat),(aL k l).flatten=l.map fun(x:Nat)=>zA.int k (x:Int)
 | []=>rfl
 | x::l=>by
  show [zA.int k (x:Int)]++(aL k l).flatten=_
  rw[jY l];rfl
theorem zgq{k:IntKind}{l:List Nat}:(aL k l).length=l.length:=by simp[aL]
theorem ztv{k:IntKind}{l:List Nat}(i:Nat)(cs:List zA)(h:(aL k l)[i]?=some cs):cs.length=1:=by
 unfold aL at h;rw[yav]at h
 cases hx:l[i]? with
 | none=>rw[hx]at h;cases h
 | some x=>rw[hx]at h;cases h;rfl
theorem zou(l:List Nat)(h:tB 256 l):qF aN (zgt l)=some l:=by
 induction l with
 | nil=>rfl
 | cons x l ih=>
  have e:aN (.int .u8 (x:Int))=some x:=by
   unfold aN;have e1:aI (x:Int)=some x:=rfl
   simp only[zA.asIntK,uA];rw[tI.2 rfl,nD,e1,uA,dB.2 (h x (by simp))];rfl
  show qF aN (.int .u8 (x:Int)::zgt l)=_
  rw[wK,e,uA,ih fun y hy=>h y (by simp[hy]),uA]
theorem z4h{S Dt el:Nat}{l:List Nat}{v:zA}{yS yD yE:uC}(hS:C.tys.get S=some yS)(hD:C.tys.get Dt=some yD)(h1:yD.desc.asInt=none)(h2:yD.desc.isString=true)(h3:yS.desc.asSlice=some el)(h4:C.tys.get el=some yE)(h5:yE.desc.asInt=some .u8)
  (hv:jA t 1 (pB .u8 l) v) (hlt:tB 256 l):nK C S Dt ⟨0,t⟩ v=some (.str l):=by
 obtain⟨cl,g1,g2⟩:=hv
 rw[lS]at g2;subst g2;have hf:=(g1.first (n:=0)).1
 have htag:Nat.beq v.tag 2=false:=by
  rcases g1 with⟨rfl,_⟩ | ⟨b,off,cap,rfl,_⟩<;>rfl
 unfold nK bL;rw[hS,uA,hD,uA,h1];simp only[];rw[h2,nD,htag,cond_false,h3,uA,h4,uA,h5,uA,tI.2 rfl,nD];unfold kT;rcases g1 with⟨rfl,hn⟩ | ⟨b,off,cap,rfl,_⟩
 ·have:l=[]:=by
   have:=congrArg List.length hn
   rw[zgq]at this;exact ybd.1 this
  subst this;rfl
 ·unfold cN at hf
  simp only[zA.asSlice,Nat.mul_one]at hf ⊢
  rw[sA]at hf;obtain⟨c,hc,hf⟩:=hf
  rw[hc,uA,hf,uA,jY];have:=zou l hlt
  unfold zgt at this;rw[this,uA]
theorem zti{n k:Nat}{l:List Nat}(h:l.length=k):cN ⟨n,t⟩ 1 k (.str l)=some (aL .u8 l).flatten/\jR (.str l)=some k:=by
 subst h;constructor
 ·unfold cN
  simp only[zA.asSlice,zA.asStr];rw[jY,iM,List.take_length];rfl
 ·unfold jR
  simp only[zA.asSlice,zA.asStr,jC]
theorem zqe{k:IntKind}{l:List Nat}:∀a∈(aL k l).flatten,zA.one a=true:=by
 intro a ha;rw[jY]at ha;obtain⟨x,_,rfl⟩:=List.mem_map.1 ha
 rfl
theorem zlh{k:IntKind}{l m:List Nat}:pB k (l++m)=pB k l++pB k m:=by simp[pB]
theorem zgy{T U el:Nat}{cd:Lo}(hT:zt9 C T el 1)(hU:∃u,C.tys.get U=some u/\Nat.beq u.desc.tag 1=false)(hcd:∀z,C.tys.get el=some z->bH el z=cd){l m:List Nat}{v:zA}(hv:bF cd C.base tf t 1 (pB .u8 l) v)(hpos:m≠[])(hl:l.length+m.length<400000){n:Nat}(hn:t.get n=none)(hbase:C.base<=n)(ht:zB tf t) :
  ∃t',zG C T U v (.str m) ⟨n,t⟩=some (.slice n 0 (l.length+m.length) (l.length+m.length),⟨n+1,t'⟩)/\bF cd C.base tf t' 1 (pB .u8 (l++m)) (.slice n 0 (l.length+m.length) (l.length+m.length))/\zB tf t'/\(∀c,c≠n->¬ zJ v c->t'.get c=t.get c):=by
 have h0:0<m.length:=List.length_pos_iff.2 hpos
 obtain⟨t',h1,h2,h3,h4⟩:=zap hT hU hcd (l:=pB .u8 l) (m:=pB .u8 m) (x:=.str m) (cm:=aL .u8 m) hv ztv (fun n=>by rw[zgq];exact zti rfl) (lS.2 rfl) zqe (by rw[lE];exact h0) (by rw[lE,lE];exact hl) hn hbase ht
 rw[lE,lE]at h1 h2;rw[<- zlh]at h2;exact⟨t',h1,h2,h3,h4⟩
theorem zep{T el:Nat}{cd:Lo}{k:IntKind}(hT:zt9 C T el 1)(hcd:∀z,C.tys.get el=some z->bH el z=cd){l m:List Nat}{v x:zA}(hv:bF cd C.base tf t 1 (pB k l) v)(hx:jA t 1 (pB k m) x)(hpos:m≠[])(hl:l.length+m.length<400000){n:Nat}(hn:t.get n=none)(hbase:C.base<=n)(ht:zB tf t) :
  ∃t',zG C T T v x ⟨n,t⟩=some (.slice n 0 (l.length+m.length) (l.length+m.length),⟨n+1,t'⟩)/\bF cd C.base tf t' 1 (pB k (l++m)) (.slice n 0 (l.length+m.length) (l.length+m.length))/\zB tf t'/\(∀c,c≠n->¬ zJ v c->t'.get c=t.get c):=by
 have h0:0<m.length:=List.length_pos_iff.2 hpos
 obtain⟨cl,g1,g2⟩:=hx
 rw[lS]at g2;subst g2;obtain⟨t',h1,h2,h3,h4⟩:=zaq hT hcd (l:=pB k l) (m:=pB k m) (x:=x) (cm:=aL k m) hv g1 (lS.2 rfl) zqe (by rw[lE];exact h0) (by rw[lE,lE];exact hl) hn hbase ht
 rw[lE,lE]at h1 h2;rw[<- zlh]at h2;exact⟨t',h1,h2,h3,h4⟩
theorem zkh{cd:Lo}{base sz:Nat}:bF cd base tf t sz [] .nilslice:=.inl ⟨rfl,rfl⟩
theorem bF.keep'{cd:Lo}{base sz:Nat}{l:List D}{v:zA}{t':Tr rA}(h:bF cd base tf t sz l v)(hk:∀b,zJ v b->t'.get b=t.get b):bF cd base tf t' sz l v:=by
 rcases h with⟨rfl,rfl⟩ | ⟨b,cl,c,rfl,h0,h1,h2,h3,h4⟩
 ·exact .inl ⟨rfl,rfl⟩
 ·exact .inr ⟨b,cl,c,rfl,h0,h1,by rw[hk b (kP.2 rfl)];exact h2,h3,h4⟩
end
end Go.Am
