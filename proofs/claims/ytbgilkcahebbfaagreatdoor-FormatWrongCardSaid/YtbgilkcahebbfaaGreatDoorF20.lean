/- Facts on types. (Printed by a tool.) -/
import Derived.Test.YtbgilkcahebbfaaGreatDoorF19
set_option linter.all false
noncomputable section
set_option maxRecDepth 100000
namespace Go.Proofs
open Go Go.Am
variable [jC]
def ty3:yA.tys.get 3=some ⟨(.int .i64),1,8,[.int .i64 0],true⟩:=by kernel_rfl
def ty4:yA.tys.get 4=some ⟨.bool,1,1,[.bool false],true⟩:=by kernel_rfl
def ty5:yA.tys.get 5=some ⟨(.int .u8),1,1,[.int .u8 0],true⟩:=by kernel_rfl
def ty9:yA.tys.get 9=some ⟨.string,1,16,[.str []],true⟩:=by kernel_rfl
def ty22:yA.tys.get 22=some ⟨(.slice 50),1,24,[.nilslice],true⟩:=by kernel_rfl
def ty24:yA.tys.get 24=some ⟨(.struct [(0,4,1),(1,22,1)]),2,32,[.bool false,.nilslice],true⟩:=by kernel_rfl
def ty28:yA.tys.get 28=some ⟨(.struct [(0,5,1),(1,26,4),(5,3,1)]),6,80,[.int .u8 0,.bool false,.nilslice,.bool false,.nilslice,.int .i64 0],true⟩:=by kernel_rfl
def z3c:yA.tys.get 29=some ⟨(.slice 31),1,24,[.nilslice],true⟩:=by kernel_rfl
def zoe:yA.tys.get 31=some ⟨(.struct [(0,5,1),(1,9,1),(2,28,6),(8,29,1)]),9,128,[.int .u8 0,.str [],.int .u8 0,.bool false,.nilslice,.bool false,.nilslice,.int .i64 0,.nilslice],true⟩:=by kernel_rfl
def zt5:yA.tys.get 32=some ⟨(.slice 5),1,24,[.nilslice],true⟩:=by kernel_rfl
def ty35:yA.tys.get 35=some ⟨(.int .i64),1,8,[.int .i64 0],true⟩:=by kernel_rfl
def ty41:yA.tys.get 41=some ⟨(.struct [(0,9,1),(1,9,1),(2,3,1),(3,3,1),(4,3,1),(5,4,1),(6,31,9),(15,31,9)]),24,320,[.str [],.str [],.int .i64 0,.int .i64 0,.int .i64 0,.bool false,.int .u8 0,.str [],.int .u8 0,.bool false,.nilslice,.bool false,.nilslice,.int .i64 0,.nilslice,.int .u8 0,.str [],.int .u8 0,.bool false,.nilslice,.bool false,.nilslice,.int .i64 0,.nilslice],true⟩:=by kernel_rfl
def ty42:yA.tys.get 42=some ⟨(.slice 41),1,24,[.nilslice],true⟩:=by kernel_rfl
def ty43:yA.tys.get 43=some ⟨(.slice 114),1,24,[.nilslice],true⟩:=by kernel_rfl
def ty44:yA.tys.get 44=some ⟨(.slice 53),1,24,[.nilslice],true⟩:=by kernel_rfl
def z45:yA.tys.get 50=some ⟨(.int .u16),1,2,[.int .u16 0],true⟩:=by kernel_rfl
def ty51:yA.tys.get 51=some ⟨(.slice 55),1,24,[.nilslice],true⟩:=by kernel_rfl
def ty53:yA.tys.get 53=some ⟨(.struct [(0,9,1),(1,4,1),(2,51,1)]),3,48,[.str [],.bool false,.nilslice],true⟩:=by kernel_rfl
def ty55:yA.tys.get 55=some ⟨(.struct [(0,3,1),(1,3,1),(2,3,1),(3,26,4)]),7,88,[.int .i64 0,.int .i64 0,.int .i64 0,.bool false,.nilslice,.bool false,.nilslice],true⟩:=by kernel_rfl
def ty59:yA.tys.get 59=some ⟨.func,1,8,[.nilfunc],true⟩:=by kernel_rfl
def ty67:yA.tys.get 67=some ⟨(.ptr 147),1,8,[.nilptr],true⟩:=by kernel_rfl
def ty106:yA.tys.get 106=some ⟨(.struct [(0,5,1),(1,9,1),(2,4,1),(3,3,1),(4,3,1),(5,3,1),(6,3,1),(7,3,1)]),8,72,[.int .u8 0,.str [],.bool false,.int .i64 0,.int .i64 0,.int .i64 0,.int .i64 0,.int .i64 0],true⟩:=by kernel_rfl
def ty114:yA.tys.get 114=some ⟨(.struct [(0,9,1),(1,5,1),(2,4,1)]),3,24,[.str [],.int .u8 0,.bool false],true⟩:=by kernel_rfl
def ty153:yA.tys.get 153=some ⟨(.arr 7 9),7,112,[.str [],.str [],.str [],.str [],.str [],.str [],.str []],true⟩:=by kernel_rfl
def zt7:yA.tys.get 164=some ⟨(.arr 10 5),10,10,[.int .u8 0,.int .u8 0,.int .u8 0,.int .u8 0,.int .u8 0,.int .u8 0,.int .u8 0,.int .u8 0,.int .u8 0,.int .u8 0],true⟩:=by kernel_rfl
def ty180:yA.tys.get 180=some ⟨(.map 3 9),1,8,[.nilmap],true⟩:=by kernel_rfl
def zt6:yA.tys.get 195=some ⟨(.int .u64),1,8,[.int .u64 0],true⟩:=by kernel_rfl
def vL:yA.tys.get 200=some ⟨(.slice 202),1,24,[.nilslice],true⟩:=by kernel_rfl
def zG:yA.tys.get 202=some ⟨(.int .u32),1,4,[.int .u32 0],true⟩:=by kernel_rfl
def ty220:yA.tys.get 220=some ⟨(.arr 12 3),12,96,[.int .i64 0,.int .i64 0,.int .i64 0,.int .i64 0,.int .i64 0,.int .i64 0,.int .i64 0,.int .i64 0,.int .i64 0,.int .i64 0,.int .i64 0,.int .i64 0],true⟩:=by kernel_rfl
def ty237:yA.tys.get 237=some ⟨(.slice 24),1,24,[.nilslice],true⟩:=by kernel_rfl
def sl22:wG yA 22 50 1 false:=⟨⟨_,ty22,rfl⟩,⟨_,z45,rfl,rfl⟩⟩
def z0d:wG yA 29 31 9 true:=⟨⟨_,z3c,rfl⟩,⟨_,zoe,rfl,rfl⟩⟩
def sl32:wG yA 32 5 1 false:=⟨⟨_,zt5,rfl⟩,⟨_,ty5,rfl,rfl⟩⟩
def sl42:wG yA 42 41 24 true:=⟨⟨_,ty42,rfl⟩,⟨_,ty41,rfl,rfl⟩⟩
def sl43:wG yA 43 114 3 true:=⟨⟨_,ty43,rfl⟩,⟨_,ty114,rfl,rfl⟩⟩
def sl44:wG yA 44 53 3 true:=⟨⟨_,ty44,rfl⟩,⟨_,ty53,rfl,rfl⟩⟩
def sl51:wG yA 51 55 7 true:=⟨⟨_,ty51,rfl⟩,⟨_,ty55,rfl,rfl⟩⟩
def qF:wG yA 200 202 1 false:=⟨⟨_,vL,rfl⟩,⟨_,zG,rfl,rfl⟩⟩
def sl237:wG yA 237 24 2 true:=⟨⟨_,ty237,rfl⟩,⟨_,ty24,rfl,rfl⟩⟩
end Go.Proofs
namespace Go.Am
open Go Go.RowKit
def pD (l:List Nat):List D:=l.map fun(n:Nat)=>D.int .u16 (n:Int)
def eU(l:List Nat):(pD l).length=l.length:=by simp[pD]
structure oH where
 neg:Bool
 limbs:List Nat
def oH.d(w:oH):D:=.st [.bool w.neg,.sl 1 (pD w.limbs)]
structure sE where
 n:oH
 d:oH
def sE.dd(f:sE):D:=.st [f.n.d,f.d.d]
structure dE where
 kind:Nat
 f:sE
 i:Int
def dE.d(v:dE):D:=.st [.int .u8 v.kind,v.f.dd,.int .i64 v.i]
inductive rA where
 | mk (op:Nat) (name:List Nat) (v:dE) (args:List rA)
def rA.op:rA->Nat | .mk o _ _ _=>o
def rA.name:rA->List Nat | .mk _ n _ _=>n
def rA.v:rA->dE | .mk _ _ v _=>v
def rA.args:rA->List rA | .mk _ _ _ a=>a
mutual
def rA.d:rA->D
 | .mk op name v args=>.st [.int .u8 op,.str name,v.d,.sl 9 (rA.ds args)]
def rA.ds:List rA->List D
 | []=>[]
 | x::l=>x.d::rA.ds l
end
def rA.ds_eq(l:List rA):rA.ds l=l.map rA.d:=by
 induction l with
 | nil=>rfl
 | cons x l ih=>simp[rA.ds,ih]
structure zn2 where
 a:Int
 b:Int
 known:Int
 f:sE
def zn2.d(r:zn2):D:=.st [.int .i64 r.a,.int .i64 r.b,.int .i64 r.known,r.f.dd]
structure jK where
 name:List Nat
 two:Bool
 rows:List zn2
def jK.d(x:jK):D:=.st [.str x.name,.bool x.two,.sl 7 (x.rows.map zn2.d)]
structure zn3 where
 name:List Nat
 kind:Nat
 fact:Bool
def zn3.d(x:zn3):D:=.st [.str x.name,.int .u8 x.kind,.bool x.fact]
structure yJ where
 name:List Nat
 label:List Nat
 from_:Int
 to:Int
 known:Int
 off:Bool
 when_:rA
 then_:rA
def yJ.d(x:yJ):D:=.st [.str x.name,.str x.label,.int .i64 x.from_,.int .i64 x.to,.int .i64 x.known,.bool x.off,x.when_.d,x.then_.d]
structure lN where
 name:List Nat
 defs:List zn3
 tables:List jK
 clauses:List yJ
def lN.d(x:lN):D:=.st [.str x.name,.sl 3 (x.defs.map zn3.d),.sl 3 (x.tables.map jK.d),.sl 24 (x.clauses.map yJ.d)]
section
variable {t:Tr qA}{cs:List zA}
def wU{w:oH}(h:RD t w.d cs):∃v,cs=[.bool w.neg,v]/\lA t 1 (pD w.limbs) v:=by
 unfold oH.d at h;simp only[kH,lE,dF,wJ,aQ]at h;obtain⟨cl,rfl,c,r,rfl,rfl,c',r',rfl,⟨v,rfl,h⟩,rfl⟩:=h
 exact⟨v,rfl,h⟩
def zg8{f:sE}(h:RD t f.dd cs):∃u v,cs=[.bool f.n.neg,u,.bool f.d.neg,v]/\lA t 1 (pD f.n.limbs) u/\lA t 1 (pD f.d.limbs) v:=by
 unfold sE.dd at h;simp only[kH,lE,dF]at h;obtain⟨cl,rfl,c,r,rfl,h1,c',r',rfl,h2,rfl⟩:=h
 obtain⟨u,rfl,h3⟩:=wU h1
 obtain⟨v,rfl,h4⟩:=wU h2
 exact⟨u,v,rfl,h3,h4⟩
def zve{v:dE}(h:RD t v.d cs):∃a b,cs=[.int .u8 v.kind,.bool v.f.n.neg,a,.bool v.f.d.neg,b,.int .i64 v.i]/\lA t 1 (pD v.f.n.limbs) a/\lA t 1 (pD v.f.d.limbs) b:=by
 unfold dE.d at h;simp only[kH,lE,dF,kN]at h;obtain⟨cl,rfl,c,r,rfl,rfl,c',r',rfl,h2,c'',r'',rfl,rfl,rfl⟩:=h
 obtain⟨a,b,rfl,h3,h4⟩:=zg8 h2
 exact⟨a,b,rfl,h3,h4⟩
def fJ{x:rA}(h:RD t x.d cs):∃a b c,cs=[.int .u8 x.op,.str x.name,.int .u8 x.v.kind,.bool x.v.f.n.neg,a,.bool x.v.f.d.neg,b,.int .i64 x.v.i,c] ∧
  lA t 1 (pD x.v.f.n.limbs) a/\lA t 1 (pD x.v.f.d.limbs) b/\lA t 9 (x.args.map rA.d) c:=by
 obtain⟨op,name,v,args⟩:=x
 unfold rA.d at h;rw[rA.ds_eq]at h;simp only[kH,lE,dF,kN,sS,wJ]at h;obtain⟨cl,rfl,c,r,rfl,rfl,c',r',rfl,rfl,c'',r'',rfl,hv,c3,r3,rfl,⟨w,rfl,h4⟩,rfl⟩:=h
 obtain⟨a,b,rfl,h5,h6⟩:=zve hv
 exact⟨a,b,w,rfl,h5,h6,h4⟩
def rd_row{r:zn2}(h:RD t r.d cs):∃a b,cs=[.int .i64 r.a,.int .i64 r.b,.int .i64 r.known,.bool r.f.n.neg,a,.bool r.f.d.neg,b]/\lA t 1 (pD r.f.n.limbs) a/\lA t 1 (pD r.f.d.limbs) b:=by
 unfold zn2.d at h;simp only[kH,lE,dF,kN]at h;obtain⟨cl,rfl,c,r,rfl,rfl,c',r',rfl,rfl,c'',r'',rfl,rfl,c3,r3,rfl,hf,rfl⟩:=h
 obtain⟨a,b,rfl,h3,h4⟩:=zg8 hf
 exact⟨a,b,rfl,h3,h4⟩
def z0o{x:jK}(h:RD t x.d cs):∃a,cs=[.str x.name,.bool x.two,a]/\lA t 7 (x.rows.map zn2.d) a:=by
 unfold jK.d at h;simp only[kH,lE,dF,sS,aQ,wJ]at h;obtain⟨cl,rfl,c,r,rfl,rfl,c',r',rfl,rfl,c'',r'',rfl,⟨a,rfl,h⟩,rfl⟩:=h
 exact⟨a,rfl,h⟩
def rd_def{x:zn3}(h:RD t x.d cs):cs=[.str x.name,.int .u8 x.kind,.bool x.fact]:=by
 unfold zn3.d at h;simp only[kH,lE,dF,sS,aQ,kN]at h;obtain⟨cl,rfl,c,r,rfl,rfl,c',r',rfl,rfl,c'',r'',rfl,rfl,rfl⟩:=h
 rfl
def eF(x:rA)(a b c:zA):List zA:=[.int .u8 x.op,.str x.name,.int .u8 x.v.kind,.bool x.v.f.n.neg,a,.bool x.v.f.d.neg,b,.int .i64 x.v.i,c]
def zvg{x:yJ}(h:RD t x.d cs):∃a b c a' b' c',cs=[.str x.name,.str x.label,.int .i64 x.from_,.int .i64 x.to,.int .i64 x.known,.bool x.off]++eF x.when_ a b c++eF x.then_ a' b' c' ∧
  RD t x.when_.d (eF x.when_ a b c)/\RD t x.then_.d (eF x.then_ a' b' c'):=by
 unfold yJ.d at h;simp only[kH,lE,dF,sS,aQ,kN]at h;obtain⟨cl,rfl,c1,r1,rfl,rfl,c2,r2,rfl,rfl,c3,r3,rfl,rfl,c4,r4,rfl,rfl,c5,r5,rfl,rfl,c6,r6,rfl,rfl,c7,r7,rfl,h7,c8,r8,rfl,h8,rfl⟩:=h
 obtain⟨a,b,c,e1,_⟩:=fJ h7
 obtain⟨a',b',c',e2,_⟩:=fJ h8
 subst e1 e2
 exact⟨a,b,c,a',b',c',rfl,h7,h8⟩
def zma{x:lN}(h:RD t x.d cs):∃a b c,cs=[.str x.name,a,b,c]/\lA t 3 (x.defs.map zn3.d) a/\lA t 3 (x.tables.map jK.d) b/\lA t 24 (x.clauses.map yJ.d) c:=by
 unfold lN.d at h;simp only[kH,lE,dF,sS,wJ]at h;obtain⟨cl,rfl,c1,r1,rfl,rfl,c2,r2,rfl,⟨a,rfl,h1⟩,c3,r3,rfl,⟨b,rfl,h2⟩,c4,r4,rfl,⟨c,rfl,h3⟩,rfl⟩:=h
 exact⟨a,b,c,rfl,h1,h2,h3⟩
end
def oH.zs(x:oH):x.d.zs=[.bool false,.nilslice]:=rfl
def sE.zs(x:sE):x.dd.zs=[.bool false,.nilslice,.bool false,.nilslice]:=rfl
def dE.zs(x:dE):x.d.zs=[.int .u8 0,.bool false,.nilslice,.bool false,.nilslice,.int .i64 0]:=rfl
def rA.zs(x:rA):x.d.zs=[.int .u8 0,.str [],.int .u8 0,.bool false,.nilslice,.bool false,.nilslice,.int .i64 0,.nilslice]:=by cases x;rfl
def zn2.zs(x:zn2):x.d.zs=[.int .i64 0,.int .i64 0,.int .i64 0,.bool false,.nilslice,.bool false,.nilslice]:=rfl
def jK.zs(x:jK):x.d.zs=[.str [],.bool false,.nilslice]:=rfl
def zn3.zs(x:zn3):x.d.zs=[.str [],.int .u8 0,.bool false]:=rfl
def yJ.zs(x:yJ):x.d.zs=[.str [],.str [],.int .i64 0,.int .i64 0,.int .i64 0,.bool false,.int .u8 0,.str [],.int .u8 0,.bool false,.nilslice,.bool false,.nilslice,.int .i64 0,.nilslice,.int .u8 0,.str [],.int .u8 0,.bool false,.nilslice,.bool false,.nilslice,.int .i64 0,.nilslice]:=by
 obtain⟨_,_,_,_,_,_,w,v⟩:=x;cases w;cases v;rfl
def rM(f:sE):Nat:=1+f.n.limbs.length+f.d.limbs.length
mutual
/-- the size, as it is counted up to a limit -/
def eK:rA->Int->Int
 | .mk _ name v args,left=>yN args left (rM v.f+(name.length:Int) / 30)
def yN:List rA->Int->Int->Int
 | [],_,n=>n
 | x::l,left,n=>if n<=left then yN l left (n+eK x (left-n))else n
end
def mD:Nat:=1125899906842624
def sE.ok(f:sE):Prop:=f.n.limbs.length<mD/\f.d.limbs.length<mD
mutual
def rA.ok:rA->Prop
 | .mk _ name v args=>name.length<mD/\v.f.ok/\args.length<mD/\rA.oks args
def rA.oks:List rA->Prop
 | []=>True
 | x::l=>x.ok/\rA.oks l
end
end Go.Am
namespace Go.Am
open Go Go.RowKit
section
def zZ{f:sE}(h:f.ok):rM f<4503599627370496:=by
 unfold sE.ok mD at h;unfold rM;omega
mutual
def zcp:∀(x:rA) (left:Int),x.ok->0<=eK x left/\eK x left<=max left 0+9007199254740992
 | .mk op name v args,left,h=>by
  unfold rA.ok at h;obtain⟨h1,h2,_,h4⟩:=h
  have hf:=zZ h2
  unfold mD at h1;unfold eK;have:=mV args left (rM v.f+(name.length:Int) / 30) h4 (by omega)
  omega
def mV:∀(l:List rA) (left n:Int),rA.oks l->0<=n->n<=yN l left n/\yN l left n<=max n (left+9007199254740992)
 | [],left,n,_,_=>by unfold yN;omega
 | x::l,left,n,h,hn=>by
  unfold rA.oks at h;unfold yN;split
  ·have h1:=zcp x (left-n) h.1
   have h2:=mV l left (n+eK x (left-n)) h.2 (by omega)
   omega
  ·omega
end
def iD{a b:Int}:(vC a b=true) ↔ a<b:=mU a b
def jG{a b:Int}:(sD a b=true) ↔ a<=b:=zhr a b
def zf7{α:Type}{l:List α}{i:Nat}{x:α}{r:List α}(h:l.drop i=x::r):l[i]?=some x/\l.drop (i+1)=r/\i<l.length:=by
 have h1:(l.drop i)[0]?=some x:=by rw[h];rfl
 rw[yde]at h1;have hi:i<l.length:=by
  rcases yau i l.length with hl | hl
  ·exact hl
  ·rw[ybt hl]at h;cases h
 refine⟨by simpa using h1,?_,hi⟩
 have:=List.drop_drop (l:=l) (i:=1) (j:=i)
 rw[h]at this;simpa[yap]using this.symm
def zki{α:Type}{l:List α}{i:Nat}(h:l.drop i=[]):l.length<=i:=by
 rcases yau i l.length with hl | hl
 ·have:=congrArg List.length h;simp at this;omega
 ·exact hl
def xO(l:List Nat):(Int.ofNat (aA l))=(l.length:Int):=by rw[gC];rfl
def dT(cs:List zA):dW true cs=.agg cs:=rfl
end
section
def sB(k:IntKind)(l:List Nat):List D:=l.map fun(n:Nat)=>D.int k (n:Int)
def iE{k:IntKind}(l:List Nat):(sB k l).length=l.length:=by simp[sB]
def zyi{k:IntKind}{l:List Nat}{i x:Nat}(h:l[i]?=some x):(sB k l)[i]?=some (.int k (x:Int)):=by simp[sB,h]
def zf9{k:IntKind}{l:List Nat}{n:Nat}:(sB k l).take n=sB k (l.take n):=by simp[sB]
def yF (t:Tr qA)(b:Nat)(k:IntKind)(l:List Nat):Prop:=∃c,t.get b=some (.cells c l.length none)/\∀(j:Nat) x,l[j]?=some x->c.get j=some (.int k (x:Int))
def lD (b:Nat)(t t':Tr qA):Prop:=∀c,c≠b->t'.get c=t.get c
def lD.refl(b:Nat)(t:Tr qA):lD b t t:=fun _ _=>rfl
def lD.trans{b:Nat}{x y z:Tr qA}(h:lD b x y)(k:lD b y z):lD b x z:=fun c hc=>(k c hc).trans (h c hc)
section
variable {t t' t0:Tr qA}{C:oA}{b:Nat}{k:IntKind}{l:List Nat}
def yF.off(h:yF t b k l){c:Nat}(hc:b≠c)(ho:lD c t t'):yF t' b k l:=by
 obtain⟨x,h1,h2⟩:=h;exact⟨x,by rw[ho b hc];exact h1,h2⟩
def yF.tle(h:yF t b k l)(ho:dA t t'):yF t' b k l:=by
 obtain⟨x,h1,h2⟩:=h;exact⟨x,ho _ _ h1,h2⟩
def dA.off(h:dA t0 t)(hb:t0.get b=none)(ho:lD b t t'):dA t0 t':=by
 intro c y hc;rw[ho c (by intro e;rw[e,hb]at hc;cases hc)]
 exact h c y hc
def yF.slice(h:yF t b k l){off n cap:Nat}(hn:off+n<=l.length)(hc:n<=cap):lA t 1 (sB k ((l.drop off).take n)) (.slice b off n cap):=by
 obtain⟨c,h1,h2⟩:=h
 refine⟨((l.drop off).take n).map fun(x:Nat)=>[.int k (x:Int)],.inr ⟨b,off,cap,?_,?_,⟨c,_,none,h1,.inl rfl⟩,fun i cs hi=>?_⟩,?_⟩
 ·congr 1;simp;omega
 ·simp;omega
 ·simp only[ybu,yar]at hi
  obtain⟨x,hx,rfl⟩:=hi
  refine⟨rfl,c,_,none,h1,fun j a hj=>?_⟩
  cases j with
  | zero=>
   simp at hj;subst hj;rw[ydf]at hx;split at hx
   ·rw[yde]at hx
    exact h2 (off+i*1+0) x (by rw[show off+i*1+0=off+i by omega];exact hx)
   ·cases hx
  | succ j=>simp at hj
 ·refine oC.mk (by simp[sB]) fun i d cs hd hc=>?_
  simp only[sB,ybu,yar]at hd hc;obtain⟨x,hx,rfl⟩:=hd
  obtain⟨y,hy,rfl⟩:=hc
  rw[hx]at hy;cases hy;rfl
def yF.all(h:yF t b k l){cap:Nat}(hc:l.length<=cap):lA t 1 (sB k l) (.slice b 0 l.length cap):=by
 have:=h.slice (off:=0) (n:=l.length) (by omega) hc
 simpa using this
def mS{T el sz:Nat}{agg:Bool}(h:wG C T el sz agg){off n cap i:Nat}(hi:i<n):zC C T (.slice b off n cap) (.int .i64 (i:Int))=some (.ptr b (off+i*sz)):=by
 obtain⟨⟨y,hy1,hy2⟩,⟨z,hz1,hz2,hz3⟩⟩:=h
 unfold zC;rw[hy1,vA];have:(zA.int .i64 (i:Int)).asNat=some i:=rfl
 rw[this,vA];simp only[zA.asSlice];rw[hy2,vA,hz1,vA,dB.2 hi,hz2];rfl
def yF.load(h:yF t b k l){j x:Nat}(hj:l[j]?=some x){ty:Nat}{y:uC}(hy:C.tys.get ty=some y)(ha:y.desc.isAgg=false):mA C ty ⟨0,t⟩ (.ptr b j)=some (.int k (x:Int)):=by
 obtain⟨c,h1,h2⟩:=h
 unfold mA;simp only[zA.asPtr,vA];rw[hy,vA];unfold fC;rw[h1,vA];simp only[qA.asCells,vA];unfold mM;rw[ha,cond_false];exact h2 j x hj
def yF.store(h:yF t b k l)(hb:C.base<=b){j:Nat}(hj:j<l.length)(x:Nat){ty:Nat}{y:uC}(hy:C.tys.get ty=some y)(hs:y.size=1) :
  ∃t',(∀n,sC C ty (.ptr b j) (.int k (x:Int)) ⟨n,t⟩=some (tD,⟨n,t'⟩))/\yF t' b k (l.set j x)/\lD b t t':=by
 obtain⟨c,h1,h2⟩:=h
 refine⟨t.set b (.cells (c.setMany [.int k (x:Int)] j) l.length none),fun n=>?_,⟨c.setMany [.int k (x:Int)] j,?_,fun i y hi=>?_⟩,fun d hd=>?_⟩
 ·unfold sC
  rw[hy,vA];simp only[zA.asPtr,vA,zA.cells,zA.asAgg];rw[hs];have e1:Nat.beq (aA [zA.int k (x:Int)]) 1=true:=rfl
  rw[e1,qD];unfold lH fC;have e2:(!Nat.blt b C.base)=true:=by
   cases hq:Nat.blt b C.base with
   | true=>have:=dB.1 hq;omega
   | false=>rfl
  rw[e2,qD,h1,vA];simp only[qA.asCells,vA];have e3:Nat.ble (j+aA [zA.int k (x:Int)]) l.length=true:=vE.2 hj
  have e4:tC zA.one [zA.int k (x:Int)]=true:=rfl
  rw[e3,e4];rfl
 ·rw[Tr.get_set,yab rfl,ydh]
 ·rw[Tr.get_setMany]
  rw[ycw]at hi;split at hi
  ·rename_i e
   subst e;rw[yab (by simp)]
   cases hi;simp
  ·rename_i e
   rw[yaa (by simp;omega)]
   exact h2 i y hi
 ·rw[Tr.get_set,yaa hd]
def oU{T el:Nat}{y z:uC}(hT:C.tys.get T=some y)(hel:y.desc.asSlice=some el)(hz:C.tys.get el=some z)(hzero:z.zero=[.int k 0])(hs:z.size=1)(hby:z.bytes<=8){n:Nat}(hn:n<1000000)(hb:t.get b=none) :
  ∃t',zN C T (.int .i64 (n:Int)) (.int .i64 (n:Int)) ⟨b,t⟩=some (.slice b 0 n n,⟨b+1,t'⟩)/\yF t' b k (List.replicate n 0)/\dA t t'/\lD b t t':=by
 have hrep:∀n,dI [zA.int k 0] n=List.replicate n (.int k 0):=by
  intro n;induction n with
  | zero=>rfl
  | succ n ih=>unfold dI;rw[ih,oG,List.replicate_succ];rfl
 refine⟨t.set b (.cells (Tr.ofList (dI z.zero n)) (aA (dI z.zero n)) none),?_,⟨Tr.ofList (dI z.zero n),?_,fun j x hj=>?_⟩,fun c y' hc=>?_,fun c hc=>?_⟩
 ·unfold zN
  rw[hT,vA,hel,vA,hz,vA];have e1:(zA.int .i64 (n:Int)).asNat=some n:=rfl
  rw[e1,vA,vA];have e2:(Nat.ble n n&&Nat.blt n 1000000&&Nat.blt (n*z.bytes) 1000000000&&Nat.beq (aA z.zero) z.size)=true:=by
   rw[hzero,hs,show Nat.ble n n=true from vE.2 (ybk n),dB.2 hn]
   have:n*z.bytes<1000000000:=by
    have:=ydb (Nat.le_of_lt hn) hby
    omega
   rw[dB.2 this];rfl
  rw[e2,qD];rfl
 ·rw[Tr.get_set,yab rfl,hzero,hrep,gC];simp
 ·rw[List.getElem?_replicate]at hj
  split at hj
  ·cases hj
   rw[Tr.get_ofList,hzero,hrep,List.getElem?_replicate];rename_i e;rw[yab e];rfl
  ·cases hj
 ·rw[Tr.get_set,yaa (by intro e;rw[e,hb]at hc;cases hc)];exact hc
 ·rw[Tr.get_set,yaa hc]
end
end
end Go.Am
namespace Go.Am
def val (B:Nat):List Nat->Nat
 | []=>0
 | a::l=>a+B*val B l
def tB(B:Nat)(l:List Nat):Prop:=∀x∈l,x<B
def norm (l:List Nat):Prop:=∀h:l≠[],l.getLast h≠0
def nS(B:Nat):∀(l m:List Nat),val B (l++m)=val B l+B^l.length*val B m
 | [],m=>by simp[val]
 | a::l,m=>by
  simp only[List.cons_append,val,nS B l m,ybn,yag];rw[ybm,<- ybj,ybh B (B^l.length)]
  omega
def yK{B:Nat}(hB:0<B):∀ {l:List Nat},tB B l->val B l<B^l.length
 | [],_=>by simp[val]
 | a::l,h=>by
  have h1:=h a (yby)
  have h2:=yK hB (l:=l) fun x hx=>h x (ybr _ hx)
  simp only[val,ybn,yag];have h3:B*(val B l+1)<=B*B^l.length:=ybv B h2
  rw[ybm,ybh B (B^l.length)]at h3
  omega
def oS(B:Nat)(l:List Nat)(n:Nat):val B l=val B (l.take n)+B^(l.take n).length*val B (l.drop n):=by
 rw[<- nS,List.take_append_drop]
def cQ{B:Nat}{l:List Nat}(h:tB B l)(n:Nat):tB B (l.take n):=fun x hx=>h x (List.mem_of_mem_take hx)
def zgk{B:Nat}{l:List Nat}(h:tB B l)(n:Nat):tB B (l.drop n):=fun x hx=>h x (List.mem_of_mem_drop hx)
def zk3{B:Nat}{l m:List Nat}(h:tB B l)(k:tB B m):tB B (l++m):=fun x hx=>(yaf.1 hx).elim (h x) (k x)
def pE:List Nat->List Nat
 | []=>[]
 | a::l=>if pE l=[]/\a=0 then []else a::pE l
def xM(B:Nat):∀l:List Nat,val B (pE l)=val B l
 | []=>rfl
 | a::l=>by
  unfold pE;have ih:=xM B l
  split
  ·rename_i h
   rw[h.1]at ih;have:val B l=0:=by rw[<- ih];rfl
   simp[val,this,h.2]
  ·simp[val,ih]
def vP:∀l:List Nat,norm (pE l)
 | []=>fun h=>(h rfl).elim
 | a::l=>by
  have ih:=vP l
  unfold pE;split
  ·exact fun h=>(h rfl).elim
  ·rename_i h
   intro hne;by_cases hs:pE l=[]
   ·have ha:a≠0:=fun e=>h ⟨hs,e⟩
    simp[hs,ha]
   ·rw[List.getLast_cons hs];exact ih hs
def eP{B:Nat}:∀ {l:List Nat},tB B l->tB B (pE l)
 | [],h=>h
 | a::l,h=>by
  have ih:=eP (l:=l) fun x hx=>h x (ybr _ hx)
  unfold pE;split
  ·exact fun x hx=>(by cases hx)
  ·exact fun x hx=>(ybs.1 hx).elim (fun e=>e ▸ h a yby) (ih x)
def zcj:∀l:List Nat,(pE l).length<=l.length
 | []=>ybk _
 | a::l=>by unfold pE;have:=zcj l;split<;>simp<;>omega
def zam:∀l:List Nat,pE (l++[0])=pE l
 | []=>by simp[pE]
 | a::l=>by
  show(if pE (l++[0])=[]/\a=0 then []else a::pE (l++[0]))=_
  rw[zam l];rfl
def pV:∀ {l:List Nat},norm l->pE l=l
 | [],_=>rfl
 | a::l,h=>by
  have hl:norm l:=by
   intro hne;have:=h (by simp)
   rw[List.getLast_cons hne]at this;exact this
  unfold pE;rw[pV hl];split
  ·rename_i e
   have:=h (by simp)
   obtain⟨rfl,rfl⟩:=e
   simp at this
  ·rfl
def nX{B:Nat}(hB:0<B){l:List Nat}(h:norm l)(h0:val B l=0):l=[]:=by
 have key:∀l:List Nat,val B l=0->∀x∈l,x=0:=by
  intro l;induction l with
  | nil=>intro _ x hx;cases hx
  | cons a l ih=>
   intro h x hx;simp only[val]at h;have ha:a=0:=by omega
   have hm:B*val B l=0:=by omega
   have hl:val B l=0:=by
    rcases Nat.mul_eq_zero.1 hm with e | e
    ·omega
    ·exact e
   rcases ybs.1 hx with rfl | hx
   ·exact ha
   ·exact ih hl x hx
 rcases List.eq_nil_or_concat l with e | ⟨m,a,e⟩
 ·exact e
 ·exfalso
  subst e;have:=h (by simp)
  simp at this;exact this (key _ h0 a (by simp))
def ztq{B:Nat}{l:List Nat}(h:norm l)(hne:l≠[]):B^(l.length-1)<=val B l:=by
 rcases List.eq_nil_or_concat l with e | ⟨m,a,e⟩
 ·exact absurd e hne
 ·rw[List.concat_eq_append]at e
  subst e;have:=h (by simp)
  simp at this;rw[nS];simp only[ybg,ybn,ybx,val];have:1<=a+B*0:=by omega
  calc B^(m.length+1-1)=B^m.length*1:=by simp
   _<=B^m.length*(a+B*0):=ybv _ this
   _<=_:=Nat.le_add_left _ _
def ztp{B:Nat}(hB:0<B):∀ {l m:List Nat},tB B l->tB B m->l.length=m.length->val B l=val B m->l=m
 | [],[],_,_,_,_=>rfl
 | a::l,b::m,h1,h2,hl,hv=>by
  have ha:=h1 a yby
  have hb:=h2 b yby
  simp only[val]at hv;have e1:a=b:=by
   have:=congrArg (· % B) hv
   simp only[Nat.add_mul_mod_self_left,Nat.mod_eq_of_lt ha,Nat.mod_eq_of_lt hb]at this;exact this
  subst e1;have e2:val B l=val B m:=by
   have:B*val B l=B*val B m:=by omega
   exact Nat.eq_of_mul_eq_mul_left hB this
  rw[ztp hB (fun x hx=>h1 x (ybr _ hx)) (fun x hx=>h2 x (ybr _ hx)) (by simpa using hl) e2]
 | [],_::_,_,_,h,_=>by simp at h
 | _::_,[],_,_,h,_=>by simp at h
def bN{B:Nat}(hB:1<B){l m:List Nat}(h1:tB B l)(h3:norm m)(hv:val B m<=val B l):m.length<=l.length:=by
 by_cases hm:m=[]
 ·simp[hm]
 ·have a:=ztq (B:=B) h3 hm
  have b:=yK (by omega) h1
  have:B^(m.length-1)<B^l.length:=by omega
  have:=(Nat.pow_lt_pow_iff_right hB).1 this
  omega
def z02{B:Nat}(hB:1<B){l m:List Nat}(h1:tB B l)(h2:tB B m)(h3:norm l)(h4:norm m)(hv:val B l=val B m):l=m:=by
 have a:=bN hB h1 h4 (by omega)
 have b:=bN hB h2 h3 (by omega)
 exact ztp (by omega) h1 h2 (by omega) hv
def aI (a b:List Nat):Int:=if a.length≠b.length then(if a.length<b.length then -1 else 1)else go a b
where go:List Nat->List Nat->Int
 | a::l,b::m=>if go l m≠0 then go l m else if a<b then -1 else if b<a then 1 else 0
 | _,_=>0
def zyo{B:Nat}:∀ {a b:List Nat},tB B a->tB B b->a.length=b.length->(aI.go a b<0 ↔ val B a<val B b)/\(aI.go a b=0 ↔ val B a=val B b)
 | [],[],_,_,_=>by simp[aI.go,val]
 | a::l,b::m,h1,h2,hl=>by
  have ha:=h1 a yby
  have hb:=h2 b yby
  obtain⟨i1,i2⟩:=zyo (a:=l) (b:=m) (fun x hx=>h1 x (ybr _ hx)) (fun x hx=>h2 x (ybr _ hx)) (by simpa using hl)
  have lt_of:∀ {x y:Nat},x<y->∀u v,u<B->u+B*x<v+B*y:=by
   intro x y h u v hu;have:B*(x+1)<=B*y:=ybv B h
   rw[ybm]at this;omega
  unfold aI.go;simp only[val];by_cases h0:aI.go l m=0
  ·have e:=i2.1 h0
   rw[yaa (by simpa using h0),e]
   by_cases c1:a<b
   ·rw[yab c1];constructor<;>constructor<;>intro h<;>omega
   ·rw[yaa c1]
    by_cases c2:b<a
    ·rw[yab c2];constructor<;>constructor<;>intro h<;>omega
    ·rw[yaa c2];constructor<;>constructor<;>intro h<;>omega
  ·rw[yab h0]
   constructor
   ·rw[i1]
    constructor
    ·intro h;exact lt_of h a b ha
    ·intro h
     rcases Nat.lt_trichotomy (val B l) (val B m)with g | g | g
     ·exact g
     ·exact absurd (i2.2 g) h0
     ·have:=lt_of g b a hb;omega
   ·constructor
    ·intro h;exact absurd h h0
    ·intro h
     rcases Nat.lt_trichotomy (val B l) (val B m)with g | g | g
     ·have:=lt_of g a b ha;omega
     ·exact i2.2 g
     ·have:=lt_of g b a hb;omega
 | [],_::_,_,_,h=>by simp at h
 | _::_,[],_,_,h=>by simp at h
def zyn{B:Nat}(hB:1<B){a b:List Nat}(h1:tB B a)(h2:tB B b)(h3:norm a)(h4:norm b):aI a b<0 ↔ val B a<val B b:=by
 unfold aI;by_cases hl:a.length=b.length
 ·rw[yaa (by simpa using hl)];exact(zyo h1 h2 hl).1
 ·rw[yab hl]
  by_cases hlt:a.length<b.length
  ·rw[yab hlt]
   refine⟨fun _=>?_,fun _=>by omega⟩
   rcases yau (val B a) (val B b)with g | g
   ·exact g
   ·have:=bN hB h1 h4 g;omega
  ·rw[yaa hlt]
   refine⟨fun h=>by omega,fun h=>?_⟩
   have:=bN hB h2 h3 (by omega);omega
end Go.Am
namespace Go.Am
open Go Go.RowKit
def gE{n:Int}(h1:0<=n)(h2:n<18446744073709551616):tA .u64 n=n:=by
 rw[zK];simp only[IntKind.wrap,IntKind.bits,IntKind.signed];simp;omega
def yQ{n:Int}(h1:0<=n)(h2:n<4294967296):tA .u32 n=n:=by
 rw[zK];simp only[IntKind.wrap,IntKind.bits,IntKind.signed];simp;omega
def zzr{n:Int}(h1:0<=n)(h2:n<65536):tA .u16 n=n:=by
 rw[zK];simp only[IntKind.wrap,IntKind.bits,IntKind.signed];simp;omega
def zb6{n:Int}(h1:0<=n)(h2:n<256):tA .u8 n=n:=by
 rw[zK];simp only[IntKind.wrap,IntKind.bits,IntKind.signed];simp;omega
def yR(n:Int):tA .u64 n=n%18446744073709551616:=by
 rw[zK];simp only[IntKind.wrap,IntKind.bits,IntKind.signed];simp
def yM(n:Int):tA .u32 n=n%4294967296:=by
 rw[zK];simp only[IntKind.wrap,IntKind.bits,IntKind.signed];simp
def ztl(n:Int):tA .u16 n=n%65536:=by
 rw[zK];simp only[IntKind.wrap,IntKind.bits,IntKind.signed];simp
def zpx{k:IntKind}{x y:Nat}:iAnd k (x:Int) (y:Int)=zH Nat.land k (x:Int) (y:Int):=rfl
def oO{f:Nat->Nat->Nat}{k:IntKind}{x y:Nat}(h1:x<nF k)(h2:y<nF k):zH f k (x:Int) (y:Int)=some (.int k (f x y:Nat)):=by
 unfold zH;have e1:jI (x:Int)=some x:=rfl
 have e2:jI (y:Int)=some y:=rfl
 rw[e1,vA,e2,vA,dB.2 h1,dB.2 h2];rfl
def zhq{k:IntKind}{x y:Nat}(h0:0<y)(hw:tA k ((x / y:Nat):Int)=((x / y:Nat):Int)):z1r k (x:Int) (y:Int)=some (.int k ((x / y:Nat):Int)):=by
 unfold z1r;have:uB (y:Int) 0=false:=by
  cases hq:uB (y:Int) 0 with
  | false=>rfl
  | true=>have:=(mP _ _).1 hq;omega
 rw[this,cond_false,Int.tdiv_eq_ediv_of_nonneg (by omega)]
 rw[<- Int.natCast_ediv,hw]
def tW{k:IntKind}{x y:Nat}(h0:0<y):zzo k (x:Int) (y:Int)=some (.int k ((x%y:Nat):Int)):=by
 unfold zzo;have:uB (y:Int) 0=false:=by
  cases hq:uB (y:Int) 0 with
  | false=>rfl
  | true=>have:=(mP _ _).1 hq;omega
 rw[this,cond_false,Int.tmod_eq_emod_of_nonneg (by omega),<- Int.natCast_emod]
def xI{a b:Int}:(uB a b=true) ↔ a=b:=mP a b
def zhg{a b:Int}:((!uB a b)=true) ↔ a≠b:=by rw[ycp,<- Bool.not_eq_true,xI]
def zhh{b:Bool}:((!b)=true) ↔ b=false:=by simp
def zfc{a b n:Nat}(h:b<2^n):Nat.lor (a*2^n) b=a*2^n+b:=by
 show a*2^n ||| b=_
 rw[<- Nat.shiftLeft_eq,<- Nat.shiftLeft_add_eq_or_of_lt h,Nat.shiftLeft_eq]
def or_low{a b n:Nat}(h:b<2^n)(ha:a%2^n=0):Nat.lor a b=a+b:=by
 obtain⟨c,hc⟩:=Nat.dvd_of_mod_eq_zero ha
 subst hc;rw[ybh];exact zfc h
def lA.idx{t:Tr qA}{C:oA}{T el:Nat}(h:wG C T el 1 false){k:IntKind}{l:List Nat}{v:zA}(hr:lA t 1 (sB k l) v){i x:Nat}(hi:l[i]?=some x) :
  ∃b off,zC C T v (.int .i64 (i:Int))=some (.ptr b off)/\mA C el ⟨0,t⟩ (.ptr b off)=some (.int k (x:Int)):=by
 obtain⟨b,off,cs,h1,h2,_,_,h5⟩:=wG.at h (fun _=>rfl) hr (zyi hi)
 rw[kN]at h5;subst h5;exact⟨b,off,h1,h2⟩
def mO(x:Nat)(n:Nat):Int.fdiv (x:Int) (n:Int)=((x / n:Nat):Int):=by
 rw[Int.fdiv_eq_ediv_of_nonneg _ (by omega)];exact(Int.natCast_ediv x n).symm
def getElem?_of_lt{l:List Nat}{i:Nat}(h:i<l.length):∃x,l[i]?=some x:=⟨l[i],ybd h⟩
def aH{B:Nat}{l:List Nat}(h:tB B l){i x:Nat}(hi:l[i]?=some x):x<B:=h x (ycv hi)
def kX{l:List Nat}(h:l≠[]):∃m x,l=m++[x]:=by
 rcases List.eq_nil_or_concat l with e | ⟨m,a,e⟩
 ·exact absurd e h
 ·exact⟨m,a,by rw[e,List.concat_eq_append]⟩
end Go.Am
namespace Go.Proofs
open Go Go.Am
variable [jC]
variable {t:Tr qA}
def zt8:∀(n:Nat) (l:List Nat) (v:zA),l.length=n->n<1125899906842624->lA t 1 (sB .u32 l) v->∃v',jp 174 2 [v] t (fun u m=>u=v'/\m=t)/\lA t 1 (sB .u32 (pE l)) v':=by
 intro n;induction n with
 | zero=>
  intro l v hl _ hv;have:l=[]:=ycc.1 hl
  subst this;refine⟨v,zw9 _ ?_,hv⟩
  simp only[zol,pA,hv.len,sA,qB,iE,iD];rw[yaa (by simp)]
  simp
 | succ n ih=>
  intro l v hl hn hv;obtain⟨m,x,rfl⟩:=kX (l:=l) (by intro e;subst e;simp at hl)
  have hm:m.length=n:=by simpa using hl
  have hx:(m++[x])[m.length]?=some x:=by simp
  obtain⟨b,off,g1,g2⟩:=hv.idx qF hx
  obtain⟨u,g3,g4⟩:=wG.front qF hv (k:=m.length) (by simp[sB])
  rw[zf9]at g4;simp only[List.take_left']at g4;have e1:(((m++[x]).length:Nat):Int)-1=(m.length:Int):=by simp
  by_cases hx0:x=0
  ·subst hx0
   obtain⟨w,h1,h2⟩:=ih m u hm (by omega) g4
   refine⟨w,zw9 _ ?_,by rw[zam];exact h2⟩
   simp (disch:=omega) only[zol,pA,hv.len,sA,qB,iE,iD,xI,wrap_i64,e1,g1,g2,g3]
   rw[yab (by simp),yab (by simp)]
   exact h1
  ·refine⟨v,zw9 _ ?_,?_⟩
   ·simp (disch:=omega) only[zol,pA,hv.len,sA,qB,iE,iD,xI,wrap_i64,e1,g1,g2,g3]
    rw[yab (by simp),yaa (by simpa using hx0)]
    simp
   ·rw[pV]
    ·exact hv
    ·intro _;simpa using hx0
def kS{l:List Nat}{v:zA}(hl:l.length<1125899906842624)(hv:lA t 1 (sB .u32 l) v):∃v',wC yA F 174 [v] t=some v'/\lA t 1 (sB .u32 (pE l)) v':=by
 obtain⟨v',h1,h2⟩:=zt8 _ l v rfl hl hv
 exact⟨v',kC.2 (w174 _ h1),h2⟩
def z2p{a b:List Nat}{u v:zA}(hu:lA t 1 (sB .u32 a) u)(hv:lA t 1 (sB .u32 b) v)(hl:a.length=b.length):∀(n:Nat),n<=a.length->n<1125899906842624->jp 203 2 [u,v,.int .i64 ((n:Int)-1)] t (fun w m=>w=.int .i64 (aI.go (a.take n) (b.take n))/\m=t):=by
 intro n;induction n with
 | zero=>
  intro _ _;refine z4c _ _ _ ?_
  simp only[zut,pA,jG];rw[yaa (by omega)]
  simp[aI.go]
 | succ n ih=>
  intro hn hn2;obtain⟨x,hx⟩:=getElem?_of_lt (l:=a) (i:=n) (by omega)
  obtain⟨y,hy⟩:=getElem?_of_lt (l:=b) (i:=n) (by omega)
  obtain⟨c,off,g1,g2⟩:=hu.idx qF hx
  obtain⟨d,off',g3,g4⟩:=hv.idx qF hy
  have e1:(((n+1:Nat):Int)-1)=(n:Int):=by omega
  have key:∀(a b:List Nat) (x y:Nat),a.length=b.length->aI.go (a++[x]) (b++[y])=if x<y then -1 else if y<x then 1 else aI.go a b:=by
   intro a;induction a with
   | nil=>
    intro b x y h;have:b=[]:=ycc.1 (by simpa using h.symm)
    subst this;simp[aI.go]
   | cons p a ih=>
    intro b x y h
    cases b with
    | nil=>simp at h
    | cons q b=>
     simp only[List.cons_append,aI.go];rw[ih b x y (by simpa using h)]
     by_cases c1:x<y
     ·simp[c1]
     ·by_cases c2:y<x
      ·simp[c1,c2]
      ·simp[c1,c2]
  have e2:aI.go (a.take (n+1)) (b.take (n+1))=if x<y then -1 else if y<x then 1 else aI.go (a.take n) (b.take n):=by
   rw[ydg,ydg,hx,hy];exact key _ _ _ _ (by simp;omega)
  rw[e1,e2];refine z4c _ _ _ ?_
  simp (disch:=omega) only[zut,pA,sA,qB,iD,jG,zhg,g1,g2,g3,g4,wrap_i64]
  rw[yab (by omega)]
  by_cases c0:x=y
  ·subst c0
   rw[yaa (by simp),yaa (by omega),yaa (by omega)]
   exact ih (by omega) (by omega)
  ·rw[yab (by omega)]
   by_cases c1:x<y
   ·rw[yab (by omega),yab c1];simp
   ·rw[yaa (by omega),yaa c1,yab (by omega)];simp
def z4p{a b:List Nat}{u v:zA}(ha:a.length<1125899906842624)(hu:lA t 1 (sB .u32 a) u)(hv:lA t 1 (sB .u32 b) v):wC yA F 203 [u,v] t=some (.int .i64 (aI a b)):=by
 refine kC.2 (w203 _ _ ?_)
 simp (disch:=omega) only[t203,pA,hu.len,hv.len,sA,qB,iE,iD,zhg,wrap_i64]
 unfold aI;by_cases hl:a.length=b.length
 ·rw[yaa (by omega),yaa (by omega)]
  have:=z2p hu hv hl a.length (ybk _) ha
  rw[List.take_length,hl,List.take_length]at this;rw[hl];exact this
 ·rw[yab (by omega),yab hl]
  by_cases hlt:a.length<b.length
  ·rw[yab (by omega),yab hlt];simp
  ·rw[yaa (by omega),yaa hlt];simp
def gI(neg:Bool)(l:List Nat):Bool:=if l=[]then !neg else decide (l.length<=1024)&&decide (l.getLast?≠some 0)
def zbh{neg:Bool}{l:List Nat}{v:zA}(hl:l.length<1125899906842624)(hv:lA t 1 (sB .u16 l) v):wC yA F 148 [.agg [.bool neg,v]] t=some (.bool (gI neg l)):=by
 refine kC.2 (w148 _ _ ?_)
 unfold gI;by_cases h0:l=[]
 ·subst h0
  simp only[t148,pA,hv.len,sA,qB,iE,xI];simp
 ·obtain⟨m,x,rfl⟩:=kX h0
  have hx:(m++[x])[m.length]?=some x:=by simp
  obtain⟨b,off,g1,g2⟩:=hv.idx sl22 hx
  have e1:(((m++[x]).length:Nat):Int)-1=(m.length:Int):=by simp
  have hlm:m.length<1125899906842624:=by simp at hl;omega
  simp (disch:=omega) only[t148,pA,hv.len,sA,qB,iE,xI,jG,wrap_i64,e1,g1,g2]
  rw[yaa (by simp;omega),yaa h0]
  by_cases h1:(m++[x]).length<=1024
  ·rw[yab (by omega)]
   simp only[h1,decide_true,ycn];by_cases hx0:x=0
   ·subst hx0;simp[lP]
   ·have:uB (x:Int) 0=false:=by
     cases hq:uB (x:Int) 0 with
     | false=>rfl
     | true=>have:=(mP _ _).1 hq;omega
    simp[this,hx0]
  ·rw[yaa (by omega),decide_eq_false h1]
   simp
def zhm{neg:Bool}{l:List Nat}{v:zA}(hv:lA t 1 (sB .u16 l) v):wC yA F 149 [.agg [.bool neg,v]] t=some (.bool (!neg&&decide (l=[1]))):=by
 refine kC.2 (w149 _ _ ?_)
 cases neg with
 | true=>simp[t149,pA]
 | false=>
  simp only[t149,pA,hv.len,sA,qB,iE,xI];rw[yab (by rfl)]
  by_cases h1:l.length=1
  ·obtain⟨x,rfl⟩:∃x,l=[x]:=by
    cases l with
    | nil=>simp at h1
    | cons x r=>cases r with
     | nil=>exact⟨x,rfl⟩
     | cons y r=>simp at h1
   obtain⟨b,off,g1,g2⟩:=hv.idx sl22 (i:=0) (x:=x) (by simp)
   simp only[Int.natCast_zero]at g1;rw[yab (by simp)]
   simp only[g1,g2,sA,qB];by_cases hx:x=1
   ·subst hx;simp[lP]
   ·have:uB (x:Int) 1=false:=by
     cases hq:uB (x:Int) 1 with
     | false=>rfl
     | true=>have:=(mP _ _).1 hq;omega
    simp[this,hx]
  ·rw[yaa (by omega)]
   have:l≠[1]:=by intro e;subst e;simp at h1
   simp[this]
end Go.Proofs
namespace Go.Am
def uF:List Nat->List Nat
 | []=>[]
 | [a]=>[a]
 | a::b::l=>(a+65536*b)::uF l
def wN:∀l:List Nat,(uF l).length=(l.length+1) / 2
 | []=>rfl
 | [a]=>by simp[uF]
 | a::b::l=>by simp[uF,wN l];omega
def zcb:∀l:List Nat,val 4294967296 (uF l)=val 65536 l
 | []=>rfl
 | [a]=>by simp[uF,val]
 | a::b::l=>by simp only[uF,val,zcb l];omega
def jW:∀ {l:List Nat},tB 65536 l->tB 4294967296 (uF l)
 | [],_=>fun x hx=>(by cases hx)
 | [a],h=>fun x hx=>by
  have:=h a (by simp)
  have e:x=a:=by simpa[uF]using hx
  omega
 | a::b::l,h=>fun x hx=>by
  have h1:=h a (by simp)
  have h2:=h b (by simp)
  rcases ybs.1 hx with rfl | hx
  ·omega
  ·exact jW (l:=l) (fun y hy=>h y (by simp[hy])) x hx
def oX:∀ {l:List Nat},norm l->norm (uF l)
 | [],_=>fun h=>(h rfl).elim
 | [a],h=>by
  intro _;have:=h (by simp)
  simpa[uF]using this
 | [a,b],h=>by
  intro _;have:=h (by simp)
  simp at this;simp[uF];omega
 | a::b::c::l,h=>by
  intro _;have hn:norm (c::l):=by
   intro hne;have:=h (by simp)
   rw[List.getLast_cons (by simp),List.getLast_cons hne]at this
   exact this
  have hne:uF (c::l)≠[]:=by
   intro e;have:=congrArg List.length e
   rw[wN]at this;simp at this;omega
  have:=oX (l:=c::l) hn hne
  show((a+65536*b)::uF (c::l)).getLast _≠0
  rw[List.getLast_cons hne];exact this
def zap:∀(l:List Nat) (x:Nat),l.length%2=0->uF (l++[x])=uF l++[x]
 | [],x,_=>rfl
 | [a],x,h=>by simp at h
 | a::b::l,x,h=>by
  show(a+65536*b)::uF (l++[x])=(a+65536*b)::(uF l++[x])
  rw[zap l x (by simp at h;omega)]
def zjl:∀(l:List Nat) (a x:Nat),l.length%2=0->uF (l++[a,x])=uF l++[a+65536*x]
 | [],a,x,_=>rfl
 | [b],a,x,h=>by simp at h
 | c::b::l,a,x,h=>by
  show(c+65536*b)::uF (l++[a,x])=(c+65536*b)::(uF l++[a+65536*x])
  rw[zjl l a x (by simp at h;omega)]
def aF:List Nat->List Nat
 | []=>[]
 | w::l=>w%65536::w / 65536::aF l
def cT:∀l:List Nat,(aF l).length=2*l.length
 | []=>rfl
 | w::l=>by simp[aF,cT l];omega
def zca:∀l:List Nat,val 65536 (aF l)=val 4294967296 l
 | []=>rfl
 | w::l=>by
  simp only[aF,val,zca l];have:=ych w 65536
  omega
def zaj:∀ {l:List Nat},tB 4294967296 l->tB 65536 (aF l)
 | [],_=>fun x hx=>(by cases hx)
 | w::l,h=>fun x hx=>by
  have h1:=h w (by simp)
  rcases ybs.1 hx with rfl | hx
  ·exact ycy _ (by decide)
  ·rcases ybs.1 hx with rfl | hx
   ·exact ycu (by omega)
   ·exact zaj (l:=l) (fun y hy=>h y (by simp[hy])) x hx
def sV:∀(l:List Nat) (w:Nat),aF (l++[w])=aF l++[w%65536,w / 65536]
 | [],w=>rfl
 | a::l,w=>by simp[aF,sV l w]
def kZ{l:List Nat}{w:Nat}(hw:w≠0):pE (aF (l++[w]))=if w / 65536=0 then aF l++[w%65536]else aF (l++[w]):=by
 rw[sV];split
 ·rename_i h
  rw[h,show aF l++[w%65536,0]=(aF l++[w%65536])++[0] by simp,zam]
  refine pV fun _=>?_
  simp;omega
 ·rename_i h
  refine pV fun _=>?_
  simpa using h
end Go.Am
namespace Go.Proofs
open Go Go.Am
variable [jC]
variable {t:Tr qA}
def set_append_right{l m:List Nat}{i x:Nat}(h:l.length=i):(l++m).set i x=l++m.set 0 x:=by
 rw[List.set_append_right _ _ (by omega)];congr 1;congr 1;omega
def zvu{l:List Nat}{v:zA}{b:Nat}{Q:bB}(hv:lA t 1 (sB .u16 l) v)(hl:l.length<1000000)(hlt:tB 65536 l)(hbase:yA.base<=b)(hb:t.get b=none)
  (hQ:∀t' v',dA t t'->lA t' 1 (sB .u32 (uF l)) v'->Q v' t'):∀(k i:Nat) (t':Tr qA),i+k=l.length->dA t t'->yF t' b .u32 (uF (l.take i)++List.replicate ((l.length+1) / 2-(i+1) / 2) 0) →
  jp 151 2 [.slice b 0 ((l.length+1) / 2) ((l.length+1) / 2),v,.int .i64 l.length,.int .i64 i] t' Q:=by
 intro k;induction k with
 | zero=>
  intro i t' hi ht ho;refine z4h _ _ _ _ ?_
  simp only[zuz,pA,iD];rw[yaa (by omega)]
  rw[yca (by omega),show(l.length+1) / 2-(i+1) / 2=0 by omega,List.replicate_zero,ycd]at ho
  refine hQ _ _ ht ?_
  have:=ho.all (ybk _)
  rw[wN]at this;exact this
 | succ k ih=>
  intro i t' hi ht ho;obtain⟨x,hx⟩:=getElem?_of_lt (l:=l) (i:=i) (by omega)
  have hxlt:x<65536:=aH hlt hx
  obtain⟨c,off,g1,g2⟩:=(hv.mono ht).idx sl22 hx
  have htake:l.take (i+1)=l.take i++[x]:=by rw[ydg,hx];rfl
  have hlen:(l.take i).length=i:=by simp;omega
  obtain⟨y,hy,hnew⟩:∃y,(uF (l.take i)++List.replicate ((l.length+1) / 2-(i+1) / 2) 0)[i / 2]?=some y/\y<4294967296/\Nat.lor y (x*2^(16*(i%2)))<4294967296 ∧
    (uF (l.take i)++List.replicate ((l.length+1) / 2-(i+1) / 2) 0).set (i / 2) (Nat.lor y (x*2^(16*(i%2))))=uF (l.take (i+1))++List.replicate ((l.length+1) / 2-(i+1+1) / 2) 0:=by
   rcases Nat.mod_two_eq_zero_or_one i with he | ho1
   ·have hp:(uF (l.take i)).length=i / 2:=by rw[wN,hlen];omega
    refine⟨0,?_,by decide,?_,?_⟩
    ·rw[ybp (by omega),hp,Nat.sub_self,List.getElem?_replicate,yab (by omega)]
    ·rw[he];simp;omega
    ·rw[set_append_right hp,he,htake,zap _ _ (by rw[hlen];exact he)]
     have:Nat.lor 0 (x*2^(16*0))=x:=by show 0 ||| _=x;simp
     rw[this];obtain⟨r,hr⟩:∃r,(l.length+1) / 2-(i+1) / 2=r+1:=⟨(l.length+1) / 2-(i+1) / 2-1,by omega⟩
     rw[hr,List.replicate_succ,List.set_cons_zero,show(l.length+1) / 2-(i+1+1) / 2=r by omega]
     simp
   ·obtain⟨p,a,hpa⟩:=kX (l:=l.take i) (by intro e;rw[e]at hlen;simp at hlen;omega)
    have hpl:p.length=i-1:=by rw[hpa]at hlen;simp at hlen;omega
    have hpe:p.length%2=0:=by omega
    have ha:a<65536:=hlt a (List.mem_of_mem_take (by rw[hpa];simp:a∈l.take i))
    have hp:(uF p).length=i / 2:=by rw[wN,hpl];omega
    rw[hpa,zap _ _ hpe];have hlor:Nat.lor a (x*2^(16*1))=a+65536*x:=by
     show a ||| x*2^(16*1)=_
     rw[Nat.or_comm];have:=zfc (a:=x) (b:=a) (n:=16) (by omega)
     show Nat.lor (x*2^16) a=_
     rw[this];omega
    refine⟨a,?_,by omega,?_,?_⟩
    ·rw[ybz,ybp (by omega),hp,Nat.sub_self];rfl
    ·rw[ho1,hlor];omega
    ·rw[ho1,hlor,ybz,set_append_right hp,htake,hpa,ybz]
     rw[show [a]++[x]=[a,x] from rfl,zjl _ _ _ hpe,ybz];rw[show(l.length+1) / 2-(i+1+1) / 2=(l.length+1) / 2-(i+1) / 2 by omega]
     rfl
  obtain⟨hy1,hy2,hy3⟩:=hnew
  have hwlen:(uF (l.take i)++List.replicate ((l.length+1) / 2-(i+1) / 2) 0).length=(l.length+1) / 2:=by
   rw[ybg,wN,hlen,List.length_replicate];omega
  have g3:zC yA 200 (.slice b 0 ((l.length+1) / 2) ((l.length+1) / 2)) (.int .i64 ((i / 2:Nat):Int))=some (.ptr b (0+i / 2*1)):=mS qF (by omega)
  rw[show 0+i / 2*1=i / 2 by omega]at g3;have g4:=ho.load hy zG rfl
  obtain⟨t2,g5,g6,g7⟩:=ho.store (C:=yA) hbase (j:=i / 2) (by omega) (Nat.lor y (x*2^(16*(i%2)))) zG rfl
  rw[hy3]at g6;refine z4h _ _ _ _ ?_
  have e1:Int.tdiv (i:Int) 2=((i / 2:Nat):Int):=by rw[Int.tdiv_eq_ediv_of_nonneg (by omega)];rfl
  have e2:Int.tmod (i:Int) 2=((i%2:Nat):Int):=by rw[Int.tmod_eq_emod_of_nonneg (by omega)];rfl
  have hm:=ycy i (show 0<2 by decide)
  simp (disch:=omega) only[zuz,pA,iD,g1,g2,sA,qB,wrap_i64,yQ,e1,e2,g3,g4]
  rw[yab (by omega)]
  have e3:zxi .u32 (x:Int) (16*((i%2:Nat):Int))=some (.int .u32 ((x*2^(16*(i%2)):Nat):Int)):=by
   rcases Nat.mod_two_eq_zero_or_one i with h | h<;>rw[h]
   ·simp[zxi,zcr,jI]
    rw[yQ (by omega) (by omega)]
   ·have:zxi .u32 (x:Int) (16*((1:Nat):Int))=some (.int .u32 (tA .u32 ((x:Int)*65536))):=rfl
    rw[this,yQ (by omega) (by omega)]
    simp
  rw[e3];have hb2:x*2^(16*(i%2))<4294967296:=by
   rcases Nat.mod_two_eq_zero_or_one i with h | h<;>rw[h]<;>omega
  simp only[sA,qB];rw[oO (show y<nF .u32 from hy1) (show x*2^(16*(i%2))<nF .u32 from hb2)]
  simp only[sA,qB];intro d _ _;rw[g5];simp only[sA];have:=ih (i+1) t2 (by omega) (ht.off hb g7) g6
  rw[show((i+1:Nat):Int)=(i:Int)+1 by omega]at this
  exact this
def zmf{l:List Nat}{v:zA}{Q:bB}(hv:lA t 1 (sB .u16 l) v)(hl:l.length<1000000)(hlt:tB 65536 l)
  (hQ:∀t' v',dA t t'->lA t' 1 (sB .u32 (uF l)) v'->Q v' t'):Wc yA F 151 [v] t Q:=by
 refine w151 _ ?_
 have e1:Int.tdiv ((l.length:Int)+1) 2=(((l.length+1) / 2:Nat):Int):=by rw[Int.tdiv_eq_ediv_of_nonneg (by omega)];rfl
 simp (disch:=omega) only[t151,pA,hv.len,sA,qB,iE,wrap_i64,e1]
 intro b hb hbase;obtain⟨t',g1,g2,g3,_⟩:=oU (C:=yA) (k:=.u32) vL rfl zG rfl rfl (by decide) (n:=(l.length+1) / 2) (by omega) hb
 rw[g1];simp only[sA];exact zvu hv hl hlt hbase hb hQ l.length 0 t' (by omega) g3 (by simpa[uF]using g2)
end Go.Proofs
namespace Go.Proofs
open Go Go.Am
variable [jC]
variable {t:Tr qA}
def zub{n:Nat}(h:n<4294967296):n / 2147483648=if n.testBit 31 then 1 else 0:=by
 have:n.testBit 31=decide (n / 2^31%2=1):=Nat.testBit_eq_decide_div_mod_eq
 rw[this];have h2:n / 2^31<2:=by omega
 by_cases c:n / 2^31%2=1
 ·rw[decide_eq_true c];simp;omega
 ·rw[decide_eq_false c];simp;omega
def zua{n:Nat}(h:n<4294967296):n.testBit 31=decide (2147483648<=n):=by
 have:=zub h
 by_cases c:2147483648<=n
 ·rw[decide_eq_true c]
  cases hb:n.testBit 31 with
  | true=>rfl
  | false=>rw[hb]at this;simp at this;omega
 ·rw[decide_eq_false c]
  cases hb:n.testBit 31 with
  | false=>rfl
  | true=>rw[hb]at this;simp at this;omega
def zis{x:Nat}(h:x<4294967296):zlp (.int .u32 (x:Int))=some (.int .u32 (Nat.xor 4294967295 x:Nat)):=by
 unfold zlp;simp only[zA.asIntK,vA];have:Nat.beq (kLo .u32) 0=true:=rfl
 rw[this,qD];exact oO (k:=.u32) (x:=4294967295) (show 4294967295<nF .u32 by decide) (show x<nF .u32 from h)
def zz6{x y b:Nat}(hx:x<4294967296)(hy:y<4294967296)(hb:b<2) :
  wC yA F 217 [.int .u32 x,.int .u32 y,.int .u32 b] t=some (.tup [.int .u32 (((x+8589934592-y-b)%4294967296:Nat):Int),.int .u32 (((if x<y+b then 1 else 0):Nat):Int)]):=by
 refine kC.2 (w217 _ _ _ ?_)
 obtain⟨d,hd⟩:∃d,d=(x+8589934592-y-b)%4294967296:=⟨_,rfl⟩
 have hdl:d<4294967296:=by rw[hd];exact ycy _ (by decide)
 have e1:tA .u32 (tA .u32 ((x:Int)-y)-b)=(d:Int):=by
  rw[yM,yM,hd];omega
 have hn1:Nat.xor 4294967295 x<4294967296:=Nat.xor_lt_two_pow (n:=32) (by decide) hx
 have hn2:Nat.xor x y<4294967296:=Nat.xor_lt_two_pow (n:=32) hx hy
 have hn3:Nat.xor 4294967295 (Nat.xor x y)<4294967296:=Nat.xor_lt_two_pow (n:=32) (by decide) hn2
 have hn4:Nat.land (Nat.xor 4294967295 x) y<4294967296:=yam Nat.and_le_left hn1
 have hn5:Nat.land (Nat.xor 4294967295 (Nat.xor x y)) d<4294967296:=yam Nat.and_le_left hn3
 have hn6:Nat.lor (Nat.land (Nat.xor 4294967295 x) y) (Nat.land (Nat.xor 4294967295 (Nat.xor x y)) d)<4294967296:=Nat.or_lt_two_pow (n:=32) hn4 hn5
 simp only[t217,pA,e1];rw[zis hx];simp only[sA,qB];rw[zpx,oO (k:=.u32) hn1 hy]
 simp only[sA,qB];rw[oO (k:=.u32) hx hy]
 simp only[sA,qB];rw[zis hn2];simp only[sA,qB];rw[zpx,oO (k:=.u32) hn3 hdl]
 simp only[sA,qB];rw[oO (k:=.u32) hn4 hn5]
 simp only[sA,qB];have e2:Int.fdiv ((Nat.lor (Nat.land (Nat.xor 4294967295 x) y) (Nat.land (Nat.xor 4294967295 (Nat.xor x y)) d):Nat):Int) 2147483648=(((if x<y+b then 1 else 0):Nat):Int):=by
  rw[show(2147483648:Int)=((2147483648:Nat):Int) from rfl,mO,zub hn6]
  congr 1
  have tb:(Nat.lor (Nat.land (Nat.xor 4294967295 x) y) (Nat.land (Nat.xor 4294967295 (Nat.xor x y)) d)).testBit 31=decide (x<y+b):=by
   show((4294967295 ^^^ x) &&& y ||| (4294967295 ^^^ (x ^^^ y)) &&& d).testBit 31=_
   rw[Nat.testBit_or,Nat.testBit_and,Nat.testBit_and,Nat.testBit_xor,Nat.testBit_xor,Nat.testBit_xor,zua hx,zua hy,zua hdl];have:(4294967295:Nat).testBit 31=true:=by decide
   rw[this];by_cases c1:2147483648<=x<;>by_cases c2:2147483648<=y<;>by_cases c3:2147483648<=d<;>by_cases c4:x<y+b<;>simp only[c1,c2,c3,c4,decide_true,decide_false,Bool.xor_true,Bool.xor_false,Bool.true_xor,Bool.false_xor,Bool.not_true,ycl,Bool.and_true,yay,Bool.or_true,Bool.or_false,Bool.xor_self]<;>omega
  rw[tb];by_cases c:x<y+b
  ·simp[c]
  ·simp[c]
 rw[e2,hd];simp
def z23{x y c:Nat}(hx:x<4294967296)(hy:y<4294967296)(hc:c<2) :
  wC yA F 221 [.int .u32 x,.int .u32 y,.int .u32 c] t=some (.tup [.int .u32 (((x+y+c)%4294967296:Nat):Int),.int .u32 (((x+y+c) / 4294967296:Nat):Int)]):=by
 refine kC.2 (w221 _ _ _ ?_)
 have e0:((x:Int)+y)+c=((x+y+c:Nat):Int):=by omega
 simp (disch:=omega) only[t221,pA,gE]
 have e1:((x+y+c:Nat):Int)%4294967296=(((x+y+c)%4294967296:Nat):Int):=by omega
 have e2:(((x+y+c) / 4294967296:Nat):Int)%4294967296=(((x+y+c) / 4294967296:Nat):Int):=by omega
 rw[e0,show Int.fdiv ((x+y+c:Nat):Int) 4294967296=(((x+y+c) / 4294967296:Nat):Int) from mO _ 4294967296,yM,yM,e1,e2]
 simp
def z2d{h l d:Nat}(hh:h<d)(hl:l<4294967296)(hd:d<4294967296) :
  wC yA F 173 [.int .u32 h,.int .u32 l,.int .u32 d] t=some (.tup [.int .u32 (((h*4294967296+l) / d:Nat):Int),.int .u32 (((h*4294967296+l)%d:Nat):Int)]):=by
 refine kC.2 (w173 _ _ _ ?_)
 simp only[t173,pA,zhg,jG];rw[yab (by omega),yaa (by omega)]
 refine j173_7 _ _ _ ?_
 have e1:(h:Int)*4294967296=((h*4294967296:Nat):Int):=by omega
 have hq:(h*4294967296+l) / d<4294967296:=ycu (by
  have:(h+1)*4294967296<=d*4294967296:=ybi _ hh
  omega)
 have hr:(h*4294967296+l)%d<d:=ycy _ (by omega)
 simp (disch:=omega) only[z3p,pA,gE,e1]
 have e2:zH Nat.lor .u64 ((h*4294967296:Nat):Int) (l:Int)=some (.int .u64 ((h*4294967296+l:Nat):Int)):=by
  rw[oO (k:=.u64) (show h*4294967296<nF .u64 by show _<18446744073709551616;omega) (show l<nF .u64 by show _<18446744073709551616;omega)]
  have:=zfc (a:=h) (b:=l) (n:=32) hl
  rw[show h*4294967296=h*2^32 by rfl,this]
 rw[e2];simp only[sA,qB];rw[zhq (k:=.u64) (by omega) (by
  generalize (h*4294967296+l) / d=q at hq ⊢
  exact gE (by omega) (by omega)),tW (k:=.u64) (by omega)]
 simp only[sA,qB];generalize (h*4294967296+l) / d=q at hq ⊢
 generalize (h*4294967296+l)%d=r at hr ⊢
 rw[yQ (by omega) (by omega),yQ (by omega) (by omega)]
 simp
def z1a(v:Nat)(hv:v<256):∃k,k<9/\lC [0,1,2,2,3,3,3,3,4,4,4,4,4,4,4,4,5,5,5,5,5,5,5,5,5,5,5,5,5,5,5,5,6,6,6,6,6,6,6,6,6,6,6,6,6,6,6,6,6,6,6,6,6,6,6,6,6,6,6,6,6,6,6,6,7,7,7,7,7,7,7,7,7,7,7,7,7,7,7,7,7,7,7,7,7,7,7,7,7,7,7,7,7,7,7,7,7,7,7,7,7,7,7,7,7,7,7,7,7,7,7,7,7,7,7,7,7,7,7,7,7,7,7,7,7,7,7,7,8,8,8,8,8,8,8,8,8,8,8,8,8,8,8,8,8,8,8,8,8,8,8,8,8,8,8,8,8,8,8,8,8,8,8,8,8,8,8,8,8,8,8,8,8,8,8,8,8,8,8,8,8,8,8,8,8,8,8,8,8,8,8,8,8,8,8,8,8,8,8,8,8,8,8,8,8,8,8,8,8,8,8,8,8,8,8,8,8,8,8,8,8,8,8,8,8,8,8,8,8,8,8,8,8,8,8,8,8,8,8,8,8,8,8,8,8,8,8,8,8,8,8,8,8,8,8,8] v=some k/\(v=0/\k=0\/0<k/\2^(k-1)<=v/\v<2^k):=by
 have h:∀v:Fin 256,(lC [0,1,2,2,3,3,3,3,4,4,4,4,4,4,4,4,5,5,5,5,5,5,5,5,5,5,5,5,5,5,5,5,6,6,6,6,6,6,6,6,6,6,6,6,6,6,6,6,6,6,6,6,6,6,6,6,6,6,6,6,6,6,6,6,7,7,7,7,7,7,7,7,7,7,7,7,7,7,7,7,7,7,7,7,7,7,7,7,7,7,7,7,7,7,7,7,7,7,7,7,7,7,7,7,7,7,7,7,7,7,7,7,7,7,7,7,7,7,7,7,7,7,7,7,7,7,7,7,8,8,8,8,8,8,8,8,8,8,8,8,8,8,8,8,8,8,8,8,8,8,8,8,8,8,8,8,8,8,8,8,8,8,8,8,8,8,8,8,8,8,8,8,8,8,8,8,8,8,8,8,8,8,8,8,8,8,8,8,8,8,8,8,8,8,8,8,8,8,8,8,8,8,8,8,8,8,8,8,8,8,8,8,8,8,8,8,8,8,8,8,8,8,8,8,8,8,8,8,8,8,8,8,8,8,8,8,8,8,8,8,8,8,8,8,8,8,8,8,8,8,8,8,8,8,8,8] v.val).elim false (fun k=>decide (k<9)&&(decide (v.val=0)&&decide (k=0)||decide (0<k)&&decide (2^(k-1)<=v.val)&&decide (v.val<2^k)))=true:=by decide +kernel
 have hv:=h ⟨v,hv⟩
 simp only[]at hv;generalize lC _ v=r at hv ⊢
 cases r with
 | none=>simp at hv
 | some k=>
  simp only[Option.elim_some,ybb,ycq,decide_eq_true_eq]at hv;obtain⟨hk,hv⟩:=hv
  refine⟨k,hk,rfl,?_⟩
  rcases hv with hv | hv
  ·exact .inl hv
  ·exact .inr ⟨hv.1.1,hv.1.2,hv.2⟩
def BL (x k:Nat):Prop:=x=0/\k=0\/0<k/\2^(k-1)<=x/\x<2^k
def zjx{x s:Nat}(hx:x<256)(hs:s<100):∃k,k<=8/\BL x k/\jp 219 15 [.int .u32 x,.int .i64 s] t (fun v m=>v=.int .i64 ((s+k:Nat):Int)/\m=t):=by
 obtain⟨k,hk,h1,h2⟩:=z1a x hx
 refine⟨k,by omega,h2,z57 _ _ ?_⟩
 simp (disch:=omega) only[zuj,pA,zb6]
 unfold xQ;rw[ty9,vA];have:(zA.int .u8 (x:Int)).asNat=some x:=rfl
 rw[this,vA];simp only[zA.asStr];rw[show(uC.desc ⟨.string,1,16,[.str []],true⟩).isString=true from rfl,qD]
 rw[h1,vA];simp only[sA];rw[show z6f .u8 (.int .u8 (Int.ofNat k))=some (Int.ofNat k) from qB]
 simp only[sA];rw[show Int.ofNat k=(k:Int) from rfl]
 simp (disch:=omega) only[wrap_i64]
 simp
def zjw{x s:Nat}(hx:x<65536)(hs:s<90):∃k,k<=16/\BL x k/\jp 219 9 [.int .u32 x,.int .i64 s] t (fun v m=>v=.int .i64 ((s+k:Nat):Int)/\m=t):=by
 by_cases h:256<=x
 ·obtain⟨k,h1,h2,h3⟩:=zjx (t:=t) (x:=x / 256) (s:=s+8) (by omega) (by omega)
  refine⟨k+8,by omega,?_,z34 _ _ ?_⟩
  ·rcases h2 with h2 | ⟨g1,g2,g3⟩
   ·omega
   ·refine .inr ⟨by omega,?_,?_⟩
    ·rw[show k+8-1=(k-1)+8 by omega,Nat.pow_add];omega
    ·rw[Nat.pow_add];omega
  ·simp (disch:=omega) only[zui,pA,jG,wrap_i64]
   rw[yab (by omega),show(256:Int)=((256:Nat):Int) from rfl,mO,show(s:Int)+8=((s+8:Nat):Int) by omega]
   rw[show s+(k+8)=s+8+k by omega]
   exact h3
 ·obtain⟨k,h1,h2,h3⟩:=zjx (t:=t) (x:=x) (s:=s) (by omega) (by omega)
  refine⟨k,by omega,h2,z34 _ _ ?_⟩
  simp only[zui,pA,jG];rw[yaa (by omega)]
  exact h3
def z1b{x:Nat}(hx:x<4294967296):∃k,k<=32/\BL x k/\wC yA F 219 [.int .u32 x] t=some (.int .i64 (k:Int)):=by
 by_cases h:65536<=x
 ·obtain⟨k,h1,h2,h3⟩:=zjw (t:=t) (x:=x / 65536) (s:=16) (by omega) (by omega)
  refine⟨k+16,by omega,?_,kC.2 (w219 _ ?_)⟩
  ·rcases h2 with h2 | ⟨g1,g2,g3⟩
   ·omega
   ·refine .inr ⟨by omega,?_,?_⟩
    ·rw[show k+16-1=(k-1)+16 by omega,Nat.pow_add];omega
    ·rw[Nat.pow_add];omega
  ·simp only[t219,pA,jG]
   rw[yab (by omega),show(65536:Int)=((65536:Nat):Int) from rfl,mO]
   rw[show k+16=16+k by omega];exact h3
 ·obtain⟨k,h1,h2,h3⟩:=zjw (t:=t) (x:=x) (s:=0) (by omega) (by omega)
  refine⟨k,by omega,h2,kC.2 (w219 _ ?_)⟩
  simp only[t219,pA,jG];rw[yaa (by omega)]
  rw[ybw]at h3;exact h3
def zwd{x:Nat}(hx:x<4294967296)(h0:0<x):∃s:Nat,s<32/\2147483648<=x*2^s/\x*2^s<4294967296/\wC yA F 212 [.int .u32 x] t=some (.int .i64 (s:Int)):=by
 obtain⟨k,h1,h2,h3⟩:=z1b (t:=t) hx
 rcases h2 with h2 | ⟨g1,g2,g3⟩
 ·omega
 ·refine⟨32-k,by omega,?_,?_,kC.2 (w212 _ ?_)⟩
  ·have:2^(k-1)*2^(32-k)=2147483648:=by rw[<- Nat.pow_add,show k-1+(32-k)=31 by omega]
   rw[<- this];exact ybi _ g2
  ·have:2^k*2^(32-k)=4294967296:=by rw[<- Nat.pow_add,show k+(32-k)=32 by omega]
   rw[<- this];exact Nat.mul_lt_mul_of_pos_right g3 (Nat.pow_pos (Nat.succ_pos 1))
  ·simp (disch:=omega) only[t212,pA,q219,h3,sA,qB,wrap_i64]
   refine⟨?_,trivial⟩
   congr 1;omega
end Go.Proofs
namespace Go.Am
def wX{p:List Nat}{n x:Nat}:(p++List.replicate (n+1) 0).set p.length x=(p++[x])++List.replicate n 0:=by
 rw[List.set_append_right _ _ (ybk _),Nat.sub_self,List.replicate_succ,List.set_cons_zero];simp
def gK(B:Nat)(l:List Nat)(x:Nat):val B (l++[x])=val B l+B^l.length*x:=by rw[nS];simp[val]
def xS{B:Nat}{l:List Nat}{x:Nat}(h:tB B l)(hx:x<B):tB B (l++[x]):=zk3 h fun y hy=>by rw[ydd.1 hy];exact hx
def zrg{B:Nat}{r w d:Nat}(hr:r<d)(hw:w<B):(r*B+w) / d<B:=by
 have hd:0<d:=by omega
 refine ycu ?_
 have:(r+1)*B<=d*B:=ybi B hr
 rw[ybo]at this;omega
def wR{l:List Nat}{i x:Nat}(h:l[i]?=some x):l.take (i+1)=l.take i++[x]:=by rw[ydg,h];rfl
def iL{l:List Nat}{i x:Nat}(h:l[i]?=some x):l.drop i=x::l.drop (i+1):=by
 have hi:=(ybc.1 h)
 rw[ybl hi.1,hi.2]
end Go.Am
namespace Go.Am
open Go Go.RowKit
section
variable {t:Tr qA}{C:oA}
def zwc{c:Tr zA}{sz:Nat}:∀(cl:List (List zA)) (off:Nat),(∀(i:Nat) cs,cl[i]?=some cs->cs.length=sz/\∀(j:Nat) a,cs[j]?=some a->c.get (off+i*sz+j)=some a)->c.many (cl.length*sz) off=some cl.flatten:=by
 intro cl;induction cl with
 | nil=>intro off _;simp;rfl
 | cons cs cl ih=>
  intro off h;obtain⟨h1,h2⟩:=h 0 cs (by simp)
  have hrest:=ih (off+sz) fun i cs' hi=>by
   obtain⟨g1,g2⟩:=h (i+1) cs' (by simpa using hi)
   refine⟨g1,fun j a hj=>?_⟩
   have:=g2 j a hj
   rw[show off+sz+i*sz+j=off+(i+1)*sz+j by rw[ybo];omega]
   exact this
  have key:∀(n:Nat) (l r:List zA) (off:Nat),l.length=n->(∀(j:Nat) a,l[j]?=some a->c.get (off+j)=some a)->∀m,c.many m (off+n)=some r->c.many (n+m) off=some (l++r):=by
   intro n;induction n with
   | zero=>
    intro l r off hl _ m hm;have:l=[]:=ycc.1 hl
    subst this;simpa using hm
   | succ n ihn=>
    intro l r off hl hg m hm
    cases l with
    | nil=>simp at hl
    | cons a l=>
     rw[show n+1+m=(n+m)+1 by omega,Tr.many_succ]
     have:=hg 0 a (by simp)
     rw[yct]at this;rw[this,vA,ihn l r (off+1) (by simpa using hl) (fun j b hj=>by
      have:=hg (j+1) b (by simpa using hj)
      rw[show off+1+j=off+(j+1) by omega];exact this) m (by rw[show off+1+n=off+(n+1) by omega];exact hm)]
     rfl
  rw[yas,ybn,ybo,Nat.one_mul,yap];exact key sz cs _ off h1 (fun j a hj=>by have:=h2 j a hj;rw[Nat.zero_mul,yct]at this;exact this) _ hrest
def elems.first{sz:Nat}{v:zA}{cl:List (List zA)}(h:elems t sz v cl){n:Nat}:oN ⟨n,t⟩ sz cl.length v=some cl.flatten/\qR v=some cl.length:=by
 rcases h with⟨rfl,rfl⟩ | ⟨b,off,cap,rfl,_,⟨c,m,lo,h1,_⟩,h2⟩
 ·exact⟨rfl,rfl⟩
 ·refine⟨?_,rfl⟩
  unfold oN;simp only[zA.asSlice];unfold fC;rw[h1,vA];simp only[qA.asCells,vA];refine zwc cl off fun i cs hi=>?_
  obtain⟨g1,c',m',lo',g2,g3⟩:=h2 i cs hi
  rw[h1]at g2
  cases g2
  exact⟨g1,g3⟩
def zbv{sz:Nat}:∀ {cl:List (List zA)},(∀(i:Nat) cs,cl[i]?=some cs->cs.length=sz)->cl.flatten.length=cl.length*sz:=by
 intro cl;induction cl with
 | nil=>intro _;simp
 | cons c cl ih=>
  intro h;rw[yas,ybg,ybn,ybo,ih fun i cs hi=>h (i+1) cs (by simpa using hi),h 0 c (by simp)]
  omega
def iR{sz:Nat}:∀ {cl:List (List zA)},(∀(i:Nat) cs,cl[i]?=some cs->cs.length=sz)->∀(i j:Nat) cs a,cl[i]?=some cs->cs[j]?=some a->cl.flatten[i*sz+j]?=some a:=by
 intro cl;induction cl with
 | nil=>intro _ i j cs a h;simp at h
 | cons c cl ih=>
  intro h i j cs a hi hj;have hc:=h 0 c (by simp)
  rw[yas]
  cases i with
  | zero=>
   simp at hi;subst hi;rw[Nat.zero_mul,ybw,yco (ybc.1 hj).1]
   exact hj
  | succ i=>
   rw[ybp (by rw[hc,ybo];omega),hc,show(i+1)*sz+j-sz=i*sz+j by rw[ybo];omega]
   exact ih (fun i cs hi=>h (i+1) cs (by simpa using hi)) i j cs a (by simpa using hi) hj
def elems.len{sz:Nat}{v:zA}{cl:List (List zA)}(h:elems t sz v cl):∀(i:Nat) cs,cl[i]?=some cs->cs.length=sz:=by
 rcases h with⟨rfl,rfl⟩ | ⟨b,off,cap,rfl,_,_,h2⟩
 ·intro i cs hi;simp at hi
 ·exact fun i cs hi=>(h2 i cs hi).1
def yY{sz n:Nat}{cl:List (List zA)}{t':Tr qA}{lo:Option Lo}(hl:∀(i:Nat) cs,cl[i]?=some cs->cs.length=sz)(h:t'.get n=some (.cells (Tr.ofList cl.flatten) (aA cl.flatten) lo))(hlo:lo=none\/∃x,lo=some x/\x.es=sz):elems t' sz (.slice n 0 cl.length cl.length) cl:=
 .inr ⟨n,0,cl.length,rfl,ybk _,⟨_,_,_,h,hlo⟩,fun i cs hi=>⟨hl i cs hi,_,_,_,h,fun j a hj=>by
  rw[Tr.get_ofList,ybw];exact iR hl i j cs a hi hj⟩⟩
def NB (C:oA)(el:Nat):Prop:=∀y,C.tys.get el=some y->zxe y=false
def NB.code{el:Nat}{z:uC}(h:NB C el)(hz:C.tys.get el=some z):qH el z=.sz z.size:=by
 unfold qH;rw[h z hz,yay];rfl
structure ztc (C:oA) (T el sz:Nat):Prop where
 ty:∃y,C.tys.get T=some y/\y.desc.asSlice=some el/\Nat.beq y.desc.tag 1=false
 el:∃y,C.tys.get el=some y/\y.size=sz/\aA y.zero=sz/\y.bytes<=500/\0<sz
structure ztd (C:oA) (T e sz:Nat):Prop where
 ty:∃y,C.tys.get T=some y/\y.desc.asSlice=some e/\Nat.beq y.desc.tag 1=false
 el:∃y,C.tys.get e=some y/\y.size=sz/\aA y.zero=sz/\y.bytes<=500/\0<sz
 nb:NB C e
def zny{T el sz:Nat}(hT:ztd C T el sz){l:List D}{x s:zA}(hx:lA t sz l x)(hl:l.length<1000000){n:Nat}(hn:t.get n=none)
  (hs:s=.nilslice\/∃b c m,s=.slice b 0 0 0/\t.get b=some (.cells c m none)) :
  ∃v H',bE C T T s x ⟨n,t⟩=some (v,H')/\lA H'.t sz l v/\dA t H'.t/\lD n t H'.t:=by
 obtain⟨⟨y,hy1,hy2,hy3⟩,⟨z,hz1,hz2,hz3,hz4,hz5⟩,hnb⟩:=hT
 have hcode:=NB.code hnb hz1
 obtain⟨cl,he,hd⟩:=hx
 have hcl:=hd.length
 obtain⟨hf,hlen⟩:=he.first (n:=n)
 have hall:=he.len
 have base:bE C T T s x ⟨n,t⟩=(match s.asSlice with
  | some s=>bif Nat.ble (s.2.2.1+cl.length) s.2.2.2 then lQ C ⟨n,t⟩ z cl.length cl.flatten s else nO C ⟨n,t⟩ el z cl.length cl.flatten s
  | none=>jA (Nat.beq s.tag 5) (cJ ⟨n,t⟩ el z cl.length cl.flatten)):=by
  unfold bE gO;rw[hy1,vA,vA,hy3];simp only[ycl,qD];rw[hy2,vA,hz1,vA,hlen,vA,hz2,hf,vA];rfl
 have hfl:aA cl.flatten=cl.length*sz:=by rw[gC];exact zbv hall
 have ok:lL z 0 0 cl.length cl.flatten=true:=by
  unfold lL;have h1:Nat.blt (0+cl.length+0) 1000000000=true:=dB.2 (by omega)
  have h2:Nat.blt ((0+cl.length+0)*z.bytes) 1000000000=true:=dB.2 (by
   have:=ydb (show 0+cl.length+0<=1000000 by omega) hz4
   omega)
  have h3:Nat.blt z.bytes 1000000000=true:=dB.2 (by omega)
  have h4:(!Nat.beq z.size 0)=true:=by
   cases hq:Nat.beq z.size 0 with
   | true=>have:=pB.1 hq;omega
   | false=>rfl
  have h5:Nat.beq (aA cl.flatten) (cl.length*z.size)=true:=by rw[hfl,hz2];exact pB.2 rfl
  have h6:Nat.beq (aA z.zero) z.size=true:=by rw[hz3,hz2];exact pB.2 rfl
  rw[h1,h2,h3,h4,h5,h6];rfl
 have newT:∀(q:qA),dA t (t.set n q)/\lD n t (t.set n q):=fun q=>⟨fun c u hc=>by
   rw[Tr.get_set,yaa (by intro e;rw[e,hn]at hc;cases hc)];exact hc,fun c hc=>by rw[Tr.get_set,yaa hc]⟩
 rcases hs with rfl | ⟨b,c,m,rfl,hb⟩
 ·by_cases h0:cl.length=0
  ·have:cl=[]:=ycc.1 h0
   subst this;refine⟨.nilslice,⟨n,t⟩,?_,⟨[],.inl ⟨rfl,rfl⟩,hd⟩,dA.refl _,lD.refl _ _⟩
   rw[base];rfl
  ·refine⟨.slice n 0 cl.length cl.length,⟨n+1,t.set n (.cells (Tr.ofList cl.flatten) (aA cl.flatten) (some (qH el z)))⟩,?_,⟨cl,yY hall (show(t.set n _).get n=_ by rw[Tr.get_set,yab rfl]) (.inr ⟨_,rfl,by rw[rT,hz2]⟩),oC.mono (newT _).1 _ _ hd⟩,(newT _).1,(newT _).2⟩
   rw[base];simp only[zA.asSlice];show jA true (cJ ⟨n,t⟩ el z cl.length cl.flatten)=_
   rw[qD];unfold cJ;have:Nat.beq cl.length 0=false:=by
    cases hq:Nat.beq cl.length 0 with
    | true=>exact absurd (pB.1 hq) h0
    | false=>rfl
   rw[this,cond_false,ok];rfl
 ·by_cases h0:cl.length=0
  ·have:cl=[]:=ycc.1 h0
   subst this;refine⟨.slice b 0 0 0,⟨n,t⟩,?_,⟨[],.inr ⟨b,0,0,rfl,ybk _,⟨c,m,none,hb,.inl rfl⟩,fun i cs hi=>by simp at hi⟩,hd⟩,dA.refl _,lD.refl _ _⟩
   rw[base];rfl
  ·refine⟨.slice n 0 cl.length cl.length,⟨n+1,t.set n (.cells (Tr.ofList cl.flatten) (aA cl.flatten) (some (qH el z)))⟩,?_,⟨cl,yY hall (show(t.set n _).get n=_ by rw[Tr.get_set,yab rfl]) (.inr ⟨_,rfl,by rw[rT,hz2]⟩),oC.mono (newT _).1 _ _ hd⟩,(newT _).1,(newT _).2⟩
   rw[base];simp only[zA.asSlice];have:Nat.ble (0+cl.length) 0=false:=by
    cases hq:Nat.ble (0+cl.length) 0 with
    | true=>have:=vE.1 hq;omega
    | false=>rfl
   rw[this,cond_false];unfold nO;simp only[];rw[show ∀x,(!(Nat.beq 0 1&&x))=true from fun _=>rfl,qD,ok,qD]
   unfold fC;rw[hb,vA];simp only[qA.asCells,vA];unfold jU;simp only[Nat.zero_mul];show ob (c.many 0 0) _=_
   rw[show c.many 0 0=some [] from rfl,vA];rw[oG,yah,ybw];rfl
end
end Go.Am
namespace Go.Proofs
open Go Go.Am
variable [jC]
variable {t:Tr qA}
def el305:ztd yA 200 202 1:=⟨⟨_,vL,rfl,rfl⟩,⟨_,zG,rfl,rfl,by decide,by decide⟩,fun y h=>by rw[zG]at h;cases h;rfl⟩
def lit0{T el:Nat}{y z:uC}(hT:yA.tys.get T=some y)(hel:y.desc.asSlice=some el)(hz:yA.tys.get el=some z)(hs:aA z.zero=z.size){b:Nat}(hb:t.get b=none) :
  ∃H',dG yA T 0 [] ⟨b,t⟩=some (.slice b 0 0 0,H')/\(∃c,H'.t.get b=some (.cells c 0 none))/\dA t H'.t:=by
 refine⟨bD ⟨b,t⟩ [] none,?_,⟨Tr.ofList [],?_⟩,?_⟩
 ·unfold dG
  rw[hT,vA,hel,vA,hz,vA];have:(Nat.blt (0*z.size) 1000000&&Nat.beq (aA z.zero) z.size)=true:=by rw[Nat.zero_mul,hs,pB.2 rfl];rfl
  rw[this];rfl
 ·show(t.set b _).get b=_
  rw[Tr.get_set,yab rfl];rfl
 ·intro c u hc
  show(t.set b _).get c=_
  rw[Tr.get_set,yaa (by intro e;rw[e,hb]at hc;cases hc)];exact hc
def z2q{l:List Nat}{v:zA}{Q:bB}(hv:lA t 1 (sB .u32 l) v)(hl:l.length<1000000)
  (hQ:∀t' v',dA t t'->lA t' 1 (sB .u32 l) v'->Q v' t'):Wc yA F 214 [v] t Q:=by
 refine w214 _ ?_
 have e:(binA .eql).f yA 200 (.tmp 3) (.const (.slice none 0 0)) v .nilslice=some (.bool (Nat.beq v.tag 5)):=by
  obtain⟨cl,h1,_⟩:=hv
  rcases h1 with⟨rfl,_⟩ | ⟨b,off,cap,rfl,_⟩
  ·kernel_rfl
  ·kernel_rfl
 simp only[t214,pA,e,sA,jT];split
 ·rename_i h
  have:v=.nilslice:=(xP.2.1).1 (pB.1 h)
  subst this;exact hQ _ _ (dA.refl _) hv
 ·intro b hb hbase
  obtain⟨H1,g1,⟨c,g2⟩,g3⟩:=lit0 (t:=t) vL rfl zG rfl hb
  rw[g1];simp only[sA];intro n hn _;obtain⟨u,H',g4,g5,g6,_⟩:=zny el305 (hv.mono g3) (by rw[iE];exact hl) hn (.inr ⟨b,c,0,rfl,g2⟩)
  rw[g4];simp only[sA];exact hQ _ _ (g3.trans g6) g5
def zfb(n:Nat):List Nat:=pE [n%4294967296,n / 4294967296]
def zqw(n:Nat):val 4294967296 (zfb n)=n:=by unfold zfb;rw[xM];simp only[val];omega
def zk2{n:Nat}(h:n<18446744073709551616):tB 4294967296 (zfb n):=eP fun x hx=>by
 simp at hx;omega
def zmm(n:Nat):norm (zfb n):=vP _
def zmv{T el:Nat}{y z:uC}{k:IntKind}(hT:yA.tys.get T=some y)(hel:y.desc.asSlice=some el)(hz:yA.tys.get el=some z)(hzero:z.zero=[.int k 0])(hs:z.size=1)(x:Nat)(hk:True){b:Nat}(hb:t.get b=none) :
  ∃H',dG yA T 1 [(0,.int k (x:Int))] ⟨b,t⟩=some (.slice b 0 1 1,H')/\yF H'.t b k [x]/\dA t H'.t:=by
 refine⟨bD ⟨b,t⟩ [.int k (x:Int)] none,?_,⟨Tr.ofList [.int k (x:Int)],?_,fun j u hj=>?_⟩,?_⟩
 ·unfold dG
  rw[hT,vA,hel,vA,hz,vA,hs,hzero];rfl
 ·show(t.set b _).get b=_
  rw[Tr.get_set,yab rfl];rfl
 ·rw[Tr.get_ofList]
  cases j with
  | zero=>simp at hj;subst hj;rfl
  | succ j=>simp at hj
 ·intro c u hc
  show(t.set b _).get c=_
  rw[Tr.get_set,yaa (by intro e;rw[e,hb]at hc;cases hc)];exact hc
def z08{T el:Nat}{y z:uC}{k:IntKind}(hT:yA.tys.get T=some y)(hel:y.desc.asSlice=some el)(hz:yA.tys.get el=some z)(hzero:z.zero=[.int k 0])(hs:z.size=1)(x x':Nat){b:Nat}(hb:t.get b=none) :
  ∃H',dG yA T 2 [(0,.int k (x:Int)),(1,.int k (x':Int))] ⟨b,t⟩=some (.slice b 0 2 2,H')/\yF H'.t b k [x,x']/\dA t H'.t:=by
 refine⟨bD ⟨b,t⟩ [.int k (x:Int),.int k (x':Int)] none,?_,⟨Tr.ofList [.int k (x:Int),.int k (x':Int)],?_,fun j u hj=>?_⟩,?_⟩
 ·unfold dG
  rw[hT,vA,hel,vA,hz,vA,hs,hzero];rfl
 ·show(t.set b _).get b=_
  rw[Tr.get_set,yab rfl];rfl
 ·rw[Tr.get_ofList]
  cases j with
  | zero=>simp at hj;subst hj;rfl
  | succ j=>
   cases j with
   | zero=>simp at hj;subst hj;rfl
   | succ j=>simp at hj
 ·intro c u hc
  show(t.set b _).get c=_
  rw[Tr.get_set,yaa (by intro e;rw[e,hb]at hc;cases hc)];exact hc
def z0e{n:Nat}{Q:bB}(hn:n<18446744073709551616)(hQ:∀t' v',dA t t'->lA t' 1 (sB .u32 (zfb n)) v'->Q v' t'):Wc yA F 208 [.int .u64 n] t Q:=by
 refine w208 _ ?_
 have e1:tA .u32 (n:Int)=((n%4294967296:Nat):Int):=by rw[yM];omega
 have e2:tA .u32 (Int.fdiv (n:Int) 4294967296)=((n / 4294967296:Nat):Int):=by
  rw[show Int.fdiv (n:Int) 4294967296=((n / 4294967296:Nat):Int) from mO _ 4294967296,yQ (by omega) (by omega)]
 simp only[t208,pA,e1,e2];intro b hb _;obtain⟨H',g1,g2,g3⟩:=z08 (t:=t) (k:=.u32) vL rfl zG rfl rfl (n%4294967296) (n / 4294967296) hb
 rw[g1];simp only[sA];obtain⟨v',h1,h2⟩:=kS (l:=[n%4294967296,n / 4294967296]) (by simp) (g2.all (ybk _))
 simp only[q174];have h1:wC yA F 174 [.slice b 0 2 2] H'.t=some v':=h1
 rw[h1];exact hQ _ _ g3 h2
def zlo{l:List Nat}{v:zA}{b:Nat}{neg:Bool}{Q:bB}(hv:lA t 1 (sB .u32 l) v)(hl:l.length<400000)(hlt:tB 4294967296 l)(hne:l≠[])(hnorm:norm l)(hbase:yA.base<=b)(hb:t.get b=none)
  (hQ:∀t' v',dA t t'->lA t' 1 (sB .u16 (pE (aF l))) v'->Q (.agg [.bool neg,v']) t'):∀(k i:Nat) (t':Tr qA),i+k=l.length->dA t t'->yF t' b .u16 (aF (l.take i)++List.replicate (2*k) 0) →
  jp 193 2 [.bool neg,.slice b 0 (2*l.length) (2*l.length),v,.int .i64 l.length,.int .i64 i,.bool false,.nilslice] t' Q:=by
 intro k;induction k with
 | zero=>
  intro i t' hi ht ho;refine z4d _ _ _ _ _ _ _ ?_
  rw[yca (by omega),yat,List.replicate_zero,ycd]at ho
  obtain⟨m,w,rfl⟩:=kX hne
  have hw:w≠0:=by have:=hnorm (by simp);simpa using this
  have hwlt:w<4294967296:=hlt w (by simp)
  have hul:(aF (m++[w])).length=2*(m++[w]).length:=cT _
  have hml:(m++[w]).length=m.length+1:=by simp
  have hlast:(aF (m++[w]))[2*m.length+1]?=some (w / 65536):=by
   rw[sV,ybp (by rw[cT];omega),cT]
   rw[show 2*m.length+1-2*m.length=1 by omega];rfl
  have hread:=ho.all (cap:=2*(m++[w]).length) (by omega)
  rw[hul]at hread;have g3:zC yA 22 (.slice b 0 (2*(m++[w]).length) (2*(m++[w]).length)) (.int .i64 ((2*m.length+1:Nat):Int))=some (.ptr b (0+(2*m.length+1)*1)):=mS sl22 (by omega)
  rw[show 0+(2*m.length+1)*1=2*m.length+1 by omega]at g3
  have g4:=ho.load hlast z45 rfl
  have e1:((2*(m++[w]).length:Nat):Int)-1=((2*m.length+1:Nat):Int):=by rw[hml];omega
  have hlen:yC (.slice b 0 (2*(m++[w]).length) (2*(m++[w]).length))=some (.int .i64 ((2*(m++[w]).length:Nat):Int)):=rfl
  have hb2:2*m.length+1<1000000:=by omega
  simp (disch:=omega) only[zuv,pA,iD,hlen,sA,qB,e1,wrap_i64,g3,g4,xI]
  rw[yaa (by omega)]
  by_cases hz:w / 65536=0
  ·rw[yab (by rw[hz];rfl)]
   obtain⟨u,g5,g6⟩:=wG.front sl22 hread (k:=2*m.length+1) (by rw[iE,hul];omega)
   rw[g5];simp only[sA];have hone:tC zA.one [.bool neg,u]=true:=by
    show(bif zA.one (.bool neg)then(bif zA.one u then true else false)else false)=true
    rw[g6.one];rfl
   rw[yab hone,yab hone];refine hQ _ _ ht ?_
   rw[zf9]at g6;rw[kZ hw,yab hz];have:(aF (m++[w])).take (2*m.length+1)=aF m++[w%65536]:=by
    rw[sV,show aF m++[w%65536,w / 65536]=(aF m++[w%65536])++[w / 65536] by simp]
    rw[List.take_left' (by simp[cT])]
   rw[this]at g6;exact g6
  ·rw[yaa (by omega)]
   have hone:tC zA.one [.bool neg,.slice b 0 (2*(m++[w]).length) (2*(m++[w]).length)]=true:=rfl
   rw[yab hone,yab hone];refine hQ _ _ ht ?_
   rw[kZ hw,yaa hz];exact hread
 | succ k ih=>
  intro i t' hi ht ho;obtain⟨x,hx⟩:=getElem?_of_lt (l:=l) (i:=i) (by omega)
  have hxlt:x<4294967296:=aH hlt hx
  obtain⟨c,off,g1,g2⟩:=(hv.mono ht).idx qF hx
  have htl:(l.take i).length=i:=by simp;omega
  have hpl:(aF (l.take i)).length=2*i:=by rw[cT,htl]
  have hlen0:(aF (l.take i)++List.replicate (2*(k+1)) 0).length=2*l.length:=by simp[hpl];omega
  have g3:∀j,j<2*l.length->zC yA 22 (.slice b 0 (2*l.length) (2*l.length)) (.int .i64 (j:Int))=some (.ptr b j):=by
   intro j hj;have:=mS (b:=b) (off:=0) (cap:=2*l.length) sl22 hj
   rw[show 0+j*1=j by omega]at this;exact this
  have g3a:=g3 (2*i) (by omega)
  have g3b:=g3 (2*i+1) (by omega)
  obtain⟨t1,s1,s2,s3⟩:=ho.store (C:=yA) hbase (j:=2*i) (by rw[hlen0];omega) (x%65536) z45 rfl
  have hs2:(aF (l.take i)++List.replicate (2*(k+1)) 0).set (2*i) (x%65536)=(aF (l.take i)++[x%65536])++List.replicate (2*k+1) 0:=by
   rw[<- hpl,show 2*(k+1)=(2*k+1)+1 by omega];exact wX
  rw[hs2]at s2;obtain⟨t2,s4,s5,s6⟩:=s2.store (C:=yA) hbase (j:=2*i+1) (by simp[hpl]) (x / 65536) z45 rfl
  have hs5:((aF (l.take i)++[x%65536])++List.replicate (2*k+1) 0).set (2*i+1) (x / 65536)=aF (l.take (i+1))++List.replicate (2*k) 0:=by
   have hq:(aF (l.take i)++[x%65536]).length=2*i+1:=by simp[hpl]
   rw[<- hq,wX,wR hx,sV];simp
  rw[hs5]at s5;have e1:tA .u16 (x:Int)=((x%65536:Nat):Int):=by rw[ztl];omega
  have e2:tA .u16 (Int.fdiv (x:Int) 65536)=((x / 65536:Nat):Int):=by
   rw[show Int.fdiv (x:Int) 65536=((x / 65536:Nat):Int) from mO _ 65536,zzr (by omega) (by omega)]
  have e3:(2:Int)*(i:Int)=((2*i:Nat):Int):=by omega
  have e4:((2*i:Nat):Int)+1=((2*i+1:Nat):Int):=by omega
  refine z4d _ _ _ _ _ _ _ ?_
  simp (disch:=omega) only[zuv,pA,iD,g1,g2,sA,qB,e1,e2,e3,e4,wrap_i64,g3a,g3b]
  rw[yab (by omega)]
  intro d _ _;rw[s1];simp only[sA];intro d' _ _;rw[s4];simp only[sA];have:=ih (i+1) t2 (by omega) ((ht.off hb s3).off hb s6) s5
  rw[show((i+1:Nat):Int)=(i:Int)+1 by omega]at this
  exact this
def zty{l:List Nat}{v:zA}{neg:Bool}{Q:bB}(hv:lA t 1 (sB .u32 l) v)(hl:l.length<400000)(hlt:tB 4294967296 l)
  (hQ:∀t' v',dA t t'->lA t' 1 (sB .u16 (pE (aF (pE l)))) v'->Q (.agg [.bool (if pE l=[]then false else neg),v']) t'):Wc yA F 193 [.bool neg,v] t Q:=by
 refine w193 _ _ ?_
 obtain⟨u,h1,h2⟩:=kS (l:=l) (by omega) hv
 have hsl:=zcj l
 simp only[t193,pA,q174,h1,sA,h2.len,qB,iE,xI];by_cases h0:pE l=[]
 ·rw[yab (by rw[h0];rfl)]
  simp only[if_true];have:=hQ t .nilslice (dA.refl _) (by rw[h0];exact⟨[],.inl ⟨rfl,rfl⟩,by simp[aF,pE,sB,oC]⟩)
  rw[yab h0]at this;exact this
 ·have hpos:0<(pE l).length:=List.length_pos_iff.2 h0
  rw[yaa (by omega)]
  have e1:(2:Int)*((pE l).length:Int)=((2*(pE l).length:Nat):Int):=by omega
  simp (disch:=omega) only[e1,wrap_i64]
  intro b hb hbase;obtain⟨t',g1,g2,g3,_⟩:=oU (C:=yA) (k:=.u16) ty22 rfl z45 rfl rfl (by decide) (n:=2*(pE l).length) (by omega) hb
  rw[g1];simp only[sA];refine zlo h2 (by omega) (eP hlt) h0 (vP l) hbase hb (fun t2 v2 a b=>?_) (pE l).length 0 t' (by omega) g3 (by simpa[aF]using g2)
  have:=hQ t2 v2 a b
  rw[yaa h0]at this;exact this
end Go.Proofs
namespace Go.Proofs
open Go Go.Am
section
variable [jC]
variable {t:Tr qA}
def cS{T el:Nat}(h:wG yA T el 1 false){b n cap j:Nat}(hj:j<n):zC yA T (.slice b 0 n cap) (.int .i64 (j:Int))=some (.ptr b j):=by
 have:=mS (b:=b) (off:=0) (cap:=cap) h hj
 rw[show 0+j*1=j by omega]at this;exact this
def zpw{x s:Nat}(hs:s<64)(hx:x*2^s<18446744073709551616):zxi .u64 (x:Int) (s:Int)=some (.int .u64 ((x*2^s:Nat):Int)):=by
 unfold zxi zcr;have:jI (s:Int)=some s:=rfl
 rw[this,vA,vA];have hm:min s (IntKind.bits .u64)=s:=by show min s 64=s;omega
 rw[hm];have e:(x:Int)*Int.ofNat (2^s)=((x*2^s:Nat):Int):=by rw[Int.natCast_mul];rfl
 rw[e,gE (by omega) (by omega)]
def zpv{x s:Nat}(hs:s<65):z6g .u64 (x:Int) (s:Int)=some (.int .u64 ((x / 2^s:Nat):Int)):=by
 unfold z6g zcr;have:jI (s:Int)=some s:=rfl
 rw[this,vA,vA];have hm:min s (IntKind.bits .u64)=s:=by show min s 64=s;omega
 rw[hm];have e:Int.fdiv (x:Int) (Int.ofNat (2^s))=((x / 2^s:Nat):Int):=mO x (2^s)
 rw[e]
def zvq{s:Nat}(hs:s<32):2^s<=2147483648:=yao (n:=2) (by decide) (show s<=31 by omega)
def zjh{s:Nat}(hs:s<=32):2^s*2^(32-s)=4294967296:=by rw[<- Nat.pow_add,show s+(32-s)=32 by omega]
def z5w{x s:Nat}(hs:s<=32):(x*2^s%4294967296)%2^s=0:=by
 rw[<- zjh hs,ybh x,Nat.mul_mod_mul_left,Nat.mul_mod_right]
def zi1{l:List Nat}{v:zA}{b s:Nat}{Q:bB}(hv:lA t 1 (sB .u32 l) v)(hl:l.length<900000)(hlt:tB 4294967296 l)(hs:s<32)(hbase:yA.base<=b)(hb:t.get b=none)
  (hQ:∀t' r,dA t t'->lD b t t'->yF t' b .u32 r->r.length=l.length+1->tB 4294967296 r->val 4294967296 r=val 4294967296 l*2^s->Q (.slice b 0 (l.length+1) (l.length+1)) t') :
  ∀(k i:Nat) (t':Tr qA) (P:List Nat) (c:Nat),i+k=l.length->dA t t'->lD b t t'->yF t' b .u32 ((P++[c])++List.replicate k 0)->P.length=i->c<2^s->tB 4294967296 P->val 4294967296 P+4294967296^i*c=val 4294967296 (l.take i)*2^s →
  jp 215 2 [.int .i64 s,.slice b 0 (l.length+1) (l.length+1),v,.int .i64 l.length,.int .i64 i] t' Q:=by
 have hp2:=zvq hs
 intro k;induction k with
 | zero=>
  intro i t' P c hi ht hoff ho hP hc hPl hval;refine z38 _ _ _ _ _ ?_
  simp only[zun,pA,iD];rw[yaa (by omega)]
  rw[List.replicate_zero,ycd]at ho;refine hQ t' (P++[c]) ht hoff ho (by simp;omega) (xS hPl (by omega)) ?_
  rw[gK,hP,hval,yca (by omega)]
 | succ k ih=>
  intro i t' P c hi ht hoff ho hP hc hPl hval;obtain⟨x,hx⟩:=getElem?_of_lt (l:=l) (i:=i) (by omega)
  have hxlt:x<4294967296:=aH hlt hx
  obtain⟨d,off,g1,g2⟩:=(hv.mono ht).idx qF hx
  have hxs:x*2^s<4294967296*2^s:=Nat.mul_lt_mul_of_pos_right hxlt (Nat.pow_pos (by decide))
  have hxs2:x*2^s<18446744073709551616:=by
   have:4294967296*2^s<=4294967296*2147483648:=ybv _ hp2
   omega
  have hlow:=z5w (x:=x) (s:=s) (by omega)
  have hlor:Nat.lor c (x*2^s%4294967296)=x*2^s%4294967296+c:=by
   have:=or_low (a:=x*2^s%4294967296) (b:=c) (n:=s) hc hlow
   show c ||| _=_
   rw[Nat.or_comm];exact this
  have hsum:x*2^s%4294967296+c<4294967296:=by
   have h1:x*2^s%4294967296<4294967296:=ycy _ (by decide)
   have h2:(4294967296:Nat)%2^s=0:=by rw[<- zjh (s:=s) (by omega),Nat.mul_mod_right]
   obtain⟨p,hp⟩:=Nat.dvd_of_mod_eq_zero hlow
   obtain⟨q,hq⟩:=Nat.dvd_of_mod_eq_zero h2
   have hpq:p<q:=by
    rcases yau p q with g | g
    ·exact g
    ·have:=ybv (2^s) g;omega
   have:=ybv (2^s) (show p+1<=q from hpq)
   rw[ybm]at this;omega
  have hhigh:x*2^s / 4294967296<2^s:=ycu (by omega)
  have hlen0:((P++[c])++List.replicate (k+1) 0).length=l.length+1:=by simp;omega
  have g3a:=cS qF (b:=b) (n:=l.length+1) (cap:=l.length+1) (j:=i) (by omega)
  have g3b:=cS qF (b:=b) (n:=l.length+1) (cap:=l.length+1) (j:=i+1) (by omega)
  have g4:=ho.load (j:=i) (x:=c) (by rw[ybz,ybp (by omega),hP,Nat.sub_self];rfl) zG rfl
  obtain⟨t1,s1,s2,s3⟩:=ho.store (C:=yA) hbase (j:=i) (by rw[hlen0];omega) (x*2^s%4294967296+c) zG rfl
  have hs2:((P++[c])++List.replicate (k+1) 0).set i (x*2^s%4294967296+c)=(P++[x*2^s%4294967296+c])++List.replicate (k+1) 0:=by
   rw[ybz,set_append_right hP];simp
  rw[hs2]at s2;obtain⟨t2,s4,s5,s6⟩:=s2.store (C:=yA) hbase (j:=i+1) (by simp;omega) (x*2^s / 4294967296) zG rfl
  have hs5:((P++[x*2^s%4294967296+c])++List.replicate (k+1) 0).set (i+1) (x*2^s / 4294967296)=((P++[x*2^s%4294967296+c])++[x*2^s / 4294967296])++List.replicate k 0:=by
   have hq:(P++[x*2^s%4294967296+c]).length=i+1:=by simp[hP]
   rw[<- hq];exact wX
  rw[hs5]at s5;refine z38 _ _ _ _ _ ?_
  have e1:tA .u32 ((x*2^s:Nat):Int)=((x*2^s%4294967296:Nat):Int):=by rw[yM];omega
  have e2:tA .u32 (Int.fdiv ((x*2^s:Nat):Int) 4294967296)=((x*2^s / 4294967296:Nat):Int):=by
   rw[show Int.fdiv ((x*2^s:Nat):Int) 4294967296=((x*2^s / 4294967296:Nat):Int) from mO _ 4294967296]
   generalize x*2^s=z at hhigh ⊢
   rw[yQ (by omega) (by omega)]
  simp (disch:=omega) only[zun,pA,iD,g1,g2,sA,qB,gE,g3a,g4]
  rw[yab (by omega),zpw (by omega) hxs2]
  simp only[sA,qB,e1];have e3:zH Nat.lor .u32 (c:Int) ((x*2^s%4294967296:Nat):Int)=some (.int .u32 ((x*2^s%4294967296+c:Nat):Int)):=by
   rw[oO (k:=.u32) (x:=c) (y:=x*2^s%4294967296) (show c<nF .u32 by show c<4294967296;omega) (by show x*2^s%4294967296<4294967296;exact ycy _ (by decide)),hlor]
  rw[e3];simp only[sA,qB];intro _ _ _;rw[s1];simp (disch:=omega) only[sA,wrap_i64]
  rw[show(i:Int)+1=((i+1:Nat):Int) by omega,g3b]
  simp only[sA,e2];intro _ _ _;rw[s4];simp only[sA];refine ih (i+1) t2 _ _ (by omega) ((ht.off hb s3).off hb s6) ((hoff.trans s3).trans s6) s5 (by simp[hP]) hhigh (xS hPl hsum) ?_
  rw[gK,hP,wR hx,gK,ybo,<- hval];have:(l.take i).length=i:=by simp;omega
  rw[this,yag];have hd:=ych (x*2^s) 4294967296
  have e4:4294967296^i*x*2^s=4294967296^i*(4294967296*(x*2^s / 4294967296)+x*2^s%4294967296):=by rw[hd,ybj]
  rw[e4,ybm,ybm];have e5:4294967296^i*4294967296*(x*2^s / 4294967296)=4294967296^i*(4294967296*(x*2^s / 4294967296)):=by rw[ybj]
  rw[e5];omega
def zfd{l:List Nat}{v:zA}{s:Nat}{Q:bB}(hv:lA t 1 (sB .u32 l) v)(hl:l.length<900000)(hlt:tB 4294967296 l)(hs:s<32)
  (hQ:∀t' b r,dA t t'->t.get b=none->yA.base<=b->yF t' b .u32 r->r.length=l.length+1->tB 4294967296 r->val 4294967296 r=val 4294967296 l*2^s->Q (.slice b 0 (l.length+1) (l.length+1)) t'):Wc yA F 215 [v,.int .i64 s] t Q:=by
 refine w215 _ _ ?_
 simp (disch:=omega) only[t215,pA,hv.len,sA,qB,iE,wrap_i64]
 intro b hb hbase;obtain⟨t',g1,g2,g3,g4⟩:=oU (C:=yA) (k:=.u32) vL rfl zG rfl rfl (by decide) (n:=l.length+1) (by omega) hb
 rw[show(l.length:Int)+1=((l.length+1:Nat):Int) by omega,g1]
 simp only[sA];have:=zi1 hv hl hlt hs hbase hb (fun t' r a _ c d e f=>hQ t' b r a hb hbase c d e f) l.length 0 t' [] 0 (by omega) g3 g4 (by simpa[List.replicate_succ]using g2) rfl (Nat.pow_pos (by decide)) (fun x hx=>by cases hx) (by simp[val])
 exact this
def znh{l:List Nat}{v:zA}{b d:Nat}{Q:bB}(hv:lA t 1 (sB .u32 l) v)(hl:l.length<900000)(hlt:tB 4294967296 l)(hd:d<4294967296)(hd0:0<d)(hbase:yA.base<=b)(hb:t.get b=none)
  (hQ:∀t' v' q r,dA t t'->lA t' 1 (sB .u32 (pE q)) v'->tB 4294967296 q->q.length=l.length->r<d->val 4294967296 l=val 4294967296 q*d+r->Q (.tup [v',.int .u32 (r:Nat)]) t') :
  ∀(i:Nat) (t':Tr qA) (q:List Nat) (r:Nat),i<=l.length->dA t t'->yF t' b .u32 (List.replicate i 0++q)->q.length=l.length-i->tB 4294967296 q->r<d->val 4294967296 (l.drop i)=val 4294967296 q*d+r →
  jp 152 2 [v,.int .u32 d,.slice b 0 l.length l.length,.int .u32 r,.int .i64 ((i:Int)-1)] t' Q:=by
 intro i;induction i with
 | zero=>
  intro t' q r _ ht ho hq hql hr hval;refine z4g _ _ _ _ _ ?_
  simp only[zuy,pA,jG];rw[yaa (by omega)]
  rw[List.replicate_zero,yah]at ho;have hread:=ho.all (ybk _)
  have hqlen:q.length=l.length:=by omega
  rw[hqlen]at hread;obtain⟨v',h1,h2⟩:=kS (l:=q) (by omega) hread
  simp only[q174,h1,sA];exact hQ t' v' q r ht h2 hql hqlen hr (by simpa using hval)
 | succ i ih=>
  intro t' q r hi ht ho hq hql hr hval;obtain⟨x,hx⟩:=getElem?_of_lt (l:=l) (i:=i) (by omega)
  have hxlt:x<4294967296:=aH hlt hx
  obtain⟨c,off,g1,g2⟩:=(hv.mono ht).idx qF hx
  have e1:((i+1:Nat):Int)-1=(i:Int):=by omega
  have g3:=cS qF (b:=b) (n:=l.length) (cap:=l.length) (j:=i) (by omega)
  have hlen0:(List.replicate (i+1) 0++q).length=l.length:=by simp;omega
  have hdiv:=z2d (t:=t') hr hxlt hd
  have hqlt:(r*4294967296+x) / d<4294967296:=zrg hr hxlt
  have hrlt:(r*4294967296+x)%d<d:=ycy _ hd0
  obtain⟨t1,s1,s2,s3⟩:=ho.store (C:=yA) hbase (j:=i) (by rw[hlen0];omega) ((r*4294967296+x) / d) zG rfl
  have hs2:(List.replicate (i+1) 0++q).set i ((r*4294967296+x) / d)=List.replicate i 0++((r*4294967296+x) / d::q):=by
   rw[List.replicate_succ',ybz,set_append_right (by simp)];rfl
  rw[hs2]at s2;rw[e1];refine z4g _ _ _ _ _ ?_
  simp (disch:=omega) only[zuy,pA,jG,g1,g2,sA,qB,q173,hdiv,zD,zA.asTup,vA,g3,wrap_i64]
  rw[yab (by omega)]
  simp only[oF,yaz,yba,sA,qB];intro _ _ _;rw[s1];simp only[sA];refine ih t1 _ _ (by omega) (ht.off hb s3) s2 (by simp;omega) ?_ hrlt ?_
  ·intro y hy
   rcases ybs.1 hy with rfl | hy
   ·exact hqlt
   ·exact hql y hy
  ·rw[iL hx]
   simp only[val];rw[hval];have hd1:=ych (r*4294967296+x) d
   rw[ybo,ybm,ybj];rw[ybh ((r*4294967296+x) / d) d]
   rw[ybh 4294967296 r];omega
def zkh{l:List Nat}{v:zA}{d:Nat}{Q:bB}(hv:lA t 1 (sB .u32 l) v)(hl:l.length<900000)(hlt:tB 4294967296 l)(hd:d<4294967296)(hd0:0<d)
  (hQ:∀t' v' q r,dA t t'->lA t' 1 (sB .u32 (pE q)) v'->tB 4294967296 q->q.length=l.length->r<d->val 4294967296 l=val 4294967296 q*d+r->Q (.tup [v',.int .u32 (r:Nat)]) t'):Wc yA F 152 [v,.int .u32 d] t Q:=by
 refine w152 _ _ ?_
 simp (disch:=omega) only[t152,pA,hv.len,sA,qB,iE,wrap_i64]
 intro b hb hbase;obtain⟨t',g1,g2,g3,g4⟩:=oU (C:=yA) (k:=.u32) vL rfl zG rfl rfl (by decide) (n:=l.length) (by omega) hb
 rw[g1];simp only[sA];exact znh hv hl hlt hd hd0 hbase hb hQ l.length t' [] 0 (ybk _) g3 (by simpa using g2) (by simp) (fun x hx=>by cases hx) hd0 (by simp[val])
end
section
variable [jC]
def zyc{l:List Nat}{y:zA}{box:Nat}{v:zA}{Q:bB}{I:Nat->Tr qA->Prop}(hl:l.length<1000000)
  (hr:∀k t,I k t->mA yA 200 ⟨0,t⟩ (.ptr box 0)=some v/\lA t 1 (sB .u32 l) v)
  (hy:∀k x t,l[k]?=some x->I (k+1) t->∀R:bB,(∀t',I k t'->R (.bool true) t')->cD (mN y [.int .u32 (x:Nat)]) fun p=>Wq yA F lI p.1 p.2 t R)
  (hQ:∀t,I 0 t->Q (.tup []) t):∀(k:Nat) (t:Tr qA),k<=l.length->I k t->jp 175 2 [y,.ptr box 0,.int .i64 ((k:Int)-1)] t Q:=by
 intro k;induction k with
 | zero=>
  intro t _ h;refine z4f _ _ _ ?_
  simp only[zux,pA,jG];rw[yaa (by omega)]
  exact hQ t h
 | succ k ih=>
  intro t hk h;obtain⟨g0,hv⟩:=hr _ _ h
  obtain⟨x,hx⟩:=getElem?_of_lt (l:=l) (i:=k) (by omega)
  obtain⟨c,off,g1,g2⟩:=hv.idx qF hx
  have e1:((k+1:Nat):Int)-1=(k:Int):=by omega
  rw[e1];refine z4f _ _ _ ?_
  simp (disch:=omega) only[zux,pA,jG,g0,g1,g2,sA,qB,wrap_i64]
  rw[yab (by omega)]
  refine hy k x t hx h _ fun t' ht'=>?_
  simp only[zA.asBool,sA,Bool.not_true];rw[yaa (by simp)]
  exact ih t' (by omega) ht'
def z6z{l:List Nat}{y:zA}{box:Nat}{v:zA}{Q:bB}{t:Tr qA}{I:Nat->Tr qA->Prop}(hl:l.length<1000000)
  (hr:∀k t,I k t->mA yA 200 ⟨0,t⟩ (.ptr box 0)=some v/\lA t 1 (sB .u32 l) v)
  (hy:∀k x t,l[k]?=some x->I (k+1) t->∀R:bB,(∀t',I k t'->R (.bool true) t')->cD (mN y [.int .u32 (x:Nat)]) fun p=>Wq yA F lI p.1 p.2 t R)
  (hQ:∀t,I 0 t->Q (.tup []) t) (h:I l.length t):Wc yA F 175 [y,.ptr box 0] t Q:=by
 obtain⟨g0,hv⟩:=hr _ _ h
 refine w175 _ _ ?_
 simp (disch:=omega) only[t175,pA,g0,hv.len,iE,sA,qB,wrap_i64]
 exact zyc hl hr hy hQ l.length t (ybk _) h
end
end Go.Proofs
namespace Go.Am
open Go Go.RowKit
section
variable {t tf:Tr qA}{C:oA}
def fI{n:Nat}(hn:t.get n=none)(q:qA):dA t (t.set n q)/\lD n t (t.set n q):=
 ⟨fun c u hc=>by rw[Tr.get_set,yaa (by intro e;rw[e,hn]at hc;cases hc)];exact hc,fun c hc=>by rw[Tr.get_set,yaa hc]⟩
def zso{sz n:Nat}{cl:List (List zA)}{t':Tr qA}{lo:Option Lo}(hl:∀(i:Nat) cs,cl[i]?=some cs->cs.length=sz)(h:t'.get n=some (.cells (Tr.ofList cl.flatten) (aA cl.flatten) lo))(hlo:lo=none\/∃x,lo=some x/\x.es=sz){k:Nat}(hk:cl.length=k):elems t' sz (.slice n 0 k k) cl:=by
 subst hk;exact yY hl h hlo
def zjv{T el sz n:Nat}{y z:uC}{ps:List (Nat × zA)}{cl:List (List zA)}(hT:C.tys.get T=some y)(hel:y.desc.asSlice=some el)(hz:C.tys.get el=some z)(hs:z.size=sz)(h0:aA z.zero=sz)(hn:n*sz<1000000)
  (hfill:kL (fun i=>some (i*sz,sz)) ps (dI z.zero n)=some cl.flatten) (hcl:∀(i:Nat) cs,cl[i]?=some cs->cs.length=sz) (hlen:cl.length=n) {b:Nat} (hb:t.get b=none) :
  ∃t',dG C T n ps ⟨b,t⟩=some (.slice b 0 n n,⟨b+1,t'⟩)/\elems t' sz (.slice b 0 n n) cl/\dA t t'/\lD b t t':=by
 refine⟨t.set b (.cells (Tr.ofList cl.flatten) (aA cl.flatten) none),?_,zso hcl (by rw[Tr.get_set,yab rfl]) (.inl rfl) hlen,(fI hb _).1,(fI hb _).2⟩
 unfold dG;rw[hT,vA,hel,vA,hz,vA];have:(Nat.blt (n*z.size) 1000000&&Nat.beq (aA z.zero) z.size)=true:=by
  rw[hs,h0,dB.2 hn,pB.2 rfl];rfl
 rw[this,qD,hs,hfill];rfl
def bF(cd:Lo)(base:Nat)(tf t:Tr qA)(sz:Nat)(l:List D)(v:zA):Prop:=
 (v=.nilslice/\l=[])\/∃b cl c,v=.slice b 0 l.length l.length/\base<=b/\tf.get b=none/\t.get b=some (.cells c (l.length*sz) (some cd)) ∧
  (∀(i:Nat) cs,cl[i]?=some cs->cs.length=sz/\∀(j:Nat) a,cs[j]?=some a->c.get (i*sz+j)=some a)/\oC tf l cl
abbrev Loose(base:Nat)(tf t:Tr qA)(sz:Nat)(l:List D)(v:zA):Prop:=bF (.sz sz) base tf t sz l v
def pJ(v:zA)(b:Nat):Prop:=∃o n c,v=.slice b o n c
def zdq{b:Nat}:¬ pJ .nilslice b:=fun⟨_,_,_,h⟩=>by cases h
def oP{b c o n k:Nat}:pJ (.slice b o n k) c ↔ c=b:=⟨fun⟨_,_,_,h⟩=>by cases h;rfl,fun h=>by subst h;exact⟨_,_,_,rfl⟩⟩
def bF.read{cd:Lo}{base sz:Nat}{l:List D}{v:zA}(hcd:cd.es=sz)(h:bF cd base tf t sz l v)(ht:dA tf t):lA t sz l v:=by
 rcases h with⟨rfl,rfl⟩ | ⟨b,cl,c,rfl,_,_,h1,h2,h3⟩
 ·exact⟨[],.inl ⟨rfl,rfl⟩,dF.2 rfl⟩
 ·have hlen:=h3.length
  refine⟨cl,.inr ⟨b,0,l.length,by rw[hlen],by omega,⟨c,_,_,h1,.inr ⟨_,rfl,hcd⟩⟩,fun i cs hi=>⟨(h2 i cs hi).1,c,_,_,h1,fun j a hj=>?_⟩⟩,oC.mono ht _ _ h3⟩
  rw[ybw];exact(h2 i cs hi).2 j a hj
def bF.len{cd:Lo}{base sz:Nat}{l:List D}{v:zA}(h:bF cd base tf t sz l v):yC v=some (.int .i64 (l.length:Int)):=by
 rcases h with⟨rfl,rfl⟩ | ⟨b,cl,c,rfl,_⟩
 ·rfl
 ·rfl
def bF.none{cd:Lo}{base sz:Nat}{l:List D}{v:zA}(h:bF cd base tf t sz l v){b:Nat}(hb:pJ v b):tf.get b=none/\base<=b/\∃y,t.get b=some y:=by
 rcases h with⟨rfl,rfl⟩ | ⟨c,cl,x,rfl,h1,h2,h3,_⟩
 ·exact absurd hb zdq
 ·rw[oP]at hb;subst hb;exact⟨h2,h1,_,h3⟩
def zai{T U el sz:Nat}{cd:Lo}(hT:ztc C T el sz)(hU:∃u,C.tys.get U=some u/\Nat.beq u.desc.tag 1=false)(hcd:∀z,C.tys.get el=some z->qH el z=cd){l m:List D}{v x:zA}{cm:List (List zA)}(hv:bF cd C.base tf t sz l v)(hall:∀(i:Nat) cs,cm[i]?=some cs->cs.length=sz)(hx:∀n,oN ⟨n,t⟩ sz cm.length x=some cm.flatten/\qR x=some cm.length)(hm:oC tf m cm)(hone:∀a∈cm.flatten,zA.one a=true)(hpos:0<m.length)(hl:l.length+m.length<400000){n:Nat}(hn:t.get n=none)(hbase:C.base<=n)(ht:dA tf t) :
  ∃t',bE C T U v x ⟨n,t⟩=some (.slice n 0 (l.length+m.length) (l.length+m.length),⟨n+1,t'⟩)/\bF cd C.base tf t' sz (l++m) (.slice n 0 (l.length+m.length) (l.length+m.length))/\dA tf t'/\(∀c,c≠n->¬ pJ v c->t'.get c=t.get c):=by
 obtain⟨⟨y,hy1,hy2,hy3⟩,⟨z,hz1,hz2,hz3,hz4,hz5⟩⟩:=hT
 have hcode:=hcd z hz1
 have hcm:=hm.length
 obtain⟨hf,hlen⟩:=hx n
 obtain⟨u,hu1,hu2⟩:=hU
 have hflat:=zbv hall
 have hfl:aA cm.flatten=cm.length*sz:=by rw[gC];exact hflat
 have hfn:tf.get n=none:=by
  cases hq:tf.get n with
  | none=>rfl
  | some u=>rw[ht _ _ hq]at hn;cases hn
 have base:bE C T U v x ⟨n,t⟩=(match v.asSlice with
  | some s=>bif Nat.ble (s.2.2.1+cm.length) s.2.2.2 then lQ C ⟨n,t⟩ z cm.length cm.flatten s else nO C ⟨n,t⟩ el z cm.length cm.flatten s
  | none=>jA (Nat.beq v.tag 5) (cJ ⟨n,t⟩ el z cm.length cm.flatten)):=by
  unfold bE gO;rw[hy1,vA,hu1,vA,hu2];simp only[ycl,qD];rw[hy2,vA,hz1,vA,hlen,vA,hz2,hf,vA];rfl
 have ok:lL z l.length l.length cm.length cm.flatten=true:=by
  unfold lL;have h1:Nat.blt (l.length+cm.length+l.length) 1000000000=true:=dB.2 (by omega)
  have h2:Nat.blt ((l.length+cm.length+l.length)*z.bytes) 1000000000=true:=dB.2 (by
   have:=ydb (show l.length+cm.length+l.length<=800000 by omega) hz4
   omega)
  have h3:Nat.blt z.bytes 1000000000=true:=dB.2 (by omega)
  have h4:(!Nat.beq z.size 0)=true:=by
   cases hq:Nat.beq z.size 0 with
   | true=>have:=pB.1 hq;omega
   | false=>rfl
  have h5:Nat.beq (aA cm.flatten) (cm.length*z.size)=true:=by rw[hfl,hz2];exact pB.2 rfl
  have h6:Nat.beq (aA z.zero) z.size=true:=by rw[hz3,hz2];exact pB.2 rfl
  rw[h1,h2,h3,h4,h5,h6];rfl
 rcases hv with⟨rfl,rfl⟩ | ⟨b,cl,c,rfl,hb0,hb1,hb2,hb3,hb4⟩
 ·refine⟨t.set n (.cells (Tr.ofList cm.flatten) (aA cm.flatten) (some cd)),?_,.inr ⟨n,cm,Tr.ofList cm.flatten,by simp,hbase,hfn,?_,fun i cs hi=>⟨hall i cs hi,fun j a hj=>?_⟩,by simpa using hm⟩,?_,fun c hc _=>(fI hn _).2 c hc⟩
  ·rw[base]
   simp only[zA.asSlice];show jA true (cJ ⟨n,t⟩ el z cm.length cm.flatten)=_
   rw[qD];unfold cJ;have:Nat.beq cm.length 0=false:=by
    cases hq:Nat.beq cm.length 0 with
    | true=>have:=pB.1 hq;omega
    | false=>rfl
   have ok:lL z 0 0 cm.length cm.flatten=true:=ok
   rw[this,cond_false,ok,qD,hcm,hcode];simp only[ybx,ybw];rfl
  ·rw[Tr.get_set,yab rfl,hfl,hcm];simp
  ·rw[Tr.get_ofList];exact iR hall i j cs a hi hj
  ·exact ht.trans (fI hn _).1
 ·have hcl:=hb4.length
  have hbn:b≠n:=by intro e;rw[e,hn]at hb2;cases hb2
  refine⟨(t.del b).set n (.cells (c.setMany cm.flatten (l.length*z.size)) ((l.length+cm.length)*z.size) (some cd)),?_,.inr ⟨n,cl++cm,c.setMany cm.flatten (l.length*z.size),by simp,hbase,hfn,?_,fun i cs hi=>?_,?_⟩,fun k u hk=>?_,fun k hk1 hk2=>?_⟩
  ·rw[base]
   simp only[zA.asSlice];have:Nat.ble (l.length+cm.length) l.length=false:=by
    cases hq:Nat.ble (l.length+cm.length) l.length with
    | true=>have:=vE.1 hq;omega
    | false=>rfl
   rw[this,cond_false];unfold nO;simp only[];rw[show ∀x,(!(Nat.beq 0 1&&x))=true from fun _=>rfl,qD,ok,qD]
   unfold fC;rw[hb2,vA];simp only[qA.asCells,vA];unfold bS;simp only[];have g1:loEq cd (qH el z)=true:=by rw[hcode];exact zmu.2 rfl
   have g2:Nat.ble (l.length*z.size) (l.length*sz)=true:=vE.2 (by rw[hz2];exact ybk _)
   have g3:Nat.ble (l.length*sz) ((l.length+cm.length)*z.size)=true:=vE.2 (by rw[hz2];exact ybi _ (by omega))
   have g4:tC zA.one cm.flatten=true:=by rw[cG];exact ycb.2 hone
   have g5:(!Nat.blt b C.base)=true:=by
    cases hq:Nat.blt b C.base with
    | true=>have:=dB.1 hq;omega
    | false=>rfl
   rw[g1,g2,g3,g4,g5];simp only[hz2,hcm];rfl
  ·rw[Tr.get_set,yab rfl,hz2,hcm,ybg]
  ·rw[List.getElem?_append]at hi
   split at hi
   ·rename_i hlt
    obtain⟨k1,k2⟩:=hb3 i cs hi
    refine⟨k1,fun j a hj=>?_⟩
    have hjl:j<sz:=by rw[<- k1];exact(ybc.1 hj).1
    have:i*sz+j<l.length*sz:=by
     have:=ybi sz (show i+1<=l.length by omega)
     rw[ybo]at this;omega
    rw[Tr.get_setMany,hz2,yaa (by omega)]
    exact k2 j a hj
   ·rename_i hge
    have k1:=hall _ cs hi
    refine⟨k1,fun j a hj=>?_⟩
    have hf1:=iR hall _ j cs a hi hj
    have hlt:=(ybc.1 hf1).1
    have e:i*sz=l.length*sz+(i-cl.length)*sz:=by rw[<- ybo];congr 1;omega
    rw[Tr.get_setMany,hz2,yab (by omega),show i*sz+j-l.length*sz=(i-cl.length)*sz+j by omega]
    exact hf1
  ·have app:∀ {l m:List D} {cl cm:List (List zA)},oC tf l cl->oC tf m cm->oC tf (l++m) (cl++cm):=by
    intro l;induction l with
    | nil=>intro m cl cm h k;rw[dF]at h;subst h;exact k
    | cons d l ih=>
     intro m cl cm h k;rw[lE]at h;obtain⟨c,r,rfl,h1,h2⟩:=h
     exact lE.2 ⟨c,r++cm,rfl,h1,ih h2 k⟩
   exact app hb4 hm
  ·have h1:k≠b:=by intro e;rw[e,hb1]at hk;cases hk
   have h2:k≠n:=by intro e;rw[e,hfn]at hk;cases hk
   rw[Tr.get_set,yaa h2,Tr.get_del,yaa h1];exact ht _ _ hk
  ·rw[Tr.get_set,yaa hk1,Tr.get_del,yaa (fun e=>hk2 (oP.2 e))]
def zia{T el sz:Nat}{cd:Lo}(hT:ztc C T el sz)(hcd:∀z,C.tys.get el=some z->qH el z=cd){l m:List D}{v x:zA}{cm:List (List zA)}(hv:bF cd C.base tf t sz l v)(hx:elems t sz x cm)(hm:oC tf m cm)(hone:∀a∈cm.flatten,zA.one a=true)(hpos:0<m.length)(hl:l.length+m.length<400000){n:Nat}(hn:t.get n=none)(hbase:C.base<=n)(ht:dA tf t) :
  ∃t',bE C T T v x ⟨n,t⟩=some (.slice n 0 (l.length+m.length) (l.length+m.length),⟨n+1,t'⟩)/\bF cd C.base tf t' sz (l++m) (.slice n 0 (l.length+m.length) (l.length+m.length))/\dA tf t'/\(∀c,c≠n->¬ pJ v c->t'.get c=t.get c):=by
 obtain⟨y,hy1,hy2,hy3⟩:=hT.ty
 exact zai hT ⟨y,hy1,hy3⟩ hcd hv hx.len (fun n=>hx.first (n:=n)) hm hone hpos hl hn hbase ht
def bF.freeze{cd:Lo}{base sz:Nat}{l:List D}{v:zA}(hcd:cd.es=sz)(h:bF cd base tf t sz l v)(ht:dA tf t):∃tf',dA tf tf'/\dA tf' t/\lA tf' sz l v/\∀b,¬ pJ v b->tf'.get b=tf.get b:=by
 rcases h with⟨rfl,rfl⟩ | ⟨b,cl,c,rfl,h0,h1,h2,h3,h4⟩
 ·exact⟨tf,dA.refl _,ht,⟨[],.inl ⟨rfl,rfl⟩,dF.2 rfl⟩,fun _ _=>rfl⟩
 ·have hlen:=h4.length
  refine⟨tf.set b (.cells c (l.length*sz) (some cd)),(fI h1 _).1,fun k u hk=>?_,⟨cl,.inr ⟨b,0,l.length,by rw[hlen],by omega,⟨c,_,_,by rw[Tr.get_set,yab rfl],.inr ⟨_,rfl,hcd⟩⟩,fun i cs hi=>⟨(h3 i cs hi).1,c,_,_,(by rw[Tr.get_set,yab rfl]),fun j a hj=>?_⟩⟩,oC.mono (fI h1 _).1 _ _ h4⟩,fun k hk=>by rw[Tr.get_set,yaa (fun e=>hk (oP.2 e))]⟩
  ·rw[Tr.get_set]at hk
   split at hk
   ·rename_i e;subst e;cases hk;exact h2
   ·exact ht _ _ hk
  ·rw[ybw];exact(h3 i cs hi).2 j a hj
end
end Go.Am
namespace Go.Am
open Go Go.RowKit
section
def vD (t:Tr qA)(b:Nat)(lo:Option Lo)(cs:List zA):Prop:=∃c,t.get b=some (.cells c cs.length lo)/\∀(j:Nat) a,cs[j]?=some a->c.get j=some a
def dN(cs:List zA)(j:Nat)(l:List zA):List zA:=cs.take j++(l++cs.drop (j+l.length))
def zvx{cs l:List zA}{j:Nat}(h:j+l.length<=cs.length):(dN cs j l).length=cs.length:=by
 unfold dN;simp;omega
def zjm{cs l:List zA}{j:Nat}(h:j+l.length<=cs.length)(k:Nat):(dN cs j l)[k]?=if j<=k/\k<j+l.length then l[k-j]? else cs[k]?:=by
 have ht:(cs.take j).length=j:=by simp;omega
 unfold dN;rw[List.getElem?_append,ht];split
 ·rename_i h1
  rw[yaa (by omega),ydf,yab h1]
 ·rename_i h1
  rw[List.getElem?_append];split
  ·rw[yab (by omega)]
  ·rw[yaa (by omega),yde];congr 1;omega
section
variable {t tf:Tr qA}{C:oA}{b:Nat}{lo:Option Lo}{cs:List zA}
def vD.at(h:vD t b lo cs):At t b 0 cs:=by
 obtain⟨c,h1,h2⟩:=h
 exact⟨c,_,_,h1,fun j a hj=>by rw[ybw];exact h2 j a hj⟩
def vD.off(h:vD t b lo cs){t':Tr qA}(k:t'.get b=t.get b):vD t' b lo cs:=by
 obtain⟨c,h1,h2⟩:=h
 exact⟨c,by rw[k];exact h1,h2⟩
def vD.load1(h:vD t b lo cs){j:Nat}{a:zA}{ty:Nat}{y:uC}(hy:C.tys.get ty=some y)(ha:y.desc.isAgg=false)(hj:cs[j]?=some a):mA C ty ⟨0,t⟩ (.ptr b j)=some a:=by
 have:=h.at.load1 hy ha hj
 rw[ybw]at this;exact this
def vD.store(h:vD t b lo cs)(hb:C.base<=b){j T:Nat}{y:uC}{v:zA}(hT:C.tys.get T=some y)(hl:v.cells.length=y.size)(hj:j+v.cells.length<=cs.length)(hone:tC zA.one v.cells=true) :
  ∃t',(∀n,sC C T (.ptr b j) v ⟨n,t⟩=some (tD,⟨n,t'⟩))/\vD t' b lo (dN cs j v.cells)/\lD b t t':=by
 obtain⟨c,h1,h2⟩:=h
 refine⟨t.set b (.cells (c.setMany v.cells j) cs.length lo),fun n=>?_,⟨c.setMany v.cells j,?_,fun k a hk=>?_⟩,fun d hd=>by rw[Tr.get_set,yaa hd]⟩
 ·unfold sC
  rw[hT,vA];simp only[zA.asPtr,vA];have e1:Nat.beq (aA v.cells) y.size=true:=by rw[gC,hl];exact pB.2 rfl
  rw[e1,qD];unfold lH fC;have e2:(!Nat.blt b C.base)=true:=by
   cases hq:Nat.blt b C.base with
   | true=>have:=dB.1 hq;omega
   | false=>rfl
  rw[e2,qD,h1,vA];simp only[qA.asCells,vA];have e3:Nat.ble (j+aA v.cells) cs.length=true:=by rw[gC];exact vE.2 hj
  rw[e3,hone];rfl
 ·rw[Tr.get_set,yab rfl,zvx hj]
 ·rw[zjm hj]at hk
  rw[Tr.get_setMany];split
  ·rename_i e;rw[yab e]at hk;exact hk
  ·rename_i e;rw[yaa e]at hk;exact h2 k a hk
def vD.store1(h:vD t b lo cs)(hb:C.base<=b){j T:Nat}{y:uC}{v:zA}(hT:C.tys.get T=some y)(hs:y.size=1)(hv:v.cells=[v])(hone:zA.one v=true)(hj:j<cs.length) :
  ∃t',(∀n,sC C T (.ptr b j) v ⟨n,t⟩=some (tD,⟨n,t'⟩))/\vD t' b lo (cs.set j v)/\lD b t t':=by
 obtain⟨t',h1,h2,h3⟩:=h.store hb hT (v:=v) (j:=j) (by rw[hv,hs];rfl) (by rw[hv];exact hj) (by rw[hv];show(bif zA.one v then true else false)=true;rw[hone];rfl)
 refine⟨t',h1,?_,h3⟩
 have e:dN cs j v.cells=cs.set j v:=by
  rw[hv];apply List.ext_getElem?
  intro k;rw[zjm (by exact hj),ycw]
  by_cases e:j=k
  ·subst e;rw[yab (by simp),yab rfl,yab hj];simp
  ·rw[yaa (by simp;omega),yaa e]
 rw[e]at h2;exact h2
def sU{b:Nat}(hb:t.get b=none)(cs:List zA)(lo:Option Lo):∃t',bD ⟨b,t⟩ cs lo=⟨b+1,t'⟩/\vD t' b lo cs/\dA t t'/\lD b t t':=
 ⟨t.set b (.cells (Tr.ofList cs) (aA cs) lo),rfl,⟨Tr.ofList cs,by rw[Tr.get_set,yab rfl,gC],fun j a hj=>by rw[Tr.get_ofList];exact hj⟩,(fI hb _).1,(fI hb _).2⟩
def iT{b T:Nat}{y:uC}(hT:C.tys.get T=some y)(hb:t.get b=none):∃t',uM C T ⟨b,t⟩=some (.ptr b 0,⟨b+1,t'⟩)/\vD t' b none y.zero/\dA t t'/\lD b t t':=by
 obtain⟨t',h1,h2,h3,h4⟩:=sU hb y.zero none
 refine⟨t',?_,h2,h3,h4⟩
 unfold uM;rw[hT,vA,<- h1]
end
end
section
structure zF where
 blks:List Nat
 ok:Tr qA->Tr qA->Prop
 keep:∀ {tf t tf' t':Tr qA},ok tf t->dA tf tf'->(∀k∈blks,t'.get k=t.get k/\tf'.get k=none)->ok tf' t'
 live:∀ {tf t:Tr qA},ok tf t->∀k∈blks,∃y,t.get k=some y
structure wD (base:Nat) (tf t:Tr qA) (l:List zF):Prop where
 tle:dA tf t
 nodup:(l.flatMap zF.blks).Nodup
 ok:∀o∈l,o.ok tf t
 low:∀k∈l.flatMap zF.blks,base<=k/\tf.get k=none
def mF (v:zA):List Nat:=match v with | .slice b _ _ _=>[b] | _=>[]
def zW{v:zA}{k:Nat}:k∈mF v ↔ pJ v k:=by
 unfold mF pJ;split
 ·rename_i b o n c
  constructor
  ·intro h;rw[ydd]at h;subst h;exact⟨_,_,_,rfl⟩
  ·rintro⟨o',n',c',e⟩;cases e;simp
 ·rename_i h
  constructor
  ·intro h;cases h
  ·rintro⟨o,n,c,e⟩;exact absurd e (h _ _ _ _)
def dJ (b:Nat)(lo:Option Lo)(cs:List zA):zF where
 blks:=[b]
 ok:=fun _ t=>vD t b lo cs
 keep:=fun h _ k=>h.off (k b (by simp)).1
 live:=fun h k hk=>by rw[ydd]at hk;subst hk;obtain⟨c,hc,_⟩:=h;exact⟨_,hc⟩
section
variable {base:Nat}{tf t:Tr qA}{l A B:List zF}{o o':zF}
def wD.live(h:wD base tf t l){k:Nat}(hk:k∈l.flatMap zF.blks):∃y,t.get k=some y:=by
 obtain⟨o,ho,hk⟩:=List.mem_flatMap.1 hk
 exact o.live (h.ok o ho) k hk
def wD.fresh(h:wD base tf t l){n:Nat}(hn:t.get n=none):n∉l.flatMap zF.blks:=by
 intro hm;obtain⟨y,hy⟩:=h.live hm
 rw[hn]at hy;cases hy
def wD.tfn(h:wD base tf t l){n:Nat}(hn:t.get n=none):tf.get n=none:=by
 cases hq:tf.get n with
 | none=>rfl
 | some y=>have:=h.tle _ _ hq;rw[hn]at this;cases this
def wD.keep(h:wD base tf t l){tf' t':Tr qA}(hf:dA tf tf')(ht:dA tf' t')(hk:∀k∈l.flatMap zF.blks,t'.get k=t.get k/\tf'.get k=none):wD base tf' t' l:=
 ⟨ht,h.nodup,fun o ho=>o.keep (h.ok o ho) hf fun k hk'=>hk k (List.mem_flatMap.2 ⟨o,ho,hk'⟩),fun k hk'=>⟨(h.low k hk').1,(hk k hk').2⟩⟩
def wD.junk(h:wD base tf t l){n:Nat}{t':Tr qA}(hn:t.get n=none)(ho:lD n t t'):wD base tf t' l:=
 h.keep (dA.refl _) (h.tle.off (h.tfn hn) ho) fun k hk=>⟨ho k (fun e:k=n=>h.fresh hn (e ▸ hk)),(h.low k hk).2⟩
def rW:(A++o::B).flatMap zF.blks=A.flatMap zF.blks++(o.blks++B.flatMap zF.blks):=by simp
def wD.upd(h:wD base tf t (A++o::B)){t':Tr qA}(hk:∀k,k∉o.blks->k∉o'.blks->t'.get k=t.get k)(hn:∀k∈o'.blks,k∈o.blks\/(t.get k=none/\base<=k))(hok:o'.ok tf t')(hnd:o'.blks.Nodup)(ht:dA tf t'):wD base tf t' (A++o'::B):=by
 have hd:=h.nodup
 rw[rW]at hd;rw[List.nodup_append]at hd;obtain⟨d1,d2,d3⟩:=hd
 rw[List.nodup_append]at d2;obtain⟨d4,d5,d6⟩:=d2
 have oth:∀k,k∈A.flatMap zF.blks\/k∈B.flatMap zF.blks->k∉o.blks/\k∉o'.blks/\t'.get k=t.get k/\base<=k/\tf.get k=none:=by
  intro k hk';have hm:k∈(A++o::B).flatMap zF.blks:=by rw[rW];simp only[yaf];rcases hk' with h | h<;>simp[h]
  have h1:k∉o.blks:=fun hc=>by
   rcases hk' with h' | h'
   ·exact d3 k h' k (by simp[hc]) rfl
   ·exact d6 k hc k h' rfl
  have h2:k∉o'.blks:=fun hc=>by
   rcases hn k hc with h' | h'
   ·exact h1 h'
   ·obtain⟨y,hy⟩:=h.live hm
    rw[h'.1]at hy;cases hy
  exact⟨h1,h2,hk k h1 h2,h.low k hm⟩
 have mem:∀k,k∈(A++o'::B).flatMap zF.blks->(k∈A.flatMap zF.blks\/k∈B.flatMap zF.blks)\/k∈o'.blks:=by
  intro k hk';rw[rW]at hk'
  simp only[yaf]at hk'
  rcases hk' with h | h | h
  ·exact .inl (.inl h)
  ·exact .inr h
  ·exact .inl (.inr h)
 refine⟨ht,?_,fun p hp=>?_,fun k hk'=>?_⟩
 ·rw[rW,List.nodup_append]
  refine⟨d1,?_,fun x hx y hy e=>?_⟩
  ·rw[List.nodup_append]
   exact⟨hnd,d5,fun x hx y hy e=>(oth y (.inr hy)).2.1 (e ▸ hx)⟩
  ·subst e
   rcases yaf.1 hy with h' | h'
   ·exact(oth x (.inl hx)).2.1 h'
   ·exact d3 x hx x (by simp[h']) rfl
 ·have hp':p∈A\/p=o'\/p∈B:=by simpa using hp
  rcases hp' with h' | h' | h'
  ·exact p.keep (h.ok p (by simp[h'])) (dA.refl _) fun k hk'=>by
    obtain⟨_,_,e,_,f⟩:=oth k (.inl (List.mem_flatMap.2 ⟨p,h',hk'⟩));exact⟨e,f⟩
  ·subst h';exact hok
  ·exact p.keep (h.ok p (by simp[h'])) (dA.refl _) fun k hk'=>by
    obtain⟨_,_,e,_,f⟩:=oth k (.inr (List.mem_flatMap.2 ⟨p,h',hk'⟩));exact⟨e,f⟩
 ·rcases mem k hk' with h' | h'
  ·obtain⟨_,_,_,e,f⟩:=oth k h';exact⟨e,f⟩
  ·rcases hn k h' with h'' | h''
   ·exact h.low k (by rw[rW];simp[h''])
   ·exact⟨h''.2,h.tfn h''.1⟩
def z01:zF:=⟨[],fun _ _=>True,fun _ _ _=>trivial,fun _ _ h=>by cases h⟩
def wD.add(h:wD base tf t (A++B)){t':Tr qA}(hk:∀k,k∉o'.blks->t'.get k=t.get k)(hn:∀k∈o'.blks,t.get k=none/\base<=k)(hok:o'.ok tf t')(hnd:o'.blks.Nodup)(ht:dA tf t'):wD base tf t' (A++o'::B):=by
 have e:wD base tf t (A++z01::B):=by
  have hm:(A++z01::B).flatMap zF.blks=(A++B).flatMap zF.blks:=by simp[z01]
  refine⟨h.tle,by rw[hm];exact h.nodup,fun o ho=>?_,fun k hk=>h.low k (by rw[hm]at hk;exact hk)⟩
  have:o∈A\/o=z01\/o∈B:=by simpa using ho
  rcases this with h' | h' | h'
  ·exact h.ok o (by simp[h'])
  ·subst h';trivial
  ·exact h.ok o (by simp[h'])
 exact e.upd (fun k _ h2=>hk k h2) (fun k hk=>.inr (hn k hk)) hok hnd ht
end
end
section
section
variable {t tf:Tr qA}{C:oA}
def zky{T el sz:Nat}(hT:ztd C T el sz){l:List D}{x:zA}(hx:lA tf sz l x)(ht:dA tf t)(hl:l.length<1000000){n:Nat}(hn:t.get n=none) :
  ∃v k t' tf',bE C T T .nilslice x ⟨n,t⟩=some (v,⟨k,t'⟩)/\lA tf' sz l v/\dA tf tf'/\dA tf' t'/\dA t t'/\lD n t t'/\lD n tf tf':=by
 obtain⟨⟨y,hy1,hy2,hy3⟩,⟨z,hz1,hz2,hz3,hz4,hz5⟩,hnb⟩:=hT
 have hcode:=NB.code hnb hz1
 obtain⟨cl,he,hd⟩:=hx
 have hcl:=hd.length
 obtain⟨hf,hlen⟩:=(he.mono ht).first (n:=n)
 have hall:=he.len
 have base:bE C T T .nilslice x ⟨n,t⟩=cJ ⟨n,t⟩ el z cl.length cl.flatten:=by
  unfold bE gO;rw[hy1,vA,vA,hy3];simp only[ycl,qD];rw[hy2,vA,hz1,vA,hlen,vA,hz2,hf,vA];rfl
 have hfl:aA cl.flatten=cl.length*sz:=by rw[gC];exact zbv hall
 have ok:lL z 0 0 cl.length cl.flatten=true:=by
  unfold lL;have h1:Nat.blt (0+cl.length+0) 1000000000=true:=dB.2 (by omega)
  have h2:Nat.blt ((0+cl.length+0)*z.bytes) 1000000000=true:=dB.2 (by
   have:=ydb (show 0+cl.length+0<=1000000 by omega) hz4
   omega)
  have h3:Nat.blt z.bytes 1000000000=true:=dB.2 (by omega)
  have h4:(!Nat.beq z.size 0)=true:=by
   cases hq:Nat.beq z.size 0 with
   | true=>have:=pB.1 hq;omega
   | false=>rfl
  have h5:Nat.beq (aA cl.flatten) (cl.length*z.size)=true:=by rw[hfl,hz2];exact pB.2 rfl
  have h6:Nat.beq (aA z.zero) z.size=true:=by rw[hz3,hz2];exact pB.2 rfl
  rw[h1,h2,h3,h4,h5,h6];rfl
 have hfn:tf.get n=none:=by
  cases hq:tf.get n with
  | none=>rfl
  | some u=>rw[ht _ _ hq]at hn;cases hn
 by_cases h0:cl.length=0
 ·have:cl=[]:=ycc.1 h0
  subst this;refine⟨.nilslice,n,t,tf,?_,⟨[],.inl ⟨rfl,rfl⟩,hd⟩,dA.refl _,ht,dA.refl _,lD.refl _ _,lD.refl _ _⟩
  rw[base];rfl
 ·have hb:Nat.beq cl.length 0=false:=by
   cases hq:Nat.beq cl.length 0 with
   | true=>exact absurd (pB.1 hq) h0
   | false=>rfl
  refine⟨.slice n 0 cl.length cl.length,n+1,t.set n (.cells (Tr.ofList cl.flatten) (aA cl.flatten) (some (qH el z))),tf.set n (.cells (Tr.ofList cl.flatten) (aA cl.flatten) (some (qH el z))),?_,⟨cl,yY hall (by rw[Tr.get_set,yab rfl]) (.inr ⟨_,rfl,by rw[rT,hz2]⟩),oC.mono (fI hfn _).1 _ _ hd⟩,(fI hfn _).1,fun k u hk=>?_,(fI hn _).1,(fI hn _).2,(fI hfn _).2⟩
  ·rw[base]
   unfold cJ;rw[hb,cond_false,ok];rfl
  ·rw[Tr.get_set]at hk ⊢
   split at hk
   ·rename_i e;rw[yab e];exact hk
   ·rename_i e;rw[yaa e];exact ht _ _ hk
def zge(l:List Nat):List zA:=l.map fun(n:Nat)=>zA.int .u8 (n:Int)
def zsv{S Dt b k cap el:Nat}{cs:List zA}{lo:Option Lo}{l:List Nat}{yS yD yE:uC}(hS:C.tys.get S=some yS)(hD:C.tys.get Dt=some yD)(h1:yD.desc.asInt=none)(h2:yD.desc.isString=true)(h3:yS.desc.asSlice=some el)(h4:C.tys.get el=some yE)(h5:yE.desc.asInt=some .u8)
  (hc:vD t b lo cs) (hk:l.length=k) (hl:∀(j:Nat) x,l[j]?=some x->cs[j]?=some (.int .u8 (x:Int))) (hlt:tB 256 l):xK C S Dt ⟨0,t⟩ (.slice b 0 k cap)=some (.str l):=by
 obtain⟨c,g1,g2⟩:=hc
 unfold xK gL;rw[hS,vA,hD,vA,h1];simp only[];rw[h2,qD];have e1:Nat.beq (zA.slice b 0 k cap).tag 2=false:=rfl
 rw[e1,cond_false,h3,vA,h4,vA,h5,vA,nI.2 rfl,qD];unfold uT;simp only[zA.asSlice];unfold fC;rw[g1,vA];simp only[qA.asCells,vA]
 have hm:∀(l:List Nat) (off:Nat),(∀(j:Nat) x,l[j]?=some x->c.get (off+j)=some (.int .u8 (x:Int)))->c.many l.length off=some (zge l):=by
  intro l;induction l with
  | nil=>intro off _;rfl
  | cons x l ih=>
   intro off h;rw[ybn,Tr.many_succ];have:=h 0 x rfl
   rw[yct]at this;rw[this,vA,ih (off+1) (fun j y hj=>by rw[show off+1+j=off+(j+1) by omega];exact h (j+1) y (by simpa using hj)),vA]
   rfl
 subst hk;rw[hm l 0 (fun j x hj=>by rw[ybw];exact g2 _ _ (hl j x hj)),vA]
 have hb:∀(l:List Nat),tB 256 l->tF nN (zge l)=some l:=by
  intro l;induction l with
  | nil=>intro _;rfl
  | cons x l ih=>
   intro h;have e:nN (.int .u8 (x:Int))=some x:=by
    unfold nN;have e1:jI (x:Int)=some x:=rfl
    simp only[zA.asIntK,vA];rw[nI.2 rfl,qD,e1,vA,dB.2 (h x (by simp))];rfl
   show tF nN (.int .u8 (x:Int)::zge l)=_
   rw[pK,e,vA,ih fun y hy=>h y (by simp[hy]),vA]
 rw[hb l hlt,vA]
end
end
end Go.Am
namespace Go.Am
open Go
section
variable {C:oA}{t tf:Tr qA}
def fL(k:IntKind)(l:List Nat):List (List zA):=l.map fun(x:Nat)=>[zA.int k (x:Int)]
def tS{k:IntKind}:∀ {l:List Nat} {cl:List (List zA)},oC t (sB k l) cl ↔ cl=fL k l
 | [],cl=>by
  show oC t [] cl ↔ cl=[]
  exact dF
 | x::l,cl=>by
  show oC t (.int k (x:Int)::sB k l) cl ↔ cl=[.int k (x:Int)]::fL k l
  rw[lE];constructor
  ·rintro⟨c,r,rfl,h1,h2⟩
   rw[kN]at h1;rw[h1,tS.1 h2]
  ·rintro rfl
   exact⟨_,_,rfl,kN.2 rfl,tS.2 rfl⟩
def qY{k:IntKind}:∀(l:List Nat),(fL k l).flatten=l.map fun(x:Nat)=>zA.int k (x:Int)
 | []=>rfl
 | x::l=>by
  show [zA.int k (x:Int)]++(fL k l).flatten=_
  rw[qY l];rfl
def zgb{k:IntKind}{l:List Nat}:(fL k l).length=l.length:=by simp[fL]
def zsx{k:IntKind}{l:List Nat}(i:Nat)(cs:List zA)(h:(fL k l)[i]?=some cs):cs.length=1:=by
 unfold fL at h;rw[ybu]at h
 cases hx:l[i]? with
 | none=>rw[hx]at h;cases h
 | some x=>rw[hx]at h;cases h;rfl
def zns(l:List Nat)(h:tB 256 l):tF nN (zge l)=some l:=by
 induction l with
 | nil=>rfl
 | cons x l ih=>
  have e:nN (.int .u8 (x:Int))=some x:=by
   unfold nN;have e1:jI (x:Int)=some x:=rfl
   simp only[zA.asIntK,vA];rw[nI.2 rfl,qD,e1,vA,dB.2 (h x (by simp))];rfl
  show tF nN (.int .u8 (x:Int)::zge l)=_
  rw[pK,e,vA,ih fun y hy=>h y (by simp[hy]),vA]
def z2n{S Dt el:Nat}{l:List Nat}{v:zA}{yS yD yE:uC}(hS:C.tys.get S=some yS)(hD:C.tys.get Dt=some yD)(h1:yD.desc.asInt=none)(h2:yD.desc.isString=true)(h3:yS.desc.asSlice=some el)(h4:C.tys.get el=some yE)(h5:yE.desc.asInt=some .u8)
  (hv:lA t 1 (sB .u8 l) v) (hlt:tB 256 l):xK C S Dt ⟨0,t⟩ v=some (.str l):=by
 obtain⟨cl,g1,g2⟩:=hv
 rw[tS]at g2;subst g2;have hf:=(g1.first (n:=0)).1
 have htag:Nat.beq v.tag 2=false:=by
  rcases g1 with⟨rfl,_⟩ | ⟨b,off,cap,rfl,_⟩<;>rfl
 unfold xK gL;rw[hS,vA,hD,vA,h1];simp only[];rw[h2,qD,htag,cond_false,h3,vA,h4,vA,h5,vA,nI.2 rfl,qD];unfold uT;rcases g1 with⟨rfl,hn⟩ | ⟨b,off,cap,rfl,_⟩
 ·have:l=[]:=by
   have:=congrArg List.length hn
   rw[zgb]at this;exact ycc.1 this
  subst this;rfl
 ·unfold oN at hf
  simp only[zA.asSlice,Nat.mul_one]at hf ⊢
  rw[uA]at hf;obtain⟨c,hc,hf⟩:=hf
  rw[hc,vA,hf,vA,qY];have:=zns l hlt
  unfold zge at this;rw[this,vA]
def zsf{n k:Nat}{l:List Nat}(h:l.length=k):oN ⟨n,t⟩ 1 k (.str l)=some (fL .u8 l).flatten/\qR (.str l)=some k:=by
 subst h;constructor
 ·unfold oN
  simp only[zA.asSlice,zA.asStr];rw[qY,yO,List.take_length];rfl
 ·unfold qR
  simp only[zA.asSlice,zA.asStr,gC]
def zo7{k:IntKind}{l:List Nat}:∀a∈(fL k l).flatten,zA.one a=true:=by
 intro a ha;rw[qY]at ha;obtain⟨x,_,rfl⟩:=yaq.1 ha
 rfl
def zkl{k:IntKind}{l m:List Nat}:sB k (l++m)=sB k l++sB k m:=by simp[sB]
def zgh{T U el:Nat}{cd:Lo}(hT:ztc C T el 1)(hU:∃u,C.tys.get U=some u/\Nat.beq u.desc.tag 1=false)(hcd:∀z,C.tys.get el=some z->qH el z=cd){l m:List Nat}{v:zA}(hv:bF cd C.base tf t 1 (sB .u8 l) v)(hpos:m≠[])(hl:l.length+m.length<400000){n:Nat}(hn:t.get n=none)(hbase:C.base<=n)(ht:dA tf t) :
  ∃t',bE C T U v (.str m) ⟨n,t⟩=some (.slice n 0 (l.length+m.length) (l.length+m.length),⟨n+1,t'⟩)/\bF cd C.base tf t' 1 (sB .u8 (l++m)) (.slice n 0 (l.length+m.length) (l.length+m.length))/\dA tf t'/\(∀c,c≠n->¬ pJ v c->t'.get c=t.get c):=by
 have h0:0<m.length:=List.length_pos_iff.2 hpos
 obtain⟨t',h1,h2,h3,h4⟩:=zai hT hU hcd (l:=sB .u8 l) (m:=sB .u8 m) (x:=.str m) (cm:=fL .u8 m) hv zsx (fun n=>by rw[zgb];exact zsf rfl) (tS.2 rfl) zo7 (by rw[iE];exact h0) (by rw[iE,iE];exact hl) hn hbase ht
 rw[iE,iE]at h1 h2;rw[<- zkl]at h2;exact⟨t',h1,h2,h3,h4⟩
def zeb{T el:Nat}{cd:Lo}{k:IntKind}(hT:ztc C T el 1)(hcd:∀z,C.tys.get el=some z->qH el z=cd){l m:List Nat}{v x:zA}(hv:bF cd C.base tf t 1 (sB k l) v)(hx:lA t 1 (sB k m) x)(hpos:m≠[])(hl:l.length+m.length<400000){n:Nat}(hn:t.get n=none)(hbase:C.base<=n)(ht:dA tf t) :
  ∃t',bE C T T v x ⟨n,t⟩=some (.slice n 0 (l.length+m.length) (l.length+m.length),⟨n+1,t'⟩)/\bF cd C.base tf t' 1 (sB k (l++m)) (.slice n 0 (l.length+m.length) (l.length+m.length))/\dA tf t'/\(∀c,c≠n->¬ pJ v c->t'.get c=t.get c):=by
 have h0:0<m.length:=List.length_pos_iff.2 hpos
 obtain⟨cl,g1,g2⟩:=hx
 rw[tS]at g2;subst g2;obtain⟨t',h1,h2,h3,h4⟩:=zia hT hcd (l:=sB k l) (m:=sB k m) (x:=x) (cm:=fL k m) hv g1 (tS.2 rfl) zo7 (by rw[iE];exact h0) (by rw[iE,iE];exact hl) hn hbase ht
 rw[iE,iE]at h1 h2;rw[<- zkl]at h2;exact⟨t',h1,h2,h3,h4⟩
def zjt{cd:Lo}{base sz:Nat}:bF cd base tf t sz [] .nilslice:=.inl ⟨rfl,rfl⟩
def bF.keep'{cd:Lo}{base sz:Nat}{l:List D}{v:zA}{t':Tr qA}(h:bF cd base tf t sz l v)(hk:∀b,pJ v b->t'.get b=t.get b):bF cd base tf t' sz l v:=by
 rcases h with⟨rfl,rfl⟩ | ⟨b,cl,c,rfl,h0,h1,h2,h3,h4⟩
 ·exact .inl ⟨rfl,rfl⟩
 ·exact .inr ⟨b,cl,c,rfl,h0,h1,by rw[hk b (oP.2 rfl)];exact h2,h3,h4⟩
end
end Go.Am
namespace Go.Am
def kn_ge{B m U V head top u2 v2 ur vr:Nat}(hU:U=(head*B+u2)*B^m+ur)(hur:ur<B^m)(hu2:u2<B)(hV:V=(top*B+v2)*B^m+vr)(htop:0<top):U / V<=head / top:=by
 have hBm:0<B^m:=by omega
 rw[Nat.le_div_iff_mul_le htop];have h1:U / V*V<=U:=Nat.div_mul_le_self U V
 have h2:top*B*B^m<=V:=by
  rw[hV,ybo];omega
 have h3:U<(head+1)*B*B^m:=by
  have:head*B+u2+1<=(head+1)*B:=by rw[ybo];omega
  have:=ybi (B^m) this
  rw[hU];rw[ybo (head*B+u2) 1,Nat.one_mul]at this
  omega
 have h4:U / V*top*(B*B^m)<(head+1)*(B*B^m):=by
  calc U / V*top*(B*B^m)=U / V*(top*B*B^m):=by rw[ybj,ybj]
   _<=U / V*V:=ybv _ h2
   _<=U:=h1
   _<(head+1)*B*B^m:=h3
   _=(head+1)*(B*B^m):=by rw[ybj]
 exact Nat.lt_succ_iff.1 (Nat.lt_of_mul_lt_mul_right h4)
def kn_gt{B m U V head top u2 v2 ur vr d:Nat}(hU:U=(head*B+u2)*B^m+ur)(hur:ur<B^m)(hV:V=(top*B+v2)*B^m+vr)(h:head*B+u2<d*(top*B+v2)):U / V<d:=by
 rcases yau (U / V) d with g | g
 ·exact g
 ·exfalso
  have h1:U / V*V<=U:=Nat.div_mul_le_self U V
  have h2:d*V<=U:=Nat.le_trans (ybi _ g) h1
  have h3:d*(top*B+v2)*B^m<=d*V:=by rw[hV,ybj];exact ybv _ (Nat.le_add_right _ _)
  have h4:=ybi (B^m) (show head*B+u2+1<=d*(top*B+v2) from h)
  rw[ybo (head*B+u2) 1,Nat.one_mul]at h4
  omega
def kn_le{B m U V head top u2 v2 ur vr d:Nat}(hB:0<B)(hU:U=(head*B+u2)*B^m+ur)(hV:V=(top*B+v2)*B^m+vr)(hvr:vr<B^m)(htop:0<top)(hd:d<=B)(h:d*(top*B+v2)<=head*B+u2):d<=U / V+1:=by
 have hVpos:0<V:=by
  rw[hV];have:0<top*B+v2:=by have:=Nat.mul_pos htop hB;omega
  have:=Nat.mul_pos this (show 0<B^m by omega)
  omega
 rcases yau (U / V+1) d with g | g
 ·exfalso
  have h1:(d-1)*V<=U:=by
   have e1:d*V<=d*((top*B+v2)*B^m)+d*B^m:=by
    rw[hV,ybm];exact Nat.add_le_add_left (ybv _ (Nat.le_of_lt hvr)) _
   have e2:d*((top*B+v2)*B^m)<=(head*B+u2)*B^m:=by rw[<- ybj];exact ybi _ h
   have e3:d*B^m<=V:=by
    have:d*B^m<=top*B*B^m:=by
     refine ybi _ (Nat.le_trans hd ?_)
     exact yan _ htop
    rw[hV,ybo];omega
   rw[Nat.sub_mul,Nat.one_mul];omega
  have:=(Nat.le_div_iff_mul_le hVpos).2 h1
  omega
 ·exact g
def top2{B:Nat}(hB:0<B){l:List Nat}{m a b:Nat}(hlt:tB B l)(hl:l.length=m+2)(ha:l[m+1]?=some a)(hb:l[m]?=some b):val B l=(a*B+b)*B^m+val B (l.take m)/\val B (l.take m)<B^m:=by
 have e1:=oS B l m
 have hlen:(l.take m).length=m:=by simp;omega
 rw[hlen]at e1;have e2:l.drop m=[b,a]:=by
  rw[iL hb,iL ha,List.drop_of_length_le (by omega)]
 rw[e2]at e1;refine⟨?_,?_⟩
 ·rw[e1]
  simp only[val];rw[ybh (B^m),yat,yct,ybh B a]
  rw[yap b];omega
 ·have:=yK hB (cQ hlt m);rw[hlen]at this;exact this
def top3{B:Nat}(hB:0<B){l:List Nat}{m a b c:Nat}(hlt:tB B l)(hl:l.length=m+3)(ha:l[m+2]?=some a)(hb:l[m+1]?=some b)(hc:l[m]?=some c):val B l=((a*B+b)*B+c)*B^m+val B (l.take m)/\val B (l.take m)<B^m:=by
 have e1:=oS B l m
 have hlen:(l.take m).length=m:=by simp;omega
 rw[hlen]at e1;have e2:l.drop m=[c,b,a]:=by
  rw[iL hc,iL hb,iL ha,List.drop_of_length_le (by omega)]
 rw[e2]at e1;refine⟨?_,?_⟩
 ·rw[e1]
  simp only[val];rw[ybh (B^m),yat,yct]
  have e3:c+B*(b+B*a)=(a*B+b)*B+c:=by
   rw[ybm,ybo,ybh B b,ybh B (B*a),ybh B a]
   omega
  rw[e3];omega
 ·have:=yK hB (cQ hlt m);rw[hlen]at this;exact this
end Go.Am
