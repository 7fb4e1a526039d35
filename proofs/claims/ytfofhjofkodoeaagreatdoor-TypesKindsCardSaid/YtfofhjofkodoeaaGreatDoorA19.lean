/- Facts on types. (Printed by a tool.) -/
import Derived.Test.YtfofhjofkodoeaaGreatDoorA18
set_option linter.all false
noncomputable section
set_option maxRecDepth 100000
namespace Go.Proofs
open Go Go.Am
variable [lC]
theorem ty3:yA.tys.get 3=some ⟨(.int .i64),1,8,[.int .i64 0],true⟩:=by kernel_rfl
def ty4:yA.tys.get 4=some ⟨.bool,1,1,[.bool false],true⟩:=by kernel_rfl
theorem xI:yA.tys.get 5=some ⟨(.int .u8),1,1,[.int .u8 0],true⟩:=by kernel_rfl
theorem vL:yA.tys.get 9=some ⟨.string,1,16,[.str []],true⟩:=by kernel_rfl
def ty22:yA.tys.get 22=some ⟨(.slice 44),1,24,[.nilslice],true⟩:=by kernel_rfl
def ty23:yA.tys.get 23=some ⟨(.slice 49),1,24,[.nilslice],true⟩:=by kernel_rfl
def ty24:yA.tys.get 24=some ⟨(.slice 54),1,24,[.nilslice],true⟩:=by kernel_rfl
def ty26:yA.tys.get 26=some ⟨(.struct [(0,9,1),(1,22,1),(2,23,1),(3,24,1)]),4,88,[.str [],.nilslice,.nilslice,.nilslice],true⟩:=by kernel_rfl
def gU:yA.tys.get 27=some ⟨(.slice 240),1,24,[.nilslice],true⟩:=by kernel_rfl
def ty29:yA.tys.get 29=some ⟨(.struct [(0,4,1),(1,27,1)]),2,32,[.bool false,.nilslice],true⟩:=by kernel_rfl
def ty31:yA.tys.get 31=some ⟨(.struct [(0,29,2),(2,29,2)]),4,64,[.bool false,.nilslice,.bool false,.nilslice],true⟩:=by kernel_rfl
def ty34:yA.tys.get 34=some ⟨(.slice 36),1,24,[.nilslice],true⟩:=by kernel_rfl
def Dz:yA.tys.get 36=some ⟨(.struct [(0,5,1),(1,9,1),(2,33,6),(8,34,1)]),9,128,[.int .u8 0,.str [],.int .u8 0,.bool false,.nilslice,.bool false,.nilslice,.int .i64 0,.nilslice],true⟩:=by kernel_rfl
def Bj:yA.tys.get 44=some ⟨(.struct [(0,9,1),(1,5,1),(2,4,1)]),3,24,[.str [],.int .u8 0,.bool false],true⟩:=by kernel_rfl
def ty46:yA.tys.get 46=some ⟨(.slice 9),1,24,[.nilslice],true⟩:=by kernel_rfl
def ty47:yA.tys.get 47=some ⟨(.slice 52),1,24,[.nilslice],true⟩:=by kernel_rfl
def Bi:yA.tys.get 49=some ⟨(.struct [(0,9,1),(1,4,1),(2,47,1)]),3,48,[.str [],.bool false,.nilslice],true⟩:=by kernel_rfl
def ty52:yA.tys.get 52=some ⟨(.struct [(0,3,1),(1,3,1),(2,3,1),(3,31,4)]),7,88,[.int .i64 0,.int .i64 0,.int .i64 0,.bool false,.nilslice,.bool false,.nilslice],true⟩:=by kernel_rfl
def ty54:yA.tys.get 54=some ⟨(.struct [(0,9,1),(1,9,1),(2,3,1),(3,3,1),(4,3,1),(5,4,1),(6,36,9),(15,36,9)]),24,320,[.str [],.str [],.int .i64 0,.int .i64 0,.int .i64 0,.bool false,.int .u8 0,.str [],.int .u8 0,.bool false,.nilslice,.bool false,.nilslice,.int .i64 0,.nilslice,.int .u8 0,.str [],.int .u8 0,.bool false,.nilslice,.bool false,.nilslice,.int .i64 0,.nilslice],true⟩:=by kernel_rfl
def xM:yA.tys.get 59=some ⟨(.slice 5),1,24,[.nilslice],true⟩:=by kernel_rfl
def zf5:yA.tys.get 117=some ⟨(.map 116 5),1,8,[.nilmap],true⟩:=by kernel_rfl
def ty165:yA.tys.get 165=some ⟨(.ptr 229),1,8,[.nilptr],true⟩:=by kernel_rfl
def ty170:yA.tys.get 170=some ⟨(.arr 3 5),3,3,[.int .u8 0,.int .u8 0,.int .u8 0],true⟩:=by kernel_rfl
theorem ty191:yA.tys.get 191=some ⟨(.struct [(0,5,1),(1,9,1),(2,4,1),(3,3,1),(4,3,1),(5,3,1),(6,3,1),(7,3,1)]),8,72,[.int .u8 0,.str [],.bool false,.int .i64 0,.int .i64 0,.int .i64 0,.int .i64 0,.int .i64 0],true⟩:=by kernel_rfl
theorem jM:yA.tys.get 240=some ⟨(.int .u16),1,2,[.int .u16 0],true⟩:=by kernel_rfl
def Ij:yA.tys.get 244=some ⟨(.int .u64),1,8,[.int .u64 0],true⟩:=by kernel_rfl
def ty251:yA.tys.get 251=some ⟨(.map 3 9),1,8,[.nilmap],true⟩:=by kernel_rfl
def Ii:yA.tys.get 264=some ⟨(.arr 10 5),10,10,[.int .u8 0,.int .u8 0,.int .u8 0,.int .u8 0,.int .u8 0,.int .u8 0,.int .u8 0,.int .u8 0,.int .u8 0,.int .u8 0],true⟩:=by kernel_rfl
def ty266:yA.tys.get 266=some ⟨(.arr 7 9),7,112,[.str [],.str [],.str [],.str [],.str [],.str [],.str []],true⟩:=by kernel_rfl
def vP:yA.tys.get 268=some ⟨(.slice 270),1,24,[.nilslice],true⟩:=by kernel_rfl
def qH:yA.tys.get 270=some ⟨(.int .u32),1,4,[.int .u32 0],true⟩:=by kernel_rfl
def ty300:yA.tys.get 300=some ⟨(.arr 12 3),12,96,[.int .i64 0,.int .i64 0,.int .i64 0,.int .i64 0,.int .i64 0,.int .i64 0,.int .i64 0,.int .i64 0,.int .i64 0,.int .i64 0,.int .i64 0,.int .i64 0],true⟩:=by kernel_rfl
def ty301:yA.tys.get 301=some ⟨(.slice 29),1,24,[.nilslice],true⟩:=by kernel_rfl
def mW:lD yA 22 44 3 true:=⟨⟨_,ty22,rfl⟩,⟨_,Bj,rfl,rfl⟩⟩
def nW:lD yA 23 49 3 true:=⟨⟨_,ty23,rfl⟩,⟨_,Bi,rfl,rfl⟩⟩
def Ei:lD yA 24 54 24 true:=⟨⟨_,ty24,rfl⟩,⟨_,ty54,rfl,rfl⟩⟩
def wI:lD yA 27 240 1 false:=⟨⟨_,gU,rfl⟩,⟨_,jM,rfl,rfl⟩⟩
def sP:lD yA 34 36 9 true:=⟨⟨_,ty34,rfl⟩,⟨_,Dz,rfl,rfl⟩⟩
def sl46:lD yA 46 9 1 false:=⟨⟨_,ty46,rfl⟩,⟨_,vL,rfl,rfl⟩⟩
def Eh:lD yA 47 52 7 true:=⟨⟨_,ty47,rfl⟩,⟨_,ty52,rfl,rfl⟩⟩
def sl59:lD yA 59 5 1 false:=⟨⟨_,xM,rfl⟩,⟨_,xI,rfl,rfl⟩⟩
def gG:lD yA 268 270 1 false:=⟨⟨_,vP,rfl⟩,⟨_,qH,rfl,rfl⟩⟩
def sl301:lD yA 301 29 2 true:=⟨⟨_,ty301,rfl⟩,⟨_,ty29,rfl,rfl⟩⟩
end Go.Proofs
namespace Go.Am
open Go Go.RowKit
def cC (l:List Nat):List D:=l.map fun(n:Nat)=>D.int .u16 (n:Int)
theorem iN(l:List Nat):(cC l).length=l.length:=by simp[cC]
structure lF where
 neg:Bool
 limbs:List Nat
def lF.d(w:lF):D:=.st [.bool w.neg,.sl 1 (cC w.limbs)]
structure dC where
 n:lF
 d:lF
def dC.dd(f:dC):D:=.st [f.n.d,f.d.d]
structure lE where
 kind:Nat
 f:dC
 i:Int
def lE.d(v:lE):D:=.st [.int .u8 v.kind,v.f.dd,.int .i64 v.i]
inductive sA where
 | mk (op:Nat) (name:List Nat) (v:lE) (args:List sA)
def sA.op:sA->Nat | .mk o _ _ _=>o
def sA.name:sA->List Nat | .mk _ n _ _=>n
def sA.v:sA->lE | .mk _ _ v _=>v
def sA.args:sA->List sA | .mk _ _ _ a=>a
mutual
def sA.d:sA->D
 | .mk op name v args=>.st [.int .u8 op,.str name,v.d,.sl 9 (sA.ds args)]
def sA.ds:List sA->List D
 | []=>[]
 | x::l=>x.d::sA.ds l
end
theorem sA.ds_eq(l:List sA):sA.ds l=l.map sA.d:=by
 induction l with
 | nil=>rfl
 | cons x l ih=>simp[sA.ds,ih]
structure oE where
 a:Int
 b:Int
 known:Int
 f:dC
def oE.d(r:oE):D:=.st [.int .i64 r.a,.int .i64 r.b,.int .i64 r.known,r.f.dd]
structure wD where
 name:List Nat
 two:Bool
 rows:List oE
def wD.d(x:wD):D:=.st [.str x.name,.bool x.two,.sl 7 (x.rows.map oE.d)]
structure nE where
 name:List Nat
 kind:Nat
 fact:Bool
def nE.d(x:nE):D:=.st [.str x.name,.int .u8 x.kind,.bool x.fact]
structure dD where
 name:List Nat
 label:List Nat
 from_:Int
 to:Int
 known:Int
 off:Bool
 when_:sA
 then_:sA
def dD.d(x:dD):D:=.st [.str x.name,.str x.label,.int .i64 x.from_,.int .i64 x.to,.int .i64 x.known,.bool x.off,x.when_.d,x.then_.d]
structure qD where
 name:List Nat
 defs:List nE
 tables:List wD
 clauses:List dD
def qD.d(x:qD):D:=.st [.str x.name,.sl 3 (x.defs.map nE.d),.sl 3 (x.tables.map wD.d),.sl 24 (x.clauses.map dD.d)]
section
variable {t:Tr qA}{cs:List zA}
theorem Eu{w:lF}(h:RD t w.d cs):∃v,cs=[.bool w.neg,v]/\lA t 1 (cC w.limbs) v:=by
 grind [lF.d,nJ,iH,rI,oM,vQ]
theorem Ew{f:dC}(h:RD t f.dd cs):∃u v,cs=[.bool f.n.neg,u,.bool f.d.neg,v]/\lA t 1 (cC f.n.limbs) u/\lA t 1 (cC f.d.limbs) v:=by
 grind [dC.dd,nJ,iH,rI,Eu]
def Jd{v:lE}(h:RD t v.d cs):∃a b,cs=[.int .u8 v.kind,.bool v.f.n.neg,a,.bool v.f.d.neg,b,.int .i64 v.i]/\lA t 1 (cC v.f.n.limbs) a/\lA t 1 (cC v.f.d.limbs) b:=by
 unfold lE.d at h;simp only[nJ,iH,rI,eO]at h;obtain⟨cl,rfl,c,r,rfl,rfl,c',r',rfl,h2,c'',r'',rfl,rfl,rfl⟩:=h;obtain⟨a,b,rfl,h3,h4⟩:=Ew h2;exact⟨a,b,rfl,h3,h4⟩
def vI{x:sA}(h:RD t x.d cs):∃a b c,cs=[.int .u8 x.op,.str x.name,.int .u8 x.v.kind,.bool x.v.f.n.neg,a,.bool x.v.f.d.neg,b,.int .i64 x.v.i,c] ∧
  lA t 1 (cC x.v.f.n.limbs) a/\lA t 1 (cC x.v.f.d.limbs) b/\lA t 9 (x.args.map sA.d) c:=by
 obtain⟨op,name,v,args⟩:=x;unfold sA.d at h;rw[sA.ds_eq]at h;simp only[nJ,iH,rI,eO,jR,oM]at h;obtain⟨cl,rfl,c,r,rfl,rfl,c',r',rfl,rfl,c'',r'',rfl,hv,c3,r3,rfl,⟨w,rfl,h4⟩,rfl⟩:=h;obtain⟨a,b,rfl,h5,h6⟩:=Jd hv;exact⟨a,b,w,rfl,h5,h6,h4⟩
theorem Je{r:oE}(h:RD t r.d cs):∃a b,cs=[.int .i64 r.a,.int .i64 r.b,.int .i64 r.known,.bool r.f.n.neg,a,.bool r.f.d.neg,b]/\lA t 1 (cC r.f.n.limbs) a/\lA t 1 (cC r.f.d.limbs) b:=by
 grind [oE.d,nJ,iH,rI,eO,Ew]
theorem yZ{x:wD}(h:RD t x.d cs):∃a,cs=[.str x.name,.bool x.two,a]/\lA t 7 (x.rows.map oE.d) a:=by
 grind [wD.d,nJ,iH,rI,jR,vQ,oM]
theorem wT{x:nE}(h:RD t x.d cs):cs=[.str x.name,.int .u8 x.kind,.bool x.fact]:=by
 grind [nE.d,nJ,iH,rI,jR,vQ,eO]
def fL(x:sA)(a b c:zA):List zA:=[.int .u8 x.op,.str x.name,.int .u8 x.v.kind,.bool x.v.f.n.neg,a,.bool x.v.f.d.neg,b,.int .i64 x.v.i,c]
def Jf{x:dD}(h:RD t x.d cs):∃a b c a' b' c',cs=[.str x.name,.str x.label,.int .i64 x.from_,.int .i64 x.to,.int .i64 x.known,.bool x.off]++fL x.when_ a b c++fL x.then_ a' b' c' ∧
  RD t x.when_.d (fL x.when_ a b c)/\RD t x.then_.d (fL x.then_ a' b' c'):=by
 unfold dD.d at h;simp only[nJ,iH,rI,jR,vQ,eO]at h;obtain⟨cl,rfl,c1,r1,rfl,rfl,c2,r2,rfl,rfl,c3,r3,rfl,rfl,c4,r4,rfl,rfl,c5,r5,rfl,rfl,c6,r6,rfl,rfl,c7,r7,rfl,h7,c8,r8,rfl,h8,rfl⟩:=h;obtain⟨a,b,c,e1,_⟩:=vI h7;obtain⟨a',b',c',e2,_⟩:=vI h8;subst e1 e2;exact⟨a,b,c,a',b',c',rfl,h7,h8⟩
theorem wO{x:qD}(h:RD t x.d cs):∃a b c,cs=[.str x.name,a,b,c]/\lA t 3 (x.defs.map nE.d) a/\lA t 3 (x.tables.map wD.d) b/\lA t 24 (x.clauses.map dD.d) c:=by
 grind [qD.d,nJ,iH,rI,jR,oM]
end
def lF.zs(x:lF):x.d.zs=[.bool false,.nilslice]:=rfl
def dC.zs(x:dC):x.dd.zs=[.bool false,.nilslice,.bool false,.nilslice]:=rfl
def lE.zs(x:lE):x.d.zs=[.int .u8 0,.bool false,.nilslice,.bool false,.nilslice,.int .i64 0]:=rfl
def sA.zs(x:sA):x.d.zs=[.int .u8 0,.str [],.int .u8 0,.bool false,.nilslice,.bool false,.nilslice,.int .i64 0,.nilslice]:=by cases x;rfl
def oE.zs(x:oE):x.d.zs=[.int .i64 0,.int .i64 0,.int .i64 0,.bool false,.nilslice,.bool false,.nilslice]:=rfl
def wD.zs(x:wD):x.d.zs=[.str [],.bool false,.nilslice]:=rfl
def nE.zs(x:nE):x.d.zs=[.str [],.int .u8 0,.bool false]:=rfl
def dD.zs(x:dD):x.d.zs=[.str [],.str [],.int .i64 0,.int .i64 0,.int .i64 0,.bool false,.int .u8 0,.str [],.int .u8 0,.bool false,.nilslice,.bool false,.nilslice,.int .i64 0,.nilslice,.int .u8 0,.str [],.int .u8 0,.bool false,.nilslice,.bool false,.nilslice,.int .i64 0,.nilslice]:=by
 obtain⟨_,_,_,_,_,_,w,v⟩:=x;cases w;cases v;rfl
def qD.zs(x:qD):x.d.zs=[.str [],.nilslice,.nilslice,.nilslice]:=rfl
def uM(f:dC):Nat:=1+f.n.limbs.length+f.d.limbs.length
mutual
/-- the size, as it is counted up to a limit -/
def wJ:sA->Int->Int
 | .mk _ name v args,left=>rN args left (uM v.f+(name.length:Int) / 30)
def rN:List sA->Int->Int->Int
 | [],_,n=>n
 | x::l,left,n=>if n<=left then rN l left (n+wJ x (left-n))else n
end
def pE:Nat:=1125899906842624
def dC.ok(f:dC):Prop:=f.n.limbs.length<pE/\f.d.limbs.length<pE
mutual
def sA.ok:sA->Prop
 | .mk _ name v args=>name.length<pE/\v.f.ok/\args.length<pE/\sA.oks args
def sA.oks:List sA->Prop
 | []=>True
 | x::l=>x.ok/\sA.oks l
end
end Go.Am
namespace Go.Am
open Go Go.RowKit
section
def Ir{f:dC}(h:f.ok):uM f<4503599627370496:=by
 grind [dC.ok,pE,uM]
mutual
def It:∀(x:sA) (left:Int),x.ok->0<=wJ x left/\wJ x left<=max left 0+9007199254740992
 | .mk op name v args,left,h=>by
  unfold sA.ok at h;obtain⟨h1,h2,_,h4⟩:=h;have hf:=Ir h2;unfold pE at h1;unfold wJ;have:=Ej args left (uM v.f+(name.length:Int) / 30) h4 (by omega);omega
def Ej:∀(l:List sA) (left n:Int),sA.oks l->0<=n->n<=rN l left n/\rN l left n<=max n (left+9007199254740992)
 | [],left,n,_,_=>by grind [rN]
 | x::l,left,n,h,hn=>by
  unfold sA.oks at h;unfold rN;split
  ·have h1:=It x (left-n) h.1;have h2:=Ej l left (n+wJ x (left-n)) h.2 (by omega);omega
  ·omega
end
theorem wC{a b:Int}:(kB a b=true) ↔ a<b:=Fv a b
theorem iD{a b:Int}:(xC a b=true) ↔ a<=b:=Pz a b
def Cs{α:Type}{l:List α}{i:Nat}{x:α}{r:List α}(h:l.drop i=x::r):l[i]?=some x/\l.drop (i+1)=r/\i<l.length:=by
 have h1:(l.drop i)[0]?=some x:=by grind
 rw[yde]at h1;have hi:i<l.length:=by
  grind
 refine⟨by omega,?_,hi⟩;have:=List.drop_drop (l:=l) (i:=1) (j:=i)
 simp_all
def Ld{α:Type}{l:List α}{i:Nat}(h:l.drop i=[]):l.length<=i:=by
 simp_all
theorem qJ(l:List Nat):(Int.ofNat (oB l))=(l.length:Int):=by rw[pD];rfl
def mQ(cs:List zA):Md true cs=.agg cs:=rfl
end
section
def vB(k:IntKind)(l:List Nat):List D:=l.map fun(n:Nat)=>D.int k (n:Int)
theorem nD{k:IntKind}(l:List Nat):(vB k l).length=l.length:=by simp[vB]
def YG{k:IntKind}{l:List Nat}{i x:Nat}(h:l[i]?=some x):(vB k l)[i]?=some (.int k (x:Int)):=by simp[vB,h]
theorem Qx{k:IntKind}{l:List Nat}{n:Nat}:(vB k l).take n=vB k (l.take n):=by simp[vB]
def tF (t:Tr qA)(b:Nat)(k:IntKind)(l:List Nat):Prop:=∃c,t.get b=some (.cells c l.length none)/\∀(j:Nat) x,l[j]?=some x->c.get j=some (.int k (x:Int))
def sE (b:Nat)(t t':Tr qA):Prop:=∀c,c≠b->t'.get c=t.get c
theorem sE.refl(b:Nat)(t:Tr qA):sE b t t:=fun _ _=>rfl
def sE.trans{b:Nat}{x y z:Tr qA}(h:sE b x y)(k:sE b y z):sE b x z:=fun c hc=>(k c hc).trans (h c hc)
section
variable {t t' t0:Tr qA}{C:dA}{b:Nat}{k:IntKind}{l:List Nat}
theorem tF.off(h:tF t b k l){c:Nat}(hc:b≠c)(ho:sE c t t'):tF t' b k l:=by
 obtain⟨x,h1,h2⟩:=h;exact⟨x,by rw[ho b hc];exact h1,h2⟩
def tF.tle(h:tF t b k l)(ho:xB t t'):tF t' b k l:=by
 obtain⟨x,h1,h2⟩:=h;exact⟨x,ho _ _ h1,h2⟩
theorem xB.off(h:xB t0 t)(hb:t0.get b=none)(ho:sE b t t'):xB t0 t':=by
 intro c y hc;rw[ho c (by grind)];exact h c y hc
theorem tF.slice(h:tF t b k l){off n cap:Nat}(hn:off+n<=l.length)(hc:n<=cap):lA t 1 (vB k ((l.drop off).take n)) (.slice b off n cap):=by
 obtain⟨c,h1,h2⟩:=h;refine⟨((l.drop off).take n).map fun(x:Nat)=>[.int k (x:Int)],.inr ⟨b,off,cap,?_,?_,⟨c,_,none,h1,.inl rfl⟩,fun i cs hi=>?_⟩,?_⟩
 ·grind
 ·grind
 ·simp only[ybu,yar]at hi;obtain⟨x,hx,rfl⟩:=hi;refine⟨rfl,c,_,none,h1,fun j a hj=>?_⟩
  grind
 ·refine jC.mk (by simp[vB]) fun i d cs hd hc=>?_;simp only[vB,ybu,yar]at hd hc;obtain⟨x,hx,rfl⟩:=hd
  simp_all
theorem tF.all(h:tF t b k l){cap:Nat}(hc:l.length<=cap):lA t 1 (vB k l) (.slice b 0 l.length cap):=by
 have:=h.slice (off:=0) (n:=l.length) (by omega) hc
 simp_all
def Dv{T el sz:Nat}{agg:Bool}(h:lD C T el sz agg){off n cap i:Nat}(hi:i<n):bC C T (.slice b off n cap) (.int .i64 (i:Int))=some (.ptr b (off+i*sz)):=by
 obtain⟨⟨y,hy1,hy2⟩,⟨z,hz1,hz2,hz3⟩⟩:=h;unfold bC;rw[hy1,pA];have:(zA.int .i64 (i:Int)).asNat=some i:=rfl;rw[this,pA];simp only[zA.asSlice];rw[hy2,pA,hz1,pA,pC.2 hi,hz2];rfl
theorem tF.load(h:tF t b k l){j x:Nat}(hj:l[j]?=some x){ty:Nat}{y:mC}(hy:C.tys.get ty=some y)(ha:y.desc.isAgg=false):vC C ty ⟨0,t⟩ (.ptr b j)=some (.int k (x:Int)):=by
 obtain⟨c,h1,h2⟩:=h
 simp_all [vC,zA.asPtr,mD,qA.asCells,zR]
theorem tF.store(h:tF t b k l)(hb:C.base<=b){j:Nat}(hj:j<l.length)(x:Nat){ty:Nat}{y:mC}(hy:C.tys.get ty=some y)(hs:y.size=1) :
  ∃t',(∀n,tD C ty (.ptr b j) (.int k (x:Int)) ⟨n,t⟩=some (xE,⟨n,t'⟩))/\tF t' b k (l.set j x)/\sE b t t':=by
 obtain⟨c,h1,h2⟩:=h;refine⟨t.set b (.cells (c.setMany [.int k (x:Int)] j) l.length none),fun n=>?_,⟨c.setMany [.int k (x:Int)] j,?_,fun i y hi=>?_⟩,fun d hd=>?_⟩
 ·unfold tD;rw[hy,pA];simp only[zA.asPtr,pA,zA.cells,zA.asAgg];rw[hs];have e1:Nat.beq (oB [zA.int k (x:Int)]) 1=true:=rfl;rw[e1,vE];unfold rJ mD;have e2:(!Nat.blt b C.base)=true:=by
   grind [pC]
  rw[e2,vE,h1,pA];simp only[qA.asCells,pA];have e3:Nat.ble (j+oB [zA.int k (x:Int)]) l.length=true:=mE.2 hj;have e4:eE zA.one [zA.int k (x:Int)]=true:=rfl;rw[e3,e4];rfl
 all_goals grind [Tr.get_set,Tr.get_setMany]
theorem sZ{T el:Nat}{y z:mC}(hT:C.tys.get T=some y)(hel:y.desc.asSlice=some el)(hz:C.tys.get el=some z)(hzero:z.zero=[.int k 0])(hs:z.size=1)(hby:z.bytes<=8){n:Nat}(hn:n<1000000)(hb:t.get b=none) :
  ∃t',dJ C T (.int .i64 (n:Int)) (.int .i64 (n:Int)) ⟨b,t⟩=some (.slice b 0 n n,⟨b+1,t'⟩)/\tF t' b k (List.replicate n 0)/\xB t t'/\sE b t t':=by
 have hrep:∀n,lJ [zA.int k 0] n=List.replicate n (.int k 0):=by
  intro n;induction n with
  | zero=>rfl
  | succ n ih=>grind [lJ,wH]
 refine⟨t.set b (.cells (Tr.ofList (lJ z.zero n)) (oB (lJ z.zero n)) none),?_,⟨Tr.ofList (lJ z.zero n),?_,fun j x hj=>?_⟩,fun c y' hc=>?_,fun c hc=>?_⟩
 ·unfold dJ;rw[hT,pA,hel,pA,hz,pA];have e1:(zA.int .i64 (n:Int)).asNat=some n:=rfl;rw[e1,pA,pA];have e2:(Nat.ble n n&&Nat.blt n 1000000&&Nat.blt (n*z.bytes) 1000000000&&Nat.beq (oB z.zero) z.size)=true:=by
   rw[hzero,hs,show Nat.ble n n=true from mE.2 (ybk n),pC.2 hn];have:n*z.bytes<1000000000:=by
    have:=ydb (Nat.le_of_lt hn) hby
    omega
   rw[pC.2 this];rfl
  rw[e2,vE];rfl
 all_goals grind [Tr.get_set,pD,Tr.get_ofList]
end
end
end Go.Am
namespace Go.Am
def val (B:Nat):List Nat->Nat
 | []=>0
 | a::l=>a+B*val B l
def qB(B:Nat)(l:List Nat):Prop:=∀x∈l,x<B
def norm (l:List Nat):Prop:=∀h:l≠[],l.getLast h≠0
theorem Du(B:Nat):∀(l m:List Nat),val B (l++m)=val B l+B^l.length*val B m
 | [],m=>by simp[val]
 | a::l,m=>by
  simp only[List.cons_append,val,Du B l m,ybn,yag];grind
theorem lK{B:Nat}(hB:0<B):∀ {l:List Nat},qB B l->val B l<B^l.length
 | [],_=>by simp[val]
 | a::l,h=>by
  have h1:=h a (yby);have h2:=lK hB (l:=l) fun x hx=>h x (ybr _ hx);simp only[val,ybn,yag];have h3:B*(val B l+1)<=B*B^l.length:=ybv B h2
  grind
theorem Be(B:Nat)(l:List Nat)(n:Nat):val B l=val B (l.take n)+B^(l.take n).length*val B (l.drop n):=by
 rw[<- Du,List.take_append_drop]
theorem Ah{B:Nat}{l:List Nat}(h:qB B l)(n:Nat):qB B (l.take n):=fun x hx=>h x (List.mem_of_mem_take hx)
def NI{B:Nat}{l:List Nat}(h:qB B l)(n:Nat):qB B (l.drop n):=fun x hx=>h x (List.mem_of_mem_drop hx)
def NJ{B:Nat}{l m:List Nat}(h:qB B l)(k:qB B m):qB B (l++m):=fun x hx=>(yaf.1 hx).elim (h x) (k x)
def zE:List Nat->List Nat
 | []=>[]
 | a::l=>if zE l=[]/\a=0 then []else a::zE l
theorem nQ(B:Nat):∀l:List Nat,val B (zE l)=val B l
 | []=>rfl
 | a::l=>by
  unfold zE;have ih:=nQ B l
  grind [val]
theorem dQ:∀l:List Nat,norm (zE l)
 | []=>fun h=>(h rfl).elim
 | a::l=>by
  have ih:=dQ l;unfold zE;split
  ·simp_all
  ·rename_i h;intro hne;by_cases hs:zE l=[]
   ·simp_all
   ·rw[List.getLast_cons hs];exact ih hs
theorem iS{B:Nat}:∀ {l:List Nat},qB B l->qB B (zE l)
 | [],h=>h
 | a::l,h=>by
  have ih:=iS (l:=l) fun x hx=>h x (ybr _ hx);unfold zE;split
  ·simp_all
  ·exact fun x hx=>(ybs.1 hx).elim (fun e=>e ▸ h a yby) (ih x)
theorem Ud:∀l:List Nat,(zE l).length<=l.length
 | []=>ybk _
 | a::l=>by unfold zE;have:=Ud l;split<;>simp<;>omega
theorem Mx:∀l:List Nat,zE (l++[0])=zE l
 | []=>by simp[zE]
 | a::l=>by
  show(if zE (l++[0])=[]/\a=0 then []else a::zE (l++[0]))=_;rw[Mx l];rfl
def Bm:∀ {l:List Nat},norm l->zE l=l
 | [],_=>rfl
 | a::l,h=>by
  have hl:norm l:=by
   intro hne;have:=h (by simp)
   grind
  unfold zE;rw[Bm hl];split
  ·rename_i e;have:=h (by simp)
   simp_all
  ·rfl
def Fh{B:Nat}(hB:0<B){l:List Nat}(h:norm l)(h0:val B l=0):l=[]:=by
 have key:∀l:List Nat,val B l=0->∀x∈l,x=0:=by
  intro l;induction l with
  | nil=>simp_all
  | cons a l ih=>
   grind [val,Nat.mul_eq_zero]
 rcases List.eq_nil_or_concat l with e | ⟨m,a,e⟩
 ·exact e
 ·exfalso;subst e;have:=h (by simp);simp at this;exact this (key _ h0 a (by simp))
def Dr{B:Nat}{l:List Nat}(h:norm l)(hne:l≠[]):B^(l.length-1)<=val B l:=by
 rcases List.eq_nil_or_concat l with e | ⟨m,a,e⟩
 ·simp_all
 ·rw[List.concat_eq_append]at e;subst e;have:=h (by simp);simp at this;rw[Du];simp only[ybg,ybn,ybx,val];have:1<=a+B*0:=by omega
  calc B^(m.length+1-1)=B^m.length*1:=by simp
   _<=B^m.length*(a+B*0):=ybv _ this
   _<=_:=Nat.le_add_left _ _
def Sd{B:Nat}(hB:0<B):∀ {l m:List Nat},qB B l->qB B m->l.length=m.length->val B l=val B m->l=m
 | [],[],_,_,_,_=>rfl
 | a::l,b::m,h1,h2,hl,hv=>by
  have ha:=h1 a yby
  have hb:=h2 b yby
  simp only[val]at hv;have e1:a=b:=by
   grind [Nat.add_mul_mod_self_left,Nat.mod_eq_of_lt]
  subst e1;have e2:val B l=val B m:=by
   grind [Nat.eq_of_mul_eq_mul_left]
  rw[Sd hB (fun x hx=>h1 x (ybr _ hx)) (fun x hx=>h2 x (ybr _ hx)) (by simp_all) e2]
 | [],_::_,_,_,h,_=>by simp at h
 | _::_,[],_,_,h,_=>by simp at h
def eM{B:Nat}(hB:1<B){l m:List Nat}(h1:qB B l)(h3:norm m)(hv:val B m<=val B l):m.length<=l.length:=by
 by_cases hm:m=[]
 ·simp[hm]
 ·have a:=Dr (B:=B) h3 hm;have b:=lK (by omega) h1;have:B^(m.length-1)<B^l.length:=by omega
  grind [Nat.pow_lt_pow_iff_right]
def zb1{B:Nat}(hB:1<B){l m:List Nat}(h1:qB B l)(h2:qB B m)(h3:norm l)(h4:norm m)(hv:val B l=val B m):l=m:=by
 have a:=eM hB h1 h4 (by omega);have b:=eM hB h2 h3 (by omega);exact Sd (by omega) h1 h2 (by omega) hv
def dH (a b:List Nat):Int:=if a.length≠b.length then(if a.length<b.length then -1 else 1)else go a b
where go:List Nat->List Nat->Int
 | a::l,b::m=>if go l m≠0 then go l m else if a<b then -1 else if b<a then 1 else 0
 | _,_=>0
theorem LU{B:Nat}:∀ {a b:List Nat},qB B a->qB B b->a.length=b.length->(dH.go a b<0 ↔ val B a<val B b)/\(dH.go a b=0 ↔ val B a=val B b)
 | [],[],_,_,_=>by simp[dH.go,val]
 | a::l,b::m,h1,h2,hl=>by
  have ha:=h1 a yby
  have hb:=h2 b yby
  obtain⟨i1,i2⟩:=LU (a:=l) (b:=m) (fun x hx=>h1 x (ybr _ hx)) (fun x hx=>h2 x (ybr _ hx)) (by simp_all);have lt_of:∀ {x y:Nat},x<y->∀u v,u<B->u+B*x<v+B*y:=by
   intro x y h u v hu;have:B*(x+1)<=B*y:=ybv B h
   grind
  unfold dH.go;simp only[val];by_cases h0:dH.go l m=0
  ·grind
  ·rw[yab h0];constructor
   ·rw[i1];constructor
    ·simp_all
    grind [Nat.lt_trichotomy]
   ·constructor
    ·omega
    ·intro h;rcases Nat.lt_trichotomy (val B l) (val B m)with g | g | g
     ·have:=lt_of g a b ha;omega
     ·omega
     ·have:=lt_of g b a hb;omega
 | [],_::_,_,_,h=>by simp at h
 | _::_,[],_,_,h=>by simp at h
def Yu{B:Nat}(hB:1<B){a b:List Nat}(h1:qB B a)(h2:qB B b)(h3:norm a)(h4:norm b):dH a b<0 ↔ val B a<val B b:=by
 unfold dH;by_cases hl:a.length=b.length
 ·grind [LU]
 ·rw[yab hl];by_cases hlt:a.length<b.length
  ·rw[yab hlt];refine⟨fun _=>?_,fun _=>by omega⟩;rcases yau (val B a) (val B b)with g | g
   ·exact g
   ·have:=eM hB h1 h4 g;omega
  ·rw[yaa hlt];refine⟨fun h=>by omega,fun h=>?_⟩;have:=eM hB h2 h3 (by omega);omega
end Go.Am
namespace Go.Am
open Go Go.RowKit
theorem vG{n:Int}(h1:0<=n)(h2:n<18446744073709551616):jA .u64 n=n:=by
 grind [vN,IntKind.wrap,IntKind.bits,IntKind.signed]
theorem iY{n:Int}(h1:0<=n)(h2:n<4294967296):jA .u32 n=n:=by
 grind [vN,IntKind.wrap,IntKind.bits,IntKind.signed]
theorem Ay{n:Int}(h1:0<=n)(h2:n<65536):jA .u16 n=n:=by
 grind [vN,IntKind.wrap,IntKind.bits,IntKind.signed]
theorem Dk{n:Int}(h1:0<=n)(h2:n<256):jA .u8 n=n:=by
 grind [vN,IntKind.wrap,IntKind.bits,IntKind.signed]
theorem Ht(n:Int):jA .u64 n=n%18446744073709551616:=by
 grind [vN,IntKind.wrap,IntKind.bits,IntKind.signed]
theorem dS(n:Int):jA .u32 n=n%4294967296:=by
 grind [vN,IntKind.wrap,IntKind.bits,IntKind.signed]
def NW(n:Int):jA .u16 n=n%65536:=by
 grind [vN,IntKind.wrap,IntKind.bits,IntKind.signed]
def JD{k:IntKind}{x y:Nat}:iAnd k (x:Int) (y:Int)=cI Nat.land k (x:Int) (y:Int):=rfl
theorem yU{f:Nat->Nat->Nat}{k:IntKind}{x y:Nat}(h1:x<yH k)(h2:y<yH k):cI f k (x:Int) (y:Int)=some (.int k (f x y:Nat)):=by
 unfold cI;have e1:sL (x:Int)=some x:=rfl;have e2:sL (y:Int)=some y:=rfl;rw[e1,pA,e2,pA,pC.2 h1,pC.2 h2];rfl
def Py{k:IntKind}{x y:Nat}(h0:0<y)(hw:jA k ((x / y:Nat):Int)=((x / y:Nat):Int)):oV k (x:Int) (y:Int)=some (.int k ((x / y:Nat):Int)):=by
 unfold oV;have:tA (y:Int) 0=false:=by
  grind [nV]
 rw[this,cond_false,Int.tdiv_eq_ediv_of_nonneg (by omega)];rw[<- Int.natCast_ediv,hw]
def Kq{k:IntKind}{x y:Nat}(h0:0<y):pV k (x:Int) (y:Int)=some (.int k ((x%y:Nat):Int)):=by
 unfold pV;have:tA (y:Int) 0=false:=by
  grind [nV]
 rw[this,cond_false,Int.tmod_eq_emod_of_nonneg (by omega),<- Int.natCast_emod]
theorem wE{a b:Int}:(tA a b=true) ↔ a=b:=nV a b
theorem oN{a b:Int}:((!tA a b)=true) ↔ a≠b:=by rw[ycp,<- Bool.not_eq_true,wE]
def Wb{b:Bool}:((!b)=true) ↔ b=false:=by simp
theorem Ek{a b n:Nat}(h:b<2^n):Nat.lor (a*2^n) b=a*2^n+b:=by
 show a*2^n ||| b=_;rw[<- Nat.shiftLeft_eq,<- Nat.shiftLeft_add_eq_or_of_lt h,Nat.shiftLeft_eq]
def or_low{a b n:Nat}(h:b<2^n)(ha:a%2^n=0):Nat.lor a b=a+b:=by
 obtain⟨c,hc⟩:=Nat.dvd_of_mod_eq_zero ha
 grind [Nat.mul_comm,Ek]
def lA.idx{t:Tr qA}{C:dA}{T el:Nat}(h:lD C T el 1 false){k:IntKind}{l:List Nat}{v:zA}(hr:lA t 1 (vB k l) v){i x:Nat}(hi:l[i]?=some x) :
  ∃b off,bC C T v (.int .i64 (i:Int))=some (.ptr b off)/\vC C el ⟨0,t⟩ (.ptr b off)=some (.int k (x:Int)):=by
 obtain⟨b,off,cs,h1,h2,_,_,h5⟩:=lD.at h (fun _=>rfl) hr (YG hi);rw[eO]at h5;subst h5;exact⟨b,off,h1,h2⟩
def dZ(x:Nat)(n:Nat):Int.fdiv (x:Int) (n:Int)=((x / n:Nat):Int):=by
 grind
def getElem?_of_lt{l:List Nat}{i:Nat}(h:i<l.length):∃x,l[i]?=some x:=⟨l[i],ybd h⟩
def sI{B:Nat}{l:List Nat}(h:qB B l){i x:Nat}(hi:l[i]?=some x):x<B:=h x (ycv hi)
def Cg{l:List Nat}(h:l≠[]):∃m x,l=m++[x]:=by
 rcases List.eq_nil_or_concat l with e | ⟨m,a,e⟩
 all_goals simp_all
end Go.Am
namespace Go.Proofs
open Go Go.Am
variable [lC]
variable {t:Tr qA}
theorem PJ:∀(n:Nat) (l:List Nat) (v:zA),l.length=n->n<1125899906842624->lA t 1 (vB .u32 l) v->∃v',jp 270 2 [v] t (fun u m=>u=v'/\m=t)/\lA t 1 (vB .u32 (zE l)) v':=by
 intro n;induction n with
 | zero=>
  intro l v hl _ hv;have:l=[]:=ycc.1 hl;subst this;refine⟨v,Xe ?_,hv⟩;simp only[uI,uL,rA,uZ,uW,Mt,iA,hv.len,xA,fB,nD,wC];simp_all
 | succ n ih=>
  intro l v hl hn hv;obtain⟨m,x,rfl⟩:=Cg (l:=l) (by grind);have hm:m.length=n:=by simp_all
  have hx:(m++[x])[m.length]?=some x:=by simp
  obtain⟨b,off,g1,g2⟩:=hv.idx gG hx;obtain⟨u,g3,g4⟩:=lD.front gG hv (k:=m.length) (by simp[vB]);rw[Qx]at g4;simp only[List.take_left']at g4;have e1:(((m++[x]).length:Nat):Int)-1=(m.length:Int):=by simp
  by_cases hx0:x=0
  ·subst hx0;obtain⟨w,h1,h2⟩:=ih m u hm (by omega) g4;refine⟨w,Xe ?_,by grind [Mx]⟩;simp (disch:=omega) only[uI,uL,rA,uZ,uW,Mt,iA,hv.len,xA,fB,nD,wC,wE,wrap_i64,e1,g1,g2,g3]
   simp_all
  ·refine⟨v,Xe ?_,?_⟩
   ·simp (disch:=omega) only[uI,uL,rA,uZ,uW,Mt,iA,hv.len,xA,fB,nD,wC,wE,wrap_i64,e1,g1,g2,g3]
    simp_all
   ·rw[Bm]
    ·exact hv
    ·intro _;simp_all
def Bl{l:List Nat}{v:zA}(hl:l.length<1125899906842624)(hv:lA t 1 (vB .u32 l) v):∃v',rB yA F 270 [v] t=some v'/\lA t 1 (vB .u32 (zE l)) v':=by
 obtain⟨v',h1,h2⟩:=PJ _ l v rfl hl hv;exact⟨v',dB.2 (w270 h1),h2⟩
theorem zda{a b:List Nat}{u v:zA}(hu:lA t 1 (vB .u32 a) u)(hv:lA t 1 (vB .u32 b) v)(hl:a.length=b.length):∀(n:Nat),n<=a.length->n<1125899906842624->jp 295 2 [u,v,.int .i64 ((n:Int)-1)] t (fun w m=>w=.int .i64 (dH.go (a.take n) (b.take n))/\m=t):=by
 intro n;induction n with
 | zero=>
  intro _ _;refine zes ?_;simp only[uL,wB,rA,uZ,uW,Sy,iA,iD];grind [dH.go]
 | succ n ih=>
  intro hn hn2;obtain⟨x,hx⟩:=getElem?_of_lt (l:=a) (i:=n) (by omega);obtain⟨y,hy⟩:=getElem?_of_lt (l:=b) (i:=n) (by omega);obtain⟨c,off,g1,g2⟩:=hu.idx gG hx;obtain⟨d,off',g3,g4⟩:=hv.idx gG hy;have e1:(((n+1:Nat):Int)-1)=(n:Int):=by omega
  have key:∀(a b:List Nat) (x y:Nat),a.length=b.length->dH.go (a++[x]) (b++[y])=if x<y then -1 else if y<x then 1 else dH.go a b:=by
   intro a;induction a with
   | nil=>
    grind [dH.go]
   | cons p a ih=>
    intro b x y h
    cases b with
    | nil=>simp at h
    | cons q b=>
     grind [dH.go]
  have e2:dH.go (a.take (n+1)) (b.take (n+1))=if x<y then -1 else if y<x then 1 else dH.go (a.take n) (b.take n):=by
   grind [List.take_add_one]
  rw[e1,e2];refine zes ?_;simp (disch:=omega) only[uL,wB,rA,uZ,uW,Sy,iA,xA,fB,wC,iD,oN,g1,g2,g3,g4,wrap_i64]
  grind
theorem zfp{a b:List Nat}{u v:zA}(ha:a.length<1125899906842624)(hu:lA t 1 (vB .u32 a) u)(hv:lA t 1 (vB .u32 b) v):rB yA F 295 [u,v] t=some (.int .i64 (dH a b)):=by
 refine dB.2 (w295 ?_);simp (disch:=omega) only[uI,uZ,uW,t295,iA,hu.len,hv.len,xA,fB,nD,wC,oN,wrap_i64];unfold dH;by_cases hl:a.length=b.length
 ·rw[yaa (by omega),yaa (by omega)];have:=zda hu hv hl a.length (ybk _) ha
  grind
 grind
def pI(neg:Bool)(l:List Nat):Bool:=if l=[]then !neg else decide (l.length<=1024)&&decide (l.getLast?≠some 0)
theorem Mb{neg:Bool}{l:List Nat}{v:zA}(hl:l.length<1125899906842624)(hv:lA t 1 (vB .u16 l) v):rB yA F 250 [.agg [.bool neg,v]] t=some (.bool (pI neg l)):=by
 refine dB.2 (w250 ?_);unfold pI;by_cases h0:l=[]
 ·subst h0;simp only[uI,uH,rA,aA,uZ,uW,t250,iA,hv.len,xA,fB,nD,wE];simp
 ·obtain⟨m,x,rfl⟩:=Cg h0;have hx:(m++[x])[m.length]?=some x:=by simp
  obtain⟨b,off,g1,g2⟩:=hv.idx wI hx;have e1:(((m++[x]).length:Nat):Int)-1=(m.length:Int):=by simp
  have hlm:m.length<1125899906842624:=by omega
  simp (disch:=omega) only[uI,uH,rA,aA,uZ,uW,t250,iA,hv.len,xA,fB,nD,wE,iD,wrap_i64,e1,g1,g2];rw[yaa (by omega),yaa h0];by_cases h1:(m++[x]).length<=1024
  ·rw[yab (by omega)];simp only[h1,decide_true,ycn];by_cases hx0:x=0
   ·grind [jX]
   ·have:tA (x:Int) 0=false:=by
     grind [nV]
    simp_all
  grind
theorem Xm{neg:Bool}{l:List Nat}{v:zA}(hv:lA t 1 (vB .u16 l) v):rB yA F 251 [.agg [.bool neg,v]] t=some (.bool (!neg&&decide (l=[1]))):=by
 refine dB.2 (w251 ?_)
 cases neg with
 | true=>simp[uQ48,uI,uH,wB,rA,aA,t251,iA]
 | false=>
  simp only[uQ48,uI,uH,wB,rA,aA,t251,iA,hv.len,xA,fB,nD,wE];rw[yab (by rfl)];by_cases h1:l.length=1
  ·obtain⟨x,rfl⟩:∃x,l=[x]:=by
    cases l with
    | nil=>simp at h1
    | cons x r=>simp_all
   obtain⟨b,off,g1,g2⟩:=hv.idx wI (i:=0) (x:=x) (by simp);simp only[Int.natCast_zero]at g1;rw[yab (by simp)];simp only[g1,g2,xA,fB];by_cases hx:x=1
   ·grind [jX]
   ·have:tA (x:Int) 1=false:=by
     grind [nV]
    simp_all
  ·rw[yaa (by omega)];have:l≠[1]:=by grind
   grind
end Go.Proofs
namespace Go.Am
def kG:List Nat->List Nat
 | []=>[]
 | [a]=>[a]
 | a::b::l=>(a+65536*b)::kG l
theorem wS:∀l:List Nat,(kG l).length=(l.length+1) / 2
 | []=>rfl
 | [a]=>by simp[kG]
 | a::b::l=>by simp[kG,wS l];omega
theorem Sc:∀l:List Nat,val 4294967296 (kG l)=val 65536 l
 | []=>rfl
 | [a]=>by simp[kG,val]
 | a::b::l=>by simp only[kG,val,Sc l];omega
def Lm:∀ {l:List Nat},qB 65536 l->qB 4294967296 (kG l)
 | [],_=>fun x hx=>(by cases hx)
 | [a],h=>fun x hx=>by
  have:=h a (by simp)
  grind [kG]
 | a::b::l,h=>fun x hx=>by
  have h1:=h a (by simp);have h2:=h b (by simp);rcases ybs.1 hx with rfl | hx
  ·omega
  ·exact Lm (l:=l) (fun y hy=>h y (by simp[hy])) x hx
def Ox:∀ {l:List Nat},norm l->norm (kG l)
 | [],_=>fun h=>(h rfl).elim
 | [a],h=>by
  grind [kG]
 | [a,b],h=>by
  intro _;have:=h (by simp)
  grind [kG]
 | a::b::c::l,h=>by
  intro _;have hn:norm (c::l):=by
   intro hne;have:=h (by simp)
   simp_all
  have hne:kG (c::l)≠[]:=by
   grind [wS]
  have:=Ox (l:=c::l) hn hne
  grind [kG]
def Vt:∀(l:List Nat) (x:Nat),l.length%2=0->kG (l++[x])=kG l++[x]
 | [],x,_=>rfl
 | [a],x,h=>by simp at h
 | a::b::l,x,h=>by
  show(a+65536*b)::kG (l++[x])=(a+65536*b)::(kG l++[x]);rw[Vt l x (by grind)]
theorem FD:∀(l:List Nat) (a x:Nat),l.length%2=0->kG (l++[a,x])=kG l++[a+65536*x]
 | [],a,x,_=>rfl
 | [b],a,x,h=>by simp at h
 | c::b::l,a,x,h=>by
  show(c+65536*b)::kG (l++[a,x])=(c+65536*b)::(kG l++[a+65536*x]);rw[FD l a x (by grind)]
def yI:List Nat->List Nat
 | []=>[]
 | w::l=>w%65536::w / 65536::yI l
theorem Mh:∀l:List Nat,(yI l).length=2*l.length
 | []=>rfl
 | w::l=>by simp[yI,Mh l];omega
def AA:∀l:List Nat,val 65536 (yI l)=val 4294967296 l
 | []=>rfl
 | w::l=>by
  simp only[yI,val,AA l];omega
def NG:∀ {l:List Nat},qB 4294967296 l->qB 65536 (yI l)
 | [],_=>fun x hx=>(by cases hx)
 | w::l,h=>fun x hx=>by
  have h1:=h w (by simp);rcases ybs.1 hx with rfl | hx
  ·omega
  ·rcases ybs.1 hx with rfl | hx
   ·omega
   ·exact NG (l:=l) (fun y hy=>h y (by simp[hy])) x hx
theorem Ib:∀(l:List Nat) (w:Nat),yI (l++[w])=yI l++[w%65536,w / 65536]
 | [],w=>rfl
 | a::l,w=>by simp[yI,Ib l w]
theorem BQ{l:List Nat}{w:Nat}(hw:w≠0):zE (yI (l++[w]))=if w / 65536=0 then yI l++[w%65536]else yI (l++[w]):=by
 rw[Ib];split
 ·rename_i h;rw[h,show yI l++[w%65536,0]=(yI l++[w%65536])++[0] by simp,Mx];refine Bm fun _=>?_
  grind
 ·rename_i h;refine Bm fun _=>?_
  grind
end Go.Am
namespace Go.Proofs
open Go Go.Am
variable [lC]
variable {t:Tr qA}
theorem set_append_right{l m:List Nat}{i x:Nat}(h:l.length=i):(l++m).set i x=l++m.set 0 x:=by
 simp_all
theorem TN{l:List Nat}{v:zA}{b:Nat}{Q:aB}(hv:lA t 1 (vB .u16 l) v)(hl:l.length<1000000)(hlt:qB 65536 l)(hbase:yA.base<=b)(hb:t.get b=none)
  (hQ:∀t' v',xB t t'->lA t' 1 (vB .u32 (kG l)) v'->Q v' t'):∀(k i:Nat) (t':Tr qA),i+k=l.length->xB t t'->tF t' b .u32 (kG (l.take i)++List.replicate ((l.length+1) / 2-(i+1) / 2) 0) →
  jp 253 2 [.slice b 0 ((l.length+1) / 2) ((l.length+1) / 2),v,.int .i64 l.length,.int .i64 i] t' Q:=by
 intro k;induction k with
 | zero=>
  intro i t' hi ht ho;refine zex ?_;simp only[uL,uH,wB,rA,sB,uZ,uW,Td,iA,wC];rw[yaa (by omega)];rw[yca (by omega),show(l.length+1) / 2-(i+1) / 2=0 by omega,List.replicate_zero,ycd]at ho;refine hQ _ _ ht ?_;have:=ho.all (ybk _)
  grind [wS]
 | succ k ih=>
  intro i t' hi ht ho;obtain⟨x,hx⟩:=getElem?_of_lt (l:=l) (i:=i) (by omega);have hxlt:x<65536:=sI hlt hx;obtain⟨c,off,g1,g2⟩:=(hv.mono ht).idx wI hx;have htake:l.take (i+1)=l.take i++[x]:=by grind [List.take_add_one]
  have hlen:(l.take i).length=i:=by grind
  obtain⟨y,hy,hnew⟩:∃y,(kG (l.take i)++List.replicate ((l.length+1) / 2-(i+1) / 2) 0)[i / 2]?=some y/\y<4294967296/\Nat.lor y (x*2^(16*(i%2)))<4294967296 ∧
    (kG (l.take i)++List.replicate ((l.length+1) / 2-(i+1) / 2) 0).set (i / 2) (Nat.lor y (x*2^(16*(i%2))))=kG (l.take (i+1))++List.replicate ((l.length+1) / 2-(i+1+1) / 2) 0:=by
   rcases Nat.mod_two_eq_zero_or_one i with he | ho1
   ·have hp:(kG (l.take i)).length=i / 2:=by grind [wS]
    refine⟨0,?_,by decide,?_,?_⟩
    ·rw[ybp (by omega),hp,Nat.sub_self,List.getElem?_replicate,yab (by omega)]
    ·rw[he];simp;omega
    ·rw[set_append_right hp,he,htake,Vt _ _ (by omega)];have:Nat.lor 0 (x*2^(16*0))=x:=by simp_all
     rw[this];obtain⟨r,hr⟩:∃r,(l.length+1) / 2-(i+1) / 2=r+1:=⟨(l.length+1) / 2-(i+1) / 2-1,by omega⟩;rw[hr,List.replicate_succ,List.set_cons_zero,show(l.length+1) / 2-(i+1+1) / 2=r by omega];simp
   ·obtain⟨p,a,hpa⟩:=Cg (l:=l.take i) (by grind);have hpl:p.length=i-1:=by grind
    have hpe:p.length%2=0:=by omega
    have ha:a<65536:=hlt a (List.mem_of_mem_take (by simp_all:a∈l.take i));have hp:(kG p).length=i / 2:=by grind [wS]
    rw[hpa,Vt _ _ hpe];have hlor:Nat.lor a (x*2^(16*1))=a+65536*x:=by
     show a ||| x*2^(16*1)=_;rw[Nat.or_comm];have:=Ek (a:=x) (b:=a) (n:=16) (by omega);show Nat.lor (x*2^16) a=_;omega
    refine⟨a,?_,by omega,?_,?_⟩
    all_goals grind [set_append_right,FD]
  obtain⟨hy1,hy2,hy3⟩:=hnew;have hwlen:(kG (l.take i)++List.replicate ((l.length+1) / 2-(i+1) / 2) 0).length=(l.length+1) / 2:=by
   grind [wS]
  have g3:bC yA 268 (.slice b 0 ((l.length+1) / 2) ((l.length+1) / 2)) (.int .i64 ((i / 2:Nat):Int))=some (.ptr b (0+i / 2*1)):=Dv gG (by omega);rw[show 0+i / 2*1=i / 2 by omega]at g3;have g4:=ho.load hy qH rfl;obtain⟨t2,g5,g6,g7⟩:=ho.store (C:=yA) hbase (j:=i / 2) (by omega) (Nat.lor y (x*2^(16*(i%2)))) qH rfl;rw[hy3]at g6;refine zex ?_;have e1:Int.tdiv (i:Int) 2=((i / 2:Nat):Int):=by simp_all
  have e2:Int.tmod (i:Int) 2=((i%2:Nat):Int):=by grind
  have hm:=ycy i (show 0<2 by decide);simp (disch:=omega) only[uL,uH,wB,rA,sB,uZ,uW,Td,iA,wC,g1,g2,xA,fB,wrap_i64,iY,e1,e2,g3,g4];rw[yab (by omega)];have e3:zU .u32 (x:Int) (16*((i%2:Nat):Int))=some (.int .u32 ((x*2^(16*(i%2)):Nat):Int)):=by
   rcases Nat.mod_two_eq_zero_or_one i with h | h<;>rw[h]
   ·simp[zU,Bo,sL];rw[iY (by omega) (by omega)]
   ·have:zU .u32 (x:Int) (16*((1:Nat):Int))=some (.int .u32 (jA .u32 ((x:Int)*65536))):=rfl
    grind [iY]
  rw[e3];have hb2:x*2^(16*(i%2))<4294967296:=by
   rcases Nat.mod_two_eq_zero_or_one i with h | h<;>rw[h]<;>omega
  simp only[xA,fB];rw[yU (show y<yH .u32 from hy1) (show x*2^(16*(i%2))<yH .u32 from hb2)];simp only[xA,fB];intro d _ _;rw[g5];simp only[xA];have:=ih (i+1) t2 (by omega) (ht.off hb g7) g6
  simp_all
theorem Vs{l:List Nat}{v:zA}{Q:aB}(hv:lA t 1 (vB .u16 l) v)(hl:l.length<1000000)(hlt:qB 65536 l)
  (hQ:∀t' v',xB t t'->lA t' 1 (vB .u32 (kG l)) v'->Q v' t'):Wc yA F 253 [v] t Q:=by
 refine w253 ?_;have e1:Int.tdiv ((l.length:Int)+1) 2=(((l.length+1) / 2:Nat):Int):=by grind
 simp (disch:=omega) only[uI,uZ,uW,t253,iA,hv.len,xA,fB,nD,wrap_i64,e1];intro b hb hbase;obtain⟨t',g1,g2,g3,_⟩:=sZ (C:=yA) (k:=.u32) vP rfl qH rfl rfl (by decide) (n:=(l.length+1) / 2) (by omega) hb;rw[g1];simp only[xA];exact TN hv hl hlt hbase hb hQ l.length 0 t' (by omega) g3 (by grind [kG])
end Go.Proofs
namespace Go.Proofs
open Go Go.Am
variable [lC]
variable {t:Tr qA}
theorem zf7{n:Nat}(h:n<4294967296):n / 2147483648=if n.testBit 31 then 1 else 0:=by
 grind
theorem Sk{n:Nat}(h:n<4294967296):n.testBit 31=decide (2147483648<=n):=by
 grind
theorem AF{x:Nat}(h:x<4294967296):Bg (.int .u32 (x:Int))=some (.int .u32 (Nat.xor 4294967295 x:Nat)):=by
 grind [Bg,zA.asIntK,pA,Nat.beq,kLo,vE,yU,yH]
theorem zaz{x y b:Nat}(hx:x<4294967296)(hy:y<4294967296)(hb:b<2) :
  rB yA F 312 [.int .u32 x,.int .u32 y,.int .u32 b] t=some (.tup [.int .u32 (((x+8589934592-y-b)%4294967296:Nat):Int),.int .u32 (((if x<y+b then 1 else 0):Nat):Int)]):=by
 refine dB.2 (w312 ?_);obtain⟨d,hd⟩:∃d,d=(x+8589934592-y-b)%4294967296:=⟨_,rfl⟩;have hdl:d<4294967296:=by omega
 have e1:jA .u32 (jA .u32 ((x:Int)-y)-b)=(d:Int):=by
  grind [dS]
 have hn1:Nat.xor 4294967295 x<4294967296:=Nat.xor_lt_two_pow (n:=32) (by decide) hx;have hn2:Nat.xor x y<4294967296:=Nat.xor_lt_two_pow (n:=32) hx hy;have hn3:Nat.xor 4294967295 (Nat.xor x y)<4294967296:=Nat.xor_lt_two_pow (n:=32) (by decide) hn2;have hn4:Nat.land (Nat.xor 4294967295 x) y<4294967296:=yam Nat.and_le_left hn1;have hn5:Nat.land (Nat.xor 4294967295 (Nat.xor x y)) d<4294967296:=yam Nat.and_le_left hn3
 have hn6:Nat.lor (Nat.land (Nat.xor 4294967295 x) y) (Nat.land (Nat.xor 4294967295 (Nat.xor x y)) d)<4294967296:=Nat.or_lt_two_pow (n:=32) hn4 hn5;simp only[uL,t312,iA,e1];rw[AF hx];simp only[xA,fB];rw[JD,yU (k:=.u32) hn1 hy];simp only[xA,fB];rw[yU (k:=.u32) hx hy];simp only[xA,fB];rw[AF hn2];simp only[xA,fB];rw[JD,yU (k:=.u32) hn3 hdl]
 simp only[xA,fB];rw[yU (k:=.u32) hn4 hn5];simp only[xA,fB];have e2:Int.fdiv ((Nat.lor (Nat.land (Nat.xor 4294967295 x) y) (Nat.land (Nat.xor 4294967295 (Nat.xor x y)) d):Nat):Int) 2147483648=(((if x<y+b then 1 else 0):Nat):Int):=by
  rw[show(2147483648:Int)=((2147483648:Nat):Int) from rfl,dZ,zf7 hn6];congr 1;have tb:(Nat.lor (Nat.land (Nat.xor 4294967295 x) y) (Nat.land (Nat.xor 4294967295 (Nat.xor x y)) d)).testBit 31=decide (x<y+b):=by
   show((4294967295 ^^^ x) &&& y ||| (4294967295 ^^^ (x ^^^ y)) &&& d).testBit 31=_;rw[Nat.testBit_or,Nat.testBit_and,Nat.testBit_and,Nat.testBit_xor,Nat.testBit_xor,Nat.testBit_xor,Sk hx,Sk hy,Sk hdl];have:(4294967295:Nat).testBit 31=true:=by decide
   rw[this];by_cases c1:2147483648<=x<;>by_cases c2:2147483648<=y<;>by_cases c3:2147483648<=d<;>by_cases c4:x<y+b<;>simp only[c1,c2,c3,c4,decide_true,decide_false,Bool.xor_true,Bool.xor_false,Bool.true_xor,Bool.false_xor,Bool.not_true,ycl,Bool.and_true,yay,Bool.or_true,Bool.or_false,Bool.xor_self]<;>omega
  simp_all
 simp_all
theorem zdj{x y c:Nat}(hx:x<4294967296)(hy:y<4294967296)(hc:c<2) :
  rB yA F 317 [.int .u32 x,.int .u32 y,.int .u32 c] t=some (.tup [.int .u32 (((x+y+c)%4294967296:Nat):Int),.int .u32 (((x+y+c) / 4294967296:Nat):Int)]):=by
 refine dB.2 (w317 ?_);have e0:((x:Int)+y)+c=((x+y+c:Nat):Int):=by omega
 simp (disch:=omega) only[t317,iA,vG]
 grind [dS]
theorem zcz{h l d:Nat}(hh:h<d)(hl:l<4294967296)(hd:d<4294967296) :
  rB yA F 269 [.int .u32 h,.int .u32 l,.int .u32 d] t=some (.tup [.int .u32 (((h*4294967296+l) / d:Nat):Int),.int .u32 (((h*4294967296+l)%d:Nat):Int)]):=by
 refine dB.2 (w269 ?_);simp only[t269,iA,oN,iD];rw[yab (by omega),yaa (by omega)];refine j269_7 ?_;have e1:(h:Int)*4294967296=((h*4294967296:Nat):Int):=by omega
 have hq:(h*4294967296+l) / d<4294967296:=ycu (by
  omega)
 have hr:(h*4294967296+l)%d<d:=ycy _ (by omega);simp (disch:=omega) only[uE,zd1,iA,vG,e1];have e2:cI Nat.lor .u64 ((h*4294967296:Nat):Int) (l:Int)=some (.int .u64 ((h*4294967296+l:Nat):Int)):=by
  rw[yU (k:=.u64) (show h*4294967296<yH .u64 by show _<18446744073709551616;omega) (show l<yH .u64 by show _<18446744073709551616;omega)];have:=Ek (a:=h) (b:=l) (n:=32) hl;rw[show h*4294967296=h*2^32 by rfl,this]
 rw[e2];simp only[xA,fB];rw[Py (k:=.u64) (by omega) (by
  grind [vG]),Kq (k:=.u64) (by omega)]
 grind [xA,fB,iY]
theorem zb9(v:Nat)(hv:v<256):∃k,k<9/\xD [0,1,2,2,3,3,3,3,4,4,4,4,4,4,4,4,5,5,5,5,5,5,5,5,5,5,5,5,5,5,5,5,6,6,6,6,6,6,6,6,6,6,6,6,6,6,6,6,6,6,6,6,6,6,6,6,6,6,6,6,6,6,6,6,7,7,7,7,7,7,7,7,7,7,7,7,7,7,7,7,7,7,7,7,7,7,7,7,7,7,7,7,7,7,7,7,7,7,7,7,7,7,7,7,7,7,7,7,7,7,7,7,7,7,7,7,7,7,7,7,7,7,7,7,7,7,7,7,8,8,8,8,8,8,8,8,8,8,8,8,8,8,8,8,8,8,8,8,8,8,8,8,8,8,8,8,8,8,8,8,8,8,8,8,8,8,8,8,8,8,8,8,8,8,8,8,8,8,8,8,8,8,8,8,8,8,8,8,8,8,8,8,8,8,8,8,8,8,8,8,8,8,8,8,8,8,8,8,8,8,8,8,8,8,8,8,8,8,8,8,8,8,8,8,8,8,8,8,8,8,8,8,8,8,8,8,8,8,8,8,8,8,8,8,8,8,8,8,8,8,8,8,8,8,8,8] v=some k/\(v=0/\k=0\/0<k/\2^(k-1)<=v/\v<2^k):=by
 have h:∀v:Fin 256,(xD [0,1,2,2,3,3,3,3,4,4,4,4,4,4,4,4,5,5,5,5,5,5,5,5,5,5,5,5,5,5,5,5,6,6,6,6,6,6,6,6,6,6,6,6,6,6,6,6,6,6,6,6,6,6,6,6,6,6,6,6,6,6,6,6,7,7,7,7,7,7,7,7,7,7,7,7,7,7,7,7,7,7,7,7,7,7,7,7,7,7,7,7,7,7,7,7,7,7,7,7,7,7,7,7,7,7,7,7,7,7,7,7,7,7,7,7,7,7,7,7,7,7,7,7,7,7,7,7,8,8,8,8,8,8,8,8,8,8,8,8,8,8,8,8,8,8,8,8,8,8,8,8,8,8,8,8,8,8,8,8,8,8,8,8,8,8,8,8,8,8,8,8,8,8,8,8,8,8,8,8,8,8,8,8,8,8,8,8,8,8,8,8,8,8,8,8,8,8,8,8,8,8,8,8,8,8,8,8,8,8,8,8,8,8,8,8,8,8,8,8,8,8,8,8,8,8,8,8,8,8,8,8,8,8,8,8,8,8,8,8,8,8,8,8,8,8,8,8,8,8,8,8,8,8,8,8] v.val).elim false (fun k=>decide (k<9)&&(decide (v.val=0)&&decide (k=0)||decide (0<k)&&decide (2^(k-1)<=v.val)&&decide (v.val<2^k)))=true:=by decide +kernel
 have hv:=h ⟨v,hv⟩;simp only[]at hv;generalize xD _ v=r at hv ⊢
 cases r with
 | none=>simp at hv
 | some k=>
  grind
def BL (x k:Nat):Prop:=x=0/\k=0\/0<k/\2^(k-1)<=x/\x<2^k
theorem GP{x s:Nat}(hx:x<256)(hs:s<100):∃k,k<=8/\BL x k/\jp 315 15 [.int .u32 x,.int .i64 s] t (fun v m=>v=.int .i64 ((s+k:Nat):Int)/\m=t):=by
 obtain⟨k,hk,h1,h2⟩:=zb9 x hx;refine⟨k,by omega,h2,zhy ?_⟩;simp (disch:=omega) only[uU,uZ,uY,uW,BA,iA,Dk];unfold yL;rw[vL,pA];have:(zA.int .u8 (x:Int)).asNat=some x:=rfl;rw[this,pA];simp only[zA.asStr];rw[show(mC.desc ⟨.string,1,16,[.str []],true⟩).isString=true from rfl,vE]
 grind [pA,xA,fB,wrap_i64]
theorem GO{x s:Nat}(hx:x<65536)(hs:s<90):∃k,k<=16/\BL x k/\jp 315 9 [.int .u32 x,.int .i64 s] t (fun v m=>v=.int .i64 ((s+k:Nat):Int)/\m=t):=by
 by_cases h:256<=x
 ·obtain⟨k,h1,h2,h3⟩:=GP (t:=t) (x:=x / 256) (s:=s+8) (by omega) (by omega);refine⟨k+8,by omega,?_,zel ?_⟩
  ·rcases h2 with h2 | ⟨g1,g2,g3⟩
   ·omega
   ·refine .inr ⟨by omega,?_,?_⟩
    ·rw[show k+8-1=(k-1)+8 by omega,Nat.pow_add];omega
    grind
  ·simp (disch:=omega) only[uZ,uW,Sp,iA,iD,wrap_i64]
   grind
 ·obtain⟨k,h1,h2,h3⟩:=GP (t:=t) (x:=x) (s:=s) (by omega) (by omega);refine⟨k,by omega,h2,zel ?_⟩;simp only[uZ,uW,Sp,iA,iD];grind
theorem zca{x:Nat}(hx:x<4294967296):∃k,k<=32/\BL x k/\rB yA F 315 [.int .u32 x] t=some (.int .i64 (k:Int)):=by
 by_cases h:65536<=x
 ·obtain⟨k,h1,h2,h3⟩:=GO (t:=t) (x:=x / 65536) (s:=16) (by omega) (by omega);refine⟨k+16,by omega,?_,dB.2 (w315 ?_)⟩
  ·rcases h2 with h2 | ⟨g1,g2,g3⟩
   ·omega
   ·refine .inr ⟨by omega,?_,?_⟩
    ·rw[show k+16-1=(k-1)+16 by omega,Nat.pow_add];omega
    grind
  ·simp only[uZ,t315,iA,iD]
   grind
 ·obtain⟨k,h1,h2,h3⟩:=GO (t:=t) (x:=x) (s:=0) (by omega) (by omega);refine⟨k,by omega,h2,dB.2 (w315 ?_)⟩;simp only[uZ,t315,iA,iD];grind
theorem FY{x:Nat}(hx:x<4294967296)(h0:0<x):∃s:Nat,s<32/\2147483648<=x*2^s/\x*2^s<4294967296/\rB yA F 307 [.int .u32 x] t=some (.int .i64 (s:Int)):=by
 obtain⟨k,h1,h2,h3⟩:=zca (t:=t) hx;rcases h2 with h2 | ⟨g1,g2,g3⟩
 ·omega
 ·refine⟨32-k,by omega,?_,?_,dB.2 (w307 ?_)⟩
  ·have:2^(k-1)*2^(32-k)=2147483648:=by rw[<- Nat.pow_add,show k-1+(32-k)=31 by omega]
   rw[<- this];exact ybi _ g2
  ·have:2^k*2^(32-k)=4294967296:=by rw[<- Nat.pow_add,show k+(32-k)=32 by omega]
   rw[<- this];exact Nat.mul_lt_mul_of_pos_right g3 (Nat.pow_pos (Nat.succ_pos 1))
  ·simp (disch:=omega) only[uI,uZ,uW,t307,iA,q315,h3,xA,fB,wrap_i64]
   grind
end Go.Proofs
namespace Go.Am
theorem Ni{p:List Nat}{n x:Nat}:(p++List.replicate (n+1) 0).set p.length x=(p++[x])++List.replicate n 0:=by
 grind
theorem mK(B:Nat)(l:List Nat)(x:Nat):val B (l++[x])=val B l+B^l.length*x:=by rw[Du];simp[val]
def gS{B:Nat}{l:List Nat}{x:Nat}(h:qB B l)(hx:x<B):qB B (l++[x]):=NJ h fun y hy=>by simp_all
def CH{B:Nat}{r w d:Nat}(hr:r<d)(hw:w<B):(r*B+w) / d<B:=by
 have hd:0<d:=by omega
 refine ycu ?_;have:(r+1)*B<=d*B:=ybi B hr
 grind
def bS{l:List Nat}{i x:Nat}(h:l[i]?=some x):l.take (i+1)=l.take i++[x]:=by rw[ydg,h];rfl
def drop_cons'{l:List Nat}{i x:Nat}(h:l[i]?=some x):l.drop i=x::l.drop (i+1):=by
 have hi:=(ybc.1 h);rw[ybl hi.1,hi.2]
end Go.Am
namespace Go.Am
open Go Go.RowKit
section
variable {t:Tr qA}{C:dA}
theorem UX{c:Tr zA}{sz:Nat}:∀(cl:List (List zA)) (off:Nat),(∀(i:Nat) cs,cl[i]?=some cs->cs.length=sz/\∀(j:Nat) a,cs[j]?=some a->c.get (off+i*sz+j)=some a)->c.many (cl.length*sz) off=some cl.flatten:=by
 intro cl;induction cl with
 | nil=>intro off _;simp;rfl
 | cons cs cl ih=>
  intro off h;obtain⟨h1,h2⟩:=h 0 cs (by simp);have hrest:=ih (off+sz) fun i cs' hi=>by
   obtain⟨g1,g2⟩:=h (i+1) cs' (by simp_all)
   grind
  have key:∀(n:Nat) (l r:List zA) (off:Nat),l.length=n->(∀(j:Nat) a,l[j]?=some a->c.get (off+j)=some a)->∀m,c.many m (off+n)=some r->c.many (n+m) off=some (l++r):=by
   intro n;induction n with
   | zero=>
    simp_all
   | succ n ihn=>
    intro l r off hl hg m hm
    cases l with
    | nil=>simp at hl
    | cons a l=>
     rw[show n+1+m=(n+m)+1 by omega,Tr.many_succ];have:=hg 0 a (by simp);rw[yct]at this;rw[this,pA,ihn l r (off+1) (by simp_all) (fun j b hj=>by
      have:=hg (j+1) b (by simp_all)
      grind) m (by grind)]
     rfl
  grind [Nat.add_mul]
theorem pJ.first{sz:Nat}{v:zA}{cl:List (List zA)}(h:pJ t sz v cl){n:Nat}:qR ⟨n,t⟩ sz cl.length v=some cl.flatten/\rX v=some cl.length:=by
 rcases h with⟨rfl,rfl⟩ | ⟨b,off,cap,rfl,_,⟨c,m,lo,h1,_⟩,h2⟩
 ·exact⟨rfl,rfl⟩
 ·refine⟨?_,rfl⟩;unfold qR;simp only[zA.asSlice];unfold mD;rw[h1,pA];simp only[qA.asCells,pA];refine UX cl off fun i cs hi=>?_;obtain⟨g1,c',m',lo',g2,g3⟩:=h2 i cs hi
  simp_all
theorem Yb{sz:Nat}:∀ {cl:List (List zA)},(∀(i:Nat) cs,cl[i]?=some cs->cs.length=sz)->cl.flatten.length=cl.length*sz:=by
 intro cl;induction cl with
 | nil=>grind
 | cons c cl ih=>
  intro h;rw[yas,ybg,ybn,ybo,ih fun i cs hi=>h (i+1) cs (by simp_all),h 0 c (by simp)];omega
theorem Cq{sz:Nat}:∀ {cl:List (List zA)},(∀(i:Nat) cs,cl[i]?=some cs->cs.length=sz)->∀(i j:Nat) cs a,cl[i]?=some cs->cs[j]?=some a->cl.flatten[i*sz+j]?=some a:=by
 intro cl;induction cl with
 | nil=>simp_all
 | cons c cl ih=>
  intro h i j cs a hi hj;have hc:=h 0 c (by simp);rw[yas]
  cases i with
  | zero=>
   grind
  | succ i=>
   rw[ybp (by grind),hc,show(i+1)*sz+j-sz=i*sz+j by grind];exact ih (fun i cs hi=>h (i+1) cs (by simp_all)) i j cs a (by simp_all) hj
theorem pJ.len{sz:Nat}{v:zA}{cl:List (List zA)}(h:pJ t sz v cl):∀(i:Nat) cs,cl[i]?=some cs->cs.length=sz:=by
 rcases h with⟨rfl,rfl⟩ | ⟨b,off,cap,rfl,_,_,h2⟩
 all_goals grind
theorem Ym{sz n:Nat}{cl:List (List zA)}{t':Tr qA}{lo:Option Lo}(hl:∀(i:Nat) cs,cl[i]?=some cs->cs.length=sz)(h:t'.get n=some (.cells (Tr.ofList cl.flatten) (oB cl.flatten) lo))(hlo:lo=none\/∃x,lo=some x/\x.es=sz):pJ t' sz (.slice n 0 cl.length cl.length) cl:=
 .inr ⟨n,0,cl.length,rfl,ybk _,⟨_,_,_,h,hlo⟩,fun i cs hi=>⟨hl i cs hi,_,_,_,h,fun j a hj=>by
  grind [Tr.get_ofList,Cq]⟩⟩
def NB (C:dA)(el:Nat):Prop:=∀y,C.tys.get el=some y->IV y=false
def NB.code{el:Nat}{z:mC}(h:NB C el)(hz:C.tys.get el=some z):aK el z=.sz z.size:=by
 unfold aK;rw[h z hz,yay];rfl
structure Hi (C:dA) (T el sz:Nat):Prop where
 ty:∃y,C.tys.get T=some y/\y.desc.asSlice=some el/\Nat.beq y.desc.tag 1=false
 el:∃y,C.tys.get el=some y/\y.size=sz/\oB y.zero=sz/\y.bytes<=500/\0<sz
structure cL (C:dA) (T e sz:Nat):Prop where
 ty:∃y,C.tys.get T=some y/\y.desc.asSlice=some e/\Nat.beq y.desc.tag 1=false
 el:∃y,C.tys.get e=some y/\y.size=sz/\oB y.zero=sz/\y.bytes<=500/\0<sz
 nb:NB C e
theorem NC{T el sz:Nat}(hT:cL C T el sz){l:List D}{x s:zA}(hx:lA t sz l x)(hl:l.length<1000000){n:Nat}(hn:t.get n=none)
  (hs:s=.nilslice\/∃b c m,s=.slice b 0 0 0/\t.get b=some (.cells c m none)) :
  ∃v H',sF C T T s x ⟨n,t⟩=some (v,H')/\lA H'.t sz l v/\xB t H'.t/\sE n t H'.t:=by
 obtain⟨⟨y,hy1,hy2,hy3⟩,⟨z,hz1,hz2,hz3,hz4,hz5⟩,hnb⟩:=hT;have hcode:=NB.code hnb hz1;obtain⟨cl,he,hd⟩:=hx;have hcl:=hd.length;obtain⟨hf,hlen⟩:=he.first (n:=n);have hall:=he.len
 have base:sF C T T s x ⟨n,t⟩=(match s.asSlice with
  | some s=>bif Nat.ble (s.2.2.1+cl.length) s.2.2.2 then fX C ⟨n,t⟩ z cl.length cl.flatten s else dX C ⟨n,t⟩ el z cl.length cl.flatten s
  | none=>pB (Nat.beq s.tag 5) (lV ⟨n,t⟩ el z cl.length cl.flatten)):=by
  unfold sF aV;grind [pA,vE]
 have hfl:oB cl.flatten=cl.length*sz:=by grind [pD,Yb]
 have ok:eX z 0 0 cl.length cl.flatten=true:=by
  unfold eX;have h1:Nat.blt (0+cl.length+0) 1000000000=true:=pC.2 (by omega);have h2:Nat.blt ((0+cl.length+0)*z.bytes) 1000000000=true:=pC.2 (by
   have:=ydb (show 0+cl.length+0<=1000000 by omega) hz4;omega)
  grind [pC,oC]
 have newT:∀(q:qA),xB t (t.set n q)/\sE n t (t.set n q):=fun q=>⟨fun c u hc=>by
   grind [Tr.get_set],fun c hc=>by rw[Tr.get_set,yaa hc]⟩
 rcases hs with rfl | ⟨b,c,m,rfl,hb⟩
 ·by_cases h0:cl.length=0
  ·have:cl=[]:=ycc.1 h0;subst this;refine⟨.nilslice,⟨n,t⟩,?_,⟨[],.inl ⟨rfl,rfl⟩,hd⟩,xB.refl _,sE.refl _ _⟩;rw[base];rfl
  ·refine⟨.slice n 0 cl.length cl.length,⟨n+1,t.set n (.cells (Tr.ofList cl.flatten) (oB cl.flatten) (some (aK el z)))⟩,?_,⟨cl,Ym hall (show(t.set n _).get n=_ by rw[Tr.get_set,yab rfl]) (.inr ⟨_,rfl,by rw[Gn,hz2]⟩),jC.mono (newT _).1 _ _ hd⟩,(newT _).1,(newT _).2⟩;rw[base];simp only[zA.asSlice];show pB true (lV ⟨n,t⟩ el z cl.length cl.flatten)=_;rw[vE];unfold lV;have:Nat.beq cl.length 0=false:=by
    grind [oC]
   rw[this,cond_false,ok];rfl
 ·by_cases h0:cl.length=0
  ·have:cl=[]:=ycc.1 h0;subst this;refine⟨.slice b 0 0 0,⟨n,t⟩,?_,⟨[],.inr ⟨b,0,0,rfl,ybk _,⟨c,m,none,hb,.inl rfl⟩,fun i cs hi=>by simp at hi⟩,hd⟩,xB.refl _,sE.refl _ _⟩;rw[base];rfl
  ·refine⟨.slice n 0 cl.length cl.length,⟨n+1,t.set n (.cells (Tr.ofList cl.flatten) (oB cl.flatten) (some (aK el z)))⟩,?_,⟨cl,Ym hall (show(t.set n _).get n=_ by rw[Tr.get_set,yab rfl]) (.inr ⟨_,rfl,by rw[Gn,hz2]⟩),jC.mono (newT _).1 _ _ hd⟩,(newT _).1,(newT _).2⟩;rw[base];simp only[zA.asSlice];have:Nat.ble (0+cl.length) 0=false:=by
    grind [mE]
   rw[this,cond_false];unfold dX;simp only[];rw[show ∀x,(!(Nat.beq 0 1&&x))=true from fun _=>rfl,vE,ok,vE];unfold mD;rw[hb,pA];simp only[qA.asCells,pA];unfold Fz;simp only[Nat.zero_mul];show ob (c.many 0 0) _=_;rw[show c.many 0 0=some [] from rfl,pA];rw[wH,yah,ybw];rfl
end
end Go.Am
namespace Go.Proofs
open Go Go.Am
variable [lC]
variable {t:Tr qA}
def el327:cL yA 268 270 1:=⟨⟨_,vP,rfl,rfl⟩,⟨_,qH,rfl,rfl,by decide,by decide⟩,fun y h=>by rw[qH]at h;cases h;rfl⟩
theorem lit0{T el:Nat}{y z:mC}(hT:yA.tys.get T=some y)(hel:y.desc.asSlice=some el)(hz:yA.tys.get el=some z)(hs:oB z.zero=z.size){b:Nat}(hb:t.get b=none) :
  ∃H',oG yA T 0 [] ⟨b,t⟩=some (.slice b 0 0 0,H')/\(∃c,H'.t.get b=some (.cells c 0 none))/\xB t H'.t:=by
 refine⟨yF ⟨b,t⟩ [] none,?_,⟨Tr.ofList [],?_⟩,?_⟩
 ·unfold oG;rw[hT,pA,hel,pA,hz,pA];have:(Nat.blt (0*z.size) 1000000&&Nat.beq (oB z.zero) z.size)=true:=by simp_all
  rw[this];rfl
 ·show(t.set b _).get b=_;rw[Tr.get_set,yab rfl];rfl
 ·intro c u hc;show(t.set b _).get c=_
  grind [Tr.get_set]
theorem zdb{l:List Nat}{v:zA}{Q:aB}(hv:lA t 1 (vB .u32 l) v)(hl:l.length<1000000)
  (hQ:∀t' v',xB t t'->lA t' 1 (vB .u32 l) v'->Q v' t'):Wc yA F 309 [v] t Q:=by
 refine w309 ?_;have e:(zN .eql).f yA 268 (.tmp 3) (.const (.slice none 0 0)) v .nilslice=some (.bool (Nat.beq v.tag 5)):=by
  obtain⟨cl,h1,_⟩:=hv;rcases h1 with⟨rfl,_⟩ | ⟨b,off,cap,rfl,_⟩
  ·kernel_rfl
  ·kernel_rfl
 simp only[uB,t309,iA,e,xA,Dd];split
 ·grind [dU,oC,xB.refl]
 ·intro b hb hbase;obtain⟨H1,g1,⟨c,g2⟩,g3⟩:=lit0 (t:=t) vP rfl qH rfl hb;rw[g1];simp only[xA];intro n hn _;obtain⟨u,H',g4,g5,g6,_⟩:=NC el327 (hv.mono g3) (by grind [nD]) hn (.inr ⟨b,c,0,rfl,g2⟩);rw[g4];simp only[xA];exact hQ _ _ (g3.trans g6) g5
def Iu(n:Nat):List Nat:=zE [n%4294967296,n / 4294967296]
theorem OC(n:Nat):val 4294967296 (Iu n)=n:=by grind [Iu,nQ,val]
theorem ZT{n:Nat}(h:n<18446744073709551616):qB 4294967296 (Iu n):=iS fun x hx=>by
 grind
theorem UI(n:Nat):norm (Iu n):=dQ _
theorem Cf{T el:Nat}{y z:mC}{k:IntKind}(hT:yA.tys.get T=some y)(hel:y.desc.asSlice=some el)(hz:yA.tys.get el=some z)(hzero:z.zero=[.int k 0])(hs:z.size=1)(x:Nat)(hk:True){b:Nat}(hb:t.get b=none) :
  ∃H',oG yA T 1 [(0,.int k (x:Int))] ⟨b,t⟩=some (.slice b 0 1 1,H')/\tF H'.t b k [x]/\xB t H'.t:=by
 refine⟨yF ⟨b,t⟩ [.int k (x:Int)] none,?_,⟨Tr.ofList [.int k (x:Int)],?_,fun j u hj=>?_⟩,?_⟩
 ·unfold oG;rw[hT,pA,hel,pA,hz,pA,hs,hzero];rfl
 ·show(t.set b _).get b=_;rw[Tr.get_set,yab rfl];rfl
 ·grind [Tr.get_ofList]
 ·intro c u hc;show(t.set b _).get c=_
  grind [Tr.get_set]
theorem zb7{T el:Nat}{y z:mC}{k:IntKind}(hT:yA.tys.get T=some y)(hel:y.desc.asSlice=some el)(hz:yA.tys.get el=some z)(hzero:z.zero=[.int k 0])(hs:z.size=1)(x x':Nat){b:Nat}(hb:t.get b=none) :
  ∃H',oG yA T 2 [(0,.int k (x:Int)),(1,.int k (x':Int))] ⟨b,t⟩=some (.slice b 0 2 2,H')/\tF H'.t b k [x,x']/\xB t H'.t:=by
 refine⟨yF ⟨b,t⟩ [.int k (x:Int),.int k (x':Int)] none,?_,⟨Tr.ofList [.int k (x:Int),.int k (x':Int)],?_,fun j u hj=>?_⟩,?_⟩
 ·unfold oG;rw[hT,pA,hel,pA,hz,pA,hs,hzero];rfl
 ·show(t.set b _).get b=_;rw[Tr.get_set,yab rfl];rfl
 ·grind [Tr.get_ofList]
 ·intro c u hc;show(t.set b _).get c=_
  grind [Tr.get_set]
theorem za8{n:Nat}{Q:aB}(hn:n<18446744073709551616)(hQ:∀t' v',xB t t'->lA t' 1 (vB .u32 (Iu n)) v'->Q v' t'):Wc yA F 300 [.int .u64 n] t Q:=by
 refine w300 ?_;have e1:jA .u32 (n:Int)=((n%4294967296:Nat):Int):=by rw[dS];omega
 have e2:jA .u32 (Int.fdiv (n:Int) 4294967296)=((n / 4294967296:Nat):Int):=by
  rw[show Int.fdiv (n:Int) 4294967296=((n / 4294967296:Nat):Int) from dZ _ 4294967296,iY (by omega) (by omega)]
 simp only[t300,iA,e1,e2];intro b hb _;obtain⟨H',g1,g2,g3⟩:=zb7 (t:=t) (k:=.u32) vP rfl qH rfl rfl (n%4294967296) (n / 4294967296) hb;rw[g1];simp only[xA];obtain⟨v',h1,h2⟩:=Bl (l:=[n%4294967296,n / 4294967296]) (by simp) (g2.all (ybk _));simp only[Ey];have h1:rB yA F 270 [.slice b 0 2 2] H'.t=some v':=h1;rw[h1];exact hQ _ _ g3 h2
theorem OW{l:List Nat}{v:zA}{b:Nat}{neg:Bool}{Q:aB}(hv:lA t 1 (vB .u32 l) v)(hl:l.length<400000)(hlt:qB 4294967296 l)(hne:l≠[])(hnorm:norm l)(hbase:yA.base<=b)(hb:t.get b=none)
  (hQ:∀t' v',xB t t'->lA t' 1 (vB .u16 (zE (yI l))) v'->Q (.agg [.bool neg,v']) t'):∀(k i:Nat) (t':Tr qA),i+k=l.length->xB t t'->tF t' b .u16 (yI (l.take i)++List.replicate (2*k) 0) →
  jp 286 2 [.bool neg,.slice b 0 (2*l.length) (2*l.length),v,.int .i64 l.length,.int .i64 i,.bool false,.nilslice] t' Q:=by
 intro k;induction k with
 | zero=>
  intro i t' hi ht ho;refine zet ?_;rw[yca (by omega),yat,List.replicate_zero,ycd]at ho;obtain⟨m,w,rfl⟩:=Cg hne;have hw:w≠0:=by have:=hnorm (by simp);simp_all
  have hwlt:w<4294967296:=hlt w (by simp);have hul:(yI (m++[w])).length=2*(m++[w]).length:=Mh _;have hml:(m++[w]).length=m.length+1:=by simp
  have hlast:(yI (m++[w]))[2*m.length+1]?=some (w / 65536):=by
   grind [Ib]
  have hread:=ho.all (cap:=2*(m++[w]).length) (by omega);rw[hul]at hread;have g3:bC yA 27 (.slice b 0 (2*(m++[w]).length) (2*(m++[w]).length)) (.int .i64 ((2*m.length+1:Nat):Int))=some (.ptr b (0+(2*m.length+1)*1)):=Dv wI (by omega);rw[show 0+(2*m.length+1)*1=2*m.length+1 by omega]at g3;have g4:=ho.load hlast jM rfl;have e1:((2*(m++[w]).length:Nat):Int)-1=((2*m.length+1:Nat):Int):=by omega
  have hlen:cA (.slice b 0 (2*(m++[w]).length) (2*(m++[w]).length))=some (.int .i64 ((2*(m++[w]).length:Nat):Int)):=rfl;have hb2:2*m.length+1<1000000:=by omega
  simp (disch:=omega) only[uQ38,uI,uL,uH,wB,rA,gC,sB,uZ,uW,Sz,iA,wC,hlen,xA,fB,e1,wrap_i64,g3,g4,wE];rw[yaa (by omega)];by_cases hz:w / 65536=0
  ·rw[yab (by omega)];obtain⟨u,g5,g6⟩:=lD.front wI hread (k:=2*m.length+1) (by grind [nD]);rw[g5];simp only[xA];have hone:eE zA.one [.bool neg,u]=true:=by
    show(bif zA.one (.bool neg)then(bif zA.one u then true else false)else false)=true;rw[g6.one];rfl
   grind [Qx,BQ,Ib,Mh]
  ·rw[yaa (by omega)];have hone:eE zA.one [.bool neg,.slice b 0 (2*(m++[w]).length) (2*(m++[w]).length)]=true:=rfl
   grind [BQ]
 | succ k ih=>
  intro i t' hi ht ho;obtain⟨x,hx⟩:=getElem?_of_lt (l:=l) (i:=i) (by omega);have hxlt:x<4294967296:=sI hlt hx;obtain⟨c,off,g1,g2⟩:=(hv.mono ht).idx gG hx;have htl:(l.take i).length=i:=by grind
  have hpl:(yI (l.take i)).length=2*i:=by rw[Mh,htl]
  have hlen0:(yI (l.take i)++List.replicate (2*(k+1)) 0).length=2*l.length:=by grind
  have g3:∀j,j<2*l.length->bC yA 27 (.slice b 0 (2*l.length) (2*l.length)) (.int .i64 (j:Int))=some (.ptr b j):=by
   intro j hj;have:=Dv (b:=b) (off:=0) (cap:=2*l.length) wI hj
   simp_all
  have g3a:=g3 (2*i) (by omega);have g3b:=g3 (2*i+1) (by omega);obtain⟨t1,s1,s2,s3⟩:=ho.store (C:=yA) hbase (j:=2*i) (by omega) (x%65536) jM rfl;have hs2:(yI (l.take i)++List.replicate (2*(k+1)) 0).set (2*i) (x%65536)=(yI (l.take i)++[x%65536])++List.replicate (2*k+1) 0:=by
   grind [Ni]
  rw[hs2]at s2;obtain⟨t2,s4,s5,s6⟩:=s2.store (C:=yA) hbase (j:=2*i+1) (by simp[hpl]) (x / 65536) jM rfl;have hs5:((yI (l.take i)++[x%65536])++List.replicate (2*k+1) 0).set (2*i+1) (x / 65536)=yI (l.take (i+1))++List.replicate (2*k) 0:=by
   have hq:(yI (l.take i)++[x%65536]).length=2*i+1:=by simp[hpl]
   rw[<- hq,Ni,bS hx,Ib];simp
  rw[hs5]at s5;have e1:jA .u16 (x:Int)=((x%65536:Nat):Int):=by rw[NW];omega
  have e2:jA .u16 (Int.fdiv (x:Int) 65536)=((x / 65536:Nat):Int):=by
   rw[show Int.fdiv (x:Int) 65536=((x / 65536:Nat):Int) from dZ _ 65536,Ay (by omega) (by omega)]
  have e3:(2:Int)*(i:Int)=((2*i:Nat):Int):=by omega
  have e4:((2*i:Nat):Int)+1=((2*i+1:Nat):Int):=by omega
  refine zet ?_;simp (disch:=omega) only[uQ38,uI,uL,uH,wB,rA,gC,sB,uZ,uW,Sz,iA,wC,g1,g2,xA,fB,e1,e2,e3,e4,wrap_i64,g3a,g3b];rw[yab (by omega)];intro d _ _;rw[s1];simp only[xA];intro d' _ _;rw[s4];simp only[xA];have:=ih (i+1) t2 (by omega) ((ht.off hb s3).off hb s6) s5
  grind
theorem OV{l:List Nat}{v:zA}{neg:Bool}{Q:aB}(hv:lA t 1 (vB .u32 l) v)(hl:l.length<400000)(hlt:qB 4294967296 l)
  (hQ:∀t' v',xB t t'->lA t' 1 (vB .u16 (zE (yI (zE l)))) v'->Q (.agg [.bool (if zE l=[]then false else neg),v']) t'):Wc yA F 286 [.bool neg,v] t Q:=by
 refine w286 ?_;obtain⟨u,h1,h2⟩:=Bl (l:=l) (by omega) hv;have hsl:=Ud l;simp only[uI,uZ,uW,t286,iA,Ey,h1,xA,h2.len,fB,nD,wE];by_cases h0:zE l=[]
 ·rw[yab (by grind)];simp only[if_true];have:=hQ t .nilslice (xB.refl _) (by rw[h0];exact⟨[],.inl ⟨rfl,rfl⟩,by simp[yI,zE,vB,jC]⟩)
  simp_all
 ·have hpos:0<(zE l).length:=List.length_pos_iff.2 h0;rw[yaa (by omega)];have e1:(2:Int)*((zE l).length:Int)=((2*(zE l).length:Nat):Int):=by omega
  simp (disch:=omega) only[e1,wrap_i64];intro b hb hbase;obtain⟨t',g1,g2,g3,_⟩:=sZ (C:=yA) (k:=.u16) gU rfl jM rfl rfl (by decide) (n:=2*(zE l).length) (by omega) hb;rw[g1];simp only[xA];refine OW h2 (by omega) (iS hlt) h0 (dQ l) hbase hb (fun t2 v2 a b=>?_) (zE l).length 0 t' (by omega) g3 (by grind [yI])
  simp_all
end Go.Proofs
namespace Go.Proofs
open Go Go.Am
section
variable [lC]
variable {t:Tr qA}
theorem Cl{T el:Nat}(h:lD yA T el 1 false){b n cap j:Nat}(hj:j<n):bC yA T (.slice b 0 n cap) (.int .i64 (j:Int))=some (.ptr b j):=by
 have:=Dv (b:=b) (off:=0) (cap:=cap) h hj
 simp_all
theorem JC{x s:Nat}(hs:s<64)(hx:x*2^s<18446744073709551616):zU .u64 (x:Int) (s:Int)=some (.int .u64 ((x*2^s:Nat):Int)):=by
 unfold zU Bo;have:sL (s:Int)=some s:=rfl;rw[this,pA,pA];have hm:min s (IntKind.bits .u64)=s:=by show min s 64=s;omega
 rw[hm];have e:(x:Int)*Int.ofNat (2^s)=((x*2^s:Nat):Int):=by simp_all
 rw[e,vG (by omega) (by omega)]
def JB{x s:Nat}(hs:s<65):Cm .u64 (x:Int) (s:Int)=some (.int .u64 ((x / 2^s:Nat):Int)):=by
 unfold Cm Bo;have:sL (s:Int)=some s:=rfl;rw[this,pA,pA];have hm:min s (IntKind.bits .u64)=s:=by show min s 64=s;omega
 rw[hm];have e:Int.fdiv (x:Int) (Int.ofNat (2^s))=((x / 2^s:Nat):Int):=dZ x (2^s);rw[e]
def TG{s:Nat}(hs:s<32):2^s<=2147483648:=yao (n:=2) (by decide) (show s<=31 by omega)
def EO{s:Nat}(hs:s<=32):2^s*2^(32-s)=4294967296:=by rw[<- Nat.pow_add,show s+(32-s)=32 by omega]
def zhd{x s:Nat}(hs:s<=32):(x*2^s%4294967296)%2^s=0:=by
 rw[<- EO hs,ybh x,Nat.mul_mod_mul_left,Nat.mul_mod_right]
theorem QT{l:List Nat}{v:zA}{b s:Nat}{Q:aB}(hv:lA t 1 (vB .u32 l) v)(hl:l.length<900000)(hlt:qB 4294967296 l)(hs:s<32)(hbase:yA.base<=b)(hb:t.get b=none)
  (hQ:∀t' r,xB t t'->sE b t t'->tF t' b .u32 r->r.length=l.length+1->qB 4294967296 r->val 4294967296 r=val 4294967296 l*2^s->Q (.slice b 0 (l.length+1) (l.length+1)) t') :
  ∀(k i:Nat) (t':Tr qA) (P:List Nat) (c:Nat),i+k=l.length->xB t t'->sE b t t'->tF t' b .u32 ((P++[c])++List.replicate k 0)->P.length=i->c<2^s->qB 4294967296 P->val 4294967296 P+4294967296^i*c=val 4294967296 (l.take i)*2^s →
  jp 310 2 [.int .i64 s,.slice b 0 (l.length+1) (l.length+1),v,.int .i64 l.length,.int .i64 i] t' Q:=by
 have hp2:=TG hs
 intro k;induction k with
 | zero=>
  intro i t' P c hi ht hoff ho hP hc hPl hval;refine zeo ?_;simp only[uL,uE,wB,rA,sB,uZ,Su,iA,wC];rw[yaa (by omega)];rw[List.replicate_zero,ycd]at ho;refine hQ t' (P++[c]) ht hoff ho (by grind) (gS hPl (by omega)) ?_;rw[mK,hP,hval,yca (by omega)]
 | succ k ih=>
  intro i t' P c hi ht hoff ho hP hc hPl hval;obtain⟨x,hx⟩:=getElem?_of_lt (l:=l) (i:=i) (by omega);have hxlt:x<4294967296:=sI hlt hx;obtain⟨d,off,g1,g2⟩:=(hv.mono ht).idx gG hx;have hxs:x*2^s<4294967296*2^s:=Nat.mul_lt_mul_of_pos_right hxlt (Nat.pow_pos (by decide));have hxs2:x*2^s<18446744073709551616:=by
   omega
  have hlow:=zhd (x:=x) (s:=s) (by omega);have hlor:Nat.lor c (x*2^s%4294967296)=x*2^s%4294967296+c:=by
   have:=or_low (a:=x*2^s%4294967296) (b:=c) (n:=s) hc hlow
   simp_all [Nat.or_comm]
  have hsum:x*2^s%4294967296+c<4294967296:=by
   have h1:x*2^s%4294967296<4294967296:=ycy _ (by decide);have h2:(4294967296:Nat)%2^s=0:=by rw[<- EO (s:=s) (by omega),Nat.mul_mod_right]
   obtain⟨p,hp⟩:=Nat.dvd_of_mod_eq_zero hlow;obtain⟨q,hq⟩:=Nat.dvd_of_mod_eq_zero h2;have hpq:p<q:=by
    rcases yau p q with g | g
    ·exact g
    ·have:=ybv (2^s) g;omega
   have:=ybv (2^s) (show p+1<=q from hpq)
   grind
  have hhigh:x*2^s / 4294967296<2^s:=ycu (by omega);have hlen0:((P++[c])++List.replicate (k+1) 0).length=l.length+1:=by simp;omega
  have g3a:=Cl gG (b:=b) (n:=l.length+1) (cap:=l.length+1) (j:=i) (by omega);have g3b:=Cl gG (b:=b) (n:=l.length+1) (cap:=l.length+1) (j:=i+1) (by omega);have g4:=ho.load (j:=i) (x:=c) (by simp_all [ybp]) qH rfl;obtain⟨t1,s1,s2,s3⟩:=ho.store (C:=yA) hbase (j:=i) (by omega) (x*2^s%4294967296+c) qH rfl;have hs2:((P++[c])++List.replicate (k+1) 0).set i (x*2^s%4294967296+c)=(P++[x*2^s%4294967296+c])++List.replicate (k+1) 0:=by
   simp_all
  rw[hs2]at s2;obtain⟨t2,s4,s5,s6⟩:=s2.store (C:=yA) hbase (j:=i+1) (by grind) (x*2^s / 4294967296) qH rfl;have hs5:((P++[x*2^s%4294967296+c])++List.replicate (k+1) 0).set (i+1) (x*2^s / 4294967296)=((P++[x*2^s%4294967296+c])++[x*2^s / 4294967296])++List.replicate k 0:=by
   have hq:(P++[x*2^s%4294967296+c]).length=i+1:=by simp[hP]
   grind [Ni]
  rw[hs5]at s5;refine zeo ?_;have e1:jA .u32 ((x*2^s:Nat):Int)=((x*2^s%4294967296:Nat):Int):=by rw[dS];omega
  have e2:jA .u32 (Int.fdiv ((x*2^s:Nat):Int) 4294967296)=((x*2^s / 4294967296:Nat):Int):=by
   rw[show Int.fdiv ((x*2^s:Nat):Int) 4294967296=((x*2^s / 4294967296:Nat):Int) from dZ _ 4294967296];generalize x*2^s=z at hhigh ⊢;rw[iY (by omega) (by omega)]
  simp (disch:=omega) only[uL,uE,wB,rA,sB,uZ,Su,iA,wC,g1,g2,xA,fB,vG,g3a,g4];rw[yab (by omega),JC (by omega) hxs2];simp only[xA,fB,e1];have e3:cI Nat.lor .u32 (c:Int) ((x*2^s%4294967296:Nat):Int)=some (.int .u32 ((x*2^s%4294967296+c:Nat):Int)):=by
   rw[yU (k:=.u32) (x:=c) (y:=x*2^s%4294967296) (show c<yH .u32 by show c<4294967296;omega) (by show x*2^s%4294967296<4294967296;omega),hlor]
  rw[e3];simp only[xA,fB];intro _ _ _;rw[s1];simp (disch:=omega) only[xA,wrap_i64];rw[show(i:Int)+1=((i+1:Nat):Int) by omega,g3b];simp only[xA,e2];intro _ _ _;rw[s4];simp only[xA];refine ih (i+1) t2 _ _ (by omega) ((ht.off hb s3).off hb s6) ((hoff.trans s3).trans s6) s5 (by simp[hP]) hhigh (gS hPl hsum) ?_;rw[mK,hP,bS hx,mK,ybo,<- hval];have:(l.take i).length=i:=by simp;omega
  grind [Nat.div_add_mod]
theorem CJ{l:List Nat}{v:zA}{s:Nat}{Q:aB}(hv:lA t 1 (vB .u32 l) v)(hl:l.length<900000)(hlt:qB 4294967296 l)(hs:s<32)
  (hQ:∀t' b r,xB t t'->t.get b=none->yA.base<=b->tF t' b .u32 r->r.length=l.length+1->qB 4294967296 r->val 4294967296 r=val 4294967296 l*2^s->Q (.slice b 0 (l.length+1) (l.length+1)) t'):Wc yA F 310 [v,.int .i64 s] t Q:=by
 refine w310 ?_;simp (disch:=omega) only[uI,sB,uZ,t310,iA,hv.len,xA,fB,nD,wrap_i64];intro b hb hbase;obtain⟨t',g1,g2,g3,g4⟩:=sZ (C:=yA) (k:=.u32) vP rfl qH rfl rfl (by decide) (n:=l.length+1) (by omega) hb;rw[show(l.length:Int)+1=((l.length+1:Nat):Int) by omega,g1];simp only[xA];have:=QT hv hl hlt hs hbase hb (fun t' r a _ c d e f=>hQ t' b r a hb hbase c d e f) l.length 0 t' [] 0 (by omega) g3 g4 (by grind) rfl (Nat.pow_pos (by decide)) (fun x hx=>by cases hx) (by simp[val])
 exact this
theorem XT{l:List Nat}{v:zA}{b d:Nat}{Q:aB}(hv:lA t 1 (vB .u32 l) v)(hl:l.length<900000)(hlt:qB 4294967296 l)(hd:d<4294967296)(hd0:0<d)(hbase:yA.base<=b)(hb:t.get b=none)
  (hQ:∀t' v' q r,xB t t'->lA t' 1 (vB .u32 (zE q)) v'->qB 4294967296 q->q.length=l.length->r<d->val 4294967296 l=val 4294967296 q*d+r->Q (.tup [v',.int .u32 (r:Nat)]) t') :
  ∀(i:Nat) (t':Tr qA) (q:List Nat) (r:Nat),i<=l.length->xB t t'->tF t' b .u32 (List.replicate i 0++q)->q.length=l.length-i->qB 4294967296 q->r<d->val 4294967296 (l.drop i)=val 4294967296 q*d+r →
  jp 254 2 [v,.int .u32 d,.slice b 0 l.length l.length,.int .u32 r,.int .i64 ((i:Int)-1)] t' Q:=by
 intro i;induction i with
 | zero=>
  intro t' q r _ ht ho hq hql hr hval;refine zew ?_;simp only[uL,wB,rA,uX,uZ,uW,Tc,iA,iD];rw[yaa (by omega)];rw[List.replicate_zero,yah]at ho;have hread:=ho.all (ybk _);have hqlen:q.length=l.length:=by omega
  rw[hqlen]at hread;obtain⟨v',h1,h2⟩:=Bl (l:=q) (by omega) hread;simp only[Ey,h1,xA];grind
 | succ i ih=>
  intro t' q r hi ht ho hq hql hr hval;obtain⟨x,hx⟩:=getElem?_of_lt (l:=l) (i:=i) (by omega);have hxlt:x<4294967296:=sI hlt hx;obtain⟨c,off,g1,g2⟩:=(hv.mono ht).idx gG hx;have e1:((i+1:Nat):Int)-1=(i:Int):=by omega
  have g3:=Cl gG (b:=b) (n:=l.length) (cap:=l.length) (j:=i) (by omega);have hlen0:(List.replicate (i+1) 0++q).length=l.length:=by grind
  have hdiv:=zcz (t:=t') hr hxlt hd;have hqlt:(r*4294967296+x) / d<4294967296:=CH hr hxlt;have hrlt:(r*4294967296+x)%d<d:=ycy _ hd0;obtain⟨t1,s1,s2,s3⟩:=ho.store (C:=yA) hbase (j:=i) (by omega) ((r*4294967296+x) / d) qH rfl;have hs2:(List.replicate (i+1) 0++q).set i ((r*4294967296+x) / d)=List.replicate i 0++((r*4294967296+x) / d::q):=by
   grind [List.replicate_succ',set_append_right]
  rw[hs2]at s2;rw[e1];refine zew ?_;simp (disch:=omega) only[uL,wB,rA,uX,uZ,uW,Tc,iA,iD,g1,g2,xA,fB,q269,hdiv,zG,zA.asTup,pA,g3,wrap_i64];rw[yab (by omega)];simp only[dG,yaz,yba,xA,fB];intro _ _ _;rw[s1];simp only[xA];refine ih t1 _ _ (by omega) (ht.off hb s3) s2 (by grind) ?_ hrlt ?_
  ·intro y hy;rcases ybs.1 hy with rfl | hy
   ·exact hqlt
   ·exact hql y hy
  ·rw[drop_cons' hx]
   grind [val,Nat.div_add_mod]
theorem KX{l:List Nat}{v:zA}{d:Nat}{Q:aB}(hv:lA t 1 (vB .u32 l) v)(hl:l.length<900000)(hlt:qB 4294967296 l)(hd:d<4294967296)(hd0:0<d)
  (hQ:∀t' v' q r,xB t t'->lA t' 1 (vB .u32 (zE q)) v'->qB 4294967296 q->q.length=l.length->r<d->val 4294967296 l=val 4294967296 q*d+r->Q (.tup [v',.int .u32 (r:Nat)]) t'):Wc yA F 254 [v,.int .u32 d] t Q:=by
 refine w254 ?_;simp (disch:=omega) only[uI,uZ,uW,t254,iA,hv.len,xA,fB,nD,wrap_i64];intro b hb hbase;obtain⟨t',g1,g2,g3,g4⟩:=sZ (C:=yA) (k:=.u32) vP rfl qH rfl rfl (by decide) (n:=l.length) (by omega) hb;rw[g1];simp only[xA];exact XT hv hl hlt hd hd0 hbase hb hQ l.length t' [] 0 (ybk _) g3 (by simp_all) (by simp) (fun x hx=>by cases hx) hd0 (by simp[val])
end
section
variable [lC]
theorem XV{l:List Nat}{y:zA}{box:Nat}{v:zA}{Q:aB}{I:Nat->Tr qA->Prop}(hl:l.length<1000000)
  (hr:∀k t,I k t->vC yA 268 ⟨0,t⟩ (.ptr box 0)=some v/\lA t 1 (vB .u32 l) v)
  (hy:∀k x t,l[k]?=some x->I (k+1) t->∀R:aB,(∀t',I k t'->R (.bool true) t')->oF (qU y [.int .u32 (x:Nat)]) fun p=>Wq yA F rF p.1 p.2 t R)
  (hQ:∀t,I 0 t->Q (.tup []) t):∀(k:Nat) (t:Tr qA),k<=l.length->I k t->jp 271 2 [y,.ptr box 0,.int .i64 ((k:Int)-1)] t Q:=by
 intro k;induction k with
 | zero=>
  intro t _ h;refine zev ?_;simp only[uL,uB,wB,rA,uZ,uW,Tb,iA,iD];simp_all
 | succ k ih=>
  intro t hk h;obtain⟨g0,hv⟩:=hr _ _ h;obtain⟨x,hx⟩:=getElem?_of_lt (l:=l) (i:=k) (by omega);obtain⟨c,off,g1,g2⟩:=hv.idx gG hx;have e1:((k+1:Nat):Int)-1=(k:Int):=by omega
  rw[e1];refine zev ?_;simp (disch:=omega) only[uL,uB,wB,rA,uZ,uW,Tb,iA,iD,g0,g1,g2,xA,fB,wrap_i64];rw[yab (by omega)];refine hy k x t hx h _ fun t' ht'=>?_
  grind [zA.asBool,xA]
def ziz{l:List Nat}{y:zA}{box:Nat}{v:zA}{Q:aB}{t:Tr qA}{I:Nat->Tr qA->Prop}(hl:l.length<1000000)
  (hr:∀k t,I k t->vC yA 268 ⟨0,t⟩ (.ptr box 0)=some v/\lA t 1 (vB .u32 l) v)
  (hy:∀k x t,l[k]?=some x->I (k+1) t->∀R:aB,(∀t',I k t'->R (.bool true) t')->oF (qU y [.int .u32 (x:Nat)]) fun p=>Wq yA F rF p.1 p.2 t R)
  (hQ:∀t,I 0 t->Q (.tup []) t) (h:I l.length t):Wc yA F 271 [y,.ptr box 0] t Q:=by
 obtain⟨g0,hv⟩:=hr _ _ h;refine w271 ?_;simp (disch:=omega) only[uI,rA,uZ,uW,t271,iA,g0,hv.len,nD,xA,fB,wrap_i64];exact XV hl hr hy hQ l.length t (ybk _) h
end
end Go.Proofs
namespace Go.Am
open Go Go.RowKit
section
variable {t tf:Tr qA}{C:dA}
theorem tM{n:Nat}(hn:t.get n=none)(q:qA):xB t (t.set n q)/\sE n t (t.set n q):=
 ⟨fun c u hc=>by grind [Tr.get_set],fun c hc=>by rw[Tr.get_set,yaa hc]⟩
theorem XP{sz n:Nat}{cl:List (List zA)}{t':Tr qA}{lo:Option Lo}(hl:∀(i:Nat) cs,cl[i]?=some cs->cs.length=sz)(h:t'.get n=some (.cells (Tr.ofList cl.flatten) (oB cl.flatten) lo))(hlo:lo=none\/∃x,lo=some x/\x.es=sz){k:Nat}(hk:cl.length=k):pJ t' sz (.slice n 0 k k) cl:=by
 grind [Ym]
theorem Pb{T el sz n:Nat}{y z:mC}{ps:List (Nat × zA)}{cl:List (List zA)}(hT:C.tys.get T=some y)(hel:y.desc.asSlice=some el)(hz:C.tys.get el=some z)(hs:z.size=sz)(h0:oB z.zero=sz)(hn:n*sz<1000000)
  (hfill:kN (fun i=>some (i*sz,sz)) ps (lJ z.zero n)=some cl.flatten) (hcl:∀(i:Nat) cs,cl[i]?=some cs->cs.length=sz) (hlen:cl.length=n) {b:Nat} (hb:t.get b=none) :
  ∃t',oG C T n ps ⟨b,t⟩=some (.slice b 0 n n,⟨b+1,t'⟩)/\pJ t' sz (.slice b 0 n n) cl/\xB t t'/\sE b t t':=by
 refine⟨t.set b (.cells (Tr.ofList cl.flatten) (oB cl.flatten) none),?_,XP hcl (by rw[Tr.get_set,yab rfl]) (.inl rfl) hlen,(tM hb _).1,(tM hb _).2⟩;unfold oG;rw[hT,pA,hel,pA,hz,pA];have:(Nat.blt (n*z.size) 1000000&&Nat.beq (oB z.zero) z.size)=true:=by
  simp_all
 rw[this,vE,hs,hfill];rfl
def vH(cd:Lo)(base:Nat)(tf t:Tr qA)(sz:Nat)(l:List D)(v:zA):Prop:=
 (v=.nilslice/\l=[])\/∃b cl c,v=.slice b 0 l.length l.length/\base<=b/\tf.get b=none/\t.get b=some (.cells c (l.length*sz) (some cd)) ∧
  (∀(i:Nat) cs,cl[i]?=some cs->cs.length=sz/\∀(j:Nat) a,cs[j]?=some a->c.get (i*sz+j)=some a)/\jC tf l cl
abbrev Ap(base:Nat)(tf t:Tr qA)(sz:Nat)(l:List D)(v:zA):Prop:=vH (.sz sz) base tf t sz l v
def oO(v:zA)(b:Nat):Prop:=∃o n c,v=.slice b o n c
theorem Xq{b:Nat}:¬ oO .nilslice b:=fun⟨_,_,_,h⟩=>by cases h
theorem Ck{b c o n k:Nat}:oO (.slice b o n k) c ↔ c=b:=⟨fun⟨_,_,_,h⟩=>by grind,fun h=>by subst h;exact⟨_,_,_,rfl⟩⟩
theorem vH.read{cd:Lo}{base sz:Nat}{l:List D}{v:zA}(hcd:cd.es=sz)(h:vH cd base tf t sz l v)(ht:xB tf t):lA t sz l v:=by
 rcases h with⟨rfl,rfl⟩ | ⟨b,cl,c,rfl,_,_,h1,h2,h3⟩
 ·exact⟨[],.inl ⟨rfl,rfl⟩,rI.2 rfl⟩
 ·have hlen:=h3.length;refine⟨cl,.inr ⟨b,0,l.length,by rw[hlen],by omega,⟨c,_,_,h1,.inr ⟨_,rfl,hcd⟩⟩,fun i cs hi=>⟨(h2 i cs hi).1,c,_,_,h1,fun j a hj=>?_⟩⟩,jC.mono ht _ _ h3⟩
  simp_all
theorem vH.len{cd:Lo}{base sz:Nat}{l:List D}{v:zA}(h:vH cd base tf t sz l v):cA v=some (.int .i64 (l.length:Int)):=by
 rcases h with⟨rfl,rfl⟩ | ⟨b,cl,c,rfl,_⟩
 ·rfl
 ·rfl
theorem vH.none{cd:Lo}{base sz:Nat}{l:List D}{v:zA}(h:vH cd base tf t sz l v){b:Nat}(hb:oO v b):tf.get b=none/\base<=b/\∃y,t.get b=some y:=by
 rcases h with⟨rfl,rfl⟩ | ⟨c,cl,x,rfl,h1,h2,h3,_⟩
 all_goals grind [Xq,Ck]
theorem NA{T U el sz:Nat}{cd:Lo}(hT:Hi C T el sz)(hU:∃u,C.tys.get U=some u/\Nat.beq u.desc.tag 1=false)(hcd:∀z,C.tys.get el=some z->aK el z=cd){l m:List D}{v x:zA}{cm:List (List zA)}(hv:vH cd C.base tf t sz l v)(hall:∀(i:Nat) cs,cm[i]?=some cs->cs.length=sz)(hx:∀n,qR ⟨n,t⟩ sz cm.length x=some cm.flatten/\rX x=some cm.length)(hm:jC tf m cm)(hone:∀a∈cm.flatten,zA.one a=true)(hpos:0<m.length)(hl:l.length+m.length<400000){n:Nat}(hn:t.get n=none)(hbase:C.base<=n)(ht:xB tf t) :
  ∃t',sF C T U v x ⟨n,t⟩=some (.slice n 0 (l.length+m.length) (l.length+m.length),⟨n+1,t'⟩)/\vH cd C.base tf t' sz (l++m) (.slice n 0 (l.length+m.length) (l.length+m.length))/\xB tf t'/\(∀c,c≠n->¬ oO v c->t'.get c=t.get c):=by
 obtain⟨⟨y,hy1,hy2,hy3⟩,⟨z,hz1,hz2,hz3,hz4,hz5⟩⟩:=hT;have hcode:=hcd z hz1;have hcm:=hm.length;obtain⟨hf,hlen⟩:=hx n;obtain⟨u,hu1,hu2⟩:=hU;have hflat:=Yb hall;have hfl:oB cm.flatten=cm.length*sz:=by grind [pD]
 have hfn:tf.get n=none:=by
  cases hq:tf.get n with
  | none=>rfl
  | some u=>rw[ht _ _ hq]at hn;cases hn
 have base:sF C T U v x ⟨n,t⟩=(match v.asSlice with
  | some s=>bif Nat.ble (s.2.2.1+cm.length) s.2.2.2 then fX C ⟨n,t⟩ z cm.length cm.flatten s else dX C ⟨n,t⟩ el z cm.length cm.flatten s
  | none=>pB (Nat.beq v.tag 5) (lV ⟨n,t⟩ el z cm.length cm.flatten)):=by
  unfold sF aV;grind [pA,vE]
 have ok:eX z l.length l.length cm.length cm.flatten=true:=by
  unfold eX;have h1:Nat.blt (l.length+cm.length+l.length) 1000000000=true:=pC.2 (by omega);have h2:Nat.blt ((l.length+cm.length+l.length)*z.bytes) 1000000000=true:=pC.2 (by
   have:=ydb (show l.length+cm.length+l.length<=800000 by omega) hz4;omega)
  grind [pC,oC]
 rcases hv with⟨rfl,rfl⟩ | ⟨b,cl,c,rfl,hb0,hb1,hb2,hb3,hb4⟩
 ·refine⟨t.set n (.cells (Tr.ofList cm.flatten) (oB cm.flatten) (some cd)),?_,.inr ⟨n,cm,Tr.ofList cm.flatten,by simp,hbase,hfn,?_,fun i cs hi=>⟨hall i cs hi,fun j a hj=>?_⟩,by simp_all⟩,?_,fun c hc _=>(tM hn _).2 c hc⟩
  ·rw[base];simp only[zA.asSlice];show pB true (lV ⟨n,t⟩ el z cm.length cm.flatten)=_;rw[vE];unfold lV;have:Nat.beq cm.length 0=false:=by
    grind [oC]
   have ok:eX z 0 0 cm.length cm.flatten=true:=ok;rw[this,cond_false,ok,vE,hcm,hcode];simp only[ybx,ybw];rfl
  ·grind [Tr.get_set]
  ·grind [Tr.get_ofList,Cq]
  ·exact ht.trans (tM hn _).1
 ·have hcl:=hb4.length;have hbn:b≠n:=by grind
  refine⟨(t.del b).set n (.cells (c.setMany cm.flatten (l.length*z.size)) ((l.length+cm.length)*z.size) (some cd)),?_,.inr ⟨n,cl++cm,c.setMany cm.flatten (l.length*z.size),by simp,hbase,hfn,?_,fun i cs hi=>?_,?_⟩,fun k u hk=>?_,fun k hk1 hk2=>?_⟩
  ·rw[base];simp only[zA.asSlice];have:Nat.ble (l.length+cm.length) l.length=false:=by
    grind [mE]
   rw[this,cond_false];unfold dX;simp only[];rw[show ∀x,(!(Nat.beq 0 1&&x))=true from fun _=>rfl,vE,ok,vE];unfold mD;rw[hb2,pA];simp only[qA.asCells,pA];unfold Ga;simp only[];have g1:loEq cd (aK el z)=true:=by grind [GI]
   have g2:Nat.ble (l.length*z.size) (l.length*sz)=true:=mE.2 (by simp_all);have g3:Nat.ble (l.length*sz) ((l.length+cm.length)*z.size)=true:=mE.2 (by grind);have g4:eE zA.one cm.flatten=true:=by grind [mI]
   have g5:(!Nat.blt b C.base)=true:=by
    grind [pC]
   rw[g1,g2,g3,g4,g5];simp_all
  ·rw[Tr.get_set,yab rfl,hz2,hcm,ybg]
  ·rw[List.getElem?_append]at hi;split at hi
   ·rename_i hlt;obtain⟨k1,k2⟩:=hb3 i cs hi;refine⟨k1,fun j a hj=>?_⟩;have hjl:j<sz:=by grind
    have:i*sz+j<l.length*sz:=by
     have:=ybi sz (show i+1<=l.length by omega)
     grind
    grind [Tr.get_setMany]
   ·rename_i hge;have k1:=hall _ cs hi;refine⟨k1,fun j a hj=>?_⟩;have hf1:=Cq hall _ j cs a hi hj;have hlt:=(ybc.1 hf1).1;have e:i*sz=l.length*sz+(i-cl.length)*sz:=by rw[<- ybo];simp_all
    grind [Tr.get_setMany]
  ·have app:∀ {l m:List D} {cl cm:List (List zA)},jC tf l cl->jC tf m cm->jC tf (l++m) (cl++cm):=by
    intro l;induction l with
    | nil=>grind [rI]
    | cons d l ih=>
     grind [iH]
   simp_all
  ·have h1:k≠b:=by grind
   have h2:k≠n:=by grind
   rw[Tr.get_set,yaa h2,Tr.get_del,yaa h1];exact ht _ _ hk
  grind [Tr.get_set,Tr.get_del,Ck]
def ZP{T el sz:Nat}{cd:Lo}(hT:Hi C T el sz)(hcd:∀z,C.tys.get el=some z->aK el z=cd){l m:List D}{v x:zA}{cm:List (List zA)}(hv:vH cd C.base tf t sz l v)(hx:pJ t sz x cm)(hm:jC tf m cm)(hone:∀a∈cm.flatten,zA.one a=true)(hpos:0<m.length)(hl:l.length+m.length<400000){n:Nat}(hn:t.get n=none)(hbase:C.base<=n)(ht:xB tf t) :
  ∃t',sF C T T v x ⟨n,t⟩=some (.slice n 0 (l.length+m.length) (l.length+m.length),⟨n+1,t'⟩)/\vH cd C.base tf t' sz (l++m) (.slice n 0 (l.length+m.length) (l.length+m.length))/\xB tf t'/\(∀c,c≠n->¬ oO v c->t'.get c=t.get c):=by
 obtain⟨y,hy1,hy2,hy3⟩:=hT.ty;exact NA hT ⟨y,hy1,hy3⟩ hcd hv hx.len (fun n=>hx.first (n:=n)) hm hone hpos hl hn hbase ht
theorem vH.freeze{cd:Lo}{base sz:Nat}{l:List D}{v:zA}(hcd:cd.es=sz)(h:vH cd base tf t sz l v)(ht:xB tf t):∃tf',xB tf tf'/\xB tf' t/\lA tf' sz l v/\∀b,¬ oO v b->tf'.get b=tf.get b:=by
 rcases h with⟨rfl,rfl⟩ | ⟨b,cl,c,rfl,h0,h1,h2,h3,h4⟩
 ·exact⟨tf,xB.refl _,ht,⟨[],.inl ⟨rfl,rfl⟩,rI.2 rfl⟩,fun _ _=>rfl⟩
 ·have hlen:=h4.length;refine⟨tf.set b (.cells c (l.length*sz) (some cd)),(tM h1 _).1,fun k u hk=>?_,⟨cl,.inr ⟨b,0,l.length,by rw[hlen],by omega,⟨c,_,_,by rw[Tr.get_set,yab rfl],.inr ⟨_,rfl,hcd⟩⟩,fun i cs hi=>⟨(h3 i cs hi).1,c,_,_,(by rw[Tr.get_set,yab rfl]),fun j a hj=>?_⟩⟩,jC.mono (tM h1 _).1 _ _ h4⟩,fun k hk=>by rw[Tr.get_set,yaa (fun e=>hk (Ck.2 e))]⟩
  ·rw[Tr.get_set]at hk;split at hk
   ·simp_all
   ·exact ht _ _ hk
  simp_all
theorem Ap.read{base sz:Nat}{l:List D}{v:zA}(h:Ap base tf t sz l v)(ht:xB tf t):lA t sz l v:=vH.read rfl h ht
end
end Go.Am
namespace Go.Am
open Go Go.RowKit
section
def kE (t:Tr qA)(b:Nat)(lo:Option Lo)(cs:List zA):Prop:=∃c,t.get b=some (.cells c cs.length lo)/\∀(j:Nat) a,cs[j]?=some a->c.get j=some a
def lP(cs:List zA)(j:Nat)(l:List zA):List zA:=cs.take j++(l++cs.drop (j+l.length))
theorem TR{cs l:List zA}{j:Nat}(h:j+l.length<=cs.length):(lP cs j l).length=cs.length:=by
 grind [lP]
theorem FE{cs l:List zA}{j:Nat}(h:j+l.length<=cs.length)(k:Nat):(lP cs j l)[k]?=if j<=k/\k<j+l.length then l[k-j]? else cs[k]?:=by
 grind [lP]
section
variable {t tf:Tr qA}{C:dA}{b:Nat}{lo:Option Lo}{cs:List zA}
theorem kE.at(h:kE t b lo cs):At t b 0 cs:=by
 obtain⟨c,h1,h2⟩:=h;exact⟨c,_,_,h1,fun j a hj=>by simp_all⟩
theorem kE.off(h:kE t b lo cs){t':Tr qA}(k:t'.get b=t.get b):kE t' b lo cs:=by
 obtain⟨c,h1,h2⟩:=h;exact⟨c,by simp_all,h2⟩
theorem kE.load1(h:kE t b lo cs){j:Nat}{a:zA}{ty:Nat}{y:mC}(hy:C.tys.get ty=some y)(ha:y.desc.isAgg=false)(hj:cs[j]?=some a):vC C ty ⟨0,t⟩ (.ptr b j)=some a:=by
 have:=h.at.load1 hy ha hj
 simp_all
theorem kE.store(h:kE t b lo cs)(hb:C.base<=b){j T:Nat}{y:mC}{v:zA}(hT:C.tys.get T=some y)(hl:v.cells.length=y.size)(hj:j+v.cells.length<=cs.length)(hone:eE zA.one v.cells=true) :
  ∃t',(∀n,tD C T (.ptr b j) v ⟨n,t⟩=some (xE,⟨n,t'⟩))/\kE t' b lo (lP cs j v.cells)/\sE b t t':=by
 obtain⟨c,h1,h2⟩:=h;refine⟨t.set b (.cells (c.setMany v.cells j) cs.length lo),fun n=>?_,⟨c.setMany v.cells j,?_,fun k a hk=>?_⟩,fun d hd=>by rw[Tr.get_set,yaa hd]⟩
 ·unfold tD;rw[hT,pA];simp only[zA.asPtr,pA];have e1:Nat.beq (oB v.cells) y.size=true:=by grind [pD,oC]
  rw[e1,vE];unfold rJ mD;have e2:(!Nat.blt b C.base)=true:=by
   grind [pC]
  rw[e2,vE,h1,pA];simp only[qA.asCells,pA];have e3:Nat.ble (j+oB v.cells) cs.length=true:=by simp_all
  rw[e3,hone];rfl
 all_goals grind [Tr.get_set,TR,FE,Tr.get_setMany]
theorem kE.store1(h:kE t b lo cs)(hb:C.base<=b){j T:Nat}{y:mC}{v:zA}(hT:C.tys.get T=some y)(hs:y.size=1)(hv:v.cells=[v])(hone:zA.one v=true)(hj:j<cs.length) :
  ∃t',(∀n,tD C T (.ptr b j) v ⟨n,t⟩=some (xE,⟨n,t'⟩))/\kE t' b lo (cs.set j v)/\sE b t t':=by
 obtain⟨t',h1,h2,h3⟩:=h.store hb hT (v:=v) (j:=j) (by simp_all) (by grind) (by rw[hv];show(bif zA.one v then true else false)=true;simp_all);refine⟨t',h1,?_,h3⟩;have e:lP cs j v.cells=cs.set j v:=by
  rw[hv];apply List.ext_getElem?
  grind [FE]
 simp_all
theorem vZ{b:Nat}(hb:t.get b=none)(cs:List zA)(lo:Option Lo):∃t',yF ⟨b,t⟩ cs lo=⟨b+1,t'⟩/\kE t' b lo cs/\xB t t'/\sE b t t':=
 ⟨t.set b (.cells (Tr.ofList cs) (oB cs) lo),rfl,⟨Tr.ofList cs,by rw[Tr.get_set,yab rfl,pD],fun j a hj=>by grind [Tr.get_ofList]⟩,(tM hb _).1,(tM hb _).2⟩
def Ag{b T:Nat}{y:mC}(hT:C.tys.get T=some y)(hb:t.get b=none):∃t',zI C T ⟨b,t⟩=some (.ptr b 0,⟨b+1,t'⟩)/\kE t' b none y.zero/\xB t t'/\sE b t t':=by
 obtain⟨t',h1,h2,h3,h4⟩:=vZ hb y.zero none;refine⟨t',?_,h2,h3,h4⟩;unfold zI;rw[hT,pA,<- h1]
end
end
section
structure nG where
 blks:List Nat
 ok:Tr qA->Tr qA->Prop
 keep:∀ {tf t tf' t':Tr qA},ok tf t->xB tf tf'->(∀k∈blks,t'.get k=t.get k/\tf'.get k=none)->ok tf' t'
 live:∀ {tf t:Tr qA},ok tf t->∀k∈blks,∃y,t.get k=some y
structure vD (base:Nat) (tf t:Tr qA) (l:List nG):Prop where
 tle:xB tf t
 nodup:(l.flatMap nG.blks).Nodup
 ok:∀o∈l,o.ok tf t
 low:∀k∈l.flatMap nG.blks,base<=k/\tf.get k=none
def gK (b:Nat)(lo:Option Lo)(cs:List zA):nG where
 blks:=[b]
 ok:=fun _ t=>kE t b lo cs
 keep:=fun h _ k=>h.off (k b (by simp)).1
 live:=fun h k hk=>by rw[ydd]at hk;subst hk;obtain⟨c,hc,_⟩:=h;simp_all
section
variable {base:Nat}{tf t:Tr qA}{l A B:List nG}{o o':nG}
theorem vD.live(h:vD base tf t l){k:Nat}(hk:k∈l.flatMap nG.blks):∃y,t.get k=some y:=by
 obtain⟨o,ho,hk⟩:=List.mem_flatMap.1 hk;exact o.live (h.ok o ho) k hk
theorem vD.fresh(h:vD base tf t l){n:Nat}(hn:t.get n=none):n∉l.flatMap nG.blks:=by
 intro hm;obtain⟨y,hy⟩:=h.live hm
 simp_all
theorem vD.tfn(h:vD base tf t l){n:Nat}(hn:t.get n=none):tf.get n=none:=by
 cases hq:tf.get n with
 | none=>rfl
 | some y=>have:=h.tle _ _ hq;simp_all
theorem vD.keep(h:vD base tf t l){tf' t':Tr qA}(hf:xB tf tf')(ht:xB tf' t')(hk:∀k∈l.flatMap nG.blks,t'.get k=t.get k/\tf'.get k=none):vD base tf' t' l:=
 ⟨ht,h.nodup,fun o ho=>o.keep (h.ok o ho) hf fun k hk'=>hk k (List.mem_flatMap.2 ⟨o,ho,hk'⟩),fun k hk'=>⟨(h.low k hk').1,(hk k hk').2⟩⟩
theorem vD.junk(h:vD base tf t l){n:Nat}{t':Tr qA}(hn:t.get n=none)(ho:sE n t t'):vD base tf t' l:=
 h.keep (xB.refl _) (h.tle.off (h.tfn hn) ho) fun k hk=>⟨ho k (fun e:k=n=>h.fresh hn (e ▸ hk)),(h.low k hk).2⟩
theorem vD.froze(h:vD base tf t l){n:Nat}{y:qA}(hn:n∉l.flatMap nG.blks)(hy:t.get n=some y)(hf:tf.get n=none):vD base (tf.set n y) t l/\xB tf (tf.set n y):=by
 have h1:=(tM (t:=tf) hf y).1;refine⟨h.keep h1 (fun k u hk=>?_) fun k hk=>⟨rfl,?_⟩,h1⟩
 ·rw[Tr.get_set]at hk;split at hk
  ·simp_all
  ·exact h.tle _ _ hk
 ·rw[Tr.get_set,yaa (fun e:k=n=>hn (e ▸ hk))];exact(h.low k hk).2
def Qg:(A++o::B).flatMap nG.blks=A.flatMap nG.blks++(o.blks++B.flatMap nG.blks):=by simp
theorem vD.upd(h:vD base tf t (A++o::B)){t':Tr qA}(hk:∀k,k∉o.blks->k∉o'.blks->t'.get k=t.get k)(hn:∀k∈o'.blks,k∈o.blks\/(t.get k=none/\base<=k))(hok:o'.ok tf t')(hnd:o'.blks.Nodup)(ht:xB tf t'):vD base tf t' (A++o'::B):=by
 have hd:=h.nodup;rw[Qg]at hd;rw[List.nodup_append]at hd;obtain⟨d1,d2,d3⟩:=hd;rw[List.nodup_append]at d2;obtain⟨d4,d5,d6⟩:=d2;have oth:∀k,k∈A.flatMap nG.blks\/k∈B.flatMap nG.blks->k∉o.blks/\k∉o'.blks/\t'.get k=t.get k/\base<=k/\tf.get k=none:=by
  intro k hk';have hm:k∈(A++o::B).flatMap nG.blks:=by rw[Qg];simp only[yaf];rcases hk' with h | h<;>simp[h]
  have h1:k∉o.blks:=fun hc=>by
   grind
  have h2:k∉o'.blks:=fun hc=>by
   rcases hn k hc with h' | h'
   ·grind
   ·obtain⟨y,hy⟩:=h.live hm
    simp_all
  exact⟨h1,h2,hk k h1 h2,h.low k hm⟩
 have mem:∀k,k∈(A++o'::B).flatMap nG.blks->(k∈A.flatMap nG.blks\/k∈B.flatMap nG.blks)\/k∈o'.blks:=by
  grind
 refine⟨ht,?_,fun p hp=>?_,fun k hk'=>?_⟩
 ·grind
 ·have hp':p∈A\/p=o'\/p∈B:=by simp_all
  rcases hp' with h' | h' | h'
  ·exact p.keep (h.ok p (by simp[h'])) (xB.refl _) fun k hk'=>by
    grind
  ·simp_all
  ·exact p.keep (h.ok p (by simp[h'])) (xB.refl _) fun k hk'=>by
    grind
 ·rcases mem k hk' with h' | h'
  ·simp_all
  ·rcases hn k h' with h'' | h''
   ·exact h.low k (by simp_all)
   ·exact⟨h''.2,h.tfn h''.1⟩
def Oq:nG:=⟨[],fun _ _=>True,fun _ _ _=>trivial,fun _ _ h=>by cases h⟩
theorem vD.add(h:vD base tf t (A++B)){t':Tr qA}(hk:∀k,k∉o'.blks->t'.get k=t.get k)(hn:∀k∈o'.blks,t.get k=none/\base<=k)(hok:o'.ok tf t')(hnd:o'.blks.Nodup)(ht:xB tf t'):vD base tf t' (A++o'::B):=by
 have e:vD base tf t (A++Oq::B):=by
  have hm:(A++Oq::B).flatMap nG.blks=(A++B).flatMap nG.blks:=by simp[Oq]
  refine⟨h.tle,by rw[hm];exact h.nodup,fun o ho=>?_,fun k hk=>h.low k (by simp_all)⟩;have:o∈A\/o=Oq\/o∈B:=by simp_all
  rcases this with h' | h' | h'
  ·exact h.ok o (by simp[h'])
  ·subst h';trivial
  ·exact h.ok o (by simp[h'])
 exact e.upd (fun k _ h2=>hk k h2) (fun k hk=>.inr (hn k hk)) hok hnd ht
theorem vD.drop(h:vD base tf t (A++o::B)):vD base tf t (A++B):=by
 have hd:=h.nodup;rw[Qg]at hd;refine⟨h.tle,?_,fun p hp=>h.ok p (by rcases yaf.1 hp with h | h<;>simp[h]),fun k hk=>h.low k (by rw[Qg];rw[List.flatMap_append]at hk;rcases yaf.1 hk with h | h<;>simp[h])⟩
 grind
theorem vD.notin(h:vD base tf t (A++o::B)){k:Nat}(hk:k∈o.blks):k∉(A++B).flatMap nG.blks:=by
 have hd:=h.nodup
 grind
end
end
section
section
variable {t tf:Tr qA}{C:dA}
def Gv(l:List Nat):List zA:=l.map fun(n:Nat)=>zA.int .u8 (n:Int)
theorem LN{S Dt b k cap el:Nat}{cs:List zA}{lo:Option Lo}{l:List Nat}{yS yD yE:mC}(hS:C.tys.get S=some yS)(hD:C.tys.get Dt=some yD)(h1:yD.desc.asInt=none)(h2:yD.desc.isString=true)(h3:yS.desc.asSlice=some el)(h4:C.tys.get el=some yE)(h5:yE.desc.asInt=some .u8)
  (hc:kE t b lo cs) (hk:l.length=k) (hl:∀(j:Nat) x,l[j]?=some x->cs[j]?=some (.int .u8 (x:Int))) (hlt:qB 256 l):kK C S Dt ⟨0,t⟩ (.slice b 0 k cap)=some (.str l):=by
 obtain⟨c,g1,g2⟩:=hc;unfold kK aP;rw[hS,pA,hD,pA,h1];simp only[];rw[h2,vE];have e1:Nat.beq (zA.slice b 0 k cap).tag 2=false:=rfl;rw[e1,cond_false,h3,pA,h4,pA,h5,pA,sK.2 rfl,vE];unfold Cx;simp only[zA.asSlice];unfold mD;rw[g1,pA];simp only[qA.asCells,pA];have hm:∀(l:List Nat) (off:Nat),(∀(j:Nat) x,l[j]?=some x->c.get (off+j)=some (.int .u8 (x:Int)))->c.many l.length off=some (Gv l):=by
  intro l;induction l with
  | nil=>intro off _;rfl
  | cons x l ih=>
   intro off h;rw[ybn,Tr.many_succ];have:=h 0 x rfl;rw[yct]at this;rw[this,pA,ih (off+1) (fun j y hj=>by rw[show off+1+j=off+(j+1) by omega];simp_all),pA];rfl
 subst hk;rw[hm l 0 (fun j x hj=>by simp_all),pA];have hb:∀(l:List Nat),qB 256 l->fG jS (Gv l)=some l:=by
  intro l;induction l with
  | nil=>intro _;rfl
  | cons x l ih=>
   intro h;have e:jS (.int .u8 (x:Int))=some x:=by
    unfold jS;have e1:sL (x:Int)=some x:=rfl;simp only[zA.asIntK,pA];rw[sK.2 rfl,vE,e1,pA,pC.2 (h x (by simp))];rfl
   show fG jS (.int .u8 (x:Int)::Gv l)=_;rw[dM,e,pA,ih fun y hy=>h y (by simp[hy]),pA]
 rw[hb l hlt,pA]
end
end
end Go.Am
namespace Go.Am
open Go
section
variable {C:dA}{t tf:Tr qA}
def zQ(k:IntKind)(l:List Nat):List (List zA):=l.map fun(x:Nat)=>[zA.int k (x:Int)]
theorem Al{k:IntKind}:∀ {l:List Nat} {cl:List (List zA)},jC t (vB k l) cl ↔ cl=zQ k l
 | [],cl=>by
  show jC t [] cl ↔ cl=[];exact rI
 | x::l,cl=>by
  show jC t (.int k (x:Int)::vB k l) cl ↔ cl=[.int k (x:Int)]::zQ k l;rw[iH];constructor
  ·rintro⟨c,r,rfl,h1,h2⟩;rw[eO]at h1;rw[h1,Al.1 h2]
  ·rintro rfl;exact⟨_,_,rfl,eO.2 rfl,Al.2 rfl⟩
def Ra{k:IntKind}:∀(l:List Nat),(zQ k l).flatten=l.map fun(x:Nat)=>zA.int k (x:Int)
 | []=>rfl
 | x::l=>by
  show [zA.int k (x:Int)]++(zQ k l).flatten=_;rw[Ra l];rfl
theorem LZ{k:IntKind}{l:List Nat}:(zQ k l).length=l.length:=by simp[zQ]
theorem YT{k:IntKind}{l:List Nat}(i:Nat)(cs:List zA)(h:(zQ k l)[i]?=some cs):cs.length=1:=by
 grind [zQ]
def ZC(l:List Nat)(h:qB 256 l):fG jS (Gv l)=some l:=by
 induction l with
 | nil=>rfl
 | cons x l ih=>
  have e:jS (.int .u8 (x:Int))=some x:=by
   unfold jS;have e1:sL (x:Int)=some x:=rfl;simp only[zA.asIntK,pA];rw[sK.2 rfl,vE,e1,pA,pC.2 (h x (by simp))];rfl
  show fG jS (.int .u8 (x:Int)::Gv l)=_;rw[dM,e,pA,ih fun y hy=>h y (by simp[hy]),pA]
theorem LM{S Dt el:Nat}{l:List Nat}{v:zA}{yS yD yE:mC}(hS:C.tys.get S=some yS)(hD:C.tys.get Dt=some yD)(h1:yD.desc.asInt=none)(h2:yD.desc.isString=true)(h3:yS.desc.asSlice=some el)(h4:C.tys.get el=some yE)(h5:yE.desc.asInt=some .u8)
  (hv:lA t 1 (vB .u8 l) v) (hlt:qB 256 l):kK C S Dt ⟨0,t⟩ v=some (.str l):=by
 obtain⟨cl,g1,g2⟩:=hv;rw[Al]at g2;subst g2;have hf:=(g1.first (n:=0)).1;have htag:Nat.beq v.tag 2=false:=by
  rcases g1 with⟨rfl,_⟩ | ⟨b,off,cap,rfl,_⟩<;>rfl
 unfold kK aP;rw[hS,pA,hD,pA,h1];simp only[];rw[h2,vE,htag,cond_false,h3,pA,h4,pA,h5,pA,sK.2 rfl,vE];unfold Cx;rcases g1 with⟨rfl,hn⟩ | ⟨b,off,cap,rfl,_⟩
 ·have:l=[]:=by
   grind [LZ]
  subst this;rfl
 ·unfold qR at hf;simp only[zA.asSlice,Nat.mul_one]at hf ⊢;rw[mA]at hf;obtain⟨c,hc,hf⟩:=hf;rw[hc,pA,hf,pA,Ra];have:=ZC l hlt;unfold Gv at this;rw[this,pA]
theorem WP{n k:Nat}{l:List Nat}(h:l.length=k):qR ⟨n,t⟩ 1 k (.str l)=some (zQ .u8 l).flatten/\rX (.str l)=some k:=by
 subst h;constructor
 ·unfold qR;simp only[zA.asSlice,zA.asStr];rw[Ra,tS,List.take_length];rfl
 grind [rX,zA.asSlice,zA.asStr,pD]
def FH{k:IntKind}{l:List Nat}:∀a∈(zQ k l).flatten,zA.one a=true:=by
 intro a ha;rw[Ra]at ha;obtain⟨x,_,rfl⟩:=yaq.1 ha;rfl
theorem LK{k:IntKind}{l m:List Nat}:vB k (l++m)=vB k l++vB k m:=by simp[vB]
theorem MZ{T U el:Nat}{cd:Lo}(hT:Hi C T el 1)(hU:∃u,C.tys.get U=some u/\Nat.beq u.desc.tag 1=false)(hcd:∀z,C.tys.get el=some z->aK el z=cd){l m:List Nat}{v:zA}(hv:vH cd C.base tf t 1 (vB .u8 l) v)(hpos:m≠[])(hl:l.length+m.length<400000){n:Nat}(hn:t.get n=none)(hbase:C.base<=n)(ht:xB tf t) :
  ∃t',sF C T U v (.str m) ⟨n,t⟩=some (.slice n 0 (l.length+m.length) (l.length+m.length),⟨n+1,t'⟩)/\vH cd C.base tf t' 1 (vB .u8 (l++m)) (.slice n 0 (l.length+m.length) (l.length+m.length))/\xB tf t'/\(∀c,c≠n->¬ oO v c->t'.get c=t.get c):=by
 have h0:0<m.length:=List.length_pos_iff.2 hpos;obtain⟨t',h1,h2,h3,h4⟩:=NA hT hU hcd (l:=vB .u8 l) (m:=vB .u8 m) (x:=.str m) (cm:=zQ .u8 m) hv YT (fun n=>by grind [LZ,WP]) (Al.2 rfl) FH (by grind [nD]) (by grind [nD]) hn hbase ht
 grind [nD,LK]
theorem Zh{T el:Nat}{cd:Lo}{k:IntKind}(hT:Hi C T el 1)(hcd:∀z,C.tys.get el=some z->aK el z=cd){l m:List Nat}{v x:zA}(hv:vH cd C.base tf t 1 (vB k l) v)(hx:lA t 1 (vB k m) x)(hpos:m≠[])(hl:l.length+m.length<400000){n:Nat}(hn:t.get n=none)(hbase:C.base<=n)(ht:xB tf t) :
  ∃t',sF C T T v x ⟨n,t⟩=some (.slice n 0 (l.length+m.length) (l.length+m.length),⟨n+1,t'⟩)/\vH cd C.base tf t' 1 (vB k (l++m)) (.slice n 0 (l.length+m.length) (l.length+m.length))/\xB tf t'/\(∀c,c≠n->¬ oO v c->t'.get c=t.get c):=by
 have h0:0<m.length:=List.length_pos_iff.2 hpos;obtain⟨cl,g1,g2⟩:=hx;rw[Al]at g2;subst g2;obtain⟨t',h1,h2,h3,h4⟩:=ZP hT hcd (l:=vB k l) (m:=vB k m) (x:=x) (cm:=zQ k m) hv g1 (Al.2 rfl) FH (by grind [nD]) (by grind [nD]) hn hbase ht
 grind [nD,LK]
def Jy{cd:Lo}{base sz:Nat}:vH cd base tf t sz [] .nilslice:=.inl ⟨rfl,rfl⟩
theorem vH.keep'{cd:Lo}{base sz:Nat}{l:List D}{v:zA}{t':Tr qA}(h:vH cd base tf t sz l v)(hk:∀b,oO v b->t'.get b=t.get b):vH cd base tf t' sz l v:=by
 rcases h with⟨rfl,rfl⟩ | ⟨b,cl,c,rfl,h0,h1,h2,h3,h4⟩
 ·exact .inl ⟨rfl,rfl⟩
 ·exact .inr ⟨b,cl,c,rfl,h0,h1,by grind [Ck],h3,h4⟩
end
end Go.Am
namespace Go.Am
def kn_ge{B m U V head top u2 v2 ur vr:Nat}(hU:U=(head*B+u2)*B^m+ur)(hur:ur<B^m)(hu2:u2<B)(hV:V=(top*B+v2)*B^m+vr)(htop:0<top):U / V<=head / top:=by
 have hBm:0<B^m:=by omega
 rw[Nat.le_div_iff_mul_le htop];have h1:U / V*V<=U:=Nat.div_mul_le_self U V;have h2:top*B*B^m<=V:=by
  grind
 have h3:U<(head+1)*B*B^m:=by
  have:head*B+u2+1<=(head+1)*B:=by grind
  have:=ybi (B^m) this
  grind
 have h4:U / V*top*(B*B^m)<(head+1)*(B*B^m):=by
  calc U / V*top*(B*B^m)=U / V*(top*B*B^m):=by rw[ybj,ybj]
   _<=U / V*V:=ybv _ h2
   _<=U:=h1
   _<(head+1)*B*B^m:=h3
   _=(head+1)*(B*B^m):=by rw[ybj]
 exact Nat.lt_succ_iff.1 (Nat.lt_of_mul_lt_mul_right h4)
def kn_gt{B m U V head top u2 v2 ur vr d:Nat}(hU:U=(head*B+u2)*B^m+ur)(hur:ur<B^m)(hV:V=(top*B+v2)*B^m+vr)(h:head*B+u2<d*(top*B+v2)):U / V<d:=by
 rcases yau (U / V) d with g | g
 ·exact g
 ·exfalso;have h1:U / V*V<=U:=Nat.div_mul_le_self U V;have h2:d*V<=U:=Nat.le_trans (ybi _ g) h1;have h3:d*(top*B+v2)*B^m<=d*V:=by simp_all [ybj,ybv]
  have h4:=ybi (B^m) (show head*B+u2+1<=d*(top*B+v2) from h)
  grind
def kn_le{B m U V head top u2 v2 ur vr d:Nat}(hB:0<B)(hU:U=(head*B+u2)*B^m+ur)(hV:V=(top*B+v2)*B^m+vr)(hvr:vr<B^m)(htop:0<top)(hd:d<=B)(h:d*(top*B+v2)<=head*B+u2):d<=U / V+1:=by
 have hVpos:0<V:=by
  rw[hV];have:0<top*B+v2:=by have:=Nat.mul_pos htop hB;omega
  have:=Nat.mul_pos this (show 0<B^m by omega);omega
 rcases yau (U / V+1) d with g | g
 ·exfalso;have h1:(d-1)*V<=U:=by
   have e1:d*V<=d*((top*B+v2)*B^m)+d*B^m:=by
    simp_all [ybm,ybv,Nat.le_of_lt]
   have e2:d*((top*B+v2)*B^m)<=(head*B+u2)*B^m:=by rw[<- ybj];exact ybi _ h
   have e3:d*B^m<=V:=by
    have:d*B^m<=top*B*B^m:=by
     refine ybi _ (Nat.le_trans hd ?_);exact yan _ htop
    grind
   grind [Nat.sub_mul]
  have:=(Nat.le_div_iff_mul_le hVpos).2 h1;omega
 ·exact g
def top2{B:Nat}(hB:0<B){l:List Nat}{m a b:Nat}(hlt:qB B l)(hl:l.length=m+2)(ha:l[m+1]?=some a)(hb:l[m]?=some b):val B l=(a*B+b)*B^m+val B (l.take m)/\val B (l.take m)<B^m:=by
 have e1:=Be B l m;have hlen:(l.take m).length=m:=by grind
 rw[hlen]at e1;have e2:l.drop m=[b,a]:=by
  rw[drop_cons' hb,drop_cons' ha,List.drop_of_length_le (by omega)]
 grind [val,lK,Ah]
def top3{B:Nat}(hB:0<B){l:List Nat}{m a b c:Nat}(hlt:qB B l)(hl:l.length=m+3)(ha:l[m+2]?=some a)(hb:l[m+1]?=some b)(hc:l[m]?=some c):val B l=((a*B+b)*B+c)*B^m+val B (l.take m)/\val B (l.take m)<B^m:=by
 have e1:=Be B l m;have hlen:(l.take m).length=m:=by grind
 rw[hlen]at e1;have e2:l.drop m=[c,b,a]:=by
  rw[drop_cons' hc,drop_cons' hb,drop_cons' ha,List.drop_of_length_le (by omega)]
 grind [val,lK,Ah]
end Go.Am
namespace Go.Proofs
open Go Go.Am
variable [lC]
variable {t:Tr qA}
def BB:Nat:=4294967296
def xN:BB=4294967296:=rfl
def iI:0<BB:=by decide
theorem Pw{T el:Nat}(h:lD yA T el 1 false){b off n cap j:Nat}(hj:j<n):bC yA T (.slice b off n cap) (.int .i64 (j:Int))=some (.ptr b (off+j)):=by
 have:=Dv (b:=b) (off:=off) (cap:=cap) h hj
 simp_all
theorem Fj{A w Z:List Nat}{j x:Nat}(h:w[j]?=some x):(A++w++Z)[A.length+j]?=some x:=by
 grind
def Jv{A w Z:List Nat}{j x:Nat}(h:j<w.length):(A++w++Z).set (A.length+j) x=A++w.set j x++Z:=by
 rw[ybz,List.set_append_right _ _ (by omega),Nat.add_sub_cancel_left,List.set_append_left _ _ h,ybz]
theorem ZW{A Z lv:List Nat}{v:zA}{b cap d:Nat}{t0:Tr qA}{Q:aB}(hv:lA t0 1 (vB .u32 lv) v)(hl:lv.length<900000)(hlv:qB BB lv)(hbase:yA.base<=b)(hb:t0.get b=none)(hd:0<d)(hd2:d<=BB)(W:List Nat)(hWl:W.length=lv.length)(hWlt:qB BB W)(last:Nat)(hlast:last<BB)(hcap:lv.length+1<=cap)
  (hQ:∀t' r up,sE b t t'->tF t' b .u32 (A++(r++[(last+up)%BB])++Z)->r.length=lv.length->qB BB r->up<2->val BB r+BB^lv.length*up=val BB W+val BB lv->Q (.int .u32 ((d-1:Nat):Int)) t') :
  ∀(k i up:Nat) (t':Tr qA) (r:List Nat),i+k=lv.length->xB t0 t'->sE b t t'->tF t' b .u32 (A++(r++(W++[last]).drop i)++Z)->r.length=i->qB BB r->up<2->val BB r+BB^i*up=val BB (W.take i)+val BB (lv.take i) →
  jp 311 10 [.slice b A.length (lv.length+1) cap,.int .i64 lv.length,.int .u64 d,.int .u32 up,v,.int .i64 lv.length,.int .i64 i] t' Q:=by
 intro k;induction k with
 | zero=>
  intro i up t' r hi ht hoff ho hr hrl hup hval;have hi':i=lv.length:=by omega
  subst hi';have hdrop:(W++[last]).drop lv.length=[last]:=by simp_all
  rw[hdrop]at ho;refine IN ?_;have g1:=Pw gG (b:=b) (off:=A.length) (n:=lv.length+1) (cap:=cap) (j:=lv.length) (by omega);have hget:(r++[last])[lv.length]?=some last:=by simp_all
  have g2:=ho.load (Fj (A:=A) (Z:=Z) hget) qH rfl;obtain⟨t1,s1,s2,s3⟩:=ho.store (C:=yA) hbase (j:=A.length+lv.length) (by grind) ((last+up)%BB) qH rfl;rw[Jv (by grind)]at s2;have hset:(r++[last]).set lv.length ((last+up)%BB)=r++[(last+up)%BB]:=by simp_all
  rw[hset]at s2;have e1:jA .u32 ((last:Int)+(up:Int))=(((last+up)%BB:Nat):Int):=by rw[dS];show _=(((last+up)%4294967296:Nat):Int);omega
  simp only[uL,wB,rA,sB,uX,uZ,Ss,iA,wC,g1,g2,xA,fB,e1];rw[yaa (by omega)];intro _ _ _;rw[s1];simp only[xA];rw[yca (by omega),yca (by omega)]at hval;have e2:jA .u32 (jA .u64 ((d:Int)-1))=((d-1:Nat):Int):=by
   have:d<=4294967296:=hd2
   grind [vG,iY]
  rw[e2];exact hQ t1 r up (hoff.trans s3) s2 hr hrl hup hval
 | succ k ih=>
  intro i up t' r hi ht hoff ho hr hrl hup hval;obtain⟨x,hx⟩:=getElem?_of_lt (l:=lv) (i:=i) (by omega);obtain⟨y,hy⟩:=getElem?_of_lt (l:=W) (i:=i) (by omega);have hxlt:x<BB:=sI hlv hx;have hylt:y<BB:=sI hWlt hy;obtain⟨c,off,g1,g2⟩:=(hv.mono ht).idx gG hx;have hy':(W++[last])[i]?=some y:=by grind
  have hdrop:(W++[last]).drop i=y::(W++[last]).drop (i+1):=drop_cons' hy';have g3:=Pw gG (b:=b) (off:=A.length) (n:=lv.length+1) (cap:=cap) (j:=i) (by omega);have hget:(r++(W++[last]).drop i)[i]?=some y:=by simp_all
  have g4:=ho.load (Fj (A:=A) (Z:=Z) hget) qH rfl;have hlen:i<(r++(W++[last]).drop i).length:=by simp_all
  obtain⟨t1,s1,s2,s3⟩:=ho.store (C:=yA) hbase (j:=A.length+i) (by grind) ((y+x+up)%BB) qH rfl;rw[Jv hlen]at s2;have hset:(r++(W++[last]).drop i).set i ((y+x+up)%BB)=(r++[(y+x+up)%BB])++(W++[last]).drop (i+1):=by
   simp_all
  rw[hset]at s2;have hadd:=zdj (t:=t') (x:=y) (y:=x) (c:=up) hylt hxlt hup;refine IN ?_;simp (disch:=omega) only[uL,wB,rA,sB,uX,uZ,Ss,iA,wC,g1,g2,g3,g4,xA,fB,q317,hadd,zG,zA.asTup,pA,dG,yaz,yba,wrap_i64];rw[yab (by omega)];intro _ _ _;have s1':∀n,tD yA 270 (.ptr b (A.length+i)) (.int .u32 (((y+x+up)%4294967296:Nat):Int)) ⟨n,t'⟩=some (xE,⟨n,t1⟩):=s1
  rw[s1'];simp only[xA];refine ih (i+1) ((y+x+up) / BB) t1 _ (by omega) (ht.off hb s3) (hoff.trans s3) s2 (by simp[hr]) (gS hrl (ycy _ (by decide))) ?_ ?_
  ·have h1:y<4294967296:=hylt;have h2:x<4294967296:=hxlt;show(y+x+up) / 4294967296<2;omega
  ·rw[mK,hr,bS hx,bS hy,mK,mK]
   grind [Nat.div_add_mod]
theorem BO{u low bo:Nat}(hu:u<BB)(hl:low<BB)(hb:bo<2):∃w b',w<BB/\b'<2/\u+BB*b'=w+low+bo ∧
  jA .u32 (jA .u64 (jA .u64 ((u:Int)-(low:Int))-(bo:Int)))=(w:Int)/\Int.fdiv (jA .u64 (jA .u64 ((u:Int)-(low:Int))-(bo:Int))) 9223372036854775808=(b':Int):=by
 have hu:u<4294967296:=hu;have hl:low<4294967296:=hl;rcases yau u (low+bo)with g | g
 ·refine⟨u+BB-low-bo,1,by omega,by omega,by omega,?_,?_⟩
  ·rw[dS,Ht,Ht];show _=((u+4294967296-low-bo:Nat):Int);omega
  grind [Ht]
 ·refine⟨u-low-bo,0,by omega,by omega,by omega,?_,?_⟩
  all_goals grind [dS,Ht]
theorem UP{A Z lu lv:List Nat}{v:zA}{b cap d:Nat}{t0:Tr qA}{Q:aB}(hv:lA t0 1 (vB .u32 lv) v)(hl:lv.length<900000)(hlv:qB BB lv)(hbase:yA.base<=b)(hb:t0.get b=none)(hd:d<BB)(hlul:lu.length=lv.length+1)(hlu:qB BB lu)(hcap:lv.length+1<=cap)
  (hQ:∀t' (W:List Nat) last bo,xB t0 t'->sE b t t'->tF t' b .u32 (A++(W++[last])++Z)->W.length=lv.length->qB BB W->last<BB->bo<2->val BB (W++[last])+d*val BB lv=val BB lu+BB^(lv.length+1)*bo →
   if bo=0 then Q (.int .u32 (d:Int)) t' else jp 311 10 [.slice b A.length (lv.length+1) cap,.int .i64 lv.length,.int .u64 d,.int .u32 0,v,.int .i64 lv.length,.int .i64 (0:Nat)] t' Q) :
  ∀(k i carry borrow:Nat) (t':Tr qA) (W:List Nat),i+k=lv.length->xB t0 t'->sE b t t'->tF t' b .u32 (A++(W++lu.drop i)++Z)->W.length=i->qB BB W->carry<BB->borrow<2->val BB W+d*val BB (lv.take i)=val BB (lu.take i)+BB^i*(carry+borrow) →
  jp 311 6 [.slice b A.length (lv.length+1) cap,v,.int .i64 lv.length,.int .u64 d,.int .u64 carry,.int .u64 borrow,v,.int .i64 lv.length,.int .i64 i] t' Q:=by
 intro k;induction k with
 | zero=>
  intro i carry borrow t' W hi ht hoff ho hW hWl hc hbo hval;have hi':i=lv.length:=by omega
  subst hi';obtain⟨x,hx⟩:=getElem?_of_lt (l:=lu) (i:=lv.length) (by omega);have hxlt:x<BB:=sI hlu hx;have hdrop:lu.drop lv.length=[x]:=by rw[drop_cons' hx,List.drop_of_length_le (by omega)]
  rw[hdrop]at ho;obtain⟨w,bo,hw,hbo',hsum,e1,e2⟩:=BO hxlt hc hbo;have g1:=Pw gG (b:=b) (off:=A.length) (n:=lv.length+1) (cap:=cap) (j:=lv.length) (by omega);have hget:(W++[x])[lv.length]?=some x:=by simp_all
  have g2:=ho.load (Fj (A:=A) (Z:=Z) hget) qH rfl;obtain⟨t1,s1,s2,s3⟩:=ho.store (C:=yA) hbase (j:=A.length+lv.length) (by grind) w qH rfl;rw[Jv (by grind)]at s2;have hset:(W++[x]).set lv.length w=W++[w]:=by simp_all
  rw[hset]at s2;have hx32:x<4294967296:=hxlt;have e0:jA .u64 (x:Int)=(x:Int):=vG (by omega) (by omega);refine zem ?_;simp only[uI,uL,wB,rA,sB,uZ,Sq,iA,wC,g1,g2,xA,fB,e0,e1,e2,wE];rw[yaa (by omega)];intro _ _ _;rw[s1];simp only[xA];have hfin:=hQ t1 W w bo (ht.off hb s3) (hoff.trans s3) s2 hW hWl hw hbo' (by
   grind [mK,val,Be])
  by_cases hz:bo=0
  ·rw[yab (by omega)];rw[yab hz]at hfin;have hd32:d<4294967296:=hd
   grind [iY]
  ·rw[yaa (by omega)];rw[yaa hz]at hfin;simp only[(hv.mono (ht.off hb s3)).len,xA,fB,nD];exact hfin
 | succ k ih=>
  intro i carry borrow t' W hi ht hoff ho hW hWl hc hbo hval;obtain⟨x,hx⟩:=getElem?_of_lt (l:=lu) (i:=i) (by omega);obtain⟨y,hy⟩:=getElem?_of_lt (l:=lv) (i:=i) (by omega);have hxlt:x<BB:=sI hlu hx;have hylt:y<BB:=sI hlv hy;have hd32:d<4294967296:=hd;have hx32:x<4294967296:=hxlt;have hy32:y<4294967296:=hylt;have hc32:carry<4294967296:=hc;have hdrop:lu.drop i=x::lu.drop (i+1):=drop_cons' hx
  obtain⟨c,off,g1,g2⟩:=(hv.mono ht).idx gG hy;have g3:=Pw gG (b:=b) (off:=A.length) (n:=lv.length+1) (cap:=cap) (j:=i) (by omega);have hget:(W++lu.drop i)[i]?=some x:=by simp_all
  have g4:=ho.load (Fj (A:=A) (Z:=Z) hget) qH rfl;have hprod:d*y<=4294967295*4294967295:=ydb (by omega) (by omega);obtain⟨P,hP⟩:∃P,P=d*y+carry:=⟨_,rfl⟩;have hPlt:P<18446744073709551616:=by omega
  have hPhi:P / 4294967296<4294967296:=by omega
  obtain⟨w,bo,hw,hbo',hsum,e1,e2⟩:=BO (u:=x) (low:=P%4294967296) (bo:=borrow) hxlt (ycy _ (by decide)) hbo;obtain⟨t1,s1,s2,s3⟩:=ho.store (C:=yA) hbase (j:=A.length+i) (by grind [List.length_append]) w qH rfl;rw[Jv (by simp_all)]at s2;have hset:(W++lu.drop i).set i w=(W++[w])++lu.drop (i+1):=by simp_all
  rw[hset]at s2;have e0:jA .u64 (x:Int)=(x:Int):=vG (by omega) (by omega);have e0':jA .u64 (y:Int)=(y:Int):=vG (by omega) (by omega);have e3:(d:Int)*(y:Int)=((d*y:Nat):Int):=(Int.natCast_mul d y).symm;have e4:jA .u64 ((d*y:Nat):Int)=((d*y:Nat):Int):=by
   grind [vG]
  have e5:jA .u64 (((d*y:Nat):Int)+(carry:Int))=(P:Int):=by
   rw[hP,<- Int.natCast_add];grind [vG]
  have e6:jA .u64 (jA .u32 (P:Int))=((P%4294967296:Nat):Int):=by
   grind [dS,vG]
  have e7:Int.fdiv (P:Int) 4294967296=((P / 4294967296:Nat):Int):=dZ P 4294967296;refine zem ?_;simp only[uI,uL,wB,rA,sB,uZ,Sq,iA,wC,g1,g2,g3,g4,xA,fB,e0,e0',e3,e4,e5,e6,e7,e1,e2];rw[yab (by omega)];intro _ _ _;rw[s1];simp (disch:=omega) only[xA,wrap_i64];refine ih (i+1) (P / 4294967296) bo t1 _ (by omega) (ht.off hb s3) (hoff.trans s3) s2 (by simp[hW]) (gS hWl hw) hPhi hbo' ?_
  rw[mK,hW,bS hx,bS hy,mK,mK];have l1:(lu.take i).length=i:=by simp;omega
  have l2:(lv.take i).length=i:=by simp;omega
  grind [Nat.div_add_mod,BB]
attribute [irreducible] BB
end Go.Proofs
namespace Go.Proofs
open Go Go.Am
variable [lC]
variable {t:Tr qA}
theorem or32{x y:Nat}(hx:x<4294967296)(hy:y<4294967296):cI Nat.lor .u64 ((x*4294967296:Nat):Int) (y:Int)=some (.int .u64 ((x*4294967296+y:Nat):Int)):=by
 have h:=Ek (a:=x) (b:=y) (n:=32) hy;have e:(2:Nat)^32=4294967296:=by decide
 rw[e]at h;rw[yU (k:=.u64) (show x*4294967296<yH .u64 by show _<18446744073709551616;omega) (show y<yH .u64 by show _<18446744073709551616;omega),h]
theorem WD{lu lv:List Nat}{u v:zA}{Q:aB}{m head top u2 v2 U V ur vr:Nat}(hu:lA t 1 (vB .u32 lu) u)(hv:lA t 1 (vB .u32 lv) v)(hl:m<900000)(hu2:lu[m]?=some u2)(hv2:lv[m]?=some v2)(hu2lt:u2<BB)(hv2lt:v2<BB)(htop:0<top)(htoplt:top<BB)
  (hU:U=(head*BB+u2)*BB^m+ur) (hur:ur<BB^m) (hV:V=(top*BB+v2)*BB^m+vr) (hvr:vr<BB^m) (hq:U / V<BB) (hhead:head<=top*BB+(BB-1))
  (hexit:∀d,U / V<=d->d<=U / V+1->d<BB->jp 311 19 [u,v,.int .i64 (m+2:Nat),.int .u64 d] t Q) :
  ∀(d rest:Nat),d*top+rest=head->U / V<=d->d<=BB+1->rest<BB->jp 311 2 [u,v,.int .i64 (m+2:Nat),.int .u64 top,.int .u64 d,.int .u64 rest] t Q:=by
 intro d;induction d with
 | zero=>
  intro rest hsum hge _ hrest;have hBB:=xN;have hr32:rest<4294967296:=by omega
  obtain⟨b,off,g1,g2⟩:=hv.idx gG hv2;obtain⟨c,off',g3,g4⟩:=hu.idx gG hu2;have hu32:u2<4294967296:=by omega
  have hv32:v2<4294967296:=by omega
  obtain⟨D,hD⟩:∃D:Int,((0:Nat):Int)=D:=⟨_,rfl⟩;rw[hD];refine zen ?_;unfold Sr uQ25 uL uE rA uZ uW;generalize hC:(4294967296:Int)=C;generalize hG:cI Nat.lor .u64 (jA .u64 ((rest:Int)*C))=G;have e4:D*(v2:Int)=0:=by grind
  have e1:((m+2:Nat):Int)-2=(m:Int):=by omega
  have e2:(rest:Int)*C=((rest*4294967296:Nat):Int):=by simp_all
  have e3:G (u2:Int)=some (.int .u64 ((rest*4294967296+u2:Nat):Int)):=by rw[<- hG,e2,vG (by omega) (by omega)];grind [or32]
  simp only[iA,iD];rw[yaa (by omega)];simp (disch:=omega) only[e1,wrap_i64,g1,xA];rw[g2];simp only[xA,fB,g3];rw[g4,xA,fB,xA,vG (n:=(u2:Int)) (by omega) (by omega),e3,xA,fB,xA,vG (n:=(v2:Int)) (by omega) (by omega),e4,vG (n:=0) (by decide) (by decide)]
  grind [wC]
 | succ d ih=>
  intro rest hsum hge hle hrest;have hBB:=xN;have hr32:rest<4294967296:=by omega
  have ht32:top<4294967296:=by omega
  have hle32:d+1<=4294967296+1:=by omega
  have hsum':d*top+(rest+top)=head:=by grind
  obtain⟨D,hD⟩:∃D:Int,((d+1:Nat):Int)=D:=⟨_,rfl⟩;rw[hD];have e1:D-1=(d:Int):=by omega
  have e0:(rest:Int)+(top:Int)=((rest+top:Nat):Int):=by omega
  have less:U / V<=d->(if (4294967296:Int)<=((rest+top:Nat):Int)then jp 311 19 [u,v,.int .i64 (m+2:Nat),.int .u64 d] t Q else jp 311 2 [u,v,.int .i64 (m+2:Nat),.int .u64 top,.int .u64 d,.int .u64 ((rest+top:Nat):Int)] t Q):=by
   intro hge';split
   ·rename_i hb;have hb':BB<=rest+top:=by omega
    have hdlt:d<BB:=by
     grind
    refine hexit d hge' ?_ hdlt;refine kn_le iI hU hV hvr htop (Nat.le_of_lt hdlt) ?_;have h1:d*v2<=BB*BB:=ydb (Nat.le_of_lt hdlt) (Nat.le_of_lt hv2lt);have h2:BB*BB<=(rest+top)*BB:=ybi _ hb';have h3:head*BB=d*top*BB+(rest+top)*BB:=by rw[<- hsum',ybo]
    grind
   ·rename_i hb;exact ih (rest+top) hsum' hge' (by omega) (by omega)
  refine zen ?_;unfold Sr uQ25 uL uE rA uZ uW;generalize hC:(4294967296:Int)=C;generalize hG:cI Nat.lor .u64 (jA .u64 ((rest:Int)*C))=G;by_cases hbig:4294967296<=d+1
  ·simp (disch:=omega) only[iA,iD,e0,e1,vG];rw[yab (by omega)]
   grind
  ·obtain⟨b,off,g1,g2⟩:=hv.idx gG hv2;obtain⟨c,off',g3,g4⟩:=hu.idx gG hu2;have hu32:u2<4294967296:=by omega
   have hv32:v2<4294967296:=by omega
   have e5:((m+2:Nat):Int)-2=(m:Int):=by omega
   have e2:(rest:Int)*C=((rest*4294967296:Nat):Int):=by simp_all
   have e6:jA .u64 (D*(v2:Int))=(((d+1)*v2:Nat):Int):=by
    rw[<- hD,<- Int.natCast_mul];have:(d+1)*v2<=4294967295*4294967295:=ydb (by omega) (by omega)
    grind [vG]
   have e3:G (u2:Int)=some (.int .u64 ((rest*4294967296+u2:Nat):Int)):=by rw[<- hG,e2,vG (by omega) (by omega)];grind [or32]
   simp only[iA,iD];rw[yaa (by omega)];simp (disch:=omega) only[e5,wrap_i64,g1,xA];rw[g2];simp only[xA,fB,g3];rw[g4,xA,fB,xA,vG (n:=(u2:Int)) (by omega) (by omega),e3,xA,fB,xA,vG (n:=(v2:Int)) (by omega) (by omega),e6];have e7:jA .u64 ((rest:Int)+(top:Int))=((rest+top:Nat):Int):=by rw[e0];exact vG (by omega) (by omega)
   have e8:jA .u64 (D-1)=(d:Int):=by rw[e1];grind [vG]
   rw[e7,e8];have key:(d+1)*(top*BB+v2)=(d+1)*top*BB+(d+1)*v2:=by rw[ybm,<- ybj]
   have key2:head*BB=(d+1)*top*BB+rest*BB:=by rw[<- hsum,ybo]
   by_cases htest:rest*4294967296+u2<(d+1)*v2
   ·rw[yab (wC.2 (by omega))];subst hC;refine less (Nat.lt_succ_iff.1 (kn_gt hU hur hV ?_))
    grind
   ·rw[yaa (fun h=>absurd (wC.1 h) (by omega))];rw[<- hD];refine hexit (d+1) hge (kn_le iI hU hV hvr htop (by omega) ?_) (by omega)
    grind
end Go.Proofs
