/- Facts on types. (Printed by a tool.) -/
import Derived.Test.YtfmlbimokklmgaaGreatDoorE13
set_option linter.all false
noncomputable section
set_option maxRecDepth 100000
namespace Go.Proofs
open Go Go.Am
variable [gC]
def nO:yA.tys.get 3=some ⟨(.int .i64),1,8,[.int .i64 0],true⟩:=by kernel_rfl
def ty4:yA.tys.get 4=some ⟨.bool,1,1,[.bool false],true⟩:=by kernel_rfl
def ty5:yA.tys.get 5=some ⟨(.int .u8),1,1,[.int .u8 0],true⟩:=by kernel_rfl
def kN:yA.tys.get 9=some ⟨.string,1,16,[.str []],true⟩:=by kernel_rfl
def ty23:yA.tys.get 23=some ⟨(.slice 77),1,24,[.nilslice],true⟩:=by kernel_rfl
def Gd:yA.tys.get 24=some ⟨(.slice 130),1,24,[.nilslice],true⟩:=by kernel_rfl
def ty25:yA.tys.get 25=some ⟨(.slice 72),1,24,[.nilslice],true⟩:=by kernel_rfl
def ty27:yA.tys.get 27=some ⟨(.struct [(0,9,1),(1,23,1),(2,24,1),(3,25,1)]),4,88,[.str [],.nilslice,.nilslice,.nilslice],true⟩:=by kernel_rfl
def eT:yA.tys.get 29=some ⟨(.struct [(0,3,1),(1,3,1)]),2,16,[.int .i64 0,.int .i64 0],true⟩:=by kernel_rfl
def nY:yA.tys.get 30=some ⟨(.int .i64),1,8,[.int .i64 0],true⟩:=by kernel_rfl
def ty41:yA.tys.get 41=some ⟨(.slice 79),1,24,[.nilslice],true⟩:=by kernel_rfl
def ty43:yA.tys.get 43=some ⟨(.struct [(0,4,1),(1,41,1)]),2,32,[.bool false,.nilslice],true⟩:=by kernel_rfl
def ty48:yA.tys.get 48=some ⟨(.slice 50),1,24,[.nilslice],true⟩:=by kernel_rfl
def ty50:yA.tys.get 50=some ⟨(.struct [(0,5,1),(1,9,1),(2,47,6),(8,48,1)]),9,128,[.int .u8 0,.str [],.int .u8 0,.bool false,.nilslice,.bool false,.nilslice,.int .i64 0,.nilslice],true⟩:=by kernel_rfl
def eH:yA.tys.get 56=some ⟨(.int .u32),1,4,[.int .u32 0],true⟩:=by kernel_rfl
def kS:yA.tys.get 66=some ⟨(.slice 75),1,24,[.nilslice],true⟩:=by kernel_rfl
def ty72:yA.tys.get 72=some ⟨(.struct [(0,9,1),(1,9,1),(2,3,1),(3,3,1),(4,3,1),(5,4,1),(6,50,9),(15,50,9)]),24,320,[.str [],.str [],.int .i64 0,.int .i64 0,.int .i64 0,.bool false,.int .u8 0,.str [],.int .u8 0,.bool false,.nilslice,.bool false,.nilslice,.int .i64 0,.nilslice,.int .u8 0,.str [],.int .u8 0,.bool false,.nilslice,.bool false,.nilslice,.int .i64 0,.nilslice],true⟩:=by kernel_rfl
def ty75:yA.tys.get 75=some ⟨(.struct [(0,5,1),(1,9,1),(2,29,2)]),4,40,[.int .u8 0,.str [],.int .i64 0,.int .i64 0],true⟩:=by kernel_rfl
def ty77:yA.tys.get 77=some ⟨(.struct [(0,9,1),(1,5,1),(2,4,1)]),3,24,[.str [],.int .u8 0,.bool false],true⟩:=by kernel_rfl
def Ax:yA.tys.get 79=some ⟨(.int .u16),1,2,[.int .u16 0],true⟩:=by kernel_rfl
def ty84:yA.tys.get 84=some ⟨(.ptr 121),1,8,[.nilptr],true⟩:=by kernel_rfl
def ty93:yA.tys.get 93=some ⟨(.slice 9),1,24,[.nilslice],true⟩:=by kernel_rfl
def ty94:yA.tys.get 94=some ⟨(.slice 3),1,24,[.nilslice],true⟩:=by kernel_rfl
def ty95:yA.tys.get 95=some ⟨(.slice 5),1,24,[.nilslice],true⟩:=by kernel_rfl
def ty110:yA.tys.get 110=some ⟨(.struct [(0,108,1),(1,95,1)]),2,32,[.nilptr,.nilslice],true⟩:=by kernel_rfl
def Js:yA.tys.get 128=some ⟨(.slice 155),1,24,[.nilslice],true⟩:=by kernel_rfl
def zgm:yA.tys.get 130=some ⟨(.struct [(0,9,1),(1,4,1),(2,128,1)]),3,48,[.str [],.bool false,.nilslice],true⟩:=by kernel_rfl
def ty135:yA.tys.get 135=some ⟨(.map 3 9),1,8,[.nilmap],true⟩:=by kernel_rfl
def zgl:yA.tys.get 138=some ⟨(.struct [(0,9,1),(1,5,1)]),2,24,[.str [],.int .u8 0],true⟩:=by kernel_rfl
def ty145:yA.tys.get 145=some ⟨(.struct [(0,29,2),(2,9,1),(3,3,1)]),4,40,[.int .i64 0,.int .i64 0,.str [],.int .i64 0],true⟩:=by kernel_rfl
def zgk:yA.tys.get 155=some ⟨(.struct [(0,3,1),(1,3,1),(2,3,1),(3,45,4)]),7,88,[.int .i64 0,.int .i64 0,.int .i64 0,.bool false,.nilslice,.bool false,.nilslice],true⟩:=by kernel_rfl
def zgj:yA.tys.get 161=some ⟨(.slice 138),1,24,[.nilslice],true⟩:=by kernel_rfl
def pM:yA.tys.get 189=some ⟨(.slice 56),1,24,[.nilslice],true⟩:=by kernel_rfl
def ty201:yA.tys.get 201=some ⟨(.arr 7 9),7,112,[.str [],.str [],.str [],.str [],.str [],.str [],.str []],true⟩:=by kernel_rfl
def ty206:yA.tys.get 206=some ⟨(.ptr 189),1,8,[.nilptr],true⟩:=by kernel_rfl
def wQ:yA.tys.get 207=some ⟨(.int .u64),1,8,[.int .u64 0],true⟩:=by kernel_rfl
def ty219:yA.tys.get 219=some ⟨(.arr 12 3),12,96,[.int .i64 0,.int .i64 0,.int .i64 0,.int .i64 0,.int .i64 0,.int .i64 0,.int .i64 0,.int .i64 0,.int .i64 0,.int .i64 0,.int .i64 0,.int .i64 0],true⟩:=by kernel_rfl
def zgi:yA.tys.get 229=some ⟨(.slice 43),1,24,[.nilslice],true⟩:=by kernel_rfl
def ty250:yA.tys.get 250=some ⟨(.arr 12 249),60,480,[.str [],.int .u8 0,.bool false,.int .i64 0,.int .i64 0,.str [],.int .u8 0,.bool false,.int .i64 0,.int .i64 0,.str [],.int .u8 0,.bool false,.int .i64 0,.int .i64 0,.str [],.int .u8 0,.bool false,.int .i64 0,.int .i64 0,.str [],.int .u8 0,.bool false,.int .i64 0,.int .i64 0,.str [],.int .u8 0,.bool false,.int .i64 0,.int .i64 0,.str [],.int .u8 0,.bool false,.int .i64 0,.int .i64 0,.str [],.int .u8 0,.bool false,.int .i64 0,.int .i64 0,.str [],.int .u8 0,.bool false,.int .i64 0,.int .i64 0,.str [],.int .u8 0,.bool false,.int .i64 0,.int .i64 0,.str [],.int .u8 0,.bool false,.int .i64 0,.int .i64 0,.str [],.int .u8 0,.bool false,.int .i64 0,.int .i64 0],true⟩:=by kernel_rfl
def sl23:gI yA 23 77 3 true:=⟨⟨_,ty23,rfl⟩,⟨_,ty77,rfl,rfl⟩⟩
def sl24:gI yA 24 130 3 true:=⟨⟨_,Gd,rfl⟩,⟨_,zgm,rfl,rfl⟩⟩
def sl25:gI yA 25 72 24 true:=⟨⟨_,ty25,rfl⟩,⟨_,ty72,rfl,rfl⟩⟩
def iY:gI yA 41 79 1 false:=⟨⟨_,ty41,rfl⟩,⟨_,Ax,rfl,rfl⟩⟩
def sl48:gI yA 48 50 9 true:=⟨⟨_,ty48,rfl⟩,⟨_,ty50,rfl,rfl⟩⟩
def sl66:gI yA 66 75 4 true:=⟨⟨_,kS,rfl⟩,⟨_,ty75,rfl,rfl⟩⟩
def sl93:gI yA 93 9 1 false:=⟨⟨_,ty93,rfl⟩,⟨_,kN,rfl,rfl⟩⟩
def sl94:gI yA 94 3 1 false:=⟨⟨_,ty94,rfl⟩,⟨_,nO,rfl,rfl⟩⟩
def sl128:gI yA 128 155 7 true:=⟨⟨_,Js,rfl⟩,⟨_,zgk,rfl,rfl⟩⟩
def sl161:gI yA 161 138 2 true:=⟨⟨_,zgj,rfl⟩,⟨_,zgl,rfl,rfl⟩⟩
def iG:gI yA 189 56 1 false:=⟨⟨_,pM,rfl⟩,⟨_,eH,rfl,rfl⟩⟩
def sl229:gI yA 229 43 2 true:=⟨⟨_,zgi,rfl⟩,⟨_,ty43,rfl,rfl⟩⟩
end Go.Proofs
namespace Go.Am
open Go Go.RowKit
def xE (l:List Nat):List D:=l.map fun(n:Nat)=>D.int .u16 (n:Int)
theorem fU(l:List Nat):(xE l).length=l.length:=by simp[xE]
structure wK where
 neg:Bool
 limbs:List Nat
def wK.d(w:wK):D:=.st [.bool w.neg,.sl 1 (xE w.limbs)]
structure gH where
 n:wK
 d:wK
def gH.dd(f:gH):D:=.st [f.n.d,f.d.d]
structure pG where
 kind:Nat
 f:gH
 i:Int
def pG.d(v:pG):D:=.st [.int .u8 v.kind,v.f.dd,.int .i64 v.i]
inductive cA where
 | mk (op:Nat) (name:List Nat) (v:pG) (args:List cA)
def cA.op:cA->Nat | .mk o _ _ _=>o
def cA.name:cA->List Nat | .mk _ n _ _=>n
def cA.v:cA->pG | .mk _ _ v _=>v
def cA.args:cA->List cA | .mk _ _ _ a=>a
mutual
def cA.d:cA->D
 | .mk op name v args=>.st [.int .u8 op,.str name,v.d,.sl 9 (cA.ds args)]
def cA.ds:List cA->List D
 | []=>[]
 | x::l=>x.d::cA.ds l
end
theorem cA.ds_eq(l:List cA):cA.ds l=l.map cA.d:=by
 induction l with
 | nil=>rfl
 | cons x l ih=>simp[cA.ds,ih]
structure nH where
 a:Int
 b:Int
 known:Int
 f:gH
def nH.d(r:nH):D:=.st [.int .i64 r.a,.int .i64 r.b,.int .i64 r.known,r.f.dd]
structure zI where
 name:List Nat
 two:Bool
 rows:List nH
def zI.d(x:zI):D:=.st [.str x.name,.bool x.two,.sl 7 (x.rows.map nH.d)]
structure oG where
 name:List Nat
 kind:Nat
 fact:Bool
def oG.d(x:oG):D:=.st [.str x.name,.int .u8 x.kind,.bool x.fact]
structure dF where
 name:List Nat
 label:List Nat
 from_:Int
 to:Int
 known:Int
 off:Bool
 when_:cA
 then_:cA
def dF.d(x:dF):D:=.st [.str x.name,.str x.label,.int .i64 x.from_,.int .i64 x.to,.int .i64 x.known,.bool x.off,x.when_.d,x.then_.d]
structure wE where
 name:List Nat
 defs:List oG
 tables:List zI
 clauses:List dF
def wE.d(x:wE):D:=.st [.str x.name,.sl 3 (x.defs.map oG.d),.sl 3 (x.tables.map zI.d),.sl 24 (x.clauses.map dF.d)]
section
variable {t:Tr vA}{cs:List zA}
theorem Pg{w:wK}(h:RD t w.d cs):∃v,cs=[.bool w.neg,v]/\bA t 1 (xE w.limbs) v:=by
 grind [wK.d,kJ,yD,sF,xP,tY]
theorem rd_frac{f:gH}(h:RD t f.dd cs):∃u v,cs=[.bool f.n.neg,u,.bool f.d.neg,v]/\bA t 1 (xE f.n.limbs) u/\bA t 1 (xE f.d.limbs) v:=by
 grind [gH.dd,kJ,yD,sF,Pg]
def Kl{v:pG}(h:RD t v.d cs):∃a b,cs=[.int .u8 v.kind,.bool v.f.n.neg,a,.bool v.f.d.neg,b,.int .i64 v.i]/\bA t 1 (xE v.f.n.limbs) a/\bA t 1 (xE v.f.d.limbs) b:=by
 unfold pG.d at h;simp only[kJ,yD,sF,lK]at h;obtain⟨cl,rfl,c,r,rfl,rfl,c',r',rfl,h2,c'',r'',rfl,rfl,rfl⟩:=h
 obtain⟨a,b,rfl,h3,h4⟩:=rd_frac h2
 exact⟨a,b,rfl,h3,h4⟩
def rL{x:cA}(h:RD t x.d cs):∃a b c,cs=[.int .u8 x.op,.str x.name,.int .u8 x.v.kind,.bool x.v.f.n.neg,a,.bool x.v.f.d.neg,b,.int .i64 x.v.i,c] ∧
  bA t 1 (xE x.v.f.n.limbs) a/\bA t 1 (xE x.v.f.d.limbs) b/\bA t 9 (x.args.map cA.d) c:=by
 obtain⟨op,name,v,args⟩:=x
 unfold cA.d at h;rw[cA.ds_eq]at h;simp only[kJ,yD,sF,lK,mK,xP]at h;obtain⟨cl,rfl,c,r,rfl,rfl,c',r',rfl,rfl,c'',r'',rfl,hv,c3,r3,rfl,⟨w,rfl,h4⟩,rfl⟩:=h
 obtain⟨a,b,rfl,h5,h6⟩:=Kl hv
 exact⟨a,b,w,rfl,h5,h6,h4⟩
theorem Wd{r:nH}(h:RD t r.d cs):∃a b,cs=[.int .i64 r.a,.int .i64 r.b,.int .i64 r.known,.bool r.f.n.neg,a,.bool r.f.d.neg,b]/\bA t 1 (xE r.f.n.limbs) a/\bA t 1 (xE r.f.d.limbs) b:=by
 grind [nH.d,kJ,yD,sF,lK,rd_frac]
theorem EK{x:zI}(h:RD t x.d cs):∃a,cs=[.str x.name,.bool x.two,a]/\bA t 7 (x.rows.map nH.d) a:=by
 grind [zI.d,kJ,yD,sF,mK,tY,xP]
theorem We{x:oG}(h:RD t x.d cs):cs=[.str x.name,.int .u8 x.kind,.bool x.fact]:=by
 grind [oG.d,kJ,yD,sF,mK,tY,lK]
def Fk(x:cA)(a b c:zA):List zA:=[.int .u8 x.op,.str x.name,.int .u8 x.v.kind,.bool x.v.f.n.neg,a,.bool x.v.f.d.neg,b,.int .i64 x.v.i,c]
def Wg{x:dF}(h:RD t x.d cs):∃a b c a' b' c',cs=[.str x.name,.str x.label,.int .i64 x.from_,.int .i64 x.to,.int .i64 x.known,.bool x.off]++Fk x.when_ a b c++Fk x.then_ a' b' c' ∧
  RD t x.when_.d (Fk x.when_ a b c)/\RD t x.then_.d (Fk x.then_ a' b' c'):=by
 unfold dF.d at h;simp only[kJ,yD,sF,mK,tY,lK]at h;obtain⟨cl,rfl,c1,r1,rfl,rfl,c2,r2,rfl,rfl,c3,r3,rfl,rfl,c4,r4,rfl,rfl,c5,r5,rfl,rfl,c6,r6,rfl,rfl,c7,r7,rfl,h7,c8,r8,rfl,h8,rfl⟩:=h
 obtain⟨a,b,c,e1,_⟩:=rL h7
 obtain⟨a',b',c',e2,_⟩:=rL h8
 subst e1 e2
 exact⟨a,b,c,a',b',c',rfl,h7,h8⟩
theorem Dy{x:wE}(h:RD t x.d cs):∃a b c,cs=[.str x.name,a,b,c]/\bA t 3 (x.defs.map oG.d) a/\bA t 3 (x.tables.map zI.d) b/\bA t 24 (x.clauses.map dF.d) c:=by
 grind [wE.d,kJ,yD,sF,mK,xP]
end
def wK.zs(x:wK):x.d.zs=[.bool false,.nilslice]:=rfl
def gH.zs(x:gH):x.dd.zs=[.bool false,.nilslice,.bool false,.nilslice]:=rfl
def pG.zs(x:pG):x.d.zs=[.int .u8 0,.bool false,.nilslice,.bool false,.nilslice,.int .i64 0]:=rfl
def cA.zs(x:cA):x.d.zs=[.int .u8 0,.str [],.int .u8 0,.bool false,.nilslice,.bool false,.nilslice,.int .i64 0,.nilslice]:=by cases x;rfl
def nH.zs(x:nH):x.d.zs=[.int .i64 0,.int .i64 0,.int .i64 0,.bool false,.nilslice,.bool false,.nilslice]:=rfl
def zI.zs(x:zI):x.d.zs=[.str [],.bool false,.nilslice]:=rfl
def oG.zs(x:oG):x.d.zs=[.str [],.int .u8 0,.bool false]:=rfl
def dF.zs(x:dF):x.d.zs=[.str [],.str [],.int .i64 0,.int .i64 0,.int .i64 0,.bool false,.int .u8 0,.str [],.int .u8 0,.bool false,.nilslice,.bool false,.nilslice,.int .i64 0,.nilslice,.int .u8 0,.str [],.int .u8 0,.bool false,.nilslice,.bool false,.nilslice,.int .i64 0,.nilslice]:=by
 obtain⟨_,_,_,_,_,_,w,v⟩:=x;cases w;cases v;rfl
def wE.zs(x:wE):x.d.zs=[.str [],.nilslice,.nilslice,.nilslice]:=rfl
def tM:Nat:=1125899906842624
def gH.ok(f:gH):Prop:=f.n.limbs.length<tM/\f.d.limbs.length<tM
end Go.Am
namespace Go.Am
open Go Go.RowKit
section
variable {a b:Int}
theorem vG  : (cB a b=true) ↔ a<b:=Rb a b
theorem aK  : (fG a b=true) ↔ a<=b:=JM a b
def Qh(l:List Nat):(Int.ofNat (zB l))=(l.length:Int):=by rw[oD];rfl
def zge(cs:List zA):AX true cs=.agg cs:=rfl
end
section
variable {cap el i j n ty x:Nat}{y:lD}
def xC(k:IntKind)(l:List Nat):List D:=l.map fun(n:Nat)=>D.int k (n:Int)
theorem iH{k:IntKind}(l:List Nat):(xC k l).length=l.length:=by simp[xC]
def LD{k:IntKind}{l:List Nat} (h:l[i]?=some x):(xC k l)[i]?=some (.int k (x:Int)):=by simp[xC,h]
theorem LC{k:IntKind}{l:List Nat}  : (xC k l).take n=xC k (l.take n):=by simp[xC]
def wG (t:Tr vA)(b:Nat)(k:IntKind)(l:List Nat):Prop:=∃c,t.get b=some (.cells c l.length none)/\∀(j:Nat) x,l[j]?=some x->c.get j=some (.int k (x:Int))
def bF (b:Nat)(t t':Tr vA):Prop:=∀c,c≠b->t'.get c=t.get c
theorem bF.refl(b:Nat)(t:Tr vA):bF b t t:=fun _ _=>rfl
def bF.trans{b:Nat}{x y z:Tr vA}(h:bF b x y)(k:bF b y z):bF b x z:=fun c hc=>(k c hc).trans (h c hc)
section
variable {t t' t0:Tr vA}{C:mA}{b:Nat}{k:IntKind}{l:List Nat}
theorem wG.off(h:wG t b k l){c:Nat}(hc:b≠c)(ho:bF c t t'):wG t' b k l:=by
 obtain⟨x,h1,h2⟩:=h;exact⟨x,by rw[ho b hc];exact h1,h2⟩
def wG.tle(h:wG t b k l)(ho:aA t t'):wG t' b k l:=by
 obtain⟨x,h1,h2⟩:=h;exact⟨x,ho _ _ h1,h2⟩
theorem aA.off(h:aA t0 t)(hb:t0.get b=none)(ho:bF b t t'):aA t0 t':=by
 intro c y hc;rw[ho c (by grind)]
 exact h c y hc
theorem wG.slice(h:wG t b k l){off:Nat}(hn:off+n<=l.length)(hc:n<=cap):bA t 1 (xC k ((l.drop off).take n)) (.slice b off n cap):=by
 obtain⟨c,h1,h2⟩:=h
 refine⟨((l.drop off).take n).map fun(x:Nat)=>[.int k (x:Int)],.inr ⟨b,off,cap,?_,?_,⟨c,_,none,h1,.inl rfl⟩,fun i cs hi=>?_⟩,?_⟩
 ·grind
 ·grind
 ·simp only[ybu,yar]at hi
  obtain⟨x,hx,rfl⟩:=hi
  refine⟨rfl,c,_,none,h1,fun j a hj=>?_⟩
  grind
 ·refine xD.mk (by simp[xC]) fun i d cs hd hc=>?_
  simp only[xC,ybu,yar]at hd hc;obtain⟨x,hx,rfl⟩:=hd
  simp_all
theorem wG.all(h:wG t b k l) (hc:l.length<=cap):bA t 1 (xC k l) (.slice b 0 l.length cap):=by
 have:=h.slice (off:=0) (n:=l.length) (by omega) hc
 simp_all
def Av{T sz:Nat}{agg:Bool}(h:gI C T el sz agg){off:Nat}(hi:i<n):wC C T (.slice b off n cap) (.int .i64 (i:Int))=some (.ptr b (off+i*sz)):=by
 obtain⟨⟨y,hy1,hy2⟩,⟨z,hz1,hz2,hz3⟩⟩:=h
 unfold wC;rw[hy1,rA];have:(zA.int .i64 (i:Int)).asNat=some i:=rfl
 rw[this,rA];simp only[zA.asSlice];rw[hy2,rA,hz1,rA,pC.2 hi,hz2];rfl
theorem wG.load(h:wG t b k l) (hj:l[j]?=some x)  (hy:C.tys.get ty=some y)(ha:y.desc.isAgg=false):lA C ty ⟨0,t⟩ (.ptr b j)=some (.int k (x:Int)):=by
 obtain⟨c,h1,h2⟩:=h
 simp_all [lA,zA.asPtr,kD,vA.asCells,dR]
theorem wG.store(h:wG t b k l)(hb:C.base<=b) (hj:j<l.length)(x:Nat)  (hy:C.tys.get ty=some y)(hs:y.size=1) :
  ∃t',(∀n,zC C ty (.ptr b j) (.int k (x:Int)) ⟨n,t⟩=some (fD,⟨n,t'⟩))/\wG t' b k (l.set j x)/\bF b t t':=by
 obtain⟨c,h1,h2⟩:=h
 refine⟨t.set b (.cells (c.setMany [.int k (x:Int)] j) l.length none),fun n=>?_,⟨c.setMany [.int k (x:Int)] j,?_,fun i y hi=>?_⟩,fun d hd=>?_⟩
 ·unfold zC
  rw[hy,rA];simp only[zA.asPtr,rA,zA.cells,zA.asAgg];rw[hs];have e1:Nat.beq (zB [zA.int k (x:Int)]) 1=true:=rfl
  rw[e1,sE];unfold tJ kD;have e2:(!Nat.blt b C.base)=true:=by
   grind [pC]
  rw[e2,sE,h1,rA];simp only[vA.asCells,rA];have e3:Nat.ble (j+zB [zA.int k (x:Int)]) l.length=true:=qE.2 hj
  have e4:aB zA.one [zA.int k (x:Int)]=true:=rfl
  rw[e3,e4];rfl
 all_goals grind [Tr.get_set,Tr.get_setMany]
theorem Ek{T:Nat}{z:lD}(hT:C.tys.get T=some y)(hel:y.desc.asSlice=some el)(hz:C.tys.get el=some z)(hzero:z.zero=[.int k 0])(hs:z.size=1)(hby:z.bytes<=8) (hn:n<1000000)(hb:t.get b=none) :
  ∃t',tP C T (.int .i64 (n:Int)) (.int .i64 (n:Int)) ⟨b,t⟩=some (.slice b 0 n n,⟨b+1,t'⟩)/\wG t' b k (List.replicate n 0)/\aA t t'/\bF b t t':=by
 have hrep:∀n,nI [zA.int k 0] n=List.replicate n (.int k 0):=by
  intro n;induction n with
  | zero=>rfl
  | succ n ih=>grind [nI,aG]
 refine⟨t.set b (.cells (Tr.ofList (nI z.zero n)) (zB (nI z.zero n)) none),?_,⟨Tr.ofList (nI z.zero n),?_,fun j x hj=>?_⟩,fun c y' hc=>?_,fun c hc=>?_⟩
 ·unfold tP
  rw[hT,rA,hel,rA,hz,rA];have e1:(zA.int .i64 (n:Int)).asNat=some n:=rfl
  rw[e1,rA,rA];have e2:(Nat.ble n n&&Nat.blt n 1000000&&Nat.blt (n*z.bytes) 1000000000&&Nat.beq (zB z.zero) z.size)=true:=by
   rw[hzero,hs,show Nat.ble n n=true from qE.2 (ybk n),pC.2 hn]
   have:n*z.bytes<1000000000:=by
    have:=ydb (Nat.le_of_lt hn) hby
    omega
   rw[pC.2 this];rfl
  rw[e2,sE];rfl
 all_goals grind [Tr.get_set,oD,Tr.get_ofList]
end
end
end Go.Am
namespace Go.Am
variable {B:Nat}{l m:List Nat}
def val (B:Nat):List Nat->Nat
 | []=>0
 | a::l=>a+B*val B l
def kB(B:Nat)(l:List Nat):Prop:=∀x∈l,x<B
def norm (l:List Nat):Prop:=∀h:l≠[],l.getLast h≠0
theorem Jm(B:Nat):∀(l m:List Nat),val B (l++m)=val B l+B^l.length*val B m
 | [],m=>by simp[val]
 | a::l,m=>by
  simp only[List.cons_append,val,Jm B l m,ybn,yag];grind
theorem uP{B:Nat}(hB:0<B):∀ {l:List Nat},kB B l->val B l<B^l.length
 | [],_=>by simp[val]
 | a::l,h=>by
  have h1:=h a (yby)
  have h2:=uP hB (l:=l) fun x hx=>h x (ybr _ hx)
  simp only[val,ybn,yag];have h3:B*(val B l+1)<=B*B^l.length:=ybv B h2
  grind
theorem Df(B:Nat)(l:List Nat)(n:Nat):val B l=val B (l.take n)+B^(l.take n).length*val B (l.drop n):=by
 rw[<- Jm,List.take_append_drop]
theorem Co  (h:kB B l)(n:Nat):kB B (l.take n):=fun x hx=>h x (List.mem_of_mem_take hx)
def AI  (h:kB B l)(n:Nat):kB B (l.drop n):=fun x hx=>h x (List.mem_of_mem_drop hx)
def zac  (h:kB B l)(k:kB B m):kB B (l++m):=fun x hx=>(yaf.1 hx).elim (h x) (k x)
def kE:List Nat->List Nat
 | []=>[]
 | a::l=>if kE l=[]/\a=0 then []else a::kE l
theorem uV(B:Nat):∀l:List Nat,val B (kE l)=val B l
 | []=>rfl
 | a::l=>by
  unfold kE;have ih:=uV B l
  grind [val]
theorem mV:∀l:List Nat,norm (kE l)
 | []=>fun h=>(h rfl).elim
 | a::l=>by
  have ih:=mV l
  unfold kE;split
  ·simp_all
  ·rename_i h
   intro hne;by_cases hs:kE l=[]
   ·simp_all
   ·rw[List.getLast_cons hs];exact ih hs
theorem oT{B:Nat}:∀ {l:List Nat},kB B l->kB B (kE l)
 | [],h=>h
 | a::l,h=>by
  have ih:=oT (l:=l) fun x hx=>h x (ybr _ hx)
  unfold kE;split
  ·simp_all
  ·exact fun x hx=>(ybs.1 hx).elim (fun e=>e ▸ h a yby) (ih x)
def Jw:∀l:List Nat,(kE l).length<=l.length
 | []=>ybk _
 | a::l=>by unfold kE;have:=Jw l;split<;>simp<;>omega
theorem Uz:∀l:List Nat,kE (l++[0])=kE l
 | []=>by simp[kE]
 | a::l=>by
  show(if kE (l++[0])=[]/\a=0 then []else a::kE (l++[0]))=_
  rw[Uz l];rfl
def Jv:∀ {l:List Nat},norm l->kE l=l
 | [],_=>rfl
 | a::l,h=>by
  have hl:norm l:=by
   intro hne;have:=h (by simp)
   grind
  unfold kE;rw[Jv hl];split
  ·rename_i e
   have:=h (by simp)
   simp_all
  ·rfl
def TK (hB:0<B) (h:norm l)(h0:val B l=0):l=[]:=by
 have key:∀l:List Nat,val B l=0->∀x∈l,x=0:=by
  intro l;induction l with
  | nil=>simp_all
  | cons a l ih=>
   grind [val,Nat.mul_eq_zero]
 rcases List.eq_nil_or_concat l with e | ⟨m,a,e⟩
 ·exact e
 ·exfalso
  subst e;have:=h (by simp)
  simp at this;exact this (key _ h0 a (by simp))
def Tf  (h:norm l)(hne:l≠[]):B^(l.length-1)<=val B l:=by
 rcases List.eq_nil_or_concat l with e | ⟨m,a,e⟩
 ·simp_all
 ·rw[List.concat_eq_append]at e
  subst e;have:=h (by simp)
  simp at this;rw[Jm];simp only[ybg,ybn,ybx,val];have:1<=a+B*0:=by omega
  calc B^(m.length+1-1)=B^m.length*1:=by simp
   _<=B^m.length*(a+B*0):=ybv _ this
   _<=_:=Nat.le_add_left _ _
def AW{B:Nat}(hB:0<B):∀ {l m:List Nat},kB B l->kB B m->l.length=m.length->val B l=val B m->l=m
 | [],[],_,_,_,_=>rfl
 | a::l,b::m,h1,h2,hl,hv=>by
  have ha:=h1 a yby
  have hb:=h2 b yby
  simp only[val]at hv;have e1:a=b:=by
   grind [Nat.add_mul_mod_self_left,Nat.mod_eq_of_lt]
  subst e1;have e2:val B l=val B m:=by
   grind [Nat.eq_of_mul_eq_mul_left]
  rw[AW hB (fun x hx=>h1 x (ybr _ hx)) (fun x hx=>h2 x (ybr _ hx)) (by simp_all) e2]
 | [],_::_,_,_,h,_=>by simp at h
 | _::_,[],_,_,h,_=>by simp at h
def fR (hB:1<B) (h1:kB B l)(h3:norm m)(hv:val B m<=val B l):m.length<=l.length:=by
 by_cases hm:m=[]
 ·simp[hm]
 ·have a:=Tf (B:=B) h3 hm
  have b:=uP (by omega) h1
  have:B^(m.length-1)<B^l.length:=by omega
  grind [Nat.pow_lt_pow_iff_right]
def FY (hB:1<B) (h1:kB B l)(h2:kB B m)(h3:norm l)(h4:norm m)(hv:val B l=val B m):l=m:=by
 have a:=fR hB h1 h4 (by omega)
 have b:=fR hB h2 h3 (by omega)
 exact AW (by omega) h1 h2 (by omega) hv
def sN (a b:List Nat):Int:=if a.length≠b.length then(if a.length<b.length then -1 else 1)else go a b
where go:List Nat->List Nat->Int
 | a::l,b::m=>if go l m≠0 then go l m else if a<b then -1 else if b<a then 1 else 0
 | _,_=>0
theorem LP{B:Nat}:∀ {a b:List Nat},kB B a->kB B b->a.length=b.length->(sN.go a b<0 ↔ val B a<val B b)/\(sN.go a b=0 ↔ val B a=val B b)
 | [],[],_,_,_=>by simp[sN.go,val]
 | a::l,b::m,h1,h2,hl=>by
  have ha:=h1 a yby
  have hb:=h2 b yby
  obtain⟨i1,i2⟩:=LP (a:=l) (b:=m) (fun x hx=>h1 x (ybr _ hx)) (fun x hx=>h2 x (ybr _ hx)) (by simp_all)
  have lt_of:∀ {x y:Nat},x<y->∀u v,u<B->u+B*x<v+B*y:=by
   intro x y h u v hu;have:B*(x+1)<=B*y:=ybv B h
   grind
  unfold sN.go;simp only[val];by_cases h0:sN.go l m=0
  ·grind
  ·rw[yab h0]
   constructor
   ·rw[i1]
    constructor
    ·simp_all
    grind [Nat.lt_trichotomy]
   ·constructor
    ·omega
    ·intro h
     rcases Nat.lt_trichotomy (val B l) (val B m)with g | g | g
     ·have:=lt_of g a b ha;omega
     ·omega
     ·have:=lt_of g b a hb;omega
 | [],_::_,_,_,h=>by simp at h
 | _::_,[],_,_,h=>by simp at h
def LO (hB:1<B){a b:List Nat}(h1:kB B a)(h2:kB B b)(h3:norm a)(h4:norm b):sN a b<0 ↔ val B a<val B b:=by
 unfold sN;by_cases hl:a.length=b.length
 ·grind [LP]
 ·rw[yab hl]
  by_cases hlt:a.length<b.length
  ·rw[yab hlt]
   refine⟨fun _=>?_,fun _=>by omega⟩
   rcases yau (val B a) (val B b)with g | g
   ·exact g
   ·have:=fR hB h1 h4 g;omega
  ·rw[yaa hlt]
   refine⟨fun h=>by omega,fun h=>?_⟩
   have:=fR hB h2 h3 (by omega);omega
end Go.Am
namespace Go.Am
open Go Go.RowKit
variable {a b n:Int}{k:IntKind}{i x y:Nat}{l:List Nat}
theorem jF (h1:0<=n)(h2:n<18446744073709551616):iA .u64 n=n:=by
 grind [vP,IntKind.wrap,IntKind.bits,IntKind.signed]
theorem jT (h1:0<=n)(h2:n<4294967296):iA .u32 n=n:=by
 grind [vP,IntKind.wrap,IntKind.bits,IntKind.signed]
def zak (h1:0<=n)(h2:n<65536):iA .u16 n=n:=by
 grind [vP,IntKind.wrap,IntKind.bits,IntKind.signed]
def Nq (h1:0<=n)(h2:n<256):iA .u8 n=n:=by
 grind [vP,IntKind.wrap,IntKind.bits,IntKind.signed]
theorem Np(n:Int):iA .u64 n=n%18446744073709551616:=by
 grind [vP,IntKind.wrap,IntKind.bits,IntKind.signed]
theorem kT(n:Int):iA .u32 n=n%4294967296:=by
 grind [vP,IntKind.wrap,IntKind.bits,IntKind.signed]
def NK(n:Int):iA .u16 n=n%65536:=by
 grind [vP,IntKind.wrap,IntKind.bits,IntKind.signed]
def JN   : iAnd k (x:Int) (y:Int)=kI Nat.land k (x:Int) (y:Int):=rfl
theorem mU{f:Nat->Nat->Nat}  (h1:x<gG k)(h2:y<gG k):kI f k (x:Int) (y:Int)=some (.int k (f x y:Nat)):=by
 unfold kI;have e1:zN (x:Int)=some x:=rfl
 have e2:zN (y:Int)=some y:=rfl
 rw[e1,rA,e2,rA,pC.2 h1,pC.2 h2];rfl
def Ym  (h0:0<y)(hw:iA k ((x / y:Nat):Int)=((x / y:Nat):Int)):jZ k (x:Int) (y:Int)=some (.int k ((x / y:Nat):Int)):=by
 unfold jZ;have:oB (y:Int) 0=false:=by
  grind [iZ]
 rw[this,cond_false,Int.tdiv_eq_ediv_of_nonneg (by omega)]
 rw[<- Int.natCast_ediv,hw]
def Ra  (h0:0<y):kZ k (x:Int) (y:Int)=some (.int k ((x%y:Nat):Int)):=by
 unfold kZ;have:oB (y:Int) 0=false:=by
  grind [iZ]
 rw[this,cond_false,Int.tmod_eq_emod_of_nonneg (by omega),<- Int.natCast_emod]
theorem mG  : (oB a b=true) ↔ a=b:=iZ a b
def iR  : ((!oB a b)=true) ↔ a≠b:=by rw[ycp,<- Bool.not_eq_true,mG]
def Xc{b:Bool}:((!b)=true) ↔ b=false:=by simp
theorem Dr{a b n:Nat}(h:b<2^n):Nat.lor (a*2^n) b=a*2^n+b:=by
 show a*2^n ||| b=_
 rw[<- Nat.shiftLeft_eq,<- Nat.shiftLeft_add_eq_or_of_lt h,Nat.shiftLeft_eq]
def or_low{a b n:Nat}(h:b<2^n)(ha:a%2^n=0):Nat.lor a b=a+b:=by
 obtain⟨c,hc⟩:=Nat.dvd_of_mod_eq_zero ha
 grind [Nat.mul_comm,Dr]
def bA.idx{t:Tr vA}{C:mA}{T el:Nat}(h:gI C T el 1 false)  {v:zA}(hr:bA t 1 (xC k l) v) (hi:l[i]?=some x) :
  ∃b off,wC C T v (.int .i64 (i:Int))=some (.ptr b off)/\lA C el ⟨0,t⟩ (.ptr b off)=some (.int k (x:Int)):=by
 obtain⟨b,off,cs,h1,h2,_,_,h5⟩:=gI.at h (fun _=>rfl) hr (LD hi)
 rw[lK]at h5;subst h5;exact⟨b,off,h1,h2⟩
def Ci(x:Nat)(n:Nat):Int.fdiv (x:Int) (n:Int)=((x / n:Nat):Int):=by
 grind
def getElem?_of_lt  (h:i<l.length):∃x,l[i]?=some x:=⟨l[i],ybd h⟩
def xL{B:Nat} (h:kB B l) (hi:l[i]?=some x):x<B:=h x (ycv hi)
def Qj (h:l≠[]):∃m x,l=m++[x]:=by
 rcases List.eq_nil_or_concat l with e | ⟨m,a,e⟩
 all_goals simp_all
end Go.Am
namespace Go.Proofs
open Go Go.Am
variable {a b l:List Nat}{u v:zA}{neg:Bool}
variable [gC]
variable {t:Tr vA}
theorem OR:∀(n:Nat) (l:List Nat) (v:zA),l.length=n->n<1125899906842624->bA t 1 (xC .u32 l) v->∃v',jp 140 2 [v] t (fun u m=>u=v'/\m=t)/\bA t 1 (xC .u32 (kE l)) v':=by
 intro n;induction n with
 | zero=>
  intro l v hl _ hv;have:l=[]:=ycc.1 hl
  subst this;refine⟨v,Yf ?_,hv⟩
  simp only[uI,uL,uZ,uW,Oo,pA,hv.len,qA,rC,iH,vG];simp_all
 | succ n ih=>
  intro l v hl hn hv;obtain⟨m,x,rfl⟩:=Qj (l:=l) (by grind)
  have hm:m.length=n:=by simp_all
  have hx:(m++[x])[m.length]?=some x:=by simp
  obtain⟨b,off,g1,g2⟩:=hv.idx iG hx
  obtain⟨u,g3,g4⟩:=gI.front iG hv (k:=m.length) (by simp[xC])
  rw[LC]at g4;simp only[List.take_left']at g4;have e1:(((m++[x]).length:Nat):Int)-1=(m.length:Int):=by simp
  by_cases hx0:x=0
  ·subst hx0
   obtain⟨w,h1,h2⟩:=ih m u hm (by omega) g4
   refine⟨w,Yf ?_,by grind [Uz]⟩
   simp (disch:=omega) only[uI,uL,uZ,uW,Oo,pA,hv.len,qA,rC,iH,vG,mG,iC,e1,g1,g2,g3]
   simp_all
  ·refine⟨v,Yf ?_,?_⟩
   ·simp (disch:=omega) only[uI,uL,uZ,uW,Oo,pA,hv.len,qA,rC,iH,vG,mG,iC,e1,g1,g2,g3]
    simp_all
   ·rw[Jv]
    ·exact hv
    ·intro _;simp_all
def Az  (hl:l.length<1125899906842624)(hv:bA t 1 (xC .u32 l) v):∃v',sC yA F 140 [v] t=some v'/\bA t 1 (xC .u32 (kE l)) v':=by
 obtain⟨v',h1,h2⟩:=OR _ l v rfl hl hv
 exact⟨v',dD.2 (w140 h1),h2⟩
theorem zc6  (hu:bA t 1 (xC .u32 a) u)(hv:bA t 1 (xC .u32 b) v)(hl:a.length=b.length):∀(n:Nat),n<=a.length->n<1125899906842624->jp 169 2 [u,v,.int .i64 ((n:Int)-1)] t (fun w m=>w=.int .i64 (sN.go (a.take n) (b.take n))/\m=t):=by
 intro n;induction n with
 | zero=>
  intro _ _;refine ze8 ?_
  simp only[uL,uZ,uW,Uk,pA,aK];grind [sN.go]
 | succ n ih=>
  intro hn hn2;obtain⟨x,hx⟩:=getElem?_of_lt (l:=a) (i:=n) (by omega)
  obtain⟨y,hy⟩:=getElem?_of_lt (l:=b) (i:=n) (by omega)
  obtain⟨c,off,g1,g2⟩:=hu.idx iG hx
  obtain⟨d,off',g3,g4⟩:=hv.idx iG hy
  have e1:(((n+1:Nat):Int)-1)=(n:Int):=by omega
  have key:∀(a b:List Nat) (x y:Nat),a.length=b.length->sN.go (a++[x]) (b++[y])=if x<y then -1 else if y<x then 1 else sN.go a b:=by
   intro a;induction a with
   | nil=>
    grind [sN.go]
   | cons p a ih=>
    intro b x y h
    cases b with
    | nil=>simp at h
    | cons q b=>
     grind [sN.go]
  have e2:sN.go (a.take (n+1)) (b.take (n+1))=if x<y then -1 else if y<x then 1 else sN.go (a.take n) (b.take n):=by
   grind [List.take_add_one]
  rw[e1,e2];refine ze8 ?_
  simp (disch:=omega) only[uL,uZ,uW,Uk,pA,qA,rC,vG,aK,iR,g1,g2,g3,g4,iC]
  grind
theorem zft  (ha:a.length<1125899906842624)(hu:bA t 1 (xC .u32 a) u)(hv:bA t 1 (xC .u32 b) v):sC yA F 169 [u,v] t=some (.int .i64 (sN a b)):=by
 refine dD.2 (w169 ?_)
 simp (disch:=omega) only[uI,uZ,uW,t169,pA,hu.len,hv.len,qA,rC,iH,vG,iR,iC]
 unfold sN;by_cases hl:a.length=b.length
 ·rw[yaa (by omega),yaa (by omega)]
  have:=zc6 hu hv hl a.length (ybk _) ha
  grind
 grind
def xQ(neg:Bool)(l:List Nat):Bool:=if l=[]then !neg else decide (l.length<=1024)&&decide (l.getLast?≠some 0)
theorem Gb   (hl:l.length<1125899906842624)(hv:bA t 1 (xC .u16 l) v):sC yA F 123 [.agg [.bool neg,v]] t=some (.bool (xQ neg l)):=by
 refine dD.2 (w123 ?_)
 unfold xQ;by_cases h0:l=[]
 ·subst h0
  simp only[uI,uH,tC,uZ,uW,t123,pA,hv.len,qA,rC,iH,mG];simp
 ·obtain⟨m,x,rfl⟩:=Qj h0
  have hx:(m++[x])[m.length]?=some x:=by simp
  obtain⟨b,off,g1,g2⟩:=hv.idx iY hx
  have e1:(((m++[x]).length:Nat):Int)-1=(m.length:Int):=by simp
  have hlm:m.length<1125899906842624:=by omega
  simp (disch:=omega) only[uI,uH,tC,uZ,uW,t123,pA,hv.len,qA,rC,iH,mG,aK,iC,e1,g1,g2]
  rw[yaa (by omega),yaa h0]
  by_cases h1:(m++[x]).length<=1024
  ·rw[yab (by omega)]
   simp only[h1,decide_true,ycn];by_cases hx0:x=0
   ·grind [Cc]
   ·have:oB (x:Int) 0=false:=by
     grind [iZ]
    simp_all
  grind
theorem IY   (hv:bA t 1 (xC .u16 l) v):sC yA F 158 [.agg [.bool neg,v]] t=some (.bool (!neg&&decide (l=[1]))):=by
 refine dD.2 (w158 ?_)
 cases neg with
 | true=>simp[uI,uH,tC,uZ,t158,pA]
 | false=>
  simp only[uI,uH,tC,uZ,t158,pA,hv.len,qA,rC,iH,mG];rw[yab (by rfl)]
  by_cases h1:l.length=1
  ·obtain⟨x,rfl⟩:∃x,l=[x]:=by
    cases l with
    | nil=>simp at h1
    | cons x r=>simp_all
   obtain⟨b,off,g1,g2⟩:=hv.idx iY (i:=0) (x:=x) (by simp)
   simp only[Int.natCast_zero]at g1;rw[yab (by simp)]
   simp only[g1,g2,qA,rC];by_cases hx:x=1
   ·grind [Cc]
   ·have:oB (x:Int) 1=false:=by
     grind [iZ]
    simp_all
  ·rw[yaa (by omega)]
   have:l≠[1]:=by grind
   grind
end Go.Proofs
namespace Go.Am
def wH:List Nat->List Nat
 | []=>[]
 | [a]=>[a]
 | a::b::l=>(a+65536*b)::wH l
theorem fS:∀l:List Nat,(wH l).length=(l.length+1) / 2
 | []=>rfl
 | [a]=>by simp[wH]
 | a::b::l=>by simp[wH,fS l];omega
theorem Te:∀l:List Nat,val 4294967296 (wH l)=val 65536 l
 | []=>rfl
 | [a]=>by simp[wH,val]
 | a::b::l=>by simp only[wH,val,Te l];omega
def Mx:∀ {l:List Nat},kB 65536 l->kB 4294967296 (wH l)
 | [],_=>fun x hx=>(by cases hx)
 | [a],h=>fun x hx=>by
  have:=h a (by simp)
  grind [wH]
 | a::b::l,h=>fun x hx=>by
  have h1:=h a (by simp)
  have h2:=h b (by simp)
  rcases ybs.1 hx with rfl | hx
  ·omega
  ·exact Mx (l:=l) (fun y hy=>h y (by simp[hy])) x hx
def La:∀ {l:List Nat},norm l->norm (wH l)
 | [],_=>fun h=>(h rfl).elim
 | [a],h=>by
  grind [wH]
 | [a,b],h=>by
  intro _;have:=h (by simp)
  grind [wH]
 | a::b::c::l,h=>by
  intro _;have hn:norm (c::l):=by
   intro hne;have:=h (by simp)
   simp_all
  have hne:wH (c::l)≠[]:=by
   grind [fS]
  have:=La (l:=c::l) hn hne
  grind [wH]
def Wr:∀(l:List Nat) (x:Nat),l.length%2=0->wH (l++[x])=wH l++[x]
 | [],x,_=>rfl
 | [a],x,h=>by simp at h
 | a::b::l,x,h=>by
  show(a+65536*b)::wH (l++[x])=(a+65536*b)::(wH l++[x])
  rw[Wr l x (by grind)]
theorem FH:∀(l:List Nat) (a x:Nat),l.length%2=0->wH (l++[a,x])=wH l++[a+65536*x]
 | [],a,x,_=>rfl
 | [b],a,x,h=>by simp at h
 | c::b::l,a,x,h=>by
  show(c+65536*b)::wH (l++[a,x])=(c+65536*b)::(wH l++[a+65536*x])
  rw[FH l a x (by grind)]
def pH:List Nat->List Nat
 | []=>[]
 | w::l=>w%65536::w / 65536::pH l
theorem Jp:∀l:List Nat,(pH l).length=2*l.length
 | []=>rfl
 | w::l=>by simp[pH,Jp l];omega
def Nu:∀l:List Nat,val 65536 (pH l)=val 4294967296 l
 | []=>rfl
 | w::l=>by
  simp only[pH,val,Nu l];omega
def Sq:∀ {l:List Nat},kB 4294967296 l->kB 65536 (pH l)
 | [],_=>fun x hx=>(by cases hx)
 | w::l,h=>fun x hx=>by
  have h1:=h w (by simp)
  rcases ybs.1 hx with rfl | hx
  ·omega
  ·rcases ybs.1 hx with rfl | hx
   ·omega
   ·exact Sq (l:=l) (fun y hy=>h y (by simp[hy])) x hx
theorem Jr:∀(l:List Nat) (w:Nat),pH (l++[w])=pH l++[w%65536,w / 65536]
 | [],w=>rfl
 | a::l,w=>by simp[pH,Jr l w]
theorem CS{l:List Nat}{w:Nat}(hw:w≠0):kE (pH (l++[w]))=if w / 65536=0 then pH l++[w%65536]else pH (l++[w]):=by
 rw[Jr];split
 ·rename_i h
  rw[h,show pH l++[w%65536,0]=(pH l++[w%65536])++[0] by simp,Uz]
  refine Jv fun _=>?_
  grind
 ·rename_i h
  refine Jv fun _=>?_
  grind
end Go.Am
namespace Go.Proofs
open Go Go.Am
variable {l:List Nat}{v:zA}{Q:pB}
variable [gC]
variable {t:Tr vA}
theorem set_append_right{m:List Nat}{i x:Nat}(h:l.length=i):(l++m).set i x=l++m.set 0 x:=by
 simp_all
theorem SM  {b:Nat} (hv:bA t 1 (xC .u16 l) v)(hl:l.length<1000000)(hlt:kB 65536 l)(hbase:yA.base<=b)(hb:t.get b=none)
  (hQ:∀t' v',aA t t'->bA t' 1 (xC .u32 (wH l)) v'->Q v' t'):∀(k i:Nat) (t':Tr vA),i+k=l.length->aA t t'->wG t' b .u32 (wH (l.take i)++List.replicate ((l.length+1) / 2-(i+1) / 2) 0) →
  jp 164 2 [.slice b 0 ((l.length+1) / 2) ((l.length+1) / 2),v,.int .i64 l.length,.int .i64 i] t' Q:=by
 intro k;induction k with
 | zero=>
  intro i t' hi ht ho;refine zfb ?_
  simp only[uL,uH,wD,uZ,uW,Un,pA,vG];rw[yaa (by omega)]
  rw[yca (by omega),show(l.length+1) / 2-(i+1) / 2=0 by omega,List.replicate_zero,ycd]at ho
  refine hQ _ _ ht ?_
  have:=ho.all (ybk _)
  grind [fS]
 | succ k ih=>
  intro i t' hi ht ho;obtain⟨x,hx⟩:=getElem?_of_lt (l:=l) (i:=i) (by omega)
  have hxlt:x<65536:=xL hlt hx
  obtain⟨c,off,g1,g2⟩:=(hv.mono ht).idx iY hx
  have htake:l.take (i+1)=l.take i++[x]:=by grind [List.take_add_one]
  have hlen:(l.take i).length=i:=by grind
  obtain⟨y,hy,hnew⟩:∃y,(wH (l.take i)++List.replicate ((l.length+1) / 2-(i+1) / 2) 0)[i / 2]?=some y/\y<4294967296/\Nat.lor y (x*2^(16*(i%2)))<4294967296 ∧
    (wH (l.take i)++List.replicate ((l.length+1) / 2-(i+1) / 2) 0).set (i / 2) (Nat.lor y (x*2^(16*(i%2))))=wH (l.take (i+1))++List.replicate ((l.length+1) / 2-(i+1+1) / 2) 0:=by
   rcases Nat.mod_two_eq_zero_or_one i with he | ho1
   ·have hp:(wH (l.take i)).length=i / 2:=by grind [fS]
    refine⟨0,?_,by decide,?_,?_⟩
    ·rw[ybp (by omega),hp,Nat.sub_self,List.getElem?_replicate,yab (by omega)]
    ·rw[he];simp;omega
    ·rw[set_append_right hp,he,htake,Wr _ _ (by omega)]
     have:Nat.lor 0 (x*2^(16*0))=x:=by simp_all
     rw[this];obtain⟨r,hr⟩:∃r,(l.length+1) / 2-(i+1) / 2=r+1:=⟨(l.length+1) / 2-(i+1) / 2-1,by omega⟩
     rw[hr,List.replicate_succ,List.set_cons_zero,show(l.length+1) / 2-(i+1+1) / 2=r by omega]
     simp
   ·obtain⟨p,a,hpa⟩:=Qj (l:=l.take i) (by grind)
    have hpl:p.length=i-1:=by grind
    have hpe:p.length%2=0:=by omega
    have ha:a<65536:=hlt a (List.mem_of_mem_take (by simp_all:a∈l.take i))
    have hp:(wH p).length=i / 2:=by grind [fS]
    rw[hpa,Wr _ _ hpe];have hlor:Nat.lor a (x*2^(16*1))=a+65536*x:=by
     show a ||| x*2^(16*1)=_
     rw[Nat.or_comm];have:=Dr (a:=x) (b:=a) (n:=16) (by omega)
     show Nat.lor (x*2^16) a=_
     omega
    refine⟨a,?_,by omega,?_,?_⟩
    all_goals grind [set_append_right,FH]
  obtain⟨hy1,hy2,hy3⟩:=hnew
  have hwlen:(wH (l.take i)++List.replicate ((l.length+1) / 2-(i+1) / 2) 0).length=(l.length+1) / 2:=by
   grind [fS]
  have g3:wC yA 189 (.slice b 0 ((l.length+1) / 2) ((l.length+1) / 2)) (.int .i64 ((i / 2:Nat):Int))=some (.ptr b (0+i / 2*1)):=Av iG (by omega)
  rw[show 0+i / 2*1=i / 2 by omega]at g3;have g4:=ho.load hy eH rfl
  obtain⟨t2,g5,g6,g7⟩:=ho.store (C:=yA) hbase (j:=i / 2) (by omega) (Nat.lor y (x*2^(16*(i%2)))) eH rfl
  rw[hy3]at g6;refine zfb ?_
  have e1:Int.tdiv (i:Int) 2=((i / 2:Nat):Int):=by simp_all
  have e2:Int.tmod (i:Int) 2=((i%2:Nat):Int):=by grind
  have hm:=ycy i (show 0<2 by decide)
  simp (disch:=omega) only[uL,uH,wD,uZ,uW,Un,pA,vG,g1,g2,qA,rC,iC,jT,e1,e2,g3,g4]
  rw[yab (by omega)]
  have e3:vW .u32 (x:Int) (16*((i%2:Nat):Int))=some (.int .u32 ((x*2^(16*(i%2)):Nat):Int)):=by
   rcases Nat.mod_two_eq_zero_or_one i with h | h<;>rw[h]
   ·simp[vW,Dt,zN]
    rw[jT (by omega) (by omega)]
   ·have:vW .u32 (x:Int) (16*((1:Nat):Int))=some (.int .u32 (iA .u32 ((x:Int)*65536))):=rfl
    grind [jT]
  rw[e3];have hb2:x*2^(16*(i%2))<4294967296:=by
   rcases Nat.mod_two_eq_zero_or_one i with h | h<;>rw[h]<;>omega
  simp only[qA,rC];rw[mU (show y<gG .u32 from hy1) (show x*2^(16*(i%2))<gG .u32 from hb2)]
  simp only[qA,rC];intro d _ _;rw[g5];simp only[qA];have:=ih (i+1) t2 (by omega) (ht.off hb g7) g6
  simp_all
theorem Pm   (hv:bA t 1 (xC .u16 l) v)(hl:l.length<1000000)(hlt:kB 65536 l)
  (hQ:∀t' v',aA t t'->bA t' 1 (xC .u32 (wH l)) v'->Q v' t'):Wc yA F 164 [v] t Q:=by
 refine w164 ?_
 have e1:Int.tdiv ((l.length:Int)+1) 2=(((l.length+1) / 2:Nat):Int):=by grind
 simp (disch:=omega) only[uI,uZ,uW,t164,pA,hv.len,qA,rC,iH,iC,e1]
 intro b hb hbase;obtain⟨t',g1,g2,g3,_⟩:=Ek (C:=yA) (k:=.u32) pM rfl eH rfl rfl (by decide) (n:=(l.length+1) / 2) (by omega) hb
 rw[g1];simp only[qA];exact SM hv hl hlt hbase hb hQ l.length 0 t' (by omega) g3 (by grind [wH])
end Go.Proofs
namespace Go.Proofs
open Go Go.Am
variable {n s x y:Nat}
variable [gC]
variable {t:Tr vA}
theorem zgp (h:n<4294967296):n / 2147483648=if n.testBit 31 then 1 else 0:=by
 grind
theorem Tl (h:n<4294967296):n.testBit 31=decide (2147483648<=n):=by
 grind
theorem BF (h:x<4294967296):Di (.int .u32 (x:Int))=some (.int .u32 (Nat.xor 4294967295 x:Nat)):=by
 grind [Di,zA.asIntK,rA,Nat.beq,kLo,sE,mU,gG]
theorem za5{b:Nat}(hx:x<4294967296)(hy:y<4294967296)(hb:b<2) :
  sC yA F 179 [.int .u32 x,.int .u32 y,.int .u32 b] t=some (.tup [.int .u32 (((x+8589934592-y-b)%4294967296:Nat):Int),.int .u32 (((if x<y+b then 1 else 0):Nat):Int)]):=by
 refine dD.2 (w179 ?_)
 obtain⟨d,hd⟩:∃d,d=(x+8589934592-y-b)%4294967296:=⟨_,rfl⟩
 have hdl:d<4294967296:=by omega
 have e1:iA .u32 (iA .u32 ((x:Int)-y)-b)=(d:Int):=by
  grind [kT]
 have hn1:Nat.xor 4294967295 x<4294967296:=Nat.xor_lt_two_pow (n:=32) (by decide) hx
 have hn2:Nat.xor x y<4294967296:=Nat.xor_lt_two_pow (n:=32) hx hy
 have hn3:Nat.xor 4294967295 (Nat.xor x y)<4294967296:=Nat.xor_lt_two_pow (n:=32) (by decide) hn2
 have hn4:Nat.land (Nat.xor 4294967295 x) y<4294967296:=yam Nat.and_le_left hn1
 have hn5:Nat.land (Nat.xor 4294967295 (Nat.xor x y)) d<4294967296:=yam Nat.and_le_left hn3
 have hn6:Nat.lor (Nat.land (Nat.xor 4294967295 x) y) (Nat.land (Nat.xor 4294967295 (Nat.xor x y)) d)<4294967296:=Nat.or_lt_two_pow (n:=32) hn4 hn5
 simp only[uL,t179,pA,e1];rw[BF hx];simp only[qA,rC];rw[JN,mU (k:=.u32) hn1 hy]
 simp only[qA,rC];rw[mU (k:=.u32) hx hy]
 simp only[qA,rC];rw[BF hn2];simp only[qA,rC];rw[JN,mU (k:=.u32) hn3 hdl]
 simp only[qA,rC];rw[mU (k:=.u32) hn4 hn5]
 simp only[qA,rC];have e2:Int.fdiv ((Nat.lor (Nat.land (Nat.xor 4294967295 x) y) (Nat.land (Nat.xor 4294967295 (Nat.xor x y)) d):Nat):Int) 2147483648=(((if x<y+b then 1 else 0):Nat):Int):=by
  rw[show(2147483648:Int)=((2147483648:Nat):Int) from rfl,Ci,zgp hn6]
  congr 1
  have tb:(Nat.lor (Nat.land (Nat.xor 4294967295 x) y) (Nat.land (Nat.xor 4294967295 (Nat.xor x y)) d)).testBit 31=decide (x<y+b):=by
   show((4294967295 ^^^ x) &&& y ||| (4294967295 ^^^ (x ^^^ y)) &&& d).testBit 31=_
   rw[Nat.testBit_or,Nat.testBit_and,Nat.testBit_and,Nat.testBit_xor,Nat.testBit_xor,Nat.testBit_xor,Tl hx,Tl hy,Tl hdl];have:(4294967295:Nat).testBit 31=true:=by decide
   rw[this];by_cases c1:2147483648<=x<;>by_cases c2:2147483648<=y<;>by_cases c3:2147483648<=d<;>by_cases c4:x<y+b<;>simp only[c1,c2,c3,c4,decide_true,decide_false,Bool.xor_true,Bool.xor_false,Bool.true_xor,Bool.false_xor,Bool.not_true,ycl,Bool.and_true,yay,Bool.or_true,Bool.or_false,Bool.xor_self]<;>omega
  simp_all
 simp_all
theorem zdi{c:Nat}(hx:x<4294967296)(hy:y<4294967296)(hc:c<2) :
  sC yA F 186 [.int .u32 x,.int .u32 y,.int .u32 c] t=some (.tup [.int .u32 (((x+y+c)%4294967296:Nat):Int),.int .u32 (((x+y+c) / 4294967296:Nat):Int)]):=by
 refine dD.2 (w186 ?_)
 have e0:((x:Int)+y)+c=((x+y+c:Nat):Int):=by omega
 simp (disch:=omega) only[t186,pA,jF]
 grind [kT]
theorem zcu{h l d:Nat}(hh:h<d)(hl:l<4294967296)(hd:d<4294967296) :
  sC yA F 184 [.int .u32 h,.int .u32 l,.int .u32 d] t=some (.tup [.int .u32 (((h*4294967296+l) / d:Nat):Int),.int .u32 (((h*4294967296+l)%d:Nat):Int)]):=by
 refine dD.2 (w184 ?_)
 simp only[t184,pA,iR,aK];rw[yab (by omega),yaa (by omega)]
 refine j184_7 ?_
 have e1:(h:Int)*4294967296=((h*4294967296:Nat):Int):=by omega
 have hq:(h*4294967296+l) / d<4294967296:=ycu (by
  omega)
 have hr:(h*4294967296+l)%d<d:=ycy _ (by omega)
 simp (disch:=omega) only[uE,zd5,pA,jF,e1]
 have e2:kI Nat.lor .u64 ((h*4294967296:Nat):Int) (l:Int)=some (.int .u64 ((h*4294967296+l:Nat):Int)):=by
  rw[mU (k:=.u64) (show h*4294967296<gG .u64 by show _<18446744073709551616;omega) (show l<gG .u64 by show _<18446744073709551616;omega)]
  have:=Dr (a:=h) (b:=l) (n:=32) hl
  rw[show h*4294967296=h*2^32 by rfl,this]
 rw[e2];simp only[qA,rC];rw[Ym (k:=.u64) (by omega) (by
  grind [jF]),Ra (k:=.u64) (by omega)]
 grind [qA,rC,jT]
theorem zb8(v:Nat)(hv:v<256):∃k,k<9/\tD [0,1,2,2,3,3,3,3,4,4,4,4,4,4,4,4,5,5,5,5,5,5,5,5,5,5,5,5,5,5,5,5,6,6,6,6,6,6,6,6,6,6,6,6,6,6,6,6,6,6,6,6,6,6,6,6,6,6,6,6,6,6,6,6,7,7,7,7,7,7,7,7,7,7,7,7,7,7,7,7,7,7,7,7,7,7,7,7,7,7,7,7,7,7,7,7,7,7,7,7,7,7,7,7,7,7,7,7,7,7,7,7,7,7,7,7,7,7,7,7,7,7,7,7,7,7,7,7,8,8,8,8,8,8,8,8,8,8,8,8,8,8,8,8,8,8,8,8,8,8,8,8,8,8,8,8,8,8,8,8,8,8,8,8,8,8,8,8,8,8,8,8,8,8,8,8,8,8,8,8,8,8,8,8,8,8,8,8,8,8,8,8,8,8,8,8,8,8,8,8,8,8,8,8,8,8,8,8,8,8,8,8,8,8,8,8,8,8,8,8,8,8,8,8,8,8,8,8,8,8,8,8,8,8,8,8,8,8,8,8,8,8,8,8,8,8,8,8,8,8,8,8,8,8,8,8] v=some k/\(v=0/\k=0\/0<k/\2^(k-1)<=v/\v<2^k):=by
 have h:∀v:Fin 256,(tD [0,1,2,2,3,3,3,3,4,4,4,4,4,4,4,4,5,5,5,5,5,5,5,5,5,5,5,5,5,5,5,5,6,6,6,6,6,6,6,6,6,6,6,6,6,6,6,6,6,6,6,6,6,6,6,6,6,6,6,6,6,6,6,6,7,7,7,7,7,7,7,7,7,7,7,7,7,7,7,7,7,7,7,7,7,7,7,7,7,7,7,7,7,7,7,7,7,7,7,7,7,7,7,7,7,7,7,7,7,7,7,7,7,7,7,7,7,7,7,7,7,7,7,7,7,7,7,7,8,8,8,8,8,8,8,8,8,8,8,8,8,8,8,8,8,8,8,8,8,8,8,8,8,8,8,8,8,8,8,8,8,8,8,8,8,8,8,8,8,8,8,8,8,8,8,8,8,8,8,8,8,8,8,8,8,8,8,8,8,8,8,8,8,8,8,8,8,8,8,8,8,8,8,8,8,8,8,8,8,8,8,8,8,8,8,8,8,8,8,8,8,8,8,8,8,8,8,8,8,8,8,8,8,8,8,8,8,8,8,8,8,8,8,8,8,8,8,8,8,8,8,8,8,8,8,8] v.val).elim false (fun k=>decide (k<9)&&(decide (v.val=0)&&decide (k=0)||decide (0<k)&&decide (2^(k-1)<=v.val)&&decide (v.val<2^k)))=true:=by decide +kernel
 have hv:=h ⟨v,hv⟩
 simp only[]at hv;generalize tD _ v=r at hv ⊢
 cases r with
 | none=>simp at hv
 | some k=>
  grind
def BL (x k:Nat):Prop:=x=0/\k=0\/0<k/\2^(k-1)<=x/\x<2^k
theorem GZ (hx:x<256)(hs:s<100):∃k,k<=8/\BL x k/\jp 185 15 [.int .u32 x,.int .i64 s] t (fun v m=>v=.int .i64 ((s+k:Nat):Int)/\m=t):=by
 obtain⟨k,hk,h1,h2⟩:=zb8 x hx
 refine⟨k,by omega,h2,zig ?_⟩
 simp (disch:=omega) only[uU,uZ,uY,uW,CA,pA,Nq]
 unfold oI;rw[kN,rA];have:(zA.int .u8 (x:Int)).asNat=some x:=rfl
 rw[this,rA];simp only[zA.asStr];rw[show(lD.desc ⟨.string,1,16,[.str []],true⟩).isString=true from rfl,sE]
 grind [rA,qA,rC,iC]
theorem GY (hx:x<65536)(hs:s<90):∃k,k<=16/\BL x k/\jp 185 9 [.int .u32 x,.int .i64 s] t (fun v m=>v=.int .i64 ((s+k:Nat):Int)/\m=t):=by
 by_cases h:256<=x
 ·obtain⟨k,h1,h2,h3⟩:=GZ (t:=t) (x:=x / 256) (s:=s+8) (by omega) (by omega)
  refine⟨k+8,by omega,?_,ze0 ?_⟩
  ·rcases h2 with h2 | ⟨g1,g2,g3⟩
   ·omega
   ·refine .inr ⟨by omega,?_,?_⟩
    ·rw[show k+8-1=(k-1)+8 by omega,Nat.pow_add];omega
    grind
  ·simp (disch:=omega) only[uZ,uW,Ub,pA,aK,iC]
   grind
 ·obtain⟨k,h1,h2,h3⟩:=GZ (t:=t) (x:=x) (s:=s) (by omega) (by omega)
  refine⟨k,by omega,h2,ze0 ?_⟩
  simp only[uZ,uW,Ub,pA,aK];grind
theorem zb9 (hx:x<4294967296):∃k,k<=32/\BL x k/\sC yA F 185 [.int .u32 x] t=some (.int .i64 (k:Int)):=by
 by_cases h:65536<=x
 ·obtain⟨k,h1,h2,h3⟩:=GY (t:=t) (x:=x / 65536) (s:=16) (by omega) (by omega)
  refine⟨k+16,by omega,?_,dD.2 (w185 ?_)⟩
  ·rcases h2 with h2 | ⟨g1,g2,g3⟩
   ·omega
   ·refine .inr ⟨by omega,?_,?_⟩
    ·rw[show k+16-1=(k-1)+16 by omega,Nat.pow_add];omega
    grind
  ·simp only[uZ,t185,pA,aK]
   grind
 ·obtain⟨k,h1,h2,h3⟩:=GY (t:=t) (x:=x) (s:=0) (by omega) (by omega)
  refine⟨k,by omega,h2,dD.2 (w185 ?_)⟩
  simp only[uZ,t185,pA,aK];grind
theorem GJ (hx:x<4294967296)(h0:0<x):∃s:Nat,s<32/\2147483648<=x*2^s/\x*2^s<4294967296/\sC yA F 176 [.int .u32 x] t=some (.int .i64 (s:Int)):=by
 obtain⟨k,h1,h2,h3⟩:=zb9 (t:=t) hx
 rcases h2 with h2 | ⟨g1,g2,g3⟩
 ·omega
 ·refine⟨32-k,by omega,?_,?_,dD.2 (w176 ?_)⟩
  ·have:2^(k-1)*2^(32-k)=2147483648:=by rw[<- Nat.pow_add,show k-1+(32-k)=31 by omega]
   rw[<- this];exact ybi _ g2
  ·have:2^k*2^(32-k)=4294967296:=by rw[<- Nat.pow_add,show k+(32-k)=32 by omega]
   rw[<- this];exact Nat.mul_lt_mul_of_pos_right g3 (Nat.pow_pos (Nat.succ_pos 1))
  ·simp (disch:=omega) only[uI,uZ,uW,t176,pA,q185,h3,qA,rC,iC]
   grind
end Go.Proofs
namespace Go.Am
variable {B i x:Nat}{l:List Nat}
theorem Ou{p:List Nat}{n:Nat}:(p++List.replicate (n+1) 0).set p.length x=(p++[x])++List.replicate n 0:=by
 grind
theorem lN(B:Nat)(l:List Nat)(x:Nat):val B (l++[x])=val B l+B^l.length*x:=by rw[Jm];simp[val]
def xY   (h:kB B l)(hx:x<B):kB B (l++[x]):=zac h fun y hy=>by simp_all
def QE {r w d:Nat}(hr:r<d)(hw:w<B):(r*B+w) / d<B:=by
 have hd:0<d:=by omega
 refine ycu ?_
 have:(r+1)*B<=d*B:=ybi B hr
 grind
def vQ  (h:l[i]?=some x):l.take (i+1)=l.take i++[x]:=by rw[ydg,h];rfl
def fQ  (h:l[i]?=some x):l.drop i=x::l.drop (i+1):=by
 have hi:=(ybc.1 h)
 rw[ybl hi.1,hi.2]
end Go.Am
namespace Go.Am
open Go Go.RowKit
variable {el n sz:Nat}{v:zA}{cl:List (List zA)}
section
variable {t:Tr vA}{C:mA}
theorem TW{c:Tr zA}  : ∀(cl:List (List zA)) (off:Nat),(∀(i:Nat) cs,cl[i]?=some cs->cs.length=sz/\∀(j:Nat) a,cs[j]?=some a->c.get (off+i*sz+j)=some a)->c.many (cl.length*sz) off=some cl.flatten:=by
 intro cl;induction cl with
 | nil=>intro off _;simp;rfl
 | cons cs cl ih=>
  intro off h;obtain⟨h1,h2⟩:=h 0 cs (by simp)
  have hrest:=ih (off+sz) fun i cs' hi=>by
   obtain⟨g1,g2⟩:=h (i+1) cs' (by simp_all)
   grind
  have key:∀(n:Nat) (l r:List zA) (off:Nat),l.length=n->(∀(j:Nat) a,l[j]?=some a->c.get (off+j)=some a)->∀m,c.many m (off+n)=some r->c.many (n+m) off=some (l++r):=by
   intro n;induction n with
   | zero=>
    simp_all
   | succ n ihn=>
    intro l r off hl hg m hm
    cases l with
    | nil=>simp at hl
    | cons a l=>
     rw[show n+1+m=(n+m)+1 by omega,Tr.many_succ]
     have:=hg 0 a (by simp)
     rw[yct]at this;rw[this,rA,ihn l r (off+1) (by simp_all) (fun j b hj=>by
      have:=hg (j+1) b (by simp_all)
      grind) m (by grind)]
     rfl
  grind [Nat.add_mul]
theorem vN.first   (h:vN t sz v cl)  : sW ⟨n,t⟩ sz cl.length v=some cl.flatten/\Bw v=some cl.length:=by
 rcases h with⟨rfl,rfl⟩ | ⟨b,off,cap,rfl,_,⟨c,m,lo,h1,_⟩,h2⟩
 ·exact⟨rfl,rfl⟩
 ·refine⟨?_,rfl⟩
  unfold sW;simp only[zA.asSlice];unfold kD;rw[h1,rA];simp only[vA.asCells,rA];refine TW cl off fun i cs hi=>?_
  obtain⟨g1,c',m',lo',g2,g3⟩:=h2 i cs hi
  simp_all
theorem fZ  : ∀ {cl:List (List zA)},(∀(i:Nat) cs,cl[i]?=some cs->cs.length=sz)->cl.flatten.length=cl.length*sz:=by
 intro cl;induction cl with
 | nil=>grind
 | cons c cl ih=>
  intro h;rw[yas,ybg,ybn,ybo,ih fun i cs hi=>h (i+1) cs (by simp_all),h 0 c (by simp)]
  omega
theorem jU  : ∀ {cl:List (List zA)},(∀(i:Nat) cs,cl[i]?=some cs->cs.length=sz)->∀(i j:Nat) cs a,cl[i]?=some cs->cs[j]?=some a->cl.flatten[i*sz+j]?=some a:=by
 intro cl;induction cl with
 | nil=>simp_all
 | cons c cl ih=>
  intro h i j cs a hi hj;have hc:=h 0 c (by simp)
  rw[yas]
  cases i with
  | zero=>
   grind
  | succ i=>
   rw[ybp (by grind),hc,show(i+1)*sz+j-sz=i*sz+j by grind]
   exact ih (fun i cs hi=>h (i+1) cs (by simp_all)) i j cs a (by simp_all) hj
theorem vN.len   (h:vN t sz v cl):∀(i:Nat) cs,cl[i]?=some cs->cs.length=sz:=by
 rcases h with⟨rfl,rfl⟩ | ⟨b,off,cap,rfl,_,_,h2⟩
 all_goals grind
theorem Zl  {t':Tr vA}{lo:Option Lo}(hl:∀(i:Nat) cs,cl[i]?=some cs->cs.length=sz)(h:t'.get n=some (.cells (Tr.ofList cl.flatten) (zB cl.flatten) lo))(hlo:lo=none\/∃x,lo=some x/\x.es=sz):vN t' sz (.slice n 0 cl.length cl.length) cl:=
 .inr ⟨n,0,cl.length,rfl,ybk _,⟨_,_,_,h,hlo⟩,fun i cs hi=>⟨hl i cs hi,_,_,_,h,fun j a hj=>by
  grind [Tr.get_ofList,jU]⟩⟩
def NB (C:mA)(el:Nat):Prop:=∀y,C.tys.get el=some y->JC y=false
def NB.code {z:lD}(h:NB C el)(hz:C.tys.get el=some z):iM el z=.sz z.size:=by
 unfold iM;rw[h z hz,yay];rfl
structure It (C:mA) (T el sz:Nat):Prop where
 ty:∃y,C.tys.get T=some y/\y.desc.asSlice=some el/\Nat.beq y.desc.tag 1=false
 el:∃y,C.tys.get el=some y/\y.size=sz/\zB y.zero=sz/\y.bytes<=500/\0<sz
structure aP (C:mA) (T e sz:Nat):Prop where
 ty:∃y,C.tys.get T=some y/\y.desc.asSlice=some e/\Nat.beq y.desc.tag 1=false
 el:∃y,C.tys.get e=some y/\y.size=sz/\zB y.zero=sz/\y.bytes<=500/\0<sz
 nb:NB C e
theorem MZ{T:Nat}(hT:aP C T el sz){l:List D}{x s:zA}(hx:bA t sz l x)(hl:l.length<1000000) (hn:t.get n=none)
  (hs:s=.nilslice\/∃b c m,s=.slice b 0 0 0/\t.get b=some (.cells c m none)) :
  ∃v H',cG C T T s x ⟨n,t⟩=some (v,H')/\bA H'.t sz l v/\aA t H'.t/\bF n t H'.t:=by
 obtain⟨⟨y,hy1,hy2,hy3⟩,⟨z,hz1,hz2,hz3,hz4,hz5⟩,hnb⟩:=hT
 have hcode:=NB.code hnb hz1
 obtain⟨cl,he,hd⟩:=hx
 have hcl:=hd.length
 obtain⟨hf,hlen⟩:=he.first (n:=n)
 have hall:=he.len
 have base:cG C T T s x ⟨n,t⟩=(match s.asSlice with
  | some s=>bif Nat.ble (s.2.2.1+cl.length) s.2.2.2 then dX C ⟨n,t⟩ z cl.length cl.flatten s else tW C ⟨n,t⟩ el z cl.length cl.flatten s
  | none=>xB (Nat.beq s.tag 5) (zT ⟨n,t⟩ el z cl.length cl.flatten)):=by
  unfold cG fW;grind [rA,sE]
 have hfl:zB cl.flatten=cl.length*sz:=by grind [oD,fZ]
 have ok:kU z 0 0 cl.length cl.flatten=true:=by
  unfold kU;have h1:Nat.blt (0+cl.length+0) 1000000000=true:=pC.2 (by omega)
  have h2:Nat.blt ((0+cl.length+0)*z.bytes) 1000000000=true:=pC.2 (by
   have:=ydb (show 0+cl.length+0<=1000000 by omega) hz4
   omega)
  grind [pC,lC]
 have newT:∀(q:vA),aA t (t.set n q)/\bF n t (t.set n q):=fun q=>⟨fun c u hc=>by
   grind [Tr.get_set],fun c hc=>by rw[Tr.get_set,yaa hc]⟩
 rcases hs with rfl | ⟨b,c,m,rfl,hb⟩
 ·by_cases h0:cl.length=0
  ·have:cl=[]:=ycc.1 h0
   subst this;refine⟨.nilslice,⟨n,t⟩,?_,⟨[],.inl ⟨rfl,rfl⟩,hd⟩,aA.refl _,bF.refl _ _⟩
   rw[base];rfl
  ·refine⟨.slice n 0 cl.length cl.length,⟨n+1,t.set n (.cells (Tr.ofList cl.flatten) (zB cl.flatten) (some (iM el z)))⟩,?_,⟨cl,Zl hall (show(t.set n _).get n=_ by rw[Tr.get_set,yab rfl]) (.inr ⟨_,rfl,by rw[Hz,hz2]⟩),xD.mono (newT _).1 _ _ hd⟩,(newT _).1,(newT _).2⟩
   rw[base];simp only[zA.asSlice];show xB true (zT ⟨n,t⟩ el z cl.length cl.flatten)=_
   rw[sE];unfold zT;have:Nat.beq cl.length 0=false:=by
    grind [lC]
   rw[this,cond_false,ok];rfl
 ·by_cases h0:cl.length=0
  ·have:cl=[]:=ycc.1 h0
   subst this;refine⟨.slice b 0 0 0,⟨n,t⟩,?_,⟨[],.inr ⟨b,0,0,rfl,ybk _,⟨c,m,none,hb,.inl rfl⟩,fun i cs hi=>by simp at hi⟩,hd⟩,aA.refl _,bF.refl _ _⟩
   rw[base];rfl
  ·refine⟨.slice n 0 cl.length cl.length,⟨n+1,t.set n (.cells (Tr.ofList cl.flatten) (zB cl.flatten) (some (iM el z)))⟩,?_,⟨cl,Zl hall (show(t.set n _).get n=_ by rw[Tr.get_set,yab rfl]) (.inr ⟨_,rfl,by rw[Hz,hz2]⟩),xD.mono (newT _).1 _ _ hd⟩,(newT _).1,(newT _).2⟩
   rw[base];simp only[zA.asSlice];have:Nat.ble (0+cl.length) 0=false:=by
    grind [qE]
   rw[this,cond_false];unfold tW;simp only[];rw[show ∀x,(!(Nat.beq 0 1&&x))=true from fun _=>rfl,sE,ok,sE]
   unfold kD;rw[hb,rA];simp only[vA.asCells,rA];unfold Hm;simp only[Nat.zero_mul];show ob (c.many 0 0) _=_
   rw[show c.many 0 0=some [] from rfl,rA];rw[aG,yah,ybw];rfl
end
end Go.Am
namespace Go.Proofs
open Go Go.Am
variable {b el n:Nat}{y z:lD}{l:List Nat}{v:zA}{Q:pB}{k:IntKind}{neg:Bool}
variable [gC]
variable {t:Tr vA}
def el259:aP yA 189 56 1:=⟨⟨_,pM,rfl,rfl⟩,⟨_,eH,rfl,rfl,by decide,by decide⟩,fun y h=>by rw[eH]at h;cases h;rfl⟩
theorem lit0{T:Nat} (hT:yA.tys.get T=some y)(hel:y.desc.asSlice=some el)(hz:yA.tys.get el=some z)(hs:zB z.zero=z.size) (hb:t.get b=none) :
  ∃H',eC yA T 0 [] ⟨b,t⟩=some (.slice b 0 0 0,H')/\(∃c,H'.t.get b=some (.cells c 0 none))/\aA t H'.t:=by
 refine⟨fF ⟨b,t⟩ [] none,?_,⟨Tr.ofList [],?_⟩,?_⟩
 ·unfold eC
  rw[hT,rA,hel,rA,hz,rA];have:(Nat.blt (0*z.size) 1000000&&Nat.beq (zB z.zero) z.size)=true:=by simp_all
  rw[this];rfl
 ·show(t.set b _).get b=_
  rw[Tr.get_set,yab rfl];rfl
 ·intro c u hc
  show(t.set b _).get c=_
  grind [Tr.get_set]
theorem zc8   (hv:bA t 1 (xC .u32 l) v)(hl:l.length<1000000)
  (hQ:∀t' v',aA t t'->bA t' 1 (xC .u32 l) v'->Q v' t'):Wc yA F 174 [v] t Q:=by
 refine w174 ?_
 have e:(nJ .eql).f yA 189 (.tmp 3) (.const (.slice none 0 0)) v .nilslice=some (.bool (Nat.beq v.tag 5)):=by
  obtain⟨cl,h1,_⟩:=hv
  rcases h1 with⟨rfl,_⟩ | ⟨b,off,cap,rfl,_⟩
  ·kernel_rfl
  ·kernel_rfl
 simp only[uB,t174,pA,e,qA,Cn];split
 ·grind [tV,lC,aA.refl]
 ·intro b hb hbase
  obtain⟨H1,g1,⟨c,g2⟩,g3⟩:=lit0 (t:=t) pM rfl eH rfl hb
  rw[g1];simp only[qA];intro n hn _;obtain⟨u,H',g4,g5,g6,_⟩:=MZ el259 (hv.mono g3) (by grind [iH]) hn (.inr ⟨b,c,0,rfl,g2⟩)
  rw[g4];simp only[qA];exact hQ _ _ (g3.trans g6) g5
def Ka(n:Nat):List Nat:=kE [n%4294967296,n / 4294967296]
theorem NQ(n:Nat):val 4294967296 (Ka n)=n:=by grind [Ka,uV,val]
theorem ZU (h:n<18446744073709551616):kB 4294967296 (Ka n):=oT fun x hx=>by
 grind
theorem TJ(n:Nat):norm (Ka n):=mV _
theorem zh4{T:Nat}  (hT:yA.tys.get T=some y)(hel:y.desc.asSlice=some el)(hz:yA.tys.get el=some z)(hzero:z.zero=[.int k 0])(hs:z.size=1)(x:Nat)(hk:True) (hb:t.get b=none) :
  ∃H',eC yA T 1 [(0,.int k (x:Int))] ⟨b,t⟩=some (.slice b 0 1 1,H')/\wG H'.t b k [x]/\aA t H'.t:=by
 refine⟨fF ⟨b,t⟩ [.int k (x:Int)] none,?_,⟨Tr.ofList [.int k (x:Int)],?_,fun j u hj=>?_⟩,?_⟩
 ·unfold eC
  rw[hT,rA,hel,rA,hz,rA,hs,hzero];rfl
 ·show(t.set b _).get b=_
  rw[Tr.get_set,yab rfl];rfl
 ·grind [Tr.get_ofList]
 ·intro c u hc
  show(t.set b _).get c=_
  grind [Tr.get_set]
theorem zb0{T:Nat}  (hT:yA.tys.get T=some y)(hel:y.desc.asSlice=some el)(hz:yA.tys.get el=some z)(hzero:z.zero=[.int k 0])(hs:z.size=1)(x x':Nat) (hb:t.get b=none) :
  ∃H',eC yA T 2 [(0,.int k (x:Int)),(1,.int k (x':Int))] ⟨b,t⟩=some (.slice b 0 2 2,H')/\wG H'.t b k [x,x']/\aA t H'.t:=by
 refine⟨fF ⟨b,t⟩ [.int k (x:Int),.int k (x':Int)] none,?_,⟨Tr.ofList [.int k (x:Int),.int k (x':Int)],?_,fun j u hj=>?_⟩,?_⟩
 ·unfold eC
  rw[hT,rA,hel,rA,hz,rA,hs,hzero];rfl
 ·show(t.set b _).get b=_
  rw[Tr.get_set,yab rfl];rfl
 ·grind [Tr.get_ofList]
 ·intro c u hc
  show(t.set b _).get c=_
  grind [Tr.get_set]
theorem zbd  (hn:n<18446744073709551616)(hQ:∀t' v',aA t t'->bA t' 1 (xC .u32 (Ka n)) v'->Q v' t'):Wc yA F 173 [.int .u64 n] t Q:=by
 refine w173 ?_
 have e1:iA .u32 (n:Int)=((n%4294967296:Nat):Int):=by rw[kT];omega
 have e2:iA .u32 (Int.fdiv (n:Int) 4294967296)=((n / 4294967296:Nat):Int):=by
  rw[show Int.fdiv (n:Int) 4294967296=((n / 4294967296:Nat):Int) from Ci _ 4294967296,jT (by omega) (by omega)]
 simp only[t173,pA,e1,e2];intro b hb _;obtain⟨H',g1,g2,g3⟩:=zb0 (t:=t) (k:=.u32) pM rfl eH rfl rfl (n%4294967296) (n / 4294967296) hb
 rw[g1];simp only[qA];obtain⟨v',h1,h2⟩:=Az (l:=[n%4294967296,n / 4294967296]) (by simp) (g2.all (ybk _))
 simp only[Ea];have h1:sC yA F 140 [.slice b 0 2 2] H'.t=some v':=h1
 rw[h1];exact hQ _ _ g3 h2
theorem OI     (hv:bA t 1 (xC .u32 l) v)(hl:l.length<400000)(hlt:kB 4294967296 l)(hne:l≠[])(hnorm:norm l)(hbase:yA.base<=b)(hb:t.get b=none)
  (hQ:∀t' v',aA t t'->bA t' 1 (xC .u16 (kE (pH l))) v'->Q (.agg [.bool neg,v']) t'):∀(k i:Nat) (t':Tr vA),i+k=l.length->aA t t'->wG t' b .u16 (pH (l.take i)++List.replicate (2*k) 0) →
  jp 141 2 [.bool neg,.slice b 0 (2*l.length) (2*l.length),v,.int .i64 l.length,.int .i64 i,.bool false,.nilslice] t' Q:=by
 intro k;induction k with
 | zero=>
  intro i t' hi ht ho;refine zfe ?_
  rw[yca (by omega),yat,List.replicate_zero,ycd]at ho
  obtain⟨m,w,rfl⟩:=Qj hne
  have hw:w≠0:=by have:=hnorm (by simp);simp_all
  have hwlt:w<4294967296:=hlt w (by simp)
  have hul:(pH (m++[w])).length=2*(m++[w]).length:=Jp _
  have hml:(m++[w]).length=m.length+1:=by simp
  have hlast:(pH (m++[w]))[2*m.length+1]?=some (w / 65536):=by
   grind [Jr]
  have hread:=ho.all (cap:=2*(m++[w]).length) (by omega)
  rw[hul]at hread;have g3:wC yA 41 (.slice b 0 (2*(m++[w]).length) (2*(m++[w]).length)) (.int .i64 ((2*m.length+1:Nat):Int))=some (.ptr b (0+(2*m.length+1)*1)):=Av iY (by omega)
  rw[show 0+(2*m.length+1)*1=2*m.length+1 by omega]at g3
  have g4:=ho.load hlast Ax rfl
  have e1:((2*(m++[w]).length:Nat):Int)-1=((2*m.length+1:Nat):Int):=by omega
  have hlen:uC (.slice b 0 (2*(m++[w]).length) (2*(m++[w]).length))=some (.int .i64 ((2*(m++[w]).length:Nat):Int)):=rfl
  have hb2:2*m.length+1<1000000:=by omega
  simp (disch:=omega) only[uI,uL,uH,tF,wD,uZ,uW,Ur,pA,vG,hlen,qA,rC,e1,iC,g3,g4,mG]
  rw[yaa (by omega)]
  by_cases hz:w / 65536=0
  ·rw[yab (by omega)]
   obtain⟨u,g5,g6⟩:=gI.front iY hread (k:=2*m.length+1) (by grind [iH])
   rw[g5];simp only[qA];have hone:aB zA.one [.bool neg,u]=true:=by
    show(bif zA.one (.bool neg)then(bif zA.one u then true else false)else false)=true
    rw[g6.one];rfl
   grind [LC,CS,Jr,Jp]
  ·rw[yaa (by omega)]
   have hone:aB zA.one [.bool neg,.slice b 0 (2*(m++[w]).length) (2*(m++[w]).length)]=true:=rfl
   grind [CS]
 | succ k ih=>
  intro i t' hi ht ho;obtain⟨x,hx⟩:=getElem?_of_lt (l:=l) (i:=i) (by omega)
  have hxlt:x<4294967296:=xL hlt hx
  obtain⟨c,off,g1,g2⟩:=(hv.mono ht).idx iG hx
  have htl:(l.take i).length=i:=by grind
  have hpl:(pH (l.take i)).length=2*i:=by rw[Jp,htl]
  have hlen0:(pH (l.take i)++List.replicate (2*(k+1)) 0).length=2*l.length:=by grind
  have g3:∀j,j<2*l.length->wC yA 41 (.slice b 0 (2*l.length) (2*l.length)) (.int .i64 (j:Int))=some (.ptr b j):=by
   intro j hj;have:=Av (b:=b) (off:=0) (cap:=2*l.length) iY hj
   simp_all
  have g3a:=g3 (2*i) (by omega)
  have g3b:=g3 (2*i+1) (by omega)
  obtain⟨t1,s1,s2,s3⟩:=ho.store (C:=yA) hbase (j:=2*i) (by omega) (x%65536) Ax rfl
  have hs2:(pH (l.take i)++List.replicate (2*(k+1)) 0).set (2*i) (x%65536)=(pH (l.take i)++[x%65536])++List.replicate (2*k+1) 0:=by
   grind [Ou]
  rw[hs2]at s2;obtain⟨t2,s4,s5,s6⟩:=s2.store (C:=yA) hbase (j:=2*i+1) (by simp[hpl]) (x / 65536) Ax rfl
  have hs5:((pH (l.take i)++[x%65536])++List.replicate (2*k+1) 0).set (2*i+1) (x / 65536)=pH (l.take (i+1))++List.replicate (2*k) 0:=by
   have hq:(pH (l.take i)++[x%65536]).length=2*i+1:=by simp[hpl]
   rw[<- hq,Ou,vQ hx,Jr];simp
  rw[hs5]at s5;have e1:iA .u16 (x:Int)=((x%65536:Nat):Int):=by rw[NK];omega
  have e2:iA .u16 (Int.fdiv (x:Int) 65536)=((x / 65536:Nat):Int):=by
   rw[show Int.fdiv (x:Int) 65536=((x / 65536:Nat):Int) from Ci _ 65536,zak (by omega) (by omega)]
  have e3:(2:Int)*(i:Int)=((2*i:Nat):Int):=by omega
  have e4:((2*i:Nat):Int)+1=((2*i+1:Nat):Int):=by omega
  refine zfe ?_
  simp (disch:=omega) only[uI,uL,uH,tF,wD,uZ,uW,Ur,pA,vG,g1,g2,qA,rC,e1,e2,e3,e4,iC,g3a,g3b]
  rw[yab (by omega)]
  intro d _ _;rw[s1];simp only[qA];intro d' _ _;rw[s4];simp only[qA];have:=ih (i+1) t2 (by omega) ((ht.off hb s3).off hb s6) s5
  grind
theorem Ti    (hv:bA t 1 (xC .u32 l) v)(hl:l.length<400000)(hlt:kB 4294967296 l)
  (hQ:∀t' v',aA t t'->bA t' 1 (xC .u16 (kE (pH (kE l)))) v'->Q (.agg [.bool (if kE l=[]then false else neg),v']) t'):Wc yA F 141 [.bool neg,v] t Q:=by
 refine w141 ?_
 obtain⟨u,h1,h2⟩:=Az (l:=l) (by omega) hv
 have hsl:=Jw l
 simp only[uI,uZ,uW,t141,pA,Ea,h1,qA,h2.len,rC,iH,mG];by_cases h0:kE l=[]
 ·rw[yab (by grind)]
  simp only[if_true];have:=hQ t .nilslice (aA.refl _) (by rw[h0];exact⟨[],.inl ⟨rfl,rfl⟩,by simp[pH,kE,xC,xD]⟩)
  simp_all
 ·have hpos:0<(kE l).length:=List.length_pos_iff.2 h0
  rw[yaa (by omega)]
  have e1:(2:Int)*((kE l).length:Int)=((2*(kE l).length:Nat):Int):=by omega
  simp (disch:=omega) only[e1,iC]
  intro b hb hbase;obtain⟨t',g1,g2,g3,_⟩:=Ek (C:=yA) (k:=.u16) ty41 rfl Ax rfl rfl (by decide) (n:=2*(kE l).length) (by omega) hb
  rw[g1];simp only[qA];refine OI h2 (by omega) (oT hlt) h0 (mV l) hbase hb (fun t2 v2 a b=>?_) (kE l).length 0 t' (by omega) g3 (by grind [pH])
  simp_all
end Go.Proofs
namespace Go.Proofs
open Go Go.Am
section
variable {b d s x:Nat}{l:List Nat}{v:zA}{Q:pB}
variable [gC]
variable {t:Tr vA}
theorem Er{T el:Nat}(h:gI yA T el 1 false){n cap j:Nat}(hj:j<n):wC yA T (.slice b 0 n cap) (.int .i64 (j:Int))=some (.ptr b j):=by
 have:=Av (b:=b) (off:=0) (cap:=cap) h hj
 simp_all
theorem JL (hs:s<64)(hx:x*2^s<18446744073709551616):vW .u64 (x:Int) (s:Int)=some (.int .u64 ((x*2^s:Nat):Int)):=by
 unfold vW Dt;have:zN (s:Int)=some s:=rfl
 rw[this,rA,rA];have hm:min s (IntKind.bits .u64)=s:=by show min s 64=s;omega
 rw[hm];have e:(x:Int)*Int.ofNat (2^s)=((x*2^s:Nat):Int):=by simp_all
 rw[e,jF (by omega) (by omega)]
def JK (hs:s<65):Es .u64 (x:Int) (s:Int)=some (.int .u64 ((x / 2^s:Nat):Int)):=by
 unfold Es Dt;have:zN (s:Int)=some s:=rfl
 rw[this,rA,rA];have hm:min s (IntKind.bits .u64)=s:=by show min s 64=s;omega
 rw[hm];have e:Int.fdiv (x:Int) (Int.ofNat (2^s))=((x / 2^s:Nat):Int):=Ci x (2^s)
 rw[e]
def SH (hs:s<32):2^s<=2147483648:=yao (n:=2) (by decide) (show s<=31 by omega)
def FA (hs:s<=32):2^s*2^(32-s)=4294967296:=by rw[<- Nat.pow_add,show s+(32-s)=32 by omega]
def zh0 (hs:s<=32):(x*2^s%4294967296)%2^s=0:=by
 rw[<- FA hs,ybh x,Nat.mul_mod_mul_left,Nat.mul_mod_right]
theorem QF    (hv:bA t 1 (xC .u32 l) v)(hl:l.length<900000)(hlt:kB 4294967296 l)(hs:s<32)(hbase:yA.base<=b)(hb:t.get b=none)
  (hQ:∀t' r,aA t t'->bF b t t'->wG t' b .u32 r->r.length=l.length+1->kB 4294967296 r->val 4294967296 r=val 4294967296 l*2^s->Q (.slice b 0 (l.length+1) (l.length+1)) t') :
  ∀(k i:Nat) (t':Tr vA) (P:List Nat) (c:Nat),i+k=l.length->aA t t'->bF b t t'->wG t' b .u32 ((P++[c])++List.replicate k 0)->P.length=i->c<2^s->kB 4294967296 P->val 4294967296 P+4294967296^i*c=val 4294967296 (l.take i)*2^s →
  jp 177 2 [.int .i64 s,.slice b 0 (l.length+1) (l.length+1),v,.int .i64 l.length,.int .i64 i] t' Q:=by
 have hp2:=SH hs
 intro k;induction k with
 | zero=>
  intro i t' P c hi ht hoff ho hP hc hPl hval;refine ze5 ?_
  simp only[uL,uE,wD,uZ,Uh,pA,vG];rw[yaa (by omega)]
  rw[List.replicate_zero,ycd]at ho;refine hQ t' (P++[c]) ht hoff ho (by grind) (xY hPl (by omega)) ?_
  rw[lN,hP,hval,yca (by omega)]
 | succ k ih=>
  intro i t' P c hi ht hoff ho hP hc hPl hval;obtain⟨x,hx⟩:=getElem?_of_lt (l:=l) (i:=i) (by omega)
  have hxlt:x<4294967296:=xL hlt hx
  obtain⟨d,off,g1,g2⟩:=(hv.mono ht).idx iG hx
  have hxs:x*2^s<4294967296*2^s:=Nat.mul_lt_mul_of_pos_right hxlt (Nat.pow_pos (by decide))
  have hxs2:x*2^s<18446744073709551616:=by
   omega
  have hlow:=zh0 (x:=x) (s:=s) (by omega)
  have hlor:Nat.lor c (x*2^s%4294967296)=x*2^s%4294967296+c:=by
   have:=or_low (a:=x*2^s%4294967296) (b:=c) (n:=s) hc hlow
   simp_all [Nat.or_comm]
  have hsum:x*2^s%4294967296+c<4294967296:=by
   have h1:x*2^s%4294967296<4294967296:=ycy _ (by decide)
   have h2:(4294967296:Nat)%2^s=0:=by rw[<- FA (s:=s) (by omega),Nat.mul_mod_right]
   obtain⟨p,hp⟩:=Nat.dvd_of_mod_eq_zero hlow
   obtain⟨q,hq⟩:=Nat.dvd_of_mod_eq_zero h2
   have hpq:p<q:=by
    rcases yau p q with g | g
    ·exact g
    ·have:=ybv (2^s) g;omega
   have:=ybv (2^s) (show p+1<=q from hpq)
   grind
  have hhigh:x*2^s / 4294967296<2^s:=ycu (by omega)
  have hlen0:((P++[c])++List.replicate (k+1) 0).length=l.length+1:=by simp;omega
  have g3a:=Er iG (b:=b) (n:=l.length+1) (cap:=l.length+1) (j:=i) (by omega)
  have g3b:=Er iG (b:=b) (n:=l.length+1) (cap:=l.length+1) (j:=i+1) (by omega)
  have g4:=ho.load (j:=i) (x:=c) (by simp_all [ybp]) eH rfl
  obtain⟨t1,s1,s2,s3⟩:=ho.store (C:=yA) hbase (j:=i) (by omega) (x*2^s%4294967296+c) eH rfl
  have hs2:((P++[c])++List.replicate (k+1) 0).set i (x*2^s%4294967296+c)=(P++[x*2^s%4294967296+c])++List.replicate (k+1) 0:=by
   simp_all
  rw[hs2]at s2;obtain⟨t2,s4,s5,s6⟩:=s2.store (C:=yA) hbase (j:=i+1) (by grind) (x*2^s / 4294967296) eH rfl
  have hs5:((P++[x*2^s%4294967296+c])++List.replicate (k+1) 0).set (i+1) (x*2^s / 4294967296)=((P++[x*2^s%4294967296+c])++[x*2^s / 4294967296])++List.replicate k 0:=by
   have hq:(P++[x*2^s%4294967296+c]).length=i+1:=by simp[hP]
   grind [Ou]
  rw[hs5]at s5;refine ze5 ?_
  have e1:iA .u32 ((x*2^s:Nat):Int)=((x*2^s%4294967296:Nat):Int):=by rw[kT];omega
  have e2:iA .u32 (Int.fdiv ((x*2^s:Nat):Int) 4294967296)=((x*2^s / 4294967296:Nat):Int):=by
   rw[show Int.fdiv ((x*2^s:Nat):Int) 4294967296=((x*2^s / 4294967296:Nat):Int) from Ci _ 4294967296]
   generalize x*2^s=z at hhigh ⊢
   rw[jT (by omega) (by omega)]
  simp (disch:=omega) only[uL,uE,wD,uZ,Uh,pA,vG,g1,g2,qA,rC,jF,g3a,g4]
  rw[yab (by omega),JL (by omega) hxs2]
  simp only[qA,rC,e1];have e3:kI Nat.lor .u32 (c:Int) ((x*2^s%4294967296:Nat):Int)=some (.int .u32 ((x*2^s%4294967296+c:Nat):Int)):=by
   rw[mU (k:=.u32) (x:=c) (y:=x*2^s%4294967296) (show c<gG .u32 by show c<4294967296;omega) (by show x*2^s%4294967296<4294967296;omega),hlor]
  rw[e3];simp only[qA,rC];intro _ _ _;rw[s1];simp (disch:=omega) only[qA,iC]
  rw[show(i:Int)+1=((i+1:Nat):Int) by omega,g3b]
  simp only[qA,e2];intro _ _ _;rw[s4];simp only[qA];refine ih (i+1) t2 _ _ (by omega) ((ht.off hb s3).off hb s6) ((hoff.trans s3).trans s6) s5 (by simp[hP]) hhigh (xY hPl hsum) ?_
  rw[lN,hP,vQ hx,lN,ybo,<- hval];have:(l.take i).length=i:=by simp;omega
  grind [Nat.div_add_mod]
theorem DE    (hv:bA t 1 (xC .u32 l) v)(hl:l.length<900000)(hlt:kB 4294967296 l)(hs:s<32)
  (hQ:∀t' b r,aA t t'->t.get b=none->yA.base<=b->wG t' b .u32 r->r.length=l.length+1->kB 4294967296 r->val 4294967296 r=val 4294967296 l*2^s->Q (.slice b 0 (l.length+1) (l.length+1)) t'):Wc yA F 177 [v,.int .i64 s] t Q:=by
 refine w177 ?_
 simp (disch:=omega) only[uI,wD,uZ,t177,pA,hv.len,qA,rC,iH,iC]
 intro b hb hbase;obtain⟨t',g1,g2,g3,g4⟩:=Ek (C:=yA) (k:=.u32) pM rfl eH rfl rfl (by decide) (n:=l.length+1) (by omega) hb
 rw[show(l.length:Int)+1=((l.length+1:Nat):Int) by omega,g1]
 simp only[qA];have:=QF hv hl hlt hs hbase hb (fun t' r a _ c d e f=>hQ t' b r a hb hbase c d e f) l.length 0 t' [] 0 (by omega) g3 g4 (by grind) rfl (Nat.pow_pos (by decide)) (fun x hx=>by cases hx) (by simp[val])
 exact this
theorem WZ    (hv:bA t 1 (xC .u32 l) v)(hl:l.length<900000)(hlt:kB 4294967296 l)(hd:d<4294967296)(hd0:0<d)(hbase:yA.base<=b)(hb:t.get b=none)
  (hQ:∀t' v' q r,aA t t'->bA t' 1 (xC .u32 (kE q)) v'->kB 4294967296 q->q.length=l.length->r<d->val 4294967296 l=val 4294967296 q*d+r->Q (.tup [v',.int .u32 (r:Nat)]) t') :
  ∀(i:Nat) (t':Tr vA) (q:List Nat) (r:Nat),i<=l.length->aA t t'->wG t' b .u32 (List.replicate i 0++q)->q.length=l.length-i->kB 4294967296 q->r<d->val 4294967296 (l.drop i)=val 4294967296 q*d+r →
  jp 175 2 [v,.int .u32 d,.slice b 0 l.length l.length,.int .u32 r,.int .i64 ((i:Int)-1)] t' Q:=by
 intro i;induction i with
 | zero=>
  intro t' q r _ ht ho hq hql hr hval;refine ze6 ?_
  simp only[uL,uX,uZ,uW,Ui,pA,aK];rw[yaa (by omega)]
  rw[List.replicate_zero,yah]at ho;have hread:=ho.all (ybk _)
  have hqlen:q.length=l.length:=by omega
  rw[hqlen]at hread;obtain⟨v',h1,h2⟩:=Az (l:=q) (by omega) hread
  simp only[Ea,h1,qA];grind
 | succ i ih=>
  intro t' q r hi ht ho hq hql hr hval;obtain⟨x,hx⟩:=getElem?_of_lt (l:=l) (i:=i) (by omega)
  have hxlt:x<4294967296:=xL hlt hx
  obtain⟨c,off,g1,g2⟩:=(hv.mono ht).idx iG hx
  have e1:((i+1:Nat):Int)-1=(i:Int):=by omega
  have g3:=Er iG (b:=b) (n:=l.length) (cap:=l.length) (j:=i) (by omega)
  have hlen0:(List.replicate (i+1) 0++q).length=l.length:=by grind
  have hdiv:=zcu (t:=t') hr hxlt hd
  have hqlt:(r*4294967296+x) / d<4294967296:=QE hr hxlt
  have hrlt:(r*4294967296+x)%d<d:=ycy _ hd0
  obtain⟨t1,s1,s2,s3⟩:=ho.store (C:=yA) hbase (j:=i) (by omega) ((r*4294967296+x) / d) eH rfl
  have hs2:(List.replicate (i+1) 0++q).set i ((r*4294967296+x) / d)=List.replicate i 0++((r*4294967296+x) / d::q):=by
   grind [List.replicate_succ',set_append_right]
  rw[hs2]at s2;rw[e1];refine ze6 ?_
  simp (disch:=omega) only[uL,uX,uZ,uW,Ui,pA,aK,g1,g2,qA,rC,q184,hdiv,dG,zA.asTup,rA,g3,iC]
  rw[yab (by omega)]
  simp only[bG,yaz,yba,qA,rC];intro _ _ _;rw[s1];simp only[qA];refine ih t1 _ _ (by omega) (ht.off hb s3) s2 (by grind) ?_ hrlt ?_
  ·intro y hy
   rcases ybs.1 hy with rfl | hy
   ·exact hqlt
   ·exact hql y hy
  ·rw[fQ hx]
   grind [val,Nat.div_add_mod]
theorem WY    (hv:bA t 1 (xC .u32 l) v)(hl:l.length<900000)(hlt:kB 4294967296 l)(hd:d<4294967296)(hd0:0<d)
  (hQ:∀t' v' q r,aA t t'->bA t' 1 (xC .u32 (kE q)) v'->kB 4294967296 q->q.length=l.length->r<d->val 4294967296 l=val 4294967296 q*d+r->Q (.tup [v',.int .u32 (r:Nat)]) t'):Wc yA F 175 [v,.int .u32 d] t Q:=by
 refine w175 ?_
 simp (disch:=omega) only[uI,uZ,uW,t175,pA,hv.len,qA,rC,iH,iC]
 intro b hb hbase;obtain⟨t',g1,g2,g3,g4⟩:=Ek (C:=yA) (k:=.u32) pM rfl eH rfl rfl (by decide) (n:=l.length) (by omega) hb
 rw[g1];simp only[qA];exact WZ hv hl hlt hd hd0 hbase hb hQ l.length t' [] 0 (ybk _) g3 (by simp_all) (by simp) (fun x hx=>by cases hx) hd0 (by simp[val])
end
section
variable {l:List Nat}{v y:zA}{box:Nat}{Q:pB}{I:Nat->Tr vA->Prop}
variable [gC]
theorem XE      (hl:l.length<1000000)
  (hr:∀k t,I k t->lA yA 189 ⟨0,t⟩ (.ptr box 0)=some v/\bA t 1 (xC .u32 l) v)
  (hy:∀k x t,l[k]?=some x->I (k+1) t->∀R:pB,(∀t',I k t'->R (.bool true) t')->vE (iL y [.int .u32 (x:Nat)]) fun p=>Wq yA F qC p.1 p.2 t R)
  (hQ:∀t,I 0 t->Q (.tup []) t):∀(k:Nat) (t:Tr vA),k<=l.length->I k t->jp 190 2 [y,.ptr box 0,.int .i64 ((k:Int)-1)] t Q:=by
 intro k;induction k with
 | zero=>
  intro t _ h;refine zey ?_
  simp only[uL,uB,uZ,uW,Tz,pA,aK];simp_all
 | succ k ih=>
  intro t hk h;obtain⟨g0,hv⟩:=hr _ _ h
  obtain⟨x,hx⟩:=getElem?_of_lt (l:=l) (i:=k) (by omega)
  obtain⟨c,off,g1,g2⟩:=hv.idx iG hx
  have e1:((k+1:Nat):Int)-1=(k:Int):=by omega
  rw[e1];refine zey ?_
  simp (disch:=omega) only[uL,uB,uZ,uW,Tz,pA,aK,g0,g1,g2,qA,rC,iC]
  rw[yab (by omega)]
  refine hy k x t hx h _ fun t' ht'=>?_
  grind [zA.asBool,qA]
def zjf     {t:Tr vA} (hl:l.length<1000000)
  (hr:∀k t,I k t->lA yA 189 ⟨0,t⟩ (.ptr box 0)=some v/\bA t 1 (xC .u32 l) v)
  (hy:∀k x t,l[k]?=some x->I (k+1) t->∀R:pB,(∀t',I k t'->R (.bool true) t')->vE (iL y [.int .u32 (x:Nat)]) fun p=>Wq yA F qC p.1 p.2 t R)
  (hQ:∀t,I 0 t->Q (.tup []) t) (h:I l.length t):Wc yA F 190 [y,.ptr box 0] t Q:=by
 obtain⟨g0,hv⟩:=hr _ _ h
 refine w190 ?_
 simp (disch:=omega) only[uI,uZ,uW,t190,pA,g0,hv.len,iH,qA,rC,iC]
 exact XE hl hr hy hQ l.length t (ybk _) h
end
end Go.Proofs
namespace Go.Am
open Go Go.RowKit
variable {b base el k n sz:Nat}{cl cm:List (List zA)}{t':Tr vA}{cd:Lo}{l m:List D}{v x:zA}
section
variable {t tf:Tr vA}{C:mA}
theorem gN (hn:t.get n=none)(q:vA):aA t (t.set n q)/\bF n t (t.set n q):=
 ⟨fun c u hc=>by grind [Tr.get_set],fun c hc=>by rw[Tr.get_set,yaa hc]⟩
theorem KW   {lo:Option Lo}(hl:∀(i:Nat) cs,cl[i]?=some cs->cs.length=sz)(h:t'.get n=some (.cells (Tr.ofList cl.flatten) (zB cl.flatten) lo))(hlo:lo=none\/∃x,lo=some x/\x.es=sz) (hk:cl.length=k):vN t' sz (.slice n 0 k k) cl:=by
 grind [Zl]
theorem Em{T:Nat}{y z:lD}{ps:List (Nat × zA)} (hT:C.tys.get T=some y)(hel:y.desc.asSlice=some el)(hz:C.tys.get el=some z)(hs:z.size=sz)(h0:zB z.zero=sz)(hn:n*sz<1000000)
  (hfill:kL (fun i=>some (i*sz,sz)) ps (nI z.zero n)=some cl.flatten) (hcl:∀(i:Nat) cs,cl[i]?=some cs->cs.length=sz) (hlen:cl.length=n)  (hb:t.get b=none) :
  ∃t',eC C T n ps ⟨b,t⟩=some (.slice b 0 n n,⟨b+1,t'⟩)/\vN t' sz (.slice b 0 n n) cl/\aA t t'/\bF b t t':=by
 refine⟨t.set b (.cells (Tr.ofList cl.flatten) (zB cl.flatten) none),?_,KW hcl (by rw[Tr.get_set,yab rfl]) (.inl rfl) hlen,(gN hb _).1,(gN hb _).2⟩
 unfold eC;rw[hT,rA,hel,rA,hz,rA];have:(Nat.blt (n*z.size) 1000000&&Nat.beq (zB z.zero) z.size)=true:=by
  simp_all
 rw[this,sE,hs,hfill];rfl
def vK(cd:Lo)(base:Nat)(tf t:Tr vA)(sz:Nat)(l:List D)(v:zA):Prop:=
 (v=.nilslice/\l=[])\/∃b cl c,v=.slice b 0 l.length l.length/\base<=b/\tf.get b=none/\t.get b=some (.cells c (l.length*sz) (some cd)) ∧
  (∀(i:Nat) cs,cl[i]?=some cs->cs.length=sz/\∀(j:Nat) a,cs[j]?=some a->c.get (i*sz+j)=some a)/\xD tf l cl
abbrev zR(base:Nat)(tf t:Tr vA)(sz:Nat)(l:List D)(v:zA):Prop:=vK (.sz sz) base tf t sz l v
def lM(v:zA)(b:Nat):Prop:=∃o n c,v=.slice b o n c
theorem JE  : ¬ lM .nilslice b:=fun⟨_,_,_,h⟩=>by cases h
theorem Cb{c o:Nat}:lM (.slice b o n k) c ↔ c=b:=⟨fun⟨_,_,_,h⟩=>by grind,fun h=>by subst h;exact⟨_,_,_,rfl⟩⟩
theorem vK.read    (hcd:cd.es=sz)(h:vK cd base tf t sz l v)(ht:aA tf t):bA t sz l v:=by
 rcases h with⟨rfl,rfl⟩ | ⟨b,cl,c,rfl,_,_,h1,h2,h3⟩
 ·exact⟨[],.inl ⟨rfl,rfl⟩,sF.2 rfl⟩
 ·have hlen:=h3.length
  refine⟨cl,.inr ⟨b,0,l.length,by rw[hlen],by omega,⟨c,_,_,h1,.inr ⟨_,rfl,hcd⟩⟩,fun i cs hi=>⟨(h2 i cs hi).1,c,_,_,h1,fun j a hj=>?_⟩⟩,xD.mono ht _ _ h3⟩
  simp_all
theorem vK.len    (h:vK cd base tf t sz l v):uC v=some (.int .i64 (l.length:Int)):=by
 rcases h with⟨rfl,rfl⟩ | ⟨b,cl,c,rfl,_⟩
 ·rfl
 ·rfl
theorem vK.one    (h:vK cd base tf t sz l v):zA.one v=true:=by
 rcases h with⟨rfl,rfl⟩ | ⟨b,cl,c,rfl,_⟩<;>rfl
theorem vK.same{cd:Lo}{base sz d:Nat}{l:List D}{v:zA}(h:vK cd base tf t sz l v):same d v v=true:=by
 rcases h with⟨rfl,rfl⟩ | ⟨b,cl,c,rfl,_⟩
 all_goals grind [Am.same,Nat.beq_refl]
theorem vK.none{cd:Lo}{base sz:Nat}{l:List D}{v:zA}(h:vK cd base tf t sz l v){b:Nat}(hb:lM v b):tf.get b=none/\base<=b/\∃y,t.get b=some y:=by
 rcases h with⟨rfl,rfl⟩ | ⟨c,cl,x,rfl,h1,h2,h3,_⟩
 all_goals grind [JE,Cb]
theorem zR.keep   {tf':Tr vA}(h:zR base tf t sz l v)(hf:aA tf tf')(hk:∀b,lM v b->t'.get b=t.get b/\tf'.get b=Option.none):zR base tf' t' sz l v:=by
 rcases h with⟨rfl,rfl⟩ | ⟨b,cl,c,rfl,h0,h1,h2,h3,h4⟩
 ·exact .inl ⟨rfl,rfl⟩
 ·obtain⟨k1,k2⟩:=hk b (Cb.2 rfl)
  exact .inr ⟨b,cl,c,rfl,h0,k2,by simp_all,h3,xD.mono hf _ _ h4⟩
theorem MX{T U:Nat} (hT:It C T el sz)(hU:∃u,C.tys.get U=some u/\Nat.beq u.desc.tag 1=false)(hcd:∀z,C.tys.get el=some z->iM el z=cd)   (hv:vK cd C.base tf t sz l v)(hall:∀(i:Nat) cs,cm[i]?=some cs->cs.length=sz)(hx:∀n,sW ⟨n,t⟩ sz cm.length x=some cm.flatten/\Bw x=some cm.length)(hm:xD tf m cm)(hone:∀a∈cm.flatten,zA.one a=true)(hpos:0<m.length)(hl:l.length+m.length<400000) (hn:t.get n=none)(hbase:C.base<=n)(ht:aA tf t) :
  ∃t',cG C T U v x ⟨n,t⟩=some (.slice n 0 (l.length+m.length) (l.length+m.length),⟨n+1,t'⟩)/\vK cd C.base tf t' sz (l++m) (.slice n 0 (l.length+m.length) (l.length+m.length))/\aA tf t'/\(∀c,c≠n->¬ lM v c->t'.get c=t.get c):=by
 obtain⟨⟨y,hy1,hy2,hy3⟩,⟨z,hz1,hz2,hz3,hz4,hz5⟩⟩:=hT
 have hcode:=hcd z hz1
 have hcm:=hm.length
 obtain⟨hf,hlen⟩:=hx n
 obtain⟨u,hu1,hu2⟩:=hU
 have hflat:=fZ hall
 have hfl:zB cm.flatten=cm.length*sz:=by grind [oD]
 have hfn:tf.get n=none:=by
  cases hq:tf.get n with
  | none=>rfl
  | some u=>rw[ht _ _ hq]at hn;cases hn
 have base:cG C T U v x ⟨n,t⟩=(match v.asSlice with
  | some s=>bif Nat.ble (s.2.2.1+cm.length) s.2.2.2 then dX C ⟨n,t⟩ z cm.length cm.flatten s else tW C ⟨n,t⟩ el z cm.length cm.flatten s
  | none=>xB (Nat.beq v.tag 5) (zT ⟨n,t⟩ el z cm.length cm.flatten)):=by
  unfold cG fW;grind [rA,sE]
 have ok:kU z l.length l.length cm.length cm.flatten=true:=by
  unfold kU;have h1:Nat.blt (l.length+cm.length+l.length) 1000000000=true:=pC.2 (by omega)
  have h2:Nat.blt ((l.length+cm.length+l.length)*z.bytes) 1000000000=true:=pC.2 (by
   have:=ydb (show l.length+cm.length+l.length<=800000 by omega) hz4
   omega)
  grind [pC,lC]
 rcases hv with⟨rfl,rfl⟩ | ⟨b,cl,c,rfl,hb0,hb1,hb2,hb3,hb4⟩
 ·refine⟨t.set n (.cells (Tr.ofList cm.flatten) (zB cm.flatten) (some cd)),?_,.inr ⟨n,cm,Tr.ofList cm.flatten,by simp,hbase,hfn,?_,fun i cs hi=>⟨hall i cs hi,fun j a hj=>?_⟩,by simp_all⟩,?_,fun c hc _=>(gN hn _).2 c hc⟩
  ·rw[base]
   simp only[zA.asSlice];show xB true (zT ⟨n,t⟩ el z cm.length cm.flatten)=_
   rw[sE];unfold zT;have:Nat.beq cm.length 0=false:=by
    grind [lC]
   have ok:kU z 0 0 cm.length cm.flatten=true:=ok
   rw[this,cond_false,ok,sE,hcm,hcode];simp only[ybx,ybw];rfl
  ·grind [Tr.get_set]
  ·grind [Tr.get_ofList,jU]
  ·exact ht.trans (gN hn _).1
 ·have hcl:=hb4.length
  have hbn:b≠n:=by grind
  refine⟨(t.del b).set n (.cells (c.setMany cm.flatten (l.length*z.size)) ((l.length+cm.length)*z.size) (some cd)),?_,.inr ⟨n,cl++cm,c.setMany cm.flatten (l.length*z.size),by simp,hbase,hfn,?_,fun i cs hi=>?_,?_⟩,fun k u hk=>?_,fun k hk1 hk2=>?_⟩
  ·rw[base]
   simp only[zA.asSlice];have:Nat.ble (l.length+cm.length) l.length=false:=by
    grind [qE]
   rw[this,cond_false];unfold tW;simp only[];rw[show ∀x,(!(Nat.beq 0 1&&x))=true from fun _=>rfl,sE,ok,sE]
   unfold kD;rw[hb2,rA];simp only[vA.asCells,rA];unfold Eu;simp only[];have g1:loEq cd (iM el z)=true:=by grind [Xl]
   have g2:Nat.ble (l.length*z.size) (l.length*sz)=true:=qE.2 (by simp_all)
   have g3:Nat.ble (l.length*sz) ((l.length+cm.length)*z.size)=true:=qE.2 (by grind)
   have g4:aB zA.one cm.flatten=true:=by grind [mI]
   have g5:(!Nat.blt b C.base)=true:=by
    grind [pC]
   rw[g1,g2,g3,g4,g5];simp_all
  ·rw[Tr.get_set,yab rfl,hz2,hcm,ybg]
  ·rw[List.getElem?_append]at hi
   split at hi
   ·rename_i hlt
    obtain⟨k1,k2⟩:=hb3 i cs hi
    refine⟨k1,fun j a hj=>?_⟩
    have hjl:j<sz:=by grind
    have:i*sz+j<l.length*sz:=by
     have:=ybi sz (show i+1<=l.length by omega)
     grind
    grind [Tr.get_setMany]
   ·rename_i hge
    have k1:=hall _ cs hi
    refine⟨k1,fun j a hj=>?_⟩
    have hf1:=jU hall _ j cs a hi hj
    have hlt:=(ybc.1 hf1).1
    have e:i*sz=l.length*sz+(i-cl.length)*sz:=by rw[<- ybo];simp_all
    grind [Tr.get_setMany]
  ·have app:∀ {l m:List D} {cl cm:List (List zA)},xD tf l cl->xD tf m cm->xD tf (l++m) (cl++cm):=by
    intro l;induction l with
    | nil=>grind [sF]
    | cons d l ih=>
     grind [yD]
   simp_all
  ·have h1:k≠b:=by grind
   have h2:k≠n:=by grind
   rw[Tr.get_set,yaa h2,Tr.get_del,yaa h1];exact ht _ _ hk
  grind [Tr.get_set,Tr.get_del,Cb]
def ZQ{T:Nat} (hT:It C T el sz)(hcd:∀z,C.tys.get el=some z->iM el z=cd)   (hv:vK cd C.base tf t sz l v)(hx:vN t sz x cm)(hm:xD tf m cm)(hone:∀a∈cm.flatten,zA.one a=true)(hpos:0<m.length)(hl:l.length+m.length<400000) (hn:t.get n=none)(hbase:C.base<=n)(ht:aA tf t) :
  ∃t',cG C T T v x ⟨n,t⟩=some (.slice n 0 (l.length+m.length) (l.length+m.length),⟨n+1,t'⟩)/\vK cd C.base tf t' sz (l++m) (.slice n 0 (l.length+m.length) (l.length+m.length))/\aA tf t'/\(∀c,c≠n->¬ lM v c->t'.get c=t.get c):=by
 obtain⟨y,hy1,hy2,hy3⟩:=hT.ty
 exact MX hT ⟨y,hy1,hy3⟩ hcd hv hx.len (fun n=>hx.first (n:=n)) hm hone hpos hl hn hbase ht
def MY{T:Nat}(hT:aP C T el sz)   (hv:zR C.base tf t sz l v)(hx:vN t sz x cm)(hm:xD tf m cm)(hone:∀a∈cm.flatten,zA.one a=true)(hpos:0<m.length)(hl:l.length+m.length<400000) (hn:t.get n=none)(hbase:C.base<=n)(ht:aA tf t) :
  ∃t',cG C T T v x ⟨n,t⟩=some (.slice n 0 (l.length+m.length) (l.length+m.length),⟨n+1,t'⟩)/\zR C.base tf t' sz (l++m) (.slice n 0 (l.length+m.length) (l.length+m.length))/\aA tf t'/\(∀c,c≠n->¬ lM v c->t'.get c=t.get c):=by
 refine ZQ ⟨hT.ty,hT.el⟩ (fun z h=>?_) hv hx hm hone hpos hl hn hbase ht
 obtain⟨y,h1,h2,_⟩:=hT.el
 rw[hT.nb.code h,show z=y from yci (h.symm.trans h1),h2]
theorem vK.freeze    (hcd:cd.es=sz)(h:vK cd base tf t sz l v)(ht:aA tf t):∃tf',aA tf tf'/\aA tf' t/\bA tf' sz l v/\∀b,¬ lM v b->tf'.get b=tf.get b:=by
 rcases h with⟨rfl,rfl⟩ | ⟨b,cl,c,rfl,h0,h1,h2,h3,h4⟩
 ·exact⟨tf,aA.refl _,ht,⟨[],.inl ⟨rfl,rfl⟩,sF.2 rfl⟩,fun _ _=>rfl⟩
 ·have hlen:=h4.length
  refine⟨tf.set b (.cells c (l.length*sz) (some cd)),(gN h1 _).1,fun k u hk=>?_,⟨cl,.inr ⟨b,0,l.length,by rw[hlen],by omega,⟨c,_,_,by rw[Tr.get_set,yab rfl],.inr ⟨_,rfl,hcd⟩⟩,fun i cs hi=>⟨(h3 i cs hi).1,c,_,_,(by rw[Tr.get_set,yab rfl]),fun j a hj=>?_⟩⟩,xD.mono (gN h1 _).1 _ _ h4⟩,fun k hk=>by rw[Tr.get_set,yaa (fun e=>hk (Cb.2 e))]⟩
  ·rw[Tr.get_set]at hk
   split at hk
   ·simp_all
   ·exact ht _ _ hk
  simp_all
theorem zR.freeze   (h:zR base tf t sz l v)(ht:aA tf t):∃tf',aA tf tf'/\aA tf' t/\bA tf' sz l v/\∀b,¬ lM v b->tf'.get b=tf.get b:=vK.freeze rfl h ht
end
end Go.Am
namespace Go.Am
open Go Go.RowKit
section
variable {l:List zA}{j sz:Nat}{y:lD}{v:zA}
def dC (t:Tr vA)(b:Nat)(lo:Option Lo)(cs:List zA):Prop:=∃c,t.get b=some (.cells c cs.length lo)/\∀(j:Nat) a,cs[j]?=some a->c.get j=some a
def rJ(cs:List zA)(j:Nat)(l:List zA):List zA:=cs.take j++(l++cs.drop (j+l.length))
theorem Ws{cs:List zA} (h:j+l.length<=cs.length):(rJ cs j l).length=cs.length:=by
 grind [rJ]
theorem Ec{cs:List zA} (h:j+l.length<=cs.length)(k:Nat):(rJ cs j l)[k]?=if j<=k/\k<j+l.length then l[k-j]? else cs[k]?:=by
 grind [rJ]
section
variable {t tf:Tr vA}{C:mA}{b:Nat}{lo:Option Lo}{cs:List zA}
theorem dC.at(h:dC t b lo cs):At t b 0 cs:=by
 obtain⟨c,h1,h2⟩:=h
 exact⟨c,_,_,h1,fun j a hj=>by simp_all⟩
theorem dC.off(h:dC t b lo cs){t':Tr vA}(k:t'.get b=t.get b):dC t' b lo cs:=by
 obtain⟨c,h1,h2⟩:=h
 exact⟨c,by simp_all,h2⟩
theorem dC.load1(h:dC t b lo cs) {a:zA}{ty:Nat} (hy:C.tys.get ty=some y)(ha:y.desc.isAgg=false)(hj:cs[j]?=some a):lA C ty ⟨0,t⟩ (.ptr b j)=some a:=by
 have:=h.at.load1 hy ha hj
 simp_all
theorem dC.store(h:dC t b lo cs)(hb:C.base<=b){T:Nat}  (hT:C.tys.get T=some y)(hl:v.cells.length=y.size)(hj:j+v.cells.length<=cs.length)(hone:aB zA.one v.cells=true) :
  ∃t',(∀n,zC C T (.ptr b j) v ⟨n,t⟩=some (fD,⟨n,t'⟩))/\dC t' b lo (rJ cs j v.cells)/\bF b t t':=by
 obtain⟨c,h1,h2⟩:=h
 refine⟨t.set b (.cells (c.setMany v.cells j) cs.length lo),fun n=>?_,⟨c.setMany v.cells j,?_,fun k a hk=>?_⟩,fun d hd=>by rw[Tr.get_set,yaa hd]⟩
 ·unfold zC
  rw[hT,rA];simp only[zA.asPtr,rA];have e1:Nat.beq (zB v.cells) y.size=true:=by grind [oD,lC]
  rw[e1,sE];unfold tJ kD;have e2:(!Nat.blt b C.base)=true:=by
   grind [pC]
  rw[e2,sE,h1,rA];simp only[vA.asCells,rA];have e3:Nat.ble (j+zB v.cells) cs.length=true:=by simp_all
  rw[e3,hone];rfl
 all_goals grind [Tr.get_set,Ws,Ec,Tr.get_setMany]
theorem dC.store1(h:dC t b lo cs)(hb:C.base<=b){T:Nat}  (hT:C.tys.get T=some y)(hs:y.size=1)(hv:v.cells=[v])(hone:zA.one v=true)(hj:j<cs.length) :
  ∃t',(∀n,zC C T (.ptr b j) v ⟨n,t⟩=some (fD,⟨n,t'⟩))/\dC t' b lo (cs.set j v)/\bF b t t':=by
 obtain⟨t',h1,h2,h3⟩:=h.store hb hT (v:=v) (j:=j) (by simp_all) (by grind) (by rw[hv];show(bif zA.one v then true else false)=true;simp_all)
 refine⟨t',h1,?_,h3⟩
 have e:rJ cs j v.cells=cs.set j v:=by
  rw[hv];apply List.ext_getElem?
  grind [Ec]
 simp_all
theorem Qa{b:Nat}(hb:t.get b=none)(cs:List zA)(lo:Option Lo):∃t',fF ⟨b,t⟩ cs lo=⟨b+1,t'⟩/\dC t' b lo cs/\aA t t'/\bF b t t':=
 ⟨t.set b (.cells (Tr.ofList cs) (zB cs) lo),rfl,⟨Tr.ofList cs,by rw[Tr.get_set,yab rfl,oD],fun j a hj=>by grind [Tr.get_ofList]⟩,(gN hb _).1,(gN hb _).2⟩
def rS{b T:Nat} (hT:C.tys.get T=some y)(hb:t.get b=none):∃t',tK C T ⟨b,t⟩=some (.ptr b 0,⟨b+1,t'⟩)/\dC t' b none y.zero/\aA t t'/\bF b t t':=by
 obtain⟨t',h1,h2,h3,h4⟩:=Qa hb y.zero none
 refine⟨t',?_,h2,h3,h4⟩
 unfold tK;rw[hT,rA,<- h1]
theorem Sg{b:Nat} (hb:t.get b=none):∃t',aM v ⟨b,t⟩=some (.ptr b 0,⟨b+1,t'⟩)/\dC t' b none v.cells/\aA t t'/\bF b t t':=by
 simp_all [Qa,aM]
def OwnD (base:Nat)(tf t:Tr vA)(sz:Nat)(l:List D)(b:Nat)(lo:Option Lo):Prop:=
 base<=b/\tf.get b=none/\∃cl,dC t b lo cl.flatten/\(∀(i:Nat) cs,cl[i]?=some cs->cs.length=sz)/\xD tf l cl
theorem OwnD.read{base n:Nat}{l:List D}(h:OwnD base tf t sz l b lo)(hlo:lo=none\/∃x,lo=some x/\x.es=sz)(ht:aA tf t)(hn:l.length=n){cap:Nat}(hc:n<=cap):bA t sz l (.slice b 0 n cap):=by
 obtain⟨_,_,cl,⟨c,h1,h2⟩,h3,h4⟩:=h
 have hlen:=h4.length
 refine⟨cl,.inr ⟨b,0,cap,by rw[hlen,hn],by omega,⟨c,_,_,h1,hlo⟩,fun i cs hi=>⟨h3 i cs hi,c,_,_,h1,fun j a hj=>?_⟩⟩,xD.mono ht _ _ h4⟩
 grind [jU]
theorem zcp  : ∀ {cl:List (List zA)},(∀(i:Nat) cs,cl[i]?=some cs->cs.length=sz)->∀ {i o:Nat} {cs l:List zA},cl[i]?=some cs->o+l.length<=sz->rJ cl.flatten (i*sz+o) l=(cl.set i (rJ cs o l)).flatten:=by
 intro cl h i o cs l hi ho;have hlt:i<cl.length:=(ybc.1 hi).1
 have hcs:=h i cs hi
 have hfl:=fZ h
 have hb:i*sz+sz<=cl.length*sz:=by
  have:=ybi sz (show i+1<=cl.length by omega)
  grind
 have hov:(rJ cs o l).length=sz:=by grind [Ws]
 have h':∀(k:Nat) c,(cl.set i (rJ cs o l))[k]?=some c->c.length=sz:=by
  grind
 have hfl':=fZ h'
 rw[ydh]at hfl'
 have hsz:∀k,k<cl.length*sz->k / sz<cl.length/\k%sz<sz:=by
  intro k hk;have hpos:0<sz:=by
   grind
  simp_all [ycu,ybh,ycy]
 apply List.ext_getElem?
 intro k;rw[Ec (by omega)]
 by_cases hk:k<cl.length*sz
 ·obtain⟨k1,k2⟩:=hsz k hk
  have hdm:=ych k sz
  have hkk:k=k / sz*sz+k%sz:=by grind
  have hq:cl[k / sz]?=some cl[k / sz]:=ybd k1
  have hql:=h _ _ hq
  have e1:cl.flatten[k]?=cl[k / sz][k%sz]?:=by
   grind [jU]
  have e2:∀c,(cl.set i (rJ cs o l))[k / sz]?=some c->(cl.set i (rJ cs o l)).flatten[k]?=c[k%sz]?:=by
   grind [jU]
  by_cases hi2:k / sz=i
  ·grind [Ec]
  ·have hc:(cl.set i (rJ cs o l))[k / sz]?=some cl[k / sz]:=by grind
   rw[e2 _ hc,e1,yaa];intro⟨a1,a2⟩
   apply hi2
   have hpos:0<sz:=by omega
   exact Nat.div_eq_of_lt_le (by omega) (by grind)
 grind
end
end
section
variable {k n:Nat}{t':Tr vA}
structure iE where
 blks:List Nat
 ok:Tr vA->Tr vA->Prop
 keep:∀ {tf t tf' t':Tr vA},ok tf t->aA tf tf'->(∀k∈blks,t'.get k=t.get k/\tf'.get k=none)->ok tf' t'
 live:∀ {tf t:Tr vA},ok tf t->∀k∈blks,∃y,t.get k=some y
structure fA (base:Nat) (tf t:Tr vA) (l:List iE):Prop where
 tle:aA tf t
 nodup:(l.flatMap iE.blks).Nodup
 ok:∀o∈l,o.ok tf t
 low:∀k∈l.flatMap iE.blks,base<=k/\tf.get k=none
def jI (v:zA):List Nat:=match v with | .slice b _ _ _=>[b] | _=>[]
theorem Ej{v:zA}{k:Nat}:k∈jI v ↔ lM v k:=by
 unfold jI lM;grind
def fB (b:Nat)(lo:Option Lo)(cs:List zA):iE where
 blks:=[b]
 ok:=fun _ t=>dC t b lo cs
 keep:=fun h _ k=>h.off (k b (by simp)).1
 live:=fun h k hk=>by rw[ydd]at hk;subst hk;obtain⟨c,hc,_⟩:=h;simp_all
def uD(base sz:Nat)(l:List D)(v:zA):iE where
 blks:=jI v
 ok:=fun tf t=>zR base tf t sz l v
 keep:=fun h hf k=>h.keep hf fun b hb=>k b (Ej.2 hb)
 live:=fun h k hk=>(h.none (Ej.1 hk)).2.2
section
variable {base:Nat}{tf t:Tr vA}{l A B:List iE}{o o':iE}
theorem fA.live(h:fA base tf t l) (hk:k∈l.flatMap iE.blks):∃y,t.get k=some y:=by
 obtain⟨o,ho,hk⟩:=List.mem_flatMap.1 hk
 exact o.live (h.ok o ho) k hk
theorem fA.fresh(h:fA base tf t l) (hn:t.get n=none):n∉l.flatMap iE.blks:=by
 intro hm;obtain⟨y,hy⟩:=h.live hm
 simp_all
theorem fA.tfn(h:fA base tf t l) (hn:t.get n=none):tf.get n=none:=by
 cases hq:tf.get n with
 | none=>rfl
 | some y=>have:=h.tle _ _ hq;simp_all
theorem fA.keep(h:fA base tf t l){tf':Tr vA}(hf:aA tf tf')(ht:aA tf' t')(hk:∀k∈l.flatMap iE.blks,t'.get k=t.get k/\tf'.get k=none):fA base tf' t' l:=
 ⟨ht,h.nodup,fun o ho=>o.keep (h.ok o ho) hf fun k hk'=>hk k (List.mem_flatMap.2 ⟨o,ho,hk'⟩),fun k hk'=>⟨(h.low k hk').1,(hk k hk').2⟩⟩
theorem fA.junk(h:fA base tf t l)  (hn:t.get n=none)(ho:bF n t t'):fA base tf t' l:=
 h.keep (aA.refl _) (h.tle.off (h.tfn hn) ho) fun k hk=>⟨ho k (fun e:k=n=>h.fresh hn (e ▸ hk)),(h.low k hk).2⟩
def fA.other(h:fA base tf t l)  (hn:n∉l.flatMap iE.blks)(hf:tf.get n=none)(ho:bF n t t'):fA base tf t' l:=
 h.keep (aA.refl _) (h.tle.off hf ho) fun k hk=>⟨ho k (fun e:k=n=>hn (e ▸ hk)),(h.low k hk).2⟩
theorem fA.froze(h:fA base tf t l) {y:vA}(hn:n∉l.flatMap iE.blks)(hy:t.get n=some y)(hf:tf.get n=none):fA base (tf.set n y) t l/\aA tf (tf.set n y):=by
 have h1:=(gN (t:=tf) hf y).1
 refine⟨h.keep h1 (fun k u hk=>?_) fun k hk=>⟨rfl,?_⟩,h1⟩
 ·rw[Tr.get_set]at hk
  split at hk
  ·simp_all
  ·exact h.tle _ _ hk
 ·rw[Tr.get_set,yaa (fun e:k=n=>hn (e ▸ hk))];exact(h.low k hk).2
def Ri:(A++o::B).flatMap iE.blks=A.flatMap iE.blks++(o.blks++B.flatMap iE.blks):=by simp
theorem fA.upd(h:fA base tf t (A++o::B)) (hk:∀k,k∉o.blks->k∉o'.blks->t'.get k=t.get k)(hn:∀k∈o'.blks,k∈o.blks\/(t.get k=none/\base<=k))(hok:o'.ok tf t')(hnd:o'.blks.Nodup)(ht:aA tf t'):fA base tf t' (A++o'::B):=by
 have hd:=h.nodup
 rw[Ri]at hd;rw[List.nodup_append]at hd;obtain⟨d1,d2,d3⟩:=hd
 rw[List.nodup_append]at d2;obtain⟨d4,d5,d6⟩:=d2
 have oth:∀k,k∈A.flatMap iE.blks\/k∈B.flatMap iE.blks->k∉o.blks/\k∉o'.blks/\t'.get k=t.get k/\base<=k/\tf.get k=none:=by
  intro k hk';have hm:k∈(A++o::B).flatMap iE.blks:=by rw[Ri];simp only[yaf];rcases hk' with h | h<;>simp[h]
  have h1:k∉o.blks:=fun hc=>by
   grind
  have h2:k∉o'.blks:=fun hc=>by
   rcases hn k hc with h' | h'
   ·grind
   ·obtain⟨y,hy⟩:=h.live hm
    simp_all
  exact⟨h1,h2,hk k h1 h2,h.low k hm⟩
 have mem:∀k,k∈(A++o'::B).flatMap iE.blks->(k∈A.flatMap iE.blks\/k∈B.flatMap iE.blks)\/k∈o'.blks:=by
  grind
 refine⟨ht,?_,fun p hp=>?_,fun k hk'=>?_⟩
 ·grind
 ·have hp':p∈A\/p=o'\/p∈B:=by simp_all
  rcases hp' with h' | h' | h'
  ·exact p.keep (h.ok p (by simp[h'])) (aA.refl _) fun k hk'=>by
    grind
  ·simp_all
  ·exact p.keep (h.ok p (by simp[h'])) (aA.refl _) fun k hk'=>by
    grind
 ·rcases mem k hk' with h' | h'
  ·simp_all
  ·rcases hn k h' with h'' | h''
   ·exact h.low k (by simp_all)
   ·exact⟨h''.2,h.tfn h''.1⟩
def Pz:iE:=⟨[],fun _ _=>True,fun _ _ _=>trivial,fun _ _ h=>by cases h⟩
theorem fA.add(h:fA base tf t (A++B)) (hk:∀k,k∉o'.blks->t'.get k=t.get k)(hn:∀k∈o'.blks,t.get k=none/\base<=k)(hok:o'.ok tf t')(hnd:o'.blks.Nodup)(ht:aA tf t'):fA base tf t' (A++o'::B):=by
 have e:fA base tf t (A++Pz::B):=by
  have hm:(A++Pz::B).flatMap iE.blks=(A++B).flatMap iE.blks:=by simp[Pz]
  refine⟨h.tle,by rw[hm];exact h.nodup,fun o ho=>?_,fun k hk=>h.low k (by simp_all)⟩
  have:o∈A\/o=Pz\/o∈B:=by simp_all
  rcases this with h' | h' | h'
  ·exact h.ok o (by simp[h'])
  ·subst h';trivial
  ·exact h.ok o (by simp[h'])
 exact e.upd (fun k _ h2=>hk k h2) (fun k hk=>.inr (hn k hk)) hok hnd ht
theorem fA.drop(h:fA base tf t (A++o::B)):fA base tf t (A++B):=by
 have hd:=h.nodup
 rw[Ri]at hd;refine⟨h.tle,?_,fun p hp=>h.ok p (by rcases yaf.1 hp with h | h<;>simp[h]),fun k hk=>h.low k (by rw[Ri];rw[List.flatMap_append]at hk;rcases yaf.1 hk with h | h<;>simp[h])⟩
 grind
theorem fA.notin(h:fA base tf t (A++o::B)) (hk:k∈o.blks):k∉(A++B).flatMap iE.blks:=by
 have hd:=h.nodup
 grind
def fA.freezeL{sz:Nat}{m:List D}{v:zA}(h:fA base tf t (A++uD base sz m v::B)):∃tf',aA tf tf'/\fA base tf' t (A++B)/\bA tf' sz m v:=by
 have hl:zR base tf t sz m v:=h.ok (uD base sz m v) (by simp)
 obtain⟨tf',h1,h2,h3,h4⟩:=hl.freeze h.tle
 refine⟨tf',h1,h.drop.keep h1 h2 fun k hk=>⟨rfl,?_⟩,h3⟩
 have hb:¬ lM v k:=fun hb=>h.notin (o:=uD base sz m v) (Ej.2 hb) hk
 rw[h4 k hb];exact(h.drop.low k hk).2
end
end
section
section
variable {t tf:Tr vA}{C:mA}
theorem ZP{T el b k m cap n:Nat}{cs:List zA}{lo:Option Lo}{x:zA}{cm:List (List zA)}(hT:It C T el 1)(hc:dC t b lo cs)(hb:C.base<=b)(hx:vN t 1 x cm)(hm:cm.length=m)(h0:0<m)(hk:k+m<=cap)(hcap:cap<=cs.length)(hone:∀a∈cm.flatten,zA.one a=true) :
  ∃t',cG C T T (.slice b 0 k cap) x ⟨n,t⟩=some (.slice b 0 (k+m) cap,⟨n,t'⟩)/\dC t' b lo (rJ cs k cm.flatten)/\bF b t t':=by
 obtain⟨⟨y,hy1,hy2,hy3⟩,⟨z,hz1,hz2,hz3,hz4,hz5⟩⟩:=hT
 obtain⟨hf,hlen⟩:=hx.first (n:=n)
 have hfl:=fZ hx.len
 rw[Nat.mul_one,hm]at hfl;obtain⟨c,h1,h2⟩:=hc
 have hne:cm.flatten≠[]:=by grind
 refine⟨t.set b (.cells (c.setMany cm.flatten k) cs.length lo),?_,⟨c.setMany cm.flatten k,by rw[Tr.get_set,yab rfl,Ws (by omega)],fun j a hj=>?_⟩,fun d hd=>by rw[Tr.get_set,yaa hd]⟩
 ·unfold cG fW
  rw[hy1,rA,rA,hy3];simp only[ycl,sE];rw[hy2,rA,hz1,rA,hlen,rA,hz2,hf,rA];simp only[zA.asSlice,hm];rw[qE.2 hk,cond_true];unfold dX
  cases hq:cm.flatten with
  | nil=>simp_all
  | cons a r=>
   simp only[hz2,Nat.mul_one,ybw];rw[<- hq];unfold tJ kD;have e2:(!Nat.blt b C.base)=true:=by
    grind [pC]
   rw[e2,sE,h1,rA];simp only[vA.asCells,rA];have e3:Nat.ble (k+zB cm.flatten) cs.length=true:=by grind [oD,qE]
   have e4:aB zA.one cm.flatten=true:=by grind [mI]
   rw[e3,e4];rfl
 grind [Ec,Tr.get_setMany]
theorem TX{T el cap:Nat}{y z:lD}{k:IntKind}(hT:C.tys.get T=some y)(hel:y.desc.asSlice=some el)(hz:C.tys.get el=some z)(hzero:z.zero=[.int k 0])(hs:z.size=1)(hby:z.bytes<=8)(hn:cap<1000000){b:Nat}(hb:t.get b=none) :
  ∃t',tP C T (.int .i64 0) (.int .i64 (cap:Int)) ⟨b,t⟩=some (.slice b 0 0 cap,⟨b+1,t'⟩)/\dC t' b none (List.replicate cap (.int k 0))/\aA t t'/\bF b t t':=by
 have hrep:∀n,nI [zA.int k 0] n=List.replicate n (.int k 0):=by
  intro n;induction n with
  | zero=>rfl
  | succ n ih=>grind [nI,aG]
 obtain⟨t',h1,h2,h3,h4⟩:=Qa hb (List.replicate cap (.int k 0)) none
 refine⟨t',?_,h2,h3,h4⟩
 unfold tP;rw[hT,rA,hel,rA,hz,rA];have e1:(zA.int .i64 (cap:Int)).asNat=some cap:=rfl
 have e0:(zA.int .i64 0).asNat=some 0:=rfl
 rw[e1,e0,rA,rA];have e2:(Nat.ble 0 cap&&Nat.blt cap 1000000&&Nat.blt (cap*z.bytes) 1000000000&&Nat.beq (zB z.zero) z.size)=true:=by
  rw[hzero,hs,show Nat.ble 0 cap=true from qE.2 (yaw _),pC.2 hn]
  have:cap*z.bytes<1000000000:=by
   have:=ydb (Nat.le_of_lt hn) hby
   omega
  rw[pC.2 this];rfl
 rw[e2,sE,hzero,hrep,h1]
end
end
end Go.Am
namespace Go.Am
open Go
variable {k:IntKind}{l m:List Nat}{n:Nat}{cd:Lo}{v:zA}
section
variable {C:mA}{t tf:Tr vA}
def cellsK(k:IntKind)(l:List Nat):List (List zA):=l.map fun(x:Nat)=>[zA.int k (x:Int)]
theorem Im{k:IntKind}:∀ {l:List Nat} {cl:List (List zA)},xD t (xC k l) cl ↔ cl=cellsK k l
 | [],cl=>by
  show xD t [] cl ↔ cl=[]
  exact sF
 | x::l,cl=>by
  show xD t (.int k (x:Int)::xC k l) cl ↔ cl=[.int k (x:Int)]::cellsK k l
  rw[yD];constructor
  ·rintro⟨c,r,rfl,h1,h2⟩
   rw[lK]at h1;rw[h1,Im.1 h2]
  ·rintro rfl
   exact⟨_,_,rfl,lK.2 rfl,Im.2 rfl⟩
def Zy{k:IntKind}:∀(l:List Nat),(cellsK k l).flatten=l.map fun(x:Nat)=>zA.int k (x:Int)
 | []=>rfl
 | x::l=>by
  show [zA.int k (x:Int)]++(cellsK k l).flatten=_
  rw[Zy l];rfl
theorem YM   : (cellsK k l).length=l.length:=by simp[cellsK]
theorem YN  (i:Nat)(cs:List zA)(h:(cellsK k l)[i]?=some cs):cs.length=1:=by
 grind [cellsK]
theorem VX{k:Nat} (h:l.length=k):sW ⟨n,t⟩ 1 k (.str l)=some (cellsK .u8 l).flatten/\Bw (.str l)=some k:=by
 subst h;constructor
 ·unfold sW
  simp only[zA.asSlice,zA.asStr];rw[Zy,eR,List.take_length];rfl
 grind [Bw,zA.asSlice,zA.asStr,oD]
def zbp   : ∀a∈(cellsK k l).flatten,zA.one a=true:=by
 intro a ha;rw[Zy]at ha;obtain⟨x,_,rfl⟩:=yaq.1 ha
 rfl
theorem XS   : xC k (l++m)=xC k l++xC k m:=by simp[xC]
theorem ZO{T U el:Nat} (hT:It C T el 1)(hU:∃u,C.tys.get U=some u/\Nat.beq u.desc.tag 1=false)(hcd:∀z,C.tys.get el=some z->iM el z=cd)  (hv:vK cd C.base tf t 1 (xC .u8 l) v)(hpos:m≠[])(hl:l.length+m.length<400000) (hn:t.get n=none)(hbase:C.base<=n)(ht:aA tf t) :
  ∃t',cG C T U v (.str m) ⟨n,t⟩=some (.slice n 0 (l.length+m.length) (l.length+m.length),⟨n+1,t'⟩)/\vK cd C.base tf t' 1 (xC .u8 (l++m)) (.slice n 0 (l.length+m.length) (l.length+m.length))/\aA tf t'/\(∀c,c≠n->¬ lM v c->t'.get c=t.get c):=by
 have h0:0<m.length:=List.length_pos_iff.2 hpos
 obtain⟨t',h1,h2,h3,h4⟩:=MX hT hU hcd (l:=xC .u8 l) (m:=xC .u8 m) (x:=.str m) (cm:=cellsK .u8 m) hv YN (fun n=>by grind [YM,VX]) (Im.2 rfl) zbp (by grind [iH]) (by grind [iH]) hn hbase ht
 grind [iH,XS]
theorem vK.keep' {base sz:Nat}{l:List D} {t':Tr vA}(h:vK cd base tf t sz l v)(hk:∀b,lM v b->t'.get b=t.get b):vK cd base tf t' sz l v:=by
 rcases h with⟨rfl,rfl⟩ | ⟨b,cl,c,rfl,h0,h1,h2,h3,h4⟩
 ·exact .inl ⟨rfl,rfl⟩
 ·exact .inr ⟨b,cl,c,rfl,h0,h1,by grind [Cb],h3,h4⟩
end
end Go.Am
namespace Go.Am
variable {B U V a b d head m top u2 ur v2 vr:Nat}{l:List Nat}
def kn_ge (hU:U=(head*B+u2)*B^m+ur)(hur:ur<B^m)(hu2:u2<B)(hV:V=(top*B+v2)*B^m+vr)(htop:0<top):U / V<=head / top:=by
 have hBm:0<B^m:=by omega
 rw[Nat.le_div_iff_mul_le htop];have h1:U / V*V<=U:=Nat.div_mul_le_self U V
 have h2:top*B*B^m<=V:=by
  grind
 have h3:U<(head+1)*B*B^m:=by
  have:head*B+u2+1<=(head+1)*B:=by grind
  have:=ybi (B^m) this
  grind
 have h4:U / V*top*(B*B^m)<(head+1)*(B*B^m):=by
  calc U / V*top*(B*B^m)=U / V*(top*B*B^m):=by rw[ybj,ybj]
   _<=U / V*V:=ybv _ h2
   _<=U:=h1
   _<(head+1)*B*B^m:=h3
   _=(head+1)*(B*B^m):=by rw[ybj]
 exact Nat.lt_succ_iff.1 (Nat.lt_of_mul_lt_mul_right h4)
def kn_gt (hU:U=(head*B+u2)*B^m+ur)(hur:ur<B^m)(hV:V=(top*B+v2)*B^m+vr)(h:head*B+u2<d*(top*B+v2)):U / V<d:=by
 rcases yau (U / V) d with g | g
 ·exact g
 ·exfalso
  have h1:U / V*V<=U:=Nat.div_mul_le_self U V
  have h2:d*V<=U:=Nat.le_trans (ybi _ g) h1
  have h3:d*(top*B+v2)*B^m<=d*V:=by simp_all [ybj,ybv]
  have h4:=ybi (B^m) (show head*B+u2+1<=d*(top*B+v2) from h)
  grind
def kn_le (hB:0<B)(hU:U=(head*B+u2)*B^m+ur)(hV:V=(top*B+v2)*B^m+vr)(hvr:vr<B^m)(htop:0<top)(hd:d<=B)(h:d*(top*B+v2)<=head*B+u2):d<=U / V+1:=by
 have hVpos:0<V:=by
  rw[hV];have:0<top*B+v2:=by have:=Nat.mul_pos htop hB;omega
  have:=Nat.mul_pos this (show 0<B^m by omega)
  omega
 rcases yau (U / V+1) d with g | g
 ·exfalso
  have h1:(d-1)*V<=U:=by
   have e1:d*V<=d*((top*B+v2)*B^m)+d*B^m:=by
    simp_all [ybm,ybv,Nat.le_of_lt]
   have e2:d*((top*B+v2)*B^m)<=(head*B+u2)*B^m:=by rw[<- ybj];exact ybi _ h
   have e3:d*B^m<=V:=by
    have:d*B^m<=top*B*B^m:=by
     refine ybi _ (Nat.le_trans hd ?_)
     exact yan _ htop
    grind
   grind [Nat.sub_mul]
  have:=(Nat.le_div_iff_mul_le hVpos).2 h1
  omega
 ·exact g
def top2 (hB:0<B)  (hlt:kB B l)(hl:l.length=m+2)(ha:l[m+1]?=some a)(hb:l[m]?=some b):val B l=(a*B+b)*B^m+val B (l.take m)/\val B (l.take m)<B^m:=by
 have e1:=Df B l m
 have hlen:(l.take m).length=m:=by grind
 rw[hlen]at e1;have e2:l.drop m=[b,a]:=by
  rw[fQ hb,fQ ha,List.drop_of_length_le (by omega)]
 grind [val,uP,Co]
def top3 (hB:0<B) {c:Nat}(hlt:kB B l)(hl:l.length=m+3)(ha:l[m+2]?=some a)(hb:l[m+1]?=some b)(hc:l[m]?=some c):val B l=((a*B+b)*B+c)*B^m+val B (l.take m)/\val B (l.take m)<B^m:=by
 have e1:=Df B l m
 have hlen:(l.take m).length=m:=by grind
 rw[hlen]at e1;have e2:l.drop m=[c,b,a]:=by
  rw[fQ hc,fQ hb,fQ ha,List.drop_of_length_le (by omega)]
 grind [val,uP,Co]
end Go.Am
namespace Go.Proofs
open Go Go.Am
variable {b cap d j x:Nat}{A Z lv w:List Nat}{v:zA}{t0:Tr vA}{Q:pB}
variable [gC]
variable {t:Tr vA}
def BB:Nat:=4294967296
def rO:BB=4294967296:=rfl
def uJ:0<BB:=by decide
theorem Qz{T el:Nat}(h:gI yA T el 1 false){off n:Nat}(hj:j<n):wC yA T (.slice b off n cap) (.int .i64 (j:Int))=some (.ptr b (off+j)):=by
 have:=Av (b:=b) (off:=off) (cap:=cap) h hj
 simp_all
theorem Hd  (h:w[j]?=some x):(A++w++Z)[A.length+j]?=some x:=by
 grind
def Le  (h:j<w.length):(A++w++Z).set (A.length+j) x=A++w.set j x++Z:=by
 rw[ybz,List.set_append_right _ _ (by omega),Nat.add_sub_cancel_left,List.set_append_left _ _ h,ybz]
theorem ZX     (hv:bA t0 1 (xC .u32 lv) v)(hl:lv.length<900000)(hlv:kB BB lv)(hbase:yA.base<=b)(hb:t0.get b=none)(hd:0<d)(hd2:d<=BB)(W:List Nat)(hWl:W.length=lv.length)(hWlt:kB BB W)(last:Nat)(hlast:last<BB)(hcap:lv.length+1<=cap)
  (hQ:∀t' r up,bF b t t'->wG t' b .u32 (A++(r++[(last+up)%BB])++Z)->r.length=lv.length->kB BB r->up<2->val BB r+BB^lv.length*up=val BB W+val BB lv->Q (.int .u32 ((d-1:Nat):Int)) t') :
  ∀(k i up:Nat) (t':Tr vA) (r:List Nat),i+k=lv.length->aA t0 t'->bF b t t'->wG t' b .u32 (A++(r++(W++[last]).drop i)++Z)->r.length=i->kB BB r->up<2->val BB r+BB^i*up=val BB (W.take i)+val BB (lv.take i) →
  jp 178 10 [.slice b A.length (lv.length+1) cap,.int .i64 lv.length,.int .u64 d,.int .u32 up,v,.int .i64 lv.length,.int .i64 i] t' Q:=by
 intro k;induction k with
 | zero=>
  intro i up t' r hi ht hoff ho hr hrl hup hval;have hi':i=lv.length:=by omega
  subst hi'
  have hdrop:(W++[last]).drop lv.length=[last]:=by simp_all
  rw[hdrop]at ho;refine IW ?_
  have g1:=Qz iG (b:=b) (off:=A.length) (n:=lv.length+1) (cap:=cap) (j:=lv.length) (by omega)
  have hget:(r++[last])[lv.length]?=some last:=by simp_all
  have g2:=ho.load (Hd (A:=A) (Z:=Z) hget) eH rfl
  obtain⟨t1,s1,s2,s3⟩:=ho.store (C:=yA) hbase (j:=A.length+lv.length) (by grind) ((last+up)%BB) eH rfl
  rw[Le (by grind)]at s2
  have hset:(r++[last]).set lv.length ((last+up)%BB)=r++[(last+up)%BB]:=by simp_all
  rw[hset]at s2;have e1:iA .u32 ((last:Int)+(up:Int))=(((last+up)%BB:Nat):Int):=by rw[kT];show _=(((last+up)%4294967296:Nat):Int);omega
  simp only[uL,wD,uX,uZ,Ug,pA,vG,g1,g2,qA,rC,e1];rw[yaa (by omega)]
  intro _ _ _;rw[s1];simp only[qA];rw[yca (by omega),yca (by omega)]at hval
  have e2:iA .u32 (iA .u64 ((d:Int)-1))=((d-1:Nat):Int):=by
   have:d<=4294967296:=hd2
   grind [jF,jT]
  rw[e2];exact hQ t1 r up (hoff.trans s3) s2 hr hrl hup hval
 | succ k ih=>
  intro i up t' r hi ht hoff ho hr hrl hup hval;obtain⟨x,hx⟩:=getElem?_of_lt (l:=lv) (i:=i) (by omega)
  obtain⟨y,hy⟩:=getElem?_of_lt (l:=W) (i:=i) (by omega)
  have hxlt:x<BB:=xL hlv hx
  have hylt:y<BB:=xL hWlt hy
  obtain⟨c,off,g1,g2⟩:=(hv.mono ht).idx iG hx
  have hy':(W++[last])[i]?=some y:=by grind
  have hdrop:(W++[last]).drop i=y::(W++[last]).drop (i+1):=fQ hy'
  have g3:=Qz iG (b:=b) (off:=A.length) (n:=lv.length+1) (cap:=cap) (j:=i) (by omega)
  have hget:(r++(W++[last]).drop i)[i]?=some y:=by simp_all
  have g4:=ho.load (Hd (A:=A) (Z:=Z) hget) eH rfl
  have hlen:i<(r++(W++[last]).drop i).length:=by simp_all
  obtain⟨t1,s1,s2,s3⟩:=ho.store (C:=yA) hbase (j:=A.length+i) (by grind) ((y+x+up)%BB) eH rfl
  rw[Le hlen]at s2;have hset:(r++(W++[last]).drop i).set i ((y+x+up)%BB)=(r++[(y+x+up)%BB])++(W++[last]).drop (i+1):=by
   simp_all
  rw[hset]at s2;have hadd:=zdi (t:=t') (x:=y) (y:=x) (c:=up) hylt hxlt hup
  refine IW ?_
  simp (disch:=omega) only[uL,wD,uX,uZ,Ug,pA,vG,g1,g2,g3,g4,qA,rC,q186,hadd,dG,zA.asTup,rA,bG,yaz,yba,iC]
  rw[yab (by omega)]
  intro _ _ _;have s1':∀n,zC yA 56 (.ptr b (A.length+i)) (.int .u32 (((y+x+up)%4294967296:Nat):Int)) ⟨n,t'⟩=some (fD,⟨n,t1⟩):=s1
  rw[s1'];simp only[qA];refine ih (i+1) ((y+x+up) / BB) t1 _ (by omega) (ht.off hb s3) (hoff.trans s3) s2 (by simp[hr]) (xY hrl (ycy _ (by decide))) ?_ ?_
  ·have h1:y<4294967296:=hylt
   have h2:x<4294967296:=hxlt
   show(y+x+up) / 4294967296<2
   omega
  ·rw[lN,hr,vQ hx,vQ hy,lN,lN]
   grind [Nat.div_add_mod]
theorem CQ{u low bo:Nat}(hu:u<BB)(hl:low<BB)(hb:bo<2):∃w b',w<BB/\b'<2/\u+BB*b'=w+low+bo ∧
  iA .u32 (iA .u64 (iA .u64 ((u:Int)-(low:Int))-(bo:Int)))=(w:Int)/\Int.fdiv (iA .u64 (iA .u64 ((u:Int)-(low:Int))-(bo:Int))) 9223372036854775808=(b':Int):=by
 have hu:u<4294967296:=hu
 have hl:low<4294967296:=hl
 rcases yau u (low+bo)with g | g
 ·refine⟨u+BB-low-bo,1,by omega,by omega,by omega,?_,?_⟩
  ·rw[kT,Np,Np];show _=((u+4294967296-low-bo:Nat):Int);omega
  grind [Np]
 ·refine⟨u-low-bo,0,by omega,by omega,by omega,?_,?_⟩
  all_goals grind [kT,Np]
theorem TQ{lu:List Nat}    (hv:bA t0 1 (xC .u32 lv) v)(hl:lv.length<900000)(hlv:kB BB lv)(hbase:yA.base<=b)(hb:t0.get b=none)(hd:d<BB)(hlul:lu.length=lv.length+1)(hlu:kB BB lu)(hcap:lv.length+1<=cap)
  (hQ:∀t' (W:List Nat) last bo,aA t0 t'->bF b t t'->wG t' b .u32 (A++(W++[last])++Z)->W.length=lv.length->kB BB W->last<BB->bo<2->val BB (W++[last])+d*val BB lv=val BB lu+BB^(lv.length+1)*bo →
   if bo=0 then Q (.int .u32 (d:Int)) t' else jp 178 10 [.slice b A.length (lv.length+1) cap,.int .i64 lv.length,.int .u64 d,.int .u32 0,v,.int .i64 lv.length,.int .i64 (0:Nat)] t' Q) :
  ∀(k i carry borrow:Nat) (t':Tr vA) (W:List Nat),i+k=lv.length->aA t0 t'->bF b t t'->wG t' b .u32 (A++(W++lu.drop i)++Z)->W.length=i->kB BB W->carry<BB->borrow<2->val BB W+d*val BB (lv.take i)=val BB (lu.take i)+BB^i*(carry+borrow) →
  jp 178 6 [.slice b A.length (lv.length+1) cap,v,.int .i64 lv.length,.int .u64 d,.int .u64 carry,.int .u64 borrow,v,.int .i64 lv.length,.int .i64 i] t' Q:=by
 intro k;induction k with
 | zero=>
  intro i carry borrow t' W hi ht hoff ho hW hWl hc hbo hval;have hi':i=lv.length:=by omega
  subst hi'
  obtain⟨x,hx⟩:=getElem?_of_lt (l:=lu) (i:=lv.length) (by omega)
  have hxlt:x<BB:=xL hlu hx
  have hdrop:lu.drop lv.length=[x]:=by rw[fQ hx,List.drop_of_length_le (by omega)]
  rw[hdrop]at ho;obtain⟨w,bo,hw,hbo',hsum,e1,e2⟩:=CQ hxlt hc hbo
  have g1:=Qz iG (b:=b) (off:=A.length) (n:=lv.length+1) (cap:=cap) (j:=lv.length) (by omega)
  have hget:(W++[x])[lv.length]?=some x:=by simp_all
  have g2:=ho.load (Hd (A:=A) (Z:=Z) hget) eH rfl
  obtain⟨t1,s1,s2,s3⟩:=ho.store (C:=yA) hbase (j:=A.length+lv.length) (by grind) w eH rfl
  rw[Le (by grind)]at s2
  have hset:(W++[x]).set lv.length w=W++[w]:=by simp_all
  rw[hset]at s2;have hx32:x<4294967296:=hxlt
  have e0:iA .u64 (x:Int)=(x:Int):=jF (by omega) (by omega)
  refine ze3 ?_
  simp only[uI,uL,wD,uZ,Ue,pA,vG,g1,g2,qA,rC,e0,e1,e2,mG];rw[yaa (by omega)]
  intro _ _ _;rw[s1];simp only[qA];have hfin:=hQ t1 W w bo (ht.off hb s3) (hoff.trans s3) s2 hW hWl hw hbo' (by
   grind [lN,val,Df])
  by_cases hz:bo=0
  ·rw[yab (by omega)]
   rw[yab hz]at hfin;have hd32:d<4294967296:=hd
   grind [jT]
  ·rw[yaa (by omega)]
   rw[yaa hz]at hfin;simp only[(hv.mono (ht.off hb s3)).len,qA,rC,iH]
   exact hfin
 | succ k ih=>
  intro i carry borrow t' W hi ht hoff ho hW hWl hc hbo hval;obtain⟨x,hx⟩:=getElem?_of_lt (l:=lu) (i:=i) (by omega)
  obtain⟨y,hy⟩:=getElem?_of_lt (l:=lv) (i:=i) (by omega)
  have hxlt:x<BB:=xL hlu hx
  have hylt:y<BB:=xL hlv hy
  have hd32:d<4294967296:=hd
  have hx32:x<4294967296:=hxlt
  have hy32:y<4294967296:=hylt
  have hc32:carry<4294967296:=hc
  have hdrop:lu.drop i=x::lu.drop (i+1):=fQ hx
  obtain⟨c,off,g1,g2⟩:=(hv.mono ht).idx iG hy
  have g3:=Qz iG (b:=b) (off:=A.length) (n:=lv.length+1) (cap:=cap) (j:=i) (by omega)
  have hget:(W++lu.drop i)[i]?=some x:=by simp_all
  have g4:=ho.load (Hd (A:=A) (Z:=Z) hget) eH rfl
  have hprod:d*y<=4294967295*4294967295:=ydb (by omega) (by omega)
  obtain⟨P,hP⟩:∃P,P=d*y+carry:=⟨_,rfl⟩
  have hPlt:P<18446744073709551616:=by omega
  have hPhi:P / 4294967296<4294967296:=by omega
  obtain⟨w,bo,hw,hbo',hsum,e1,e2⟩:=CQ (u:=x) (low:=P%4294967296) (bo:=borrow) hxlt (ycy _ (by decide)) hbo
  obtain⟨t1,s1,s2,s3⟩:=ho.store (C:=yA) hbase (j:=A.length+i) (by simp_all) w eH rfl
  rw[Le (by simp_all)]at s2
  have hset:(W++lu.drop i).set i w=(W++[w])++lu.drop (i+1):=by simp_all
  rw[hset]at s2;have e0:iA .u64 (x:Int)=(x:Int):=jF (by omega) (by omega)
  have e0':iA .u64 (y:Int)=(y:Int):=jF (by omega) (by omega)
  have e3:(d:Int)*(y:Int)=((d*y:Nat):Int):=(Int.natCast_mul d y).symm
  have e4:iA .u64 ((d*y:Nat):Int)=((d*y:Nat):Int):=by
   grind [jF]
  have e5:iA .u64 (((d*y:Nat):Int)+(carry:Int))=(P:Int):=by
   rw[hP,<- Int.natCast_add];grind [jF]
  have e6:iA .u64 (iA .u32 (P:Int))=((P%4294967296:Nat):Int):=by
   grind [kT,jF]
  have e7:Int.fdiv (P:Int) 4294967296=((P / 4294967296:Nat):Int):=Ci P 4294967296
  refine ze3 ?_
  simp only[uI,uL,wD,uZ,Ue,pA,vG,g1,g2,g3,g4,qA,rC,e0,e0',e3,e4,e5,e6,e7,e1,e2];rw[yab (by omega)]
  intro _ _ _;rw[s1];simp (disch:=omega) only[qA,iC]
  refine ih (i+1) (P / 4294967296) bo t1 _ (by omega) (ht.off hb s3) (hoff.trans s3) s2 (by simp[hW]) (xY hWl hw) hPhi hbo' ?_
  rw[lN,hW,vQ hx,vQ hy,lN,lN];have l1:(lu.take i).length=i:=by simp;omega
  have l2:(lv.take i).length=i:=by simp;omega
  grind [Nat.div_add_mod,BB]
attribute [irreducible] BB
end Go.Proofs
namespace Go.Proofs
open Go Go.Am
variable [gC]
variable {t:Tr vA}
theorem or32{x y:Nat}(hx:x<4294967296)(hy:y<4294967296):kI Nat.lor .u64 ((x*4294967296:Nat):Int) (y:Int)=some (.int .u64 ((x*4294967296+y:Nat):Int)):=by
 have h:=Dr (a:=x) (b:=y) (n:=32) hy
 have e:(2:Nat)^32=4294967296:=by decide
 rw[e]at h;rw[mU (k:=.u64) (show x*4294967296<gG .u64 by show _<18446744073709551616;omega) (show y<gG .u64 by show _<18446744073709551616;omega),h]
theorem VI{lu lv:List Nat}{u v:zA}{Q:pB}{m head top u2 v2 U V ur vr:Nat}(hu:bA t 1 (xC .u32 lu) u)(hv:bA t 1 (xC .u32 lv) v)(hl:m<900000)(hu2:lu[m]?=some u2)(hv2:lv[m]?=some v2)(hu2lt:u2<BB)(hv2lt:v2<BB)(htop:0<top)(htoplt:top<BB)
  (hU:U=(head*BB+u2)*BB^m+ur) (hur:ur<BB^m) (hV:V=(top*BB+v2)*BB^m+vr) (hvr:vr<BB^m) (hq:U / V<BB) (hhead:head<=top*BB+(BB-1))
  (hexit:∀d,U / V<=d->d<=U / V+1->d<BB->jp 178 19 [u,v,.int .i64 (m+2:Nat),.int .u64 d] t Q) :
  ∀(d rest:Nat),d*top+rest=head->U / V<=d->d<=BB+1->rest<BB->jp 178 2 [u,v,.int .i64 (m+2:Nat),.int .u64 top,.int .u64 d,.int .u64 rest] t Q:=by
 intro d;induction d with
 | zero=>
  intro rest hsum hge _ hrest;have hBB:=rO
  have hr32:rest<4294967296:=by omega
  obtain⟨b,off,g1,g2⟩:=hv.idx iG hv2
  obtain⟨c,off',g3,g4⟩:=hu.idx iG hu2
  have hu32:u2<4294967296:=by omega
  have hv32:v2<4294967296:=by omega
  obtain⟨D,hD⟩:∃D:Int,((0:Nat):Int)=D:=⟨_,rfl⟩
  rw[hD];refine ze4 ?_
  unfold Uf uQ11 uL uE uZ uW;generalize hC:(4294967296:Int)=C
  generalize hG:kI Nat.lor .u64 (iA .u64 ((rest:Int)*C))=G
  have e4:D*(v2:Int)=0:=by grind
  have e1:((m+2:Nat):Int)-2=(m:Int):=by omega
  have e2:(rest:Int)*C=((rest*4294967296:Nat):Int):=by simp_all
  have e3:G (u2:Int)=some (.int .u64 ((rest*4294967296+u2:Nat):Int)):=by rw[<- hG,e2,jF (by omega) (by omega)];grind [or32]
  simp only[pA,aK];rw[yaa (by omega)]
  simp (disch:=omega) only[e1,iC,g1,qA]
  rw[g2];simp only[qA,rC,g3];rw[g4,qA,rC,qA,jF (n:=(u2:Int)) (by omega) (by omega),e3,qA,rC,qA,jF (n:=(v2:Int)) (by omega) (by omega),e4,jF (n:=0) (by decide) (by decide)]
  grind [vG]
 | succ d ih=>
  intro rest hsum hge hle hrest;have hBB:=rO
  have hr32:rest<4294967296:=by omega
  have ht32:top<4294967296:=by omega
  have hle32:d+1<=4294967296+1:=by omega
  have hsum':d*top+(rest+top)=head:=by grind
  obtain⟨D,hD⟩:∃D:Int,((d+1:Nat):Int)=D:=⟨_,rfl⟩
  rw[hD];have e1:D-1=(d:Int):=by omega
  have e0:(rest:Int)+(top:Int)=((rest+top:Nat):Int):=by omega
  have less:U / V<=d->(if (4294967296:Int)<=((rest+top:Nat):Int)then jp 178 19 [u,v,.int .i64 (m+2:Nat),.int .u64 d] t Q else jp 178 2 [u,v,.int .i64 (m+2:Nat),.int .u64 top,.int .u64 d,.int .u64 ((rest+top:Nat):Int)] t Q):=by
   intro hge';split
   ·rename_i hb
    have hb':BB<=rest+top:=by omega
    have hdlt:d<BB:=by
     grind
    refine hexit d hge' ?_ hdlt
    refine kn_le uJ hU hV hvr htop (Nat.le_of_lt hdlt) ?_
    have h1:d*v2<=BB*BB:=ydb (Nat.le_of_lt hdlt) (Nat.le_of_lt hv2lt)
    have h2:BB*BB<=(rest+top)*BB:=ybi _ hb'
    have h3:head*BB=d*top*BB+(rest+top)*BB:=by rw[<- hsum',ybo]
    grind
   ·rename_i hb
    exact ih (rest+top) hsum' hge' (by omega) (by omega)
  refine ze4 ?_
  unfold Uf uQ11 uL uE uZ uW;generalize hC:(4294967296:Int)=C
  generalize hG:kI Nat.lor .u64 (iA .u64 ((rest:Int)*C))=G
  by_cases hbig:4294967296<=d+1
  ·simp (disch:=omega) only[pA,aK,e0,e1,jF]
   rw[yab (by omega)]
   grind
  ·obtain⟨b,off,g1,g2⟩:=hv.idx iG hv2
   obtain⟨c,off',g3,g4⟩:=hu.idx iG hu2
   have hu32:u2<4294967296:=by omega
   have hv32:v2<4294967296:=by omega
   have e5:((m+2:Nat):Int)-2=(m:Int):=by omega
   have e2:(rest:Int)*C=((rest*4294967296:Nat):Int):=by simp_all
   have e6:iA .u64 (D*(v2:Int))=(((d+1)*v2:Nat):Int):=by
    rw[<- hD,<- Int.natCast_mul];have:(d+1)*v2<=4294967295*4294967295:=ydb (by omega) (by omega)
    grind [jF]
   have e3:G (u2:Int)=some (.int .u64 ((rest*4294967296+u2:Nat):Int)):=by rw[<- hG,e2,jF (by omega) (by omega)];grind [or32]
   simp only[pA,aK];rw[yaa (by omega)]
   simp (disch:=omega) only[e5,iC,g1,qA]
   rw[g2];simp only[qA,rC,g3];rw[g4,qA,rC,qA,jF (n:=(u2:Int)) (by omega) (by omega),e3,qA,rC,qA,jF (n:=(v2:Int)) (by omega) (by omega),e6]
   have e7:iA .u64 ((rest:Int)+(top:Int))=((rest+top:Nat):Int):=by rw[e0];exact jF (by omega) (by omega)
   have e8:iA .u64 (D-1)=(d:Int):=by rw[e1];grind [jF]
   rw[e7,e8];have key:(d+1)*(top*BB+v2)=(d+1)*top*BB+(d+1)*v2:=by rw[ybm,<- ybj]
   have key2:head*BB=(d+1)*top*BB+rest*BB:=by rw[<- hsum,ybo]
   by_cases htest:rest*4294967296+u2<(d+1)*v2
   ·rw[yab (vG.2 (by omega))]
    subst hC;refine less (Nat.lt_succ_iff.1 (kn_gt hU hur hV ?_))
    grind
   ·rw[yaa (fun h=>absurd (vG.1 h) (by omega))]
    rw[<- hD];refine hexit (d+1) hge (kn_le uJ hU hV hvr htop (by omega) ?_) (by omega)
    grind
end Go.Proofs
