/- Facts on types. (Printed by a tool.) -/
import Derived.Test.YtfmlbimokklmgaaGreatDoorF13
set_option linter.all false
noncomputable section
set_option maxRecDepth 100000
namespace Go.Proofs
open Go Go.Am
variable [eC]
def qO:yA.tys.get 3=some ⟨(.int .i64),1,8,[.int .i64 0],true⟩:=by kernel_rfl
def ty4:yA.tys.get 4=some ⟨.bool,1,1,[.bool false],true⟩:=by kernel_rfl
def sP:yA.tys.get 9=some ⟨.string,1,16,[.str []],true⟩:=by kernel_rfl
def ty23:yA.tys.get 23=some ⟨(.slice 77),1,24,[.nilslice],true⟩:=by kernel_rfl
def Gk:yA.tys.get 24=some ⟨(.slice 130),1,24,[.nilslice],true⟩:=by kernel_rfl
def ty25:yA.tys.get 25=some ⟨(.slice 72),1,24,[.nilslice],true⟩:=by kernel_rfl
def ty27:yA.tys.get 27=some ⟨(.struct [(0,9,1),(1,23,1),(2,24,1),(3,25,1)]),4,88,[.str [],.nilslice,.nilslice,.nilslice],true⟩:=by kernel_rfl
def vV:yA.tys.get 29=some ⟨(.struct [(0,3,1),(1,3,1)]),2,16,[.int .i64 0,.int .i64 0],true⟩:=by kernel_rfl
def lY:yA.tys.get 30=some ⟨(.int .i64),1,8,[.int .i64 0],true⟩:=by kernel_rfl
def ty41:yA.tys.get 41=some ⟨(.slice 79),1,24,[.nilslice],true⟩:=by kernel_rfl
def ty43:yA.tys.get 43=some ⟨(.struct [(0,4,1),(1,41,1)]),2,32,[.bool false,.nilslice],true⟩:=by kernel_rfl
def ty48:yA.tys.get 48=some ⟨(.slice 50),1,24,[.nilslice],true⟩:=by kernel_rfl
def ty50:yA.tys.get 50=some ⟨(.struct [(0,5,1),(1,9,1),(2,47,6),(8,48,1)]),9,128,[.int .u8 0,.str [],.int .u8 0,.bool false,.nilslice,.bool false,.nilslice,.int .i64 0,.nilslice],true⟩:=by kernel_rfl
def dH:yA.tys.get 56=some ⟨(.int .u32),1,4,[.int .u32 0],true⟩:=by kernel_rfl
def jS:yA.tys.get 66=some ⟨(.slice 75),1,24,[.nilslice],true⟩:=by kernel_rfl
def ty72:yA.tys.get 72=some ⟨(.struct [(0,9,1),(1,9,1),(2,3,1),(3,3,1),(4,3,1),(5,4,1),(6,50,9),(15,50,9)]),24,320,[.str [],.str [],.int .i64 0,.int .i64 0,.int .i64 0,.bool false,.int .u8 0,.str [],.int .u8 0,.bool false,.nilslice,.bool false,.nilslice,.int .i64 0,.nilslice,.int .u8 0,.str [],.int .u8 0,.bool false,.nilslice,.bool false,.nilslice,.int .i64 0,.nilslice],true⟩:=by kernel_rfl
def ty75:yA.tys.get 75=some ⟨(.struct [(0,5,1),(1,9,1),(2,29,2)]),4,40,[.int .u8 0,.str [],.int .i64 0,.int .i64 0],true⟩:=by kernel_rfl
def ty77:yA.tys.get 77=some ⟨(.struct [(0,9,1),(1,5,1),(2,4,1)]),3,24,[.str [],.int .u8 0,.bool false],true⟩:=by kernel_rfl
def Az:yA.tys.get 79=some ⟨(.int .u16),1,2,[.int .u16 0],true⟩:=by kernel_rfl
def ty84:yA.tys.get 84=some ⟨(.ptr 121),1,8,[.nilptr],true⟩:=by kernel_rfl
def ty93:yA.tys.get 93=some ⟨(.slice 9),1,24,[.nilslice],true⟩:=by kernel_rfl
def ty94:yA.tys.get 94=some ⟨(.slice 3),1,24,[.nilslice],true⟩:=by kernel_rfl
def Jx:yA.tys.get 128=some ⟨(.slice 155),1,24,[.nilslice],true⟩:=by kernel_rfl
def zgm:yA.tys.get 130=some ⟨(.struct [(0,9,1),(1,4,1),(2,128,1)]),3,48,[.str [],.bool false,.nilslice],true⟩:=by kernel_rfl
def ty135:yA.tys.get 135=some ⟨(.map 3 9),1,8,[.nilmap],true⟩:=by kernel_rfl
def zgl:yA.tys.get 138=some ⟨(.struct [(0,9,1),(1,5,1)]),2,24,[.str [],.int .u8 0],true⟩:=by kernel_rfl
def ty145:yA.tys.get 145=some ⟨(.struct [(0,29,2),(2,9,1),(3,3,1)]),4,40,[.int .i64 0,.int .i64 0,.str [],.int .i64 0],true⟩:=by kernel_rfl
def zgk:yA.tys.get 155=some ⟨(.struct [(0,3,1),(1,3,1),(2,3,1),(3,45,4)]),7,88,[.int .i64 0,.int .i64 0,.int .i64 0,.bool false,.nilslice,.bool false,.nilslice],true⟩:=by kernel_rfl
def zgj:yA.tys.get 161=some ⟨(.slice 138),1,24,[.nilslice],true⟩:=by kernel_rfl
def mM:yA.tys.get 189=some ⟨(.slice 56),1,24,[.nilslice],true⟩:=by kernel_rfl
def ty201:yA.tys.get 201=some ⟨(.arr 7 9),7,112,[.str [],.str [],.str [],.str [],.str [],.str [],.str []],true⟩:=by kernel_rfl
def ty206:yA.tys.get 206=some ⟨(.ptr 189),1,8,[.nilptr],true⟩:=by kernel_rfl
def yQ:yA.tys.get 207=some ⟨(.int .u64),1,8,[.int .u64 0],true⟩:=by kernel_rfl
def ty219:yA.tys.get 219=some ⟨(.arr 12 3),12,96,[.int .i64 0,.int .i64 0,.int .i64 0,.int .i64 0,.int .i64 0,.int .i64 0,.int .i64 0,.int .i64 0,.int .i64 0,.int .i64 0,.int .i64 0,.int .i64 0],true⟩:=by kernel_rfl
def zgi:yA.tys.get 229=some ⟨(.slice 43),1,24,[.nilslice],true⟩:=by kernel_rfl
def ty250:yA.tys.get 250=some ⟨(.arr 12 249),60,480,[.str [],.int .u8 0,.bool false,.int .i64 0,.int .i64 0,.str [],.int .u8 0,.bool false,.int .i64 0,.int .i64 0,.str [],.int .u8 0,.bool false,.int .i64 0,.int .i64 0,.str [],.int .u8 0,.bool false,.int .i64 0,.int .i64 0,.str [],.int .u8 0,.bool false,.int .i64 0,.int .i64 0,.str [],.int .u8 0,.bool false,.int .i64 0,.int .i64 0,.str [],.int .u8 0,.bool false,.int .i64 0,.int .i64 0,.str [],.int .u8 0,.bool false,.int .i64 0,.int .i64 0,.str [],.int .u8 0,.bool false,.int .i64 0,.int .i64 0,.str [],.int .u8 0,.bool false,.int .i64 0,.int .i64 0,.str [],.int .u8 0,.bool false,.int .i64 0,.int .i64 0,.str [],.int .u8 0,.bool false,.int .i64 0,.int .i64 0],true⟩:=by kernel_rfl
def sl23:zH yA 23 77 3 true:=⟨⟨_,ty23,rfl⟩,⟨_,ty77,rfl,rfl⟩⟩
def sl24:zH yA 24 130 3 true:=⟨⟨_,Gk,rfl⟩,⟨_,zgm,rfl,rfl⟩⟩
def sl25:zH yA 25 72 24 true:=⟨⟨_,ty25,rfl⟩,⟨_,ty72,rfl,rfl⟩⟩
def iY:zH yA 41 79 1 false:=⟨⟨_,ty41,rfl⟩,⟨_,Az,rfl,rfl⟩⟩
def sl48:zH yA 48 50 9 true:=⟨⟨_,ty48,rfl⟩,⟨_,ty50,rfl,rfl⟩⟩
def sl66:zH yA 66 75 4 true:=⟨⟨_,jS,rfl⟩,⟨_,ty75,rfl,rfl⟩⟩
def sl93:zH yA 93 9 1 false:=⟨⟨_,ty93,rfl⟩,⟨_,sP,rfl,rfl⟩⟩
def sl94:zH yA 94 3 1 false:=⟨⟨_,ty94,rfl⟩,⟨_,qO,rfl,rfl⟩⟩
def sl128:zH yA 128 155 7 true:=⟨⟨_,Jx,rfl⟩,⟨_,zgk,rfl,rfl⟩⟩
def sl161:zH yA 161 138 2 true:=⟨⟨_,zgj,rfl⟩,⟨_,zgl,rfl,rfl⟩⟩
def dG:zH yA 189 56 1 false:=⟨⟨_,mM,rfl⟩,⟨_,dH,rfl,rfl⟩⟩
def sl229:zH yA 229 43 2 true:=⟨⟨_,zgi,rfl⟩,⟨_,ty43,rfl,rfl⟩⟩
end Go.Proofs
namespace Go.Am
open Go Go.RowKit
def eD (l:List Nat):List D:=l.map fun(n:Nat)=>D.int .u16 (n:Int)
theorem qT(l:List Nat):(eD l).length=l.length:=by simp[eD]
structure tJ where
 neg:Bool
 limbs:List Nat
def tJ.d(w:tJ):D:=.st [.bool w.neg,.sl 1 (eD w.limbs)]
structure vH where
 n:tJ
 d:tJ
def vH.dd(f:vH):D:=.st [f.n.d,f.d.d]
structure oG where
 kind:Nat
 f:vH
 i:Int
def oG.d(v:oG):D:=.st [.int .u8 v.kind,v.f.dd,.int .i64 v.i]
inductive fA where
 | mk (op:Nat) (name:List Nat) (v:oG) (args:List fA)
def fA.op:fA->Nat | .mk o _ _ _=>o
def fA.name:fA->List Nat | .mk _ n _ _=>n
def fA.v:fA->oG | .mk _ _ v _=>v
def fA.args:fA->List fA | .mk _ _ _ a=>a
mutual
def fA.d:fA->D
 | .mk op name v args=>.st [.int .u8 op,.str name,v.d,.sl 9 (fA.ds args)]
def fA.ds:List fA->List D
 | []=>[]
 | x::l=>x.d::fA.ds l
end
theorem fA.ds_eq(l:List fA):fA.ds l=l.map fA.d:=by
 induction l with
 | nil=>rfl
 | cons x l ih=>simp[fA.ds,ih]
structure lG where
 a:Int
 b:Int
 known:Int
 f:vH
def lG.d(r:lG):D:=.st [.int .i64 r.a,.int .i64 r.b,.int .i64 r.known,r.f.dd]
structure pG where
 name:List Nat
 two:Bool
 rows:List lG
def pG.d(x:pG):D:=.st [.str x.name,.bool x.two,.sl 7 (x.rows.map lG.d)]
structure bF where
 name:List Nat
 kind:Nat
 fact:Bool
def bF.d(x:bF):D:=.st [.str x.name,.int .u8 x.kind,.bool x.fact]
structure lE where
 name:List Nat
 label:List Nat
 from_:Int
 to:Int
 known:Int
 off:Bool
 when_:fA
 then_:fA
def lE.d(x:lE):D:=.st [.str x.name,.str x.label,.int .i64 x.from_,.int .i64 x.to,.int .i64 x.known,.bool x.off,x.when_.d,x.then_.d]
structure pD where
 name:List Nat
 defs:List bF
 tables:List pG
 clauses:List lE
def pD.d(x:pD):D:=.st [.str x.name,.sl 3 (x.defs.map bF.d),.sl 3 (x.tables.map pG.d),.sl 24 (x.clauses.map lE.d)]
section
variable {t:Tr vA}{cs:List zA}
theorem Dy{w:tJ}(h:RD t w.d cs):∃v,cs=[.bool w.neg,v]/\bA t 1 (eD w.limbs) v:=by
 grind [tJ.d,oI,dC,wF,pM,dU]
theorem rd_frac{f:vH}(h:RD t f.dd cs):∃u v,cs=[.bool f.n.neg,u,.bool f.d.neg,v]/\bA t 1 (eD f.n.limbs) u/\bA t 1 (eD f.d.limbs) v:=by
 grind [vH.dd,oI,dC,wF,Dy]
def Dz{v:oG}(h:RD t v.d cs):∃a b,cs=[.int .u8 v.kind,.bool v.f.n.neg,a,.bool v.f.d.neg,b,.int .i64 v.i]/\bA t 1 (eD v.f.n.limbs) a/\bA t 1 (eD v.f.d.limbs) b:=by
 unfold oG.d at h;simp only[oI,dC,wF,aJ]at h;obtain⟨cl,rfl,c,r,rfl,rfl,c',r',rfl,h2,c'',r'',rfl,rfl,rfl⟩:=h
 obtain⟨a,b,rfl,h3,h4⟩:=rd_frac h2
 exact⟨a,b,rfl,h3,h4⟩
def uK{x:fA}(h:RD t x.d cs):∃a b c,cs=[.int .u8 x.op,.str x.name,.int .u8 x.v.kind,.bool x.v.f.n.neg,a,.bool x.v.f.d.neg,b,.int .i64 x.v.i,c] ∧
  bA t 1 (eD x.v.f.n.limbs) a/\bA t 1 (eD x.v.f.d.limbs) b/\bA t 9 (x.args.map fA.d) c:=by
 obtain⟨op,name,v,args⟩:=x
 unfold fA.d at h;rw[fA.ds_eq]at h;simp only[oI,dC,wF,aJ,pK,pM]at h;obtain⟨cl,rfl,c,r,rfl,rfl,c',r',rfl,rfl,c'',r'',rfl,hv,c3,r3,rfl,⟨w,rfl,h4⟩,rfl⟩:=h
 obtain⟨a,b,rfl,h5,h6⟩:=Dz hv
 exact⟨a,b,w,rfl,h5,h6,h4⟩
theorem Pp{r:lG}(h:RD t r.d cs):∃a b,cs=[.int .i64 r.a,.int .i64 r.b,.int .i64 r.known,.bool r.f.n.neg,a,.bool r.f.d.neg,b]/\bA t 1 (eD r.f.n.limbs) a/\bA t 1 (eD r.f.d.limbs) b:=by
 grind [lG.d,oI,dC,wF,aJ,rd_frac]
theorem Wv{x:pG}(h:RD t x.d cs):∃a,cs=[.str x.name,.bool x.two,a]/\bA t 7 (x.rows.map lG.d) a:=by
 grind [pG.d,oI,dC,wF,pK,dU,pM]
theorem Ww{x:bF}(h:RD t x.d cs):cs=[.str x.name,.int .u8 x.kind,.bool x.fact]:=by
 grind [bF.d,oI,dC,wF,pK,dU,aJ]
def Fp(x:fA)(a b c:zA):List zA:=[.int .u8 x.op,.str x.name,.int .u8 x.v.kind,.bool x.v.f.n.neg,a,.bool x.v.f.d.neg,b,.int .i64 x.v.i,c]
def Pq{x:lE}(h:RD t x.d cs):∃a b c a' b' c',cs=[.str x.name,.str x.label,.int .i64 x.from_,.int .i64 x.to,.int .i64 x.known,.bool x.off]++Fp x.when_ a b c++Fp x.then_ a' b' c' ∧
  RD t x.when_.d (Fp x.when_ a b c)/\RD t x.then_.d (Fp x.then_ a' b' c'):=by
 unfold lE.d at h;simp only[oI,dC,wF,pK,dU,aJ]at h;obtain⟨cl,rfl,c1,r1,rfl,rfl,c2,r2,rfl,rfl,c3,r3,rfl,rfl,c4,r4,rfl,rfl,c5,r5,rfl,rfl,c6,r6,rfl,rfl,c7,r7,rfl,h7,c8,r8,rfl,h8,rfl⟩:=h
 obtain⟨a,b,c,e1,_⟩:=uK h7
 obtain⟨a',b',c',e2,_⟩:=uK h8
 subst e1 e2
 exact⟨a,b,c,a',b',c',rfl,h7,h8⟩
theorem bY{x:pD}(h:RD t x.d cs):∃a b c,cs=[.str x.name,a,b,c]/\bA t 3 (x.defs.map bF.d) a/\bA t 3 (x.tables.map pG.d) b/\bA t 24 (x.clauses.map lE.d) c:=by
 grind [pD.d,oI,dC,wF,pK,pM]
end
def tJ.zs(x:tJ):x.d.zs=[.bool false,.nilslice]:=rfl
def vH.zs(x:vH):x.dd.zs=[.bool false,.nilslice,.bool false,.nilslice]:=rfl
def oG.zs(x:oG):x.d.zs=[.int .u8 0,.bool false,.nilslice,.bool false,.nilslice,.int .i64 0]:=rfl
def fA.zs(x:fA):x.d.zs=[.int .u8 0,.str [],.int .u8 0,.bool false,.nilslice,.bool false,.nilslice,.int .i64 0,.nilslice]:=by cases x;rfl
def lG.zs(x:lG):x.d.zs=[.int .i64 0,.int .i64 0,.int .i64 0,.bool false,.nilslice,.bool false,.nilslice]:=rfl
def pG.zs(x:pG):x.d.zs=[.str [],.bool false,.nilslice]:=rfl
def bF.zs(x:bF):x.d.zs=[.str [],.int .u8 0,.bool false]:=rfl
def lE.zs(x:lE):x.d.zs=[.str [],.str [],.int .i64 0,.int .i64 0,.int .i64 0,.bool false,.int .u8 0,.str [],.int .u8 0,.bool false,.nilslice,.bool false,.nilslice,.int .i64 0,.nilslice,.int .u8 0,.str [],.int .u8 0,.bool false,.nilslice,.bool false,.nilslice,.int .i64 0,.nilslice]:=by
 obtain⟨_,_,_,_,_,_,w,v⟩:=x;cases w;cases v;rfl
def pD.zs(x:pD):x.d.zs=[.str [],.nilslice,.nilslice,.nilslice]:=rfl
def rM:Nat:=1125899906842624
def vH.ok(f:vH):Prop:=f.n.limbs.length<rM/\f.d.limbs.length<rM
end Go.Am
namespace Go.Am
open Go Go.RowKit
section
variable {a b:Int}
theorem jF  : (iB a b=true) ↔ a<b:=Rn a b
theorem aK  : (bG a b=true) ↔ a<=b:=JP a b
def Qr(l:List Nat):(Int.ofNat (zB l))=(l.length:Int):=by rw[oD];rfl
def zge(cs:List zA):BQ true cs=.agg cs:=rfl
end
section
variable {cap el i j n ty x:Nat}{y:lD}
def rC(k:IntKind)(l:List Nat):List D:=l.map fun(n:Nat)=>D.int k (n:Int)
theorem uJ{k:IntKind}(l:List Nat):(rC k l).length=l.length:=by simp[rC]
def LG{k:IntKind}{l:List Nat} (h:l[i]?=some x):(rC k l)[i]?=some (.int k (x:Int)):=by simp[rC,h]
theorem LF{k:IntKind}{l:List Nat}  : (rC k l).take n=rC k (l.take n):=by simp[rC]
def rG (t:Tr vA)(b:Nat)(k:IntKind)(l:List Nat):Prop:=∃c,t.get b=some (.cells c l.length none)/\∀(j:Nat) x,l[j]?=some x->c.get j=some (.int k (x:Int))
def fF (b:Nat)(t t':Tr vA):Prop:=∀c,c≠b->t'.get c=t.get c
theorem fF.refl(b:Nat)(t:Tr vA):fF b t t:=fun _ _=>rfl
def fF.trans{b:Nat}{x y z:Tr vA}(h:fF b x y)(k:fF b y z):fF b x z:=fun c hc=>(k c hc).trans (h c hc)
section
variable {t t' t0:Tr vA}{C:oA}{b:Nat}{k:IntKind}{l:List Nat}
theorem rG.off(h:rG t b k l){c:Nat}(hc:b≠c)(ho:fF c t t'):rG t' b k l:=by
 obtain⟨x,h1,h2⟩:=h;exact⟨x,by rw[ho b hc];exact h1,h2⟩
def rG.tle(h:rG t b k l)(ho:aA t t'):rG t' b k l:=by
 obtain⟨x,h1,h2⟩:=h;exact⟨x,ho _ _ h1,h2⟩
theorem aA.off(h:aA t0 t)(hb:t0.get b=none)(ho:fF b t t'):aA t0 t':=by
 intro c y hc;rw[ho c (by grind)]
 exact h c y hc
theorem rG.slice(h:rG t b k l){off:Nat}(hn:off+n<=l.length)(hc:n<=cap):bA t 1 (rC k ((l.drop off).take n)) (.slice b off n cap):=by
 obtain⟨c,h1,h2⟩:=h
 refine⟨((l.drop off).take n).map fun(x:Nat)=>[.int k (x:Int)],.inr ⟨b,off,cap,?_,?_,⟨c,_,none,h1,.inl rfl⟩,fun i cs hi=>?_⟩,?_⟩
 ·grind
 ·grind
 ·simp only[ybu,yar]at hi
  obtain⟨x,hx,rfl⟩:=hi
  refine⟨rfl,c,_,none,h1,fun j a hj=>?_⟩
  grind
 ·refine wD.mk (by simp[rC]) fun i d cs hd hc=>?_
  simp only[rC,ybu,yar]at hd hc;obtain⟨x,hx,rfl⟩:=hd
  simp_all
theorem rG.all(h:rG t b k l) (hc:l.length<=cap):bA t 1 (rC k l) (.slice b 0 l.length cap):=by
 have:=h.slice (off:=0) (n:=l.length) (by omega) hc
 simp_all
def Aw{T sz:Nat}{agg:Bool}(h:zH C T el sz agg){off:Nat}(hi:i<n):xC C T (.slice b off n cap) (.int .i64 (i:Int))=some (.ptr b (off+i*sz)):=by
 obtain⟨⟨y,hy1,hy2⟩,⟨z,hz1,hz2,hz3⟩⟩:=h
 unfold xC;rw[hy1,qA];have:(zA.int .i64 (i:Int)).asNat=some i:=rfl
 rw[this,qA];simp only[zA.asSlice];rw[hy2,qA,hz1,qA,qC.2 hi,hz2];rfl
theorem rG.load(h:rG t b k l) (hj:l[j]?=some x)  (hy:C.tys.get ty=some y)(ha:y.desc.isAgg=false):mA C ty ⟨0,t⟩ (.ptr b j)=some (.int k (x:Int)):=by
 obtain⟨c,h1,h2⟩:=h
 simp_all [mA,zA.asPtr,qE,vA.asCells,fR]
theorem rG.store(h:rG t b k l)(hb:C.base<=b) (hj:j<l.length)(x:Nat)  (hy:C.tys.get ty=some y)(hs:y.size=1) :
  ∃t',(∀n,zC C ty (.ptr b j) (.int k (x:Int)) ⟨n,t⟩=some (dD,⟨n,t'⟩))/\rG t' b k (l.set j x)/\fF b t t':=by
 obtain⟨c,h1,h2⟩:=h
 refine⟨t.set b (.cells (c.setMany [.int k (x:Int)] j) l.length none),fun n=>?_,⟨c.setMany [.int k (x:Int)] j,?_,fun i y hi=>?_⟩,fun d hd=>?_⟩
 ·unfold zC
  rw[hy,qA];simp only[zA.asPtr,qA,zA.cells,zA.asAgg];rw[hs];have e1:Nat.beq (zB [zA.int k (x:Int)]) 1=true:=rfl
  rw[e1,yE];unfold yJ qE;have e2:(!Nat.blt b C.base)=true:=by
   grind [qC]
  rw[e2,yE,h1,qA];simp only[vA.asCells,qA];have e3:Nat.ble (j+zB [zA.int k (x:Int)]) l.length=true:=oE.2 hj
  have e4:fB zA.one [zA.int k (x:Int)]=true:=rfl
  rw[e3,e4];rfl
 all_goals grind [Tr.get_set,Tr.get_setMany]
theorem En{T:Nat}{z:lD}(hT:C.tys.get T=some y)(hel:y.desc.asSlice=some el)(hz:C.tys.get el=some z)(hzero:z.zero=[.int k 0])(hs:z.size=1)(hby:z.bytes<=8) (hn:n<1000000)(hb:t.get b=none) :
  ∃t',uP C T (.int .i64 (n:Int)) (.int .i64 (n:Int)) ⟨b,t⟩=some (.slice b 0 n n,⟨b+1,t'⟩)/\rG t' b k (List.replicate n 0)/\aA t t'/\fF b t t':=by
 have hrep:∀n,tI [zA.int k 0] n=List.replicate n (.int k 0):=by
  intro n;induction n with
  | zero=>rfl
  | succ n ih=>grind [tI,iG]
 refine⟨t.set b (.cells (Tr.ofList (tI z.zero n)) (zB (tI z.zero n)) none),?_,⟨Tr.ofList (tI z.zero n),?_,fun j x hj=>?_⟩,fun c y' hc=>?_,fun c hc=>?_⟩
 ·unfold uP
  rw[hT,qA,hel,qA,hz,qA];have e1:(zA.int .i64 (n:Int)).asNat=some n:=rfl
  rw[e1,qA,qA];have e2:(Nat.ble n n&&Nat.blt n 1000000&&Nat.blt (n*z.bytes) 1000000000&&Nat.beq (zB z.zero) z.size)=true:=by
   rw[hzero,hs,show Nat.ble n n=true from oE.2 (ybk n),qC.2 hn]
   have:n*z.bytes<1000000000:=by
    have:=ydb (Nat.le_of_lt hn) hby
    omega
   rw[qC.2 this];rfl
  rw[e2,yE];rfl
 all_goals grind [Tr.get_set,oD,Tr.get_ofList]
end
end
end Go.Am
namespace Go.Am
variable {B:Nat}{l m:List Nat}
def val (B:Nat):List Nat->Nat
 | []=>0
 | a::l=>a+B*val B l
def mB(B:Nat)(l:List Nat):Prop:=∀x∈l,x<B
def norm (l:List Nat):Prop:=∀h:l≠[],l.getLast h≠0
theorem Js(B:Nat):∀(l m:List Nat),val B (l++m)=val B l+B^l.length*val B m
 | [],m=>by simp[val]
 | a::l,m=>by
  simp only[List.cons_append,val,Js B l m,ybn,yag];grind
theorem vP{B:Nat}(hB:0<B):∀ {l:List Nat},mB B l->val B l<B^l.length
 | [],_=>by simp[val]
 | a::l,h=>by
  have h1:=h a (yby)
  have h2:=vP hB (l:=l) fun x hx=>h x (ybr _ hx)
  simp only[val,ybn,yag];have h3:B*(val B l+1)<=B*B^l.length:=ybv B h2
  grind
theorem Df(B:Nat)(l:List Nat)(n:Nat):val B l=val B (l.take n)+B^(l.take n).length*val B (l.drop n):=by
 rw[<- Js,List.take_append_drop]
theorem Co  (h:mB B l)(n:Nat):mB B (l.take n):=fun x hx=>h x (List.mem_of_mem_take hx)
def AX  (h:mB B l)(n:Nat):mB B (l.drop n):=fun x hx=>h x (List.mem_of_mem_drop hx)
def zal  (h:mB B l)(k:mB B m):mB B (l++m):=fun x hx=>(yaf.1 hx).elim (h x) (k x)
def eE:List Nat->List Nat
 | []=>[]
 | a::l=>if eE l=[]/\a=0 then []else a::eE l
theorem wV(B:Nat):∀l:List Nat,val B (eE l)=val B l
 | []=>rfl
 | a::l=>by
  unfold eE;have ih:=wV B l
  grind [val]
theorem mV:∀l:List Nat,norm (eE l)
 | []=>fun h=>(h rfl).elim
 | a::l=>by
  have ih:=mV l
  unfold eE;split
  ·simp_all
  ·rename_i h
   intro hne;by_cases hs:eE l=[]
   ·simp_all
   ·rw[List.getLast_cons hs];exact ih hs
theorem mT{B:Nat}:∀ {l:List Nat},mB B l->mB B (eE l)
 | [],h=>h
 | a::l,h=>by
  have ih:=mT (l:=l) fun x hx=>h x (ybr _ hx)
  unfold eE;split
  ·simp_all
  ·exact fun x hx=>(ybs.1 hx).elim (fun e=>e ▸ h a yby) (ih x)
def Ke:∀l:List Nat,(eE l).length<=l.length
 | []=>ybk _
 | a::l=>by unfold eE;have:=Ke l;split<;>simp<;>omega
theorem Vs:∀l:List Nat,eE (l++[0])=eE l
 | []=>by simp[eE]
 | a::l=>by
  show(if eE (l++[0])=[]/\a=0 then []else a::eE (l++[0]))=_
  rw[Vs l];rfl
def Kc:∀ {l:List Nat},norm l->eE l=l
 | [],_=>rfl
 | a::l,h=>by
  have hl:norm l:=by
   intro hne;have:=h (by simp)
   grind
  unfold eE;rw[Kc hl];split
  ·rename_i e
   have:=h (by simp)
   simp_all
  ·rfl
def TO (hB:0<B) (h:norm l)(h0:val B l=0):l=[]:=by
 have key:∀l:List Nat,val B l=0->∀x∈l,x=0:=by
  intro l;induction l with
  | nil=>simp_all
  | cons a l ih=>
   grind [val,Nat.mul_eq_zero]
 rcases List.eq_nil_or_concat l with e | ⟨m,a,e⟩
 ·exact e
 ·exfalso
  subst e;have:=h (by simp)
  simp at this;exact this (key _ h0 a (by simp))
def Tz  (h:norm l)(hne:l≠[]):B^(l.length-1)<=val B l:=by
 rcases List.eq_nil_or_concat l with e | ⟨m,a,e⟩
 ·simp_all
 ·rw[List.concat_eq_append]at e
  subst e;have:=h (by simp)
  simp at this;rw[Js];simp only[ybg,ybn,ybx,val];have:1<=a+B*0:=by omega
  calc B^(m.length+1-1)=B^m.length*1:=by simp
   _<=B^m.length*(a+B*0):=ybv _ this
   _<=_:=Nat.le_add_left _ _
def BP{B:Nat}(hB:0<B):∀ {l m:List Nat},mB B l->mB B m->l.length=m.length->val B l=val B m->l=m
 | [],[],_,_,_,_=>rfl
 | a::l,b::m,h1,h2,hl,hv=>by
  have ha:=h1 a yby
  have hb:=h2 b yby
  simp only[val]at hv;have e1:a=b:=by
   grind [Nat.add_mul_mod_self_left,Nat.mod_eq_of_lt]
  subst e1;have e2:val B l=val B m:=by
   grind [Nat.eq_of_mul_eq_mul_left]
  rw[BP hB (fun x hx=>h1 x (ybr _ hx)) (fun x hx=>h2 x (ybr _ hx)) (by simp_all) e2]
 | [],_::_,_,_,h,_=>by simp at h
 | _::_,[],_,_,h,_=>by simp at h
def jR (hB:1<B) (h1:mB B l)(h3:norm m)(hv:val B m<=val B l):m.length<=l.length:=by
 by_cases hm:m=[]
 ·simp[hm]
 ·have a:=Tz (B:=B) h3 hm
  have b:=vP (by omega) h1
  have:B^(m.length-1)<B^l.length:=by omega
  grind [Nat.pow_lt_pow_iff_right]
def GK (hB:1<B) (h1:mB B l)(h2:mB B m)(h3:norm l)(h4:norm m)(hv:val B l=val B m):l=m:=by
 have a:=jR hB h1 h4 (by omega)
 have b:=jR hB h2 h3 (by omega)
 exact BP (by omega) h1 h2 (by omega) hv
def pN (a b:List Nat):Int:=if a.length≠b.length then(if a.length<b.length then -1 else 1)else go a b
where go:List Nat->List Nat->Int
 | a::l,b::m=>if go l m≠0 then go l m else if a<b then -1 else if b<a then 1 else 0
 | _,_=>0
theorem LZ{B:Nat}:∀ {a b:List Nat},mB B a->mB B b->a.length=b.length->(pN.go a b<0 ↔ val B a<val B b)/\(pN.go a b=0 ↔ val B a=val B b)
 | [],[],_,_,_=>by simp[pN.go,val]
 | a::l,b::m,h1,h2,hl=>by
  have ha:=h1 a yby
  have hb:=h2 b yby
  obtain⟨i1,i2⟩:=LZ (a:=l) (b:=m) (fun x hx=>h1 x (ybr _ hx)) (fun x hx=>h2 x (ybr _ hx)) (by simp_all)
  have lt_of:∀ {x y:Nat},x<y->∀u v,u<B->u+B*x<v+B*y:=by
   intro x y h u v hu;have:B*(x+1)<=B*y:=ybv B h
   grind
  unfold pN.go;simp only[val];by_cases h0:pN.go l m=0
  ·grind
  ·rw[yab h0]
   constructor
   ·rw[i1]
    constructor
    ·simp_all
    grind [Nat.lt_trichotomy]
   ·constructor
    ·omega
    ·intro h
     rcases Nat.lt_trichotomy (val B l) (val B m)with g | g | g
     ·have:=lt_of g a b ha;omega
     ·omega
     ·have:=lt_of g b a hb;omega
 | [],_::_,_,_,h=>by simp at h
 | _::_,[],_,_,h=>by simp at h
def LY (hB:1<B){a b:List Nat}(h1:mB B a)(h2:mB B b)(h3:norm a)(h4:norm b):pN a b<0 ↔ val B a<val B b:=by
 unfold pN;by_cases hl:a.length=b.length
 ·grind [LZ]
 ·rw[yab hl]
  by_cases hlt:a.length<b.length
  ·rw[yab hlt]
   refine⟨fun _=>?_,fun _=>by omega⟩
   rcases yau (val B a) (val B b)with g | g
   ·exact g
   ·have:=jR hB h1 h4 g;omega
  ·rw[yaa hlt]
   refine⟨fun h=>by omega,fun h=>?_⟩
   have:=jR hB h2 h3 (by omega);omega
end Go.Am
namespace Go.Am
open Go Go.RowKit
variable {a b n:Int}{k:IntKind}{i x y:Nat}{l:List Nat}
theorem eF (h1:0<=n)(h2:n<18446744073709551616):cA .u64 n=n:=by
 grind [wP,IntKind.wrap,IntKind.bits,IntKind.signed]
theorem iT (h1:0<=n)(h2:n<4294967296):cA .u32 n=n:=by
 grind [wP,IntKind.wrap,IntKind.bits,IntKind.signed]
def zat (h1:0<=n)(h2:n<65536):cA .u16 n=n:=by
 grind [wP,IntKind.wrap,IntKind.bits,IntKind.signed]
def Nv (h1:0<=n)(h2:n<256):cA .u8 n=n:=by
 grind [wP,IntKind.wrap,IntKind.bits,IntKind.signed]
theorem Nu(n:Int):cA .u64 n=n%18446744073709551616:=by
 grind [wP,IntKind.wrap,IntKind.bits,IntKind.signed]
theorem jT(n:Int):cA .u32 n=n%4294967296:=by
 grind [wP,IntKind.wrap,IntKind.bits,IntKind.signed]
def NQ(n:Int):cA .u16 n=n%65536:=by
 grind [wP,IntKind.wrap,IntKind.bits,IntKind.signed]
def JQ   : iAnd k (x:Int) (y:Int)=kI Nat.land k (x:Int) (y:Int):=rfl
theorem mU{f:Nat->Nat->Nat}  (h1:x<cG k)(h2:y<cG k):kI f k (x:Int) (y:Int)=some (.int k (f x y:Nat)):=by
 unfold kI;have e1:vN (x:Int)=some x:=rfl
 have e2:vN (y:Int)=some y:=rfl
 rw[e1,qA,e2,qA,qC.2 h1,qC.2 h2];rfl
def Ze  (h0:0<y)(hw:cA k ((x / y:Nat):Int)=((x / y:Nat):Int)):hZ k (x:Int) (y:Int)=some (.int k ((x / y:Nat):Int)):=by
 unfold hZ;have:tC (y:Int) 0=false:=by
  grind [gZ]
 rw[this,cond_false,Int.tdiv_eq_ediv_of_nonneg (by omega)]
 rw[<- Int.natCast_ediv,hw]
def Rm  (h0:0<y):iZ k (x:Int) (y:Int)=some (.int k ((x%y:Nat):Int)):=by
 unfold iZ;have:tC (y:Int) 0=false:=by
  grind [gZ]
 rw[this,cond_false,Int.tmod_eq_emod_of_nonneg (by omega),<- Int.natCast_emod]
theorem nJ  : (tC a b=true) ↔ a=b:=gZ a b
def qQ  : ((!tC a b)=true) ↔ a≠b:=by rw[ycp,<- Bool.not_eq_true,nJ]
def Xr{b:Bool}:((!b)=true) ↔ b=false:=by simp
theorem Dr{a b n:Nat}(h:b<2^n):Nat.lor (a*2^n) b=a*2^n+b:=by
 show a*2^n ||| b=_
 rw[<- Nat.shiftLeft_eq,<- Nat.shiftLeft_add_eq_or_of_lt h,Nat.shiftLeft_eq]
def or_low{a b n:Nat}(h:b<2^n)(ha:a%2^n=0):Nat.lor a b=a+b:=by
 obtain⟨c,hc⟩:=Nat.dvd_of_mod_eq_zero ha
 grind [Nat.mul_comm,Dr]
def bA.idx{t:Tr vA}{C:oA}{T el:Nat}(h:zH C T el 1 false)  {v:zA}(hr:bA t 1 (rC k l) v) (hi:l[i]?=some x) :
  ∃b off,xC C T v (.int .i64 (i:Int))=some (.ptr b off)/\mA C el ⟨0,t⟩ (.ptr b off)=some (.int k (x:Int)):=by
 obtain⟨b,off,cs,h1,h2,_,_,h5⟩:=zH.at h (fun _=>rfl) hr (LG hi)
 rw[aJ]at h5;subst h5;exact⟨b,off,h1,h2⟩
def Cf(x:Nat)(n:Nat):Int.fdiv (x:Int) (n:Int)=((x / n:Nat):Int):=by
 grind
def getElem?_of_lt  (h:i<l.length):∃x,l[i]?=some x:=⟨l[i],ybd h⟩
def xL{B:Nat} (h:mB B l) (hi:l[i]?=some x):x<B:=h x (ycv hi)
def Qu (h:l≠[]):∃m x,l=m++[x]:=by
 rcases List.eq_nil_or_concat l with e | ⟨m,a,e⟩
 all_goals simp_all
end Go.Am
namespace Go.Proofs
open Go Go.Am
variable {a b l:List Nat}{u v:zA}{neg:Bool}
variable [eC]
variable {t:Tr vA}
theorem OX:∀(n:Nat) (l:List Nat) (v:zA),l.length=n->n<1125899906842624->bA t 1 (rC .u32 l) v->∃v',jp 140 2 [v] t (fun u m=>u=v'/\m=t)/\bA t 1 (rC .u32 (eE l)) v':=by
 intro n;induction n with
 | zero=>
  intro l v hl _ hv;have:l=[]:=ycc.1 hl
  subst this;refine⟨v,Yx ?_,hv⟩
  simp only[uI,uL,uZ,uW,Oy,pA,hv.len,sA,yC,uJ,jF];simp_all
 | succ n ih=>
  intro l v hl hn hv;obtain⟨m,x,rfl⟩:=Qu (l:=l) (by grind)
  have hm:m.length=n:=by simp_all
  have hx:(m++[x])[m.length]?=some x:=by simp
  obtain⟨b,off,g1,g2⟩:=hv.idx dG hx
  obtain⟨u,g3,g4⟩:=zH.front dG hv (k:=m.length) (by simp[rC])
  rw[LF]at g4;simp only[List.take_left']at g4;have e1:(((m++[x]).length:Nat):Int)-1=(m.length:Int):=by simp
  by_cases hx0:x=0
  ·subst hx0
   obtain⟨w,h1,h2⟩:=ih m u hm (by omega) g4
   refine⟨w,Yx ?_,by grind [Vs]⟩
   simp (disch:=omega) only[uI,uL,uZ,uW,Oy,pA,hv.len,sA,yC,uJ,jF,nJ,iC,e1,g1,g2,g3]
   simp_all
  ·refine⟨v,Yx ?_,?_⟩
   ·simp (disch:=omega) only[uI,uL,uZ,uW,Oy,pA,hv.len,sA,yC,uJ,jF,nJ,iC,e1,g1,g2,g3]
    simp_all
   ·rw[Kc]
    ·exact hv
    ·intro _;simp_all
def Bb  (hl:l.length<1125899906842624)(hv:bA t 1 (rC .u32 l) v):∃v',wC yA F 140 [v] t=some v'/\bA t 1 (rC .u32 (eE l)) v':=by
 obtain⟨v',h1,h2⟩:=OX _ l v rfl hl hv
 exact⟨v',bD.2 (w140 h1),h2⟩
theorem zdb  (hu:bA t 1 (rC .u32 a) u)(hv:bA t 1 (rC .u32 b) v)(hl:a.length=b.length):∀(n:Nat),n<=a.length->n<1125899906842624->jp 169 2 [u,v,.int .i64 ((n:Int)-1)] t (fun w m=>w=.int .i64 (pN.go (a.take n) (b.take n))/\m=t):=by
 intro n;induction n with
 | zero=>
  intro _ _;refine ze8 ?_
  simp only[uL,uZ,uW,Ve,pA,aK];grind [pN.go]
 | succ n ih=>
  intro hn hn2;obtain⟨x,hx⟩:=getElem?_of_lt (l:=a) (i:=n) (by omega)
  obtain⟨y,hy⟩:=getElem?_of_lt (l:=b) (i:=n) (by omega)
  obtain⟨c,off,g1,g2⟩:=hu.idx dG hx
  obtain⟨d,off',g3,g4⟩:=hv.idx dG hy
  have e1:(((n+1:Nat):Int)-1)=(n:Int):=by omega
  have key:∀(a b:List Nat) (x y:Nat),a.length=b.length->pN.go (a++[x]) (b++[y])=if x<y then -1 else if y<x then 1 else pN.go a b:=by
   intro a;induction a with
   | nil=>
    grind [pN.go]
   | cons p a ih=>
    intro b x y h
    cases b with
    | nil=>simp at h
    | cons q b=>
     grind [pN.go]
  have e2:pN.go (a.take (n+1)) (b.take (n+1))=if x<y then -1 else if y<x then 1 else pN.go (a.take n) (b.take n):=by
   grind [List.take_add_one]
  rw[e1,e2];refine ze8 ?_
  simp (disch:=omega) only[uL,uZ,uW,Ve,pA,sA,yC,jF,aK,qQ,g1,g2,g3,g4,iC]
  grind
theorem zfu  (ha:a.length<1125899906842624)(hu:bA t 1 (rC .u32 a) u)(hv:bA t 1 (rC .u32 b) v):wC yA F 169 [u,v] t=some (.int .i64 (pN a b)):=by
 refine bD.2 (w169 ?_)
 simp (disch:=omega) only[uI,uZ,uW,t169,pA,hu.len,hv.len,sA,yC,uJ,jF,qQ,iC]
 unfold pN;by_cases hl:a.length=b.length
 ·rw[yaa (by omega),yaa (by omega)]
  have:=zdb hu hv hl a.length (ybk _) ha
  grind
 grind
def zQ(neg:Bool)(l:List Nat):Bool:=if l=[]then !neg else decide (l.length<=1024)&&decide (l.getLast?≠some 0)
theorem Gi   (hl:l.length<1125899906842624)(hv:bA t 1 (rC .u16 l) v):wC yA F 123 [.agg [.bool neg,v]] t=some (.bool (zQ neg l)):=by
 refine bD.2 (w123 ?_)
 unfold zQ;by_cases h0:l=[]
 ·subst h0
  simp only[uI,uH,oC,uZ,uW,t123,pA,hv.len,sA,yC,uJ,nJ];simp
 ·obtain⟨m,x,rfl⟩:=Qu h0
  have hx:(m++[x])[m.length]?=some x:=by simp
  obtain⟨b,off,g1,g2⟩:=hv.idx iY hx
  have e1:(((m++[x]).length:Nat):Int)-1=(m.length:Int):=by simp
  have hlm:m.length<1125899906842624:=by omega
  simp (disch:=omega) only[uI,uH,oC,uZ,uW,t123,pA,hv.len,sA,yC,uJ,nJ,aK,iC,e1,g1,g2]
  rw[yaa (by omega),yaa h0]
  by_cases h1:(m++[x]).length<=1024
  ·rw[yab (by omega)]
   simp only[h1,decide_true,ycn];by_cases hx0:x=0
   ·grind [Ca]
   ·have:tC (x:Int) 0=false:=by
     grind [gZ]
    simp_all
  grind
theorem JD   (hv:bA t 1 (rC .u16 l) v):wC yA F 158 [.agg [.bool neg,v]] t=some (.bool (!neg&&decide (l=[1]))):=by
 refine bD.2 (w158 ?_)
 cases neg with
 | true=>simp[uI,uH,oC,uZ,t158,pA]
 | false=>
  simp only[uI,uH,oC,uZ,t158,pA,hv.len,sA,yC,uJ,nJ];rw[yab (by rfl)]
  by_cases h1:l.length=1
  ·obtain⟨x,rfl⟩:∃x,l=[x]:=by
    cases l with
    | nil=>simp at h1
    | cons x r=>simp_all
   obtain⟨b,off,g1,g2⟩:=hv.idx iY (i:=0) (x:=x) (by simp)
   simp only[Int.natCast_zero]at g1;rw[yab (by simp)]
   simp only[g1,g2,sA,yC];by_cases hx:x=1
   ·grind [Ca]
   ·have:tC (x:Int) 1=false:=by
     grind [gZ]
    simp_all
  ·rw[yaa (by omega)]
   have:l≠[1]:=by grind
   grind
end Go.Proofs
namespace Go.Am
def qH:List Nat->List Nat
 | []=>[]
 | [a]=>[a]
 | a::b::l=>(a+65536*b)::qH l
theorem eS:∀l:List Nat,(qH l).length=(l.length+1) / 2
 | []=>rfl
 | [a]=>by simp[qH]
 | a::b::l=>by simp[qH,eS l];omega
theorem Tx:∀l:List Nat,val 4294967296 (qH l)=val 65536 l
 | []=>rfl
 | [a]=>by simp[qH,val]
 | a::b::l=>by simp only[qH,val,Tx l];omega
def Nc:∀ {l:List Nat},mB 65536 l->mB 4294967296 (qH l)
 | [],_=>fun x hx=>(by cases hx)
 | [a],h=>fun x hx=>by
  have:=h a (by simp)
  grind [qH]
 | a::b::l,h=>fun x hx=>by
  have h1:=h a (by simp)
  have h2:=h b (by simp)
  rcases ybs.1 hx with rfl | hx
  ·omega
  ·exact Nc (l:=l) (fun y hy=>h y (by simp[hy])) x hx
def Lg:∀ {l:List Nat},norm l->norm (qH l)
 | [],_=>fun h=>(h rfl).elim
 | [a],h=>by
  grind [qH]
 | [a,b],h=>by
  intro _;have:=h (by simp)
  grind [qH]
 | a::b::c::l,h=>by
  intro _;have hn:norm (c::l):=by
   intro hne;have:=h (by simp)
   simp_all
  have hne:qH (c::l)≠[]:=by
   grind [eS]
  have:=Lg (l:=c::l) hn hne
  grind [qH]
def Xf:∀(l:List Nat) (x:Nat),l.length%2=0->qH (l++[x])=qH l++[x]
 | [],x,_=>rfl
 | [a],x,h=>by simp at h
 | a::b::l,x,h=>by
  show(a+65536*b)::qH (l++[x])=(a+65536*b)::(qH l++[x])
  rw[Xf l x (by grind)]
theorem FT:∀(l:List Nat) (a x:Nat),l.length%2=0->qH (l++[a,x])=qH l++[a+65536*x]
 | [],a,x,_=>rfl
 | [b],a,x,h=>by simp at h
 | c::b::l,a,x,h=>by
  show(c+65536*b)::qH (l++[a,x])=(c+65536*b)::(qH l++[a+65536*x])
  rw[FT l a x (by grind)]
def mH:List Nat->List Nat
 | []=>[]
 | w::l=>w%65536::w / 65536::mH l
theorem Jv:∀l:List Nat,(mH l).length=2*l.length
 | []=>rfl
 | w::l=>by simp[mH,Jv l];omega
def Ny:∀l:List Nat,val 65536 (mH l)=val 4294967296 l
 | []=>rfl
 | w::l=>by
  simp only[mH,val,Ny l];omega
def Tf:∀ {l:List Nat},mB 4294967296 l->mB 65536 (mH l)
 | [],_=>fun x hx=>(by cases hx)
 | w::l,h=>fun x hx=>by
  have h1:=h w (by simp)
  rcases ybs.1 hx with rfl | hx
  ·omega
  ·rcases ybs.1 hx with rfl | hx
   ·omega
   ·exact Tf (l:=l) (fun y hy=>h y (by simp[hy])) x hx
theorem Jw:∀(l:List Nat) (w:Nat),mH (l++[w])=mH l++[w%65536,w / 65536]
 | [],w=>rfl
 | a::l,w=>by simp[mH,Jw l w]
theorem DI{l:List Nat}{w:Nat}(hw:w≠0):eE (mH (l++[w]))=if w / 65536=0 then mH l++[w%65536]else mH (l++[w]):=by
 rw[Jw];split
 ·rename_i h
  rw[h,show mH l++[w%65536,0]=(mH l++[w%65536])++[0] by simp,Vs]
  refine Kc fun _=>?_
  grind
 ·rename_i h
  refine Kc fun _=>?_
  grind
end Go.Am
namespace Go.Proofs
open Go Go.Am
variable {l:List Nat}{v:zA}{Q:sB}
variable [eC]
variable {t:Tr vA}
theorem set_append_right{m:List Nat}{i x:Nat}(h:l.length=i):(l++m).set i x=l++m.set 0 x:=by
 simp_all
theorem SQ  {b:Nat} (hv:bA t 1 (rC .u16 l) v)(hl:l.length<1000000)(hlt:mB 65536 l)(hbase:yA.base<=b)(hb:t.get b=none)
  (hQ:∀t' v',aA t t'->bA t' 1 (rC .u32 (qH l)) v'->Q v' t'):∀(k i:Nat) (t':Tr vA),i+k=l.length->aA t t'->rG t' b .u32 (qH (l.take i)++List.replicate ((l.length+1) / 2-(i+1) / 2) 0) →
  jp 164 2 [.slice b 0 ((l.length+1) / 2) ((l.length+1) / 2),v,.int .i64 l.length,.int .i64 i] t' Q:=by
 intro k;induction k with
 | zero=>
  intro i t' hi ht ho;refine zfb ?_
  simp only[uL,uH,tD,uZ,uW,Vh,pA,jF];rw[yaa (by omega)]
  rw[yca (by omega),show(l.length+1) / 2-(i+1) / 2=0 by omega,List.replicate_zero,ycd]at ho
  refine hQ _ _ ht ?_
  have:=ho.all (ybk _)
  grind [eS]
 | succ k ih=>
  intro i t' hi ht ho;obtain⟨x,hx⟩:=getElem?_of_lt (l:=l) (i:=i) (by omega)
  have hxlt:x<65536:=xL hlt hx
  obtain⟨c,off,g1,g2⟩:=(hv.mono ht).idx iY hx
  have htake:l.take (i+1)=l.take i++[x]:=by grind [List.take_add_one]
  have hlen:(l.take i).length=i:=by grind
  obtain⟨y,hy,hnew⟩:∃y,(qH (l.take i)++List.replicate ((l.length+1) / 2-(i+1) / 2) 0)[i / 2]?=some y/\y<4294967296/\Nat.lor y (x*2^(16*(i%2)))<4294967296 ∧
    (qH (l.take i)++List.replicate ((l.length+1) / 2-(i+1) / 2) 0).set (i / 2) (Nat.lor y (x*2^(16*(i%2))))=qH (l.take (i+1))++List.replicate ((l.length+1) / 2-(i+1+1) / 2) 0:=by
   rcases Nat.mod_two_eq_zero_or_one i with he | ho1
   ·have hp:(qH (l.take i)).length=i / 2:=by grind [eS]
    refine⟨0,?_,by decide,?_,?_⟩
    ·rw[ybp (by omega),hp,Nat.sub_self,List.getElem?_replicate,yab (by omega)]
    ·rw[he];simp;omega
    ·rw[set_append_right hp,he,htake,Xf _ _ (by omega)]
     have:Nat.lor 0 (x*2^(16*0))=x:=by simp_all
     rw[this];obtain⟨r,hr⟩:∃r,(l.length+1) / 2-(i+1) / 2=r+1:=⟨(l.length+1) / 2-(i+1) / 2-1,by omega⟩
     rw[hr,List.replicate_succ,List.set_cons_zero,show(l.length+1) / 2-(i+1+1) / 2=r by omega]
     simp
   ·obtain⟨p,a,hpa⟩:=Qu (l:=l.take i) (by grind)
    have hpl:p.length=i-1:=by grind
    have hpe:p.length%2=0:=by omega
    have ha:a<65536:=hlt a (List.mem_of_mem_take (by simp_all:a∈l.take i))
    have hp:(qH p).length=i / 2:=by grind [eS]
    rw[hpa,Xf _ _ hpe];have hlor:Nat.lor a (x*2^(16*1))=a+65536*x:=by
     show a ||| x*2^(16*1)=_
     rw[Nat.or_comm];have:=Dr (a:=x) (b:=a) (n:=16) (by omega)
     show Nat.lor (x*2^16) a=_
     omega
    refine⟨a,?_,by omega,?_,?_⟩
    all_goals grind [set_append_right,FT]
  obtain⟨hy1,hy2,hy3⟩:=hnew
  have hwlen:(qH (l.take i)++List.replicate ((l.length+1) / 2-(i+1) / 2) 0).length=(l.length+1) / 2:=by
   grind [eS]
  have g3:xC yA 189 (.slice b 0 ((l.length+1) / 2) ((l.length+1) / 2)) (.int .i64 ((i / 2:Nat):Int))=some (.ptr b (0+i / 2*1)):=Aw dG (by omega)
  rw[show 0+i / 2*1=i / 2 by omega]at g3;have g4:=ho.load hy dH rfl
  obtain⟨t2,g5,g6,g7⟩:=ho.store (C:=yA) hbase (j:=i / 2) (by omega) (Nat.lor y (x*2^(16*(i%2)))) dH rfl
  rw[hy3]at g6;refine zfb ?_
  have e1:Int.tdiv (i:Int) 2=((i / 2:Nat):Int):=by simp_all
  have e2:Int.tmod (i:Int) 2=((i%2:Nat):Int):=by grind
  have hm:=ycy i (show 0<2 by decide)
  simp (disch:=omega) only[uL,uH,tD,uZ,uW,Vh,pA,jF,g1,g2,sA,yC,iC,iT,e1,e2,g3,g4]
  rw[yab (by omega)]
  have e3:sW .u32 (x:Int) (16*((i%2:Nat):Int))=some (.int .u32 ((x*2^(16*(i%2)):Nat):Int)):=by
   rcases Nat.mod_two_eq_zero_or_one i with h | h<;>rw[h]
   ·simp[sW,Dt,vN]
    rw[iT (by omega) (by omega)]
   ·have:sW .u32 (x:Int) (16*((1:Nat):Int))=some (.int .u32 (cA .u32 ((x:Int)*65536))):=rfl
    grind [iT]
  rw[e3];have hb2:x*2^(16*(i%2))<4294967296:=by
   rcases Nat.mod_two_eq_zero_or_one i with h | h<;>rw[h]<;>omega
  simp only[sA,yC];rw[mU (show y<cG .u32 from hy1) (show x*2^(16*(i%2))<cG .u32 from hb2)]
  simp only[sA,yC];intro d _ _;rw[g5];simp only[sA];have:=ih (i+1) t2 (by omega) (ht.off hb g7) g6
  simp_all
theorem Pv   (hv:bA t 1 (rC .u16 l) v)(hl:l.length<1000000)(hlt:mB 65536 l)
  (hQ:∀t' v',aA t t'->bA t' 1 (rC .u32 (qH l)) v'->Q v' t'):Wc yA F 164 [v] t Q:=by
 refine w164 ?_
 have e1:Int.tdiv ((l.length:Int)+1) 2=(((l.length+1) / 2:Nat):Int):=by grind
 simp (disch:=omega) only[uI,uZ,uW,t164,pA,hv.len,sA,yC,uJ,iC,e1]
 intro b hb hbase;obtain⟨t',g1,g2,g3,_⟩:=En (C:=yA) (k:=.u32) mM rfl dH rfl rfl (by decide) (n:=(l.length+1) / 2) (by omega) hb
 rw[g1];simp only[sA];exact SQ hv hl hlt hbase hb hQ l.length 0 t' (by omega) g3 (by grind [qH])
end Go.Proofs
namespace Go.Proofs
open Go Go.Am
variable {n s x y:Nat}
variable [eC]
variable {t:Tr vA}
theorem zgp (h:n<4294967296):n / 2147483648=if n.testBit 31 then 1 else 0:=by
 grind
theorem Uf (h:n<4294967296):n.testBit 31=decide (2147483648<=n):=by
 grind
theorem BW (h:x<4294967296):Dh (.int .u32 (x:Int))=some (.int .u32 (Nat.xor 4294967295 x:Nat)):=by
 grind [Dh,zA.asIntK,qA,Nat.beq,kLo,yE,mU,cG]
theorem zbd{b:Nat}(hx:x<4294967296)(hy:y<4294967296)(hb:b<2) :
  wC yA F 179 [.int .u32 x,.int .u32 y,.int .u32 b] t=some (.tup [.int .u32 (((x+8589934592-y-b)%4294967296:Nat):Int),.int .u32 (((if x<y+b then 1 else 0):Nat):Int)]):=by
 refine bD.2 (w179 ?_)
 obtain⟨d,hd⟩:∃d,d=(x+8589934592-y-b)%4294967296:=⟨_,rfl⟩
 have hdl:d<4294967296:=by omega
 have e1:cA .u32 (cA .u32 ((x:Int)-y)-b)=(d:Int):=by
  grind [jT]
 have hn1:Nat.xor 4294967295 x<4294967296:=Nat.xor_lt_two_pow (n:=32) (by decide) hx
 have hn2:Nat.xor x y<4294967296:=Nat.xor_lt_two_pow (n:=32) hx hy
 have hn3:Nat.xor 4294967295 (Nat.xor x y)<4294967296:=Nat.xor_lt_two_pow (n:=32) (by decide) hn2
 have hn4:Nat.land (Nat.xor 4294967295 x) y<4294967296:=yam Nat.and_le_left hn1
 have hn5:Nat.land (Nat.xor 4294967295 (Nat.xor x y)) d<4294967296:=yam Nat.and_le_left hn3
 have hn6:Nat.lor (Nat.land (Nat.xor 4294967295 x) y) (Nat.land (Nat.xor 4294967295 (Nat.xor x y)) d)<4294967296:=Nat.or_lt_two_pow (n:=32) hn4 hn5
 simp only[uL,t179,pA,e1];rw[BW hx];simp only[sA,yC];rw[JQ,mU (k:=.u32) hn1 hy]
 simp only[sA,yC];rw[mU (k:=.u32) hx hy]
 simp only[sA,yC];rw[BW hn2];simp only[sA,yC];rw[JQ,mU (k:=.u32) hn3 hdl]
 simp only[sA,yC];rw[mU (k:=.u32) hn4 hn5]
 simp only[sA,yC];have e2:Int.fdiv ((Nat.lor (Nat.land (Nat.xor 4294967295 x) y) (Nat.land (Nat.xor 4294967295 (Nat.xor x y)) d):Nat):Int) 2147483648=(((if x<y+b then 1 else 0):Nat):Int):=by
  rw[show(2147483648:Int)=((2147483648:Nat):Int) from rfl,Cf,zgp hn6]
  congr 1
  have tb:(Nat.lor (Nat.land (Nat.xor 4294967295 x) y) (Nat.land (Nat.xor 4294967295 (Nat.xor x y)) d)).testBit 31=decide (x<y+b):=by
   show((4294967295 ^^^ x) &&& y ||| (4294967295 ^^^ (x ^^^ y)) &&& d).testBit 31=_
   rw[Nat.testBit_or,Nat.testBit_and,Nat.testBit_and,Nat.testBit_xor,Nat.testBit_xor,Nat.testBit_xor,Uf hx,Uf hy,Uf hdl];have:(4294967295:Nat).testBit 31=true:=by decide
   rw[this];by_cases c1:2147483648<=x<;>by_cases c2:2147483648<=y<;>by_cases c3:2147483648<=d<;>by_cases c4:x<y+b<;>simp only[c1,c2,c3,c4,decide_true,decide_false,Bool.xor_true,Bool.xor_false,Bool.true_xor,Bool.false_xor,Bool.not_true,ycl,Bool.and_true,yay,Bool.or_true,Bool.or_false,Bool.xor_self]<;>omega
  simp_all
 simp_all
theorem zdm{c:Nat}(hx:x<4294967296)(hy:y<4294967296)(hc:c<2) :
  wC yA F 186 [.int .u32 x,.int .u32 y,.int .u32 c] t=some (.tup [.int .u32 (((x+y+c)%4294967296:Nat):Int),.int .u32 (((x+y+c) / 4294967296:Nat):Int)]):=by
 refine bD.2 (w186 ?_)
 have e0:((x:Int)+y)+c=((x+y+c:Nat):Int):=by omega
 simp (disch:=omega) only[t186,pA,eF]
 grind [jT]
theorem zcz{h l d:Nat}(hh:h<d)(hl:l<4294967296)(hd:d<4294967296) :
  wC yA F 184 [.int .u32 h,.int .u32 l,.int .u32 d] t=some (.tup [.int .u32 (((h*4294967296+l) / d:Nat):Int),.int .u32 (((h*4294967296+l)%d:Nat):Int)]):=by
 refine bD.2 (w184 ?_)
 simp only[t184,pA,qQ,aK];rw[yab (by omega),yaa (by omega)]
 refine j184_7 ?_
 have e1:(h:Int)*4294967296=((h*4294967296:Nat):Int):=by omega
 have hq:(h*4294967296+l) / d<4294967296:=ycu (by
  omega)
 have hr:(h*4294967296+l)%d<d:=ycy _ (by omega)
 simp (disch:=omega) only[uE,zd9,pA,eF,e1]
 have e2:kI Nat.lor .u64 ((h*4294967296:Nat):Int) (l:Int)=some (.int .u64 ((h*4294967296+l:Nat):Int)):=by
  rw[mU (k:=.u64) (show h*4294967296<cG .u64 by show _<18446744073709551616;omega) (show l<cG .u64 by show _<18446744073709551616;omega)]
  have:=Dr (a:=h) (b:=l) (n:=32) hl
  rw[show h*4294967296=h*2^32 by rfl,this]
 rw[e2];simp only[sA,yC];rw[Ze (k:=.u64) (by omega) (by
  grind [eF]),Rm (k:=.u64) (by omega)]
 grind [sA,yC,iT]
theorem zce(v:Nat)(hv:v<256):∃k,k<9/\sD [0,1,2,2,3,3,3,3,4,4,4,4,4,4,4,4,5,5,5,5,5,5,5,5,5,5,5,5,5,5,5,5,6,6,6,6,6,6,6,6,6,6,6,6,6,6,6,6,6,6,6,6,6,6,6,6,6,6,6,6,6,6,6,6,7,7,7,7,7,7,7,7,7,7,7,7,7,7,7,7,7,7,7,7,7,7,7,7,7,7,7,7,7,7,7,7,7,7,7,7,7,7,7,7,7,7,7,7,7,7,7,7,7,7,7,7,7,7,7,7,7,7,7,7,7,7,7,7,8,8,8,8,8,8,8,8,8,8,8,8,8,8,8,8,8,8,8,8,8,8,8,8,8,8,8,8,8,8,8,8,8,8,8,8,8,8,8,8,8,8,8,8,8,8,8,8,8,8,8,8,8,8,8,8,8,8,8,8,8,8,8,8,8,8,8,8,8,8,8,8,8,8,8,8,8,8,8,8,8,8,8,8,8,8,8,8,8,8,8,8,8,8,8,8,8,8,8,8,8,8,8,8,8,8,8,8,8,8,8,8,8,8,8,8,8,8,8,8,8,8,8,8,8,8,8,8] v=some k/\(v=0/\k=0\/0<k/\2^(k-1)<=v/\v<2^k):=by
 have h:∀v:Fin 256,(sD [0,1,2,2,3,3,3,3,4,4,4,4,4,4,4,4,5,5,5,5,5,5,5,5,5,5,5,5,5,5,5,5,6,6,6,6,6,6,6,6,6,6,6,6,6,6,6,6,6,6,6,6,6,6,6,6,6,6,6,6,6,6,6,6,7,7,7,7,7,7,7,7,7,7,7,7,7,7,7,7,7,7,7,7,7,7,7,7,7,7,7,7,7,7,7,7,7,7,7,7,7,7,7,7,7,7,7,7,7,7,7,7,7,7,7,7,7,7,7,7,7,7,7,7,7,7,7,7,8,8,8,8,8,8,8,8,8,8,8,8,8,8,8,8,8,8,8,8,8,8,8,8,8,8,8,8,8,8,8,8,8,8,8,8,8,8,8,8,8,8,8,8,8,8,8,8,8,8,8,8,8,8,8,8,8,8,8,8,8,8,8,8,8,8,8,8,8,8,8,8,8,8,8,8,8,8,8,8,8,8,8,8,8,8,8,8,8,8,8,8,8,8,8,8,8,8,8,8,8,8,8,8,8,8,8,8,8,8,8,8,8,8,8,8,8,8,8,8,8,8,8,8,8,8,8,8] v.val).elim false (fun k=>decide (k<9)&&(decide (v.val=0)&&decide (k=0)||decide (0<k)&&decide (2^(k-1)<=v.val)&&decide (v.val<2^k)))=true:=by decide +kernel
 have hv:=h ⟨v,hv⟩
 simp only[]at hv;generalize sD _ v=r at hv ⊢
 cases r with
 | none=>simp at hv
 | some k=>
  grind
def BL (x k:Nat):Prop:=x=0/\k=0\/0<k/\2^(k-1)<=x/\x<2^k
theorem HH (hx:x<256)(hs:s<100):∃k,k<=8/\BL x k/\jp 185 15 [.int .u32 x,.int .i64 s] t (fun v m=>v=.int .i64 ((s+k:Nat):Int)/\m=t):=by
 obtain⟨k,hk,h1,h2⟩:=zce x hx
 refine⟨k,by omega,h2,zif ?_⟩
 simp (disch:=omega) only[uU,uZ,uY,uW,CS,pA,Nv]
 unfold nI;rw[sP,qA];have:(zA.int .u8 (x:Int)).asNat=some x:=rfl
 rw[this,qA];simp only[zA.asStr];rw[show(lD.desc ⟨.string,1,16,[.str []],true⟩).isString=true from rfl,yE]
 grind [qA,sA,yC,iC]
theorem HG (hx:x<65536)(hs:s<90):∃k,k<=16/\BL x k/\jp 185 9 [.int .u32 x,.int .i64 s] t (fun v m=>v=.int .i64 ((s+k:Nat):Int)/\m=t):=by
 by_cases h:256<=x
 ·obtain⟨k,h1,h2,h3⟩:=HH (t:=t) (x:=x / 256) (s:=s+8) (by omega) (by omega)
  refine⟨k+8,by omega,?_,ze0 ?_⟩
  ·rcases h2 with h2 | ⟨g1,g2,g3⟩
   ·omega
   ·refine .inr ⟨by omega,?_,?_⟩
    ·rw[show k+8-1=(k-1)+8 by omega,Nat.pow_add];omega
    grind
  ·simp (disch:=omega) only[uZ,uW,Ut,pA,aK,iC]
   grind
 ·obtain⟨k,h1,h2,h3⟩:=HH (t:=t) (x:=x) (s:=s) (by omega) (by omega)
  refine⟨k,by omega,h2,ze0 ?_⟩
  simp only[uZ,uW,Ut,pA,aK];grind
theorem zcf (hx:x<4294967296):∃k,k<=32/\BL x k/\wC yA F 185 [.int .u32 x] t=some (.int .i64 (k:Int)):=by
 by_cases h:65536<=x
 ·obtain⟨k,h1,h2,h3⟩:=HG (t:=t) (x:=x / 65536) (s:=16) (by omega) (by omega)
  refine⟨k+16,by omega,?_,bD.2 (w185 ?_)⟩
  ·rcases h2 with h2 | ⟨g1,g2,g3⟩
   ·omega
   ·refine .inr ⟨by omega,?_,?_⟩
    ·rw[show k+16-1=(k-1)+16 by omega,Nat.pow_add];omega
    grind
  ·simp only[uZ,t185,pA,aK]
   grind
 ·obtain⟨k,h1,h2,h3⟩:=HG (t:=t) (x:=x) (s:=0) (by omega) (by omega)
  refine⟨k,by omega,h2,bD.2 (w185 ?_)⟩
  simp only[uZ,t185,pA,aK];grind
theorem GS (hx:x<4294967296)(h0:0<x):∃s:Nat,s<32/\2147483648<=x*2^s/\x*2^s<4294967296/\wC yA F 176 [.int .u32 x] t=some (.int .i64 (s:Int)):=by
 obtain⟨k,h1,h2,h3⟩:=zcf (t:=t) hx
 rcases h2 with h2 | ⟨g1,g2,g3⟩
 ·omega
 ·refine⟨32-k,by omega,?_,?_,bD.2 (w176 ?_)⟩
  ·have:2^(k-1)*2^(32-k)=2147483648:=by rw[<- Nat.pow_add,show k-1+(32-k)=31 by omega]
   rw[<- this];exact ybi _ g2
  ·have:2^k*2^(32-k)=4294967296:=by rw[<- Nat.pow_add,show k+(32-k)=32 by omega]
   rw[<- this];exact Nat.mul_lt_mul_of_pos_right g3 (Nat.pow_pos (Nat.succ_pos 1))
  ·simp (disch:=omega) only[uI,uZ,uW,t176,pA,q185,h3,sA,yC,iC]
   grind
end Go.Proofs
namespace Go.Am
variable {B i x:Nat}{l:List Nat}
theorem Pb{p:List Nat}{n:Nat}:(p++List.replicate (n+1) 0).set p.length x=(p++[x])++List.replicate n 0:=by
 grind
theorem jN(B:Nat)(l:List Nat)(x:Nat):val B (l++[x])=val B l+B^l.length*x:=by rw[Js];simp[val]
def sY   (h:mB B l)(hx:x<B):mB B (l++[x]):=zal h fun y hy=>by simp_all
def QJ {r w d:Nat}(hr:r<d)(hw:w<B):(r*B+w) / d<B:=by
 have hd:0<d:=by omega
 refine ycu ?_
 have:(r+1)*B<=d*B:=ybi B hr
 grind
def xQ  (h:l[i]?=some x):l.take (i+1)=l.take i++[x]:=by rw[ydg,h];rfl
def fQ  (h:l[i]?=some x):l.drop i=x::l.drop (i+1):=by
 have hi:=(ybc.1 h)
 rw[ybl hi.1,hi.2]
end Go.Am
namespace Go.Am
open Go Go.RowKit
variable {el n sz:Nat}{v:zA}{cl:List (List zA)}
section
variable {t:Tr vA}{C:oA}
theorem UD{c:Tr zA}  : ∀(cl:List (List zA)) (off:Nat),(∀(i:Nat) cs,cl[i]?=some cs->cs.length=sz/\∀(j:Nat) a,cs[j]?=some a->c.get (off+i*sz+j)=some a)->c.many (cl.length*sz) off=some cl.flatten:=by
 intro cl;induction cl with
 | nil=>intro off _;simp;rfl
 | cons cs cl ih=>
  intro off h;obtain⟨h1,h2⟩:=h 0 cs (by simp)
  have hrest:=ih (off+sz) fun i cs' hi=>by
   obtain⟨g1,g2⟩:=h (i+1) cs' (by simp_all)
   grind
  have key:∀(n:Nat) (l r:List zA) (off:Nat),l.length=n->(∀(j:Nat) a,l[j]?=some a->c.get (off+j)=some a)->∀m,c.many m (off+n)=some r->c.many (n+m) off=some (l++r):=by
   intro n;induction n with
   | zero=>
    simp_all
   | succ n ihn=>
    intro l r off hl hg m hm
    cases l with
    | nil=>simp at hl
    | cons a l=>
     rw[show n+1+m=(n+m)+1 by omega,Tr.many_succ]
     have:=hg 0 a (by simp)
     rw[yct]at this;rw[this,qA,ihn l r (off+1) (by simp_all) (fun j b hj=>by
      have:=hg (j+1) b (by simp_all)
      grind) m (by grind)]
     rfl
  grind [Nat.add_mul]
theorem sM.first   (h:sM t sz v cl)  : zY ⟨n,t⟩ sz cl.length v=some cl.flatten/\Er v=some cl.length:=by
 rcases h with⟨rfl,rfl⟩ | ⟨b,off,cap,rfl,_,⟨c,m,lo,h1,_⟩,h2⟩
 ·exact⟨rfl,rfl⟩
 ·refine⟨?_,rfl⟩
  unfold zY;simp only[zA.asSlice];unfold qE;rw[h1,qA];simp only[vA.asCells,qA];refine UD cl off fun i cs hi=>?_
  obtain⟨g1,c',m',lo',g2,g3⟩:=h2 i cs hi
  simp_all
theorem aX  : ∀ {cl:List (List zA)},(∀(i:Nat) cs,cl[i]?=some cs->cs.length=sz)->cl.flatten.length=cl.length*sz:=by
 intro cl;induction cl with
 | nil=>grind
 | cons c cl ih=>
  intro h;rw[yas,ybg,ybn,ybo,ih fun i cs hi=>h (i+1) cs (by simp_all),h 0 c (by simp)]
  omega
theorem kU  : ∀ {cl:List (List zA)},(∀(i:Nat) cs,cl[i]?=some cs->cs.length=sz)->∀(i j:Nat) cs a,cl[i]?=some cs->cs[j]?=some a->cl.flatten[i*sz+j]?=some a:=by
 intro cl;induction cl with
 | nil=>simp_all
 | cons c cl ih=>
  intro h i j cs a hi hj;have hc:=h 0 c (by simp)
  rw[yas]
  cases i with
  | zero=>
   grind
  | succ i=>
   rw[ybp (by grind),hc,show(i+1)*sz+j-sz=i*sz+j by grind]
   exact ih (fun i cs hi=>h (i+1) cs (by simp_all)) i j cs a (by simp_all) hj
theorem sM.len   (h:sM t sz v cl):∀(i:Nat) cs,cl[i]?=some cs->cs.length=sz:=by
 rcases h with⟨rfl,rfl⟩ | ⟨b,off,cap,rfl,_,_,h2⟩
 all_goals grind
theorem Se  {t':Tr vA}{lo:Option Lo}(hl:∀(i:Nat) cs,cl[i]?=some cs->cs.length=sz)(h:t'.get n=some (.cells (Tr.ofList cl.flatten) (zB cl.flatten) lo))(hlo:lo=none\/∃x,lo=some x/\x.es=sz):sM t' sz (.slice n 0 cl.length cl.length) cl:=
 .inr ⟨n,0,cl.length,rfl,ybk _,⟨_,_,_,h,hlo⟩,fun i cs hi=>⟨hl i cs hi,_,_,_,h,fun j a hj=>by
  grind [Tr.get_ofList,kU]⟩⟩
def NB (C:oA)(el:Nat):Prop:=∀y,C.tys.get el=some y->JH y=false
def NB.code {z:lD}(h:NB C el)(hz:C.tys.get el=some z):dM el z=.sz z.size:=by
 unfold dM;rw[h z hz,yay];rfl
structure Tl (C:oA) (T el sz:Nat):Prop where
 ty:∃y,C.tys.get T=some y/\y.desc.asSlice=some el/\Nat.beq y.desc.tag 1=false
 el:∃y,C.tys.get el=some y/\y.size=sz/\zB y.zero=sz/\y.bytes<=500/\0<sz
structure eJ (C:oA) (T e sz:Nat):Prop where
 ty:∃y,C.tys.get T=some y/\y.desc.asSlice=some e/\Nat.beq y.desc.tag 1=false
 el:∃y,C.tys.get e=some y/\y.size=sz/\zB y.zero=sz/\y.bytes<=500/\0<sz
 nb:NB C e
theorem NH{T:Nat}(hT:eJ C T el sz){l:List D}{x s:zA}(hx:bA t sz l x)(hl:l.length<1000000) (hn:t.get n=none)
  (hs:s=.nilslice\/∃b c m,s=.slice b 0 0 0/\t.get b=some (.cells c m none)) :
  ∃v H',gE C T T s x ⟨n,t⟩=some (v,H')/\bA H'.t sz l v/\aA t H'.t/\fF n t H'.t:=by
 obtain⟨⟨y,hy1,hy2,hy3⟩,⟨z,hz1,hz2,hz3,hz4,hz5⟩,hnb⟩:=hT
 have hcode:=NB.code hnb hz1
 obtain⟨cl,he,hd⟩:=hx
 have hcl:=hd.length
 obtain⟨hf,hlen⟩:=he.first (n:=n)
 have hall:=he.len
 have base:gE C T T s x ⟨n,t⟩=(match s.asSlice with
  | some s=>bif Nat.ble (s.2.2.1+cl.length) s.2.2.2 then rW C ⟨n,t⟩ z cl.length cl.flatten s else qW C ⟨n,t⟩ el z cl.length cl.flatten s
  | none=>xB (Nat.beq s.tag 5) (gQ ⟨n,t⟩ el z cl.length cl.flatten)):=by
  unfold gE sS;grind [qA,yE]
 have hfl:zB cl.flatten=cl.length*sz:=by grind [oD,aX]
 have ok:aR z 0 0 cl.length cl.flatten=true:=by
  unfold aR;have h1:Nat.blt (0+cl.length+0) 1000000000=true:=qC.2 (by omega)
  have h2:Nat.blt ((0+cl.length+0)*z.bytes) 1000000000=true:=qC.2 (by
   have:=ydb (show 0+cl.length+0<=1000000 by omega) hz4
   omega)
  grind [qC,mC]
 have newT:∀(q:vA),aA t (t.set n q)/\fF n t (t.set n q):=fun q=>⟨fun c u hc=>by
   grind [Tr.get_set],fun c hc=>by rw[Tr.get_set,yaa hc]⟩
 rcases hs with rfl | ⟨b,c,m,rfl,hb⟩
 ·by_cases h0:cl.length=0
  ·have:cl=[]:=ycc.1 h0
   subst this;refine⟨.nilslice,⟨n,t⟩,?_,⟨[],.inl ⟨rfl,rfl⟩,hd⟩,aA.refl _,fF.refl _ _⟩
   rw[base];rfl
  ·refine⟨.slice n 0 cl.length cl.length,⟨n+1,t.set n (.cells (Tr.ofList cl.flatten) (zB cl.flatten) (some (dM el z)))⟩,?_,⟨cl,Se hall (show(t.set n _).get n=_ by rw[Tr.get_set,yab rfl]) (.inr ⟨_,rfl,by rw[Fl,hz2]⟩),wD.mono (newT _).1 _ _ hd⟩,(newT _).1,(newT _).2⟩
   rw[base];simp only[zA.asSlice];show xB true (gQ ⟨n,t⟩ el z cl.length cl.flatten)=_
   rw[yE];unfold gQ;have:Nat.beq cl.length 0=false:=by
    grind [mC]
   rw[this,cond_false,ok];rfl
 ·by_cases h0:cl.length=0
  ·have:cl=[]:=ycc.1 h0
   subst this;refine⟨.slice b 0 0 0,⟨n,t⟩,?_,⟨[],.inr ⟨b,0,0,rfl,ybk _,⟨c,m,none,hb,.inl rfl⟩,fun i cs hi=>by simp at hi⟩,hd⟩,aA.refl _,fF.refl _ _⟩
   rw[base];rfl
  ·refine⟨.slice n 0 cl.length cl.length,⟨n+1,t.set n (.cells (Tr.ofList cl.flatten) (zB cl.flatten) (some (dM el z)))⟩,?_,⟨cl,Se hall (show(t.set n _).get n=_ by rw[Tr.get_set,yab rfl]) (.inr ⟨_,rfl,by rw[Fl,hz2]⟩),wD.mono (newT _).1 _ _ hd⟩,(newT _).1,(newT _).2⟩
   rw[base];simp only[zA.asSlice];have:Nat.ble (0+cl.length) 0=false:=by
    grind [oE]
   rw[this,cond_false];unfold qW;simp only[];rw[show ∀x,(!(Nat.beq 0 1&&x))=true from fun _=>rfl,yE,ok,yE]
   unfold qE;rw[hb,qA];simp only[vA.asCells,qA];unfold Ht;simp only[Nat.zero_mul];show ob (c.many 0 0) _=_
   rw[show c.many 0 0=some [] from rfl,qA];rw[iG,yah,ybw];rfl
end
end Go.Am
namespace Go.Proofs
open Go Go.Am
variable {b el n:Nat}{y z:lD}{l:List Nat}{v:zA}{Q:sB}{k:IntKind}{neg:Bool}
variable [eC]
variable {t:Tr vA}
def el259:eJ yA 189 56 1:=⟨⟨_,mM,rfl,rfl⟩,⟨_,dH,rfl,rfl,by decide,by decide⟩,fun y h=>by rw[dH]at h;cases h;rfl⟩
theorem lit0{T:Nat} (hT:yA.tys.get T=some y)(hel:y.desc.asSlice=some el)(hz:yA.tys.get el=some z)(hs:zB z.zero=z.size) (hb:t.get b=none) :
  ∃H',cC yA T 0 [] ⟨b,t⟩=some (.slice b 0 0 0,H')/\(∃c,H'.t.get b=some (.cells c 0 none))/\aA t H'.t:=by
 refine⟨yG ⟨b,t⟩ [] none,?_,⟨Tr.ofList [],?_⟩,?_⟩
 ·unfold cC
  rw[hT,qA,hel,qA,hz,qA];have:(Nat.blt (0*z.size) 1000000&&Nat.beq (zB z.zero) z.size)=true:=by simp_all
  rw[this];rfl
 ·show(t.set b _).get b=_
  rw[Tr.get_set,yab rfl];rfl
 ·intro c u hc
  show(t.set b _).get c=_
  grind [Tr.get_set]
theorem zdd   (hv:bA t 1 (rC .u32 l) v)(hl:l.length<1000000)
  (hQ:∀t' v',aA t t'->bA t' 1 (rC .u32 l) v'->Q v' t'):Wc yA F 174 [v] t Q:=by
 refine w174 ?_
 have e:(gP .eql).f yA 189 (.tmp 3) (.const (.slice none 0 0)) v .nilslice=some (.bool (Nat.beq v.tag 5)):=by
  obtain⟨cl,h1,_⟩:=hv
  rcases h1 with⟨rfl,_⟩ | ⟨b,off,cap,rfl,_⟩
  ·kernel_rfl
  ·kernel_rfl
 simp only[uB,t174,pA,e,sA,Cn];split
 ·grind [uV,mC,aA.refl]
 ·intro b hb hbase
  obtain⟨H1,g1,⟨c,g2⟩,g3⟩:=lit0 (t:=t) mM rfl dH rfl hb
  rw[g1];simp only[sA];intro n hn _;obtain⟨u,H',g4,g5,g6,_⟩:=NH el259 (hv.mono g3) (by grind [uJ]) hn (.inr ⟨b,c,0,rfl,g2⟩)
  rw[g4];simp only[sA];exact hQ _ _ (g3.trans g6) g5
def Ki(n:Nat):List Nat:=eE [n%4294967296,n / 4294967296]
theorem NW(n:Nat):val 4294967296 (Ki n)=n:=by grind [Ki,wV,val]
theorem ZU (h:n<18446744073709551616):mB 4294967296 (Ki n):=mT fun x hx=>by
 grind
theorem TN(n:Nat):norm (Ki n):=mV _
theorem zh3{T:Nat}  (hT:yA.tys.get T=some y)(hel:y.desc.asSlice=some el)(hz:yA.tys.get el=some z)(hzero:z.zero=[.int k 0])(hs:z.size=1)(x:Nat)(hk:True) (hb:t.get b=none) :
  ∃H',cC yA T 1 [(0,.int k (x:Int))] ⟨b,t⟩=some (.slice b 0 1 1,H')/\rG H'.t b k [x]/\aA t H'.t:=by
 refine⟨yG ⟨b,t⟩ [.int k (x:Int)] none,?_,⟨Tr.ofList [.int k (x:Int)],?_,fun j u hj=>?_⟩,?_⟩
 ·unfold cC
  rw[hT,qA,hel,qA,hz,qA,hs,hzero];rfl
 ·show(t.set b _).get b=_
  rw[Tr.get_set,yab rfl];rfl
 ·grind [Tr.get_ofList]
 ·intro c u hc
  show(t.set b _).get c=_
  grind [Tr.get_set]
theorem zb9{T:Nat}  (hT:yA.tys.get T=some y)(hel:y.desc.asSlice=some el)(hz:yA.tys.get el=some z)(hzero:z.zero=[.int k 0])(hs:z.size=1)(x x':Nat) (hb:t.get b=none) :
  ∃H',cC yA T 2 [(0,.int k (x:Int)),(1,.int k (x':Int))] ⟨b,t⟩=some (.slice b 0 2 2,H')/\rG H'.t b k [x,x']/\aA t H'.t:=by
 refine⟨yG ⟨b,t⟩ [.int k (x:Int),.int k (x':Int)] none,?_,⟨Tr.ofList [.int k (x:Int),.int k (x':Int)],?_,fun j u hj=>?_⟩,?_⟩
 ·unfold cC
  rw[hT,qA,hel,qA,hz,qA,hs,hzero];rfl
 ·show(t.set b _).get b=_
  rw[Tr.get_set,yab rfl];rfl
 ·grind [Tr.get_ofList]
 ·intro c u hc
  show(t.set b _).get c=_
  grind [Tr.get_set]
theorem zbl  (hn:n<18446744073709551616)(hQ:∀t' v',aA t t'->bA t' 1 (rC .u32 (Ki n)) v'->Q v' t'):Wc yA F 173 [.int .u64 n] t Q:=by
 refine w173 ?_
 have e1:cA .u32 (n:Int)=((n%4294967296:Nat):Int):=by rw[jT];omega
 have e2:cA .u32 (Int.fdiv (n:Int) 4294967296)=((n / 4294967296:Nat):Int):=by
  rw[show Int.fdiv (n:Int) 4294967296=((n / 4294967296:Nat):Int) from Cf _ 4294967296,iT (by omega) (by omega)]
 simp only[t173,pA,e1,e2];intro b hb _;obtain⟨H',g1,g2,g3⟩:=zb9 (t:=t) (k:=.u32) mM rfl dH rfl rfl (n%4294967296) (n / 4294967296) hb
 rw[g1];simp only[sA];obtain⟨v',h1,h2⟩:=Bb (l:=[n%4294967296,n / 4294967296]) (by simp) (g2.all (ybk _))
 simp only[Eb];have h1:wC yA F 140 [.slice b 0 2 2] H'.t=some v':=h1
 rw[h1];exact hQ _ _ g3 h2
theorem OP     (hv:bA t 1 (rC .u32 l) v)(hl:l.length<400000)(hlt:mB 4294967296 l)(hne:l≠[])(hnorm:norm l)(hbase:yA.base<=b)(hb:t.get b=none)
  (hQ:∀t' v',aA t t'->bA t' 1 (rC .u16 (eE (mH l))) v'->Q (.agg [.bool neg,v']) t'):∀(k i:Nat) (t':Tr vA),i+k=l.length->aA t t'->rG t' b .u16 (mH (l.take i)++List.replicate (2*k) 0) →
  jp 141 2 [.bool neg,.slice b 0 (2*l.length) (2*l.length),v,.int .i64 l.length,.int .i64 i,.bool false,.nilslice] t' Q:=by
 intro k;induction k with
 | zero=>
  intro i t' hi ht ho;refine zfe ?_
  rw[yca (by omega),yat,List.replicate_zero,ycd]at ho
  obtain⟨m,w,rfl⟩:=Qu hne
  have hw:w≠0:=by have:=hnorm (by simp);simp_all
  have hwlt:w<4294967296:=hlt w (by simp)
  have hul:(mH (m++[w])).length=2*(m++[w]).length:=Jv _
  have hml:(m++[w]).length=m.length+1:=by simp
  have hlast:(mH (m++[w]))[2*m.length+1]?=some (w / 65536):=by
   grind [Jw]
  have hread:=ho.all (cap:=2*(m++[w]).length) (by omega)
  rw[hul]at hread;have g3:xC yA 41 (.slice b 0 (2*(m++[w]).length) (2*(m++[w]).length)) (.int .i64 ((2*m.length+1:Nat):Int))=some (.ptr b (0+(2*m.length+1)*1)):=Aw iY (by omega)
  rw[show 0+(2*m.length+1)*1=2*m.length+1 by omega]at g3
  have g4:=ho.load hlast Az rfl
  have e1:((2*(m++[w]).length:Nat):Int)-1=((2*m.length+1:Nat):Int):=by omega
  have hlen:pC (.slice b 0 (2*(m++[w]).length) (2*(m++[w]).length))=some (.int .i64 ((2*(m++[w]).length:Nat):Int)):=rfl
  have hb2:2*m.length+1<1000000:=by omega
  simp (disch:=omega) only[uI,uL,uH,gC,tD,uZ,uW,Vk,pA,jF,hlen,sA,yC,e1,iC,g3,g4,nJ]
  rw[yaa (by omega)]
  by_cases hz:w / 65536=0
  ·rw[yab (by omega)]
   obtain⟨u,g5,g6⟩:=zH.front iY hread (k:=2*m.length+1) (by grind [uJ])
   rw[g5];simp only[sA];have hone:fB zA.one [.bool neg,u]=true:=by
    show(bif zA.one (.bool neg)then(bif zA.one u then true else false)else false)=true
    rw[g6.one];rfl
   grind [LF,DI,Jw,Jv]
  ·rw[yaa (by omega)]
   have hone:fB zA.one [.bool neg,.slice b 0 (2*(m++[w]).length) (2*(m++[w]).length)]=true:=rfl
   grind [DI]
 | succ k ih=>
  intro i t' hi ht ho;obtain⟨x,hx⟩:=getElem?_of_lt (l:=l) (i:=i) (by omega)
  have hxlt:x<4294967296:=xL hlt hx
  obtain⟨c,off,g1,g2⟩:=(hv.mono ht).idx dG hx
  have htl:(l.take i).length=i:=by grind
  have hpl:(mH (l.take i)).length=2*i:=by rw[Jv,htl]
  have hlen0:(mH (l.take i)++List.replicate (2*(k+1)) 0).length=2*l.length:=by grind
  have g3:∀j,j<2*l.length->xC yA 41 (.slice b 0 (2*l.length) (2*l.length)) (.int .i64 (j:Int))=some (.ptr b j):=by
   intro j hj;have:=Aw (b:=b) (off:=0) (cap:=2*l.length) iY hj
   simp_all
  have g3a:=g3 (2*i) (by omega)
  have g3b:=g3 (2*i+1) (by omega)
  obtain⟨t1,s1,s2,s3⟩:=ho.store (C:=yA) hbase (j:=2*i) (by omega) (x%65536) Az rfl
  have hs2:(mH (l.take i)++List.replicate (2*(k+1)) 0).set (2*i) (x%65536)=(mH (l.take i)++[x%65536])++List.replicate (2*k+1) 0:=by
   grind [Pb]
  rw[hs2]at s2;obtain⟨t2,s4,s5,s6⟩:=s2.store (C:=yA) hbase (j:=2*i+1) (by simp[hpl]) (x / 65536) Az rfl
  have hs5:((mH (l.take i)++[x%65536])++List.replicate (2*k+1) 0).set (2*i+1) (x / 65536)=mH (l.take (i+1))++List.replicate (2*k) 0:=by
   have hq:(mH (l.take i)++[x%65536]).length=2*i+1:=by simp[hpl]
   rw[<- hq,Pb,xQ hx,Jw];simp
  rw[hs5]at s5;have e1:cA .u16 (x:Int)=((x%65536:Nat):Int):=by rw[NQ];omega
  have e2:cA .u16 (Int.fdiv (x:Int) 65536)=((x / 65536:Nat):Int):=by
   rw[show Int.fdiv (x:Int) 65536=((x / 65536:Nat):Int) from Cf _ 65536,zat (by omega) (by omega)]
  have e3:(2:Int)*(i:Int)=((2*i:Nat):Int):=by omega
  have e4:((2*i:Nat):Int)+1=((2*i+1:Nat):Int):=by omega
  refine zfe ?_
  simp (disch:=omega) only[uI,uL,uH,gC,tD,uZ,uW,Vk,pA,jF,g1,g2,sA,yC,e1,e2,e3,e4,iC,g3a,g3b]
  rw[yab (by omega)]
  intro d _ _;rw[s1];simp only[sA];intro d' _ _;rw[s4];simp only[sA];have:=ih (i+1) t2 (by omega) ((ht.off hb s3).off hb s6) s5
  grind
theorem Uc    (hv:bA t 1 (rC .u32 l) v)(hl:l.length<400000)(hlt:mB 4294967296 l)
  (hQ:∀t' v',aA t t'->bA t' 1 (rC .u16 (eE (mH (eE l)))) v'->Q (.agg [.bool (if eE l=[]then false else neg),v']) t'):Wc yA F 141 [.bool neg,v] t Q:=by
 refine w141 ?_
 obtain⟨u,h1,h2⟩:=Bb (l:=l) (by omega) hv
 have hsl:=Ke l
 simp only[uI,uZ,uW,t141,pA,Eb,h1,sA,h2.len,yC,uJ,nJ];by_cases h0:eE l=[]
 ·rw[yab (by grind)]
  simp only[if_true];have:=hQ t .nilslice (aA.refl _) (by rw[h0];exact⟨[],.inl ⟨rfl,rfl⟩,by simp[mH,eE,rC,wD]⟩)
  simp_all
 ·have hpos:0<(eE l).length:=List.length_pos_iff.2 h0
  rw[yaa (by omega)]
  have e1:(2:Int)*((eE l).length:Int)=((2*(eE l).length:Nat):Int):=by omega
  simp (disch:=omega) only[e1,iC]
  intro b hb hbase;obtain⟨t',g1,g2,g3,_⟩:=En (C:=yA) (k:=.u16) ty41 rfl Az rfl rfl (by decide) (n:=2*(eE l).length) (by omega) hb
  rw[g1];simp only[sA];refine OP h2 (by omega) (mT hlt) h0 (mV l) hbase hb (fun t2 v2 a b=>?_) (eE l).length 0 t' (by omega) g3 (by grind [mH])
  simp_all
end Go.Proofs
namespace Go.Proofs
open Go Go.Am
section
variable {b d s x:Nat}{l:List Nat}{v:zA}{Q:sB}
variable [eC]
variable {t:Tr vA}
theorem Ew{T el:Nat}(h:zH yA T el 1 false){n cap j:Nat}(hj:j<n):xC yA T (.slice b 0 n cap) (.int .i64 (j:Int))=some (.ptr b j):=by
 have:=Aw (b:=b) (off:=0) (cap:=cap) h hj
 simp_all
theorem JO (hs:s<64)(hx:x*2^s<18446744073709551616):sW .u64 (x:Int) (s:Int)=some (.int .u64 ((x*2^s:Nat):Int)):=by
 unfold sW Dt;have:vN (s:Int)=some s:=rfl
 rw[this,qA,qA];have hm:min s (IntKind.bits .u64)=s:=by show min s 64=s;omega
 rw[hm];have e:(x:Int)*Int.ofNat (2^s)=((x*2^s:Nat):Int):=by simp_all
 rw[e,eF (by omega) (by omega)]
def JN (hs:s<65):Ey .u64 (x:Int) (s:Int)=some (.int .u64 ((x / 2^s:Nat):Int)):=by
 unfold Ey Dt;have:vN (s:Int)=some s:=rfl
 rw[this,qA,qA];have hm:min s (IntKind.bits .u64)=s:=by show min s 64=s;omega
 rw[hm];have e:Int.fdiv (x:Int) (Int.ofNat (2^s))=((x / 2^s:Nat):Int):=Cf x (2^s)
 rw[e]
def SN (hs:s<32):2^s<=2147483648:=yao (n:=2) (by decide) (show s<=31 by omega)
def FK (hs:s<=32):2^s*2^(32-s)=4294967296:=by rw[<- Nat.pow_add,show s+(32-s)=32 by omega]
def zhz (hs:s<=32):(x*2^s%4294967296)%2^s=0:=by
 rw[<- FK hs,ybh x,Nat.mul_mod_mul_left,Nat.mul_mod_right]
theorem QK    (hv:bA t 1 (rC .u32 l) v)(hl:l.length<900000)(hlt:mB 4294967296 l)(hs:s<32)(hbase:yA.base<=b)(hb:t.get b=none)
  (hQ:∀t' r,aA t t'->fF b t t'->rG t' b .u32 r->r.length=l.length+1->mB 4294967296 r->val 4294967296 r=val 4294967296 l*2^s->Q (.slice b 0 (l.length+1) (l.length+1)) t') :
  ∀(k i:Nat) (t':Tr vA) (P:List Nat) (c:Nat),i+k=l.length->aA t t'->fF b t t'->rG t' b .u32 ((P++[c])++List.replicate k 0)->P.length=i->c<2^s->mB 4294967296 P->val 4294967296 P+4294967296^i*c=val 4294967296 (l.take i)*2^s →
  jp 177 2 [.int .i64 s,.slice b 0 (l.length+1) (l.length+1),v,.int .i64 l.length,.int .i64 i] t' Q:=by
 have hp2:=SN hs
 intro k;induction k with
 | zero=>
  intro i t' P c hi ht hoff ho hP hc hPl hval;refine ze5 ?_
  simp only[uL,uE,tD,uZ,Uz,pA,jF];rw[yaa (by omega)]
  rw[List.replicate_zero,ycd]at ho;refine hQ t' (P++[c]) ht hoff ho (by grind) (sY hPl (by omega)) ?_
  rw[jN,hP,hval,yca (by omega)]
 | succ k ih=>
  intro i t' P c hi ht hoff ho hP hc hPl hval;obtain⟨x,hx⟩:=getElem?_of_lt (l:=l) (i:=i) (by omega)
  have hxlt:x<4294967296:=xL hlt hx
  obtain⟨d,off,g1,g2⟩:=(hv.mono ht).idx dG hx
  have hxs:x*2^s<4294967296*2^s:=Nat.mul_lt_mul_of_pos_right hxlt (Nat.pow_pos (by decide))
  have hxs2:x*2^s<18446744073709551616:=by
   omega
  have hlow:=zhz (x:=x) (s:=s) (by omega)
  have hlor:Nat.lor c (x*2^s%4294967296)=x*2^s%4294967296+c:=by
   have:=or_low (a:=x*2^s%4294967296) (b:=c) (n:=s) hc hlow
   simp_all [Nat.or_comm]
  have hsum:x*2^s%4294967296+c<4294967296:=by
   have h1:x*2^s%4294967296<4294967296:=ycy _ (by decide)
   have h2:(4294967296:Nat)%2^s=0:=by rw[<- FK (s:=s) (by omega),Nat.mul_mod_right]
   obtain⟨p,hp⟩:=Nat.dvd_of_mod_eq_zero hlow
   obtain⟨q,hq⟩:=Nat.dvd_of_mod_eq_zero h2
   have hpq:p<q:=by
    rcases yau p q with g | g
    ·exact g
    ·have:=ybv (2^s) g;omega
   have:=ybv (2^s) (show p+1<=q from hpq)
   grind
  have hhigh:x*2^s / 4294967296<2^s:=ycu (by omega)
  have hlen0:((P++[c])++List.replicate (k+1) 0).length=l.length+1:=by simp;omega
  have g3a:=Ew dG (b:=b) (n:=l.length+1) (cap:=l.length+1) (j:=i) (by omega)
  have g3b:=Ew dG (b:=b) (n:=l.length+1) (cap:=l.length+1) (j:=i+1) (by omega)
  have g4:=ho.load (j:=i) (x:=c) (by simp_all [ybp]) dH rfl
  obtain⟨t1,s1,s2,s3⟩:=ho.store (C:=yA) hbase (j:=i) (by omega) (x*2^s%4294967296+c) dH rfl
  have hs2:((P++[c])++List.replicate (k+1) 0).set i (x*2^s%4294967296+c)=(P++[x*2^s%4294967296+c])++List.replicate (k+1) 0:=by
   simp_all
  rw[hs2]at s2;obtain⟨t2,s4,s5,s6⟩:=s2.store (C:=yA) hbase (j:=i+1) (by grind) (x*2^s / 4294967296) dH rfl
  have hs5:((P++[x*2^s%4294967296+c])++List.replicate (k+1) 0).set (i+1) (x*2^s / 4294967296)=((P++[x*2^s%4294967296+c])++[x*2^s / 4294967296])++List.replicate k 0:=by
   have hq:(P++[x*2^s%4294967296+c]).length=i+1:=by simp[hP]
   grind [Pb]
  rw[hs5]at s5;refine ze5 ?_
  have e1:cA .u32 ((x*2^s:Nat):Int)=((x*2^s%4294967296:Nat):Int):=by rw[jT];omega
  have e2:cA .u32 (Int.fdiv ((x*2^s:Nat):Int) 4294967296)=((x*2^s / 4294967296:Nat):Int):=by
   rw[show Int.fdiv ((x*2^s:Nat):Int) 4294967296=((x*2^s / 4294967296:Nat):Int) from Cf _ 4294967296]
   generalize x*2^s=z at hhigh ⊢
   rw[iT (by omega) (by omega)]
  simp (disch:=omega) only[uL,uE,tD,uZ,Uz,pA,jF,g1,g2,sA,yC,eF,g3a,g4]
  rw[yab (by omega),JO (by omega) hxs2]
  simp only[sA,yC,e1];have e3:kI Nat.lor .u32 (c:Int) ((x*2^s%4294967296:Nat):Int)=some (.int .u32 ((x*2^s%4294967296+c:Nat):Int)):=by
   rw[mU (k:=.u32) (x:=c) (y:=x*2^s%4294967296) (show c<cG .u32 by show c<4294967296;omega) (by show x*2^s%4294967296<4294967296;omega),hlor]
  rw[e3];simp only[sA,yC];intro _ _ _;rw[s1];simp (disch:=omega) only[sA,iC]
  rw[show(i:Int)+1=((i+1:Nat):Int) by omega,g3b]
  simp only[sA,e2];intro _ _ _;rw[s4];simp only[sA];refine ih (i+1) t2 _ _ (by omega) ((ht.off hb s3).off hb s6) ((hoff.trans s3).trans s6) s5 (by simp[hP]) hhigh (sY hPl hsum) ?_
  rw[jN,hP,xQ hx,jN,ybo,<- hval];have:(l.take i).length=i:=by simp;omega
  grind [Nat.div_add_mod]
theorem DV    (hv:bA t 1 (rC .u32 l) v)(hl:l.length<900000)(hlt:mB 4294967296 l)(hs:s<32)
  (hQ:∀t' b r,aA t t'->t.get b=none->yA.base<=b->rG t' b .u32 r->r.length=l.length+1->mB 4294967296 r->val 4294967296 r=val 4294967296 l*2^s->Q (.slice b 0 (l.length+1) (l.length+1)) t'):Wc yA F 177 [v,.int .i64 s] t Q:=by
 refine w177 ?_
 simp (disch:=omega) only[uI,tD,uZ,t177,pA,hv.len,sA,yC,uJ,iC]
 intro b hb hbase;obtain⟨t',g1,g2,g3,g4⟩:=En (C:=yA) (k:=.u32) mM rfl dH rfl rfl (by decide) (n:=l.length+1) (by omega) hb
 rw[show(l.length:Int)+1=((l.length+1:Nat):Int) by omega,g1]
 simp only[sA];have:=QK hv hl hlt hs hbase hb (fun t' r a _ c d e f=>hQ t' b r a hb hbase c d e f) l.length 0 t' [] 0 (by omega) g3 g4 (by grind) rfl (Nat.pow_pos (by decide)) (fun x hx=>by cases hx) (by simp[val])
 exact this
theorem XH    (hv:bA t 1 (rC .u32 l) v)(hl:l.length<900000)(hlt:mB 4294967296 l)(hd:d<4294967296)(hd0:0<d)(hbase:yA.base<=b)(hb:t.get b=none)
  (hQ:∀t' v' q r,aA t t'->bA t' 1 (rC .u32 (eE q)) v'->mB 4294967296 q->q.length=l.length->r<d->val 4294967296 l=val 4294967296 q*d+r->Q (.tup [v',.int .u32 (r:Nat)]) t') :
  ∀(i:Nat) (t':Tr vA) (q:List Nat) (r:Nat),i<=l.length->aA t t'->rG t' b .u32 (List.replicate i 0++q)->q.length=l.length-i->mB 4294967296 q->r<d->val 4294967296 (l.drop i)=val 4294967296 q*d+r →
  jp 175 2 [v,.int .u32 d,.slice b 0 l.length l.length,.int .u32 r,.int .i64 ((i:Int)-1)] t' Q:=by
 intro i;induction i with
 | zero=>
  intro t' q r _ ht ho hq hql hr hval;refine ze6 ?_
  simp only[uL,uX,uZ,uW,Vc,pA,aK];rw[yaa (by omega)]
  rw[List.replicate_zero,yah]at ho;have hread:=ho.all (ybk _)
  have hqlen:q.length=l.length:=by omega
  rw[hqlen]at hread;obtain⟨v',h1,h2⟩:=Bb (l:=q) (by omega) hread
  simp only[Eb,h1,sA];grind
 | succ i ih=>
  intro t' q r hi ht ho hq hql hr hval;obtain⟨x,hx⟩:=getElem?_of_lt (l:=l) (i:=i) (by omega)
  have hxlt:x<4294967296:=xL hlt hx
  obtain⟨c,off,g1,g2⟩:=(hv.mono ht).idx dG hx
  have e1:((i+1:Nat):Int)-1=(i:Int):=by omega
  have g3:=Ew dG (b:=b) (n:=l.length) (cap:=l.length) (j:=i) (by omega)
  have hlen0:(List.replicate (i+1) 0++q).length=l.length:=by grind
  have hdiv:=zcz (t:=t') hr hxlt hd
  have hqlt:(r*4294967296+x) / d<4294967296:=QJ hr hxlt
  have hrlt:(r*4294967296+x)%d<d:=ycy _ hd0
  obtain⟨t1,s1,s2,s3⟩:=ho.store (C:=yA) hbase (j:=i) (by omega) ((r*4294967296+x) / d) dH rfl
  have hs2:(List.replicate (i+1) 0++q).set i ((r*4294967296+x) / d)=List.replicate i 0++((r*4294967296+x) / d::q):=by
   grind [List.replicate_succ',set_append_right]
  rw[hs2]at s2;rw[e1];refine ze6 ?_
  simp (disch:=omega) only[uL,uX,uZ,uW,Vc,pA,aK,g1,g2,sA,yC,q184,hdiv,yH,zA.asTup,qA,g3,iC]
  rw[yab (by omega)]
  simp only[xH,yaz,yba,sA,yC];intro _ _ _;rw[s1];simp only[sA];refine ih t1 _ _ (by omega) (ht.off hb s3) s2 (by grind) ?_ hrlt ?_
  ·intro y hy
   rcases ybs.1 hy with rfl | hy
   ·exact hqlt
   ·exact hql y hy
  ·rw[fQ hx]
   grind [val,Nat.div_add_mod]
theorem XG    (hv:bA t 1 (rC .u32 l) v)(hl:l.length<900000)(hlt:mB 4294967296 l)(hd:d<4294967296)(hd0:0<d)
  (hQ:∀t' v' q r,aA t t'->bA t' 1 (rC .u32 (eE q)) v'->mB 4294967296 q->q.length=l.length->r<d->val 4294967296 l=val 4294967296 q*d+r->Q (.tup [v',.int .u32 (r:Nat)]) t'):Wc yA F 175 [v,.int .u32 d] t Q:=by
 refine w175 ?_
 simp (disch:=omega) only[uI,uZ,uW,t175,pA,hv.len,sA,yC,uJ,iC]
 intro b hb hbase;obtain⟨t',g1,g2,g3,g4⟩:=En (C:=yA) (k:=.u32) mM rfl dH rfl rfl (by decide) (n:=l.length) (by omega) hb
 rw[g1];simp only[sA];exact XH hv hl hlt hd hd0 hbase hb hQ l.length t' [] 0 (ybk _) g3 (by simp_all) (by simp) (fun x hx=>by cases hx) hd0 (by simp[val])
end
section
variable {l:List Nat}{v y:zA}{box:Nat}{Q:sB}{I:Nat->Tr vA->Prop}
variable [eC]
theorem XL      (hl:l.length<1000000)
  (hr:∀k t,I k t->mA yA 189 ⟨0,t⟩ (.ptr box 0)=some v/\bA t 1 (rC .u32 l) v)
  (hy:∀k x t,l[k]?=some x->I (k+1) t->∀R:sB,(∀t',I k t'->R (.bool true) t')->vE (gL y [.int .u32 (x:Nat)]) fun p=>Wq yA F vC p.1 p.2 t R)
  (hQ:∀t,I 0 t->Q (.tup []) t):∀(k:Nat) (t:Tr vA),k<=l.length->I k t->jp 190 2 [y,.ptr box 0,.int .i64 ((k:Int)-1)] t Q:=by
 intro k;induction k with
 | zero=>
  intro t _ h;refine zey ?_
  simp only[uL,uB,uZ,uW,Ur,pA,aK];simp_all
 | succ k ih=>
  intro t hk h;obtain⟨g0,hv⟩:=hr _ _ h
  obtain⟨x,hx⟩:=getElem?_of_lt (l:=l) (i:=k) (by omega)
  obtain⟨c,off,g1,g2⟩:=hv.idx dG hx
  have e1:((k+1:Nat):Int)-1=(k:Int):=by omega
  rw[e1];refine zey ?_
  simp (disch:=omega) only[uL,uB,uZ,uW,Ur,pA,aK,g0,g1,g2,sA,yC,iC]
  rw[yab (by omega)]
  refine hy k x t hx h _ fun t' ht'=>?_
  grind [zA.asBool,sA]
def zje     {t:Tr vA} (hl:l.length<1000000)
  (hr:∀k t,I k t->mA yA 189 ⟨0,t⟩ (.ptr box 0)=some v/\bA t 1 (rC .u32 l) v)
  (hy:∀k x t,l[k]?=some x->I (k+1) t->∀R:sB,(∀t',I k t'->R (.bool true) t')->vE (gL y [.int .u32 (x:Nat)]) fun p=>Wq yA F vC p.1 p.2 t R)
  (hQ:∀t,I 0 t->Q (.tup []) t) (h:I l.length t):Wc yA F 190 [y,.ptr box 0] t Q:=by
 obtain⟨g0,hv⟩:=hr _ _ h
 refine w190 ?_
 simp (disch:=omega) only[uI,uZ,uW,t190,pA,g0,hv.len,uJ,sA,yC,iC]
 exact XL hl hr hy hQ l.length t (ybk _) h
end
end Go.Proofs
namespace Go.Am
open Go Go.RowKit
variable {b base el k n sz:Nat}{cl cm:List (List zA)}{t':Tr vA}{cd:Lo}{l m:List D}{v x:zA}
section
variable {t tf:Tr vA}{C:oA}
theorem qL (hn:t.get n=none)(q:vA):aA t (t.set n q)/\fF n t (t.set n q):=
 ⟨fun c u hc=>by grind [Tr.get_set],fun c hc=>by rw[Tr.get_set,yaa hc]⟩
theorem KY   {lo:Option Lo}(hl:∀(i:Nat) cs,cl[i]?=some cs->cs.length=sz)(h:t'.get n=some (.cells (Tr.ofList cl.flatten) (zB cl.flatten) lo))(hlo:lo=none\/∃x,lo=some x/\x.es=sz) (hk:cl.length=k):sM t' sz (.slice n 0 k k) cl:=by
 grind [Se]
theorem Ep{T:Nat}{y z:lD}{ps:List (Nat × zA)} (hT:C.tys.get T=some y)(hel:y.desc.asSlice=some el)(hz:C.tys.get el=some z)(hs:z.size=sz)(h0:zB z.zero=sz)(hn:n*sz<1000000)
  (hfill:kK (fun i=>some (i*sz,sz)) ps (tI z.zero n)=some cl.flatten) (hcl:∀(i:Nat) cs,cl[i]?=some cs->cs.length=sz) (hlen:cl.length=n)  (hb:t.get b=none) :
  ∃t',cC C T n ps ⟨b,t⟩=some (.slice b 0 n n,⟨b+1,t'⟩)/\sM t' sz (.slice b 0 n n) cl/\aA t t'/\fF b t t':=by
 refine⟨t.set b (.cells (Tr.ofList cl.flatten) (zB cl.flatten) none),?_,KY hcl (by rw[Tr.get_set,yab rfl]) (.inl rfl) hlen,(qL hb _).1,(qL hb _).2⟩
 unfold cC;rw[hT,qA,hel,qA,hz,qA];have:(Nat.blt (n*z.size) 1000000&&Nat.beq (zB z.zero) z.size)=true:=by
  simp_all
 rw[this,yE,hs,hfill];rfl
def bM(cd:Lo)(base:Nat)(tf t:Tr vA)(sz:Nat)(l:List D)(v:zA):Prop:=
 (v=.nilslice/\l=[])\/∃b cl c,v=.slice b 0 l.length l.length/\base<=b/\tf.get b=none/\t.get b=some (.cells c (l.length*sz) (some cd)) ∧
  (∀(i:Nat) cs,cl[i]?=some cs->cs.length=sz/\∀(j:Nat) a,cs[j]?=some a->c.get (i*sz+j)=some a)/\wD tf l cl
abbrev eL(base:Nat)(tf t:Tr vA)(sz:Nat)(l:List D)(v:zA):Prop:=bM (.sz sz) base tf t sz l v
def iQ(v:zA)(b:Nat):Prop:=∃o n c,v=.slice b o n c
theorem VE  : ¬ iQ .nilslice b:=fun⟨_,_,_,h⟩=>by cases h
theorem Mc{c o:Nat}:iQ (.slice b o n k) c ↔ c=b:=⟨fun⟨_,_,_,h⟩=>by grind,fun h=>by subst h;exact⟨_,_,_,rfl⟩⟩
theorem bM.read    (hcd:cd.es=sz)(h:bM cd base tf t sz l v)(ht:aA tf t):bA t sz l v:=by
 rcases h with⟨rfl,rfl⟩ | ⟨b,cl,c,rfl,_,_,h1,h2,h3⟩
 ·exact⟨[],.inl ⟨rfl,rfl⟩,wF.2 rfl⟩
 ·have hlen:=h3.length
  refine⟨cl,.inr ⟨b,0,l.length,by rw[hlen],by omega,⟨c,_,_,h1,.inr ⟨_,rfl,hcd⟩⟩,fun i cs hi=>⟨(h2 i cs hi).1,c,_,_,h1,fun j a hj=>?_⟩⟩,wD.mono ht _ _ h3⟩
  simp_all
theorem bM.len    (h:bM cd base tf t sz l v):pC v=some (.int .i64 (l.length:Int)):=by
 rcases h with⟨rfl,rfl⟩ | ⟨b,cl,c,rfl,_⟩
 ·rfl
 ·rfl
theorem bM.one    (h:bM cd base tf t sz l v):zA.one v=true:=by
 rcases h with⟨rfl,rfl⟩ | ⟨b,cl,c,rfl,_⟩<;>rfl
theorem bM.same{cd:Lo}{base sz d:Nat}{l:List D}{v:zA}(h:bM cd base tf t sz l v):same d v v=true:=by
 rcases h with⟨rfl,rfl⟩ | ⟨b,cl,c,rfl,_⟩
 all_goals grind [Am.same,Nat.beq_refl]
theorem bM.none{cd:Lo}{base sz:Nat}{l:List D}{v:zA}(h:bM cd base tf t sz l v){b:Nat}(hb:iQ v b):tf.get b=none/\base<=b/\∃y,t.get b=some y:=by
 rcases h with⟨rfl,rfl⟩ | ⟨c,cl,x,rfl,h1,h2,h3,_⟩
 all_goals grind [VE,Mc]
theorem eL.keep   {tf':Tr vA}(h:eL base tf t sz l v)(hf:aA tf tf')(hk:∀b,iQ v b->t'.get b=t.get b/\tf'.get b=Option.none):eL base tf' t' sz l v:=by
 rcases h with⟨rfl,rfl⟩ | ⟨b,cl,c,rfl,h0,h1,h2,h3,h4⟩
 ·exact .inl ⟨rfl,rfl⟩
 ·obtain⟨k1,k2⟩:=hk b (Mc.2 rfl)
  exact .inr ⟨b,cl,c,rfl,h0,k2,by simp_all,h3,wD.mono hf _ _ h4⟩
theorem ZO{T U:Nat} (hT:Tl C T el sz)(hU:∃u,C.tys.get U=some u/\Nat.beq u.desc.tag 1=false)(hcd:∀z,C.tys.get el=some z->dM el z=cd)   (hv:bM cd C.base tf t sz l v)(hall:∀(i:Nat) cs,cm[i]?=some cs->cs.length=sz)(hx:∀n,zY ⟨n,t⟩ sz cm.length x=some cm.flatten/\Er x=some cm.length)(hm:wD tf m cm)(hone:∀a∈cm.flatten,zA.one a=true)(hpos:0<m.length)(hl:l.length+m.length<400000) (hn:t.get n=none)(hbase:C.base<=n)(ht:aA tf t) :
  ∃t',gE C T U v x ⟨n,t⟩=some (.slice n 0 (l.length+m.length) (l.length+m.length),⟨n+1,t'⟩)/\bM cd C.base tf t' sz (l++m) (.slice n 0 (l.length+m.length) (l.length+m.length))/\aA tf t'/\(∀c,c≠n->¬ iQ v c->t'.get c=t.get c):=by
 obtain⟨⟨y,hy1,hy2,hy3⟩,⟨z,hz1,hz2,hz3,hz4,hz5⟩⟩:=hT
 have hcode:=hcd z hz1
 have hcm:=hm.length
 obtain⟨hf,hlen⟩:=hx n
 obtain⟨u,hu1,hu2⟩:=hU
 have hflat:=aX hall
 have hfl:zB cm.flatten=cm.length*sz:=by grind [oD]
 have hfn:tf.get n=none:=by
  cases hq:tf.get n with
  | none=>rfl
  | some u=>rw[ht _ _ hq]at hn;cases hn
 have base:gE C T U v x ⟨n,t⟩=(match v.asSlice with
  | some s=>bif Nat.ble (s.2.2.1+cm.length) s.2.2.2 then rW C ⟨n,t⟩ z cm.length cm.flatten s else qW C ⟨n,t⟩ el z cm.length cm.flatten s
  | none=>xB (Nat.beq v.tag 5) (gQ ⟨n,t⟩ el z cm.length cm.flatten)):=by
  unfold gE sS;grind [qA,yE]
 have ok:aR z l.length l.length cm.length cm.flatten=true:=by
  unfold aR;have h1:Nat.blt (l.length+cm.length+l.length) 1000000000=true:=qC.2 (by omega)
  have h2:Nat.blt ((l.length+cm.length+l.length)*z.bytes) 1000000000=true:=qC.2 (by
   have:=ydb (show l.length+cm.length+l.length<=800000 by omega) hz4
   omega)
  grind [qC,mC]
 rcases hv with⟨rfl,rfl⟩ | ⟨b,cl,c,rfl,hb0,hb1,hb2,hb3,hb4⟩
 ·refine⟨t.set n (.cells (Tr.ofList cm.flatten) (zB cm.flatten) (some cd)),?_,.inr ⟨n,cm,Tr.ofList cm.flatten,by simp,hbase,hfn,?_,fun i cs hi=>⟨hall i cs hi,fun j a hj=>?_⟩,by simp_all⟩,?_,fun c hc _=>(qL hn _).2 c hc⟩
  ·rw[base]
   simp only[zA.asSlice];show xB true (gQ ⟨n,t⟩ el z cm.length cm.flatten)=_
   rw[yE];unfold gQ;have:Nat.beq cm.length 0=false:=by
    grind [mC]
   have ok:aR z 0 0 cm.length cm.flatten=true:=ok
   rw[this,cond_false,ok,yE,hcm,hcode];simp only[ybx,ybw];rfl
  ·grind [Tr.get_set]
  ·grind [Tr.get_ofList,kU]
  ·exact ht.trans (qL hn _).1
 ·have hcl:=hb4.length
  have hbn:b≠n:=by grind
  refine⟨(t.del b).set n (.cells (c.setMany cm.flatten (l.length*z.size)) ((l.length+cm.length)*z.size) (some cd)),?_,.inr ⟨n,cl++cm,c.setMany cm.flatten (l.length*z.size),by simp,hbase,hfn,?_,fun i cs hi=>?_,?_⟩,fun k u hk=>?_,fun k hk1 hk2=>?_⟩
  ·rw[base]
   simp only[zA.asSlice];have:Nat.ble (l.length+cm.length) l.length=false:=by
    grind [oE]
   rw[this,cond_false];unfold qW;simp only[];rw[show ∀x,(!(Nat.beq 0 1&&x))=true from fun _=>rfl,yE,ok,yE]
   unfold qE;rw[hb2,qA];simp only[vA.asCells,qA];unfold Fa;simp only[];have g1:loEq cd (dM el z)=true:=by grind [Yc]
   have g2:Nat.ble (l.length*z.size) (l.length*sz)=true:=oE.2 (by simp_all)
   have g3:Nat.ble (l.length*sz) ((l.length+cm.length)*z.size)=true:=oE.2 (by grind)
   have g4:fB zA.one cm.flatten=true:=by grind [jH]
   have g5:(!Nat.blt b C.base)=true:=by
    grind [qC]
   rw[g1,g2,g3,g4,g5];simp_all
  ·rw[Tr.get_set,yab rfl,hz2,hcm,ybg]
  ·rw[List.getElem?_append]at hi
   split at hi
   ·rename_i hlt
    obtain⟨k1,k2⟩:=hb3 i cs hi
    refine⟨k1,fun j a hj=>?_⟩
    have hjl:j<sz:=by grind
    have:i*sz+j<l.length*sz:=by
     have:=ybi sz (show i+1<=l.length by omega)
     grind
    grind [Tr.get_setMany]
   ·rename_i hge
    have k1:=hall _ cs hi
    refine⟨k1,fun j a hj=>?_⟩
    have hf1:=kU hall _ j cs a hi hj
    have hlt:=(ybc.1 hf1).1
    have e:i*sz=l.length*sz+(i-cl.length)*sz:=by rw[<- ybo];simp_all
    grind [Tr.get_setMany]
  ·have app:∀ {l m:List D} {cl cm:List (List zA)},wD tf l cl->wD tf m cm->wD tf (l++m) (cl++cm):=by
    intro l;induction l with
    | nil=>grind [wF]
    | cons d l ih=>
     grind [dC]
   simp_all
  ·have h1:k≠b:=by grind
   have h2:k≠n:=by grind
   rw[Tr.get_set,yaa h2,Tr.get_del,yaa h1];exact ht _ _ hk
  grind [Tr.get_set,Tr.get_del,Mc]
def ZP{T:Nat} (hT:Tl C T el sz)(hcd:∀z,C.tys.get el=some z->dM el z=cd)   (hv:bM cd C.base tf t sz l v)(hx:sM t sz x cm)(hm:wD tf m cm)(hone:∀a∈cm.flatten,zA.one a=true)(hpos:0<m.length)(hl:l.length+m.length<400000) (hn:t.get n=none)(hbase:C.base<=n)(ht:aA tf t) :
  ∃t',gE C T T v x ⟨n,t⟩=some (.slice n 0 (l.length+m.length) (l.length+m.length),⟨n+1,t'⟩)/\bM cd C.base tf t' sz (l++m) (.slice n 0 (l.length+m.length) (l.length+m.length))/\aA tf t'/\(∀c,c≠n->¬ iQ v c->t'.get c=t.get c):=by
 obtain⟨y,hy1,hy2,hy3⟩:=hT.ty
 exact ZO hT ⟨y,hy1,hy3⟩ hcd hv hx.len (fun n=>hx.first (n:=n)) hm hone hpos hl hn hbase ht
def Td{T:Nat}(hT:eJ C T el sz)   (hv:eL C.base tf t sz l v)(hx:sM t sz x cm)(hm:wD tf m cm)(hone:∀a∈cm.flatten,zA.one a=true)(hpos:0<m.length)(hl:l.length+m.length<400000) (hn:t.get n=none)(hbase:C.base<=n)(ht:aA tf t) :
  ∃t',gE C T T v x ⟨n,t⟩=some (.slice n 0 (l.length+m.length) (l.length+m.length),⟨n+1,t'⟩)/\eL C.base tf t' sz (l++m) (.slice n 0 (l.length+m.length) (l.length+m.length))/\aA tf t'/\(∀c,c≠n->¬ iQ v c->t'.get c=t.get c):=by
 refine ZP ⟨hT.ty,hT.el⟩ (fun z h=>?_) hv hx hm hone hpos hl hn hbase ht
 obtain⟨y,h1,h2,_⟩:=hT.el
 rw[hT.nb.code h,show z=y from yci (h.symm.trans h1),h2]
theorem bM.freeze    (hcd:cd.es=sz)(h:bM cd base tf t sz l v)(ht:aA tf t):∃tf',aA tf tf'/\aA tf' t/\bA tf' sz l v/\∀b,¬ iQ v b->tf'.get b=tf.get b:=by
 rcases h with⟨rfl,rfl⟩ | ⟨b,cl,c,rfl,h0,h1,h2,h3,h4⟩
 ·exact⟨tf,aA.refl _,ht,⟨[],.inl ⟨rfl,rfl⟩,wF.2 rfl⟩,fun _ _=>rfl⟩
 ·have hlen:=h4.length
  refine⟨tf.set b (.cells c (l.length*sz) (some cd)),(qL h1 _).1,fun k u hk=>?_,⟨cl,.inr ⟨b,0,l.length,by rw[hlen],by omega,⟨c,_,_,by rw[Tr.get_set,yab rfl],.inr ⟨_,rfl,hcd⟩⟩,fun i cs hi=>⟨(h3 i cs hi).1,c,_,_,(by rw[Tr.get_set,yab rfl]),fun j a hj=>?_⟩⟩,wD.mono (qL h1 _).1 _ _ h4⟩,fun k hk=>by rw[Tr.get_set,yaa (fun e=>hk (Mc.2 e))]⟩
  ·rw[Tr.get_set]at hk
   split at hk
   ·simp_all
   ·exact ht _ _ hk
  simp_all
theorem eL.read   (h:eL base tf t sz l v)(ht:aA tf t):bA t sz l v:=bM.read rfl h ht
theorem eL.freeze   (h:eL base tf t sz l v)(ht:aA tf t):∃tf',aA tf tf'/\aA tf' t/\bA tf' sz l v/\∀b,¬ iQ v b->tf'.get b=tf.get b:=bM.freeze rfl h ht
end
end Go.Am
namespace Go.Am
open Go Go.RowKit
section
variable {l:List zA}{j sz:Nat}{y:lD}{v:zA}
def yD (t:Tr vA)(b:Nat)(lo:Option Lo)(cs:List zA):Prop:=∃c,t.get b=some (.cells c cs.length lo)/\∀(j:Nat) a,cs[j]?=some a->c.get j=some a
def pJ(cs:List zA)(j:Nat)(l:List zA):List zA:=cs.take j++(l++cs.drop (j+l.length))
theorem Xh{cs:List zA} (h:j+l.length<=cs.length):(pJ cs j l).length=cs.length:=by
 grind [pJ]
theorem Ed{cs:List zA} (h:j+l.length<=cs.length)(k:Nat):(pJ cs j l)[k]?=if j<=k/\k<j+l.length then l[k-j]? else cs[k]?:=by
 grind [pJ]
section
variable {t tf:Tr vA}{C:oA}{b:Nat}{lo:Option Lo}{cs:List zA}
theorem yD.at(h:yD t b lo cs):At t b 0 cs:=by
 obtain⟨c,h1,h2⟩:=h
 exact⟨c,_,_,h1,fun j a hj=>by simp_all⟩
theorem yD.off(h:yD t b lo cs){t':Tr vA}(k:t'.get b=t.get b):yD t' b lo cs:=by
 obtain⟨c,h1,h2⟩:=h
 exact⟨c,by simp_all,h2⟩
theorem yD.load1(h:yD t b lo cs) {a:zA}{ty:Nat} (hy:C.tys.get ty=some y)(ha:y.desc.isAgg=false)(hj:cs[j]?=some a):mA C ty ⟨0,t⟩ (.ptr b j)=some a:=by
 have:=h.at.load1 hy ha hj
 simp_all
theorem yD.store(h:yD t b lo cs)(hb:C.base<=b){T:Nat}  (hT:C.tys.get T=some y)(hl:v.cells.length=y.size)(hj:j+v.cells.length<=cs.length)(hone:fB zA.one v.cells=true) :
  ∃t',(∀n,zC C T (.ptr b j) v ⟨n,t⟩=some (dD,⟨n,t'⟩))/\yD t' b lo (pJ cs j v.cells)/\fF b t t':=by
 obtain⟨c,h1,h2⟩:=h
 refine⟨t.set b (.cells (c.setMany v.cells j) cs.length lo),fun n=>?_,⟨c.setMany v.cells j,?_,fun k a hk=>?_⟩,fun d hd=>by rw[Tr.get_set,yaa hd]⟩
 ·unfold zC
  rw[hT,qA];simp only[zA.asPtr,qA];have e1:Nat.beq (zB v.cells) y.size=true:=by grind [oD,mC]
  rw[e1,yE];unfold yJ qE;have e2:(!Nat.blt b C.base)=true:=by
   grind [qC]
  rw[e2,yE,h1,qA];simp only[vA.asCells,qA];have e3:Nat.ble (j+zB v.cells) cs.length=true:=by simp_all
  rw[e3,hone];rfl
 all_goals grind [Tr.get_set,Xh,Ed,Tr.get_setMany]
theorem yD.store1(h:yD t b lo cs)(hb:C.base<=b){T:Nat}  (hT:C.tys.get T=some y)(hs:y.size=1)(hv:v.cells=[v])(hone:zA.one v=true)(hj:j<cs.length) :
  ∃t',(∀n,zC C T (.ptr b j) v ⟨n,t⟩=some (dD,⟨n,t'⟩))/\yD t' b lo (cs.set j v)/\fF b t t':=by
 obtain⟨t',h1,h2,h3⟩:=h.store hb hT (v:=v) (j:=j) (by simp_all) (by grind) (by rw[hv];show(bif zA.one v then true else false)=true;simp_all)
 refine⟨t',h1,?_,h3⟩
 have e:pJ cs j v.cells=cs.set j v:=by
  rw[hv];apply List.ext_getElem?
  grind [Ed]
 simp_all
theorem Xw{b:Nat}(hb:t.get b=none)(cs:List zA)(lo:Option Lo):∃t',yG ⟨b,t⟩ cs lo=⟨b+1,t'⟩/\yD t' b lo cs/\aA t t'/\fF b t t':=
 ⟨t.set b (.cells (Tr.ofList cs) (zB cs) lo),rfl,⟨Tr.ofList cs,by rw[Tr.get_set,yab rfl,oD],fun j a hj=>by grind [Tr.get_ofList]⟩,(qL hb _).1,(qL hb _).2⟩
def rS{b T:Nat} (hT:C.tys.get T=some y)(hb:t.get b=none):∃t',nK C T ⟨b,t⟩=some (.ptr b 0,⟨b+1,t'⟩)/\yD t' b none y.zero/\aA t t'/\fF b t t':=by
 obtain⟨t',h1,h2,h3,h4⟩:=Xw hb y.zero none
 refine⟨t',?_,h2,h3,h4⟩
 unfold nK;rw[hT,qA,<- h1]
theorem Su{b:Nat} (hb:t.get b=none):∃t',wN v ⟨b,t⟩=some (.ptr b 0,⟨b+1,t'⟩)/\yD t' b none v.cells/\aA t t'/\fF b t t':=by
 simp_all [Xw,wN]
def OwnD (base:Nat)(tf t:Tr vA)(sz:Nat)(l:List D)(b:Nat)(lo:Option Lo):Prop:=
 base<=b/\tf.get b=none/\∃cl,yD t b lo cl.flatten/\(∀(i:Nat) cs,cl[i]?=some cs->cs.length=sz)/\wD tf l cl
theorem OwnD.read{base n:Nat}{l:List D}(h:OwnD base tf t sz l b lo)(hlo:lo=none\/∃x,lo=some x/\x.es=sz)(ht:aA tf t)(hn:l.length=n){cap:Nat}(hc:n<=cap):bA t sz l (.slice b 0 n cap):=by
 obtain⟨_,_,cl,⟨c,h1,h2⟩,h3,h4⟩:=h
 have hlen:=h4.length
 refine⟨cl,.inr ⟨b,0,cap,by rw[hlen,hn],by omega,⟨c,_,_,h1,hlo⟩,fun i cs hi=>⟨h3 i cs hi,c,_,_,h1,fun j a hj=>?_⟩⟩,wD.mono ht _ _ h4⟩
 grind [kU]
theorem zcv  : ∀ {cl:List (List zA)},(∀(i:Nat) cs,cl[i]?=some cs->cs.length=sz)->∀ {i o:Nat} {cs l:List zA},cl[i]?=some cs->o+l.length<=sz->pJ cl.flatten (i*sz+o) l=(cl.set i (pJ cs o l)).flatten:=by
 intro cl h i o cs l hi ho;have hlt:i<cl.length:=(ybc.1 hi).1
 have hcs:=h i cs hi
 have hfl:=aX h
 have hb:i*sz+sz<=cl.length*sz:=by
  have:=ybi sz (show i+1<=cl.length by omega)
  grind
 have hov:(pJ cs o l).length=sz:=by grind [Xh]
 have h':∀(k:Nat) c,(cl.set i (pJ cs o l))[k]?=some c->c.length=sz:=by
  grind
 have hfl':=aX h'
 rw[ydh]at hfl'
 have hsz:∀k,k<cl.length*sz->k / sz<cl.length/\k%sz<sz:=by
  intro k hk;have hpos:0<sz:=by
   grind
  simp_all [ycu,ybh,ycy]
 apply List.ext_getElem?
 intro k;rw[Ed (by omega)]
 by_cases hk:k<cl.length*sz
 ·obtain⟨k1,k2⟩:=hsz k hk
  have hdm:=ych k sz
  have hkk:k=k / sz*sz+k%sz:=by grind
  have hq:cl[k / sz]?=some cl[k / sz]:=ybd k1
  have hql:=h _ _ hq
  have e1:cl.flatten[k]?=cl[k / sz][k%sz]?:=by
   grind [kU]
  have e2:∀c,(cl.set i (pJ cs o l))[k / sz]?=some c->(cl.set i (pJ cs o l)).flatten[k]?=c[k%sz]?:=by
   grind [kU]
  by_cases hi2:k / sz=i
  ·grind [Ed]
  ·have hc:(cl.set i (pJ cs o l))[k / sz]?=some cl[k / sz]:=by grind
   rw[e2 _ hc,e1,yaa];intro⟨a1,a2⟩
   apply hi2
   have hpos:0<sz:=by omega
   exact Nat.div_eq_of_lt_le (by omega) (by grind)
 grind
end
end
section
variable {k n:Nat}{t':Tr vA}
structure kD where
 blks:List Nat
 ok:Tr vA->Tr vA->Prop
 keep:∀ {tf t tf' t':Tr vA},ok tf t->aA tf tf'->(∀k∈blks,t'.get k=t.get k/\tf'.get k=none)->ok tf' t'
 live:∀ {tf t:Tr vA},ok tf t->∀k∈blks,∃y,t.get k=some y
structure lA (base:Nat) (tf t:Tr vA) (l:List kD):Prop where
 tle:aA tf t
 nodup:(l.flatMap kD.blks).Nodup
 ok:∀o∈l,o.ok tf t
 low:∀k∈l.flatMap kD.blks,base<=k/\tf.get k=none
def aG (v:zA):List Nat:=match v with | .slice b _ _ _=>[b] | _=>[]
theorem sZ{v:zA}{k:Nat}:k∈aG v ↔ iQ v k:=by
 unfold aG iQ;grind
def jB (b:Nat)(lo:Option Lo)(cs:List zA):kD where
 blks:=[b]
 ok:=fun _ t=>yD t b lo cs
 keep:=fun h _ k=>h.off (k b (by simp)).1
 live:=fun h k hk=>by rw[ydd]at hk;subst hk;obtain⟨c,hc,_⟩:=h;simp_all
def bB(base sz:Nat)(l:List D)(v:zA):kD where
 blks:=aG v
 ok:=fun tf t=>eL base tf t sz l v
 keep:=fun h hf k=>h.keep hf fun b hb=>k b (sZ.2 hb)
 live:=fun h k hk=>(h.none (sZ.1 hk)).2.2
section
variable {base:Nat}{tf t:Tr vA}{l A B:List kD}{o o':kD}
theorem lA.live(h:lA base tf t l) (hk:k∈l.flatMap kD.blks):∃y,t.get k=some y:=by
 obtain⟨o,ho,hk⟩:=List.mem_flatMap.1 hk
 exact o.live (h.ok o ho) k hk
theorem lA.fresh(h:lA base tf t l) (hn:t.get n=none):n∉l.flatMap kD.blks:=by
 intro hm;obtain⟨y,hy⟩:=h.live hm
 simp_all
theorem lA.tfn(h:lA base tf t l) (hn:t.get n=none):tf.get n=none:=by
 cases hq:tf.get n with
 | none=>rfl
 | some y=>have:=h.tle _ _ hq;simp_all
theorem lA.keep(h:lA base tf t l){tf':Tr vA}(hf:aA tf tf')(ht:aA tf' t')(hk:∀k∈l.flatMap kD.blks,t'.get k=t.get k/\tf'.get k=none):lA base tf' t' l:=
 ⟨ht,h.nodup,fun o ho=>o.keep (h.ok o ho) hf fun k hk'=>hk k (List.mem_flatMap.2 ⟨o,ho,hk'⟩),fun k hk'=>⟨(h.low k hk').1,(hk k hk').2⟩⟩
theorem lA.junk(h:lA base tf t l)  (hn:t.get n=none)(ho:fF n t t'):lA base tf t' l:=
 h.keep (aA.refl _) (h.tle.off (h.tfn hn) ho) fun k hk=>⟨ho k (fun e:k=n=>h.fresh hn (e ▸ hk)),(h.low k hk).2⟩
def lA.other(h:lA base tf t l)  (hn:n∉l.flatMap kD.blks)(hf:tf.get n=none)(ho:fF n t t'):lA base tf t' l:=
 h.keep (aA.refl _) (h.tle.off hf ho) fun k hk=>⟨ho k (fun e:k=n=>hn (e ▸ hk)),(h.low k hk).2⟩
theorem lA.froze(h:lA base tf t l) {y:vA}(hn:n∉l.flatMap kD.blks)(hy:t.get n=some y)(hf:tf.get n=none):lA base (tf.set n y) t l/\aA tf (tf.set n y):=by
 have h1:=(qL (t:=tf) hf y).1
 refine⟨h.keep h1 (fun k u hk=>?_) fun k hk=>⟨rfl,?_⟩,h1⟩
 ·rw[Tr.get_set]at hk
  split at hk
  ·simp_all
  ·exact h.tle _ _ hk
 ·rw[Tr.get_set,yaa (fun e:k=n=>hn (e ▸ hk))];exact(h.low k hk).2
def Rv:(A++o::B).flatMap kD.blks=A.flatMap kD.blks++(o.blks++B.flatMap kD.blks):=by simp
theorem lA.upd(h:lA base tf t (A++o::B)) (hk:∀k,k∉o.blks->k∉o'.blks->t'.get k=t.get k)(hn:∀k∈o'.blks,k∈o.blks\/(t.get k=none/\base<=k))(hok:o'.ok tf t')(hnd:o'.blks.Nodup)(ht:aA tf t'):lA base tf t' (A++o'::B):=by
 have hd:=h.nodup
 rw[Rv]at hd;rw[List.nodup_append]at hd;obtain⟨d1,d2,d3⟩:=hd
 rw[List.nodup_append]at d2;obtain⟨d4,d5,d6⟩:=d2
 have oth:∀k,k∈A.flatMap kD.blks\/k∈B.flatMap kD.blks->k∉o.blks/\k∉o'.blks/\t'.get k=t.get k/\base<=k/\tf.get k=none:=by
  intro k hk';have hm:k∈(A++o::B).flatMap kD.blks:=by rw[Rv];simp only[yaf];rcases hk' with h | h<;>simp[h]
  have h1:k∉o.blks:=fun hc=>by
   grind
  have h2:k∉o'.blks:=fun hc=>by
   rcases hn k hc with h' | h'
   ·grind
   ·obtain⟨y,hy⟩:=h.live hm
    simp_all
  exact⟨h1,h2,hk k h1 h2,h.low k hm⟩
 have mem:∀k,k∈(A++o'::B).flatMap kD.blks->(k∈A.flatMap kD.blks\/k∈B.flatMap kD.blks)\/k∈o'.blks:=by
  grind
 refine⟨ht,?_,fun p hp=>?_,fun k hk'=>?_⟩
 ·grind
 ·have hp':p∈A\/p=o'\/p∈B:=by simp_all
  rcases hp' with h' | h' | h'
  ·exact p.keep (h.ok p (by simp[h'])) (aA.refl _) fun k hk'=>by
    grind
  ·simp_all
  ·exact p.keep (h.ok p (by simp[h'])) (aA.refl _) fun k hk'=>by
    grind
 ·rcases mem k hk' with h' | h'
  ·simp_all
  ·rcases hn k h' with h'' | h''
   ·exact h.low k (by simp_all)
   ·exact⟨h''.2,h.tfn h''.1⟩
def Qk:kD:=⟨[],fun _ _=>True,fun _ _ _=>trivial,fun _ _ h=>by cases h⟩
theorem lA.add(h:lA base tf t (A++B)) (hk:∀k,k∉o'.blks->t'.get k=t.get k)(hn:∀k∈o'.blks,t.get k=none/\base<=k)(hok:o'.ok tf t')(hnd:o'.blks.Nodup)(ht:aA tf t'):lA base tf t' (A++o'::B):=by
 have e:lA base tf t (A++Qk::B):=by
  have hm:(A++Qk::B).flatMap kD.blks=(A++B).flatMap kD.blks:=by simp[Qk]
  refine⟨h.tle,by rw[hm];exact h.nodup,fun o ho=>?_,fun k hk=>h.low k (by simp_all)⟩
  have:o∈A\/o=Qk\/o∈B:=by simp_all
  rcases this with h' | h' | h'
  ·exact h.ok o (by simp[h'])
  ·subst h';trivial
  ·exact h.ok o (by simp[h'])
 exact e.upd (fun k _ h2=>hk k h2) (fun k hk=>.inr (hn k hk)) hok hnd ht
theorem lA.drop(h:lA base tf t (A++o::B)):lA base tf t (A++B):=by
 have hd:=h.nodup
 rw[Rv]at hd;refine⟨h.tle,?_,fun p hp=>h.ok p (by rcases yaf.1 hp with h | h<;>simp[h]),fun k hk=>h.low k (by rw[Rv];rw[List.flatMap_append]at hk;rcases yaf.1 hk with h | h<;>simp[h])⟩
 grind
theorem lA.notin(h:lA base tf t (A++o::B)) (hk:k∈o.blks):k∉(A++B).flatMap kD.blks:=by
 have hd:=h.nodup
 grind
def lA.freezeL{sz:Nat}{m:List D}{v:zA}(h:lA base tf t (A++bB base sz m v::B)):∃tf',aA tf tf'/\lA base tf' t (A++B)/\bA tf' sz m v:=by
 have hl:eL base tf t sz m v:=h.ok (bB base sz m v) (by simp)
 obtain⟨tf',h1,h2,h3,h4⟩:=hl.freeze h.tle
 refine⟨tf',h1,h.drop.keep h1 h2 fun k hk=>⟨rfl,?_⟩,h3⟩
 have hb:¬ iQ v k:=fun hb=>h.notin (o:=bB base sz m v) (sZ.2 hb) hk
 rw[h4 k hb];exact(h.drop.low k hk).2
end
end
section
variable {b cap el n:Nat}{x:zA}
section
variable {t tf:Tr vA}{C:oA}
theorem ZQ{T sz:Nat}(hT:eJ C T el sz){l:List D} (hx:bA tf sz l x)(ht:aA tf t)(hl:l.length<1000000) (hn:t.get n=none) :
  ∃v k t' tf',gE C T T .nilslice x ⟨n,t⟩=some (v,⟨k,t'⟩)/\bA tf' sz l v/\aA tf tf'/\aA tf' t'/\aA t t'/\fF n t t'/\fF n tf tf':=by
 obtain⟨⟨y,hy1,hy2,hy3⟩,⟨z,hz1,hz2,hz3,hz4,hz5⟩,hnb⟩:=hT
 have hcode:=NB.code hnb hz1
 obtain⟨cl,he,hd⟩:=hx
 have hcl:=hd.length
 obtain⟨hf,hlen⟩:=(he.mono ht).first (n:=n)
 have hall:=he.len
 have base:gE C T T .nilslice x ⟨n,t⟩=gQ ⟨n,t⟩ el z cl.length cl.flatten:=by
  unfold gE sS;rw[hy1,qA,qA,hy3];simp only[ycl,yE];rw[hy2,qA,hz1,qA,hlen,qA,hz2,hf,qA];rfl
 have hfl:zB cl.flatten=cl.length*sz:=by grind [oD,aX]
 have ok:aR z 0 0 cl.length cl.flatten=true:=by
  unfold aR;have h1:Nat.blt (0+cl.length+0) 1000000000=true:=qC.2 (by omega)
  have h2:Nat.blt ((0+cl.length+0)*z.bytes) 1000000000=true:=qC.2 (by
   have:=ydb (show 0+cl.length+0<=1000000 by omega) hz4
   omega)
  grind [qC,mC]
 have hfn:tf.get n=none:=by
  cases hq:tf.get n with
  | none=>rfl
  | some u=>rw[ht _ _ hq]at hn;cases hn
 by_cases h0:cl.length=0
 ·have:cl=[]:=ycc.1 h0
  subst this;refine⟨.nilslice,n,t,tf,?_,⟨[],.inl ⟨rfl,rfl⟩,hd⟩,aA.refl _,ht,aA.refl _,fF.refl _ _,fF.refl _ _⟩
  rw[base];rfl
 ·have hb:Nat.beq cl.length 0=false:=by
   grind [mC]
  refine⟨.slice n 0 cl.length cl.length,n+1,t.set n (.cells (Tr.ofList cl.flatten) (zB cl.flatten) (some (dM el z))),tf.set n (.cells (Tr.ofList cl.flatten) (zB cl.flatten) (some (dM el z))),?_,⟨cl,Se hall (by rw[Tr.get_set,yab rfl]) (.inr ⟨_,rfl,by rw[Fl,hz2]⟩),wD.mono (qL hfn _).1 _ _ hd⟩,(qL hfn _).1,fun k u hk=>?_,(qL hn _).1,(qL hn _).2,(qL hfn _).2⟩
  ·rw[base]
   unfold gQ;rw[hb,cond_false,ok];rfl
  ·rw[Tr.get_set]at hk ⊢
   split at hk
   ·simp_all
   ·rename_i e;rw[yaa e];exact ht _ _ hk
theorem ZM{T k m:Nat}{cs:List zA}{lo:Option Lo} {cm:List (List zA)}(hT:Tl C T el 1)(hc:yD t b lo cs)(hb:C.base<=b)(hx:sM t 1 x cm)(hm:cm.length=m)(h0:0<m)(hk:k+m<=cap)(hcap:cap<=cs.length)(hone:∀a∈cm.flatten,zA.one a=true) :
  ∃t',gE C T T (.slice b 0 k cap) x ⟨n,t⟩=some (.slice b 0 (k+m) cap,⟨n,t'⟩)/\yD t' b lo (pJ cs k cm.flatten)/\fF b t t':=by
 obtain⟨⟨y,hy1,hy2,hy3⟩,⟨z,hz1,hz2,hz3,hz4,hz5⟩⟩:=hT
 obtain⟨hf,hlen⟩:=hx.first (n:=n)
 have hfl:=aX hx.len
 rw[Nat.mul_one,hm]at hfl;obtain⟨c,h1,h2⟩:=hc
 have hne:cm.flatten≠[]:=by grind
 refine⟨t.set b (.cells (c.setMany cm.flatten k) cs.length lo),?_,⟨c.setMany cm.flatten k,by rw[Tr.get_set,yab rfl,Xh (by omega)],fun j a hj=>?_⟩,fun d hd=>by rw[Tr.get_set,yaa hd]⟩
 ·unfold gE sS
  rw[hy1,qA,qA,hy3];simp only[ycl,yE];rw[hy2,qA,hz1,qA,hlen,qA,hz2,hf,qA];simp only[zA.asSlice,hm];rw[oE.2 hk,cond_true];unfold rW
  cases hq:cm.flatten with
  | nil=>simp_all
  | cons a r=>
   simp only[hz2,Nat.mul_one,ybw];rw[<- hq];unfold yJ qE;have e2:(!Nat.blt b C.base)=true:=by
    grind [qC]
   rw[e2,yE,h1,qA];simp only[vA.asCells,qA];have e3:Nat.ble (k+zB cm.flatten) cs.length=true:=by grind [oD,oE]
   have e4:fB zA.one cm.flatten=true:=by grind [jH]
   rw[e3,e4];rfl
 grind [Ed,Tr.get_setMany]
theorem UE{T:Nat}{y z:lD}{k:IntKind}(hT:C.tys.get T=some y)(hel:y.desc.asSlice=some el)(hz:C.tys.get el=some z)(hzero:z.zero=[.int k 0])(hs:z.size=1)(hby:z.bytes<=8)(hn:cap<1000000) (hb:t.get b=none) :
  ∃t',uP C T (.int .i64 0) (.int .i64 (cap:Int)) ⟨b,t⟩=some (.slice b 0 0 cap,⟨b+1,t'⟩)/\yD t' b none (List.replicate cap (.int k 0))/\aA t t'/\fF b t t':=by
 have hrep:∀n,tI [zA.int k 0] n=List.replicate n (.int k 0):=by
  intro n;induction n with
  | zero=>rfl
  | succ n ih=>grind [tI,iG]
 obtain⟨t',h1,h2,h3,h4⟩:=Xw hb (List.replicate cap (.int k 0)) none
 refine⟨t',?_,h2,h3,h4⟩
 unfold uP;rw[hT,qA,hel,qA,hz,qA];have e1:(zA.int .i64 (cap:Int)).asNat=some cap:=rfl
 have e0:(zA.int .i64 0).asNat=some 0:=rfl
 rw[e1,e0,qA,qA];have e2:(Nat.ble 0 cap&&Nat.blt cap 1000000&&Nat.blt (cap*z.bytes) 1000000000&&Nat.beq (zB z.zero) z.size)=true:=by
  rw[hzero,hs,show Nat.ble 0 cap=true from oE.2 (yaw _),qC.2 hn]
  have:cap*z.bytes<1000000000:=by
   have:=ydb (Nat.le_of_lt hn) hby
   omega
  rw[qC.2 this];rfl
 rw[e2,yE,hzero,hrep,h1]
end
end
end Go.Am
namespace Go.Am
open Go
section
variable {C:oA}{t tf:Tr vA}
def cellsK(k:IntKind)(l:List Nat):List (List zA):=l.map fun(x:Nat)=>[zA.int k (x:Int)]
theorem BE{k:IntKind}:∀ {l:List Nat} {cl:List (List zA)},wD t (rC k l) cl ↔ cl=cellsK k l
 | [],cl=>by
  show wD t [] cl ↔ cl=[]
  exact wF
 | x::l,cl=>by
  show wD t (.int k (x:Int)::rC k l) cl ↔ cl=[.int k (x:Int)]::cellsK k l
  rw[dC];constructor
  ·rintro⟨c,r,rfl,h1,h2⟩
   rw[aJ]at h1;rw[h1,BE.1 h2]
  ·rintro rfl
   exact⟨_,_,rfl,aJ.2 rfl,BE.2 rfl⟩
end
end Go.Am
namespace Go.Am
variable {B U V a b d head m top u2 ur v2 vr:Nat}{l:List Nat}
def kn_ge (hU:U=(head*B+u2)*B^m+ur)(hur:ur<B^m)(hu2:u2<B)(hV:V=(top*B+v2)*B^m+vr)(htop:0<top):U / V<=head / top:=by
 have hBm:0<B^m:=by omega
 rw[Nat.le_div_iff_mul_le htop];have h1:U / V*V<=U:=Nat.div_mul_le_self U V
 have h2:top*B*B^m<=V:=by
  grind
 have h3:U<(head+1)*B*B^m:=by
  have:head*B+u2+1<=(head+1)*B:=by grind
  have:=ybi (B^m) this
  grind
 have h4:U / V*top*(B*B^m)<(head+1)*(B*B^m):=by
  calc U / V*top*(B*B^m)=U / V*(top*B*B^m):=by rw[ybj,ybj]
   _<=U / V*V:=ybv _ h2
   _<=U:=h1
   _<(head+1)*B*B^m:=h3
   _=(head+1)*(B*B^m):=by rw[ybj]
 exact Nat.lt_succ_iff.1 (Nat.lt_of_mul_lt_mul_right h4)
def kn_gt (hU:U=(head*B+u2)*B^m+ur)(hur:ur<B^m)(hV:V=(top*B+v2)*B^m+vr)(h:head*B+u2<d*(top*B+v2)):U / V<d:=by
 rcases yau (U / V) d with g | g
 ·exact g
 ·exfalso
  have h1:U / V*V<=U:=Nat.div_mul_le_self U V
  have h2:d*V<=U:=Nat.le_trans (ybi _ g) h1
  have h3:d*(top*B+v2)*B^m<=d*V:=by simp_all [ybj,ybv]
  have h4:=ybi (B^m) (show head*B+u2+1<=d*(top*B+v2) from h)
  grind
def kn_le (hB:0<B)(hU:U=(head*B+u2)*B^m+ur)(hV:V=(top*B+v2)*B^m+vr)(hvr:vr<B^m)(htop:0<top)(hd:d<=B)(h:d*(top*B+v2)<=head*B+u2):d<=U / V+1:=by
 have hVpos:0<V:=by
  rw[hV];have:0<top*B+v2:=by have:=Nat.mul_pos htop hB;omega
  have:=Nat.mul_pos this (show 0<B^m by omega)
  omega
 rcases yau (U / V+1) d with g | g
 ·exfalso
  have h1:(d-1)*V<=U:=by
   have e1:d*V<=d*((top*B+v2)*B^m)+d*B^m:=by
    simp_all [ybm,ybv,Nat.le_of_lt]
   have e2:d*((top*B+v2)*B^m)<=(head*B+u2)*B^m:=by rw[<- ybj];exact ybi _ h
   have e3:d*B^m<=V:=by
    have:d*B^m<=top*B*B^m:=by
     refine ybi _ (Nat.le_trans hd ?_)
     exact yan _ htop
    grind
   grind [Nat.sub_mul]
  have:=(Nat.le_div_iff_mul_le hVpos).2 h1
  omega
 ·exact g
def top2 (hB:0<B)  (hlt:mB B l)(hl:l.length=m+2)(ha:l[m+1]?=some a)(hb:l[m]?=some b):val B l=(a*B+b)*B^m+val B (l.take m)/\val B (l.take m)<B^m:=by
 have e1:=Df B l m
 have hlen:(l.take m).length=m:=by grind
 rw[hlen]at e1;have e2:l.drop m=[b,a]:=by
  rw[fQ hb,fQ ha,List.drop_of_length_le (by omega)]
 grind [val,vP,Co]
def top3 (hB:0<B) {c:Nat}(hlt:mB B l)(hl:l.length=m+3)(ha:l[m+2]?=some a)(hb:l[m+1]?=some b)(hc:l[m]?=some c):val B l=((a*B+b)*B+c)*B^m+val B (l.take m)/\val B (l.take m)<B^m:=by
 have e1:=Df B l m
 have hlen:(l.take m).length=m:=by grind
 rw[hlen]at e1;have e2:l.drop m=[c,b,a]:=by
  rw[fQ hc,fQ hb,fQ ha,List.drop_of_length_le (by omega)]
 grind [val,vP,Co]
end Go.Am
namespace Go.Proofs
open Go Go.Am
variable {b cap d j x:Nat}{A Z lv w:List Nat}{v:zA}{t0:Tr vA}{Q:sB}
variable [eC]
variable {t:Tr vA}
def BB:Nat:=4294967296
def tO:BB=4294967296:=rfl
def rJ:0<BB:=by decide
theorem Rl{T el:Nat}(h:zH yA T el 1 false){off n:Nat}(hj:j<n):xC yA T (.slice b off n cap) (.int .i64 (j:Int))=some (.ptr b (off+j)):=by
 have:=Aw (b:=b) (off:=off) (cap:=cap) h hj
 simp_all
theorem Hg  (h:w[j]?=some x):(A++w++Z)[A.length+j]?=some x:=by
 grind
def Lj  (h:j<w.length):(A++w++Z).set (A.length+j) x=A++w.set j x++Z:=by
 rw[ybz,List.set_append_right _ _ (by omega),Nat.add_sub_cancel_left,List.set_append_left _ _ h,ybz]
theorem ZX     (hv:bA t0 1 (rC .u32 lv) v)(hl:lv.length<900000)(hlv:mB BB lv)(hbase:yA.base<=b)(hb:t0.get b=none)(hd:0<d)(hd2:d<=BB)(W:List Nat)(hWl:W.length=lv.length)(hWlt:mB BB W)(last:Nat)(hlast:last<BB)(hcap:lv.length+1<=cap)
  (hQ:∀t' r up,fF b t t'->rG t' b .u32 (A++(r++[(last+up)%BB])++Z)->r.length=lv.length->mB BB r->up<2->val BB r+BB^lv.length*up=val BB W+val BB lv->Q (.int .u32 ((d-1:Nat):Int)) t') :
  ∀(k i up:Nat) (t':Tr vA) (r:List Nat),i+k=lv.length->aA t0 t'->fF b t t'->rG t' b .u32 (A++(r++(W++[last]).drop i)++Z)->r.length=i->mB BB r->up<2->val BB r+BB^i*up=val BB (W.take i)+val BB (lv.take i) →
  jp 178 10 [.slice b A.length (lv.length+1) cap,.int .i64 lv.length,.int .u64 d,.int .u32 up,v,.int .i64 lv.length,.int .i64 i] t' Q:=by
 intro k;induction k with
 | zero=>
  intro i up t' r hi ht hoff ho hr hrl hup hval;have hi':i=lv.length:=by omega
  subst hi'
  have hdrop:(W++[last]).drop lv.length=[last]:=by simp_all
  rw[hdrop]at ho;refine JC ?_
  have g1:=Rl dG (b:=b) (off:=A.length) (n:=lv.length+1) (cap:=cap) (j:=lv.length) (by omega)
  have hget:(r++[last])[lv.length]?=some last:=by simp_all
  have g2:=ho.load (Hg (A:=A) (Z:=Z) hget) dH rfl
  obtain⟨t1,s1,s2,s3⟩:=ho.store (C:=yA) hbase (j:=A.length+lv.length) (by grind) ((last+up)%BB) dH rfl
  rw[Lj (by grind)]at s2
  have hset:(r++[last]).set lv.length ((last+up)%BB)=r++[(last+up)%BB]:=by simp_all
  rw[hset]at s2;have e1:cA .u32 ((last:Int)+(up:Int))=(((last+up)%BB:Nat):Int):=by rw[jT];show _=(((last+up)%4294967296:Nat):Int);omega
  simp only[uL,tD,uX,uZ,Uy,pA,jF,g1,g2,sA,yC,e1];rw[yaa (by omega)]
  intro _ _ _;rw[s1];simp only[sA];rw[yca (by omega),yca (by omega)]at hval
  have e2:cA .u32 (cA .u64 ((d:Int)-1))=((d-1:Nat):Int):=by
   have:d<=4294967296:=hd2
   grind [eF,iT]
  rw[e2];exact hQ t1 r up (hoff.trans s3) s2 hr hrl hup hval
 | succ k ih=>
  intro i up t' r hi ht hoff ho hr hrl hup hval;obtain⟨x,hx⟩:=getElem?_of_lt (l:=lv) (i:=i) (by omega)
  obtain⟨y,hy⟩:=getElem?_of_lt (l:=W) (i:=i) (by omega)
  have hxlt:x<BB:=xL hlv hx
  have hylt:y<BB:=xL hWlt hy
  obtain⟨c,off,g1,g2⟩:=(hv.mono ht).idx dG hx
  have hy':(W++[last])[i]?=some y:=by grind
  have hdrop:(W++[last]).drop i=y::(W++[last]).drop (i+1):=fQ hy'
  have g3:=Rl dG (b:=b) (off:=A.length) (n:=lv.length+1) (cap:=cap) (j:=i) (by omega)
  have hget:(r++(W++[last]).drop i)[i]?=some y:=by simp_all
  have g4:=ho.load (Hg (A:=A) (Z:=Z) hget) dH rfl
  have hlen:i<(r++(W++[last]).drop i).length:=by simp_all
  obtain⟨t1,s1,s2,s3⟩:=ho.store (C:=yA) hbase (j:=A.length+i) (by grind) ((y+x+up)%BB) dH rfl
  rw[Lj hlen]at s2;have hset:(r++(W++[last]).drop i).set i ((y+x+up)%BB)=(r++[(y+x+up)%BB])++(W++[last]).drop (i+1):=by
   simp_all
  rw[hset]at s2;have hadd:=zdm (t:=t') (x:=y) (y:=x) (c:=up) hylt hxlt hup
  refine JC ?_
  simp (disch:=omega) only[uL,tD,uX,uZ,Uy,pA,jF,g1,g2,g3,g4,sA,yC,q186,hadd,yH,zA.asTup,qA,xH,yaz,yba,iC]
  rw[yab (by omega)]
  intro _ _ _;have s1':∀n,zC yA 56 (.ptr b (A.length+i)) (.int .u32 (((y+x+up)%4294967296:Nat):Int)) ⟨n,t'⟩=some (dD,⟨n,t1⟩):=s1
  rw[s1'];simp only[sA];refine ih (i+1) ((y+x+up) / BB) t1 _ (by omega) (ht.off hb s3) (hoff.trans s3) s2 (by simp[hr]) (sY hrl (ycy _ (by decide))) ?_ ?_
  ·have h1:y<4294967296:=hylt
   have h2:x<4294967296:=hxlt
   show(y+x+up) / 4294967296<2
   omega
  ·rw[jN,hr,xQ hx,xQ hy,jN,jN]
   grind [Nat.div_add_mod]
theorem DG{u low bo:Nat}(hu:u<BB)(hl:low<BB)(hb:bo<2):∃w b',w<BB/\b'<2/\u+BB*b'=w+low+bo ∧
  cA .u32 (cA .u64 (cA .u64 ((u:Int)-(low:Int))-(bo:Int)))=(w:Int)/\Int.fdiv (cA .u64 (cA .u64 ((u:Int)-(low:Int))-(bo:Int))) 9223372036854775808=(b':Int):=by
 have hu:u<4294967296:=hu
 have hl:low<4294967296:=hl
 rcases yau u (low+bo)with g | g
 ·refine⟨u+BB-low-bo,1,by omega,by omega,by omega,?_,?_⟩
  ·rw[jT,Nu,Nu];show _=((u+4294967296-low-bo:Nat):Int);omega
  grind [Nu]
 ·refine⟨u-low-bo,0,by omega,by omega,by omega,?_,?_⟩
  all_goals grind [jT,Nu]
theorem TW{lu:List Nat}    (hv:bA t0 1 (rC .u32 lv) v)(hl:lv.length<900000)(hlv:mB BB lv)(hbase:yA.base<=b)(hb:t0.get b=none)(hd:d<BB)(hlul:lu.length=lv.length+1)(hlu:mB BB lu)(hcap:lv.length+1<=cap)
  (hQ:∀t' (W:List Nat) last bo,aA t0 t'->fF b t t'->rG t' b .u32 (A++(W++[last])++Z)->W.length=lv.length->mB BB W->last<BB->bo<2->val BB (W++[last])+d*val BB lv=val BB lu+BB^(lv.length+1)*bo →
   if bo=0 then Q (.int .u32 (d:Int)) t' else jp 178 10 [.slice b A.length (lv.length+1) cap,.int .i64 lv.length,.int .u64 d,.int .u32 0,v,.int .i64 lv.length,.int .i64 (0:Nat)] t' Q) :
  ∀(k i carry borrow:Nat) (t':Tr vA) (W:List Nat),i+k=lv.length->aA t0 t'->fF b t t'->rG t' b .u32 (A++(W++lu.drop i)++Z)->W.length=i->mB BB W->carry<BB->borrow<2->val BB W+d*val BB (lv.take i)=val BB (lu.take i)+BB^i*(carry+borrow) →
  jp 178 6 [.slice b A.length (lv.length+1) cap,v,.int .i64 lv.length,.int .u64 d,.int .u64 carry,.int .u64 borrow,v,.int .i64 lv.length,.int .i64 i] t' Q:=by
 intro k;induction k with
 | zero=>
  intro i carry borrow t' W hi ht hoff ho hW hWl hc hbo hval;have hi':i=lv.length:=by omega
  subst hi'
  obtain⟨x,hx⟩:=getElem?_of_lt (l:=lu) (i:=lv.length) (by omega)
  have hxlt:x<BB:=xL hlu hx
  have hdrop:lu.drop lv.length=[x]:=by rw[fQ hx,List.drop_of_length_le (by omega)]
  rw[hdrop]at ho;obtain⟨w,bo,hw,hbo',hsum,e1,e2⟩:=DG hxlt hc hbo
  have g1:=Rl dG (b:=b) (off:=A.length) (n:=lv.length+1) (cap:=cap) (j:=lv.length) (by omega)
  have hget:(W++[x])[lv.length]?=some x:=by simp_all
  have g2:=ho.load (Hg (A:=A) (Z:=Z) hget) dH rfl
  obtain⟨t1,s1,s2,s3⟩:=ho.store (C:=yA) hbase (j:=A.length+lv.length) (by grind) w dH rfl
  rw[Lj (by grind)]at s2
  have hset:(W++[x]).set lv.length w=W++[w]:=by simp_all
  rw[hset]at s2;have hx32:x<4294967296:=hxlt
  have e0:cA .u64 (x:Int)=(x:Int):=eF (by omega) (by omega)
  refine ze3 ?_
  simp only[uI,uL,tD,uZ,Uw,pA,jF,g1,g2,sA,yC,e0,e1,e2,nJ];rw[yaa (by omega)]
  intro _ _ _;rw[s1];simp only[sA];have hfin:=hQ t1 W w bo (ht.off hb s3) (hoff.trans s3) s2 hW hWl hw hbo' (by
   grind [jN,val,Df])
  by_cases hz:bo=0
  ·rw[yab (by omega)]
   rw[yab hz]at hfin;have hd32:d<4294967296:=hd
   grind [iT]
  ·rw[yaa (by omega)]
   rw[yaa hz]at hfin;simp only[(hv.mono (ht.off hb s3)).len,sA,yC,uJ]
   exact hfin
 | succ k ih=>
  intro i carry borrow t' W hi ht hoff ho hW hWl hc hbo hval;obtain⟨x,hx⟩:=getElem?_of_lt (l:=lu) (i:=i) (by omega)
  obtain⟨y,hy⟩:=getElem?_of_lt (l:=lv) (i:=i) (by omega)
  have hxlt:x<BB:=xL hlu hx
  have hylt:y<BB:=xL hlv hy
  have hd32:d<4294967296:=hd
  have hx32:x<4294967296:=hxlt
  have hy32:y<4294967296:=hylt
  have hc32:carry<4294967296:=hc
  have hdrop:lu.drop i=x::lu.drop (i+1):=fQ hx
  obtain⟨c,off,g1,g2⟩:=(hv.mono ht).idx dG hy
  have g3:=Rl dG (b:=b) (off:=A.length) (n:=lv.length+1) (cap:=cap) (j:=i) (by omega)
  have hget:(W++lu.drop i)[i]?=some x:=by simp_all
  have g4:=ho.load (Hg (A:=A) (Z:=Z) hget) dH rfl
  have hprod:d*y<=4294967295*4294967295:=ydb (by omega) (by omega)
  obtain⟨P,hP⟩:∃P,P=d*y+carry:=⟨_,rfl⟩
  have hPlt:P<18446744073709551616:=by omega
  have hPhi:P / 4294967296<4294967296:=by omega
  obtain⟨w,bo,hw,hbo',hsum,e1,e2⟩:=DG (u:=x) (low:=P%4294967296) (bo:=borrow) hxlt (ycy _ (by decide)) hbo
  obtain⟨t1,s1,s2,s3⟩:=ho.store (C:=yA) hbase (j:=A.length+i) (by simp_all) w dH rfl
  rw[Lj (by simp_all)]at s2
  have hset:(W++lu.drop i).set i w=(W++[w])++lu.drop (i+1):=by simp_all
  rw[hset]at s2;have e0:cA .u64 (x:Int)=(x:Int):=eF (by omega) (by omega)
  have e0':cA .u64 (y:Int)=(y:Int):=eF (by omega) (by omega)
  have e3:(d:Int)*(y:Int)=((d*y:Nat):Int):=(Int.natCast_mul d y).symm
  have e4:cA .u64 ((d*y:Nat):Int)=((d*y:Nat):Int):=by
   grind [eF]
  have e5:cA .u64 (((d*y:Nat):Int)+(carry:Int))=(P:Int):=by
   rw[hP,<- Int.natCast_add];grind [eF]
  have e6:cA .u64 (cA .u32 (P:Int))=((P%4294967296:Nat):Int):=by
   grind [jT,eF]
  have e7:Int.fdiv (P:Int) 4294967296=((P / 4294967296:Nat):Int):=Cf P 4294967296
  refine ze3 ?_
  simp only[uI,uL,tD,uZ,Uw,pA,jF,g1,g2,g3,g4,sA,yC,e0,e0',e3,e4,e5,e6,e7,e1,e2];rw[yab (by omega)]
  intro _ _ _;rw[s1];simp (disch:=omega) only[sA,iC]
  refine ih (i+1) (P / 4294967296) bo t1 _ (by omega) (ht.off hb s3) (hoff.trans s3) s2 (by simp[hW]) (sY hWl hw) hPhi hbo' ?_
  rw[jN,hW,xQ hx,xQ hy,jN,jN];have l1:(lu.take i).length=i:=by simp;omega
  have l2:(lv.take i).length=i:=by simp;omega
  grind [Nat.div_add_mod,BB]
attribute [irreducible] BB
end Go.Proofs
namespace Go.Proofs
open Go Go.Am
variable [eC]
variable {t:Tr vA}
theorem or32{x y:Nat}(hx:x<4294967296)(hy:y<4294967296):kI Nat.lor .u64 ((x*4294967296:Nat):Int) (y:Int)=some (.int .u64 ((x*4294967296+y:Nat):Int)):=by
 have h:=Dr (a:=x) (b:=y) (n:=32) hy
 have e:(2:Nat)^32=4294967296:=by decide
 rw[e]at h;rw[mU (k:=.u64) (show x*4294967296<cG .u64 by show _<18446744073709551616;omega) (show y<cG .u64 by show _<18446744073709551616;omega),h]
theorem VQ{lu lv:List Nat}{u v:zA}{Q:sB}{m head top u2 v2 U V ur vr:Nat}(hu:bA t 1 (rC .u32 lu) u)(hv:bA t 1 (rC .u32 lv) v)(hl:m<900000)(hu2:lu[m]?=some u2)(hv2:lv[m]?=some v2)(hu2lt:u2<BB)(hv2lt:v2<BB)(htop:0<top)(htoplt:top<BB)
  (hU:U=(head*BB+u2)*BB^m+ur) (hur:ur<BB^m) (hV:V=(top*BB+v2)*BB^m+vr) (hvr:vr<BB^m) (hq:U / V<BB) (hhead:head<=top*BB+(BB-1))
  (hexit:∀d,U / V<=d->d<=U / V+1->d<BB->jp 178 19 [u,v,.int .i64 (m+2:Nat),.int .u64 d] t Q) :
  ∀(d rest:Nat),d*top+rest=head->U / V<=d->d<=BB+1->rest<BB->jp 178 2 [u,v,.int .i64 (m+2:Nat),.int .u64 top,.int .u64 d,.int .u64 rest] t Q:=by
 intro d;induction d with
 | zero=>
  intro rest hsum hge _ hrest;have hBB:=tO
  have hr32:rest<4294967296:=by omega
  obtain⟨b,off,g1,g2⟩:=hv.idx dG hv2
  obtain⟨c,off',g3,g4⟩:=hu.idx dG hu2
  have hu32:u2<4294967296:=by omega
  have hv32:v2<4294967296:=by omega
  obtain⟨D,hD⟩:∃D:Int,((0:Nat):Int)=D:=⟨_,rfl⟩
  rw[hD];refine ze4 ?_
  unfold Ux uQ11 uL uE uZ uW;generalize hC:(4294967296:Int)=C
  generalize hG:kI Nat.lor .u64 (cA .u64 ((rest:Int)*C))=G
  have e4:D*(v2:Int)=0:=by grind
  have e1:((m+2:Nat):Int)-2=(m:Int):=by omega
  have e2:(rest:Int)*C=((rest*4294967296:Nat):Int):=by simp_all
  have e3:G (u2:Int)=some (.int .u64 ((rest*4294967296+u2:Nat):Int)):=by rw[<- hG,e2,eF (by omega) (by omega)];grind [or32]
  simp only[pA,aK];rw[yaa (by omega)]
  simp (disch:=omega) only[e1,iC,g1,sA]
  rw[g2];simp only[sA,yC,g3];rw[g4,sA,yC,sA,eF (n:=(u2:Int)) (by omega) (by omega),e3,sA,yC,sA,eF (n:=(v2:Int)) (by omega) (by omega),e4,eF (n:=0) (by decide) (by decide)]
  grind [jF]
 | succ d ih=>
  intro rest hsum hge hle hrest;have hBB:=tO
  have hr32:rest<4294967296:=by omega
  have ht32:top<4294967296:=by omega
  have hle32:d+1<=4294967296+1:=by omega
  have hsum':d*top+(rest+top)=head:=by grind
  obtain⟨D,hD⟩:∃D:Int,((d+1:Nat):Int)=D:=⟨_,rfl⟩
  rw[hD];have e1:D-1=(d:Int):=by omega
  have e0:(rest:Int)+(top:Int)=((rest+top:Nat):Int):=by omega
  have less:U / V<=d->(if (4294967296:Int)<=((rest+top:Nat):Int)then jp 178 19 [u,v,.int .i64 (m+2:Nat),.int .u64 d] t Q else jp 178 2 [u,v,.int .i64 (m+2:Nat),.int .u64 top,.int .u64 d,.int .u64 ((rest+top:Nat):Int)] t Q):=by
   intro hge';split
   ·rename_i hb
    have hb':BB<=rest+top:=by omega
    have hdlt:d<BB:=by
     grind
    refine hexit d hge' ?_ hdlt
    refine kn_le rJ hU hV hvr htop (Nat.le_of_lt hdlt) ?_
    have h1:d*v2<=BB*BB:=ydb (Nat.le_of_lt hdlt) (Nat.le_of_lt hv2lt)
    have h2:BB*BB<=(rest+top)*BB:=ybi _ hb'
    have h3:head*BB=d*top*BB+(rest+top)*BB:=by rw[<- hsum',ybo]
    grind
   ·rename_i hb
    exact ih (rest+top) hsum' hge' (by omega) (by omega)
  refine ze4 ?_
  unfold Ux uQ11 uL uE uZ uW;generalize hC:(4294967296:Int)=C
  generalize hG:kI Nat.lor .u64 (cA .u64 ((rest:Int)*C))=G
  by_cases hbig:4294967296<=d+1
  ·simp (disch:=omega) only[pA,aK,e0,e1,eF]
   rw[yab (by omega)]
   grind
  ·obtain⟨b,off,g1,g2⟩:=hv.idx dG hv2
   obtain⟨c,off',g3,g4⟩:=hu.idx dG hu2
   have hu32:u2<4294967296:=by omega
   have hv32:v2<4294967296:=by omega
   have e5:((m+2:Nat):Int)-2=(m:Int):=by omega
   have e2:(rest:Int)*C=((rest*4294967296:Nat):Int):=by simp_all
   have e6:cA .u64 (D*(v2:Int))=(((d+1)*v2:Nat):Int):=by
    rw[<- hD,<- Int.natCast_mul];have:(d+1)*v2<=4294967295*4294967295:=ydb (by omega) (by omega)
    grind [eF]
   have e3:G (u2:Int)=some (.int .u64 ((rest*4294967296+u2:Nat):Int)):=by rw[<- hG,e2,eF (by omega) (by omega)];grind [or32]
   simp only[pA,aK];rw[yaa (by omega)]
   simp (disch:=omega) only[e5,iC,g1,sA]
   rw[g2];simp only[sA,yC,g3];rw[g4,sA,yC,sA,eF (n:=(u2:Int)) (by omega) (by omega),e3,sA,yC,sA,eF (n:=(v2:Int)) (by omega) (by omega),e6]
   have e7:cA .u64 ((rest:Int)+(top:Int))=((rest+top:Nat):Int):=by rw[e0];exact eF (by omega) (by omega)
   have e8:cA .u64 (D-1)=(d:Int):=by rw[e1];grind [eF]
   rw[e7,e8];have key:(d+1)*(top*BB+v2)=(d+1)*top*BB+(d+1)*v2:=by rw[ybm,<- ybj]
   have key2:head*BB=(d+1)*top*BB+rest*BB:=by rw[<- hsum,ybo]
   by_cases htest:rest*4294967296+u2<(d+1)*v2
   ·rw[yab (jF.2 (by omega))]
    subst hC;refine less (Nat.lt_succ_iff.1 (kn_gt hU hur hV ?_))
    grind
   ·rw[yaa (fun h=>absurd (jF.1 h) (by omega))]
    rw[<- hD];refine hexit (d+1) hge (kn_le rJ hU hV hvr htop (by omega) ?_) (by omega)
    grind
end Go.Proofs
