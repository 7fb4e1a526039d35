/- Facts on types. (Printed by a tool.) -/
import Derived.Test.YtfmlbimokklmgaaGreatDoorB13
set_option linter.all false
noncomputable section
set_option maxRecDepth 100000
namespace Go.Proofs
open Go Go.Am
variable [jC]
theorem tM:yA.tys.get 3=some ⟨(.int .i64),1,8,[.int .i64 0],true⟩:=by kernel_rfl
theorem ty5:yA.tys.get 5=some ⟨(.int .u8),1,1,[.int .u8 0],true⟩:=by kernel_rfl
theorem zN:yA.tys.get 9=some ⟨.string,1,16,[.str []],true⟩:=by kernel_rfl
theorem kT:yA.tys.get 29=some ⟨(.struct [(0,3,1),(1,3,1)]),2,16,[.int .i64 0,.int .i64 0],true⟩:=by kernel_rfl
theorem dW:yA.tys.get 30=some ⟨(.int .i64),1,8,[.int .i64 0],true⟩:=by kernel_rfl
theorem Hm:yA.tys.get 41=some ⟨(.slice 79),1,24,[.nilslice],true⟩:=by kernel_rfl
theorem ty43:yA.tys.get 43=some ⟨(.struct [(0,4,1),(1,41,1)]),2,32,[.bool false,.nilslice],true⟩:=by kernel_rfl
theorem Hl:yA.tys.get 48=some ⟨(.slice 50),1,24,[.nilslice],true⟩:=by kernel_rfl
theorem Dr:yA.tys.get 50=some ⟨(.struct [(0,5,1),(1,9,1),(2,47,6),(8,48,1)]),9,128,[.int .u8 0,.str [],.int .u8 0,.bool false,.nilslice,.bool false,.nilslice,.int .i64 0,.nilslice],true⟩:=by kernel_rfl
theorem fG:yA.tys.get 56=some ⟨(.int .u32),1,4,[.int .u32 0],true⟩:=by kernel_rfl
theorem aQ:yA.tys.get 66=some ⟨(.slice 75),1,24,[.nilslice],true⟩:=by kernel_rfl
theorem ty75:yA.tys.get 75=some ⟨(.struct [(0,5,1),(1,9,1),(2,29,2)]),4,40,[.int .u8 0,.str [],.int .i64 0,.int .i64 0],true⟩:=by kernel_rfl
theorem rZ:yA.tys.get 79=some ⟨(.int .u16),1,2,[.int .u16 0],true⟩:=by kernel_rfl
theorem ty84:yA.tys.get 84=some ⟨(.ptr 121),1,8,[.nilptr],true⟩:=by kernel_rfl
theorem ty93:yA.tys.get 93=some ⟨(.slice 9),1,24,[.nilslice],true⟩:=by kernel_rfl
theorem ty94:yA.tys.get 94=some ⟨(.slice 3),1,24,[.nilslice],true⟩:=by kernel_rfl
theorem ty135:yA.tys.get 135=some ⟨(.map 3 9),1,8,[.nilmap],true⟩:=by kernel_rfl
theorem Rw:yA.tys.get 138=some ⟨(.struct [(0,9,1),(1,5,1)]),2,24,[.str [],.int .u8 0],true⟩:=by kernel_rfl
theorem ty145:yA.tys.get 145=some ⟨(.struct [(0,29,2),(2,9,1),(3,3,1)]),4,40,[.int .i64 0,.int .i64 0,.str [],.int .i64 0],true⟩:=by kernel_rfl
theorem Rv:yA.tys.get 161=some ⟨(.slice 138),1,24,[.nilslice],true⟩:=by kernel_rfl
theorem aK:yA.tys.get 189=some ⟨(.slice 56),1,24,[.nilslice],true⟩:=by kernel_rfl
theorem ty201:yA.tys.get 201=some ⟨(.arr 7 9),7,112,[.str [],.str [],.str [],.str [],.str [],.str [],.str []],true⟩:=by kernel_rfl
theorem ty206:yA.tys.get 206=some ⟨(.ptr 189),1,8,[.nilptr],true⟩:=by kernel_rfl
theorem nO:yA.tys.get 207=some ⟨(.int .u64),1,8,[.int .u64 0],true⟩:=by kernel_rfl
theorem ty219:yA.tys.get 219=some ⟨(.arr 12 3),12,96,[.int .i64 0,.int .i64 0,.int .i64 0,.int .i64 0,.int .i64 0,.int .i64 0,.int .i64 0,.int .i64 0,.int .i64 0,.int .i64 0,.int .i64 0,.int .i64 0],true⟩:=by kernel_rfl
theorem Ru:yA.tys.get 229=some ⟨(.slice 43),1,24,[.nilslice],true⟩:=by kernel_rfl
theorem ty250:yA.tys.get 250=some ⟨(.arr 12 249),60,480,[.str [],.int .u8 0,.bool false,.int .i64 0,.int .i64 0,.str [],.int .u8 0,.bool false,.int .i64 0,.int .i64 0,.str [],.int .u8 0,.bool false,.int .i64 0,.int .i64 0,.str [],.int .u8 0,.bool false,.int .i64 0,.int .i64 0,.str [],.int .u8 0,.bool false,.int .i64 0,.int .i64 0,.str [],.int .u8 0,.bool false,.int .i64 0,.int .i64 0,.str [],.int .u8 0,.bool false,.int .i64 0,.int .i64 0,.str [],.int .u8 0,.bool false,.int .i64 0,.int .i64 0,.str [],.int .u8 0,.bool false,.int .i64 0,.int .i64 0,.str [],.int .u8 0,.bool false,.int .i64 0,.int .i64 0,.str [],.int .u8 0,.bool false,.int .i64 0,.int .i64 0,.str [],.int .u8 0,.bool false,.int .i64 0,.int .i64 0],true⟩:=by kernel_rfl
theorem Bw:sK yA 41 79 1 false:=⟨⟨_,Hm,rfl⟩,⟨_,rZ,rfl,rfl⟩⟩
theorem sl48:sK yA 48 50 9 true:=⟨⟨_,Hl,rfl⟩,⟨_,Dr,rfl,rfl⟩⟩
theorem sl66:sK yA 66 75 4 true:=⟨⟨_,aQ,rfl⟩,⟨_,ty75,rfl,rfl⟩⟩
theorem sl93:sK yA 93 9 1 false:=⟨⟨_,ty93,rfl⟩,⟨_,zN,rfl,rfl⟩⟩
theorem sl94:sK yA 94 3 1 false:=⟨⟨_,ty94,rfl⟩,⟨_,tM,rfl,rfl⟩⟩
theorem sl161:sK yA 161 138 2 true:=⟨⟨_,Rv,rfl⟩,⟨_,Rw,rfl,rfl⟩⟩
theorem fF:sK yA 189 56 1 false:=⟨⟨_,aK,rfl⟩,⟨_,fG,rfl,rfl⟩⟩
theorem sl229:sK yA 229 43 2 true:=⟨⟨_,Ru,rfl⟩,⟨_,ty43,rfl,rfl⟩⟩
end Go.Proofs
namespace Go.Am
open Go Go.RowKit
def cD (l:List Nat):List D:=l.map fun(n:Nat)=>D.int .u16 (n:Int)
theorem wW(l:List Nat):(cD l).length=l.length:=by simp[cD]
structure aI where
 neg:Bool
 limbs:List Nat
def aI.d(w:aI):D:=.st [.bool w.neg,.sl 1 (cD w.limbs)]
structure zI where
 n:aI
 d:aI
def zI.dd(f:zI):D:=.st [f.n.d,f.d.d]
structure iJ where
 kind:Nat
 f:zI
 i:Int
def iJ.d(v:iJ):D:=.st [.int .u8 v.kind,v.f.dd,.int .i64 v.i]
inductive vB where
 | mk (op:Nat) (name:List Nat) (v:iJ) (args:List vB)
def vB.op:vB->Nat | .mk o _ _ _=>o
def vB.name:vB->List Nat | .mk _ n _ _=>n
def vB.v:vB->iJ | .mk _ _ v _=>v
def vB.args:vB->List vB | .mk _ _ _ a=>a
mutual
def vB.d:vB->D
 | .mk op name v args=>.st [.int .u8 op,.str name,v.d,.sl 9 (vB.ds args)]
def vB.ds:List vB->List D
 | []=>[]
 | x::l=>x.d::vB.ds l
end
theorem vB.ds_eq(l:List vB):vB.ds l=l.map vB.d:=by
 induction l with
 | nil=>rfl
 | cons x l ih=>simp[vB.ds,ih]
structure Gf where
 a:Int
 b:Int
 known:Int
 f:zI
def Gf.d(r:Gf):D:=.st [.int .i64 r.a,.int .i64 r.b,.int .i64 r.known,r.f.dd]
structure Ge where
 name:List Nat
 two:Bool
 rows:List Gf
def Ge.d(x:Ge):D:=.st [.str x.name,.bool x.two,.sl 7 (x.rows.map Gf.d)]
structure Gg where
 name:List Nat
 kind:Nat
 fact:Bool
def Gg.d(x:Gg):D:=.st [.str x.name,.int .u8 x.kind,.bool x.fact]
structure Gh where
 name:List Nat
 label:List Nat
 from_:Int
 to:Int
 known:Int
 off:Bool
 when_:vB
 then_:vB
def Gh.d(x:Gh):D:=.st [.str x.name,.str x.label,.int .i64 x.from_,.int .i64 x.to,.int .i64 x.known,.bool x.off,x.when_.d,x.then_.d]
structure Qz where
 name:List Nat
 defs:List Gg
 tables:List Ge
 clauses:List Gh
def Qz.d(x:Qz):D:=.st [.str x.name,.sl 3 (x.defs.map Gg.d),.sl 3 (x.tables.map Ge.d),.sl 24 (x.clauses.map Gh.d)]
section
variable {t:Tr vA}{cs:List zA}
theorem CZ{w:aI}(h:RD t w.d cs):∃v,cs=[.bool w.neg,v]/\aA t 1 (cD w.limbs) v:=by
 grind [aI.d,uO,iF,rH,Bb,Rd]
theorem rd_frac{f:zI}(h:RD t f.dd cs):∃u v,cs=[.bool f.n.neg,u,.bool f.d.neg,v]/\aA t 1 (cD f.n.limbs) u/\aA t 1 (cD f.d.limbs) v:=by
 grind [zI.dd,uO,iF,rH,CZ]
theorem Uz{v:iJ}(h:RD t v.d cs):∃a b,cs=[.int .u8 v.kind,.bool v.f.n.neg,a,.bool v.f.d.neg,b,.int .i64 v.i]/\aA t 1 (cD v.f.n.limbs) a/\aA t 1 (cD v.f.d.limbs) b:=by
 unfold iJ.d at h;simp only[uO,iF,rH,vT]at h;obtain⟨cl,rfl,c,r,rfl,rfl,c',r',rfl,h2,c'',r'',rfl,rfl,rfl⟩:=h
 obtain⟨a,b,rfl,h3,h4⟩:=rd_frac h2
 exact⟨a,b,rfl,h3,h4⟩
theorem pJ{x:vB}(h:RD t x.d cs):∃a b c,cs=[.int .u8 x.op,.str x.name,.int .u8 x.v.kind,.bool x.v.f.n.neg,a,.bool x.v.f.d.neg,b,.int .i64 x.v.i,c] ∧
  aA t 1 (cD x.v.f.n.limbs) a/\aA t 1 (cD x.v.f.d.limbs) b/\aA t 9 (x.args.map vB.d) c:=by
 obtain⟨op,name,v,args⟩:=x
 unfold vB.d at h;rw[vB.ds_eq]at h;simp only[uO,iF,rH,vT,wT,Bb]at h;obtain⟨cl,rfl,c,r,rfl,rfl,c',r',rfl,rfl,c'',r'',rfl,hv,c3,r3,rfl,⟨w,rfl,h4⟩,rfl⟩:=h
 obtain⟨a,b,rfl,h5,h6⟩:=Uz hv
 exact⟨a,b,w,rfl,h5,h6,h4⟩
def cExpr(x:vB)(a b c:zA):List zA:=[.int .u8 x.op,.str x.name,.int .u8 x.v.kind,.bool x.v.f.n.neg,a,.bool x.v.f.d.neg,b,.int .i64 x.v.i,c]
end
theorem aI.zs(x:aI):x.d.zs=[.bool false,.nilslice]:=rfl
theorem zI.zs(x:zI):x.dd.zs=[.bool false,.nilslice,.bool false,.nilslice]:=rfl
theorem iJ.zs(x:iJ):x.d.zs=[.int .u8 0,.bool false,.nilslice,.bool false,.nilslice,.int .i64 0]:=rfl
theorem vB.zs(x:vB):x.d.zs=[.int .u8 0,.str [],.int .u8 0,.bool false,.nilslice,.bool false,.nilslice,.int .i64 0,.nilslice]:=by cases x;rfl
def eK:Nat:=1125899906842624
def zI.ok(f:zI):Prop:=f.n.limbs.length<eK/\f.d.limbs.length<eK
end Go.Am
namespace Go.Am
open Go Go.RowKit
theorem bF{a b:Int}:(yC a b=true) ↔ a<b:=Pm a b
theorem nJ{a b:Int}:(aF a b=true) ↔ a<=b:=IS a b
theorem Ot(l:List Nat):(Int.ofNat (bA l))=(l.length:Int):=by rw[sD];rfl
theorem zbw(cs:List zA):Zg true cs=.agg cs:=rfl
end Go.Am
namespace Go.Am
open Go Go.RowKit
def xC(k:IntKind)(l:List Nat):List D:=l.map fun(n:Nat)=>D.int k (n:Int)
theorem aH{k:IntKind}(l:List Nat):(xC k l).length=l.length:=by simp[xC]
theorem KE{k:IntKind}{l:List Nat}{i x:Nat}(h:l[i]?=some x):(xC k l)[i]?=some (.int k (x:Int)):=by simp[xC,h]
theorem KD{k:IntKind}{l:List Nat}{n:Nat}:(xC k l).take n=xC k (l.take n):=by simp[xC]
def qF (t:Tr vA)(b:Nat)(k:IntKind)(l:List Nat):Prop:=∃c,t.get b=some (.cells c l.length none)/\∀(j:Nat) x,l[j]?=some x->c.get j=some (.int k (x:Int))
def nF (b:Nat)(t t':Tr vA):Prop:=∀c,c≠b->t'.get c=t.get c
theorem nF.refl(b:Nat)(t:Tr vA):nF b t t:=fun _ _=>rfl
theorem nF.trans{b:Nat}{x y z:Tr vA}(h:nF b x y)(k:nF b y z):nF b x z:=fun c hc=>(k c hc).trans (h c hc)
section
variable {t t' t0:Tr vA}{C:rA}{b:Nat}{k:IntKind}{l:List Nat}
theorem qF.off(h:qF t b k l){c:Nat}(hc:b≠c)(ho:nF c t t'):qF t' b k l:=by
 obtain⟨x,h1,h2⟩:=h;exact⟨x,by rw[ho b hc];exact h1,h2⟩
theorem qF.tle(h:qF t b k l)(ho:zB t t'):qF t' b k l:=by
 obtain⟨x,h1,h2⟩:=h;exact⟨x,ho _ _ h1,h2⟩
theorem zB.off(h:zB t0 t)(hb:t0.get b=none)(ho:nF b t t'):zB t0 t':=by
 intro c y hc;rw[ho c (by grind)]
 exact h c y hc
theorem qF.slice(h:qF t b k l){off n cap:Nat}(hn:off+n<=l.length)(hc:n<=cap):aA t 1 (xC k ((l.drop off).take n)) (.slice b off n cap):=by
 obtain⟨c,h1,h2⟩:=h
 refine⟨((l.drop off).take n).map fun(x:Nat)=>[.int k (x:Int)],.inr ⟨b,off,cap,?_,?_,⟨c,_,none,h1,.inl rfl⟩,fun i cs hi=>?_⟩,?_⟩
 ·grind
 ·grind
 ·simp only[ybu,yar]at hi
  obtain⟨x,hx,rfl⟩:=hi
  refine⟨rfl,c,_,none,h1,fun j a hj=>?_⟩
  grind
 ·refine dD.mk (by simp[xC]) fun i d cs hd hc=>?_
  simp only[xC,ybu,yar]at hd hc;obtain⟨x,hx,rfl⟩:=hd
  simp_all
theorem qF.all(h:qF t b k l){cap:Nat}(hc:l.length<=cap):aA t 1 (xC k l) (.slice b 0 l.length cap):=by
 have:=h.slice (off:=0) (n:=l.length) (by omega) hc
 simp_all
theorem Bp{T el sz:Nat}{agg:Bool}(h:sK C T el sz agg){off n cap i:Nat}(hi:i<n):aB C T (.slice b off n cap) (.int .i64 (i:Int))=some (.ptr b (off+i*sz)):=by
 obtain⟨⟨y,hy1,hy2⟩,⟨z,hz1,hz2,hz3⟩⟩:=h
 unfold aB;rw[hy1,qA];have:(zA.int .i64 (i:Int)).asNat=some i:=rfl
 rw[this,qA];simp only[zA.asSlice];rw[hy2,qA,hz1,qA,vC.2 hi,hz2];rfl
theorem qF.load(h:qF t b k l){j x:Nat}(hj:l[j]?=some x){ty:Nat}{y:rC}(hy:C.tys.get ty=some y)(ha:y.desc.isAgg=false):iA C ty ⟨0,t⟩ (.ptr b j)=some (.int k (x:Int)):=by
 obtain⟨c,h1,h2⟩:=h
 simp_all [iA,zA.asPtr,bD,vA.asCells,sQ]
theorem qF.store(h:qF t b k l)(hb:C.base<=b){j:Nat}(hj:j<l.length)(x:Nat){ty:Nat}{y:rC}(hy:C.tys.get ty=some y)(hs:y.size=1) :
  ∃t',(∀n,uC C ty (.ptr b j) (.int k (x:Int)) ⟨n,t⟩=some (rD,⟨n,t'⟩))/\qF t' b k (l.set j x)/\nF b t t':=by
 obtain⟨c,h1,h2⟩:=h
 refine⟨t.set b (.cells (c.setMany [.int k (x:Int)] j) l.length none),fun n=>?_,⟨c.setMany [.int k (x:Int)] j,?_,fun i y hi=>?_⟩,fun d hd=>?_⟩
 ·unfold uC
  rw[hy,qA];simp only[zA.asPtr,qA,zA.cells,zA.asAgg];rw[hs];have e1:Nat.beq (bA [zA.int k (x:Int)]) 1=true:=rfl
  rw[e1,mE];unfold wI bD;have e2:(!Nat.blt b C.base)=true:=by
   grind [vC]
  rw[e2,mE,h1,qA];simp only[vA.asCells,qA];have e3:Nat.ble (j+bA [zA.int k (x:Int)]) l.length=true:=qE.2 hj
  have e4:cB zA.one [zA.int k (x:Int)]=true:=rfl
  rw[e3,e4];rfl
 all_goals grind [Tr.get_set,Tr.get_setMany]
theorem Cj{T el:Nat}{y z:rC}(hT:C.tys.get T=some y)(hel:y.desc.asSlice=some el)(hz:C.tys.get el=some z)(hzero:z.zero=[.int k 0])(hs:z.size=1)(hby:z.bytes<=8){n:Nat}(hn:n<1000000)(hb:t.get b=none) :
  ∃t',iN C T (.int .i64 (n:Int)) (.int .i64 (n:Int)) ⟨b,t⟩=some (.slice b 0 n n,⟨b+1,t'⟩)/\qF t' b k (List.replicate n 0)/\zB t t'/\nF b t t':=by
 have hrep:∀n,pH [zA.int k 0] n=List.replicate n (.int k 0):=by
  intro n;induction n with
  | zero=>rfl
  | succ n ih=>grind [pH,xG]
 refine⟨t.set b (.cells (Tr.ofList (pH z.zero n)) (bA (pH z.zero n)) none),?_,⟨Tr.ofList (pH z.zero n),?_,fun j x hj=>?_⟩,fun c y' hc=>?_,fun c hc=>?_⟩
 ·unfold iN
  rw[hT,qA,hel,qA,hz,qA];have e1:(zA.int .i64 (n:Int)).asNat=some n:=rfl
  rw[e1,qA,qA];have e2:(Nat.ble n n&&Nat.blt n 1000000&&Nat.blt (n*z.bytes) 1000000000&&Nat.beq (bA z.zero) z.size)=true:=by
   rw[hzero,hs,show Nat.ble n n=true from qE.2 (ybk n),vC.2 hn]
   have:n*z.bytes<1000000000:=by
    have:=ydb (Nat.le_of_lt hn) hby
    omega
   rw[vC.2 this];rfl
  rw[e2,mE];rfl
 all_goals grind [Tr.get_set,sD,Tr.get_ofList]
end
end Go.Am
namespace Go.Am
def val (B:Nat):List Nat->Nat
 | []=>0
 | a::l=>a+B*val B l
def mB(B:Nat)(l:List Nat):Prop:=∀x∈l,x<B
def norm (l:List Nat):Prop:=∀h:l≠[],l.getLast h≠0
theorem He(B:Nat):∀(l m:List Nat),val B (l++m)=val B l+B^l.length*val B m
 | [],m=>by simp[val]
 | a::l,m=>by
  simp only[List.cons_append,val,He B l m,ybn,yag];grind
theorem jN{B:Nat}(hB:0<B):∀ {l:List Nat},mB B l->val B l<B^l.length
 | [],_=>by simp[val]
 | a::l,h=>by
  have h1:=h a (yby)
  have h2:=jN hB (l:=l) fun x hx=>h x (ybr _ hx)
  simp only[val,ybn,yag];have h3:B*(val B l+1)<=B*B^l.length:=ybv B h2
  grind
theorem Bo(B:Nat)(l:List Nat)(n:Nat):val B l=val B (l.take n)+B^(l.take n).length*val B (l.drop n):=by
 rw[<- He,List.take_append_drop]
theorem Aw{B:Nat}{l:List Nat}(h:mB B l)(n:Nat):mB B (l.take n):=fun x hx=>h x (List.mem_of_mem_take hx)
theorem Yw{B:Nat}{l:List Nat}(h:mB B l)(n:Nat):mB B (l.drop n):=fun x hx=>h x (List.mem_of_mem_drop hx)
theorem ZO{B:Nat}{l m:List Nat}(h:mB B l)(k:mB B m):mB B (l++m):=fun x hx=>(yaf.1 hx).elim (h x) (k x)
def wE:List Nat->List Nat
 | []=>[]
 | a::l=>if wE l=[]/\a=0 then []else a::wE l
theorem mT(B:Nat):∀l:List Nat,val B (wE l)=val B l
 | []=>rfl
 | a::l=>by
  unfold wE;have ih:=mT B l
  grind [val]
theorem zU:∀l:List Nat,norm (wE l)
 | []=>fun h=>(h rfl).elim
 | a::l=>by
  have ih:=zU l
  unfold wE;split
  ·simp_all
  ·rename_i h
   intro hne;by_cases hs:wE l=[]
   ·simp_all
   ·rw[List.getLast_cons hs];exact ih hs
theorem aR{B:Nat}:∀ {l:List Nat},mB B l->mB B (wE l)
 | [],h=>h
 | a::l,h=>by
  have ih:=aR (l:=l) fun x hx=>h x (ybr _ hx)
  unfold wE;split
  ·simp_all
  ·exact fun x hx=>(ybs.1 hx).elim (fun e=>e ▸ h a yby) (ih x)
theorem Hu:∀l:List Nat,(wE l).length<=l.length
 | []=>ybk _
 | a::l=>by unfold wE;have:=Hu l;split<;>simp<;>omega
theorem Ub:∀l:List Nat,wE (l++[0])=wE l
 | []=>by simp[wE]
 | a::l=>by
  show(if wE (l++[0])=[]/\a=0 then []else a::wE (l++[0]))=_
  rw[Ub l];rfl
theorem Ht:∀ {l:List Nat},norm l->wE l=l
 | [],_=>rfl
 | a::l,h=>by
  have hl:norm l:=by
   intro hne;have:=h (by simp)
   grind
  unfold wE;rw[Ht hl];split
  ·rename_i e
   have:=h (by simp)
   simp_all
  ·rfl
theorem TD{B:Nat}(hB:0<B){l:List Nat}(h:norm l)(h0:val B l=0):l=[]:=by
 have key:∀l:List Nat,val B l=0->∀x∈l,x=0:=by
  intro l;induction l with
  | nil=>simp_all
  | cons a l ih=>
   grind [val,Nat.mul_eq_zero]
 rcases List.eq_nil_or_concat l with e | ⟨m,a,e⟩
 ·exact e
 ·exfalso
  subst e;have:=h (by simp)
  simp at this;exact this (key _ h0 a (by simp))
theorem Rp{B:Nat}{l:List Nat}(h:norm l)(hne:l≠[]):B^(l.length-1)<=val B l:=by
 rcases List.eq_nil_or_concat l with e | ⟨m,a,e⟩
 ·simp_all
 ·rw[List.concat_eq_append]at e
  subst e;have:=h (by simp)
  simp at this;rw[He];simp only[ybg,ybn,ybx,val];have:1<=a+B*0:=by omega
  calc B^(m.length+1-1)=B^m.length*1:=by simp
   _<=B^m.length*(a+B*0):=ybv _ this
   _<=_:=Nat.le_add_left _ _
theorem Zf{B:Nat}(hB:0<B):∀ {l m:List Nat},mB B l->mB B m->l.length=m.length->val B l=val B m->l=m
 | [],[],_,_,_,_=>rfl
 | a::l,b::m,h1,h2,hl,hv=>by
  have ha:=h1 a yby
  have hb:=h2 b yby
  simp only[val]at hv;have e1:a=b:=by
   grind [Nat.add_mul_mod_self_left,Nat.mod_eq_of_lt]
  subst e1;have e2:val B l=val B m:=by
   grind [Nat.eq_of_mul_eq_mul_left]
  rw[Zf hB (fun x hx=>h1 x (ybr _ hx)) (fun x hx=>h2 x (ybr _ hx)) (by simp_all) e2]
 | [],_::_,_,_,h,_=>by simp at h
 | _::_,[],_,_,h,_=>by simp at h
theorem tQ{B:Nat}(hB:1<B){l m:List Nat}(h1:mB B l)(h3:norm m)(hv:val B m<=val B l):m.length<=l.length:=by
 by_cases hm:m=[]
 ·simp[hm]
 ·have a:=Rp (B:=B) h3 hm
  have b:=jN (by omega) h1
  have:B^(m.length-1)<B^l.length:=by omega
  grind [Nat.pow_lt_pow_iff_right]
theorem EN{B:Nat}(hB:1<B){l m:List Nat}(h1:mB B l)(h2:mB B m)(h3:norm l)(h4:norm m)(hv:val B l=val B m):l=m:=by
 have a:=tQ hB h1 h4 (by omega)
 have b:=tQ hB h2 h3 (by omega)
 exact Zf (by omega) h1 h2 (by omega) hv
def cL (a b:List Nat):Int:=if a.length≠b.length then(if a.length<b.length then -1 else 1)else go a b
where go:List Nat->List Nat->Int
 | a::l,b::m=>if go l m≠0 then go l m else if a<b then -1 else if b<a then 1 else 0
 | _,_=>0
theorem KO{B:Nat}:∀ {a b:List Nat},mB B a->mB B b->a.length=b.length->(cL.go a b<0 ↔ val B a<val B b)/\(cL.go a b=0 ↔ val B a=val B b)
 | [],[],_,_,_=>by simp[cL.go,val]
 | a::l,b::m,h1,h2,hl=>by
  have ha:=h1 a yby
  have hb:=h2 b yby
  obtain⟨i1,i2⟩:=KO (a:=l) (b:=m) (fun x hx=>h1 x (ybr _ hx)) (fun x hx=>h2 x (ybr _ hx)) (by simp_all)
  have lt_of:∀ {x y:Nat},x<y->∀u v,u<B->u+B*x<v+B*y:=by
   intro x y h u v hu;have:B*(x+1)<=B*y:=ybv B h
   grind
  unfold cL.go;simp only[val];by_cases h0:cL.go l m=0
  ·grind
  ·rw[yab h0]
   constructor
   ·rw[i1]
    constructor
    ·simp_all
    grind [Nat.lt_trichotomy]
   ·constructor
    ·omega
    ·intro h
     rcases Nat.lt_trichotomy (val B l) (val B m)with g | g | g
     ·have:=lt_of g a b ha;omega
     ·omega
     ·have:=lt_of g b a hb;omega
 | [],_::_,_,_,h=>by simp at h
 | _::_,[],_,_,h=>by simp at h
theorem KN{B:Nat}(hB:1<B){a b:List Nat}(h1:mB B a)(h2:mB B b)(h3:norm a)(h4:norm b):cL a b<0 ↔ val B a<val B b:=by
 unfold cL;by_cases hl:a.length=b.length
 ·grind [KO]
 ·rw[yab hl]
  by_cases hlt:a.length<b.length
  ·rw[yab hlt]
   refine⟨fun _=>?_,fun _=>by omega⟩
   rcases yau (val B a) (val B b)with g | g
   ·exact g
   ·have:=tQ hB h1 h4 g;omega
  ·rw[yaa hlt]
   refine⟨fun h=>by omega,fun h=>?_⟩
   have:=tQ hB h2 h3 (by omega);omega
end Go.Am
namespace Go.Am
open Go Go.RowKit
theorem xF{n:Int}(h1:0<=n)(h2:n<18446744073709551616):lA .u64 n=n:=by
 grind [kN,IntKind.wrap,IntKind.bits,IntKind.signed]
theorem wS{n:Int}(h1:0<=n)(h2:n<4294967296):lA .u32 n=n:=by
 grind [kN,IntKind.wrap,IntKind.bits,IntKind.signed]
theorem MA{n:Int}(h1:0<=n)(h2:n<65536):lA .u16 n=n:=by
 grind [kN,IntKind.wrap,IntKind.bits,IntKind.signed]
theorem Lr{n:Int}(h1:0<=n)(h2:n<256):lA .u8 n=n:=by
 grind [kN,IntKind.wrap,IntKind.bits,IntKind.signed]
theorem Lp(n:Int):lA .u64 n=n%18446744073709551616:=by
 grind [kN,IntKind.wrap,IntKind.bits,IntKind.signed]
theorem xS(n:Int):lA .u32 n=n%4294967296:=by
 grind [kN,IntKind.wrap,IntKind.bits,IntKind.signed]
theorem LZ(n:Int):lA .u16 n=n%65536:=by
 grind [kN,IntKind.wrap,IntKind.bits,IntKind.signed]
theorem IU{k:IntKind}{x y:Nat}:Ka k (x:Int) (y:Int)=mH Nat.land k (x:Int) (y:Int):=rfl
theorem dS{f:Nat->Nat->Nat}{k:IntKind}{x y:Nat}(h1:x<cF k)(h2:y<cF k):mH f k (x:Int) (y:Int)=some (.int k (f x y:Nat)):=by
 unfold mH;have e1:gL (x:Int)=some x:=rfl
 have e2:gL (y:Int)=some y:=rfl
 rw[e1,qA,e2,qA,vC.2 h1,vC.2 h2];rfl
theorem Xg{k:IntKind}{x y:Nat}(h0:0<y)(hw:lA k ((x / y:Nat):Int)=((x / y:Nat):Int)):aX k (x:Int) (y:Int)=some (.int k ((x / y:Nat):Int)):=by
 unfold aX;have:tC (y:Int) 0=false:=by
  grind [zY]
 rw[this,cond_false,Int.tdiv_eq_ediv_of_nonneg (by omega)]
 rw[<- Int.natCast_ediv,hw]
theorem Pl{k:IntKind}{x y:Nat}(h0:0<y):bX k (x:Int) (y:Int)=some (.int k ((x%y:Nat):Int)):=by
 unfold bX;have:tC (y:Int) 0=false:=by
  grind [zY]
 rw[this,cond_false,Int.tmod_eq_emod_of_nonneg (by omega),<- Int.natCast_emod]
theorem oN{a b:Int}:(tC a b=true) ↔ a=b:=zY a b
theorem Of{a b:Int}:((!tC a b)=true) ↔ a≠b:=by rw[ycp,<- Bool.not_eq_true,oN]
theorem Vv{b:Bool}:((!b)=true) ↔ b=false:=by simp
theorem Bx{a b n:Nat}(h:b<2^n):Nat.lor (a*2^n) b=a*2^n+b:=by
 show a*2^n ||| b=_
 rw[<- Nat.shiftLeft_eq,<- Nat.shiftLeft_add_eq_or_of_lt h,Nat.shiftLeft_eq]
theorem or_low{a b n:Nat}(h:b<2^n)(ha:a%2^n=0):Nat.lor a b=a+b:=by
 obtain⟨c,hc⟩:=Nat.dvd_of_mod_eq_zero ha
 grind [Nat.mul_comm,Bx]
theorem aA.idx{t:Tr vA}{C:rA}{T el:Nat}(h:sK C T el 1 false){k:IntKind}{l:List Nat}{v:zA}(hr:aA t 1 (xC k l) v){i x:Nat}(hi:l[i]?=some x) :
  ∃b off,aB C T v (.int .i64 (i:Int))=some (.ptr b off)/\iA C el ⟨0,t⟩ (.ptr b off)=some (.int k (x:Int)):=by
 obtain⟨b,off,cs,h1,h2,_,_,h5⟩:=sK.at h (fun _=>rfl) hr (KE hi)
 rw[vT]at h5;subst h5;exact⟨b,off,h1,h2⟩
theorem Al(x:Nat)(n:Nat):Int.fdiv (x:Int) (n:Int)=((x / n:Nat):Int):=by
 grind
theorem getElem?_of_lt{l:List Nat}{i:Nat}(h:i<l.length):∃x,l[i]?=some x:=⟨l[i],ybd h⟩
theorem jJ{B:Nat}{l:List Nat}(h:mB B l){i x:Nat}(hi:l[i]?=some x):x<B:=h x (ycv hi)
theorem Ow{l:List Nat}(h:l≠[]):∃m x,l=m++[x]:=by
 rcases List.eq_nil_or_concat l with e | ⟨m,a,e⟩
 all_goals simp_all
end Go.Am
namespace Go.Proofs
open Go Go.Am
variable [jC]
variable {t:Tr vA}
theorem NN:∀(n:Nat) (l:List Nat) (v:zA),l.length=n->n<1125899906842624->aA t 1 (xC .u32 l) v->∃v',jp 140 2 [v] t (fun u m=>u=v'/\m=t)/\aA t 1 (xC .u32 (wE l)) v':=by
 intro n;induction n with
 | zero=>
  intro l v hl _ hv;have:l=[]:=ycc.1 hl
  subst this;refine⟨v,Wy ?_,hv⟩
  simp only[uI,uL,uZ,uW,My,oA,hv.len,sA,bB,aH,bF];simp_all
 | succ n ih=>
  intro l v hl hn hv;obtain⟨m,x,rfl⟩:=Ow (l:=l) (by grind)
  have hm:m.length=n:=by simp_all
  have hx:(m++[x])[m.length]?=some x:=by simp
  obtain⟨b,off,g1,g2⟩:=hv.idx fF hx
  obtain⟨u,g3,g4⟩:=sK.front fF hv (k:=m.length) (by simp[xC])
  rw[KD]at g4;simp only[List.take_left']at g4;have e1:(((m++[x]).length:Nat):Int)-1=(m.length:Int):=by simp
  by_cases hx0:x=0
  ·subst hx0
   obtain⟨w,h1,h2⟩:=ih m u hm (by omega) g4
   refine⟨w,Wy ?_,by grind [Ub]⟩
   simp (disch:=omega) only[uI,uL,uZ,uW,My,oA,hv.len,sA,bB,aH,bF,oN,oC,e1,g1,g2,g3]
   simp_all
  ·refine⟨v,Wy ?_,?_⟩
   ·simp (disch:=omega) only[uI,uL,uZ,uW,My,oA,hv.len,sA,bB,aH,bF,oN,oC,e1,g1,g2,g3]
    simp_all
   ·rw[Ht]
    ·exact hv
    ·intro _;simp_all
theorem pZ{l:List Nat}{v:zA}(hl:l.length<1125899906842624)(hv:aA t 1 (xC .u32 l) v):∃v',fB yA F 140 [v] t=some v'/\aA t 1 (xC .u32 (wE l)) v':=by
 obtain⟨v',h1,h2⟩:=NN _ l v rfl hl hv
 exact⟨v',tE.2 (w140 h1),h2⟩
theorem zax{a b:List Nat}{u v:zA}(hu:aA t 1 (xC .u32 a) u)(hv:aA t 1 (xC .u32 b) v)(hl:a.length=b.length):∀(n:Nat),n<=a.length->n<1125899906842624->jp 169 2 [u,v,.int .i64 ((n:Int)-1)] t (fun w m=>w=.int .i64 (cL.go (a.take n) (b.take n))/\m=t):=by
 intro n;induction n with
 | zero=>
  intro _ _;refine HQ ?_
  simp only[uL,uZ,uW,Tj,oA,nJ];grind [cL.go]
 | succ n ih=>
  intro hn hn2;obtain⟨x,hx⟩:=getElem?_of_lt (l:=a) (i:=n) (by omega)
  obtain⟨y,hy⟩:=getElem?_of_lt (l:=b) (i:=n) (by omega)
  obtain⟨c,off,g1,g2⟩:=hu.idx fF hx
  obtain⟨d,off',g3,g4⟩:=hv.idx fF hy
  have e1:(((n+1:Nat):Int)-1)=(n:Int):=by omega
  have key:∀(a b:List Nat) (x y:Nat),a.length=b.length->cL.go (a++[x]) (b++[y])=if x<y then -1 else if y<x then 1 else cL.go a b:=by
   intro a;induction a with
   | nil=>
    grind [cL.go]
   | cons p a ih=>
    intro b x y h
    cases b with
    | nil=>simp at h
    | cons q b=>
     grind [cL.go]
  have e2:cL.go (a.take (n+1)) (b.take (n+1))=if x<y then -1 else if y<x then 1 else cL.go (a.take n) (b.take n):=by
   grind [List.take_add_one]
  rw[e1,e2];refine HQ ?_
  simp (disch:=omega) only[uL,uZ,uW,Tj,oA,sA,bB,bF,nJ,Of,g1,g2,g3,g4,oC]
  grind
theorem zbg{a b:List Nat}{u v:zA}(ha:a.length<1125899906842624)(hu:aA t 1 (xC .u32 a) u)(hv:aA t 1 (xC .u32 b) v):fB yA F 169 [u,v] t=some (.int .i64 (cL a b)):=by
 refine tE.2 (w169 ?_)
 simp (disch:=omega) only[uI,uZ,uW,t169,oA,hu.len,hv.len,sA,bB,aH,bF,Of,oC]
 unfold cL;by_cases hl:a.length=b.length
 ·rw[yaa (by omega),yaa (by omega)]
  have:=zax hu hv hl a.length (ybk _) ha
  grind
 grind
def qO(neg:Bool)(l:List Nat):Bool:=if l=[]then !neg else decide (l.length<=1024)&&decide (l.getLast?≠some 0)
theorem Dp{neg:Bool}{l:List Nat}{v:zA}(hl:l.length<1125899906842624)(hv:aA t 1 (xC .u16 l) v):fB yA F 123 [.agg [.bool neg,v]] t=some (.bool (qO neg l)):=by
 refine tE.2 (w123 ?_)
 unfold qO;by_cases h0:l=[]
 ·subst h0
  simp only[uI,uH,zD,uZ,uW,t123,oA,hv.len,sA,bB,aH,oN];simp
 ·obtain⟨m,x,rfl⟩:=Ow h0
  have hx:(m++[x])[m.length]?=some x:=by simp
  obtain⟨b,off,g1,g2⟩:=hv.idx Bw hx
  have e1:(((m++[x]).length:Nat):Int)-1=(m.length:Int):=by simp
  have hlm:m.length<1125899906842624:=by omega
  simp (disch:=omega) only[uI,uH,zD,uZ,uW,t123,oA,hv.len,sA,bB,aH,oN,nJ,oC,e1,g1,g2]
  rw[yaa (by omega),yaa h0]
  by_cases h1:(m++[x]).length<=1024
  ·rw[yab (by omega)]
   simp only[h1,decide_true,ycn];by_cases hx0:x=0
   ·grind [Ag]
   ·have:tC (x:Int) 0=false:=by
     grind [zY]
    simp_all
  grind
theorem IF{neg:Bool}{l:List Nat}{v:zA}(hv:aA t 1 (xC .u16 l) v):fB yA F 158 [.agg [.bool neg,v]] t=some (.bool (!neg&&decide (l=[1]))):=by
 refine tE.2 (w158 ?_)
 cases neg with
 | true=>simp[uI,uH,zD,uZ,t158,oA]
 | false=>
  simp only[uI,uH,zD,uZ,t158,oA,hv.len,sA,bB,aH,oN];rw[yab (by rfl)]
  by_cases h1:l.length=1
  ·obtain⟨x,rfl⟩:∃x,l=[x]:=by
    cases l with
    | nil=>simp at h1
    | cons x r=>simp_all
   obtain⟨b,off,g1,g2⟩:=hv.idx Bw (i:=0) (x:=x) (by simp)
   simp only[Int.natCast_zero]at g1;rw[yab (by simp)]
   simp only[g1,g2,sA,bB];by_cases hx:x=1
   ·grind [Ag]
   ·have:tC (x:Int) 1=false:=by
     grind [zY]
    simp_all
  ·rw[yaa (by omega)]
   have:l≠[1]:=by grind
   grind
end Go.Proofs
namespace Go.Am
def rG:List Nat->List Nat
 | []=>[]
 | [a]=>[a]
 | a::b::l=>(a+65536*b)::rG l
theorem uR:∀l:List Nat,(rG l).length=(l.length+1) / 2
 | []=>rfl
 | [a]=>by simp[rG]
 | a::b::l=>by simp[rG,uR l];omega
theorem Ro:∀l:List Nat,val 4294967296 (rG l)=val 65536 l
 | []=>rfl
 | [a]=>by simp[rG,val]
 | a::b::l=>by simp only[rG,val,Ro l];omega
theorem Kz:∀ {l:List Nat},mB 65536 l->mB 4294967296 (rG l)
 | [],_=>fun x hx=>(by cases hx)
 | [a],h=>fun x hx=>by
  have:=h a (by simp)
  grind [rG]
 | a::b::l,h=>fun x hx=>by
  have h1:=h a (by simp)
  have h2:=h b (by simp)
  rcases ybs.1 hx with rfl | hx
  ·omega
  ·exact Kz (l:=l) (fun y hy=>h y (by simp[hy])) x hx
theorem Je:∀ {l:List Nat},norm l->norm (rG l)
 | [],_=>fun h=>(h rfl).elim
 | [a],h=>by
  grind [rG]
 | [a,b],h=>by
  intro _;have:=h (by simp)
  grind [rG]
 | a::b::c::l,h=>by
  intro _;have hn:norm (c::l):=by
   intro hne;have:=h (by simp)
   simp_all
  have hne:rG (c::l)≠[]:=by
   grind [uR]
  have:=Je (l:=c::l) hn hne
  grind [rG]
theorem Vk:∀(l:List Nat) (x:Nat),l.length%2=0->rG (l++[x])=rG l++[x]
 | [],x,_=>rfl
 | [a],x,h=>by simp at h
 | a::b::l,x,h=>by
  show(a+65536*b)::rG (l++[x])=(a+65536*b)::(rG l++[x])
  rw[Vk l x (by grind)]
theorem DX:∀(l:List Nat) (a x:Nat),l.length%2=0->rG (l++[a,x])=rG l++[a+65536*x]
 | [],a,x,_=>rfl
 | [b],a,x,h=>by simp at h
 | c::b::l,a,x,h=>by
  show(c+65536*b)::rG (l++[a,x])=(c+65536*b)::(rG l++[a+65536*x])
  rw[DX l a x (by grind)]
def oG:List Nat->List Nat
 | []=>[]
 | w::l=>w%65536::w / 65536::oG l
theorem Hi:∀l:List Nat,(oG l).length=2*l.length
 | []=>rfl
 | w::l=>by simp[oG,Hi l];omega
theorem Ma:∀l:List Nat,val 65536 (oG l)=val 4294967296 l
 | []=>rfl
 | w::l=>by
  simp only[oG,val,Ma l];omega
theorem Qx:∀ {l:List Nat},mB 4294967296 l->mB 65536 (oG l)
 | [],_=>fun x hx=>(by cases hx)
 | w::l,h=>fun x hx=>by
  have h1:=h w (by simp)
  rcases ybs.1 hx with rfl | hx
  ·omega
  ·rcases ybs.1 hx with rfl | hx
   ·omega
   ·exact Qx (l:=l) (fun y hy=>h y (by simp[hy])) x hx
theorem Hj:∀(l:List Nat) (w:Nat),oG (l++[w])=oG l++[w%65536,w / 65536]
 | [],w=>rfl
 | a::l,w=>by simp[oG,Hj l w]
theorem BG{l:List Nat}{w:Nat}(hw:w≠0):wE (oG (l++[w]))=if w / 65536=0 then oG l++[w%65536]else oG (l++[w]):=by
 rw[Hj];split
 ·rename_i h
  rw[h,show oG l++[w%65536,0]=(oG l++[w%65536])++[0] by simp,Ub]
  refine Ht fun _=>?_
  grind
 ·rename_i h
  refine Ht fun _=>?_
  grind
end Go.Am
namespace Go.Proofs
open Go Go.Am
variable [jC]
variable {t:Tr vA}
theorem set_append_right{l m:List Nat}{i x:Nat}(h:l.length=i):(l++m).set i x=l++m.set 0 x:=by
 simp_all
theorem SE{l:List Nat}{v:zA}{b:Nat}{Q:fA}(hv:aA t 1 (xC .u16 l) v)(hl:l.length<1000000)(hlt:mB 65536 l)(hbase:yA.base<=b)(hb:t.get b=none)
  (hQ:∀t' v',zB t t'->aA t' 1 (xC .u32 (rG l)) v'->Q v' t'):∀(k i:Nat) (t':Tr vA),i+k=l.length->zB t t'->qF t' b .u32 (rG (l.take i)++List.replicate ((l.length+1) / 2-(i+1) / 2) 0) →
  jp 164 2 [.slice b 0 ((l.length+1) / 2) ((l.length+1) / 2),v,.int .i64 l.length,.int .i64 i] t' Q:=by
 intro k;induction k with
 | zero=>
  intro i t' hi ht ho;refine HT ?_
  simp only[uL,uH,nD,uZ,uW,Tn,oA,bF];rw[yaa (by omega)]
  rw[yca (by omega),show(l.length+1) / 2-(i+1) / 2=0 by omega,List.replicate_zero,ycd]at ho
  refine hQ _ _ ht ?_
  have:=ho.all (ybk _)
  grind [uR]
 | succ k ih=>
  intro i t' hi ht ho;obtain⟨x,hx⟩:=getElem?_of_lt (l:=l) (i:=i) (by omega)
  have hxlt:x<65536:=jJ hlt hx
  obtain⟨c,off,g1,g2⟩:=(hv.mono ht).idx Bw hx
  have htake:l.take (i+1)=l.take i++[x]:=by grind [List.take_add_one]
  have hlen:(l.take i).length=i:=by grind
  obtain⟨y,hy,hnew⟩:∃y,(rG (l.take i)++List.replicate ((l.length+1) / 2-(i+1) / 2) 0)[i / 2]?=some y/\y<4294967296/\Nat.lor y (x*2^(16*(i%2)))<4294967296 ∧
    (rG (l.take i)++List.replicate ((l.length+1) / 2-(i+1) / 2) 0).set (i / 2) (Nat.lor y (x*2^(16*(i%2))))=rG (l.take (i+1))++List.replicate ((l.length+1) / 2-(i+1+1) / 2) 0:=by
   rcases Nat.mod_two_eq_zero_or_one i with he | ho1
   ·have hp:(rG (l.take i)).length=i / 2:=by grind [uR]
    refine⟨0,?_,by decide,?_,?_⟩
    ·rw[ybp (by omega),hp,Nat.sub_self,List.getElem?_replicate,yab (by omega)]
    ·rw[he];simp;omega
    ·rw[set_append_right hp,he,htake,Vk _ _ (by omega)]
     have:Nat.lor 0 (x*2^(16*0))=x:=by simp_all
     rw[this];obtain⟨r,hr⟩:∃r,(l.length+1) / 2-(i+1) / 2=r+1:=⟨(l.length+1) / 2-(i+1) / 2-1,by omega⟩
     rw[hr,List.replicate_succ,List.set_cons_zero,show(l.length+1) / 2-(i+1+1) / 2=r by omega]
     simp
   ·obtain⟨p,a,hpa⟩:=Ow (l:=l.take i) (by grind)
    have hpl:p.length=i-1:=by grind
    have hpe:p.length%2=0:=by omega
    have ha:a<65536:=hlt a (List.mem_of_mem_take (by simp_all:a∈l.take i))
    have hp:(rG p).length=i / 2:=by grind [uR]
    rw[hpa,Vk _ _ hpe];have hlor:Nat.lor a (x*2^(16*1))=a+65536*x:=by
     show a ||| x*2^(16*1)=_
     rw[Nat.or_comm];have:=Bx (a:=x) (b:=a) (n:=16) (by omega)
     show Nat.lor (x*2^16) a=_
     omega
    refine⟨a,?_,by omega,?_,?_⟩
    all_goals grind [set_append_right,DX]
  obtain⟨hy1,hy2,hy3⟩:=hnew
  have hwlen:(rG (l.take i)++List.replicate ((l.length+1) / 2-(i+1) / 2) 0).length=(l.length+1) / 2:=by
   grind [uR]
  have g3:aB yA 189 (.slice b 0 ((l.length+1) / 2) ((l.length+1) / 2)) (.int .i64 ((i / 2:Nat):Int))=some (.ptr b (0+i / 2*1)):=Bp fF (by omega)
  rw[show 0+i / 2*1=i / 2 by omega]at g3;have g4:=ho.load hy fG rfl
  obtain⟨t2,g5,g6,g7⟩:=ho.store (C:=yA) hbase (j:=i / 2) (by omega) (Nat.lor y (x*2^(16*(i%2)))) fG rfl
  rw[hy3]at g6;refine HT ?_
  have e1:Int.tdiv (i:Int) 2=((i / 2:Nat):Int):=by simp_all
  have e2:Int.tmod (i:Int) 2=((i%2:Nat):Int):=by grind
  have hm:=ycy i (show 0<2 by decide)
  simp (disch:=omega) only[uL,uH,nD,uZ,uW,Tn,oA,bF,g1,g2,sA,bB,oC,wS,e1,e2,g3,g4]
  rw[yab (by omega)]
  have e3:kU .u32 (x:Int) (16*((i%2:Nat):Int))=some (.int .u32 ((x*2^(16*(i%2)):Nat):Int)):=by
   rcases Nat.mod_two_eq_zero_or_one i with h | h<;>rw[h]
   ·simp[kU,Bz,gL]
    rw[wS (by omega) (by omega)]
   ·have:kU .u32 (x:Int) (16*((1:Nat):Int))=some (.int .u32 (lA .u32 ((x:Int)*65536))):=rfl
    grind [wS]
  rw[e3];have hb2:x*2^(16*(i%2))<4294967296:=by
   rcases Nat.mod_two_eq_zero_or_one i with h | h<;>rw[h]<;>omega
  simp only[sA,bB];rw[dS (show y<cF .u32 from hy1) (show x*2^(16*(i%2))<cF .u32 from hb2)]
  simp only[sA,bB];intro d _ _;rw[g5];simp only[sA];have:=ih (i+1) t2 (by omega) (ht.off hb g7) g6
  simp_all
theorem Nq{l:List Nat}{v:zA}{Q:fA}(hv:aA t 1 (xC .u16 l) v)(hl:l.length<1000000)(hlt:mB 65536 l)
  (hQ:∀t' v',zB t t'->aA t' 1 (xC .u32 (rG l)) v'->Q v' t'):Wc yA F 164 [v] t Q:=by
 refine w164 ?_
 have e1:Int.tdiv ((l.length:Int)+1) 2=(((l.length+1) / 2:Nat):Int):=by grind
 simp (disch:=omega) only[uI,uZ,uW,t164,oA,hv.len,sA,bB,aH,oC,e1]
 intro b hb hbase;obtain⟨t',g1,g2,g3,_⟩:=Cj (C:=yA) (k:=.u32) aK rfl fG rfl rfl (by decide) (n:=(l.length+1) / 2) (by omega) hb
 rw[g1];simp only[sA];exact SE hv hl hlt hbase hb hQ l.length 0 t' (by omega) g3 (by grind [rG])
end Go.Proofs
namespace Go.Proofs
open Go Go.Am
variable [jC]
variable {t:Tr vA}
theorem zb0{n:Nat}(h:n<4294967296):n / 2147483648=if n.testBit 31 then 1 else 0:=by
 grind
theorem Rz{n:Nat}(h:n<4294967296):n.testBit 31=decide (2147483648<=n):=by
 grind
theorem Zm{x:Nat}(h:x<4294967296):Bq (.int .u32 (x:Int))=some (.int .u32 (Nat.xor 4294967295 x:Nat)):=by
 grind [Bq,zA.asIntK,qA,Nat.beq,kLo,mE,dS,cF]
theorem OG{x y b:Nat}(hx:x<4294967296)(hy:y<4294967296)(hb:b<2) :
  fB yA F 179 [.int .u32 x,.int .u32 y,.int .u32 b] t=some (.tup [.int .u32 (((x+8589934592-y-b)%4294967296:Nat):Int),.int .u32 (((if x<y+b then 1 else 0):Nat):Int)]):=by
 refine tE.2 (w179 ?_)
 obtain⟨d,hd⟩:∃d,d=(x+8589934592-y-b)%4294967296:=⟨_,rfl⟩
 have hdl:d<4294967296:=by omega
 have e1:lA .u32 (lA .u32 ((x:Int)-y)-b)=(d:Int):=by
  grind [xS]
 have hn1:Nat.xor 4294967295 x<4294967296:=Nat.xor_lt_two_pow (n:=32) (by decide) hx
 have hn2:Nat.xor x y<4294967296:=Nat.xor_lt_two_pow (n:=32) hx hy
 have hn3:Nat.xor 4294967295 (Nat.xor x y)<4294967296:=Nat.xor_lt_two_pow (n:=32) (by decide) hn2
 have hn4:Nat.land (Nat.xor 4294967295 x) y<4294967296:=yam Nat.and_le_left hn1
 have hn5:Nat.land (Nat.xor 4294967295 (Nat.xor x y)) d<4294967296:=yam Nat.and_le_left hn3
 have hn6:Nat.lor (Nat.land (Nat.xor 4294967295 x) y) (Nat.land (Nat.xor 4294967295 (Nat.xor x y)) d)<4294967296:=Nat.or_lt_two_pow (n:=32) hn4 hn5
 simp only[uL,t179,oA,e1];rw[Zm hx];simp only[sA,bB];rw[IU,dS (k:=.u32) hn1 hy]
 simp only[sA,bB];rw[dS (k:=.u32) hx hy]
 simp only[sA,bB];rw[Zm hn2];simp only[sA,bB];rw[IU,dS (k:=.u32) hn3 hdl]
 simp only[sA,bB];rw[dS (k:=.u32) hn4 hn5]
 simp only[sA,bB];have e2:Int.fdiv ((Nat.lor (Nat.land (Nat.xor 4294967295 x) y) (Nat.land (Nat.xor 4294967295 (Nat.xor x y)) d):Nat):Int) 2147483648=(((if x<y+b then 1 else 0):Nat):Int):=by
  rw[show(2147483648:Int)=((2147483648:Nat):Int) from rfl,Al,zb0 hn6]
  congr 1
  have tb:(Nat.lor (Nat.land (Nat.xor 4294967295 x) y) (Nat.land (Nat.xor 4294967295 (Nat.xor x y)) d)).testBit 31=decide (x<y+b):=by
   show((4294967295 ^^^ x) &&& y ||| (4294967295 ^^^ (x ^^^ y)) &&& d).testBit 31=_
   rw[Nat.testBit_or,Nat.testBit_and,Nat.testBit_and,Nat.testBit_xor,Nat.testBit_xor,Nat.testBit_xor,Rz hx,Rz hy,Rz hdl];have:(4294967295:Nat).testBit 31=true:=by decide
   rw[this];by_cases c1:2147483648<=x<;>by_cases c2:2147483648<=y<;>by_cases c3:2147483648<=d<;>by_cases c4:x<y+b<;>simp only[c1,c2,c3,c4,decide_true,decide_false,Bool.xor_true,Bool.xor_false,Bool.true_xor,Bool.false_xor,Bool.not_true,ycl,Bool.and_true,yay,Bool.or_true,Bool.or_false,Bool.xor_self]<;>omega
  simp_all
 simp_all
theorem za8{x y c:Nat}(hx:x<4294967296)(hy:y<4294967296)(hc:c<2) :
  fB yA F 186 [.int .u32 x,.int .u32 y,.int .u32 c] t=some (.tup [.int .u32 (((x+y+c)%4294967296:Nat):Int),.int .u32 (((x+y+c) / 4294967296:Nat):Int)]):=by
 refine tE.2 (w186 ?_)
 have e0:((x:Int)+y)+c=((x+y+c:Nat):Int):=by omega
 simp (disch:=omega) only[t186,oA,xF]
 grind [xS]
theorem zal{h l d:Nat}(hh:h<d)(hl:l<4294967296)(hd:d<4294967296) :
  fB yA F 184 [.int .u32 h,.int .u32 l,.int .u32 d] t=some (.tup [.int .u32 (((h*4294967296+l) / d:Nat):Int),.int .u32 (((h*4294967296+l)%d:Nat):Int)]):=by
 refine tE.2 (w184 ?_)
 simp only[t184,oA,Of,nJ];rw[yab (by omega),yaa (by omega)]
 refine j184_7 ?_
 have e1:(h:Int)*4294967296=((h*4294967296:Nat):Int):=by omega
 have hq:(h*4294967296+l) / d<4294967296:=ycu (by
  omega)
 have hr:(h*4294967296+l)%d<d:=ycy _ (by omega)
 simp (disch:=omega) only[uE,AM,oA,xF,e1]
 have e2:mH Nat.lor .u64 ((h*4294967296:Nat):Int) (l:Int)=some (.int .u64 ((h*4294967296+l:Nat):Int)):=by
  rw[dS (k:=.u64) (show h*4294967296<cF .u64 by show _<18446744073709551616;omega) (show l<cF .u64 by show _<18446744073709551616;omega)]
  have:=Bx (a:=h) (b:=l) (n:=32) hl
  rw[show h*4294967296=h*2^32 by rfl,this]
 rw[e2];simp only[sA,bB];rw[Xg (k:=.u64) (by omega) (by
  grind [xF]),Pl (k:=.u64) (by omega)]
 grind [sA,bB,wS]
theorem UE(v:Nat)(hv:v<256):∃k,k<9/\fC [0,1,2,2,3,3,3,3,4,4,4,4,4,4,4,4,5,5,5,5,5,5,5,5,5,5,5,5,5,5,5,5,6,6,6,6,6,6,6,6,6,6,6,6,6,6,6,6,6,6,6,6,6,6,6,6,6,6,6,6,6,6,6,6,7,7,7,7,7,7,7,7,7,7,7,7,7,7,7,7,7,7,7,7,7,7,7,7,7,7,7,7,7,7,7,7,7,7,7,7,7,7,7,7,7,7,7,7,7,7,7,7,7,7,7,7,7,7,7,7,7,7,7,7,7,7,7,7,8,8,8,8,8,8,8,8,8,8,8,8,8,8,8,8,8,8,8,8,8,8,8,8,8,8,8,8,8,8,8,8,8,8,8,8,8,8,8,8,8,8,8,8,8,8,8,8,8,8,8,8,8,8,8,8,8,8,8,8,8,8,8,8,8,8,8,8,8,8,8,8,8,8,8,8,8,8,8,8,8,8,8,8,8,8,8,8,8,8,8,8,8,8,8,8,8,8,8,8,8,8,8,8,8,8,8,8,8,8,8,8,8,8,8,8,8,8,8,8,8,8,8,8,8,8,8,8] v=some k/\(v=0/\k=0\/0<k/\2^(k-1)<=v/\v<2^k):=by
 have h:∀v:Fin 256,(fC [0,1,2,2,3,3,3,3,4,4,4,4,4,4,4,4,5,5,5,5,5,5,5,5,5,5,5,5,5,5,5,5,6,6,6,6,6,6,6,6,6,6,6,6,6,6,6,6,6,6,6,6,6,6,6,6,6,6,6,6,6,6,6,6,7,7,7,7,7,7,7,7,7,7,7,7,7,7,7,7,7,7,7,7,7,7,7,7,7,7,7,7,7,7,7,7,7,7,7,7,7,7,7,7,7,7,7,7,7,7,7,7,7,7,7,7,7,7,7,7,7,7,7,7,7,7,7,7,8,8,8,8,8,8,8,8,8,8,8,8,8,8,8,8,8,8,8,8,8,8,8,8,8,8,8,8,8,8,8,8,8,8,8,8,8,8,8,8,8,8,8,8,8,8,8,8,8,8,8,8,8,8,8,8,8,8,8,8,8,8,8,8,8,8,8,8,8,8,8,8,8,8,8,8,8,8,8,8,8,8,8,8,8,8,8,8,8,8,8,8,8,8,8,8,8,8,8,8,8,8,8,8,8,8,8,8,8,8,8,8,8,8,8,8,8,8,8,8,8,8,8,8,8,8,8,8] v.val).elim false (fun k=>decide (k<9)&&(decide (v.val=0)&&decide (k=0)||decide (0<k)&&decide (2^(k-1)<=v.val)&&decide (v.val<2^k)))=true:=by decide +kernel
 have hv:=h ⟨v,hv⟩
 simp only[]at hv;generalize fC _ v=r at hv ⊢
 cases r with
 | none=>simp at hv
 | some k=>
  grind
def BL (x k:Nat):Prop:=x=0/\k=0\/0<k/\2^(k-1)<=x/\x<2^k
theorem FF{x s:Nat}(hx:x<256)(hs:s<100):∃k,k<=8/\BL x k/\jp 185 15 [.int .u32 x,.int .i64 s] t (fun v m=>v=.int .i64 ((s+k:Nat):Int)/\m=t):=by
 obtain⟨k,hk,h1,h2⟩:=UE x hx
 refine⟨k,by omega,h2,zct ?_⟩
 simp (disch:=omega) only[uU,uZ,uY,uW,AL,oA,Lr]
 unfold qH;rw[zN,qA];have:(zA.int .u8 (x:Int)).asNat=some x:=rfl
 rw[this,qA];simp only[zA.asStr];rw[show(rC.desc ⟨.string,1,16,[.str []],true⟩).isString=true from rfl,mE]
 grind [qA,sA,bB,oC]
theorem FE{x s:Nat}(hx:x<65536)(hs:s<90):∃k,k<=16/\BL x k/\jp 185 9 [.int .u32 x,.int .i64 s] t (fun v m=>v=.int .i64 ((s+k:Nat):Int)/\m=t):=by
 by_cases h:256<=x
 ·obtain⟨k,h1,h2,h3⟩:=FF (t:=t) (x:=x / 256) (s:=s+8) (by omega) (by omega)
  refine⟨k+8,by omega,?_,HG ?_⟩
  ·rcases h2 with h2 | ⟨g1,g2,g3⟩
   ·omega
   ·refine .inr ⟨by omega,?_,?_⟩
    ·rw[show k+8-1=(k-1)+8 by omega,Nat.pow_add];omega
    grind
  ·simp (disch:=omega) only[uZ,uW,Ta,oA,nJ,oC]
   grind
 ·obtain⟨k,h1,h2,h3⟩:=FF (t:=t) (x:=x) (s:=s) (by omega) (by omega)
  refine⟨k,by omega,h2,HG ?_⟩
  simp only[uZ,uW,Ta,oA,nJ];grind
theorem UF{x:Nat}(hx:x<4294967296):∃k,k<=32/\BL x k/\fB yA F 185 [.int .u32 x] t=some (.int .i64 (k:Int)):=by
 by_cases h:65536<=x
 ·obtain⟨k,h1,h2,h3⟩:=FE (t:=t) (x:=x / 65536) (s:=16) (by omega) (by omega)
  refine⟨k+16,by omega,?_,tE.2 (w185 ?_)⟩
  ·rcases h2 with h2 | ⟨g1,g2,g3⟩
   ·omega
   ·refine .inr ⟨by omega,?_,?_⟩
    ·rw[show k+16-1=(k-1)+16 by omega,Nat.pow_add];omega
    grind
  ·simp only[uZ,t185,oA,nJ]
   grind
 ·obtain⟨k,h1,h2,h3⟩:=FE (t:=t) (x:=x) (s:=0) (by omega) (by omega)
  refine⟨k,by omega,h2,tE.2 (w185 ?_)⟩
  simp only[uZ,t185,oA,nJ];grind
theorem EX{x:Nat}(hx:x<4294967296)(h0:0<x):∃s:Nat,s<32/\2147483648<=x*2^s/\x*2^s<4294967296/\fB yA F 176 [.int .u32 x] t=some (.int .i64 (s:Int)):=by
 obtain⟨k,h1,h2,h3⟩:=UF (t:=t) hx
 rcases h2 with h2 | ⟨g1,g2,g3⟩
 ·omega
 ·refine⟨32-k,by omega,?_,?_,tE.2 (w176 ?_)⟩
  ·have:2^(k-1)*2^(32-k)=2147483648:=by rw[<- Nat.pow_add,show k-1+(32-k)=31 by omega]
   rw[<- this];exact ybi _ g2
  ·have:2^k*2^(32-k)=4294967296:=by rw[<- Nat.pow_add,show k+(32-k)=32 by omega]
   rw[<- this];exact Nat.mul_lt_mul_of_pos_right g3 (Nat.pow_pos (Nat.succ_pos 1))
  ·simp (disch:=omega) only[uI,uZ,uW,t176,oA,q185,h3,sA,bB,oC]
   grind
end Go.Proofs
namespace Go.Am
theorem Nc{p:List Nat}{n x:Nat}:(p++List.replicate (n+1) 0).set p.length x=(p++[x])++List.replicate n 0:=by
 grind
theorem uM(B:Nat)(l:List Nat)(x:Nat):val B (l++[x])=val B l+B^l.length*x:=by rw[He];simp[val]
theorem mW{B:Nat}{l:List Nat}{x:Nat}(h:mB B l)(hx:x<B):mB B (l++[x]):=ZO h fun y hy=>by simp_all
theorem PO{B:Nat}{r w d:Nat}(hr:r<d)(hw:w<B):(r*B+w) / d<B:=by
 have hd:0<d:=by omega
 refine ycu ?_
 have:(r+1)*B<=d*B:=ybi B hr
 grind
theorem mO{l:List Nat}{i x:Nat}(h:l[i]?=some x):l.take (i+1)=l.take i++[x]:=by rw[ydg,h];rfl
theorem sP{l:List Nat}{i x:Nat}(h:l[i]?=some x):l.drop i=x::l.drop (i+1):=by
 have hi:=(ybc.1 h)
 rw[ybl hi.1,hi.2]
end Go.Am
namespace Go.Am
open Go Go.RowKit
section
variable {t:Tr vA}{C:rA}
theorem TM{c:Tr zA}{sz:Nat}:∀(cl:List (List zA)) (off:Nat),(∀(i:Nat) cs,cl[i]?=some cs->cs.length=sz/\∀(j:Nat) a,cs[j]?=some a->c.get (off+i*sz+j)=some a)->c.many (cl.length*sz) off=some cl.flatten:=by
 intro cl;induction cl with
 | nil=>intro off _;simp;rfl
 | cons cs cl ih=>
  intro off h;obtain⟨h1,h2⟩:=h 0 cs (by simp)
  have hrest:=ih (off+sz) fun i cs' hi=>by
   obtain⟨g1,g2⟩:=h (i+1) cs' (by simp_all)
   grind
  have key:∀(n:Nat) (l r:List zA) (off:Nat),l.length=n->(∀(j:Nat) a,l[j]?=some a->c.get (off+j)=some a)->∀m,c.many m (off+n)=some r->c.many (n+m) off=some (l++r):=by
   intro n;induction n with
   | zero=>
    simp_all
   | succ n ihn=>
    intro l r off hl hg m hm
    cases l with
    | nil=>simp at hl
    | cons a l=>
     rw[show n+1+m=(n+m)+1 by omega,Tr.many_succ]
     have:=hg 0 a (by simp)
     rw[yct]at this;rw[this,qA,ihn l r (off+1) (by simp_all) (fun j b hj=>by
      have:=hg (j+1) b (by simp_all)
      grind) m (by grind)]
     rfl
  grind [Nat.add_mul]
theorem tP.first{sz:Nat}{v:zA}{cl:List (List zA)}(h:tP t sz v cl){n:Nat}:oY ⟨n,t⟩ sz cl.length v=some cl.flatten/\Ev v=some cl.length:=by
 rcases h with⟨rfl,rfl⟩ | ⟨b,off,cap,rfl,_,⟨c,m,lo,h1,_⟩,h2⟩
 ·exact⟨rfl,rfl⟩
 ·refine⟨?_,rfl⟩
  unfold oY;simp only[zA.asSlice];unfold bD;rw[h1,qA];simp only[vA.asCells,qA];refine TM cl off fun i cs hi=>?_
  obtain⟨g1,c',m',lo',g2,g3⟩:=h2 i cs hi
  simp_all
theorem Xo{sz:Nat}:∀ {cl:List (List zA)},(∀(i:Nat) cs,cl[i]?=some cs->cs.length=sz)->cl.flatten.length=cl.length*sz:=by
 intro cl;induction cl with
 | nil=>grind
 | cons c cl ih=>
  intro h;rw[yas,ybg,ybn,ybo,ih fun i cs hi=>h (i+1) cs (by simp_all),h 0 c (by simp)]
  omega
theorem Xp{sz:Nat}:∀ {cl:List (List zA)},(∀(i:Nat) cs,cl[i]?=some cs->cs.length=sz)->∀(i j:Nat) cs a,cl[i]?=some cs->cs[j]?=some a->cl.flatten[i*sz+j]?=some a:=by
 intro cl;induction cl with
 | nil=>simp_all
 | cons c cl ih=>
  intro h i j cs a hi hj;have hc:=h 0 c (by simp)
  rw[yas]
  cases i with
  | zero=>
   grind
  | succ i=>
   rw[ybp (by grind),hc,show(i+1)*sz+j-sz=i*sz+j by grind]
   exact ih (fun i cs hi=>h (i+1) cs (by simp_all)) i j cs a (by simp_all) hj
theorem tP.len{sz:Nat}{v:zA}{cl:List (List zA)}(h:tP t sz v cl):∀(i:Nat) cs,cl[i]?=some cs->cs.length=sz:=by
 rcases h with⟨rfl,rfl⟩ | ⟨b,off,cap,rfl,_,_,h2⟩
 all_goals grind
theorem Yc{sz n:Nat}{cl:List (List zA)}{t':Tr vA}{lo:Option Lo}(hl:∀(i:Nat) cs,cl[i]?=some cs->cs.length=sz)(h:t'.get n=some (.cells (Tr.ofList cl.flatten) (bA cl.flatten) lo))(hlo:lo=none\/∃x,lo=some x/\x.es=sz):tP t' sz (.slice n 0 cl.length cl.length) cl:=
 .inr ⟨n,0,cl.length,rfl,ybk _,⟨_,_,_,h,hlo⟩,fun i cs hi=>⟨hl i cs hi,_,_,_,h,fun j a hj=>by
  grind [Tr.get_ofList,Xp]⟩⟩
def NB (C:rA)(el:Nat):Prop:=∀y,C.tys.get el=some y->IK y=false
theorem NB.code{el:Nat}{z:rC}(h:NB C el)(hz:C.tys.get el=some z):yO el z=.sz z.size:=by
 unfold yO;rw[h z hz,yay];rfl
structure Rf (C:rA) (T el sz:Nat):Prop where
 ty:∃y,C.tys.get T=some y/\y.desc.asSlice=some el/\Nat.beq y.desc.tag 1=false
 el:∃y,C.tys.get el=some y/\y.size=sz/\bA y.zero=sz/\y.bytes<=500/\0<sz
structure Di (C:rA) (T e sz:Nat):Prop where
 ty:∃y,C.tys.get T=some y/\y.desc.asSlice=some e/\Nat.beq y.desc.tag 1=false
 el:∃y,C.tys.get e=some y/\y.size=sz/\bA y.zero=sz/\y.bytes<=500/\0<sz
 nb:NB C e
theorem LO{T el sz:Nat}(hT:Di C T el sz){l:List D}{x s:zA}(hx:aA t sz l x)(hl:l.length<1000000){n:Nat}(hn:t.get n=none)
  (hs:s=.nilslice\/∃b c m,s=.slice b 0 0 0/\t.get b=some (.cells c m none)) :
  ∃v H',yJ C T T s x ⟨n,t⟩=some (v,H')/\aA H'.t sz l v/\zB t H'.t/\nF n t H'.t:=by
 obtain⟨⟨y,hy1,hy2,hy3⟩,⟨z,hz1,hz2,hz3,hz4,hz5⟩,hnb⟩:=hT
 have hcode:=NB.code hnb hz1
 obtain⟨cl,he,hd⟩:=hx
 have hcl:=hd.length
 obtain⟨hf,hlen⟩:=he.first (n:=n)
 have hall:=he.len
 have base:yJ C T T s x ⟨n,t⟩=(match s.asSlice with
  | some s=>bif Nat.ble (s.2.2.1+cl.length) s.2.2.2 then xY C ⟨n,t⟩ z cl.length cl.flatten s else vY C ⟨n,t⟩ el z cl.length cl.flatten s
  | none=>yB (Nat.beq s.tag 5) (aV ⟨n,t⟩ el z cl.length cl.flatten)):=by
  unfold yJ oW;grind [qA,mE]
 have hfl:bA cl.flatten=cl.length*sz:=by grind [sD,Xo]
 have ok:wY z 0 0 cl.length cl.flatten=true:=by
  unfold wY;have h1:Nat.blt (0+cl.length+0) 1000000000=true:=vC.2 (by omega)
  have h2:Nat.blt ((0+cl.length+0)*z.bytes) 1000000000=true:=vC.2 (by
   have:=ydb (show 0+cl.length+0<=1000000 by omega) hz4
   omega)
  grind [vC,sC]
 have newT:∀(q:vA),zB t (t.set n q)/\nF n t (t.set n q):=fun q=>⟨fun c u hc=>by
   grind [Tr.get_set],fun c hc=>by rw[Tr.get_set,yaa hc]⟩
 rcases hs with rfl | ⟨b,c,m,rfl,hb⟩
 ·by_cases h0:cl.length=0
  ·have:cl=[]:=ycc.1 h0
   subst this;refine⟨.nilslice,⟨n,t⟩,?_,⟨[],.inl ⟨rfl,rfl⟩,hd⟩,zB.refl _,nF.refl _ _⟩
   rw[base];rfl
  ·refine⟨.slice n 0 cl.length cl.length,⟨n+1,t.set n (.cells (Tr.ofList cl.flatten) (bA cl.flatten) (some (yO el z)))⟩,?_,⟨cl,Yc hall (show(t.set n _).get n=_ by rw[Tr.get_set,yab rfl]) (.inr ⟨_,rfl,by rw[Fp,hz2]⟩),dD.mono (newT _).1 _ _ hd⟩,(newT _).1,(newT _).2⟩
   rw[base];simp only[zA.asSlice];show yB true (aV ⟨n,t⟩ el z cl.length cl.flatten)=_
   rw[mE];unfold aV;have:Nat.beq cl.length 0=false:=by
    grind [sC]
   rw[this,cond_false,ok];rfl
 ·by_cases h0:cl.length=0
  ·have:cl=[]:=ycc.1 h0
   subst this;refine⟨.slice b 0 0 0,⟨n,t⟩,?_,⟨[],.inr ⟨b,0,0,rfl,ybk _,⟨c,m,none,hb,.inl rfl⟩,fun i cs hi=>by simp at hi⟩,hd⟩,zB.refl _,nF.refl _ _⟩
   rw[base];rfl
  ·refine⟨.slice n 0 cl.length cl.length,⟨n+1,t.set n (.cells (Tr.ofList cl.flatten) (bA cl.flatten) (some (yO el z)))⟩,?_,⟨cl,Yc hall (show(t.set n _).get n=_ by rw[Tr.get_set,yab rfl]) (.inr ⟨_,rfl,by rw[Fp,hz2]⟩),dD.mono (newT _).1 _ _ hd⟩,(newT _).1,(newT _).2⟩
   rw[base];simp only[zA.asSlice];have:Nat.ble (0+cl.length) 0=false:=by
    grind [qE]
   rw[this,cond_false];unfold vY;simp only[];rw[show ∀x,(!(Nat.beq 0 1&&x))=true from fun _=>rfl,mE,ok,mE]
   unfold bD;rw[hb,qA];simp only[vA.asCells,qA];unfold Fdzx;simp only[Nat.zero_mul];show ob (c.many 0 0) _=_
   rw[show c.many 0 0=some [] from rfl,qA];rw[xG,yah,ybw];rfl
end
end Go.Am
namespace Go.Proofs
open Go Go.Am
variable [jC]
variable {t:Tr vA}
theorem el259:Di yA 189 56 1:=⟨⟨_,aK,rfl,rfl⟩,⟨_,fG,rfl,rfl,by decide,by decide⟩,fun y h=>by rw[fG]at h;cases h;rfl⟩
theorem lit0{T el:Nat}{y z:rC}(hT:yA.tys.get T=some y)(hel:y.desc.asSlice=some el)(hz:yA.tys.get el=some z)(hs:bA z.zero=z.size){b:Nat}(hb:t.get b=none) :
  ∃H',oD yA T 0 [] ⟨b,t⟩=some (.slice b 0 0 0,H')/\(∃c,H'.t.get b=some (.cells c 0 none))/\zB t H'.t:=by
 refine⟨dE ⟨b,t⟩ [] none,?_,⟨Tr.ofList [],?_⟩,?_⟩
 ·unfold oD
  rw[hT,qA,hel,qA,hz,qA];have:(Nat.blt (0*z.size) 1000000&&Nat.beq (bA z.zero) z.size)=true:=by simp_all
  rw[this];rfl
 ·show(t.set b _).get b=_
  rw[Tr.get_set,yab rfl];rfl
 ·intro c u hc
  show(t.set b _).get c=_
  grind [Tr.get_set]
theorem zaz{l:List Nat}{v:zA}{Q:fA}(hv:aA t 1 (xC .u32 l) v)(hl:l.length<1000000)
  (hQ:∀t' v',zB t t'->aA t' 1 (xC .u32 l) v'->Q v' t'):Wc yA F 174 [v] t Q:=by
 refine w174 ?_
 have e:(rW .eql).f yA 189 (.tmp 3) (.const (.slice none 0 0)) v .nilslice=some (.bool (Nat.beq v.tag 5)):=by
  obtain⟨cl,h1,_⟩:=hv
  rcases h1 with⟨rfl,_⟩ | ⟨b,off,cap,rfl,_⟩
  ·kernel_rfl
  ·kernel_rfl
 simp only[uB,t174,oA,e,sA,Av];split
 ·grind [jT,sC,zB.refl]
 ·intro b hb hbase
  obtain⟨H1,g1,⟨c,g2⟩,g3⟩:=lit0 (t:=t) aK rfl fG rfl hb
  rw[g1];simp only[sA];intro n hn _;obtain⟨u,H',g4,g5,g6,_⟩:=LO el259 (hv.mono g3) (by grind [aH]) hn (.inr ⟨b,c,0,rfl,g2⟩)
  rw[g4];simp only[sA];exact hQ _ _ (g3.trans g6) g5
def Hz(n:Nat):List Nat:=wE [n%4294967296,n / 4294967296]
theorem ML(n:Nat):val 4294967296 (Hz n)=n:=by grind [Hz,mT,val]
theorem ZN{n:Nat}(h:n<18446744073709551616):mB 4294967296 (Hz n):=aR fun x hx=>by
 grind
theorem TC(n:Nat):norm (Hz n):=zU _
theorem zcn{T el:Nat}{y z:rC}{k:IntKind}(hT:yA.tys.get T=some y)(hel:y.desc.asSlice=some el)(hz:yA.tys.get el=some z)(hzero:z.zero=[.int k 0])(hs:z.size=1)(x:Nat)(hk:True){b:Nat}(hb:t.get b=none) :
  ∃H',oD yA T 1 [(0,.int k (x:Int))] ⟨b,t⟩=some (.slice b 0 1 1,H')/\qF H'.t b k [x]/\zB t H'.t:=by
 refine⟨dE ⟨b,t⟩ [.int k (x:Int)] none,?_,⟨Tr.ofList [.int k (x:Int)],?_,fun j u hj=>?_⟩,?_⟩
 ·unfold oD
  rw[hT,qA,hel,qA,hz,qA,hs,hzero];rfl
 ·show(t.set b _).get b=_
  rw[Tr.get_set,yab rfl];rfl
 ·grind [Tr.get_ofList]
 ·intro c u hc
  show(t.set b _).get c=_
  grind [Tr.get_set]
theorem TW{T el:Nat}{y z:rC}{k:IntKind}(hT:yA.tys.get T=some y)(hel:y.desc.asSlice=some el)(hz:yA.tys.get el=some z)(hzero:z.zero=[.int k 0])(hs:z.size=1)(x x':Nat){b:Nat}(hb:t.get b=none) :
  ∃H',oD yA T 2 [(0,.int k (x:Int)),(1,.int k (x':Int))] ⟨b,t⟩=some (.slice b 0 2 2,H')/\qF H'.t b k [x,x']/\zB t H'.t:=by
 refine⟨dE ⟨b,t⟩ [.int k (x:Int),.int k (x':Int)] none,?_,⟨Tr.ofList [.int k (x:Int),.int k (x':Int)],?_,fun j u hj=>?_⟩,?_⟩
 ·unfold oD
  rw[hT,qA,hel,qA,hz,qA,hs,hzero];rfl
 ·show(t.set b _).get b=_
  rw[Tr.get_set,yab rfl];rfl
 ·grind [Tr.get_ofList]
 ·intro c u hc
  show(t.set b _).get c=_
  grind [Tr.get_set]
theorem PP{n:Nat}{Q:fA}(hn:n<18446744073709551616)(hQ:∀t' v',zB t t'->aA t' 1 (xC .u32 (Hz n)) v'->Q v' t'):Wc yA F 173 [.int .u64 n] t Q:=by
 refine w173 ?_
 have e1:lA .u32 (n:Int)=((n%4294967296:Nat):Int):=by rw[xS];omega
 have e2:lA .u32 (Int.fdiv (n:Int) 4294967296)=((n / 4294967296:Nat):Int):=by
  rw[show Int.fdiv (n:Int) 4294967296=((n / 4294967296:Nat):Int) from Al _ 4294967296,wS (by omega) (by omega)]
 simp only[t173,oA,e1,e2];intro b hb _;obtain⟨H',g1,g2,g3⟩:=TW (t:=t) (k:=.u32) aK rfl fG rfl rfl (n%4294967296) (n / 4294967296) hb
 rw[g1];simp only[sA];obtain⟨v',h1,h2⟩:=pZ (l:=[n%4294967296,n / 4294967296]) (by simp) (g2.all (ybk _))
 simp only[Cf];have h1:fB yA F 140 [.slice b 0 2 2] H'.t=some v':=h1
 rw[h1];exact hQ _ _ g3 h2
theorem NF{l:List Nat}{v:zA}{b:Nat}{neg:Bool}{Q:fA}(hv:aA t 1 (xC .u32 l) v)(hl:l.length<400000)(hlt:mB 4294967296 l)(hne:l≠[])(hnorm:norm l)(hbase:yA.base<=b)(hb:t.get b=none)
  (hQ:∀t' v',zB t t'->aA t' 1 (xC .u16 (wE (oG l))) v'->Q (.agg [.bool neg,v']) t'):∀(k i:Nat) (t':Tr vA),i+k=l.length->zB t t'->qF t' b .u16 (oG (l.take i)++List.replicate (2*k) 0) →
  jp 141 2 [.bool neg,.slice b 0 (2*l.length) (2*l.length),v,.int .i64 l.length,.int .i64 i,.bool false,.nilslice] t' Q:=by
 intro k;induction k with
 | zero=>
  intro i t' hi ht ho;refine HW ?_
  rw[yca (by omega),yat,List.replicate_zero,ycd]at ho
  obtain⟨m,w,rfl⟩:=Ow hne
  have hw:w≠0:=by have:=hnorm (by simp);simp_all
  have hwlt:w<4294967296:=hlt w (by simp)
  have hul:(oG (m++[w])).length=2*(m++[w]).length:=Hi _
  have hml:(m++[w]).length=m.length+1:=by simp
  have hlast:(oG (m++[w]))[2*m.length+1]?=some (w / 65536):=by
   grind [Hj]
  have hread:=ho.all (cap:=2*(m++[w]).length) (by omega)
  rw[hul]at hread;have g3:aB yA 41 (.slice b 0 (2*(m++[w]).length) (2*(m++[w]).length)) (.int .i64 ((2*m.length+1:Nat):Int))=some (.ptr b (0+(2*m.length+1)*1)):=Bp Bw (by omega)
  rw[show 0+(2*m.length+1)*1=2*m.length+1 by omega]at g3
  have g4:=ho.load hlast rZ rfl
  have e1:((2*(m++[w]).length:Nat):Int)-1=((2*m.length+1:Nat):Int):=by omega
  have hlen:mC (.slice b 0 (2*(m++[w]).length) (2*(m++[w]).length))=some (.int .i64 ((2*(m++[w]).length:Nat):Int)):=rfl
  have hb2:2*m.length+1<1000000:=by omega
  simp (disch:=omega) only[uI,uL,uH,wF,nD,uZ,uW,Tt,oA,bF,hlen,sA,bB,e1,oC,g3,g4,oN]
  rw[yaa (by omega)]
  by_cases hz:w / 65536=0
  ·rw[yab (by omega)]
   obtain⟨u,g5,g6⟩:=sK.front Bw hread (k:=2*m.length+1) (by grind [aH])
   rw[g5];simp only[sA];have hone:cB zA.one [.bool neg,u]=true:=by
    show(bif zA.one (.bool neg)then(bif zA.one u then true else false)else false)=true
    rw[g6.one];rfl
   grind [KD,BG,Hj,Hi]
  ·rw[yaa (by omega)]
   have hone:cB zA.one [.bool neg,.slice b 0 (2*(m++[w]).length) (2*(m++[w]).length)]=true:=rfl
   grind [BG]
 | succ k ih=>
  intro i t' hi ht ho;obtain⟨x,hx⟩:=getElem?_of_lt (l:=l) (i:=i) (by omega)
  have hxlt:x<4294967296:=jJ hlt hx
  obtain⟨c,off,g1,g2⟩:=(hv.mono ht).idx fF hx
  have htl:(l.take i).length=i:=by grind
  have hpl:(oG (l.take i)).length=2*i:=by rw[Hi,htl]
  have hlen0:(oG (l.take i)++List.replicate (2*(k+1)) 0).length=2*l.length:=by grind
  have g3:∀j,j<2*l.length->aB yA 41 (.slice b 0 (2*l.length) (2*l.length)) (.int .i64 (j:Int))=some (.ptr b j):=by
   intro j hj;have:=Bp (b:=b) (off:=0) (cap:=2*l.length) Bw hj
   simp_all
  have g3a:=g3 (2*i) (by omega)
  have g3b:=g3 (2*i+1) (by omega)
  obtain⟨t1,s1,s2,s3⟩:=ho.store (C:=yA) hbase (j:=2*i) (by omega) (x%65536) rZ rfl
  have hs2:(oG (l.take i)++List.replicate (2*(k+1)) 0).set (2*i) (x%65536)=(oG (l.take i)++[x%65536])++List.replicate (2*k+1) 0:=by
   grind [Nc]
  rw[hs2]at s2;obtain⟨t2,s4,s5,s6⟩:=s2.store (C:=yA) hbase (j:=2*i+1) (by simp[hpl]) (x / 65536) rZ rfl
  have hs5:((oG (l.take i)++[x%65536])++List.replicate (2*k+1) 0).set (2*i+1) (x / 65536)=oG (l.take (i+1))++List.replicate (2*k) 0:=by
   have hq:(oG (l.take i)++[x%65536]).length=2*i+1:=by simp[hpl]
   rw[<- hq,Nc,mO hx,Hj];simp
  rw[hs5]at s5;have e1:lA .u16 (x:Int)=((x%65536:Nat):Int):=by rw[LZ];omega
  have e2:lA .u16 (Int.fdiv (x:Int) 65536)=((x / 65536:Nat):Int):=by
   rw[show Int.fdiv (x:Int) 65536=((x / 65536:Nat):Int) from Al _ 65536,MA (by omega) (by omega)]
  have e3:(2:Int)*(i:Int)=((2*i:Nat):Int):=by omega
  have e4:((2*i:Nat):Int)+1=((2*i+1:Nat):Int):=by omega
  refine HW ?_
  simp (disch:=omega) only[uI,uL,uH,wF,nD,uZ,uW,Tt,oA,bF,g1,g2,sA,bB,e1,e2,e3,e4,oC,g3a,g3b]
  rw[yab (by omega)]
  intro d _ _;rw[s1];simp only[sA];intro d' _ _;rw[s4];simp only[sA];have:=ih (i+1) t2 (by omega) ((ht.off hb s3).off hb s6) s5
  grind
theorem Rt{l:List Nat}{v:zA}{neg:Bool}{Q:fA}(hv:aA t 1 (xC .u32 l) v)(hl:l.length<400000)(hlt:mB 4294967296 l)
  (hQ:∀t' v',zB t t'->aA t' 1 (xC .u16 (wE (oG (wE l)))) v'->Q (.agg [.bool (if wE l=[]then false else neg),v']) t'):Wc yA F 141 [.bool neg,v] t Q:=by
 refine w141 ?_
 obtain⟨u,h1,h2⟩:=pZ (l:=l) (by omega) hv
 have hsl:=Hu l
 simp only[uI,uZ,uW,t141,oA,Cf,h1,sA,h2.len,bB,aH,oN];by_cases h0:wE l=[]
 ·rw[yab (by grind)]
  simp only[if_true];have:=hQ t .nilslice (zB.refl _) (by rw[h0];exact⟨[],.inl ⟨rfl,rfl⟩,by simp[oG,wE,xC,dD]⟩)
  simp_all
 ·have hpos:0<(wE l).length:=List.length_pos_iff.2 h0
  rw[yaa (by omega)]
  have e1:(2:Int)*((wE l).length:Int)=((2*(wE l).length:Nat):Int):=by omega
  simp (disch:=omega) only[e1,oC]
  intro b hb hbase;obtain⟨t',g1,g2,g3,_⟩:=Cj (C:=yA) (k:=.u16) Hm rfl rZ rfl rfl (by decide) (n:=2*(wE l).length) (by omega) hb
  rw[g1];simp only[sA];refine NF h2 (by omega) (aR hlt) h0 (zU l) hbase hb (fun t2 v2 a b=>?_) (wE l).length 0 t' (by omega) g3 (by grind [oG])
  simp_all
end Go.Proofs
namespace Go.Proofs
open Go Go.Am
variable [jC]
variable {t:Tr vA}
theorem Cn{T el:Nat}(h:sK yA T el 1 false){b n cap j:Nat}(hj:j<n):aB yA T (.slice b 0 n cap) (.int .i64 (j:Int))=some (.ptr b j):=by
 have:=Bp (b:=b) (off:=0) (cap:=cap) h hj
 simp_all
theorem IQ{x s:Nat}(hs:s<64)(hx:x*2^s<18446744073709551616):kU .u64 (x:Int) (s:Int)=some (.int .u64 ((x*2^s:Nat):Int)):=by
 unfold kU Bz;have:gL (s:Int)=some s:=rfl
 rw[this,qA,qA];have hm:min s (IntKind.bits .u64)=s:=by show min s 64=s;omega
 rw[hm];have e:(x:Int)*Int.ofNat (2^s)=((x*2^s:Nat):Int):=by simp_all
 rw[e,xF (by omega) (by omega)]
theorem IP{x s:Nat}(hs:s<65):Co .u64 (x:Int) (s:Int)=some (.int .u64 ((x / 2^s:Nat):Int)):=by
 unfold Co Bz;have:gL (s:Int)=some s:=rfl
 rw[this,qA,qA];have hm:min s (IntKind.bits .u64)=s:=by show min s 64=s;omega
 rw[hm];have e:Int.fdiv (x:Int) (Int.ofNat (2^s))=((x / 2^s:Nat):Int):=Al x (2^s)
 rw[e]
theorem SA{s:Nat}(hs:s<32):2^s<=2147483648:=yao (n:=2) (by decide) (show s<=31 by omega)
theorem DQ{s:Nat}(hs:s<=32):2^s*2^(32-s)=4294967296:=by rw[<- Nat.pow_add,show s+(32-s)=32 by omega]
theorem zck{x s:Nat}(hs:s<=32):(x*2^s%4294967296)%2^s=0:=by
 rw[<- DQ hs,ybh x,Nat.mul_mod_mul_left,Nat.mul_mod_right]
theorem PQ{l:List Nat}{v:zA}{b s:Nat}{Q:fA}(hv:aA t 1 (xC .u32 l) v)(hl:l.length<900000)(hlt:mB 4294967296 l)(hs:s<32)(hbase:yA.base<=b)(hb:t.get b=none)
  (hQ:∀t' r,zB t t'->nF b t t'->qF t' b .u32 r->r.length=l.length+1->mB 4294967296 r->val 4294967296 r=val 4294967296 l*2^s->Q (.slice b 0 (l.length+1) (l.length+1)) t') :
  ∀(k i:Nat) (t':Tr vA) (P:List Nat) (c:Nat),i+k=l.length->zB t t'->nF b t t'->qF t' b .u32 ((P++[c])++List.replicate k 0)->P.length=i->c<2^s->mB 4294967296 P->val 4294967296 P+4294967296^i*c=val 4294967296 (l.take i)*2^s →
  jp 177 2 [.int .i64 s,.slice b 0 (l.length+1) (l.length+1),v,.int .i64 l.length,.int .i64 i] t' Q:=by
 have hp2:=SA hs
 intro k;induction k with
 | zero=>
  intro i t' P c hi ht hoff ho hP hc hPl hval;refine HN ?_
  simp only[uL,uE,nD,uZ,Tg,oA,bF];rw[yaa (by omega)]
  rw[List.replicate_zero,ycd]at ho;refine hQ t' (P++[c]) ht hoff ho (by grind) (mW hPl (by omega)) ?_
  rw[uM,hP,hval,yca (by omega)]
 | succ k ih=>
  intro i t' P c hi ht hoff ho hP hc hPl hval;obtain⟨x,hx⟩:=getElem?_of_lt (l:=l) (i:=i) (by omega)
  have hxlt:x<4294967296:=jJ hlt hx
  obtain⟨d,off,g1,g2⟩:=(hv.mono ht).idx fF hx
  have hxs:x*2^s<4294967296*2^s:=Nat.mul_lt_mul_of_pos_right hxlt (Nat.pow_pos (by decide))
  have hxs2:x*2^s<18446744073709551616:=by
   omega
  have hlow:=zck (x:=x) (s:=s) (by omega)
  have hlor:Nat.lor c (x*2^s%4294967296)=x*2^s%4294967296+c:=by
   have:=or_low (a:=x*2^s%4294967296) (b:=c) (n:=s) hc hlow
   simp_all [Nat.or_comm]
  have hsum:x*2^s%4294967296+c<4294967296:=by
   have h1:x*2^s%4294967296<4294967296:=ycy _ (by decide)
   have h2:(4294967296:Nat)%2^s=0:=by rw[<- DQ (s:=s) (by omega),Nat.mul_mod_right]
   obtain⟨p,hp⟩:=Nat.dvd_of_mod_eq_zero hlow
   obtain⟨q,hq⟩:=Nat.dvd_of_mod_eq_zero h2
   have hpq:p<q:=by
    rcases yau p q with g | g
    ·exact g
    ·have:=ybv (2^s) g;omega
   have:=ybv (2^s) (show p+1<=q from hpq)
   grind
  have hhigh:x*2^s / 4294967296<2^s:=ycu (by omega)
  have hlen0:((P++[c])++List.replicate (k+1) 0).length=l.length+1:=by simp;omega
  have g3a:=Cn fF (b:=b) (n:=l.length+1) (cap:=l.length+1) (j:=i) (by omega)
  have g3b:=Cn fF (b:=b) (n:=l.length+1) (cap:=l.length+1) (j:=i+1) (by omega)
  have g4:=ho.load (j:=i) (x:=c) (by simp_all [ybp]) fG rfl
  obtain⟨t1,s1,s2,s3⟩:=ho.store (C:=yA) hbase (j:=i) (by omega) (x*2^s%4294967296+c) fG rfl
  have hs2:((P++[c])++List.replicate (k+1) 0).set i (x*2^s%4294967296+c)=(P++[x*2^s%4294967296+c])++List.replicate (k+1) 0:=by
   simp_all
  rw[hs2]at s2;obtain⟨t2,s4,s5,s6⟩:=s2.store (C:=yA) hbase (j:=i+1) (by grind) (x*2^s / 4294967296) fG rfl
  have hs5:((P++[x*2^s%4294967296+c])++List.replicate (k+1) 0).set (i+1) (x*2^s / 4294967296)=((P++[x*2^s%4294967296+c])++[x*2^s / 4294967296])++List.replicate k 0:=by
   have hq:(P++[x*2^s%4294967296+c]).length=i+1:=by simp[hP]
   grind [Nc]
  rw[hs5]at s5;refine HN ?_
  have e1:lA .u32 ((x*2^s:Nat):Int)=((x*2^s%4294967296:Nat):Int):=by rw[xS];omega
  have e2:lA .u32 (Int.fdiv ((x*2^s:Nat):Int) 4294967296)=((x*2^s / 4294967296:Nat):Int):=by
   rw[show Int.fdiv ((x*2^s:Nat):Int) 4294967296=((x*2^s / 4294967296:Nat):Int) from Al _ 4294967296]
   generalize x*2^s=z at hhigh ⊢
   rw[wS (by omega) (by omega)]
  simp (disch:=omega) only[uL,uE,nD,uZ,Tg,oA,bF,g1,g2,sA,bB,xF,g3a,g4]
  rw[yab (by omega),IQ (by omega) hxs2]
  simp only[sA,bB,e1];have e3:mH Nat.lor .u32 (c:Int) ((x*2^s%4294967296:Nat):Int)=some (.int .u32 ((x*2^s%4294967296+c:Nat):Int)):=by
   rw[dS (k:=.u32) (x:=c) (y:=x*2^s%4294967296) (show c<cF .u32 by show c<4294967296;omega) (by show x*2^s%4294967296<4294967296;omega),hlor]
  rw[e3];simp only[sA,bB];intro _ _ _;rw[s1];simp (disch:=omega) only[sA,oC]
  rw[show(i:Int)+1=((i+1:Nat):Int) by omega,g3b]
  simp only[sA,e2];intro _ _ _;rw[s4];simp only[sA];refine ih (i+1) t2 _ _ (by omega) ((ht.off hb s3).off hb s6) ((hoff.trans s3).trans s6) s5 (by simp[hP]) hhigh (mW hPl hsum) ?_
  rw[uM,hP,mO hx,uM,ybo,<- hval];have:(l.take i).length=i:=by simp;omega
  grind [Nat.div_add_mod]
theorem BV{l:List Nat}{v:zA}{s:Nat}{Q:fA}(hv:aA t 1 (xC .u32 l) v)(hl:l.length<900000)(hlt:mB 4294967296 l)(hs:s<32)
  (hQ:∀t' b r,zB t t'->t.get b=none->yA.base<=b->qF t' b .u32 r->r.length=l.length+1->mB 4294967296 r->val 4294967296 r=val 4294967296 l*2^s->Q (.slice b 0 (l.length+1) (l.length+1)) t'):Wc yA F 177 [v,.int .i64 s] t Q:=by
 refine w177 ?_
 simp (disch:=omega) only[uI,nD,uZ,t177,oA,hv.len,sA,bB,aH,oC]
 intro b hb hbase;obtain⟨t',g1,g2,g3,g4⟩:=Cj (C:=yA) (k:=.u32) aK rfl fG rfl rfl (by decide) (n:=l.length+1) (by omega) hb
 rw[show(l.length:Int)+1=((l.length+1:Nat):Int) by omega,g1]
 simp only[sA];have:=PQ hv hl hlt hs hbase hb (fun t' r a _ c d e f=>hQ t' b r a hb hbase c d e f) l.length 0 t' [] 0 (by omega) g3 g4 (by grind) rfl (Nat.pow_pos (by decide)) (fun x hx=>by cases hx) (by simp[val])
 exact this
theorem WV{l:List Nat}{v:zA}{b d:Nat}{Q:fA}(hv:aA t 1 (xC .u32 l) v)(hl:l.length<900000)(hlt:mB 4294967296 l)(hd:d<4294967296)(hd0:0<d)(hbase:yA.base<=b)(hb:t.get b=none)
  (hQ:∀t' v' q r,zB t t'->aA t' 1 (xC .u32 (wE q)) v'->mB 4294967296 q->q.length=l.length->r<d->val 4294967296 l=val 4294967296 q*d+r->Q (.tup [v',.int .u32 (r:Nat)]) t') :
  ∀(i:Nat) (t':Tr vA) (q:List Nat) (r:Nat),i<=l.length->zB t t'->qF t' b .u32 (List.replicate i 0++q)->q.length=l.length-i->mB 4294967296 q->r<d->val 4294967296 (l.drop i)=val 4294967296 q*d+r →
  jp 175 2 [v,.int .u32 d,.slice b 0 l.length l.length,.int .u32 r,.int .i64 ((i:Int)-1)] t' Q:=by
 intro i;induction i with
 | zero=>
  intro t' q r _ ht ho hq hql hr hval;refine HO ?_
  simp only[uL,uX,uZ,uW,Th,oA,nJ];rw[yaa (by omega)]
  rw[List.replicate_zero,yah]at ho;have hread:=ho.all (ybk _)
  have hqlen:q.length=l.length:=by omega
  rw[hqlen]at hread;obtain⟨v',h1,h2⟩:=pZ (l:=q) (by omega) hread
  simp only[Cf,h1,sA];grind
 | succ i ih=>
  intro t' q r hi ht ho hq hql hr hval;obtain⟨x,hx⟩:=getElem?_of_lt (l:=l) (i:=i) (by omega)
  have hxlt:x<4294967296:=jJ hlt hx
  obtain⟨c,off,g1,g2⟩:=(hv.mono ht).idx fF hx
  have e1:((i+1:Nat):Int)-1=(i:Int):=by omega
  have g3:=Cn fF (b:=b) (n:=l.length) (cap:=l.length) (j:=i) (by omega)
  have hlen0:(List.replicate (i+1) 0++q).length=l.length:=by grind
  have hdiv:=zal (t:=t') hr hxlt hd
  have hqlt:(r*4294967296+x) / d<4294967296:=PO hr hxlt
  have hrlt:(r*4294967296+x)%d<d:=ycy _ hd0
  obtain⟨t1,s1,s2,s3⟩:=ho.store (C:=yA) hbase (j:=i) (by omega) ((r*4294967296+x) / d) fG rfl
  have hs2:(List.replicate (i+1) 0++q).set i ((r*4294967296+x) / d)=List.replicate i 0++((r*4294967296+x) / d::q):=by
   grind [List.replicate_succ',set_append_right]
  rw[hs2]at s2;rw[e1];refine HO ?_
  simp (disch:=omega) only[uL,uX,uZ,uW,Th,oA,nJ,g1,g2,sA,bB,q184,hdiv,wH,zA.asTup,qA,g3,oC]
  rw[yab (by omega)]
  simp only[zG,yaz,yba,sA,bB];intro _ _ _;rw[s1];simp only[sA];refine ih t1 _ _ (by omega) (ht.off hb s3) s2 (by grind) ?_ hrlt ?_
  ·intro y hy
   rcases ybs.1 hy with rfl | hy
   ·exact hqlt
   ·exact hql y hy
  ·rw[sP hx]
   grind [val,Nat.div_add_mod]
theorem WU{l:List Nat}{v:zA}{d:Nat}{Q:fA}(hv:aA t 1 (xC .u32 l) v)(hl:l.length<900000)(hlt:mB 4294967296 l)(hd:d<4294967296)(hd0:0<d)
  (hQ:∀t' v' q r,zB t t'->aA t' 1 (xC .u32 (wE q)) v'->mB 4294967296 q->q.length=l.length->r<d->val 4294967296 l=val 4294967296 q*d+r->Q (.tup [v',.int .u32 (r:Nat)]) t'):Wc yA F 175 [v,.int .u32 d] t Q:=by
 refine w175 ?_
 simp (disch:=omega) only[uI,uZ,uW,t175,oA,hv.len,sA,bB,aH,oC]
 intro b hb hbase;obtain⟨t',g1,g2,g3,g4⟩:=Cj (C:=yA) (k:=.u32) aK rfl fG rfl rfl (by decide) (n:=l.length) (by omega) hb
 rw[g1];simp only[sA];exact WV hv hl hlt hd hd0 hbase hb hQ l.length t' [] 0 (ybk _) g3 (by simp_all) (by simp) (fun x hx=>by cases hx) hd0 (by simp[val])
end Go.Proofs
namespace Go.Proofs
open Go Go.Am
variable [jC]
theorem WZ{l:List Nat}{y:zA}{box:Nat}{v:zA}{Q:fA}{I:Nat->Tr vA->Prop}(hl:l.length<1000000)
  (hr:∀k t,I k t->iA yA 189 ⟨0,t⟩ (.ptr box 0)=some v/\aA t 1 (xC .u32 l) v)
  (hy:∀k x t,l[k]?=some x->I (k+1) t->∀R:fA,(∀t',I k t'->R (.bool true) t')->xD (wK y [.int .u32 (x:Nat)]) fun p=>Wq yA F gC p.1 p.2 t R)
  (hQ:∀t,I 0 t->Q (.tup []) t):∀(k:Nat) (t:Tr vA),k<=l.length->I k t->jp 190 2 [y,.ptr box 0,.int .i64 ((k:Int)-1)] t Q:=by
 intro k;induction k with
 | zero=>
  intro t _ h;refine HE ?_
  simp only[uL,uB,uZ,uW,Sz,oA,nJ];simp_all
 | succ k ih=>
  intro t hk h;obtain⟨g0,hv⟩:=hr _ _ h
  obtain⟨x,hx⟩:=getElem?_of_lt (l:=l) (i:=k) (by omega)
  obtain⟨c,off,g1,g2⟩:=hv.idx fF hx
  have e1:((k+1:Nat):Int)-1=(k:Int):=by omega
  rw[e1];refine HE ?_
  simp (disch:=omega) only[uL,uB,uZ,uW,Sz,oA,nJ,g0,g1,g2,sA,bB,oC]
  rw[yab (by omega)]
  refine hy k x t hx h _ fun t' ht'=>?_
  grind [zA.asBool,sA]
theorem zdt{l:List Nat}{y:zA}{box:Nat}{v:zA}{Q:fA}{t:Tr vA}{I:Nat->Tr vA->Prop}(hl:l.length<1000000)
  (hr:∀k t,I k t->iA yA 189 ⟨0,t⟩ (.ptr box 0)=some v/\aA t 1 (xC .u32 l) v)
  (hy:∀k x t,l[k]?=some x->I (k+1) t->∀R:fA,(∀t',I k t'->R (.bool true) t')->xD (wK y [.int .u32 (x:Nat)]) fun p=>Wq yA F gC p.1 p.2 t R)
  (hQ:∀t,I 0 t->Q (.tup []) t) (h:I l.length t):Wc yA F 190 [y,.ptr box 0] t Q:=by
 obtain⟨g0,hv⟩:=hr _ _ h
 refine w190 ?_
 simp (disch:=omega) only[uI,uZ,uW,t190,oA,g0,hv.len,aH,sA,bB,oC]
 exact WZ hl hr hy hQ l.length t (ybk _) h
end Go.Proofs
namespace Go.Am
open Go Go.RowKit
section
variable {t tf:Tr vA}{C:rA}
theorem iO{n:Nat}(hn:t.get n=none)(q:vA):zB t (t.set n q)/\nF n t (t.set n q):=
 ⟨fun c u hc=>by grind [Tr.get_set],fun c hc=>by rw[Tr.get_set,yaa hc]⟩
theorem JW{sz n:Nat}{cl:List (List zA)}{t':Tr vA}{lo:Option Lo}(hl:∀(i:Nat) cs,cl[i]?=some cs->cs.length=sz)(h:t'.get n=some (.cells (Tr.ofList cl.flatten) (bA cl.flatten) lo))(hlo:lo=none\/∃x,lo=some x/\x.es=sz){k:Nat}(hk:cl.length=k):tP t' sz (.slice n 0 k k) cl:=by
 grind [Yc]
theorem Jl{T el sz n:Nat}{y z:rC}{ps:List (Nat × zA)}{cl:List (List zA)}(hT:C.tys.get T=some y)(hel:y.desc.asSlice=some el)(hz:C.tys.get el=some z)(hs:z.size=sz)(h0:bA z.zero=sz)(hn:n*sz<1000000)
  (hfill:yK (fun i=>some (i*sz,sz)) ps (pH z.zero n)=some cl.flatten) (hcl:∀(i:Nat) cs,cl[i]?=some cs->cs.length=sz) (hlen:cl.length=n) {b:Nat} (hb:t.get b=none) :
  ∃t',oD C T n ps ⟨b,t⟩=some (.slice b 0 n n,⟨b+1,t'⟩)/\tP t' sz (.slice b 0 n n) cl/\zB t t'/\nF b t t':=by
 refine⟨t.set b (.cells (Tr.ofList cl.flatten) (bA cl.flatten) none),?_,JW hcl (by rw[Tr.get_set,yab rfl]) (.inl rfl) hlen,(iO hb _).1,(iO hb _).2⟩
 unfold oD;rw[hT,qA,hel,qA,hz,qA];have:(Nat.blt (n*z.size) 1000000&&Nat.beq (bA z.zero) z.size)=true:=by
  simp_all
 rw[this,mE,hs,hfill];rfl
def dM(cd:Lo)(base:Nat)(tf t:Tr vA)(sz:Nat)(l:List D)(v:zA):Prop:=
 (v=.nilslice/\l=[])\/∃b cl c,v=.slice b 0 l.length l.length/\base<=b/\tf.get b=none/\t.get b=some (.cells c (l.length*sz) (some cd)) ∧
  (∀(i:Nat) cs,cl[i]?=some cs->cs.length=sz/\∀(j:Nat) a,cs[j]?=some a->c.get (i*sz+j)=some a)/\dD tf l cl
abbrev uT(base:Nat)(tf t:Tr vA)(sz:Nat)(l:List D)(v:zA):Prop:=dM (.sz sz) base tf t sz l v
def fS(v:zA)(b:Nat):Prop:=∃o n c,v=.slice b o n c
theorem UV{b:Nat}:¬ fS .nilslice b:=fun⟨_,_,_,h⟩=>by cases h
theorem Pi{b c o n k:Nat}:fS (.slice b o n k) c ↔ c=b:=⟨fun⟨_,_,_,h⟩=>by grind,fun h=>by subst h;exact⟨_,_,_,rfl⟩⟩
theorem dM.read{cd:Lo}{base sz:Nat}{l:List D}{v:zA}(hcd:cd.es=sz)(h:dM cd base tf t sz l v)(ht:zB tf t):aA t sz l v:=by
 rcases h with⟨rfl,rfl⟩ | ⟨b,cl,c,rfl,_,_,h1,h2,h3⟩
 ·exact⟨[],.inl ⟨rfl,rfl⟩,rH.2 rfl⟩
 ·have hlen:=h3.length
  refine⟨cl,.inr ⟨b,0,l.length,by rw[hlen],by omega,⟨c,_,_,h1,.inr ⟨_,rfl,hcd⟩⟩,fun i cs hi=>⟨(h2 i cs hi).1,c,_,_,h1,fun j a hj=>?_⟩⟩,dD.mono ht _ _ h3⟩
  simp_all
theorem dM.len{cd:Lo}{base sz:Nat}{l:List D}{v:zA}(h:dM cd base tf t sz l v):mC v=some (.int .i64 (l.length:Int)):=by
 rcases h with⟨rfl,rfl⟩ | ⟨b,cl,c,rfl,_⟩
 ·rfl
 ·rfl
theorem dM.one{cd:Lo}{base sz:Nat}{l:List D}{v:zA}(h:dM cd base tf t sz l v):zA.one v=true:=by
 rcases h with⟨rfl,rfl⟩ | ⟨b,cl,c,rfl,_⟩<;>rfl
theorem dM.same{cd:Lo}{base sz d:Nat}{l:List D}{v:zA}(h:dM cd base tf t sz l v):same d v v=true:=by
 rcases h with⟨rfl,rfl⟩ | ⟨b,cl,c,rfl,_⟩
 all_goals grind [Am.same,Nat.beq_refl]
theorem dM.none{cd:Lo}{base sz:Nat}{l:List D}{v:zA}(h:dM cd base tf t sz l v){b:Nat}(hb:fS v b):tf.get b=none/\base<=b/\∃y,t.get b=some y:=by
 rcases h with⟨rfl,rfl⟩ | ⟨c,cl,x,rfl,h1,h2,h3,_⟩
 all_goals grind [UV,Pi]
theorem uT.keep{base sz:Nat}{l:List D}{v:zA}{t' tf':Tr vA}(h:uT base tf t sz l v)(hf:zB tf tf')(hk:∀b,fS v b->t'.get b=t.get b/\tf'.get b=Option.none):uT base tf' t' sz l v:=by
 rcases h with⟨rfl,rfl⟩ | ⟨b,cl,c,rfl,h0,h1,h2,h3,h4⟩
 ·exact .inl ⟨rfl,rfl⟩
 ·obtain⟨k1,k2⟩:=hk b (Pi.2 rfl)
  exact .inr ⟨b,cl,c,rfl,h0,k2,by simp_all,h3,dD.mono hf _ _ h4⟩
theorem ZG{T U el sz:Nat}{cd:Lo}(hT:Rf C T el sz)(hU:∃u,C.tys.get U=some u/\Nat.beq u.desc.tag 1=false)(hcd:∀z,C.tys.get el=some z->yO el z=cd){l m:List D}{v x:zA}{cm:List (List zA)}(hv:dM cd C.base tf t sz l v)(hall:∀(i:Nat) cs,cm[i]?=some cs->cs.length=sz)(hx:∀n,oY ⟨n,t⟩ sz cm.length x=some cm.flatten/\Ev x=some cm.length)(hm:dD tf m cm)(hone:∀a∈cm.flatten,zA.one a=true)(hpos:0<m.length)(hl:l.length+m.length<400000){n:Nat}(hn:t.get n=none)(hbase:C.base<=n)(ht:zB tf t) :
  ∃t',yJ C T U v x ⟨n,t⟩=some (.slice n 0 (l.length+m.length) (l.length+m.length),⟨n+1,t'⟩)/\dM cd C.base tf t' sz (l++m) (.slice n 0 (l.length+m.length) (l.length+m.length))/\zB tf t'/\(∀c,c≠n->¬ fS v c->t'.get c=t.get c):=by
 obtain⟨⟨y,hy1,hy2,hy3⟩,⟨z,hz1,hz2,hz3,hz4,hz5⟩⟩:=hT
 have hcode:=hcd z hz1
 have hcm:=hm.length
 obtain⟨hf,hlen⟩:=hx n
 obtain⟨u,hu1,hu2⟩:=hU
 have hflat:=Xo hall
 have hfl:bA cm.flatten=cm.length*sz:=by grind [sD]
 have hfn:tf.get n=none:=by
  cases hq:tf.get n with
  | none=>rfl
  | some u=>rw[ht _ _ hq]at hn;cases hn
 have base:yJ C T U v x ⟨n,t⟩=(match v.asSlice with
  | some s=>bif Nat.ble (s.2.2.1+cm.length) s.2.2.2 then xY C ⟨n,t⟩ z cm.length cm.flatten s else vY C ⟨n,t⟩ el z cm.length cm.flatten s
  | none=>yB (Nat.beq v.tag 5) (aV ⟨n,t⟩ el z cm.length cm.flatten)):=by
  unfold yJ oW;grind [qA,mE]
 have ok:wY z l.length l.length cm.length cm.flatten=true:=by
  unfold wY;have h1:Nat.blt (l.length+cm.length+l.length) 1000000000=true:=vC.2 (by omega)
  have h2:Nat.blt ((l.length+cm.length+l.length)*z.bytes) 1000000000=true:=vC.2 (by
   have:=ydb (show l.length+cm.length+l.length<=800000 by omega) hz4
   omega)
  grind [vC,sC]
 rcases hv with⟨rfl,rfl⟩ | ⟨b,cl,c,rfl,hb0,hb1,hb2,hb3,hb4⟩
 ·refine⟨t.set n (.cells (Tr.ofList cm.flatten) (bA cm.flatten) (some cd)),?_,.inr ⟨n,cm,Tr.ofList cm.flatten,by simp,hbase,hfn,?_,fun i cs hi=>⟨hall i cs hi,fun j a hj=>?_⟩,by simp_all⟩,?_,fun c hc _=>(iO hn _).2 c hc⟩
  ·rw[base]
   simp only[zA.asSlice];show yB true (aV ⟨n,t⟩ el z cm.length cm.flatten)=_
   rw[mE];unfold aV;have:Nat.beq cm.length 0=false:=by
    grind [sC]
   have ok:wY z 0 0 cm.length cm.flatten=true:=ok
   rw[this,cond_false,ok,mE,hcm,hcode];simp only[ybx,ybw];rfl
  ·grind [Tr.get_set]
  ·grind [Tr.get_ofList,Xp]
  ·exact ht.trans (iO hn _).1
 ·have hcl:=hb4.length
  have hbn:b≠n:=by grind
  refine⟨(t.del b).set n (.cells (c.setMany cm.flatten (l.length*z.size)) ((l.length+cm.length)*z.size) (some cd)),?_,.inr ⟨n,cl++cm,c.setMany cm.flatten (l.length*z.size),by simp,hbase,hfn,?_,fun i cs hi=>?_,?_⟩,fun k u hk=>?_,fun k hk1 hk2=>?_⟩
  ·rw[base]
   simp only[zA.asSlice];have:Nat.ble (l.length+cm.length) l.length=false:=by
    grind [qE]
   rw[this,cond_false];unfold vY;simp only[];rw[show ∀x,(!(Nat.beq 0 1&&x))=true from fun _=>rfl,mE,ok,mE]
   unfold bD;rw[hb2,qA];simp only[vA.asCells,qA];unfold Fe;simp only[];have g1:loEq cd (yO el z)=true:=by grind [FB]
   have g2:Nat.ble (l.length*z.size) (l.length*sz)=true:=qE.2 (by simp_all)
   have g3:Nat.ble (l.length*sz) ((l.length+cm.length)*z.size)=true:=qE.2 (by grind)
   have g4:cB zA.one cm.flatten=true:=by grind [dH]
   have g5:(!Nat.blt b C.base)=true:=by
    grind [vC]
   rw[g1,g2,g3,g4,g5];simp_all
  ·rw[Tr.get_set,yab rfl,hz2,hcm,ybg]
  ·rw[List.getElem?_append]at hi
   split at hi
   ·rename_i hlt
    obtain⟨k1,k2⟩:=hb3 i cs hi
    refine⟨k1,fun j a hj=>?_⟩
    have hjl:j<sz:=by grind
    have:i*sz+j<l.length*sz:=by
     have:=ybi sz (show i+1<=l.length by omega)
     grind
    grind [Tr.get_setMany]
   ·rename_i hge
    have k1:=hall _ cs hi
    refine⟨k1,fun j a hj=>?_⟩
    have hf1:=Xp hall _ j cs a hi hj
    have hlt:=(ybc.1 hf1).1
    have e:i*sz=l.length*sz+(i-cl.length)*sz:=by rw[<- ybo];simp_all
    grind [Tr.get_setMany]
  ·have app:∀ {l m:List D} {cl cm:List (List zA)},dD tf l cl->dD tf m cm->dD tf (l++m) (cl++cm):=by
    intro l;induction l with
    | nil=>grind [rH]
    | cons d l ih=>
     grind [iF]
   simp_all
  ·have h1:k≠b:=by grind
   have h2:k≠n:=by grind
   rw[Tr.get_set,yaa h2,Tr.get_del,yaa h1];exact ht _ _ hk
  grind [Tr.get_set,Tr.get_del,Pi]
theorem ZH{T el sz:Nat}{cd:Lo}(hT:Rf C T el sz)(hcd:∀z,C.tys.get el=some z->yO el z=cd){l m:List D}{v x:zA}{cm:List (List zA)}(hv:dM cd C.base tf t sz l v)(hx:tP t sz x cm)(hm:dD tf m cm)(hone:∀a∈cm.flatten,zA.one a=true)(hpos:0<m.length)(hl:l.length+m.length<400000){n:Nat}(hn:t.get n=none)(hbase:C.base<=n)(ht:zB tf t) :
  ∃t',yJ C T T v x ⟨n,t⟩=some (.slice n 0 (l.length+m.length) (l.length+m.length),⟨n+1,t'⟩)/\dM cd C.base tf t' sz (l++m) (.slice n 0 (l.length+m.length) (l.length+m.length))/\zB tf t'/\(∀c,c≠n->¬ fS v c->t'.get c=t.get c):=by
 obtain⟨y,hy1,hy2,hy3⟩:=hT.ty
 exact ZG hT ⟨y,hy1,hy3⟩ hcd hv hx.len (fun n=>hx.first (n:=n)) hm hone hpos hl hn hbase ht
theorem ZI{T el sz:Nat}(hT:Di C T el sz){l m:List D}{v x:zA}{cm:List (List zA)}(hv:uT C.base tf t sz l v)(hx:tP t sz x cm)(hm:dD tf m cm)(hone:∀a∈cm.flatten,zA.one a=true)(hpos:0<m.length)(hl:l.length+m.length<400000){n:Nat}(hn:t.get n=none)(hbase:C.base<=n)(ht:zB tf t) :
  ∃t',yJ C T T v x ⟨n,t⟩=some (.slice n 0 (l.length+m.length) (l.length+m.length),⟨n+1,t'⟩)/\uT C.base tf t' sz (l++m) (.slice n 0 (l.length+m.length) (l.length+m.length))/\zB tf t'/\(∀c,c≠n->¬ fS v c->t'.get c=t.get c):=by
 refine ZH ⟨hT.ty,hT.el⟩ (fun z h=>?_) hv hx hm hone hpos hl hn hbase ht
 obtain⟨y,h1,h2,_⟩:=hT.el
 rw[hT.nb.code h,show z=y from yci (h.symm.trans h1),h2]
theorem dM.freeze{cd:Lo}{base sz:Nat}{l:List D}{v:zA}(hcd:cd.es=sz)(h:dM cd base tf t sz l v)(ht:zB tf t):∃tf',zB tf tf'/\zB tf' t/\aA tf' sz l v/\∀b,¬ fS v b->tf'.get b=tf.get b:=by
 rcases h with⟨rfl,rfl⟩ | ⟨b,cl,c,rfl,h0,h1,h2,h3,h4⟩
 ·exact⟨tf,zB.refl _,ht,⟨[],.inl ⟨rfl,rfl⟩,rH.2 rfl⟩,fun _ _=>rfl⟩
 ·have hlen:=h4.length
  refine⟨tf.set b (.cells c (l.length*sz) (some cd)),(iO h1 _).1,fun k u hk=>?_,⟨cl,.inr ⟨b,0,l.length,by rw[hlen],by omega,⟨c,_,_,by rw[Tr.get_set,yab rfl],.inr ⟨_,rfl,hcd⟩⟩,fun i cs hi=>⟨(h3 i cs hi).1,c,_,_,(by rw[Tr.get_set,yab rfl]),fun j a hj=>?_⟩⟩,dD.mono (iO h1 _).1 _ _ h4⟩,fun k hk=>by rw[Tr.get_set,yaa (fun e=>hk (Pi.2 e))]⟩
  ·rw[Tr.get_set]at hk
   split at hk
   ·simp_all
   ·exact ht _ _ hk
  simp_all
theorem uT.freeze{base sz:Nat}{l:List D}{v:zA}(h:uT base tf t sz l v)(ht:zB tf t):∃tf',zB tf tf'/\zB tf' t/\aA tf' sz l v/\∀b,¬ fS v b->tf'.get b=tf.get b:=dM.freeze rfl h ht
end
end Go.Am
namespace Go.Am
open Go Go.RowKit
def vD (t:Tr vA)(b:Nat)(lo:Option Lo)(cs:List zA):Prop:=∃c,t.get b=some (.cells c cs.length lo)/\∀(j:Nat) a,cs[j]?=some a->c.get j=some a
def oM(cs:List zA)(j:Nat)(l:List zA):List zA:=cs.take j++(l++cs.drop (j+l.length))
theorem DY{cs l:List zA}{j:Nat}(h:j+l.length<=cs.length):(oM cs j l).length=cs.length:=by
 grind [oM]
theorem Nu{cs l:List zA}{j:Nat}(h:j+l.length<=cs.length)(k:Nat):(oM cs j l)[k]?=if j<=k/\k<j+l.length then l[k-j]? else cs[k]?:=by
 grind [oM]
section
variable {t tf:Tr vA}{C:rA}{b:Nat}{lo:Option Lo}{cs:List zA}
theorem vD.at(h:vD t b lo cs):At t b 0 cs:=by
 obtain⟨c,h1,h2⟩:=h
 exact⟨c,_,_,h1,fun j a hj=>by simp_all⟩
theorem vD.off(h:vD t b lo cs){t':Tr vA}(k:t'.get b=t.get b):vD t' b lo cs:=by
 obtain⟨c,h1,h2⟩:=h
 exact⟨c,by simp_all,h2⟩
theorem vD.load1(h:vD t b lo cs){j:Nat}{a:zA}{ty:Nat}{y:rC}(hy:C.tys.get ty=some y)(ha:y.desc.isAgg=false)(hj:cs[j]?=some a):iA C ty ⟨0,t⟩ (.ptr b j)=some a:=by
 have:=h.at.load1 hy ha hj
 simp_all
theorem vD.store(h:vD t b lo cs)(hb:C.base<=b){j T:Nat}{y:rC}{v:zA}(hT:C.tys.get T=some y)(hl:v.cells.length=y.size)(hj:j+v.cells.length<=cs.length)(hone:cB zA.one v.cells=true) :
  ∃t',(∀n,uC C T (.ptr b j) v ⟨n,t⟩=some (rD,⟨n,t'⟩))/\vD t' b lo (oM cs j v.cells)/\nF b t t':=by
 obtain⟨c,h1,h2⟩:=h
 refine⟨t.set b (.cells (c.setMany v.cells j) cs.length lo),fun n=>?_,⟨c.setMany v.cells j,?_,fun k a hk=>?_⟩,fun d hd=>by rw[Tr.get_set,yaa hd]⟩
 ·unfold uC
  rw[hT,qA];simp only[zA.asPtr,qA];have e1:Nat.beq (bA v.cells) y.size=true:=by grind [sD,sC]
  rw[e1,mE];unfold wI bD;have e2:(!Nat.blt b C.base)=true:=by
   grind [vC]
  rw[e2,mE,h1,qA];simp only[vA.asCells,qA];have e3:Nat.ble (j+bA v.cells) cs.length=true:=by simp_all
  rw[e3,hone];rfl
 all_goals grind [Tr.get_set,DY,Nu,Tr.get_setMany]
theorem vD.store1(h:vD t b lo cs)(hb:C.base<=b){j T:Nat}{y:rC}{v:zA}(hT:C.tys.get T=some y)(hs:y.size=1)(hv:v.cells=[v])(hone:zA.one v=true)(hj:j<cs.length) :
  ∃t',(∀n,uC C T (.ptr b j) v ⟨n,t⟩=some (rD,⟨n,t'⟩))/\vD t' b lo (cs.set j v)/\nF b t t':=by
 obtain⟨t',h1,h2,h3⟩:=h.store hb hT (v:=v) (j:=j) (by simp_all) (by grind) (by rw[hv];show(bif zA.one v then true else false)=true;simp_all)
 refine⟨t',h1,?_,h3⟩
 have e:oM cs j v.cells=cs.set j v:=by
  rw[hv];apply List.ext_getElem?
  grind [Nu]
 simp_all
theorem Eo{b:Nat}(hb:t.get b=none)(cs:List zA)(lo:Option Lo):∃t',dE ⟨b,t⟩ cs lo=⟨b+1,t'⟩/\vD t' b lo cs/\zB t t'/\nF b t t':=
 ⟨t.set b (.cells (Tr.ofList cs) (bA cs) lo),rfl,⟨Tr.ofList cs,by rw[Tr.get_set,yab rfl,sD],fun j a hj=>by grind [Tr.get_ofList]⟩,(iO hb _).1,(iO hb _).2⟩
theorem bR{b T:Nat}{y:rC}(hT:C.tys.get T=some y)(hb:t.get b=none):∃t',sJ C T ⟨b,t⟩=some (.ptr b 0,⟨b+1,t'⟩)/\vD t' b none y.zero/\zB t t'/\nF b t t':=by
 obtain⟨t',h1,h2,h3,h4⟩:=Eo hb y.zero none
 refine⟨t',?_,h2,h3,h4⟩
 unfold sJ;rw[hT,qA,<- h1]
theorem Qm{b:Nat}{v:zA}(hb:t.get b=none):∃t',jL v ⟨b,t⟩=some (.ptr b 0,⟨b+1,t'⟩)/\vD t' b none v.cells/\zB t t'/\nF b t t':=by
 simp_all [Eo,jL]
end
end Go.Am
namespace Go.Am
open Go Go.RowKit
structure jE where
 blks:List Nat
 ok:Tr vA->Tr vA->Prop
 keep:∀ {tf t tf' t':Tr vA},ok tf t->zB tf tf'->(∀k∈blks,t'.get k=t.get k/\tf'.get k=none)->ok tf' t'
 live:∀ {tf t:Tr vA},ok tf t->∀k∈blks,∃y,t.get k=some y
structure cA (base:Nat) (tf t:Tr vA) (l:List jE):Prop where
 tle:zB tf t
 nodup:(l.flatMap jE.blks).Nodup
 ok:∀o∈l,o.ok tf t
 low:∀k∈l.flatMap jE.blks,base<=k/\tf.get k=none
def cY (v:zA):List Nat:=match v with | .slice b _ _ _=>[b] | _=>[]
theorem Om{v:zA}{k:Nat}:k∈cY v ↔ fS v k:=by
 unfold cY fS;grind
def lC (b:Nat)(lo:Option Lo)(cs:List zA):jE where
 blks:=[b]
 ok:=fun _ t=>vD t b lo cs
 keep:=fun h _ k=>h.off (k b (by simp)).1
 live:=fun h k hk=>by rw[ydd]at hk;subst hk;obtain⟨c,hc,_⟩:=h;simp_all
def iL(base sz:Nat)(l:List D)(v:zA):jE where
 blks:=cY v
 ok:=fun tf t=>uT base tf t sz l v
 keep:=fun h hf k=>h.keep hf fun b hb=>k b (Om.2 hb)
 live:=fun h k hk=>(h.none (Om.1 hk)).2.2
section
variable {base:Nat}{tf t:Tr vA}{l A B:List jE}{o o':jE}
theorem cA.live(h:cA base tf t l){k:Nat}(hk:k∈l.flatMap jE.blks):∃y,t.get k=some y:=by
 obtain⟨o,ho,hk⟩:=List.mem_flatMap.1 hk
 exact o.live (h.ok o ho) k hk
theorem cA.fresh(h:cA base tf t l){n:Nat}(hn:t.get n=none):n∉l.flatMap jE.blks:=by
 intro hm;obtain⟨y,hy⟩:=h.live hm
 simp_all
theorem cA.tfn(h:cA base tf t l){n:Nat}(hn:t.get n=none):tf.get n=none:=by
 cases hq:tf.get n with
 | none=>rfl
 | some y=>have:=h.tle _ _ hq;simp_all
theorem cA.keep(h:cA base tf t l){tf' t':Tr vA}(hf:zB tf tf')(ht:zB tf' t')(hk:∀k∈l.flatMap jE.blks,t'.get k=t.get k/\tf'.get k=none):cA base tf' t' l:=
 ⟨ht,h.nodup,fun o ho=>o.keep (h.ok o ho) hf fun k hk'=>hk k (List.mem_flatMap.2 ⟨o,ho,hk'⟩),fun k hk'=>⟨(h.low k hk').1,(hk k hk').2⟩⟩
theorem cA.junk(h:cA base tf t l){n:Nat}{t':Tr vA}(hn:t.get n=none)(ho:nF n t t'):cA base tf t' l:=
 h.keep (zB.refl _) (h.tle.off (h.tfn hn) ho) fun k hk=>⟨ho k (fun e:k=n=>h.fresh hn (e ▸ hk)),(h.low k hk).2⟩
theorem cA.other(h:cA base tf t l){n:Nat}{t':Tr vA}(hn:n∉l.flatMap jE.blks)(hf:tf.get n=none)(ho:nF n t t'):cA base tf t' l:=
 h.keep (zB.refl _) (h.tle.off hf ho) fun k hk=>⟨ho k (fun e:k=n=>hn (e ▸ hk)),(h.low k hk).2⟩
theorem cA.froze(h:cA base tf t l){n:Nat}{y:vA}(hn:n∉l.flatMap jE.blks)(hy:t.get n=some y)(hf:tf.get n=none):cA base (tf.set n y) t l/\zB tf (tf.set n y):=by
 have h1:=(iO (t:=tf) hf y).1
 refine⟨h.keep h1 (fun k u hk=>?_) fun k hk=>⟨rfl,?_⟩,h1⟩
 ·rw[Tr.get_set]at hk
  split at hk
  ·simp_all
  ·exact h.tle _ _ hk
 ·rw[Tr.get_set,yaa (fun e:k=n=>hn (e ▸ hk))];exact(h.low k hk).2
theorem Ps:(A++o::B).flatMap jE.blks=A.flatMap jE.blks++(o.blks++B.flatMap jE.blks):=by simp
theorem cA.upd(h:cA base tf t (A++o::B)){t':Tr vA}(hk:∀k,k∉o.blks->k∉o'.blks->t'.get k=t.get k)(hn:∀k∈o'.blks,k∈o.blks\/(t.get k=none/\base<=k))(hok:o'.ok tf t')(hnd:o'.blks.Nodup)(ht:zB tf t'):cA base tf t' (A++o'::B):=by
 have hd:=h.nodup
 rw[Ps]at hd;rw[List.nodup_append]at hd;obtain⟨d1,d2,d3⟩:=hd
 rw[List.nodup_append]at d2;obtain⟨d4,d5,d6⟩:=d2
 have oth:∀k,k∈A.flatMap jE.blks\/k∈B.flatMap jE.blks->k∉o.blks/\k∉o'.blks/\t'.get k=t.get k/\base<=k/\tf.get k=none:=by
  intro k hk';have hm:k∈(A++o::B).flatMap jE.blks:=by rw[Ps];simp only[yaf];rcases hk' with h | h<;>simp[h]
  have h1:k∉o.blks:=fun hc=>by
   grind
  have h2:k∉o'.blks:=fun hc=>by
   rcases hn k hc with h' | h'
   ·grind
   ·obtain⟨y,hy⟩:=h.live hm
    simp_all
  exact⟨h1,h2,hk k h1 h2,h.low k hm⟩
 have mem:∀k,k∈(A++o'::B).flatMap jE.blks->(k∈A.flatMap jE.blks\/k∈B.flatMap jE.blks)\/k∈o'.blks:=by
  grind
 refine⟨ht,?_,fun p hp=>?_,fun k hk'=>?_⟩
 ·grind
 ·have hp':p∈A\/p=o'\/p∈B:=by simp_all
  rcases hp' with h' | h' | h'
  ·exact p.keep (h.ok p (by simp[h'])) (zB.refl _) fun k hk'=>by
    grind
  ·simp_all
  ·exact p.keep (h.ok p (by simp[h'])) (zB.refl _) fun k hk'=>by
    grind
 ·rcases mem k hk' with h' | h'
  ·simp_all
  ·rcases hn k h' with h'' | h''
   ·exact h.low k (by simp_all)
   ·exact⟨h''.2,h.tfn h''.1⟩
def Oe:jE:=⟨[],fun _ _=>True,fun _ _ _=>trivial,fun _ _ h=>by cases h⟩
theorem cA.add(h:cA base tf t (A++B)){t':Tr vA}(hk:∀k,k∉o'.blks->t'.get k=t.get k)(hn:∀k∈o'.blks,t.get k=none/\base<=k)(hok:o'.ok tf t')(hnd:o'.blks.Nodup)(ht:zB tf t'):cA base tf t' (A++o'::B):=by
 have e:cA base tf t (A++Oe::B):=by
  have hm:(A++Oe::B).flatMap jE.blks=(A++B).flatMap jE.blks:=by simp[Oe]
  refine⟨h.tle,by rw[hm];exact h.nodup,fun o ho=>?_,fun k hk=>h.low k (by simp_all)⟩
  have:o∈A\/o=Oe\/o∈B:=by simp_all
  rcases this with h' | h' | h'
  ·exact h.ok o (by simp[h'])
  ·subst h';trivial
  ·exact h.ok o (by simp[h'])
 exact e.upd (fun k _ h2=>hk k h2) (fun k hk=>.inr (hn k hk)) hok hnd ht
theorem cA.drop(h:cA base tf t (A++o::B)):cA base tf t (A++B):=by
 have hd:=h.nodup
 rw[Ps]at hd;refine⟨h.tle,?_,fun p hp=>h.ok p (by rcases yaf.1 hp with h | h<;>simp[h]),fun k hk=>h.low k (by rw[Ps];rw[List.flatMap_append]at hk;rcases yaf.1 hk with h | h<;>simp[h])⟩
 grind
theorem cA.notin(h:cA base tf t (A++o::B)){k:Nat}(hk:k∈o.blks):k∉(A++B).flatMap jE.blks:=by
 have hd:=h.nodup
 grind
theorem cA.freezeL{sz:Nat}{m:List D}{v:zA}(h:cA base tf t (A++iL base sz m v::B)):∃tf',zB tf tf'/\cA base tf' t (A++B)/\aA tf' sz m v:=by
 have hl:uT base tf t sz m v:=h.ok (iL base sz m v) (by simp)
 obtain⟨tf',h1,h2,h3,h4⟩:=hl.freeze h.tle
 refine⟨tf',h1,h.drop.keep h1 h2 fun k hk=>⟨rfl,?_⟩,h3⟩
 have hb:¬ fS v k:=fun hb=>h.notin (o:=iL base sz m v) (Om.2 hb) hk
 rw[h4 k hb];exact(h.drop.low k hk).2
end
end Go.Am
namespace Go.Am
open Go Go.RowKit
section
variable {t tf:Tr vA}{C:rA}
theorem ZF{T el b k m cap n:Nat}{cs:List zA}{lo:Option Lo}{x:zA}{cm:List (List zA)}(hT:Rf C T el 1)(hc:vD t b lo cs)(hb:C.base<=b)(hx:tP t 1 x cm)(hm:cm.length=m)(h0:0<m)(hk:k+m<=cap)(hcap:cap<=cs.length)(hone:∀a∈cm.flatten,zA.one a=true) :
  ∃t',yJ C T T (.slice b 0 k cap) x ⟨n,t⟩=some (.slice b 0 (k+m) cap,⟨n,t'⟩)/\vD t' b lo (oM cs k cm.flatten)/\nF b t t':=by
 obtain⟨⟨y,hy1,hy2,hy3⟩,⟨z,hz1,hz2,hz3,hz4,hz5⟩⟩:=hT
 obtain⟨hf,hlen⟩:=hx.first (n:=n)
 have hfl:=Xo hx.len
 rw[Nat.mul_one,hm]at hfl;obtain⟨c,h1,h2⟩:=hc
 have hne:cm.flatten≠[]:=by grind
 refine⟨t.set b (.cells (c.setMany cm.flatten k) cs.length lo),?_,⟨c.setMany cm.flatten k,by rw[Tr.get_set,yab rfl,DY (by omega)],fun j a hj=>?_⟩,fun d hd=>by rw[Tr.get_set,yaa hd]⟩
 ·unfold yJ oW
  rw[hy1,qA,qA,hy3];simp only[ycl,mE];rw[hy2,qA,hz1,qA,hlen,qA,hz2,hf,qA];simp only[zA.asSlice,hm];rw[qE.2 hk,cond_true];unfold xY
  cases hq:cm.flatten with
  | nil=>simp_all
  | cons a r=>
   simp only[hz2,Nat.mul_one,ybw];rw[<- hq];unfold wI bD;have e2:(!Nat.blt b C.base)=true:=by
    grind [vC]
   rw[e2,mE,h1,qA];simp only[vA.asCells,qA];have e3:Nat.ble (k+bA cm.flatten) cs.length=true:=by grind [sD,qE]
   have e4:cB zA.one cm.flatten=true:=by grind [dH]
   rw[e3,e4];rfl
 grind [Nu,Tr.get_setMany]
theorem TN{T el cap:Nat}{y z:rC}{k:IntKind}(hT:C.tys.get T=some y)(hel:y.desc.asSlice=some el)(hz:C.tys.get el=some z)(hzero:z.zero=[.int k 0])(hs:z.size=1)(hby:z.bytes<=8)(hn:cap<1000000){b:Nat}(hb:t.get b=none) :
  ∃t',iN C T (.int .i64 0) (.int .i64 (cap:Int)) ⟨b,t⟩=some (.slice b 0 0 cap,⟨b+1,t'⟩)/\vD t' b none (List.replicate cap (.int k 0))/\zB t t'/\nF b t t':=by
 have hrep:∀n,pH [zA.int k 0] n=List.replicate n (.int k 0):=by
  intro n;induction n with
  | zero=>rfl
  | succ n ih=>grind [pH,xG]
 obtain⟨t',h1,h2,h3,h4⟩:=Eo hb (List.replicate cap (.int k 0)) none
 refine⟨t',?_,h2,h3,h4⟩
 unfold iN;rw[hT,qA,hel,qA,hz,qA];have e1:(zA.int .i64 (cap:Int)).asNat=some cap:=rfl
 have e0:(zA.int .i64 0).asNat=some 0:=rfl
 rw[e1,e0,qA,qA];have e2:(Nat.ble 0 cap&&Nat.blt cap 1000000&&Nat.blt (cap*z.bytes) 1000000000&&Nat.beq (bA z.zero) z.size)=true:=by
  rw[hzero,hs,show Nat.ble 0 cap=true from qE.2 (yaw _),vC.2 hn]
  have:cap*z.bytes<1000000000:=by
   have:=ydb (Nat.le_of_lt hn) hby
   omega
  rw[vC.2 this];rfl
 rw[e2,mE,hzero,hrep,h1]
end
end Go.Am
namespace Go.Am
theorem kn_ge{B m U V head top u2 v2 ur vr:Nat}(hU:U=(head*B+u2)*B^m+ur)(hur:ur<B^m)(hu2:u2<B)(hV:V=(top*B+v2)*B^m+vr)(htop:0<top):U / V<=head / top:=by
 have hBm:0<B^m:=by omega
 rw[Nat.le_div_iff_mul_le htop];have h1:U / V*V<=U:=Nat.div_mul_le_self U V
 have h2:top*B*B^m<=V:=by
  grind
 have h3:U<(head+1)*B*B^m:=by
  have:head*B+u2+1<=(head+1)*B:=by grind
  have:=ybi (B^m) this
  grind
 have h4:U / V*top*(B*B^m)<(head+1)*(B*B^m):=by
  calc U / V*top*(B*B^m)=U / V*(top*B*B^m):=by rw[ybj,ybj]
   _<=U / V*V:=ybv _ h2
   _<=U:=h1
   _<(head+1)*B*B^m:=h3
   _=(head+1)*(B*B^m):=by rw[ybj]
 exact Nat.lt_succ_iff.1 (Nat.lt_of_mul_lt_mul_right h4)
theorem kn_gt{B m U V head top u2 v2 ur vr d:Nat}(hU:U=(head*B+u2)*B^m+ur)(hur:ur<B^m)(hV:V=(top*B+v2)*B^m+vr)(h:head*B+u2<d*(top*B+v2)):U / V<d:=by
 rcases yau (U / V) d with g | g
 ·exact g
 ·exfalso
  have h1:U / V*V<=U:=Nat.div_mul_le_self U V
  have h2:d*V<=U:=Nat.le_trans (ybi _ g) h1
  have h3:d*(top*B+v2)*B^m<=d*V:=by simp_all [ybj,ybv]
  have h4:=ybi (B^m) (show head*B+u2+1<=d*(top*B+v2) from h)
  grind
theorem kn_le{B m U V head top u2 v2 ur vr d:Nat}(hB:0<B)(hU:U=(head*B+u2)*B^m+ur)(hV:V=(top*B+v2)*B^m+vr)(hvr:vr<B^m)(htop:0<top)(hd:d<=B)(h:d*(top*B+v2)<=head*B+u2):d<=U / V+1:=by
 have hVpos:0<V:=by
  rw[hV];have:0<top*B+v2:=by have:=Nat.mul_pos htop hB;omega
  have:=Nat.mul_pos this (show 0<B^m by omega)
  omega
 rcases yau (U / V+1) d with g | g
 ·exfalso
  have h1:(d-1)*V<=U:=by
   have e1:d*V<=d*((top*B+v2)*B^m)+d*B^m:=by
    simp_all [ybm,ybv,Nat.le_of_lt]
   have e2:d*((top*B+v2)*B^m)<=(head*B+u2)*B^m:=by rw[<- ybj];exact ybi _ h
   have e3:d*B^m<=V:=by
    have:d*B^m<=top*B*B^m:=by
     refine ybi _ (Nat.le_trans hd ?_)
     exact yan _ htop
    grind
   grind [Nat.sub_mul]
  have:=(Nat.le_div_iff_mul_le hVpos).2 h1
  omega
 ·exact g
theorem top2{B:Nat}(hB:0<B){l:List Nat}{m a b:Nat}(hlt:mB B l)(hl:l.length=m+2)(ha:l[m+1]?=some a)(hb:l[m]?=some b):val B l=(a*B+b)*B^m+val B (l.take m)/\val B (l.take m)<B^m:=by
 have e1:=Bo B l m
 have hlen:(l.take m).length=m:=by grind
 rw[hlen]at e1;have e2:l.drop m=[b,a]:=by
  rw[sP hb,sP ha,List.drop_of_length_le (by omega)]
 grind [val,jN,Aw]
theorem top3{B:Nat}(hB:0<B){l:List Nat}{m a b c:Nat}(hlt:mB B l)(hl:l.length=m+3)(ha:l[m+2]?=some a)(hb:l[m+1]?=some b)(hc:l[m]?=some c):val B l=((a*B+b)*B+c)*B^m+val B (l.take m)/\val B (l.take m)<B^m:=by
 have e1:=Bo B l m
 have hlen:(l.take m).length=m:=by grind
 rw[hlen]at e1;have e2:l.drop m=[c,b,a]:=by
  rw[sP hc,sP hb,sP ha,List.drop_of_length_le (by omega)]
 grind [val,jN,Aw]
end Go.Am
namespace Go.Proofs
open Go Go.Am
variable [jC]
variable {t:Tr vA}
def BB:Nat:=4294967296
theorem cM:BB=4294967296:=rfl
theorem xI:0<BB:=by decide
theorem Pk{T el:Nat}(h:sK yA T el 1 false){b off n cap j:Nat}(hj:j<n):aB yA T (.slice b off n cap) (.int .i64 (j:Int))=some (.ptr b (off+j)):=by
 have:=Bp (b:=b) (off:=off) (cap:=cap) h hj
 simp_all
theorem Et{A w Z:List Nat}{j x:Nat}(h:w[j]?=some x):(A++w++Z)[A.length+j]?=some x:=by
 grind
theorem Jj{A w Z:List Nat}{j x:Nat}(h:j<w.length):(A++w++Z).set (A.length+j) x=A++w.set j x++Z:=by
 rw[ybz,List.set_append_right _ _ (by omega),Nat.add_sub_cancel_left,List.set_append_left _ _ h,ybz]
theorem ZT{A Z lv:List Nat}{v:zA}{b cap d:Nat}{t0:Tr vA}{Q:fA}(hv:aA t0 1 (xC .u32 lv) v)(hl:lv.length<900000)(hlv:mB BB lv)(hbase:yA.base<=b)(hb:t0.get b=none)(hd:0<d)(hd2:d<=BB)(W:List Nat)(hWl:W.length=lv.length)(hWlt:mB BB W)(last:Nat)(hlast:last<BB)(hcap:lv.length+1<=cap)
  (hQ:∀t' r up,nF b t t'->qF t' b .u32 (A++(r++[(last+up)%BB])++Z)->r.length=lv.length->mB BB r->up<2->val BB r+BB^lv.length*up=val BB W+val BB lv->Q (.int .u32 ((d-1:Nat):Int)) t') :
  ∀(k i up:Nat) (t':Tr vA) (r:List Nat),i+k=lv.length->zB t0 t'->nF b t t'->qF t' b .u32 (A++(r++(W++[last]).drop i)++Z)->r.length=i->mB BB r->up<2->val BB r+BB^i*up=val BB (W.take i)+val BB (lv.take i) →
  jp 178 10 [.slice b A.length (lv.length+1) cap,.int .i64 lv.length,.int .u64 d,.int .u32 up,v,.int .i64 lv.length,.int .i64 i] t' Q:=by
 intro k;induction k with
 | zero=>
  intro i up t' r hi ht hoff ho hr hrl hup hval;have hi':i=lv.length:=by omega
  subst hi'
  have hdrop:(W++[last]).drop lv.length=[last]:=by simp_all
  rw[hdrop]at ho;refine HL ?_
  have g1:=Pk fF (b:=b) (off:=A.length) (n:=lv.length+1) (cap:=cap) (j:=lv.length) (by omega)
  have hget:(r++[last])[lv.length]?=some last:=by simp_all
  have g2:=ho.load (Et (A:=A) (Z:=Z) hget) fG rfl
  obtain⟨t1,s1,s2,s3⟩:=ho.store (C:=yA) hbase (j:=A.length+lv.length) (by grind) ((last+up)%BB) fG rfl
  rw[Jj (by grind)]at s2
  have hset:(r++[last]).set lv.length ((last+up)%BB)=r++[(last+up)%BB]:=by simp_all
  rw[hset]at s2;have e1:lA .u32 ((last:Int)+(up:Int))=(((last+up)%BB:Nat):Int):=by rw[xS];show _=(((last+up)%4294967296:Nat):Int);omega
  simp only[uL,nD,uX,uZ,Tf,oA,bF,g1,g2,sA,bB,e1];rw[yaa (by omega)]
  intro _ _ _;rw[s1];simp only[sA];rw[yca (by omega),yca (by omega)]at hval
  have e2:lA .u32 (lA .u64 ((d:Int)-1))=((d-1:Nat):Int):=by
   have:d<=4294967296:=hd2
   grind [xF,wS]
  rw[e2];exact hQ t1 r up (hoff.trans s3) s2 hr hrl hup hval
 | succ k ih=>
  intro i up t' r hi ht hoff ho hr hrl hup hval;obtain⟨x,hx⟩:=getElem?_of_lt (l:=lv) (i:=i) (by omega)
  obtain⟨y,hy⟩:=getElem?_of_lt (l:=W) (i:=i) (by omega)
  have hxlt:x<BB:=jJ hlv hx
  have hylt:y<BB:=jJ hWlt hy
  obtain⟨c,off,g1,g2⟩:=(hv.mono ht).idx fF hx
  have hy':(W++[last])[i]?=some y:=by grind
  have hdrop:(W++[last]).drop i=y::(W++[last]).drop (i+1):=sP hy'
  have g3:=Pk fF (b:=b) (off:=A.length) (n:=lv.length+1) (cap:=cap) (j:=i) (by omega)
  have hget:(r++(W++[last]).drop i)[i]?=some y:=by simp_all
  have g4:=ho.load (Et (A:=A) (Z:=Z) hget) fG rfl
  have hlen:i<(r++(W++[last]).drop i).length:=by simp_all
  obtain⟨t1,s1,s2,s3⟩:=ho.store (C:=yA) hbase (j:=A.length+i) (by grind) ((y+x+up)%BB) fG rfl
  rw[Jj hlen]at s2;have hset:(r++(W++[last]).drop i).set i ((y+x+up)%BB)=(r++[(y+x+up)%BB])++(W++[last]).drop (i+1):=by
   simp_all
  rw[hset]at s2;have hadd:=za8 (t:=t') (x:=y) (y:=x) (c:=up) hylt hxlt hup
  refine HL ?_
  simp (disch:=omega) only[uL,nD,uX,uZ,Tf,oA,bF,g1,g2,g3,g4,sA,bB,q186,hadd,wH,zA.asTup,qA,zG,yaz,yba,oC]
  rw[yab (by omega)]
  intro _ _ _;have s1':∀n,uC yA 56 (.ptr b (A.length+i)) (.int .u32 (((y+x+up)%4294967296:Nat):Int)) ⟨n,t'⟩=some (rD,⟨n,t1⟩):=s1
  rw[s1'];simp only[sA];refine ih (i+1) ((y+x+up) / BB) t1 _ (by omega) (ht.off hb s3) (hoff.trans s3) s2 (by simp[hr]) (mW hrl (ycy _ (by decide))) ?_ ?_
  ·have h1:y<4294967296:=hylt
   have h2:x<4294967296:=hxlt
   show(y+x+up) / 4294967296<2
   omega
  ·rw[uM,hr,mO hx,mO hy,uM,uM]
   grind [Nat.div_add_mod]
theorem BE{u low bo:Nat}(hu:u<BB)(hl:low<BB)(hb:bo<2):∃w b',w<BB/\b'<2/\u+BB*b'=w+low+bo ∧
  lA .u32 (lA .u64 (lA .u64 ((u:Int)-(low:Int))-(bo:Int)))=(w:Int)/\Int.fdiv (lA .u64 (lA .u64 ((u:Int)-(low:Int))-(bo:Int))) 9223372036854775808=(b':Int):=by
 have hu:u<4294967296:=hu
 have hl:low<4294967296:=hl
 rcases yau u (low+bo)with g | g
 ·refine⟨u+BB-low-bo,1,by omega,by omega,by omega,?_,?_⟩
  ·rw[xS,Lp,Lp];show _=((u+4294967296-low-bo:Nat):Int);omega
  grind [Lp]
 ·refine⟨u-low-bo,0,by omega,by omega,by omega,?_,?_⟩
  all_goals grind [xS,Lp]
theorem TI{A Z lu lv:List Nat}{v:zA}{b cap d:Nat}{t0:Tr vA}{Q:fA}(hv:aA t0 1 (xC .u32 lv) v)(hl:lv.length<900000)(hlv:mB BB lv)(hbase:yA.base<=b)(hb:t0.get b=none)(hd:d<BB)(hlul:lu.length=lv.length+1)(hlu:mB BB lu)(hcap:lv.length+1<=cap)
  (hQ:∀t' (W:List Nat) last bo,zB t0 t'->nF b t t'->qF t' b .u32 (A++(W++[last])++Z)->W.length=lv.length->mB BB W->last<BB->bo<2->val BB (W++[last])+d*val BB lv=val BB lu+BB^(lv.length+1)*bo →
   if bo=0 then Q (.int .u32 (d:Int)) t' else jp 178 10 [.slice b A.length (lv.length+1) cap,.int .i64 lv.length,.int .u64 d,.int .u32 0,v,.int .i64 lv.length,.int .i64 (0:Nat)] t' Q) :
  ∀(k i carry borrow:Nat) (t':Tr vA) (W:List Nat),i+k=lv.length->zB t0 t'->nF b t t'->qF t' b .u32 (A++(W++lu.drop i)++Z)->W.length=i->mB BB W->carry<BB->borrow<2->val BB W+d*val BB (lv.take i)=val BB (lu.take i)+BB^i*(carry+borrow) →
  jp 178 6 [.slice b A.length (lv.length+1) cap,v,.int .i64 lv.length,.int .u64 d,.int .u64 carry,.int .u64 borrow,v,.int .i64 lv.length,.int .i64 i] t' Q:=by
 intro k;induction k with
 | zero=>
  intro i carry borrow t' W hi ht hoff ho hW hWl hc hbo hval;have hi':i=lv.length:=by omega
  subst hi'
  obtain⟨x,hx⟩:=getElem?_of_lt (l:=lu) (i:=lv.length) (by omega)
  have hxlt:x<BB:=jJ hlu hx
  have hdrop:lu.drop lv.length=[x]:=by rw[sP hx,List.drop_of_length_le (by omega)]
  rw[hdrop]at ho;obtain⟨w,bo,hw,hbo',hsum,e1,e2⟩:=BE hxlt hc hbo
  have g1:=Pk fF (b:=b) (off:=A.length) (n:=lv.length+1) (cap:=cap) (j:=lv.length) (by omega)
  have hget:(W++[x])[lv.length]?=some x:=by simp_all
  have g2:=ho.load (Et (A:=A) (Z:=Z) hget) fG rfl
  obtain⟨t1,s1,s2,s3⟩:=ho.store (C:=yA) hbase (j:=A.length+lv.length) (by grind) w fG rfl
  rw[Jj (by grind)]at s2
  have hset:(W++[x]).set lv.length w=W++[w]:=by simp_all
  rw[hset]at s2;have hx32:x<4294967296:=hxlt
  have e0:lA .u64 (x:Int)=(x:Int):=xF (by omega) (by omega)
  refine HJ ?_
  simp only[uI,uL,nD,uZ,Td,oA,bF,g1,g2,sA,bB,e0,e1,e2,oN];rw[yaa (by omega)]
  intro _ _ _;rw[s1];simp only[sA];have hfin:=hQ t1 W w bo (ht.off hb s3) (hoff.trans s3) s2 hW hWl hw hbo' (by
   grind [uM,val,Bo])
  by_cases hz:bo=0
  ·rw[yab (by omega)]
   rw[yab hz]at hfin;have hd32:d<4294967296:=hd
   grind [wS]
  ·rw[yaa (by omega)]
   rw[yaa hz]at hfin;simp only[(hv.mono (ht.off hb s3)).len,sA,bB,aH]
   exact hfin
 | succ k ih=>
  intro i carry borrow t' W hi ht hoff ho hW hWl hc hbo hval;obtain⟨x,hx⟩:=getElem?_of_lt (l:=lu) (i:=i) (by omega)
  obtain⟨y,hy⟩:=getElem?_of_lt (l:=lv) (i:=i) (by omega)
  have hxlt:x<BB:=jJ hlu hx
  have hylt:y<BB:=jJ hlv hy
  have hd32:d<4294967296:=hd
  have hx32:x<4294967296:=hxlt
  have hy32:y<4294967296:=hylt
  have hc32:carry<4294967296:=hc
  have hdrop:lu.drop i=x::lu.drop (i+1):=sP hx
  obtain⟨c,off,g1,g2⟩:=(hv.mono ht).idx fF hy
  have g3:=Pk fF (b:=b) (off:=A.length) (n:=lv.length+1) (cap:=cap) (j:=i) (by omega)
  have hget:(W++lu.drop i)[i]?=some x:=by simp_all
  have g4:=ho.load (Et (A:=A) (Z:=Z) hget) fG rfl
  have hprod:d*y<=4294967295*4294967295:=ydb (by omega) (by omega)
  obtain⟨P,hP⟩:∃P,P=d*y+carry:=⟨_,rfl⟩
  have hPlt:P<18446744073709551616:=by omega
  have hPhi:P / 4294967296<4294967296:=by omega
  obtain⟨w,bo,hw,hbo',hsum,e1,e2⟩:=BE (u:=x) (low:=P%4294967296) (bo:=borrow) hxlt (ycy _ (by decide)) hbo
  obtain⟨t1,s1,s2,s3⟩:=ho.store (C:=yA) hbase (j:=A.length+i) (by simp_all) w fG rfl
  rw[Jj (by simp_all)]at s2
  have hset:(W++lu.drop i).set i w=(W++[w])++lu.drop (i+1):=by simp_all
  rw[hset]at s2;have e0:lA .u64 (x:Int)=(x:Int):=xF (by omega) (by omega)
  have e0':lA .u64 (y:Int)=(y:Int):=xF (by omega) (by omega)
  have e3:(d:Int)*(y:Int)=((d*y:Nat):Int):=(Int.natCast_mul d y).symm
  have e4:lA .u64 ((d*y:Nat):Int)=((d*y:Nat):Int):=by
   grind [xF]
  have e5:lA .u64 (((d*y:Nat):Int)+(carry:Int))=(P:Int):=by
   rw[hP,<- Int.natCast_add];grind [xF]
  have e6:lA .u64 (lA .u32 (P:Int))=((P%4294967296:Nat):Int):=by
   grind [xS,xF]
  have e7:Int.fdiv (P:Int) 4294967296=((P / 4294967296:Nat):Int):=Al P 4294967296
  refine HJ ?_
  simp only[uI,uL,nD,uZ,Td,oA,bF,g1,g2,g3,g4,sA,bB,e0,e0',e3,e4,e5,e6,e7,e1,e2];rw[yab (by omega)]
  intro _ _ _;rw[s1];simp (disch:=omega) only[sA,oC]
  refine ih (i+1) (P / 4294967296) bo t1 _ (by omega) (ht.off hb s3) (hoff.trans s3) s2 (by simp[hW]) (mW hWl hw) hPhi hbo' ?_
  rw[uM,hW,mO hx,mO hy,uM,uM];have l1:(lu.take i).length=i:=by simp;omega
  have l2:(lv.take i).length=i:=by simp;omega
  grind [Nat.div_add_mod,BB]
attribute [irreducible] BB
end Go.Proofs
namespace Go.Proofs
open Go Go.Am
variable [jC]
variable {t:Tr vA}
theorem Ix{x y:Nat}(hx:x<4294967296)(hy:y<4294967296):mH Nat.lor .u64 ((x*4294967296:Nat):Int) (y:Int)=some (.int .u64 ((x*4294967296+y:Nat):Int)):=by
 have h:=Bx (a:=x) (b:=y) (n:=32) hy
 have e:(2:Nat)^32=4294967296:=by decide
 rw[e]at h;rw[dS (k:=.u64) (show x*4294967296<cF .u64 by show _<18446744073709551616;omega) (show y<cF .u64 by show _<18446744073709551616;omega),h]
theorem VL{lu lv:List Nat}{u v:zA}{Q:fA}{m head top u2 v2 U V ur vr:Nat}(hu:aA t 1 (xC .u32 lu) u)(hv:aA t 1 (xC .u32 lv) v)(hl:m<900000)(hu2:lu[m]?=some u2)(hv2:lv[m]?=some v2)(hu2lt:u2<BB)(hv2lt:v2<BB)(htop:0<top)(htoplt:top<BB)
  (hU:U=(head*BB+u2)*BB^m+ur) (hur:ur<BB^m) (hV:V=(top*BB+v2)*BB^m+vr) (hvr:vr<BB^m) (hq:U / V<BB) (hhead:head<=top*BB+(BB-1))
  (hexit:∀d,U / V<=d->d<=U / V+1->d<BB->jp 178 19 [u,v,.int .i64 (m+2:Nat),.int .u64 d] t Q) :
  ∀(d rest:Nat),d*top+rest=head->U / V<=d->d<=BB+1->rest<BB->jp 178 2 [u,v,.int .i64 (m+2:Nat),.int .u64 top,.int .u64 d,.int .u64 rest] t Q:=by
 intro d;induction d with
 | zero=>
  intro rest hsum hge _ hrest;have hBB:=cM
  have hr32:rest<4294967296:=by omega
  obtain⟨b,off,g1,g2⟩:=hv.idx fF hv2
  obtain⟨c,off',g3,g4⟩:=hu.idx fF hu2
  have hu32:u2<4294967296:=by omega
  have hv32:v2<4294967296:=by omega
  obtain⟨D,hD⟩:∃D:Int,((0:Nat):Int)=D:=⟨_,rfl⟩
  rw[hD];refine HK ?_
  unfold Te uQ11 uL uE uZ uW;generalize hC:(4294967296:Int)=C
  generalize hG:mH Nat.lor .u64 (lA .u64 ((rest:Int)*C))=G
  have e4:D*(v2:Int)=0:=by grind
  have e1:((m+2:Nat):Int)-2=(m:Int):=by omega
  have e2:(rest:Int)*C=((rest*4294967296:Nat):Int):=by simp_all
  have e3:G (u2:Int)=some (.int .u64 ((rest*4294967296+u2:Nat):Int)):=by rw[<- hG,e2,xF (by omega) (by omega)];grind [Ix]
  simp only[oA,nJ];rw[yaa (by omega)]
  simp (disch:=omega) only[e1,oC,g1,sA]
  rw[g2];simp only[sA,bB,g3];rw[g4,sA,bB,sA,xF (n:=(u2:Int)) (by omega) (by omega),e3,sA,bB,sA,xF (n:=(v2:Int)) (by omega) (by omega),e4,xF (n:=0) (by decide) (by decide)]
  grind [bF]
 | succ d ih=>
  intro rest hsum hge hle hrest;have hBB:=cM
  have hr32:rest<4294967296:=by omega
  have ht32:top<4294967296:=by omega
  have hle32:d+1<=4294967296+1:=by omega
  have hsum':d*top+(rest+top)=head:=by grind
  obtain⟨D,hD⟩:∃D:Int,((d+1:Nat):Int)=D:=⟨_,rfl⟩
  rw[hD];have e1:D-1=(d:Int):=by omega
  have e0:(rest:Int)+(top:Int)=((rest+top:Nat):Int):=by omega
  have less:U / V<=d->(if (4294967296:Int)<=((rest+top:Nat):Int)then jp 178 19 [u,v,.int .i64 (m+2:Nat),.int .u64 d] t Q else jp 178 2 [u,v,.int .i64 (m+2:Nat),.int .u64 top,.int .u64 d,.int .u64 ((rest+top:Nat):Int)] t Q):=by
   intro hge';split
   ·rename_i hb
    have hb':BB<=rest+top:=by omega
    have hdlt:d<BB:=by
     grind
    refine hexit d hge' ?_ hdlt
    refine kn_le xI hU hV hvr htop (Nat.le_of_lt hdlt) ?_
    have h1:d*v2<=BB*BB:=ydb (Nat.le_of_lt hdlt) (Nat.le_of_lt hv2lt)
    have h2:BB*BB<=(rest+top)*BB:=ybi _ hb'
    have h3:head*BB=d*top*BB+(rest+top)*BB:=by rw[<- hsum',ybo]
    grind
   ·rename_i hb
    exact ih (rest+top) hsum' hge' (by omega) (by omega)
  refine HK ?_
  unfold Te uQ11 uL uE uZ uW;generalize hC:(4294967296:Int)=C
  generalize hG:mH Nat.lor .u64 (lA .u64 ((rest:Int)*C))=G
  by_cases hbig:4294967296<=d+1
  ·simp (disch:=omega) only[oA,nJ,e0,e1,xF]
   rw[yab (by omega)]
   grind
  ·obtain⟨b,off,g1,g2⟩:=hv.idx fF hv2
   obtain⟨c,off',g3,g4⟩:=hu.idx fF hu2
   have hu32:u2<4294967296:=by omega
   have hv32:v2<4294967296:=by omega
   have e5:((m+2:Nat):Int)-2=(m:Int):=by omega
   have e2:(rest:Int)*C=((rest*4294967296:Nat):Int):=by simp_all
   have e6:lA .u64 (D*(v2:Int))=(((d+1)*v2:Nat):Int):=by
    rw[<- hD,<- Int.natCast_mul];have:(d+1)*v2<=4294967295*4294967295:=ydb (by omega) (by omega)
    grind [xF]
   have e3:G (u2:Int)=some (.int .u64 ((rest*4294967296+u2:Nat):Int)):=by rw[<- hG,e2,xF (by omega) (by omega)];grind [Ix]
   simp only[oA,nJ];rw[yaa (by omega)]
   simp (disch:=omega) only[e5,oC,g1,sA]
   rw[g2];simp only[sA,bB,g3];rw[g4,sA,bB,sA,xF (n:=(u2:Int)) (by omega) (by omega),e3,sA,bB,sA,xF (n:=(v2:Int)) (by omega) (by omega),e6]
   have e7:lA .u64 ((rest:Int)+(top:Int))=((rest+top:Nat):Int):=by rw[e0];exact xF (by omega) (by omega)
   have e8:lA .u64 (D-1)=(d:Int):=by rw[e1];grind [xF]
   rw[e7,e8];have key:(d+1)*(top*BB+v2)=(d+1)*top*BB+(d+1)*v2:=by rw[ybm,<- ybj]
   have key2:head*BB=(d+1)*top*BB+rest*BB:=by rw[<- hsum,ybo]
   by_cases htest:rest*4294967296+u2<(d+1)*v2
   ·rw[yab (bF.2 (by omega))]
    subst hC;refine less (Nat.lt_succ_iff.1 (kn_gt hU hur hV ?_))
    grind
   ·rw[yaa (fun h=>absurd (bF.1 h) (by omega))]
    rw[<- hD];refine hexit (d+1) hge (kn_le xI hU hV hvr htop (by omega) ?_) (by omega)
    grind
end Go.Proofs
namespace Go.Proofs
open Go Go.Am
variable [jC]
variable {t tf:Tr vA}
theorem PU{n:Nat}{y:vA}(hn:t.get n=none)(h:zB tf t):zB (tf.set n y) (t.set n y):=by
 intro c u hc;rw[Tr.get_set]at hc ⊢
 split at hc
 ·simp_all
 ·rename_i e;rw[yaa e];exact h _ _ hc
theorem Og(h:zB tf t){n:Nat}(hn:t.get n=none):tf.get n=none:=by
 cases hx:tf.get n with
 | none=>rfl
 | some y=>rw[h _ _ hx]at hn;cases hn
structure Zb (S:Tr vA->Tr vA->Prop):Prop where
 le:∀ {tf t:Tr vA},S tf t->zB tf t
 both:∀ {tf t:Tr vA} {n:Nat},S tf t->t.get n=none->∀y,S (tf.set n y) (t.set n y)
 out:∀ {tf t:Tr vA} {n:Nat} {y:vA},tf.get n=none->S (tf.set n y) t->S tf (t.del n)
theorem RJ{f i:Nat}{v8 v4:zA}{K R:T}{ps:List Nat}{Q:fA}{S:Nat->Tr vA->Tr vA->Prop}(hS:∀k,Zb (S k))(hp:aA tf 1 (xC .u32 ps) v4)(hl:ps.length<30000)(h:S ps.length tf t)
  (body:∀(k x:Nat) (tf t:Tr vA) (Q1:fA),ps[k]?=some x->S (k+1) tf t->(∀t',S k tf t'->Q1 (.bool true) t')->Jq yA F f i [v8,.int .u32 (x:Int)] t Q1)
  (bH:∀tf' t',zB tf tf'->S 0 tf' t'->oA yA.base (Wq yA F gC) (Jq yA F f) K t' Q) :
  oA yA.base (Wq yA F gC) (Jq yA F f) (.call 183 [v4] fun a0=>.range (uQ yA) a0 i 1 [v8] K R) t Q:=by
 simp only[oA];rw[q183];refine w183 ?_
 simp only[t183,oA];intro bb hbb hbase;have hc4:v4.cells=[v4]:=by
  obtain⟨cl,h1,_⟩:=hp
  rcases h1 with⟨rfl,_⟩ | ⟨_,_,_,rfl,_⟩<;>rfl
 have hone:jL v4 ⟨bb,t⟩=some (.ptr bb 0,⟨bb+1,t.set bb (.cells (Tr.ofList [v4]) 1 none)⟩):=by
  unfold jL;rw[hc4];rfl
 rw[hone,sA];simp only[];have h1:=(hS _).both h hbb (.cells (Tr.ofList [v4]) 1 none)
 have hfb:=Og ((hS _).le h) hbb
 have htf1:zB tf (tf.set bb (.cells (Tr.ofList [v4]) 1 none)):=(iO hfb _).1
 generalize htf:tf.set bb (.cells (Tr.ofList [v4]) 1 none)=tf1 at h1 htf1
 have hg1:tf1.get bb=some (.cells (Tr.ofList [v4]) 1 none):=by rw[<- htf,Tr.get_set,yab rfl]
 generalize t.set bb (.cells (Tr.ofList [v4]) 1 none)=t1 at h1
 refine⟨Nat.le_add_right _ _,fun l r hl0 hlb hr1 hr2 hy=>?_⟩
 have hra:hZ (uQ yA) (.func (.func 190) [] [.ptr bb 0]) l=some (190,[.func (.yld l) [] [],.ptr bb 0]):=by
  unfold hZ;simp only[zA.asFunc,qA];have:uQ yA 190=true:=by kernel_rfl
  rw[this];rfl
 rw[hra,sA];have h2:=(hS _).both h1 hl0 (.loop r)
 have hfl:=Og ((hS _).le h1) hl0
 have hlr:rN true r=r:=by
  obtain⟨a,b,c,d,e,f,g,h,i⟩:=r
  have hr1:a=.ready:=hr1
  have hr2:b=none:=hr2
  subst hr1;subst hr2;rfl
 have hle2:zB tf1 (tf1.set l (.loop r)):=(iO hfl _).1
 rw[show Wq yA F gC 190=Wc yA F 190 by funext a m R;rw[q190]]
 refine zdt (l:=ps) (v:=v4) (I:=fun k t'=>S k (tf1.set l (.loop r)) t') (by omega) ?_ ?_ ?_ h2
 ·intro k t' hI
  have hle:=(hS _).le hI
  have hg:t'.get bb=some (.cells (Tr.ofList [v4]) 1 none):=hle _ _ (hle2 _ _ hg1)
  refine⟨?_,hp.mono (htf1.trans (hle2.trans hle))⟩
  exact(vD.load1 (cs:=[v4]) (lo:=none) ⟨Tr.ofList [v4],hg,fun j a hj=>by grind [Tr.get_ofList]⟩ aK rfl (j:=0) rfl)
 ·intro k x t' hx hI R hR
  show xD (some (yo+l,[zA.int .u32 (x:Int)])) _
  rw[sA];refine hy [.int .u32 (x:Int)] t' R rfl ((hS _).le hI _ _ (by rw[Tr.get_set,yab rfl])) ?_
  refine body k x tf1 _ _ hx ((hS _).out hfl hI) fun t2 h3 hn2=>⟨true,rfl,?_⟩
  rw[hlr];exact hR _ ((hS _).both h3 hn2 (.loop r))
 ·intro t' hI
  exact .inl ⟨(hS _).le hI _ _ (by rw[Tr.get_set,yab rfl]),bH tf1 _ htf1 ((hS _).out hfl hI)⟩
def rT (bx:Nat)(v:zA)(tf t:Tr vA):Prop:=yA.base<=bx/\tf.get bx=none/\zB tf t/\vD t bx none [v]
theorem rT.framed{bx:Nat}{v:zA}:Zb (rT bx v) where
 le:=fun h=>h.2.2.1
 both:=fun {tf t n} h hn y=>by
  obtain⟨h1,h2,h3,h4⟩:=h
  have hbx:bx≠n:=by intro e;obtain⟨c,h,_⟩:=h4;simp_all
  exact⟨h1,by grind [Tr.get_set],PU hn h3,h4.off (by rw[Tr.get_set,yaa hbx])⟩
 out:=fun {tf t n y} hn h=>by
  obtain⟨h1,h2,h3,h4⟩:=h
  have hbx:bx≠n:=by grind [Tr.get_set]
  have hle:zB tf (tf.set n y):=(iO hn y).1
  rw[Tr.get_set,yaa hbx]at h2;refine⟨h1,h2,fun c u hc=>?_,h4.off (by rw[Tr.get_del,yaa hbx])⟩
  have:c≠n:=fun e=>by simp_all
  rw[Tr.get_del,yaa this];exact h3 _ _ (hle _ _ hc)
theorem TT{bx x y:Nat}{Q1:fA}(h:rT bx (.int .u64 (y:Int)) tf t)(hy:y<4294967296)(hx:x<4294967296)(hQ:∀t',rT bx (.int .u64 ((y*4294967296+x:Nat):Int)) tf t'->Q1 (.bool true) t'):jp 172 2 [.ptr bx 0,.int .u32 (x:Int)] t Q1:=by
 obtain⟨i1,i2,i3,i4⟩:=h
 have e5:(y:Int)*4294967296=((y*4294967296:Nat):Int):=by omega
 have e6:mH Nat.lor .u64 (lA .u64 ((y:Int)*4294967296)) (lA .u64 (x:Int))=some (.int .u64 ((y*4294967296+x:Nat):Int)):=by
  rw[e5,xF (by omega) (by omega),xF (by omega) (by omega),Ix hy hx]
 generalize y*4294967296+x=z at e6 hQ
 refine j172_2 ?_
 simp only[uE,AO,oA];rw[i4.load1 nO rfl (j:=0) rfl,sA,bB,sA,e6,sA,bB,sA]
 intro b3 _ _;obtain⟨t3,k1,k2,k3⟩:=i4.store1 (v:=.int .u64 (z:Int)) i1 nO rfl rfl rfl (j:=0) (by simp)
 rw[k1,sA];exact hQ _ ⟨i1,i2,i3.off i2 k3,k2⟩
theorem TS{l:List Nat}{k x:Nat}(hl:l.length<=2)(hlt:mB 4294967296 l)(hx:l[k]?=some x):x<4294967296/\val 4294967296 (l.drop (k+1))<4294967296/\val 4294967296 (l.drop k)=val 4294967296 (l.drop (k+1))*4294967296+x:=by
 have hk:k<l.length:=(ybc.1 hx).1
 have hdrop:l.drop k=x::l.drop (k+1):=by
  grind [List.drop_eq_getElem_cons]
 refine⟨hlt x (ycv hx),?_,?_⟩
 ·have h1:=Yw hlt (k+1)
  have h2:(l.drop (k+1)).length<=1:=by grind
  generalize l.drop (k+1)=m at h1 h2 ⊢
  match m,h1,h2 with
  | [],_,_=>exact Nat.zero_lt_succ _
  | [a],h1,_=>rw[val,val,yat,yct];exact h1 a (.head _)
 grind [val]
theorem zcm{l:List Nat}{v:zA}(hv:aA t 1 (xC .u32 l) v)(hl:l.length<=2)(hlt:mB 4294967296 l):fB yA F 172 [v] t=some (.int .u64 ((val 4294967296 l:Nat):Int)):=by
 refine vX (w172 ?_)
 have hlen0:l.length<30000:=by omega
 have hst:∀k x,l[k]?=some x->_:=fun k x=>TS (k:=k) (x:=x) hl hlt
 have h0:val 4294967296 (l.drop l.length)=0:=by rw[List.drop_length,val]
 generalize hg:(fun k=>val 4294967296 (l.drop k))=g
 have hst':∀k x,l[k]?=some x->x<4294967296/\g (k+1)<4294967296/\g k=g (k+1)*4294967296+x:=fun k x hx=>by grind
 have h0':g l.length=0:=by grind
 have hend:val 4294967296 l=g 0:=by grind
 rw[hend];clear hg hst h0 hend
 unfold t172 uE;show ∀b,t.get b=none->yA.base<=b->xD (sJ yA 207 ⟨b,t⟩) _
 intro bx hbx hbase;obtain⟨t1,e1,e2,e3,e4⟩:=bR (C:=yA) nO hbx
 rw[e1,sA];show ∀b,t1.get b=none->yA.base<=b->xD (uC yA 207 (.ptr bx 0) (.int .u64 0) ⟨b,t1⟩) _
 intro b2 _ _;obtain⟨t2,g1,g2,g3⟩:=e2.store1 (v:=.int .u64 0) hbase nO rfl rfl rfl (j:=0) (by simp)
 rw[g1,sA];have hS0:rT bx (.int .u64 ((g l.length:Nat):Int)) t t2:=by
  rw[h0'];exact⟨hbase,hbx,(zB.refl t).off hbx e4 |>.off hbx g3,g2⟩
 refine RJ (S:=fun k tf t=>rT bx (.int .u64 ((g k:Nat):Int)) tf t) (fun k=>rT.framed) hv hlen0 hS0 ?_ ?_
 ·grind [TT]
 ·intro tf' t' hle hI
  obtain⟨i1,i2,i3,i4⟩:=hI
  simp only[oA];rw[i4.load1 nO rfl (j:=0) rfl,sA]
  simp only[bB,sA];exact⟨trivial,hle.trans i3⟩
end Go.Proofs
