/- Facts on types. (Printed by a tool.) -/
import Derived.Test.YtmmedgeabnpnhaaGreatDoorA18
set_option linter.all false
noncomputable section
set_option maxRecDepth 100000
namespace Go.Proofs
open Go Go.Am
variable [sC]
theorem ty3:yA.tys.get 3=some ⟨(.int .i64),1,8,[.int .i64 0],true⟩:=by kernel_rfl
def ty4:yA.tys.get 4=some ⟨.bool,1,1,[.bool false],true⟩:=by kernel_rfl
theorem nN:yA.tys.get 5=some ⟨(.int .u8),1,1,[.int .u8 0],true⟩:=by kernel_rfl
theorem iL:yA.tys.get 9=some ⟨.string,1,16,[.str []],true⟩:=by kernel_rfl
def gS:yA.tys.get 30=some ⟨(.slice 72),1,24,[.nilslice],true⟩:=by kernel_rfl
def ty32:yA.tys.get 32=some ⟨(.struct [(0,4,1),(1,30,1)]),2,32,[.bool false,.nilslice],true⟩:=by kernel_rfl
def ty37:yA.tys.get 37=some ⟨(.slice 39),1,24,[.nilslice],true⟩:=by kernel_rfl
def ty39:yA.tys.get 39=some ⟨(.struct [(0,5,1),(1,9,1),(2,36,6),(8,37,1)]),9,128,[.int .u8 0,.str [],.int .u8 0,.bool false,.nilslice,.bool false,.nilslice,.int .i64 0,.nilslice],true⟩:=by kernel_rfl
def ty42:yA.tys.get 42=some ⟨(.slice 9),1,24,[.nilslice],true⟩:=by kernel_rfl
theorem rL:yA.tys.get 72=some ⟨(.int .u16),1,2,[.int .u16 0],true⟩:=by kernel_rfl
def pM:yA.tys.get 90=some ⟨(.slice 5),1,24,[.nilslice],true⟩:=by kernel_rfl
def ty101:yA.tys.get 101=some ⟨(.ptr 201),1,8,[.nilptr],true⟩:=by kernel_rfl
theorem ty168:yA.tys.get 168=some ⟨(.struct [(0,5,1),(1,9,1),(2,4,1),(3,3,1),(4,3,1),(5,3,1),(6,3,1),(7,3,1)]),8,72,[.int .u8 0,.str [],.bool false,.int .i64 0,.int .i64 0,.int .i64 0,.int .i64 0,.int .i64 0],true⟩:=by kernel_rfl
def Fk:yA.tys.get 192=some ⟨(.arr 10 5),10,10,[.int .u8 0,.int .u8 0,.int .u8 0,.int .u8 0,.int .u8 0,.int .u8 0,.int .u8 0,.int .u8 0,.int .u8 0,.int .u8 0],true⟩:=by kernel_rfl
def ty194:yA.tys.get 194=some ⟨(.arr 7 9),7,112,[.str [],.str [],.str [],.str [],.str [],.str [],.str []],true⟩:=by kernel_rfl
def Fj:yA.tys.get 209=some ⟨(.int .u64),1,8,[.int .u64 0],true⟩:=by kernel_rfl
def ty230:yA.tys.get 230=some ⟨(.map 3 9),1,8,[.nilmap],true⟩:=by kernel_rfl
def mN:yA.tys.get 240=some ⟨(.slice 242),1,24,[.nilslice],true⟩:=by kernel_rfl
def tG:yA.tys.get 242=some ⟨(.int .u32),1,4,[.int .u32 0],true⟩:=by kernel_rfl
def ty257:yA.tys.get 257=some ⟨(.arr 12 3),12,96,[.int .i64 0,.int .i64 0,.int .i64 0,.int .i64 0,.int .i64 0,.int .i64 0,.int .i64 0,.int .i64 0,.int .i64 0,.int .i64 0,.int .i64 0,.int .i64 0],true⟩:=by kernel_rfl
def ty271:yA.tys.get 271=some ⟨(.slice 32),1,24,[.nilslice],true⟩:=by kernel_rfl
def yH:yF yA 30 72 1 false:=⟨⟨_,gS,rfl⟩,⟨_,rL,rfl,rfl⟩⟩
def xR:yF yA 37 39 9 true:=⟨⟨_,ty37,rfl⟩,⟨_,ty39,rfl,rfl⟩⟩
def sl42:yF yA 42 9 1 false:=⟨⟨_,ty42,rfl⟩,⟨_,iL,rfl,rfl⟩⟩
def sl90:yF yA 90 5 1 false:=⟨⟨_,pM,rfl⟩,⟨_,nN,rfl,rfl⟩⟩
def gF:yF yA 240 242 1 false:=⟨⟨_,mN,rfl⟩,⟨_,tG,rfl,rfl⟩⟩
def sl271:yF yA 271 32 2 true:=⟨⟨_,ty271,rfl⟩,⟨_,ty32,rfl,rfl⟩⟩
end Go.Proofs
namespace Go.Am
open Go Go.RowKit
def lC (l:List Nat):List D:=l.map fun(n:Nat)=>D.int .u16 (n:Int)
theorem vM(l:List Nat):(lC l).length=l.length:=by simp[lC]
structure mE where
 neg:Bool
 limbs:List Nat
def mE.d(w:mE):D:=.st [.bool w.neg,.sl 1 (lC w.limbs)]
structure kC where
 n:mE
 d:mE
def kC.dd(f:kC):D:=.st [f.n.d,f.d.d]
structure oD where
 kind:Nat
 f:kC
 i:Int
def oD.d(v:oD):D:=.st [.int .u8 v.kind,v.f.dd,.int .i64 v.i]
inductive pA where
 | mk (op:Nat) (name:List Nat) (v:oD) (args:List pA)
def pA.op:pA->Nat | .mk o _ _ _=>o
def pA.name:pA->List Nat | .mk _ n _ _=>n
def pA.v:pA->oD | .mk _ _ v _=>v
def pA.args:pA->List pA | .mk _ _ _ a=>a
mutual
def pA.d:pA->D
 | .mk op name v args=>.st [.int .u8 op,.str name,v.d,.sl 9 (pA.ds args)]
def pA.ds:List pA->List D
 | []=>[]
 | x::l=>x.d::pA.ds l
end
theorem pA.ds_eq(l:List pA):pA.ds l=l.map pA.d:=by
 induction l with
 | nil=>rfl
 | cons x l ih=>simp[pA.ds,ih]
structure Ec where
 a:Int
 b:Int
 known:Int
 f:kC
def Ec.d(r:Ec):D:=.st [.int .i64 r.a,.int .i64 r.b,.int .i64 r.known,r.f.dd]
structure Eb where
 name:List Nat
 two:Bool
 rows:List Ec
def Eb.d(x:Eb):D:=.st [.str x.name,.bool x.two,.sl 7 (x.rows.map Ec.d)]
structure Ed where
 name:List Nat
 kind:Nat
 fact:Bool
def Ed.d(x:Ed):D:=.st [.str x.name,.int .u8 x.kind,.bool x.fact]
structure vY where
 name:List Nat
 label:List Nat
 from_:Int
 to:Int
 known:Int
 off:Bool
 when_:pA
 then_:pA
def vY.d(x:vY):D:=.st [.str x.name,.str x.label,.int .i64 x.from_,.int .i64 x.to,.int .i64 x.known,.bool x.off,x.when_.d,x.then_.d]
structure Ay where
 name:List Nat
 defs:List Ed
 tables:List Eb
 clauses:List vY
def Ay.d(x:Ay):D:=.st [.str x.name,.sl 3 (x.defs.map Ed.d),.sl 3 (x.tables.map Eb.d),.sl 24 (x.clauses.map vY.d)]
section
variable {t:Tr sA}{cs:List zA}
theorem Ce{w:mE}(h:RD t w.d cs):∃v,cs=[.bool w.neg,v]/\mA t 1 (lC w.limbs) v:=by
 grind [mE.d,mL,tJ,aJ,vN,rY]
theorem Ge{f:kC}(h:RD t f.dd cs):∃u v,cs=[.bool f.n.neg,u,.bool f.d.neg,v]/\mA t 1 (lC f.n.limbs) u/\mA t 1 (lC f.d.limbs) v:=by
 grind [kC.dd,mL,tJ,aJ,Ce]
def Gd{v:oD}(h:RD t v.d cs):∃a b,cs=[.int .u8 v.kind,.bool v.f.n.neg,a,.bool v.f.d.neg,b,.int .i64 v.i]/\mA t 1 (lC v.f.n.limbs) a/\mA t 1 (lC v.f.d.limbs) b:=by
 unfold oD.d at h;simp only[mL,tJ,aJ,oW]at h;obtain⟨cl,rfl,c,r,rfl,rfl,c',r',rfl,h2,c'',r'',rfl,rfl,rfl⟩:=h;obtain⟨a,b,rfl,h3,h4⟩:=Ge h2;exact⟨a,b,rfl,h3,h4⟩
def cK{x:pA}(h:RD t x.d cs):∃a b c,cs=[.int .u8 x.op,.str x.name,.int .u8 x.v.kind,.bool x.v.f.n.neg,a,.bool x.v.f.d.neg,b,.int .i64 x.v.i,c] ∧
  mA t 1 (lC x.v.f.n.limbs) a/\mA t 1 (lC x.v.f.d.limbs) b/\mA t 9 (x.args.map pA.d) c:=by
 obtain⟨op,name,v,args⟩:=x;unfold pA.d at h;rw[pA.ds_eq]at h;simp only[mL,tJ,aJ,oW,Il,vN]at h;obtain⟨cl,rfl,c,r,rfl,rfl,c',r',rfl,rfl,c'',r'',rfl,hv,c3,r3,rfl,⟨w,rfl,h4⟩,rfl⟩:=h;obtain⟨a,b,rfl,h5,h6⟩:=Gd hv;exact⟨a,b,w,rfl,h5,h6,h4⟩
def Nn(x:pA)(a b c:zA):List zA:=[.int .u8 x.op,.str x.name,.int .u8 x.v.kind,.bool x.v.f.n.neg,a,.bool x.v.f.d.neg,b,.int .i64 x.v.i,c]
end
def mE.zs(x:mE):x.d.zs=[.bool false,.nilslice]:=rfl
def kC.zs(x:kC):x.dd.zs=[.bool false,.nilslice,.bool false,.nilslice]:=rfl
def oD.zs(x:oD):x.d.zs=[.int .u8 0,.bool false,.nilslice,.bool false,.nilslice,.int .i64 0]:=rfl
def pA.zs(x:pA):x.d.zs=[.int .u8 0,.str [],.int .u8 0,.bool false,.nilslice,.bool false,.nilslice,.int .i64 0,.nilslice]:=by cases x;rfl
def bO(f:kC):Nat:=1+f.n.limbs.length+f.d.limbs.length
mutual
/-- the size, as it is counted up to a limit -/
def jN:pA->Int->Int
 | .mk _ name v args,left=>aP args left (bO v.f+(name.length:Int) / 30)
def aP:List pA->Int->Int->Int
 | [],_,n=>n
 | x::l,left,n=>if n<=left then aP l left (n+jN x (left-n))else n
end
def jF:Nat:=1125899906842624
def kC.ok(f:kC):Prop:=f.n.limbs.length<jF/\f.d.limbs.length<jF
mutual
def pA.ok:pA->Prop
 | .mk _ name v args=>name.length<jF/\v.f.ok/\args.length<jF/\pA.oks args
def pA.oks:List pA->Prop
 | []=>True
 | x::l=>x.ok/\pA.oks l
end
end Go.Am
namespace Go.Am
open Go Go.RowKit
section
def Rj{f:kC}(h:f.ok):bO f<4503599627370496:=by
 grind [kC.ok,jF,bO]
mutual
def AA:∀(x:pA) (left:Int),x.ok->0<=jN x left/\jN x left<=max left 0+9007199254740992
 | .mk op name v args,left,h=>by
  unfold pA.ok at h;obtain⟨h1,h2,_,h4⟩:=h;have hf:=Rj h2;unfold jF at h1;unfold jN;have:=Fv args left (bO v.f+(name.length:Int) / 30) h4 (by omega);omega
def Fv:∀(l:List pA) (left n:Int),pA.oks l->0<=n->n<=aP l left n/\aP l left n<=max n (left+9007199254740992)
 | [],left,n,_,_=>by grind [aP]
 | x::l,left,n,h,hn=>by
  unfold pA.oks at h;unfold aP;split
  ·have h1:=AA x (left-n) h.1;have h2:=Fv l left (n+jN x (left-n)) h.2 (by omega);omega
  ·omega
end
theorem xC{a b:Int}:(iB a b=true) ↔ a<b:=oX a b
theorem pD{a b:Int}:(uC a b=true) ↔ a<=b:=Mn a b
def Vn{α:Type}{l:List α}{i:Nat}{x:α}{r:List α}(h:l.drop i=x::r):l[i]?=some x/\l.drop (i+1)=r/\i<l.length:=by
 have h1:(l.drop i)[0]?=some x:=by grind
 rw[yde]at h1;have hi:i<l.length:=by
  grind
 refine⟨by omega,?_,hi⟩;have:=List.drop_drop (l:=l) (i:=1) (j:=i)
 simp_all
def Vm{α:Type}{l:List α}{i:Nat}(h:l.drop i=[]):l.length<=i:=by
 simp_all
theorem bI(l:List Nat):(Int.ofNat (rB l))=(l.length:Int):=by rw[vD];rfl
def fW(cs:List zA):Fa true cs=.agg cs:=rfl
end
section
def cA(k:IntKind)(l:List Nat):List D:=l.map fun(n:Nat)=>D.int k (n:Int)
theorem bC{k:IntKind}(l:List Nat):(cA k l).length=l.length:=by simp[cA]
def XV{k:IntKind}{l:List Nat}{i x:Nat}(h:l[i]?=some x):(cA k l)[i]?=some (.int k (x:Int)):=by simp[cA,h]
theorem Nh{k:IntKind}{l:List Nat}{n:Nat}:(cA k l).take n=cA k (l.take n):=by simp[cA]
def eE (t:Tr sA)(b:Nat)(k:IntKind)(l:List Nat):Prop:=∃c,t.get b=some (.cells c l.length none)/\∀(j:Nat) x,l[j]?=some x->c.get j=some (.int k (x:Int))
def dD (b:Nat)(t t':Tr sA):Prop:=∀c,c≠b->t'.get c=t.get c
theorem dD.refl(b:Nat)(t:Tr sA):dD b t t:=fun _ _=>rfl
def dD.trans{b:Nat}{x y z:Tr sA}(h:dD b x y)(k:dD b y z):dD b x z:=fun c hc=>(k c hc).trans (h c hc)
section
variable {t t' t0:Tr sA}{C:oA}{b:Nat}{k:IntKind}{l:List Nat}
theorem eE.off(h:eE t b k l){c:Nat}(hc:b≠c)(ho:dD c t t'):eE t' b k l:=by
 obtain⟨x,h1,h2⟩:=h;exact⟨x,by rw[ho b hc];exact h1,h2⟩
def eE.tle(h:eE t b k l)(ho:bA t t'):eE t' b k l:=by
 obtain⟨x,h1,h2⟩:=h;exact⟨x,ho _ _ h1,h2⟩
theorem bA.off(h:bA t0 t)(hb:t0.get b=none)(ho:dD b t t'):bA t0 t':=by
 intro c y hc;rw[ho c (by grind)];exact h c y hc
theorem eE.slice(h:eE t b k l){off n cap:Nat}(hn:off+n<=l.length)(hc:n<=cap):mA t 1 (cA k ((l.drop off).take n)) (.slice b off n cap):=by
 obtain⟨c,h1,h2⟩:=h;refine⟨((l.drop off).take n).map fun(x:Nat)=>[.int k (x:Int)],.inr ⟨b,off,cap,?_,?_,⟨c,_,none,h1,.inl rfl⟩,fun i cs hi=>?_⟩,?_⟩
 ·grind
 ·grind
 ·simp only[ybu,yar]at hi;obtain⟨x,hx,rfl⟩:=hi;refine⟨rfl,c,_,none,h1,fun j a hj=>?_⟩
  grind
 ·refine tC.mk (by simp[cA]) fun i d cs hd hc=>?_;simp only[cA,ybu,yar]at hd hc;obtain⟨x,hx,rfl⟩:=hd
  simp_all
theorem eE.all(h:eE t b k l){cap:Nat}(hc:l.length<=cap):mA t 1 (cA k l) (.slice b 0 l.length cap):=by
 have:=h.slice (off:=0) (n:=l.length) (by omega) hc
 simp_all
def Bo{T el sz:Nat}{agg:Bool}(h:yF C T el sz agg){off n cap i:Nat}(hi:i<n):jB C T (.slice b off n cap) (.int .i64 (i:Int))=some (.ptr b (off+i*sz)):=by
 obtain⟨⟨y,hy1,hy2⟩,⟨z,hz1,hz2,hz3⟩⟩:=h;unfold jB;rw[hy1,tA];have:(zA.int .i64 (i:Int)).asNat=some i:=rfl;rw[this,tA];simp only[zA.asSlice];rw[hy2,tA,hz1,tA,vC.2 hi,hz2];rfl
theorem eE.load(h:eE t b k l){j x:Nat}(hj:l[j]?=some x){ty:Nat}{y:pC}(hy:C.tys.get ty=some y)(ha:y.desc.isAgg=false):aA C ty ⟨0,t⟩ (.ptr b j)=some (.int k (x:Int)):=by
 obtain⟨c,h1,h2⟩:=h
 simp_all [aA,zA.asPtr,aC,sA.asCells,vP]
theorem eE.store(h:eE t b k l)(hb:C.base<=b){j:Nat}(hj:j<l.length)(x:Nat){ty:Nat}{y:pC}(hy:C.tys.get ty=some y)(hs:y.size=1) :
  ∃t',(∀n,kE C ty (.ptr b j) (.int k (x:Int)) ⟨n,t⟩=some (lD,⟨n,t'⟩))/\eE t' b k (l.set j x)/\dD b t t':=by
 obtain⟨c,h1,h2⟩:=h;refine⟨t.set b (.cells (c.setMany [.int k (x:Int)] j) l.length none),fun n=>?_,⟨c.setMany [.int k (x:Int)] j,?_,fun i y hi=>?_⟩,fun d hd=>?_⟩
 ·unfold kE;rw[hy,tA];simp only[zA.asPtr,tA,zA.cells,zA.asAgg];rw[hs];have e1:Nat.beq (rB [zA.int k (x:Int)]) 1=true:=rfl;rw[e1,jD];unfold xI aC;have e2:(!Nat.blt b C.base)=true:=by
   grind [vC]
  rw[e2,jD,h1,tA];simp only[sA.asCells,tA];have e3:Nat.ble (j+rB [zA.int k (x:Int)]) l.length=true:=rE.2 hj;have e4:vF zA.one [zA.int k (x:Int)]=true:=rfl;rw[e3,e4];rfl
 all_goals grind [Tr.get_set,Tr.get_setMany]
theorem vX{T el:Nat}{y z:pC}(hT:C.tys.get T=some y)(hel:y.desc.asSlice=some el)(hz:C.tys.get el=some z)(hzero:z.zero=[.int k 0])(hs:z.size=1)(hby:z.bytes<=8){n:Nat}(hn:n<1000000)(hb:t.get b=none) :
  ∃t',sK C T (.int .i64 (n:Int)) (.int .i64 (n:Int)) ⟨b,t⟩=some (.slice b 0 n n,⟨b+1,t'⟩)/\eE t' b k (List.replicate n 0)/\bA t t'/\dD b t t':=by
 have hrep:∀n,pI [zA.int k 0] n=List.replicate n (.int k 0):=by
  intro n;induction n with
  | zero=>rfl
  | succ n ih=>grind [pI,wG]
 refine⟨t.set b (.cells (Tr.ofList (pI z.zero n)) (rB (pI z.zero n)) none),?_,⟨Tr.ofList (pI z.zero n),?_,fun j x hj=>?_⟩,fun c y' hc=>?_,fun c hc=>?_⟩
 ·unfold sK;rw[hT,tA,hel,tA,hz,tA];have e1:(zA.int .i64 (n:Int)).asNat=some n:=rfl;rw[e1,tA,tA];have e2:(Nat.ble n n&&Nat.blt n 1000000&&Nat.blt (n*z.bytes) 1000000000&&Nat.beq (rB z.zero) z.size)=true:=by
   rw[hzero,hs,show Nat.ble n n=true from rE.2 (ybk n),vC.2 hn];have:n*z.bytes<1000000000:=by
    have:=ydb (Nat.le_of_lt hn) hby
    omega
   rw[vC.2 this];rfl
  rw[e2,jD];rfl
 all_goals grind [Tr.get_set,vD,Tr.get_ofList]
end
end
end Go.Am
namespace Go.Am
def val (B:Nat):List Nat->Nat
 | []=>0
 | a::l=>a+B*val B l
def yB(B:Nat)(l:List Nat):Prop:=∀x∈l,x<B
def norm (l:List Nat):Prop:=∀h:l≠[],l.getLast h≠0
theorem Bl(B:Nat):∀(l m:List Nat),val B (l++m)=val B l+B^l.length*val B m
 | [],m=>by simp[val]
 | a::l,m=>by
  simp only[List.cons_append,val,Bl B l m,ybn,yag];grind
theorem oJ{B:Nat}(hB:0<B):∀ {l:List Nat},yB B l->val B l<B^l.length
 | [],_=>by simp[val]
 | a::l,h=>by
  have h1:=h a (yby);have h2:=oJ hB (l:=l) fun x hx=>h x (ybr _ hx);simp only[val,ybn,yag];have h3:B*(val B l+1)<=B*B^l.length:=ybv B h2
  grind
theorem aY(B:Nat)(l:List Nat)(n:Nat):val B l=val B (l.take n)+B^(l.take n).length*val B (l.drop n):=by
 rw[<- Bl,List.take_append_drop]
theorem xY{B:Nat}{l:List Nat}(h:yB B l)(n:Nat):yB B (l.take n):=fun x hx=>h x (List.mem_of_mem_take hx)
def KN{B:Nat}{l:List Nat}(h:yB B l)(n:Nat):yB B (l.drop n):=fun x hx=>h x (List.mem_of_mem_drop hx)
def KO{B:Nat}{l m:List Nat}(h:yB B l)(k:yB B m):yB B (l++m):=fun x hx=>(yaf.1 hx).elim (h x) (k x)
def rD:List Nat->List Nat
 | []=>[]
 | a::l=>if rD l=[]/\a=0 then []else a::rD l
theorem hO(B:Nat):∀l:List Nat,val B (rD l)=val B l
 | []=>rfl
 | a::l=>by
  unfold rD;have ih:=hO B l
  grind [val]
theorem xP:∀l:List Nat,norm (rD l)
 | []=>fun h=>(h rfl).elim
 | a::l=>by
  have ih:=xP l;unfold rD;split
  ·simp_all
  ·rename_i h;intro hne;by_cases hs:rD l=[]
   ·simp_all
   ·rw[List.getLast_cons hs];exact ih hs
theorem iQ{B:Nat}:∀ {l:List Nat},yB B l->yB B (rD l)
 | [],h=>h
 | a::l,h=>by
  have ih:=iQ (l:=l) fun x hx=>h x (ybr _ hx);unfold rD;split
  ·simp_all
  ·exact fun x hx=>(ybs.1 hx).elim (fun e=>e ▸ h a yby) (ih x)
theorem Ra:∀l:List Nat,(rD l).length<=l.length
 | []=>ybk _
 | a::l=>by unfold rD;have:=Ra l;split<;>simp<;>omega
theorem Ju:∀l:List Nat,rD (l++[0])=rD l
 | []=>by simp[rD]
 | a::l=>by
  show(if rD (l++[0])=[]/\a=0 then []else a::rD (l++[0]))=_;rw[Ju l];rfl
def wZ:∀ {l:List Nat},norm l->rD l=l
 | [],_=>rfl
 | a::l,h=>by
  have hl:norm l:=by
   intro hne;have:=h (by simp)
   grind
  unfold rD;rw[wZ hl];split
  ·rename_i e;have:=h (by simp)
   simp_all
  ·rfl
def Cl{B:Nat}(hB:0<B){l:List Nat}(h:norm l)(h0:val B l=0):l=[]:=by
 have key:∀l:List Nat,val B l=0->∀x∈l,x=0:=by
  intro l;induction l with
  | nil=>simp_all
  | cons a l ih=>
   grind [val,Nat.mul_eq_zero]
 rcases List.eq_nil_or_concat l with e | ⟨m,a,e⟩
 ·exact e
 ·exfalso;subst e;have:=h (by simp);simp at this;exact this (key _ h0 a (by simp))
def Bk{B:Nat}{l:List Nat}(h:norm l)(hne:l≠[]):B^(l.length-1)<=val B l:=by
 rcases List.eq_nil_or_concat l with e | ⟨m,a,e⟩
 ·simp_all
 ·rw[List.concat_eq_append]at e;subst e;have:=h (by simp);simp at this;rw[Bl];simp only[ybg,ybn,ybx,val];have:1<=a+B*0:=by omega
  calc B^(m.length+1-1)=B^m.length*1:=by simp
   _<=B^m.length*(a+B*0):=ybv _ this
   _<=_:=Nat.le_add_left _ _
def Oy{B:Nat}(hB:0<B):∀ {l m:List Nat},yB B l->yB B m->l.length=m.length->val B l=val B m->l=m
 | [],[],_,_,_,_=>rfl
 | a::l,b::m,h1,h2,hl,hv=>by
  have ha:=h1 a yby
  have hb:=h2 b yby
  simp only[val]at hv;have e1:a=b:=by
   grind [Nat.add_mul_mod_self_left,Nat.mod_eq_of_lt]
  subst e1;have e2:val B l=val B m:=by
   grind [Nat.eq_of_mul_eq_mul_left]
  rw[Oy hB (fun x hx=>h1 x (ybr _ hx)) (fun x hx=>h2 x (ybr _ hx)) (by simp_all) e2]
 | [],_::_,_,_,h,_=>by simp at h
 | _::_,[],_,_,h,_=>by simp at h
def nL{B:Nat}(hB:1<B){l m:List Nat}(h1:yB B l)(h3:norm m)(hv:val B m<=val B l):m.length<=l.length:=by
 by_cases hm:m=[]
 ·simp[hm]
 ·have a:=Bk (B:=B) h3 hm;have b:=oJ (by omega) h1;have:B^(m.length-1)<B^l.length:=by omega
  grind [Nat.pow_lt_pow_iff_right]
def TJ{B:Nat}(hB:1<B){l m:List Nat}(h1:yB B l)(h2:yB B m)(h3:norm l)(h4:norm m)(hv:val B l=val B m):l=m:=by
 have a:=nL hB h1 h4 (by omega);have b:=nL hB h2 h3 (by omega);exact Oy (by omega) h1 h2 (by omega) hv
def cG (a b:List Nat):Int:=if a.length≠b.length then(if a.length<b.length then -1 else 1)else go a b
where go:List Nat->List Nat->Int
 | a::l,b::m=>if go l m≠0 then go l m else if a<b then -1 else if b<a then 1 else 0
 | _,_=>0
theorem JF{B:Nat}:∀ {a b:List Nat},yB B a->yB B b->a.length=b.length->(cG.go a b<0 ↔ val B a<val B b)/\(cG.go a b=0 ↔ val B a=val B b)
 | [],[],_,_,_=>by simp[cG.go,val]
 | a::l,b::m,h1,h2,hl=>by
  have ha:=h1 a yby
  have hb:=h2 b yby
  obtain⟨i1,i2⟩:=JF (a:=l) (b:=m) (fun x hx=>h1 x (ybr _ hx)) (fun x hx=>h2 x (ybr _ hx)) (by simp_all);have lt_of:∀ {x y:Nat},x<y->∀u v,u<B->u+B*x<v+B*y:=by
   intro x y h u v hu;have:B*(x+1)<=B*y:=ybv B h
   grind
  unfold cG.go;simp only[val];by_cases h0:cG.go l m=0
  ·grind
  ·rw[yab h0];constructor
   ·rw[i1];constructor
    ·simp_all
    grind [Nat.lt_trichotomy]
   ·constructor
    ·omega
    ·intro h;rcases Nat.lt_trichotomy (val B l) (val B m)with g | g | g
     ·have:=lt_of g a b ha;omega
     ·omega
     ·have:=lt_of g b a hb;omega
 | [],_::_,_,_,h=>by simp at h
 | _::_,[],_,_,h=>by simp at h
def Vu{B:Nat}(hB:1<B){a b:List Nat}(h1:yB B a)(h2:yB B b)(h3:norm a)(h4:norm b):cG a b<0 ↔ val B a<val B b:=by
 unfold cG;by_cases hl:a.length=b.length
 ·grind [JF]
 ·rw[yab hl];by_cases hlt:a.length<b.length
  ·rw[yab hlt];refine⟨fun _=>?_,fun _=>by omega⟩;rcases yau (val B a) (val B b)with g | g
   ·exact g
   ·have:=nL hB h1 h4 g;omega
  ·rw[yaa hlt];refine⟨fun h=>by omega,fun h=>?_⟩;have:=nL hB h2 h3 (by omega);omega
end Go.Am
namespace Go.Am
open Go Go.RowKit
theorem rF{n:Int}(h1:0<=n)(h2:n<18446744073709551616):rA .u64 n=n:=by
 grind [kL,IntKind.wrap,IntKind.bits,IntKind.signed]
theorem jW{n:Int}(h1:0<=n)(h2:n<4294967296):rA .u32 n=n:=by
 grind [kL,IntKind.wrap,IntKind.bits,IntKind.signed]
theorem fY{n:Int}(h1:0<=n)(h2:n<65536):rA .u16 n=n:=by
 grind [kL,IntKind.wrap,IntKind.bits,IntKind.signed]
theorem Bf{n:Int}(h1:0<=n)(h2:n<256):rA .u8 n=n:=by
 grind [kL,IntKind.wrap,IntKind.bits,IntKind.signed]
theorem Eu(n:Int):rA .u64 n=n%18446744073709551616:=by
 grind [kL,IntKind.wrap,IntKind.bits,IntKind.signed]
theorem cQ(n:Int):rA .u32 n=n%4294967296:=by
 grind [kL,IntKind.wrap,IntKind.bits,IntKind.signed]
def LJ(n:Int):rA .u16 n=n%65536:=by
 grind [kL,IntKind.wrap,IntKind.bits,IntKind.signed]
def GX{k:IntKind}{x y:Nat}:iAnd k (x:Int) (y:Int)=iH Nat.land k (x:Int) (y:Int):=rfl
theorem tS{f:Nat->Nat->Nat}{k:IntKind}{x y:Nat}(h1:x<zG k)(h2:y<zG k):iH f k (x:Int) (y:Int)=some (.int k (f x y:Nat)):=by
 unfold iH;have e1:yK (x:Int)=some x:=rfl;have e2:yK (y:Int)=some y:=rfl;rw[e1,tA,e2,tA,vC.2 h1,vC.2 h2];rfl
def Mm{k:IntKind}{x y:Nat}(h0:0<y)(hw:rA k ((x / y:Nat):Int)=((x / y:Nat):Int)):mT k (x:Int) (y:Int)=some (.int k ((x / y:Nat):Int)):=by
 unfold mT;have:iA (y:Int) 0=false:=by
  grind [vS]
 rw[this,cond_false,Int.tdiv_eq_ediv_of_nonneg (by omega)];rw[<- Int.natCast_ediv,hw]
def Hm{k:IntKind}{x y:Nat}(h0:0<y):nT k (x:Int) (y:Int)=some (.int k ((x%y:Nat):Int)):=by
 unfold nT;have:iA (y:Int) 0=false:=by
  grind [vS]
 rw[this,cond_false,Int.tmod_eq_emod_of_nonneg (by omega),<- Int.natCast_emod]
theorem gE{a b:Int}:(iA a b=true) ↔ a=b:=vS a b
theorem uQ{a b:Int}:((!iA a b)=true) ↔ a≠b:=by rw[ycp,<- Bool.not_eq_true,gE]
def Tb{b:Bool}:((!b)=true) ↔ b=false:=by simp
theorem Bw{a b n:Nat}(h:b<2^n):Nat.lor (a*2^n) b=a*2^n+b:=by
 show a*2^n ||| b=_;rw[<- Nat.shiftLeft_eq,<- Nat.shiftLeft_add_eq_or_of_lt h,Nat.shiftLeft_eq]
def or_low{a b n:Nat}(h:b<2^n)(ha:a%2^n=0):Nat.lor a b=a+b:=by
 obtain⟨c,hc⟩:=Nat.dvd_of_mod_eq_zero ha
 grind [Nat.mul_comm,Bw]
def mA.idx{t:Tr sA}{C:oA}{T el:Nat}(h:yF C T el 1 false){k:IntKind}{l:List Nat}{v:zA}(hr:mA t 1 (cA k l) v){i x:Nat}(hi:l[i]?=some x) :
  ∃b off,jB C T v (.int .i64 (i:Int))=some (.ptr b off)/\aA C el ⟨0,t⟩ (.ptr b off)=some (.int k (x:Int)):=by
 obtain⟨b,off,cs,h1,h2,_,_,h5⟩:=yF.at h (fun _=>rfl) hr (XV hi);rw[oW]at h5;subst h5;exact⟨b,off,h1,h2⟩
def iX(x:Nat)(n:Nat):Int.fdiv (x:Int) (n:Int)=((x / n:Nat):Int):=by
 grind
def getElem?_of_lt{l:List Nat}{i:Nat}(h:i<l.length):∃x,l[i]?=some x:=⟨l[i],ybd h⟩
def wH{B:Nat}{l:List Nat}(h:yB B l){i x:Nat}(hi:l[i]?=some x):x<B:=h x (ycv hi)
def eZ{l:List Nat}(h:l≠[]):∃m x,l=m++[x]:=by
 rcases List.eq_nil_or_concat l with e | ⟨m,a,e⟩
 all_goals simp_all
end Go.Am
namespace Go.Proofs
open Go Go.Am
variable [sC]
variable {t:Tr sA}
theorem NH:∀(n:Nat) (l:List Nat) (v:zA),l.length=n->n<1125899906842624->mA t 1 (cA .u32 l) v->∃v',jp 260 2 [v] t (fun u m=>u=v'/\m=t)/\mA t 1 (cA .u32 (rD l)) v':=by
 intro n;induction n with
 | zero=>
  intro l v hl _ hv;have:l=[]:=ycc.1 hl;subst this;refine⟨v,Uf ?_,hv⟩;simp only[uI,uL,uZ,uW,Jr,qA,hv.len,wA,fB,bC,xC];simp_all
 | succ n ih=>
  intro l v hl hn hv;obtain⟨m,x,rfl⟩:=eZ (l:=l) (by grind);have hm:m.length=n:=by simp_all
  have hx:(m++[x])[m.length]?=some x:=by simp
  obtain⟨b,off,g1,g2⟩:=hv.idx gF hx;obtain⟨u,g3,g4⟩:=yF.front gF hv (k:=m.length) (by simp[cA]);rw[Nh]at g4;simp only[List.take_left']at g4;have e1:(((m++[x]).length:Nat):Int)-1=(m.length:Int):=by simp
  by_cases hx0:x=0
  ·subst hx0;obtain⟨w,h1,h2⟩:=ih m u hm (by omega) g4;refine⟨w,Uf ?_,by grind [Ju]⟩;simp (disch:=omega) only[uI,uL,uZ,uW,Jr,qA,hv.len,wA,fB,bC,xC,gE,wrap_i64,e1,g1,g2,g3]
   simp_all
  ·refine⟨v,Uf ?_,?_⟩
   ·simp (disch:=omega) only[uI,uL,uZ,uW,Jr,qA,hv.len,wA,fB,bC,xC,gE,wrap_i64,e1,g1,g2,g3]
    simp_all
   ·rw[wZ]
    ·exact hv
    ·intro _;simp_all
def xZ{l:List Nat}{v:zA}(hl:l.length<1125899906842624)(hv:mA t 1 (cA .u32 l) v):∃v',lB yA F 260 [v] t=some v'/\mA t 1 (cA .u32 (rD l)) v':=by
 obtain⟨v',h1,h2⟩:=NH _ l v rfl hl hv;exact⟨v',bB.2 (w260 h1),h2⟩
theorem za7{a b:List Nat}{u v:zA}(hu:mA t 1 (cA .u32 a) u)(hv:mA t 1 (cA .u32 b) v)(hl:a.length=b.length):∀(n:Nat),n<=a.length->n<1125899906842624->jp 283 2 [u,v,.int .i64 ((n:Int)-1)] t (fun w m=>w=.int .i64 (cG.go (a.take n) (b.take n))/\m=t):=by
 intro n;induction n with
 | zero=>
  intro _ _;refine zbv ?_;simp only[uL,uZ,uW,Pz,qA,pD];grind [cG.go]
 | succ n ih=>
  intro hn hn2;obtain⟨x,hx⟩:=getElem?_of_lt (l:=a) (i:=n) (by omega);obtain⟨y,hy⟩:=getElem?_of_lt (l:=b) (i:=n) (by omega);obtain⟨c,off,g1,g2⟩:=hu.idx gF hx;obtain⟨d,off',g3,g4⟩:=hv.idx gF hy;have e1:(((n+1:Nat):Int)-1)=(n:Int):=by omega
  have key:∀(a b:List Nat) (x y:Nat),a.length=b.length->cG.go (a++[x]) (b++[y])=if x<y then -1 else if y<x then 1 else cG.go a b:=by
   intro a;induction a with
   | nil=>
    grind [cG.go]
   | cons p a ih=>
    intro b x y h
    cases b with
    | nil=>simp at h
    | cons q b=>
     grind [cG.go]
  have e2:cG.go (a.take (n+1)) (b.take (n+1))=if x<y then -1 else if y<x then 1 else cG.go (a.take n) (b.take n):=by
   grind [List.take_add_one]
  rw[e1,e2];refine zbv ?_;simp (disch:=omega) only[uL,uZ,uW,Pz,qA,wA,fB,xC,pD,uQ,g1,g2,g3,g4,wrap_i64]
  grind
theorem zco{a b:List Nat}{u v:zA}(ha:a.length<1125899906842624)(hu:mA t 1 (cA .u32 a) u)(hv:mA t 1 (cA .u32 b) v):lB yA F 283 [u,v] t=some (.int .i64 (cG a b)):=by
 refine bB.2 (w283 ?_);simp (disch:=omega) only[uI,uZ,uW,t283,qA,hu.len,hv.len,wA,fB,bC,xC,uQ,wrap_i64];unfold cG;by_cases hl:a.length=b.length
 ·rw[yaa (by omega),yaa (by omega)];have:=za7 hu hv hl a.length (ybk _) ha
  grind
 grind
def sH(neg:Bool)(l:List Nat):Bool:=if l=[]then !neg else decide (l.length<=1024)&&decide (l.getLast?≠some 0)
theorem Ja{neg:Bool}{l:List Nat}{v:zA}(hl:l.length<1125899906842624)(hv:mA t 1 (cA .u16 l) v):lB yA F 237 [.agg [.bool neg,v]] t=some (.bool (sH neg l)):=by
 refine bB.2 (w237 ?_);unfold sH;by_cases h0:l=[]
 ·subst h0;simp only[uI,uH,zB,uZ,uW,t237,qA,hv.len,wA,fB,bC,gE];simp
 ·obtain⟨m,x,rfl⟩:=eZ h0;have hx:(m++[x])[m.length]?=some x:=by simp
  obtain⟨b,off,g1,g2⟩:=hv.idx yH hx;have e1:(((m++[x]).length:Nat):Int)-1=(m.length:Int):=by simp
  have hlm:m.length<1125899906842624:=by omega
  simp (disch:=omega) only[uI,uH,zB,uZ,uW,t237,qA,hv.len,wA,fB,bC,gE,pD,wrap_i64,e1,g1,g2];rw[yaa (by omega),yaa h0];by_cases h1:(m++[x]).length<=1024
  ·rw[yab (by omega)];simp only[h1,decide_true,ycn];by_cases hx0:x=0
   ·grind [jV]
   ·have:iA (x:Int) 0=false:=by
     grind [vS]
    simp_all
  grind
theorem Um{neg:Bool}{l:List Nat}{v:zA}(hv:mA t 1 (cA .u16 l) v):lB yA F 238 [.agg [.bool neg,v]] t=some (.bool (!neg&&decide (l=[1]))):=by
 refine bB.2 (w238 ?_)
 cases neg with
 | true=>simp[Ff,uI,uH,zB,uZ,t238,qA]
 | false=>
  simp only[Ff,uI,uH,zB,uZ,t238,qA,hv.len,wA,fB,bC,gE];rw[yab (by rfl)];by_cases h1:l.length=1
  ·obtain⟨x,rfl⟩:∃x,l=[x]:=by
    cases l with
    | nil=>simp at h1
    | cons x r=>simp_all
   obtain⟨b,off,g1,g2⟩:=hv.idx yH (i:=0) (x:=x) (by simp);simp only[Int.natCast_zero]at g1;rw[yab (by simp)];simp only[g1,g2,wA,fB];by_cases hx:x=1
   ·grind [jV]
   ·have:iA (x:Int) 1=false:=by
     grind [vS]
    simp_all
  ·rw[yaa (by omega)];have:l≠[1]:=by grind
   grind
end Go.Proofs
namespace Go.Am
def kF:List Nat->List Nat
 | []=>[]
 | [a]=>[a]
 | a::b::l=>(a+65536*b)::kF l
theorem wQ:∀l:List Nat,(kF l).length=(l.length+1) / 2
 | []=>rfl
 | [a]=>by simp[kF]
 | a::b::l=>by simp[kF,wQ l];omega
theorem Ox:∀l:List Nat,val 4294967296 (kF l)=val 65536 l
 | []=>rfl
 | [a]=>by simp[kF,val]
 | a::b::l=>by simp only[kF,val,Ox l];omega
def Ig:∀ {l:List Nat},yB 65536 l->yB 4294967296 (kF l)
 | [],_=>fun x hx=>(by cases hx)
 | [a],h=>fun x hx=>by
  have:=h a (by simp)
  grind [kF]
 | a::b::l,h=>fun x hx=>by
  have h1:=h a (by simp);have h2:=h b (by simp);rcases ybs.1 hx with rfl | hx
  ·omega
  ·exact Ig (l:=l) (fun y hy=>h y (by simp[hy])) x hx
def Lk:∀ {l:List Nat},norm l->norm (kF l)
 | [],_=>fun h=>(h rfl).elim
 | [a],h=>by
  grind [kF]
 | [a,b],h=>by
  intro _;have:=h (by simp)
  grind [kF]
 | a::b::c::l,h=>by
  intro _;have hn:norm (c::l):=by
   intro hne;have:=h (by simp)
   simp_all
  have hne:kF (c::l)≠[]:=by
   grind [wQ]
  have:=Lk (l:=c::l) hn hne
  grind [kF]
def Sr:∀(l:List Nat) (x:Nat),l.length%2=0->kF (l++[x])=kF l++[x]
 | [],x,_=>rfl
 | [a],x,h=>by simp at h
 | a::b::l,x,h=>by
  show(a+65536*b)::kF (l++[x])=(a+65536*b)::(kF l++[x]);rw[Sr l x (by grind)]
theorem CV:∀(l:List Nat) (a x:Nat),l.length%2=0->kF (l++[a,x])=kF l++[a+65536*x]
 | [],a,x,_=>rfl
 | [b],a,x,h=>by simp at h
 | c::b::l,a,x,h=>by
  show(c+65536*b)::kF (l++[a,x])=(c+65536*b)::(kF l++[a+65536*x]);rw[CV l a x (by grind)]
def zH:List Nat->List Nat
 | []=>[]
 | w::l=>w%65536::w / 65536::zH l
theorem Jg:∀l:List Nat,(zH l).length=2*l.length
 | []=>rfl
 | w::l=>by simp[zH,Jg l];omega
def Xe:∀l:List Nat,val 65536 (zH l)=val 4294967296 l
 | []=>rfl
 | w::l=>by
  simp only[zH,val,Xe l];omega
def KL:∀ {l:List Nat},yB 4294967296 l->yB 65536 (zH l)
 | [],_=>fun x hx=>(by cases hx)
 | w::l,h=>fun x hx=>by
  have h1:=h w (by simp);rcases ybs.1 hx with rfl | hx
  ·omega
  ·rcases ybs.1 hx with rfl | hx
   ·omega
   ·exact KL (l:=l) (fun y hy=>h y (by simp[hy])) x hx
theorem Fdzx:∀(l:List Nat) (w:Nat),zH (l++[w])=zH l++[w%65536,w / 65536]
 | [],w=>rfl
 | a::l,w=>by simp[zH,Fdzx l w]
theorem Zm{l:List Nat}{w:Nat}(hw:w≠0):rD (zH (l++[w]))=if w / 65536=0 then zH l++[w%65536]else zH (l++[w]):=by
 rw[Fdzx];split
 ·rename_i h;rw[h,show zH l++[w%65536,0]=(zH l++[w%65536])++[0] by simp,Ju];refine wZ fun _=>?_
  grind
 ·rename_i h;refine wZ fun _=>?_
  grind
end Go.Am
namespace Go.Proofs
open Go Go.Am
variable [sC]
variable {t:Tr sA}
theorem set_append_right{l m:List Nat}{i x:Nat}(h:l.length=i):(l++m).set i x=l++m.set 0 x:=by
 simp_all
theorem SN{l:List Nat}{v:zA}{b:Nat}{Q:dB}(hv:mA t 1 (cA .u16 l) v)(hl:l.length<1000000)(hlt:yB 65536 l)(hbase:yA.base<=b)(hb:t.get b=none)
  (hQ:∀t' v',bA t t'->mA t' 1 (cA .u32 (kF l)) v'->Q v' t'):∀(k i:Nat) (t':Tr sA),i+k=l.length->bA t t'->eE t' b .u32 (kF (l.take i)++List.replicate ((l.length+1) / 2-(i+1) / 2) 0) →
  jp 240 2 [.slice b 0 ((l.length+1) / 2) ((l.length+1) / 2),v,.int .i64 l.length,.int .i64 i] t' Q:=by
 intro k;induction k with
 | zero=>
  intro i t' hi ht ho;refine zb4 ?_;simp only[uL,uH,yC,uZ,uW,Qj,qA,xC];rw[yaa (by omega)];rw[yca (by omega),show(l.length+1) / 2-(i+1) / 2=0 by omega,List.replicate_zero,ycd]at ho;refine hQ _ _ ht ?_;have:=ho.all (ybk _)
  grind [wQ]
 | succ k ih=>
  intro i t' hi ht ho;obtain⟨x,hx⟩:=getElem?_of_lt (l:=l) (i:=i) (by omega);have hxlt:x<65536:=wH hlt hx;obtain⟨c,off,g1,g2⟩:=(hv.mono ht).idx yH hx;have htake:l.take (i+1)=l.take i++[x]:=by grind [List.take_add_one]
  have hlen:(l.take i).length=i:=by grind
  obtain⟨y,hy,hnew⟩:∃y,(kF (l.take i)++List.replicate ((l.length+1) / 2-(i+1) / 2) 0)[i / 2]?=some y/\y<4294967296/\Nat.lor y (x*2^(16*(i%2)))<4294967296 ∧
    (kF (l.take i)++List.replicate ((l.length+1) / 2-(i+1) / 2) 0).set (i / 2) (Nat.lor y (x*2^(16*(i%2))))=kF (l.take (i+1))++List.replicate ((l.length+1) / 2-(i+1+1) / 2) 0:=by
   rcases Nat.mod_two_eq_zero_or_one i with he | ho1
   ·have hp:(kF (l.take i)).length=i / 2:=by grind [wQ]
    refine⟨0,?_,by decide,?_,?_⟩
    ·rw[ybp (by omega),hp,Nat.sub_self,List.getElem?_replicate,yab (by omega)]
    ·rw[he];simp;omega
    ·rw[set_append_right hp,he,htake,Sr _ _ (by omega)];have:Nat.lor 0 (x*2^(16*0))=x:=by simp_all
     rw[this];obtain⟨r,hr⟩:∃r,(l.length+1) / 2-(i+1) / 2=r+1:=⟨(l.length+1) / 2-(i+1) / 2-1,by omega⟩;rw[hr,List.replicate_succ,List.set_cons_zero,show(l.length+1) / 2-(i+1+1) / 2=r by omega];simp
   ·obtain⟨p,a,hpa⟩:=eZ (l:=l.take i) (by grind);have hpl:p.length=i-1:=by grind
    have hpe:p.length%2=0:=by omega
    have ha:a<65536:=hlt a (List.mem_of_mem_take (by simp_all:a∈l.take i));have hp:(kF p).length=i / 2:=by grind [wQ]
    rw[hpa,Sr _ _ hpe];have hlor:Nat.lor a (x*2^(16*1))=a+65536*x:=by
     show a ||| x*2^(16*1)=_;rw[Nat.or_comm];have:=Bw (a:=x) (b:=a) (n:=16) (by omega);show Nat.lor (x*2^16) a=_;omega
    refine⟨a,?_,by omega,?_,?_⟩
    all_goals grind [set_append_right,CV]
  obtain⟨hy1,hy2,hy3⟩:=hnew;have hwlen:(kF (l.take i)++List.replicate ((l.length+1) / 2-(i+1) / 2) 0).length=(l.length+1) / 2:=by
   grind [wQ]
  have g3:jB yA 240 (.slice b 0 ((l.length+1) / 2) ((l.length+1) / 2)) (.int .i64 ((i / 2:Nat):Int))=some (.ptr b (0+i / 2*1)):=Bo gF (by omega);rw[show 0+i / 2*1=i / 2 by omega]at g3;have g4:=ho.load hy tG rfl;obtain⟨t2,g5,g6,g7⟩:=ho.store (C:=yA) hbase (j:=i / 2) (by omega) (Nat.lor y (x*2^(16*(i%2)))) tG rfl;rw[hy3]at g6;refine zb4 ?_;have e1:Int.tdiv (i:Int) 2=((i / 2:Nat):Int):=by simp_all
  have e2:Int.tmod (i:Int) 2=((i%2:Nat):Int):=by grind
  have hm:=ycy i (show 0<2 by decide);simp (disch:=omega) only[uL,uH,yC,uZ,uW,Qj,qA,xC,g1,g2,wA,fB,wrap_i64,jW,e1,e2,g3,g4];rw[yab (by omega)];have e3:wS .u32 (x:Int) (16*((i%2:Nat):Int))=some (.int .u32 ((x*2^(16*(i%2)):Nat):Int)):=by
   rcases Nat.mod_two_eq_zero_or_one i with h | h<;>rw[h]
   ·simp[wS,tZ,yK];rw[jW (by omega) (by omega)]
   ·have:wS .u32 (x:Int) (16*((1:Nat):Int))=some (.int .u32 (rA .u32 ((x:Int)*65536))):=rfl
    grind [jW]
  rw[e3];have hb2:x*2^(16*(i%2))<4294967296:=by
   rcases Nat.mod_two_eq_zero_or_one i with h | h<;>rw[h]<;>omega
  simp only[wA,fB];rw[tS (show y<zG .u32 from hy1) (show x*2^(16*(i%2))<zG .u32 from hb2)];simp only[wA,fB];intro d _ _;rw[g5];simp only[wA];have:=ih (i+1) t2 (by omega) (ht.off hb g7) g6
  simp_all
theorem Sq{l:List Nat}{v:zA}{Q:dB}(hv:mA t 1 (cA .u16 l) v)(hl:l.length<1000000)(hlt:yB 65536 l)
  (hQ:∀t' v',bA t t'->mA t' 1 (cA .u32 (kF l)) v'->Q v' t'):Wc yA F 240 [v] t Q:=by
 refine w240 ?_;have e1:Int.tdiv ((l.length:Int)+1) 2=(((l.length+1) / 2:Nat):Int):=by grind
 simp (disch:=omega) only[uI,uZ,uW,t240,qA,hv.len,wA,fB,bC,wrap_i64,e1];intro b hb hbase;obtain⟨t',g1,g2,g3,_⟩:=vX (C:=yA) (k:=.u32) mN rfl tG rfl rfl (by decide) (n:=(l.length+1) / 2) (by omega) hb;rw[g1];simp only[wA];exact SN hv hl hlt hbase hb hQ l.length 0 t' (by omega) g3 (by grind [kF])
end Go.Proofs
namespace Go.Proofs
open Go Go.Am
variable [sC]
variable {t:Tr sA}
theorem zc2{n:Nat}(h:n<4294967296):n / 2147483648=if n.testBit 31 then 1 else 0:=by
 grind
theorem Pf{n:Nat}(h:n<4294967296):n.testBit 31=decide (2147483648<=n):=by
 grind
theorem Xi{x:Nat}(h:x<4294967296):zZ (.int .u32 (x:Int))=some (.int .u32 (Nat.xor 4294967295 x:Nat)):=by
 grind [zZ,zA.asIntK,tA,Nat.beq,kLo,jD,tS,zG]
theorem NS{x y b:Nat}(hx:x<4294967296)(hy:y<4294967296)(hb:b<2) :
  lB yA F 299 [.int .u32 x,.int .u32 y,.int .u32 b] t=some (.tup [.int .u32 (((x+8589934592-y-b)%4294967296:Nat):Int),.int .u32 (((if x<y+b then 1 else 0):Nat):Int)]):=by
 refine bB.2 (w299 ?_);obtain⟨d,hd⟩:∃d,d=(x+8589934592-y-b)%4294967296:=⟨_,rfl⟩;have hdl:d<4294967296:=by omega
 have e1:rA .u32 (rA .u32 ((x:Int)-y)-b)=(d:Int):=by
  grind [cQ]
 have hn1:Nat.xor 4294967295 x<4294967296:=Nat.xor_lt_two_pow (n:=32) (by decide) hx;have hn2:Nat.xor x y<4294967296:=Nat.xor_lt_two_pow (n:=32) hx hy;have hn3:Nat.xor 4294967295 (Nat.xor x y)<4294967296:=Nat.xor_lt_two_pow (n:=32) (by decide) hn2;have hn4:Nat.land (Nat.xor 4294967295 x) y<4294967296:=yam Nat.and_le_left hn1;have hn5:Nat.land (Nat.xor 4294967295 (Nat.xor x y)) d<4294967296:=yam Nat.and_le_left hn3
 have hn6:Nat.lor (Nat.land (Nat.xor 4294967295 x) y) (Nat.land (Nat.xor 4294967295 (Nat.xor x y)) d)<4294967296:=Nat.or_lt_two_pow (n:=32) hn4 hn5;simp only[uL,t299,qA,e1];rw[Xi hx];simp only[wA,fB];rw[GX,tS (k:=.u32) hn1 hy];simp only[wA,fB];rw[tS (k:=.u32) hx hy];simp only[wA,fB];rw[Xi hn2];simp only[wA,fB];rw[GX,tS (k:=.u32) hn3 hdl]
 simp only[wA,fB];rw[tS (k:=.u32) hn4 hn5];simp only[wA,fB];have e2:Int.fdiv ((Nat.lor (Nat.land (Nat.xor 4294967295 x) y) (Nat.land (Nat.xor 4294967295 (Nat.xor x y)) d):Nat):Int) 2147483648=(((if x<y+b then 1 else 0):Nat):Int):=by
  rw[show(2147483648:Int)=((2147483648:Nat):Int) from rfl,iX,zc2 hn6];congr 1;have tb:(Nat.lor (Nat.land (Nat.xor 4294967295 x) y) (Nat.land (Nat.xor 4294967295 (Nat.xor x y)) d)).testBit 31=decide (x<y+b):=by
   show((4294967295 ^^^ x) &&& y ||| (4294967295 ^^^ (x ^^^ y)) &&& d).testBit 31=_;rw[Nat.testBit_or,Nat.testBit_and,Nat.testBit_and,Nat.testBit_xor,Nat.testBit_xor,Nat.testBit_xor,Pf hx,Pf hy,Pf hdl];have:(4294967295:Nat).testBit 31=true:=by decide
   rw[this];by_cases c1:2147483648<=x<;>by_cases c2:2147483648<=y<;>by_cases c3:2147483648<=d<;>by_cases c4:x<y+b<;>simp only[c1,c2,c3,c4,decide_true,decide_false,Bool.xor_true,Bool.xor_false,Bool.true_xor,Bool.false_xor,Bool.not_true,ycl,Bool.and_true,yay,Bool.or_true,Bool.or_false,Bool.xor_self]<;>omega
  simp_all
 simp_all
theorem zbj{x y c:Nat}(hx:x<4294967296)(hy:y<4294967296)(hc:c<2) :
  lB yA F 303 [.int .u32 x,.int .u32 y,.int .u32 c] t=some (.tup [.int .u32 (((x+y+c)%4294967296:Nat):Int),.int .u32 (((x+y+c) / 4294967296:Nat):Int)]):=by
 refine bB.2 (w303 ?_);have e0:((x:Int)+y)+c=((x+y+c:Nat):Int):=by omega
 simp (disch:=omega) only[t303,qA,rF]
 grind [cQ]
theorem zaw{h l d:Nat}(hh:h<d)(hl:l<4294967296)(hd:d<4294967296) :
  lB yA F 259 [.int .u32 h,.int .u32 l,.int .u32 d] t=some (.tup [.int .u32 (((h*4294967296+l) / d:Nat):Int),.int .u32 (((h*4294967296+l)%d:Nat):Int)]):=by
 refine bB.2 (w259 ?_);simp only[t259,qA,uQ,pD];rw[yab (by omega),yaa (by omega)];refine j259_7 ?_;have e1:(h:Int)*4294967296=((h*4294967296:Nat):Int):=by omega
 have hq:(h*4294967296+l) / d<4294967296:=ycu (by
  omega)
 have hr:(h*4294967296+l)%d<d:=ycy _ (by omega);simp (disch:=omega) only[uE,Za,qA,rF,e1];have e2:iH Nat.lor .u64 ((h*4294967296:Nat):Int) (l:Int)=some (.int .u64 ((h*4294967296+l:Nat):Int)):=by
  rw[tS (k:=.u64) (show h*4294967296<zG .u64 by show _<18446744073709551616;omega) (show l<zG .u64 by show _<18446744073709551616;omega)];have:=Bw (a:=h) (b:=l) (n:=32) hl;rw[show h*4294967296=h*2^32 by rfl,this]
 rw[e2];simp only[wA,fB];rw[Mm (k:=.u64) (by omega) (by
  grind [rF]),Hm (k:=.u64) (by omega)]
 grind [wA,fB,jW]
theorem UP(v:Nat)(hv:v<256):∃k,k<9/\fC [0,1,2,2,3,3,3,3,4,4,4,4,4,4,4,4,5,5,5,5,5,5,5,5,5,5,5,5,5,5,5,5,6,6,6,6,6,6,6,6,6,6,6,6,6,6,6,6,6,6,6,6,6,6,6,6,6,6,6,6,6,6,6,6,7,7,7,7,7,7,7,7,7,7,7,7,7,7,7,7,7,7,7,7,7,7,7,7,7,7,7,7,7,7,7,7,7,7,7,7,7,7,7,7,7,7,7,7,7,7,7,7,7,7,7,7,7,7,7,7,7,7,7,7,7,7,7,7,8,8,8,8,8,8,8,8,8,8,8,8,8,8,8,8,8,8,8,8,8,8,8,8,8,8,8,8,8,8,8,8,8,8,8,8,8,8,8,8,8,8,8,8,8,8,8,8,8,8,8,8,8,8,8,8,8,8,8,8,8,8,8,8,8,8,8,8,8,8,8,8,8,8,8,8,8,8,8,8,8,8,8,8,8,8,8,8,8,8,8,8,8,8,8,8,8,8,8,8,8,8,8,8,8,8,8,8,8,8,8,8,8,8,8,8,8,8,8,8,8,8,8,8,8,8,8,8] v=some k/\(v=0/\k=0\/0<k/\2^(k-1)<=v/\v<2^k):=by
 have h:∀v:Fin 256,(fC [0,1,2,2,3,3,3,3,4,4,4,4,4,4,4,4,5,5,5,5,5,5,5,5,5,5,5,5,5,5,5,5,6,6,6,6,6,6,6,6,6,6,6,6,6,6,6,6,6,6,6,6,6,6,6,6,6,6,6,6,6,6,6,6,7,7,7,7,7,7,7,7,7,7,7,7,7,7,7,7,7,7,7,7,7,7,7,7,7,7,7,7,7,7,7,7,7,7,7,7,7,7,7,7,7,7,7,7,7,7,7,7,7,7,7,7,7,7,7,7,7,7,7,7,7,7,7,7,8,8,8,8,8,8,8,8,8,8,8,8,8,8,8,8,8,8,8,8,8,8,8,8,8,8,8,8,8,8,8,8,8,8,8,8,8,8,8,8,8,8,8,8,8,8,8,8,8,8,8,8,8,8,8,8,8,8,8,8,8,8,8,8,8,8,8,8,8,8,8,8,8,8,8,8,8,8,8,8,8,8,8,8,8,8,8,8,8,8,8,8,8,8,8,8,8,8,8,8,8,8,8,8,8,8,8,8,8,8,8,8,8,8,8,8,8,8,8,8,8,8,8,8,8,8,8,8] v.val).elim false (fun k=>decide (k<9)&&(decide (v.val=0)&&decide (k=0)||decide (0<k)&&decide (2^(k-1)<=v.val)&&decide (v.val<2^k)))=true:=by decide +kernel
 have hv:=h ⟨v,hv⟩;simp only[]at hv;generalize fC _ v=r at hv ⊢
 cases r with
 | none=>simp at hv
 | some k=>
  grind
def BL (x k:Nat):Prop:=x=0/\k=0\/0<k/\2^(k-1)<=x/\x<2^k
theorem EH{x s:Nat}(hx:x<256)(hs:s<100):∃k,k<=8/\BL x k/\jp 301 15 [.int .u32 x,.int .i64 s] t (fun v m=>v=.int .i64 ((s+k:Nat):Int)/\m=t):=by
 obtain⟨k,hk,h1,h2⟩:=UP x hx;refine⟨k,by omega,h2,zdu ?_⟩;simp (disch:=omega) only[uU,uZ,uY,uW,Yr,qA,Bf];unfold cP;rw[iL,tA];have:(zA.int .u8 (x:Int)).asNat=some x:=rfl;rw[this,tA];simp only[zA.asStr];rw[show(pC.desc ⟨.string,1,16,[.str []],true⟩).isString=true from rfl,jD]
 grind [tA,wA,fB,wrap_i64]
theorem EG{x s:Nat}(hx:x<65536)(hs:s<90):∃k,k<=16/\BL x k/\jp 301 9 [.int .u32 x,.int .i64 s] t (fun v m=>v=.int .i64 ((s+k:Nat):Int)/\m=t):=by
 by_cases h:256<=x
 ·obtain⟨k,h1,h2,h3⟩:=EH (t:=t) (x:=x / 256) (s:=s+8) (by omega) (by omega);refine⟨k+8,by omega,?_,zbo ?_⟩
  ·rcases h2 with h2 | ⟨g1,g2,g3⟩
   ·omega
   ·refine .inr ⟨by omega,?_,?_⟩
    ·rw[show k+8-1=(k-1)+8 by omega,Nat.pow_add];omega
    grind
  ·simp (disch:=omega) only[uZ,uW,Pr,qA,pD,wrap_i64]
   grind
 ·obtain⟨k,h1,h2,h3⟩:=EH (t:=t) (x:=x) (s:=s) (by omega) (by omega);refine⟨k,by omega,h2,zbo ?_⟩;simp only[uZ,uW,Pr,qA,pD];grind
theorem UQ{x:Nat}(hx:x<4294967296):∃k,k<=32/\BL x k/\lB yA F 301 [.int .u32 x] t=some (.int .i64 (k:Int)):=by
 by_cases h:65536<=x
 ·obtain⟨k,h1,h2,h3⟩:=EG (t:=t) (x:=x / 65536) (s:=16) (by omega) (by omega);refine⟨k+16,by omega,?_,bB.2 (w301 ?_)⟩
  ·rcases h2 with h2 | ⟨g1,g2,g3⟩
   ·omega
   ·refine .inr ⟨by omega,?_,?_⟩
    ·rw[show k+16-1=(k-1)+16 by omega,Nat.pow_add];omega
    grind
  ·simp only[uZ,t301,qA,pD]
   grind
 ·obtain⟨k,h1,h2,h3⟩:=EG (t:=t) (x:=x) (s:=0) (by omega) (by omega);refine⟨k,by omega,h2,bB.2 (w301 ?_)⟩;simp only[uZ,t301,qA,pD];grind
theorem DQ{x:Nat}(hx:x<4294967296)(h0:0<x):∃s:Nat,s<32/\2147483648<=x*2^s/\x*2^s<4294967296/\lB yA F 294 [.int .u32 x] t=some (.int .i64 (s:Int)):=by
 obtain⟨k,h1,h2,h3⟩:=UQ (t:=t) hx;rcases h2 with h2 | ⟨g1,g2,g3⟩
 ·omega
 ·refine⟨32-k,by omega,?_,?_,bB.2 (w294 ?_)⟩
  ·have:2^(k-1)*2^(32-k)=2147483648:=by rw[<- Nat.pow_add,show k-1+(32-k)=31 by omega]
   rw[<- this];exact ybi _ g2
  ·have:2^k*2^(32-k)=4294967296:=by rw[<- Nat.pow_add,show k+(32-k)=32 by omega]
   rw[<- this];exact Nat.mul_lt_mul_of_pos_right g3 (Nat.pow_pos (Nat.succ_pos 1))
  ·simp (disch:=omega) only[uI,uZ,uW,t294,qA,q301,h3,wA,fB,wrap_i64]
   grind
end Go.Proofs
namespace Go.Am
theorem Kb{p:List Nat}{n x:Nat}:(p++List.replicate (n+1) 0).set p.length x=(p++[x])++List.replicate n 0:=by
 grind
theorem pJ(B:Nat)(l:List Nat)(x:Nat):val B (l++[x])=val B l+B^l.length*x:=by rw[Bl];simp[val]
def gQ{B:Nat}{l:List Nat}{x:Nat}(h:yB B l)(hx:x<B):yB B (l++[x]):=KO h fun y hy=>by simp_all
def AD{B:Nat}{r w d:Nat}(hr:r<d)(hw:w<B):(r*B+w) / d<B:=by
 have hd:0<d:=by omega
 refine ycu ?_;have:(r+1)*B<=d*B:=ybi B hr
 grind
def zR{l:List Nat}{i x:Nat}(h:l[i]?=some x):l.take (i+1)=l.take i++[x]:=by rw[ydg,h];rfl
def drop_cons'{l:List Nat}{i x:Nat}(h:l[i]?=some x):l.drop i=x::l.drop (i+1):=by
 have hi:=(ybc.1 h);rw[ybl hi.1,hi.2]
end Go.Am
namespace Go.Am
open Go Go.RowKit
section
variable {t:Tr sA}{C:oA}
theorem UC{c:Tr zA}{sz:Nat}:∀(cl:List (List zA)) (off:Nat),(∀(i:Nat) cs,cl[i]?=some cs->cs.length=sz/\∀(j:Nat) a,cs[j]?=some a->c.get (off+i*sz+j)=some a)->c.many (cl.length*sz) off=some cl.flatten:=by
 intro cl;induction cl with
 | nil=>intro off _;simp;rfl
 | cons cs cl ih=>
  intro off h;obtain⟨h1,h2⟩:=h 0 cs (by simp);have hrest:=ih (off+sz) fun i cs' hi=>by
   obtain⟨g1,g2⟩:=h (i+1) cs' (by simp_all)
   grind
  have key:∀(n:Nat) (l r:List zA) (off:Nat),l.length=n->(∀(j:Nat) a,l[j]?=some a->c.get (off+j)=some a)->∀m,c.many m (off+n)=some r->c.many (n+m) off=some (l++r):=by
   intro n;induction n with
   | zero=>
    simp_all
   | succ n ihn=>
    intro l r off hl hg m hm
    cases l with
    | nil=>simp at hl
    | cons a l=>
     rw[show n+1+m=(n+m)+1 by omega,Tr.many_succ];have:=hg 0 a (by simp);rw[yct]at this;rw[this,tA,ihn l r (off+1) (by simp_all) (fun j b hj=>by
      have:=hg (j+1) b (by simp_all)
      grind) m (by grind)]
     rfl
  grind [Nat.add_mul]
theorem vI.first{sz:Nat}{v:zA}{cl:List (List zA)}(h:vI t sz v cl){n:Nat}:nP ⟨n,t⟩ sz cl.length v=some cl.flatten/\rV v=some cl.length:=by
 rcases h with⟨rfl,rfl⟩ | ⟨b,off,cap,rfl,_,⟨c,m,lo,h1,_⟩,h2⟩
 ·exact⟨rfl,rfl⟩
 ·refine⟨?_,rfl⟩;unfold nP;simp only[zA.asSlice];unfold aC;rw[h1,tA];simp only[sA.asCells,tA];refine UC cl off fun i cs hi=>?_;obtain⟨g1,c',m',lo',g2,g3⟩:=h2 i cs hi
  simp_all
theorem Uy{sz:Nat}:∀ {cl:List (List zA)},(∀(i:Nat) cs,cl[i]?=some cs->cs.length=sz)->cl.flatten.length=cl.length*sz:=by
 intro cl;induction cl with
 | nil=>grind
 | cons c cl ih=>
  intro h;rw[yas,ybg,ybn,ybo,ih fun i cs hi=>h (i+1) cs (by simp_all),h 0 c (by simp)];omega
theorem Af{sz:Nat}:∀ {cl:List (List zA)},(∀(i:Nat) cs,cl[i]?=some cs->cs.length=sz)->∀(i j:Nat) cs a,cl[i]?=some cs->cs[j]?=some a->cl.flatten[i*sz+j]?=some a:=by
 intro cl;induction cl with
 | nil=>simp_all
 | cons c cl ih=>
  intro h i j cs a hi hj;have hc:=h 0 c (by simp);rw[yas]
  cases i with
  | zero=>
   grind
  | succ i=>
   rw[ybp (by grind),hc,show(i+1)*sz+j-sz=i*sz+j by grind];exact ih (fun i cs hi=>h (i+1) cs (by simp_all)) i j cs a (by simp_all) hj
theorem vI.len{sz:Nat}{v:zA}{cl:List (List zA)}(h:vI t sz v cl):∀(i:Nat) cs,cl[i]?=some cs->cs.length=sz:=by
 rcases h with⟨rfl,rfl⟩ | ⟨b,off,cap,rfl,_,_,h2⟩
 all_goals grind
theorem Vl{sz n:Nat}{cl:List (List zA)}{t':Tr sA}{lo:Option Lo}(hl:∀(i:Nat) cs,cl[i]?=some cs->cs.length=sz)(h:t'.get n=some (.cells (Tr.ofList cl.flatten) (rB cl.flatten) lo))(hlo:lo=none\/∃x,lo=some x/\x.es=sz):vI t' sz (.slice n 0 cl.length cl.length) cl:=
 .inr ⟨n,0,cl.length,rfl,ybk _,⟨_,_,_,h,hlo⟩,fun i cs hi=>⟨hl i cs hi,_,_,_,h,fun j a hj=>by
  grind [Tr.get_ofList,Af]⟩⟩
def NB (C:oA)(el:Nat):Prop:=∀y,C.tys.get el=some y->GN y=false
def NB.code{el:Nat}{z:pC}(h:NB C el)(hz:C.tys.get el=some z):cJ el z=.sz z.size:=by
 unfold cJ;rw[h z hz,yay];rfl
structure Ek (C:oA) (T el sz:Nat):Prop where
 ty:∃y,C.tys.get T=some y/\y.desc.asSlice=some el/\Nat.beq y.desc.tag 1=false
 el:∃y,C.tys.get el=some y/\y.size=sz/\rB y.zero=sz/\y.bytes<=500/\0<sz
structure sN (C:oA) (T e sz:Nat):Prop where
 ty:∃y,C.tys.get T=some y/\y.desc.asSlice=some e/\Nat.beq y.desc.tag 1=false
 el:∃y,C.tys.get e=some y/\y.size=sz/\rB y.zero=sz/\y.bytes<=500/\0<sz
 nb:NB C e
theorem KI{T el sz:Nat}(hT:sN C T el sz){l:List D}{x s:zA}(hx:mA t sz l x)(hl:l.length<1000000){n:Nat}(hn:t.get n=none)
  (hs:s=.nilslice\/∃b c m,s=.slice b 0 0 0/\t.get b=some (.cells c m none)) :
  ∃v H',nF C T T s x ⟨n,t⟩=some (v,H')/\mA H'.t sz l v/\bA t H'.t/\dD n t H'.t:=by
 obtain⟨⟨y,hy1,hy2,hy3⟩,⟨z,hz1,hz2,hz3,hz4,hz5⟩,hnb⟩:=hT;have hcode:=NB.code hnb hz1;obtain⟨cl,he,hd⟩:=hx;have hcl:=hd.length;obtain⟨hf,hlen⟩:=he.first (n:=n);have hall:=he.len
 have base:nF C T T s x ⟨n,t⟩=(match s.asSlice with
  | some s=>bif Nat.ble (s.2.2.1+cl.length) s.2.2.2 then gV C ⟨n,t⟩ z cl.length cl.flatten s else eV C ⟨n,t⟩ el z cl.length cl.flatten s
  | none=>xB (Nat.beq s.tag 5) (kT ⟨n,t⟩ el z cl.length cl.flatten)):=by
  unfold nF xU;grind [tA,jD]
 have hfl:rB cl.flatten=cl.length*sz:=by grind [vD,Uy]
 have ok:fV z 0 0 cl.length cl.flatten=true:=by
  unfold fV;have h1:Nat.blt (0+cl.length+0) 1000000000=true:=vC.2 (by omega);have h2:Nat.blt ((0+cl.length+0)*z.bytes) 1000000000=true:=vC.2 (by
   have:=ydb (show 0+cl.length+0<=1000000 by omega) hz4;omega)
  grind [vC,oC]
 have newT:∀(q:sA),bA t (t.set n q)/\dD n t (t.set n q):=fun q=>⟨fun c u hc=>by
   grind [Tr.get_set],fun c hc=>by rw[Tr.get_set,yaa hc]⟩
 rcases hs with rfl | ⟨b,c,m,rfl,hb⟩
 ·by_cases h0:cl.length=0
  ·have:cl=[]:=ycc.1 h0;subst this;refine⟨.nilslice,⟨n,t⟩,?_,⟨[],.inl ⟨rfl,rfl⟩,hd⟩,bA.refl _,dD.refl _ _⟩;rw[base];rfl
  ·refine⟨.slice n 0 cl.length cl.length,⟨n+1,t.set n (.cells (Tr.ofList cl.flatten) (rB cl.flatten) (some (cJ el z)))⟩,?_,⟨cl,Vl hall (show(t.set n _).get n=_ by rw[Tr.get_set,yab rfl]) (.inr ⟨_,rfl,by rw[Dj,hz2]⟩),tC.mono (newT _).1 _ _ hd⟩,(newT _).1,(newT _).2⟩;rw[base];simp only[zA.asSlice];show xB true (kT ⟨n,t⟩ el z cl.length cl.flatten)=_;rw[jD];unfold kT;have:Nat.beq cl.length 0=false:=by
    grind [oC]
   rw[this,cond_false,ok];rfl
 ·by_cases h0:cl.length=0
  ·have:cl=[]:=ycc.1 h0;subst this;refine⟨.slice b 0 0 0,⟨n,t⟩,?_,⟨[],.inr ⟨b,0,0,rfl,ybk _,⟨c,m,none,hb,.inl rfl⟩,fun i cs hi=>by simp at hi⟩,hd⟩,bA.refl _,dD.refl _ _⟩;rw[base];rfl
  ·refine⟨.slice n 0 cl.length cl.length,⟨n+1,t.set n (.cells (Tr.ofList cl.flatten) (rB cl.flatten) (some (cJ el z)))⟩,?_,⟨cl,Vl hall (show(t.set n _).get n=_ by rw[Tr.get_set,yab rfl]) (.inr ⟨_,rfl,by rw[Dj,hz2]⟩),tC.mono (newT _).1 _ _ hd⟩,(newT _).1,(newT _).2⟩;rw[base];simp only[zA.asSlice];have:Nat.ble (0+cl.length) 0=false:=by
    grind [rE]
   rw[this,cond_false];unfold eV;simp only[];rw[show ∀x,(!(Nat.beq 0 1&&x))=true from fun _=>rfl,jD,ok,jD];unfold aC;rw[hb,tA];simp only[sA.asCells,tA];unfold Cx;simp only[Nat.zero_mul];show ob (c.many 0 0) _=_;rw[show c.many 0 0=some [] from rfl,tA];rw[wG,yah,ybw];rfl
end
end Go.Am
namespace Go.Proofs
open Go Go.Am
variable [sC]
variable {t:Tr sA}
def el296:sN yA 240 242 1:=⟨⟨_,mN,rfl,rfl⟩,⟨_,tG,rfl,rfl,by decide,by decide⟩,fun y h=>by rw[tG]at h;cases h;rfl⟩
theorem lit0{T el:Nat}{y z:pC}(hT:yA.tys.get T=some y)(hel:y.desc.asSlice=some el)(hz:yA.tys.get el=some z)(hs:rB z.zero=z.size){b:Nat}(hb:t.get b=none) :
  ∃H',bE yA T 0 [] ⟨b,t⟩=some (.slice b 0 0 0,H')/\(∃c,H'.t.get b=some (.cells c 0 none))/\bA t H'.t:=by
 refine⟨sE ⟨b,t⟩ [] none,?_,⟨Tr.ofList [],?_⟩,?_⟩
 ·unfold bE;rw[hT,tA,hel,tA,hz,tA];have:(Nat.blt (0*z.size) 1000000&&Nat.beq (rB z.zero) z.size)=true:=by simp_all
  rw[this];rfl
 ·show(t.set b _).get b=_;rw[Tr.get_set,yab rfl];rfl
 ·intro c u hc;show(t.set b _).get c=_
  grind [Tr.get_set]
theorem za8{l:List Nat}{v:zA}{Q:dB}(hv:mA t 1 (cA .u32 l) v)(hl:l.length<1000000)
  (hQ:∀t' v',bA t t'->mA t' 1 (cA .u32 l) v'->Q v' t'):Wc yA F 296 [v] t Q:=by
 refine w296 ?_;have e:(Du .eql).f yA 240 (.tmp 3) (.const (.slice none 0 0)) v .nilslice=some (.bool (Nat.beq v.tag 5)):=by
  obtain⟨cl,h1,_⟩:=hv;rcases h1 with⟨rfl,_⟩ | ⟨b,off,cap,rfl,_⟩
  ·kernel_rfl
  ·kernel_rfl
 simp only[uB,t296,qA,e,wA,Av];split
 ·grind [cS,oC,bA.refl]
 ·intro b hb hbase;obtain⟨H1,g1,⟨c,g2⟩,g3⟩:=lit0 (t:=t) mN rfl tG rfl hb;rw[g1];simp only[wA];intro n hn _;obtain⟨u,H',g4,g5,g6,_⟩:=KI el296 (hv.mono g3) (by grind [bC]) hn (.inr ⟨b,c,0,rfl,g2⟩);rw[g4];simp only[wA];exact hQ _ _ (g3.trans g6) g5
def Fx(n:Nat):List Nat:=rD [n%4294967296,n / 4294967296]
theorem LW(n:Nat):val 4294967296 (Fx n)=n:=by grind [Fx,hO,val]
theorem ZN{n:Nat}(h:n<18446744073709551616):yB 4294967296 (Fx n):=iQ fun x hx=>by
 grind
theorem TI(n:Nat):norm (Fx n):=xP _
theorem fZ{T el:Nat}{y z:pC}{k:IntKind}(hT:yA.tys.get T=some y)(hel:y.desc.asSlice=some el)(hz:yA.tys.get el=some z)(hzero:z.zero=[.int k 0])(hs:z.size=1)(x:Nat)(hk:True){b:Nat}(hb:t.get b=none) :
  ∃H',bE yA T 1 [(0,.int k (x:Int))] ⟨b,t⟩=some (.slice b 0 1 1,H')/\eE H'.t b k [x]/\bA t H'.t:=by
 refine⟨sE ⟨b,t⟩ [.int k (x:Int)] none,?_,⟨Tr.ofList [.int k (x:Int)],?_,fun j u hj=>?_⟩,?_⟩
 ·unfold bE;rw[hT,tA,hel,tA,hz,tA,hs,hzero];rfl
 ·show(t.set b _).get b=_;rw[Tr.get_set,yab rfl];rfl
 ·grind [Tr.get_ofList]
 ·intro c u hc;show(t.set b _).get c=_
  grind [Tr.get_set]
theorem UJ{T el:Nat}{y z:pC}{k:IntKind}(hT:yA.tys.get T=some y)(hel:y.desc.asSlice=some el)(hz:yA.tys.get el=some z)(hzero:z.zero=[.int k 0])(hs:z.size=1)(x x':Nat){b:Nat}(hb:t.get b=none) :
  ∃H',bE yA T 2 [(0,.int k (x:Int)),(1,.int k (x':Int))] ⟨b,t⟩=some (.slice b 0 2 2,H')/\eE H'.t b k [x,x']/\bA t H'.t:=by
 refine⟨sE ⟨b,t⟩ [.int k (x:Int),.int k (x':Int)] none,?_,⟨Tr.ofList [.int k (x:Int),.int k (x':Int)],?_,fun j u hj=>?_⟩,?_⟩
 ·unfold bE;rw[hT,tA,hel,tA,hz,tA,hs,hzero];rfl
 ·show(t.set b _).get b=_;rw[Tr.get_set,yab rfl];rfl
 ·grind [Tr.get_ofList]
 ·intro c u hc;show(t.set b _).get c=_
  grind [Tr.get_set]
theorem OX{n:Nat}{Q:dB}(hn:n<18446744073709551616)(hQ:∀t' v',bA t t'->mA t' 1 (cA .u32 (Fx n)) v'->Q v' t'):Wc yA F 288 [.int .u64 n] t Q:=by
 refine w288 ?_;have e1:rA .u32 (n:Int)=((n%4294967296:Nat):Int):=by rw[cQ];omega
 have e2:rA .u32 (Int.fdiv (n:Int) 4294967296)=((n / 4294967296:Nat):Int):=by
  rw[show Int.fdiv (n:Int) 4294967296=((n / 4294967296:Nat):Int) from iX _ 4294967296,jW (by omega) (by omega)]
 simp only[t288,qA,e1,e2];intro b hb _;obtain⟨H',g1,g2,g3⟩:=UJ (t:=t) (k:=.u32) mN rfl tG rfl rfl (n%4294967296) (n / 4294967296) hb;rw[g1];simp only[wA];obtain⟨v',h1,h2⟩:=xZ (l:=[n%4294967296,n / 4294967296]) (by simp) (g2.all (ybk _));simp only[Cf];have h1:lB yA F 260 [.slice b 0 2 2] H'.t=some v':=h1;rw[h1];exact hQ _ _ g3 h2
theorem MR{l:List Nat}{v:zA}{b:Nat}{neg:Bool}{Q:dB}(hv:mA t 1 (cA .u32 l) v)(hl:l.length<400000)(hlt:yB 4294967296 l)(hne:l≠[])(hnorm:norm l)(hbase:yA.base<=b)(hb:t.get b=none)
  (hQ:∀t' v',bA t t'->mA t' 1 (cA .u16 (rD (zH l))) v'->Q (.agg [.bool neg,v']) t'):∀(k i:Nat) (t':Tr sA),i+k=l.length->bA t t'->eE t' b .u16 (zH (l.take i)++List.replicate (2*k) 0) →
  jp 271 2 [.bool neg,.slice b 0 (2*l.length) (2*l.length),v,.int .i64 l.length,.int .i64 i,.bool false,.nilslice] t' Q:=by
 intro k;induction k with
 | zero=>
  intro i t' hi ht ho;refine zbw ?_;rw[yca (by omega),yat,List.replicate_zero,ycd]at ho;obtain⟨m,w,rfl⟩:=eZ hne;have hw:w≠0:=by have:=hnorm (by simp);simp_all
  have hwlt:w<4294967296:=hlt w (by simp);have hul:(zH (m++[w])).length=2*(m++[w]).length:=Jg _;have hml:(m++[w]).length=m.length+1:=by simp
  have hlast:(zH (m++[w]))[2*m.length+1]?=some (w / 65536):=by
   grind [Fdzx]
  have hread:=ho.all (cap:=2*(m++[w]).length) (by omega);rw[hul]at hread;have g3:jB yA 30 (.slice b 0 (2*(m++[w]).length) (2*(m++[w]).length)) (.int .i64 ((2*m.length+1:Nat):Int))=some (.ptr b (0+(2*m.length+1)*1)):=Bo yH (by omega);rw[show 0+(2*m.length+1)*1=2*m.length+1 by omega]at g3;have g4:=ho.load hlast rL rfl;have e1:((2*(m++[w]).length:Nat):Int)-1=((2*m.length+1:Nat):Int):=by omega
  have hlen:vB (.slice b 0 (2*(m++[w]).length) (2*(m++[w]).length))=some (.int .i64 ((2*(m++[w]).length:Nat):Int)):=rfl;have hb2:2*m.length+1<1000000:=by omega
  simp (disch:=omega) only[uI,uL,uH,kD,yC,uZ,uW,Qa,qA,xC,hlen,wA,fB,e1,wrap_i64,g3,g4,gE];rw[yaa (by omega)];by_cases hz:w / 65536=0
  ·rw[yab (by omega)];obtain⟨u,g5,g6⟩:=yF.front yH hread (k:=2*m.length+1) (by grind [bC]);rw[g5];simp only[wA];have hone:vF zA.one [.bool neg,u]=true:=by
    show(bif zA.one (.bool neg)then(bif zA.one u then true else false)else false)=true;rw[g6.one];rfl
   grind [Nh,Zm,Fdzx,Jg]
  ·rw[yaa (by omega)];have hone:vF zA.one [.bool neg,.slice b 0 (2*(m++[w]).length) (2*(m++[w]).length)]=true:=rfl
   grind [Zm]
 | succ k ih=>
  intro i t' hi ht ho;obtain⟨x,hx⟩:=getElem?_of_lt (l:=l) (i:=i) (by omega);have hxlt:x<4294967296:=wH hlt hx;obtain⟨c,off,g1,g2⟩:=(hv.mono ht).idx gF hx;have htl:(l.take i).length=i:=by grind
  have hpl:(zH (l.take i)).length=2*i:=by rw[Jg,htl]
  have hlen0:(zH (l.take i)++List.replicate (2*(k+1)) 0).length=2*l.length:=by grind
  have g3:∀j,j<2*l.length->jB yA 30 (.slice b 0 (2*l.length) (2*l.length)) (.int .i64 (j:Int))=some (.ptr b j):=by
   intro j hj;have:=Bo (b:=b) (off:=0) (cap:=2*l.length) yH hj
   simp_all
  have g3a:=g3 (2*i) (by omega);have g3b:=g3 (2*i+1) (by omega);obtain⟨t1,s1,s2,s3⟩:=ho.store (C:=yA) hbase (j:=2*i) (by omega) (x%65536) rL rfl;have hs2:(zH (l.take i)++List.replicate (2*(k+1)) 0).set (2*i) (x%65536)=(zH (l.take i)++[x%65536])++List.replicate (2*k+1) 0:=by
   grind [Kb]
  rw[hs2]at s2;obtain⟨t2,s4,s5,s6⟩:=s2.store (C:=yA) hbase (j:=2*i+1) (by simp[hpl]) (x / 65536) rL rfl;have hs5:((zH (l.take i)++[x%65536])++List.replicate (2*k+1) 0).set (2*i+1) (x / 65536)=zH (l.take (i+1))++List.replicate (2*k) 0:=by
   have hq:(zH (l.take i)++[x%65536]).length=2*i+1:=by simp[hpl]
   rw[<- hq,Kb,zR hx,Fdzx];simp
  rw[hs5]at s5;have e1:rA .u16 (x:Int)=((x%65536:Nat):Int):=by rw[LJ];omega
  have e2:rA .u16 (Int.fdiv (x:Int) 65536)=((x / 65536:Nat):Int):=by
   rw[show Int.fdiv (x:Int) 65536=((x / 65536:Nat):Int) from iX _ 65536,fY (by omega) (by omega)]
  have e3:(2:Int)*(i:Int)=((2*i:Nat):Int):=by omega
  have e4:((2*i:Nat):Int)+1=((2*i+1:Nat):Int):=by omega
  refine zbw ?_;simp (disch:=omega) only[uI,uL,uH,kD,yC,uZ,uW,Qa,qA,xC,g1,g2,wA,fB,e1,e2,e3,e4,wrap_i64,g3a,g3b];rw[yab (by omega)];intro d _ _;rw[s1];simp only[wA];intro d' _ _;rw[s4];simp only[wA];have:=ih (i+1) t2 (by omega) ((ht.off hb s3).off hb s6) s5
  grind
theorem MQ{l:List Nat}{v:zA}{neg:Bool}{Q:dB}(hv:mA t 1 (cA .u32 l) v)(hl:l.length<400000)(hlt:yB 4294967296 l)
  (hQ:∀t' v',bA t t'->mA t' 1 (cA .u16 (rD (zH (rD l)))) v'->Q (.agg [.bool (if rD l=[]then false else neg),v']) t'):Wc yA F 271 [.bool neg,v] t Q:=by
 refine w271 ?_;obtain⟨u,h1,h2⟩:=xZ (l:=l) (by omega) hv;have hsl:=Ra l;simp only[uI,uZ,uW,t271,qA,Cf,h1,wA,h2.len,fB,bC,gE];by_cases h0:rD l=[]
 ·rw[yab (by grind)];simp only[if_true];have:=hQ t .nilslice (bA.refl _) (by rw[h0];exact⟨[],.inl ⟨rfl,rfl⟩,by simp[zH,rD,cA,tC]⟩)
  simp_all
 ·have hpos:0<(rD l).length:=List.length_pos_iff.2 h0;rw[yaa (by omega)];have e1:(2:Int)*((rD l).length:Int)=((2*(rD l).length:Nat):Int):=by omega
  simp (disch:=omega) only[e1,wrap_i64];intro b hb hbase;obtain⟨t',g1,g2,g3,_⟩:=vX (C:=yA) (k:=.u16) gS rfl rL rfl rfl (by decide) (n:=2*(rD l).length) (by omega) hb;rw[g1];simp only[wA];refine MR h2 (by omega) (iQ hlt) h0 (xP l) hbase hb (fun t2 v2 a b=>?_) (rD l).length 0 t' (by omega) g3 (by grind [zH])
  simp_all
end Go.Proofs
namespace Go.Proofs
open Go Go.Am
section
variable [sC]
variable {t:Tr sA}
theorem Aa{T el:Nat}(h:yF yA T el 1 false){b n cap j:Nat}(hj:j<n):jB yA T (.slice b 0 n cap) (.int .i64 (j:Int))=some (.ptr b j):=by
 have:=Bo (b:=b) (off:=0) (cap:=cap) h hj
 simp_all
theorem GW{x s:Nat}(hs:s<64)(hx:x*2^s<18446744073709551616):wS .u64 (x:Int) (s:Int)=some (.int .u64 ((x*2^s:Nat):Int)):=by
 unfold wS tZ;have:yK (s:Int)=some s:=rfl;rw[this,tA,tA];have hm:min s (IntKind.bits .u64)=s:=by show min s 64=s;omega
 rw[hm];have e:(x:Int)*Int.ofNat (2^s)=((x*2^s:Nat):Int):=by simp_all
 rw[e,rF (by omega) (by omega)]
def GV{x s:Nat}(hs:s<65):Ab .u64 (x:Int) (s:Int)=some (.int .u64 ((x / 2^s:Nat):Int)):=by
 unfold Ab tZ;have:yK (s:Int)=some s:=rfl;rw[this,tA,tA];have hm:min s (IntKind.bits .u64)=s:=by show min s 64=s;omega
 rw[hm];have e:Int.fdiv (x:Int) (Int.ofNat (2^s))=((x / 2^s:Nat):Int):=iX x (2^s);rw[e]
def SF{s:Nat}(hs:s<32):2^s<=2147483648:=yao (n:=2) (by decide) (show s<=31 by omega)
def CN{s:Nat}(hs:s<=32):2^s*2^(32-s)=4294967296:=by rw[<- Nat.pow_add,show s+(32-s)=32 by omega]
def zdk{x s:Nat}(hs:s<=32):(x*2^s%4294967296)%2^s=0:=by
 rw[<- CN hs,ybh x,Nat.mul_mod_mul_left,Nat.mul_mod_right]
theorem OY{l:List Nat}{v:zA}{b s:Nat}{Q:dB}(hv:mA t 1 (cA .u32 l) v)(hl:l.length<900000)(hlt:yB 4294967296 l)(hs:s<32)(hbase:yA.base<=b)(hb:t.get b=none)
  (hQ:∀t' r,bA t t'->dD b t t'->eE t' b .u32 r->r.length=l.length+1->yB 4294967296 r->val 4294967296 r=val 4294967296 l*2^s->Q (.slice b 0 (l.length+1) (l.length+1)) t') :
  ∀(k i:Nat) (t':Tr sA) (P:List Nat) (c:Nat),i+k=l.length->bA t t'->dD b t t'->eE t' b .u32 ((P++[c])++List.replicate k 0)->P.length=i->c<2^s->yB 4294967296 P->val 4294967296 P+4294967296^i*c=val 4294967296 (l.take i)*2^s →
  jp 297 2 [.int .i64 s,.slice b 0 (l.length+1) (l.length+1),v,.int .i64 l.length,.int .i64 i] t' Q:=by
 have hp2:=SF hs
 intro k;induction k with
 | zero=>
  intro i t' P c hi ht hoff ho hP hc hPl hval;refine zbr ?_;simp only[uL,uE,yC,uZ,Pv,qA,xC];rw[yaa (by omega)];rw[List.replicate_zero,ycd]at ho;refine hQ t' (P++[c]) ht hoff ho (by grind) (gQ hPl (by omega)) ?_;rw[pJ,hP,hval,yca (by omega)]
 | succ k ih=>
  intro i t' P c hi ht hoff ho hP hc hPl hval;obtain⟨x,hx⟩:=getElem?_of_lt (l:=l) (i:=i) (by omega);have hxlt:x<4294967296:=wH hlt hx;obtain⟨d,off,g1,g2⟩:=(hv.mono ht).idx gF hx;have hxs:x*2^s<4294967296*2^s:=Nat.mul_lt_mul_of_pos_right hxlt (Nat.pow_pos (by decide));have hxs2:x*2^s<18446744073709551616:=by
   omega
  have hlow:=zdk (x:=x) (s:=s) (by omega);have hlor:Nat.lor c (x*2^s%4294967296)=x*2^s%4294967296+c:=by
   have:=or_low (a:=x*2^s%4294967296) (b:=c) (n:=s) hc hlow
   simp_all [Nat.or_comm]
  have hsum:x*2^s%4294967296+c<4294967296:=by
   have h1:x*2^s%4294967296<4294967296:=ycy _ (by decide);have h2:(4294967296:Nat)%2^s=0:=by rw[<- CN (s:=s) (by omega),Nat.mul_mod_right]
   obtain⟨p,hp⟩:=Nat.dvd_of_mod_eq_zero hlow;obtain⟨q,hq⟩:=Nat.dvd_of_mod_eq_zero h2;have hpq:p<q:=by
    rcases yau p q with g | g
    ·exact g
    ·have:=ybv (2^s) g;omega
   have:=ybv (2^s) (show p+1<=q from hpq)
   grind
  have hhigh:x*2^s / 4294967296<2^s:=ycu (by omega);have hlen0:((P++[c])++List.replicate (k+1) 0).length=l.length+1:=by simp;omega
  have g3a:=Aa gF (b:=b) (n:=l.length+1) (cap:=l.length+1) (j:=i) (by omega);have g3b:=Aa gF (b:=b) (n:=l.length+1) (cap:=l.length+1) (j:=i+1) (by omega);have g4:=ho.load (j:=i) (x:=c) (by simp_all [ybp]) tG rfl;obtain⟨t1,s1,s2,s3⟩:=ho.store (C:=yA) hbase (j:=i) (by omega) (x*2^s%4294967296+c) tG rfl;have hs2:((P++[c])++List.replicate (k+1) 0).set i (x*2^s%4294967296+c)=(P++[x*2^s%4294967296+c])++List.replicate (k+1) 0:=by
   simp_all
  rw[hs2]at s2;obtain⟨t2,s4,s5,s6⟩:=s2.store (C:=yA) hbase (j:=i+1) (by grind) (x*2^s / 4294967296) tG rfl;have hs5:((P++[x*2^s%4294967296+c])++List.replicate (k+1) 0).set (i+1) (x*2^s / 4294967296)=((P++[x*2^s%4294967296+c])++[x*2^s / 4294967296])++List.replicate k 0:=by
   have hq:(P++[x*2^s%4294967296+c]).length=i+1:=by simp[hP]
   grind [Kb]
  rw[hs5]at s5;refine zbr ?_;have e1:rA .u32 ((x*2^s:Nat):Int)=((x*2^s%4294967296:Nat):Int):=by rw[cQ];omega
  have e2:rA .u32 (Int.fdiv ((x*2^s:Nat):Int) 4294967296)=((x*2^s / 4294967296:Nat):Int):=by
   rw[show Int.fdiv ((x*2^s:Nat):Int) 4294967296=((x*2^s / 4294967296:Nat):Int) from iX _ 4294967296];generalize x*2^s=z at hhigh ⊢;rw[jW (by omega) (by omega)]
  simp (disch:=omega) only[uL,uE,yC,uZ,Pv,qA,xC,g1,g2,wA,fB,rF,g3a,g4];rw[yab (by omega),GW (by omega) hxs2];simp only[wA,fB,e1];have e3:iH Nat.lor .u32 (c:Int) ((x*2^s%4294967296:Nat):Int)=some (.int .u32 ((x*2^s%4294967296+c:Nat):Int)):=by
   rw[tS (k:=.u32) (x:=c) (y:=x*2^s%4294967296) (show c<zG .u32 by show c<4294967296;omega) (by show x*2^s%4294967296<4294967296;omega),hlor]
  rw[e3];simp only[wA,fB];intro _ _ _;rw[s1];simp (disch:=omega) only[wA,wrap_i64];rw[show(i:Int)+1=((i+1:Nat):Int) by omega,g3b];simp only[wA,e2];intro _ _ _;rw[s4];simp only[wA];refine ih (i+1) t2 _ _ (by omega) ((ht.off hb s3).off hb s6) ((hoff.trans s3).trans s6) s5 (by simp[hP]) hhigh (gQ hPl hsum) ?_;rw[pJ,hP,zR hx,pJ,ybo,<- hval];have:(l.take i).length=i:=by simp;omega
  grind [Nat.div_add_mod]
theorem AE{l:List Nat}{v:zA}{s:Nat}{Q:dB}(hv:mA t 1 (cA .u32 l) v)(hl:l.length<900000)(hlt:yB 4294967296 l)(hs:s<32)
  (hQ:∀t' b r,bA t t'->t.get b=none->yA.base<=b->eE t' b .u32 r->r.length=l.length+1->yB 4294967296 r->val 4294967296 r=val 4294967296 l*2^s->Q (.slice b 0 (l.length+1) (l.length+1)) t'):Wc yA F 297 [v,.int .i64 s] t Q:=by
 refine w297 ?_;simp (disch:=omega) only[uI,yC,uZ,t297,qA,hv.len,wA,fB,bC,wrap_i64];intro b hb hbase;obtain⟨t',g1,g2,g3,g4⟩:=vX (C:=yA) (k:=.u32) mN rfl tG rfl rfl (by decide) (n:=l.length+1) (by omega) hb;rw[show(l.length:Int)+1=((l.length+1:Nat):Int) by omega,g1];simp only[wA];have:=OY hv hl hlt hs hbase hb (fun t' r a _ c d e f=>hQ t' b r a hb hbase c d e f) l.length 0 t' [] 0 (by omega) g3 g4 (by grind) rfl (Nat.pow_pos (by decide)) (fun x hx=>by cases hx) (by simp[val])
 exact this
theorem XJ{l:List Nat}{v:zA}{b d:Nat}{Q:dB}(hv:mA t 1 (cA .u32 l) v)(hl:l.length<900000)(hlt:yB 4294967296 l)(hd:d<4294967296)(hd0:0<d)(hbase:yA.base<=b)(hb:t.get b=none)
  (hQ:∀t' v' q r,bA t t'->mA t' 1 (cA .u32 (rD q)) v'->yB 4294967296 q->q.length=l.length->r<d->val 4294967296 l=val 4294967296 q*d+r->Q (.tup [v',.int .u32 (r:Nat)]) t') :
  ∀(i:Nat) (t':Tr sA) (q:List Nat) (r:Nat),i<=l.length->bA t t'->eE t' b .u32 (List.replicate i 0++q)->q.length=l.length-i->yB 4294967296 q->r<d->val 4294967296 (l.drop i)=val 4294967296 q*d+r →
  jp 241 2 [v,.int .u32 d,.slice b 0 l.length l.length,.int .u32 r,.int .i64 ((i:Int)-1)] t' Q:=by
 intro i;induction i with
 | zero=>
  intro t' q r _ ht ho hq hql hr hval;refine zb3 ?_;simp only[uL,uX,uZ,uW,Qi,qA,pD];rw[yaa (by omega)];rw[List.replicate_zero,yah]at ho;have hread:=ho.all (ybk _);have hqlen:q.length=l.length:=by omega
  rw[hqlen]at hread;obtain⟨v',h1,h2⟩:=xZ (l:=q) (by omega) hread;simp only[Cf,h1,wA];grind
 | succ i ih=>
  intro t' q r hi ht ho hq hql hr hval;obtain⟨x,hx⟩:=getElem?_of_lt (l:=l) (i:=i) (by omega);have hxlt:x<4294967296:=wH hlt hx;obtain⟨c,off,g1,g2⟩:=(hv.mono ht).idx gF hx;have e1:((i+1:Nat):Int)-1=(i:Int):=by omega
  have g3:=Aa gF (b:=b) (n:=l.length) (cap:=l.length) (j:=i) (by omega);have hlen0:(List.replicate (i+1) 0++q).length=l.length:=by grind
  have hdiv:=zaw (t:=t') hr hxlt hd;have hqlt:(r*4294967296+x) / d<4294967296:=AD hr hxlt;have hrlt:(r*4294967296+x)%d<d:=ycy _ hd0;obtain⟨t1,s1,s2,s3⟩:=ho.store (C:=yA) hbase (j:=i) (by omega) ((r*4294967296+x) / d) tG rfl;have hs2:(List.replicate (i+1) 0++q).set i ((r*4294967296+x) / d)=List.replicate i 0++((r*4294967296+x) / d::q):=by
   grind [List.replicate_succ',set_append_right]
  rw[hs2]at s2;rw[e1];refine zb3 ?_;simp (disch:=omega) only[uL,uX,uZ,uW,Qi,qA,pD,g1,g2,wA,fB,q259,hdiv,gI,zA.asTup,tA,g3,wrap_i64];rw[yab (by omega)];simp only[eF,yaz,yba,wA,fB];intro _ _ _;rw[s1];simp only[wA];refine ih t1 _ _ (by omega) (ht.off hb s3) s2 (by grind) ?_ hrlt ?_
  ·intro y hy;rcases ybs.1 hy with rfl | hy
   ·exact hqlt
   ·exact hql y hy
  ·rw[drop_cons' hx]
   grind [val,Nat.div_add_mod]
theorem IL{l:List Nat}{v:zA}{d:Nat}{Q:dB}(hv:mA t 1 (cA .u32 l) v)(hl:l.length<900000)(hlt:yB 4294967296 l)(hd:d<4294967296)(hd0:0<d)
  (hQ:∀t' v' q r,bA t t'->mA t' 1 (cA .u32 (rD q)) v'->yB 4294967296 q->q.length=l.length->r<d->val 4294967296 l=val 4294967296 q*d+r->Q (.tup [v',.int .u32 (r:Nat)]) t'):Wc yA F 241 [v,.int .u32 d] t Q:=by
 refine w241 ?_;simp (disch:=omega) only[uI,uZ,uW,t241,qA,hv.len,wA,fB,bC,wrap_i64];intro b hb hbase;obtain⟨t',g1,g2,g3,g4⟩:=vX (C:=yA) (k:=.u32) mN rfl tG rfl rfl (by decide) (n:=l.length) (by omega) hb;rw[g1];simp only[wA];exact XJ hv hl hlt hd hd0 hbase hb hQ l.length t' [] 0 (ybk _) g3 (by simp_all) (by simp) (fun x hx=>by cases hx) hd0 (by simp[val])
end
section
variable [sC]
theorem XL{l:List Nat}{y:zA}{box:Nat}{v:zA}{Q:dB}{I:Nat->Tr sA->Prop}(hl:l.length<1000000)
  (hr:∀k t,I k t->aA yA 240 ⟨0,t⟩ (.ptr box 0)=some v/\mA t 1 (cA .u32 l) v)
  (hy:∀k x t,l[k]?=some x->I (k+1) t->∀R:dB,(∀t',I k t'->R (.bool true) t')->oE (pS y [.int .u32 (x:Nat)]) fun p=>Wq yA F jH p.1 p.2 t R)
  (hQ:∀t,I 0 t->Q (.tup []) t):∀(k:Nat) (t:Tr sA),k<=l.length->I k t->jp 261 2 [y,.ptr box 0,.int .i64 ((k:Int)-1)] t Q:=by
 intro k;induction k with
 | zero=>
  intro t _ h;refine zby ?_;simp only[Qc,qA,pD];simp_all
 | succ k ih=>
  intro t hk h;obtain⟨g0,hv⟩:=hr _ _ h;obtain⟨x,hx⟩:=getElem?_of_lt (l:=l) (i:=k) (by omega);obtain⟨c,off,g1,g2⟩:=hv.idx gF hx;have e1:((k+1:Nat):Int)-1=(k:Int):=by omega
  rw[e1];refine zby ?_;simp (disch:=omega) only[Qc,qA,pD,g0,g1,g2,wA,fB,wrap_i64];rw[yab (by omega)];refine hy k x t hx h _ fun t' ht'=>?_
  grind [zA.asBool,wA]
def zeo{l:List Nat}{y:zA}{box:Nat}{v:zA}{Q:dB}{t:Tr sA}{I:Nat->Tr sA->Prop}(hl:l.length<1000000)
  (hr:∀k t,I k t->aA yA 240 ⟨0,t⟩ (.ptr box 0)=some v/\mA t 1 (cA .u32 l) v)
  (hy:∀k x t,l[k]?=some x->I (k+1) t->∀R:dB,(∀t',I k t'->R (.bool true) t')->oE (pS y [.int .u32 (x:Nat)]) fun p=>Wq yA F jH p.1 p.2 t R)
  (hQ:∀t,I 0 t->Q (.tup []) t) (h:I l.length t):Wc yA F 261 [y,.ptr box 0] t Q:=by
 obtain⟨g0,hv⟩:=hr _ _ h;refine w261 ?_;simp (disch:=omega) only[t261,qA,g0,hv.len,bC,wA,fB,wrap_i64];exact XL hl hr hy hQ l.length t (ybk _) h
end
end Go.Proofs
namespace Go.Am
open Go Go.RowKit
section
variable {t tf:Tr sA}{C:oA}
theorem fK{n:Nat}(hn:t.get n=none)(q:sA):bA t (t.set n q)/\dD n t (t.set n q):=
 ⟨fun c u hc=>by grind [Tr.get_set],fun c hc=>by rw[Tr.get_set,yaa hc]⟩
theorem XF{sz n:Nat}{cl:List (List zA)}{t':Tr sA}{lo:Option Lo}(hl:∀(i:Nat) cs,cl[i]?=some cs->cs.length=sz)(h:t'.get n=some (.cells (Tr.ofList cl.flatten) (rB cl.flatten) lo))(hlo:lo=none\/∃x,lo=some x/\x.es=sz){k:Nat}(hk:cl.length=k):vI t' sz (.slice n 0 k k) cl:=by
 grind [Vl]
theorem Lr{T el sz n:Nat}{y z:pC}{ps:List (Nat × zA)}{cl:List (List zA)}(hT:C.tys.get T=some y)(hel:y.desc.asSlice=some el)(hz:C.tys.get el=some z)(hs:z.size=sz)(h0:rB z.zero=sz)(hn:n*sz<1000000)
  (hfill:yM (fun i=>some (i*sz,sz)) ps (pI z.zero n)=some cl.flatten) (hcl:∀(i:Nat) cs,cl[i]?=some cs->cs.length=sz) (hlen:cl.length=n) {b:Nat} (hb:t.get b=none) :
  ∃t',bE C T n ps ⟨b,t⟩=some (.slice b 0 n n,⟨b+1,t'⟩)/\vI t' sz (.slice b 0 n n) cl/\bA t t'/\dD b t t':=by
 refine⟨t.set b (.cells (Tr.ofList cl.flatten) (rB cl.flatten) none),?_,XF hcl (by rw[Tr.get_set,yab rfl]) (.inl rfl) hlen,(fK hb _).1,(fK hb _).2⟩;unfold bE;rw[hT,tA,hel,tA,hz,tA];have:(Nat.blt (n*z.size) 1000000&&Nat.beq (rB z.zero) z.size)=true:=by
  simp_all
 rw[this,jD,hs,hfill];rfl
def xG(cd:Lo)(base:Nat)(tf t:Tr sA)(sz:Nat)(l:List D)(v:zA):Prop:=
 (v=.nilslice/\l=[])\/∃b cl c,v=.slice b 0 l.length l.length/\base<=b/\tf.get b=none/\t.get b=some (.cells c (l.length*sz) (some cd)) ∧
  (∀(i:Nat) cs,cl[i]?=some cs->cs.length=sz/\∀(j:Nat) a,cs[j]?=some a->c.get (i*sz+j)=some a)/\tC tf l cl
abbrev pY(base:Nat)(tf t:Tr sA)(sz:Nat)(l:List D)(v:zA):Prop:=xG (.sz sz) base tf t sz l v
def dM(v:zA)(b:Nat):Prop:=∃o n c,v=.slice b o n c
theorem Uq{b:Nat}:¬ dM .nilslice b:=fun⟨_,_,_,h⟩=>by cases h
theorem bZ{b c o n k:Nat}:dM (.slice b o n k) c ↔ c=b:=⟨fun⟨_,_,_,h⟩=>by grind,fun h=>by subst h;exact⟨_,_,_,rfl⟩⟩
theorem xG.read{cd:Lo}{base sz:Nat}{l:List D}{v:zA}(hcd:cd.es=sz)(h:xG cd base tf t sz l v)(ht:bA tf t):mA t sz l v:=by
 rcases h with⟨rfl,rfl⟩ | ⟨b,cl,c,rfl,_,_,h1,h2,h3⟩
 ·exact⟨[],.inl ⟨rfl,rfl⟩,aJ.2 rfl⟩
 ·have hlen:=h3.length;refine⟨cl,.inr ⟨b,0,l.length,by rw[hlen],by omega,⟨c,_,_,h1,.inr ⟨_,rfl,hcd⟩⟩,fun i cs hi=>⟨(h2 i cs hi).1,c,_,_,h1,fun j a hj=>?_⟩⟩,tC.mono ht _ _ h3⟩
  simp_all
theorem xG.len{cd:Lo}{base sz:Nat}{l:List D}{v:zA}(h:xG cd base tf t sz l v):vB v=some (.int .i64 (l.length:Int)):=by
 rcases h with⟨rfl,rfl⟩ | ⟨b,cl,c,rfl,_⟩
 ·rfl
 ·rfl
theorem xG.none{cd:Lo}{base sz:Nat}{l:List D}{v:zA}(h:xG cd base tf t sz l v){b:Nat}(hb:dM v b):tf.get b=none/\base<=b/\∃y,t.get b=some y:=by
 rcases h with⟨rfl,rfl⟩ | ⟨c,cl,x,rfl,h1,h2,h3,_⟩
 all_goals grind [Uq,bZ]
theorem KH{T U el sz:Nat}{cd:Lo}(hT:Ek C T el sz)(hU:∃u,C.tys.get U=some u/\Nat.beq u.desc.tag 1=false)(hcd:∀z,C.tys.get el=some z->cJ el z=cd){l m:List D}{v x:zA}{cm:List (List zA)}(hv:xG cd C.base tf t sz l v)(hall:∀(i:Nat) cs,cm[i]?=some cs->cs.length=sz)(hx:∀n,nP ⟨n,t⟩ sz cm.length x=some cm.flatten/\rV x=some cm.length)(hm:tC tf m cm)(hone:∀a∈cm.flatten,zA.one a=true)(hpos:0<m.length)(hl:l.length+m.length<400000){n:Nat}(hn:t.get n=none)(hbase:C.base<=n)(ht:bA tf t) :
  ∃t',nF C T U v x ⟨n,t⟩=some (.slice n 0 (l.length+m.length) (l.length+m.length),⟨n+1,t'⟩)/\xG cd C.base tf t' sz (l++m) (.slice n 0 (l.length+m.length) (l.length+m.length))/\bA tf t'/\(∀c,c≠n->¬ dM v c->t'.get c=t.get c):=by
 obtain⟨⟨y,hy1,hy2,hy3⟩,⟨z,hz1,hz2,hz3,hz4,hz5⟩⟩:=hT;have hcode:=hcd z hz1;have hcm:=hm.length;obtain⟨hf,hlen⟩:=hx n;obtain⟨u,hu1,hu2⟩:=hU;have hflat:=Uy hall;have hfl:rB cm.flatten=cm.length*sz:=by grind [vD]
 have hfn:tf.get n=none:=by
  cases hq:tf.get n with
  | none=>rfl
  | some u=>rw[ht _ _ hq]at hn;cases hn
 have base:nF C T U v x ⟨n,t⟩=(match v.asSlice with
  | some s=>bif Nat.ble (s.2.2.1+cm.length) s.2.2.2 then gV C ⟨n,t⟩ z cm.length cm.flatten s else eV C ⟨n,t⟩ el z cm.length cm.flatten s
  | none=>xB (Nat.beq v.tag 5) (kT ⟨n,t⟩ el z cm.length cm.flatten)):=by
  unfold nF xU;grind [tA,jD]
 have ok:fV z l.length l.length cm.length cm.flatten=true:=by
  unfold fV;have h1:Nat.blt (l.length+cm.length+l.length) 1000000000=true:=vC.2 (by omega);have h2:Nat.blt ((l.length+cm.length+l.length)*z.bytes) 1000000000=true:=vC.2 (by
   have:=ydb (show l.length+cm.length+l.length<=800000 by omega) hz4;omega)
  grind [vC,oC]
 rcases hv with⟨rfl,rfl⟩ | ⟨b,cl,c,rfl,hb0,hb1,hb2,hb3,hb4⟩
 ·refine⟨t.set n (.cells (Tr.ofList cm.flatten) (rB cm.flatten) (some cd)),?_,.inr ⟨n,cm,Tr.ofList cm.flatten,by simp,hbase,hfn,?_,fun i cs hi=>⟨hall i cs hi,fun j a hj=>?_⟩,by simp_all⟩,?_,fun c hc _=>(fK hn _).2 c hc⟩
  ·rw[base];simp only[zA.asSlice];show xB true (kT ⟨n,t⟩ el z cm.length cm.flatten)=_;rw[jD];unfold kT;have:Nat.beq cm.length 0=false:=by
    grind [oC]
   have ok:fV z 0 0 cm.length cm.flatten=true:=ok;rw[this,cond_false,ok,jD,hcm,hcode];simp only[ybx,ybw];rfl
  ·grind [Tr.get_set]
  ·grind [Tr.get_ofList,Af]
  ·exact ht.trans (fK hn _).1
 ·have hcl:=hb4.length;have hbn:b≠n:=by grind
  refine⟨(t.del b).set n (.cells (c.setMany cm.flatten (l.length*z.size)) ((l.length+cm.length)*z.size) (some cd)),?_,.inr ⟨n,cl++cm,c.setMany cm.flatten (l.length*z.size),by simp,hbase,hfn,?_,fun i cs hi=>?_,?_⟩,fun k u hk=>?_,fun k hk1 hk2=>?_⟩
  ·rw[base];simp only[zA.asSlice];have:Nat.ble (l.length+cm.length) l.length=false:=by
    grind [rE]
   rw[this,cond_false];unfold eV;simp only[];rw[show ∀x,(!(Nat.beq 0 1&&x))=true from fun _=>rfl,jD,ok,jD];unfold aC;rw[hb2,tA];simp only[sA.asCells,tA];unfold Cy;simp only[];have g1:loEq cd (cJ el z)=true:=by grind [DY]
   have g2:Nat.ble (l.length*z.size) (l.length*sz)=true:=rE.2 (by simp_all);have g3:Nat.ble (l.length*sz) ((l.length+cm.length)*z.size)=true:=rE.2 (by grind);have g4:vF zA.one cm.flatten=true:=by grind [aI]
   have g5:(!Nat.blt b C.base)=true:=by
    grind [vC]
   rw[g1,g2,g3,g4,g5];simp_all
  ·rw[Tr.get_set,yab rfl,hz2,hcm,ybg]
  ·rw[List.getElem?_append]at hi;split at hi
   ·rename_i hlt;obtain⟨k1,k2⟩:=hb3 i cs hi;refine⟨k1,fun j a hj=>?_⟩;have hjl:j<sz:=by grind
    have:i*sz+j<l.length*sz:=by
     have:=ybi sz (show i+1<=l.length by omega)
     grind
    grind [Tr.get_setMany]
   ·rename_i hge;have k1:=hall _ cs hi;refine⟨k1,fun j a hj=>?_⟩;have hf1:=Af hall _ j cs a hi hj;have hlt:=(ybc.1 hf1).1;have e:i*sz=l.length*sz+(i-cl.length)*sz:=by rw[<- ybo];simp_all
    grind [Tr.get_setMany]
  ·have app:∀ {l m:List D} {cl cm:List (List zA)},tC tf l cl->tC tf m cm->tC tf (l++m) (cl++cm):=by
    intro l;induction l with
    | nil=>grind [aJ]
    | cons d l ih=>
     grind [tJ]
   simp_all
  ·have h1:k≠b:=by grind
   have h2:k≠n:=by grind
   rw[Tr.get_set,yaa h2,Tr.get_del,yaa h1];exact ht _ _ hk
  grind [Tr.get_set,Tr.get_del,bZ]
def ZG{T el sz:Nat}{cd:Lo}(hT:Ek C T el sz)(hcd:∀z,C.tys.get el=some z->cJ el z=cd){l m:List D}{v x:zA}{cm:List (List zA)}(hv:xG cd C.base tf t sz l v)(hx:vI t sz x cm)(hm:tC tf m cm)(hone:∀a∈cm.flatten,zA.one a=true)(hpos:0<m.length)(hl:l.length+m.length<400000){n:Nat}(hn:t.get n=none)(hbase:C.base<=n)(ht:bA tf t) :
  ∃t',nF C T T v x ⟨n,t⟩=some (.slice n 0 (l.length+m.length) (l.length+m.length),⟨n+1,t'⟩)/\xG cd C.base tf t' sz (l++m) (.slice n 0 (l.length+m.length) (l.length+m.length))/\bA tf t'/\(∀c,c≠n->¬ dM v c->t'.get c=t.get c):=by
 obtain⟨y,hy1,hy2,hy3⟩:=hT.ty;exact KH hT ⟨y,hy1,hy3⟩ hcd hv hx.len (fun n=>hx.first (n:=n)) hm hone hpos hl hn hbase ht
theorem xG.freeze{cd:Lo}{base sz:Nat}{l:List D}{v:zA}(hcd:cd.es=sz)(h:xG cd base tf t sz l v)(ht:bA tf t):∃tf',bA tf tf'/\bA tf' t/\mA tf' sz l v/\∀b,¬ dM v b->tf'.get b=tf.get b:=by
 rcases h with⟨rfl,rfl⟩ | ⟨b,cl,c,rfl,h0,h1,h2,h3,h4⟩
 ·exact⟨tf,bA.refl _,ht,⟨[],.inl ⟨rfl,rfl⟩,aJ.2 rfl⟩,fun _ _=>rfl⟩
 ·have hlen:=h4.length;refine⟨tf.set b (.cells c (l.length*sz) (some cd)),(fK h1 _).1,fun k u hk=>?_,⟨cl,.inr ⟨b,0,l.length,by rw[hlen],by omega,⟨c,_,_,by rw[Tr.get_set,yab rfl],.inr ⟨_,rfl,hcd⟩⟩,fun i cs hi=>⟨(h3 i cs hi).1,c,_,_,(by rw[Tr.get_set,yab rfl]),fun j a hj=>?_⟩⟩,tC.mono (fK h1 _).1 _ _ h4⟩,fun k hk=>by rw[Tr.get_set,yaa (fun e=>hk (bZ.2 e))]⟩
  ·rw[Tr.get_set]at hk;split at hk
   ·simp_all
   ·exact ht _ _ hk
  simp_all
theorem pY.read{base sz:Nat}{l:List D}{v:zA}(h:pY base tf t sz l v)(ht:bA tf t):mA t sz l v:=xG.read rfl h ht
end
end Go.Am
namespace Go.Am
open Go Go.RowKit
section
def dE (t:Tr sA)(b:Nat)(lo:Option Lo)(cs:List zA):Prop:=∃c,t.get b=some (.cells c cs.length lo)/\∀(j:Nat) a,cs[j]?=some a->c.get j=some a
def bU(cs:List zA)(j:Nat)(l:List zA):List zA:=cs.take j++(l++cs.drop (j+l.length))
theorem SQ{cs l:List zA}{j:Nat}(h:j+l.length<=cs.length):(bU cs j l).length=cs.length:=by
 grind [bU]
theorem CW{cs l:List zA}{j:Nat}(h:j+l.length<=cs.length)(k:Nat):(bU cs j l)[k]?=if j<=k/\k<j+l.length then l[k-j]? else cs[k]?:=by
 grind [bU]
section
variable {t tf:Tr sA}{C:oA}{b:Nat}{lo:Option Lo}{cs:List zA}
theorem dE.at(h:dE t b lo cs):At t b 0 cs:=by
 obtain⟨c,h1,h2⟩:=h;exact⟨c,_,_,h1,fun j a hj=>by simp_all⟩
theorem dE.off(h:dE t b lo cs){t':Tr sA}(k:t'.get b=t.get b):dE t' b lo cs:=by
 obtain⟨c,h1,h2⟩:=h;exact⟨c,by simp_all,h2⟩
theorem dE.load1(h:dE t b lo cs){j:Nat}{a:zA}{ty:Nat}{y:pC}(hy:C.tys.get ty=some y)(ha:y.desc.isAgg=false)(hj:cs[j]?=some a):aA C ty ⟨0,t⟩ (.ptr b j)=some a:=by
 have:=h.at.load1 hy ha hj
 simp_all
theorem dE.store(h:dE t b lo cs)(hb:C.base<=b){j T:Nat}{y:pC}{v:zA}(hT:C.tys.get T=some y)(hl:v.cells.length=y.size)(hj:j+v.cells.length<=cs.length)(hone:vF zA.one v.cells=true) :
  ∃t',(∀n,kE C T (.ptr b j) v ⟨n,t⟩=some (lD,⟨n,t'⟩))/\dE t' b lo (bU cs j v.cells)/\dD b t t':=by
 obtain⟨c,h1,h2⟩:=h;refine⟨t.set b (.cells (c.setMany v.cells j) cs.length lo),fun n=>?_,⟨c.setMany v.cells j,?_,fun k a hk=>?_⟩,fun d hd=>by rw[Tr.get_set,yaa hd]⟩
 ·unfold kE;rw[hT,tA];simp only[zA.asPtr,tA];have e1:Nat.beq (rB v.cells) y.size=true:=by grind [vD,oC]
  rw[e1,jD];unfold xI aC;have e2:(!Nat.blt b C.base)=true:=by
   grind [vC]
  rw[e2,jD,h1,tA];simp only[sA.asCells,tA];have e3:Nat.ble (j+rB v.cells) cs.length=true:=by simp_all
  rw[e3,hone];rfl
 all_goals grind [Tr.get_set,SQ,CW,Tr.get_setMany]
theorem dE.store1(h:dE t b lo cs)(hb:C.base<=b){j T:Nat}{y:pC}{v:zA}(hT:C.tys.get T=some y)(hs:y.size=1)(hv:v.cells=[v])(hone:zA.one v=true)(hj:j<cs.length) :
  ∃t',(∀n,kE C T (.ptr b j) v ⟨n,t⟩=some (lD,⟨n,t'⟩))/\dE t' b lo (cs.set j v)/\dD b t t':=by
 obtain⟨t',h1,h2,h3⟩:=h.store hb hT (v:=v) (j:=j) (by simp_all) (by grind) (by rw[hv];show(bif zA.one v then true else false)=true;simp_all);refine⟨t',h1,?_,h3⟩;have e:bU cs j v.cells=cs.set j v:=by
  rw[hv];apply List.ext_getElem?
  grind [CW]
 simp_all
theorem iZ{b:Nat}(hb:t.get b=none)(cs:List zA)(lo:Option Lo):∃t',sE ⟨b,t⟩ cs lo=⟨b+1,t'⟩/\dE t' b lo cs/\bA t t'/\dD b t t':=
 ⟨t.set b (.cells (Tr.ofList cs) (rB cs) lo),rfl,⟨Tr.ofList cs,by rw[Tr.get_set,yab rfl,vD],fun j a hj=>by grind [Tr.get_ofList]⟩,(fK hb _).1,(fK hb _).2⟩
def Wi{b T:Nat}{y:pC}(hT:C.tys.get T=some y)(hb:t.get b=none):∃t',mU C T ⟨b,t⟩=some (.ptr b 0,⟨b+1,t'⟩)/\dE t' b none y.zero/\bA t t'/\dD b t t':=by
 obtain⟨t',h1,h2,h3,h4⟩:=iZ hb y.zero none;refine⟨t',?_,h2,h3,h4⟩;unfold mU;rw[hT,tA,<- h1]
end
end
section
structure iG where
 blks:List Nat
 ok:Tr sA->Tr sA->Prop
 keep:∀ {tf t tf' t':Tr sA},ok tf t->bA tf tf'->(∀k∈blks,t'.get k=t.get k/\tf'.get k=none)->ok tf' t'
 live:∀ {tf t:Tr sA},ok tf t->∀k∈blks,∃y,t.get k=some y
structure vE (base:Nat) (tf t:Tr sA) (l:List iG):Prop where
 tle:bA tf t
 nodup:(l.flatMap iG.blks).Nodup
 ok:∀o∈l,o.ok tf t
 low:∀k∈l.flatMap iG.blks,base<=k/\tf.get k=none
section
variable {base:Nat}{tf t:Tr sA}{l A B:List iG}{o o':iG}
def vE.live(h:vE base tf t l){k:Nat}(hk:k∈l.flatMap iG.blks):∃y,t.get k=some y:=by
 obtain⟨o,ho,hk⟩:=List.mem_flatMap.1 hk;exact o.live (h.ok o ho) k hk
theorem vE.fresh(h:vE base tf t l){n:Nat}(hn:t.get n=none):n∉l.flatMap iG.blks:=by
 intro hm;obtain⟨y,hy⟩:=h.live hm
 simp_all
theorem vE.tfn(h:vE base tf t l){n:Nat}(hn:t.get n=none):tf.get n=none:=by
 cases hq:tf.get n with
 | none=>rfl
 | some y=>have:=h.tle _ _ hq;simp_all
theorem vE.keep(h:vE base tf t l){tf' t':Tr sA}(hf:bA tf tf')(ht:bA tf' t')(hk:∀k∈l.flatMap iG.blks,t'.get k=t.get k/\tf'.get k=none):vE base tf' t' l:=
 ⟨ht,h.nodup,fun o ho=>o.keep (h.ok o ho) hf fun k hk'=>hk k (List.mem_flatMap.2 ⟨o,ho,hk'⟩),fun k hk'=>⟨(h.low k hk').1,(hk k hk').2⟩⟩
theorem vE.junk(h:vE base tf t l){n:Nat}{t':Tr sA}(hn:t.get n=none)(ho:dD n t t'):vE base tf t' l:=
 h.keep (bA.refl _) (h.tle.off (h.tfn hn) ho) fun k hk=>⟨ho k (fun e:k=n=>h.fresh hn (e ▸ hk)),(h.low k hk).2⟩
theorem vE.froze(h:vE base tf t l){n:Nat}{y:sA}(hn:n∉l.flatMap iG.blks)(hy:t.get n=some y)(hf:tf.get n=none):vE base (tf.set n y) t l/\bA tf (tf.set n y):=by
 have h1:=(fK (t:=tf) hf y).1;refine⟨h.keep h1 (fun k u hk=>?_) fun k hk=>⟨rfl,?_⟩,h1⟩
 ·rw[Tr.get_set]at hk;split at hk
  ·simp_all
  ·exact h.tle _ _ hk
 ·rw[Tr.get_set,yaa (fun e:k=n=>hn (e ▸ hk))];exact(h.low k hk).2
def Mw:(A++o::B).flatMap iG.blks=A.flatMap iG.blks++(o.blks++B.flatMap iG.blks):=by simp
theorem vE.upd(h:vE base tf t (A++o::B)){t':Tr sA}(hk:∀k,k∉o.blks->k∉o'.blks->t'.get k=t.get k)(hn:∀k∈o'.blks,k∈o.blks\/(t.get k=none/\base<=k))(hok:o'.ok tf t')(hnd:o'.blks.Nodup)(ht:bA tf t'):vE base tf t' (A++o'::B):=by
 have hd:=h.nodup;rw[Mw]at hd;rw[List.nodup_append]at hd;obtain⟨d1,d2,d3⟩:=hd;rw[List.nodup_append]at d2;obtain⟨d4,d5,d6⟩:=d2;have oth:∀k,k∈A.flatMap iG.blks\/k∈B.flatMap iG.blks->k∉o.blks/\k∉o'.blks/\t'.get k=t.get k/\base<=k/\tf.get k=none:=by
  intro k hk';have hm:k∈(A++o::B).flatMap iG.blks:=by rw[Mw];simp only[yaf];rcases hk' with h | h<;>simp[h]
  have h1:k∉o.blks:=fun hc=>by
   grind
  have h2:k∉o'.blks:=fun hc=>by
   rcases hn k hc with h' | h'
   ·grind
   ·obtain⟨y,hy⟩:=h.live hm
    simp_all
  exact⟨h1,h2,hk k h1 h2,h.low k hm⟩
 have mem:∀k,k∈(A++o'::B).flatMap iG.blks->(k∈A.flatMap iG.blks\/k∈B.flatMap iG.blks)\/k∈o'.blks:=by
  grind
 refine⟨ht,?_,fun p hp=>?_,fun k hk'=>?_⟩
 ·grind
 ·have hp':p∈A\/p=o'\/p∈B:=by simp_all
  rcases hp' with h' | h' | h'
  ·exact p.keep (h.ok p (by simp[h'])) (bA.refl _) fun k hk'=>by
    grind
  ·simp_all
  ·exact p.keep (h.ok p (by simp[h'])) (bA.refl _) fun k hk'=>by
    grind
 ·rcases mem k hk' with h' | h'
  ·simp_all
  ·rcases hn k h' with h'' | h''
   ·exact h.low k (by simp_all)
   ·exact⟨h''.2,h.tfn h''.1⟩
def Lh:iG:=⟨[],fun _ _=>True,fun _ _ _=>trivial,fun _ _ h=>by cases h⟩
theorem vE.add(h:vE base tf t (A++B)){t':Tr sA}(hk:∀k,k∉o'.blks->t'.get k=t.get k)(hn:∀k∈o'.blks,t.get k=none/\base<=k)(hok:o'.ok tf t')(hnd:o'.blks.Nodup)(ht:bA tf t'):vE base tf t' (A++o'::B):=by
 have e:vE base tf t (A++Lh::B):=by
  have hm:(A++Lh::B).flatMap iG.blks=(A++B).flatMap iG.blks:=by simp[Lh]
  refine⟨h.tle,by rw[hm];exact h.nodup,fun o ho=>?_,fun k hk=>h.low k (by simp_all)⟩;have:o∈A\/o=Lh\/o∈B:=by simp_all
  rcases this with h' | h' | h'
  ·exact h.ok o (by simp[h'])
  ·subst h';trivial
  ·exact h.ok o (by simp[h'])
 exact e.upd (fun k _ h2=>hk k h2) (fun k hk=>.inr (hn k hk)) hok hnd ht
theorem vE.drop(h:vE base tf t (A++o::B)):vE base tf t (A++B):=by
 have hd:=h.nodup;rw[Mw]at hd;refine⟨h.tle,?_,fun p hp=>h.ok p (by rcases yaf.1 hp with h | h<;>simp[h]),fun k hk=>h.low k (by rw[Mw];rw[List.flatMap_append]at hk;rcases yaf.1 hk with h | h<;>simp[h])⟩
 grind
theorem vE.notin(h:vE base tf t (A++o::B)){k:Nat}(hk:k∈o.blks):k∉(A++B).flatMap iG.blks:=by
 have hd:=h.nodup
 grind
end
end
section
section
variable {t tf:Tr sA}{C:oA}
def Dq(l:List Nat):List zA:=l.map fun(n:Nat)=>zA.int .u8 (n:Int)
theorem IZ{S Dt b k cap el:Nat}{cs:List zA}{lo:Option Lo}{l:List Nat}{yS yD yE:pC}(hS:C.tys.get S=some yS)(hD:C.tys.get Dt=some yD)(h1:yD.desc.asInt=none)(h2:yD.desc.isString=true)(h3:yS.desc.asSlice=some el)(h4:C.tys.get el=some yE)(h5:yE.desc.asInt=some .u8)
  (hc:dE t b lo cs) (hk:l.length=k) (hl:∀(j:Nat) x,l[j]?=some x->cs[j]?=some (.int .u8 (x:Int))) (hlt:yB 256 l):nJ C S Dt ⟨0,t⟩ (.slice b 0 k cap)=some (.str l):=by
 obtain⟨c,g1,g2⟩:=hc;unfold nJ tO;rw[hS,tA,hD,tA,h1];simp only[];rw[h2,jD];have e1:Nat.beq (zA.slice b 0 k cap).tag 2=false:=rfl;rw[e1,cond_false,h3,tA,h4,tA,h5,tA,fJ.2 rfl,jD];unfold An;simp only[zA.asSlice];unfold aC;rw[g1,tA];simp only[sA.asCells,tA];have hm:∀(l:List Nat) (off:Nat),(∀(j:Nat) x,l[j]?=some x->c.get (off+j)=some (.int .u8 (x:Int)))->c.many l.length off=some (Dq l):=by
  intro l;induction l with
  | nil=>intro off _;rfl
  | cons x l ih=>
   intro off h;rw[ybn,Tr.many_succ];have:=h 0 x rfl;rw[yct]at this;rw[this,tA,ih (off+1) (fun j y hj=>by rw[show off+1+j=off+(j+1) by omega];simp_all),tA];rfl
 subst hk;rw[hm l 0 (fun j x hj=>by simp_all),tA];have hb:∀(l:List Nat),yB 256 l->aF jQ (Dq l)=some l:=by
  intro l;induction l with
  | nil=>intro _;rfl
  | cons x l ih=>
   intro h;have e:jQ (.int .u8 (x:Int))=some x:=by
    unfold jQ;have e1:yK (x:Int)=some x:=rfl;simp only[zA.asIntK,tA];rw[fJ.2 rfl,jD,e1,tA,vC.2 (h x (by simp))];rfl
   show aF jQ (.int .u8 (x:Int)::Dq l)=_;rw[dL,e,tA,ih fun y hy=>h y (by simp[hy]),tA]
 rw[hb l hlt,tA]
end
end
end Go.Am
namespace Go.Am
open Go
section
variable {C:oA}{t tf:Tr sA}
def sO(k:IntKind)(l:List Nat):List (List zA):=l.map fun(x:Nat)=>[zA.int k (x:Int)]
theorem sY{k:IntKind}:∀ {l:List Nat} {cl:List (List zA)},tC t (cA k l) cl ↔ cl=sO k l
 | [],cl=>by
  show tC t [] cl ↔ cl=[];exact aJ
 | x::l,cl=>by
  show tC t (.int k (x:Int)::cA k l) cl ↔ cl=[.int k (x:Int)]::sO k l;rw[tJ];constructor
  ·rintro⟨c,r,rfl,h1,h2⟩;rw[oW]at h1;rw[h1,sY.1 h2]
  ·rintro rfl;exact⟨_,_,rfl,oW.2 rfl,sY.2 rfl⟩
def Nk{k:IntKind}:∀(l:List Nat),(sO k l).flatten=l.map fun(x:Nat)=>zA.int k (x:Int)
 | []=>rfl
 | x::l=>by
  show [zA.int k (x:Int)]++(sO k l).flatten=_;rw[Nk l];rfl
theorem JL{k:IntKind}{l:List Nat}:(sO k l).length=l.length:=by simp[sO]
theorem YH{k:IntKind}{l:List Nat}(i:Nat)(cs:List zA)(h:(sO k l)[i]?=some cs):cs.length=1:=by
 grind [sO]
def YR(l:List Nat)(h:yB 256 l):aF jQ (Dq l)=some l:=by
 induction l with
 | nil=>rfl
 | cons x l ih=>
  have e:jQ (.int .u8 (x:Int))=some x:=by
   unfold jQ;have e1:yK (x:Int)=some x:=rfl;simp only[zA.asIntK,tA];rw[fJ.2 rfl,jD,e1,tA,vC.2 (h x (by simp))];rfl
  show aF jQ (.int .u8 (x:Int)::Dq l)=_;rw[dL,e,tA,ih fun y hy=>h y (by simp[hy]),tA]
theorem IY{S Dt el:Nat}{l:List Nat}{v:zA}{yS yD yE:pC}(hS:C.tys.get S=some yS)(hD:C.tys.get Dt=some yD)(h1:yD.desc.asInt=none)(h2:yD.desc.isString=true)(h3:yS.desc.asSlice=some el)(h4:C.tys.get el=some yE)(h5:yE.desc.asInt=some .u8)
  (hv:mA t 1 (cA .u8 l) v) (hlt:yB 256 l):nJ C S Dt ⟨0,t⟩ v=some (.str l):=by
 obtain⟨cl,g1,g2⟩:=hv;rw[sY]at g2;subst g2;have hf:=(g1.first (n:=0)).1;have htag:Nat.beq v.tag 2=false:=by
  rcases g1 with⟨rfl,_⟩ | ⟨b,off,cap,rfl,_⟩<;>rfl
 unfold nJ tO;rw[hS,tA,hD,tA,h1];simp only[];rw[h2,jD,htag,cond_false,h3,tA,h4,tA,h5,tA,fJ.2 rfl,jD];unfold An;rcases g1 with⟨rfl,hn⟩ | ⟨b,off,cap,rfl,_⟩
 ·have:l=[]:=by
   grind [JL]
  subst this;rfl
 ·unfold nP at hf;simp only[zA.asSlice,Nat.mul_one]at hf ⊢;rw[uA]at hf;obtain⟨c,hc,hf⟩:=hf;rw[hc,tA,hf,tA,Nk];have:=YR l hlt;unfold Dq at this;rw[this,tA]
theorem WE{n k:Nat}{l:List Nat}(h:l.length=k):nP ⟨n,t⟩ 1 k (.str l)=some (sO .u8 l).flatten/\rV (.str l)=some k:=by
 subst h;constructor
 ·unfold nP;simp only[zA.asSlice,zA.asStr];rw[Nk,sQ,List.take_length];rfl
 grind [rV,zA.asSlice,zA.asStr,vD]
def CY{k:IntKind}{l:List Nat}:∀a∈(sO k l).flatten,zA.one a=true:=by
 intro a ha;rw[Nk]at ha;obtain⟨x,_,rfl⟩:=yaq.1 ha;rfl
theorem IU{k:IntKind}{l m:List Nat}:cA k (l++m)=cA k l++cA k m:=by simp[cA]
theorem KG{T U el:Nat}{cd:Lo}(hT:Ek C T el 1)(hU:∃u,C.tys.get U=some u/\Nat.beq u.desc.tag 1=false)(hcd:∀z,C.tys.get el=some z->cJ el z=cd){l m:List Nat}{v:zA}(hv:xG cd C.base tf t 1 (cA .u8 l) v)(hpos:m≠[])(hl:l.length+m.length<400000){n:Nat}(hn:t.get n=none)(hbase:C.base<=n)(ht:bA tf t) :
  ∃t',nF C T U v (.str m) ⟨n,t⟩=some (.slice n 0 (l.length+m.length) (l.length+m.length),⟨n+1,t'⟩)/\xG cd C.base tf t' 1 (cA .u8 (l++m)) (.slice n 0 (l.length+m.length) (l.length+m.length))/\bA tf t'/\(∀c,c≠n->¬ dM v c->t'.get c=t.get c):=by
 have h0:0<m.length:=List.length_pos_iff.2 hpos;obtain⟨t',h1,h2,h3,h4⟩:=KH hT hU hcd (l:=cA .u8 l) (m:=cA .u8 m) (x:=.str m) (cm:=sO .u8 m) hv YH (fun n=>by grind [JL,WE]) (sY.2 rfl) CY (by grind [bC]) (by grind [bC]) hn hbase ht
 grind [bC,IU]
theorem Wg{T el:Nat}{cd:Lo}{k:IntKind}(hT:Ek C T el 1)(hcd:∀z,C.tys.get el=some z->cJ el z=cd){l m:List Nat}{v x:zA}(hv:xG cd C.base tf t 1 (cA k l) v)(hx:mA t 1 (cA k m) x)(hpos:m≠[])(hl:l.length+m.length<400000){n:Nat}(hn:t.get n=none)(hbase:C.base<=n)(ht:bA tf t) :
  ∃t',nF C T T v x ⟨n,t⟩=some (.slice n 0 (l.length+m.length) (l.length+m.length),⟨n+1,t'⟩)/\xG cd C.base tf t' 1 (cA k (l++m)) (.slice n 0 (l.length+m.length) (l.length+m.length))/\bA tf t'/\(∀c,c≠n->¬ dM v c->t'.get c=t.get c):=by
 have h0:0<m.length:=List.length_pos_iff.2 hpos;obtain⟨cl,g1,g2⟩:=hx;rw[sY]at g2;subst g2;obtain⟨t',h1,h2,h3,h4⟩:=ZG hT hcd (l:=cA k l) (m:=cA k m) (x:=x) (cm:=sO k m) hv g1 (sY.2 rfl) CY (by grind [bC]) (by grind [bC]) hn hbase ht
 grind [bC,IU]
def Ha{cd:Lo}{base sz:Nat}:xG cd base tf t sz [] .nilslice:=.inl ⟨rfl,rfl⟩
theorem xG.keep'{cd:Lo}{base sz:Nat}{l:List D}{v:zA}{t':Tr sA}(h:xG cd base tf t sz l v)(hk:∀b,dM v b->t'.get b=t.get b):xG cd base tf t' sz l v:=by
 rcases h with⟨rfl,rfl⟩ | ⟨b,cl,c,rfl,h0,h1,h2,h3,h4⟩
 ·exact .inl ⟨rfl,rfl⟩
 ·exact .inr ⟨b,cl,c,rfl,h0,h1,by grind [bZ],h3,h4⟩
end
end Go.Am
namespace Go.Am
def kn_ge{B m U V head top u2 v2 ur vr:Nat}(hU:U=(head*B+u2)*B^m+ur)(hur:ur<B^m)(hu2:u2<B)(hV:V=(top*B+v2)*B^m+vr)(htop:0<top):U / V<=head / top:=by
 have hBm:0<B^m:=by omega
 rw[Nat.le_div_iff_mul_le htop];have h1:U / V*V<=U:=Nat.div_mul_le_self U V;have h2:top*B*B^m<=V:=by
  grind
 have h3:U<(head+1)*B*B^m:=by
  have:head*B+u2+1<=(head+1)*B:=by grind
  have:=ybi (B^m) this
  grind
 have h4:U / V*top*(B*B^m)<(head+1)*(B*B^m):=by
  calc U / V*top*(B*B^m)=U / V*(top*B*B^m):=by rw[ybj,ybj]
   _<=U / V*V:=ybv _ h2
   _<=U:=h1
   _<(head+1)*B*B^m:=h3
   _=(head+1)*(B*B^m):=by rw[ybj]
 exact Nat.lt_succ_iff.1 (Nat.lt_of_mul_lt_mul_right h4)
def kn_gt{B m U V head top u2 v2 ur vr d:Nat}(hU:U=(head*B+u2)*B^m+ur)(hur:ur<B^m)(hV:V=(top*B+v2)*B^m+vr)(h:head*B+u2<d*(top*B+v2)):U / V<d:=by
 rcases yau (U / V) d with g | g
 ·exact g
 ·exfalso;have h1:U / V*V<=U:=Nat.div_mul_le_self U V;have h2:d*V<=U:=Nat.le_trans (ybi _ g) h1;have h3:d*(top*B+v2)*B^m<=d*V:=by simp_all [ybj,ybv]
  have h4:=ybi (B^m) (show head*B+u2+1<=d*(top*B+v2) from h)
  grind
def kn_le{B m U V head top u2 v2 ur vr d:Nat}(hB:0<B)(hU:U=(head*B+u2)*B^m+ur)(hV:V=(top*B+v2)*B^m+vr)(hvr:vr<B^m)(htop:0<top)(hd:d<=B)(h:d*(top*B+v2)<=head*B+u2):d<=U / V+1:=by
 have hVpos:0<V:=by
  rw[hV];have:0<top*B+v2:=by have:=Nat.mul_pos htop hB;omega
  have:=Nat.mul_pos this (show 0<B^m by omega);omega
 rcases yau (U / V+1) d with g | g
 ·exfalso;have h1:(d-1)*V<=U:=by
   have e1:d*V<=d*((top*B+v2)*B^m)+d*B^m:=by
    simp_all [ybm,ybv,Nat.le_of_lt]
   have e2:d*((top*B+v2)*B^m)<=(head*B+u2)*B^m:=by rw[<- ybj];exact ybi _ h
   have e3:d*B^m<=V:=by
    have:d*B^m<=top*B*B^m:=by
     refine ybi _ (Nat.le_trans hd ?_);exact yan _ htop
    grind
   grind [Nat.sub_mul]
  have:=(Nat.le_div_iff_mul_le hVpos).2 h1;omega
 ·exact g
def top2{B:Nat}(hB:0<B){l:List Nat}{m a b:Nat}(hlt:yB B l)(hl:l.length=m+2)(ha:l[m+1]?=some a)(hb:l[m]?=some b):val B l=(a*B+b)*B^m+val B (l.take m)/\val B (l.take m)<B^m:=by
 have e1:=aY B l m;have hlen:(l.take m).length=m:=by grind
 rw[hlen]at e1;have e2:l.drop m=[b,a]:=by
  rw[drop_cons' hb,drop_cons' ha,List.drop_of_length_le (by omega)]
 grind [val,oJ,xY]
def top3{B:Nat}(hB:0<B){l:List Nat}{m a b c:Nat}(hlt:yB B l)(hl:l.length=m+3)(ha:l[m+2]?=some a)(hb:l[m+1]?=some b)(hc:l[m]?=some c):val B l=((a*B+b)*B+c)*B^m+val B (l.take m)/\val B (l.take m)<B^m:=by
 have e1:=aY B l m;have hlen:(l.take m).length=m:=by grind
 rw[hlen]at e1;have e2:l.drop m=[c,b,a]:=by
  rw[drop_cons' hc,drop_cons' hb,drop_cons' ha,List.drop_of_length_le (by omega)]
 grind [val,oJ,xY]
end Go.Am
namespace Go.Proofs
open Go Go.Am
variable [sC]
variable {t:Tr sA}
def BB:Nat:=4294967296
def lL:BB=4294967296:=rfl
def mH:0<BB:=by decide
theorem Ml{T el:Nat}(h:yF yA T el 1 false){b off n cap j:Nat}(hj:j<n):jB yA T (.slice b off n cap) (.int .i64 (j:Int))=some (.ptr b (off+j)):=by
 have:=Bo (b:=b) (off:=off) (cap:=cap) h hj
 simp_all
theorem Cm{A w Z:List Nat}{j x:Nat}(h:w[j]?=some x):(A++w++Z)[A.length+j]?=some x:=by
 grind
def Gx{A w Z:List Nat}{j x:Nat}(h:j<w.length):(A++w++Z).set (A.length+j) x=A++w.set j x++Z:=by
 rw[ybz,List.set_append_right _ _ (by omega),Nat.add_sub_cancel_left,List.set_append_left _ _ h,ybz]
theorem ZS{A Z lv:List Nat}{v:zA}{b cap d:Nat}{t0:Tr sA}{Q:dB}(hv:mA t0 1 (cA .u32 lv) v)(hl:lv.length<900000)(hlv:yB BB lv)(hbase:yA.base<=b)(hb:t0.get b=none)(hd:0<d)(hd2:d<=BB)(W:List Nat)(hWl:W.length=lv.length)(hWlt:yB BB W)(last:Nat)(hlast:last<BB)(hcap:lv.length+1<=cap)
  (hQ:∀t' r up,dD b t t'->eE t' b .u32 (A++(r++[(last+up)%BB])++Z)->r.length=lv.length->yB BB r->up<2->val BB r+BB^lv.length*up=val BB W+val BB lv->Q (.int .u32 ((d-1:Nat):Int)) t') :
  ∀(k i up:Nat) (t':Tr sA) (r:List Nat),i+k=lv.length->bA t0 t'->dD b t t'->eE t' b .u32 (A++(r++(W++[last]).drop i)++Z)->r.length=i->yB BB r->up<2->val BB r+BB^i*up=val BB (W.take i)+val BB (lv.take i) →
  jp 298 10 [.slice b A.length (lv.length+1) cap,.int .i64 lv.length,.int .u64 d,.int .u32 up,v,.int .i64 lv.length,.int .i64 i] t' Q:=by
 intro k;induction k with
 | zero=>
  intro i up t' r hi ht hoff ho hr hrl hup hval;have hi':i=lv.length:=by omega
  subst hi';have hdrop:(W++[last]).drop lv.length=[last]:=by simp_all
  rw[hdrop]at ho;refine GG ?_;have g1:=Ml gF (b:=b) (off:=A.length) (n:=lv.length+1) (cap:=cap) (j:=lv.length) (by omega);have hget:(r++[last])[lv.length]?=some last:=by simp_all
  have g2:=ho.load (Cm (A:=A) (Z:=Z) hget) tG rfl;obtain⟨t1,s1,s2,s3⟩:=ho.store (C:=yA) hbase (j:=A.length+lv.length) (by grind) ((last+up)%BB) tG rfl;rw[Gx (by grind)]at s2;have hset:(r++[last]).set lv.length ((last+up)%BB)=r++[(last+up)%BB]:=by simp_all
  rw[hset]at s2;have e1:rA .u32 ((last:Int)+(up:Int))=(((last+up)%BB:Nat):Int):=by rw[cQ];show _=(((last+up)%4294967296:Nat):Int);omega
  simp only[uL,yC,uX,uZ,Pu,qA,xC,g1,g2,wA,fB,e1];rw[yaa (by omega)];intro _ _ _;rw[s1];simp only[wA];rw[yca (by omega),yca (by omega)]at hval;have e2:rA .u32 (rA .u64 ((d:Int)-1))=((d-1:Nat):Int):=by
   have:d<=4294967296:=hd2
   grind [rF,jW]
  rw[e2];exact hQ t1 r up (hoff.trans s3) s2 hr hrl hup hval
 | succ k ih=>
  intro i up t' r hi ht hoff ho hr hrl hup hval;obtain⟨x,hx⟩:=getElem?_of_lt (l:=lv) (i:=i) (by omega);obtain⟨y,hy⟩:=getElem?_of_lt (l:=W) (i:=i) (by omega);have hxlt:x<BB:=wH hlv hx;have hylt:y<BB:=wH hWlt hy;obtain⟨c,off,g1,g2⟩:=(hv.mono ht).idx gF hx;have hy':(W++[last])[i]?=some y:=by grind
  have hdrop:(W++[last]).drop i=y::(W++[last]).drop (i+1):=drop_cons' hy';have g3:=Ml gF (b:=b) (off:=A.length) (n:=lv.length+1) (cap:=cap) (j:=i) (by omega);have hget:(r++(W++[last]).drop i)[i]?=some y:=by simp_all
  have g4:=ho.load (Cm (A:=A) (Z:=Z) hget) tG rfl;have hlen:i<(r++(W++[last]).drop i).length:=by simp_all
  obtain⟨t1,s1,s2,s3⟩:=ho.store (C:=yA) hbase (j:=A.length+i) (by grind) ((y+x+up)%BB) tG rfl;rw[Gx hlen]at s2;have hset:(r++(W++[last]).drop i).set i ((y+x+up)%BB)=(r++[(y+x+up)%BB])++(W++[last]).drop (i+1):=by
   simp_all
  rw[hset]at s2;have hadd:=zbj (t:=t') (x:=y) (y:=x) (c:=up) hylt hxlt hup;refine GG ?_;simp (disch:=omega) only[uL,yC,uX,uZ,Pu,qA,xC,g1,g2,g3,g4,wA,fB,q303,hadd,gI,zA.asTup,tA,eF,yaz,yba,wrap_i64];rw[yab (by omega)];intro _ _ _;have s1':∀n,kE yA 242 (.ptr b (A.length+i)) (.int .u32 (((y+x+up)%4294967296:Nat):Int)) ⟨n,t'⟩=some (lD,⟨n,t1⟩):=s1
  rw[s1'];simp only[wA];refine ih (i+1) ((y+x+up) / BB) t1 _ (by omega) (ht.off hb s3) (hoff.trans s3) s2 (by simp[hr]) (gQ hrl (ycy _ (by decide))) ?_ ?_
  ·have h1:y<4294967296:=hylt;have h2:x<4294967296:=hxlt;show(y+x+up) / 4294967296<2;omega
  ·rw[pJ,hr,zR hx,zR hy,pJ,pJ]
   grind [Nat.div_add_mod]
theorem Zl{u low bo:Nat}(hu:u<BB)(hl:low<BB)(hb:bo<2):∃w b',w<BB/\b'<2/\u+BB*b'=w+low+bo ∧
  rA .u32 (rA .u64 (rA .u64 ((u:Int)-(low:Int))-(bo:Int)))=(w:Int)/\Int.fdiv (rA .u64 (rA .u64 ((u:Int)-(low:Int))-(bo:Int))) 9223372036854775808=(b':Int):=by
 have hu:u<4294967296:=hu;have hl:low<4294967296:=hl;rcases yau u (low+bo)with g | g
 ·refine⟨u+BB-low-bo,1,by omega,by omega,by omega,?_,?_⟩
  ·rw[cQ,Eu,Eu];show _=((u+4294967296-low-bo:Nat):Int);omega
  grind [Eu]
 ·refine⟨u-low-bo,0,by omega,by omega,by omega,?_,?_⟩
  all_goals grind [cQ,Eu]
theorem TQ{A Z lu lv:List Nat}{v:zA}{b cap d:Nat}{t0:Tr sA}{Q:dB}(hv:mA t0 1 (cA .u32 lv) v)(hl:lv.length<900000)(hlv:yB BB lv)(hbase:yA.base<=b)(hb:t0.get b=none)(hd:d<BB)(hlul:lu.length=lv.length+1)(hlu:yB BB lu)(hcap:lv.length+1<=cap)
  (hQ:∀t' (W:List Nat) last bo,bA t0 t'->dD b t t'->eE t' b .u32 (A++(W++[last])++Z)->W.length=lv.length->yB BB W->last<BB->bo<2->val BB (W++[last])+d*val BB lv=val BB lu+BB^(lv.length+1)*bo →
   if bo=0 then Q (.int .u32 (d:Int)) t' else jp 298 10 [.slice b A.length (lv.length+1) cap,.int .i64 lv.length,.int .u64 d,.int .u32 0,v,.int .i64 lv.length,.int .i64 (0:Nat)] t' Q) :
  ∀(k i carry borrow:Nat) (t':Tr sA) (W:List Nat),i+k=lv.length->bA t0 t'->dD b t t'->eE t' b .u32 (A++(W++lu.drop i)++Z)->W.length=i->yB BB W->carry<BB->borrow<2->val BB W+d*val BB (lv.take i)=val BB (lu.take i)+BB^i*(carry+borrow) →
  jp 298 6 [.slice b A.length (lv.length+1) cap,v,.int .i64 lv.length,.int .u64 d,.int .u64 carry,.int .u64 borrow,v,.int .i64 lv.length,.int .i64 i] t' Q:=by
 intro k;induction k with
 | zero=>
  intro i carry borrow t' W hi ht hoff ho hW hWl hc hbo hval;have hi':i=lv.length:=by omega
  subst hi';obtain⟨x,hx⟩:=getElem?_of_lt (l:=lu) (i:=lv.length) (by omega);have hxlt:x<BB:=wH hlu hx;have hdrop:lu.drop lv.length=[x]:=by rw[drop_cons' hx,List.drop_of_length_le (by omega)]
  rw[hdrop]at ho;obtain⟨w,bo,hw,hbo',hsum,e1,e2⟩:=Zl hxlt hc hbo;have g1:=Ml gF (b:=b) (off:=A.length) (n:=lv.length+1) (cap:=cap) (j:=lv.length) (by omega);have hget:(W++[x])[lv.length]?=some x:=by simp_all
  have g2:=ho.load (Cm (A:=A) (Z:=Z) hget) tG rfl;obtain⟨t1,s1,s2,s3⟩:=ho.store (C:=yA) hbase (j:=A.length+lv.length) (by grind) w tG rfl;rw[Gx (by grind)]at s2;have hset:(W++[x]).set lv.length w=W++[w]:=by simp_all
  rw[hset]at s2;have hx32:x<4294967296:=hxlt;have e0:rA .u64 (x:Int)=(x:Int):=rF (by omega) (by omega);refine zbp ?_;simp only[uI,uL,yC,uZ,Ps,qA,xC,g1,g2,wA,fB,e0,e1,e2,gE];rw[yaa (by omega)];intro _ _ _;rw[s1];simp only[wA];have hfin:=hQ t1 W w bo (ht.off hb s3) (hoff.trans s3) s2 hW hWl hw hbo' (by
   grind [pJ,val,aY])
  by_cases hz:bo=0
  ·rw[yab (by omega)];rw[yab hz]at hfin;have hd32:d<4294967296:=hd
   grind [jW]
  ·rw[yaa (by omega)];rw[yaa hz]at hfin;simp only[(hv.mono (ht.off hb s3)).len,wA,fB,bC];exact hfin
 | succ k ih=>
  intro i carry borrow t' W hi ht hoff ho hW hWl hc hbo hval;obtain⟨x,hx⟩:=getElem?_of_lt (l:=lu) (i:=i) (by omega);obtain⟨y,hy⟩:=getElem?_of_lt (l:=lv) (i:=i) (by omega);have hxlt:x<BB:=wH hlu hx;have hylt:y<BB:=wH hlv hy;have hd32:d<4294967296:=hd;have hx32:x<4294967296:=hxlt;have hy32:y<4294967296:=hylt;have hc32:carry<4294967296:=hc;have hdrop:lu.drop i=x::lu.drop (i+1):=drop_cons' hx
  obtain⟨c,off,g1,g2⟩:=(hv.mono ht).idx gF hy;have g3:=Ml gF (b:=b) (off:=A.length) (n:=lv.length+1) (cap:=cap) (j:=i) (by omega);have hget:(W++lu.drop i)[i]?=some x:=by simp_all
  have g4:=ho.load (Cm (A:=A) (Z:=Z) hget) tG rfl;have hprod:d*y<=4294967295*4294967295:=ydb (by omega) (by omega);obtain⟨P,hP⟩:∃P,P=d*y+carry:=⟨_,rfl⟩;have hPlt:P<18446744073709551616:=by omega
  have hPhi:P / 4294967296<4294967296:=by omega
  obtain⟨w,bo,hw,hbo',hsum,e1,e2⟩:=Zl (u:=x) (low:=P%4294967296) (bo:=borrow) hxlt (ycy _ (by decide)) hbo;obtain⟨t1,s1,s2,s3⟩:=ho.store (C:=yA) hbase (j:=A.length+i) (by grind [List.length_append]) w tG rfl;rw[Gx (by simp_all)]at s2;have hset:(W++lu.drop i).set i w=(W++[w])++lu.drop (i+1):=by simp_all
  rw[hset]at s2;have e0:rA .u64 (x:Int)=(x:Int):=rF (by omega) (by omega);have e0':rA .u64 (y:Int)=(y:Int):=rF (by omega) (by omega);have e3:(d:Int)*(y:Int)=((d*y:Nat):Int):=(Int.natCast_mul d y).symm;have e4:rA .u64 ((d*y:Nat):Int)=((d*y:Nat):Int):=by
   grind [rF]
  have e5:rA .u64 (((d*y:Nat):Int)+(carry:Int))=(P:Int):=by
   rw[hP,<- Int.natCast_add];grind [rF]
  have e6:rA .u64 (rA .u32 (P:Int))=((P%4294967296:Nat):Int):=by
   grind [cQ,rF]
  have e7:Int.fdiv (P:Int) 4294967296=((P / 4294967296:Nat):Int):=iX P 4294967296;refine zbp ?_;simp only[uI,uL,yC,uZ,Ps,qA,xC,g1,g2,g3,g4,wA,fB,e0,e0',e3,e4,e5,e6,e7,e1,e2];rw[yab (by omega)];intro _ _ _;rw[s1];simp (disch:=omega) only[wA,wrap_i64];refine ih (i+1) (P / 4294967296) bo t1 _ (by omega) (ht.off hb s3) (hoff.trans s3) s2 (by simp[hW]) (gQ hWl hw) hPhi hbo' ?_
  rw[pJ,hW,zR hx,zR hy,pJ,pJ];have l1:(lu.take i).length=i:=by simp;omega
  have l2:(lv.take i).length=i:=by simp;omega
  grind [Nat.div_add_mod,BB]
attribute [irreducible] BB
end Go.Proofs
namespace Go.Proofs
open Go Go.Am
section
variable [sC]
variable {t:Tr sA}
theorem Gn{x y:Nat}(hx:x<4294967296)(hy:y<4294967296):iH Nat.lor .u64 ((x*4294967296:Nat):Int) (y:Int)=some (.int .u64 ((x*4294967296+y:Nat):Int)):=by
 have h:=Bw (a:=x) (b:=y) (n:=32) hy;have e:(2:Nat)^32=4294967296:=by decide
 rw[e]at h;rw[tS (k:=.u64) (show x*4294967296<zG .u64 by show _<18446744073709551616;omega) (show y<zG .u64 by show _<18446744073709551616;omega),h]
theorem VT{lu lv:List Nat}{u v:zA}{Q:dB}{m head top u2 v2 U V ur vr:Nat}(hu:mA t 1 (cA .u32 lu) u)(hv:mA t 1 (cA .u32 lv) v)(hl:m<900000)(hu2:lu[m]?=some u2)(hv2:lv[m]?=some v2)(hu2lt:u2<BB)(hv2lt:v2<BB)(htop:0<top)(htoplt:top<BB)
  (hU:U=(head*BB+u2)*BB^m+ur) (hur:ur<BB^m) (hV:V=(top*BB+v2)*BB^m+vr) (hvr:vr<BB^m) (hq:U / V<BB) (hhead:head<=top*BB+(BB-1))
  (hexit:∀d,U / V<=d->d<=U / V+1->d<BB->jp 298 19 [u,v,.int .i64 (m+2:Nat),.int .u64 d] t Q) :
  ∀(d rest:Nat),d*top+rest=head->U / V<=d->d<=BB+1->rest<BB->jp 298 2 [u,v,.int .i64 (m+2:Nat),.int .u64 top,.int .u64 d,.int .u64 rest] t Q:=by
 intro d;induction d with
 | zero=>
  intro rest hsum hge _ hrest;have hBB:=lL;have hr32:rest<4294967296:=by omega
  obtain⟨b,off,g1,g2⟩:=hv.idx gF hv2;obtain⟨c,off',g3,g4⟩:=hu.idx gF hu2;have hu32:u2<4294967296:=by omega
  have hv32:v2<4294967296:=by omega
  obtain⟨D,hD⟩:∃D:Int,((0:Nat):Int)=D:=⟨_,rfl⟩;rw[hD];refine zbq ?_;unfold Pt uQ12 uL uE uZ uW;generalize hC:(4294967296:Int)=C;generalize hG:iH Nat.lor .u64 (rA .u64 ((rest:Int)*C))=G;have e4:D*(v2:Int)=0:=by grind
  have e1:((m+2:Nat):Int)-2=(m:Int):=by omega
  have e2:(rest:Int)*C=((rest*4294967296:Nat):Int):=by simp_all
  have e3:G (u2:Int)=some (.int .u64 ((rest*4294967296+u2:Nat):Int)):=by rw[<- hG,e2,rF (by omega) (by omega)];grind [Gn]
  simp only[qA,pD];rw[yaa (by omega)];simp (disch:=omega) only[e1,wrap_i64,g1,wA];rw[g2];simp only[wA,fB,g3];rw[g4,wA,fB,wA,rF (n:=(u2:Int)) (by omega) (by omega),e3,wA,fB,wA,rF (n:=(v2:Int)) (by omega) (by omega),e4,rF (n:=0) (by decide) (by decide)]
  grind [xC]
 | succ d ih=>
  intro rest hsum hge hle hrest;have hBB:=lL;have hr32:rest<4294967296:=by omega
  have ht32:top<4294967296:=by omega
  have hle32:d+1<=4294967296+1:=by omega
  have hsum':d*top+(rest+top)=head:=by grind
  obtain⟨D,hD⟩:∃D:Int,((d+1:Nat):Int)=D:=⟨_,rfl⟩;rw[hD];have e1:D-1=(d:Int):=by omega
  have e0:(rest:Int)+(top:Int)=((rest+top:Nat):Int):=by omega
  have less:U / V<=d->(if (4294967296:Int)<=((rest+top:Nat):Int)then jp 298 19 [u,v,.int .i64 (m+2:Nat),.int .u64 d] t Q else jp 298 2 [u,v,.int .i64 (m+2:Nat),.int .u64 top,.int .u64 d,.int .u64 ((rest+top:Nat):Int)] t Q):=by
   intro hge';split
   ·rename_i hb;have hb':BB<=rest+top:=by omega
    have hdlt:d<BB:=by
     grind
    refine hexit d hge' ?_ hdlt;refine kn_le mH hU hV hvr htop (Nat.le_of_lt hdlt) ?_;have h1:d*v2<=BB*BB:=ydb (Nat.le_of_lt hdlt) (Nat.le_of_lt hv2lt);have h2:BB*BB<=(rest+top)*BB:=ybi _ hb';have h3:head*BB=d*top*BB+(rest+top)*BB:=by rw[<- hsum',ybo]
    grind
   ·rename_i hb;exact ih (rest+top) hsum' hge' (by omega) (by omega)
  refine zbq ?_;unfold Pt uQ12 uL uE uZ uW;generalize hC:(4294967296:Int)=C;generalize hG:iH Nat.lor .u64 (rA .u64 ((rest:Int)*C))=G;by_cases hbig:4294967296<=d+1
  ·simp (disch:=omega) only[qA,pD,e0,e1,rF];rw[yab (by omega)]
   grind
  ·obtain⟨b,off,g1,g2⟩:=hv.idx gF hv2;obtain⟨c,off',g3,g4⟩:=hu.idx gF hu2;have hu32:u2<4294967296:=by omega
   have hv32:v2<4294967296:=by omega
   have e5:((m+2:Nat):Int)-2=(m:Int):=by omega
   have e2:(rest:Int)*C=((rest*4294967296:Nat):Int):=by simp_all
   have e6:rA .u64 (D*(v2:Int))=(((d+1)*v2:Nat):Int):=by
    rw[<- hD,<- Int.natCast_mul];have:(d+1)*v2<=4294967295*4294967295:=ydb (by omega) (by omega)
    grind [rF]
   have e3:G (u2:Int)=some (.int .u64 ((rest*4294967296+u2:Nat):Int)):=by rw[<- hG,e2,rF (by omega) (by omega)];grind [Gn]
   simp only[qA,pD];rw[yaa (by omega)];simp (disch:=omega) only[e5,wrap_i64,g1,wA];rw[g2];simp only[wA,fB,g3];rw[g4,wA,fB,wA,rF (n:=(u2:Int)) (by omega) (by omega),e3,wA,fB,wA,rF (n:=(v2:Int)) (by omega) (by omega),e6];have e7:rA .u64 ((rest:Int)+(top:Int))=((rest+top:Nat):Int):=by rw[e0];exact rF (by omega) (by omega)
   have e8:rA .u64 (D-1)=(d:Int):=by rw[e1];grind [rF]
   rw[e7,e8];have key:(d+1)*(top*BB+v2)=(d+1)*top*BB+(d+1)*v2:=by rw[ybm,<- ybj]
   have key2:head*BB=(d+1)*top*BB+rest*BB:=by rw[<- hsum,ybo]
   by_cases htest:rest*4294967296+u2<(d+1)*v2
   ·rw[yab (xC.2 (by omega))];subst hC;refine less (Nat.lt_succ_iff.1 (kn_gt hU hur hV ?_))
    grind
   ·rw[yaa (fun h=>absurd (xC.1 h) (by omega))];rw[<- hD];refine hexit (d+1) hge (kn_le mH hU hV hvr htop (by omega) ?_) (by omega)
    grind
end
section
variable [sC]
variable {t tf:Tr sA}
theorem AI{n:Nat}{y:sA}(hn:t.get n=none)(h:bA tf t):bA (tf.set n y) (t.set n y):=by
 intro c u hc;rw[Tr.get_set]at hc ⊢;split at hc
 ·simp_all
 ·rename_i e;rw[yaa e];exact h _ _ hc
theorem Lm(h:bA tf t){n:Nat}(hn:t.get n=none):tf.get n=none:=by
 cases hx:tf.get n with
 | none=>rfl
 | some y=>rw[h _ _ hx]at hn;cases hn
structure Wo (S:Tr sA->Tr sA->Prop):Prop where
 le:∀ {tf t:Tr sA},S tf t->bA tf t
 both:∀ {tf t:Tr sA} {n:Nat},S tf t->t.get n=none->∀y,S (tf.set n y) (t.set n y)
 out:∀ {tf t:Tr sA} {n:Nat} {y:sA},tf.get n=none->S (tf.set n y) t->S tf (t.del n)
theorem BS{f i:Nat}{v8 v4:zA}{K R:T}{ps:List Nat}{Q:dB}{S:Nat->Tr sA->Tr sA->Prop}(hS:∀k,Wo (S k))(hp:mA tf 1 (cA .u32 ps) v4)(hl:ps.length<30000)(h:S ps.length tf t)
  (body:∀(k x:Nat) (tf t:Tr sA) (Q1:dB),ps[k]?=some x->S (k+1) tf t->(∀t',S k tf t'->Q1 (.bool true) t')->Jq yA F f i [v8,.int .u32 (x:Int)] t Q1)
  (uF:∀tf' t',bA tf tf'->S 0 tf' t'->qA yA.base (Wq yA F jH) (Jq yA F f) K t' Q) :
  qA yA.base (Wq yA F jH) (Jq yA F f) (.call 242 [v4] fun a0=>.range (npC yA) a0 i 1 [v8] K R) t Q:=by
 simp only[qA];rw[q242];refine w242 ?_;simp only[t242,qA];intro bb hbb hbase;have hc4:v4.cells=[v4]:=by
  obtain⟨cl,h1,_⟩:=hp;rcases h1 with⟨rfl,_⟩ | ⟨_,_,_,rfl,_⟩<;>rfl
 have hone:bP v4 ⟨bb,t⟩=some (.ptr bb 0,⟨bb+1,t.set bb (.cells (Tr.ofList [v4]) 1 none)⟩):=by
  unfold bP;rw[hc4];rfl
 rw[hone,wA];simp only[];have h1:=(hS _).both h hbb (.cells (Tr.ofList [v4]) 1 none);have hfb:=Lm ((hS _).le h) hbb;have htf1:bA tf (tf.set bb (.cells (Tr.ofList [v4]) 1 none)):=(fK hfb _).1;generalize htf:tf.set bb (.cells (Tr.ofList [v4]) 1 none)=tf1 at h1 htf1;have hg1:tf1.get bb=some (.cells (Tr.ofList [v4]) 1 none):=by rw[<- htf,Tr.get_set,yab rfl]
 generalize t.set bb (.cells (Tr.ofList [v4]) 1 none)=t1 at h1;refine⟨Nat.le_add_right _ _,fun l r hl0 hlb hr1 hr2 hy=>?_⟩;have hra:Km (npC yA) (.func (.func 261) [] [.ptr bb 0]) l=some (261,[.func (.yld l) [] [],.ptr bb 0]):=by
  unfold Km;simp only[zA.asFunc,tA];have:npC yA 261=true:=by kernel_rfl
  rw[this];rfl
 rw[hra,wA];have h2:=(hS _).both h1 hl0 (.loop r);have hfl:=Lm ((hS _).le h1) hl0;have hlr:qV true r=r:=by
  obtain⟨a,b,c,d,e,f,g,h,i⟩:=r;have hr1:a=.ready:=hr1;have hr2:b=none:=hr2;subst hr1;subst hr2;rfl
 have hle2:bA tf1 (tf1.set l (.loop r)):=(fK hfl _).1;rw[show Wq yA F jH 261=Wc yA F 261 by funext a m R;rw[q261]];refine zeo (l:=ps) (v:=v4) (I:=fun k t'=>S k (tf1.set l (.loop r)) t') (by omega) ?_ ?_ ?_ h2
 ·intro k t' hI;have hle:=(hS _).le hI;have hg:t'.get bb=some (.cells (Tr.ofList [v4]) 1 none):=hle _ _ (hle2 _ _ hg1);refine⟨?_,hp.mono (htf1.trans (hle2.trans hle))⟩;exact(dE.load1 (cs:=[v4]) (lo:=none) ⟨Tr.ofList [v4],hg,fun j a hj=>by grind [Tr.get_ofList]⟩ mN rfl (j:=0) rfl)
 ·intro k x t' hx hI R hR;show oE (some (yo+l,[zA.int .u32 (x:Int)])) _;rw[wA];refine hy [.int .u32 (x:Int)] t' R rfl ((hS _).le hI _ _ (by rw[Tr.get_set,yab rfl])) ?_;refine body k x tf1 _ _ hx ((hS _).out hfl hI) fun t2 h3 hn2=>⟨true,rfl,?_⟩;rw[hlr];exact hR _ ((hS _).both h3 hn2 (.loop r))
 ·intro t' hI;exact .inl ⟨(hS _).le hI _ _ (by rw[Tr.get_set,yab rfl]),uF tf1 _ htf1 ((hS _).out hfl hI)⟩
def Bd (bx:Nat)(v:zA)(tf t:Tr sA):Prop:=yA.base<=bx/\tf.get bx=none/\bA tf t/\dE t bx none [v]
theorem Bd.framed{bx:Nat}{v:zA}:Wo (Bd bx v) where
 le:=fun h=>h.2.2.1
 both:=fun {tf t n} h hn y=>by
  obtain⟨h1,h2,h3,h4⟩:=h;have hbx:bx≠n:=by intro e;obtain⟨c,h,_⟩:=h4;simp_all
  exact⟨h1,by grind [Tr.get_set],AI hn h3,h4.off (by rw[Tr.get_set,yaa hbx])⟩
 out:=fun {tf t n y} hn h=>by
  obtain⟨h1,h2,h3,h4⟩:=h;have hbx:bx≠n:=by grind [Tr.get_set]
  have hle:bA tf (tf.set n y):=(fK hn y).1;rw[Tr.get_set,yaa hbx]at h2;refine⟨h1,h2,fun c u hc=>?_,h4.off (by rw[Tr.get_del,yaa hbx])⟩;have:c≠n:=fun e=>by simp_all
  rw[Tr.get_del,yaa this];exact h3 _ _ (hle _ _ hc)
theorem UG{bx x y:Nat}{Q1:dB}(h:Bd bx (.int .u64 (y:Int)) tf t)(hy:y<4294967296)(hx:x<4294967296)(hQ:∀t',Bd bx (.int .u64 ((y*4294967296+x:Nat):Int)) tf t'->Q1 (.bool true) t'):jp 287 2 [.ptr bx 0,.int .u32 (x:Int)] t Q1:=by
 obtain⟨i1,i2,i3,i4⟩:=h;have e5:(y:Int)*4294967296=((y*4294967296:Nat):Int):=by omega
 have e6:iH Nat.lor .u64 (rA .u64 ((y:Int)*4294967296)) (rA .u64 (x:Int))=some (.int .u64 ((y*4294967296+x:Nat):Int)):=by
  rw[e5,rF (by omega) (by omega),rF (by omega) (by omega),Gn hy hx]
 generalize y*4294967296+x=z at e6 hQ;refine j287_2 ?_;simp only[uE,Yt,qA];rw[i4.load1 Fj rfl (j:=0) rfl,wA,fB,wA,e6,wA,fB,wA];intro b3 _ _;obtain⟨t3,k1,k2,k3⟩:=i4.store1 (v:=.int .u64 (z:Int)) i1 Fj rfl rfl rfl (j:=0) (by simp);rw[k1,wA];exact hQ _ ⟨i1,i2,i3.off i2 k3,k2⟩
theorem UF{l:List Nat}{k x:Nat}(hl:l.length<=2)(hlt:yB 4294967296 l)(hx:l[k]?=some x):x<4294967296/\val 4294967296 (l.drop (k+1))<4294967296/\val 4294967296 (l.drop k)=val 4294967296 (l.drop (k+1))*4294967296+x:=by
 have hk:k<l.length:=(ybc.1 hx).1;have hdrop:l.drop k=x::l.drop (k+1):=by
  grind [List.drop_eq_getElem_cons]
 refine⟨hlt x (ycv hx),?_,?_⟩
 ·have h1:=KN hlt (k+1);have h2:(l.drop (k+1)).length<=1:=by grind
  generalize l.drop (k+1)=m at h1 h2 ⊢
  match m,h1,h2 with
  | [],_,_=>exact Nat.zero_lt_succ _
  | [a],h1,_=>rw[val,val,yat,yct];exact h1 a (.head _)
 grind [val]
theorem zdm{l:List Nat}{v:zA}(hv:mA t 1 (cA .u32 l) v)(hl:l.length<=2)(hlt:yB 4294967296 l):lB yA F 287 [v] t=some (.int .u64 ((val 4294967296 l:Nat):Int)):=by
 refine fN (w287 ?_);have hlen0:l.length<30000:=by omega
 have hst:∀k x,l[k]?=some x->_:=fun k x=>UF (k:=k) (x:=x) hl hlt;have h0:val 4294967296 (l.drop l.length)=0:=by rw[List.drop_length,val]
 generalize hg:(fun k=>val 4294967296 (l.drop k))=g;have hst':∀k x,l[k]?=some x->x<4294967296/\g (k+1)<4294967296/\g k=g (k+1)*4294967296+x:=fun k x hx=>by grind
 have h0':g l.length=0:=by grind
 have hend:val 4294967296 l=g 0:=by grind
 rw[hend];clear hg hst h0 hend;unfold t287 uE;show ∀b,t.get b=none->yA.base<=b->oE (mU yA 209 ⟨b,t⟩) _;intro bx hbx hbase;obtain⟨t1,e1,e2,e3,e4⟩:=Wi (C:=yA) Fj hbx;rw[e1,wA];show ∀b,t1.get b=none->yA.base<=b->oE (kE yA 209 (.ptr bx 0) (.int .u64 0) ⟨b,t1⟩) _;intro b2 _ _;obtain⟨t2,g1,g2,g3⟩:=e2.store1 (v:=.int .u64 0) hbase Fj rfl rfl rfl (j:=0) (by simp);rw[g1,wA];have hS0:Bd bx (.int .u64 ((g l.length:Nat):Int)) t t2:=by
  rw[h0'];exact⟨hbase,hbx,(bA.refl t).off hbx e4 |>.off hbx g3,g2⟩
 refine BS (S:=fun k tf t=>Bd bx (.int .u64 ((g k:Nat):Int)) tf t) (fun k=>Bd.framed) hv hlen0 hS0 ?_ ?_
 ·grind [UG]
 ·intro tf' t' hle hI;obtain⟨i1,i2,i3,i4⟩:=hI;simp only[qA];rw[i4.load1 Fj rfl (j:=0) rfl,wA];simp only[fB,wA];exact⟨trivial,hle.trans i3⟩
end
end Go.Proofs
