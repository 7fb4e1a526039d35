/- The lines of a plan: their texts, their tokens. -/
import Derived.Test.YtefajchlhjcgpaaGreatDoorP25
set_option linter.all false
noncomputable section
set_option maxRecDepth 100000
namespace Go.Proofs
open Go Go.Am
variable {s:List Nat}{i n:Int}
def Fr (d:pF):List Nat:=(if d.c=true then [102,97,99,116,32]else [100,101,102,32])++d.a++[32]++xJ d.b
def uj(s:List Nat):List Nat:=[112,108,97,110,32]++s
def Hb (x:aE):List Nat:=[116,97,98,108,101,32]++x.b++(if x.c=true then [32,116,119,111]else [32,111,110,101])
def Fa(a:Bool)(r:oG):List Nat:=gH (wJ r.a)++(if a=true then [32]++gH (wJ r.b)else [])
def sV (a:Bool)(r:oG):List Nat:=[114,111,119,32]++Fa a r++[32,107,110,111,119,110,32]++rH r.c.toNat++[32,105,115,32]++gH (pK r.f)
def Q0 (n:Int):List Nat:=if n<65536 then rH n.toNat else [101,110,100]
def tZ(c:qD):List Nat:=[99,108,97,117,115,101,32]++c.g++[32]++c.e++[32,102,114,111,109,32]++rH c.f.toNat++[32,116,111,32]++Q0 c.i++[32,107,110,111,119,110,32]++rH c.c.toNat
def dU(c:qD):List Nat:=tZ c++(if c.h=true then [32,111,102,102]else [32,119,104,101,110,32]++oQ c.a++[32,116,104,101,110,32]++oQ c.b)
def Ha(x:aE):List (List Nat):=Hb x::x.a.map (sV x.c)
def xU(p:uD):List (List Nat):=uj p.e::(p.c.map Fr++(p.a.flatMap Ha++p.b.map dU))
def aK:List (List Nat)->List Nat
 | []=>[]
 | x::l=>x++[10]++aK l
def zX (p:uD):List Nat:=aK (xU p)
def Fs (d:pF):List pD:=[(1,if d.c=true then cW else O9),(1,d.a),(1,xJ d.b)]
def Dy (x:aE):List pD:=[(1,Ql),(1,x.b),(1,if x.c=true then Cd else K0)]
def iV (i:Int):List pD:=jM (decide (i<0))++[(2,eF i.natAbs)]
def rV (a:Bool)(r:oG):List pD:=(1,K1)::(iV r.a++((if a=true then iV r.b else [])++((1,tS)::(3,rH r.c.toNat)::(1,l9)::(jM r.f.n.b++[(2,yM r.f)]))))
def du (n:Int):pD:=if n<65536 then(3,rH n.toNat)else(1,Gq)
def nW(c:qD):List pD:=(1,Gr)::(1,c.g)::(1,c.e)::(1,Jn)::(3,rH c.f.toNat)::(1,di)::du c.i::(1,tS)::(3,rH c.c.toNat)::(if c.h=true then [(1,dj)]else(1,Mk)::(xF c.a++(1,Jl)::xF c.b))
def Z3(s:List Nat):List pD:=[(1,Mn),(1,s)]
def xN(x:aE):List (List pD):=Dy x::x.a.map (rV x.c)
def zhf(p:uD):List (List pD):=Z3 p.e::(p.c.map Fs++(p.a.flatMap xN++p.b.map nW))
def rJ:List (List pD)->List pD
 | []=>[]
 | x::l=>x++(5,[])::rJ l
def In (l:List (List Nat))(m:List (List pD)):Prop:=iS (aK l) false=some (rJ m)
theorem In.d:In [] []:=rfl
theorem In.a {k:List pD}{l:List (List Nat)}{m:List (List pD)}(h:Lx s k)(a:In l m):In (s::l) (k::m):=by
 unfold In at *;rw[aK,D5,h _ _ (λc b e=>by simp_all),List.singleton_append,zvx,a];rfl
def In.b{a:Type}{f:a->List Nat}{g:a->List pD}{c:List (List Nat)}{d:List (List pD)}(b:In c d):∀l:List a,(∀x∈l,Lx (f x) (g x))->In (l.map f++c) (l.map g++d)
 | [],_=>b
 | x::l,h=>(In.b b l λy e=>h y (C9 _ e)).a (h x C7)
def Zm (h:xO n=true):n.toNat<65536/\((n.toNat:Nat):Int)=n:=by
 grind [xO]
theorem Zj (h:xO n=true) {l:List pD}(a:Lx s l):Lx (rH n.toNat++32::s) ((3,rH n.toNat)::l):=Lx.g (SC (Zm h).1) a
def zh5{k:Nat}(a:1<=k)(b:k<=6):fE (xJ k)=.aa 1 (xJ k):=by
 have:k=1\/k=2\/k=3\/k=4\/k=5\/k=6:=by omega
 clear a b;rcases this with rfl | rfl | rfl | rfl | rfl | rfl
 .exact(by kernel_rfl:fE (xJ 1)=.aa 1 (xJ 1))
 .exact(by kernel_rfl:fE (xJ 2)=.aa 1 (xJ 2))
 .exact(by kernel_rfl:fE (xJ 3)=.aa 1 (xJ 3))
 .exact(by kernel_rfl:fE (xJ 4)=.aa 1 (xJ 4))
 .exact(by kernel_rfl:fE (xJ 5)=.aa 1 (xJ 5))
 .exact(by kernel_rfl:fE (xJ 6)=.aa 1 (xJ 6))
def zwu (h : -2147483648<=i/\i<2147483648):fE (eF i.natAbs)=.aa 2 (eF i.natAbs):=zjo (Nat.lt_of_lt_of_le (show i.natAbs<10^10 by omega) (L7 (by omega) (by omega)))
def zh7 (h:bY i=true) : -2147483648<=i/\i<2147483648:=by
 grind [bY]
def DB (h:bY i=true):Lx (gH (wJ i)) (iV i):=by
 rw[BT];exact(Lx.i (zwu (zh7 h))).j
def zmw (h:fG s=true):Lx (uj s) (Z3 s):=Lx.g (w:=Mn) (k:=1) (by kernel_rfl) (Lx.i (Hr h))
def zxj{d:pF}(h:aR d=true):Lx (Fr d) (Fs d):=by
 unfold aR at h;simp only[B3,decide_eq_true_eq]at h;have:=Lx.g (Hr h.1) (Lx.i (zh5 h.2.1 h.2.2));unfold Fr Fs
 cases d.c with
 | true=>simpa using Lx.g (w:=cW) (k:=1) (by kernel_rfl) this
 | false=>simpa using Lx.g (w:=O9) (k:=1) (by kernel_rfl) this
def zt9{x:aE}(h:fG x.b=true):Lx (Hb x) (Dy x):=by
 unfold Hb Dy
 cases x.c with
 | true=>simpa using Lx.g (w:=Ql) (k:=1) (by kernel_rfl) (Lx.g (Hr h) (Lx.i (w:=Cd) (k:=1) (by kernel_rfl)))
 | false=>simpa using Lx.g (w:=Ql) (k:=1) (by kernel_rfl) (Lx.g (Hr h) (Lx.i (w:=K0) (k:=1) (by kernel_rfl)))
def zuv{a:Bool}{r:oG}(g:r.f.a)(h:iT a r=true):Lx (sV a r) (rV a r):=by
 unfold iT at h;simp only[B3]at h;obtain⟨b,c,i,d,f⟩:=h;have e:=Lx.g (w:=tS) (k:=1) (by kernel_rfl) (Zj d (Lx.g (w:=l9) (k:=1) (by kernel_rfl) (ER g f)));unfold sV rV Fa
 cases a with
 | true=>simpa using Lx.g (w:=K1) (k:=1) (by kernel_rfl) ((DB b).u ((DB c).u e))
 | false=>simpa using Lx.g (w:=K1) (k:=1) (by kernel_rfl) ((DB b).u e)
def zcb{c:qD}(d:c.a.b/\c.b.b)(h:oW c=true):Lx (dU c) (nW c):=by
 unfold oW at h;simp only[B3]at h;obtain⟨i,j,m,n,q,b⟩:=h;have a:∀ {s:List Nat} {l:List pD},Lx s l->Lx (tZ c++32::s) ([(1,Gr),(1,c.g),(1,c.e),(1,Jn),(3,rH c.f.toNat),(1,di),du c.i,(1,tS),(3,rH c.c.toNat)]++l):=fun {s l} p=>by
  have e:=Lx.g (w:=tS) (k:=1) (by kernel_rfl) (Zj n p);have g:Lx (Q0 c.i++32::(tS++32::(rH c.c.toNat++32::s))) (du c.i::(1,tS)::(3,rH c.c.toNat)::l):=by
   unfold Q0 du;by_cases f:c.i<65536
   .grind [Zj]
   .rw[A3 f,A3 f];exact Lx.g (w:=Gq) (k:=1) (by kernel_rfl) e
  have:=Lx.g (w:=Gr) (k:=1) (by kernel_rfl) (Lx.g (Hr i) (Lx.g (Hr j) (Lx.g (w:=Jn) (k:=1) (by kernel_rfl) (Zj m (Lx.g (w:=di) (k:=1) (by kernel_rfl) g)))))
  simp_all [tZ]
 unfold dU nW
 cases o:c.h with
 | true=>simpa using a (Lx.i (w:=dj) (k:=1) (by kernel_rfl))
 | false=>
  rw[o,A3 (by simp),B3]at b;have:=a (Lx.g (w:=Mk) (k:=1) (by kernel_rfl) ((FF c.a 1 d.1 b.1).u (Lx.g (w:=Jl) (k:=1) (by kernel_rfl) (FF c.b 1 d.2 b.2))))
  simp_all
def za3{p:uD}(j:p.f)(h:fR p=true):In (xU p) (zhf p):=by
 unfold fR at h;simp only[B3,C8]at h;obtain⟨k,m,n,o⟩:=h;have i:In (p.b.map dU) (p.b.map nW):=by
  have:=In.d.b p.b (f:=dU) (g:=nW) λc i=>zcb (by have:=j.aa c i;exact⟨this.2.2.2.2.2.1,this.2.2.2.2.2.2⟩) (o c i)
  simp_all
 have s:∀l:List aE,(∀x∈l,xX x=true/\∀r∈x.a,r.f.a)->In (l.flatMap Ha++p.b.map dU) (l.flatMap xN++p.b.map nW):=by
  intro l;induction l with
  | nil=>simp_all
  | cons x l u=>
   intro a;obtain⟨e,v⟩:=a x C7;unfold xX at e;rw[B3,C8]at e;have:=((u λy t=>a y (C9 _ t)).b x.a (f:=sV x.c) (g:=rV x.c) λr b=>zuv (v r b) (e.2 r b)).a (zt9 e.1);rw[List.flatMap_cons,List.flatMap_cons,D5,D5];exact this
 exact((s p.a λx a=>⟨n x a,λr b=>((j.ah x a).2.2 r b).2.2.2⟩).b p.c λd q=>zxj (m d q)).a (zmw k)
end Go.Proofs
namespace Go.Proofs
open Go Go.Am
section
variable [fC]
def EY:∀(a b:List (List Nat)),aK (a++b)=aK a++aK b
 | [],b=>rfl
 | x::a,b=>by rw[List.cons_append,aK,aK,EY a b];simp
def zi3(x:List Nat):aK [x]=x++[10]:=by simp[aK]
def EX(a:List (List Nat))(x:List Nat):aK (a++[x])=aK a++(x++[10]):=by rw[EY,zi3]
def Om(p:uD):O:=if fR p=true then(if 65536<(zX p).length then .p [.h [],.e .i64 3]else .p [.h (zX p),.e .i64 0])else .p [.h [],.e .i64 2]
def zmj:∀ {p:Nat->Bool} {s:List Nat},eE p s=s->∀x∈s,p x=true:=by
 intro p s h x a;unfold eE at h;rw[<- h]at a;exact C8.1 List.all_takeWhile x a
def Sk{s:List Nat}(h:fG s=true):pB 256 s:=by
 intro x a;unfold fG at h;split at h
 .cases a
 .simp only[B3]at h;have:=zmj ((eJ _ _).1 h.1.2) x a;unfold lL bN fD at this;simp only[H5,B3,decide_eq_true_eq]at this;omega
end
section
variable {s:List Nat}{g:Bool}{r:oG}{cs:List O}{c:qD}
variable [fC]
variable {t tf:G uA}
def kP (s L:List Nat):Prop:=s=L\/(65536<s.length/\65536<L.length)
theorem kP.a(s:List Nat):kP s s:=.inl rfl
theorem kP.b{L u U:List Nat}(h:kP s L)(k:kP u U):kP (s++u) (L++U):=by
 rcases h with rfl | ⟨a,b⟩
 .rcases k with rfl | ⟨c,d⟩
  .exact .inl rfl
  .exact .inr ⟨by simp;omega,by simp;omega⟩
 .exact .inr ⟨by simp;omega,by simp;omega⟩
def Wr.ln{T:List Nat}(h:Wr [] T s):kP s T:=by
 rcases h with rfl | ⟨a,b⟩
 .exact .inl (by simp)
 .exact .inr ⟨b,by simpa using a⟩
def Zk(c:cM t){d:Int}(a:0<=d)(b:d<65536):oB Y F 74 [.e .i64 d] t=some (.h (rH d.toNat)):=by
 have e:d.toNat<65536:=by omega
 rw[<- TF e,show((d.toNat:Nat):Int)=d by omega];exact zs8 c a b
def OG(n:Nat):(xJ n).length<=10:=by unfold xJ;split<;>simp
def OH(a:sL t){n:Nat}(c:n<7):oB Y F 84 [.e .u8 (n:Int)] t=some (.h (xJ n))/\pB 256 (xJ n):=by
 refine⟨zh4 a (by omega),?_⟩;have:n=0\/n=1\/n=2\/n=3\/n=4\/n=5\/n=6:=by omega
 rcases this with rfl | rfl | rfl | rfl | rfl | rfl | rfl <;> (intro x b;simp[xJ]at b;try omega)
structure T6 (g:Bool) (r:oG):Prop where
 a:(gH (wJ r.a)).length<=40/\pB 256 (gH (wJ r.a))
 b:(gH (wJ r.b)).length<=40/\pB 256 (gH (wJ r.b))
 f:(gH (pK r.f)).length<=220/\pB 256 (gH (pK r.f))/\oM r.f=true
 c:0<=r.c/\r.c<65536
def PA{n:Int}(h:Q8 n):(gH (wJ n)).length<=40/\pB 256 (gH (wJ n)):=by
 have a:=Xx h.1 h.2;have b:=Ri (wJ n);exact⟨by omega,(Xi Xj.1 Xj.2).1⟩
def zbq{f:qF}(d:f.a)(h:lV f=true):(gH (pK f)).length<=220/\pB 256 (gH (pK f))/\oM f=true:=by
 obtain⟨a,b,c⟩:=Wu h;refine⟨?_,(Xi Xk.1 Xk.2).1,a⟩;rw[(We b).1,E1];have:(Hv f.n.b).length<=6:=by unfold Hv;split<;>simp
 omega
def KD  (b:r.e)(a:iT g r=true):T6 g r:=by
 unfold iT xO at a;simp only[B3,decide_eq_true_eq]at a;exact⟨PA b.1,PA b.2.1,zbq b.2.2.2 a.2.2.2.2,a.2.2.2.1⟩
def OJ  (h:T6 g r):(Fa g r).length<=81:=by
 have a:=h.a.1;have b:=h.b.1;unfold Fa;split<;>simp<;>omega
def zml  (h:T6 g r):(sV g r).length<=330:=by
 have a:=OJ h;have b:=h.f.1;have c:=(Bi r.c.toNat).1;unfold sV;simp only[E1,D6,G2];omega
def zuw  (h:T6 g r):pB 256 (sV g r):=by
 have b:pB 256 (Fa g r):=by
  unfold Fa;refine kH h.a.2 ?_;split
  .exact kH (by intro x a;simp at a;omega) h.b.2
  .intro x a;cases a
 unfold sV;refine kH (kH (kH (kH (kH ?_ b) ?_) (Bi _).2) ?_) h.f.2.1
 all_goals (intro x a;simp at a;omega)
def zav(i:cM t)   (c:r.e)(j:iT g r=true)(h:RD t r.d cs):oB Y F 85 [.i cs,.d g] t=some (.h (sV g r)):=by
 have b:=KD c j;have o:=b.a.1;have p:=b.b.1;have q:=b.f.1;have l:=OJ b;have k:=(Bi r.c.toNat).1;obtain⟨u,v,rfl,d,f⟩:=Nj h;have m:Am.A8 10 (.i [O.d r.f.n.b,u,.d r.f.d.b,v]) (.i [O.d r.f.n.b,u,.d r.f.d.b,v])=true:=by
  show Am.A8.sames 9 [O.d r.f.n.b,u,.d r.f.d.b,v] [O.d r.f.n.b,u,.d r.f.d.b,v]=true;simp only[Am.A8.sames,CA,d.g,f.g,Bool.and_self]
 have a:jp 85 9 [.h (Fa g r),.e .i64 r.a,.e .i64 r.b,.e .i64 r.c,.d r.f.n.b,u,.d r.f.d.b,v] t (λv n=>v=.h (sV g r)/\n=t):=by
  refine j85_9 ?_;unfold t85_9 uS V;refine vA (pH (by simp;omega)) (gC (vA (pH (by simp;omega)) (gC (aA ?_))));rw[q74,Zk i b.c.1 b.c.2,xA];refine gC (tA m (vA (pH (by simp;omega)) (gC (vA (pH (by simp;omega)) (gC (aA ?_))))));rw[q73,ES d f c.2.2.2 b.f.2.2,xA];refine gC (vA (pH (by simp;omega)) (gC ⟨?_,rfl⟩));unfold sV;rfl
 refine lC.2 (w85 ?_);unfold t85 uS V;refine aA ?_;rw[q75,Yd c.1.1 c.1.2,xA];refine gC ?_
 cases g with
 | true=>
  refine tA rfl (aA ?_);rw[q75,Yd c.2.1.1 c.2.1.2,xA];exact gC (vA (pH (by simp;omega)) (gC (vA (pH (by simp;omega)) (gC (sC a)))))
 | false=>
  have e:Fa false r=gH (wJ r.a):=by simp[Fa]
  rw[e]at a;exact wB (by simp) (sC a)
structure ClF (c:qD):Prop where
 b:fG c.g=true
 a:fG c.e=true
 d:0<=c.f/\c.f<65536
 e:0<=c.c/\c.c<65536
 to:c.i<65536->0<=c.i
 ex:c.h=false->qJ c.a 1=true/\qJ c.b 1=true
def zpi (h:oW c=true):ClF c:=by
 unfold oW xO at h;simp only[B3,H5,decide_eq_true_eq]at h;refine⟨h.1,h.2.1,h.2.2.1,h.2.2.2.1,λk=>by omega,λk=>?_⟩;have:=h.2.2.2.2.2;rw[k,A3 (by simp),B3]at this;exact this
def AX(n:Int):(Q0 n).length<=10/\pB 256 (Q0 n):=by
 have:=Bi n.toNat;unfold Q0;split
 .exact⟨by omega,this.2⟩
 .exact⟨by simp,by intro x a;simp at a;omega⟩
def zim (h:ClF c):(tZ c).length<=120:=by
 have a:=Aj h.b;have b:=Aj h.a;have d:=(Bi c.f.toNat).1;have e:=(Bi c.c.toNat).1;have f:=(AX c.i).1;unfold tZ;simp only[E1,D6,G2];omega
def zoc (h:ClF c):pB 256 (tZ c):=by
 unfold tZ;refine kH (kH (kH (kH (kH (kH (kH (kH (kH ?_ (Sk h.b)) ?_) (Sk h.a)) ?_) (Bi _).2) ?_) (AX _).2) ?_) (Bi _).2
 all_goals (intro x a;simp at a;omega)
def YZ(k:cM t)(A:vT t){x:qD} {Q:mB}(j:x.j)(D:oW x=true)(E:RD t x.d cs)
  (z:∀t' s,zB t t'->kP s (dU x)->s≠[]->s.length<200000->pB 256 s->Q (.h s) t'):Wc Y F 86 [.i cs] t Q:=by
 have i:=zpi D;have P:=zim i;have R:=Aj i.b;have S:=Aj i.a;have T:=(Bi x.f.toNat).1;have U:=(Bi x.c.toNat).1;have W:=(AX x.i).1;have m:=zoc i;obtain⟨a,b,c,p,q,r,rfl,B,v⟩:=Kh E;have g:A8 10 (.i (qN x.b p q r)) (.i (qN x.b p q r))=true:=v.i;simp only[qN,List.cons_append,F3]at B v g ⊢;have d:jp 86 9 [.h (Q0 x.i),.h x.g,.h x.e,.e .i64 x.f,.e .i64 x.i,.e .i64 x.c,.d x.h,.e .u8 x.a.e,.h x.a.i,.e .u8 x.a.v.a,.d x.a.v.f.n.b,a,.d x.a.v.f.d.b,b,.e .i64 x.a.v.i,c,.e .u8 x.b.e,.h x.b.i,.e .u8 x.b.v.a,.d x.b.v.f.n.b,p,.d x.b.v.f.d.b,q,.e .i64 x.b.v.i,r] t Q:=by
  refine j86_9 ?_;unfold t86_9 uS V uY;refine vA (pH (by simp;omega)) (gC (vA (pH (by simp;omega)) (gC (vA (pH (by simp;omega)) (gC (vA (pH (by simp;omega)) (gC (aA ?_))))))));rw[q74,Zk k i.d.1 i.d.2,xA];refine gC (tA Hg (tA Hg (tA Hh (vA (pH (by simp;omega)) (gC (vA (pH (by simp;omega)) (gC (vA (pH (by simp;omega)) (gC (vA (pH (by simp;omega)) (gC (aA ?_))))))))))));rw[q74,Zk k i.e.1 i.e.2,xA];refine gC (tA Hg (tA Hg (vA (pH (by simp;omega)) (gC ?_))))
  have C:[99,108,97,117,115,101,32]++x.g++[32]++x.e++[32,102,114,111,109,32]++rH x.f.toNat++[32,116,111,32]++Q0 x.i++[32,107,110,111,119,110,32]++rH x.c.toNat=tZ x:=rfl;rw[C];have u:tZ x≠[]:=λe=>by unfold tZ at e;simp at e
  have n:∀l:List Nat,tZ x++l≠[]:=λl e=>u (List.append_eq_nil_iff.1 e).1
  cases f:x.h with
  | true=>
   refine tA rfl (vA (pH (by simp;omega)) (gC ?_));refine z _ _ (zB.f _) ?_ (n _) (by simp;omega) (kH m (by intro x j;simp at j;omega));unfold dU;rw[A5 f];exact kP.a _
  | false=>
   obtain⟨J,I⟩:=i.ex f;refine wB (by simp) (vA (pH (by simp;omega)) (gC (aA ?_)));rw[q28];refine RB j.2.2.2.2.2.1 J k A B λt1 X o _ K M w=>?_;refine gC (tA g (vA (pH (by simp;omega)) (gC (vA (pH (by simp;omega)) (gC (aA ?_))))));rw[q28];refine RB j.2.2.2.2.2.2 I (k.a o) (A.a o) (v.f o) λt2 Z H _ L N y=>?_;refine gC (vA (pH (by simp;omega)) (gC ?_));refine z _ _ (o.d H) ?_ ?_ (by simp;omega) ?_
   .unfold dU;rw[A3 (by rw[f];simp)];have:=((((kP.a (tZ x)).b (kP.a [32,119,104,101,110,32])).b K.ln).b (kP.a [32,116,104,101,110,32])).b L.ln;simpa[D5]using this
   .simp only[D5];exact n _
   .exact kH (kH (kH (kH m (by intro x j;simp at j;omega)) w) (by intro x j;simp at j;omega)) y
 refine w86 ?_;unfold t86 uS V uY;by_cases h:x.i<65536
 .refine tA (iK h) (aA ?_);rw[q74,Zk k (i.to h) h,xA];unfold Q0 at d;rw[A5 h]at d;exact gC (sC d)
 .unfold Q0 at d;rw[A3 h]at d;exact wB (dK h) (sC d)
end
section
variable {b:Nat}{d:pF}
variable [fC]
variable {t tf:G uA}
def km  : jB Y 52 0 (.j b 0)=some (.j b 0):=by kernel_rfl
def kn  : jB Y 52 1 (.j b 0)=some (.j b 1):=by kernel_rfl
def kp  : jB Y 52 2 (.j b 0)=some (.j b 2):=by kernel_rfl
def kr  : jB Y 52 3 (.j b 0)=some (.j b 3):=by kernel_rfl
def OF (h:aR d=true):fG d.a=true/\1<=d.b/\d.b<7:=by
 unfold aR at h;simp only[B3,decide_eq_true_eq]at h;exact⟨h.1,h.2.1,by omega⟩
def zb3{t:G uA}(e:sL t) (h:aR d=true):(Fr d).length<=50/\pB 256 (Fr d):=by
 obtain⟨b,f,c⟩:=OF h;have i:=Aj b;have g:=OG d.b;unfold Fr;constructor
 .have:(if d.c=true then [102,97,99,116,32]else [100,101,102,32]:List Nat).length<=5:=by split<;>simp
  simp only[E1,D6,G2];omega
 .refine kH (kH (kH ?_ (Sk b)) (by intro x a;simp at a;omega)) (OH e c).2;split <;> (intro x a;simp at a;omega)
def zap{x:aE}(h:fG x.b=true):(Hb x).length<=50/\pB 256 (Hb x):=by
 have b:=Aj h;unfold Hb;constructor
 .have:(if x.c=true then [32,116,119,111]else [32,111,110,101]:List Nat).length<=4:=by split<;>simp
  simp only[E1,D6,G2];omega
 .refine kH (kH (by intro x a;simp at a;omega) (Sk h)) ?_;split <;> (intro x a;simp at a;omega)
def zhg{l w:Nat}{p:uD}{a b c:O}{I:List (List Nat)->G uA->Prop}{E:G uA->Prop}{Q:mB}(hp:p.f)(hP:fR p=true)(D:∀k t,I k t->zB tf t)(ag:∀k t t',I k t->zB t t'->I k t')
  (hM:cM tf) (hW:vT tf) (hK:sL tf) (c0:xC tf w none [.h p.e,a,b,c]) (ra:bA tf 3 (p.c.map pF.d) a) (rb:bA tf 3 (p.a.map aE.d) b) (rc:bA tf 24 (p.b.map qD.d) c)
  (hy:∀k L rest t B Q1,xU p=k++L::rest->I k t->kP B L->B≠[]->B.length<200000->pB 256 B->(∀t',E t'->Q1 (.d false) t')->(∀t',I (k++[L]) t'->Q1 (.d true) t')->Wq Y F dC (yo+l) [.h B] t Q1)
  (hE:∀t,E t->Q (.p []) t) (hF:∀t,I (xU p) t->Q (.p []) t) (h0:I [] t):Wc Y F 83 [.q (.ac l) [] [],.j w 0] t Q:=by
 have cy:∀(f:Nat) (s:List Nat) (K:O->T) (t:G uA),Wq Y F dC (yo+l) [.h s] t (λv t'=>iA Y.a (Wq Y F dC) (Jq Y F f) (K v) t' Q)->wp f (.n (.q (.ac l) [] []) [.h s] K) t Q:=by
  intro f s K t h;exact h
 have u:∀(k:List (List Nat)) (L:List Nat) (rest:List (List Nat)) (t:G uA) (B:List Nat) (N:T),xU p=k++L::rest->I k t->kP B L->B≠[]->B.length<200000->pB 256 B->(∀t',I (k++[L]) t'->wp 83 N t' Q)->wp 83 (.n (.q (.ac l) [] []) [.h B] λv=>.q v λb=>.a (!b) (.l (.p [])) N) t Q:=by
  intro k L rest t B N h1 y h3 h4 h5 h6 h7;refine cy _ _ _ _ ?_;exact hy k L rest t B _ h1 y h3 h4 h5 h6 (λt' he=>cC (tA rfl (hE t' he))) λt' X=>cC (wB (by simp) (h7 t' X))
 have au:=hP;unfold fR at hP;simp only[B3,C8]at hP;obtain⟨pn,pd,pt,pc⟩:=hP;have aj:=hp.ak;have al:=hp.aj;have ai:=hp.ac;unfold tE at aj al ai;have nn:=Aj pn;have a6:∀(m i:Nat) (k:List (List Nat)) (t:G uA),i+m=p.b.length->xU p=k++(p.b.drop i).map dU->I k t->jp 83 14 [.q (.ac l) [] [],c,.e .i64 (p.b.length:Int),.e .i64 (i:Int)] t Q:=by
  intro m;induction m with
  | zero=>
   intro i k t X g h;refine zrl ?_;unfold xn;refine wB (dK (by omega)) (hF t ?_);rw[F1 (by omega),List.map_nil,Do]at g;rw[g];exact h
  | succ m ih=>
   intro i k t X g h;have r:i<p.b.length:=by omega
   have Z:=F2 r;rw[F8 r,L1]at g;obtain⟨b',ab,C,g1,g2,g3,g4,R⟩:=mG.at O5 (by simp) (rc.a (D _ t h)) (i:=i) (d:=p.b[i].d) (by simp[r]);refine zrl ?_;unfold xn uB uS uG aB uC V;refine tA (iK (by omega)) (vA g1 (iB g2 ?_));rw[Cf];refine aC (vO R (qD.k _)) ?_;have P:l8 (AN C)=C:=R.mk (qD.k p.b[i]);have hA:U6 (AN C)=.i C:=congrArg O.i P;rw[P];refine tA R.e (aA ?_);rw[hA,q86];have n:=D _ t h;refine YZ (hM.a n) (hW.a n) (hp.aa _ Z) (pc _ Z) R λt1 s ad k1 k2 k3 k4=>gC ?_
   refine u k _ _ _ _ _ g (ag _ _ _ h ad) k1 k2 k3 k4 λU y=>sC ?_;rw[A2 (by omega) (by omega),show(i:Int)+1=((i+1:Nat):Int) by omega];exact ih (i+1) _ U (by omega) (by rw[g];simp) y
 have aa:∀(m i:Nat) (k:List (List Nat)) (t:G uA),i+m=p.a.length->xU p=k++((p.a.drop i).flatMap Ha++p.b.map dU)->I k t->jp 83 6 [.q (.ac l) [] [],.j w 0,b,.e .i64 (p.a.length:Int),.e .i64 (i:Int)] t Q:=by
  intro m;induction m with
  | zero=>
   intro i k t X g h;refine j83_6 ?_;unfold xl uI V;rw[F1 (by omega),List.flatMap_nil,F3]at g;have n:=D _ t h;have o:=(rc.a n).c;rw[C5]at o;refine wB (dK (by omega)) (vA kr (iB ((c0.l n).f (j:=3) S9 rfl rfl) (vA o (tB (sC ?_)))));exact a6 p.b.length 0 k t (by omega) (by rw[H6];exact g) h
  | succ m ih=>
   intro i k t X g h;have r:i<p.a.length:=by omega
   have Z:=F2 r;have J:=hp.ah _ Z;have A:=pt _ Z;unfold xX at A;rw[B3,C8]at A;have ak:=J.2.1;unfold tE at ak;have tl:=zap A.1;have tn:=Aj A.1;rw[F8 r,List.flatMap_cons]at g;obtain⟨b',ab,C,g1,g2,_,_,R⟩:=mG.at O4 (by simp) rb (i:=i) (d:=p.a[i].d) (by simp[r]);obtain⟨q,rfl,a1⟩:=Rs R;have am:q.z=true:=a1.e;have n:=D _ t h;have ld:oA Y 92 ⟨0,t⟩ (.j b' ab)=some (Qp true [.h p.a[i].b,.d p.a[i].c,q]):=Qq (H:=⟨0,tf⟩) (HA:=⟨0,t⟩) n g2
   have a8:∀(m j:Nat) (k:List (List Nat)) (t:G uA),j+m=p.a[i].a.length->xU p=k++((p.a[i].a.drop j).map (sV p.a[i].c)++((p.a.drop (i+1)).flatMap Ha++p.b.map dU))->I k t->jp 83 10 [.q (.ac l) [] [],.j w 0,b,.e .i64 (p.a.length:Int),.e .i64 (i:Int),q,.e .i64 (p.a[i].a.length:Int),.e .i64 (j:Int),.h p.a[i].b,.d p.a[i].c,q] t Q:=by
    intro m';induction m' with
    | zero=>
     intro j k t hj g h;refine zrm ?_;unfold xm uC V;refine wB (dK (by omega)) (sC ?_);rw[A2 (by omega) (by omega),show(i:Int)+1=((i+1:Nat):Int) by omega];exact ih (i+1) k t (by omega) (by rw[g,F1 (by omega),List.map_nil,F3]) h
    | succ m' ao=>
     intro j k t hj g h;have M:j<p.a[i].a.length:=by omega
     have S:=F2 M;rw[F8 M,L1,List.cons_append]at g;have n:=D _ t h;obtain⟨aq,ap,C,k1,k2,k3,k4,k5⟩:=mG.at T0 (by simp) (a1.a n) (i:=j) (d:=p.a[i].a[j].d) (by simp[M]);refine zrm ?_;unfold xm uB uS uG aB uC V;refine tA (iK (by omega)) (vA k1 (iB k2 ?_));rw[Cf];refine aC (vO k5 (oG.g _)) ?_;have P:wy (AN C)=C:=k5.mk (oG.g p.a[i].a[j]);have hA:mu (AN C)=.i C:=congrArg O.i P;rw[P];have ae:=KD (J.2.2 _ S) (A.2 _ S)
     have av:=zml ae;refine tA k5.e (aA ?_);rw[hA,q85,zav (hM.a n) (J.2.2 _ S) (A.2 _ S) k5,xA];refine gC (u k _ _ _ _ _ g h (kP.a _) (λe=>by unfold sV at e;simp at e) (by omega) (zuw ae) λU y=>sC ?_);rw[A2 (by omega) (by omega),show(j:Int)+1=((j+1:Nat):Int) by omega];exact ao (j+1) _ U (by omega) (by rw[g];simp) y
   have next:jp 83 31 [.q (.ac l) [] [],.j w 0,.h (if p.a[i].c=true then [32,116,119,111]else [32,111,110,101]),b,.e .i64 (p.a.length:Int),.e .i64 (i:Int),.h p.a[i].b,.d p.a[i].c,q] t Q:=by
    refine j83_31 ?_;unfold zqe uI uB uS V;have ah:(if p.a[i].c=true then [32,116,119,111]else [32,111,110,101]:List Nat).length<=4:=by split<;>simp
    refine vA (pH (by simp;omega)) (gC (vA (pH (by simp only[E1,D6,G2];omega)) (gC ?_)));have W:xU p=k++Hb p.a[i]::(p.a[i].a.map (sV p.a[i].c)++((p.a.drop (i+1)).flatMap Ha++p.b.map dU)):=by
     rw[g];simp[Ha]
    refine u k _ _ _ _ _ W h (kP.a _) (λe=>by simp at e) (by have:=tl.1;unfold Hb at this;omega) tl.2 λU y=>?_;have o:=(a1.a (D _ _ y)).c;rw[C5]at o;refine vA o (tB (sC ?_));exact a8 p.a[i].a.length 0 _ U (by omega) (by rw[W];simp) y
   refine j83_6 ?_;unfold xl uG aB V;refine tA (iK (by omega)) (vA g1 (iB ld ?_));rw[Cf];refine aC (vO R (aE.f _)) ?_;refine tA ?_ ?_
   .show nD O.z [.h p.a[i].b,.d p.a[i].c,q]=true;rw[gI];simp only[ce,sa,am];rfl
   show wp 83 (.a p.a[i].c (.j 31 [.q (.ac l) [] [],.j w 0,.h [32,116,119,111],b,.e .i64 (p.a.length:Int),.e .i64 (i:Int),.h p.a[i].b,.d p.a[i].c,q]) (.j 31 [.q (.ac l) [] [],.j w 0,.h [32,111,110,101],b,.e .i64 (p.a.length:Int),.e .i64 (i:Int),.h p.a[i].b,.d p.a[i].c,q])) t Q;by_cases z:p.a[i].c=true
   .rw[A5 z]at next;exact tA z (sC next)
   .rw[A3 z]at next;exact wB z (sC next)
 have a7:∀(m i:Nat) (k:List (List Nat)) (t:G uA),i+m=p.c.length->xU p=k++((p.c.drop i).map Fr++(p.a.flatMap Ha++p.b.map dU))->I k t->jp 83 2 [.q (.ac l) [] [],.j w 0,a,.e .i64 (p.c.length:Int),.e .i64 (i:Int)] t Q:=by
  intro m;induction m with
  | zero=>
   intro i k t X g h;refine j83_2 ?_;unfold xk uI V;rw[F1 (by omega),List.map_nil,F3]at g;have n:=D _ t h;have o:=(rb.a n).c;rw[C5]at o;refine wB (dK (by omega)) (vA kp (iB ((c0.l n).f (j:=2) cz rfl rfl) (vA o (tB (sC ?_)))));exact aa p.a.length 0 k t (by omega) (by rw[H6];exact g) h
  | succ m ih=>
   intro i k t X g h;have r:i<p.c.length:=by omega
   have Z:=F2 r;have ac:=pd _ Z;have df:=zb3 hK ac;obtain⟨dn,ar,af⟩:=OF ac;have dl:=Aj dn;rw[F8 r,L1,List.cons_append]at g;have n:=D _ t h;obtain⟨b',ab,C,g1,g2,_,_,R⟩:=mG.at TO (by simp) (ra.a n) (i:=i) (d:=p.c[i].d) (by simp[r]);obtain rfl:=Nk R;have next:jp 83 15 [.q (.ac l) [] [],.j w 0,.h (if p.c[i].c=true then [102,97,99,116,32]else [100,101,102,32]),a,.e .i64 (p.c.length:Int),.e .i64 (i:Int),.h p.c[i].a,.e .u8 (p.c[i].b:Int),.d p.c[i].c] t Q:=by
    refine j83_15 ?_;unfold zqf uB uS uC V uY;have ah:(if p.c[i].c=true then [102,97,99,116,32]else [100,101,102,32]:List Nat).length<=5:=by split<;>simp
    have kl:=OG p.c[i].b;refine vA (pH (by omega)) (gC (vA (pH (by simp only[E1,D6,G2];omega)) (gC (aA ?_))));rw[q84,(OH (hK.a n) af).1,xA];refine gC (tA Hg (vA (pH (by simp only[E1,D6,G2];omega)) (gC ?_)));refine u k _ _ _ _ _ g h (kP.a _) (λe=>by simp at e) (by have:=df.1;unfold Fr at this;omega) df.2 λU y=>sC ?_;rw[A2 (by omega) (by omega),show(i:Int)+1=((i+1:Nat):Int) by omega];exact ih (i+1) _ U (by omega) (by rw[g];simp) y
   refine j83_2 ?_;unfold xk uG V;refine tA (iK (by omega)) (vA g1 (iB g2 ?_));rw[Cf];refine aC (vO R (pF.f _)) (tA rfl ?_);show wp 83 (.a p.c[i].c (.j 15 [.q (.ac l) [] [],.j w 0,.h [102,97,99,116,32],a,.e .i64 (p.c.length:Int),.e .i64 (i:Int),.h p.c[i].a,.e .u8 (p.c[i].b:Int),.d p.c[i].c]) (.j 15 [.q (.ac l) [] [],.j w 0,.h [100,101,102,32],a,.e .i64 (p.c.length:Int),.e .i64 (i:Int),.h p.c[i].a,.e .u8 (p.c[i].b:Int),.d p.c[i].c])) t Q
   by_cases hf:p.c[i].c=true
   .rw[A5 hf]at next;exact tA hf (sC next)
   .rw[A3 hf]at next;exact wB hf (sC next)
 have n:=D _ t h0;refine w83 ?_;unfold t83 uI uB uS V;refine vA km (iB ((c0.l n).f (j:=0) iI rfl rfl) (gC (vA (pH (by simp;omega)) (gC ?_))));have g:xU p=[]++uj p.e::(p.c.map Fr++(p.a.flatMap Ha++p.b.map dU)):=rfl;refine u [] _ _ _ _ _ g h0 (kP.a _) (λe=>by simp at e) (by simp;omega) (kH (by intro x hx;simp at hx;omega) (Sk pn)) λU y=>?_;have o:=(ra.a (D _ _ y)).c;rw[C5]at o;refine vA kn (iB ((c0.l (D _ _ y)).f (j:=1) S8 rfl rfl) (vA o (tB (sC ?_))))
 exact a7 p.c.length 0 _ U (by omega) (by rw[g];simp) y
end
section
variable [fC]
variable {t tf:G uA}
def zcs{b T:Nat}{y:jD}{lo:Option Lo}(g:Y.b.c T=some y)(a:bL Y T=lo)(h:t.c b=none):∃t',Js Y T ⟨b,t⟩=some (.j b 0,⟨b+1,t'⟩)/\xC t' b lo y.c/\zB t t'/\jF b t t':=by
 obtain⟨t',c,d,e,f⟩:=Ep h y.c lo;refine⟨t',?_,d,e,f⟩;unfold Js;rw[g,lA,a,c]
def zbh{r:yP}(j:r.e=.ready)(k:r.a=none):eP true r=r:=by
 obtain⟨a,b,c,d,e,f,g,h,i⟩:=r;have j:a=.ready:=j;have k:b=none:=k;subst j;subst k;rfl
theorem BX.up{T k:Nat}{l:List O}{s:List Nat}{t':G uA}(h:BX T l tf t k s)(d:zB t t'):BX T l tf t' k s:=by
 refine h.r (h.g.d d) λb u=>?_;have:∃y,t.c b=some y:=by
  obtain⟨x,z,A,D,C,p,n,E,a,r,B⟩:=h;rcases u with rfl | ⟨F,f,i,w⟩
  .obtain⟨c,a,_⟩:=a;exact⟨_,a⟩
  .have e:f=n:=by
    obtain⟨c,i,j⟩:=i;obtain⟨o,a,g⟩:=a;rw[i]at a;have q:c=o:=by
     have:=D9 a;injection this
    have:=j 1 f rfl;rw[q,g 1 n rfl]at this;exact(D9 this).symm
   subst e
   cases v:t.c b with
   | none=>exact absurd v (EJ r w)
   | some y=>exact⟨y,rfl⟩
 obtain⟨y,m⟩:=this;rw[m,d _ _ m]
def kP.c{s L:List Nat}(h:kP s L)(a:¬ 65536<s.length):s=L:=by
 rcases h with h | h
 .exact h
 .exact absurd h.1 a
def QB{p:uD}{cs:List O}{Q:mB}(hp:p.f)(hM:cM t)(hW:vT t)(hK:sL t)(hr:RD t p.d cs)(hQ:∀t',zB t t'->(fR p=true->¬ 65536<(zX p).length->pB 256 (zX p))->Q (Om p) t'):Wc Y F 17 [.i cs] t Q:=by
 have b3:=hr;obtain⟨a,b,c,rfl,ra,rb,rc⟩:=nY hr;refine w17 ?_;unfold t17 uB uS V;refine jC λn ak a6=>?_;obtain⟨t1,e1,c1,l1,o1⟩:=yQ (C:=Y) iI ak;refine⟨_,_,e1,jC λq ab a7=>?_⟩;obtain⟨t2,e2,c2,l2,o2⟩:=yQ (C:=Y) qS ab;refine⟨_,_,e2,aA ?_⟩;have ac:zB t t2:=l1.d l2;have b7:=b3.f ac;rw[q18,XC hp b7,xA];refine cC ?_;have i:n≠q:=by intro e;obtain⟨c,h,_⟩:=c1;rw[e,ab]at h;cases h
 have al:t.c n=none:=ak;have am:t.c q=none:=Cr l1 ab;have o:∀ {u v1 X:G uA},zB t u->jF n u v1->jF q v1 X->zB t X:=λh d f b y D=>by
  have ae:b≠n:=λe=>by rw[e,al]at D;cases D
  have af:b≠q:=λe=>by rw[e,am]at D;cases D
  rw[f b af,d b ae];exact h _ _ D
 cases hP:fR p with
 | false=>
  refine tA rfl (jC λm1 _ _=>?_);have s:xC t2 n none [.h []]:=c1.i (o2 n i);obtain⟨v1,d1,d2,Z⟩:=s.g (v:=.h []) a6 iI rfl rfl rfl (j:=0) (by simp);refine⟨_,_,d1 m1,jC λm2 _ _=>?_⟩;have g:xC v1 q none [.e .i64 0]:=xC.i c2 (Z q i.symm);obtain⟨X,f1,f2,f3⟩:=g.g (v:=.e .i64 2) a7 qS rfl rfl rfl (j:=0) (by simp);refine⟨_,_,f1 m2,?_⟩;have a1:xC X n none [.h []]:=d2.i (f3 n i);refine iB (a1.f (j:=0) iI rfl rfl) (iB (f2.f (j:=0) qS rfl rfl) ?_)
  have:=hQ X (o ac Z f3) (λe=>by rw[hP]at e;cases e);unfold Om at this;rw[hP]at this;exact this
 | true=>
 have hN:Om p=if 65536<(zX p).length then .p [.h [],.e .i64 3]else .p [.h (zX p),.e .i64 0]:=by unfold Om;rw[A5 hP]
 refine wB (by simp) (jC λbx S ay=>?_);obtain⟨t3,e3,c3,l3,o3⟩:=zcs (T:=98) (lo:=some (.a 98)) ty98 (by kernel_rfl) S;refine⟨_,_,e3,aA ?_⟩;have bd:n≠bx:=by intro e;obtain⟨c,h,_⟩:=c1;have h:=l2 _ _ h;rw[e,S]at h;cases h
 have be:q≠bx:=by intro e;obtain⟨c,h,_⟩:=c2;rw[e,S]at h;cases h
 rw[q41];refine w41 ?_;unfold t41;refine jC λw hw bc=>?_;generalize ap:(uA.aa (G.ac [.h p.e,a,b,c]) 4 none)=yw;have ew:dL (.i [.h p.e,a,b,c]) ⟨w,t3⟩=some (.j w 0,⟨w+1,t3.d w yw⟩):=by rw[<- ap];rfl
 refine⟨_,_,ew,?_⟩;show wp 17 _ (t3.d w yw) Q;have bf:w≠bx:=by intro e;obtain⟨c,h,_⟩:=c3;rw[<- e,hw]at h;cases h
 have aw:BX 98 [] t2 t3 bx []:=⟨ay,S,l3,(by intro x hx;cases hx),rfl,.y,.g,.inl rfl,c3,.inl ⟨rfl,rfl⟩,Yb,λ_=>rfl⟩;have N:=aw.k hw yw;have ar:t2.c w=none:=Cr l3 hw;have W:zB t2 (t2.d w yw):=(oO ar yw).1;generalize hf:t2.d w yw=K at N W;generalize t3.d w yw=tR at N;have cw:xC K w none [.h p.e,a,b,c]:=by
  rw[<- hf];exact⟨_,by rw[G.aa,A5 rfl,<- ap];rfl,λj a hj=>by rw[G.o];exact hj⟩
 have s:xC K n none [.h []]:=(c1.i (o2 n i)).l W;have M:xC K q none [.e .i64 0]:=xC.l c2 W;have U:zB t K:=ac.d W;refine⟨Nat.le_add_right _ _,λl r ah bb b4 b5 b8=>?_⟩;have b6:Cn (jQ Y) (.q (.aa 83) [] [.j w 0]) l=some (83,[.q (.ac l) [] [],.j w 0]):=by
  unfold Cn;simp only[O.am,lA];have:jQ Y 83=true:=by kernel_rfl
  rw[this];rfl
 rw[b6,xA];have H:K.c l=none:=Cr N.g ah;have aq:zB K (K.d l (.ac r)):=(oO H _).1;have z:=U.d aq;rw[show Wq Y F dC 83=Wc Y F 83 by funext a m R;exact q83 a m R];have nl:∀ {b:Nat} {lo:Option Lo} {cs:List O},xC K b lo cs->b≠l:=λh e=>by obtain⟨c,h,_⟩:=h;rw[e,H]at h;cases h
 refine zhg (tf:=K.d l (.ac r)) (p:=p)
  (I:=λA t'=>(aK A).length<=65536/\BX 98 [] (K.d l (.ac r)) t' bx (aK A))
  (E:=λt'=>65536<(zX p).length/\t'.c l=some (.ac (eP false r))/\xC t' n none [.h []]/\xC t' q none [.e .i64 3]/\∀b y,t.c b=some y->t'.c b=some y/\b≠l) hp hP
  (λA t' h=>h.2.g) (λA t' bg h k=>⟨h.1,h.2.up k⟩) (hM.a z) (hW.a z) (hK.a z) (cw.l aq) (ra.a z) (rb.a z) (rc.a z) ?_ ?_ ?_ ⟨by simp[aK],N.k ah (.ac r)⟩
 .intro A L J t' ln Q1 b0 hI ai b2 ba b1 hE hT;obtain⟨hs,hB⟩:=hI;have a8:t'.c l=some (.ac r):=hB.g _ _ (by rw[G.aa,A5 rfl]);have P:=BX.q H hB;have ao:(zX p).length=(aK A).length+(L.length+1)+(aK J).length:=by
   unfold zX;rw[b0,show A++L::J=(A++[L])++J by simp,EY,EX];simp only[E1,D6,G2];try omega
  refine b8 [.h ln] t' Q1 rfl a8 ?_;show jp 17 2 [.j n 0,.j q 0,.j bx 0,.h ln] _ _;refine j17_2 ?_;unfold t17_2 uI xH V;refine aA ?_;rw[q42];refine P.f b2 b1 (by omega) λ_ u1 ax=>aA ?_;rw[q42];refine ax.f (m:=[10]) (by simp) (λx hx=>by simp at hx;omega) (by simp;omega) λ_ u2 B=>aA ?_;rw[q43,B.w,xA];have az:(aK A++ln++[10]).length=(aK A).length+ln.length+1:=by simp only[E1,D6,G2]
  rw[az];refine tB ?_;by_cases b9:65536<(aK A).length+ln.length+1
  .refine tA (iK (by omega)) (jC λm1 _ _=>?_);obtain⟨v1,d1,d2,Z⟩:=(s.l B.g).g (v:=.h []) a6 iI rfl rfl rfl (j:=0) (by simp);refine⟨_,_,d1 m1,jC λm2 _ _=>?_⟩;have g:xC v1 q none [.e .i64 0]:=(M.l B.g).i (Z q i.symm);obtain⟨X,f1,f2,f3⟩:=g.g (v:=.e .i64 3) a7 qS rfl rfl rfl (j:=0) (by simp);refine⟨_,_,f1 m2,λaj=>⟨false,rfl,hE _ ?_⟩⟩;refine⟨?_,by rw[G.aa,A5 rfl],(d2.i (f3 n i)).o (nl s) _,f2.o (nl M) _,λb y D=>?_⟩
   .rw[ao];rcases ai with rfl | h
    .omega
    .omega
   .have ag:b≠l:=λe=>by have:=U _ _ D;rw[e,H]at this;cases this
    refine⟨?_,ag⟩;rw[G.aa,A3 ag];exact o (U.d B.g) Z f3 _ _ D
  .obtain rfl:=ai.c (by omega);refine wB (dK (by omega)) λaj=>⟨true,rfl,?_⟩;rw[zbh b4 b5];have ad:=B.k aj (.ac r);rw[show aK A++ln++[10]=aK (A++[ln]) by rw[EX,D5]]at ad;exact hT _ ⟨by rw[EX];simp;omega,ad⟩
 .intro t' ⟨h1,h2,h3,h4,h5⟩;refine .inr ⟨h2,?_⟩;have au:xC (t'.q l) n none [.h []]:=h3.i (by rw[G.e,A3 (nl s)]);have av:xC (t'.q l) q none [.e .i64 3]:=h4.i (by rw[G.e,A3 (nl M)]);refine iB (au.f (j:=0) iI rfl rfl) (iB (av.f (j:=0) qS rfl rfl) ?_);have:=hQ (t'.q l) (λb y D=>by
   rw[G.e,A3 (h5 b y D).2];exact(h5 b y D).1) (λ_ hn=>absurd h1 hn)
  rw[hN,A5 h1]at this;exact this
 .intro t' ⟨h1,hB⟩;have a8:t'.c l=some (.ac r):=hB.g _ _ (by rw[G.aa,A5 rfl]);refine .inl ⟨a8,?_⟩;have P:=BX.q H hB;have hs:aK (xU p)≠[]:=λe=>by unfold xU uj aK at e;simp at e
  refine aA ?_;rw[q44];refine P.i (by omega) λu aa=>?_;refine gC (jC λm1 _ _=>?_);obtain⟨v1,d1,d2,Z⟩:=(s.l aa).g (v:=.h (aK (xU p))) a6 iI rfl rfl rfl (j:=0) (by simp);refine⟨_,_,d1 m1,jC λm2 _ _=>?_⟩;have g:xC v1 q none [.e .i64 0]:=(M.l aa).i (Z q i.symm);obtain⟨X,f1,f2,f3⟩:=g.g (v:=.e .i64 0) a7 qS rfl rfl rfl (j:=0) (by simp);refine⟨_,_,f1 m2,?_⟩;have a1:xC X n none [.h (aK (xU p))]:=d2.i (f3 n i)
  refine iB (a1.f (j:=0) iI rfl rfl) (iB (f2.f (j:=0) qS rfl rfl) ?_);have:=hQ X (o (U.d aa) Z f3) (λ_ _=>P.2.2.2.1);rw[hN,A3 (by unfold zX;omega)]at this;exact this
end
section
variable {i:Int}{R:List pD}{c:qD}
section
variable {tk:List xD}{K:List pD}(a:tk.map kt=K){n:Nat}
include a
theorem zrh (h:bY i=true) (b:K.drop n=iV i++R):yW tk n=.ok i (n+(iV i).length):=by
 have f:=zh7 h;unfold iV at b ⊢;have e:B0 tk pJ n=decide (i<0):=by
  cases c:decide (i<0)with
  | true=>rw[c]at b;exact tM a (cD (show K.drop n=(1,pJ)::([(2,eF i.natAbs)]++R) from by rw[b];rfl)) (.inl rfl)
  | false=>rw[c]at b;exact Bs a (cD (show K.drop n=(2,eF i.natAbs)::R from by rw[b];rfl)) (.inl rfl) _
 rw[D5]at b;have d:=cD (show K.drop (n+(jM (decide (i<0))).length)=(2,eF i.natAbs)::R from wM b);have g:(if decide (i<0)=true then n+1 else n)=n+(jM (decide (i<0))).length:=by unfold jM;split<;>rfl
 grind [sP,Bf,Uf,yW,Cv,Qx,FX]
theorem zv7{k:Nat}(b:1<=k)(c:k<=6)(h:K[n]?=some (1,xJ k)):nK tk xJ 6 6 1 n=.ok k (n+1):=by
 have:k=1\/k=2\/k=3\/k=4\/k=5\/k=6:=by omega
 clear b c;have f:B0 tk (xJ k) n=true:=tM a h (.inl rfl);have e:∀w,xJ k≠w->B0 tk w n=false:=λw d=>eH a h d;rcases this with rfl | rfl | rfl | rfl | rfl | rfl
 all_goals grind [nK,xJ]
theorem Zi (h:xO i=true)(b:K[n]?=some (3,rH i.toNat)):eO tk n=.ok i (n+1):=by
 rw[SA a b,GG (Zm h).1];show PR.ok (((i.toNat:Nat):Int)) _=_;rw[(Zm h).2]
def zxl{d:pF}(h:aR d=true) (e:K.drop n=Fs d++(5,[])::R)(p:uD):iO tk p n=.ok ⟨p.e,p.c++[d],p.a,p.b⟩ (n+(Fs d).length):=by
 unfold aR at h;simp only[B3,decide_eq_true_eq]at h;have e:K.drop n=(1,if d.c=true then cW else O9)::(1,d.a)::(1,xJ d.b)::(5,[])::R:=e;have c:=cD e;have g:∀b,mZ tk b (n+1)=.ok ⟨d.a,d.b,b⟩ (n+3):=λb=>by
  unfold mZ;rw[Kr a (cD (rF e)) h.1];show(nK tk xJ 6 6 1 (n+1+1)).c _=_;rw[zv7 a h.2.1 h.2.2 (cD (rF (rF e)))];rfl
 unfold iO
 cases f:d.c with
 | true=>
  rw[f]at c;have c:K[n]?=some (1,cW):=c;rw[tM a c (.inl rfl),A5 rfl,g true,<- f];rfl
 | false=>
  rw[f]at c;have c:K[n]?=some (1,O9):=c;rw[eH a c (by decide),tM a c (.inl rfl),A3 (by simp),A5 rfl,g false,<- f];rfl
def ku{x:aE}(h:fG x.b=true) (c:K.drop n=Dy x++(5,[])::R)(p:uD):iO tk p n=.ok ⟨p.e,p.c,p.a++[⟨x.b,x.c,[]⟩],p.b⟩ (n+(Dy x).length):=by
 have c:K.drop n=(1,Ql)::(1,x.b)::(1,if x.c=true then Cd else K0)::(5,[])::R:=c;have d:=cD c;have b:=cD (rF (rF c));unfold iO;rw[eH a d (by decide),eH a d (by decide),tM a d (.inl rfl),A3 (by simp),A3 (by simp),A5 rfl];unfold Jz;rw[Kr a (cD (rF c)) h];show PR.c (if B0 tk Cd (n+1+1)then _ else _) _=_
 cases e:x.c with
 | true=>
  rw[e]at b;have b:K[n+1+1]?=some (1,Cd):=b;rw[tM a b (.inl rfl),A5 rfl];rfl
 | false=>
  rw[e]at b;have b:K[n+1+1]?=some (1,K0):=b;rw[eH a b (by decide),A3 (by simp)];show PR.c ((mE tk K0 (n+1+1)).c _) _=_;rw[bR a b (.inl rfl)];rfl
theorem zux{r:oG}{b:Bool}(v:r.f.a)(h:iT b r=true) (i:K.drop n=rV b r++(5,[])::R){p:uD}(B:p.a≠[])(w:Ld p.a=b):iO tk p n=.ok ⟨p.e,p.c,nP p.a r,p.b⟩ (n+(rV b r).length):=by
 unfold iT at h;simp only[B3]at h;obtain⟨k,l,z,o,q⟩:=h;obtain⟨y,C,_⟩:=Wu q;have i:K.drop n=(1,K1)::(iV r.a++((if b=true then iV r.b else [])++((1,tS)::(3,rH r.c.toNat)::(1,l9)::(jM r.f.n.b++(2,yM r.f)::(5,[])::R)))):=by grind [rV]
 have g:=cD i;have e:=rF i;have f:=wM e;have c:=wM f;have u:(if b then yW tk (n+1+(iV r.a).length)else .ok 0 (n+1+(iV r.a).length):PR Int)=.ok r.b (n+1+(iV r.a).length+(if b=true then iV r.b else []).length):=by
  cases b with
  | true=>exact zrh a l f
  | false=>
   simp_all
 unfold iO;rw[eH a g (by decide),eH a g (by decide),eH a g (by decide),tM a g (.inl rfl),A3 (by simp),A3 (by simp),A3 (by simp),A5 (by simp_all),w];unfold Cm;rw[zrh a k e];show PR.c (PR.c (if b then _ else _) _) _=_;rw[u];generalize A:n+1+(iV r.a).length+(if b=true then iV r.b else []).length=m at c ⊢;show PR.c ((mE tk tS m).c _) _=_;rw[bR a (cD c) (.inl rfl)];show PR.c ((eO tk (m+1)).c _) _=_;rw[Zi a o (cD (rF c))]
 show PR.c ((mE tk l9 (m+1+1)).c _) _=_;rw[bR a (cD (rF (rF c))) (.inl rfl)];have d:=rF (rF (rF c));have t:B0 tk pJ (m+1+1+1)=r.f.n.b:=by
  cases j:r.f.n.b with
  | true=>rw[j]at d;exact tM a (cD (show K.drop (m+1+1+1)=(1,pJ)::(2,yM r.f)::(5,[])::R from d)) (.inl rfl)
  | false=>rw[j]at d;exact Bs a (cD (show K.drop (m+1+1+1)=(2,yM r.f)::(5,[])::R from d)) (.inl rfl) _
 show PR.c ((yK tk 2 (if B0 tk pJ (m+1+1+1)then m+1+1+1+1 else m+1+1+1)).c λs x=>.ok (⟨r.a,r.b,r.c,kL s (B0 tk pJ (m+1+1+1))⟩:oG) x) _=_;rw[t,show(if r.f.n.b=true then m+1+1+1+1 else m+1+1+1)=m+1+1+1+(jM r.f.n.b).length by unfold jM;split<;>rfl,Jx a (cD (wM d))];show PR.ok _ _=PR.ok _ _;rw[DC v y];congr 1
 grind [rV]
omit a in
def SR {b:Bool}{w t:pA}(d:c.h=b)(e:c.a=w)(f:c.b=t):(⟨c.g,c.e,c.f,c.i,c.c,b,w,t⟩:qD)=c:=by subst d e f;rfl
theorem zph (L:c.a.b/\c.b.b)(h:oW c=true) (j:K.drop n=nW c++(5,[])::R)(p:uD):iO tk p n=.ok ⟨p.e,p.c,p.a,p.b++[c]⟩ (n+(nW c).length):=by
 unfold oW at h;simp only[B3]at h;obtain⟨M,N,P,Q,J,f⟩:=h;generalize g:(if c.h=true then [(1,dj)]else(1,Mk)::(xF c.a++(1,Jl)::xF c.b):List pD)=T;have S:nW c=(1,Gr)::(1,c.g)::(1,c.e)::(1,Jn)::(3,rH c.f.toNat)::(1,di)::du c.i::(1,tS)::(3,rH c.c.toNat)::T:=by unfold nW;rw[g]
 rw[S]at j ⊢;simp only[List.cons_append]at j;have e:=cD j;have y:=rF j;have z:=rF y;have A:=rF z;have B:=rF A;have C:=rF B;have D:=rF C;have E:=rF D;have F:=rF E;have b:=rF F;have t:(if B0 tk Gq (n+1+1+1+1+1+1)then .ok 65536 (n+1+1+1+1+1+1+1)else eO tk (n+1+1+1+1+1+1):PR Int)=.ok c.i (n+1+1+1+1+1+1+1):=by
  have w:=cD D;rw[H5,decide_eq_true_eq]at J;unfold du at w;by_cases X:c.i<65536
  .grind [Bs,Zi]
  .rw[A3 X]at w;rw[tM a w (.inl rfl),A5 rfl];rcases J with h | h
   .have:=Zm h;omega
   .rw[h]
 unfold iO;have W:B0 tk K1 n=false:=eH a e (by decide);rw[eH a e (by decide),eH a e (by decide),eH a e (by decide),W,tM a e (.inl rfl),A3 (by simp),A3 (by simp),A3 (by simp),A3 (by simp),A5 rfl];unfold Bk;rw[Kr a (cD y) M];show PR.c ((mL tk (n+1+1)).c _) _=_;rw[Kr a (cD z) N];show PR.c ((mE tk Jn (n+1+1+1)).c _) _=_;rw[bR a (cD A) (.inl rfl)];show PR.c ((eO tk (n+1+1+1+1)).c _) _=_;rw[Zi a P (cD B)]
 show PR.c ((mE tk di (n+1+1+1+1+1)).c _) _=_;rw[bR a (cD C) (.inl rfl)];show PR.c (PR.c (if B0 tk Gq (n+1+1+1+1+1+1)then _ else _) _) _=_;rw[t];show PR.c ((mE tk tS (n+1+1+1+1+1+1+1)).c _) _=_;rw[bR a (cD E) (.inl rfl)];show PR.c ((eO tk (n+1+1+1+1+1+1+1+1)).c _) _=_;rw[Zi a Q (cD F)];generalize hm:n+1+1+1+1+1+1+1+1+1=m at b;have U:∀k,n+((1,Gr)::(1,c.g)::(1,c.e)::(1,Jn)::(3,rH c.f.toNat)::(1,di)::du c.i::(1,tS)::(3,rH c.c.toNat)::T).length=k ↔ m+T.length=k:=λk=>by grind [List.length_cons]
 cases l:c.h with
 | true=>
  rw[l,A5 rfl]at g f;subst g;rw[B3]at f;have hz:∀ {x:pA},Du x=true->x=zY:=fun {x} u=>by
   obtain⟨Z,i,v,d⟩:=x;unfold Du at u;simp only[B3]at u;obtain⟨o,q,r,s⟩:=u;have o:Z=0:=of_decide_eq_true o;have q:i=[]:=(eJ _ _).1 q;have r:d=[]:=List.eq_nil_of_length_eq_zero (of_decide_eq_true r);have s:v=qR:=AK s;rw[o,q,r,s];rfl
  show PR.c (if B0 tk dj m then _ else _) _=_;rw[tM a (cD b) (.inl rfl),A5 rfl];show PR.ok _ _=PR.ok _ _
  simp_all [SR]
 | false=>
  rw[l,A3 (by simp)]at g;rw[l,A3 (by simp),B3]at f;subst g;simp only[List.cons_append,D5]at b;show PR.c (if B0 tk dj m then _ else _) _=_;rw[eH a (cD b) (by decide),A3 (by simp)];show PR.c ((mE tk Mk m).c _) _=_;rw[bR a (cD b) (.inl rfl)];have H:=rF b;show PR.c ((oZ tk (m+1)).c _) _=_;rw[zi7 a L.1 f.1 _ _ H (Ei (by decide))];have I:=wM H;show PR.c ((mE tk Jl (m+1+(xF c.a).length)).c _) _=_;rw[bR a (cD I) (.inl rfl)]
  show PR.c ((oZ tk (m+1+(xF c.a).length+1)).c _) _=_;rw[zi7 a L.2 f.2 _ _ (rF I) (Ei (by decide))];show PR.ok _ _=PR.ok _ _;rw[(U _).2 rfl,SR l rfl rfl]
  grind
end
end
section
variable {p:uD}
def Yq:∀(a b:List (List pD)),rJ (a++b)=rJ a++rJ b
 | [],b=>rfl
 | x::a,b=>by rw[List.cons_append,rJ,rJ,Yq a b];simp
section
variable {tk:List xD}{K:List pD}(a:tk.map kt=K){n k:Nat}
include a
theorem MZ{l R:List pD}{c:uD}(f:l≠[])(d:K.drop n=l++(5,[])::R)(h:iO tk p n=.ok c (n+l.length)):tN tk (k+1) p n=tN tk k c (n+(l.length+1))/\K.drop (n+(l.length+1))=R:=by
 have b:=wM d;have e:n<tk.length:=by
  grind [List.drop_eq_nil_of_le]
 refine⟨?_,rF b⟩;rw[tN,A5 e,h];show(yK tk 5 (n+l.length)).c _=_;rw[Jx a (cD b)];rfl
theorem Xn{d:Type}{f:d->List pD}{g:uD->d->uD}(i:∀x,f x≠[]){I:uD->Prop}:∀(l:List d) (p:uD) (n:Nat) (R:List pD),I p->(∀x∈l,∀p n R,I p->K.drop n=f x++(5,[])::R->iO tk p n=.ok (g p x) (n+(f x).length)/\I (g p x))->K.drop n=rJ (l.map f)++R →
  tN tk (k+l.length) p n=tN tk k (l.foldl g p) (n+(rJ (l.map f)).length)/\K.drop (n+(rJ (l.map f)).length)=R/\I (l.foldl g p)
 | [],p,n,R,c,_,b=>⟨rfl,b,c⟩
 | x::l,p,n,R,c,h,b=>by
  have b:K.drop n=f x++(5,[])::(rJ (l.map f)++R):=by grind [rJ]
  obtain⟨j,m⟩:=h x C7 p n _ c b;obtain⟨u,q⟩:=MZ a (k:=k+l.length) (i x) b j;obtain⟨r,s,t⟩:=Xn i l (g p x) _ R m (λy o=>h y (C9 _ o)) q;have e:n+((f x).length+1)+(rJ (l.map f)).length=n+(rJ ((x::l).map f)).length:=by grind [rJ]
  simp_all [Nat.add_assoc]
end
theorem QH:∀(l:List pF) (p:uD),l.foldl (λp d=>(⟨p.e,p.c++[d],p.a,p.b⟩:uD)) p=⟨p.e,p.c++l,p.a,p.b⟩
 | [],p=>by simp_all
 | d::l,p=>by rw[List.foldl_cons,QH l];simp
theorem QI:∀(l:List qD) (p:uD),l.foldl (λp d=>(⟨p.e,p.c,p.a,p.b++[d]⟩:uD)) p=⟨p.e,p.c,p.a,p.b++l⟩
 | [],p=>by simp_all
 | d::l,p=>by rw[List.foldl_cons,QI l];simp
def UL(T:List aE)(x:aE)(r:oG):nP (T++[x]) r=T++[⟨x.b,x.c,x.a++[r]⟩]:=by unfold nP;simp
def QG(T:List aE)(c:List Nat)(a:Bool):∀(l b:List oG) (p:uD),p.a=T++[⟨c,a,b⟩]->l.foldl (λp r=>(⟨p.e,p.c,nP p.a r,p.b⟩:uD)) p=⟨p.e,p.c,T++[⟨c,a,b++l⟩],p.b⟩
 | [],b,p,h=>by rw[Do,<- h];rfl
 | r::l,b,p,h=>by
  rw[List.foldl_cons,QG T c a l (b++[r]) _ (by show nP p.a r=_;rw[h,UL])];simp
section
variable {tk:List xD}{K:List pD}(a:tk.map kt=K){k:Nat}
include a
theorem II:∀(l:List aE) (p:uD) (n:Nat) (R:List pD),(∀x∈l,xX x=true/\∀r∈x.a,r.f.a)->K.drop n=rJ (l.flatMap xN)++R →
  tN tk (k+(l.flatMap xN).length) p n=tN tk k ⟨p.e,p.c,p.a++l,p.b⟩ (n+(rJ (l.flatMap xN)).length)/\K.drop (n+(rJ (l.flatMap xN)).length)=R
 | [],p,n,R,_,b=>⟨by rw[Do];rfl,b⟩
 | x::l,p,n,R,h,b=>by
  obtain⟨c,s⟩:=h x C7;unfold xX at c;rw[B3,C8]at c;have j:rJ ((x::l).flatMap xN)=Dy x++(5,[])::(rJ (x.a.map (rV x.c))++rJ (l.flatMap xN)):=by
   rw[List.flatMap_cons,Yq];show(Dy x++(5,[])::rJ (x.a.map (rV x.c)))++_=_;simp
  rw[j,D5,List.cons_append,D5]at b;have m:=ku a c.1 b p;obtain⟨A,v⟩:=MZ a (k:=k+(l.flatMap xN).length+x.a.length) (by unfold Dy;simp) b m;obtain⟨t,u,_⟩:=Xn a (k:=k+(l.flatMap xN).length) (f:=rV x.c) (g:=λp r=>(⟨p.e,p.c,nP p.a r,p.b⟩:uD)) (by grind [rV]) (I:=λq=>∃d,q.a=p.a++[⟨x.b,x.c,d⟩]) x.a ⟨p.e,p.c,p.a++[⟨x.b,x.c,[]⟩],p.b⟩ _ _ ⟨[],rfl⟩ (λr i q n R ⟨d,e⟩ b=>⟨zux a (s r i) (c.2 r i) b (by rw[e];simp) (by grind [Ld]),d++[r],by show nP q.a r=_;rw[e,UL]⟩) v
  rw[QG p.a x.b x.c x.a [] _ rfl,F3]at t;obtain⟨B,C⟩:=II l ⟨p.e,p.c,p.a++[⟨x.b,x.c,x.a⟩],p.b⟩ _ R (λy o=>h y (C9 _ o)) u;have w:n+((Dy x).length+1)+(rJ (x.a.map (rV x.c))).length+(rJ (l.flatMap xN)).length=n+(rJ ((x::l).flatMap xN)).length:=by grind
  have z:k+((x::l).flatMap xN).length=k+(l.flatMap xN).length+x.a.length+1:=by
   rw[List.flatMap_cons,E1];show k+((x.a.map (rV x.c)).length+1+_)=_
   grind
  simp_all
theorem zu5 (F:p.f)(h:fR p=true)(s:K=rJ (zhf p)):∃n,vJ tk=.ok p n:=by
 unfold fR at h;simp only[B3,C8]at h;obtain⟨M,N,P,Q⟩:=h;generalize i:rJ (p.c.map Fs)=A;generalize l:rJ (p.a.flatMap xN)=B;generalize o:rJ (p.b.map nW)=C;have D:K=(1,Mn)::(1,p.e)::(5,[])::(A++(B++C)):=by
  rw[s,<- i,<- l,<- o];unfold zhf;rw[rJ,Yq,Yq];rfl
 have j:K.drop 0=(1,Mn)::(1,p.e)::(5,[])::(A++(B++C)):=D;have L:K.drop 3=A++(B++C):=rF (rF (rF j));have H:tk.length=A.length+B.length+C.length+3:=by rw[zrd a,D];grind
 have b:∀m:List (List pD),m.length<=(rJ m).length:=by
  intro m;induction m with
  | nil=>simp_all
  | cons x m Z=>grind [rJ]
 have T:=b (p.c.map Fs);have U:=b (p.a.flatMap xN);have W:=b (p.b.map nW);rw[i,C5]at T;rw[l]at U;rw[o,C5]at W;obtain⟨u,v,_⟩:=Xn a (k:=(tk.length-p.c.length-(p.a.flatMap xN).length-p.b.length)+p.b.length+(p.a.flatMap xN).length) (f:=Fs) (g:=λp d=>(⟨p.e,p.c++[d],p.a,p.b⟩:uD)) (by grind [Fs]) (I:=λ_=>True) p.c ⟨p.e,[],[],[]⟩ 3 (B++C) trivial (λd s q n R _ t=>⟨zxl a (N d s) t q,trivial⟩) (by rw[L,i])
 rw[QH,i]at u;rw[i]at v;obtain⟨w,y⟩:=II a (k:=(tk.length-p.c.length-(p.a.flatMap xN).length-p.b.length)+p.b.length) p.a ⟨p.e,[]++p.c,[],[]⟩ _ C (λx J=>⟨P x J,λr S=>((F.ah x J).2.2 r S).2.2.2⟩) (by rw[l];exact v);rw[l]at w y;obtain⟨z,X,_⟩:=Xn a (k:=tk.length-p.c.length-(p.a.flatMap xN).length-p.b.length) (f:=nW) (g:=λp d=>(⟨p.e,p.c,p.a,p.b++[d]⟩:uD)) (by grind [nW]) (I:=λ_=>True) p.b ⟨p.e,[]++p.c,[]++p.a,[]⟩ _ [] trivial (λc E q n R _ t=>⟨zph a (by have:=F.aa c E;exact⟨this.2.2.2.2.2.1,this.2.2.2.2.2.2⟩) (Q c E) t q,trivial⟩) (by rw[o,Do];exact y)
 rw[QI]at z;refine⟨3+A.length+B.length+C.length,?_⟩;unfold vJ;rw[bR a (cD j) (.inl rfl)];show(mL tk 1).c _=_;rw[Kr a (cD (rF j)) M];show(yK tk 5 2).c _=_;rw[Jx a (cD (rF (rF j)))];show tN tk tk.length ⟨p.e,[],[],[]⟩ 3=_;rw[show tk.length=(tk.length-p.c.length-(p.a.flatMap xN).length-p.b.length)+p.b.length+(p.a.flatMap xN).length+p.c.length by omega,u];have e:=w.trans z;rw[o]at e;refine Eq.trans e ?_
 cases tk.length-p.c.length-(p.a.flatMap xN).length-p.b.length with
 | zero=>rfl
 | succ m=>
  rw[tN,A3 (by omega)];rfl
end
def zgf (a:p.f)(h:fR p=true):∃m n,Hy (zX p)=.ok m/\vJ m=.ok p n:=by
 obtain⟨m,b,c⟩:=zvy (za3 a h);obtain⟨n,d⟩:=zu5 c a h rfl;exact⟨m,n,b,d⟩
end
section
theorem zo5{s:List Nat}(h:bT s)(d:xK s=true):0<sE (dO s):=by
 obtain⟨_,_,_,_,c⟩:=h;obtain⟨a,b,e,f⟩:=c d;refine RZ b a λg=>?_
 cases i:dO s with
 | nil=>grind
 | cons x r=>
  simp_all [fP]
def rz:10^200<=65536^42:=by omega
theorem zrg{n k:Nat}(h:n<10^k)(a:k<=200):(iC n).length<=42:=
 Xw (Nat.lt_of_lt_of_le h (Nat.le_trans (L7 (by omega) a) rz))
def zjv{n k:Nat}(a:0<k)(h:n<10^k):(nJ n).length<=k:=by
 obtain⟨j,rfl⟩:∃j,k=j+1:=⟨k-1,by omega⟩;exact FZ j n h
theorem PY{s:List Nat}{neg:Bool}(h:bT s):lV (kL s neg)=true/\(kL s neg).a:=by
 have P:=h;obtain⟨Q,D,m,_,M⟩:=h;have E:(jL s).length<=s.length:=by grind [jL,eE,List.takeWhile_sublist]
 have o:0<(jL s).length:=List.length_pos_iff.2 m;have p:=Io D;obtain⟨b,u,c,q⟩:∃b,(if xK s then sE (dO s)else 1)=b/\0<b/\(b=1\/∃k,0<k/\b<10^k/\(jL s).length+1+k<=200):=by
  grind [zo5,dO,Io,List.length_drop]
 have d:(iC b).length<=42:=by
  grind [zrg]
 have e:kL s neg=oK neg (sE (jL s)) b:=by unfold kL;rw[u]
 rw[e];generalize F:sE (jL s)=a at p;have w:0<Nat.gcd a b:=Nat.gcd_pos_of_pos_right _ c;have z:Nat.gcd a b<=b:=Nat.gcd_le_right _ c;have H:0<b / Nat.gcd a b:=Nat.div_pos z w;have v:∀ {x y:Nat},x<=y->(iC y).length<=42->(iC x).length<=42:=fun {x y} r S=>by
  have:=Xw (n:=x) (k:=(iC y).length) (K8 r (by have:=qQ (B:=65536) (by omega) (gW y);rwa [dZ]at this));omega
 have j:(iC (a / Nat.gcd a b)).length<=42:=v (Nat.div_le_self _ _) (zrg p (by omega));have g:(iC (b / Nat.gcd a b)).length<=42:=v (Nat.div_le_self _ _) d;have i:(oK neg a b).a:=by
  unfold oK;exact⟨⟨by grind [tE],by grind [tE]⟩,gW _,gW _⟩
 have N:∀n:Nat,(iC n).length<=42->∀b:Bool,(b=true->0<n)->rL b (iC n)=true:=by
  intro n R b u;unfold rL;by_cases t:iC n=[]
  .grind [Ez]
  .rw[A3 t];simp only[B3,decide_eq_true_eq];refine⟨by omega,λA=>Nv n t ?_⟩
   grind
 have I:oM (oK neg a b)=true:=by
  grind [oM,oK,dZ,Nat.div_pos,Nat.gcd_le_left,Ez,Nat.coprime_div_gcd_div_gcd]
 refine⟨?_,i⟩;unfold lV;rw[(We (f:=oK neg a b) rfl).2];simp only[B3,decide_eq_true_eq];refine⟨⟨⟨j,g⟩,I⟩,?_⟩;unfold yM oK;simp only[dZ];rw[Bf,Bf,E1];have A:(nJ (a / Nat.gcd a b)).length<=(jL s).length:=zjv o (K8 (Nat.div_le_self _ _) p);split
 .grind
 .rename_i l;rcases q with rfl | ⟨k,J,C,K⟩
  .refine absurd ?_ l;have:1 / Nat.gcd a 1=1:=by simp
   rw[this];decide +kernel
  .have L:(nJ (b / Nat.gcd a b)).length<=k:=zjv J (K8 (Nat.div_le_self _ _) C)
   grind
def PO {b:Type}(V:b->Prop)(f:PM b):Prop:=∀n a c,f n=.ok a c->V a
mutual
def gx:pA->Prop
 | .mk op name v args=>aP op name args.length=true/\(if op=1 then zM v else cO op v)=true/\v.b/\gl args
def gl:List pA->Prop
 | []=>True
 | x::l=>gx x/\gl l
end
def zsu:∀ {l:List pA},gl l ↔ ∀x∈l,gx x
 | []=>by simp[gl]
 | x::l=>by rw[gl,zsu];simp
theorem Li{op:Nat}{name:List Nat}{v:gE}{args:List pA}:gx (.mk op name v args) ↔ aP op name args.length=true/\(if op=1 then zM v else cO op v)=true/\v.b/\∀x∈args,gx x:=by rw[gx,zsu]
theorem Pz:qR.b:=by
 unfold qR zK gE.b qF.a qF.c tE pB;simp
theorem Ms{k:Nat}{i:Int}(c:k<256)(a : -9223372036854775808<=i)(b:i<9223372036854775808):(⟨k,zK,i⟩:gE).b:=by
 obtain⟨_,h,_⟩:=Pz;exact⟨c,h,a,b⟩
theorem Sh{w:List Nat}(h:fG w=true):w.length<=24/\∀b∈w,b<256:=by
 unfold fG at h;grind [eJ,lL,CD,bN,fD]
section
variable {tk:List xD}(b:∀x∈tk,qY x)
theorem Ks:PO (λw=>fG w=true) (mL tk):=by
 intro n a b h;grind [mL,pU]
include b in
theorem zgu:PO bT (yK tk 2):=by
 intro n a b h;grind [yK,XY]
theorem kw(s:List Nat):(gU s).getD 0<65536:=by
 grind [gU,Dd]
theorem Ug:PO (λd=>0<=d/\d<65536) (eO tk):=by
 intro n a c h;unfold eO at h;obtain⟨s,e,_,b⟩:=PR.d h
 grind [kw]
theorem GM{b:Nat->List Nat}{most:Nat}:∀(k i:Nat),PO (λm=>i<=m/\m<=most) (nK tk b most k i)
 | 0,_=>λn a c h=>by cases h
 | k+1,i=>λn a c h=>by
  unfold nK at h;split at h
  .cases h
  split at h
  .simp_all
  .have:=GM k (i+1) n a c h;omega
theorem zsn{s:List Nat}{neg:Bool}{lo hi i:Int}(h:sP s neg lo hi=some i):lo<=i/\i<=hi:=by
 unfold sP at h;simp only at h;split at h <;> (split at h<;>simp_all<;>omega)
def GV (v:gE):Prop:=zM v=true/\v.b
theorem zix{s:List Nat}{neg:Bool}{k:Nat}(h:bT s)(c:k=2\/k=3):GV ⟨k,kL s neg,0⟩:=by
 obtain⟨b,a⟩:=PY (neg:=neg) h;refine⟨?_,by grind,a,by simp_all,by simp_all⟩
 grind [zM]
theorem Vf:Dr zK=true:=rfl
include b in
theorem KS{neg:Bool}:PO GV (kS tk neg):=by
 intro n a k h;unfold kS at h;obtain⟨s,l,d,c⟩:=PR.d h;have f:=zgu b _ _ _ d;split at c
 .split at c
  .cases c
  .split at c
   .cases c
   .rename_i i e;obtain⟨g,j⟩:=zsn e;cases c;split
    .exact⟨by grind [zM,Vf],Ms (by omega) (by omega) (by omega)⟩
    .exact⟨by grind [zM,Vf],Ms (by omega) (by omega) (by omega)⟩
 grind [zix]
include b in
theorem zo9:PO (λv=>∀w,v=some w->GV w) (yT tk):=by
 intro n a i h w g;subst g;unfold yT at h;split at h
 .cases h;exact⟨rfl,Ms (by omega) (by omega) (by omega)⟩
 split at h
 .cases h;exact⟨rfl,Ms (by omega) (by omega) (by omega)⟩
 split at h
 .obtain⟨d,f,c,e⟩:=PR.d h;have:=Ug _ _ _ c;cases e;exact⟨by grind [zM,Vf],Ms (by omega) (by omega) (by omega)⟩
 split at h
 .obtain⟨s,f,c,e⟩:=PR.d h;cases e;exact zix (zgu b _ _ _ c) (.inr rfl)
 split at h
 .obtain⟨v,f,c,e⟩:=PR.d h;cases e;exact KS b _ _ _ c
 split at h
 .obtain⟨v,f,c,e⟩:=PR.d h;cases e;exact KS b _ _ _ c
 .cases h
theorem zoh{v:gE}(h:GV v):gx (Uj v):=by
 unfold Uj;rw[Li];exact⟨by decide +kernel,h.1,h.2,by simp⟩
theorem zsr{op:Nat}{x y:pA}(a:aP op [] 2=true/\op≠1/\cO op qR=true)(b:gx x)(c:gx y):gx (eX op x y):=by
 grind [eX,Li,Pz]
theorem Z4{op:Nat}{w:List Nat}{x:pA}(a:aP op w 1=true/\op≠1/\cO op qR=true)(b:gx x):gx (I7 op w x):=by
 grind [I7,Li,Pz]
def Bo(op:Nat):Prop:=aP op [] 2=true/\op≠1/\cO op qR=true
theorem zgl{l:List (List Nat × Nat)}{n op:Nat}(h:iN tk l n=some op):∃p∈l,p.2=op:=by
 grind [iN,Option.map_eq_some_iff]
theorem SX{o:PM pA}{l:List (List Nat × Nat)}(d:PO gx o)(c:∀p∈l,Bo p.2):∀(m:Nat) (x:pA),gx x->PO gx (bQ tk o l m x)
 | 0,x,b=>λn a j h=>by cases h;exact b
 | m+1,x,b=>λn a j h=>by
  unfold bQ at h;split at h
  .simp_all
  .rename_i q e;obtain⟨p,i,rfl⟩:=zgl e;obtain⟨y,k,f,g⟩:=PR.d h;exact SX d c m _ (zsr (c p i) b (d _ _ _ f)) _ _ _ g
def Zp{o:PM pA}{l:List (List Nat × Nat)}(b:PO gx o)(e:∀p∈l,Bo p.2):PO gx (cQ tk o l):=by
 intro n a f h;unfold cQ at h;obtain⟨y,g,c,d⟩:=PR.d h;exact SX b e _ _ (b _ _ _ c) _ _ _ d
def K5:Bo 7/\Bo 8/\Bo 9/\Bo 10/\Bo 13/\Bo 14/\Bo 15/\Bo 16:=by
 unfold Bo;decide +kernel
def zqw{o:PM pA}(a:PO gx o):PO gx (Ck tk o):=
 Zp (Zp a (by simp[K5])) (by simp[K5])
theorem zxs{o:PM pA}(c:PO gx o):PO gx (eU tk o):=by
 intro n a k h;unfold eU at h;obtain⟨x,l,f,b⟩:=PR.d h;have j:=zqw c _ _ _ f;split at b
 .simp_all
 .rename_i q e;obtain⟨y,m,g,i⟩:=PR.d b;cases i;obtain⟨p,d,rfl⟩:=zgl e;refine zsr ?_ j (zqw c _ _ _ g);simp at d;rcases d with rfl | rfl
  .exact K5.2.2.2.2.1
  .exact K5.2.2.2.2.2.1
def zc0:∀(k:Nat) {x:pA},gx x->gx (Dv k x)
 | 0,_,h=>h
 | k+1,_,h=>zc0 k (Z4 (by decide +kernel) h)
def FC{o:PM pA}(d:PO gx o):PO gx (Proofs.C0 tk o):=by
 have b:PO gx (aT tk o):=by
  intro n a e h;unfold aT at h;obtain⟨x,f,b,c⟩:=PR.d h;cases c;exact zc0 _ (zxs d _ _ _ b)
 exact Zp (Zp b (by simp[K5])) (by simp[K5])
end
end
section
section
variable {tk:List xD}
def zya{o:PM pA}(j:PO gx o){op:Nat}(e:op=3\/op=4\/op=5):PO gx (wT tk o op):=by
 intro n a l h;unfold wT at h;obtain⟨w,m,c,d⟩:=PR.d h;obtain⟨u,p,k,f⟩:=PR.d d;obtain⟨x,q,g,i⟩:=PR.d f;cases i;refine Z4 ?_ (j _ _ _ g);have b:=Ks _ _ _ c;rcases e with rfl | rfl | rfl
 .exact⟨(by unfold aP;rw[A5 (by decide +kernel),b];decide +kernel),by omega,by decide +kernel⟩
 .exact⟨(by unfold aP;rw[A5 (by decide +kernel),b];decide +kernel),by omega,by decide +kernel⟩
 .exact⟨(by unfold aP;rw[A5 (by decide +kernel),b];decide +kernel),by omega,by decide +kernel⟩
theorem zir{l:List pA}{x:pA}(a:∀y∈l,gx y)(b:gx x):∀y∈l++[x],gx y:=by
 grind
theorem zg3{e:PM pA}(b:PO gx e):∀(k:Nat) (l:List pA),(∀x∈l,gx x)->PO (λr=>(∀x∈r,gx x)/\r.length=l.length+k) (fY tk e k l)
 | 0,l,c=>λn a j h=>by cases h;simp_all
 | k+1,l,c=>λn a j h=>by
  unfold fY at h;obtain⟨u,q,m,d⟩:=PR.d h;obtain⟨x,s,f,g⟩:=PR.d d;have i:=b _ _ _ f;obtain⟨o,p⟩:=zg3 b k (l++[x]) (zir c i) _ _ _ g
  grind
theorem zfh{e:PM pA}(b:PO gx e):∀(k:Nat) (l:List pA),(∀x∈l,gx x)->PO (λr=>(∀x∈r,gx x)/\l.length<=r.length/\r.length<=l.length+k) (jT tk e k l)
 | 0,l,c=>λn a i h=>by cases h;simp_all
 | k+1,l,c=>λn a i h=>by
  unfold jT at h;split at h
  .obtain⟨x,p,d,f⟩:=PR.d h;have g:=b _ _ _ d;obtain⟨j,m,o⟩:=zfh b k (l++[x]) (zir c g) _ _ _ f
   grind
  simp_all
def zci:Bl.all (λf=>decide (f.e<27) && !decide ((yB f.e).b=0)&&decide ((yB f.e).d=f.a)&&decide ((yB f.e).g=f.c)&&((yB f.e).e == f.b)&&decide (f.e≠1)&&decide (1<=f.a)&&decide (f.a<=f.c))=true:=by decide +kernel
theorem zx3{e:PM pA}(c:PO gx e):PO gx (mW tk e):=by
 intro n a Z h;unfold mW at h;split at h
 .cases h
 .rename_i f D;have k:=C8.1 zci f (List.mem_of_find?_eq_some D);simp only[B3,decide_eq_true_eq,E7,decide_eq_false_iff_not,beq_iff_eq]at k;obtain⟨⟨⟨⟨⟨⟨⟨P,Q⟩,R⟩,S⟩,T⟩,U⟩,W⟩,X⟩:=k;obtain⟨u,n1,K,p⟩:=PR.d h;obtain⟨w,n2,b,q⟩:=PR.d p;obtain⟨x,n3,s,t⟩:=PR.d q;obtain⟨l,n4,v,y⟩:=PR.d t;obtain⟨r,n5,z,A⟩:=PR.d y;obtain⟨m,n6,j,B⟩:=PR.d A;obtain⟨u2,n7,L,C⟩:=PR.d B;cases C;obtain⟨F,H⟩:=zg3 c _ _ (by simpa using c _ _ _ s) _ _ _ v
  obtain⟨r1,r2,r3⟩:=zfh c _ _ F _ _ _ z;simp at H;rw[Li];have M:(if f.b=true then fG w else sF w [])=true:=by
   split at b
   .obtain⟨w',I,o,i⟩:=PR.d b;obtain⟨J,n9,N,E⟩:=PR.d i;cases E;rename_i g;rw[A5 g];exact Ks _ _ _ o
   .cases b;rename_i g;rw[A3 g];rfl
  have d:f.e=19/\1<=m/\m<=6\/f.e≠19/\m=0:=by
   split at j
   .obtain⟨J,I,o,i⟩:=PR.d j;have:=GM 6 1 _ _ _ i;omega
   simp_all
  grind [Ms,aP,cO,Dq,Vf]
mutual
/-- how deep an expression is -/
def fM:pA->Nat
 | .mk _ _ _ args=>1+Bg args
def Bg:List pA->Nat
 | []=>0
 | x::l=>max (fM x) (Bg l)
end
theorem znd:(yB 1).g=0:=by decide +kernel
mutual
theorem QZ:∀(x:pA) (d:Nat),gx x->qJ x d=decide (d+fM x<=25)
 | .mk op name v args,d,h=>by
  rw[Li]at h;obtain⟨b,a,g,c⟩:=h;rw[qJ,fM,b];by_cases e:op=1
  .grind [aP,znd,List.length_eq_zero_iff,Bg]
  .rw[A3 e]at a ⊢;rw[a,TT args (d+1) c]
   grind [Bg]
theorem TT:∀(l:List pA) (d:Nat),(∀x∈l,gx x)->jZ l d=(decide (l=[])||decide (d+Bg l<=25))
 | [],d,_=>by rw[jZ];rfl
 | x::l,d,h=>by
  rw[jZ,QZ x d (h x (by simp)),TT l d (λy f=>h y (by simp[f])),Bg];have:1<=fM x:=by cases x;rw[fM];omega
  grind [Bg]
end
mutual
theorem zsq:∀(x:pA),gx x->x.b
 | .mk op name v args,h=>by
  rw[Li]at h;obtain⟨a,k,c,d⟩:=h;unfold aP at a;simp only[B3,decide_eq_true_eq]at a;obtain⟨⟨⟨⟨m,n⟩,o⟩,p⟩,q⟩:=a;have g:∀op,(yB op).g<=3:=by
   intro op;unfold yB;rw[List.getD_eq_getElem?_getD]
   cases e:Fi[op]? with
   | none=>simp_all
   | some f=>
    have:(Fi.all λf=>decide (f.g<=3))=true:=by decide +kernel
    grind
  have i:name.length<=24/\∀b∈name,b<256:=by
   grind [Sh,eJ]
  have:=g op;unfold pA.b tE;exact⟨by omega,by omega,i.2,c,by omega,zst args d⟩
theorem zst:∀(l:List pA),(∀x∈l,gx x)->pA.f l
 | [],_=>by grind [pA.f]
 | x::l,h=>by
  unfold pA.f;exact⟨zsq x (h x (by simp)),zst l λy j=>h y (by simp[j])⟩
end
variable (g:∀x∈tk,qY x)
include g
theorem zn6{o:PM pA}(c:PO gx o):PO gx (aN tk o):=by
 intro n a l h;unfold aN at h;obtain⟨v,m,d,b⟩:=PR.d h;have k:=zo9 g _ _ _ d;split at b
 .grind [zoh]
 split at b
 .obtain⟨x,p,e,f⟩:=PR.d b;obtain⟨u,q,j,i⟩:=PR.d f;cases i;exact FC c _ _ _ e
 split at b
 .cases b;rw[Li];exact⟨by decide +kernel,by decide +kernel,Pz,by simp⟩
 split at b
 .exact zya c (.inl rfl) _ _ _ b
 split at b
 .exact zya c (.inr (.inl rfl)) _ _ _ b
 split at b
 .exact zya c (.inr (.inr rfl)) _ _ _ b
 .exact zx3 (FC c) _ _ _ b
def LW:∀k:Nat,PO gx (Proofs.A9 tk k)
 | 0=>λn a b h=>by cases h
 | k+1=>λn a b h=>zn6 g (LW k) n a b h
def RF:PO gx (oZ tk):=FC (LW g 101)
omit g in
theorem zxn{d:Int}(h:0<=d/\d<65536):xO d=true:=by grind [xO]
theorem zri:PO (λi => -2147483648<=i/\i<=2147483647) (yW tk):=by
 intro n a b h;unfold yW at h;simp only at h;generalize (if B0 tk pJ n=true then n+1 else n)=m at h;split at h
 .cases h
 split at h
 .cases h
 .rename_i i e;cases h;exact zsn e
omit g in
theorem zs0{b:Bool}:PO (λd=>aR d=true/\d.e) (mZ tk b):=by
 intro n a m h;unfold mZ at h;obtain⟨w,o,c,e⟩:=PR.d h;obtain⟨k,p,f,i⟩:=PR.d e;cases i;have l:=Ks _ _ _ c;have j:=GM 6 1 _ _ _ f
 grind [Sh,aR,pF.e,tE]
theorem kx{c:Bool}:PO (λr=>iT c r=true/\r.e) (Cm tk c):=by
 intro n a w h;unfold Cm at h;obtain⟨a,x,f,h⟩:=PR.d h;obtain⟨b,y,e,h⟩:=PR.d h;obtain⟨u,z,o,h⟩:=PR.d h;obtain⟨d,A,i,h⟩:=PR.d h;obtain⟨C,k,p,h⟩:=PR.d h;obtain⟨s,B,j,h⟩:=PR.d h;cases h;have q:=zri g _ _ _ f;have v:=Ug _ _ _ i;obtain⟨l,m⟩:=PY (neg:=B0 tk pJ k) (zgu g _ _ _ j);have t:(-2147483648<=b/\b<=2147483647)/\(c=true\/b=0):=by
  split at e
  .exact⟨zri g _ _ _ e,.inl (by assumption)⟩
  grind
 grind [bY,oG.e,Q8,zxn,iT]
omit g in
theorem IK:PO (λx=>fG x.b=true/\x.a=[]) (Jz tk):=by
 intro n a f h;unfold Jz at h;obtain⟨w,i,c,b⟩:=PR.d h;have e:=Ks _ _ _ c;split at b
 .grind
 .obtain⟨u,j,d,h⟩:=PR.d b
  grind
def GC (c:qD):Prop:=fG c.g=true/\fG c.e=true/\(0<=c.f/\c.f<65536)/\(0<=c.c/\c.c<65536)/\(0<=c.i/\c.i<=65536)/\(c.h=true/\c.a=zY/\c.b=zY\/c.h=false/\gx c.a/\gx c.b)
theorem zj8:PO GC (Bk tk):=by
 intro n a C h;unfold Bk at h;obtain⟨a,D,m,h⟩:=PR.d h;obtain⟨b,E,o,h⟩:=PR.d h;obtain⟨u,F,v,h⟩:=PR.d h;obtain⟨f,H,p,h⟩:=PR.d h;obtain⟨R,I,w,h⟩:=PR.d h;obtain⟨t,J,c,h⟩:=PR.d h;obtain⟨S,K,z,h⟩:=PR.d h;obtain⟨k,L,q,h⟩:=PR.d h;have d:=Ks _ _ _ m;have e:=Ks _ _ _ o;have i:=Ug _ _ _ p;have j:=Ug _ _ _ q;have l:0<=t/\t<=65536:=by
  split at c
  .grind
  .have:=Ug _ _ _ c;omega
 split at h
 .cases h;exact⟨d,e,i,j,l,.inl ⟨rfl,rfl,rfl⟩⟩
 .obtain⟨T,M,A,h⟩:=PR.d h;obtain⟨x,N,r,h⟩:=PR.d h;obtain⟨U,P,B,h⟩:=PR.d h;obtain⟨y,Q,s,h⟩:=PR.d h;cases h;exact⟨d,e,i,j,l,.inr ⟨rfl,RF g _ _ _ r,RF g _ _ _ s⟩⟩
structure GP (p:uD):Prop where
 b:fG p.e=true
 e:∀d∈p.c,aR d=true/\d.e
 a:∀x∈p.a,fG x.b=true/\∀r∈x.a,iT x.c r=true/\r.e
 f:∀c∈p.b,GC c
omit g in
theorem Mc{a:Type}{P:a->Prop}{l:List a}{x:a}(b:∀y∈l,P y)(c:P x):∀y∈l++[x],P y:=by
 grind
theorem zvr{p:uD}(h:GP p):PO GP (iO tk p):=by
 intro n q t a;unfold iO at a;split at a
 .obtain⟨d,i,c,f⟩:=PR.d a;cases f;exact⟨h.b,Mc h.e (zs0 _ _ _ c),h.a,h.f⟩
 split at a
 .obtain⟨d,i,c,f⟩:=PR.d a;cases f;exact⟨h.b,Mc h.e (zs0 _ _ _ c),h.a,h.f⟩
 split at a
 .obtain⟨d,i,c,f⟩:=PR.d a;cases f;obtain⟨m,s⟩:=IK _ _ _ c;exact⟨h.b,h.e,Mc h.a ⟨m,by grind⟩,h.f⟩
 split at a
 .rename_i b;simp only[B3,E7,List.isEmpty_eq_false_iff]at b;obtain⟨d,i,c,f⟩:=PR.d a;have j:=kx g _ _ _ c;cases f;obtain⟨A,x,o⟩:∃A x,p.a=A++[x]:=⟨p.a.dropLast,p.a.getLast b.1,(List.dropLast_concat_getLast b.1).symm⟩;have e:nP p.a d=A++[⟨x.b,x.c,x.a++[d]⟩]:=by grind [nP]
  have l:Ld p.a=x.c:=by grind [Ld]
  rw[l]at j;refine⟨h.b,h.e,?_,h.f⟩;show ∀y∈nP p.a d,_;rw[e];have k:=h.a x (by grind);exact Mc (λy r=>h.a y (by simp_all)) ⟨k.1,Mc k.2 j⟩
 split at a
 .obtain⟨d,i,c,f⟩:=PR.d a;cases f;exact⟨h.b,h.e,h.a,Mc h.f (zj8 g _ _ _ c)⟩
 grind
theorem MW:∀(m:Nat) (p:uD),GP p->PO GP (tN tk m p)
 | 0,p,a=>λn q e h=>by cases h;exact a
 | m+1,p,a=>λn q e h=>by
  unfold tN at h;split at h
  .obtain⟨q,i,b,c⟩:=PR.d h;obtain⟨w,j,f,d⟩:=PR.d c;exact MW m _ (zvr g a _ _ _ b) _ _ _ d
  simp_all
def zp6{p:uD}{n:Nat}(h:vJ tk=.ok p n):GP p:=by
 unfold vJ at h;obtain⟨u,i,e,a⟩:=PR.d h;obtain⟨w,j,b,c⟩:=PR.d a;obtain⟨v,k,f,d⟩:=PR.d c;exact MW g _ _ ⟨Ks _ _ _ b,by simp,by simp,by simp⟩ _ _ _ d
end
theorem zcu:zY.b:=by
 grind [zY,pA.b,tE,pA.f,Pz]
def zcv:fM zY=1:=by unfold zY;rw[fM,Bg]
theorem ky{p:uD}{k:Nat}(h:GP p)(o:k<300000)(a:p.c.length<=k/\p.a.length<=k/\p.b.length<=k/\∀x∈p.a,x.a.length<=k):p.f where
 am:=by have:=(Sh h.b).1;grind [tE]
 ak:=by grind [tE]
 aj:=by grind [tE]
 ac:=by grind [tE]
 ap:=λd e=>(h.e d e).2
 ah:=λx b=>⟨by have:=(Sh (h.a x b).1).1;grind [tE],by grind [tE],λr f=>((h.a x b).2 r f).2⟩
 aa:=λc a=>by
  obtain⟨g,i,j,l,m,n⟩:=h.f c a
  grind [Sh,qD.j,tE,Q8,zcu,zsq]
theorem zw0{p:uD}(h:GP p):fR p=p.b.all λc=>decide (fM c.a<=24)&&decide (fM c.b<=24):=by
 have a:p.c.all aR=true:=C8.2 λd s=>(h.e d s).1;have b:p.a.all xX=true:=C8.2 λx f=>by
  unfold xX;rw[(h.a x f).1,E5];exact C8.2 λr t=>((h.a x f).2 r t).1
 unfold fR;rw[h.b,a,b];simp only[E5];have u:∀c∈p.b,oW c=(decide (fM c.a<=24)&&decide (fM c.b<=24)):=by
  intro c q;obtain⟨k,l,m,n,v,o⟩:=h.f c q;have g:xO c.f=true:=zxn m;have i:xO c.c=true:=zxn n;have j:(xO c.i||decide (c.i=65536))=true:=by grind [xO]
  unfold oW;rw[k,l,g,i,j];simp only[E5];rcases o with⟨e,a,b⟩ | ⟨e,a,b⟩
  .rw[A5 e,a,b,zcv];decide +kernel
  grind [QZ]
 grind
end
section
variable {t:Type}{k:Nat->Nat}{o:PM pA}{b:Bool}{p:uD}{n:Nat}
def PE {t:Type}(f:PM t):Prop:=∀n e i,f n=.er e i->e≠0
theorem PE.m {a:Nat->t}  : PE λn=>.ok (a n) (k n):=λn e i h=>by cases h
theorem PE.q {c:Nat}(a:c≠0)  : PE (λn=>(.er c (k n):PR t)):=λn e i h=>by simp_all
theorem PE.d{j:Type}{f:PM t}{g:t->PM j}(c:PE f)(d:∀a,PE (g a)):PE λn=>(f n).c g:=λn e i h=>by
 cases b:f n with
 | er k l=>simp only[b,PR.c]at h;cases h;exact c _ _ _ b
 | ok a m=>simp only[b,PR.c]at h;exact d a _ _ _ h
def PE.l {c:Nat->Bool}{f g:PM t}(a:PE f)(b:PE g):PE λn=>if c n=true then f n else g n:=λn e i h=>by
 simp only at h;split at h
 .exact a _ _ _ h
 .exact b _ _ _ h
def PE.j {f:PM t}(a:PE f)(k:Nat->Nat):PE λn=>f (k n):=λn e i h=>a _ _ _ h
section
variable {tk:List xD}
def Qy{k:Nat}:PE (yK tk k):=PE.l .m (.q (by decide))
def bS{w:List Nat}:PE (mE tk w):=PE.l .m (.q (by decide))
def Ku:PE (mL tk):=PE.l .m (.q (by decide))
def Uh:PE (eO tk):=Qy.d λ_=>.m
theorem GN{w:Nat->List Nat}{most:Nat}:∀k i:Nat,PE (nK tk w most k i)
 | 0,i=>λn e j h=>by cases h;decide
 | k+1,i=>λn e j h=>by
  unfold nK at h;split at h
  .grind
  split at h
  .cases h
  .exact GN k (i+1) _ _ _ h
theorem KU{neg:Bool}:PE (kS tk neg):=λn e i h=>by
 grind [kS,yK,PR.c]
def zpa:PE (yT tk):=
 .l .m (.l .m (.l (Uh.d λ_=>.m) (.l (λn e i h=>((Qy.j λ_=>if B0 tk pJ (n+1)then n+2 else n+1).d (g:=λs a=>.ok (some (⟨3,kL s (B0 tk pJ (n+1)),0⟩:gE)) a) λ_=>.m) n e i h) (.l ((KU.j _).d λ_=>.m) (.l (KU.d λ_=>.m) .m)))))
def SY{o:PM pA}{l:List (List Nat × Nat)}(a:PE o):∀(m:Nat) (x:pA),PE (bQ tk o l m x)
 | 0,x=>.m
 | m+1,x=>λn e i h=>by
  unfold bQ at h;split at h
  .cases h
  .exact((a.j (· + 1)).d λy=>SY a m (eX _ x y)) _ _ _ h
def Pc {l:List (List Nat × Nat)}(a:PE o):PE (cQ tk o l):=a.d λx=>SY a _ x
def zxt (a:PE o):PE (eU tk o):=(Pc (Pc a)).d λx n e i h=>by
 split at h
 .cases h
 .exact(((Pc (Pc a)).j (· + 1)).d λy=>.m) _ _ _ h
def FD (a:PE o):PE (Proofs.C0 tk o):=
 Pc (Pc λn e i h=>(((zxt a).j λ_=>n+nL tk tk.length n).d (g:=λx b=>.ok (Dv (nL tk tk.length n) x) b) λ_=>.m) n e i h)
def zyb (a:PE o){op:Nat}:PE (wT tk o op):=Ku.d λ_=>bS.d λ_=>a.d λ_=>.m
def zg4{x:PM pA}(a:PE x):∀(k:Nat) (l:List pA),PE (fY tk x k l)
 | 0,l=>.m
 | k+1,l=>bS.d λ_=>a.d λy=>zg4 a k _
def zfi{x:PM pA}(a:PE x):∀(k:Nat) (l:List pA),PE (jT tk x k l)
 | 0,l=>.m
 | k+1,l=>.l ((a.j (· + 1)).d λy=>zfi a k _) .m
theorem zx4{x:PM pA}(a:PE x):PE (mW tk x):=λn e i h=>by
 unfold mW at h;split at h
 .grind
 .rename_i f _;refine((bS (tk:=tk) (w:=[40])).j (· + 1)).d (g:=λ_ b=>_) (λ_=>?_) n e i h;refine PE.d (f:=λb=>if f.b then(mL tk b).c λw j=>(mE tk [44] j).c λ_ k=>.ok w k else .ok [] b) ?_ λw=>a.d λx=>(zg4 a _ _).d λl=>(zfi a _ _).d λl=>PE.d (f:=λd=>if f.e=19 then(mE tk [44] d).c λ_ o=>nK tk cN 6 6 1 o else .ok 0 d) ?_ λm=>bS.d λ_=>.m
  .exact PE.l (c:=λ_=>f.b) (Ku.d λ_=>bS.d λ_=>.m) .m
  .intro n e i h;simp only at h;split at h
   .exact(bS.d λ_=>GN 6 1) _ _ _ h
   .cases h
def zn7 (a:PE o):PE (aN tk o):=zpa.d λv=>by
 cases v with
 | some v=>exact .m
 | none=>exact .l (((FD a).j _).d λ_=>bS.d λ_=>.m) (.l .m (.l ((zyb a).j _) (.l ((zyb a).j _) (.l (zyb a) (zx4 (FD a))))))
def LX:∀k:Nat,PE (Proofs.A9 tk k)
 | 0=>λn e i h=>by cases h;decide
 | k+1=>zn7 (LX k)
def RG:PE (oZ tk):=FD (LX 101)
def zs1  : PE (mZ tk b):=Ku.d λ_=>(GN 6 1).d λ_=>.m
theorem zrj:PE (yW tk):=λn e i h=>by
 grind [yW]
def kz  : PE (Cm tk b):=zrj.d λa=>PE.d (f:=λn=>if b then yW tk n else .ok 0 n) (.l (c:=λ_=>b) zrj .m) λb=>bS.d λ_=>Uh.d λd=>bS.d λ_ n e i h=>
 ((Qy.j λ_=>if B0 tk pJ n then n+1 else n).d (g:=λs j=>.ok (⟨a,b,d,kL s (B0 tk pJ n)⟩:oG) j) λ_=>.m) n e i h
def zj9:PE (Bk tk):=Ku.d λ_=>Ku.d λ_=>bS.d λ_=>Uh.d λ_=>bS.d λ_=>
 PE.d (f:=λn=>if B0 tk Gq n then .ok 65536 (n+1)else eO tk n) (.l .m Uh) λ_=>bS.d λ_=>Uh.d λ_=>.l .m (bS.d λ_=>RG.d λ_=>bS.d λ_=>RG.d λ_=>.m)
def zlt:PE (Jz tk):=Ku.d λ_=>.l .m (bS.d λ_=>.m)
def zvs  : PE (iO tk p):=
 .l ((zs1.j _).d λ_=>.m) (.l ((zs1.j _).d λ_=>.m) (.l ((zlt.j _).d λ_=>.m) (.l ((kz.j _).d λ_=>.m) (.l ((zj9.j _).d λ_=>.m) (.q (by decide))))))
def MX:∀(m:Nat) (p:uD),PE (tN tk m p)
 | 0,p=>.m
 | m+1,p=>λn e i h=>by
  unfold tN at h;split at h
  .exact(zvs.d λq=>Qy.d λ_=>MX m q) _ _ _ h
  .cases h
def lf{e i:Nat}(h:vJ tk=.er e i):e≠0:=
 (bS.d λ_=>Ku.d λw=>Qy.d λ_=>MX _ _:PE λn=>(mE tk Mn n).c λ_ a=>(mL tk a).c λw b=>(yK tk 5 b).c λ_ c=>tN tk tk.length ⟨w,[],[],[]⟩ c) 0 _ _ h
def LB (p:uD)(k:Nat):Prop:=p.c.length<=k/\p.a.length<=k/\p.b.length<=k/\∀x∈p.a,x.a.length<=k
theorem zvu{q:uD}{k n':Nat}(h:LB p k)(a:iO tk p n=.ok q n'):LB q (k+1):=by
 obtain⟨l,m,o,g⟩:=h;have c:∀x∈p.a,x.a.length<=k+1:=λx i=>Nat.le_succ_of_le (g x i);unfold iO at a;split at a
 .obtain⟨d,f,_,h⟩:=PR.d a;cases h;exact⟨by grind,by grind,by grind,c⟩
 split at a
 .obtain⟨d,f,_,h⟩:=PR.d a;cases h;exact⟨by grind,by grind,by grind,c⟩
 split at a
 .obtain⟨d,f,j,h⟩:=PR.d a;cases h;exact⟨by grind,by grind,by grind,Mc c (by rw[(IK _ _ _ j).2];simp)⟩
 split at a
 .rename_i b;simp only[B3,E7,List.isEmpty_eq_false_iff]at b;obtain⟨d,f,_,h⟩:=PR.d a;cases h;obtain⟨A,x,r⟩:∃A x,p.a=A++[x]:=⟨p.a.dropLast,p.a.getLast b.1,(List.dropLast_concat_getLast b.1).symm⟩;have e:nP p.a d=A++[⟨x.b,x.c,x.a++[d]⟩]:=by grind [nP]
  have i:=g x (by grind);refine⟨by grind,?_,by grind,?_⟩
  all_goals grind [nP]
 split at a
 .obtain⟨d,f,_,h⟩:=PR.d a;cases h;exact⟨by grind,by grind,by grind,c⟩
 grind
def MY:∀(m:Nat) (p:uD) (k:Nat) {q:uD} {n n':Nat},LB p k->tN tk m p n=.ok q n'->LB q (k+m)
 | 0,p,k,q,n,n',h,a=>by cases a;exact h
 | m+1,p,k,q,n,n',h,a=>by
  unfold tN at a;split at a
  .obtain⟨r,g,c,d⟩:=PR.d a;obtain⟨w,i,e,b⟩:=PR.d d;have:=MY m r (k+1) (zvu h c) b
   rwa [show k+1+m=k+(m+1) by omega]at this
  .cases a;obtain⟨c,d,e,b⟩:=h;exact⟨by omega,by omega,by omega,λx f=>Nat.le_trans (b x f) (by omega)⟩
def lh  (h:vJ tk=.ok p n):LB p tk.length:=by
 unfold vJ at h;obtain⟨u,g,d,a⟩:=PR.d h;obtain⟨w,i,e,b⟩:=PR.d a;obtain⟨v,j,f,c⟩:=PR.d b;have:=MY _ _ 0 ⟨by simp,by simp,by simp,by simp⟩ c
 rwa [D8]at this
end
end
section
variable [fC]
def li{s:List Nat}:(wN vJ s).d≠0\/∃p,wN vJ s=.ok p/\GP p/\p.f:=by
 cases c:vP s with
 | er e a b=>left;rw[JZ c];exact NA c
 | ok m=>
  obtain⟨_,g,f⟩:=zhj c;rw[CE c]
  cases d:vJ m with
  | er e i=>left;exact lf d
  | ok p n=>exact .inr ⟨p,rfl,zp6 f d,ky (zp6 f d) g (lh d)⟩
variable {t:G uA}
def zxg(x:pA):1<=fM x:=by cases x;rw[fM];omega
mutual
/-- depth -/
theorem zxh:∀(Q:mB) (x:pA) (k:Nat) (cs:List O),x.q->k<1000->RD t x.d cs->Q (.e .i64 ((min (fM x) (k+1):Nat):Int)) t->Wc Y F 21 [.i cs,.e .i64 ((k+1:Nat):Int)] t Q
 | Q,.mk op name v args,k,cs,r,o,h,g=>by
  obtain⟨a,b,c,rfl,D,E,f⟩:=bI h;simp only[pA.e,pA.i,pA.v,pA.j]at D E f ⊢;unfold pA.q at r;refine w21 ?_;unfold t21;have L:=zxg (.mk op name v args)
  cases k with
  | zero=>
   refine tA (V1 (by omega)) ?_;rw[show min (fM (.mk op name v args)) (0+1)=1 by omega]at g;exact g
  | succ k=>
   refine wB (V0 (by omega)) (sC ?_);rw[fM]at g;refine zrb Q args args k 0 op name v a b c 0 f rfl r.2.2.2 r.2.2.1 (by omega) (by omega) ?_
   grind
theorem zrb:∀(Q:mB) (l args:List pA) (k n op:Nat) (name:List Nat) (v:gE) (a b c:O) (i:Nat),bA t 9 (args.map pA.d) c->args.drop i=l->pA.k l->args.length<tE->n<=1000->k<1000->Q (.e .i64 ((1+max n (min (Bg l) (k+1)):Nat):Int)) t →
  jp 21 2 [.e .i64 ((k+2:Nat):Int),.e .i64 (n:Int),.e .i64 (i:Int),.e .u8 op,.h name,.e .u8 v.a,.d v.f.n.b,a,.d v.f.d.b,b,.e .i64 v.i,c] t Q
 | Q,[],args,k,n,op,name,v,a,b,c,i,f,q,e,m,H,o,g=>by
  have:=FP q;refine j21_2 ?_;unfold xg uI;have j:=f.c;rw[C5]at j;refine vA j (tB (wB (dK (by omega)) ?_));unfold V uW;rw[A2 (by omega) (by omega)];rw[Bg,show 1+max n (min 0 (k+1))=1+n by omega]at g;exact g
 | Q,x::l,args,k,n,op,name,v,a,b,c,i,f,q,e,m,H,o,g=>by
  obtain⟨B,C,K⟩:=FQ q;unfold tE at m;unfold pA.k at e;obtain⟨M,N,cs,z,A,I,J,p⟩:=mG.at J9 (by simp) f (i:=i) (d:=x.d) (by simp[B]);refine j21_2 ?_;unfold xg uI uG uC;have j:=f.c;rw[C5]at j;refine vA j (tB (tA (iK (by omega)) (vA z (iB A (aC (H3 p) (aA ?_))))));rw[q21];have s:nF (AN cs)=.i cs:=congrArg O.i (ub p);have u:V (uW (((k+2:Nat):Int)-1))=.e .i64 ((k+1:Nat):Int):=by
   grind [A2]
  rw[s,u];refine zxh _ x k cs e.1 o p ?_;refine tB (sC ?_);have w:cA .i64 ((i:Int)+1)=((i+1:Nat):Int):=by grind [A2]
  have y:(bif fB (n:Int) ((min (fM x) (k+1):Nat):Int)then((min (fM x) (k+1):Nat):Int)else(n:Int))=((max n (min (fM x) (k+1)):Nat):Int):=by
   grind [iK,dK]
  rw[y];unfold V at *;rw[w];refine zrb Q l args k _ op name v a b c (i+1) f C e.2 (by grind [tE]) (by omega) o ?_
  grind [Bg]
end
def uk(c:qD):Bool:=decide (fM c.a<=24)&&decide (fM c.b<=24)
theorem Z5{x:pA}:vE ((min (fM x) (25+1):Nat):Int) 24=decide (fM x<=24):=by
 grind [V1,V0]
theorem zi2{l:List qD}{A:List Nat}{a b c:O}{Q:mB}(y:bA t 24 (l.map qD.d) c)(hn:l.length<1125899906842624)(K:∀x∈l,x.j):∀(m i:Nat) (g:Bool),i+m=l.length →
  jp 6 2 [.d (g&&(l.drop i).all uk),.e .i64 (l.length:Int),.h A,a,b,c] t Q->jp 6 2 [.d g,.e .i64 (i:Int),.h A,a,b,c] t Q:=by
 intro m;induction m with
 | zero=>
  simp_all
 | succ m M=>
  intro i g Z w;have e:i<l.length:=by omega
  rw[F8 e,ce]at w;have F:(uC (i:Int))=.e .i64 ((i+1:Nat):Int):=by
   grind [A2]
  have z:=y.c;rw[C5]at z;refine j6_2 ?_;unfold t6_2;unfold uI uG uS uB;refine vA z (tB (tA (iK (by omega)) ?_))
  cases g with
  | false=>
   refine wB (by decide) (sC ?_);rw[F];exact M (i+1) false (by omega) w
  | true=>
   obtain⟨p,o,k,u,W,v,X,J⟩:=mG.at O5 (by simp) y (i:=i) (d:=(l[i]).d) (by simp[e]);obtain⟨N,P,R,S,T,U,rfl,q,r⟩:=Kh J;have f:=K _ (F2 e);obtain⟨_,_,_,_,_,H,I⟩:=f;have D:oA Y 31 ⟨0,t⟩ (.j p (o+6))=some (.i (qN l[i].a N P R)):=v.e (j:=6) (n:=9) cu rfl rfl (by omega);have E:oA Y 31 ⟨0,t⟩ (.j p (o+15))=some (.i (qN l[i].b S T U)):=v.e (j:=15) (n:=9) cu rfl rfl (by omega);have s:∀ {x:pA} {k:List O},RD t x.d k->nF (AN k)=.i k:=λh=>congrArg O.i (ub h)
   have B:jB Y 60 6 (.j p o)=some (.j p (o+6)):=by kernel_rfl
   have C:jB Y 60 7 (.j p o)=some (.j p (o+15)):=by kernel_rfl
   refine tA rfl (vA u (vA B (iB D (aC (H3 q) (aA ?_)))));rw[q21,s q];refine zxh _ l[i].a 25 _ (pA.g H) (by omega) q ?_;refine tB ?_;rw[Z5];by_cases L:fM l[i].a<=24
   .rw[decide_eq_true L];refine tA rfl (vA u (vA C (iB E (aC (H3 r) (aA ?_)))));rw[q21,s r];refine zxh _ l[i].b 25 _ (pA.g I) (by omega) r ?_
    grind [tB,sC,Z5,uk]
   grind [wB,sC,uk]
theorem zgh{s:List Nat}(D:∀b∈s,b<256)(N:sL t)(R:cM t)(S:vT t):Wc Y F 6 [.h s] t (λv _=>v=.d true):=by
 refine w6 ?_;unfold t6;refine zpt ?_;by_cases h3:3000<s.length
 .exact tA (by grind [gQ,iK]) rfl
 refine wB (by grind [gQ,dK]) ?_;refine zge (K:=λX4 X n=>.a (!kB n 0) xH _) N D λy Q B d=>?_;rcases li (s:=s)with M | ⟨p,M,E,j⟩
 .refine tA ?_ rfl
  grind [rI]
 rw[M]at d ⊢;have d:RD y p.d Q:=d;refine wB (by grind [RP.d,rI]) (aA ?_);obtain⟨a,b,c,rfl,ha,hb,L⟩:=nY d;have I:∀ {tt:G uA} {o:List O},RD tt p.d o->M6 (AN o)=.i o:=λh=>congrArg O.i (Pf h);rw[I d,q16];show oD (oB Y F 16 [.i [.h p.e,a,b,c],.e .i64 2000] y) _;rw[zmd j d,xA];refine tB ?_;by_cases J:2000<uh p
 .exact tA (iK J) rfl
 refine wB (dK J) (sC ?_);show jp 6 2 [.d true,.e .i64 ((0:Nat):Int),.h p.e,a,b,c] y _;have u:=j.ac;unfold tE at u;refine zi2 L u j.aa p.b.length 0 true (by omega) ?_;have e:(true&&(p.b.drop 0).all uk)=fR p:=by
  rw[zw0 E];rfl
 rw[e];have g:=L.c;rw[C5]at g;refine j6_2 ?_;unfold t6_2;unfold uI uG uS uB;refine vA g (tB (wB (dK (by omega)) (aA ?_)));rw[q17];have f:=N.a B;have q:cM y:=R.a B;have r:vT y:=S.a B;refine QB j q r f d λt2 x i=>?_;have H:=d.f x;unfold Om
 cases C:fR p with
 | false=>
  rw[A3 (by simp)];refine vA rfl (gC (vA rfl (tB (tA rfl (tA (by decide +kernel) (wB (by decide) rfl))))))
 | true=>
  have i:=i C;rw[A5 rfl];by_cases g:65536<(zX p).length
  .rw[A5 g];exact vA rfl (gC (vA rfl (tB (wB (by decide) (tA (by decide) (tA (by decide +kernel) (tA (by decide) rfl)))))))
  .rw[A3 g];obtain⟨m,k,T,U⟩:=zgf j C;have w:wN vJ (zX p)=.ok p:=by rw[CE (by rw[zvw (by omega)];exact T),U]
   refine vA rfl (gC (vA rfl (tB (wB (by decide) (wB (by decide) ?_)))));refine zge (K:=λA X W=>.c 17 [(M6 A)] _) (f.a x) (i g) λZ o z l=>?_;rw[w]at l ⊢;have l:RD Z p.d o:=l;refine aA ?_;rw[I l,q17];refine QB j ((q.a x).a z) ((r.a x).a z) ((f.a x).a z) l λt4 P _=>?_;unfold Om;rw[C,A5 rfl,A3 g];refine vA rfl (gC (vA rfl (tB (tA (rI.2 rfl) (tA (by decide) ?_)))));refine zuq (zmx j (by omega)).1 ((H.f z).f P) (l.f P) (cC (tA rfl ?_))
   exact congrArg O.d ((eJ _ _).2 rfl)
end
end Go.Proofs
namespace Go.Am
open Go Go.RowKit Go.Proofs
def P5{w:World}(b:bJ w){a:ByteArray}:Calls Tryz.prog 6 #[.string a] w λe w'=>e=.returned (.bool true)/\Below w.heap.size w w':=
 zal b 6 [.h (rG a)] _ (by intro _;kernel_rfl) (.g (by rw[rA];exact⟨_,rfl,rfl⟩)) ⟨_,zgh (zpo a) (ziu b) (zit b) (PW b),λv t h=>h⟩
end Go.Am
