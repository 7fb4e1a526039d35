/- format's writer comes to an end, with a text that is not empty and not much longer than a source. -/
import Derived.Carry
import Derived.ChangeArms
import Derived.HandedShaped
import Derived.JoinedOf
import Derived.LaidMore
import Derived.OpenShut
import Derived.ProofKit
import Derived.Stop.Joined
import GoSem.ClaimJoined
import Derived.Test.YtefajchlhjcgpaaGreatDoorC21
set_option linter.all false
noncomputable section
set_option maxRecDepth 100000
namespace Go.Proofs
open Go Go.Am
variable [fC]
variable {t tf:G vA}
def mU(t:G vA):Prop:=At t 1 0 (Ca.map O.h)
theorem mU.a{t':G vA}(h:mU t)(k:zB t t'):mU t':=At.f k h
theorem XV(b:mU t){n:Nat}(c:n<256):oB Y F 170 [.e .u8 (n:Int)] t=some (.h (qM n))/\(qM n).length<=10/\pB 256 (qM n):=by
 unfold qM;by_cases h:n<7
 .have a:(Ca.map O.h)[n]?=some (.h (Ca.getD n [])):=by
   have:n<Ca.length:=h
   simp_all
  rw[A5 h];refine⟨mC.2 (w170 (tA (by grind [A2,iM]) (uA (v:=.j 1 n) ?_ (fB (v:=.h (Ca.getD n [])) ?_ (jC ⟨rfl,rfl⟩))))),?_,?_⟩
  .unfold zC;rw[yy,mA];have e:(O.e .u8 (n:Int)).aj=some n:=rfl;rw[e,mA];grind [O.u,O.ah,mA,lE.g,iI,gC,xE]
  .have:=b.d iI rfl a
   grind
  .have:∀k,k<7->(Ca.getD k []).length<=10:=by decide
   grind
  .have:∀k,k<7->∀x∈Ca.getD k [],x<256:=by decide
   exact this n h
 .rw[A3 h];exact⟨mC.2 (w170 (vB (by grind [A2,dM]) ⟨rfl,rfl⟩)),by simp,λx a=>by cases a⟩
theorem DO{s:List Nat}(h:∀x∈s,48<=x/\x<58):pB 256 s:=λx a=>by grind
def lH{a b:List Nat}(c:pB 256 a)(d:pB 256 b):pB 256 (a++b):=λx e=>by
 rcases F5.1 e with h | h
 .exact c x h
 .exact d x h
theorem DN{neg:Bool}{n:Nat}:pB 256 (eu neg n)/\eu neg n≠[]:=by
 have h:=Yv n;refine⟨lH ?_ (DO (Yu n)),λe=>?_⟩
 .cases neg
  .intro x a;cases a
  .intro x a;simp_all
 grind [eu]
def Xf{f:qF}:pB 256 (qK f)/\qK f≠[]:=by
 unfold qK Ge;refine⟨lH DN.1 ?_,λe=>DN.2 (List.append_eq_nil_iff.1 e).1⟩;split
 .intro x a;cases a
 .intro x a;rcases C3.1 a with rfl | a
  .decide
  .exact DN.1 x a
theorem Xe{n:Int}:pB 256 (xJ n)/\xJ n≠[]:=by
 by_cases h:n<0
 .obtain⟨u,rfl⟩:∃u:Nat,n = -(u:Int):=⟨n.natAbs,by omega⟩;rw[EF (by omega)];refine⟨λx a=>?_,by simp⟩;rcases C3.1 a with rfl | a
  .decide
  .exact DO (Yu u) x a
 .obtain⟨u,rfl⟩:∃u:Nat,n=(u:Int):=⟨n.toNat,by omega⟩;rw[Xr];exact⟨DO (Yu u),λe=>by grind [Yv]⟩
theorem Xd{s:List Nat}(h:pB 256 s)(b:s≠[]):pB 256 (iH s)/\iH s≠[]:=by
 unfold iH;split
 .exact⟨lH (by intro x a;grind) λx a=>h x (List.mem_of_mem_drop a),by simp⟩
 simp_all
def Au(n:Nat):(vH n).length=10/\pB 256 (vH n):=⟨rfl,by unfold vH Gb d1;intro x a;simp only[C3,List.not_mem_nil,or_false]at a;omega⟩
theorem UI{v:iF}(m:v.b)(p:tQ v=true):Gi v≠[]/\(Gi v).length<=20100/\pB 256 (Gi v):=by
 obtain⟨_,i,c,d⟩:=m;have j:=Xq c d;have l:=Rd (xJ v.i);have a:=Xd (Xe (n:=v.i)).1 Xe.2;have g:=Xd (Xf (f:=v.f)).1 Xf.2;have o:=Au v.i.toNat;have h:∀k,(k=2\/k=3)->v.a=k->(iH (qK v.f)).length<=20010:=by
  grind [EW,Wl,Rd]
 unfold Gi Qh;split
 .split
  .exact⟨by simp,by simp,by intro x b;grind⟩
  .exact⟨by simp,by simp,by intro x b;grind⟩
 .split
  .grind
  .split
   .rename_i e;have:=h 3 (.inr rfl) e;exact⟨by simp,by grind,lH (by intro x b;grind) g.1⟩
   .split
    .grind
    .split
     .exact⟨by simp,by grind,lH a.1 (by intro x b;grind)⟩
     .split
      .exact⟨by simp,by simp;omega,lH a.1 (by intro x b;grind)⟩
      grind [tQ]
theorem PH{op:Nat}(h:op<27):(yB op).c.length<=10/\∀x∈(yB op).c,x<256:=by
 have:∀k,k<27->(yB k).c.length<=10/\∀x∈(yB k).c,x<256:=by decide +kernel
 grind
theorem PJ{op:Nat}(h:op<27):((yB op).b=1->op=1)/\((yB op).b=2->(yB op).c≠[])/\((yB op).b=3->1<=(yB op).d)/\((yB op).b=4->2<=(yB op).d)/\((yB op).b=5->1<=(yB op).d/\(yB op).c≠[])/\(yB op).b<=6/\(yB op).h<=3/\(op=1->(yB op).b=1):=by
 have:∀k,k<27->((yB k).b=1->k=1)/\((yB k).b=2->(yB k).c≠[])/\((yB k).b=3->1<=(yB k).d)/\((yB k).b=4->2<=(yB k).d)/\((yB k).b=5->1<=(yB k).d/\(yB k).c≠[])/\(yB k).b<=6/\(yB k).h<=3/\(k=1->(yB k).b=1):=by decide +kernel
 grind
theorem eZ{s:List Nat}(h:sI s=true):s.length<=24:=by
 unfold sI at h;grind
def cM (h:Nat):Nat:=86000+200*h
def nh (bf:Nat)(x:iA):Prop:=∀(d:Nat) (c:List O) (tf t:G vA) (b:Nat) (s:List Nat) (Q:lB),x.b->fJ x d=true->xC tf bf none lS->vN tf->mU tf->RD tf x.d c->BX 134 [.j bf 0] tf t b s->s.length<=95000 →
 (∀e a,BX 134 [.j bf 0] tf e b a->a≠[]->a.length<=max s.length (cM (25-d))->Wr s (yQ x) a->Q (.p []) e)->Wc Y F 62 [.j b 0,.i c] t Q
def aT{b:Nat}:iB Y 134 0 (.j b 0)=some (.j b 0):=by kernel_rfl
def zh9{b:Nat}:iB Y 134 1 (.j b 0)=some (.j b 2):=by kernel_rfl
def BX.l{bf a:Nat}{s:List Nat}(h:BX 134 [.j bf 0] tf t a s):oA Y 69 ⟨0,t⟩ (.j a 2)=some (.j bf 0):=by
 obtain⟨_,_,_,_,_,p,c,_,b,_,_⟩:=h;exact b.f (j:=2) ty69 rfl rfl
section
variable {bf f:Nat}{s:List Nat}{Q:lB}
theorem BX.w{T:Nat}{b:List O}(h:BX T b tf t f s):oB Y F 43 [.j f 0] t=some (.e .i64 (s.length:Int)):=by
 obtain⟨e,g,i,m,l,p,o,n,c,d,k⟩:=h;refine mC.2 (w43 ?_);unfold t43 uI sC V;have a:=d.q;rw[sH]at a;exact uA zI (uA gq (fB (c.f (j:=1) iX rfl rfl) (uA a (sB ⟨rfl,rfl⟩))))
theorem ZO{y:iA}{d:Nat}{cs:List O}{lev:Nat}(B:nh bf y)(e:y.b)(h:fJ y d=true)(o:xC tf bf none lS)(u:vN tf)(z:mU tf)(p:RD tf y.d cs)(j:BX 134 [.j bf 0] tf t f s)(P:s.length<=94000)(I:1<=d)
  (w:∀t' g,BX 134 [.j bf 0] tf t' f g->g≠[]->g.length<=max s.length (cM (25-d))+2->Wr s (H3 lev ((yB y.e).a,yQ y)) g->Q (.p []) t'):Wc Y F 123 [.j f 0,.i cs,.e .i64 (lev:Int)] t Q:=by
 obtain⟨a,b,c,rfl,L,M,N⟩:=uJ p;have i:y.e<27:=by
  obtain⟨R,C,v,q⟩:=y;unfold fJ Hw at h;simp only[B2,decide_eq_true_eq]at h;exact h.1.2.1.1.1.1
 have H:cM (25-d)<=91000:=by grind [cM]
 refine w123 ?_;unfold t123 uI sC V uY;refine uA zI (uA zh9 (fB j.l (uA zI (uA (zb i) (uA (zU (by decide)) (fB (zmz (o.l j.g) i) (sB ?_)))))));by_cases A:lev<=(yB y.e).a
 .refine tA (fe (by omega)) (aA ?_);rw[q62];exact B d _ tf t f s _ e h o u z p j (by omega) λt' g k l r E=>w t' g k l (by omega) (E.c (by unfold H3;rw[A5 A]))
 .refine vB (mh (by omega)) (uA zI (uA aT (aA ?_)));rw[q42];refine j.f (by simp) (by intro x J;simp_all) (by grind) λ_ K k=>aA ?_;rw[q62];refine B d _ tf K f _ _ e h o u z p k (by grind) λT S l D m n=>uA zI (uA aT (aA ?_));rw[q42];simp only[E1,List.length_singleton]at m;refine l.f (by simp) (by intro x J;simp_all) (by grind) λ_ U r=>?_;exact w _ _ r (by simp) (by grind) ((((Wr.b _ _).a n).a (Wr.b _ _)).c (by unfold H3;rw[A3 A]))
theorem zjl{args:List iA}{d:Nat}{c:O}(j:∀y∈args,nh bf y)(b:∀y∈args,y.b)(hP:∀y∈args,fJ y (d+1)=true)(X:xC tf bf none lS)(Z:vN tf)(E:mU tf)(hc:bA tf 9 (args.map iA.d) c)(a1:args.length<=3)(hd:d<=24)
  {c0 c2 c7:Int} {c1:List Nat} {c3 c5:Bool} {c4 c6 c8:O} {op:Nat} (a8:c0=(op:Int)) (W:op=19->0<=c7/\c7<256):∀(k i:Nat) (t:G vA) (s:List Nat),i+k=args.length->BX 134 [.j bf 0] tf t f s->s≠[]->s.length<=cM (24-d)+100+2*i →
  (∀t' e,BX 134 [.j bf 0] tf t' f e->e≠[]->e.length<=cM (24-d)+130->Wr s (mV (decide (i=0)) ((nJ args).drop i)++Dg op c7) e->Q (.p []) t') →
  jp 124 2 [.j f 0,c,.e .i64 (args.length:Int),.e .i64 (i:Int),.e .u8 c0,.h c1,.e .u8 c2,.d c3,c4,.d c5,c6,.e .i64 c7,c8] t Q:=by
 have a7:cM (24-d)<=91000:=by grind [cM]
 intro k;induction k with
 | zero=>
  intro i t s hi l hn hs g;refine zq8 ?_;unfold xl uS uG aB tC sC V uY jH bF;refine vB (dM (by omega)) ?_;have m:(nJ args).drop i=[]:=E3 (by grind [Mq]);rw[m,mV,E8]at g;unfold Dg at g;by_cases r:op=19
  .rw[A5 r]at g;refine tA (jR (by omega)) (uA zI (uA aT (aA ?_)));obtain⟨n,M,N,P⟩:∃n:Nat,cA .u8 c7=(n:Int)/\n<256/\c7.toNat=n:=⟨c7.toNat,by grind [Md],by omega,rfl⟩;obtain⟨R,aa,S⟩:=XV (E.a l.g) N;rw[P]at g;rw[M,q170,R,xA];refine jC (uA (rH (by grind)) (jC (aA ?_)));rw[q42];refine l.f (by simp) (lH (by intro x T;grind) S) (by grind) λ_ t1 q=>uA zI (uA aT (aA ?_));rw[q42];refine q.f (by simp) (by intro x T;simp_all) (by grind) λ_ A h=>?_
   exact g _ _ h (by simp) (by grind) ((Wr.b _ _).a (Wr.b _ _))
  .rw[A3 r,E8]at g;refine vB (rM (by omega)) (uA zI (uA aT (aA ?_)));rw[q42];refine l.f (by simp) (by intro x T;simp_all) (by grind) λ_ A h=>?_;exact g _ _ h (by simp) (by grind) (Wr.b _ _)
 | succ k ih=>
  intro i t s hi l hn hs g;have w:i<args.length:=by omega
  have o:args[i]∈args:=F2 w;refine zq8 ?_;unfold xl uS uG aB tC sC V uY jH bF;obtain⟨b0,z,a,B,C,_,_,p⟩:=gG.at On (by simp) hc (i:=i) (d:=args[i].d) (by simp[w]);have ld:oA Y 31 ⟨0,t⟩ (.j b0 z)=some (Qk true a):=Ql (H:=⟨0,tf⟩) (HA:=⟨0,t⟩) l.g C;refine tA (iM (by omega)) (uA B (fB ld ?_));rw[Bo];refine aC (kN p (iA.s _)) ?_;have K:=p.mk (iA.s args[i]);have F:[O.e .u8 ((AN a).i 0),.h ((AN a).s 1),.e .u8 ((AN a).i 2),.d ((AN a).b 3),(AN a).v 4,.d ((AN a).b 5),(AN a).v 6,.e .i64 ((AN a).i 7),(AN a).v 8]=a:=K
  rw[F];refine tA p.e ?_;have J:i<(nJ args).length:=by grind [Mq]
  have I:(nJ args)[i]=((yB args[i].e).a,yQ args[i]):=by simp[Mq]
  have hj:=zm7 J;rw[I]at hj;have next:∀t' e,BX 134 [.j bf 0] tf t' f e->e≠[]->e.length<=cM (24-d)+100+2*(i+1)->Wr s ((if i=0 then []else [44,32])++yQ args[i]) e->jp 124 2 [.j f 0,c,.e .i64 (args.length:Int),.e .i64 (cA .i64 ((i:Int)+1)),.e .u8 c0,.h c1,.e .u8 c2,.d c3,c4,.d c5,c6,.e .i64 c7,c8] t' Q:=by
   intro t' e q h h3 h4;rw[A2 (by omega) (by omega),show(i:Int)+1=((i+1:Nat):Int) by omega];exact ih (i+1) t' e (by omega) q h h3 λA U B C g3 g4=>g A U B C g3 ((h4.a g4).c (by simp_all))
  have a6:25-(d+1)=24-d:=by omega
  by_cases h0:0<i
  .refine tA (iM (by omega)) (uA zI (uA aT (aA ?_)));rw[q42];refine l.f (by simp) (by intro x T;grind) (by grind) λ_ t1 q=>aA ?_;rw[q62];refine j _ o (d+1) _ tf t1 f _ _ (b _ o) (hP _ o) X Z E p q (by grind) λA U h u D v=>qC ?_;have L:i≠0:=by omega
   exact next _ _ h u (by grind) (((Wr.b _ _).a v).c (by rw[A3 L]))
  .refine vB (dM (by omega)) (aA ?_);rw[q62];refine j _ o (d+1) _ tf t f _ _ (b _ o) (hP _ o) X Z E p l (by omega) λA U h u D v=>qC ?_
   grind
theorem zkc{op:Nat}{name:List Nat}{v:iF}{args:List iA}{d:Nat}{a b c:O}(p:∀y∈args,nh bf y)(g:iA.b (.mk op name v args))(w:fJ (.mk op name v args) d=true)(A:(yB op).b=6)(u:xC tf bf none lS)(M:vN tf)(N:mU tf)
  (C:bA tf 9 (args.map iA.d) c) (B:BX 134 [.j bf 0] tf t f s) (hs:s.length<=65536)
  (r:∀t' i,BX 134 [.j bf 0] tf t' f i->i≠[]->i.length<=cM (25-d)->Wr s (mS op name v (nJ args)) i->Q (.p []) t') :
  Wc Y F 124 [.j f 0,.i [.e .u8 op,.h name,.e .u8 v.a,.d v.f.n.b,a,.d v.f.d.b,b,.e .i64 v.i,c],.j bf (op*8)] t Q:=by
 unfold fJ Hw at w;simp only[B2,decide_eq_true_eq]at w;obtain⟨⟨P,⟨⟨⟨j,_⟩,hl⟩,hm⟩,q⟩,h⟩:=w;obtain⟨f1,f2,f3,f4,f5,f6,f7,f8⟩:=PJ j;have S:=PH j;have n:op≠1:=λe=>by omega
 rw[A3 n,B2,Zw,C9]at h;unfold iA.b at g;have l:=iA.j g.2.2.2.2.2;have D:cM (25-d)=cM (24-d)+200:=by grind [cM]
 have o:op=19->0<=v.i/\v.i<256:=by
  grind [vU]
 unfold mS at r;rw[A]at r;simp only[Nat.reduceEqDiff,if_false]at r;have m:∀t' i,BX 134 [.j bf 0] tf t' f i->i≠[]->i.length<=65536+100->Wr s ((yB op).c++[40]++(if (yB op).e then name++[44,32]else [])) i->jp 124 9 [.j f 0,.e .u8 op,.h name,.e .u8 v.a,.d v.f.n.b,a,.d v.f.d.b,b,.e .i64 v.i,c] t' Q:=by
  intro t' i W X k3 Z;refine j124_9 ?_;unfold zpp uI V uY;have k:=C.c;rw[C4]at k;refine uA k (sB (qC ?_));refine zjl (d:=d) p l (λy U=>h.2 y U) u M N C (by omega) P rfl o args.length 0 t' i (by omega) W X (by grind [cM]) λH s2 I J g3 K=>r H s2 I J (by omega) ((Z.a K).c (by simp_all))
 refine w124 ?_;unfold t124 uB uS sC V uY;have z:=zgu (u.l B.g) j;refine uA zI (uA aT (uA zI (uA (zU (by decide)) (fB z (jC (uA (rH (by grind)) (jC (aA ?_))))))));rw[q42];refine B.f (by simp) (lH S.2 (by intro x T;simp_all)) (by grind) λ_ t1 n=>?_;refine uA zI (uA (zU (by decide)) (fB (MX (u.l n.g) j) (iC ?_)))
 cases E:(yB op).e with
 | true=>
  rw[E,A5 rfl]at q;have R:=eZ q;refine tA rfl (uA zI (uA aT (uA (rH (by grind)) (jC (aA ?_)))));rw[q42];refine n.f (by simp) (lH g.2.2.1 (by intro x T;grind)) (by grind) λ_ H L=>qC ?_;exact m _ _ L (by simp) (by grind) (((Wr.b _ _).a (Wr.b _ _)).c (by rw[E,A5 rfl]))
 | false=>exact vB (by simp) (qC (m _ _ n (by simp) (by grind) ((Wr.b _ _).c (by grind))))
set_option maxHeartbeats 2000000 in
mutual
/-- THE WRITER COMES TO AN END -/
theorem HF:∀(x:iA),nh bf x
 | .mk j l v g=>by
  have ao:=HE g;intro d y tf t f s Q n Z N hM hW hr r hs hQ;have au:=Z;have ai:=n;obtain⟨a,b,c,rfl,ha,hb,hc⟩:=uJ hr;simp only[iA.e,iA.i,iA.v,iA.k]at ha hb hc ⊢;unfold fJ Hw at Z;simp only[B2,decide_eq_true_eq]at Z;obtain⟨⟨hd,⟨⟨⟨p,al⟩,hl⟩,hm⟩,b1⟩,q⟩:=Z;simp only[F4,decide_eq_false_iff_not]at al;obtain⟨f1,f2,f3,f4,f5,f6,f7,f8⟩:=PJ p;have hw:=PH p;unfold iA.b at n;have aj:=iA.j n.2.2.2.2.2;have ap:cM (25-d)=cM (24-d)+200:=by grind [cM]
  have ar:25-(d+1)=24-d:=by omega
  have ax:cM (24-d)<=91000/\86000<=cM (24-d):=by grind [cM]
  refine w62 ?_;unfold t62 uI uU uS uG sC V uY bF;refine uA zI (uA aT (aA ?_));rw[q43,r.w,xA];refine sB ?_;by_cases R:65536<s.length
  .refine tA (iM (by omega)) ?_;exact hQ t s r (λe=>by simp_all) (by omega) (Wr.d _ R)
  rw[yQ]at hQ;refine vB (dM (by omega)) ?_;have P:=N.l r.g;refine uA zI (uA zh9 (fB r.l (uA zI (uA (zb p) (uA zI (uA (zU (by decide)) (fB (MW P p) (sB ?_))))))));have C:∀ {B},zB tf B->oA Y 9 ⟨0,B⟩ (.j bf (j*8+1))=some (.h (yB j).c):=λh=>zgu (N.l h) p;have aq:(yB j).b≠1->Fr g (d+1)=true:=by
   grind
  have arg:∀(i:Nat) (I:Nat) (w:G vA) (M:List Nat) (K:O->T) (Q:lB) (k:Nat),(yB j).b≠1->i<g.length->k<8->BX 134 [.j bf 0] tf w f M->M.length<=94000->oA Y 3 ⟨0,w⟩ (.j bf (j*8+k))=some (.e .i64 (I:Int)) →
    (∀B A,BX 134 [.j bf 0] tf B f A->A≠[]->A.length<=max M.length (cM (24-d))+2->Wr M (H3 I ((nJ g).getD i (0,[]))) A->wp 62 (K (.p [])) B Q) →
    wp 62 (.d (zC Y 29 c (.e .i64 (i:Int))) λa1=>.e (λm=>oA Y 31 ⟨0,m⟩ a1) λa6=>.o [(.e .u8 0),(.h []),(.e .u8 0),(.d false),.g,(.d false),.g,(.e .i64 0),.g] a6 λo=>
     .d (zR (.j bf (j*8))) λa7=>.d (iB Y 131 k a7) λa8=>.e (λm=>oA Y 3 ⟨0,m⟩ a8) λaa=>.r .i64 aa λam=>.c 123 [.j f 0,(.i [(.e .u8 (o.i 0)),(.h (o.s 1)),(.e .u8 (o.i 2)),(.d (o.b 3)),(o.v 4),(.d (o.b 5)),(o.v 6),(.e .i64 (o.i 7)),(o.v 8)]),(.e .i64 am)] K) w Q:=by
   intro i I w M K Q k ay hi hk z b2 S aw;have hm:g[i]∈g:=F2 hi;obtain⟨b0,X,y,g1,g2,_,_,g5⟩:=gG.at On (by simp) hc (i:=i) (d:=g[i].d) (by simp[hi]);have ld:oA Y 31 ⟨0,w⟩ (.j b0 X)=some (Qk true y):=Ql (H:=⟨0,tf⟩) (HA:=⟨0,w⟩) z.g g2;refine uA g1 (fB ld ?_);rw[Bo];refine aC (kN g5 (iA.s _)) ?_;have ak:=g5.mk (iA.s g[i]);have ac:[O.e .u8 ((AN y).i 0),.h ((AN y).s 1),.e .u8 ((AN y).i 2),.d ((AN y).b 3),(AN y).v 4,.d ((AN y).b 5),(AN y).v 6,.e .i64 ((AN y).i 7),(AN y).v 8]=y:=ak
   rw[ac];refine uA zI (uA (zU hk) (fB S (sB (aA ?_))));rw[q123];have av:fJ g[i] (d+1)=true:=by
    grind [Zw]
   grind [Mq,ZO]
  have ab:=hQ;have ad:(yB j).b=1->mS j l v (nJ g)=Gi v:=λe=>by unfold mS;rw[A5 e]
  have ae:(yB j).b=2->mS j l v (nJ g)=(yB j).c:=λe=>by unfold mS;rw[A3 (by omega),A5 e]
  have af:(yB j).b=3->mS j l v (nJ g)=(yB j).c++l++[32,97,116,32]++H3 (yB j).g ((nJ g).getD 0 (0,[])):=λe=>by unfold mS;rw[A3 (by omega),A3 (by omega),A5 e]
  have ag:(yB j).b=4->mS j l v (nJ g)=H3 (yB j).g ((nJ g).getD 0 (0,[]))++([32]++(yB j).c++[32]++H3 (yB j).i ((nJ g).getD 1 (0,[]))):=λe=>by unfold mS;rw[A3 (by omega),A3 (by omega),A3 (by omega),A5 e]
  have ah:(yB j).b=5->mS j l v (nJ g)=(yB j).c++H3 (yB j).g ((nJ g).getD 0 (0,[])):=λe=>by unfold mS;rw[A3 (by omega),A3 (by omega),A3 (by omega),A3 (by omega),A5 e]
  have done:∀B A,BX 134 [.j bf 0] tf B f A->A≠[]->A.length<=cM (25-d)->Wr s (mS j l v (nJ g)) A->wp 62 (.l (.p [])) B Q:=λB A E L k3 F=>ab B A E L (by omega) F;have i0:((0:Nat):Int)=0:=rfl;have i1:((1:Nat):Int)=1:=rfl;have u:=arg 0;have D:=arg 1;rw[i0]at u;rw[i1]at D;have J:(yB j).b=1\/(yB j).b=2\/(yB j).b=3\/(yB j).b=4\/(yB j).b=5\/(yB j).b=6:=by omega
  rcases J with e | e | e | e | e | e
  .-- a constant
   refine tA (jR (by omega)) (uA zI (uA aT (aA ?_)));have U:=f1 e;rw[A5 U]at q;obtain⟨v1,v2,v3⟩:=UI n.2.2.2.1 q;have hv:=UJ (date:=vH v.i.toNat) (ha.a r.g) (hb.a r.g) n.2.2.2.1 q (λhk=>by
    have W:=q;unfold tQ at W;rw[A3 (by omega),A3 (by omega),A5 hk]at W;simp only[B2,decide_eq_true_eq]at W;have hn:v.i.toNat<65536:=by omega
    rw[<- SP hn,show((v.i.toNat:Nat):Int)=v.i by omega];exact zro (hM.a r.g) W.2.1 W.2.2)
   rw[show Qh (vH v.i.toNat) v=Gi v from rfl]at hv;rw[q35,hv,xA];refine jC (aA ?_);rw[q42];refine r.f v1 v3 (by omega) λ_ w z=>done _ _ z (by simp[v1]) (by grind) ((Wr.b _ _).c (ad e).symm)
  .-- a word
   refine vB (rM (by omega)) (tA (jR (by omega)) (uA zI (uA aT (uA zI (uA (zU (by decide)) (fB (C r.g) (jC (aA ?_))))))));rw[q42];refine r.f (f2 e) hw.2 (by omega) λ_ w z=>done _ _ z (by simp[f2 e]) (by grind) ((Wr.b _ _).c (ae e).symm)
  .-- word,name,at
   have az:l.length<=24:=by
    grind [eZ,bJ]
   have h3:=f3 e;refine vB (rM (by omega)) (vB (rM (by omega)) (tA (jR (by omega)) (uA zI (uA aT (uA zI (uA (zU (by decide)) (fB (C r.g) (jC (uA (rH (by omega)) (jC (uA (rH (by grind)) (jC (aA ?_)))))))))))));rw[q42];refine r.f (by simp) (lH (lH hw.2 n.2.2.1) (by intro x hx;grind)) (by grind) λ_ w z=>?_;refine u _ w _ _ _ 6 (by omega) (by omega) (by decide) z (by grind) (DY (N.l z.g) p) λt2 s2 E L k3 F=>done _ _ E L (by grind) (((Wr.b _ _).a F).c (af e).symm)
  .-- an operator
   have h4:=f4 e;refine vB (rM (by omega)) (vB (rM (by omega)) (vB (rM (by omega)) (tA (jR (by omega)) ?_)));refine u _ t _ _ _ 6 (by omega) (by omega) (by decide) r (by omega) (DY P p) λw M E L k3 F=>?_;refine uA zI (uA aT (uA zI (uA (zU (by decide)) (fB (C E.g) (jC (uA (rH (by grind)) (jC (uA (rH (by grind)) (jC (aA ?_))))))))));rw[q42];refine E.f (by simp) (lH (lH (by intro x hx;simp_all) hw.2) (by intro x hx;simp_all)) (by grind) λ_ t2 h2=>?_
   refine D _ t2 _ _ _ 7 (by omega) (by omega) (by decide) h2 (by grind) (zmy (N.l h2.g) p) λt3 s3 m1 m2 m3 m4=>done _ _ m1 m2 (by grind) ((F.a ((Wr.b _ _).a m4)).c (ag e).symm)
  .-- not
   have h5:=f5 e;refine vB (rM (by omega)) (vB (rM (by omega)) (vB (rM (by omega)) (vB (rM (by omega)) (tA (jR (by omega)) (uA zI (uA aT (uA zI (uA (zU (by decide)) (fB (C r.g) (jC (aA ?_)))))))))));rw[q42];refine r.f h5.2 hw.2 (by omega) λ_ w z=>?_;refine u _ w _ _ _ 6 (by omega) (by omega) (by decide) z (by grind) (DY (N.l z.g) p) λt2 s2 E L k3 F=>done _ _ E L (by grind) (((Wr.b _ _).a F).c (ah e).symm)
  .-- a call
   refine vB (rM (by omega)) (vB (rM (by omega)) (vB (rM (by omega)) (vB (rM (by omega)) (vB (rM (by omega)) (tA (jR (by omega)) (aA ?_))))));rw[q124];grind [zkc]
theorem HE:∀(l:List iA),∀y∈l,nh bf y
 | [],_,h=>by cases h
 | x::l,y,h=>by
  rcases C3.1 h with e | h
  .rw[e];exact HF x
  .exact HE l y h
end
end
end Go.Proofs
namespace Go.Proofs
open Go Go.Am
section
variable [fC]
variable {t tf:G vA}
theorem QK{x:iA}{cs:List O}{Q:lB}(g:x.b)(z:fJ x 1=true)(y:vN t)(B:mU t)(n:RD t x.d cs)(A:∀t' s,zB t t'->s≠[]->Wr [] (yQ x) s->s.length<=91000->pB 256 s->Q (.h s) t'):Wc Y F 28 [.i cs] t Q:=by
 obtain⟨a,b,c,rfl,M,N,P⟩:=uJ n;refine w28 ?_;unfold t28 uS aB sC V uY;refine aA ?_;rw[q59];refine ME λi k I J r h K=>?_;refine tA rfl (kC λd f j=>?_);obtain⟨l,o,p,q,H⟩:=Eb f [.y,.g,.j i 0] (some (.a 134));have e:Mn Y 134 (.i [.y,.g,.j i 0]) ⟨d,k⟩=some (.j d 0,⟨d+1,l⟩):=by
  unfold Mn;have:lL Y 134=some (.a 134):=by kernel_rfl
  rw[this,<- o];rfl
 refine⟨_,_,e,aA ?_⟩;have w:BX 134 [.j i 0] k l d []:=⟨j,f,q,(by intro x E;cases E),rfl,.y,.g,.inl rfl,p,.inl ⟨rfl,rfl⟩,Xv,λ_=>rfl⟩;rw[q62];refine HF x 1 _ k l d [] _ g z r (y.a h) (B.a h) (n.f h) w (by simp) λR s m u L D=>?_;refine uA zI (uA aT (aA ?_));rw[q44];have C:s.length<=91000:=by
  grind [cM]
 exact m.i (by omega) λS v=>jC (A _ _ (h.d v) u D C m.2.2.2.1)
end
section
variable {f kf:Nat}{fn:Func}{A:oE}{x:List O}{U:T}
variable [fC]
def aF (f:Nat):Bool:=yJ f [47,30,31,32,37,38,39,95,96,68,97,66,67,79,81,152,153,154,129,201,202,181,231,266,287,299,313,314,319]
abbrev xG(E:lB)(f:Nat)(T:T)(m:G vA)(Q:lB):Prop:=lA Y.a (pF Y F eC aF E) (L6 Y F E f) T m Q
abbrev dK(E:lB)(f:Nat)(a:List O)(m:G vA)(Q:lB):Prop:=cK Y F E f a m Q
abbrev rI(E:lB)(f i:Nat)(a:List O)(m:G vA)(Q:lB):Prop:=L6 Y F E f i a m Q
def pQ(f:Nat)(h:(eC f&&Nat.blt f yo)=true:=by kernel_rfl){E:lB}(a:List O)(m:G vA)(R:lB):pF Y F eC aF E f a m R=pD (oB Y F f a m) λv=>R v m:=A5 h
def pW(f:Nat)(h:(eC f&&Nat.blt f yo)=false:=by kernel_rfl)(b:Nat.beq f pn=false:=by kernel_rfl)(c:(aF f&&Nat.blt f pn)=false:=by kernel_rfl){E:lB}(a:List O)(m:G vA)(R:lB):pF Y F eC aF E f a m R=Wc Y F f a m R:=by unfold pF;rw[h,b,c];simp
def pE(f:Nat)(h:(eC f&&Nat.blt f yo)=false:=by kernel_rfl)(b:Nat.beq f pn=false:=by kernel_rfl)(c:(aF f&&Nat.blt f pn)=true:=by kernel_rfl){E:lB}(a:List O)(m:G vA)(R:lB):pF Y F eC aF E f a m R=cK Y F E f a m R:=by unfold pF;rw[h,b,c];simp
def pX{E:lB}(v:O)(m:G vA)(R:lB)(h:E v m):pF Y F eC aF E pn [v] m R:=by unfold pF;rw[show(eC pn&&Nat.blt pn yo)=false by kernel_rfl,show Nat.beq pn pn=true by kernel_rfl];simp[h]
variable {E:lB}{m:G vA}{Q:lB}
def gA     (h:jO Y F f fn kf A)(k:xG E f U m Q)(a:vM A.a=[]:=by kernel_rfl)(b:(Nat.ble (wB x) kf&&Nat.ble (wB x) fn.ntmps)=true:=by kernel_rfl)(c:I8 Y fn kf f A x=U:=by kernel_rfl):dK E f x m Q:=zrt (ws (by kernel_rfl)) GS h (.inr a) b (by rw[c];exact k)
def gJ{i:Nat}    (h:jO Y F f fn kf A)(k:xG E f U m Q)(a:vM A.a=[]:=by kernel_rfl)(b:Kg (N0 Y fn kf f A) i x=[U]:=by kernel_rfl):rI E f i x m Q:=zj7 (ws (by kernel_rfl)) GS h (.inr a) b k
def zh (a:Int)(n:Int):T :=.a true (.l (.i [(uY a),(.d false),.g,(.d false),.g,(V n)])) .g
def zi (b:O)(c:Bool)(X:zH):T :=.c 39 [b,(V 120)] λa=>.j 11 [b,(.d c),(uY (X.i 0)),(.h (X.s 1)),(V (X.i 2)),(V (X.i 3))]
def zj (b:O):T :=.c 39 [b,(V 120)] λa=>.l (.p [])
variable (e f p j l q z A D I J j1 U W Z j5 j6 j7:Int)(i x C l3 K L l6 l7:List Nat)(c d k t v y o F H x9 y0 y1 y2:O)(g r u w B M N P R S:Bool)
def t31:T:=.a true (.h (sD Y 201 1 [(0,(.i [(.h [111,114]),(uY 16)]))]) λa=>.c 66 [c,(.q (.aa 67) [c] []),a]<|uG [(uY 0),(.h []),(uY 0),(.d false),.g,(.d false),.g,(V 0),.g] λX=>.a (aB (jH X)) (.l (bF X)) .g) .g
def t38:T:=.c 77 [c]<|uG [(uY 0),(.h []),(V 0),(V 0)] λa=>.a true (.c 78 [c,(.h [116,114,117,101])]<|uB λb=>.a b (.a true (.a true (.l (.p [(.i [(uY 1),(.d false),.g,(.d false),.g,(V 1)]),(.d true)])) .g) .g) (.c 78 [c,(.h [102,97,108,115,101])]<|uB λb=>.a b (.a true (.a true (.l (.p [(.i [(uY 1),(.d false),.g,(.d false),.g,(V 0)]),(.d true)])) .g) .g) (.a (kB (a.i 0) 3) (.c 79 [c]<|uI λn=>.a true (.a true (.l (.p [(.i [(uY 4),(.d false),.g,(.d false),.g,(V n)]),(.d true)])) .g) .g) (.c 78 [c,(.h [109,111,110,101,121])]<|uB λb=>.a b (.c 78 [c,(.h [109,105,110,117,115])]<|uB λb=>.c 68 [c,(uY 2)]<|uG [(uY 0),(.h []),(V 0),(V 0)] λX=>.c 80 [(.h (X.s 1)),(.d b)]<|uG [(.d false),.g,(.d false),.g] λX=>.a true (.a (aB [(uY 3),(.d (X.b 0)),(X.v 1),(.d (X.b 2)),(X.v 3),(V 0)]) (.l (.p [(.i [(uY 3),(.d (X.b 0)),(X.v 1),(.d (X.b 2)),(X.v 3),(V 0)]),(.d true)])) .g) .g) (.c 78 [c,(.h [109,105,110,117,115])]<|uB λb=>.a b (.c 81 [c,(.d true)]<|uG [(uY 0),(.d false),.g,(.d false),.g,(V 0)] λX=>.a (aB (na X)) (.l (.p [(w0 X),(.d true)])) .g) (.a (kB (a.i 0) 2) (.c 81 [c,(.d false)]<|uG [(uY 0),(.d false),.g,(.d false),.g,(V 0)] λX=>.a (aB (na X)) (.l (.p [(w0 X),(.d true)])) .g) (.a true (.a true (.l (.p [(.i [(uY 0),(.d false),.g,(.d false),.g,(V 0)]),(.d false)])) .g) .g))))))) .g
def t39:T:=.c 77 [c]<|uG [(uY 0),(.h []),(V 0),(V 0)] λX=>.a true (.c pn [(.aw 143 (.i [(V (X.i 2)),(V (X.i 3)),(V e)]))] λa=>.l (.p [])) .g
def t47:T:=.h (zL Y 52) λb=>.h (sD Y 62 1 [(0,(.h [112,108,97,110]))]) λa=>.c 95 [c,a] λa=>.c 96 [c]<|uS λs=>.d (iB Y 52 0 b) λa=>.h (nC Y 9 a (.h s)) λ_=>.c 68 [c,(uY 5)]<|uG [(uY 0),(.h []),(V 0),(V 0)] λX=>.j 2 [c,b,(.h []),.g,.g,.g]
def uc:T:=.d (sC c) λa=>.d (iB Y 141 1 a) λa=>.e (λm=>oA Y 3 ⟨0,m⟩ a)<|uI λb=>.d (sC c) λa=>.d (iB Y 141 0 a) λa=>.e (λm=>oA Y 136 ⟨0,m⟩ a) λa=>.d (vC a)<|uI λn=>.a (bB b n) (.c 97 [c,d] λa=>.c 68 [c,(uY 5)]<|uG [(uY 0),(.h []),(V 0),(V 0)] λX=>.j 2 [c,d,(.h i),k,t,v]) (.e (λm=>oA Y 52 ⟨0,m⟩ d)<|uG [(.h []),.g,.g,.g] λX=>.a (aB (L9 X)) (.l (U3 X)) .g)
def t66:T:=.n d []<|uG [(uY 0),(.h []),(uY 0),(.d false),.g,(.d false),.g,(V 0),.g] λX=>.a (aB (jH X)) (.j 2 [c,d,k,(uY 0),(.h []),(uY 0),(.d false),.g,(.d false),.g,(V 0),.g,(uY (X.i 0)),(.h (X.s 1)),(uY (X.i 2)),(.d (X.b 3)),(X.v 4),(.d (X.b 5)),(X.v 6),(V (X.i 7)),(X.v 8)]) .g
def zk:T:=.c 128 [c,k] λa=>.d (uX 0 a)<|uU λn=>.d (uX 1 a)<|uB λb=>.a (!b) (.a (aB [(uY j),(.h x),(uY l),(.d u),o,(.d w),F,(V q),H]) (.l (.i [(uY j),(.h x),(uY l),(.d u),o,(.d w),F,(V q),H])) .g) (.n d []<|uG [(uY 0),(.h []),(uY 0),(.d false),.g,(.d false),.g,(V 0),.g] λX=>.a (aB (jH X)) (.h (sD Y 29 2 [(0,(.i [(uY j),(.h x),(uY l),(.d u),o,(.d w),F,(V q),H])),(1,(bF X))]) λa=>.a (aB [(uY n),a]) (.a (aB [(uY n),(.h []),(uY 0),(.d false),.g,(.d false),.g,(V 0),a]) (.j 2 [c,d,k,(uY e),(.h i),(uY f),(.d g),t,(.d r),v,(V p),y,(uY n),(.h []),(uY 0),(.d false),.g,(.d false),.g,(V 0),a]) .g) .g) .g)
def t67:T:=.a true (.h (sD Y 201 1 [(0,(.i [(.h [97,110,100]),(uY 15)]))]) λa=>.c 66 [c,(.q (.aa 129) [c] []),a]<|uG [(uY 0),(.h []),(uY 0),(.d false),.g,(.d false),.g,(V 0),.g] λX=>.a (aB (jH X)) (.l (bF X)) .g) .g
def t68:T:=.c 77 [c]<|uG [(uY 0),(.h []),(V 0),(V 0)] λX=>.a true (.a (!kB (X.i 0) e) (.c 39 [c,(V 120)] λa=>.j 9 [c,(uY 0),(.h []),(V 0),(V 0),(uY (X.i 0)),(.h (X.s 1)),(V (X.i 2)),(V (X.i 3))]) (.j 9 [c,(uY 0),(.h []),(V 0),(V 0),(uY (X.i 0)),(.h (X.s 1)),(V (X.i 2)),(V (X.i 3))])) .g
def t68_9:T:=.d (sC c) λa=>.d (iB Y 141 1 a) λa=>.e (λm=>oA Y 3 ⟨0,m⟩ a)<|uI λn=>.d (sC c) λa=>.d (iB Y 141 1 a) λa=>.h (nC Y 3 a (tC n)) λ_=>.a true (.l (.i [(uY j),(.h x),(V l),(V q)])) .g
def t79:T:=.c 68 [c,(uY 3)]<|uG [(uY 0),(.h []),(V 0),(V 0)] λX=>.c 138 [(.h (X.s 1))] λa=>.d (uX 0 a)<|uI λb=>.d (uX 1 a)<|uI λn=>.l (V b)
def t81:T:=.d (sC c) λa=>.d (iB Y 141 1 a) λa=>.e (λm=>oA Y 3 ⟨0,m⟩ a)<|uI λd=>.c 68 [c,(uY 2)]<|uG [(uY 0),(.h []),(V 0),(V 0)] λX=>.a true (.d (sC c) λa=>.d (iB Y 141 1 a) λa=>.e (λm=>oA Y 3 ⟨0,m⟩ a)<|uI λn=>.c 78 [c,(.h [100,97,121,115])]<|uB λb=>.a b (.j 21 [c,(.d g),(V d),(uY 5),(V n),(uY 0),(.d false),.g,(.d false),.g,(V 0),(uY (X.i 0)),(.h (X.s 1)),(V (X.i 2)),(V (X.i 3))]) (.c 78 [c,(.h [109,111,110,116,104,115])]<|uB λb=>.a b (.j 21 [c,(.d g),(V d),(uY 6),(V n),(uY 0),(.d false),.g,(.d false),.g,(V 0),(uY (X.i 0)),(.h (X.s 1)),(V (X.i 2)),(V (X.i 3))]) (.c 80 [(.h (X.s 1)),(.d g)]<|uG [(.d false),.g,(.d false),.g] λX=>.a true (.a (aB [(uY 2),(.d (X.b 0)),(X.v 1),(.d (X.b 2)),(X.v 3),(V 0)]) (.l (.i [(uY 2),(.d (X.b 0)),(X.v 1),(.d (X.b 2)),(X.v 3),(V 0)])) .g) .g))) .g
def zpb:T:=.c 143 [(.h i),(.h [47])]<|uB λb=>.a b (.d (sC c) λa=>.d (iB Y 141 1 a) λa=>.h (nC Y 3 a (V p)) λ_=>.c 39 [c,(V 120)] λa=>.j 27 [c,(.d g),(V e),(uY f),(uY j),(.d r),d,(.d u),k,(V l),(uY q),(.h i),(V z),(V A)]) (.j 27 [c,(.d g),(V e),(uY f),(uY j),(.d r),d,(.d u),k,(V l),(uY q),(.h i),(V z),(V A)])
def zpa:T:=.c 144 [(.h i),(.d g),(V (-1048576)),(V 1048576)] λa=>.d (uX 0 a)<|uI λn=>.d (uX 1 a)<|uB λb=>.a (!b) (.d (sC c) λa=>.d (iB Y 141 1 a) λa=>.h (nC Y 3 a (V e)) λ_=>.c 39 [c,(V 121)] λa=>.a true (zh f n) .g) (.a true (zh f n) .g)
def t95:T:=.d (vC d)<|uI λn=>.j 2 [c,d,(V n),(V 0)]
def zl:T:=.a (bB f e) (.d (zC Y 62 d (V f)) λa=>.e (λm=>oA Y 9 ⟨0,m⟩ a)<|uS λs=>.c 78 [c,(.h s)]<|uB λb=>.a (!b) (.c 39 [c,(V 120)] λa=>.j 2 [c,d,(V e),(tC f)]) (.j 2 [c,d,(V e),(tC f)])) (.l (.p []))
def t96:T:=.c 151 [c]<|uB λb=>.a (!b) (.c 39 [c,(V 120)] λa=>.c 68 [c,(uY 1)]<|uG [(uY 0),(.h []),(V 0),(V 0)] λX=>.l (.h (X.s 1))) (.c 68 [c,(uY 1)]<|uG [(uY 0),(.h []),(V 0),(V 0)] λX=>.l (.h (X.s 1)))
def t97:T:=.d (sC d) λa=>.d (iB Y 52 2 a) λa=>.e (λm=>oA Y 49 ⟨0,m⟩ a) λa=>.d (vC a)<|uI λn=>.c 78 [c,(.h [102,97,99,116])]<|uB λb=>.a b (.d (sC d) λa=>.d (iB Y 52 1 a) λy=>.e (λm=>oA Y 48 ⟨0,m⟩ y) λB=>.c 152 [c,(.d true)]<|uG [(.h []),(uY 0),(.d false)] λX=>.e (λm=>oA Y 48 ⟨0,m⟩ y) λa=>.a (A8 10 a B) (.h (sD Y 48 1 [(0,(J1 X))]) λp=>.e (λm=>oA Y 48 ⟨0,m⟩ y) λa=>.a (A8 10 a B) (.h (mG Y 48 48 B p) λq=>.d (sC d) λa=>.d (iB Y 52 1 a) λa=>.h (nC Y 48 a q) λ_=>.l (.p [])) .g) .g) (.c 78 [c,(.h [100,101,102])]<|uB λb=>.a b (.d (sC d) λa=>.d (iB Y 52 1 a) λe=>.e (λm=>oA Y 48 ⟨0,m⟩ e) λf=>.c 152 [c,(.d false)]<|uG [(.h []),(uY 0),(.d false)] λX=>.e (λm=>oA Y 48 ⟨0,m⟩ e) λa=>.a (A8 10 a f) (.h (sD Y 48 1 [(0,(J1 X))]) λr=>.e (λm=>oA Y 48 ⟨0,m⟩ e) λa=>.a (A8 10 a f) (.h (mG Y 48 48 f r) λt=>.d (sC d) λa=>.d (iB Y 52 1 a) λa=>.h (nC Y 48 a t) λ_=>.l (.p [])) .g) .g) (.c 78 [c,(.h [116,97,98,108,101])]<|uB λb=>.a b (.c 96 [c]<|uS λs=>.c 78 [c,(.h [116,119,111])]<|uB λb=>.a (!b) (.h (sD Y 62 1 [(0,(.h [111,110,101]))]) λa=>.c 95 [c,a] λa=>.j 23 [d,(.h s),(.d b)]) (.j 23 [d,(.h s),(.d b)])) (.a (bB 0 n) (.c 78 [c,(.h [114,111,119])]<|uB λb=>.a b (.d (sC d) λa=>.d (iB Y 52 2 a) λa=>.e (λm=>oA Y 49 ⟨0,m⟩ a) λa=>.d (zC Y 49 a (V (uW (n-1)))) λg=>.d (sC g) λa=>.d (iB Y 92 2 a) λh=>.e (λm=>oA Y 90 ⟨0,m⟩ h) λi=>.d (sC g) λa=>.d (iB Y 92 1 a) λa=>.e (λm=>oA Y 4 ⟨0,m⟩ a)<|uB λb=>.c 153 [c,(.d b)]<|uG [(V 0),(V 0),(V 0),(.d false),.g,(.d false),.g] λX=>.e (λm=>oA Y 90 ⟨0,m⟩ h) λa=>.a (A8 10 a i) (.h (sD Y 90 1 [(0,(.i [V (X.i 0),V (X.i 1),V (X.i 2),.d (X.b 3),X.v 4,.d (X.b 5),X.v 6]))]) λu=>.e (λm=>oA Y 90 ⟨0,m⟩ h) λa=>.a (A8 10 a i) (.h (mG Y 90 90 i u) λv=>.d (sC g) λa=>.d (iB Y 92 2 a) λa=>.h (nC Y 90 a v) λ_=>.l (.p [])) .g) .g) (.c 78 [c,(.h [99,108,97,117,115,101])]<|uB λb=>.a b (.d (sC d) λa=>.d (iB Y 52 3 a) λj=>.e (λm=>oA Y 50 ⟨0,m⟩ j) λk=>.c 154 [c]<|uG [(.h []),(.h []),(V 0),(V 0),(V 0),(.d false),(uY 0),(.h []),(uY 0),(.d false),.g,(.d false),.g,(V 0),.g,(uY 0),(.h []),(uY 0),(.d false),.g,(.d false),.g,(V 0),.g] λX=>.e (λm=>oA Y 50 ⟨0,m⟩ j) λa=>.a (A8 10 a k) (.h (sD Y 50 1 [(0,(U4 X))]) λw=>.e (λm=>oA Y 50 ⟨0,m⟩ j) λa=>.a (A8 10 a k) (.h (mG Y 50 50 k w) λx=>.d (sC d) λa=>.d (iB Y 52 3 a) λa=>.h (nC Y 50 a x) λ_=>.l (.p [])) .g) .g) (zj c))) (.c 78 [c,(.h [99,108,97,117,115,101])]<|uB λb=>.a b (.d (sC d) λa=>.d (iB Y 52 3 a) λl=>.e (λm=>oA Y 50 ⟨0,m⟩ l) λo=>.c 154 [c]<|uG [(.h []),(.h []),(V 0),(V 0),(V 0),(.d false),(uY 0),(.h []),(uY 0),(.d false),.g,(.d false),.g,(V 0),.g,(uY 0),(.h []),(uY 0),(.d false),.g,(.d false),.g,(V 0),.g] λX=>.e (λm=>oA Y 50 ⟨0,m⟩ l) λa=>.a (A8 10 a o) (.h (sD Y 50 1 [(0,(U4 X))]) λz=>.e (λm=>oA Y 50 ⟨0,m⟩ l) λa=>.a (A8 10 a o) (.h (mG Y 50 50 o z) λA=>.d (sC d) λa=>.d (iB Y 52 3 a) λa=>.h (nC Y 50 a A) λ_=>.l (.p [])) .g) .g) (zj c)))))
def zo7:T:=.d (sC c) λa=>.d (iB Y 52 2 a) λa=>.e (λm=>oA Y 49 ⟨0,m⟩ a) λb=>.a true (.h (sD Y 49 1 [(0,(.i [(.h i),(.d g),.g]))]) λa=>.h (mG Y 49 49 b a) λd=>.d (sC c) λa=>.d (iB Y 52 2 a) λa=>.h (nC Y 49 a d) λ_=>.l (.p [])) .g
def t129:T:=.j 2 [c,(V 0),(uY 0),(.h []),(uY 0),(.d false),.g,(.d false),.g,(V 0),.g]
def zm:T:=.c 78 [c,(.h [110,111,116])]<|uB λb=>.a b (.j 2 [c,(tC e),(uY f),(.h i),(uY p),(.d g),d,(.d r),k,(V j),t]) (.c 181 [c]<|uG [(uY 0),(.h []),(uY 0),(.d false),.g,(.d false),.g,(V 0),.g] λX=>.a (aB (jH X)) (.j 6 [(V e),(uY f),(.h i),(uY p),(.d g),d,(.d r),k,(V j),t,(uY (X.i 0)),(.h (X.s 1)),(uY (X.i 2)),(.d (X.b 3)),(X.v 4),(.d (X.b 5)),(X.v 6),(V (X.i 7)),(X.v 8)]) .g)
def zn:T:=.a (bB 0 e) (.h (sD Y 29 1 [(0,(.i [(uY l),(.h x),(uY q),(.d u),t,(.d w),v,(V z),y]))]) λa=>.a (aB [(uY 17),a]) (.a (aB [(uY 17),(.h []),(uY 0),(.d false),.g,(.d false),.g,(V 0),a]) (.j 6 [(V (uW (e-1))),(uY f),(.h i),(uY p),(.d g),c,(.d r),d,(V j),k,(uY 17),(.h []),(uY 0),(.d false),.g,(.d false),.g,(V 0),a]) .g) .g) (.a (aB [(uY l),(.h x),(uY q),(.d u),t,(.d w),v,(V z),y]) (.l (.i [(uY l),(.h x),(uY q),(.d u),t,(.d w),v,(V z),y])) .g)
def t152:T:=.c 96 [c]<|uS λs=>.c 201 [c,(uY 1),(uY 6),(.q (.aa 84) [] [])]<|uU λn=>.a true (.a true (.l (.i [(.h s),(uY n),(.d g)])) .g) .g
def t153:T:=.c 202 [c]<|uI λa=>.a true (.a g (.c 202 [c]<|uI λn=>.a true (.j 11 [c,(V 0),(V 0),(V 0),(.d false),.g,(.d false),.g,(V a),(V n),(V 0),(.d false),.g,(.d false),.g]) .g) (.j 11 [c,(V 0),(V 0),(V 0),(.d false),.g,(.d false),.g,(V a),(V 0),(V 0),(.d false),.g,(.d false),.g])) .g
def zeb:T:=.h (sD Y 62 1 [(0,(.h [107,110,111,119,110]))]) λa=>.c 95 [c,a] λa=>.c 79 [c]<|uI λn=>.a true (.h (sD Y 62 1 [(0,(.h [105,115]))]) λa=>.c 95 [c,a] λa=>.c 78 [c,(.h [109,105,110,117,115])]<|uB λb=>.c 68 [c,(uY 2)]<|uG [(uY 0),(.h []),(V 0),(V 0)] λX=>.c 80 [(.h (X.s 1)),(.d b)]<|uG [(.d false),.g,(.d false),.g] λX=>.a (aB [.d (X.b 0),X.v 1,.d (X.b 2),X.v 3]) (.a (aB [(V j),(V l),(V n),(.d (X.b 0)),(X.v 1),(.d (X.b 2)),(X.v 3)]) (.l (.i [(V j),(V l),(V n),(.d (X.b 0)),(X.v 1),(.d (X.b 2)),(X.v 3)])) .g) .g) .g
def t154:T:=.a true (.a true (.c 96 [c]<|uS λe=>.a true (.c 96 [c]<|uS λs=>.a true (.h (sD Y 62 1 [(0,(.h [102,114,111,109]))]) λa=>.c 95 [c,a] λa=>.c 79 [c]<|uI λd=>.a true (.h (sD Y 62 1 [(0,(.h [116,111]))]) λa=>.c 95 [c,a] λa=>.c 78 [c,(.h [101,110,100])]<|uB λb=>.a (!b) (.c 79 [c]<|uI λn=>.a true (.j 19 [c,(.h []),(.h []),(V 0),(V 0),(V 0),(.d false),(uY 0),(.h []),(uY 0),(.d false),.g,(.d false),.g,(V 0),.g,(uY 0),(.h []),(uY 0),(.d false),.g,(.d false),.g,(V 0),.g,(.h e),(.h s),(V d),(V n),(V 0),(.d false),(uY 0),(.h []),(uY 0),(.d false),.g,(.d false),.g,(V 0),.g,(uY 0),(.h []),(uY 0),(.d false),.g,(.d false),.g,(V 0),.g]) .g) (.j 19 [c,(.h []),(.h []),(V 0),(V 0),(V 0),(.d false),(uY 0),(.h []),(uY 0),(.d false),.g,(.d false),.g,(V 0),.g,(uY 0),(.h []),(uY 0),(.d false),.g,(.d false),.g,(V 0),.g,(.h e),(.h s),(V d),(V 65536),(V 0),(.d false),(uY 0),(.h []),(uY 0),(.d false),.g,(.d false),.g,(V 0),.g,(uY 0),(.h []),(uY 0),(.d false),.g,(.d false),.g,(V 0),.g])) .g) .g) .g) .g) .g
def zea:T:=.h (sD Y 62 1 [(0,(.h [107,110,111,119,110]))]) λa=>.c 95 [c,a] λa=>.c 79 [c]<|uI λn=>.a true (.c 78 [c,(.h [111,102,102])]<|uB λb=>.a b (.a true (.a (aB [(.h K),(.h L),(V I),(V J),(V n),(.d true),(uY U),(.h l6),(uY W),(.d N),F,(.d P),H,(V Z),x9,(uY j5),(.h l7),(uY j6),(.d R),y0,(.d S),y1,(V j7),y2]) (.l (.i [(.h K),(.h L),(V I),(V J),(V n),(.d true),(uY U),(.h l6),(uY W),(.d N),F,(.d P),H,(V Z),x9,(uY j5),(.h l7),(uY j6),(.d R),y0,(.d S),y1,(V j7),y2])) .g) .g) (.h (sD Y 62 1 [(0,(.h [119,104,101,110]))]) λa=>.c 95 [c,a] λa=>.c 31 [c]<|uG [(uY 0),(.h []),(uY 0),(.d false),.g,(.d false),.g,(V 0),.g] λd=>.a (aB (jH d)) (.h (sD Y 62 1 [(0,(.h [116,104,101,110]))]) λa=>.c 95 [c,a] λa=>.c 31 [c]<|uG [(uY 0),(.h []),(uY 0),(.d false),.g,(.d false),.g,(V 0),.g] λX=>.a (aB (jH X)) (.a (aB [(.h K),(.h L),(V I),(V J),(V n),(.d M),(uY (d.i 0)),(.h (d.s 1)),(uY (d.i 2)),(.d (d.b 3)),(d.v 4),(.d (d.b 5)),(d.v 6),(V (d.i 7)),(d.v 8),(uY (X.i 0)),(.h (X.s 1)),(uY (X.i 2)),(.d (X.b 3)),(X.v 4),(.d (X.b 5)),(X.v 6),(V (X.i 7)),(X.v 8)]) (.l (.i [(.h K),(.h L),(V I),(V J),(V n),(.d M),(uY (d.i 0)),(.h (d.s 1)),(uY (d.i 2)),(.d (d.b 3)),(d.v 4),(.d (d.b 5)),(d.v 6),(V (d.i 7)),(d.v 8),(uY (X.i 0)),(.h (X.s 1)),(uY (X.i 2)),(.d (X.b 3)),(X.v 4),(.d (X.b 5)),(X.v 6),(V (X.i 7)),(X.v 8)])) .g) .g) .g)) .g
def t181:T:=.c 231 [c]<|uG [(uY 0),(.h []),(uY 0),(.d false),.g,(.d false),.g,(V 0),.g] λd=>.a (aB (jH d)) (.a true (.a true (.h (sD Y 201 2 [(0,(.i [(.h [60]),(uY 13)])),(1,(.i [(.h [61]),(uY 14)]))]) λa=>.c 128 [c,a] λa=>.d (uX 0 a)<|uU λn=>.d (uX 1 a)<|uB λb=>.a (!b) (.a (aB (jH d)) (.l (bF d)) .g) (.c 231 [c]<|uG [(uY 0),(.h []),(uY 0),(.d false),.g,(.d false),.g,(V 0),.g] λX=>.a (aB (jH X)) (.h (sD Y 29 2 [(0,(bF d)),(1,(bF X))]) λa=>.a (aB [(uY n),a]) (.a (aB [(uY n),(.h []),(uY 0),(.d false),.g,(.d false),.g,(V 0),a]) (.l (.i [(uY n),(.h []),(uY 0),(.d false),.g,(.d false),.g,(V 0),a])) .g) .g) .g)) .g) .g) .g
def t201:T:=.j 2 [c,(uY f),d,(uY e)]
def zo:T:=.a (sE f e) (.n d [(uY f)]<|uS λs=>.c 78 [c,(.h s)]<|uB λb=>.a b (.l (uY f)) (.j 2 [c,(uY e),d,(uY (cA .u8 (f+1)))])) (.c 39 [c,(V 120)] λa=>.l (uY 0))
def t202:T:=.c 78 [c,(.h [109,105,110,117,115])]<|uB λa=>.c 77 [c]<|uG [(uY 0),(.h []),(V 0),(V 0)] λX=>.a true (.a (!kB (X.i 0) 2) (zi c a X) (.c 143 [(.h (X.s 1)),(.h [47])]<|uB λb=>.a b (zi c a X) (.j 11 [c,(.d a),(uY (X.i 0)),(.h (X.s 1)),(V (X.i 2)),(V (X.i 3))]))) .g
def zdy:T:=.c 144 [(.h i),(.d g),(V (-2147483648)),(V 2147483647)] λa=>.d (uX 0 a)<|uI λn=>.d (uX 1 a)<|uB λb=>.a (!b) (.c 39 [c,(V 121)] λa=>.j 17 [c,(V n)]) (.j 17 [c,(V n)])
def zdx:T:=.d (sC c) λa=>.d (iB Y 141 1 a) λa=>.e (λm=>oA Y 3 ⟨0,m⟩ a)<|uI λn=>.d (sC c) λa=>.d (iB Y 141 1 a) λa=>.h (nC Y 3 a (tC n)) λ_=>.l (V e)
def t231:T:=.a true (.a true (.h (sD Y 201 2 [(0,(.i [(.h [43]),(uY 7)])),(1,(.i [(.h [45]),(uY 8)]))]) λa=>.c 66 [c,(.q (.aa 266) [c] []),a]<|uG [(uY 0),(.h []),(uY 0),(.d false),.g,(.d false),.g,(V 0),.g] λX=>.a (aB (jH X)) (.l (bF X)) .g) .g) .g
def t266:T:=.a true (.a true (.h (sD Y 201 2 [(0,(.i [(.h [42]),(uY 9)])),(1,(.i [(.h [47]),(uY 10)]))]) λa=>.c 66 [c,(.q (.aa 287) [c] []),a]<|uG [(uY 0),(.h []),(uY 0),(.d false),.g,(.d false),.g,(V 0),.g] λX=>.a (aB (jH X)) (.l (bF X)) .g) .g) .g
def t287:T:=.d (sC c) λa=>.d (iB Y 141 2 a) λa=>.e (λm=>oA Y 3 ⟨0,m⟩ a)<|uI λn=>.a (bB 100 n) (.c 39 [c,(V 122)] λa=>.j 7 [c,(uY 0),(.h []),(uY 0),(.d false),.g,(.d false),.g,(V 0),.g]) (.j 7 [c,(uY 0),(.h []),(uY 0),(.d false),.g,(.d false),.g,(V 0),.g])
def zph:T:=.d (sC c) λa=>.d (iB Y 141 2 a) λa=>.e (λm=>oA Y 3 ⟨0,m⟩ a)<|uI λn=>.d (sC c) λa=>.d (iB Y 141 2 a) λa=>.h (nC Y 3 a (tC n)) λ_=>.c 299 [c]<|uG [(uY 0),(.h []),(uY 0),(.d false),.g,(.d false),.g,(V 0),.g] λX=>.a (aB (jH X)) (.d (sC c) λa=>.d (iB Y 141 2 a) λa=>.e (λm=>oA Y 3 ⟨0,m⟩ a)<|uI λn=>.d (sC c) λa=>.d (iB Y 141 2 a) λa=>.h (nC Y 3 a (V (uW (n-1)))) λ_=>.a (aB (jH X)) (.l (bF X)) .g) .g
def t299:T:=.c 38 [c] λa=>.d (uX 0 a)<|uG [(uY 0),(.d false),.g,(.d false),.g,(V 0)] λX=>.d (uX 1 a)<|uB λb=>.a (aB (na X)) (.a b (.a true (.a (aB [(uY 1),(.h []),(uY (X.i 0)),(.d (X.b 1)),(X.v 2),(.d (X.b 3)),(X.v 4),(V (X.i 5)),.g]) (.l (.i [(uY 1),(.h []),(uY (X.i 0)),(.d (X.b 1)),(X.v 2),(.d (X.b 3)),(X.v 4),(V (X.i 5)),.g])) .g) .g) (.c 78 [c,(.h [40])]<|uB λb=>.a b (.c 31 [c]<|uG [(uY 0),(.h []),(uY 0),(.d false),.g,(.d false),.g,(V 0),.g] λX=>.a (aB (jH X)) (.h (sD Y 62 1 [(0,(.h [41]))]) λa=>.c 95 [c,a] λa=>.a (aB (jH X)) (.l (bF X)) .g) .g) (.c 78 [c,(.h [116,111,100,97,121])]<|uB λb=>.a b (.a true (.a true (.l (.i [(uY 2),(.h []),(uY 0),(.d false),.g,(.d false),.g,(V 0),.g])) .g) .g) (.c 78 [c,(.h [102,97,99,116])]<|uB λb=>.a b (.c 313 [c,(uY 3)]<|uG [(uY 0),(.h []),(uY 0),(.d false),.g,(.d false),.g,(V 0),.g] λX=>.a (aB (jH X)) (.l (bF X)) .g) (.c 78 [c,(.h [104,97,115])]<|uB λb=>.a b (.c 313 [c,(uY 4)]<|uG [(uY 0),(.h []),(uY 0),(.d false),.g,(.d false),.g,(V 0),.g] λX=>.a (aB (jH X)) (.l (bF X)) .g) (.c 151 [c]<|uB λb=>.a b (.c 313 [c,(uY 5)]<|uG [(uY 0),(.h []),(uY 0),(.d false),.g,(.d false),.g,(V 0),.g] λX=>.a (aB (jH X)) (.l (bF X)) .g) (.c 314 [c]<|uG [(uY 0),(.h []),(uY 0),(.d false),.g,(.d false),.g,(V 0),.g] λX=>.a (aB (jH X)) (.l (bF X)) .g))))))) .g
def t313:T:=.c 96 [c]<|uS λs=>.h (sD Y 62 1 [(0,(.h [97,116]))]) λa=>.c 95 [c,a] λa=>.c 287 [c]<|uG [(uY 0),(.h []),(uY 0),(.d false),.g,(.d false),.g,(V 0),.g] λX=>.h (sD Y 29 1 [(0,(bF X))]) λa=>.a (aB [(uY e),(.h s),a]) (.a (aB [(uY e),(.h s),(uY 0),(.d false),.g,(.d false),.g,(V 0),a]) (.l (.i [(uY e),(.h s),(uY 0),(.d false),.g,(.d false),.g,(V 0),a])) .g) .g
def t314:T:=.h (nL c) λb=>.a true (.a true (.a true (.a true (.a true (.a true (.a true (.a true (.a true (.a true (.a true (.a true (.a true (.h (zL Y 340) λa=>.h (nC Y 340 a (.i [(.h [108,111,111,107]),(uY 6),(.d true),(V 1),(V 2),(.h [109,105,110]),(uY 11),(.d false),(V 2),(V 2),(.h [109,97,120]),(uY 12),(.d false),(V 2),(V 2),(.h [98,101,116,119,101,101,110]),(uY 20),(.d false),(V 2),(V 2),(.h [105,102]),(uY 18),(.d false),(V 3),(V 3),(.h [114,111,117,110,100]),(uY 19),(.d false),(V 2),(V 2),(.h [115,101,114,118,105,99,101]),(uY 21),(.d true),(V 2),(V 2),(.h [103,114,111,119]),(uY 23),(.d true),(V 2),(V 2),(.h [98,101,115,116]),(uY 22),(.d true),(V 3),(V 3),(.h [109,111,110,116,104,115]),(uY 24),(.d false),(V 1),(V 1),(.h [110,117,109,98,101,114]),(uY 25),(.d false),(V 1),(V 1),(.h [115,116,97,114,116]),(uY 26),(.d false),(V 1),(V 1)])) λ_=>.n (.q (.aa 319) [] [a,b]) []<|uG [(.h []),(uY 0),(.d false),(V 0),(V 0)] λX=>.a true (.a true (.a true (.e (λm=>oA Y 76 ⟨0,m⟩ b) λe=>.h (sD Y 62 1 [(0,(.h [40]))]) λa=>.c 95 [e,a] λa=>.a (X.b 2) (.e (λm=>oA Y 76 ⟨0,m⟩ b) λa=>.c 96 [a]<|uS λs=>.a true (.e (λm=>oA Y 76 ⟨0,m⟩ b) λd=>.h (sD Y 62 1 [(0,(.h [44]))]) λa=>.c 95 [d,a] λa=>.j 19 [b,(uY 0),(.h []),(uY 0),(.d false),.g,(.d false),.g,(V 0),.g,(.h (X.s 0)),(uY (X.i 1)),(.d (X.b 2)),(V (X.i 3)),(V (X.i 4)),(uY (X.i 1)),(.h s),(uY 0),(.d false),.g,(.d false),.g,(V 0),.g]) .g) (.j 19 [b,(uY 0),(.h []),(uY 0),(.d false),.g,(.d false),.g,(V 0),.g,(.h (X.s 0)),(uY (X.i 1)),(.d (X.b 2)),(V (X.i 3)),(V (X.i 4)),(uY (X.i 1)),(.h []),(uY 0),(.d false),.g,(.d false),.g,(V 0),.g])) .g) .g) .g) .g) .g) .g) .g) .g) .g) .g) .g) .g) .g) .g) .g) .g
def zda:T:=.e (λm=>oA Y 76 ⟨0,m⟩ c) λa=>.c 31 [a]<|uG [(uY 0),(.h []),(uY 0),(.d false),.g,(.d false),.g,(V 0),.g] λX=>.a (A8 10 o o) (.h (sD Y 29 1 [(0,(bF X))]) λa=>.a (A8 10 o o) (.h (mG Y 29 29 o a) λa=>.a (aB [a]) (.j 2 [c,(uY e),(.h i),(uY f),(.d g),d,(.d r),k,(V p),t,(.h x),(uY j),(.d u),(V l),(V q),(uY z),(.h C),(uY A),(.d w),v,(.d B),y,(V D),a]) .g) .g) .g
def zp:T:=.d (vC o)<|uI λn=>.a (bB n l) (.e (λm=>oA Y 76 ⟨0,m⟩ c) λb=>.h (sD Y 62 1 [(0,(.h [44]))]) λa=>.c 95 [b,a] λa=>.e (λm=>oA Y 76 ⟨0,m⟩ c) λa=>.c 31 [a]<|uG [(uY 0),(.h []),(uY 0),(.d false),.g,(.d false),.g,(V 0),.g] λX=>.a (A8 10 o o) (.h (sD Y 29 1 [(0,(bF X))]) λa=>.a (A8 10 o o) (.h (mG Y 29 29 o a) λa=>.a (aB [a]) (.j 2 [c,(uY e),(.h i),(uY f),(.d g),d,(.d r),k,(V p),t,(.h x),(uY j),(.d u),(V l),(V q),(uY z),(.h C),(uY A),(.d w),v,(.d B),y,(V D),a]) .g) .g) .g) (.j 6 [c,(uY e),(.h i),(uY f),(.d g),d,(.d r),k,(V p),t,(.h x),(uY j),(.d u),(V l),(V q),(uY z),(.h C),(uY A),(.d w),v,(.d B),y,(V D),o])
def zq:T:=.d (vC o)<|uI λn=>.a (bB n q) (.e (λm=>oA Y 76 ⟨0,m⟩ c) λa=>.c 78 [a,(.h [44])]<|uB λb=>.a b (.e (λm=>oA Y 76 ⟨0,m⟩ c) λa=>.c 31 [a]<|uG [(uY 0),(.h []),(uY 0),(.d false),.g,(.d false),.g,(V 0),.g] λX=>.a (A8 10 o o) (.h (sD Y 29 1 [(0,(bF X))]) λa=>.a (A8 10 o o) (.h (mG Y 29 29 o a) λa=>.a (aB [a]) (.j 6 [c,(uY e),(.h i),(uY f),(.d g),d,(.d r),k,(V p),t,(.h x),(uY j),(.d u),(V l),(V q),(uY z),(.h C),(uY A),(.d w),v,(.d B),y,(V D),a]) .g) .g) .g) (.a (kB j 19) (.e (λm=>oA Y 76 ⟨0,m⟩ c) λh=>.h (sD Y 62 1 [(0,(.h [44]))]) λa=>.c 95 [h,a] λa=>.e (λm=>oA Y 76 ⟨0,m⟩ c) λa=>.c 201 [a,(uY 1),(uY 6),(.q (.aa 170) [] [])]<|uU λn=>.a true (.j 37 [c,(uY e),(.h i),(uY f),(.d g),d,(.d r),k,(V p),t,(uY z),(.h C),(uY A),(.d w),v,(.d B),y,(V (uW n)),o]) .g) (.j 37 [c,(uY e),(.h i),(uY f),(.d g),d,(.d r),k,(V p),t,(uY z),(.h C),(uY A),(.d w),v,(.d B),y,(V D),o]))) (.a (kB j 19) (.e (λm=>oA Y 76 ⟨0,m⟩ c) λs=>.h (sD Y 62 1 [(0,(.h [44]))]) λa=>.c 95 [s,a] λa=>.e (λm=>oA Y 76 ⟨0,m⟩ c) λa=>.c 201 [a,(uY 1),(uY 6),(.q (.aa 170) [] [])]<|uU λn=>.a true (.j 37 [c,(uY e),(.h i),(uY f),(.d g),d,(.d r),k,(V p),t,(uY z),(.h C),(uY A),(.d w),v,(.d B),y,(V (uW n)),o]) .g) (.j 37 [c,(uY e),(.h i),(uY f),(.d g),d,(.d r),k,(V p),t,(uY z),(.h C),(uY A),(.d w),v,(.d B),y,(V D),o]))
def zc8:T:=.e (λm=>oA Y 76 ⟨0,m⟩ c) λb=>.h (sD Y 62 1 [(0,(.h [41]))]) λa=>.c 95 [b,a] λa=>.a (aB [(uY j),(.h x),(uY l),(.d u),v,(.d w),y,(V q),o]) (.l (.i [(uY j),(.h x),(uY l),(.d u),v,(.d w),y,(V q),o])) .g
def t319:T:=.e (λm=>oA Y 340 ⟨0,m⟩ c) λa=>.j 2 [d,a,(V 0),(.h []),(uY 0),(.d false),(V 0),(V 0)]
def zr:T:=.a (bB e 12) (.d (wJ Y 340 d (V e))<|uG [(.h []),(uY 0),(.d false),(V 0),(V 0)] λX=>.a true (.e (λm=>oA Y 76 ⟨0,m⟩ c) λa=>.c 78 [a,(.h (X.s 0))]<|uB λb=>.a b (.a true (.l (.i [.h (X.s 0),uY (X.i 1),.d (X.b 2),V (X.i 3),V (X.i 4)])) .g) (.j 2 [c,d,(tC e),(.h i),(uY f),(.d g),(V p),(V j)])) .g) (.e (λm=>oA Y 76 ⟨0,m⟩ c) λa=>.c 39 [a,(V 120)] λa=>.a true (.a true (.l (.i [(.h []),(uY 0),(.d false),(V 0),(V 0)])) .g) .g)
variable {e f p j l q z A D I J j1 U W Z j5 j6 j7}{i x C l3 K L l6 l7}{c d k t v y o F H x9 y0 y1 y2}{g r u w B M N P R S}
def w31(h:xG E 31 (t31 c) m Q):dK E 31 [c] m Q:=gA (zG 31) h
def w38(h:xG E 38 (t38 c) m Q):dK E 38 [c] m Q:=gA (zG 38) h
def w39(h:xG E 39 (t39 e c) m Q):dK E 39 [c,(V e)] m Q:=gA (zG 39) h
def w47(h:xG E 47 (t47 c) m Q):dK E 47 [c] m Q:=gA (zG 47) h
def zt(h:xG E 47 (uc i c d k t v) m Q):rI E 47 2 [c,d,(.h i),k,t,v] m Q:=gJ (zG 47) h
def w66(h:xG E 66 (t66 c d k) m Q):dK E 66 [c,d,k] m Q:=gA (zG 66) h
def j66_2(h:xG E 66 (zk e f p j l q i x c d k t v y o F H g r u w) m Q):rI E 66 2 [c,d,k,(uY e),(.h i),(uY f),(.d g),t,(.d r),v,(V p),y,(uY j),(.h x),(uY l),(.d u),o,(.d w),F,(V q),H] m Q:=gJ (zG 66) h
def w67(h:xG E 67 (t67 c) m Q):dK E 67 [c] m Q:=gA (zG 67) h
def w68(h:xG E 68 (t68 e c) m Q):dK E 68 [c,(uY e)] m Q:=gA (zG 68) h
def j68_9(h:xG E 68 (t68_9 j l q x c) m Q):rI E 68 9 [c,(uY e),(.h i),(V f),(V p),(uY j),(.h x),(V l),(V q)] m Q:=gJ (zG 68) h
def w79(h:xG E 79 (t79 c) m Q):dK E 79 [c] m Q:=gA (zG 79) h
def w81(h:xG E 81 (t81 c g) m Q):dK E 81 [c,(.d g)] m Q:=gA (zG 81) h
def j81_21(h:xG E 81 (zpb e f p j l q z A i c d k g r u) m Q):rI E 81 21 [c,(.d g),(V e),(uY f),(V p),(uY j),(.d r),d,(.d u),k,(V l),(uY q),(.h i),(V z),(V A)] m Q:=gJ (zG 81) h
def j81_27(h:xG E 81 (zpa e f i c g) m Q):rI E 81 27 [c,(.d g),(V e),(uY f),(uY p),(.d r),d,(.d u),k,(V j),(uY l),(.h i),(V q),(V z)] m Q:=gJ (zG 81) h
def w95(h:xG E 95 (t95 c d) m Q):dK E 95 [c,d] m Q:=gA (zG 95) h
def j95_2(h:xG E 95 (zl e f c d) m Q):rI E 95 2 [c,d,(V e),(V f)] m Q:=gJ (zG 95) h
def w96(h:xG E 96 (t96 c) m Q):dK E 96 [c] m Q:=gA (zG 96) h
def w97(h:xG E 97 (t97 c d) m Q):dK E 97 [c,d] m Q:=gA (zG 97) h
def j97_23(h:xG E 97 (zo7 i c g) m Q):rI E 97 23 [c,(.h i),(.d g)] m Q:=gJ (zG 97) h
def w129(h:xG E 129 (t129 c) m Q):dK E 129 [c] m Q:=gA (zG 129) h
def zq6(h:xG E 129 (zm e f p j i c d k t g r) m Q):rI E 129 2 [c,(V e),(uY f),(.h i),(uY p),(.d g),d,(.d r),k,(V j),t] m Q:=gJ (zG 129) h
def zq5(h:xG E 129 (zn e f p j l q z i x c d k t v y g r u w) m Q):rI E 129 6 [(V e),(uY f),(.h i),(uY p),(.d g),c,(.d r),d,(V j),k,(uY l),(.h x),(uY q),(.d u),t,(.d w),v,(V z),y] m Q:=gJ (zG 129) h
def w152(h:xG E 152 (t152 c g) m Q):dK E 152 [c,(.d g)] m Q:=gA (zG 152) h
def w153(h:xG E 153 (t153 c g) m Q):dK E 153 [c,(.d g)] m Q:=gA (zG 153) h
def zu2(h:xG E 153 (zeb j l c) m Q):rI E 153 11 [c,(V e),(V f),(V p),(.d g),d,(.d r),k,(V j),(V l),(V q),(.d u),t,(.d w),v] m Q:=gJ (zG 153) h
def w154(h:xG E 154 (t154 c) m Q):dK E 154 [c] m Q:=gA (zG 154) h
def zu1(h:xG E 154 (zea I J U W Z j5 j6 j7 K L l6 l7 c F H x9 y0 y1 y2 M N P R S) m Q):rI E 154 19 [c,(.h i),(.h x),(V e),(V f),(V p),(.d g),(uY j),(.h C),(uY l),(.d r),d,(.d u),k,(V q),t,(uY z),(.h l3),(uY A),(.d w),v,(.d B),y,(V D),o,(.h K),(.h L),(V I),(V J),(V j1),(.d M),(uY U),(.h l6),(uY W),(.d N),F,(.d P),H,(V Z),x9,(uY j5),(.h l7),(uY j6),(.d R),y0,(.d S),y1,(V j7),y2] m Q:=gJ (zG 154) h
def w181(h:xG E 181 (t181 c) m Q):dK E 181 [c] m Q:=gA (zG 181) h
def w201(h:xG E 201 (t201 e f c d) m Q):dK E 201 [c,(uY e),(uY f),d] m Q:=gA (zG 201) h
def zqt(h:xG E 201 (zo e f c d) m Q):rI E 201 2 [c,(uY e),d,(uY f)] m Q:=gJ (zG 201) h
def w202(h:xG E 202 (t202 c) m Q):dK E 202 [c] m Q:=gA (zG 202) h
def zuy(h:xG E 202 (zdy i c g) m Q):rI E 202 11 [c,(.d g),(uY e),(.h i),(V f),(V p)] m Q:=gJ (zG 202) h
def zux(h:xG E 202 (zdx e c) m Q):rI E 202 17 [c,(V e)] m Q:=gJ (zG 202) h
def w231(h:xG E 231 (t231 c) m Q):dK E 231 [c] m Q:=gA (zG 231) h
def w266(h:xG E 266 (t266 c) m Q):dK E 266 [c] m Q:=gA (zG 266) h
def w287(h:xG E 287 (t287 c) m Q):dK E 287 [c] m Q:=gA (zG 287) h
def j287_7(h:xG E 287 (zph c) m Q):rI E 287 7 [c,(uY e),(.h i),(uY f),(.d g),d,(.d r),k,(V p),t] m Q:=gJ (zG 287) h
def w299(h:xG E 299 (t299 c) m Q):dK E 299 [c] m Q:=gA (zG 299) h
def w313(h:xG E 313 (t313 e c) m Q):dK E 313 [c,(uY e)] m Q:=gA (zG 313) h
def w314(h:xG E 314 (t314 c) m Q):dK E 314 [c] m Q:=gA (zG 314) h
def zup(h:xG E 314 (zda e f p j l q z A D i x C c d k t v y o g r u w B) m Q):rI E 314 19 [c,(uY e),(.h i),(uY f),(.d g),d,(.d r),k,(V p),t,(.h x),(uY j),(.d u),(V l),(V q),(uY z),(.h C),(uY A),(.d w),v,(.d B),y,(V D),o] m Q:=gJ (zG 314) h
def zqe(h:xG E 314 (zp e f p j l q z A D i x C c d k t v y o g r u w B) m Q):rI E 314 2 [c,(uY e),(.h i),(uY f),(.d g),d,(.d r),k,(V p),t,(.h x),(uY j),(.d u),(V l),(V q),(uY z),(.h C),(uY A),(.d w),v,(.d B),y,(V D),o] m Q:=gJ (zG 314) h
def zqd(h:xG E 314 (zq e f p j l q z A D i x C c d k t v y o g r u w B) m Q):rI E 314 6 [c,(uY e),(.h i),(uY f),(.d g),d,(.d r),k,(V p),t,(.h x),(uY j),(.d u),(V l),(V q),(uY z),(.h C),(uY A),(.d w),v,(.d B),y,(V D),o] m Q:=gJ (zG 314) h
def zuo(h:xG E 314 (zc8 j l q x c v y o u w) m Q):rI E 314 37 [c,(uY e),(.h i),(uY f),(.d g),d,(.d r),k,(V p),t,(uY j),(.h x),(uY l),(.d u),v,(.d w),y,(V q),o] m Q:=gJ (zG 314) h
def w319(h:xG E 319 (t319 c d) m Q):dK E 319 [c,d] m Q:=gA (zG 319) h
def zqb(h:xG E 319 (zr e f p j i c d g) m Q):rI E 319 2 [c,d,(V e),(.h i),(uY f),(.d g),(V p),(V j)] m Q:=gJ (zG 319) h
end
end Go.Proofs
namespace Go.Am
open Go Go.RowKit
section
variable {t tf:G vA}{C:fA}
theorem QE{sz:Nat}{z c1 c2:List O}(d:z.length=sz)(b:c1.length=sz)(c:c2.length=sz):mN (λi=>some (i*sz,sz)) [(0,.i c1),(1,.i c2)] (mJ z 2)=some [c1,c2].flatten:=by
 have e:mJ z 2=z++z:=by
  show tE z (tE z [])=_;rw[xI,xI,C8]
 rw[e];have f:cY (z++z) (0*sz) sz (.i c1)=some (c1++z):=by
  unfold cY;have a:(O.i c1).s=c1:=rfl;simp only[a,eD,b,Nat.zero_mul,D8,rV,mT,xI,List.take_zero,E8];rw[bC.2 rfl,rF.2 (by grind)];simp only[Bool.and_self,xE];rw[<- d,List.drop_left]
 have g:cY (c1++z) (1*sz) sz (.i c2)=some (c1++c2):=by
  unfold cY;have a:(O.i c2).s=c2:=rfl;simp only[a,eD,c,Nat.one_mul,rV,mT,xI];rw[bC.2 rfl,rF.2 (by grind)];simp only[Bool.and_self,xE];rw[<- b,List.take_left,E3 (by grind),C8]
 grind [mN,mA]
end
end Go.Am
namespace Go.Am
open Go Go.RowKit
section
section
variable {t tf:G vA}{C:fA}
theorem wD.q:∀ {l m:List D} {cl cm:List (List O)},wD tf l cl->wD tf m cm->wD tf (l++m) (cl++cm):=by
 intro l;induction l with
 | nil=>grind [pG]
 | cons d l a=>
  grind [kD]
variable {base sz:Nat}{l:List D}{v:O}
end
end
section
variable {n:Nat}{A B:List oF}{lo:Option Lo}{cs:List O}
section
variable {t tf:G vA}{C:fA}{base:Nat}
def zli{a:Type}{A B:List a}{x y:a} (h:A.length=n):(A++x::B).set n y=A++y::B:=by
 subst h;rw[List.set_append_right _ _ (B3 _),Nat.sub_self,List.set_cons_zero]
theorem xB.c  {t':G vA}  (h:xB base tf t (A++B))(g:t.c n=none)(f:base<=n)(b:xC t' n lo cs)(d:zB t t')(c:nF n t t'):xB base tf t' (A++oC n lo cs::B):=
 xB.ac (o':=oC n lo cs) h (λk a=>c k (λe=>a (by simp[oC,e]))) (λk a=>by
  grind [oC]) b (by simp[oC]) (h.b.d d)
def xB.d    (h:xB base tf t (A++oC n lo cs::B)):xC t n lo cs:=h.s (oC n lo cs) (by simp)
def xB.a {j T:Nat}  {y:jD}{v:O}(h:xB C.a tf t (A++oC n lo cs::B))(f:C.b.c T=some y)(l:v.s.length=y.b)(g:j+v.s.length<=cs.length)(b:oD O.z v.s=true) :
  ∃t',(∀q,nC C T (.j n j) v ⟨q,t⟩=some (aD,⟨q,t'⟩))/\xB C.a tf t' (A++oC n lo (lJ cs j v.s)::B):=by
 have a:=h.f n (by simp[oC]);obtain⟨t',m,p,c⟩:=h.d.m (C:=C) a.1 (j:=j) (v:=v) f l g b;exact⟨t',m,xB.aj (o:=oC n lo cs) (o':=oC n lo (lJ cs j v.s)) h (λk d _=>c k (λe=>d (by simp[oC,e]))) (λk i=>.inl i) p (by simp[oC]) (h.b.g a.2 c)⟩
end
end
end Go.Am
namespace Go.Proofs
open Go Go.Am
variable {u:Type}{b d' e k n':Nat}{w:List Nat}
variable [fC]
def xD.d(t:xD):D:=.f [.a .u8 (t.b:Int),.c t.a,.a .i64 (t.c:Int),.a .i64 (t.e:Int)]
def xD.f(t:xD):List O:=[.e .u8 (t.b:Int),.h t.a,.e .i64 (t.c:Int),.e .i64 (t.e:Int)]
theorem j8{t:G vA}{x:xD}{cs:List O}(h:RD t x.d cs):cs=x.f:=by
 grind [xD.d,xD.f,xK,kD,pG,xP,wP]
structure wK where
 a:List xD
 b:Nat
 d:O
 e:Nat
 f:Nat
 L:List oF
abbrev pH(P:wK)(n d:Nat):oF:=oC P.b none [P.d,.e .i64 (n:Int),.e .i64 (d:Int),.e .i64 (P.e:Int),.e .i64 (P.f:Int)]
def bK(t:G vA):Prop:=At t 0 0 ((List.range 7).map λi=>.h (oG i))/\At t 1 0 ((List.range 7).map λi=>.h (uO i))/\At t 3 0 (Sm.map fun(n:Nat)=>.e .i64 (n:Int))
theorem bK.a{t t':G vA}(h:bK t)(a:zB t t'):bK t':=⟨h.1.f a,h.2.1.f a,h.2.2.f a⟩
structure St (P:wK) (tf t:G vA) (n d:Nat):Prop where
 p:bA tf 4 (P.a.map xD.d) P.d
 g:xB Y.a tf t (pH P n d::P.L)
 f:P.a.length<300000
 m:n<=P.a.length
 a:∀x∈P.a,Df x
 e:bK tf
def mH(P:wK)(i:Nat):xD:=(P.a[i]?).getD ⟨0,[],P.e,P.f⟩
def ud(P:wK)(e i:Nat):O:=.aw 143 (.i [.e .i64 ((mH P i).c:Int),.e .i64 ((mH P i).e:Int),.e .i64 (e:Int)])
def Ok {u:Type}(P:wK)(rd:G vA->u->O->Prop)(d:Nat)(tf:G vA)(r:PR u)(Q E:lB):Prop:=
 match r with
 | .ok a n=>∀b c v,zB tf b->St P b c n d->rd b a v->Q v c
 | .er e i=>∀b c n' d',zB tf b->St P b c n' d'->E (ud P e i) c
section
variable {P:wK}{tf t:G vA}{n d:Nat}{Q E:lB}
theorem Ok.g {rd:G vA->u->O->Prop}{r:PR u}(h:Ok P rd d tf r Q E){c:G vA}(k:zB tf c):Ok P rd d c r Q E:=by
 cases r with
 | ok a n=>exact λb j v f g l=>h b j v (k.d f) g l
 | er e i=>exact λb j n' d' f g=>h b j n' d' (k.d f) g
theorem Ok.c{o:Type}{c:G vA->u->O->Prop}{rd:G vA->o->O->Prop}{r:PR u}{f:u->Nat->PR o}{l:lB}(h:Ok P rd d tf (r.c f) Q E)
  (k:∀a g b t1 v,r=.ok a g->zB tf b->St P b t1 g d->c b a v->Ok P rd d b (f a g) Q E->l v t1):Ok P c d tf r l E:=by
 cases r with
 | ok a n=>exact λj s v m p q=>k a n j s v rfl m p q (Ok.g h m)
 | er e i=>exact h
def Ok.j {rd:G vA->u->O->Prop}{a:u}{v:O}(h:Ok P rd d tf (.ok a n) Q E)(b:St P tf t n d)(c:rd tf a v):Q v t:=h tf t v (zB.f _) b c
def Ok.o {rd:G vA->u->O->Prop}{i:Nat}(h:Ok P rd d tf (.er e i) Q E) (a:St P tf t n' d'):E (ud P e i) t:=h tf t n' d' (zB.f _) a
def St.aj(h:St P tf t n d):xC t P.b none [P.d,.e .i64 (n:Int),.e .i64 (d:Int),.e .i64 (P.e:Int),.e .i64 (P.f:Int)]:=h.g.d (A:=[])
def nl{o:Nat}:zR (.j b o)=some (.j b o):=rfl
def f0  : iB Y 141 0 (.j b 0)=some (.j b 0):=by kernel_rfl
def f1  : iB Y 141 1 (.j b 0)=some (.j b 1):=by kernel_rfl
def f2  : iB Y 141 2 (.j b 0)=some (.j b 2):=by kernel_rfl
def f3  : iB Y 141 3 (.j b 0)=some (.j b 3):=by kernel_rfl
def St.l0(h:St P tf t n d):oA Y 136 ⟨0,t⟩ (.j P.b 0)=some P.d:=h.aj.f qW rfl rfl
def St.l1(h:St P tf t n d):oA Y 3 ⟨0,t⟩ (.j P.b 1)=some (.e .i64 (n:Int)):=h.aj.f mL rfl rfl
def St.l2(h:St P tf t n d):oA Y 3 ⟨0,t⟩ (.j P.b 2)=some (.e .i64 (d:Int)):=h.aj.f mL rfl rfl
theorem St.l3(h:St P tf t n d):oA Y 39 ⟨0,t⟩ (.j P.b 3)=some (.i [.e .i64 (P.e:Int),.e .i64 (P.f:Int)]):=by
 have:=h.aj.p.e (j:=3) (n:=2) qZ rfl rfl (by simp)
 simp_all
def St.bc(h:St P tf t n d):bA t 4 (P.a.map xD.d) P.d:=h.p.a h.g.b
def St.aa(h:St P tf t n d):vC P.d=some (.e .i64 (P.a.length:Int)):=by
 have:=h.p.c
 rwa [C4]at this
def H6(x:xD):nK Mb (.i x.f)=some (AN x.f):=kQ rfl
theorem Q3(x:xD):(AN x.f).i 0=(x.b:Int):=rfl
def ue(x:xD):(AN x.f).s 1=x.a:=rfl
def cT2(x:xD):(AN x.f).i 2=(x.c:Int):=rfl
def cT3(x:xD):(AN x.f).i 3=(x.e:Int):=rfl
theorem Nn(h:St P tf t n d):oB Y F 77 [.j P.b 0] t=some (.i (mH P n).f):=by
 refine mC.2 (w77 ?_);simp only[uI,uG,sC,V,uY,S0,t77,lA,nl,f0,f1,f3,h.l0,h.l1,h.aa,xA,yC,kE];by_cases j:n<P.a.length
 .rw[A5 (by omega)];have a:P.a[n]?=some P.a[n]:=C6 j;have i:(P.a.map xD.d)[n]?=some P.a[n].d:=by simp_all
  obtain⟨b,o,k,c,f,_,_,g⟩:=py.at (λh=>by cases h) h.bc i;rw[c,xA,f,xA];have e:=j8 g;subst e;show pD (nK Mb (.i P.a[n].f)) _;rw[H6,xA];simp only[if_true,Q3,ue,cT2,cT3];unfold mH;rw[a];exact⟨rfl,trivial⟩
 .rw[A3 (by omega),h.l3,xA];have a:P.a[n]?=none:=List.getElem?_eq_none (by omega);show pD (some (AN _)) _;rw[xA];simp only[if_true];unfold mH;rw[a];exact⟨rfl,trivial⟩
theorem zwk  : By P.a w n=((decide ((mH P n).b=1)||decide ((mH P n).b=4))&&sF (mH P n).a w):=by
 grind [By,mH]
theorem Sv (a:0<k):kL P.a k n=decide ((mH P n).b=k):=by
 grind [kL,mH]
theorem BA:fN P.a n=(mH P n).a:=by
 grind [fN,mH]
theorem St.r(h:St P tf t n d) (c:n'<=P.a.length):∃t',(∀q,nC Y 3 (.j P.b 1) (.e .i64 (n':Int)) ⟨q,t⟩=some (aD,⟨q,t'⟩))/\St P tf t' n' d:=by
 obtain⟨t',a,b⟩:=xB.a (A:=[]) (j:=1) (v:=.e .i64 (n':Int)) h.g mL rfl (by show 1+1<=5;omega) rfl;exact⟨t',a,h.p,b,h.f,c,h.a,h.e⟩
theorem St.am(h:St P tf t n d)  : ∃t',(∀q,nC Y 3 (.j P.b 2) (.e .i64 (d':Int)) ⟨q,t⟩=some (aD,⟨q,t'⟩))/\St P tf t' n d':=by
 obtain⟨t',a,b⟩:=xB.a (A:=[]) (j:=2) (v:=.e .i64 (d':Int)) h.g mL rfl (by show 2+1<=5;omega) rfl;exact⟨t',a,h.p,b,h.f,h.m,h.a,h.e⟩
theorem AA (h:By P.a w n=true):n<P.a.length:=by
 grind [By]
theorem Ip (h:St P tf t n d)(i:∀t',St P tf t' (if By P.a w n then n+1 else n) d->Q (.d (By P.a w n)) t'):Wc Y F 78 [.j P.b 0,.h w] t Q:=by
 refine w78 ?_;simp only[w7,uI,uG,rB,sC,t78,lA];rw[q77,Nn h,xA,H6,xA];have a:=zwk (P:=P) (n:=n) (w:=w);simp only[if_true,Q3,ue,nl,f1,xA,fI];have c:sF (mH P n).a w=true->(decide ((mH P n).b=1)||decide ((mH P n).b=4))=true->pD (oA Y 3 ⟨0,t⟩ (.j P.b 1)) (λv=>pD (I9 .i64 v) λn'=>∀b,t.c b=none->Y.a<=b->pD (nC Y 3 (.j P.b 1) (tC n') ⟨b,t⟩) λp=>Q (.d (sF (mH P n).a w)) p.2.t):=by
  intro e f;rw[e,f]at a;have a:By P.a w n=true:=a;rw[h.l1,xA,yC,xA];intro b _ _;have g:=AA a;have j:=h.f;obtain⟨t',k,l⟩:=h.r (n':=n+1) (by omega)
  grind [A2,xA]
 grind
theorem OG(h:St P tf t n d):oB Y F 151 [.j P.b 0] t=some (.d (lV P.a n)):=by
 refine mC.2 (w151 ?_);simp only[uB,uG,rB,t151,lA];rw[q77,Nn h,xA,H6,xA];simp only[if_true,Q3,ue,fI,q60,Kp,xA,O.r];unfold lV;rw[Sv (by omega),BA];by_cases a:(mH P n).b=1
 all_goals grind
def zh8 (h:St P tf t n d)(a:E (ud P e n) t):cK Y F E 39 [.j P.b 0,.e .i64 (e:Int)] t Q:=by
 refine w39 ?_;unfold t39 uG V uY;refine aA ?_;rw[pQ 77,Nn h,xA];refine aC (H6 _) (tA rfl ?_);refine aA (pX _ _ _ ?_);exact a
theorem Ok.l {rd:G vA->u->O->Prop} (h:St P tf t n d)(b:Ok P rd d tf (.er e n) Q E){a:lB}:pF Y F eC aF E 39 [.j P.b 0,.e .i64 (e:Int)] t a:=by
 rw[pE 39];exact zh8 h (b.o h)
def qq(_:G vA)(s:List Nat)(v:O):Prop:=v=.h s
def rdU (_:G vA)(_:Unit)(v:O):Prop:=v=.p []
def Y0(_:G vA)(s:Int)(v:O):Prop:=v=.e .i64 s
def om (_:G vA)(s:Nat)(v:O):Prop:=v=.e .u8 (s:Int)
def qr(k:Nat)(_:G vA)(s:List Nat)(v:O):Prop:=∃x:xD,x.b=k/\x.a=s/\v=.i x.f
theorem Jw (c:0<k)(h:St P tf t n d)(a:Ok P (qr k) d tf (wM P.a k n) Q E):cK Y F E 68 [.j P.b 0,.e .u8 (k:Int)] t Q:=by
 refine w68 ?_;unfold t68 uG V uY;refine aA ?_;rw[pQ 77,Nn h,xA];refine aC (H6 _) (tA rfl ?_);unfold wM at a;rw[Sv c]at a;by_cases f:(mH P n).b=k
 .rw[decide_eq_true f,A5 rfl]at a;refine vB (by grind [Q3,wF]) (qC (j68_9 ?_));unfold t68_9 uI tC sC V uY;refine uA nl (uA f1 (fB h.l1 (sB (uA nl (uA f1 (kC λb _ _=>?_))))));have g:n<P.a.length:=by
   grind [mH]
  have l:=h.f;obtain⟨m,i,j⟩:=h.r (n':=n+1) (by omega);have e:cA .i64 ((n:Int)+1)=((n+1:Nat):Int):=by
   grind [A2]
  rw[e];refine⟨_,_,i b,tA rfl ?_⟩;exact Ok.j a j ⟨mH P n,f,by rw[BA],rfl⟩
 .rw[decide_eq_false f,A3 (by simp)]at a;refine tA (by grind [Q3,wF]) (aA (Ok.l h a))
theorem Ko(h:St P tf t n d)(a:Ok P qq d tf (vO P.a n) Q E):cK Y F E 96 [.j P.b 0] t Q:=by
 refine w96 ?_;unfold t96 uB uG V uY;refine aA ?_;rw[pQ 151,OG h,xA];refine iC ?_;unfold vO at a
 cases f:lV P.a n with
 | false=>
  rw[f,A3 (by simp)]at a;exact tA rfl (aA (Ok.l h a))
 | true=>
  rw[f,A5 rfl]at a;refine vB (by simp) (aA ?_);rw[pE 68];refine Jw (k:=1) (by omega) h ?_;have b:kL P.a 1 n=true:=by grind [lV]
  unfold wM;rw[b,A5 rfl];intro c l v g i ⟨x,_,e,j⟩;subst j;refine aC (H6 _) ?_;exact a c l _ g i (by show O.h x.a=.h _;rw[e])
end
end Go.Proofs
namespace Go.Proofs
open Go Go.Am
def zu:List (List Nat):=[[],[116,114,117,116,104],[110,117,109,98,101,114],[109,111,110,101,121],[100,97,116,101],[100,97,121,115],[109,111,110,116,104,115]]
def Y1(t:G vA):Prop:=At t 0 0 (zu.map O.h)
end Go.Proofs
namespace Go.Am
open Go Go.RowKit
def Bw{a:Type}(f:Nat->Option a):Nat->G a
 | 0=>.aj
 | n+1=>match f n with
  | some v=>(Bw f n).d n v
  | none=>Bw f n
theorem yX{b:Type}(f:Nat->Option b):∀(n a:Nat),(Bw f n).c a=if a<n then f a else none:=by
 intro n;induction n with
 | zero=>intro a;rw[A3 (by omega)];exact G.ah _
 | succ n c=>
  grind [Bw,G.aa]
def qU (N:Nat):Value->Option O
 | .bool b=>some (.d b)
 | .int k n=>some (.e k n)
 | .string s=>some (.h (sG s))
 | .slice none 0 0=>some .g
 | .slice (some _) 0 0=>some (.m 0 0 0 0)
 | .slice (some ⟨b,d,none⟩) c a=>if b<N then some (.m (256+b) d c a)else none
 | _=>none
def J7 (N:Nat):Obj->Option vA
 | .cells a _ _=>some (.aa (Bw (λj=>(a[j]?).bind (qU N)) a.size) a.size none)
 | _=>none
def yK (w:World):G vA:=Bw (λa=>if a<256 then(w.heap[a]?).bind (J7 w.heap.size)else(w.heap[a-256]?).bind (J7 w.heap.size)) (256+w.heap.size)
def Q4 (w:World):Mu:=⟨λa=>if a<256 then some ⟨a,true,0,0,true⟩else if a<256+w.heap.size then some ⟨a-256,true,0,0,true⟩else none,λ_=>none⟩
section
variable {w:World}
theorem TT{v:Value}{a:O}(h:qU w.heap.size v=some a):rA (Q4 w) a v:=by
 unfold qU at h;split at h
 .cases h;rw[rA]
 .cases h;rw[rA]
 .grind [rA]
 .cases h;rw[rA]
 .grind [rA]
 .split at h
  .rename_i f;cases h;rename_i b e d c _;rw[rA];refine .inl ⟨⟨b,true,0,0,true⟩,c,?_,rfl,B3 _,λ_=>rfl,λh=>by cases h⟩;show(if 256+b<256 then some (⟨256+b,true,0,0,true⟩:BI)else if 256+b<256+w.heap.size then some ⟨256+b-256,true,0,0,true⟩else none)=_;rw[A3 (by omega),A5 (by omega),show 256+b-256=b by omega]
  .cases h
 .cases h
theorem TV{o:Obj}{x:vA}(h:J7 w.heap.size o=some x)(b:Nat):mK (Q4 w) ⟨b,true,0,0,true⟩ x o/\x.d=none/\x.b=none:=by
 cases o<;>first | (cases h;done) | skip
 rename_i c a d;cases h;refine⟨⟨c,a,d,rfl,B3 _,.inl rfl,λj v e=>?_,rfl⟩,rfl,rfl⟩
 grind [yX,TT]
theorem qt:mB (256+w.heap.size) w.heap.size (Q4 w) ⟨256+w.heap.size,yK w⟩ w:=by
 have m:∀a x,(yK w).c a=some x->∃b o,b<w.heap.size/\w.heap[b]?=some o/\J7 w.heap.size o=some x/\a<256+w.heap.size/\b=(if a<256 then a else a-256):=by
  grind [yK,yX]
 have c:∀a,(Q4 w) a=if a<256 then some ⟨a,true,0,0,true⟩else if a<256+w.heap.size then some ⟨a-256,true,0,0,true⟩else none:=λ_=>rfl;have f:∀a,256+w.heap.size<=a->(Q4 w) a=none:=λa h=>by rw[c,A3 (by omega),A3 (by omega)]
 have d:∀a x i,(yK w).c a=some x->(Q4 w) a=some i->∃o,w.heap[i.b]?=some o/\i.b<w.heap.size/\J7 w.heap.size o=some x/\i=⟨i.b,true,0,0,true⟩:=by
  grind
 refine⟨by omega,λg q=>by rw[c,A5 q],λa x i _ l e=>?_,B3 _,B3 _,λa k=>⟨f a k,?_⟩,λa x i l e=>?_,λa i k e=>?_,λa b x y i j l _ e _ k _ _=>?_,λa x t h=>by cases h⟩
 .obtain⟨o,_,n,p,_⟩:=d a x i l e;exact⟨n,(TV p 0).2⟩
 all_goals grind [yK,yX,TV]
end
end Go.Am
namespace Go.Am
open Go Go.RowKit
variable {b n:Nat}{cs:List Value}{c:Array Value}{t:TypeId}{g:Nat × Nat}
def wI(P:Program):Nat->TypeId->D->Prop
 | 0,_,_=>False
 | f+1,t,x=>match P.underlying t with
  | some .bool=>∃b,x=.e b
  | some (.int k)=>∃n,x=.a k n/\(Lit.int k n).wf=true
  | some .string=>∃l:List Nat,x=.c l/\l.length<=reachBytes/\∀c∈l,c<256
  | some (.slice e)=>∃l:List D,x=.g (P.cellsOf e) l/\l.length*P.bytesOf e<=reachBytes/\∀y∈l,wI P f e y
  | some (.struct d)=>∃l:List D,x=.f l/\tD (λa y=>wI P f a.type y) d.toList l
  | _=>False
def Ms(P:Program):Nat->List Field->Nat->Bool
 | a,[],n=>a == n
 | a,f::b,n=>f.offset == a&&Ms P (a+P.cellsOf f.type) b n
structure Y2 (P:Program) (S:TypeId->Prop):Prop where
 a:∀t,S t->match P.underlying t with
  | some .bool=>True
  | some (.int _)=>True
  | some .string=>True
  | some (.slice e)=>S e/\0<P.cellsOf e
  | some (.struct fs)=>(∀f∈fs.toList,S f.type)/\Ms P 0 fs.toList (P.cellsOf t)=true
  | _=>False
def av (N:Nat)(v:Value):O:=(qU N v).getD .y
def Q5 (N:Nat)(cs:List Value):Prop:=∀v∈cs,qU N v=some (av N v)
theorem SA{a:Type}{Q:Nat->a->Prop}:∀(n:Nat),(∀i,i<n->∃p,Q i p)->∃l:List a,l.length=n/\∀i p,l[i]?=some p->Q i p:=by
 intro n;induction n with
 | zero=>simp_all
 | succ n d=>
  intro h;obtain⟨l,b,g⟩:=d λi e=>h i (by omega);obtain⟨p,f⟩:=h n (by omega);refine⟨l++[p],by simp[b],λi q c=>?_⟩
  grind
section
variable {H:Type}{enc:TypeId × Value->H}{P:Program}{w:World}
theorem HH{p:Nat->Bool}:∀ {b:List TypeId} {ds:List (DataW H)},(DataW.weightsEach P b ds).all p=true->∀ {i:Nat} {t:TypeId} {d:DataW H},b[i]?=some t->ds[i]?=some d->(DataW.weights P t d).all p=true
 | [],_,_,i,_,_,a,_=>by simp at a
 | _::_,[],_,i,_,_,_,c=>by simp at c
 | t::b,d::ds,h,i,u,e,a,c=>by
  rw[DataW.weightsEach,uq,B2]at h
  cases i with
  | zero=>simp_all
  | succ i=>exact HH h.2 (by simpa using a) (by simp_all)
theorem HI{p:Nat->Bool}{e:TypeId}:∀ {ds:List (DataW H)},(DataW.weightsAll P e ds).all p=true->∀ {i:Nat} {d:DataW H},ds[i]?=some d->(DataW.weights P e d).all p=true
 | [],_,i,_,a=>by simp at a
 | d::ds,h,i,x,a=>by
  rw[DataW.weightsAll,uq,B2]at h
  cases i with
  | zero=>simp_all
  | succ i=>exact HI h.2 (by simpa using a)
theorem SH{a:Addr}  (h:w.cells? 0 a n=some cs):cs.length=n/\(0<n->a.spot=none/\∃c t g,w.heap[a.block]?=some (.cells c t g)/\∀j,j<n->c[a.off+j]?=cs[j]?):=by
 unfold World.cells? at h;rw[A5 (H4 _)]at h;have k:=mapM_some_length h;have p:=mapM_some_get h;simp only[List.length_range]at k;refine⟨k,λq=>?_⟩;have f:∀j,j<n->w.cell? (a.add j)=cs[j]?:=λj i=>p j j (by simp[i]);have b:=f 0 q;have d:∃v,cs[0]?=some v:=⟨cs[0]'(by omega),C6 (by omega)⟩;obtain⟨s,e⟩:=d;rw[e]at b;have l:a.add 0=a:=by simp[Addr.add]
 rw[l]at b;unfold World.cell? at b
 cases m:w.heap[a.block]? with
 | none=>simp_all
 | some o=>
  rw[m]at b
  cases o with
  | cells c t g=>
   simp only[]at b;split at b
   .cases b
   .rename_i r;refine⟨by simp_all,c,t,g,rfl,λj i=>?_⟩
    grind [World.cell?,Addr.add]
  | _=>cases b
def TU    (h:w.heap[b]?=some (.cells c t g)) :
  (yK w).c (256+b)=some (.aa (Bw (λj=>(c[j]?).bind (qU w.heap.size)) c.size) c.size none):=by
 have a:=(G3.1 h).1;unfold yK;rw[yX,A5 (by omega),A3 (by omega),show 256+b-256=b by omega,h];rfl
theorem j9{off:Nat}    (h:w.heap[b]?=some (.cells c t g))(o:cs.length=n)(l:∀j,j<n->c[off+j]?=cs[j]?)(m:Q5 w.heap.size cs) :
  At (yK w) (256+b) off (cs.map (av w.heap.size)):=by
 refine⟨_,_,_,TU h,λj a d=>?_⟩;rw[F7]at d
 cases f:cs[j]? with
 | none=>simp_all
 | some v=>
  rw[f]at d;have i:j<n:=by grind
  have e:=l j i;rw[f]at e;have k:off+j<c.size:=(G3.1 e).1;rw[yX,A5 k,e];have d:av w.heap.size v=a:=by simp_all
  rw[<- d];exact m v (O9 f)
theorem HX{cs:List Value}:∀ {fs:List Field} {off:Nat},Ms P off fs cs.length=true->(fs.map λf=>(cs.drop f.offset).take (P.cellsOf f.type)).flatten=cs.drop off
 | [],off,h=>by grind [Ms]
 | f::fs,off,h=>by
  rw[Ms,B2]at h;obtain⟨a,b⟩:=h;have a:f.offset=off:=by simp_all
  rw[G4,Z6,HX b,a,<- List.drop_drop,List.take_append_drop]
theorem zj8{c d:Type}{R:c->d->Prop}:∀ {l:List c} {m:List d},m.length=l.length->(∀(i:Nat) a b,l[i]?=some a->m[i]?=some b->R a b)->tD R l m
 | [],[],_,_=>.ac
 | [],_::_,h,_=>by simp at h
 | _::_,[],h,_=>by simp at h
 | a::l,b::m,h,k=>.aa (k 0 a b (by simp) (by simp)) (zj8 (by grind) λi a b e f=>k (i+1) a b (by simp_all) (by simp_all))
theorem ztd{S:TypeId->Prop}(hP:Y2 P S)(h0:∃c n lo,(yK w).c 0=some (.aa c n lo)) :
  ∀(fuel:Nat) (t:TypeId) (cs:List Value) (x:DataW H × List MemPlace),S t->DataW.trod enc P w 0 (λ_=>true) true fuel t cs=some x->(DataW.weights P t x.1).all (· <= reachBytes)=true →
   Q5 w.heap.size cs/\∃d,RD (yK w) d (cs.map (av w.heap.size))/\wI P fuel t d:=by
 intro fuel;induction fuel with
 | zero=>simp_all [DataW.trod]
 | succ n ih=>
  intro t cs x hS h hw;have M:=hP.a t hS;have A:∀ {v:Value} {a:O},qU w.heap.size v=some a->Q5 w.heap.size [v]/\av w.heap.size v=a:=by
   intro v a Q;have:av w.heap.size v=a:=by grind [av]
   refine⟨λu r=>?_,this⟩;simp at r;subst r;rw[Q,this]
  cases r:P.underlying t with
  | none=>simp_all
  | some dt=>
  cases dt with
  | bool=>
   obtain⟨b,rfl,rfl⟩:=DataW.trod_bool r h;obtain⟨B,I⟩:=A (v:=.bool b) (a:=.d b) rfl;exact⟨B,.e b,by simp_all,by grind [wI]⟩
  | int k=>
   obtain⟨m,rfl,rfl,ao⟩:=DataW.trod_int r h;obtain⟨B,I⟩:=A (v:=.int k m) (a:=.e k m) rfl;exact⟨B,.a k m,by simp_all,by grind [wI]⟩
  | string=>
   obtain⟨s,rfl,rfl,_⟩:=DataW.trod_string r h;obtain⟨B,I⟩:=A (v:=.string s) (a:=.h (sG s)) rfl;refine⟨B,.c (sG s),by simp_all,?_⟩
   grind [wI,DataW.weights,sG,UInt8.toNat_lt]
  | slice e=>
   rw[r]at M;obtain⟨a8,J⟩:=M;rcases DataW.trod_slice r h with⟨rfl,rfl⟩ | ⟨a,z,E,nO,ai,m,hm,rfl,rfl,_,al,_,W,hE,hR,_⟩
   .obtain⟨B,I⟩:=A (v:=.slice none 0 0) (a:=.g) rfl;refine⟨B,.g (P.cellsOf e) [],by rw[kO];exact⟨_,by simp[I],[],.inl ⟨rfl,rfl⟩,by rw[wD]⟩,?_⟩
    grind [wI]
   .obtain rfl:n=m:=by omega
    simp only[DataW.weights,r,Z8,B2,uq,decide_eq_true_eq,C4]at hw;obtain⟨am,af,ap⟩:=hw;by_cases T:E=0
    .subst T;obtain rfl:z=0:=by omega
     obtain⟨B,I⟩:=A (v:=.slice (some a) 0 0) (a:=.m 0 0 0 0) (by cases a;rfl);refine⟨B,.g (P.cellsOf e) [],?_,?_⟩
     .rw[kO,G4,List.map_nil,I];refine⟨_,rfl,[],.inr ⟨0,0,0,rfl,B3 _,?_,λi cs C=>by simp at C⟩,by rw[wD]⟩;obtain⟨c,k,lo,hc⟩:=h0;have:=hc;unfold yK at this;rw[yX]at this;split at this
      case isFalse=>cases this
      rw[A5 (by omega)]at this
      cases ho:w.heap[0]? with
      | none=>simp_all
      | some o=>
       rw[ho]at this
       cases o with
       | cells c' t' a6=>
        grind [J7]
       | _=>cases this
     grind [wI]
    .have hr:=(hR rfl).1;have a7:=(hR rfl).2;have q:∀i,i<z->∃p:List Value × D,w.cells? 0 (a.add (i*P.cellsOf e)) (P.cellsOf e)=some p.1/\Q5 w.heap.size p.1/\RD (yK w) p.2 (p.1.map (av w.heap.size))/\wI P n e p.2:=by
      intro i C;have:=hE i C;obtain⟨y,hy⟩:∃y,nO[i]?=some y:=⟨nO[i]'(by omega),C6 (by omega)⟩;rw[hy]at this;simp only[Option.bind_eq_some_iff]at this;obtain⟨R,L,ag⟩:=this;obtain⟨g1,d,g2,g3⟩:=ih e R y a8 ag (HI af (i:=i) (by simp[hy]));exact⟨(R,d),L,g1,g2,g3⟩
     obtain⟨l,hl,hq⟩:=SA z q;have F:∃R,w.cells? 0 a (P.cellsOf e)=some R:=by
      by_cases Z:z=0
      .have:=a7 0 (by omega)
       grind [Option.bind_eq_some_iff,Addr.add]
      .obtain⟨p,M,_⟩:=q 0 (by omega)
       grind [Addr.add]
     obtain⟨R,L⟩:=F;obtain⟨ae,c,ct,g,j,_⟩:=(SH L).2 J;have hb:a.block<w.heap.size:=(G3.1 j).1;have aa:qU w.heap.size (.slice (some a) z E)=some (.m (256+a.block) a.off z E):=by
      obtain⟨bb,oo,ss⟩:=a
      grind [qU]
     obtain⟨B,I⟩:=A aa;refine⟨B,.g (P.cellsOf e) (l.map (·.2)),?_,?_⟩
     .rw[kO];refine⟨_,by rw[G4,List.map_nil,I],l.map (λp=>p.1.map (av w.heap.size)),.inr ⟨256+a.block,a.off,E,by rw[C4,hl],by simp_all,⟨_,_,_,TU j,.inl rfl⟩,λi cs C=>?_⟩,?_⟩
      .rw[F7]at C
       cases a1:l[i]? with
       | none=>simp_all
       | some p=>
        rw[a1]at C;obtain rfl:p.1.map (av w.heap.size)=cs:=by simp_all
        obtain⟨k1,k2,k3,k4⟩:=hq i p a1;obtain⟨m1,m2⟩:=SH k1;obtain⟨_,c',aj,a6,K,U⟩:=m2 J;have eb:(a.add (i*P.cellsOf e)).block=a.block:=by unfold Addr.add;split<;>rfl
        have eo:(a.add (i*P.cellsOf e)).off=a.off+i*P.cellsOf e:=by unfold Addr.add;split<;>simp_all
        rw[eb]at K;rw[j]at K;cases K;rw[eo]at U;exact⟨by simp_all,j9 j m1 U k2⟩
      grind [wD.mk]
     grind [wI,List.mem_iff_getElem?]
  | struct fs=>
   rw[r]at M;obtain⟨hf,ht⟩:=M;obtain⟨xs,m,hm,rfl,Z,aq,W⟩:=DataW.trod_struct r h;obtain rfl:n=m:=by omega
   simp only[DataW.weights,r]at hw;have q:∀i,i<fs.toList.length->∃p:D,∀f,fs.toList[i]?=some f->Q5 w.heap.size ((cs.drop f.offset).take (P.cellsOf f.type))/\RD (yK w) p (((cs.drop f.offset).take (P.cellsOf f.type)).map (av w.heap.size))/\wI P n f.type p:=by
    intro i C;have ad:i<fs.size:=by omega
    obtain⟨f,ab⟩:∃f,fs.toList[i]?=some f:=⟨fs.toList[i],C6 C⟩;have:=W i f (by simp_all);obtain⟨y,hy⟩:∃y,xs[i]?=some y:=⟨xs[i]'(by omega),C6 (by omega)⟩;rw[hy]at this;obtain⟨g1,d,g2,g3⟩:=ih f.type _ y (hf f (O9 ab)) this (HH hw (i:=i) (by simp_all) (by simp_all));refine⟨d,λf' ak=>?_⟩
    simp_all
   obtain⟨l,hl,hq⟩:=SA fs.toList.length q;have X:=HX (cs:=cs) (P:=P) (fs:=fs.toList) (off:=0) (by simp_all);rw[G8]at X;refine⟨λv Q=>?_,.f l,?_,?_⟩
   .rw[<- X]at Q;obtain⟨ah,N,Q⟩:=List.mem_flatten.1 Q;obtain⟨f,ac,rfl⟩:=G6.1 N;obtain⟨i,C⟩:=List.mem_iff_getElem?.1 ac;have ad:i<fs.toList.length:=(F6.1 C).1;exact(hq i (l[i]'(by omega)) (C6 (by omega)) f C).1 v Q
   all_goals grind [xK,wD.mk,wI,zj8]
  | _=>rw[r]at M;exact M.elim
end
end Go.Am
namespace Go.Am
open Go Go.RowKit
structure AD (P:Program) where
 (b i u8 bt s ba ak aw cp aj bc bn bz ah au br b7 aa am b8:TypeId)
 hb:P.underlying b=some .bool
 hi:P.underlying i=some (.int .i64)
 cq:P.underlying u8=some (.int .u8)
 cr:P.underlying bt=some (.int .u16)
 hs:P.underlying s=some .string
 be:P.underlying ba=some (.slice bt)
 bg:P.underlying bc=some (.slice aj)
 ce:P.underlying bz=some (.slice bn)
 ax:P.underlying au=some (.slice ah)
 cg:P.underlying b7=some (.slice br)
 ap:P.underlying am=some (.slice aa)
 bh:∃fs,P.underlying ak=some (.struct fs)/\fs.toList.map (·.type)=[b,ba]
 ci:∃fs,P.underlying aw=some (.struct fs)/\fs.toList.map (·.type)=[ak,ak]
 cu:∃fs,P.underlying cp=some (.struct fs)/\fs.toList.map (·.type)=[u8,aw,i]
 cj:∃fs,P.underlying aj=some (.struct fs)/\fs.toList.map (·.type)=[u8,s,cp,bc]
 cz:∃fs,P.underlying bn=some (.struct fs)/\fs.toList.map (·.type)=[i,i,i,aw]
 bj:∃fs,P.underlying ah=some (.struct fs)/\fs.toList.map (·.type)=[s,b,bz]
 dc:∃fs,P.underlying br=some (.struct fs)/\fs.toList.map (·.type)=[s,u8,b]
 ay:∃fs,P.underlying aa=some (.struct fs)/\fs.toList.map (·.type)=[s,s,i,i,i,b,aj,aj]
 ck:∃fs,P.underlying b8=some (.struct fs)/\fs.toList.map (·.type)=[s,b7,au,am]
 dh:P.cellsOf bt=1
 co:P.cellsOf aj=9
 di:P.cellsOf bn=7
 bk:P.cellsOf ah=3
 dj:P.cellsOf br=3
 az:P.cellsOf aa=24
 ac:1<=P.bytesOf bt/\1<=P.bytesOf aj/\1<=P.bytesOf bn/\1<=P.bytesOf ah/\1<=P.bytesOf br/\1<=P.bytesOf aa
section
variable {P:Program}{f:Nat}{t:TypeId}{x:D}
theorem Qq(h:wI P f t x):∃g,f=g+1:=by
 cases f with
 | zero=>exact h.elim
 | succ g=>simp_all
theorem Vm(a:P.underlying t=some .bool)(h:wI P f t x):∃b,x=.e b:=by
 grind [Qq,wI]
theorem AR{k:IntKind}(a:P.underlying t=some (.int k))(h:wI P f t x):∃n,x=.a k n/\(Lit.int k n).wf=true:=by
 grind [Qq,wI]
def Jr(d:P.underlying t=some (.int .i64))(h:wI P f t x):∃n,x=.a .i64 n/\U7 n:=by
 obtain⟨n,rfl,a⟩:=AR d h;simp only[Lit.wf,B2,decide_eq_true_eq]at a;have b:IntKind.i64.min = -9223372036854775808:=rfl;have c:IntKind.i64.max=9223372036854775807:=rfl;rw[b,c]at a;exact⟨n,rfl,a.1,by omega⟩
def AQ(d:P.underlying t=some (.int .u8))(h:wI P f t x):∃n:Nat,x=.a .u8 (n:Int)/\n<256:=by
 obtain⟨n,rfl,a⟩:=AR d h;simp only[Lit.wf,B2,decide_eq_true_eq]at a;have b:IntKind.u8.min=0:=rfl;have c:IntKind.u8.max=255:=rfl;rw[b,c]at a;exact⟨n.toNat,by rw[show((n.toNat:Nat):Int)=n by omega],by omega⟩
def zct(d:P.underlying t=some (.int .u16))(h:wI P f t x):∃n:Nat,x=.a .u16 (n:Int)/\n<65536:=by
 obtain⟨n,rfl,a⟩:=AR d h;simp only[Lit.wf,B2,decide_eq_true_eq]at a;have b:IntKind.u16.min=0:=rfl;have c:IntKind.u16.max=65535:=rfl;rw[b,c]at a;exact⟨n.toNat,by rw[show((n.toNat:Nat):Int)=n by omega],by omega⟩
theorem Mo(a:P.underlying t=some .string)(h:wI P f t x):∃l:List Nat,x=.c l/\l.length<lF/\∀c∈l,c<256:=by
 grind [Qq,wI,reachBytes,lF]
theorem Mp{e:TypeId}{sz:Nat}(b:P.underlying t=some (.slice e))(j:P.cellsOf e=sz)(a:1<=P.bytesOf e)(h:wI P f t x):∃(l:List D) (g:Nat),f=g+1/\x=.g sz l/\l.length<lF/\∀y∈l,wI P g e y:=by
 obtain⟨g,rfl⟩:=Qq h;unfold wI at h;rw[b]at h;obtain⟨l,c,d,i⟩:=h;have:l.length<=l.length*P.bytesOf e:=Nat.le_mul_of_pos_right _ a
 grind [reachBytes,lF]
theorem tD.g{c d e:Type}{k:c->e}{R:e->d->Prop}:∀ {l:List c} {m:List d},tD (λa b=>R (k a) b) l m->tD R (l.map k) m
 | [],_,.ac=>.ac
 | _::_,_::_,.aa h r=>.aa h (tD.g r)
theorem Dd{b:List TypeId}(a:∃fs,P.underlying t=some (.struct fs)/\fs.toList.map (·.type)=b)(h:wI P f t x):∃(l:List D) (g:Nat),f=g+1/\x=.f l/\tD (λt y=>wI P g t y) b l:=by
 obtain⟨fs,a,rfl⟩:=a;obtain⟨g,rfl⟩:=Qq h
 grind [wI,tD.g]
theorem tD.c{c d:Type}{R:c->d->Prop}{a:c}{l:List c}{m:List d}(h:tD R (a::l) m):∃b r,m=b::r/\R a b/\tD R l r:=by
 cases h with
 | aa e f=>grind
def tD.d{a b:Type}{R:a->b->Prop}{m:List b}(h:tD R ([]:List a) m):m=[]:=by
 cases h;rfl
theorem Ku{c d:Type}{g:c->d}{Q:c->Prop}:∀ {l:List d},(∀y∈l,∃a,y=g a/\Q a)->∃m:List c,l=m.map g/\∀a∈m,Q a
 | [],_=>⟨[],rfl,λ_ h=>by cases h⟩
 | y::l,h=>by
  obtain⟨a,f,i⟩:=h y (by simp);obtain⟨m,j,k⟩:=Ku (l:=l) λz e=>h z (C7 _ e);exact⟨a::m,by grind,λb n=>by
   grind⟩
end
namespace AD
section
variable {P:Program}(A:AD P){f:Nat}{x:D}
theorem d(h:wI P f A.ak x):∃w:xL,x=w.d/\w.a.length<lF/\pB 65536 w.a:=by
 obtain⟨l,g,rfl,rfl,k⟩:=Dd A.bh h;obtain⟨o,r,rfl,a,k⟩:=k.c;obtain⟨p,r,rfl,c,k⟩:=k.c;obtain rfl:=k.d;obtain⟨b,rfl⟩:=Vm A.hb a;obtain⟨l,g,rfl,rfl,q,e⟩:=Mp A.be A.dh A.ac.1 c;obtain⟨m,rfl,i⟩:=Ku (g:=λn:Nat=>D.a .u16 (n:Int)) (Q:=λn=>n<65536) λy j=>zct A.cr (e y j);exact⟨⟨b,m⟩,rfl,by simp_all,i⟩
def e(h:wI P f A.aw x):∃w:qF,x=w.b/\w.a:=by
 obtain⟨l,g,rfl,rfl,k⟩:=Dd A.ci h;obtain⟨o,r,rfl,m,k⟩:=k.c;obtain⟨p,r,rfl,n,k⟩:=k.c;obtain rfl:=k.d;obtain⟨a,rfl,c,d⟩:=A.d m;obtain⟨b,rfl,i,j⟩:=A.d n;exact⟨⟨a,b⟩,rfl,⟨c,i⟩,d,j⟩
def z(h:wI P f A.cp x):∃w:iF,x=w.d/\w.b:=by
 obtain⟨l,g,rfl,rfl,k⟩:=Dd A.cu h;obtain⟨m,r,rfl,b,k⟩:=k.c;obtain⟨o,r,rfl,c,k⟩:=k.c;obtain⟨p,r,rfl,d,k⟩:=k.c;obtain rfl:=k.d;obtain⟨j,rfl,e⟩:=AQ A.cq b;obtain⟨q,rfl,i⟩:=A.e c;obtain⟨n,rfl,a⟩:=Jr A.hi d;exact⟨⟨j,q,n⟩,rfl,e,i,a.1,a.2⟩
theorem dm:∀ {l:List iA},(∀x∈l,x.b)->iA.f l
 | [],_=>by grind [iA.f]
 | x::l,h=>by unfold iA.f;exact⟨h x (by simp),dm λy a=>h y (C7 _ a)⟩
theorem j:∀(f:Nat) (x:D),wI P f A.aj x->∃w:iA,x=w.d/\w.b:=by
 intro f;induction f using Nat.strongRecOn with
 | _ f q=>
 intro x h;obtain⟨l,g,rfl,rfl,k⟩:=Dd A.cj h;obtain⟨t,r,rfl,b,k⟩:=k.c;obtain⟨u,r,rfl,c,k⟩:=k.c;obtain⟨z,r,rfl,d,k⟩:=k.c;obtain⟨B,r,rfl,e,k⟩:=k.c;obtain rfl:=k.d;obtain⟨s,rfl,C⟩:=AQ A.cq b;obtain⟨n,rfl,F,o⟩:=Mo A.hs c;obtain⟨v,rfl,I⟩:=A.z d;obtain⟨l,a,rfl,rfl,E,i⟩:=Mp A.bg A.co A.ac.2.1 e;obtain⟨m,rfl,H⟩:=Ku (g:=iA.d) (Q:=iA.b) λy p=>q a (by omega) y (i y p);refine⟨.mk s n v m,?_,?_⟩
 all_goals grind [iA.d,iA.q,iA.b,dm]
def dq(h:wI P f A.bn x):∃w:rG,x=w.d/\w.e:=by
 obtain⟨l,g,rfl,rfl,k⟩:=Dd A.cz h;obtain⟨s,r,rfl,d,k⟩:=k.c;obtain⟨t,r,rfl,e,k⟩:=k.c;obtain⟨u,r,rfl,i,k⟩:=k.c;obtain⟨v,r,rfl,j,k⟩:=k.c;obtain rfl:=k.d;obtain⟨a,rfl,m⟩:=Jr A.hi d;obtain⟨b,rfl,n⟩:=Jr A.hi e;obtain⟨c,rfl,o⟩:=Jr A.hi i;obtain⟨q,rfl,p⟩:=A.e j;exact⟨⟨a,b,c,q⟩,rfl,m,n,o,p⟩
theorem t(h:wI P f A.ah x):∃w:mE,x=w.d/\w.e:=by
 obtain⟨l,g,rfl,rfl,k⟩:=Dd A.bj h;obtain⟨p,r,rfl,a,k⟩:=k.c;obtain⟨q,r,rfl,c,k⟩:=k.c;obtain⟨s,r,rfl,d,k⟩:=k.c;obtain rfl:=k.d;obtain⟨n,rfl,i,_⟩:=Mo A.hs a;obtain⟨b,rfl⟩:=Vm A.hb c;obtain⟨l,u,rfl,rfl,v,e⟩:=Mp A.ce A.di A.ac.2.2.1 d;obtain⟨m,rfl,j⟩:=Ku (g:=rG.d) (Q:=rG.e) λy o=>A.dq (e y o);exact⟨⟨n,b,m⟩,rfl,i,by simp_all,j⟩
def du(h:wI P f A.br x):∃w:eE,x=w.d/\w.e:=by
 obtain⟨l,g,rfl,rfl,k⟩:=Dd A.dc h;obtain⟨m,r,rfl,a,k⟩:=k.c;obtain⟨o,r,rfl,c,k⟩:=k.c;obtain⟨p,r,rfl,d,k⟩:=k.c;obtain rfl:=k.d;obtain⟨n,rfl,i,_⟩:=Mo A.hs a;obtain⟨j,rfl,e⟩:=AQ A.cq c;obtain⟨b,rfl⟩:=Vm A.hb d;exact⟨⟨n,j,b⟩,rfl,i,e⟩
def p(h:wI P f A.aa x):∃w:nD,x=w.d/\w.j:=by
 obtain⟨l,g,rfl,rfl,k⟩:=Dd A.ay h;obtain⟨F,r,rfl,d,k⟩:=k.c;obtain⟨H,r,rfl,e,k⟩:=k.c;obtain⟨I,r,rfl,i,k⟩:=k.c;obtain⟨J,r,rfl,j,k⟩:=k.c;obtain⟨K,r,rfl,m,k⟩:=k.c;obtain⟨L,r,rfl,q,k⟩:=k.c;obtain⟨M,r,rfl,s,k⟩:=k.c;obtain⟨N,r,rfl,t,k⟩:=k.c;obtain rfl:=k.d;obtain⟨n,rfl,C,_⟩:=Mo A.hs d;obtain⟨l,rfl,B,_⟩:=Mo A.hs e;obtain⟨a,rfl,u⟩:=Jr A.hi i;obtain⟨b,rfl,y⟩:=Jr A.hi j;obtain⟨c,rfl,z⟩:=Jr A.hi m;obtain⟨o,rfl⟩:=Vm A.hb q
 obtain⟨w,rfl,E⟩:=A.j _ _ s;obtain⟨v,rfl,D⟩:=A.j _ _ t;exact⟨⟨n,l,a,b,c,o,w,v⟩,rfl,C,B,u,y,z,E,D⟩
theorem u(h:wI P f A.b8 x):∃w:rD,x=w.d/\w.f:=by
 obtain⟨l,g,rfl,rfl,k⟩:=Dd A.ck h;obtain⟨E,r,rfl,m,k⟩:=k.c;obtain⟨F,r,rfl,o,k⟩:=k.c;obtain⟨H,r,rfl,p,k⟩:=k.c;obtain⟨I,r,rfl,q,k⟩:=k.c;obtain rfl:=k.d;obtain⟨n,rfl,z,_⟩:=Mo A.hs m;obtain⟨M,J,rfl,rfl,s,b⟩:=Mp A.cg A.dj A.ac.2.2.2.2.1 o;obtain⟨N,K,_,rfl,t,c⟩:=Mp A.ax A.bk A.ac.2.2.2.1 p;obtain⟨R,L,_,rfl,v,d⟩:=Mp A.ap A.az A.ac.2.2.2.2.2 q;obtain⟨B,rfl,e⟩:=Ku (g:=eE.d) (Q:=eE.e) λy a=>A.du (b y a);obtain⟨C,rfl,i⟩:=Ku (g:=mE.d) (Q:=mE.e) λy a=>A.t (c y a)
 obtain⟨D,rfl,j⟩:=Ku (g:=nD.d) (Q:=nD.j) λy a=>A.p (d y a);exact⟨⟨n,B,C,D⟩,rfl,⟨z,by simp_all,by simp_all,by simp_all,e,i,j⟩⟩
end
end AD
end Go.Am
namespace Go.Am
open Go Go.RowKit Go.Proofs
theorem zal[fC](B N:Nat)(j:B<=256+fC.n):Pl Tryz.prog Y B N oJ:=by
 intro f g a i H v k b m w d e l h;have a:wx.c f=some g:=a;unfold wx at a;rcases xS a with⟨rfl,rfl⟩ | a
 .grind [yY,KS]
 rcases xS a with⟨rfl,rfl⟩ | a
 .grind [yY,KV]
 rcases xS a with⟨rfl,rfl⟩ | a
 .grind [yY,zam]
 rcases xS a with⟨rfl,rfl⟩ | a
 .exact yY b e λb=>KW (Aq (fn:=Tryz.f229) Tryz.func229 (by kernel_rfl)) (λs c=>Tryz.strings_IndexByte s c _) b h
 rcases xS a with⟨rfl,rfl⟩ | a
 .grind [yY,zly]
 rcases xS a with⟨rfl,rfl⟩ | a
 .grind [yY,KX]
 rcases xS a with⟨rfl,rfl⟩ | a
 .exact .inr (KU j e b h)
 rcases xS a with⟨rfl,rfl⟩ | a
 .exact .inr (KY j e b h)
 rcases xS a with⟨rfl,rfl⟩ | a
 all_goals grind [yY,zan,G.ah]
def qu[fC](a:6<=fC.n):cL Tryz.prog Y (256+fC.n) fC.n oJ:=
 ⟨AP rfl,Yh rfl,zal _ _ (B3 _),B3 _,by kernel_rfl,λ_ _ b h=>h.below a b⟩
section
variable {w:World}
theorem zt1{b:Nat}{y:vA}(h:(yK w).c b=some y):b<256+w.heap.size:=by
 grind [yK,yX]
def VD(c:oJ w)(f:Nat)(args:List O)(args':Array Value)(o:∀ [fC],Y.c.c f=none)(n:jB (Q4 w) args args'.toList)
  (h:∀ [fC],∃Q:lB,Wc Y F f args (yK w) Q/\∀v t,Q v t->v=.d true) (m:Nat.blt f yo=true:=by rfl) :
  Calls Tryz.prog f args' w λe w'=>e=.returned (.bool true)/\Below w.heap.size w w':=by
 letI:fC:=⟨w.heap.size⟩
 obtain⟨Q,j,k⟩:=h;refine(ZF (H:=⟨256+w.heap.size,yK w⟩) (qu c.c) c zv3 o (B3 _) (λb y l=>zt1 l) qt n j m).mono λe w' ⟨v,s,p,q,d,r,a,g,i⟩=>?_;have:=k v p g;subst this;rw[rA]at a;exact⟨by rw[d,a],i⟩
theorem zhw(h:oJ w):∀ [fC],vN (yK w):=by
 intro _;obtain⟨t,h⟩:=h.d;have c:=(G3.1 h).1;have e:(yK w).c 3=some (.aa (Bw (λj=>((Hv oV).toArray[j]?).bind (qU w.heap.size)) (Hv oV).toArray.size) (Hv oV).toArray.size none):=by
  unfold yK;rw[yX,A5 (by omega),A5 (by omega),h];rfl
 refine⟨_,_,_,e,λj a b=>?_⟩
 grind [yX,Kx,oV,Hv,qU]
theorem PC(h:oJ w):∀ [fC],mU (yK w):=by
 intro _;obtain⟨t,h⟩:=h.b;have i:=(G3.1 h).1;have e:(yK w).c 1=some (.aa (Bw (λj=>((xR rT).toArray[j]?).bind (qU w.heap.size)) (xR rT).toArray.size) (xR rT).toArray.size none):=by
  unfold yK;rw[yX,A5 (by omega),A5 (by omega),h];rfl
 refine⟨_,_,_,e,λj a c=>?_⟩;rw[yX,D8];have g:j<Ca.length:=by
  grind
 rw[F7]at c;have f:Ca=rT.map λb=>b.map UInt8.toNat:=rfl;rw[f]at c g;rw[F7]at c
 cases d:rT[j]? with
 | none=>simp_all
 | some b=>
  rw[d]at c;obtain rfl:=D6 c;rw[A5 (by grind [xR])];simp only[xR,List.getElem?_toArray,F7,d,Option.map_some,Z3,qU];rfl
theorem PD(h:oJ w):∀ [fC],Y1 (yK w):=by
 intro _;obtain⟨t,h⟩:=h.a;have i:=(G3.1 h).1;have e:(yK w).c 0=some (.aa (Bw (λj=>((xR jT).toArray[j]?).bind (qU w.heap.size)) (xR jT).toArray.size) (xR jT).toArray.size none):=by
  unfold yK;rw[yX,A5 (by omega),A5 (by omega),h];rfl
 refine⟨_,_,_,e,λj a c=>?_⟩;rw[yX,D8];have g:j<zu.length:=by
  grind
 rw[F7]at c;have f:zu=jT.map λb=>b.map UInt8.toNat:=rfl;rw[f]at c g;rw[F7]at c
 cases d:jT[j]? with
 | none=>simp_all
 | some b=>
  rw[d]at c;obtain rfl:=D6 c;rw[A5 (by grind [xR])];simp only[xR,List.getElem?_toArray,F7,d,Option.map_some,Z3,qU];rfl
def zhx(h:oJ w):∀ [fC],bK (yK w):=by
 intro _;have a:=PD h;have b:=PC h;have c:=zhw h;unfold Y1 at a;unfold mU at b;unfold vN at c;exact⟨a,b,c⟩
theorem zvb{cs:List Value}(h:Q5 w.heap.size cs):jB (Q4 w) (cs.map (av w.heap.size)) cs:=by
 induction cs with
 | nil=>exact .p
 | cons v l b=>exact .e (TT (h v (by simp))) (b λu a=>h u (C7 _ a))
theorem zlz{cs:Array Value}(h:Q5 w.heap.size cs.toList):rA (Q4 w) (.i (cs.toList.map (av w.heap.size))) (.agg cs):=by
 grind [rA,zvb]
end
end Go.Am
namespace Go.Am
open Go Go.RowKit Go.ChangeShapes Go.WideShapes Go.ChangeAt
variable {f:FuncId}{s:ChangeSpec}{fn:Func}
section
variable {H:Type}{enc:TypeId × Value->H}{P:Program}
def HU(j:laidOutB P=true){W g:World}(i:Below W.heap.size W g):∀ {a:List TypeId} {l:List Value} {ds:List (DataW H)} {ps:List MemPlace},(∀t∈a,P.readableRec t=true/\t<P.types.size) →
  DataW.TrodAll enc P W 0 (λ_=>true) true a l ds ps->(∀x∈ps,x.block<W.heap.size)->DataW.TrodAll enc P g 0 (λb=>decide (b<W.heap.size)) true a l ds ps
 | [],[],[],_,_,h,_=>h
 | t::a,_::_,_::_,_,c,⟨p,q,m,n,e⟩,k=>by
  subst e;exact⟨p,q,Below.trod j (c t (by simp)).1 (c t (by simp)).2 m i λx f=>k x (L2 _ f),
   HU j i (λt d=>c t (C7 _ d)) n λx f=>k x (D9 _ f),rfl⟩
 | [],_::_,_,_,_,h,_=>by simp[DataW.TrodAll]at h
 | [],[],_::_,_,_,h,_=>by simp[DataW.TrodAll]at h
 | _::_,[],_,_,_,h,_=>by simp[DataW.TrodAll]at h
 | _::_,_::_,[],_,_,h,_=>by simp[DataW.TrodAll]at h
theorem O7(r:laidOutB P=true){f:Func} {tb:TypeId}(v:∀t∈f.params.toList,P.readableRec t=true/\t<P.types.size)(l:s.vars=[])(d:f.resultTypes = #[tb])(e:P.underlying tb=some .bool)
  {W g:World} {args:Array Value} {ds m:List (DataW H)} {a:List MemPlace} (b:s.fn H ds={ results:=[.lit (.bool true)],args:=ds })
  (j:DataW.Whole enc P f.params.toList s.vars false W args.toList ds m a) (k:Below W.heap.size W g) :
  s.post enc P f false true false false W args (.bool true) g:=by
 have c:=j;obtain⟨p,q,n,i,rfl,o,u⟩:=j;rw[l]at i;obtain⟨rfl,rfl⟩:=trodVars_none i;refine⟨ds,[],p++[],[],p,[],c,?_,?_,?_,k.frame _,λh=>by cases h⟩
 .rw[C8,b,d];exact trodAll_mk1 (shut_bool e _)
 .rw[C8,b];exact HU r k v n λx w=>c.lt x (by simp_all)
 .rw[C8,b,l];exact rfl
theorem zaa{a:Assume}{C:Checked}{os:Os}   {l:List PathCond}{b m g k:Bool}{X:World->Array Value->Prop}
  (J:∀(w w':World) (args:Array Value),w.heap=w'.heap->X w args->X w' args)
  (E:ownKnob C.prog.godebug=none) (n:os.Started) (p:C.prog.inits.idxOf? f=none) (z:C.prog.funcs[f]?=some fn)
  (o:∃(w:World) (c:Tape) (i:Input),w.os=os/\(w.forCall c i).Shaped C.prog/\i.vars=[]/\Input.okWide C.prog (w.forCall c i) .any w.heap.size f i ∧
   ((s.pre enc C.prog fn l b (w.forCall c i).memory i.args/\X (w.forCall c i).memory i.args)/\sizedMet enc C.prog fn (OpenSpec.ofChange s) b (w.forCall c i).memory i.args)/\a.holds C.prog (lone (Frame.enter C.prog f i.args .normal) [] (w.forCall c i)))
  (h:∀(W:World) (base:Nat) (args:Array Value) (ds x:List (DataW H)) (d:List MemPlace),
   (∀(j:Nat) t v,fn.params[j]?=some t->args[j]?=some v->Value.okWide C.prog W .any base t v) →
   DataW.Whole enc C.prog fn.params.toList s.vars b W args.toList ds x d →
   (DataW.weightsEach C.prog (fn.params.toList++s.plain.varTypes C.prog) (ds++x)).all (· <= reachBytes)=true->X W args->W.ShapedOpen C.prog →
   Calls C.prog f args W λe F=>∃v,e=.returned v/\s.post enc C.prog fn b m g k W args v F) :
  ReturnsInHanded a C os f .any (λw args=>(s.pre enc C.prog fn l b w args/\X w args)/\sizedMet enc C.prog fn (OpenSpec.ofChange s) b w args) (s.post enc C.prog fn b m g k):=by
 refine returnsInHanded_of_calls E n p o ?_;intro w c i _ B _ A r _;obtain⟨_,_,_,y,q,_,_,_,_,u⟩:=A;have e:y=fn:=D6 (q.symm.trans z);subst e;obtain⟨⟨⟨ds,x,d,I,M⟩,K⟩,L⟩:=r;have D:=DataW.Whole.of_heap (w':=w.forCall c i) (by rfl) I;refine(h (w.forCall c i) w.heap.size i.args ds x d u D (L.weights I) (J _ _ _ (by rfl) K) B).mono λe F ⟨v,N,P⟩=>?_
 grind [ChangeSpec.post_blind]
variable {w:World}{base:Nat}{d:Nat->Bool}{f:Bool}{fuel:Nat}{t e:TypeId}{cs:List Value}{ps:List MemPlace}
theorem Zv{j:Type}{g:j->DataW H}{u:j->Value}{l:List j}{n:Nat}(B:P.underlying t=some (.array n e))(q:P.cellsOf e=1)(A:P.cellsOf t=n)
  (F:∀(m:Nat) (c:List Value) (x:DataW H × List MemPlace) (a:j),DataW.trod enc P w base d f m e c=some x->x.1=g a->c=[u a])
  (h:DataW.trod enc P w base d f fuel t cs=some (.agg (l.map g),ps)):cs=l.map u:=by
 obtain⟨E,m,_,p,b,D,o⟩:=DataW.trod_array B h;simp only[Prod.mk.injEq,DataW.agg.injEq]at p;have y:l.length=n:=by have:=congrArg List.length p.1;grind
 rw[A]at b;refine List.ext_getElem (by rw[b,C4,y]) λi s v=>?_;have r:i<n:=by omega
 have:=o i r;rw[q]at this;have k:((cs.drop (i*1)).take 1)=[cs[i]]:=by
  grind [List.drop_eq_getElem_cons]
 rw[k,C6 (by omega)]at this;have C:E[i].1=g (l[i]'(by omega)):=by
  have:=congrArg (λz=>z[i]?) p.1
  grind
 grind
def IP(g:P.underlying e=some .string)(m:Nat)(c:List Value)(x:DataW H × List MemPlace)(b:List UInt8)(h:DataW.trod enc P w base d f m e c=some x)(a:x.1=.lit (.string b)):c=[.string ⟨b.toArray⟩]:=by
 obtain⟨s,rfl,rfl,_⟩:=DataW.trod_string g h;simp at a;rw[<- a]
def zm9(b:P.underlying e=some (.int .i64))(m:Nat)(c:List Value)(x:DataW H × List MemPlace)(n:Int)(h:DataW.trod enc P w base d f m e c=some x)(a:x.1=.lit (.int .i64 n)):c=[.int .i64 n]:=by
 obtain⟨k,rfl,rfl,_⟩:=DataW.trod_int b h;simp at a;rw[a]
end
theorem K0{P:Program}   {c:OpenClaim}
  (A:(c.wf (OpenSpec.ofChange s)&&laidOutB P&&mapsRowed P&&fn.params.all (P.readableRec ·)&&namedTie P c.named s.vars&&(c.stops == [])&&(P.stops == [])&&(c.knobs == [])&&(P.stopKnobs == []))=true)
  (a:(c.inPlace == P.inPlace f)=true) (b:(c.unfollowed == P.unfollowed f)=true) (d:(c.recurses == P.recurses f)=true) (e:(c.named == P.varsNamed f)=true)
  (E:((c.maps == (fn.params.toList++s.plain.varTypes P).any (P.mapsRec ·))&&(c.ifaces == (fn.params.toList++s.plain.varTypes P).any (P.ifacesRec ·))&&(c.mapsOut == P.mapsAmong fn.resultTypes.toList) &&
   (c.loops == (fn.params.toList++s.plain.varTypes P).any (P.loopsFrom ·))&&(c.wideKeys == (fn.params.toList++s.plain.varTypes P++fn.resultTypes.toList).any (P.wideKeysFrom ·)) &&
   s.vars.all (P.varReadable ·)&&fn.resultTypes.all (λt=>P.readableRec t&&decide (t<P.types.size))&&(c.ifacesOut == fn.resultTypes.toList.any (P.ifacesRec ·))&&(c.loopsOut == fn.resultTypes.toList.any (P.loopsFrom ·))&&c.shortTexts.isNone)=true)
  (g:(c.plainKeys == P.plainKeys)=true) (h:P.stopsHeard=true) (i:P.mayEnter=true) (j:(c.lifted == P.liftsFinal)=true)
  (R:((P.make == some c.make)&&(c.kinds == (if c.domain.isEmpty then []else fn.params.toList.map λt=>match P.underlying t with | some (.int k)=>some k | _=>none))&&(c.pinned == c.pinnedBy) &&
   (c.veiled == (fn.params.toList++s.plain.varTypes P++fn.resultTypes.toList).any (P.veiledRec ·))&&c.veiledFits P fn.params.toList (fn.params.toList++s.plain.varTypes P++fn.resultTypes.toList))=true) :
  joinedFacts P f fn s c=true:=by
 unfold joinedFacts;simp only[B2]at A E R ⊢
 grind
end Go.Am
