/- format's writer comes to an end, with a text that is not empty and not much longer than a source. -/
import Derived.Carry
import Derived.ChangeArms
import Derived.HandedShaped
import Derived.JoinedOf
import Derived.LaidMore
import Derived.OpenShut
import Derived.ProofKit
import Derived.Stop.Joined
import Derived.Test.YtefajchlhjcgpaaGreatDoorRows
import GoSem.ClaimJoined
import Derived.Test.YtefajchlhjcgpaaGreatDoorP21
set_option linter.all false
noncomputable section
set_option maxRecDepth 100000
namespace Go.Proofs
open Go Go.Am
variable [fC]
variable {t tf:G uA}
def vT(t:G uA):Prop:=At t 1 0 (Cs.map O.h)
theorem vT.a{t':G uA}(h:vT t)(k:zB t t'):vT t':=At.f k h
def XU(b:vT t){n:Nat}(c:n<256):oB Y F 170 [.e .u8 (n:Int)] t=some (.h (kM n))/\(kM n).length<=10/\pB 256 (kM n):=by
 unfold kM;by_cases h:n<7
 .have a:(Cs.map O.h)[n]?=some (.h (Cs.getD n [])):=by
   have:n<Cs.length:=h
   simp_all
  rw[A5 h];refine⟨lC.2 (w170 (tA (by grind [A2,iK]) (vA (v:=.j 1 n) ?_ (iB (v:=.h (Cs.getD n [])) ?_ (gC ⟨rfl,rfl⟩))))),?_,?_⟩
  .unfold zC;rw[y9,lA];have e:(O.e .u8 (n:Int)).aj=some n:=rfl;rw[e,lA];grind [O.u,O.ah,lA,jE.g,iI,eC,xE]
  .have:=b.d iI rfl a
   grind
  .have:∀k,k<7->(Cs.getD k []).length<=10:=by decide
   grind
  .have:∀k,k<7->∀x∈Cs.getD k [],x<256:=by decide
   exact this n h
 .rw[A3 h];exact⟨lC.2 (w170 (wB (by grind [A2,dK]) ⟨rfl,rfl⟩)),by simp,λx a=>by cases a⟩
theorem DL{s:List Nat}(h:∀x∈s,48<=x/\x<58):pB 256 s:=λx a=>by grind
def kH{a b:List Nat}(c:pB 256 a)(d:pB 256 b):pB 256 (a++b):=λx e=>by
 rcases F7.1 e with h | h
 .exact c x h
 .exact d x h
theorem DJ{neg:Bool}{n:Nat}:pB 256 (dh neg n)/\dh neg n≠[]:=by
 have h:=Zb n;refine⟨kH ?_ (DL (Za n)),λe=>?_⟩
 .cases neg
  .intro x a;cases a
  .intro x a;simp_all
 grind [dh]
def Xk{f:qF}:pB 256 (pK f)/\pK f≠[]:=by
 unfold pK Gn;refine⟨kH DJ.1 ?_,λe=>DJ.2 (List.append_eq_nil_iff.1 e).1⟩;split
 .intro x a;cases a
 .intro x a;rcases C6.1 a with rfl | a
  .decide
  .exact DJ.1 x a
theorem Xj{n:Int}:pB 256 (wJ n)/\wJ n≠[]:=by
 by_cases h:n<0
 .obtain⟨u,rfl⟩:∃u:Nat,n = -(u:Int):=⟨n.natAbs,by omega⟩;rw[EC (by omega)];refine⟨λx a=>?_,by simp⟩;rcases C6.1 a with rfl | a
  .decide
  .exact DL (Za u) x a
 .obtain⟨u,rfl⟩:∃u:Nat,n=(u:Int):=⟨n.toNat,by omega⟩;rw[Xy];exact⟨DL (Za u),λe=>by grind [Zb]⟩
theorem Xi{s:List Nat}(h:pB 256 s)(b:s≠[]):pB 256 (gH s)/\gH s≠[]:=by
 unfold gH;split
 .exact⟨kH (by intro x a;grind) λx a=>h x (List.mem_of_mem_drop a),by simp⟩
 simp_all
def Bi(n:Nat):(rH n).length=10/\pB 256 (rH n):=⟨rfl,by unfold rH Gk d1;intro x a;simp only[C6,List.not_mem_nil,or_false]at a;omega⟩
def UW{v:gE}(m:v.b)(p:zM v=true):Gs v≠[]/\(Gs v).length<=20100/\pB 256 (Gs v):=by
 obtain⟨_,i,c,d⟩:=m;have j:=Xx c d;have l:=Ri (wJ v.i);have a:=Xi (Xj (n:=v.i)).1 Xj.2;have g:=Xi (Xk (f:=v.f)).1 Xk.2;have o:=Bi v.i.toNat;have h:∀k,(k=2\/k=3)->v.a=k->(gH (pK v.f)).length<=20010:=by
  grind [ET,Wt,Ri]
 unfold Gs Qm;split
 .split
  .exact⟨by simp,by simp,by intro x b;grind⟩
  .exact⟨by simp,by simp,by intro x b;grind⟩
 .split
  .grind
  .split
   .rename_i e;have:=h 3 (.inr rfl) e;exact⟨by simp,by grind,kH (by intro x b;grind) g.1⟩
   .split
    .grind
    .split
     .exact⟨by simp,by grind,kH a.1 (by intro x b;grind)⟩
     .split
      .exact⟨by simp,by simp;omega,kH a.1 (by intro x b;grind)⟩
      grind [zM]
theorem QC{op:Nat}(h:op<27):(yB op).c.length<=10/\∀x∈(yB op).c,x<256:=by
 have:∀k,k<27->(yB k).c.length<=10/\∀x∈(yB k).c,x<256:=by decide +kernel
 grind
theorem QD{op:Nat}(h:op<27):((yB op).b=1->op=1)/\((yB op).b=2->(yB op).c≠[])/\((yB op).b=3->1<=(yB op).d)/\((yB op).b=4->2<=(yB op).d)/\((yB op).b=5->1<=(yB op).d/\(yB op).c≠[])/\(yB op).b<=6/\(yB op).g<=3/\(op=1->(yB op).b=1):=by
 have:∀k,k<27->((yB k).b=1->k=1)/\((yB k).b=2->(yB k).c≠[])/\((yB k).b=3->1<=(yB k).d)/\((yB k).b=4->2<=(yB k).d)/\((yB k).b=5->1<=(yB k).d/\(yB k).c≠[])/\(yB k).b<=6/\(yB k).g<=3/\(k=1->(yB k).b=1):=by decide +kernel
 grind
theorem Aj{s:List Nat}(h:fG s=true):s.length<=24:=by
 unfold fG at h;grind
def uN (h:Nat):Nat:=86000+200*h
def na (bf:Nat)(x:pA):Prop:=∀(d:Nat) (c:List O) (tf t:G uA) (b:Nat) (s:List Nat) (Q:mB),x.b->qJ x d=true->xC tf bf none cS->cM tf->vT tf->RD tf x.d c->BX 134 [.j bf 0] tf t b s->s.length<=95000 →
 (∀e a,BX 134 [.j bf 0] tf e b a->a≠[]->a.length<=max s.length (uN (25-d))->Wr s (oQ x) a->Q (.p []) e)->Wc Y F 62 [.j b 0,.i c] t Q
def kU{b:Nat}:jB Y 134 0 (.j b 0)=some (.j b 0):=by kernel_rfl
def zi6{b:Nat}:jB Y 134 1 (.j b 0)=some (.j b 2):=by kernel_rfl
def BX.l{bf a:Nat}{s:List Nat}(h:BX 134 [.j bf 0] tf t a s):oA Y 69 ⟨0,t⟩ (.j a 2)=some (.j bf 0):=by
 obtain⟨_,_,_,_,_,p,c,_,b,_,_⟩:=h;exact b.f (j:=2) ty69 rfl rfl
section
variable {bf f:Nat}{s:List Nat}{Q:mB}
def BX.w{T:Nat}{b:List O}(h:BX T b tf t f s):oB Y F 43 [.j f 0] t=some (.e .i64 (s.length:Int)):=by
 obtain⟨e,g,i,m,l,p,o,n,c,d,k⟩:=h;refine lC.2 (w43 ?_);unfold t43 uI rC V;have a:=d.q;rw[qH]at a;exact vA yI (vA fu (iB (c.f (j:=1) sY rfl rfl) (vA a (tB ⟨rfl,rfl⟩))))
theorem ZO{y:pA}{d:Nat}{cs:List O}{lev:Nat}(B:na bf y)(e:y.b)(h:qJ y d=true)(o:xC tf bf none cS)(u:cM tf)(z:vT tf)(p:RD tf y.d cs)(j:BX 134 [.j bf 0] tf t f s)(P:s.length<=94000)(I:1<=d)
  (w:∀t' g,BX 134 [.j bf 0] tf t' f g->g≠[]->g.length<=max s.length (uN (25-d))+2->Wr s (G8 lev ((yB y.e).a,oQ y)) g->Q (.p []) t'):Wc Y F 123 [.j f 0,.i cs,.e .i64 (lev:Int)] t Q:=by
 obtain⟨a,b,c,rfl,L,M,N⟩:=bI p;have i:y.e<27:=by
  obtain⟨R,C,v,q⟩:=y;unfold qJ aP at h;simp only[B3,decide_eq_true_eq]at h;exact h.1.2.1.1.1.1
 have H:uN (25-d)<=91000:=by grind [uN]
 refine w123 ?_;unfold t123 uI rC V uY;refine vA yI (vA zi6 (iB j.l (vA yI (vA (zg i) (vA (jU (by decide)) (iB (znu (o.l j.g) i) (tB ?_)))))));by_cases A:lev<=(yB y.e).a
 .refine tA (V1 (by omega)) (aA ?_);rw[q62];exact B d _ tf t f s _ e h o u z p j (by omega) λt' g k l r E=>w t' g k l (by omega) (E.c (by unfold G8;rw[A5 A]))
 .refine wB (V0 (by omega)) (vA yI (vA kU (aA ?_)));rw[q42];refine j.f (by simp) (by intro x J;simp_all) (by grind) λ_ K k=>aA ?_;rw[q62];refine B d _ tf K f _ _ e h o u z p k (by grind) λT S l D m n=>vA yI (vA kU (aA ?_));rw[q42];simp only[E1,List.length_singleton]at m;refine l.f (by simp) (by intro x J;simp_all) (by grind) λ_ U r=>?_;exact w _ _ r (by simp) (by grind) ((((Wr.b _ _).a n).a (Wr.b _ _)).c (by unfold G8;rw[A3 A]))
def zkj{args:List pA}{d:Nat}{c:O}(j:∀y∈args,na bf y)(b:∀y∈args,y.b)(hP:∀y∈args,qJ y (d+1)=true)(X:xC tf bf none cS)(Z:cM tf)(E:vT tf)(hc:bA tf 9 (args.map pA.d) c)(a1:args.length<=3)(hd:d<=24)
  {c0 c2 c7:Int} {c1:List Nat} {c3 c5:Bool} {c4 c6 c8:O} {op:Nat} (a8:c0=(op:Int)) (W:op=19->0<=c7/\c7<256):∀(k i:Nat) (t:G uA) (s:List Nat),i+k=args.length->BX 134 [.j bf 0] tf t f s->s≠[]->s.length<=uN (24-d)+100+2*i →
  (∀t' e,BX 134 [.j bf 0] tf t' f e->e≠[]->e.length<=uN (24-d)+130->Wr s (wW (decide (i=0)) ((lJ args).drop i)++Dx op c7) e->Q (.p []) t') →
  jp 124 2 [.j f 0,c,.e .i64 (args.length:Int),.e .i64 (i:Int),.e .u8 c0,.h c1,.e .u8 c2,.d c3,c4,.d c5,c6,.e .i64 c7,c8] t Q:=by
 have a7:uN (24-d)<=91000:=by grind [uN]
 intro k;induction k with
 | zero=>
  intro i t s hi l hn hs g;refine zsk ?_;unfold xp uS uG aB uC rC V uY iH nF;refine wB (dK (by omega)) ?_;have m:(lJ args).drop i=[]:=F1 (by grind [Mw]);rw[m,wW,F3]at g;unfold Dx at g;by_cases r:op=19
  .rw[A5 r]at g;refine tA (wS (by omega)) (vA yI (vA kU (aA ?_)));obtain⟨n,M,N,P⟩:∃n:Nat,cA .u8 c7=(n:Int)/\n<256/\c7.toNat=n:=⟨c7.toNat,by grind [Mi],by omega,rfl⟩;obtain⟨R,aa,S⟩:=XU (E.a l.g) N;rw[P]at g;rw[M,q170,R,xA];refine gC (vA (pH (by grind)) (gC (aA ?_)));rw[q42];refine l.f (by simp) (kH (by intro x T;grind) S) (by grind) λ_ t1 q=>vA yI (vA kU (aA ?_));rw[q42];refine q.f (by simp) (by intro x T;simp_all) (by grind) λ_ A h=>?_
   exact g _ _ h (by simp) (by grind) ((Wr.b _ _).a (Wr.b _ _))
  .rw[A3 r,F3]at g;refine wB (lM (by omega)) (vA yI (vA kU (aA ?_)));rw[q42];refine l.f (by simp) (by intro x T;simp_all) (by grind) λ_ A h=>?_;exact g _ _ h (by simp) (by grind) (Wr.b _ _)
 | succ k ih=>
  intro i t s hi l hn hs g;have w:i<args.length:=by omega
  have o:args[i]∈args:=F2 w;refine zsk ?_;unfold xp uS uG aB uC rC V uY iH nF;obtain⟨b0,z,a,B,C,_,_,p⟩:=mG.at J9 (by simp) hc (i:=i) (d:=args[i].d) (by simp[w]);have ld:oA Y 31 ⟨0,t⟩ (.j b0 z)=some (Qp true a):=Qq (H:=⟨0,tf⟩) (HA:=⟨0,t⟩) l.g C;refine tA (iK (by omega)) (vA B (iB ld ?_));rw[Cf];refine aC (vO p (pA.s _)) ?_;have K:=p.mk (pA.s args[i]);have F:[O.e .u8 ((AN a).i 0),.h ((AN a).s 1),.e .u8 ((AN a).i 2),.d ((AN a).b 3),(AN a).v 4,.d ((AN a).b 5),(AN a).v 6,.e .i64 ((AN a).i 7),(AN a).v 8]=a:=K
  rw[F];refine tA p.e ?_;have J:i<(lJ args).length:=by grind [Mw]
  have I:(lJ args)[i]=((yB args[i].e).a,oQ args[i]):=by simp[Mw]
  have hj:=zn2 J;rw[I]at hj;have next:∀t' e,BX 134 [.j bf 0] tf t' f e->e≠[]->e.length<=uN (24-d)+100+2*(i+1)->Wr s ((if i=0 then []else [44,32])++oQ args[i]) e->jp 124 2 [.j f 0,c,.e .i64 (args.length:Int),.e .i64 (cA .i64 ((i:Int)+1)),.e .u8 c0,.h c1,.e .u8 c2,.d c3,c4,.d c5,c6,.e .i64 c7,c8] t' Q:=by
   intro t' e q h h3 h4;rw[A2 (by omega) (by omega),show(i:Int)+1=((i+1:Nat):Int) by omega];exact ih (i+1) t' e (by omega) q h h3 λA U B C g3 g4=>g A U B C g3 ((h4.a g4).c (by simp_all))
  have a6:25-(d+1)=24-d:=by omega
  by_cases h0:0<i
  .refine tA (iK (by omega)) (vA yI (vA kU (aA ?_)));rw[q42];refine l.f (by simp) (by intro x T;grind) (by grind) λ_ t1 q=>aA ?_;rw[q62];refine j _ o (d+1) _ tf t1 f _ _ (b _ o) (hP _ o) X Z E p q (by grind) λA U h u D v=>sC ?_;have L:i≠0:=by omega
   exact next _ _ h u (by grind) (((Wr.b _ _).a v).c (by rw[A3 L]))
  .refine wB (dK (by omega)) (aA ?_);rw[q62];refine j _ o (d+1) _ tf t f _ _ (b _ o) (hP _ o) X Z E p l (by omega) λA U h u D v=>sC ?_
   grind
theorem zk9{op:Nat}{name:List Nat}{v:gE}{args:List pA}{d:Nat}{a b c:O}(p:∀y∈args,na bf y)(g:pA.b (.mk op name v args))(w:qJ (.mk op name v args) d=true)(A:(yB op).b=6)(u:xC tf bf none cS)(M:cM tf)(N:vT tf)
  (C:bA tf 9 (args.map pA.d) c) (B:BX 134 [.j bf 0] tf t f s) (hs:s.length<=65536)
  (r:∀t' i,BX 134 [.j bf 0] tf t' f i->i≠[]->i.length<=uN (25-d)->Wr s (dS op name v (lJ args)) i->Q (.p []) t') :
  Wc Y F 124 [.j f 0,.i [.e .u8 op,.h name,.e .u8 v.a,.d v.f.n.b,a,.d v.f.d.b,b,.e .i64 v.i,c],.j bf (op*8)] t Q:=by
 unfold qJ aP at w;simp only[B3,decide_eq_true_eq]at w;obtain⟨⟨P,⟨⟨⟨j,_⟩,hl⟩,hm⟩,q⟩,h⟩:=w;obtain⟨f1,f2,f3,f4,f5,f6,f7,f8⟩:=QD j;have S:=QC j;have n:op≠1:=λe=>by omega
 rw[A3 n,B3,AD,C8]at h;unfold pA.b at g;have l:=pA.m g.2.2.2.2.2;have D:uN (25-d)=uN (24-d)+200:=by grind [uN]
 have o:op=19->0<=v.i/\v.i<256:=by
  grind [cO]
 unfold dS at r;rw[A]at r;simp only[Nat.reduceEqDiff,if_false]at r;have m:∀t' i,BX 134 [.j bf 0] tf t' f i->i≠[]->i.length<=65536+100->Wr s ((yB op).c++[40]++(if (yB op).e then name++[44,32]else [])) i->jp 124 9 [.j f 0,.e .u8 op,.h name,.e .u8 v.a,.d v.f.n.b,a,.d v.f.d.b,b,.e .i64 v.i,c] t' Q:=by
  intro t' i W X k3 Z;refine j124_9 ?_;unfold zqv uI V uY;have k:=C.c;rw[C5]at k;refine vA k (tB (sC ?_));refine zkj (d:=d) p l (λy U=>h.2 y U) u M N C (by omega) P rfl o args.length 0 t' i (by omega) W X (by grind [uN]) λH s2 I J g3 K=>r H s2 I J (by omega) ((Z.a K).c (by simp_all))
 refine w124 ?_;unfold t124 uB uS rC V uY;have z:=zhq (u.l B.g) j;refine vA yI (vA kU (vA yI (vA (jU (by decide)) (iB z (gC (vA (pH (by grind)) (gC (aA ?_))))))));rw[q42];refine B.f (by simp) (kH S.2 (by intro x T;simp_all)) (by grind) λ_ t1 n=>?_;refine vA yI (vA (jU (by decide)) (iB (NM (u.l n.g) j) (cC ?_)))
 cases E:(yB op).e with
 | true=>
  rw[E,A5 rfl]at q;have R:=Aj q;refine tA rfl (vA yI (vA kU (vA (pH (by grind)) (gC (aA ?_)))));rw[q42];refine n.f (by simp) (kH g.2.2.1 (by intro x T;grind)) (by grind) λ_ H L=>sC ?_;exact m _ _ L (by simp) (by grind) (((Wr.b _ _).a (Wr.b _ _)).c (by rw[E,A5 rfl]))
 | false=>exact wB (by simp) (sC (m _ _ n (by simp) (by grind) ((Wr.b _ _).c (by grind))))
set_option maxHeartbeats 2000000 in
mutual
/-- THE WRITER COMES TO AN END -/
def HN:∀(x:pA),na bf x
 | .mk j l v g=>by
  have ao:=HL g;intro d y tf t f s Q n Z N hM hW hr r hs hQ;have au:=Z;have ai:=n;obtain⟨a,b,c,rfl,ha,hb,hc⟩:=bI hr;simp only[pA.e,pA.i,pA.v,pA.j]at ha hb hc ⊢;unfold qJ aP at Z;simp only[B3,decide_eq_true_eq]at Z;obtain⟨⟨hd,⟨⟨⟨p,al⟩,hl⟩,hm⟩,b1⟩,q⟩:=Z;simp only[E7,decide_eq_false_iff_not]at al;obtain⟨f1,f2,f3,f4,f5,f6,f7,f8⟩:=QD p;have hw:=QC p;unfold pA.b at n;have aj:=pA.m n.2.2.2.2.2;have ap:uN (25-d)=uN (24-d)+200:=by grind [uN]
  have ar:25-(d+1)=24-d:=by omega
  have ax:uN (24-d)<=91000/\86000<=uN (24-d):=by grind [uN]
  refine w62 ?_;unfold t62 uI uU uS uG rC V uY nF;refine vA yI (vA kU (aA ?_));rw[q43,r.w,xA];refine tB ?_;by_cases R:65536<s.length
  .refine tA (iK (by omega)) ?_;exact hQ t s r (λe=>by simp_all) (by omega) (Wr.d _ R)
  rw[oQ]at hQ;refine wB (dK (by omega)) ?_;have P:=N.l r.g;refine vA yI (vA zi6 (iB r.l (vA yI (vA (zg p) (vA yI (vA (jU (by decide)) (iB (NL P p) (tB ?_))))))));have C:∀ {B},zB tf B->oA Y 9 ⟨0,B⟩ (.j bf (j*8+1))=some (.h (yB j).c):=λh=>zhq (N.l h) p;have aq:(yB j).b≠1->jZ g (d+1)=true:=by
   grind
  have arg:∀(i:Nat) (I:Nat) (w:G uA) (M:List Nat) (K:O->T) (Q:mB) (k:Nat),(yB j).b≠1->i<g.length->k<8->BX 134 [.j bf 0] tf w f M->M.length<=94000->oA Y 3 ⟨0,w⟩ (.j bf (j*8+k))=some (.e .i64 (I:Int)) →
    (∀B A,BX 134 [.j bf 0] tf B f A->A≠[]->A.length<=max M.length (uN (24-d))+2->Wr M (G8 I ((lJ g).getD i (0,[]))) A->wp 62 (K (.p [])) B Q) →
    wp 62 (.d (zC Y 29 c (.e .i64 (i:Int))) λa1=>.e (λm=>oA Y 31 ⟨0,m⟩ a1) λa6=>.o [(.e .u8 0),(.h []),(.e .u8 0),(.d false),.g,(.d false),.g,(.e .i64 0),.g] a6 λo=>
     .d (nR (.j bf (j*8))) λa7=>.d (jB Y 131 k a7) λa8=>.e (λm=>oA Y 3 ⟨0,m⟩ a8) λaa=>.r .i64 aa λam=>.c 123 [.j f 0,(.i [(.e .u8 (o.i 0)),(.h (o.s 1)),(.e .u8 (o.i 2)),(.d (o.b 3)),(o.v 4),(.d (o.b 5)),(o.v 6),(.e .i64 (o.i 7)),(o.v 8)]),(.e .i64 am)] K) w Q:=by
   intro i I w M K Q k ay hi hk z b2 S aw;have hm:g[i]∈g:=F2 hi;obtain⟨b0,X,y,g1,g2,_,_,g5⟩:=mG.at J9 (by simp) hc (i:=i) (d:=g[i].d) (by simp[hi]);have ld:oA Y 31 ⟨0,w⟩ (.j b0 X)=some (Qp true y):=Qq (H:=⟨0,tf⟩) (HA:=⟨0,w⟩) z.g g2;refine vA g1 (iB ld ?_);rw[Cf];refine aC (vO g5 (pA.s _)) ?_;have ak:=g5.mk (pA.s g[i]);have ac:[O.e .u8 ((AN y).i 0),.h ((AN y).s 1),.e .u8 ((AN y).i 2),.d ((AN y).b 3),(AN y).v 4,.d ((AN y).b 5),(AN y).v 6,.e .i64 ((AN y).i 7),(AN y).v 8]=y:=ak
   rw[ac];refine vA yI (vA (jU hk) (iB S (tB (aA ?_))));rw[q123];have av:qJ g[i] (d+1)=true:=by
    grind [AD]
   grind [Mw,ZO]
  have ab:=hQ;have ad:(yB j).b=1->dS j l v (lJ g)=Gs v:=λe=>by unfold dS;rw[A5 e]
  have ae:(yB j).b=2->dS j l v (lJ g)=(yB j).c:=λe=>by unfold dS;rw[A3 (by omega),A5 e]
  have af:(yB j).b=3->dS j l v (lJ g)=(yB j).c++l++[32,97,116,32]++G8 (yB j).h ((lJ g).getD 0 (0,[])):=λe=>by unfold dS;rw[A3 (by omega),A3 (by omega),A5 e]
  have ag:(yB j).b=4->dS j l v (lJ g)=G8 (yB j).h ((lJ g).getD 0 (0,[]))++([32]++(yB j).c++[32]++G8 (yB j).i ((lJ g).getD 1 (0,[]))):=λe=>by unfold dS;rw[A3 (by omega),A3 (by omega),A3 (by omega),A5 e]
  have ah:(yB j).b=5->dS j l v (lJ g)=(yB j).c++G8 (yB j).h ((lJ g).getD 0 (0,[])):=λe=>by unfold dS;rw[A3 (by omega),A3 (by omega),A3 (by omega),A3 (by omega),A5 e]
  have done:∀B A,BX 134 [.j bf 0] tf B f A->A≠[]->A.length<=uN (25-d)->Wr s (dS j l v (lJ g)) A->wp 62 (.l (.p [])) B Q:=λB A E L k3 F=>ab B A E L (by omega) F;have i0:((0:Nat):Int)=0:=rfl;have i1:((1:Nat):Int)=1:=rfl;have u:=arg 0;have D:=arg 1;rw[i0]at u;rw[i1]at D;have J:(yB j).b=1\/(yB j).b=2\/(yB j).b=3\/(yB j).b=4\/(yB j).b=5\/(yB j).b=6:=by omega
  rcases J with e | e | e | e | e | e
  .-- a constant
   refine tA (wS (by omega)) (vA yI (vA kU (aA ?_)));have U:=f1 e;rw[A5 U]at q;obtain⟨v1,v2,v3⟩:=UW n.2.2.2.1 q;have hv:=UX (date:=rH v.i.toNat) (ha.a r.g) (hb.a r.g) n.2.2.2.1 q (λhk=>by
    have W:=q;unfold zM at W;rw[A3 (by omega),A3 (by omega),A5 hk]at W;simp only[B3,decide_eq_true_eq]at W;have hn:v.i.toNat<65536:=by omega
    rw[<- TF hn,show((v.i.toNat:Nat):Int)=v.i by omega];exact zs8 (hM.a r.g) W.2.1 W.2.2)
   rw[show Qm (rH v.i.toNat) v=Gs v from rfl]at hv;rw[q35,hv,xA];refine gC (aA ?_);rw[q42];refine r.f v1 v3 (by omega) λ_ w z=>done _ _ z (by simp[v1]) (by grind) ((Wr.b _ _).c (ad e).symm)
  .-- a word
   refine wB (lM (by omega)) (tA (wS (by omega)) (vA yI (vA kU (vA yI (vA (jU (by decide)) (iB (C r.g) (gC (aA ?_))))))));rw[q42];refine r.f (f2 e) hw.2 (by omega) λ_ w z=>done _ _ z (by simp[f2 e]) (by grind) ((Wr.b _ _).c (ae e).symm)
  .-- word,name,at
   have az:l.length<=24:=by
    grind [Aj,eJ]
   have h3:=f3 e;refine wB (lM (by omega)) (wB (lM (by omega)) (tA (wS (by omega)) (vA yI (vA kU (vA yI (vA (jU (by decide)) (iB (C r.g) (gC (vA (pH (by omega)) (gC (vA (pH (by grind)) (gC (aA ?_)))))))))))));rw[q42];refine r.f (by simp) (kH (kH hw.2 n.2.2.1) (by intro x hx;grind)) (by grind) λ_ w z=>?_;refine u _ w _ _ _ 6 (by omega) (by omega) (by decide) z (by grind) (DV (N.l z.g) p) λt2 s2 E L k3 F=>done _ _ E L (by grind) (((Wr.b _ _).a F).c (af e).symm)
  .-- an operator
   have h4:=f4 e;refine wB (lM (by omega)) (wB (lM (by omega)) (wB (lM (by omega)) (tA (wS (by omega)) ?_)));refine u _ t _ _ _ 6 (by omega) (by omega) (by decide) r (by omega) (DV P p) λw M E L k3 F=>?_;refine vA yI (vA kU (vA yI (vA (jU (by decide)) (iB (C E.g) (gC (vA (pH (by grind)) (gC (vA (pH (by grind)) (gC (aA ?_))))))))));rw[q42];refine E.f (by simp) (kH (kH (by intro x hx;simp_all) hw.2) (by intro x hx;simp_all)) (by grind) λ_ t2 h2=>?_
   refine D _ t2 _ _ _ 7 (by omega) (by omega) (by decide) h2 (by grind) (znt (N.l h2.g) p) λt3 s3 m1 m2 m3 m4=>done _ _ m1 m2 (by grind) ((F.a ((Wr.b _ _).a m4)).c (ag e).symm)
  .-- not
   have h5:=f5 e;refine wB (lM (by omega)) (wB (lM (by omega)) (wB (lM (by omega)) (wB (lM (by omega)) (tA (wS (by omega)) (vA yI (vA kU (vA yI (vA (jU (by decide)) (iB (C r.g) (gC (aA ?_)))))))))));rw[q42];refine r.f h5.2 hw.2 (by omega) λ_ w z=>?_;refine u _ w _ _ _ 6 (by omega) (by omega) (by decide) z (by grind) (DV (N.l z.g) p) λt2 s2 E L k3 F=>done _ _ E L (by grind) (((Wr.b _ _).a F).c (ah e).symm)
  .-- a call
   refine wB (lM (by omega)) (wB (lM (by omega)) (wB (lM (by omega)) (wB (lM (by omega)) (wB (lM (by omega)) (tA (wS (by omega)) (aA ?_))))));rw[q124];grind [zk9]
def HL:∀(l:List pA),∀y∈l,na bf y
 | [],_,h=>by cases h
 | x::l,y,h=>by
  rcases C6.1 h with e | h
  .rw[e];exact HN x
  .exact HL l y h
end
end
end Go.Proofs
namespace Go.Proofs
open Go Go.Am
section
variable [fC]
variable {t tf:G uA}
def RB{x:pA}{cs:List O}{Q:mB}(g:x.b)(z:qJ x 1=true)(y:cM t)(B:vT t)(n:RD t x.d cs)(A:∀t' s,zB t t'->s≠[]->Wr [] (oQ x) s->s.length<=91000->pB 256 s->Q (.h s) t'):Wc Y F 28 [.i cs] t Q:=by
 obtain⟨a,b,c,rfl,M,N,P⟩:=bI n;refine w28 ?_;unfold t28 uS aB rC V uY;refine aA ?_;rw[q59];refine MN λi k I J r h K=>?_;refine tA rfl (jC λd f j=>?_);obtain⟨l,o,p,q,H⟩:=Ep f [.y,.g,.j i 0] (some (.a 134));have e:Mv Y 134 (.i [.y,.g,.j i 0]) ⟨d,k⟩=some (.j d 0,⟨d+1,l⟩):=by
  unfold Mv;have:bL Y 134=some (.a 134):=by kernel_rfl
  rw[this,<- o];rfl
 refine⟨_,_,e,aA ?_⟩;have w:BX 134 [.j i 0] k l d []:=⟨j,f,q,(by intro x E;cases E),rfl,.y,.g,.inl rfl,p,.inl ⟨rfl,rfl⟩,Yb,λ_=>rfl⟩;rw[q62];refine HN x 1 _ k l d [] _ g z r (y.a h) (B.a h) (n.f h) w (by simp) λR s m u L D=>?_;refine vA yI (vA kU (aA ?_));rw[q44];have C:s.length<=91000:=by
  grind [uN]
 exact m.i (by omega) λS v=>gC (A _ _ (h.d v) u D C m.2.2.2.1)
end
section
variable {f kf:Nat}{fn:Func}{A:kE}{x:List O}{U:T}
variable [fC]
def zG (f:Nat):Bool:=yJ f [47,30,31,32,37,38,39,95,96,68,97,66,67,79,81,152,153,154,129,201,202,181,231,266,287,299,313,314,319]
abbrev wG(E:mB)(f:Nat)(T:T)(m:G uA)(Q:mB):Prop:=iA Y.a (lF Y F dC zG E) (M3 Y F E f) T m Q
abbrev xL(E:mB)(f:Nat)(a:List O)(m:G uA)(Q:mB):Prop:=vL Y F E f a m Q
abbrev sI(E:mB)(f i:Nat)(a:List O)(m:G uA)(Q:mB):Prop:=M3 Y F E f i a m Q
def pQ(f:Nat)(h:(dC f&&Nat.blt f yo)=true:=by kernel_rfl){E:mB}(a:List O)(m:G uA)(R:mB):lF Y F dC zG E f a m R=oD (oB Y F f a m) λv=>R v m:=A5 h
def pW(f:Nat)(h:(dC f&&Nat.blt f yo)=false:=by kernel_rfl)(b:Nat.beq f pn=false:=by kernel_rfl)(c:(zG f&&Nat.blt f pn)=false:=by kernel_rfl){E:mB}(a:List O)(m:G uA)(R:mB):lF Y F dC zG E f a m R=Wc Y F f a m R:=by unfold lF;rw[h,b,c];simp
def pE(f:Nat)(h:(dC f&&Nat.blt f yo)=false:=by kernel_rfl)(b:Nat.beq f pn=false:=by kernel_rfl)(c:(zG f&&Nat.blt f pn)=true:=by kernel_rfl){E:mB}(a:List O)(m:G uA)(R:mB):lF Y F dC zG E f a m R=vL Y F E f a m R:=by unfold lF;rw[h,b,c];simp
def pX{E:mB}(v:O)(m:G uA)(R:mB)(h:E v m):lF Y F dC zG E pn [v] m R:=by unfold lF;rw[show(dC pn&&Nat.blt pn yo)=false by kernel_rfl,show Nat.beq pn pn=true by kernel_rfl];simp[h]
variable {E:mB}{m:G uA}{Q:mB}
def gA     (h:aO Y F f fn kf A)(k:wG E f U m Q)(a:nM A.a=[]:=by kernel_rfl)(b:(Nat.ble (vB x) kf&&Nat.ble (vB x) fn.ntmps)=true:=by kernel_rfl)(c:J2 Y fn kf f A x=U:=by kernel_rfl):xL E f x m Q:=ztd (wm (by kernel_rfl)) HC h (.inr a) b (by rw[c];exact k)
def gJ{i:Nat}    (h:aO Y F f fn kf A)(k:wG E f U m Q)(a:nM A.a=[]:=by kernel_rfl)(b:Kk (N6 Y fn kf f A) i x=[U]:=by kernel_rfl):sI E f i x m Q:=zk5 (wm (by kernel_rfl)) HC h (.inr a) b k
def zl (a:Int)(n:Int):T :=.a true (.l (.i [(uY a),(.d false),.g,(.d false),.g,(V n)])) .g
def zm (b:O)(c:Bool)(X:yH):T :=.c 39 [b,(V 120)] λa=>.j 11 [b,(.d c),(uY (X.i 0)),(.h (X.s 1)),(V (X.i 2)),(V (X.i 3))]
def zn (b:O):T :=.c 39 [b,(V 120)] λa=>.l (.p [])
variable (e f p j l q z A D I J j1 U W Z j5 j6 j7:Int)(i x C l3 K L l6 l7:List Nat)(c d k t v y o F H x9 y0 y1 y2:O)(g r u w B M N P R S:Bool)
def t31:T:=.a true (.h (rD Y 201 1 [(0,(.i [(.h [111,114]),(uY 16)]))]) λa=>.c 66 [c,(.q (.aa 67) [c] []),a]<|uG [(uY 0),(.h []),(uY 0),(.d false),.g,(.d false),.g,(V 0),.g] λX=>.a (aB (iH X)) (.l (nF X)) .g) .g
def t38:T:=.c 77 [c]<|uG [(uY 0),(.h []),(V 0),(V 0)] λa=>.a true (.c 78 [c,(.h [116,114,117,101])]<|uB λb=>.a b (.a true (.a true (.l (.p [(.i [(uY 1),(.d false),.g,(.d false),.g,(V 1)]),(.d true)])) .g) .g) (.c 78 [c,(.h [102,97,108,115,101])]<|uB λb=>.a b (.a true (.a true (.l (.p [(.i [(uY 1),(.d false),.g,(.d false),.g,(V 0)]),(.d true)])) .g) .g) (.a (kB (a.i 0) 3) (.c 79 [c]<|uI λn=>.a true (.a true (.l (.p [(.i [(uY 4),(.d false),.g,(.d false),.g,(V n)]),(.d true)])) .g) .g) (.c 78 [c,(.h [109,111,110,101,121])]<|uB λb=>.a b (.c 78 [c,(.h [109,105,110,117,115])]<|uB λb=>.c 68 [c,(uY 2)]<|uG [(uY 0),(.h []),(V 0),(V 0)] λX=>.c 80 [(.h (X.s 1)),(.d b)]<|uG [(.d false),.g,(.d false),.g] λX=>.a true (.a (aB [(uY 3),(.d (X.b 0)),(X.v 1),(.d (X.b 2)),(X.v 3),(V 0)]) (.l (.p [(.i [(uY 3),(.d (X.b 0)),(X.v 1),(.d (X.b 2)),(X.v 3),(V 0)]),(.d true)])) .g) .g) (.c 78 [c,(.h [109,105,110,117,115])]<|uB λb=>.a b (.c 81 [c,(.d true)]<|uG [(uY 0),(.d false),.g,(.d false),.g,(V 0)] λX=>.a (aB (mw X)) (.l (.p [(w0 X),(.d true)])) .g) (.a (kB (a.i 0) 2) (.c 81 [c,(.d false)]<|uG [(uY 0),(.d false),.g,(.d false),.g,(V 0)] λX=>.a (aB (mw X)) (.l (.p [(w0 X),(.d true)])) .g) (.a true (.a true (.l (.p [(.i [(uY 0),(.d false),.g,(.d false),.g,(V 0)]),(.d false)])) .g) .g))))))) .g
def t39:T:=.c 77 [c]<|uG [(uY 0),(.h []),(V 0),(V 0)] λX=>.a true (.c pn [(.aw 143 (.i [(V (X.i 2)),(V (X.i 3)),(V e)]))] λa=>.l (.p [])) .g
def t47:T:=.h (qL Y 52) λb=>.h (rD Y 62 1 [(0,(.h [112,108,97,110]))]) λa=>.c 95 [c,a] λa=>.c 96 [c]<|uS λs=>.d (jB Y 52 0 b) λa=>.h (mC Y 9 a (.h s)) λ_=>.c 68 [c,(uY 5)]<|uG [(uY 0),(.h []),(V 0),(V 0)] λX=>.j 2 [c,b,(.h []),.g,.g,.g]
def tw:T:=.d (rC c) λa=>.d (jB Y 141 1 a) λa=>.e (λm=>oA Y 3 ⟨0,m⟩ a)<|uI λb=>.d (rC c) λa=>.d (jB Y 141 0 a) λa=>.e (λm=>oA Y 136 ⟨0,m⟩ a) λa=>.d (vC a)<|uI λn=>.a (fB b n) (.c 97 [c,d] λa=>.c 68 [c,(uY 5)]<|uG [(uY 0),(.h []),(V 0),(V 0)] λX=>.j 2 [c,d,(.h i),k,t,v]) (.e (λm=>oA Y 52 ⟨0,m⟩ d)<|uG [(.h []),.g,.g,.g] λX=>.a (aB (L6 X)) (.l (M6 X)) .g)
def t66:T:=.n d []<|uG [(uY 0),(.h []),(uY 0),(.d false),.g,(.d false),.g,(V 0),.g] λX=>.a (aB (iH X)) (.j 2 [c,d,k,(uY 0),(.h []),(uY 0),(.d false),.g,(.d false),.g,(V 0),.g,(uY (X.i 0)),(.h (X.s 1)),(uY (X.i 2)),(.d (X.b 3)),(X.v 4),(.d (X.b 5)),(X.v 6),(V (X.i 7)),(X.v 8)]) .g
def zo:T:=.c 128 [c,k] λa=>.d (uX 0 a)<|uU λn=>.d (uX 1 a)<|uB λb=>.a (!b) (.a (aB [(uY j),(.h x),(uY l),(.d u),o,(.d w),F,(V q),H]) (.l (.i [(uY j),(.h x),(uY l),(.d u),o,(.d w),F,(V q),H])) .g) (.n d []<|uG [(uY 0),(.h []),(uY 0),(.d false),.g,(.d false),.g,(V 0),.g] λX=>.a (aB (iH X)) (.h (rD Y 29 2 [(0,(.i [(uY j),(.h x),(uY l),(.d u),o,(.d w),F,(V q),H])),(1,(nF X))]) λa=>.a (aB [(uY n),a]) (.a (aB [(uY n),(.h []),(uY 0),(.d false),.g,(.d false),.g,(V 0),a]) (.j 2 [c,d,k,(uY e),(.h i),(uY f),(.d g),t,(.d r),v,(V p),y,(uY n),(.h []),(uY 0),(.d false),.g,(.d false),.g,(V 0),a]) .g) .g) .g)
def t67:T:=.a true (.h (rD Y 201 1 [(0,(.i [(.h [97,110,100]),(uY 15)]))]) λa=>.c 66 [c,(.q (.aa 129) [c] []),a]<|uG [(uY 0),(.h []),(uY 0),(.d false),.g,(.d false),.g,(V 0),.g] λX=>.a (aB (iH X)) (.l (nF X)) .g) .g
def t68:T:=.c 77 [c]<|uG [(uY 0),(.h []),(V 0),(V 0)] λX=>.a true (.a (!kB (X.i 0) e) (.c 39 [c,(V 120)] λa=>.j 9 [c,(uY 0),(.h []),(V 0),(V 0),(uY (X.i 0)),(.h (X.s 1)),(V (X.i 2)),(V (X.i 3))]) (.j 9 [c,(uY 0),(.h []),(V 0),(V 0),(uY (X.i 0)),(.h (X.s 1)),(V (X.i 2)),(V (X.i 3))])) .g
def t68_9:T:=.d (rC c) λa=>.d (jB Y 141 1 a) λa=>.e (λm=>oA Y 3 ⟨0,m⟩ a)<|uI λn=>.d (rC c) λa=>.d (jB Y 141 1 a) λa=>.h (mC Y 3 a (uC n)) λ_=>.a true (.l (.i [(uY j),(.h x),(V l),(V q)])) .g
def t79:T:=.c 68 [c,(uY 3)]<|uG [(uY 0),(.h []),(V 0),(V 0)] λX=>.c 138 [(.h (X.s 1))] λa=>.d (uX 0 a)<|uI λb=>.d (uX 1 a)<|uI λn=>.l (V b)
def t81:T:=.d (rC c) λa=>.d (jB Y 141 1 a) λa=>.e (λm=>oA Y 3 ⟨0,m⟩ a)<|uI λd=>.c 68 [c,(uY 2)]<|uG [(uY 0),(.h []),(V 0),(V 0)] λX=>.a true (.d (rC c) λa=>.d (jB Y 141 1 a) λa=>.e (λm=>oA Y 3 ⟨0,m⟩ a)<|uI λn=>.c 78 [c,(.h [100,97,121,115])]<|uB λb=>.a b (.j 21 [c,(.d g),(V d),(uY 5),(V n),(uY 0),(.d false),.g,(.d false),.g,(V 0),(uY (X.i 0)),(.h (X.s 1)),(V (X.i 2)),(V (X.i 3))]) (.c 78 [c,(.h [109,111,110,116,104,115])]<|uB λb=>.a b (.j 21 [c,(.d g),(V d),(uY 6),(V n),(uY 0),(.d false),.g,(.d false),.g,(V 0),(uY (X.i 0)),(.h (X.s 1)),(V (X.i 2)),(V (X.i 3))]) (.c 80 [(.h (X.s 1)),(.d g)]<|uG [(.d false),.g,(.d false),.g] λX=>.a true (.a (aB [(uY 2),(.d (X.b 0)),(X.v 1),(.d (X.b 2)),(X.v 3),(V 0)]) (.l (.i [(uY 2),(.d (X.b 0)),(X.v 1),(.d (X.b 2)),(X.v 3),(V 0)])) .g) .g))) .g
def zqh:T:=.c 143 [(.h i),(.h [47])]<|uB λb=>.a b (.d (rC c) λa=>.d (jB Y 141 1 a) λa=>.h (mC Y 3 a (V p)) λ_=>.c 39 [c,(V 120)] λa=>.j 27 [c,(.d g),(V e),(uY f),(uY j),(.d r),d,(.d u),k,(V l),(uY q),(.h i),(V z),(V A)]) (.j 27 [c,(.d g),(V e),(uY f),(uY j),(.d r),d,(.d u),k,(V l),(uY q),(.h i),(V z),(V A)])
def zqg:T:=.c 144 [(.h i),(.d g),(V (-1048576)),(V 1048576)] λa=>.d (uX 0 a)<|uI λn=>.d (uX 1 a)<|uB λb=>.a (!b) (.d (rC c) λa=>.d (jB Y 141 1 a) λa=>.h (mC Y 3 a (V e)) λ_=>.c 39 [c,(V 121)] λa=>.a true (zl f n) .g) (.a true (zl f n) .g)
def t95:T:=.d (vC d)<|uI λn=>.j 2 [c,d,(V n),(V 0)]
def zp:T:=.a (fB f e) (.d (zC Y 62 d (V f)) λa=>.e (λm=>oA Y 9 ⟨0,m⟩ a)<|uS λs=>.c 78 [c,(.h s)]<|uB λb=>.a (!b) (.c 39 [c,(V 120)] λa=>.j 2 [c,d,(V e),(uC f)]) (.j 2 [c,d,(V e),(uC f)])) (.l (.p []))
def t96:T:=.c 151 [c]<|uB λb=>.a (!b) (.c 39 [c,(V 120)] λa=>.c 68 [c,(uY 1)]<|uG [(uY 0),(.h []),(V 0),(V 0)] λX=>.l (.h (X.s 1))) (.c 68 [c,(uY 1)]<|uG [(uY 0),(.h []),(V 0),(V 0)] λX=>.l (.h (X.s 1)))
def t97:T:=.d (rC d) λa=>.d (jB Y 52 2 a) λa=>.e (λm=>oA Y 49 ⟨0,m⟩ a) λa=>.d (vC a)<|uI λn=>.c 78 [c,(.h [102,97,99,116])]<|uB λb=>.a b (.d (rC d) λa=>.d (jB Y 52 1 a) λy=>.e (λm=>oA Y 48 ⟨0,m⟩ y) λB=>.c 152 [c,(.d true)]<|uG [(.h []),(uY 0),(.d false)] λX=>.e (λm=>oA Y 48 ⟨0,m⟩ y) λa=>.a (A8 10 a B) (.h (rD Y 48 1 [(0,(J5 X))]) λp=>.e (λm=>oA Y 48 ⟨0,m⟩ y) λa=>.a (A8 10 a B) (.h (lG Y 48 48 B p) λq=>.d (rC d) λa=>.d (jB Y 52 1 a) λa=>.h (mC Y 48 a q) λ_=>.l (.p [])) .g) .g) (.c 78 [c,(.h [100,101,102])]<|uB λb=>.a b (.d (rC d) λa=>.d (jB Y 52 1 a) λe=>.e (λm=>oA Y 48 ⟨0,m⟩ e) λf=>.c 152 [c,(.d false)]<|uG [(.h []),(uY 0),(.d false)] λX=>.e (λm=>oA Y 48 ⟨0,m⟩ e) λa=>.a (A8 10 a f) (.h (rD Y 48 1 [(0,(J5 X))]) λr=>.e (λm=>oA Y 48 ⟨0,m⟩ e) λa=>.a (A8 10 a f) (.h (lG Y 48 48 f r) λt=>.d (rC d) λa=>.d (jB Y 52 1 a) λa=>.h (mC Y 48 a t) λ_=>.l (.p [])) .g) .g) (.c 78 [c,(.h [116,97,98,108,101])]<|uB λb=>.a b (.c 96 [c]<|uS λs=>.c 78 [c,(.h [116,119,111])]<|uB λb=>.a (!b) (.h (rD Y 62 1 [(0,(.h [111,110,101]))]) λa=>.c 95 [c,a] λa=>.j 23 [d,(.h s),(.d b)]) (.j 23 [d,(.h s),(.d b)])) (.a (fB 0 n) (.c 78 [c,(.h [114,111,119])]<|uB λb=>.a b (.d (rC d) λa=>.d (jB Y 52 2 a) λa=>.e (λm=>oA Y 49 ⟨0,m⟩ a) λa=>.d (zC Y 49 a (V (uW (n-1)))) λg=>.d (rC g) λa=>.d (jB Y 92 2 a) λh=>.e (λm=>oA Y 90 ⟨0,m⟩ h) λi=>.d (rC g) λa=>.d (jB Y 92 1 a) λa=>.e (λm=>oA Y 4 ⟨0,m⟩ a)<|uB λb=>.c 153 [c,(.d b)]<|uG [(V 0),(V 0),(V 0),(.d false),.g,(.d false),.g] λX=>.e (λm=>oA Y 90 ⟨0,m⟩ h) λa=>.a (A8 10 a i) (.h (rD Y 90 1 [(0,(.i [V (X.i 0),V (X.i 1),V (X.i 2),.d (X.b 3),X.v 4,.d (X.b 5),X.v 6]))]) λu=>.e (λm=>oA Y 90 ⟨0,m⟩ h) λa=>.a (A8 10 a i) (.h (lG Y 90 90 i u) λv=>.d (rC g) λa=>.d (jB Y 92 2 a) λa=>.h (mC Y 90 a v) λ_=>.l (.p [])) .g) .g) (.c 78 [c,(.h [99,108,97,117,115,101])]<|uB λb=>.a b (.d (rC d) λa=>.d (jB Y 52 3 a) λj=>.e (λm=>oA Y 50 ⟨0,m⟩ j) λk=>.c 154 [c]<|uG [(.h []),(.h []),(V 0),(V 0),(V 0),(.d false),(uY 0),(.h []),(uY 0),(.d false),.g,(.d false),.g,(V 0),.g,(uY 0),(.h []),(uY 0),(.d false),.g,(.d false),.g,(V 0),.g] λX=>.e (λm=>oA Y 50 ⟨0,m⟩ j) λa=>.a (A8 10 a k) (.h (rD Y 50 1 [(0,(U6 X))]) λw=>.e (λm=>oA Y 50 ⟨0,m⟩ j) λa=>.a (A8 10 a k) (.h (lG Y 50 50 k w) λx=>.d (rC d) λa=>.d (jB Y 52 3 a) λa=>.h (mC Y 50 a x) λ_=>.l (.p [])) .g) .g) (zn c))) (.c 78 [c,(.h [99,108,97,117,115,101])]<|uB λb=>.a b (.d (rC d) λa=>.d (jB Y 52 3 a) λl=>.e (λm=>oA Y 50 ⟨0,m⟩ l) λo=>.c 154 [c]<|uG [(.h []),(.h []),(V 0),(V 0),(V 0),(.d false),(uY 0),(.h []),(uY 0),(.d false),.g,(.d false),.g,(V 0),.g,(uY 0),(.h []),(uY 0),(.d false),.g,(.d false),.g,(V 0),.g] λX=>.e (λm=>oA Y 50 ⟨0,m⟩ l) λa=>.a (A8 10 a o) (.h (rD Y 50 1 [(0,(U6 X))]) λz=>.e (λm=>oA Y 50 ⟨0,m⟩ l) λa=>.a (A8 10 a o) (.h (lG Y 50 50 o z) λA=>.d (rC d) λa=>.d (jB Y 52 3 a) λa=>.h (mC Y 50 a A) λ_=>.l (.p [])) .g) .g) (zn c)))))
def zqd:T:=.d (rC c) λa=>.d (jB Y 52 2 a) λa=>.e (λm=>oA Y 49 ⟨0,m⟩ a) λb=>.a true (.h (rD Y 49 1 [(0,(.i [(.h i),(.d g),.g]))]) λa=>.h (lG Y 49 49 b a) λd=>.d (rC c) λa=>.d (jB Y 52 2 a) λa=>.h (mC Y 49 a d) λ_=>.l (.p [])) .g
def t129:T:=.j 2 [c,(V 0),(uY 0),(.h []),(uY 0),(.d false),.g,(.d false),.g,(V 0),.g]
def zq:T:=.c 78 [c,(.h [110,111,116])]<|uB λb=>.a b (.j 2 [c,(uC e),(uY f),(.h i),(uY p),(.d g),d,(.d r),k,(V j),t]) (.c 181 [c]<|uG [(uY 0),(.h []),(uY 0),(.d false),.g,(.d false),.g,(V 0),.g] λX=>.a (aB (iH X)) (.j 6 [(V e),(uY f),(.h i),(uY p),(.d g),d,(.d r),k,(V j),t,(uY (X.i 0)),(.h (X.s 1)),(uY (X.i 2)),(.d (X.b 3)),(X.v 4),(.d (X.b 5)),(X.v 6),(V (X.i 7)),(X.v 8)]) .g)
def zr:T:=.a (fB 0 e) (.h (rD Y 29 1 [(0,(.i [(uY l),(.h x),(uY q),(.d u),t,(.d w),v,(V z),y]))]) λa=>.a (aB [(uY 17),a]) (.a (aB [(uY 17),(.h []),(uY 0),(.d false),.g,(.d false),.g,(V 0),a]) (.j 6 [(V (uW (e-1))),(uY f),(.h i),(uY p),(.d g),c,(.d r),d,(V j),k,(uY 17),(.h []),(uY 0),(.d false),.g,(.d false),.g,(V 0),a]) .g) .g) (.a (aB [(uY l),(.h x),(uY q),(.d u),t,(.d w),v,(V z),y]) (.l (.i [(uY l),(.h x),(uY q),(.d u),t,(.d w),v,(V z),y])) .g)
def t152:T:=.c 96 [c]<|uS λs=>.c 201 [c,(uY 1),(uY 6),(.q (.aa 84) [] [])]<|uU λn=>.a true (.a true (.l (.i [(.h s),(uY n),(.d g)])) .g) .g
def t153:T:=.c 202 [c]<|uI λa=>.a true (.a g (.c 202 [c]<|uI λn=>.a true (.j 11 [c,(V 0),(V 0),(V 0),(.d false),.g,(.d false),.g,(V a),(V n),(V 0),(.d false),.g,(.d false),.g]) .g) (.j 11 [c,(V 0),(V 0),(V 0),(.d false),.g,(.d false),.g,(V a),(V 0),(V 0),(.d false),.g,(.d false),.g])) .g
def ze1:T:=.h (rD Y 62 1 [(0,(.h [107,110,111,119,110]))]) λa=>.c 95 [c,a] λa=>.c 79 [c]<|uI λn=>.a true (.h (rD Y 62 1 [(0,(.h [105,115]))]) λa=>.c 95 [c,a] λa=>.c 78 [c,(.h [109,105,110,117,115])]<|uB λb=>.c 68 [c,(uY 2)]<|uG [(uY 0),(.h []),(V 0),(V 0)] λX=>.c 80 [(.h (X.s 1)),(.d b)]<|uG [(.d false),.g,(.d false),.g] λX=>.a (aB [.d (X.b 0),X.v 1,.d (X.b 2),X.v 3]) (.a (aB [(V j),(V l),(V n),(.d (X.b 0)),(X.v 1),(.d (X.b 2)),(X.v 3)]) (.l (.i [(V j),(V l),(V n),(.d (X.b 0)),(X.v 1),(.d (X.b 2)),(X.v 3)])) .g) .g) .g
def t154:T:=.a true (.a true (.c 96 [c]<|uS λe=>.a true (.c 96 [c]<|uS λs=>.a true (.h (rD Y 62 1 [(0,(.h [102,114,111,109]))]) λa=>.c 95 [c,a] λa=>.c 79 [c]<|uI λd=>.a true (.h (rD Y 62 1 [(0,(.h [116,111]))]) λa=>.c 95 [c,a] λa=>.c 78 [c,(.h [101,110,100])]<|uB λb=>.a (!b) (.c 79 [c]<|uI λn=>.a true (.j 19 [c,(.h []),(.h []),(V 0),(V 0),(V 0),(.d false),(uY 0),(.h []),(uY 0),(.d false),.g,(.d false),.g,(V 0),.g,(uY 0),(.h []),(uY 0),(.d false),.g,(.d false),.g,(V 0),.g,(.h e),(.h s),(V d),(V n),(V 0),(.d false),(uY 0),(.h []),(uY 0),(.d false),.g,(.d false),.g,(V 0),.g,(uY 0),(.h []),(uY 0),(.d false),.g,(.d false),.g,(V 0),.g]) .g) (.j 19 [c,(.h []),(.h []),(V 0),(V 0),(V 0),(.d false),(uY 0),(.h []),(uY 0),(.d false),.g,(.d false),.g,(V 0),.g,(uY 0),(.h []),(uY 0),(.d false),.g,(.d false),.g,(V 0),.g,(.h e),(.h s),(V d),(V 65536),(V 0),(.d false),(uY 0),(.h []),(uY 0),(.d false),.g,(.d false),.g,(V 0),.g,(uY 0),(.h []),(uY 0),(.d false),.g,(.d false),.g,(V 0),.g])) .g) .g) .g) .g) .g
def ze0:T:=.h (rD Y 62 1 [(0,(.h [107,110,111,119,110]))]) λa=>.c 95 [c,a] λa=>.c 79 [c]<|uI λn=>.a true (.c 78 [c,(.h [111,102,102])]<|uB λb=>.a b (.a true (.a (aB [(.h K),(.h L),(V I),(V J),(V n),(.d true),(uY U),(.h l6),(uY W),(.d N),F,(.d P),H,(V Z),x9,(uY j5),(.h l7),(uY j6),(.d R),y0,(.d S),y1,(V j7),y2]) (.l (.i [(.h K),(.h L),(V I),(V J),(V n),(.d true),(uY U),(.h l6),(uY W),(.d N),F,(.d P),H,(V Z),x9,(uY j5),(.h l7),(uY j6),(.d R),y0,(.d S),y1,(V j7),y2])) .g) .g) (.h (rD Y 62 1 [(0,(.h [119,104,101,110]))]) λa=>.c 95 [c,a] λa=>.c 31 [c]<|uG [(uY 0),(.h []),(uY 0),(.d false),.g,(.d false),.g,(V 0),.g] λd=>.a (aB (iH d)) (.h (rD Y 62 1 [(0,(.h [116,104,101,110]))]) λa=>.c 95 [c,a] λa=>.c 31 [c]<|uG [(uY 0),(.h []),(uY 0),(.d false),.g,(.d false),.g,(V 0),.g] λX=>.a (aB (iH X)) (.a (aB [(.h K),(.h L),(V I),(V J),(V n),(.d M),(uY (d.i 0)),(.h (d.s 1)),(uY (d.i 2)),(.d (d.b 3)),(d.v 4),(.d (d.b 5)),(d.v 6),(V (d.i 7)),(d.v 8),(uY (X.i 0)),(.h (X.s 1)),(uY (X.i 2)),(.d (X.b 3)),(X.v 4),(.d (X.b 5)),(X.v 6),(V (X.i 7)),(X.v 8)]) (.l (.i [(.h K),(.h L),(V I),(V J),(V n),(.d M),(uY (d.i 0)),(.h (d.s 1)),(uY (d.i 2)),(.d (d.b 3)),(d.v 4),(.d (d.b 5)),(d.v 6),(V (d.i 7)),(d.v 8),(uY (X.i 0)),(.h (X.s 1)),(uY (X.i 2)),(.d (X.b 3)),(X.v 4),(.d (X.b 5)),(X.v 6),(V (X.i 7)),(X.v 8)])) .g) .g) .g)) .g
def t181:T:=.c 231 [c]<|uG [(uY 0),(.h []),(uY 0),(.d false),.g,(.d false),.g,(V 0),.g] λd=>.a (aB (iH d)) (.a true (.a true (.h (rD Y 201 2 [(0,(.i [(.h [60]),(uY 13)])),(1,(.i [(.h [61]),(uY 14)]))]) λa=>.c 128 [c,a] λa=>.d (uX 0 a)<|uU λn=>.d (uX 1 a)<|uB λb=>.a (!b) (.a (aB (iH d)) (.l (nF d)) .g) (.c 231 [c]<|uG [(uY 0),(.h []),(uY 0),(.d false),.g,(.d false),.g,(V 0),.g] λX=>.a (aB (iH X)) (.h (rD Y 29 2 [(0,(nF d)),(1,(nF X))]) λa=>.a (aB [(uY n),a]) (.a (aB [(uY n),(.h []),(uY 0),(.d false),.g,(.d false),.g,(V 0),a]) (.l (.i [(uY n),(.h []),(uY 0),(.d false),.g,(.d false),.g,(V 0),a])) .g) .g) .g)) .g) .g) .g
def t201:T:=.j 2 [c,(uY f),d,(uY e)]
def zt:T:=.a (vE f e) (.n d [(uY f)]<|uS λs=>.c 78 [c,(.h s)]<|uB λb=>.a b (.l (uY f)) (.j 2 [c,(uY e),d,(uY (cA .u8 (f+1)))])) (.c 39 [c,(V 120)] λa=>.l (uY 0))
def t202:T:=.c 78 [c,(.h [109,105,110,117,115])]<|uB λa=>.c 77 [c]<|uG [(uY 0),(.h []),(V 0),(V 0)] λX=>.a true (.a (!kB (X.i 0) 2) (zm c a X) (.c 143 [(.h (X.s 1)),(.h [47])]<|uB λb=>.a b (zm c a X) (.j 11 [c,(.d a),(uY (X.i 0)),(.h (X.s 1)),(V (X.i 2)),(V (X.i 3))]))) .g
def zeo:T:=.c 144 [(.h i),(.d g),(V (-2147483648)),(V 2147483647)] λa=>.d (uX 0 a)<|uI λn=>.d (uX 1 a)<|uB λb=>.a (!b) (.c 39 [c,(V 121)] λa=>.j 17 [c,(V n)]) (.j 17 [c,(V n)])
def zen:T:=.d (rC c) λa=>.d (jB Y 141 1 a) λa=>.e (λm=>oA Y 3 ⟨0,m⟩ a)<|uI λn=>.d (rC c) λa=>.d (jB Y 141 1 a) λa=>.h (mC Y 3 a (uC n)) λ_=>.l (V e)
def t231:T:=.a true (.a true (.h (rD Y 201 2 [(0,(.i [(.h [43]),(uY 7)])),(1,(.i [(.h [45]),(uY 8)]))]) λa=>.c 66 [c,(.q (.aa 266) [c] []),a]<|uG [(uY 0),(.h []),(uY 0),(.d false),.g,(.d false),.g,(V 0),.g] λX=>.a (aB (iH X)) (.l (nF X)) .g) .g) .g
def t266:T:=.a true (.a true (.h (rD Y 201 2 [(0,(.i [(.h [42]),(uY 9)])),(1,(.i [(.h [47]),(uY 10)]))]) λa=>.c 66 [c,(.q (.aa 287) [c] []),a]<|uG [(uY 0),(.h []),(uY 0),(.d false),.g,(.d false),.g,(V 0),.g] λX=>.a (aB (iH X)) (.l (nF X)) .g) .g) .g
def t287:T:=.d (rC c) λa=>.d (jB Y 141 2 a) λa=>.e (λm=>oA Y 3 ⟨0,m⟩ a)<|uI λn=>.a (fB 100 n) (.c 39 [c,(V 122)] λa=>.j 7 [c,(uY 0),(.h []),(uY 0),(.d false),.g,(.d false),.g,(V 0),.g]) (.j 7 [c,(uY 0),(.h []),(uY 0),(.d false),.g,(.d false),.g,(V 0),.g])
def zqn:T:=.d (rC c) λa=>.d (jB Y 141 2 a) λa=>.e (λm=>oA Y 3 ⟨0,m⟩ a)<|uI λn=>.d (rC c) λa=>.d (jB Y 141 2 a) λa=>.h (mC Y 3 a (uC n)) λ_=>.c 299 [c]<|uG [(uY 0),(.h []),(uY 0),(.d false),.g,(.d false),.g,(V 0),.g] λX=>.a (aB (iH X)) (.d (rC c) λa=>.d (jB Y 141 2 a) λa=>.e (λm=>oA Y 3 ⟨0,m⟩ a)<|uI λn=>.d (rC c) λa=>.d (jB Y 141 2 a) λa=>.h (mC Y 3 a (V (uW (n-1)))) λ_=>.a (aB (iH X)) (.l (nF X)) .g) .g
def t299:T:=.c 38 [c] λa=>.d (uX 0 a)<|uG [(uY 0),(.d false),.g,(.d false),.g,(V 0)] λX=>.d (uX 1 a)<|uB λb=>.a (aB (mw X)) (.a b (.a true (.a (aB [(uY 1),(.h []),(uY (X.i 0)),(.d (X.b 1)),(X.v 2),(.d (X.b 3)),(X.v 4),(V (X.i 5)),.g]) (.l (.i [(uY 1),(.h []),(uY (X.i 0)),(.d (X.b 1)),(X.v 2),(.d (X.b 3)),(X.v 4),(V (X.i 5)),.g])) .g) .g) (.c 78 [c,(.h [40])]<|uB λb=>.a b (.c 31 [c]<|uG [(uY 0),(.h []),(uY 0),(.d false),.g,(.d false),.g,(V 0),.g] λX=>.a (aB (iH X)) (.h (rD Y 62 1 [(0,(.h [41]))]) λa=>.c 95 [c,a] λa=>.a (aB (iH X)) (.l (nF X)) .g) .g) (.c 78 [c,(.h [116,111,100,97,121])]<|uB λb=>.a b (.a true (.a true (.l (.i [(uY 2),(.h []),(uY 0),(.d false),.g,(.d false),.g,(V 0),.g])) .g) .g) (.c 78 [c,(.h [102,97,99,116])]<|uB λb=>.a b (.c 313 [c,(uY 3)]<|uG [(uY 0),(.h []),(uY 0),(.d false),.g,(.d false),.g,(V 0),.g] λX=>.a (aB (iH X)) (.l (nF X)) .g) (.c 78 [c,(.h [104,97,115])]<|uB λb=>.a b (.c 313 [c,(uY 4)]<|uG [(uY 0),(.h []),(uY 0),(.d false),.g,(.d false),.g,(V 0),.g] λX=>.a (aB (iH X)) (.l (nF X)) .g) (.c 151 [c]<|uB λb=>.a b (.c 313 [c,(uY 5)]<|uG [(uY 0),(.h []),(uY 0),(.d false),.g,(.d false),.g,(V 0),.g] λX=>.a (aB (iH X)) (.l (nF X)) .g) (.c 314 [c]<|uG [(uY 0),(.h []),(uY 0),(.d false),.g,(.d false),.g,(V 0),.g] λX=>.a (aB (iH X)) (.l (nF X)) .g))))))) .g
def t313:T:=.c 96 [c]<|uS λs=>.h (rD Y 62 1 [(0,(.h [97,116]))]) λa=>.c 95 [c,a] λa=>.c 287 [c]<|uG [(uY 0),(.h []),(uY 0),(.d false),.g,(.d false),.g,(V 0),.g] λX=>.h (rD Y 29 1 [(0,(nF X))]) λa=>.a (aB [(uY e),(.h s),a]) (.a (aB [(uY e),(.h s),(uY 0),(.d false),.g,(.d false),.g,(V 0),a]) (.l (.i [(uY e),(.h s),(uY 0),(.d false),.g,(.d false),.g,(V 0),a])) .g) .g
def t314:T:=.h (dL c) λb=>.a true (.a true (.a true (.a true (.a true (.a true (.a true (.a true (.a true (.a true (.a true (.a true (.a true (.h (qL Y 340) λa=>.h (mC Y 340 a (.i [(.h [108,111,111,107]),(uY 6),(.d true),(V 1),(V 2),(.h [109,105,110]),(uY 11),(.d false),(V 2),(V 2),(.h [109,97,120]),(uY 12),(.d false),(V 2),(V 2),(.h [98,101,116,119,101,101,110]),(uY 20),(.d false),(V 2),(V 2),(.h [105,102]),(uY 18),(.d false),(V 3),(V 3),(.h [114,111,117,110,100]),(uY 19),(.d false),(V 2),(V 2),(.h [115,101,114,118,105,99,101]),(uY 21),(.d true),(V 2),(V 2),(.h [103,114,111,119]),(uY 23),(.d true),(V 2),(V 2),(.h [98,101,115,116]),(uY 22),(.d true),(V 3),(V 3),(.h [109,111,110,116,104,115]),(uY 24),(.d false),(V 1),(V 1),(.h [110,117,109,98,101,114]),(uY 25),(.d false),(V 1),(V 1),(.h [115,116,97,114,116]),(uY 26),(.d false),(V 1),(V 1)])) λ_=>.n (.q (.aa 319) [] [a,b]) []<|uG [(.h []),(uY 0),(.d false),(V 0),(V 0)] λX=>.a true (.a true (.a true (.e (λm=>oA Y 76 ⟨0,m⟩ b) λe=>.h (rD Y 62 1 [(0,(.h [40]))]) λa=>.c 95 [e,a] λa=>.a (X.b 2) (.e (λm=>oA Y 76 ⟨0,m⟩ b) λa=>.c 96 [a]<|uS λs=>.a true (.e (λm=>oA Y 76 ⟨0,m⟩ b) λd=>.h (rD Y 62 1 [(0,(.h [44]))]) λa=>.c 95 [d,a] λa=>.j 19 [b,(uY 0),(.h []),(uY 0),(.d false),.g,(.d false),.g,(V 0),.g,(.h (X.s 0)),(uY (X.i 1)),(.d (X.b 2)),(V (X.i 3)),(V (X.i 4)),(uY (X.i 1)),(.h s),(uY 0),(.d false),.g,(.d false),.g,(V 0),.g]) .g) (.j 19 [b,(uY 0),(.h []),(uY 0),(.d false),.g,(.d false),.g,(V 0),.g,(.h (X.s 0)),(uY (X.i 1)),(.d (X.b 2)),(V (X.i 3)),(V (X.i 4)),(uY (X.i 1)),(.h []),(uY 0),(.d false),.g,(.d false),.g,(V 0),.g])) .g) .g) .g) .g) .g) .g) .g) .g) .g) .g) .g) .g) .g) .g) .g) .g
def zd0:T:=.e (λm=>oA Y 76 ⟨0,m⟩ c) λa=>.c 31 [a]<|uG [(uY 0),(.h []),(uY 0),(.d false),.g,(.d false),.g,(V 0),.g] λX=>.a (A8 10 o o) (.h (rD Y 29 1 [(0,(nF X))]) λa=>.a (A8 10 o o) (.h (lG Y 29 29 o a) λa=>.a (aB [a]) (.j 2 [c,(uY e),(.h i),(uY f),(.d g),d,(.d r),k,(V p),t,(.h x),(uY j),(.d u),(V l),(V q),(uY z),(.h C),(uY A),(.d w),v,(.d B),y,(V D),a]) .g) .g) .g
def zu:T:=.d (vC o)<|uI λn=>.a (fB n l) (.e (λm=>oA Y 76 ⟨0,m⟩ c) λb=>.h (rD Y 62 1 [(0,(.h [44]))]) λa=>.c 95 [b,a] λa=>.e (λm=>oA Y 76 ⟨0,m⟩ c) λa=>.c 31 [a]<|uG [(uY 0),(.h []),(uY 0),(.d false),.g,(.d false),.g,(V 0),.g] λX=>.a (A8 10 o o) (.h (rD Y 29 1 [(0,(nF X))]) λa=>.a (A8 10 o o) (.h (lG Y 29 29 o a) λa=>.a (aB [a]) (.j 2 [c,(uY e),(.h i),(uY f),(.d g),d,(.d r),k,(V p),t,(.h x),(uY j),(.d u),(V l),(V q),(uY z),(.h C),(uY A),(.d w),v,(.d B),y,(V D),a]) .g) .g) .g) (.j 6 [c,(uY e),(.h i),(uY f),(.d g),d,(.d r),k,(V p),t,(.h x),(uY j),(.d u),(V l),(V q),(uY z),(.h C),(uY A),(.d w),v,(.d B),y,(V D),o])
def zw:T:=.d (vC o)<|uI λn=>.a (fB n q) (.e (λm=>oA Y 76 ⟨0,m⟩ c) λa=>.c 78 [a,(.h [44])]<|uB λb=>.a b (.e (λm=>oA Y 76 ⟨0,m⟩ c) λa=>.c 31 [a]<|uG [(uY 0),(.h []),(uY 0),(.d false),.g,(.d false),.g,(V 0),.g] λX=>.a (A8 10 o o) (.h (rD Y 29 1 [(0,(nF X))]) λa=>.a (A8 10 o o) (.h (lG Y 29 29 o a) λa=>.a (aB [a]) (.j 6 [c,(uY e),(.h i),(uY f),(.d g),d,(.d r),k,(V p),t,(.h x),(uY j),(.d u),(V l),(V q),(uY z),(.h C),(uY A),(.d w),v,(.d B),y,(V D),a]) .g) .g) .g) (.a (kB j 19) (.e (λm=>oA Y 76 ⟨0,m⟩ c) λh=>.h (rD Y 62 1 [(0,(.h [44]))]) λa=>.c 95 [h,a] λa=>.e (λm=>oA Y 76 ⟨0,m⟩ c) λa=>.c 201 [a,(uY 1),(uY 6),(.q (.aa 170) [] [])]<|uU λn=>.a true (.j 37 [c,(uY e),(.h i),(uY f),(.d g),d,(.d r),k,(V p),t,(uY z),(.h C),(uY A),(.d w),v,(.d B),y,(V (uW n)),o]) .g) (.j 37 [c,(uY e),(.h i),(uY f),(.d g),d,(.d r),k,(V p),t,(uY z),(.h C),(uY A),(.d w),v,(.d B),y,(V D),o]))) (.a (kB j 19) (.e (λm=>oA Y 76 ⟨0,m⟩ c) λs=>.h (rD Y 62 1 [(0,(.h [44]))]) λa=>.c 95 [s,a] λa=>.e (λm=>oA Y 76 ⟨0,m⟩ c) λa=>.c 201 [a,(uY 1),(uY 6),(.q (.aa 170) [] [])]<|uU λn=>.a true (.j 37 [c,(uY e),(.h i),(uY f),(.d g),d,(.d r),k,(V p),t,(uY z),(.h C),(uY A),(.d w),v,(.d B),y,(V (uW n)),o]) .g) (.j 37 [c,(uY e),(.h i),(uY f),(.d g),d,(.d r),k,(V p),t,(uY z),(.h C),(uY A),(.d w),v,(.d B),y,(V D),o]))
def zdy:T:=.e (λm=>oA Y 76 ⟨0,m⟩ c) λb=>.h (rD Y 62 1 [(0,(.h [41]))]) λa=>.c 95 [b,a] λa=>.a (aB [(uY j),(.h x),(uY l),(.d u),v,(.d w),y,(V q),o]) (.l (.i [(uY j),(.h x),(uY l),(.d u),v,(.d w),y,(V q),o])) .g
def t319:T:=.e (λm=>oA Y 340 ⟨0,m⟩ c) λa=>.j 2 [d,a,(V 0),(.h []),(uY 0),(.d false),(V 0),(V 0)]
def zx:T:=.a (fB e 12) (.d (mJ Y 340 d (V e))<|uG [(.h []),(uY 0),(.d false),(V 0),(V 0)] λX=>.a true (.e (λm=>oA Y 76 ⟨0,m⟩ c) λa=>.c 78 [a,(.h (X.s 0))]<|uB λb=>.a b (.a true (.l (.i [.h (X.s 0),uY (X.i 1),.d (X.b 2),V (X.i 3),V (X.i 4)])) .g) (.j 2 [c,d,(uC e),(.h i),(uY f),(.d g),(V p),(V j)])) .g) (.e (λm=>oA Y 76 ⟨0,m⟩ c) λa=>.c 39 [a,(V 120)] λa=>.a true (.a true (.l (.i [(.h []),(uY 0),(.d false),(V 0),(V 0)])) .g) .g)
variable {e f p j l q z A D I J j1 U W Z j5 j6 j7}{i x C l3 K L l6 l7}{c d k t v y o F H x9 y0 y1 y2}{g r u w B M N P R S}
def w31(h:wG E 31 (t31 c) m Q):xL E 31 [c] m Q:=gA (yG 31) h
def w38(h:wG E 38 (t38 c) m Q):xL E 38 [c] m Q:=gA (yG 38) h
def w39(h:wG E 39 (t39 e c) m Q):xL E 39 [c,(V e)] m Q:=gA (yG 39) h
def w47(h:wG E 47 (t47 c) m Q):xL E 47 [c] m Q:=gA (yG 47) h
def zy(h:wG E 47 (tw i c d k t v) m Q):sI E 47 2 [c,d,(.h i),k,t,v] m Q:=gJ (yG 47) h
def w66(h:wG E 66 (t66 c d k) m Q):xL E 66 [c,d,k] m Q:=gA (yG 66) h
def j66_2(h:wG E 66 (zo e f p j l q i x c d k t v y o F H g r u w) m Q):sI E 66 2 [c,d,k,(uY e),(.h i),(uY f),(.d g),t,(.d r),v,(V p),y,(uY j),(.h x),(uY l),(.d u),o,(.d w),F,(V q),H] m Q:=gJ (yG 66) h
def w67(h:wG E 67 (t67 c) m Q):xL E 67 [c] m Q:=gA (yG 67) h
def w68(h:wG E 68 (t68 e c) m Q):xL E 68 [c,(uY e)] m Q:=gA (yG 68) h
def j68_9(h:wG E 68 (t68_9 j l q x c) m Q):sI E 68 9 [c,(uY e),(.h i),(V f),(V p),(uY j),(.h x),(V l),(V q)] m Q:=gJ (yG 68) h
def w79(h:wG E 79 (t79 c) m Q):xL E 79 [c] m Q:=gA (yG 79) h
def w81(h:wG E 81 (t81 c g) m Q):xL E 81 [c,(.d g)] m Q:=gA (yG 81) h
def j81_21(h:wG E 81 (zqh e f p j l q z A i c d k g r u) m Q):sI E 81 21 [c,(.d g),(V e),(uY f),(V p),(uY j),(.d r),d,(.d u),k,(V l),(uY q),(.h i),(V z),(V A)] m Q:=gJ (yG 81) h
def j81_27(h:wG E 81 (zqg e f i c g) m Q):sI E 81 27 [c,(.d g),(V e),(uY f),(uY p),(.d r),d,(.d u),k,(V j),(uY l),(.h i),(V q),(V z)] m Q:=gJ (yG 81) h
def w95(h:wG E 95 (t95 c d) m Q):xL E 95 [c,d] m Q:=gA (yG 95) h
def j95_2(h:wG E 95 (zp e f c d) m Q):sI E 95 2 [c,d,(V e),(V f)] m Q:=gJ (yG 95) h
def w96(h:wG E 96 (t96 c) m Q):xL E 96 [c] m Q:=gA (yG 96) h
def w97(h:wG E 97 (t97 c d) m Q):xL E 97 [c,d] m Q:=gA (yG 97) h
def j97_23(h:wG E 97 (zqd i c g) m Q):sI E 97 23 [c,(.h i),(.d g)] m Q:=gJ (yG 97) h
def w129(h:wG E 129 (t129 c) m Q):xL E 129 [c] m Q:=gA (yG 129) h
def zsi(h:wG E 129 (zq e f p j i c d k t g r) m Q):sI E 129 2 [c,(V e),(uY f),(.h i),(uY p),(.d g),d,(.d r),k,(V j),t] m Q:=gJ (yG 129) h
def zsh(h:wG E 129 (zr e f p j l q z i x c d k t v y g r u w) m Q):sI E 129 6 [(V e),(uY f),(.h i),(uY p),(.d g),c,(.d r),d,(V j),k,(uY l),(.h x),(uY q),(.d u),t,(.d w),v,(V z),y] m Q:=gJ (yG 129) h
def w152(h:wG E 152 (t152 c g) m Q):xL E 152 [c,(.d g)] m Q:=gA (yG 152) h
def w153(h:wG E 153 (t153 c g) m Q):xL E 153 [c,(.d g)] m Q:=gA (yG 153) h
def zwp(h:wG E 153 (ze1 j l c) m Q):sI E 153 11 [c,(V e),(V f),(V p),(.d g),d,(.d r),k,(V j),(V l),(V q),(.d u),t,(.d w),v] m Q:=gJ (yG 153) h
def w154(h:wG E 154 (t154 c) m Q):xL E 154 [c] m Q:=gA (yG 154) h
def zwo(h:wG E 154 (ze0 I J U W Z j5 j6 j7 K L l6 l7 c F H x9 y0 y1 y2 M N P R S) m Q):sI E 154 19 [c,(.h i),(.h x),(V e),(V f),(V p),(.d g),(uY j),(.h C),(uY l),(.d r),d,(.d u),k,(V q),t,(uY z),(.h l3),(uY A),(.d w),v,(.d B),y,(V D),o,(.h K),(.h L),(V I),(V J),(V j1),(.d M),(uY U),(.h l6),(uY W),(.d N),F,(.d P),H,(V Z),x9,(uY j5),(.h l7),(uY j6),(.d R),y0,(.d S),y1,(V j7),y2] m Q:=gJ (yG 154) h
def w181(h:wG E 181 (t181 c) m Q):xL E 181 [c] m Q:=gA (yG 181) h
def w201(h:wG E 201 (t201 e f c d) m Q):xL E 201 [c,(uY e),(uY f),d] m Q:=gA (yG 201) h
def zr5(h:wG E 201 (zt e f c d) m Q):sI E 201 2 [c,(uY e),d,(uY f)] m Q:=gJ (yG 201) h
def w202(h:wG E 202 (t202 c) m Q):xL E 202 [c] m Q:=gA (yG 202) h
def zwl(h:wG E 202 (zeo i c g) m Q):sI E 202 11 [c,(.d g),(uY e),(.h i),(V f),(V p)] m Q:=gJ (yG 202) h
def zwk(h:wG E 202 (zen e c) m Q):sI E 202 17 [c,(V e)] m Q:=gJ (yG 202) h
def w231(h:wG E 231 (t231 c) m Q):xL E 231 [c] m Q:=gA (yG 231) h
def w266(h:wG E 266 (t266 c) m Q):xL E 266 [c] m Q:=gA (yG 266) h
def w287(h:wG E 287 (t287 c) m Q):xL E 287 [c] m Q:=gA (yG 287) h
def j287_7(h:wG E 287 (zqn c) m Q):sI E 287 7 [c,(uY e),(.h i),(uY f),(.d g),d,(.d r),k,(V p),t] m Q:=gJ (yG 287) h
def w299(h:wG E 299 (t299 c) m Q):xL E 299 [c] m Q:=gA (yG 299) h
def w313(h:wG E 313 (t313 e c) m Q):xL E 313 [c,(uY e)] m Q:=gA (yG 313) h
def w314(h:wG E 314 (t314 c) m Q):xL E 314 [c] m Q:=gA (yG 314) h
def zwc(h:wG E 314 (zd0 e f p j l q z A D i x C c d k t v y o g r u w B) m Q):sI E 314 19 [c,(uY e),(.h i),(uY f),(.d g),d,(.d r),k,(V p),t,(.h x),(uY j),(.d u),(V l),(V q),(uY z),(.h C),(uY A),(.d w),v,(.d B),y,(V D),o] m Q:=gJ (yG 314) h
def zrq(h:wG E 314 (zu e f p j l q z A D i x C c d k t v y o g r u w B) m Q):sI E 314 2 [c,(uY e),(.h i),(uY f),(.d g),d,(.d r),k,(V p),t,(.h x),(uY j),(.d u),(V l),(V q),(uY z),(.h C),(uY A),(.d w),v,(.d B),y,(V D),o] m Q:=gJ (yG 314) h
def zrp(h:wG E 314 (zw e f p j l q z A D i x C c d k t v y o g r u w B) m Q):sI E 314 6 [c,(uY e),(.h i),(uY f),(.d g),d,(.d r),k,(V p),t,(.h x),(uY j),(.d u),(V l),(V q),(uY z),(.h C),(uY A),(.d w),v,(.d B),y,(V D),o] m Q:=gJ (yG 314) h
def zwb(h:wG E 314 (zdy j l q x c v y o u w) m Q):sI E 314 37 [c,(uY e),(.h i),(uY f),(.d g),d,(.d r),k,(V p),t,(uY j),(.h x),(uY l),(.d u),v,(.d w),y,(V q),o] m Q:=gJ (yG 314) h
def w319(h:wG E 319 (t319 c d) m Q):xL E 319 [c,d] m Q:=gA (yG 319) h
def zrn(h:wG E 319 (zx e f p j i c d g) m Q):sI E 319 2 [c,d,(V e),(.h i),(uY f),(.d g),(V p),(V j)] m Q:=gJ (yG 319) h
end
end Go.Proofs
namespace Go.Am
open Go Go.RowKit
section
variable {t tf:G uA}{C:fA}
def QT{sz:Nat}{z c1 c2:List O}(d:z.length=sz)(b:c1.length=sz)(c:c2.length=sz):yO (λi=>some (i*sz,sz)) [(0,.i c1),(1,.i c2)] (kJ z 2)=some [c1,c2].flatten:=by
 have e:kJ z 2=z++z:=by
  show oE z (oE z [])=_;rw[wI,wI,Do]
 rw[e];have f:pZ (z++z) (0*sz) sz (.i c1)=some (c1++z):=by
  unfold pZ;have a:(O.i c1).s=c1:=rfl;simp only[a,dD,b,Nat.zero_mul,D8,eV,vU,wI,List.take_zero,F3];rw[zD.2 rfl,mF.2 (by grind)];simp only[Bool.and_self,xE];rw[<- d,List.drop_left]
 have g:pZ (c1++z) (1*sz) sz (.i c2)=some (c1++c2):=by
  unfold pZ;have a:(O.i c2).s=c2:=rfl;simp only[a,dD,c,Nat.one_mul,eV,vU,wI];rw[zD.2 rfl,mF.2 (by grind)];simp only[Bool.and_self,xE];rw[<- b,List.take_left,F1 (by grind),Do]
 grind [yO,lA]
end
end Go.Am
namespace Go.Am
open Go Go.RowKit
section
section
variable {t tf:G uA}{C:fA}
def tD.q:∀ {l m:List D} {cl cm:List (List O)},tD tf l cl->tD tf m cm->tD tf (l++m) (cl++cm):=by
 intro l;induction l with
 | nil=>grind [pG]
 | cons d l a=>
  grind [kD]
variable {base sz:Nat}{l:List D}{v:O}
end
end
section
variable {n:Nat}{A B:List kF}{lo:Option Lo}{cs:List O}
section
variable {t tf:G uA}{C:fA}{base:Nat}
def zmg{a:Type}{A B:List a}{x y:a} (h:A.length=n):(A++x::B).set n y=A++y::B:=by
 subst h;rw[List.set_append_right _ _ (B4 _),Nat.sub_self,List.set_cons_zero]
def xB.c  {t':G uA}  (h:xB base tf t (A++B))(g:t.c n=none)(f:base<=n)(b:xC t' n lo cs)(d:zB t t')(c:jF n t t'):xB base tf t' (A++oC n lo cs::B):=
 xB.ac (o':=oC n lo cs) h (λk a=>c k (λe=>a (by simp[oC,e]))) (λk a=>by
  grind [oC]) b (by simp[oC]) (h.b.d d)
def xB.d    (h:xB base tf t (A++oC n lo cs::B)):xC t n lo cs:=h.s (oC n lo cs) (by simp)
def xB.a {j T:Nat}  {y:jD}{v:O}(h:xB C.a tf t (A++oC n lo cs::B))(f:C.b.c T=some y)(l:v.s.length=y.b)(g:j+v.s.length<=cs.length)(b:nD O.z v.s=true) :
  ∃t',(∀q,mC C T (.j n j) v ⟨q,t⟩=some (aD,⟨q,t'⟩))/\xB C.a tf t' (A++oC n lo (jJ cs j v.s)::B):=by
 have a:=h.f n (by simp[oC]);obtain⟨t',m,p,c⟩:=h.d.m (C:=C) a.1 (j:=j) (v:=v) f l g b;exact⟨t',m,xB.aj (o:=oC n lo cs) (o':=oC n lo (jJ cs j v.s)) h (λk d _=>c k (λe=>d (by simp[oC,e]))) (λk i=>.inl i) p (by simp[oC]) (h.b.g a.2 c)⟩
end
end
end Go.Am
namespace Go.Proofs
open Go Go.Am
variable {u:Type}{b d' e k n':Nat}{w:List Nat}
variable [fC]
def xD.d(t:xD):D:=.f [.a .u8 (t.b:Int),.c t.a,.a .i64 (t.c:Int),.a .i64 (t.e:Int)]
def xD.f(t:xD):List O:=[.e .u8 (t.b:Int),.h t.a,.e .i64 (t.c:Int),.e .i64 (t.e:Int)]
theorem jl{t:G uA}{x:xD}{cs:List O}(h:RD t x.d cs):cs=x.f:=by
 grind [xD.d,xD.f,lK,kD,pG,mP,lP]
structure uK where
 a:List xD
 b:Nat
 d:O
 e:Nat
 f:Nat
 L:List kF
abbrev nH(P:uK)(n d:Nat):kF:=oC P.b none [P.d,.e .i64 (n:Int),.e .i64 (d:Int),.e .i64 (P.e:Int),.e .i64 (P.f:Int)]
def sL(t:G uA):Prop:=At t 0 0 ((List.range 7).map λi=>.h (xJ i))/\At t 1 0 ((List.range 7).map λi=>.h (cN i))/\At t 3 0 (Sr.map fun(n:Nat)=>.e .i64 (n:Int))
theorem sL.a{t t':G uA}(h:sL t)(a:zB t t'):sL t':=⟨h.1.f a,h.2.1.f a,h.2.2.f a⟩
structure St (P:uK) (tf t:G uA) (n d:Nat):Prop where
 p:bA tf 4 (P.a.map xD.d) P.d
 g:xB Y.a tf t (nH P n d::P.L)
 f:P.a.length<300000
 m:n<=P.a.length
 a:∀x∈P.a,qY x
 e:sL tf
def lH(P:uK)(i:Nat):xD:=(P.a[i]?).getD ⟨0,[],P.e,P.f⟩
def tz(P:uK)(e i:Nat):O:=.aw 143 (.i [.e .i64 ((lH P i).c:Int),.e .i64 ((lH P i).e:Int),.e .i64 (e:Int)])
def Ok {u:Type}(P:uK)(rd:G uA->u->O->Prop)(d:Nat)(tf:G uA)(r:PR u)(Q E:mB):Prop:=
 match r with
 | .ok a n=>∀b c v,zB tf b->St P b c n d->rd b a v->Q v c
 | .er e i=>∀b c n' d',zB tf b->St P b c n' d'->E (tz P e i) c
section
variable {P:uK}{tf t:G uA}{n d:Nat}{Q E:mB}
theorem Ok.g {rd:G uA->u->O->Prop}{r:PR u}(h:Ok P rd d tf r Q E){c:G uA}(k:zB tf c):Ok P rd d c r Q E:=by
 cases r with
 | ok a n=>exact λb j v f g l=>h b j v (k.d f) g l
 | er e i=>exact λb j n' d' f g=>h b j n' d' (k.d f) g
theorem Ok.c{o:Type}{c:G uA->u->O->Prop}{rd:G uA->o->O->Prop}{r:PR u}{f:u->Nat->PR o}{l:mB}(h:Ok P rd d tf (r.c f) Q E)
  (k:∀a g b t1 v,r=.ok a g->zB tf b->St P b t1 g d->c b a v->Ok P rd d b (f a g) Q E->l v t1):Ok P c d tf r l E:=by
 cases r with
 | ok a n=>exact λj s v m p q=>k a n j s v rfl m p q (Ok.g h m)
 | er e i=>exact h
def Ok.j {rd:G uA->u->O->Prop}{a:u}{v:O}(h:Ok P rd d tf (.ok a n) Q E)(b:St P tf t n d)(c:rd tf a v):Q v t:=h tf t v (zB.f _) b c
theorem Ok.o {rd:G uA->u->O->Prop}{i:Nat}(h:Ok P rd d tf (.er e i) Q E) (a:St P tf t n' d'):E (tz P e i) t:=h tf t n' d' (zB.f _) a
def St.aj(h:St P tf t n d):xC t P.b none [P.d,.e .i64 (n:Int),.e .i64 (d:Int),.e .i64 (P.e:Int),.e .i64 (P.f:Int)]:=h.g.d (A:=[])
def nl{o:Nat}:nR (.j b o)=some (.j b o):=rfl
def f0  : jB Y 141 0 (.j b 0)=some (.j b 0):=by kernel_rfl
def f1  : jB Y 141 1 (.j b 0)=some (.j b 1):=by kernel_rfl
def f2  : jB Y 141 2 (.j b 0)=some (.j b 2):=by kernel_rfl
def f3  : jB Y 141 3 (.j b 0)=some (.j b 3):=by kernel_rfl
def St.l0(h:St P tf t n d):oA Y 136 ⟨0,t⟩ (.j P.b 0)=some P.d:=h.aj.f aW rfl rfl
def St.l1(h:St P tf t n d):oA Y 3 ⟨0,t⟩ (.j P.b 1)=some (.e .i64 (n:Int)):=h.aj.f cL rfl rfl
def St.l2(h:St P tf t n d):oA Y 3 ⟨0,t⟩ (.j P.b 2)=some (.e .i64 (d:Int)):=h.aj.f cL rfl rfl
def St.l3(h:St P tf t n d):oA Y 39 ⟨0,t⟩ (.j P.b 3)=some (.i [.e .i64 (P.e:Int),.e .i64 (P.f:Int)]):=by
 have:=h.aj.p.e (j:=3) (n:=2) cZ rfl rfl (by simp)
 simp_all
def St.bc(h:St P tf t n d):bA t 4 (P.a.map xD.d) P.d:=h.p.a h.g.b
def St.aa(h:St P tf t n d):vC P.d=some (.e .i64 (P.a.length:Int)):=by
 have:=h.p.c
 rwa [C5]at this
def H9(x:xD):mK Mh (.i x.f)=some (AN x.f):=aQ rfl
theorem R0(x:xD):(AN x.f).i 0=(x.b:Int):=rfl
def ua(x:xD):(AN x.f).s 1=x.a:=rfl
def cT2(x:xD):(AN x.f).i 2=(x.c:Int):=rfl
def cT3(x:xD):(AN x.f).i 3=(x.e:Int):=rfl
def Nr(h:St P tf t n d):oB Y F 77 [.j P.b 0] t=some (.i (lH P n).f):=by
 refine lC.2 (w77 ?_);simp only[uI,uG,rC,V,uY,S5,t77,iA,nl,f0,f1,f3,h.l0,h.l1,h.aa,xA,yC,iE];by_cases j:n<P.a.length
 .rw[A5 (by omega)];have a:P.a[n]?=some P.a[n]:=D0 j;have i:(P.a.map xD.d)[n]?=some P.a[n].d:=by simp_all
  obtain⟨b,o,k,c,f,_,_,g⟩:=pj.at (λh=>by cases h) h.bc i;rw[c,xA,f,xA];have e:=jl g;subst e;show oD (mK Mh (.i P.a[n].f)) _;rw[H9,xA];simp only[if_true,R0,ua,cT2,cT3];unfold lH;rw[a];exact⟨rfl,trivial⟩
 .rw[A3 (by omega),h.l3,xA];have a:P.a[n]?=none:=List.getElem?_eq_none (by omega);show oD (some (AN _)) _;rw[xA];simp only[if_true];unfold lH;rw[a];exact⟨rfl,trivial⟩
theorem zyg  : B0 P.a w n=((decide ((lH P n).b=1)||decide ((lH P n).b=4))&&sF (lH P n).a w):=by
 grind [B0,lH]
theorem Sz (a:0<k):cK P.a k n=decide ((lH P n).b=k):=by
 grind [cK,lH]
theorem AZ:yN P.a n=(lH P n).a:=by
 grind [yN,lH]
def St.r(h:St P tf t n d) (c:n'<=P.a.length):∃t',(∀q,mC Y 3 (.j P.b 1) (.e .i64 (n':Int)) ⟨q,t⟩=some (aD,⟨q,t'⟩))/\St P tf t' n' d:=by
 obtain⟨t',a,b⟩:=xB.a (A:=[]) (j:=1) (v:=.e .i64 (n':Int)) h.g cL rfl (by show 1+1<=5;omega) rfl;exact⟨t',a,h.p,b,h.f,c,h.a,h.e⟩
def St.am(h:St P tf t n d)  : ∃t',(∀q,mC Y 3 (.j P.b 2) (.e .i64 (d':Int)) ⟨q,t⟩=some (aD,⟨q,t'⟩))/\St P tf t' n d':=by
 obtain⟨t',a,b⟩:=xB.a (A:=[]) (j:=2) (v:=.e .i64 (d':Int)) h.g cL rfl (by show 2+1<=5;omega) rfl;exact⟨t',a,h.p,b,h.f,h.m,h.a,h.e⟩
theorem AH (h:B0 P.a w n=true):n<P.a.length:=by
 grind [B0]
theorem Iy (h:St P tf t n d)(i:∀t',St P tf t' (if B0 P.a w n then n+1 else n) d->Q (.d (B0 P.a w n)) t'):Wc Y F 78 [.j P.b 0,.h w] t Q:=by
 refine w78 ?_;simp only[w9,uI,uG,rB,rC,t78,iA];rw[q77,Nr h,xA,H9,xA];have a:=zyg (P:=P) (n:=n) (w:=w);simp only[if_true,R0,ua,nl,f1,xA,rI];have c:sF (lH P n).a w=true->(decide ((lH P n).b=1)||decide ((lH P n).b=4))=true->oD (oA Y 3 ⟨0,t⟩ (.j P.b 1)) (λv=>oD (J3 .i64 v) λn'=>∀b,t.c b=none->Y.a<=b->oD (mC Y 3 (.j P.b 1) (uC n') ⟨b,t⟩) λp=>Q (.d (sF (lH P n).a w)) p.2.t):=by
  intro e f;rw[e,f]at a;have a:B0 P.a w n=true:=a;rw[h.l1,xA,yC,xA];intro b _ _;have g:=AH a;have j:=h.f;obtain⟨t',k,l⟩:=h.r (n':=n+1) (by omega)
  grind [A2,xA]
 grind
def OU(h:St P tf t n d):oB Y F 151 [.j P.b 0] t=some (.d (pU P.a n)):=by
 refine lC.2 (w151 ?_);simp only[uB,uG,rB,t151,iA];rw[q77,Nr h,xA,H9,xA];simp only[if_true,R0,ua,rI,q60,Kw,xA,O.r];unfold pU;rw[Sz (by omega),AZ];by_cases a:(lH P n).b=1
 all_goals grind
def zi5 (h:St P tf t n d)(a:E (tz P e n) t):vL Y F E 39 [.j P.b 0,.e .i64 (e:Int)] t Q:=by
 refine w39 ?_;unfold t39 uG V uY;refine aA ?_;rw[pQ 77,Nr h,xA];refine aC (H9 _) (tA rfl ?_);refine aA (pX _ _ _ ?_);exact a
theorem Ok.l {rd:G uA->u->O->Prop} (h:St P tf t n d)(b:Ok P rd d tf (.er e n) Q E){a:mB}:lF Y F dC zG E 39 [.j P.b 0,.e .i64 (e:Int)] t a:=by
 rw[pE 39];exact zi5 h (b.o h)
def qm(_:G uA)(s:List Nat)(v:O):Prop:=v=.h s
def rdU (_:G uA)(_:Unit)(v:O):Prop:=v=.p []
def Y2(_:G uA)(s:Int)(v:O):Prop:=v=.e .i64 s
def oe (_:G uA)(s:Nat)(v:O):Prop:=v=.e .u8 (s:Int)
def qn(k:Nat)(_:G uA)(s:List Nat)(v:O):Prop:=∃x:xD,x.b=k/\x.a=s/\v=.i x.f
def Jy (c:0<k)(h:St P tf t n d)(a:Ok P (qn k) d tf (yK P.a k n) Q E):vL Y F E 68 [.j P.b 0,.e .u8 (k:Int)] t Q:=by
 refine w68 ?_;unfold t68 uG V uY;refine aA ?_;rw[pQ 77,Nr h,xA];refine aC (H9 _) (tA rfl ?_);unfold yK at a;rw[Sz c]at a;by_cases f:(lH P n).b=k
 .rw[decide_eq_true f,A5 rfl]at a;refine wB (by grind [R0,uF]) (sC (j68_9 ?_));unfold t68_9 uI uC rC V uY;refine vA nl (vA f1 (iB h.l1 (tB (vA nl (vA f1 (jC λb _ _=>?_))))));have g:n<P.a.length:=by
   grind [lH]
  have l:=h.f;obtain⟨m,i,j⟩:=h.r (n':=n+1) (by omega);have e:cA .i64 ((n:Int)+1)=((n+1:Nat):Int):=by
   grind [A2]
  rw[e];refine⟨_,_,i b,tA rfl ?_⟩;exact Ok.j a j ⟨lH P n,f,by rw[AZ],rfl⟩
 .rw[decide_eq_false f,A3 (by simp)]at a;refine tA (by grind [R0,uF]) (aA (Ok.l h a))
def Kv(h:St P tf t n d)(a:Ok P qm d tf (mL P.a n) Q E):vL Y F E 96 [.j P.b 0] t Q:=by
 refine w96 ?_;unfold t96 uB uG V uY;refine aA ?_;rw[pQ 151,OU h,xA];refine cC ?_;unfold mL at a
 cases f:pU P.a n with
 | false=>
  rw[f,A3 (by simp)]at a;exact tA rfl (aA (Ok.l h a))
 | true=>
  rw[f,A5 rfl]at a;refine wB (by simp) (aA ?_);rw[pE 68];refine Jy (k:=1) (by omega) h ?_;have b:cK P.a 1 n=true:=by grind [pU]
  unfold yK;rw[b,A5 rfl];intro c l v g i ⟨x,_,e,j⟩;subst j;refine aC (H9 _) ?_;exact a c l _ g i (by show O.h x.a=.h _;rw[e])
end
end Go.Proofs
namespace Go.Proofs
open Go Go.Am
def zz:List (List Nat):=[[],[116,114,117,116,104],[110,117,109,98,101,114],[109,111,110,101,121],[100,97,116,101],[100,97,121,115],[109,111,110,116,104,115]]
def Y3(t:G uA):Prop:=At t 0 0 (zz.map O.h)
end Go.Proofs
namespace Go.Am
open Go Go.RowKit
def Em{a:Type}(f:Nat->Option a):Nat->G a
 | 0=>.aj
 | n+1=>match f n with
  | some v=>(Em f n).d n v
  | none=>Em f n
theorem Da{b:Type}(f:Nat->Option b):∀(n a:Nat),(Em f n).c a=if a<n then f a else none:=by
 intro n;induction n with
 | zero=>intro a;rw[A3 (by omega)];exact G.ah _
 | succ n c=>
  grind [Em,G.aa]
def Gf (N:Nat):Value->Option O
 | .bool b=>some (.d b)
 | .int k n=>some (.e k n)
 | .string s=>some (.h (rG s))
 | .slice none 0 0=>some .g
 | .slice (some _) 0 0=>some (.m 0 0 0 0)
 | .slice (some ⟨b,d,none⟩) c a=>if b<N then some (.m (256+b) d c a)else none
 | _=>none
def P0 (N:Nat):Obj->Option uA
 | .cells a _ _=>some (.aa (Em (λj=>(a[j]?).bind (Gf N)) a.size) a.size none)
 | _=>none
def xQ (w:World):G uA:=Em (λa=>if a<256 then(w.heap[a]?).bind (P0 w.heap.size)else(w.heap[a-256]?).bind (P0 w.heap.size)) (256+w.heap.size)
def dm (w:World):Mu:=⟨λa=>if a<256 then some ⟨a,true,0,0,true⟩else if a<256+w.heap.size then some ⟨a-256,true,0,0,true⟩else none,λ_=>none⟩
section
variable {w:World}
theorem zpz{v:Value}{a:O}(h:Gf w.heap.size v=some a):rA (dm w) a v:=by
 unfold Gf at h;split at h
 .cases h;rw[rA]
 .cases h;rw[rA]
 .grind [rA]
 .cases h;rw[rA]
 .grind [rA]
 .split at h
  .rename_i f;cases h;rename_i b e d c _;rw[rA];refine .inl ⟨⟨b,true,0,0,true⟩,c,?_,rfl,B4 _,λ_=>rfl,λh=>by cases h⟩;show(if 256+b<256 then some (⟨256+b,true,0,0,true⟩:BI)else if 256+b<256+w.heap.size then some ⟨256+b-256,true,0,0,true⟩else none)=_;rw[A3 (by omega),A5 (by omega),show 256+b-256=b by omega]
  .cases h
 .cases h
theorem UM{o:Obj}{x:uA}(h:P0 w.heap.size o=some x)(b:Nat):kK (dm w) ⟨b,true,0,0,true⟩ x o/\x.d=none/\x.b=none:=by
 cases o<;>first | (cases h;done) | skip
 rename_i c a d;cases h;refine⟨⟨c,a,d,rfl,B4 _,.inl rfl,λj v e=>?_,rfl⟩,rfl,rfl⟩
 grind [Da,zpz]
def qo:lB (256+w.heap.size) w.heap.size (dm w) ⟨256+w.heap.size,xQ w⟩ w:=by
 have m:∀a x,(xQ w).c a=some x->∃b o,b<w.heap.size/\w.heap[b]?=some o/\P0 w.heap.size o=some x/\a<256+w.heap.size/\b=(if a<256 then a else a-256):=by
  grind [xQ,Da]
 have c:∀a,(dm w) a=if a<256 then some ⟨a,true,0,0,true⟩else if a<256+w.heap.size then some ⟨a-256,true,0,0,true⟩else none:=λ_=>rfl;have f:∀a,256+w.heap.size<=a->(dm w) a=none:=λa h=>by rw[c,A3 (by omega),A3 (by omega)]
 have d:∀a x i,(xQ w).c a=some x->(dm w) a=some i->∃o,w.heap[i.b]?=some o/\i.b<w.heap.size/\P0 w.heap.size o=some x/\i=⟨i.b,true,0,0,true⟩:=by
  grind
 refine⟨by omega,λg q=>by rw[c,A5 q],λa x i _ l e=>?_,B4 _,B4 _,λa k=>⟨f a k,?_⟩,λa x i l e=>?_,λa i k e=>?_,λa b x y i j l _ e _ k _ _=>?_,λa x t h=>by cases h⟩
 .obtain⟨o,_,n,p,_⟩:=d a x i l e;exact⟨n,(UM p 0).2⟩
 all_goals grind [xQ,Da,UM]
end
end Go.Am
namespace Go.Am
open Go Go.RowKit
def Y4(P:Program):Nat->List Field->Nat->Bool
 | a,[],n=>a == n
 | a,f::b,n=>f.offset == a&&Y4 P (a+P.cellsOf f.type) b n
structure Plain (P:Program) (S:TypeId->Prop):Prop where
 part:∀t,S t->match P.underlying t with
  | some .bool=>True
  | some (.int _)=>True
  | some .string=>True
  | some (.slice e)=>S e/\0<P.cellsOf e
  | some (.struct fs)=>(∀f∈fs.toList,S f.type)/\Y4 P 0 fs.toList (P.cellsOf t)=true
  | _=>False
end Go.Am
namespace Go.Am
open Go Go.RowKit
structure zth (P:Program) where
 (b i u8 ax s ap ak au be ac aw ay ba ah am az bc aa aj bg:TypeId)
 hb:P.underlying b=some .bool
 hi:P.underlying i=some (.int .i64)
 hu8:P.underlying u8=some (.int .u8)
 hu16:P.underlying ax=some (.int .u16)
 hs:P.underlying s=some .string
 f:P.underlying ap=some (.slice ax)
 g:P.underlying aw=some (.slice ac)
 l:P.underlying ba=some (.slice ay)
 c:P.underlying am=some (.slice ah)
 m:P.underlying bc=some (.slice az)
 a:P.underlying aj=some (.slice aa)
 h:∃fs,P.underlying ak=some (.struct fs)/\fs.toList.map (·.type)=[b,ap]
 n:∃fs,P.underlying au=some (.struct fs)/\fs.toList.map (·.type)=[ak,ak]
 hval:∃fs,P.underlying be=some (.struct fs)/\fs.toList.map (·.type)=[u8,au,i]
 o:∃fs,P.underlying ac=some (.struct fs)/\fs.toList.map (·.type)=[u8,s,be,aw]
 hrow:∃fs,P.underlying ay=some (.struct fs)/\fs.toList.map (·.type)=[i,i,i,au]
 j:∃fs,P.underlying ah=some (.struct fs)/\fs.toList.map (·.type)=[s,b,ba]
 hdfn:∃fs,P.underlying az=some (.struct fs)/\fs.toList.map (·.type)=[s,u8,b]
 d:∃fs,P.underlying aa=some (.struct fs)/\fs.toList.map (·.type)=[s,s,i,i,i,b,ac,ac]
 p:∃fs,P.underlying bg=some (.struct fs)/\fs.toList.map (·.type)=[s,bc,am,aj]
 cu16:P.cellsOf ax=1
 q:P.cellsOf ac=9
 crow:P.cellsOf ay=7
 k:P.cellsOf ah=3
 cdfn:P.cellsOf az=3
 e:P.cellsOf aa=24
 r:1<=P.bytesOf ax/\1<=P.bytesOf ac/\1<=P.bytesOf ay/\1<=P.bytesOf ah/\1<=P.bytesOf az/\1<=P.bytesOf aa
namespace zth
end zth
end Go.Am
namespace Go.Am
open Go Go.RowKit Go.Proofs
def za0[fC](B N:Nat)(j:B<=256+fC.n):Pq Tryz.prog Y B N bJ:=by
 intro f g a i H v k b m w d e l h;have a:wv.c f=some g:=a;unfold wv at a;rcases mS a with⟨rfl,rfl⟩ | a
 .grind [mY,LA]
 rcases mS a with⟨rfl,rfl⟩ | a
 .grind [mY,LD]
 rcases mS a with⟨rfl,rfl⟩ | a
 .grind [mY,za1]
 rcases mS a with⟨rfl,rfl⟩ | a
 .exact mY b e λb=>LF (Bd (fn:=Tryz.f229) Tryz.func229 (by kernel_rfl)) (λs c=>Tryz.strings_IndexByte s c _) b h
 rcases mS a with⟨rfl,rfl⟩ | a
 .grind [mY,zmv]
 rcases mS a with⟨rfl,rfl⟩ | a
 .grind [mY,LG]
 rcases mS a with⟨rfl,rfl⟩ | a
 .exact .inr (LC j e b h)
 rcases mS a with⟨rfl,rfl⟩ | a
 .exact .inr (LH j e b h)
 rcases mS a with⟨rfl,rfl⟩ | a
 all_goals grind [mY,za2,G.ah]
def qp[fC](a:6<=fC.n):rM Tryz.prog Y (256+fC.n) fC.n bJ:=
 ⟨wx rfl,Yn rfl,za0 _ _ (B4 _),B4 _,by kernel_rfl,λ_ _ b h=>h.below a b⟩
section
variable {w:World}
def zvm{b:Nat}{y:uA}(h:(xQ w).c b=some y):b<256+w.heap.size:=by
 grind [xQ,Da]
def zal(c:bJ w)(f:Nat)(args:List O)(args':Array Value)(o:∀ [fC],Y.c.c f=none)(n:bB (dm w) args args'.toList)
  (h:∀ [fC],∃Q:mB,Wc Y F f args (xQ w) Q/\∀v t,Q v t->v=.d true) (m:Nat.blt f yo=true:=by rfl) :
  Calls Tryz.prog f args' w λe w'=>e=.returned (.bool true)/\Below w.heap.size w w':=by
 letI:fC:=⟨w.heap.size⟩
 obtain⟨Q,j,k⟩:=h;refine(ZF (H:=⟨256+w.heap.size,xQ w⟩) (qp c.c) c zxv o (B4 _) (λb y l=>zvm l) qo n j m).mono λe w' ⟨v,s,p,q,d,r,a,g,i⟩=>?_;have:=k v p g;subst this;rw[rA]at a;exact⟨by rw[d,a],i⟩
def zit(h:bJ w):∀ [fC],cM (xQ w):=by
 intro _;obtain⟨t,h⟩:=h.d;have c:=(H4.1 h).1;have e:(xQ w).c 3=some (.aa (Em (λj=>((Ig aV).toArray[j]?).bind (Gf w.heap.size)) (Ig aV).toArray.size) (Ig aV).toArray.size none):=by
  unfold xQ;rw[Da,A5 (by omega),A5 (by omega),h];rfl
 refine⟨_,_,_,e,λj a b=>?_⟩
 grind [Da,Lc,aV,Ig,Gf]
def PW(h:bJ w):∀ [fC],vT (xQ w):=by
 intro _;obtain⟨t,h⟩:=h.b;have i:=(H4.1 h).1;have e:(xQ w).c 1=some (.aa (Em (λj=>((lR zU).toArray[j]?).bind (Gf w.heap.size)) (lR zU).toArray.size) (lR zU).toArray.size none):=by
  unfold xQ;rw[Da,A5 (by omega),A5 (by omega),h];rfl
 refine⟨_,_,_,e,λj a c=>?_⟩;rw[Da,D8];have g:j<Cs.length:=by
  grind
 rw[G4]at c;have f:Cs=zU.map λb=>b.map UInt8.toNat:=rfl;rw[f]at c g;rw[G4]at c
 cases d:zU[j]? with
 | none=>simp_all
 | some b=>
  rw[d]at c;obtain rfl:=D9 c;rw[A5 (by grind [lR])];simp only[lR,List.getElem?_toArray,G4,d,Option.map_some,Z6,Gf];rfl
def zoj(h:bJ w):∀ [fC],Y3 (xQ w):=by
 intro _;obtain⟨t,h⟩:=h.a;have i:=(H4.1 h).1;have e:(xQ w).c 0=some (.aa (Em (λj=>((lR rU).toArray[j]?).bind (Gf w.heap.size)) (lR rU).toArray.size) (lR rU).toArray.size none):=by
  unfold xQ;rw[Da,A5 (by omega),A5 (by omega),h];rfl
 refine⟨_,_,_,e,λj a c=>?_⟩;rw[Da,D8];have g:j<zz.length:=by
  grind
 rw[G4]at c;have f:zz=rU.map λb=>b.map UInt8.toNat:=rfl;rw[f]at c g;rw[G4]at c
 cases d:rU[j]? with
 | none=>simp_all
 | some b=>
  rw[d]at c;obtain rfl:=D9 c;rw[A5 (by grind [lR])];simp only[lR,List.getElem?_toArray,G4,d,Option.map_some,Z6,Gf];rfl
def ziu(h:bJ w):∀ [fC],sL (xQ w):=by
 intro _;have a:=zoj h;have b:=PW h;have c:=zit h;unfold Y3 at a;unfold vT at b;unfold cM at c;exact⟨a,b,c⟩
end
end Go.Am
namespace Go.Am
open Go Go.RowKit Go.ChangeShapes Go.WideShapes Go.ChangeAt
variable {f:FuncId}{s:ChangeSpec}{fn:Func}
section
variable {H:Type}{enc:TypeId × Value->H}{P:Program}
def HZ(j:laidOutB P=true){W g:World}(i:Below W.heap.size W g):∀ {a:List TypeId} {l:List Value} {ds:List (DataW H)} {ps:List MemPlace},(∀t∈a,P.readableRec t=true/\t<P.types.size) →
  DataW.TrodAll enc P W 0 (λ_=>true) true a l ds ps->(∀x∈ps,x.block<W.heap.size)->DataW.TrodAll enc P g 0 (λb=>decide (b<W.heap.size)) true a l ds ps
 | [],[],[],_,_,h,_=>h
 | t::a,_::_,_::_,_,c,⟨p,q,m,n,e⟩,k=>by
  subst e;exact⟨p,q,Below.trod j (c t (by simp)).1 (c t (by simp)).2 m i λx f=>k x (M0 _ f),
   HZ j i (λt d=>c t (C9 _ d)) n λx f=>k x (E3 _ f),rfl⟩
 | [],_::_,_,_,_,h,_=>by simp[DataW.TrodAll]at h
 | [],[],_::_,_,_,h,_=>by simp[DataW.TrodAll]at h
 | _::_,[],_,_,_,h,_=>by simp[DataW.TrodAll]at h
 | _::_,_::_,[],_,_,h,_=>by simp[DataW.TrodAll]at h
def P4(r:laidOutB P=true){f:Func} {tb:TypeId}(v:∀t∈f.params.toList,P.readableRec t=true/\t<P.types.size)(l:s.vars=[])(d:f.resultTypes = #[tb])(e:P.underlying tb=some .bool)
  {W g:World} {args:Array Value} {ds m:List (DataW H)} {a:List MemPlace} (b:s.fn H ds={ results:=[.lit (.bool true)],args:=ds })
  (j:DataW.Whole enc P f.params.toList s.vars false W args.toList ds m a) (k:Below W.heap.size W g) :
  s.post enc P f false true false false W args (.bool true) g:=by
 have c:=j;obtain⟨p,q,n,i,rfl,o,u⟩:=j;rw[l]at i;obtain⟨rfl,rfl⟩:=trodVars_none i;refine⟨ds,[],p++[],[],p,[],c,?_,?_,?_,k.frame _,λh=>by cases h⟩
 .rw[Do,b,d];exact trodAll_mk1 (shut_bool e _)
 .rw[Do,b];exact HZ r k v n λx w=>c.lt x (by simp_all)
 .rw[Do,b,l];exact rfl
def zaa{a:Assume}{C:Checked}{os:Os}   {l:List PathCond}{b m g k:Bool}{X:World->Array Value->Prop}
  (J:∀(w w':World) (args:Array Value),w.heap=w'.heap->X w args->X w' args)
  (E:ownKnob C.prog.godebug=none) (n:os.Started) (p:C.prog.inits.idxOf? f=none) (z:C.prog.funcs[f]?=some fn)
  (o:∃(w:World) (c:Tape) (i:Input),w.os=os/\(w.forCall c i).Shaped C.prog/\i.vars=[]/\Input.okWide C.prog (w.forCall c i) .any w.heap.size f i ∧
   ((s.pre enc C.prog fn l b (w.forCall c i).memory i.args/\X (w.forCall c i).memory i.args)/\sizedMet enc C.prog fn (OpenSpec.ofChange s) b (w.forCall c i).memory i.args)/\a.holds C.prog (lone (Frame.enter C.prog f i.args .normal) [] (w.forCall c i)))
  (h:∀(W:World) (base:Nat) (args:Array Value) (ds x:List (DataW H)) (d:List MemPlace),
   (∀(j:Nat) t v,fn.params[j]?=some t->args[j]?=some v->Value.okWide C.prog W .any base t v) →
   DataW.Whole enc C.prog fn.params.toList s.vars b W args.toList ds x d →
   (DataW.weightsEach C.prog (fn.params.toList++s.plain.varTypes C.prog) (ds++x)).all (· <= reachBytes)=true->X W args->W.ShapedOpen C.prog →
   Calls C.prog f args W λe F=>∃v,e=.returned v/\s.post enc C.prog fn b m g k W args v F) :
  ReturnsInHanded a C os f .any (λw args=>(s.pre enc C.prog fn l b w args/\X w args)/\sizedMet enc C.prog fn (OpenSpec.ofChange s) b w args) (s.post enc C.prog fn b m g k):=by
 refine returnsInHanded_of_calls E n p o ?_;intro w c i _ B _ A r _;obtain⟨_,_,_,y,q,_,_,_,_,u⟩:=A;have e:y=fn:=D9 (q.symm.trans z);subst e;obtain⟨⟨⟨ds,x,d,I,M⟩,K⟩,L⟩:=r;have D:=DataW.Whole.of_heap (w':=w.forCall c i) (by rfl) I;refine(h (w.forCall c i) w.heap.size i.args ds x d u D (L.weights I) (J _ _ _ (by rfl) K) B).mono λe F ⟨v,N,P⟩=>?_
 grind [ChangeSpec.post_blind]
variable {w:World}{base:Nat}{d:Nat->Bool}{f:Bool}{fuel:Nat}{t e:TypeId}{cs:List Value}{ps:List MemPlace}
def AC{j:Type}{g:j->DataW H}{u:j->Value}{l:List j}{n:Nat}(B:P.underlying t=some (.array n e))(q:P.cellsOf e=1)(A:P.cellsOf t=n)
  (F:∀(m:Nat) (c:List Value) (x:DataW H × List MemPlace) (a:j),DataW.trod enc P w base d f m e c=some x->x.1=g a->c=[u a])
  (h:DataW.trod enc P w base d f fuel t cs=some (.agg (l.map g),ps)):cs=l.map u:=by
 obtain⟨E,m,_,p,b,D,o⟩:=DataW.trod_array B h;simp only[Prod.mk.injEq,DataW.agg.injEq]at p;have y:l.length=n:=by have:=congrArg List.length p.1;grind
 rw[A]at b;refine List.ext_getElem (by rw[b,C5,y]) λi s v=>?_;have r:i<n:=by omega
 have:=o i r;rw[q]at this;have k:((cs.drop (i*1)).take 1)=[cs[i]]:=by
  grind [List.drop_eq_getElem_cons]
 rw[k,D0 (by omega)]at this;have C:E[i].1=g (l[i]'(by omega)):=by
  have:=congrArg (λz=>z[i]?) p.1
  grind
 grind
def IU(g:P.underlying e=some .string)(m:Nat)(c:List Value)(x:DataW H × List MemPlace)(b:List UInt8)(h:DataW.trod enc P w base d f m e c=some x)(a:x.1=.lit (.string b)):c=[.string ⟨b.toArray⟩]:=by
 obtain⟨s,rfl,rfl,_⟩:=DataW.trod_string g h;simp at a;rw[<- a]
def zn4(b:P.underlying e=some (.int .i64))(m:Nat)(c:List Value)(x:DataW H × List MemPlace)(n:Int)(h:DataW.trod enc P w base d f m e c=some x)(a:x.1=.lit (.int .i64 n)):c=[.int .i64 n]:=by
 obtain⟨k,rfl,rfl,_⟩:=DataW.trod_int b h;simp at a;rw[a]
end
def K6{P:Program}   {c:OpenClaim}
  (A:(c.wf (OpenSpec.ofChange s)&&laidOutB P&&mapsRowed P&&fn.params.all (P.readableRec ·)&&namedTie P c.named s.vars&&(c.stops == [])&&(P.stops == [])&&(c.knobs == [])&&(P.stopKnobs == []))=true)
  (a:(c.inPlace == P.inPlace f)=true) (b:(c.unfollowed == P.unfollowed f)=true) (d:(c.recurses == P.recurses f)=true) (e:(c.named == P.varsNamed f)=true)
  (E:((c.maps == (fn.params.toList++s.plain.varTypes P).any (P.mapsRec ·))&&(c.ifaces == (fn.params.toList++s.plain.varTypes P).any (P.ifacesRec ·))&&(c.mapsOut == P.mapsAmong fn.resultTypes.toList) &&
   (c.loops == (fn.params.toList++s.plain.varTypes P).any (P.loopsFrom ·))&&(c.wideKeys == (fn.params.toList++s.plain.varTypes P++fn.resultTypes.toList).any (P.wideKeysFrom ·)) &&
   s.vars.all (P.varReadable ·)&&fn.resultTypes.all (λt=>P.readableRec t&&decide (t<P.types.size))&&(c.ifacesOut == fn.resultTypes.toList.any (P.ifacesRec ·))&&(c.loopsOut == fn.resultTypes.toList.any (P.loopsFrom ·))&&c.shortTexts.isNone)=true)
  (g:(c.plainKeys == P.plainKeys)=true) (h:P.stopsHeard=true) (i:P.mayEnter=true) (j:(c.lifted == P.liftsFinal)=true)
  (R:((P.make == some c.make)&&(c.kinds == (if c.domain.isEmpty then []else fn.params.toList.map λt=>match P.underlying t with | some (.int k)=>some k | _=>none))&&(c.pinned == c.pinnedBy) &&
   (c.veiled == (fn.params.toList++s.plain.varTypes P++fn.resultTypes.toList).any (P.veiledRec ·))&&c.veiledFits P fn.params.toList (fn.params.toList++s.plain.varTypes P++fn.resultTypes.toList))=true) :
  joinedFacts P f fn s c=true:=by
 unfold joinedFacts;simp only[B3]at A E R ⊢
 grind
end Go.Am
namespace Go.Proofs.YtefajchlhjcgpaaGreatDoor
open Go Go.Am Go.RowKit Go.ChangeShapes Go.WideShapes Go.ChangeAt
variable {W:World}{g:Nat}
def own:ownKnob Tryz.prog.godebug=none:=by kernel_rfl
def laidOut:laidOutB Tryz.prog=true:=by kernel_rfl
def gPow : Tryz.prog.globalNamed "internal/strconv.uint64pow10" = some 5 := by kernel_rfl
def gLens : Tryz.prog.globalNamed "annuitant/calendar.lengths" = some 3 := by kernel_rfl
def gKinds : Tryz.prog.globalNamed "annuitant/parse.kindWords" = some 0 := by kernel_rfl
def gModes : Tryz.prog.globalNamed "annuitant/parse.modeWords" = some 1 := by kernel_rfl
def tPow:(Tryz.prog.globals[5]?).map (·.type)=some 318:=by kernel_rfl
def tLens:(Tryz.prog.globals[3]?).map (·.type)=some 304:=by kernel_rfl
def tKinds:(Tryz.prog.globals[0]?).map (·.type)=some 223:=by kernel_rfl
def tModes:(Tryz.prog.globals[1]?).map (·.type)=some 223:=by kernel_rfl
def laid6 : List (String × DataW Unit) := [("math/bits.deBruijn32tab", Rows.laid_math_bits_deBruijn32tab), ("math/bits.deBruijn64tab", Rows.laid_math_bits_deBruijn64tab), ("internal/strconv.uint64pow10", Rows.laid_internal_strconv_uint64pow10), ("annuitant/calendar.lengths", Rows.laid_annuitant_calendar_lengths), ("annuitant/parse.kindWords", Rows.laid_annuitant_parse_kindWords), ("annuitant/parse.modeWords", Rows.laid_annuitant_parse_modeWords)]
def door_met(os:Os)(args:Array Value):laidMetH Tryz.prog laid6 ((World.doorLaid Tryz.prog 100 os).forCall (λ_ _=>0) ⟨#[],args,[]⟩).memory:=
 laidMetH_of_parts3 (fuel:=8) (laidMet_of_run' 8 (by kernel_rfl) (by kernel_rfl)) (by kernel_rfl) (by kernel_rfl)
def Vn {n:String} {cs:Array Value}(b:Tryz.prog.globalNamed n=some g)(d:W.var? Tryz.prog n=some cs)(a:∃c t,W.heap[g]?=some (.cells c t (0,0))):∃t,W.heap[g]?=some (.cells cs t (0,0)):=by
 grind [World.var?]
def Wn{n:Nat}{p q:List MemPlace}(h:0<n):MemPlace.cell g 0∈MemPlace.row ⟨g,0,none⟩ n++p++q:=
 M0 _ (M0 _ (G6.2 ⟨0,List.mem_range.2 h,rfl⟩))
def zv5:Rows.laid_internal_strconv_uint64pow10 (H:=Unit)=.agg (Ej.map λn=>.lit (.int .u64 n)):=by kernel_rfl
def znw:Rows.laid_annuitant_calendar_lengths (H:=Unit)=.agg (aV.map λn=>.lit (.int .i64 n)):=by kernel_rfl
def zhs:Rows.laid_annuitant_parse_kindWords (H:=Unit)=.agg (rU.map λb=>.lit (.string b)):=by kernel_rfl
def zhr:Rows.laid_annuitant_parse_modeWords (H:=Unit)=.agg (zU.map λb=>.lit (.string b)):=by kernel_rfl
def zlg{H:Type}{enc:TypeId × Value->H}{P:Program}{w:World}{base:Nat}{a:Nat->Bool}{b:Bool}{e:TypeId}(f:P.underlying e=some (.int .u64))(m:Nat)(c:List Value)(x:DataW H × List MemPlace)(n:Int)(h:DataW.trod enc P w base a b m e c=some x)(d:x.1=.lit (.int .u64 n)):c=[.int .u64 n]:=by
 obtain⟨k,rfl,rfl,_⟩:=DataW.trod_int f h;simp at d;rw[d]
def laid_of (h:laidMetH Tryz.prog laid6 W)(J:W.ShapedOpen Tryz.prog):bJ W:=by
 rw[MakeChecks.laidMetH_plain _ _ _ (by kernel_rfl)]at h;obtain⟨H,⟨_,_,_,_,_,_,_,_,_,_,⟨_,_,_,_,_,_,_,_,_,_,⟨g0,t0,r,f0,p0,q0,B,K,P,w,⟨g1,t1,s,f1,p1,q1,C,L,Q,y,⟨g2,t2,t,f2,p2,q2,D,M,R,z,⟨g3,t3,v,f3,p3,q3,E,N,S,A,_,I⟩,F⟩,k⟩,e⟩,i⟩,f⟩,_,d⟩:=h;obtain rfl:=D9 (gPow.symm.trans B);obtain rfl:=D9 (gLens.symm.trans C);obtain rfl:=D9 (gKinds.symm.trans D);obtain rfl:=D9 (gModes.symm.trans E);obtain rfl:=D9 (tPow.symm.trans K)
 obtain rfl:=D9 (tLens.symm.trans L);obtain rfl:=D9 (tKinds.symm.trans M);obtain rfl:=D9 (tModes.symm.trans N);have U:Tryz.prog.cellsOf 3=1:=by kernel_rfl
 have T:Tryz.prog.cellsOf 9=1:=by kernel_rfl
 have o:Tryz.prog.cellsOf 270=1:=by kernel_rfl
 have q:Tryz.prog.cellsOf 318=20:=by kernel_rfl
 have p:Tryz.prog.cellsOf 304=12:=by kernel_rfl
 have j:Tryz.prog.cellsOf 223=7:=by kernel_rfl
 rw[zv5]at w;rw[znw]at y;rw[zhs]at z;rw[zhr]at A;have X:r.toList=S1 Ej:=AC (l:=Ej) (g:=λn=>.lit (.int .u64 n)) (u:=λn=>.int .u64 n) Tryz.underlying318 o q (λm c x a=>zlg Tryz.underlying270 m c x a) w;have Z:s.toList=Ig aV:=AC (l:=aV) (g:=λn=>.lit (.int .i64 n)) (u:=λn=>.int .i64 n) Tryz.underlying304 U p (λm c x a=>zn4 Tryz.underlying3 m c x a) y;have e2:t.toList=lR rU:=AC (l:=rU) (g:=λb=>.lit (.string b)) (u:=λb=>.string ⟨b.toArray⟩) Tryz.underlying223 T j (λm c x a=>IU Tryz.underlying9 m c x a) z
 have e3:v.toList=lR zU:=AC (l:=zU) (g:=λb=>.lit (.string b)) (u:=λb=>.string ⟨b.toArray⟩) Tryz.underlying223 T j (λm c x a=>IU Tryz.underlying9 m c x a) A;have s0:r=(S1 Ej).toArray:=by rw[<- X]
 have s1:s=(Ig aV).toArray:=by rw[<- Z]
 have s2:t=(lR rU).toArray:=by rw[<- e2]
 have s3:v=(lR zU).toArray:=by rw[<- e3]
 subst s0 s1 s2 s3;have m0:MemPlace.cell 5 0∈H:=by
  rw[f,i,e];exact E3 _ (E3 _ (Wn (by decide)))
 have m1:MemPlace.cell 3 0∈H:=by
  rw[f,i,e,k];exact E3 _ (E3 _ (E3 _ (Wn (by decide))))
 have m2:MemPlace.cell 0 0∈H:=by
  rw[f,i,e,k,F];exact E3 _ (E3 _ (E3 _ (E3 _ (Wn (by decide)))))
 have m3:MemPlace.cell 1 0∈H:=by
  rw[f,i,e,k,F,I];exact E3 _ (E3 _ (E3 _ (E3 _ (E3 _ (Wn (by decide))))))
 exact⟨Vn D R (d 0 0 m2).1,Vn E S (d 1 0 m3).1,Vn C Q (d 3 0 m1).1,Tryz.laysM144.s1_3 W J,Vn B P (d 5 0 m0).1⟩
def stopsHeard:Tryz.prog.stopsHeard=true:=by kernel_rfl
def mayEnter:Tryz.prog.mayEnter=true:=by kernel_rfl
def bool4:Tryz.prog.underlying 4=some .bool:=Tryz.underlying4
end Go.Proofs.YtefajchlhjcgpaaGreatDoor
namespace Go.Am
open Go Go.RowKit Go.Proofs
def zpo(a:ByteArray):∀b∈rG a,b<256:=by
 intro b c;unfold rG at c;obtain⟨x,_,rfl⟩:=G6.1 c;exact x.toNat_lt
end Go.Am
namespace Go.Proofs.YtefajchlhjcgpaaGreatDoor
open Go Go.Am Go.RowKit
def val_str{W:World}{base:Nat}{v:Value}(h:Value.okWide Tryz.prog W .any base 9 v):∃s,v=.string s:=by
 have a:=Tryz.underlying9;unfold Value.okWide at h;rw[a]at h;have h:Value.ok Tryz.prog W .any base 9 v:=h;unfold Value.ok at h;rw[a]at h;cases v<;>first | exact⟨_,rfl⟩ | exact h.elim
end Go.Proofs.YtefajchlhjcgpaaGreatDoor
namespace Go.Am
open Go Go.RowKit
def G.bg(p:Nat->Bool)(t:G uA):∀n:Nat,∃t':G uA,∀b,t'.c b=if b<n/\p b=true then none else t.c b:=by
 intro n;induction n with
 | zero=>exact⟨t,λb=>by simp⟩
 | succ n c=>
  obtain⟨t',h⟩:=c
  cases d:p n with
  | false=>exact⟨t',λb=>by rw[h];by_cases a:b=n<;>grind⟩
  | true=>exact⟨t'.q n,λb=>by rw[G.e,h];by_cases a:b=n<;>grind⟩
section
variable {C:fA}{F:G kE}{f:Nat}{args:List O}{tf t:G uA}{Q:mB}
def Wc.e(h:Wc C F f args tf Q)(j:zB tf t):Wc C F f args t λv t'=>∃d,Q v d/\zB d t'/\∀b y,t.c b=some y->tf.c b=none->t'.c b=some y/\d.c b=none:=by
 intro X s e;have B:Ov C.a tf (λb=>match tf.c b with | some _=>none | none=>match t.c b with | some y=>some y | none=>X b) s:=by
  refine⟨e.d,λb a=>?_,λb y a=>?_,λb y a=>e.j _ _ (j _ _ a)⟩
  .cases l:tf.c b with
   | some y=>rw[e.q (j _ _ l)]
   | none=>
    simp only[l]at a
    cases c:t.c b with
    | some y=>simp_all
    | none=>simp only[c]at a;rw[e.f b a,c]
  .cases l:tf.c b with
   | some y=>simp_all
   | none=>
    simp only[l]at a
    cases c:t.c b with
    | some z=>simp only[c]at a;cases a;exact⟨e.q c,rfl,e.j _ _ c⟩
    | none=>simp only[c]at a;obtain⟨u,w,x⟩:=e.a _ _ a;simp_all
 obtain⟨v,d,g,i,l,c,r,A⟩:=iR.1 (h _ _ B);have E:∀b y,t.c b=some y->tf.c b=none->i b=some y:=λb y n o=>r b y (by simp_all);obtain⟨t',k⟩:=G.bg (λb=>(i b).isSome && !(tf.c b).isNone.not && !((t.c b).isSome&&(tf.c b).isNone)) g.t g.a;have q:=c.d;refine iR.2 ⟨v,t',g,λb=>if ((i b).isSome && !(tf.c b).isNone.not && !((t.c b).isSome&&(tf.c b).isNone))=true then i b else none,l,⟨c.d,λb a=>?_,λb y a=>?_,λb y a=>?_⟩,?_,d,A,?_,?_⟩
 .grind
 .split at a
  .rename_i D;obtain⟨u,w,x⟩:=c.a b y a
   grind
  grind
 .rw[k]at a;split at a
  .cases a
  .cases m:i b with
   | some z=>exact(c.a b z m).2.2
   | none=>rw[c.f b m]at a;exact c.j b y a
 .intro b y a;have n:t.c b=none:=(e.a b y a).2.1;have o:tf.c b=none:=by
   cases m:tf.c b with
   | none=>rfl
   | some z=>rw[j _ _ m]at n;cases n
  have p:i b=some y:=r b y (by simp_all)
  simp_all
 .intro b y a;rw[k];split
  .rename_i D
   cases m:i b with
   | none=>simp_all
   | some z=>rw[(c.a b z m).2.1]at a;cases a
  .exact c.q a
 .intro b y n o;have p:=E b y n o;refine⟨?_,(c.a b y p).2.1⟩;rw[k,A3]
  .exact(c.a b y p).1
  simp_all
def Wc.c{R:O->G uA->Prop}{L:List kF}(h:Wc C F f args tf λv a=>zB tf a/\R v a)(b:xB C.a tf t L)(e:∀v a t',zB tf a->xB C.a a t' L->R v a->Q v t'):Wc C F f args t Q:=by
 refine(Wc.e h b.b).a λv t' ⟨a,⟨d,i⟩,j,l⟩=>e v a t' d ?_ i;refine b.ah d j λk c=>?_;obtain⟨y,g⟩:=b.am c;obtain⟨m,n⟩:=l k y g (b.f k c).2
 simp_all
end
end Go.Am
namespace Go.Proofs
open Go Go.Am
variable {w b cap k:Nat}{l u:List Nat}
variable [fC]
def qq:Gi Y 253 254 1:=⟨⟨_,lN,rfl,rfl⟩,⟨_,tI,rfl,rfl,by decide,by decide⟩⟩
def mT (l:List Nat):List O:=l.map fun(n:Nat)=>O.e .u32 (n:Int)
def zlh(l:List Nat):(mT l).length=l.length:=by simp[mT]
theorem xC.e{t:G uA}{n:Nat} (h:xC t b none (mT l))(q:n<=l.length)(o:n<=cap):bA t 1 (tC .u32 (l.take n)) (.m b 0 n cap):=by
 obtain⟨c,e,m⟩:=h;refine⟨(l.take n).map fun(x:Nat)=>[O.e .u32 (x:Int)],.inr ⟨b,0,cap,?_,by grind,⟨c,_,_,e,.inl rfl⟩,λi k d=>?_⟩,?_⟩
 .grind
 .rw[G4]at d
  cases f:(l.take n)[i]? with
  | none=>simp_all
  | some x=>
   rw[f]at d;cases d;refine⟨rfl,c,_,_,e,λj a p=>?_⟩
   grind [mT]
 .induction l.take n with
  | nil=>exact pG.2 rfl
  | cons x r g=>exact kD.2 ⟨_,_,rfl,lP.2 rfl,g⟩
def xC.d{tf t:G uA} {lo:Option Lo}{cs:List O}(h:xC tf b lo cs)(e:zB tf t):xC t b lo cs:=by
 obtain⟨c,a,d⟩:=h;exact⟨c,e _ _ a,d⟩
theorem aZ{base:Nat}{W J:xG}{t:G uA}{Q:mB}{f:O}{args:List O}{K:O->T}{g:Nat}{a:List O}(h:eM f args=some (g,a))(k:W g a t (λv t'=>iA base W J (K v) t' Q)):iA base W J (.n f args K) t Q:=by
 show oD (eM f args) _
 simp_all
section
variable {t t0:G uA}{Q:mB}
abbrev Ip(w b d a:Nat)(u:List Nat)(k cap:Nat)(c:Nat):List kF:=[oC w none [.m b 0 k cap],oC b none (mT u),oC d none [.e .u64 (c:Int)],oC a none [.j w 0]]
def zs4{f d c s:Nat} (h:xB Y.a t0 t (Ip w b f d u k cap c))(hk:k<cap)(B:cap=u.length)(hs:s+c<18446744073709551616)
  (W:∀t',xB Y.a t0 t' (Ip w b f d (u.set k ((s+c)%4294967296)) (k+1) cap ((s+c) / 4294967296))->Q (.p []) t'):Wc Y F 276 [.e .u64 (s:Int),.j f 0,.j d 0] t Q:=by
 have l1:∀ {t},xB Y.a t0 t (Ip w b f d u k cap c)->oA Y 270 ⟨0,t⟩ (.j f 0)=some (.e .u64 (c:Int)):=λh=>(xB.d (A:=[_,_]) h).f lT rfl rfl;have l:∀ {t},xB Y.a t0 t (Ip w b f d u k cap c)->oA Y 287 ⟨0,t⟩ (.j d 0)=some (.j w 0):=λh=>(xB.d (A:=[_,_,_]) h).f W7 rfl rfl;have I:∀ {t},xB Y.a t0 t (Ip w b f d u k cap c)->oA Y 253 ⟨0,t⟩ (.j w 0)=some (.m b 0 k cap):=λh=>(xB.d (A:=[]) h).f lN rfl rfl;have J:∀b o,nR (.j b o)=some (.j b o):=λ_ _=>rfl
 refine w276 ?_;unfold t276 uE;have L:cA .u64 ((s:Int)+(c:Int))=((s+c:Nat):Int):=by grind [gG]
 have M:cA .u32 ((s+c:Nat):Int)=(((s+c)%4294967296:Nat):Int):=by rw[yY];omega
 have N:Int.fdiv ((s+c:Nat):Int) 4294967296=(((s+c) / 4294967296:Nat):Int):=by grind
 refine iB (l1 h) (tB ?_);rw[L,M,N];refine iB (l h) (iB (l h) (vA (J _ _) (iB (I h) (jC λn D X=>?_))));obtain⟨t1,R,S,g3,U⟩:=Oa (C:=Y) (T:=253) (ps:=[(0,.e .u32 (((s+c)%4294967296:Nat):Int))]) (cl:=[[.e .u32 (((s+c)%4294967296:Nat):Int)]]) (n:=1) (sz:=1) lN rfl tI rfl rfl (by omega) (by
   have e:kJ [O.e .u32 0] 1=[.e .u32 0]:=rfl;show yO _ _ (kJ [O.e .u32 0] 1)=_;rw[e];rfl) (by grind) rfl D
 have i:=h.z D U;have x:∀b o,A8 10 (.j b o) (.j b o)=true:=λb o=>by simp[A8,Nat.beq_refl]
 refine⟨_,_,R,iB (l i) (tA (x _ _) (iB (l i) (tA (x _ _) (iB (I i) (tA JT (jC λn2 _ _=>?_))))))⟩;have g:=i.f b (by simp[oC]);obtain⟨K,Z,E,H⟩:=ZQ (C:=Y) (n:=n2) (k:=k) (m:=1) (cap:=cap) qq (xB.d (A:=[_]) i) g.1 S rfl (by omega) (by omega) (by rw[zlh];omega) (by intro a z;simp at z;subst z;rfl);have P:jJ (mT u) k [[O.e .u32 (((s+c)%4294967296:Nat):Int)]].flatten=mT (u.set k ((s+c)%4294967296)):=by
  apply List.ext_getElem?
  grind [mT,Kn]
 rw[P]at E;have y:xB Y.a t0 K (Ip w b f d (u.set k ((s+c)%4294967296)) k cap c):=xB.aj (A:=[_]) (o:=oC b none (mT u)) i (λq p _=>H q (λe=>p (by simp[oC,e]))) (λq p=>.inl p) E (by simp[oC]) (i.b.g g.2 H);refine⟨_,_,Z,?_⟩;have r:oA Y 287 ⟨0,K⟩ (.j d 0)=some (.j w 0):=(xB.d (A:=[_,_,_]) y).f W7 rfl rfl;refine iB r (tA (x _ _) (vA (J _ _) (jC λn3 _ _=>?_)));obtain⟨t3,m1,m2⟩:=xB.a (A:=[]) (j:=0) (v:=.m b 0 (k+1) cap) y lN rfl (by show 0+1<=1;omega) rfl
 refine⟨_,_,m1 n3,jC λn4 _ _=>?_⟩;obtain⟨t4,p1,p2⟩:=xB.a (A:=[_,_]) (j:=0) (v:=.e .u64 (((s+c) / 4294967296:Nat):Int)) m2 lT rfl (by show 0+1<=1;omega) rfl;exact⟨_,_,p1 n4,W t4 p2⟩
def YX  (h:xB Y.a t0 t [oC w none [.m b 0 k cap],oC b none (mT u)])(x:∀t' c a,xB Y.a t0 t' (Ip w b c a u k cap 0)->Q (.q (.aa 276) [] [.j c 0,.j a 0]) t'):Wc Y F 246 [.j w 0] t Q:=by
 refine w246 ?_;unfold t246;refine jC λa f d=>?_;obtain⟨I,i,l,m,o⟩:=Zv (v:=.j w 0) f;have D:=xB.c (A:=[_,_]) (B:=[]) h f d l m o;refine⟨_,_,i,jC λc g e=>?_⟩;obtain⟨J,p,q,r,s⟩:=yQ (C:=Y) lT g;have E:=xB.c (A:=[_,_]) (B:=[_]) D g e q r s;refine⟨_,_,p,jC λn _ _=>?_⟩;obtain⟨H,y,z⟩:=xB.a (A:=[_,_]) (j:=0) (v:=.e .u64 0) E lT rfl (by show 0+1<=1;omega) rfl;exact⟨_,_,y n,x H c a z⟩
def zln {v:O}{f p:Nat}(hv:bA t 1 (tC .u32 l) v)(hl:l.length<100000)(X:pB 4294967296 l)(hf:f<4294967296)(hp:p<4294967296)
  (hQ:∀t' r rv,zB t t'->bA t' 1 (tC .u32 r) rv->pB 4294967296 r->B5 r->A4 4294967296 r=A4 4294967296 l*f+p->r.length<=l.length+1->Q rv t'):Wc Y F 194 [v,.e .u32 (f:Int),.e .u32 (p:Int)] t Q:=by
 have d:=hv.c;rw[qH]at d;have ho:xB Y.a t t []:=⟨zB.f _,by simp,by simp,by simp⟩;refine w194 ?_;unfold t194 uI;have e0:uC (l.length:Int)=.e .i64 ((l.length+1:Nat):Int):=by
  grind [A2]
 refine vA d (tB (jC λb hb U=>?_));rw[e0];obtain⟨t1,g1,g2,g3,g4⟩:=zha (C:=Y) (T:=253) (el:=254) (k:=.u32) (cap:=l.length+1) lN rfl tI rfl rfl (by decide) (by omega) hb;have a:List.replicate (l.length+1) (O.e .u32 0)=mT (List.replicate (l.length+1) 0):=by
  grind [mT,List.map_replicate]
 rw[a]at g2;have o1:=xB.c (A:=[]) (B:=[]) ho hb U g2 g3 g4;refine⟨_,_,g1,jC λw J S=>?_⟩;obtain⟨t2,f1,f2,f3,f4⟩:=yQ (C:=Y) lN J;have o2:=xB.c (A:=[]) (B:=[_]) o1 J S f2 f3 f4;refine⟨_,_,f1,jC λn _ _=>?_⟩;obtain⟨t3,m1,m2⟩:=xB.a (A:=[]) (j:=0) (v:=.m b 0 0 (l.length+1)) o2 lN rfl (by show 0+1<=1;omega) rfl;refine⟨_,_,m1 n,aA ?_⟩;rw[q246];refine YX m2 λt4 I H o4=>?_;have e5:cA .u64 (p:Int)=(p:Int):=gG (by omega) (by omega)
 refine vA d (tB (sC ?_));rw[e5];have y:∀s:Int,eM (.q (.aa 276) [] [.j I 0,.j H 0]) [.e .u64 s]=some (276,[.e .u64 s,.j I 0,.j H 0]):=λs=>rfl;have E:∀(k i x c:Nat) (u:List Nat) (M:G uA),i+k=l.length->u.length=l.length+1->pB 4294967296 (u.take i)->x+c<4294967296->A4 4294967296 (u.take i)+4294967296^i*(x+c)=A4 4294967296 (l.take i)*f+p →
   xB Y.a t M (Ip w b I H u i (l.length+1) c)->jp 194 2 [.e .u32 (f:Int),.j w 0,.q (.aa 276) [] [.j I 0,.j H 0],.e .u64 (x:Int),v,.e .i64 (l.length:Int),.e .i64 (i:Int)] M Q:=by
  intro k;induction k with
  | zero=>
   intro i x c u M W h z m D L;have W:i=l.length:=by omega
   subst W;refine zr6 ?_;unfold yc;refine wB (by simp[wD]) (aZ (y _) ?_);rw[q276];refine zs4 L (by omega) h.symm (by omega) λN q=>?_;have a7:(x+c) / 4294967296=0:=Nat.div_eq_of_lt m;have Z:(x+c)%4294967296=x+c:=Nat.mod_eq_of_lt m;rw[Z]at q;have lv:oA Y 253 ⟨0,N⟩ (.j w 0)=some (.m b 0 (l.length+1) (l.length+1)):=(xB.d (A:=[]) q).f lN rfl rfl;refine iB lv (aA ?_);obtain⟨c0,y1,y2⟩:=xB.d (A:=[_]) q
   have od:=xB.i (A:=[_]) q;have a6:=xB.x (A:=[_]) (o:=oC b none (mT (u.set l.length (x+c)))) q (k:=b) (by simp[oC]);obtain⟨r1,r2⟩:=od.r a6 y1 (q.f b (by simp[oC])).2;have hw:xC (t.d b (.aa c0 (mT (u.set l.length (x+c))).length none)) b none (mT (u.set l.length (x+c))):=⟨c0,by rw[G.aa,A5 rfl],y2⟩;have hR:=xC.e (xC.d hw r1.b) (n:=l.length+1) (cap:=l.length+1) (by simp[h]) (B4 _);have a:(u.set l.length (x+c)).take (l.length+1)=u.take l.length++[x+c]:=by
    rw[kT (x:=x+c) (by simp_all)];rw[List.take_set_of_le (B4 _)]
   rw[a]at hR;obtain⟨v',P,R⟩:=Gx (by grind) hR;rw[cq,P,xA];have g:(u.take l.length).length=l.length:=by simp_all
   refine hQ N _ _ (r2.d r1.b) R (iW (Di z m)) (iY _) ?_ ?_
   all_goals grind [wV,rQ,Rc]
  | succ k ih=>
   intro i x c u M W h z m D L;have K:l[i]?=some l[i]:=D0 (by omega);refine zr6 ?_;unfold yc uL;obtain⟨b',o',cs,P,R,_,_,J⟩:=aH.at (λ_=>rfl) (hv.a L.b) (SE K);have e:=lP.1 J;subst e;have hw:l[i]<4294967296:=X _ (F2 _);have hm:l[i]*f<=4294967295*4294967295:=G5 (by omega) (by omega);have e1:cA .u64 (cA .u64 (cA .u64 (l[i]:Int)*cA .u64 (f:Int))+(x:Int))=((l[i]*f+x:Nat):Int):=by
    grind [gG]
   refine tA (by grind [wD]) (vA P (iB R (tB ?_)));rw[e1];refine aZ (y _) ?_;rw[q276];refine zs4 L (by omega) h.symm (by omega) λN q=>?_;have e2:uC (i:Int)=.e .i64 ((i+1:Nat):Int):=by
    grind [A2]
   refine sC ?_;rw[e2];have a:(u.set i ((l[i]*f+x+c)%4294967296)).take (i+1)=u.take i++[(l[i]*f+x+c)%4294967296]:=by
    rw[kT (x:=(l[i]*f+x+c)%4294967296) (by grind)];rw[List.take_set_of_le (B4 _)]
   have g:(u.take i).length=i:=by grind
   refine ih (i+1) 0 ((l[i]*f+x+c) / 4294967296) _ N (by omega) (by simp[h]) ?_ (by omega) ?_ q
   .grind [Di]
   .rw[a,rQ,g,kT K,rQ,mj,Nat.min_eq_left (by omega),D7,K7,D8]
    grind [Nat.div_add_mod]
 refine E l.length 0 p 0 _ t4 (by omega) (by simp) (λx K=>by simp at K) (by omega) (by simp[A4]) o4
end
end Go.Proofs
namespace Go.Am
open Go Go.RowKit
inductive E where
 | pl (d:D)
 | sl (sz:Nat) (l:List E) (m:List D)
 | st (l:List E)
section
variable {t t' tf:G uA}{C:fA}
end
end Go.Am
namespace Go.Am
open Go Go.RowKit
variable {u v:O}
def jm:List D:=(List.range 12).map λi=>D.a .u16 (((8000024+i)%65536:Nat):Int)
def sM.e(w:sM):E:=.st [.pl (.e w.b),.sl 1 ((vD w.a).map E.pl) jm]
section
variable {t:G uA}
theorem Ht{w:sM} (a:bA t 1 (vD w.a) u):RD t w.d [.d w.b,u]:=by
 unfold sM.d;rw[lK];refine⟨[[.d w.b],[u]],rfl,?_⟩
 grind [kD,pG,Dl,xR]
theorem Hu{f:qF} (a:bA t 1 (vD f.n.a) u)(b:bA t 1 (vD f.d.a) v):RD t f.b [.d f.n.b,u,.d f.d.b,v]:=by
 unfold qF.b;rw[lK];refine⟨[[.d f.n.b,u],[.d f.d.b,v]],rfl,?_⟩
 grind [kD,Ht,pG]
theorem Sl{x:gE} (a:bA t 1 (vD x.f.n.a) u)(b:bA t 1 (vD x.f.d.a) v):RD t x.d [.e .u8 x.a,.d x.f.n.b,u,.d x.f.d.b,v,.e .i64 x.i]:=by
 unfold gE.d;rw[lK];refine⟨[[.e .u8 x.a],[.d x.f.n.b,u,.d x.f.d.b,v],[.e .i64 x.i]],rfl,?_⟩
 grind [kD,lP,Hu,pG]
def Nw{op:Nat}{name:List Nat}{v:gE}{args:List pA}{a b c:O}(d:bA t 1 (vD v.f.n.a) a)(e:bA t 1 (vD v.f.d.a) b)(f:bA t 9 (args.map pA.d) c):RD t (pA.mk op name v args).d (qN (.mk op name v args) a b c):=by
 unfold pA.d qN;rw[lK,pA.r];refine⟨[[.e .u8 op],[.h name],[.e .u8 v.a,.d v.f.n.b,a,.d v.f.d.b,b,.e .i64 v.i],[c]],rfl,?_⟩;rw[kD];refine⟨_,_,rfl,rfl,?_⟩;rw[kD];refine⟨_,_,rfl,rfl,?_⟩
 grind [kD,Sl,xR,pG]
def lS{sz:Nat}:bA t sz [] .g:=⟨[],.inl ⟨rfl,rfl⟩,pG.2 rfl⟩
end
end Go.Am
