/- Names: lex.Name as a function of the text. -/
import Derived.KernelRfl
import Derived.Test.YtefajchlhjcgpaaGreatDoorC20
set_option linter.all false
noncomputable section
set_option maxRecDepth 100000
namespace Go.Proofs
open Go Go.Am
variable {n:Nat}{s:List Nat}
variable [fC]
variable {t:G vA}
theorem za{a b:Int}:sE a b=decide (a<=b):=by
 grind [mI]
def Xs  : oB Y F 119 [.e .u8 (n:Int)] t=some (.d (rO n)):=by
 refine mC.2 (w119 ?_);simp only[rB,nH,t119,lA,za,decide_eq_true_eq];grind [rO]
def Ta  : oB Y F 169 [.e .u8 (n:Int)] t=some (.d (dD n)):=by
 refine mC.2 (w169 ?_);simp only[rB,t169,lA,za,decide_eq_true_eq];grind [dD]
def EN  : oB Y F 121 [.e .u8 (n:Int)] t=some (.d (jL n)):=by
 refine mC.2 (w121 ?_);simp only[uB,nH,uY,t121,lA,q119,Xs,xA,O.r];unfold jL
 cases h:rO n with
 | true=>simp
 | false=>
  simp only[F0,if_false,q169,Ta,xA,O.r];grind [wF,decide]
def qO {i x:Nat}(h:s[i]?=some x):wJ Y 9 (.h s) (.e .i64 (i:Int))=some (.e .u8 (x:Int)):=by
 unfold wJ;rw[iI,mA];simp only[O.aj,O.ba,O.w];have e:ob (some (i:Int)) wO=some i:=rfl;rw[e,mA,show lE.c .j=true from rfl,xE,yI,h,mA];rfl
def Wb{p:Nat->Bool}{g:Nat}(q:∀n:Nat,oB Y F g [.e .u8 (n:Int)] t=some (.d (p n)))(w:∀ {a:List O} {m:G vA} {R:lB},Wq Y F eC g a m R=pD (oB Y F g a m) (λv=>R v m))(z:Nat.blt g pn=true) (B:s.length<4000000000000000000) :
  ∀(k i:Nat),i+k=s.length->(∀j x,j<i->s[j]?=some x->p x=true)->jp 120 2 [.h s,.q (.aa g) [] [],.e .i64 (i:Int)] t (λv t'=>v=.h (dE p s)/\t'=t):=by
 have d:∀i,i<=s.length->(∀j x,j<i->s[j]?=some x->p x=true)->(∀x,s[i]?=some x->p x=false)->dE p s=s.take i:=by
  intro i h f o;unfold dE;induction s generalizing i with
  | nil=>simp
  | cons a s c=>
   cases i with
   | zero=>simp_all
   | succ i=>
    rw[List.takeWhile_cons,f 0 a (by omega) rfl,A5 rfl,List.take_succ_cons];rw[c (by grind) i (by simp_all) (λj x r b=>f (j+1) x (by omega) (by simp_all)) (λx b=>o x (by simp_all))]
 intro k;induction k with
 | zero=>
  intro i h l;refine zq9 ?_;simp only[uU,uB,uS,tC,V,uY,xk,lA,kE,eW];grind [Gv,xA,O.w]
 | succ k c=>
  intro i h l;have b:s[i]?=some s[i]:=C6 (by omega);refine zq9 ?_;simp only[uU,uB,uS,tC,V,uY,xk,lA,kE,eW];rw[A5 (by omega),qO b,xA,yC,xA];have e:mM (.q (.aa g) [] []) [.e .u8 (s[i]:Int)]=some (g,[.e .u8 (s[i]:Int)]):=by
   unfold mM;simp only[O.am,mA,z,xE];rfl
  rw[e,xA];simp only[];rw[w,q,xA];simp only[O.r,xA]
  cases A:p s[i]with
  | true=>
   rw[A5 rfl,A2 (by omega) (by omega),show(i:Int)+1=((i+1:Nat):Int) by omega];refine c (i+1) (by omega) λj x r u=>?_
   grind
  | false=>
   rw[A3 (by simp),Gv (by omega),xA];simp only[O.w,xA];rw[d i (by omega) l (λx y=>by simp_all)]
   simp_all
def JQ (b:s.length<4000000000000000000):oB Y F 120 [.h s,.q (.aa 121) [] []] t=some (.h (dE jL s)):=by
 refine mC.2 (w120 ?_);simp only[V,t120,lA];exact Wb (λn=>EN) (fun {a m R}=>by rw[q121]) rfl b s.length 0 (by omega) (λj x c=>by omega)
def zs4 (b:s.length<4000000000000000000):oB Y F 120 [.h s,.q (.aa 119) [] []] t=some (.h (dE rO s)):=by
 refine mC.2 (w120 ?_);simp only[V,t120,lA];exact Wb (λn=>Xs) (fun {a m R}=>by rw[q119]) rfl b s.length 0 (by omega) (λj x c=>by omega)
def eK (n:Nat):O × O:=(.e .i64 (n:Int),.h (O1 n))
def GG{a b:List Nat}(h:a.length<4294967281):oB Y F 143 [.h a,.h b] t=some (.d (Fh b a)):=by
 have c:Y.c.c 143=some (rN Nq):=by kernel_rfl
 refine Ke c λH=>?_;unfold Nq;simp only[];rw[eD,gC.2 h];rfl
def WU (E:s.length<4000000000000000000):oB Y F 122 [.h s] t=some (.d (CO s)):=by
 refine xV (w122 ?_);simp only[uB,uS,rB,V,t122,lA,kE,eW];unfold CO;by_cases v:2<=s.length
 .rw[A3 (by omega)];by_cases w:s.length<=7
  .rw[A3 (by omega)];simp only[q120,zs4 E,xA,O.w]
   cases x:sF (dE rO s) s with
   | false=>simp
   | true=>
    simp only[Bool.not_true,F0,if_false];intro b H f;have m:Vj ⟨b,t⟩=some (.bc b,⟨b+1,t.d b (.aj [])⟩):=rfl;rw[m,xA];simp only[];have r:(t.d b (.aj [])).c b=some (.aj []):=by rw[G.aa,A5 rfl]
    have z:nF b t (t.d b (.aj [])):=λc i=>by rw[G.aa,A3 i]
    generalize t.d b (.aj [])=h at r z;have a:∀(l:List (O × O)) (k:Nat) (q:List Nat) (p:List (O × O)) (Q:(O × sA)->Prop) (h:G vA),h.c b=some (.aj l)->nF b t h->uQ (.e .i64 (k:Int)) (.h q) l=some p->Nz Y 236 (.e .i64 (k:Int))=true →
      (∀n d,d.c b=some (.aj p)->nF b t d->Q (aD,⟨n,d⟩))->∀n,h.c n=none->Y.a<=n->pD (rW Y 236 (.bc b) (.e .i64 (k:Int)) (.h q) ⟨n,h⟩) Q:=by
     intro l k q p Q h A B v w x n _ _;rw[zr7 w f A v,xA];exact x n _ (by rw[G.aa,A5 rfl]) λc i=>by rw[G.aa,A3 i];exact B c i
    refine a [] 2 _ [eK 2] _ h r z rfl (by kernel_rfl) λn d g o=>?_;refine a _ 3 _ [eK 2,eK 3] _ d g o rfl (by kernel_rfl) λn d g o=>?_;refine a _ 4 _ [eK 2,eK 3,eK 4] _ d g o rfl (by kernel_rfl) λn d g o=>?_;refine a _ 5 _ [eK 2,eK 3,eK 4,eK 5] _ d g o rfl (by kernel_rfl) λn d g o=>?_;refine a _ 6 _ [eK 2,eK 3,eK 4,eK 5,eK 6] _ d g o rfl (by kernel_rfl) λn d g o=>?_;refine a _ 7 _ [eK 2,eK 3,eK 4,eK 5,eK 6,eK 7] _ d g o rfl (by kernel_rfl) λn d g o=>?_
    have j:zB t d:=λc u i=>by
     have:c≠b:=λe=>by simp_all
     rw[o c this];exact i
    have C:Bp Y 236 ⟨0,d⟩ (.bc b) (.e .i64 (s.length:Int)) false=some (.h (O1 s.length)):=by
     have y:Nz Y 236 (.e .i64 (s.length:Int))=true/\aM (.e .i64 (s.length:Int)) [eK 2,eK 3,eK 4,eK 5,eK 6,eK 7]=some (some (.h (O1 s.length))):=by
      have:s.length=2\/s.length=3\/s.length=4\/s.length=5\/s.length=6\/s.length=7:=by omega
      rcases this with e | e | e | e | e | e<;>rw[e]<;>exact⟨by kernel_rfl,rfl⟩
     exact zml y.1 g y.2 pq rfl iI false
    rw[C,xA];simp only[O.w,xA];rw[rH (by grind),xA];simp only[O.w,xA];rw[rH (by grind),xA];simp only[O.w,xA];have D:(O1 s.length).length<4294967281:=by
     have:s.length=2\/s.length=3\/s.length=4\/s.length=5\/s.length=6\/s.length=7:=by omega
     rcases this with e | e | e | e | e | e<;>rw[e]<;>decide
    rw[q143,GG D,xA];simp only[O.r,xA];refine⟨?_,j⟩
    grind
  grind
 grind
def Kp  : oB Y F 60 [.h s] t=some (.d (sI s)):=by
 refine mC.2 (w60 ?_);simp only[uU,uB,uS,rB,V,uY,t60,lA,kE,eW]
 cases s with
 | nil=>simp[sI,bJ]
 | cons x r=>
  have b:sF (x::r) []=false:=by
   grind [bJ]
  rw[b];simp only[F0,if_false];unfold sI;by_cases c:(x::r).length<=24
  .rw[A3 (by omega)];have a:=qO (s:=x::r) (i:=0) (x:=x) rfl;rw[show((0:Nat):Int)=0 from rfl]at a;rw[a,xA,yC,xA,q119,Xs,xA];simp only[O.r,xA]
   cases d:rO x with
   | false=>simp
   | true=>
    simp only[Bool.not_true,F0,if_false];rw[q120,JQ (by omega),xA];simp only[O.w,xA]
    cases e:sF (dE jL (x::r)) (x::r)with
    | false=>simp
    | true=>
     simp only[if_true,q122,WU (s:=x::r) (by omega),xA,O.r]
     simp_all
  grind
end Go.Proofs
namespace Go.Am
open Go Go.RowKit
variable {b:Bool}{x y:T}{K:O->T}{v:O}{a:List O}
section
variable {base:Nat}{W J:yG}{t:G vA}{Q:lB}
theorem tA  (h:b=true)(k:lA base W J x t Q):lA base W J (.a b x y) t Q:=by
 show if b=true then _ else _;simp_all
theorem vB  (h:b≠true)(k:lA base W J y t Q):lA base W J (.a b x y) t Q:=by
 show if b=true then _ else _;simp_all
theorem uA{x:Option O}  (h:x=some v)(k:lA base W J (K v) t Q):lA base W J (.d x K) t Q:=by
 show pD x _;simp_all
def fB{x:G vA->Option O}  (h:x t=some v)(k:lA base W J (K v) t Q):lA base W J (.e x K) t Q:=by
 show pD (x t) _;simp_all
theorem aA{f:Nat}  (k:W f a t (λv t'=>lA base W J (K v) t' Q)):lA base W J (.c f a K) t Q:=k
def sB{n:Int}{i:IntKind}{K:Int->T}(k:lA base W J (K n) t Q):lA base W J (.r i (.e i n) K) t Q:=by
 show pD (I9 i (.e i n)) _;rw[yC];exact k
theorem iC {K:Bool->T}(k:lA base W J (K b) t Q):lA base W J (.q (.d b) K) t Q:=k
def jC{s:List Nat}{K:List Nat->T}(k:lA base W J (K s) t Q):lA base W J (.s (.h s) K) t Q:=k
def aC{zs:List O}{a:O}{K:zH->T}{X:zH}(h:nK zs a=some X)(k:lA base W J (K X) t Q):lA base W J (.o zs a K) t Q:=by
 show pD (nK zs a) _;simp_all
def kC{x:sA->Option (O × sA)} (k:∀b,t.c b=none->base<=b->∃v H,x ⟨b,t⟩=some (v,H)/\lA base W J (K v) H.t Q):lA base W J (.h x K) t Q:=by
 intro b a c;obtain⟨v,H,d,e⟩:=k b a c
 simp_all
theorem qC{i:Nat} (k:J i a t Q):lA base W J (.j i a) t Q:=k
end
section
variable {t:G vA}{C:fA}
def gG.mid{T el sz:Nat}{g:Bool}(h:gG C T el sz g){l:List D} (M:bA t sz l v){k:Nat}{d:D}(H:l[k]?=some d) :
  ∃v',cF C T ⟨0,t⟩ v (some (.e .i64 (k:Int))) (some (.e .i64 ((k+1:Nat):Int)))=some v'/\bA t sz [d] v':=by
 obtain⟨⟨y,p,r⟩,⟨z,s,u,N⟩⟩:=h;obtain⟨Q,E,B⟩:=M;have I:=B.g;have L:=(F6.1 H).1;obtain⟨w,R,o⟩:=B.p H;unfold cF;rw[p,mA];have J:∀(y n:Nat),Aw y (.e .i64 (n:Int))=tB (Nat.ble n y) (some n):=λy n=>rfl;rcases E with⟨rfl,rfl⟩ | ⟨b,f,a,rfl,A,⟨c,n,P,F,e⟩,E⟩
 .grind
 .refine⟨.m b (f+k*sz) 1 (a-k),?_,[w],.inr ⟨b,f+k*sz,a-k,rfl,by grind,⟨c,n,P,F,e⟩,λi q S=>?_⟩,kD.2 ⟨w,[],rfl,o,pG.2 rfl⟩⟩
  .unfold sP;simp only[O.w,O.u];rw[r,mA];unfold aR;rw[s,mA];unfold gS Fl;simp only[J];rw[rF.2 (show k+1<=a by omega)];simp only[xE,mA];rw[rF.2 (show k<=k+1 by omega)];simp only[xE,mA];have m:Nat.beq a k=false:=by
    grind [bC]
   have j:tP ⟨0,t⟩ b z.b a k false=false:=by
    grind [tP]
   rw[j,E5,cond_false];have K:vQ ⟨0,t⟩ b z.b a k false=true:=by
    unfold vQ fD;rw[F,mA];simp only[vA.a];rcases e with rfl | ⟨x,rfl,U⟩
    all_goals simp_all
   rw[rF.2 (show k+1<=a by omega),K,m,u];simp only[Bool.and_self,xE,cond_false];rw[show k+1-k=1 by omega]
  grind
end
end Go.Am
namespace Go.Am
open Go Go.RowKit
def GU{C:fA}{F:G oE}{f:Nat}{args:List O}{t:G vA}{Q:lB}{g:List O->sA->Option (O × sA)}(e:C.c.c f=some g)(h:∀X HA,Ov C.a t X HA->∃v t' a,g args HA=some (v,a)/\Ov C.a t' X a/\Q v t')(d:Nat.blt f yo=true:=by rfl):Wc C F f args t Q:=by
 intro X HA i;rw[Ln d,e];obtain⟨v,t',a,j,b,c⟩:=h X HA i;exact⟨⟨v,false⟩,t',a,X,by simp_all,b,eJ.f _,c⟩
end Go.Am
namespace Go.Proofs
open Go Go.Am
variable [fC]
variable {t tf:G vA}{w T:Nat}{s m:List Nat}{z:List O}
def el96:Fw Y 96 5 1:=⟨⟨_,iX,rfl,rfl⟩,⟨_,M0,rfl,rfl,by decide,by decide⟩⟩
def zI{b o:Nat}:zR (.j b o)=some (.j b o):=rfl
def BX (T:Nat)(z:List O)(tf t:G vA)(w:Nat)(s:List Nat):Prop:=
 Y.a<=w/\tf.c w=none/\zB tf t/\pB 256 s/\Sj Si T (z.length+2)=true/\∃p a,(p=O.y\/p=.j w 0)/\xC t w (some (.a T)) (p::a::z)/\dH (.a 5) Y.a tf t 1 (uC .u8 s) a/\(¬ oM a w/\(s=[]->a=.g))
def BX.g(h:BX T z tf t w s):zB tf t:=h.2.2.1
def BX.k(h:BX T z tf t w s){n:Nat}(i:t.c n=none)(y:vA):BX T z (tf.d n y) (t.d n y) w s:=by
 obtain⟨l,D,m,r,q,p,j,x,g,a,o⟩:=h;have f:w≠n:=by intro e;obtain⟨c,h,_⟩:=g;simp_all
 refine⟨l,by grind [G.aa],CA i m,r,q,p,j,x,g.i (by rw[G.aa,A3 f]),?_,o⟩;have d:∀b,oM j b->b≠n:=λb d e=>EM a d (e ▸ i);rcases a with⟨rfl,a⟩ | ⟨b,k,c,rfl,A,F,H,B,C⟩
 .exact .inl ⟨rfl,a⟩
 .have v:=d b (Cf.2 rfl);exact .inr ⟨b,k,c,rfl,A,by grind [G.aa],by grind [G.aa],B,wD.f (λc u E=>by
   grind [Bz,G.aa]) _ _ C⟩
def BX.q{n:Nat}{y:vA}(x:tf.c n=none)(h:BX T z (tf.d n y) t w s):BX T z tf (t.q n) w s:=by
 obtain⟨j,g,k,q,o,p,D,A,l,d,m⟩:=h;have a:w≠n:=by grind [G.aa]
 have f:zB tf (tf.d n y):=(bN x y).1;rw[G.aa,A3 a]at g;refine⟨j,g,λc u v=>?_,q,o,p,D,A,l.i (by rw[G.e,A3 a]),?_,m⟩
 .have:c≠n:=λe=>by simp_all
  rw[G.e,A3 this];exact k _ _ (f _ _ v)
 .rcases d with⟨rfl,d⟩ | ⟨b,i,c,rfl,B,E,F,C,H⟩
  .exact .inl ⟨rfl,d⟩
  .have r:b≠n:=by grind [G.aa]
   refine .inr ⟨b,i,c,rfl,B,by grind [G.aa],by grind [G.e],C,?_⟩
   grind [Fv]
def BX.r(h:BX T z tf t w s){t':G vA}(c:zB tf t')(e:∀b,b=w\/(∃p a,xC t w (some (.a T)) (p::a::z)/\oM a b)->t'.c b=t.c b):BX T z tf t' w s:=by
 obtain⟨f,g,o,l,k,p,a,n,d,i,j⟩:=h;exact⟨f,g,c,l,k,p,a,n,d.i (e _ (.inl rfl)),i.f λb m=>e b (.inr ⟨p,a,d,m⟩),j⟩
def BX.o{Q:lB}(h:BX T z tf t w s)(o:∀t',BX T z tf t' w s->Q (.p []) t'):Wc Y F 87 [.j w 0] t Q:=by
 have r:=h;obtain⟨l,x,m,C,B,p,d,H,⟨c,n,g⟩,y,A⟩:=h;have D:Y.c.c 87=some R4:=by kernel_rfl
 refine GU D λX f k=>?_;have E:fD f w=some (c,(p::d::z).length,some (.a T)):=by unfold fD;rw[k.q n];rfl
 have i:c.c 0=some p:=g 0 p rfl;rcases H with rfl | rfl
 .refine⟨.p [],t.d w (.aa (c.d 0 (.j w 0)) (O.y::d::z).length (some (.a T))),A7 f w (.aa (c.d 0 (.j w 0)) (O.y::d::z).length (some (.a T))),?_,k.i n _,o _ ?_⟩
  .unfold R4 Ki;simp only[];rw[E,mA,i,mA];simp only[];have J:(!Nat.blt w (256+fC.n))=true:=by
    cases I:Nat.blt w (256+fC.n)with
    | true=>
     have m:=gC.1 I;have v:256+fC.n<=w:=l;omega
    | false=>rfl
   simp_all
  .refine⟨l,x,λb u q=>?_,C,B,.j w 0,d,.inr rfl,⟨_,by rw[G.aa,A5 rfl];rfl,λj a K=>?_⟩,y.f λb q=>?_,A⟩
   .have:b≠w:=λe=>by simp_all
    rw[G.aa,A3 this];exact m _ _ q
   all_goals grind [G.aa]
 .refine⟨.p [],t,f,?_,k,o _ r⟩
  simp_all [R4,Ki]
def gq{b:Nat}:iB Y 98 1 (.j b 0)=some (.j b 1):=by kernel_rfl
def BX.f{Q:lB}(h:BX T z tf t w s)(r:m≠[])(k:pB 256 m)(N:s.length+m.length<400000)(L:∀v t',BX T z tf t' w (s++m)->Q v t'):Wc Y F 42 [.j w 0,.h m] t Q:=by
 refine w42 ?_;unfold t42 sC V;refine aA ?_;rw[q87];refine h.o λt' E=>?_;obtain⟨o,q,H,M,K,p,W,R,f,I,J⟩:=E;refine uA zI (uA gq (fB (f.f (j:=1) iX rfl rfl) (kC λn P a=>?_)));have i:n≠w:=by intro e;obtain⟨c,Z,_⟩:=f;simp_all
 obtain⟨U,A,B,C,D⟩:=TD el96 ⟨_,iI,rfl⟩ y7 I r N P a H;refine⟨_,_,A,uA zI (uA gq (kC λS _ _=>?_))⟩;have g:xC U w (some (.a T)) (p::W::z):=f.i (D w i.symm J.1);obtain⟨t2,u,y,l⟩:=g.g (v:=.m n 0 (s.length+m.length) (s.length+m.length)) o iX rfl rfl rfl (j:=1) (by simp);refine⟨_,_,u S,L _ _ ⟨o,q,C.g q l,λx d=>?_,K,p,_,R,y,B.f λb X=>l b λe=>?_,λe=>?_,λe=>absurd (List.append_eq_nil_iff.1 e).2 r⟩⟩
 .rcases F5.1 d with d | d
  .exact M x d
  .exact k x d
 all_goals grind [Cf]
def MK:∀ {l:List Nat},pB 256 l->kH Go.Am.E4 (l.map fun(n:Nat)=>O.e .u8 (n:Int))=some l
 | [],_=>rfl
 | x::l,h=>by
  have a:Go.Am.E4 (.e .u8 (x:Int))=some x:=by
   show tB (Nat.blt x 256) (some x)=_;rw[gC.2 (h x (.head _))];rfl
  rw[G4,oQ,a,mA,MK λy b=>h y (.tail _ b)];rfl
def BX.i{Q:lB}(h:BX T z tf t w s)(hl:s.length<400000)(C:∀t',zB tf t'->Q (.h s) t'):Wc Y F 44 [.j w 0] t Q:=by
 obtain⟨S,U,q,K,Z,p,tv,hp,⟨c,A,l⟩,B,W⟩:=h;have D:Y.c.c 44=some R5:=by kernel_rfl
 rcases B with⟨rfl,B⟩ | ⟨b,R,d,rfl,N,k1,y,P,H⟩
 .refine GU D λX i k=>?_;have o:fD i w=some (c,(p::O.g::z).length,some (.a T)):=by unfold fD;rw[k.q A];rfl
  have g:=l 1 _ rfl;have x:s=[]:=by grind [sH]
  subst x;refine⟨.h [],t,i,?_,k,C _ q⟩;unfold R5 Kh;simp only[];rw[o,mA,g,mA]
 have x:s≠[]:=λe=>by simp_all
 have m:0<s.length:=List.length_pos_iff.2 x;rw[sH,Nat.mul_one]at y;rw[Fv]at H;subst H;have f:∀j a,(s.map fun(n:Nat)=>O.e .u8 (n:Int))[j]?=some a->d.c j=some a:=by
  intro j a hj;have r:(B7 .u8 s)[j]?=some [a]:=by
   grind [B7]
  have:=(P j _ r).2 0 a rfl
  simp_all
 refine GU D λX i k=>?_;have o:fD i w=some (c,(p::O.m b 0 (uC .u8 s).length (uC .u8 s).length::z).length,some (.a T)):=by unfold fD;rw[k.q A];rfl
 have v:fD i b=some (d,s.length,some (.a 5)):=by unfold fD;rw[k.q y];rfl
 have g:=l 1 _ rfl;refine⟨.h s,t.q b,⟨i.a,i.t.q b⟩,?_,k.k y,C _ λe u L=>?_⟩
 .unfold R5 Kh;simp only[];rw[o,mA,g,mA];unfold Wt;simp only[];rw[o,mA,g,mA];simp only[O.u,mA,sH];rw[v,mA];simp only[];have E:=zgc f s.length 0 (by simp);rw[G8,L0 (by simp)]at E;rw[E,mA,MK K,mA];have I:(!Nat.blt b (256+fC.n))=true:=by
   cases M:Nat.blt b (256+fC.n)with
   | true=>
    have q:=gC.1 M;have J:256+fC.n<=b:=N;omega
   | false=>rfl
  rw[I,bC.2 rfl,gC.2 m,rF.2 (B3 _),gC.2 (show s.length<1000000000 by omega),bC.2 rfl];rfl
 .have:e≠b:=λh=>by simp_all
  rw[G.e,A3 this];exact q _ _ L
end Go.Proofs
namespace Go.Proofs
open Go Go.Am
section
variable {n:Nat}{Q:lB}
variable [fC]
variable {t tf:G vA}{d:Nat}{s m:List Nat}
def TX (tf t:G vA)(d:Nat)(s:List Nat):Prop:=Y.a<=d/\tf.c d=none/\zB tf t/\∃a,xC t d none [a]/\dH (.a 5) Y.a tf t 1 (uC .u8 s) a/\¬ oM a d
def TX.g(h:TX tf t d s) (j:t.c n=none)(y:vA):TX (tf.d n y) (t.d n y) d s:=by
 obtain⟨m,x,o,k,i,a,p⟩:=h;have g:d≠n:=by intro e;obtain⟨c,h,_⟩:=i;simp_all
 refine⟨m,by grind [G.aa],CA j o,k,i.i (by rw[G.aa,A3 g]),?_,p⟩;have f:∀b,oM k b->b≠n:=λb f e=>EM a f (e ▸ j);rcases a with⟨rfl,a⟩ | ⟨b,l,c,rfl,r,A,B,v,w⟩
 .exact .inl ⟨rfl,a⟩
 .have q:=f b (Cf.2 rfl);exact .inr ⟨b,l,c,rfl,r,by grind [G.aa],by grind [G.aa],v,wD.f (λc u z=>by
   grind [Bz,G.aa]) _ _ w⟩
def TX.o {y:vA}(r:tf.c n=none)(h:TX (tf.d n y) t d s):TX tf (t.q n) d s:=by
 obtain⟨k,i,l,x,m,f,o⟩:=h;have a:d≠n:=by grind [G.aa]
 have g:zB tf (tf.d n y):=(bN r y).1;rw[G.aa,A3 a]at i;refine⟨k,i,λc u q=>?_,x,m.i (by rw[G.e,A3 a]),?_,o⟩
 .have:c≠n:=λe=>by simp_all
  rw[G.e,A3 this];exact l _ _ (g _ _ q)
 .rcases f with⟨rfl,f⟩ | ⟨b,j,c,rfl,v,z,A,w,B⟩
  .exact .inl ⟨rfl,f⟩
  .have p:b≠n:=by grind [G.aa]
   refine .inr ⟨b,j,c,rfl,v,by grind [G.aa],by grind [G.e],w,?_⟩
   grind [Fv]
def TX.a(h:TX tf t d s):∃a,oA Y 96 ⟨0,t⟩ (.j d 0)=some a/\xC t d none [a]/\dH (.a 5) Y.a tf t 1 (uC .u8 s) a/\¬ oM a d:=by
 obtain⟨f,g,i,a,b,c,e⟩:=h;exact⟨a,b.f iX rfl rfl,b,c,e⟩
def TX.i{t1:G vA}{k:Nat}{p:O}(f:Y.a<=d)(g:tf.c d=none)(m:xC t1 d none [p])(o:dH (.a 5) Y.a tf t1 1 (uC .u8 s) (.m n 0 k k))(a:zB tf t1)(q:n≠d) :
  ∃t2,(∀n',nC Y 96 (.j d 0) (.m n 0 k k) ⟨n',t1⟩=some (aD,⟨n',t2⟩))/\TX tf t2 d s:=by
 obtain⟨t2,h,i,c⟩:=m.g (v:=.m n 0 k k) f iX rfl rfl rfl (j:=0) (by simp);refine⟨t2,h,f,g,a.g g c,_,i,o.f λb l=>c b λe=>?_,λe=>?_⟩
 all_goals grind [Cf]
theorem TX.l(h:TX tf t d s)(r:m≠[])(q:s.length+m.length<400000):∃f,oA Y 96 ⟨0,t⟩ (.j d 0)=some f/\∀n,t.c n=none->Y.a<=n →
  ∃w t1 t2,mG Y 96 9 f (.h m) ⟨n,t⟩=some (w,⟨n+1,t1⟩)/\(∀n',nC Y 96 (.j d 0) w ⟨n',t1⟩=some (aD,⟨n',t2⟩))/\TX tf t2 d (s++m):=by
 obtain⟨f,l,g,o,p⟩:=h.a;refine⟨f,l,λn u a=>?_⟩;have b:n≠d:=by intro e;obtain⟨c,z,_⟩:=g;simp_all
 obtain⟨t1,v,i,j,k⟩:=TD oi ⟨_,iI,rfl⟩ y7 o r q u a h.2.2.1;obtain⟨t2,x,y⟩:=TX.i h.1 h.2.1 (g.i (k d b.symm p)) i j b
 grind
def TX.f(h:TX tf t d s)(x:Nat)(N:s.length+1<400000):∃j,oA Y 96 ⟨0,t⟩ (.j d 0)=some j/\∀n,t.c n=none->Y.a<=n →
  ∃g,sD Y 96 1 [(0,.e .u8 (x:Int))] ⟨n,t⟩=some (.m n 0 1 1,g)/\∀i,g.t.c i=none->Y.a<=i →
   ∃w t1 t2,mG Y 96 96 j (.m n 0 1 1) ⟨i,g.t⟩=some (w,⟨i+1,t1⟩)/\(∀n',nC Y 96 (.j d 0) w ⟨n',t1⟩=some (aD,⟨n',t2⟩))/\TX tf t2 d (s++[x]):=by
 obtain⟨j,H,v,z,I⟩:=h.a;refine⟨j,H,λn K p=>?_⟩;obtain⟨g,B,C,m⟩:=DS (k:=.u8) iX rfl M0 rfl rfl x trivial K;refine⟨g,B,λi r a=>?_⟩;have f:xC g.t d none [j]:=v.i (by
  obtain⟨c,q,_⟩:=v;rw[m _ _ q,q])
 have l:i≠d:=by intro e;obtain⟨c,q,_⟩:=f;simp_all
 have o:dH (.a 5) Y.a tf g.t 1 (uC .u8 s) j:=z.f λb J=>by
  obtain⟨_,_,y,A⟩:=z.o J;rw[m _ _ A,A]
 obtain⟨t1,D,u,E,F⟩:=TH oi y7 o (C.m (cap:=1) (B3 _)) (by simp) (by omega) r a (h.2.2.1.d m);simp only[List.length_singleton]at D u;obtain⟨t2,L,M⟩:=TX.i h.1 h.2.1 (f.i (F d l.symm I)) u E l
 grind
def zl6 {c:Nat}(x:m≠[])(H:c<100)(y:m.length<100):∀(k i:Nat) (s:List Nat) (t:G vA),i+k=c->s.length+k+m.length<400000->TX tf t d s->(∀t',TX tf t' d (s++(List.replicate k 48++m))->Q (.d true) t') →
  jp 183 10 [.j d 0,.h m,.e .i64 (c:Int),.e .i64 (i:Int)] t Q:=by
 intro k;induction k with
 | zero=>
  intro i s t u v h l;refine zhj ?_;simp only[tC,V,uY,BH,lA,kE];rw[A3 (by omega)];obtain⟨D,f,g⟩:=h.l x (by omega)
  grind [xA]
 | succ k A=>
  intro i s t u v h l;refine zhj ?_;simp only[tC,V,uY,BH,lA,kE];rw[A5 (by omega)];obtain⟨D,f,g⟩:=h.f 48 (by omega);rw[f,xA];intro n z b;obtain⟨E,j,o⟩:=g n z b;rw[show((48:Nat):Int)=48 from rfl]at j;rw[j,xA];intro B e a;obtain⟨w,J,C,p,q,r⟩:=o B e a;simp only[];rw[p,xA];intro I _ _;rw[q,xA];rw[A2 (by omega) (by omega),show(i:Int)+1=((i+1:Nat):Int) by omega];refine A (i+1) (s++[48]) C (by omega) (by grind) r λt' F=>l t' ?_
  grind
def zr8{u:Nat}(h:u<18446744073709551616):oB Y F 238 [.e .u64 (u:Int),.e .i64 10] t=some (.h (mF u)):=by
 have a:Y.c.c 238=some (rN Ru):=by kernel_rfl
 refine Ke a λH=>?_;show tB (sE 0 (u:Int)&&bB (u:Int) 18446744073709551616&&kB 10 10) (some (O.h (xJ (u:Int))))=_;rw[Xr,mI.2 (by omega),kE.2 (by omega)];rfl
def Um(s:List Nat)(x:Nat):List Nat:=if s=[]\/s=[45]then s++mF x else s++wV 9 x
theorem zwe {x:Nat}(h:TX tf t d s)(D:x<1000000000)(C:s.length<300000)(o:pB 256 s)(m:∀t',TX tf t' d (Um s x)->Q (.d true) t'):jp 183 6 [.j d 0,.e .u32 (x:Int)] t Q:=by
 have B:=Yv x;have n:(mF x).length<=9:=Tx (by decide) (by omega);have a:mF x≠[]:=λe=>by simp_all
 have c:s≠[]->s≠[45]->jp 183 10 [.j d 0,.h (mF x),.e .i64 (cA .i64 (9-Int.ofNat (wB (mF x)))),.e .i64 0] t Q:=by
  intro l g;have e:cA .i64 (9-Int.ofNat (wB (mF x)))=((9-(mF x).length:Nat):Int):=by
   grind [eD,A2]
  rw[e];refine zl6 a (by omega) (by omega) _ 0 s t (D8 _) (by omega) h λt' A=>m t' ?_
  grind [Um,zto]
 have j:s=[]\/s=[45]->∃f,oA Y 96 ⟨0,t⟩ (.j d 0)=some f/\∀b,t.c b=none->Y.a<=b->pD (mG Y 96 9 f (.h (mF x)) ⟨b,t⟩) λp=>∀b,p.2.t.c b=none->Y.a<=b->pD (nC Y 96 (.j d 0) p.1 ⟨b,p.2.t⟩) λp=>Q (.d true) p.2.t:=by
  intro r;obtain⟨f,w,z⟩:=h.l a (by omega)
  grind [xA,Um]
 obtain⟨f,u,H,k,I⟩:=h.a;refine j183_6 ?_;simp only[gd,uI,uU,uS,V,uW,zpn,lA,q238];rw[iG (by omega) (by omega),zr8 (by omega),xA];simp only[O.w,xA,u,k.q,yC,sH,kE,fI];by_cases l:1<s.length
 .rw[A5 (by omega)];exact c (by grind) (by grind)
 .rw[A3 (by omega)];by_cases g:s.length=1
  .rw[A5 (by omega)];obtain⟨y,rfl⟩:=List.length_eq_one_iff.1 g;have q:=k.r (by rfl) h.2.2.1;obtain⟨b,v,E,F⟩:=q.f sl96 (i:=0) (x:=y) rfl
   grind [xA,yC,Ep]
  grind [List.length_eq_zero_iff]
end
section
variable {p:Nat->Bool}{r s:List Nat}{b:Nat}{m:List xD}
theorem ze1   : ∀b∈dE p s,p b=true:=by
 intro b a;unfold dE at a;induction s with
 | nil=>cases a
 | cons x s c=>
  grind [List.takeWhile_cons]
def ze0   : ∃r,s=dE p s++r/\∀b a,r=b::a->p b=false:=by
 refine⟨s.dropWhile p,(List.takeWhile_append_dropWhile).symm,λb a h=>?_⟩
 grind [List.head?_dropWhile_not]
theorem jZ {a:List Nat}(h:∀b∈a,p b=true)(f:∀b c,r=b::c->p b=false):dE p (a++r)=a:=by
 unfold dE;induction a with
 | nil=>
  cases r with
  | nil=>rfl
  | cons b c=>simp_all
 | cons x a e=>
  rw[List.cons_append,List.takeWhile_cons,h x C5,A5 rfl,e λb d=>h b (C7 _ d)]
theorem Tv (h:dD b=true):decide (b≠47)=true:=by
 grind [dD]
def jr(f q:List Nat):(f++q)[f.length]?=q.head?:=by
 rw[T6 (B3 _),Nat.sub_self];cases q<;>rfl
def zcy(f q:List Nat):(f++q).take f.length=f:=by simp
theorem Yt(f q:List Nat)(b:Nat):(f++b::q).drop (f.length+1)=q:=by
 simp_all
theorem ztt   (I:s=b::r)(H:dD b=true)(h:tM s=false):Bx (s.take (xH s))/\0<(s.take (xH s)).length:=by
 unfold tM at h;simp only[Z4,decide_eq_false_iff_not]at h;obtain⟨⟨⟨⟨B,C⟩,D⟩,E⟩,F⟩:=h;have z:rE s≠[]:=by
  grind [rE,dE,List.takeWhile_cons]
 obtain⟨q,c,A⟩:=ze0 (p:=dD) (s:=s);have c:s=rE s++q:=c;have d:∀x∈rE s,dD x=true:=ze1;have f:0<(rE s).length:=List.length_pos_iff.2 z;have l:s[(rE s).length]?=q.head?:=by
  have:=jr (rE s) q
  rwa [<- c]at this
 by_cases n:wH s=[]
 .have m:xH s=(rE s).length:=A5 n;have o:s.take (xH s)=rE s:=by rw[m];have:=zcy (rE s) q;rwa [<- c]at this
  rw[o];have v:jP (rE s)=rE s:=by
   have:=jZ (p:=λb=>decide (b≠47)) (a:=rE s) (r:=[]) (λb k=>Tv (d b k)) (λ_ _ e=>by cases e)
   rwa [C8]at this
  refine⟨⟨by omega,by grind,by grind,by grind,λJ=>?_⟩,f⟩
  grind [sK,Tv]
 .have m:xH s=(rE s).length+1+(wH s).length:=A3 n;have i:s[(rE s).length]?=some 47:=by
   cases Decidable.em (s[(rE s).length]?=some 47)with
   | inl h=>exact h
   | inr h=>exact absurd (A3 h) n
  rw[l]at i;obtain⟨u,rfl⟩:∃u,q=47::u:=by
   cases q with
   | nil=>cases i
   | cons x u=>grind
  have g:wH s=dE dD u:=by
   unfold wH;rw[A5 (by grind)];congr 1;have:=Yt (rE s) u 47
   rwa [<- c]at this
  obtain⟨w,t,_⟩:=ze0 (p:=dD) (s:=u);rw[<- g]at t;have j:∀x∈wH s,dD x=true:=by grind [ze1]
  have o:s.take (xH s)=rE s++47::wH s:=by
   have e:s=(rE s++47::wH s)++w:=by grind
   rw[m];have:=zcy (rE s++47::wH s) w;rw[<- e]at this;rw[E1,Do,show(rE s).length+((wH s).length+1)=(rE s).length+1+(wH s).length from by omega]at this;exact this
  rw[o];have v:jP (rE s++47::wH s)=rE s:=jZ (λb k=>Tv (d b k)) (λb K e=>by grind);have y:mR (rE s++47::wH s)=wH s:=by
   grind [mR,Yt]
  refine⟨⟨?_,by grind,by grind,by grind,λ_=>?_⟩,by grind⟩
  all_goals grind
theorem AW {k:Nat}{w:List Nat}(h:jE s=.aa k w):0<w.length/\(k=2->Bx w)/\(k=3->Zh w)/\k≠5:=by
 unfold jE at h;split at h
 .cases h
 .rename_i b r;split at h
  .grind [dE,List.takeWhile_cons,jL]
  .split at h
   .rename_i d;simp only[B2]at d;split at h
    .cases h
    .rename_i a;cases h;have f:10<=(b::r).length:=by
      grind [aJ]
     have c:((b::r).take 10).length=10:=by simp_all
     refine⟨by omega,λe=>by omega,λ_=>⟨c,?_,?_⟩,by omega⟩
     .grind [aJ]
     .have a:iS (b::r)=false:=by simp_all
      unfold iS at a;simp only[Z4,decide_eq_false_iff_not]at a
      cases g:tX ((b::r).take 10)with
      | none=>simp_all
      | some n=>simp_all
   grind [ztt]
theorem js {e:Nat}(h:jE s=.ac e):e≠0:=by
 unfold jE at h;grind
theorem zij(p:Nat × Nat):Df (O2 p):=⟨λe=>(by cases e),λe=>(by cases e)⟩
def zi6{t:xD}{r:LR} (h:r.d t=.ok m):∃a,r=.ok a/\m=t::a:=by
 cases r with
 | ok l=>cases h;simp_all
 | er _ _ _=>cases h
theorem RW{op:Option (Nat × Nat)}{r:LR} (h:LR.c op r=.ok m):∃a,r=.ok a/\m.length<=a.length+1/\∀x∈m,x∈a\/Df x:=by
 cases op with
 | none=>exact⟨m,h,by omega,λx b=>.inl b⟩
 | some p=>
  obtain⟨a,c,rfl⟩:=zi6 h
  grind [zij]
def zmr:∀(k:Nat) (s:List Nat) (c cl:Nat) (op:Option (Nat × Nat)) (m:List xD),cO k s c cl op=.ok m->m.length<=s.length+1/\∀x∈m,Df x:=by
 intro k;induction k with
 | zero=>intro s c cl op m h;cases h;simp_all
 | succ k l=>
  intro s c cl op m h;unfold cO at h;split at h
  .omega
  .grind [RW]
  .rename_i b r a;cases a;split at h
   .grind [RW]
   .split at h
    .grind
    .split at h
     .grind
     .split at h
      .cases h
      .rename_i p w j;obtain⟨q,i,rfl⟩:=zi6 h;obtain⟨g,o⟩:=l _ _ _ _ _ i;obtain⟨n,e,f,_⟩:=AW j;rw[m5]at g;refine⟨by grind,λx d=>?_⟩;rcases C3.1 d with rfl | d
       .exact⟨e,f⟩
       simp_all
def zt7:∀(k:Nat) (s:List Nat) (f cl:Nat) (op:Option (Nat × Nat)) (e a b:Nat),cO k s f cl op=.er e a b->e≠0:=by
 have c:∀(t:xD) (r:LR) (e a b:Nat),r.d t=.er e a b->r=.er e a b:=by
  intro t r e a b h
  cases r with
  | ok l=>cases h
  | er _ _ _=>cases h;rfl
 have d:∀(op:Option (Nat × Nat)) (r:LR) (e a b:Nat),LR.c op r=.er e a b->r=.er e a b:=by
  intro op r e a b h
  cases op with
  | none=>exact h
  | some p=>exact c _ _ _ _ _ h
 intro k;induction k with
 | zero=>intro s f cl op e a b h;cases h
 | succ k g=>
  intro s f cl op e a b h;unfold cO at h;grind [js]
end
section
variable {n:Nat}
theorem zvx(n:Nat):∀s:List Nat,s.foldl (λn b=>n*10+(b-48)) n=n*10^s.length+nE s:=by
 intro s;induction s generalizing n with
 | nil=>simp[nE]
 | cons b s a=>
  show s.foldl _ (n*10+(b-48))=_+s.foldl _ (0*10+(b-48))
  grind
theorem FV(a b:List Nat):nE (a++b)=nE a*10^b.length+nE b:=by
 grind [nE,zvx]
theorem Za(a:List Nat)(x:Nat):nE (a++[x])=nE a*10+(x-48):=by
 grind [nE]
theorem Ot:∀ {s:List Nat},(∀b∈s,dD b=true)->nE s<10^s.length:=by
 intro s;induction s with
 | nil=>grind [nE]
 | cons b s e=>
  intro h;have a:=h b (by simp);have f:=e λc d=>h c (by simp[d]);have:nE (b::s)=(b-48)*10^s.length+nE s:=by
   have:=FV [b] s
   grind [nE]
  rw[this,Do,K1];unfold dD at a;simp only[B2,decide_eq_true_eq]at a;have:(b-48)*10^s.length<=9*10^s.length:=D3 _ (by omega);omega
def zn2{s:List Nat}(c:∀b∈s,dD b=true)(f:s≠[])(d:s.head?≠some 48):0<nE s:=by
 cases s with
 | nil=>simp_all
 | cons b s=>
  have a:=c b (by simp);unfold dD at a;simp only[B2,decide_eq_true_eq]at a;have:nE (b::s)=(b-48)*10^s.length+nE s:=by
   have:=FV [b] s
   grind [nE]
  rw[this];have g:b≠48:=λe=>d (by simp[e]);have:1*10^s.length<=(b-48)*10^s.length:=D3 _ (by omega)
  grind
theorem Gh(n:Nat):A4 65536 (dC n)=n:=by
 induction n using Nat.strongRecOn with
 | ind n a=>
  grind [dC,A4]
def Bb(n:Nat):pB 65536 (dC n):=by
 induction n using Nat.strongRecOn with
 | ind n b=>
  unfold dC;split
  .intro x a;cases a
  .intro x a;rcases C3.1 a with rfl | a
   .omega
   .exact b _ (by omega) x a
def Sb(n:Nat):B4 (dC n):=by
 induction n using Nat.strongRecOn with
 | ind n d=>
  unfold dC;split
  .intro h;grind
  .intro h;have c:=d (n / 65536) (by omega);by_cases a:dC (n / 65536)=[]
   .simp only[a,List.getLast_singleton];have b:=Gh (n / 65536);rw[a]at b;have:n / 65536=0:=b.symm;omega
   .rw[List.getLast_cons a];exact c a
def Ss{l:List Nat} (a:pB 65536 l)(b:B4 l)(c:A4 65536 l=n):l=dC n:=
 MB (B:=65536) (by omega) a (Bb n) b (Sb n) (by rw[Gh,c])
theorem Ky  : dC n=[] ↔ n=0:=by
 grind [dC]
def zg7{k:Nat}(h:n<65536^k):(dC n).length<=k:=by
 induction k generalizing n with
 | zero=>
  grind [Ky]
 | succ k a=>
  grind [dC]
end
section
variable {ds es s:List Nat}{n:Nat}
section
variable {k a cl:Nat}{op:Option (Nat × Nat)}{r:List Nat}
def Oo{b:Nat}(h:dD b=true):b≠10/\b≠32/\b≠9/\b≠35/\b≠45/\b≠47/\rO b=false:=by
 grind [dD,rO]
def LZ {i:Nat}(hi:i<10)(h:fL i (s.getD i 0)=false):aJ s=false:=by
 grind [aJ]
def ztv (h:∀b∈s,b≠45):aJ s=false:=by
 refine LZ (i:=4) (by omega) ?_
 grind [fL]
def OW (c:ds≠[])(h:∀b∈ds,dD b=true):∃x a,ds=x::a/\dD x=true:=by
 cases ds with
 | nil=>simp_all
 | cons x a=>simp_all
def zba (g:ds≠[])(c:∀b∈ds,dD b=true)(a:es≠[])(d:∀b∈es,dD b=true)(i:∀b f,r=b::f->dD b=false) :
  rE (ds++47::(es++r))=ds/\wH (ds++47::(es++r))=es/\xH (ds++47::(es++r))=(ds++47::es).length:=by
 have h:rE (ds++47::(es++r))=ds:=jZ c λb k e=>by cases e;rfl
 have j:wH (ds++47::(es++r))=es:=by
  grind [wH,Yt,jZ]
 grind [xH]
end
def pK (n:Nat):List Nat:=if n<10 then [48+n]else pK (n / 10)++[48+n%10]
decreasing_by omega
def RG:∀(k n:Nat),n<10^(k+1)->(pK n).length<=k+1
 | 0,n,h=>by grind [pK]
 | k+1,n,h=>by
  rw[pK];split
  .simp
  .have:=RG k (n / 10) (by omega)
   simp_all
theorem Zb(n:Nat):pK n≠[]:=by rw[pK];split<;>simp
theorem zrh (h:n<10):dD (48+n)=true:=by grind [dD]
def FY:∀(k n:Nat),n<=k->(∀b∈pK n,dD b=true)/\(0<n->(pK n).head?≠some 48)/\nE (pK n)=n:=by
 intro k;induction k with
 | zero=>
  intro n h;have:n=0:=by omega
  subst this;rw[pK,A5 (by omega)];exact⟨λb a=>by rw[ydd]at a;subst a;rfl,λh=>by omega,rfl⟩
 | succ k d=>
  intro n h;rw[pK];split
  .rename_i c;refine⟨λb a=>by grind [zrh],λh e=>?_,?_⟩
   .simp_all
   .show 0*10+(48+n-48)=n;omega
  grind [zrh,pK,Za]
theorem Ll(n:Nat):∀b∈pK n,dD b=true:=(FY n n (B3 _)).1
theorem Uc(n:Nat):nE (pK n)=n:=(FY n n (B3 _)).2.2
theorem FX(n:Nat):sQ (pK n)=false:=by
 unfold sQ;by_cases h:n=0
 .grind [pK]
 .rw[decide_eq_false (p:=(pK n).head?=some 48) ((FY n n (B3 _)).2.1 (by omega)),E5]
theorem ziy  : pK n=[48] ↔ n=0:=by
 constructor
 .intro h;have:=Uc n;rw[h]at this;exact this.symm
 grind [pK]
def FW(n:Nat):sK (pK n)=false:=by
 unfold sK
 cases a:(pK n).contains 47 with
 | false=>rfl
 | true=>have:=(Oo (Ll n 47 (by simp_all))).2.2.2.2.2.1;omega
theorem zn5 (a:∀b∈ds,dD b=true):jP (ds++47::es)=ds/\mR (ds++47::es)=es/\sK (ds++47::es)=true:=by
 grind [jP,jZ,Tv,mR,Yt,sK]
end
section
structure FM where
 b:Nat
 c:List Nat
 e:Bool
 d:Nat
 h:Nat
 a:Nat
 g:Nat
 i:Nat
def U8 (w:List Nat):FM:=⟨3,w,true,1,1,7,7,7⟩
def bV(w:List Nat)(n:Bool)(a b:Nat):FM:=⟨6,w,n,a,b,7,1,1⟩
def Bu(w:List Nat)(a b c:Nat):FM:=⟨4,w,false,2,2,a,b,c⟩
def Lg:List FM:=[⟨0,[],false,0,0,0,0,0⟩,⟨1,[],false,0,0,7,0,0⟩,⟨2,[116,111,100,97,121],false,0,0,7,0,0⟩,U8 [102,97,99,116,32],U8 [104,97,115,32],U8 [],bV [108,111,111,107] true 1 2,Bu [43] 5 5 6,Bu [45] 5 5 6,Bu [42] 6 6 7,Bu [47] 6 6 7,
 bV [109,105,110] false 2 2,bV [109,97,120] false 2 2,Bu [60] 4 5 5,Bu [61] 4 5 5,Bu [97,110,100] 2 2 3,Bu [111,114] 1 1 2,⟨5,[110,111,116,32],false,1,1,3,3,3⟩,bV [105,102] false 3 3,bV [114,111,117,110,100] false 2 2,bV [98,101,116,119,101,101,110] false 2 2,
 bV [115,101,114,118,105,99,101] true 2 2,bV [98,101,115,116] true 3 3,bV [103,114,111,119] true 2 2,bV [109,111,110,116,104,115] false 1 1,bV [110,117,109,98,101,114] false 1 1,bV [115,116,97,114,116] false 1 1]
def yB(op:Nat):FM:=Lg.getD op ⟨0,[],false,0,0,0,0,0⟩
def dT (a b:List Nat):Bool:=decide (b.length<=a.length)&&sF (a.take b.length) b
def iH(s:List Nat):List Nat:=if dT s [45]then [109,105,110,117,115,32]++s.drop 1 else s
def Ge(neg:Bool)(l:List Nat):List Nat:=eu neg (A4 65536 l)
def qK(f:qF):List Nat:=Ge f.n.b f.n.a++(if aW f.d then []else 47::Ge f.d.b f.d.a)
def Ga(f:qF):Bool := !f.n.b && !f.d.b&&decide (f.n.a.length+f.d.a.length=0)
def wY(f:qF):Bool:=decide (f.n.a.length<=42)&&decide (f.d.a.length<=42)&&uN f&&decide ((if dT (qK f) [45]then(qK f).drop 1 else qK f).length<=200)
def tQ(v:iF):Bool:=
 if v.a=2\/v.a=3 then decide (v.i=0)&&wY v.f
 else if v.a=1 then Ga v.f&&(decide (v.i=0)||decide (v.i=1))
 else if v.a=4 then Ga v.f&&(decide (0<=v.i)&&decide (v.i<65536))
 else if v.a=5\/v.a=6 then Ga v.f&&(decide (-1048576<=v.i)&&decide (v.i<=1048576))
 else false
def gW:Nat->Nat->Nat
 | 0,_=>0
 | k+1,n=>if yH (k+1)<=n then k+1 else gW k n
def d1 (n:Nat):Nat:=48+n%10
def Gb (y m d:Nat):List Nat:=[d1 (y / 1000),d1 (y / 100),d1 (y / 10),d1 y,45,d1 (m / 10),d1 m,45,d1 (d / 10),d1 d]
def vH(n:Nat):List Nat:=Gb (1900+gW 2153 n / 12) (gW 2153 n%12+1) (n-yH (gW 2153 n)+1)
def Qh(date:List Nat)(v:iF):List Nat:=
 if v.a=1 then(if v.i=1 then [116,114,117,101]else [102,97,108,115,101])
 else if v.a=2 then iH (qK v.f)
 else if v.a=3 then [109,111,110,101,121,32]++iH (qK v.f)
 else if v.a=4 then date
 else if v.a=5 then iH (xJ v.i)++[32,100,97,121,115]
 else if v.a=6 then iH (xJ v.i)++[32,109,111,110,116,104,115]
 else []
def Gi (v:iF):List Nat:=Qh (vH v.i.toNat) v
def Fz(v:iF):Bool:=decide (v.a=0)&&decide (v.i=0)&&Ga v.f
def Hw(op:Nat)(name:List Nat)(n:Nat):Bool:=
 decide (op<27) && !decide ((yB op).b=0)&&decide ((yB op).d<=n)&&decide (n<=(yB op).h)&&(if (yB op).e=true then sI name else sF name [])
def vU(op:Nat)(v:iF):Bool:=if op=19 then decide (1<=v.i)&&decide (v.i<=6)&&Fz { v with i:=0 } else Fz v
mutual
/-- is an expression printable at a depth? -/
def fJ:iA->Nat->Bool
 | .mk op name v args,d=>decide (d<=24)&&Hw op name args.length&&(if op=1 then tQ v else vU op v&&Fr args (d+1))
def Fr:List iA->Nat->Bool
 | [],_=>true
 | x::l,d=>fJ x d&&Fr l d
end
theorem Zw:∀ {l:List iA} {d:Nat},Fr l d=l.all λx=>fJ x d
 | [],d=>by rw[Fr];rfl
 | x::l,d=>by rw[Fr,Zw];rfl
def Ca:List (List Nat):=[[],[100,111,119,110],[117,112],[102,108,111,111,114],[99,101,105,108],[104,97,108,102],[101,118,101,110]]
def qM(n:Nat):List Nat:=if n<7 then Ca.getD n []else []
def H3 (lev:Nat)(p:Nat × List Nat):List Nat:=if lev<=p.1 then p.2 else [40]++p.2++[41]
def mV:Bool->List (Nat × List Nat)->List Nat
 | _,[]=>[]
 | b,p::l=>(if b then []else [44,32])++p.2++mV false l
def Dg(op:Nat)(i:Int):List Nat:=(if op=19 then [44,32]++qM i.toNat else [])++[41]
def mS(op:Nat)(name:List Nat)(v:iF)(l:List (Nat × List Nat)):List Nat:=
 if (yB op).b=1 then Gi v else if (yB op).b=2 then(yB op).c
 else if (yB op).b=3 then(yB op).c++name++[32,97,116,32]++H3 (yB op).g (l.getD 0 (0,[]))
 else if (yB op).b=4 then H3 (yB op).g (l.getD 0 (0,[]))++([32]++(yB op).c++[32]++H3 (yB op).i (l.getD 1 (0,[])))
 else if (yB op).b=5 then(yB op).c++H3 (yB op).g (l.getD 0 (0,[]))
 else(yB op).c++[40]++((if (yB op).e then name++[44,32]else [])++(mV true l++Dg op v.i))
mutual
def yQ:iA->List Nat
 | .mk op name v args=>mS op name v (nJ args)
def nJ:List iA->List (Nat × List Nat)
 | []=>[]
 | y::l=>((yB y.e).a,yQ y)::nJ l
end
theorem Mq:∀l:List iA,nJ l=l.map λy=>((yB y.e).a,yQ y)
 | []=>by rw[nJ];rfl
 | y::l=>by rw[nJ,Mq l];rfl
end
section
variable {l a:List Nat}
variable [fC]
variable {t tf:G vA}{b:Nat}{s m:List Nat}
theorem ZY (b:a=[]\/a=[45]){x:Nat}  : Um (a++gM l) x=a++gM (x::l):=by
 unfold Um
 cases l with
 | nil=>
  grind [gM]
 | cons p l=>
  have c:gM (p::l)≠[]:=by
   cases l with
   | nil=>grind [Yv,gM]
   | cons q l=>
    grind [gM,List.length_append,CV]
  rw[A3,gM,D4];rintro(h | h)
  .simp_all
  .rcases b with rfl | rfl
   .rw[E8]at h;have:=BC (p::l) 45 (by simp_all);omega
   simp_all
theorem HY:∀(l:List Nat),(∀x∈l,x<1000000000)->(gM l).length<=9*l.length
 | [],_=>by simp[gM]
 | [p],h=>by
  simp_all [Tx,gM]
 | p::q::l,h=>by
  have:=HY (q::l) λx a=>h x (.tail _ a)
  grind [gM,CV]
theorem TM (c:a=[]\/a=[45]):pB 256 (a++gM l):=by
 intro x b;rcases F5.1 b with b | b
 .grind
 .have:=BC _ x b;omega
def TX.d{b:Nat}{s:List Nat}:AC (λtf t=>TX tf t b s) where
 le:=λh=>h.2.2.1
 aa:=λh a y=>h.g a y
 ac:=λa h=>TX.o a h
def zo1{Q:lB}{t0:G vA}{ps:List Nat}{l:O} (g:a=[]\/a=[45])(o:zB t0 tf)(s:bA tf 1 (uC .u32 ps) l)(c:pB 1000000000 ps)(r:ps.length<30000)(h:TX tf t b a)
  (p:∀t',zB t0 t'->Q (.p [.h (a++gM ps),.e .i64 0]) t'):jp 183 29 [.h [],.e .i64 0,l,.j b 0] t Q:=by
 refine zuz ?_;unfold zd4 uS V;refine KG (S:=λk tf t=>TX tf t b (a++gM (ps.drop k))) (λk=>TX.d) s r (by grind [gM]) ?_ ?_
 .intro k x tf t' A j B q;have C:k<ps.length:=(F6.1 j).1;have u:x<1000000000:=c x (O9 j);have e:ps.drop k=x::ps.drop (k+1):=by
   grind [List.drop_eq_getElem_cons]
  have i:(a++gM (ps.drop (k+1))).length<300000:=by
   have:=HY (ps.drop (k+1)) λy v=>c y (List.mem_of_mem_drop v)
   grind
  grind [zwe,TM,ZY]
 .intro w t' f d;rw[G8]at d;obtain⟨z,m,_,n,_⟩:=d.a;show pD (oA Y 96 ⟨0,t'⟩ (.j b 0)) _;rw[m,xA];show pD (dR Y 96 9 ⟨0,t'⟩ z) _;rw[zn7 iX iI rfl rfl rfl M0 rfl (n.r (by rfl) d.2.2.1) (TM g),xA];exact p _ (o.d (f.d d.2.2.1))
set_option exponentiation.threshold 2000 in
theorem zcx{neg:Bool} {v:O}(D:bA t 1 (uC .u16 l) v)(g:pB 65536 l)(q:yM neg l=true):oB Y F 183 [.i [.d neg,v]] t=some (.p [.h (Ge neg l),.e .i64 0]):=by
 have T:l.length<=1024:=by
  grind [yM]
 refine xV (w183 ?_);simp only[uI,uB,V,t183,lA,q196];rw[Jk (by omega) D,q];simp only[O.r,xA,Bool.not_true,F0,if_false,D.c,sH,yC,fI];by_cases S:l=[]
 .grind [yM,Ge,eu,A4,Tw]
 .have U:0<l.length:=List.length_pos_iff.2 S;rw[A3 (by omega),q235];refine Rt D (by omega) g λJ v1 y E=>?_;have f:l.getLast?≠some 0:=by
   grind [yM]
  have a:B4 l:=λA s=>f (by rw[List.getLast?_eq_some_getLast A,s]);have hN:A4 4294967296 (qH l)=A4 65536 l:=Vi l;have H:0<A4 65536 l:=by
   rcases Z7 (A4 65536 l)with e | e
   .exfalso;exact S (Xb (B:=65536) (by decide) a e)
   .exact e
  have p:(qH l).length<=512:=by rw[vT];omega
  have k:A4 4294967296 (qH l)<1000000000^1100:=by
   have P:=aQ (B:=4294967296) (by decide) (Lw g);have Q:4294967296^(qH l).length<=4294967296^512:=O8 (by decide) p;omega
  refine zap (t0:=J) (N:=A4 65536 l) (M:=1100) (by decide) ?_ 1100 (qH l) [] .g v1 J J k (by simp) (Nr a) (Lw g) (by omega) (λx hx=>by cases hx) ?_ (by simp[A4,hN]) (zB.f _) (zB.f _) MH E
  .intro tf t' Z v4 v5 k1 X k3 k4 I k6 k7 k8 k9;refine zqx ?_;simp only[uI,uL,uX,V,uY,xr,lA,(k4.a X).c,xA,yC,sH,kE,G1];rw[A3 (by simp)];obtain⟨r,f1,K,L,f4⟩:=k3.p rfl X;have o:Z.length<30000:=by omega
   intro b m d;obtain⟨t2,e1,s,e3,e4⟩:=gP (C:=Y) iX m;rw[e1,xA];have i:TX r t2 b []:=⟨d,Bz K m,K.d e3,.g,s,MH,Xv⟩;have W:zB t r:=y.d (k1.d f1);have c:gM Z=mF (A4 65536 l):=by rw[<- k8];exact(HZ k6 I k7).1
   cases neg with
   | false=>
    simp only[F0,if_false];refine zo1 (.inl rfl) W L I o i λt' h=>⟨?_,h⟩;rw[c];rfl
   | true=>
    simp only[if_true];obtain⟨tv,P,Q⟩:=i.f 45 (by simp);rw[P,xA];intro n hn u;obtain⟨H1,R,g4⟩:=Q n hn u;rw[show((45:Nat):Int)=45 from rfl]at R;rw[R,xA];intro n2 z j;obtain⟨w,t3,t4,g5,g6,g7⟩:=g4 n2 z j;simp only[];rw[g5,xA];intro n3 _ _;rw[g6,xA];refine zo1 (.inr rfl) W L I o g7 λt' h=>⟨?_,h⟩;rw[c];rfl
  grind [vT]
end
section
variable {a b:List Nat}{n:Int}{u v:O}{f:qF}
variable [fC]
variable {t:G vA}
def OY  : oB Y F 239 [.h a,.h b] t=some (.d (dT a b)):=by
 refine mC.2 (w239 ?_);simp only[uS,rB,V,t239,lA,eW,mI];grind [dT,Gv,xA,O.w]
def VE  : oB Y F 132 [.h a,.h b] t=some (.h (if dT a b then a.drop b.length else a)):=by
 have h:oB Y F 185 [.h a,.h b] t=some (.h (if dT a b then a.drop b.length else a)):=by
  refine mC.2 (w185 ?_);simp only[uB,uS,V,t185,lA,q239,OY,xA,O.r,eW];grind [dT,Mx,xA,O.w]
 refine mC.2 (w132 ?_);simp only[uS,t132,lA,q185,h,xA,O.w];simp_all
def YV  : oB Y F 186 [.h a,.h b] t=some (.p [.h (if dT a b then a.drop b.length else a),.d (dT a b)]):=by
 have h:oB Y F 240 [.h a,.h b] t=some (.p [.h (if dT a b then a.drop b.length else a),.d (dT a b)]):=by
  refine mC.2 (w240 ?_);simp only[uB,uS,V,t240,lA,q239,OY,xA,O.r,eW];grind [dT,Mx,xA,O.w]
 refine mC.2 (w186 ?_);have c:∀u v,vK 0 (.p [u,v])=some u:=λ_ _=>rfl;have d:∀u v,vK 1 (.p [u,v])=some v:=λ_ _=>rfl;simp only[uB,uS,uX,t186,lA,q240,h,xA,c,d,O.w,O.r];simp_all
def JD{s:List Nat}(h:s.length<4000000000000000000):oB Y F 134 [.h s] t=some (.h (iH s)):=by
 refine mC.2 (w134 ?_);have a:∀u v,vK 0 (.p [u,v])=some u:=λ_ _=>rfl;have b:∀u v,vK 1 (.p [u,v])=some v:=λ_ _=>rfl;simp only[uB,uS,uX,t134,lA,q186,YV,xA,a,b,O.w,O.r];grind [iH,rH,xA]
def zu5 (a : -9223372036854775808<=n)(b:n<9223372036854775808):oB Y F 137 [.e .i64 n] t=some (.h (xJ n)):=by
 have c:Y.c.c 137=some (rN Np):=by kernel_rfl
 refine Ke c λH=>?_;unfold Np;simp only[];rw[mI.2 a,kE.2 b];rfl
theorem Xq (a : -9223372036854775808<=n)(b:n<9223372036854775808):(xJ n).length<=21:=by
 by_cases h:n<0
 .obtain⟨u,rfl⟩:∃u:Nat,n = -(u:Int):=⟨n.natAbs,by omega⟩;rw[EF (by omega)];have:=Tx (u:=u) (k:=20) (by decide) (by omega)
  grind
 .obtain⟨u,rfl⟩:∃u:Nat,n=(u:Int):=⟨n.toNat,by omega⟩;rw[Xr];have:=Tx (u:=u) (k:=20) (by decide) (by omega);omega
def Xx (a : -9223372036854775808<=n)(b:n<9223372036854775808):oB Y F 75 [.e .i64 n] t=some (.h (iH (xJ n))):=by
 have:=Xq a b;refine mC.2 (w75 ?_);simp only[uS,V,t75,lA,q137,zu5 a b,xA,O.w,q134,JD (s:=xJ n) (by omega)]
 simp_all
def YT{u:Nat}:∀ {k:Nat},u<10^k->(mF u).length<=k+1:=by
 intro k h;have:=Tx (u:=u) (k:=k+1) (by omega) (by omega);exact this
theorem Ve{neg:Bool}{l:List Nat}(a:pB 65536 l)(d:l.length<=1024):(Ge neg l).length<=10000:=by
 unfold Ge eu;have b:=aQ (B:=65536) (by decide) a;have c:(65536:Nat)^l.length<=10^(5*l.length):=by
  simp_all [Nat.pow_mul,Nat.pow_le_pow_left]
 have:=YT (u:=A4 65536 l) (k:=5*l.length) (by omega)
 grind
theorem HK (h:uN f=true):yM f.n.b f.n.a=true/\yM f.d.b f.d.a=true/\f.n.a.length<=1024/\f.d.a.length<=1024:=by
 grind [uN]
theorem EW (c:f.a)(h:uN f=true):(qK f).length<=20001:=by
 obtain⟨_,_,d,e⟩:=HK h;have a:=Ve (neg:=f.n.b) c.2.1 d;have b:=Ve (neg:=f.d.b) c.2.2 e
 grind [qK]
def PG  (h:bA t 1 (vD f.n.a) u)(e:bA t 1 (vD f.d.a) v)(c:qF.a f):oB Y F 131 [.i [.d f.n.b,u,.d f.d.b,v]] t=some (if uN f then .p [.h (qK f),.e .i64 0]else .p [.h [],.e .i64 2]):=by
 refine mC.2 (w131 ?_);have i:∀u v,vK 0 (.p [u,v])=some u:=λ_ _=>rfl;have j:∀u v,vK 1 (.p [u,v])=some v:=λ_ _=>rfl;simp only[uI,uB,uS,uX,V,t131,lA,q130,AK h e c,xA,O.r]
 cases d:uN f with
 | false=>simp
 | true=>
  obtain⟨l,m,n,o⟩:=HK d;have a:=Ve (neg:=f.n.b) c.2.1 n;have b:=Ve (neg:=f.d.b) c.2.2 o;have k:oB Y F 184 [.i [.d f.n.b,u,.d f.d.b,v]] t=some (.d (aW f.d)):=by
   refine mC.2 (w184 ?_);simp only[uB,t184,lA,q233,EJ e,xA,O.r];first | exact⟨rfl,rfl⟩ | exact⟨trivial,trivial⟩ | exact⟨rfl,trivial⟩
  simp only[Bool.not_true,F0,if_false,q183,zcx h c.2.1 l,xA,i,j,O.w,yC,if_true,q184,k,O.r];unfold qK
  cases g:aW f.d with
  | true=>simp
  | false=>
   simp only[K4,if_true,zcx e c.2.2 m,xA,i,j,O.w,yC];grind [rH,xA]
def EV  (c:bA t 1 (vD f.n.a) u)(d:bA t 1 (vD f.d.a) v)(b:qF.a f)(a:uN f=true):oB Y F 73 [.i [.d f.n.b,u,.d f.d.b,v]] t=some (.h (iH (qK f))):=by
 have:=EW b a;refine mC.2 (w73 ?_);have e:∀u v,vK 0 (.p [u,v])=some u:=λ_ _=>rfl;have g:∀u v,vK 1 (.p [u,v])=some v:=λ_ _=>rfl;simp only[uI,uS,uX,t73,lA,q131,PG c d b,a,if_true,xA,e,g,O.w,yC,q134,JD (s:=qK f) (by omega)]
 simp_all
def KQ  (b:bA t 1 (vD f.n.a) u)(c:bA t 1 (vD f.d.a) v)(d:qF.a f):oB Y F 69 [.i [.d f.n.b,u,.d f.d.b,v]] t=some (.d (wY f)):=by
 refine mC.2 (w69 ?_);have i:∀u v,vK 0 (.p [u,v])=some u:=λ_ _=>rfl;have j:∀u v,vK 1 (.p [u,v])=some v:=λ_ _=>rfl;simp only[uI,uB,uS,rB,uX,t69,lA,b.c,c.c,wU,xA,yC,kE];unfold wY;by_cases e:f.n.a.length<=42
 .rw[A3 (by omega)];by_cases g:f.d.a.length<=42
  .rw[A3 (by omega)];simp only[q130,AK b c d,xA,O.r]
   cases a:uN f with
   | false=>simp
   | true=>
    simp only[Bool.not_true,F0,if_false,q131,PG b c d,a,if_true,xA,i,j,O.w,yC,fI,q132,VE,eW];simp[e,g,eT];constructor<;>intro h<;>omega
  grind
 grind
def GY  (b:bA t 1 (vD f.n.a) u)(c:bA t 1 (vD f.d.a) v)(a:f.c):oB Y F 70 [.i [.d f.n.b,u,.d f.d.b,v]] t=some (.d (Ga f)):=by
 unfold qF.c lF at a;refine mC.2 (w70 ?_);simp only[uI,rB,uW,t70,lA,b.c,c.c,wU,xA,yC];unfold Ga;rw[A2 (by omega) (by omega),wF];have e:decide ((f.n.a.length:Int)+(f.d.a.length:Int)=0)=decide (f.n.a.length+f.d.a.length=0):=by
  grind
 rw[e];cases f.n.b<;>cases f.d.b<;>simp
def OJ  : oB Y F 71 [.e .i64 n] t=some (.d (decide (0<=n)&&decide (n<65536))):=by
 refine mC.2 (w71 ?_);simp only[rB,t71,lA,mI];grind [zD]
def XC{a:iF} (c:bA t 1 (vD a.f.n.a) u)(d:bA t 1 (vD a.f.d.a) v)(b:qF.a a.f):oB Y F 34 [.i [.e .u8 a.a,.d a.f.n.b,u,.d a.f.d.b,v,.e .i64 a.i]] t=some (.d (tQ a)):=by
 refine mC.2 (w34 ?_);simp only[J2,w6,uB,rB,nH,V,t34,lA,q69,KQ c d b,q70,GY c d b.1,q71,OJ,xA,O.r];unfold tQ;have h:∀j:Int,kB (a.a:Int) j=decide ((a.a:Int)=j):=λj=>wF;simp only[h];by_cases g:a.a=2
 .have e:(a.a:Int)=2:=by omega
  by_cases f:a.i=0<;>simp[e,g,f,wF]
 by_cases i:a.a=3
 all_goals grind [wF,eT]
end
section
variable [fC]
variable {t:G vA}
theorem Rd(s:List Nat):(iH s).length<=s.length+6:=by
 grind [iH]
theorem Wl{v:iF}(h:tQ v=true)(a:v.a=2\/v.a=3):uN v.f=true:=by
 grind [tQ,wY]
def UJ{a:iF}{u v:O}{date:List Nat}(l:bA t 1 (vD a.f.n.a) u)(m:bA t 1 (vD a.f.d.a) v)(r:iF.b a)(i:tQ a=true)(q:a.a=4->oB Y F 74 [.e .i64 a.i] t=some (.h date)):oB Y F 35 [.i [.e .u8 a.a,.d a.f.n.b,u,.d a.f.d.b,v,.e .i64 a.i]] t=some (.h (Qh date a)):=by
 obtain⟨_,c,d,f⟩:=r;have s:=Xq d f;have x:=Rd (xJ a.i);have B:∀j:Int,kB (a.a:Int) j=decide ((a.a:Int)=j):=λj=>wF;refine mC.2 (w35 ?_);simp only[uS,V,t35,lA,B];unfold Qh;by_cases y:a.a=1
 .have e:(a.a:Int)=1:=by omega
  have p:oB Y F 72 [.d (kB a.i 1)] t=some (.h (if a.i=1 then [116,114,117,101]else [102,97,108,115,101])):=by
   refine mC.2 (w72 ?_);have g:oB Y F 133 [.d (kB a.i 1)] t=some (.h (if a.i=1 then [116,114,117,101]else [102,97,108,115,101])):=by
    refine mC.2 (w133 ?_);by_cases h:a.i=1<;>simp[t133,lA,wF,h]
   simp only[uS,t72,lA,q133,g,xA,O.w];simp_all
  simp[e,y,q72,p,O.w]
 have C:¬ (a.a:Int)=1:=by omega
 by_cases n:a.a=2
 .have e:(a.a:Int)=2:=by omega
  simp[e,n,q73,EV l m c (Wl i (.inl n)),O.w]
 have D:¬ (a.a:Int)=2:=by omega
 by_cases k:a.a=3
 .have e:(a.a:Int)=3:=by omega
  have J:=EW c (Wl i (.inr k));have w:=Rd (qK a.f);have:=rH (a:=[109,111,110,101,121,32]) (b:=iH (qK a.f)) (by grind);simp[e,k,q73,EV l m c (Wl i (.inr k)),O.w,this]
 have E:¬ (a.a:Int)=3:=by omega
 by_cases o:a.a=4
 .have e:(a.a:Int)=4:=by omega
  simp[e,o,q74,q o,O.w]
 have H:¬ (a.a:Int)=4:=by omega
 by_cases z:a.a=5
 .have e:(a.a:Int)=5:=by omega
  have:=rH (a:=iH (xJ a.i)) (b:=[32,100,97,121,115]) (by simp;omega);simp[e,z,q75,Xx d f,O.w,this]
 have I:¬ (a.a:Int)=5:=by omega
 by_cases A:a.a=6
 .have e:(a.a:Int)=6:=by omega
  have:=rH (a:=iH (xJ a.i)) (b:=[32,109,111,110,116,104,115]) (by simp;omega);simp[e,A,q75,Xx d f,O.w,this]
 grind
end
section
variable {a b:Nat}{w:List Nat}{K:zH->T}{Q:lB}
variable [fC]
variable {t:G vA}
def GW{a:iF}{u v:O}(d:bA t 1 (vD a.f.n.a) u)(e:bA t 1 (vD a.f.d.a) v)(c:a.f.c):oB Y F 61 [.i [.e .u8 a.a,.d a.f.n.b,u,.d a.f.d.b,v,.e .i64 a.i]] t=some (.d (Fz a)):=by
 refine mC.2 (w61 ?_);simp only[uB,rB,t61,lA,fI];unfold Fz;by_cases f:a.a=0
 .rw[A5 (by omega)];by_cases b:a.i=0
  .rw[A5 b,q70,GY d e c,xA]
   grind [O.r,xA]
  simp_all
 simp_all
def FM.j(f:FM):List O:=[.e .u8 f.b,.h f.c,.d f.e,.e .i64 f.d,.e .i64 f.h,.e .i64 f.a,.e .i64 f.g,.e .i64 f.i]
def lS:List O:=(Lg.map FM.j).flatten
abbrev z8:List O:=[.e .u8 0,.h [],.d false,.e .i64 0,.e .i64 0,.e .i64 0,.e .i64 0,.e .i64 0]
def cv76 {n:Bool}   (h:wp 59 (K (AN (bV w n a b).j)) t Q):wp 59 (.n (.q (.aa 116) [] []) [.h w,.d n,.e .i64 (a:Int),.e .i64 (b:Int)] λa=>.o z8 a K) t Q:=by
 have e:oB Y F 116 [.h w,.d n,.e .i64 (a:Int),.e .i64 (b:Int)] t=some (.i (bV w n a b).j):=by
  refine mC.2 (w116 ?_);simp only[V,uY,t116,lA,if_true];constructor<;>trivial
 show pD (some (116,[O.h w,.d n,.e .i64 (a:Int),.e .i64 (b:Int)])) _;rw[xA];simp only[];rw[q116,e,xA];exact h
def cv77   (h:wp 59 (K (AN (U8 w).j)) t Q):wp 59 (.n (.q (.aa 117) [] []) [.h w] λa=>.o z8 a K) t Q:=by
 have e:oB Y F 117 [.h w] t=some (.i (U8 w).j):=by
  refine mC.2 (w117 ?_);simp only[V,uY,t117,lA,if_true];constructor<;>trivial
 show pD (some (117,[O.h w])) _;rw[xA];simp only[];rw[q117,e,xA];exact h
def cv78 {c:Nat}  (h:wp 59 (K (AN (Bu w a b c).j)) t Q):wp 59 (.n (.q (.aa 118) [] []) [.h w,.e .i64 (a:Int),.e .i64 (b:Int),.e .i64 (c:Int)] λa=>.o z8 a K) t Q:=by
 have e:oB Y F 118 [.h w,.e .i64 (a:Int),.e .i64 (b:Int),.e .i64 (c:Int)] t=some (.i (Bu w a b c).j):=by
  refine mC.2 (w118 ?_);simp only[V,uY,t118,lA,if_true];constructor<;>trivial
 show pD (some (118,[O.h w,.e .i64 (a:Int),.e .i64 (b:Int),.e .i64 (c:Int)])) _;rw[xA];simp only[];rw[q118,e,xA];exact h
def ME (h:∀b t',t.c b=none->Y.a<=b->xC t' b none lS->zB t t'->nF b t t'->Q (.j b 0) t'):Wc Y F 59 [] t Q:=by
 refine w59 ?_;unfold t59 uG V uY;repeat (first | refine cv76 ?_ | refine cv77 ?_ | refine cv78 ?_ | refine tA rfl ?_)
 intro b c a;obtain⟨t',d,f,g,i⟩:=Eb c lS none;have e:∀l:List O,l=lS->nL (.i l) ⟨b,t⟩=some (.j b 0,⟨b+1,t'⟩):=by
  intro l j;show some (O.j b 0,tG ⟨b,t⟩ l none)=_;rw[j,d]
 rw[e _ (by rfl),xA];exact h b t' c a f g i
def XR (h:∀b t',t.c b=none->Y.a<=b->xC t' b none lS->zB t t'->nF b t t'->Q (.i [.j b 0]) t'):Wc Y F 26 [] t Q:=by
 refine w26 ?_;unfold t26 aB;refine aA ?_;rw[q59];refine ME λb t' a c d e f=>?_;refine tA rfl (tA rfl ?_);exact h b t' a c d e f
end
section
variable {a b:Int}
theorem rM (h:a≠b):kB a b≠true:=λe=>h (fI.1 e)
theorem dM (h:¬ a<b):bB a b≠true:=λe=>h (kE.1 e)
theorem mh (h:¬ a<=b):sE a b≠true:=λe=>h (mI.1 e)
theorem jR (h:a=b):kB a b=true:=fI.2 h
theorem iM (h:a<b):bB a b=true:=kE.2 h
theorem fe (h:a<=b):sE a b=true:=mI.2 h
end
section
variable [fC]
variable {t:G vA}
theorem PW{f:FM->List O}(a:∀x,(f x).length=8):∀(l:List FM) (i k:Nat),i<l.length->k<8->(l.map f).flatten[i*8+k]?=(f (l.getD i ⟨0,[],false,0,0,0,0,0⟩))[k]?
 | [],i,k,h,_=>by simp at h
 | x::l,0,k,h,b=>by
  grind
 | x::l,i+1,k,h,b=>by
  rw[G4,Z6,T6 (by grind),a,show(i+1)*8+k-8=i*8+k by omega];rw[PW a l i k (by grind) b];simp
def Ia{op k:Nat}(h:op<27)(a:k<8):lS[op*8+k]?=(yB op).j[k]?:=PW (f:=FM.j) (λ_=>rfl) Lg op k h a
def zb{b op:Nat}(h:op<27):zC Y 191 (.j b 0) (.e .u8 (op:Int))=some (.j b (op*8)):=by
 have a:ob (Y.b.c 191) (λy=>y.a.g)=some (27,131):=by kernel_rfl
 rw[pA]at a;obtain⟨y,c,d⟩:=a;unfold zC;rw[c,mA];have e:(O.e .u8 (op:Int)).aj=some op:=rfl
 grind [mA,O.u,O.ah,W2,gC,xE]
def zU{b o k:Nat}(a:k<8):iB Y 131 k (.j b o)=some (.j b (o+k)):=by
 have h:Qm Y 131 k=some k:=by
  unfold Qm;rw[W2,mA];simp only[lE.b,mA];have:k=0\/k=1\/k=2\/k=3\/k=4\/k=5\/k=6\/k=7:=by omega
  rcases this with e | e | e | e | e | e | e | e<;>rw[e]<;>rfl
 unfold iB;rw[h];rfl
section
variable {b op:Nat}(a:xC t b none lS)(h:op<27)
include a h
def MW:oA Y 5 ⟨0,t⟩ (.j b (op*8+0))=some (.e .u8 (yB op).b):=a.f M0 rfl (by rw[Ia h (by decide)];rfl)
def zgu:oA Y 9 ⟨0,t⟩ (.j b (op*8+1))=some (.h (yB op).c):=a.f iI rfl (by rw[Ia h (by decide)];rfl)
def MX:oA Y 4 ⟨0,t⟩ (.j b (op*8+2))=some (.d (yB op).e):=a.f yr rfl (by rw[Ia h (by decide)];rfl)
def zm0:oA Y 3 ⟨0,t⟩ (.j b (op*8+3))=some (.e .i64 (yB op).d):=a.f mL rfl (by rw[Ia h (by decide)];rfl)
def zug:oA Y 3 ⟨0,t⟩ (.j b (op*8+4))=some (.e .i64 (yB op).h):=a.f mL rfl (by rw[Ia h (by decide)];rfl)
def zmz:oA Y 3 ⟨0,t⟩ (.j b (op*8+5))=some (.e .i64 (yB op).a):=a.f mL rfl (by rw[Ia h (by decide)];rfl)
def DY:oA Y 3 ⟨0,t⟩ (.j b (op*8+6))=some (.e .i64 (yB op).g):=a.f mL rfl (by rw[Ia h (by decide)];rfl)
def zmy:oA Y 3 ⟨0,t⟩ (.j b (op*8+7))=some (.e .i64 (yB op).i):=a.f mL rfl (by rw[Ia h (by decide)];rfl)
end
def zo2(h:O)(g:Int)(i:List Nat)(b:Int)(c:Bool)(d:O)(e:Bool)(f:O)(a:Int)(j:O)(m:Int):T:=
 .a (oD O.z [(.e .u8 b),(.d c),d,(.d e),f,(.e .i64 a)]) (.a (kB g 1)
 (.c 34 [(.i [(.e .u8 b),(.d c),d,(.d e),f,(.e .i64 a)])] λk=>
 .q k λl=>.l (.d l))
 (.a (kB g 19)
 (.a (bB a 1)
 (.l (.d false))
 (.a (bB 6 a)
 (.l (.d false))
 (.a true (.j 33 [(.e .i64 m),h,(.e .u8 g),(.h i),(.e .u8 b),(.d c),d,(.d e),f,(.e .i64 a),j,(.e .u8 b),(.d c),d,(.d e),f,(.e .i64 0)]) .g)))
 (.j 33 [(.e .i64 m),h,(.e .u8 g),(.h i),(.e .u8 b),(.d c),d,(.d e),f,(.e .i64 a),j,(.e .u8 b),(.d c),d,(.d e),f,(.e .i64 a)]))) .g
section
variable {op:Nat}{name:List Nat}{v:iF}{a b c:O}{bf d:Nat}
def RU{e:Int}{v':iF}{R:Bool}{n:Nat}{c3:O}(f:bA t 1 (vD v'.f.n.a) a)(g:bA t 1 (vD v'.f.d.a) b)(h:v'.f.c)(p:vC c=some (.e .i64 (n:Int)))
  (d:jp 27 4 [.e .i64 e,c,.e .i64 (n:Int),.e .i64 0,c3] t (λx t'=>x=.d R/\t'=t)) (j:Bool) (l:Bool) (i o:Int) (k m:O) :
  jp 27 33 [.e .i64 e,c3,.e .u8 (op:Int),.h name,.e .u8 i,.d j,k,.d l,m,.e .i64 o,c,.e .u8 v'.a,.d v'.f.n.b,a,.d v'.f.d.b,b,.e .i64 v'.i] t (λx t'=>x=.d (Fz v'&&R)/\t'=t):=by
 refine j27_33 ?_;simp only[uI,uB,rB,V,uY,zpi,lA,q61,GW f g h,xA,O.r];grind [xA,yC]
def zkt{n:Nat}{R:Bool}(f:bA t 1 (vD v.f.n.a) a)(g:bA t 1 (vD v.f.d.a) b)(h:qF.a v.f)(l:vC c=some (.e .i64 (n:Int)))
  (e:jp 27 4 [.e .i64 (d:Int),c,.e .i64 (n:Int),.e .i64 0,.j bf 0] t (λx t'=>x=.d R/\t'=t)) :
  wp 27 (zo2 (.j bf 0) (op:Int) name (v.a:Int) v.f.n.b a v.f.d.b b v.i c (d:Int)) t (λx t'=>x=.d (if op=1 then tQ v else vU op v&&R)/\t'=t):=by
 unfold zo2;refine tA ?_ ?_
 .rw[gI];simp only[Z8,sf,f.e,g.e];rfl
 by_cases j:op=1
 .refine tA (jR (by omega)) ?_;simp only[lA,q34,XC f g h,xA,O.r,A5 j];constructor<;>trivial
 .refine vB (rM (by omega)) ?_;simp only[A3 j];unfold vU;by_cases k:op=19
  .refine tA (jR (by omega)) ?_;simp only[A5 k];by_cases m:1<=v.i
   .refine vB (dM (by omega)) ?_;by_cases o:v.i<=6
    .refine vB (dM (by omega)) (tA rfl ?_);have:=RU (op:=op) (name:=name) (v':={ v with i:=0 }) f g h.1 l e v.f.n.b v.f.d.b v.a v.i a b;simp only[decide_eq_true m,decide_eq_true o,F3];exact this
    grind [iM,lA]
   grind [iM,lA]
  .refine vB (rM (by omega)) ?_;simp only[A3 k];exact RU (op:=op) (name:=name) (v':=v) f g h.1 l e v.f.n.b v.f.d.b v.a v.i a b
def zng{n:Nat}{R:Bool}(j:xC t bf none lS)(w:op<256)(z:n<lF)(u:name.length<lF)(o:bA t 1 (vD v.f.n.a) a)(p:bA t 1 (vD v.f.d.a) b)(q:qF.a v.f)(k:vC c=some (.e .i64 (n:Int)))
  (h:d<=24->jp 27 4 [.e .i64 (d:Int),c,.e .i64 (n:Int),.e .i64 0,.j bf 0] t (λx t'=>x=.d R/\t'=t)) :
  oB Y F 27 [.i [.j bf 0],.i [.e .u8 op,.h name,.e .u8 v.a,.d v.f.n.b,a,.d v.f.d.b,b,.e .i64 v.i,c],.e .i64 (d:Int)] t=some (.d (decide (d<=24)&&Hw op name n&&(if op=1 then tQ v else vU op v&&R))):=by
 refine mC.2 (w27 ?_);unfold t27 Hw nd uI uU uB aB rB sC V uY uW;by_cases l:d<=24
 case neg=>
  grind [iM,lA]
 refine vB (dM (by omega)) ?_;have g:=zkt (op:=op) (name:=name) (d:=d) (bf:=bf) o p q k (h l);by_cases e:op<27
 case neg=>
  grind [A2,fe,lA]
 refine vB (by grind [A2,mh]) ?_;refine uA zI (uA (zb e) (uA zI (uA (zU (by decide)) (fB (MW j e) (sB ?_)))));by_cases y:(yB op).b=0
 .grind [jR,lA]
 refine vB (rM (by omega)) ?_;refine uA k (sB (uA zI (uA (zU (by decide)) (fB (zm0 j e) (sB ?_)))));by_cases r:(yB op).d<=n
 case neg=>
  grind [iM,lA]
 refine vB (dM (by omega)) ?_;refine uA k (sB (uA zI (uA (zU (by decide)) (fB (zug j e) (sB ?_)))));by_cases s:n<=(yB op).h
 case neg=>
  grind [iM,lA]
 refine vB (dM (by omega)) ?_;have f:=MX j e;refine uA zI (uA (zU (by decide)) (fB f (iC ?_)));simp only[decide_eq_true l,decide_eq_true e,decide_eq_false y,decide_eq_true r,decide_eq_true s,F3,K4]
 cases i:(yB op).e with
 | true=>
  rw[i]at f;simp only[if_true];refine tA rfl (aA ?_);rw[q60,Kp,xA];refine iC ?_
  cases m:sI name with
  | false=>
   grind [lA]
  | true=>
   refine vB (by simp) (uA zI (uA (zU (by decide)) (fB f (iC (vB (by simp) ?_)))));simp only[F3];exact g
 | false=>
  rw[i]at f;simp only[F0,if_false];refine vB (by simp) (uA zI (uA (zU (by decide)) (fB f (iC (tA rfl ?_)))))
  cases m:sF name []with
  | false=>
   grind [lA]
  | true=>
   refine vB (by simp) ?_;simp only[F3];exact g
end
mutual
theorem FH{bf:Nat}(k:xC t bf none lS):∀(x:iA) (d:Nat) (cs:List O),x.b->d<1000->RD t x.d cs->oB Y F 27 [.i [.j bf 0],.i cs,.e .i64 (d:Int)] t=some (.d (fJ x d))
 | .mk op name v args,d,cs,D,q,h=>by
  obtain⟨a,b,c,rfl,w,y,g⟩:=uJ h;simp only[iA.e,iA.i,iA.v,iA.k]at w y g ⊢;have e:=D;unfold iA.b at e;unfold fJ;refine zng k e.1 (n:=args.length) e.2.2.2.2.1 e.2.1 w y e.2.2.2.1.2.1 (by rw[g.c,C4]) λr=>?_;have:=TB k args args d c 0 g rfl e.2.2.2.2.2 e.2.2.2.2.1 r;exact this
theorem TB{bf:Nat}(k:xC t bf none lS):∀(l args:List iA) (d:Nat) (c:O) (i:Nat),bA t 9 (args.map iA.d) c->args.drop i=l->iA.f l->args.length<lF->d<=24 →
  jp 27 4 [.e .i64 (d:Int),c,.e .i64 (args.length:Int),.e .i64 (i:Int),.j bf 0] t (λx t'=>x=.d (Fr l (d+1))/\t'=t)
 | [],args,d,c,i,g,s,m,j,q=>by
  have:=QX s;refine j27_4 ?_;unfold xe uB uG aB tC rB nH V jH bF;grind [dM,Fr,lA]
 | x::l,args,d,c,i,g,s,m,j,q=>by
  obtain⟨B,C,I⟩:=QY s;unfold lF at j;have f:=m;unfold iA.f at f;refine j27_4 ?_;obtain⟨K,L,cs,z,A,E,H,o⟩:=gG.at On (by simp) g (i:=i) (d:=x.d) (by simp[B]);unfold xe uB uG aB tC rB nH V jH bF;refine tA (iM (by omega)) (uA z (fB A ?_));rw[Bo];refine aC (kN o x.s) ?_;have u:=o.mk x.s;have p:[O.e .u8 ((AN cs).i 0),.h ((AN cs).s 1),.e .u8 ((AN cs).i 2),.d ((AN cs).b 3),(AN cs).v 4,.d ((AN cs).b 5),(AN cs).v 6,.e .i64 ((AN cs).i 7),(AN cs).v 8]=cs:=u
  rw[p];refine tA o.e (aA ?_);rw[A2 (by omega) (by omega),show(d:Int)+1=((d+1:Nat):Int) by omega,q27,FH k x (d+1) cs f.1 (by omega) o,xA];refine iC ?_;unfold Fr
  cases J:fJ x (d+1)with
  | false=>
   grind [lA]
  | true=>
   refine vB (by simp) (qC ?_);rw[A2 (by omega) (by omega),show(i:Int)+1=((i+1:Nat):Int) by omega];have:=TB k l args d c (i+1) g C f.2 j q
   simp_all
end
end
section
variable [fC]
def Wr (s T a:List Nat):Prop:=a=s++T\/(65536<s.length+T.length/\65536<a.length)
theorem Wr.b(s T:List Nat):Wr s T (s++T):=.inl rfl
def Wr.d{s:List Nat}(T:List Nat)(h:65536<s.length):Wr s T s:=.inr ⟨by omega,h⟩
def Wr.a{s T c U d:List Nat}(h:Wr s T c)(k:Wr c U d):Wr s (T++U) d:=by
 rcases h with rfl | ⟨e,f⟩
 .rcases k with rfl | ⟨b,a⟩
  .exact .inl (by simp)
  .exact .inr ⟨by simp at b ⊢;omega,a⟩
 .rcases k with rfl | ⟨b,a⟩
  .exact .inr ⟨by simp;omega,by simp;omega⟩
  .exact .inr ⟨by simp;omega,a⟩
def Wr.c{s T a b:List Nat}(h:Wr s T b)(e:T=a):Wr s a b:=e ▸ h
def zm7{l:List (Nat × List Nat)}{i:Nat}(h:i<l.length):mV (decide (i=0)) (l.drop i)=(if i=0 then []else [44,32])++l[i].2++mV (decide (i+1=0)) (l.drop (i+1)):=by
 rw[G0 h,mV];by_cases a:i=0<;>simp[a]
end
section
variable {b from_ i k:Nat}{d:Int}{l:List Nat}
variable [fC]
variable {t:G vA}
def Kx:List Int:=[31,28,31,30,31,30,31,31,30,31,30,31]
def vN(t:G vA):Prop:=At t 3 0 (Kx.map λn=>O.e .i64 n)
theorem vN.a{t':G vA}(h:vN t)(k:zB t t'):vN t':=At.f k h
def VG(x:Int) (b:0<k) : -(k:Int)<Int.tmod x k/\Int.tmod x k<k:=by
 have h:=Int.natAbs_tmod x k;have a:=G2 x.natAbs (show 0<(k:Int).natAbs by omega);omega
def ub(y:Int):Bool:=decide (Int.tmod y 4=0)&&(!decide (Int.tmod y 100=0)||decide (Int.tmod y 400=0))
def gu (y m:Int):Int:=if m<1 then 0 else if 12<m then 0 else if m=2/\ub y=true then 29 else Kx.getD (m-1).toNat 0
def zc(y:Int):Int:=cA .i64 ((cA .i64 ((cA .i64 (Int.tdiv y 4))-(cA .i64 (Int.tdiv y 100))))+(cA .i64 (Int.tdiv y 400)))
def Vv(c d:Int):Nat->Int->Int->Int
 | 0,_,a=>a
 | k+1,b,a=>if b<=Int.tmod c 12 then Vv c d k (b+1) (cA .i64 (a+gu d b))else a
def Br(m:Int):Int:=Vv m (cA .i64 (1900+(cA .i64 (Int.tdiv m 12)))) 11 1 (cA .i64 ((cA .i64 ((cA .i64 (365*(cA .i64 ((cA .i64 (1900+(cA .i64 (Int.tdiv m 12))))-1900))))+zc (cA .i64 ((cA .i64 (1900+(cA .i64 (Int.tdiv m 12))))-1))))-zc 1899))
def Gw(P:Int->Bool):Nat->Nat->Nat->Int
 | 0,i,_=>(i:Int)
 | k+1,i,j=>if i<j then(if P (((i+j) / 2:Nat):Int)=true then Gw P k i ((i+j) / 2)else Gw P k ((i+j) / 2+1) j)else(i:Int)
def zmw(y:Int):oB Y F 271 [.e .i64 y] t=some (.d (ub y)):=by
 refine mC.2 (w271 ?_);unfold t271 ub rB nH;grind [lA,wF]
def jt(c:vN t){m:Int}(g:1<=m)(h:m<=12):∃b o,zC Y 304 (.j 3 0) (.e .i64 (cA .i64 (m-1)))=some (.j b o)/\oA Y 3 ⟨0,t⟩ (.j b o)=some (.e .i64 (Kx.getD (m-1).toNat 0)):=by
 obtain⟨k,rfl⟩:∃k:Nat,m=(k:Int)+1:=⟨(m-1).toNat,by omega⟩;have d:k<12:=by omega
 have a:((k:Int)+1-1).toNat=k:=by omega
 rw[A2 (by omega) (by omega),a,show(k:Int)+1-1=(k:Int) by omega];have f:(Kx.map λn=>O.e .i64 n)[k]?=some (.e .i64 (Kx.getD k 0)):=by
  have:k<Kx.length:=d
  simp_all
 refine⟨3,0+k,?_,c.d mL rfl f⟩;unfold zC;rw[W6,mA];have e:(O.e .i64 (k:Int)).aj=some k:=rfl;rw[e,mA];grind [O.u,O.ah,mA,lE.g,mL,gC,xE]
def XU(g:vN t)(y m:Int):oB Y F 244 [.e .i64 y,.e .i64 m] t=some (.e .i64 (gu y m)):=by
 refine mC.2 (w244 ?_);unfold t244 gu J3 uI uB V uW;by_cases a:m<1
 .rw[A5 a];exact tA (iM a) ⟨rfl,rfl⟩
 rw[A3 a];refine vB (dM a) ?_;by_cases c:12<m
 .rw[A5 c];exact tA (iM c) ⟨rfl,rfl⟩
 rw[A3 c];refine vB (dM c) ?_;obtain⟨b,o,e,f⟩:=jt g (m:=m) (by omega) (by omega);by_cases d:m=2
 .refine tA (jR d) (aA ?_);rw[q271,zmw,xA];refine iC ?_
  cases h:ub y with
  | true=>rw[A5 ⟨d,rfl⟩];exact tA rfl ⟨rfl,rfl⟩
  | false=>rw[A3 (by simp)];exact vB (by simp) (uA e (fB f (sB ⟨rfl,rfl⟩)))
 .rw[A3 (by simp[d])];exact vB (rM d) (uA e (fB f (sB ⟨rfl,rfl⟩)))
def zad(h:vN t)(c e:Int):∀(k:Nat) (a d:Int),a+k=12->1<=a->jp 189 2 [.e .i64 c,.e .i64 e,.e .i64 d,.e .i64 a] t (λv t'=>v=.e .i64 (Vv c e k a d)/\t'=t):=by
 have i:=VG c (k:=12) (by omega);rw[show((12:Nat):Int)=12 from rfl]at i
 intro k;induction k with
 | zero=>
  intro a d f g;exact Sy (vB (mh (by omega)) ⟨rfl,rfl⟩)
 | succ k j=>
  intro a d f g;unfold Vv;by_cases b:a<=Int.tmod c 12
  .rw[A5 b];refine Sy (tA (fe b) (aA ?_));rw[q244,XU h,xA];refine sB (qC ?_)
   grind [A2]
  .rw[A3 b];exact Sy (vB (mh b) ⟨rfl,rfl⟩)
def MV(y:Int):oB Y F 243 [.e .i64 y] t=some (.e .i64 (zc y)):=mC.2 (w243 ⟨rfl,rfl⟩)
def IX(a:vN t)(m:Int):oB Y F 189 [.e .i64 m] t=some (.e .i64 (Br m)):=by
 refine mC.2 (w189 (aA ?_));rw[q243,MV,xA];refine sB (aA ?_);rw[q243,MV,xA];exact sB (qC (zad a m _ 11 1 _ (by omega) (by omega)))
def WO{e:O}{P:Int->Bool}(a:∀n:Int,∀(R:lB),R (.d (P n)) t->pD (mM e [.e .i64 n]) λp=>Wq Y F eC p.1 p.2 t R) :
  ∀(k i j:Nat),j-i<=k->j<=100000->jp 241 2 [e,.e .i64 (i:Int),.e .i64 (j:Int)] t (λv t'=>v=.e .i64 (Gw P k i j)/\t'=t):=by
 intro k;induction k with
 | zero=>
  intro i j g b;exact yp (vB (dM (by omega)) ⟨rfl,rfl⟩)
 | succ k d=>
  intro i j g b;unfold Gw;by_cases c:i<j
  .have f:cA .i64 (Int.fdiv (cA .u64 (cA .i64 ((i:Int)+(j:Int)))) 2)=(((i+j) / 2:Nat):Int):=by
    grind [A2,iG]
   rw[A5 c];refine yp (tA (iM (by omega)) ?_);show pD _ _;unfold V uW;rw[f];refine a _ _ (iC ?_)
   cases h:P (((i+j) / 2:Nat):Int)with
   | false=>
    rw[A3 (by simp)];refine tA rfl (qC ?_);rw[A2 (by omega) (by omega),show(((i+j) / 2:Nat):Int)+1=(((i+j) / 2+1:Nat):Int) by omega];exact d _ _ (by omega) b
   | true=>
    rw[A5 rfl];exact vB (by simp) (qC (d _ _ (by omega) (by omega)))
  .rw[A3 c];exact yp (vB (dM (by omega)) ⟨rfl,rfl⟩)
def sV(d:Int):Int:=Gw (λn=>bB d (Br (cA .i64 (n+1)))) 2154 0 2154
def zaz(h:vN t)(d:Int):oB Y F 188 [.e .i64 d] t=some (.e .i64 (sV d)):=by
 refine xV (w188 ?_);unfold t188 uI V;refine kC λb k g=>?_;obtain⟨f,e,l,c,_⟩:=Eb k [.e .i64 d] none;refine⟨.j b 0,⟨b+1,f⟩,by show some (O.j b 0,tG ⟨b,t⟩ [.e .i64 d] none)=_;rw[e],aA ?_⟩;have a:oA Y 3 ⟨0,f⟩ (.j b 0)=some (.e .i64 d):=l.f (j:=0) mL rfl rfl;have:oB Y F 241 [.e .i64 2154,.q (.aa 242) [] [.j b 0]] f=some (.e .i64 (sV d)):=by
  refine mC.2 (w241 (qC ?_));refine WO (λn R i=>?_) 2154 0 2154 (by omega) (by omega);show pD (some (242,[O.e .i64 n,.j b 0])) _;rw[xA];simp only[];have:oB Y F 242 [O.e .i64 n,.j b 0] f=some (.d (bB d (Br (cA .i64 (n+1))))):=by
   refine mC.2 (w242 (fB a (sB (aA ?_))));unfold tC;rw[q189,IX (h.a c),xA];exact sB (fB a (tA Gy ⟨rfl,rfl⟩))
  rw[q242,this,xA];exact i
 rw[q241];exact pp this (sB ⟨rfl,c⟩)
def ol (d:Int):O:=.p [.e .i64 (cA .i64 (1900+(cA .i64 (Int.tdiv (sV d) 12)))),.e .i64 (cA .i64 ((Int.tmod (sV d) 12)+1)),.e .i64 (cA .i64 ((cA .i64 (d-Br (sV d)))+1)),.e .i64 0]
def ju(a:vN t) (b:0<=d)(c:d<65536):oB Y F 135 [.e .i64 d] t=some (ol d):=by
 have e:oB Y F 187 [.e .i64 d] t=some (.d true):=by
  refine mC.2 (w187 (tA (fe b) ?_));rw[iM c];exact⟨rfl,rfl⟩
 refine mC.2 (w135 (aA ?_));rw[q187,e,xA];refine iC (vB (by simp) (aA ?_));rw[q188,zaz a,xA];refine sB (aA ?_);rw[q189,IX a,xA];exact sB ⟨rfl,rfl⟩
def cB (l:List Nat):List O:=l.map fun(n:Nat)=>O.e .u8 (n:Int)
theorem zd (h:l.length=10):∃a b c d e f g h i j,l=[a,b,c,d,e,f,g,h,i,j]:=by
 match l,h with
 | [a,b,c,d,e,f,g,h,i,j],_=>simp_all
theorem Pb  : (cB l).length=l.length:=by simp[cB]
def jv {x:Nat}:(cB l).set i (.e .u8 (x:Int))=cB (l.set i x):=by simp[cB,List.map_set]
def jx (h:i<10):zC Y 209 (.j b 0) (.e .i64 (i:Int))=some (.j b i):=by
 unfold zC;rw[Qr,mA];have e:(O.e .i64 (i:Int)).aj=some i:=rfl;rw[e,mA];grind [O.u,O.ah,mA,lE.g,M0,gC,xE]
def Zm  (h:xC t b none (cB l))(a:l.length=10):oA Y 209 ⟨0,t⟩ (.j b 0)=some (.i (cB l)):=by
 have:=h.p.e (C:=Y) (ty:=209) Qr rfl (n:=10) rfl (j:=0) (by rw[Pb];omega);rw[D8]at this;rw[this];congr 2;rw[G8,L0 (by rw[Pb];omega)]
def SJ {m:List Nat}(h:xC t b none (cB l))(g:Y.a<=b)(o:l.length=10)(i:m.length=10):∃t',(∀n,nC Y 209 (.j b 0) (.i (cB m)) ⟨n,t⟩=some (aD,⟨n,t'⟩))/\xC t' b none (cB m)/\nF b t t':=by
 obtain⟨t',d,k,f⟩:=h.m (C:=Y) g (T:=209) (v:=.i (cB m)) (j:=0) Qr (by show(cB m).length=10;rw[Pb,i]) (by show 0+(cB m).length<=_;grind [Pb]) (by
  show oD O.z (cB m)=true;rw[gI,C9];intro a c;unfold cB at c;obtain⟨n,_,rfl⟩:=G6.1 c;rfl)
 refine⟨t',d,?_,f⟩;have e:lJ (cB l) 0 (O.i (cB m)).s=cB m:=by
  show lJ (cB l) 0 (cB m)=cB m;unfold lJ;rw[List.take_zero,E8,E3 (by grind [Pb]),C8]
 simp_all
abbrev z10:List O:=[.e .u8 0,.e .u8 0,.e .u8 0,.e .u8 0,.e .u8 0,.e .u8 0,.e .u8 0,.e .u8 0,.e .u8 0,.e .u8 0]
def Ui (k:l.length=10):nK z10 (.i (cB l))=some (AN (cB l)):=by
 obtain⟨a,b,c,d,e,f,g,h,i,j,rfl⟩:=zd k;exact kQ rfl
def GL (k:l.length=10):[O.e .u8 ((AN (cB l)).i 0),.e .u8 ((AN (cB l)).i 1),.e .u8 ((AN (cB l)).i 2),.e .u8 ((AN (cB l)).i 3),.e .u8 ((AN (cB l)).i 4),.e .u8 ((AN (cB l)).i 5),.e .u8 ((AN (cB l)).i 6),.e .u8 ((AN (cB l)).i 7),.e .u8 ((AN (cB l)).i 8),.e .u8 ((AN (cB l)).i 9)]=cB l:=by
 obtain⟨a,b,c,d,e,f,g,h,i,j,rfl⟩:=zd k;rfl
def Cm (x:Int):Nat:=(48+Int.tmod x 10).toNat
theorem zit(x:Int):cA .u8 (cA .i64 (48+Int.tmod x 10))=((Cm x:Nat):Int)/\Cm x<256:=by
 grind [Cm,A2,Md]
def bS:Nat->Int->Nat->List Nat->List Nat
 | 0,_,_,l=>l
 | k+1,x,i,l=>bS k (cA .i64 (Int.tdiv x 10)) (i-1) (l.set i (Cm x))
theorem Jc:∀(k:Nat) (x:Int) (i:Nat) (l:List Nat),pB 256 l->(bS k x i l).length=l.length/\pB 256 (bS k x i l)
 | 0,x,i,l,h=>⟨rfl,h⟩
 | k+1,x,i,l,h=>by
  unfold bS;have:=Jc k (cA .i64 (Int.tdiv x 10)) (i-1) (l.set i (Cm x)) (λy b=>by
   rcases List.mem_or_eq_of_mem_set b with a | a
   .exact h y a
   simp_all [zit])
  simp_all
def TZ (u:Y.a<=b){c0 c1 c2 c3 c4 c5 c6 c7 c8 c9:Int}:∀(k:Nat) (from_:Nat) (x:Int) (i:Int) (l:List Nat) (t:G vA),i+1=(from_:Int)+k->from_+k<=10->l.length=10->xC t b none (cB l) →
  jp 136 2 [.e .i64 (from_:Int),.e .i64 x,.j b 0,.e .i64 i,.e .u8 c0,.e .u8 c1,.e .u8 c2,.e .u8 c3,.e .u8 c4,.e .u8 c5,.e .u8 c6,.e .u8 c7,.e .u8 c8,.e .u8 c9] t (λv t'=>v=.i (cB (bS k x i.toNat l))/\nF b t t'):=by
 intro k;induction k with
 | zero=>
  intro from_ x i l t r s a d;refine zq4 (vB (mh (by omega)) (fB (Zm d a) (aC (Ui a) (tA rfl ?_))));show O.i _=_/\_;rw[GL a];exact⟨rfl,λ_ _=>rfl⟩
 | succ k w=>
  intro from_ x i l t r s a d;obtain⟨n,rfl⟩:∃n:Nat,i=(n:Int):=⟨i.toNat,by omega⟩;refine zq4 (tA (fe (by omega)) (uA (jx (by omega)) (kC λm _ _=>?_)));rw[(zit x).1];obtain⟨t',p,e,q⟩:=d.g (v:=.e .u8 ((Cm x:Nat):Int)) u M0 rfl rfl rfl (j:=n) (by rw[Pb];omega);refine⟨_,_,p m,qC ?_⟩;rw[jv]at e;unfold uW;rw[A2 (n:=(n:Int)-1) (by omega) (by omega)];have:=w from_ (cA .i64 (Int.tdiv x 10)) ((n:Int)-1) (l.set n (Cm x)) t' (by omega) (by omega) (by simp_all) e
  refine Jq.a this λv y g=>⟨?_,λc f=>by rw[g.2 c f,q c f]⟩;rw[g.1];have h:((n:Int)-1).toNat=n-1:=by omega
  have o:((n:Int)).toNat=n:=by omega
  rw[h,o];rfl
def TY (r:l.length=10) (z:from_+k<=10)(C:1<=from_+k)(x:Int):oB Y F 136 [.i (cB l),.e .i64 (from_:Int),.e .i64 (k:Int),.e .i64 x] t=some (.i (cB (bS k x (from_+k-1) l))):=by
 obtain⟨a,b,c,d,e,f,g,h,i,j,rfl⟩:=zd r;refine xV ?_;show Wf 136 [.i [.e .u8 a,.e .u8 b,.e .u8 c,.e .u8 d,.e .u8 e,.e .u8 f,.e .u8 g,.e .u8 h,.e .u8 i,.e .u8 j],.e .i64 (from_:Int),.e .i64 (k:Int),.e .i64 x] t _;refine w136 ?_;unfold t136 V uY uW;refine kC λn A m=>?_;obtain⟨s,u,w,o,D⟩:=Eb A (cB [a,b,c,d,e,f,g,h,i,j]) none;refine⟨.j n 0,⟨n+1,s⟩,by show some (O.j n 0,tG ⟨n,t⟩ (cB [a,b,c,d,e,f,g,h,i,j]) none)=_;rw[u],qC ?_⟩
 rw[A2 (n:=(from_:Int)+(k:Int)) (by omega) (by omega),A2 (by omega) (by omega)];have:=TZ (c0:=0) (c1:=0) (c2:=0) (c3:=0) (c4:=0) (c5:=0) (c6:=0) (c7:=0) (c8:=0) (c9:=0) m k from_ x ((from_:Int)+(k:Int)-1) _ s (by omega) z r w;refine Jq.a this λv E q=>⟨?_,λp y B=>?_⟩
 .rw[q.1,show((from_:Int)+(k:Int)-1).toNat=from_+k-1 by omega]
 .have:p≠n:=λe=>by simp_all
  rw[q.2 p this];exact o _ _ B
def Fj (d:Int):List Nat:=
 bS 2 (cA .i64 ((cA .i64 (d-Br (sV d)))+1)) 9 (bS 2 (cA .i64 ((Int.tmod (sV d) 12)+1)) 6 (bS 4 (cA .i64 (1900+(cA .i64 (Int.tdiv (sV d) 12)))) 3 [0,0,0,0,45,0,0,45,0,0]))
theorem zok(d:Int):(Fj d).length=10/\pB 256 (Fj d):=by
 have a:pB 256 [0,0,0,0,45,0,0,45,0,0]:=by intro x e;simp at e;omega
 have b:=Jc 4 (cA .i64 (1900+(cA .i64 (Int.tdiv (sV d) 12)))) 3 _ a;have c:=Jc 2 (cA .i64 ((Int.tmod (sV d) 12)+1)) 6 _ b.2;have f:=Jc 2 (cA .i64 ((cA .i64 (d-Br (sV d)))+1)) 9 _ c.2
 simp_all [Fj]
def ze{K:O->T}{Q:lB} {p:Nat}{x:Int}(b:l.length=10)(c:pB 256 l)(q:Y.a<=p)(j:xC t p none (cB l))(o:from_+k<=10)(i:1<=from_+k)
  (h:∀t',xC t' p none (cB (bS k x (from_+k-1) l))->nF p t t'->∀u,wp 74 (K u) t' Q) :
  wp 74 (.c 136 [.i [(.e .u8 ((AN (cB l)).i 0)),(.e .u8 ((AN (cB l)).i 1)),(.e .u8 ((AN (cB l)).i 2)),(.e .u8 ((AN (cB l)).i 3)),(.e .u8 ((AN (cB l)).i 4)),(.e .u8 ((AN (cB l)).i 5)),(.e .u8 ((AN (cB l)).i 6)),(.e .u8 ((AN (cB l)).i 7)),(.e .u8 ((AN (cB l)).i 8)),(.e .u8 ((AN (cB l)).i 9))],.e .i64 (from_:Int),.e .i64 (k:Int),.e .i64 x] λa=>.o z10 a λX=>
   .h (nC Y 209 (.j p 0) (.i [(.e .u8 (X.i 0)),(.e .u8 (X.i 1)),(.e .u8 (X.i 2)),(.e .u8 (X.i 3)),(.e .u8 (X.i 4)),(.e .u8 (X.i 5)),(.e .u8 (X.i 6)),(.e .u8 (X.i 7)),(.e .u8 (X.i 8)),(.e .u8 (X.i 9))])) K) t Q:=by
 have d:=Jc k x (from_+k-1) l c;refine aA ?_;rw[GL b,q136,TY b o i,xA];refine aC (Ui (by rw[d.1,b])) (kC λn _ _=>?_);rw[GL (by rw[d.1,b])];obtain⟨t',e,f,g⟩:=SJ j q b (m:=bS k x (from_+k-1) l) (by rw[d.1,b]);exact⟨_,_,e n,h t' f g _⟩
def zro(I:vN t) (E:0<=d)(H:d<65536):oB Y F 74 [.e .i64 d] t=some (.h (Fj d)):=by
 refine xV (w74 ?_);unfold t74 uI uS uG uX V uY U5;refine aA ?_;rw[q135,ju I E H,xA];unfold ol;refine uA rfl (sB (uA rfl (sB (uA rfl (sB (uA rfl (sB (vB (by grind [jR]) (tA rfl ?_)))))))));refine kC λp K a=>?_;obtain⟨W,B,z,Q,Z⟩:=gP (C:=Y) Qr K;refine⟨_,_,B,?_⟩;have q:xC W p none (cB [0,0,0,0,0,0,0,0,0,0]):=z;refine kC λn _ _=>?_;obtain⟨t2,D,s,R⟩:=SJ q a rfl (m:=[0,0,0,0,45,0,0,45,0,0]) rfl;refine⟨_,_,D n,?_⟩
 have i:pB 256 [0,0,0,0,45,0,0,45,0,0]:=by intro x N;simp at N;omega
 refine fB (Zm s rfl) (aC (Ui rfl) ?_);refine ze (from_:=0) (k:=4) rfl i a s (by omega) (by omega) λt3 u S _=>?_;have f:=Jc 4 (cA .i64 (1900+(cA .i64 (Int.tdiv (sV d) 12)))) 3 _ i;refine fB (Zm u f.1) (aC (Ui f.1) ?_);refine ze (from_:=5) (k:=2) f.1 f.2 a u (by omega) (by omega) λt4 v T _=>?_;have l:=Jc 2 (cA .i64 ((Int.tmod (sV d) 12)+1)) 6 _ f.2;rw[f.1]at l;refine fB (Zm v l.1) (aC (Ui l.1) ?_)
 refine ze (from_:=8) (k:=2) l.1 l.2 a v (by omega) (by omega) λo A U _=>?_;have w:=zok d;have h:xC o p none (cB (Fj d)):=A;have L:cF Y 209 ⟨0,o⟩ (.j p 0) none none=some (.m p 0 10 10):=by
  obtain⟨c,g,_⟩:=h;have J:fD ⟨0,o⟩ p=some (c,(cB (Fj d)).length,none):=by unfold fD;rw[g];rfl
  unfold cF;rw[Qr,mA];unfold sP;simp only[O.w,O.u,O.ah,lE.g,mA];unfold aR;rw[M0,mA];have r:gS 10 10 none none=some (0,10):=rfl;rw[r,mA];unfold tP vQ;rw[J];rfl
 have M:dR Y 96 9 ⟨0,o⟩ (.m p 0 10 10)=some (.h (Fj d)):=zbt iX iI rfl rfl rfl M0 rfl h w.1 (λj x X=>by
  grind [cB]) w.2
 refine fB L (fB M (jC ⟨rfl,λb y P=>?_⟩));have:b≠p:=λe=>by simp_all
 rw[U b this,T b this,S b this,R b this];exact Q _ _ P
end
section
mutual
def iA.a:iA->Prop
 | .mk _ _ v args=>(v.f.n.a.length<300000/\v.f.d.a.length<300000)/\args.length<300000/\iA.c args
def iA.c:List iA->Prop
 | []=>True
 | x::l=>iA.a x/\iA.c l
end
structure rD.g (p:rD):Prop where
 d:p.c.length<300000
 b:p.a.length<300000
 a:p.b.length<300000
 e:∀x∈p.a,x.a.length<300000/\∀r∈x.a,r.f.n.a.length<300000/\r.f.d.a.length<300000
 c:∀x∈p.b,iA.a x.a/\iA.a x.b
def qF.e(f:qF):Prop:=f.n.a.length<300000/\f.d.a.length<300000
def NE (tk:List xD)(a b:Nat):Prop:=∀j,a<=j->j<b->kL tk 5 j=false
theorem NE.c{tk:List xD}{a:Nat}:NE tk a a:=λj b c=>by omega
structure VP where
 c:List xD
 a:List xD
 d:Nat
 k:Nat
 b:Prop
 dp:Prop
 e:Nat:=0
abbrev qp:List (List Nat):=[[41],Je]
structure VW (S:VP):Prop where
 acc:∀i,S.e<=i->i<S.k->∀w,Proofs.By S.a w (i+S.d)=Proofs.By S.c w i
 kind:∀i,S.e<=i->i<S.k->∀q,kL S.a q (i+S.d)=kL S.c q i
 text:∀i,S.e<=i->i<S.k->fN S.a (i+S.d)=fN S.c i
 qacc:∀w,w∉qp->Proofs.By S.a w (S.k+S.d)=false
 a:∀q,q=2\/q=3->kL S.a q (S.k+S.d)=false
 b:lV S.a (S.k+S.d)=false
 full:S.b->¬ S.dp/\(∀w,Proofs.By S.a w (S.k+S.d)=false)/\∀q,q≠5->kL S.a q (S.k+S.d)=false
 good:∀x∈S.c,Df x
def RRk {a:Type}(j:Nat)(r:PR a):Prop:=match r with | .ok _ n=>n=j | .er e i=>i=j/\(e=120\/e=122)
def MO {c:Type}(S:VP)(V:c->Prop)(n:Nat)(r:PR c):Prop:=
 match r with | .ok a b=>n<=b/\NE S.c n b/\V a | .er e i=>n<=i/\NE S.c n i/\(e=120\/e=121\/e=122)
structure RA {α:Type} (S:VP) (V:α->Prop) (n:Nat) (r r2:PR α):Prop where
 mo:MO S V n r
 ok:n<=S.k->∀a n',r=.ok a n'->n'<=S.k->r2=.ok a (n'+S.d)\/(S.dp/\∃i,r2=.er 122 i)
 er:n<=S.k->S.b->∀e,r=.er e S.k->RRk (S.k+S.d) r2
structure Rel {α:Type} (S:VP) (H:Prop) (V:α->Prop) (f f2:PM α):Prop where
 ra:H->∀n,S.e<=n->RA S V n (f n) (f2 (n+S.d))
 rr:S.b->RRk (S.k+S.d) (f2 (S.k+S.d))
section
variable {S:VP}{H:Prop}{a c:Type}{V:a->Prop}{W:c->Prop}{n:Nat}
theorem RA.fail{e:Nat}(a:e=120\/e=122):RA S V n (.er e n) (.er e (n+S.d)):=
 ⟨⟨B3 _,NE.c,by omega⟩,λ_ b m e _=>(by cases e),λ_ _ c h=>by cases h;exact⟨rfl,a⟩⟩
end
end
section
variable {p:Nat->Bool}{r s:List Nat}{b n:Nat}
def Gu(r:List Nat):Prop:=∀c a,r=c::a->c=10\/c=32\/c=40\/c=41\/c=44
def CJ  (d:∀c b,r=c::b->p c=false):∀s:List Nat,dE p (s++r)=dE p s:=by
 intro s;unfold dE;induction s with
 | nil=>
  cases r with
  | nil=>rfl
  | cons c r=>simp_all
 | cons x s a=>rw[List.cons_append,List.takeWhile_cons,List.takeWhile_cons,a]
def zf  (b:Gu r)(h:(p 10||(p 32||(p 40||(p 41||p 44))))=false):∀c a,r=c::a->p c=false:=by
 intro c a e;simp only[Z4]at h;rcases b c a e with rfl | rfl | rfl | rfl | rfl<;>simp only[h]
theorem zpw (s:List Nat):(dE p s).length<=s.length:=(List.takeWhile_sublist p).length_le
def zbq (d:Gu r):aJ (s++r)=aJ s:=by
 by_cases h:10<=s.length
 .unfold aJ;have e:∀i∈List.range 10,fL i ((s++r).getD i 0)=fL i (s.getD i 0):=λi b=>by
   rw[List.mem_range]at b;rw[List.getD_eq_getElem?_getD,List.getD_eq_getElem?_getD,mu (by omega)]
  rw[show(List.range 10).all (λi=>fL i ((s++r).getD i 0))=(List.range 10).all (λi=>fL i (s.getD i 0)) from by
   grind]
  rw[decide_eq_true h,decide_eq_true (by grind)]
 .have a:aJ s=false:=by grind [aJ]
  rw[a];refine LZ (i:=s.length) (by omega) ?_;rw[List.getD_eq_getElem?_getD,T6 (B3 _),Nat.sub_self]
  cases r with
  | nil=>unfold fL;split<;>rfl
  | cons c r=>
   rcases d c r rfl with rfl | rfl | rfl | rfl | rfl <;> (unfold fL;split<;>rfl)
theorem PN (a:Gu r) (b:n<=s.length):cT (s++r) n=cT s n:=by
 unfold cT;by_cases h:n<s.length
 .rw[mu h]
 .have:n=s.length:=by omega
  subst this;rw[T6 (B3 _),Nat.sub_self,List.getElem?_eq_none (B3 _)]
  cases r with
  | nil=>rfl
  | cons c r=>rcases a c r rfl with rfl | rfl | rfl | rfl | rfl<;>rfl
def FD (a:Gu r):rE (s++r)=rE s:=CJ (zf a rfl) s
theorem zjt (a:Gu r) (b:n<=s.length):((s++r)[n]?=some 47) ↔ s[n]?=some 47:=by
 by_cases h:n<s.length
 .rw[mu h]
 .have:n=s.length:=by omega
  subst this;rw[T6 (B3 _),Nat.sub_self,List.getElem?_eq_none (B3 _)]
  cases r with
  | nil=>simp
  | cons c r=>rcases a c r rfl with rfl | rfl | rfl | rfl | rfl<;>simp
def JM (a:Gu r):wH (s++r)=wH s:=by
 unfold wH;rw[FD a];have b:(rE s).length<=s.length:=zpw s;by_cases h:s[(rE s).length]?=some 47
 .rw[A5 ((zjt a b).2 h),A5 h];have:(rE s).length<s.length:=(F6.1 h).1;rw[List.drop_append_of_le_length (by omega)];exact CJ (zf a rfl) _
 grind [zjt]
theorem zey (h:wH s≠[]):s[(rE s).length]?=some 47/\wH s=dE dD (s.drop ((rE s).length+1)):=by
 grind [wH]
theorem LW(s:List Nat):xH s<=s.length:=by
 grind [rE,zpw,xH,zey]
theorem zkn  (a:Gu r):jE ((b::s)++r)=jE (b::s):=by
 have d:=CJ (p:=jL) (zf a rfl) (b::s);have e:=zbq (s:=b::s) a;have c:xH ((b::s)++r)=xH (b::s):=by unfold xH;rw[JM a,FD a]
 have f:tM ((b::s)++r)=tM (b::s):=by unfold tM;rw[c,PN a (LW _),JM a,FD a]
 show(if rO b=true then _ else _)=if rO b=true then _ else _;show(if rO b=true then(if 24<(dE jL ((b::s)++r)).length then TR.ac 111 else .aa 1 (dE jL ((b::s)++r)))else if (dD b&&aJ ((b::s)++r))=true then(if iS ((b::s)++r)=true then .ac 113 else .aa 3 (((b::s)++r).take 10))else if dD b=true then(if tM ((b::s)++r)=true then .ac 112 else .aa 2 (((b::s)++r).take (xH ((b::s)++r))))else if Hu b=true then .aa 4 [b]else .ac 110)=_
 grind [LW,aJ,iS,PN,cT]
def zkp  {k:Nat}{w:List Nat}(h:jE (b::r)=.aa k w):b≠10/\b≠32/\b≠9/\b≠35:=by
 refine⟨?_,?_,?_,?_⟩ <;> (rintro rfl;simp_all [jE,rO,dD,Hu])
end
section
variable {r s:List Nat}{o:Bool}{b:Nat}
abbrev qD:=Nat × List Nat
def kt (t:xD):qD:=(t.b,t.a)
def mi:LR->Option (List qD)
 | .ok l=>some (l.map kt)
 | .er _ _ _=>none
def qS:Nat->List Nat->Bool->Option (List qD)
 | 0,_,_=>some []
 | _+1,[],o=>some (if o=true then [(5,[])]else [])
 | k+1,b::r,o=>
  if b=10 then(qS k r false).map λl=>if o=true then(5,[])::l else l
  else if b=32\/b=9 then qS k r o
  else if b=35 then qS k ((b::r).drop (dE (λx=>decide (x≠10)) (b::r)).length) o
  else match jE (b::r)with
   | .ac _=>none
   | .aa a w=>(qS k ((b::r).drop w.length) true).map λl=>(a,w)::l
def zud:∀(k:Nat) (s:List Nat) (c cl:Nat) (op:Option (Nat × Nat)),mi (cO k s c cl op)=qS k s op.isSome:=by
 have cons:∀(t:xD) (r:LR),mi (r.d t)=(mi r).map λl=>kt t::l:=λt r=>by cases r<;>rfl
 have a:∀(op:Option (Nat × Nat)) (r:LR),mi (LR.c op r)=(mi r).map λl=>if op.isSome=true then(5,[])::l else l:=λop r=>by
  cases op with
  | none=>cases r<;>rfl
  | some p=>exact cons _ r
 intro k;induction k with
 | zero=>intro s c cl op;rfl
 | succ k d=>
  intro s c cl op
  cases s with
  | nil=>rw[cO,a];rfl
  | cons b r=>
   rw[cO,qS];split
   .simp_all
   split
   .simp_all
   split
   .simp_all
   .cases jE (b::r)with
    | ac e=>rfl
    | aa f w=>exact(cons _ _).trans (by rw[d];rfl)
def zgp:∀(k k':Nat) (s:List Nat) (o:Bool),s.length<k->s.length<k'->qS k s o=qS k' s o:=by
 intro k;induction k with
 | zero=>omega
 | succ k c=>
  intro k' s o h a;obtain⟨k',rfl⟩:∃m,k'=m+1:=⟨k'-1,by omega⟩
  cases s with
  | nil=>rfl
  | cons b r=>
   simp only[Do]at h a;rw[qS,qS];split
   .rw[c k' r false (by omega) (by omega)]
   split
   all_goals grind [dE,List.takeWhile_cons,AW]
def rS (s:List Nat)(o:Bool):Option (List qD):=qS (s.length+1) s o
def zgn{k:Nat}  (h:s.length<k):qS k s o=rS s o:=zgp _ _ _ _ h (by omega)
def zua   : rS (10::r) o=(rS r false).map λl=>if o=true then(5,[])::l else l:=by
 grind [rS,qS]
def zgo   (h:b=32\/b=9):rS (b::r) o=rS r o:=by
 grind [rS,qS]
theorem MN {w:List Nat}{a:Nat} (h:jE (b::r)=.aa a w):rS (b::r) o=(rS ((b::r).drop w.length) true).map λl=>(a,w)::l:=by
 obtain⟨c,e,f,d⟩:=zkp h;have:=(AW h).1;rw[<- zgn (k:=(b::r).length+1) (by omega),qS,A3 c,A3 (by omega),A3 d,h];show(qS _ _ true).map _=_;rw[zgn (by grind)]
def zuc(s:List Nat):mi (Ho s)=rS s false:=zud _ _ _ _ _
def zub {l:List qD}(h:rS s false=some l):∃m,Ho s=.ok m/\m.map kt=l:=by
 have e:=zuc s;rw[h]at e
 cases d:Ho s with
 | ok m=>rw[d]at e;exact⟨m,rfl,D6 e⟩
 | er a b c=>rw[d]at e;cases e
end
section
section
variable {S:VP}{H:Prop}{n:Nat}{o a:PM iA}
def X8(tk:List xD)(e:PM iA)(f:CF):PM iA:=λn=>(gE tk [40] n).c λ_ d=>
  (if f.b then(vO tk d).c λw a=>(gE tk [44] a).c λ_ b=>.ok w b else .ok [] d:PR (List Nat)).c λw a=>
  (e a).c λx b=>(Ec tk e (f.a-1) [x] b).c λl h=>(dX tk e (f.c-f.a) l h).c λl g=>
  (if f.e=19 then(gE tk [44] g).c λ_ c=>oK tk uO 6 6 1 c else .ok 0 g:PR Nat).c λm c=>
  (gE tk [41] c).c λ_ i=>.ok (.mk f.e w ⟨0,aK,m⟩ l) i
def nD.l(c:nD):Prop:=iA.a c.a/\iA.a c.b
end
end
section
structure Cg (tk tk':List xD):Prop where
 acc:By tk=By tk'
 kind:kL tk=kL tk'
 text:fN tk=fN tk'
 len:tk.length=tk'.length
end
section
theorem MD{tk:List xD}{w:List Nat}{n:Nat}(h:tk.length<=n):By tk w n=false:=by unfold By;rw[List.getElem?_eq_none h]
section
variable {tk:List xD}(d:∀x∈tk,Df x)
include d
structure PBd (p:rD) (n:Nat):Prop where
 defs:p.c.length<=n
 b:p.a.length<=n
 a:p.b.length<=n
 rows:∀x∈p.a,x.a.length<=n/\∀r∈x.a,qF.e r.f
 c:∀x∈p.b,nD.l x
end
end
section
variable {q:Nat}{v:List Nat}
def jy(l:List qD):Prop:=l≠[]/\∀t∈l,t.1≠5/\jE t.2=.aa t.1 t.2
section
variable {tk:List xD}{o:PM iA}{n n':Nat}{x:iA}{l:List (List Nat × Nat)}
def Zi(h:o n=.ok x n')(a:dO tk l n'=none):sU tk o l n=.ok x n':=by
 unfold sU;rw[h];show dV tk o l tk.length x n'=_
 cases tk.length with
 | zero=>rfl
 | succ m=>rw[dV,a]
end
section
variable {tk:List xD}{K:List qD}
theorem Uo(a:tk.map kt=K){n:Nat} (h:K[n]?=some (q,v))(w:List Nat):By tk w n=((decide (q=1)||decide (q=4))&&sF v w):=by
 subst a;rw[F7]at h;unfold By
 cases b:tk[n]? with
 | none=>simp_all
 | some t=>rw[b]at h;cases h;rfl
theorem Cd(a:tk.map kt=K){n:Nat} (h:K[n]?=some (q,v))(j:Nat):kL tk j n=decide (q=j):=by
 subst a;rw[F7]at h;unfold kL
 cases b:tk[n]? with
 | none=>simp_all
 | some t=>rw[b]at h;cases h;rfl
theorem Qs(a:tk.map kt=K){n:Nat} (h:K[n]?=some (q,v)):fN tk n=v:=by
 subst a;rw[F7]at h;unfold fN
 cases b:tk[n]? with
 | none=>simp_all
 | some t=>rw[b]at h;cases h;rfl
def zg(a:tk.map kt=K):tk.length=K.length:=by rw[<- a,C4]
end
structure Ex (m:List xD) (u:List qD) (x:iA):Prop where
 toks:m.map kt=u++[(5,[])]
 line:jy u
 good:∀t∈m,Df t
 ok:Ck m 0=.ok x u.length
end
section
theorem zrf{v w:List Nat}(h:v≠w):sF v w=false:=by
 grind [bJ]
section
variable {tk:List xD}{K:List qD}{o:PM iA}{n q:Nat}{v:List Nat}
theorem fH(a:tk.map kt=K)(h:K[n]?=some (q,v)){w:List Nat}(b:v≠w):By tk w n=false:=by rw[Uo a h,zrf b,E5]
theorem dL(a:tk.map kt=K)(h:K[n]?=some (q,v))(b:q=1\/q=4):By tk v n=true:=by
 rw[Uo a h,(bJ v v).2 rfl];rcases b with rfl | rfl<;>rfl
def Ow(a:tk.map kt=K)(h:K[n]?=some (q,v))(b:q≠2/\q≠3)(c:v∉[Mg,Mi,Jg,pL]):sX tk n=.ok none n:=by
 grind [sX,fH,Cd]
def znc(a:tk.map kt=K)(h:K[n]?=some (4,[40])):mP tk o n=(yU tk o (n+1)).c λx b=>(gE tk [41] b).c λ_ c=>.ok x c:=by
 unfold mP;rw[Ow a h (by decide) (by decide)];show(if By tk [40] n=true then _ else _)=_;rw[dL a h (.inr rfl),A5 rfl]
def oR(a:tk.map kt=K)(h:K[n]?=some (q,v))(b:q=1\/q=4):gE tk v n=.ok () (n+1):=by
 unfold gE;rw[dL a h b,A5 rfl]
def Jv(a:tk.map kt=K)(h:K[n]?=some (q,v)):wM tk q n=.ok v (n+1):=by
 unfold wM;rw[Cd a h,decide_eq_true rfl,A5 rfl,Qs a h]
def Kn(a:tk.map kt=K)(h:K[n]?=some (1,v))(b:sI v=true):vO tk n=.ok v (n+1):=by
 grind [vO,lV,Cd,Qs]
def RH(a:tk.map kt=K)(h:K[n]?=some (3,v)):nR tk n=.ok ((tX v).getD 0:Nat) (n+1):=by
 unfold nR;rw[Jv a h];rfl
end
variable {m T:List xD}{u:List qD}{x:iA}
abbrev startX(x:iA):iA:=Cs 7 (.mk 26 [] ⟨0,aK,(0:Nat)⟩ [x]) (y9 ⟨2,kP [49] false,0⟩)
end
section
variable {m n:Nat}
def Cn(n:Nat):mF n=pK n:=by
 induction n using Nat.strongRecOn with
 | _ n a=>
  grind [pK,Tw,Tz]
theorem GX{f:qF}(h:Ga f=true):f=aK:=by
 obtain⟨⟨a,l⟩,⟨b,m⟩⟩:=f;unfold Ga at h;simp only[B2,F4,decide_eq_true_eq]at h;have c:l=[]:=List.eq_nil_of_length_eq_zero (by omega);have d:m=[]:=List.eq_nil_of_length_eq_zero (by omega);rw[h.1.1,h.1.2,c,d];rfl
def zep:((List.range 2154).all λm=>Nat.beq (yH (m+1)) (yH m+bO (1900+m / 12) (m%12+1)))=true:=by kernel_rfl
theorem BQ (h:m<2154):yH (m+1)=yH m+bO (1900+m / 12) (m%12+1):=Nat.eq_of_beq_eq_true (C9.1 zep m (List.mem_range.2 h))
def BS:Nat.ble 65536 (yH 2154)=true:=by kernel_rfl
def DL(n:Nat):∀k,gW k n<=k/\yH (gW k n)<=n/\(n<yH (k+1)->n<yH (gW k n+1)):=by
 intro k;induction k with
 | zero=>exact⟨B3 _,by show yH 0<=n;exact H4 _,id⟩
 | succ k a=>
  grind [gW]
theorem zbr (h:n<65536):∃M,M<=2153/\vH n=Gb (1900+M / 12) (M%12+1) (n-yH M+1)/\yH M<=n/\n-yH M+1<=bO (1900+M / 12) (M%12+1):=by
 have a:=DL n 2153;have b:65536<=yH (2153+1):=Nat.le_of_ble_eq_true BS;have c:=a.2.2 (by omega);refine⟨_,a.1,rfl,a.2.1,?_⟩
 grind [BQ]
theorem zgs(y m:Nat):bO y m<=31:=by
 unfold bO;split
 .omega
 .split
  .omega
  .rename_i h _;have:m=1\/m=2\/m=3\/m=4\/m=5\/m=6\/m=7\/m=8\/m=9\/m=10\/m=11\/m=12:=by omega
   rcases this with rfl | rfl | rfl | rfl | rfl | rfl | rfl | rfl | rfl | rfl | rfl | rfl<;>decide
def zri(n:Nat):dD (d1 n)=true:=by grind [dD,d1]
def jz(n:Nat):d1 n-48=n%10:=by grind [d1]
def zcf(y m d:Nat):aJ (Gb y m d)=true:=by
 unfold aJ Gb;simp[List.range,List.range.loop,fL,zri]
theorem zrx{y d:Nat}(c:y<10000)(b:m<100)(a:d<100):tX (Gb y m d)=Ff y m d:=by
 unfold tX Gb nE;simp only[List.take,List.drop,List.foldl,jz];rw[show(((0*10+y / 1000%10)*10+y / 100%10)*10+y / 10%10)*10+y%10=y by omega,show(0*10+m / 10%10)*10+m%10=m by omega,show(0*10+d / 10%10)*10+d%10=d by omega]
theorem GC (h:n<65536):tX (vH n)=some n:=by
 grind [zbr,zgs,zrx,Ff]
theorem zn4(n:Nat):(vH n).length=10:=rfl
def RI (h:n<65536):jE (vH n)=.aa 3 (vH n):=by
 have b:aJ (vH n)=true:=zcf _ _ _;have a:iS (vH n)=false:=by
  grind [iS,zn4,GC]
 obtain⟨x,r,e,c⟩:∃x r,vH n=x::r/\dD x=true:=⟨_,_,rfl,zri _⟩;rw[e]at b a ⊢;have d:rO x=false:=(Oo c).2.2.2.2.2.2;have f:(x::r).take 10=x::r:=by rw[<- e];rfl
 grind [jE]
end
section
variable [fC]
def zac:((List.range 2155).all λm=>kB (Br (m:Int)) (yH m:Int))=true:=by kernel_rfl
def IW{m:Nat}(h:m<2155):Br (m:Int)=(yH m:Nat):=(An _ _).1 (C9.1 zac m (List.mem_range.2 h))
theorem IV:∀ {a b:Nat},a<=b->b<=2154->yH a<=yH b:=by
 intro a b h;induction h with
 | refl=>omega
 | @step m c d=>grind [BQ]
theorem CC{P:Int->Bool}(c:∀x y:Nat,x<=y->y<2154->P (y:Int)=false->P (x:Int)=false) :
  ∀(k i j:Nat),j-i<=k->i<=j->j<=2154->(∀x:Nat,x<i->P (x:Int)=false)->(j<2154->P (j:Int)=true) →
   ∃r:Nat,Gw P k i j=(r:Int)/\r<=2154/\(∀x:Nat,x<r->P (x:Int)=false)/\(r<2154->P (r:Int)=true)
 | 0,i,j,f,g,d,b,e=>⟨i,rfl,by omega,b,by grind⟩
 | k+1,i,j,f,g,d,b,e=>by
  unfold Gw;by_cases h:i<j
  .rw[A5 h];by_cases a:P (((i+j) / 2:Nat):Int)=true
   .rw[A5 a];exact CC c k i _ (by omega) (by omega) (by omega) b λ_=>a
   .rw[A3 a];exact CC c k _ j (by omega) (by omega) d (λx l=>c x _ (by omega) (by omega) (Bool.eq_false_iff.2 a)) e
  grind
theorem zf9{n:Nat}(k:n<65536):sV (n:Int)=(gW 2153 n:Nat):=by
 have a:∀y:Nat,y<2154->bB (n:Int) (Br (cA .i64 ((y:Int)+1)))=decide (n<yH (y+1)):=λy b=>by
  rw[A2 (by omega) (by omega),show(y:Int)+1=((y+1:Nat):Int) by omega,IW (by omega)]
  grind [Lb]
 obtain⟨r,d,g,i,e⟩:=CC (P:=λm=>bB (n:Int) (Br (cA .i64 (m+1)))) (λx y f b h=>by
  simp only[a y b,decide_eq_false_iff_not]at h;simp only[a x (by omega),decide_eq_false_iff_not];have:=IV (show x+1<=y+1 by omega) (by omega);omega) 2154 0 2154 (by omega) (by omega) (by omega) (λx l=>by omega) (λh=>by omega)
 have j:65536<=yH 2154:=Nat.le_of_ble_eq_true BS;obtain⟨o,p,c⟩:=DL n 2153;have c:=c (show n<yH 2154 by omega);show Gw _ _ _ _=_;rw[d];generalize gW 2153 n=m at *;congr 1;rcases Nat.lt_trichotomy r m with h | h | h
 .have:=e (by omega);simp only[a r (by omega),decide_eq_true_eq]at this;have:=IV (show r+1<=m by omega) (by omega);omega
 all_goals grind
theorem Gd{k x i:Nat}{l:List Nat}(c:x<1000000000):bS (k+1) (x:Int) i l=bS k ((x / 10:Nat):Int) (i-1) (l.set i (d1 x)):=by
 have a:Int.tdiv (x:Int) 10=((x / 10:Nat):Int):=by simp_all
 have b:Cm (x:Int)=d1 x:=by
  grind [Cm,d1]
 show bS k (cA .i64 (Int.tdiv (x:Int) 10)) (i-1) (l.set i (Cm x))=_;rw[a,b,A2 (by omega) (by omega)]
theorem SP{n:Nat}(g:n<65536):Fj (n:Int)=vH n:=by
 have e:=zf9 g;obtain⟨l,h,a⟩:=DL n 2153;have a:=a (by have:65536<=yH 2154:=Nat.le_of_ble_eq_true BS;grind);rw[BQ (by omega)]at a;have f:=zgs (1900+gW 2153 n / 12) (gW 2153 n%12+1);unfold Fj vH;rw[e];generalize gW 2153 n=M at *;rw[IW (by omega)];have b:Int.tdiv (M:Int) 12=((M / 12:Nat):Int):=by simp_all
 have c:Int.tmod (M:Int) 12=((M%12:Nat):Int):=by grind
 rw[b,c,A2 (n:=(n:Int)-(yH M:Nat)) (by omega) (by omega),A2 (n:=((M / 12:Nat):Int)) (by omega) (by omega),A2 (by omega) (by omega),A2 (by omega) (by omega),A2 (by omega) (by omega)];rw[show(n:Int)-(yH M:Nat)+1=((n-yH M+1:Nat):Int) by omega,show((M%12:Nat):Int)+1=((M%12+1:Nat):Int) by omega,show(1900:Int)+((M / 12:Nat):Int)=((1900+M / 12:Nat):Int) by omega];have i:1900+M / 12<10000:=by omega
 have j:M%12+1<100:=by omega
 have k:n-yH M+1<100:=by omega
 clear e h a f b c;generalize 1900+M / 12=y at *;generalize M%12+1=m at *;generalize n-yH M+1=d at *;rw[Gd (by omega),Gd (by omega),Gd (by omega),Gd (by omega),Gd (by omega),Gd (by omega),Gd (by omega),Gd (by omega)];simp[bS,Gb,Nat.div_div_eq_div_mul]
end
end Go.Proofs
