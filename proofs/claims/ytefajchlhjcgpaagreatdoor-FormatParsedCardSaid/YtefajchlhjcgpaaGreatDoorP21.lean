/- Names: lex.Name as a function of the text. -/
import Derived.KernelRfl
import Derived.Test.YtefajchlhjcgpaaGreatDoorP20
set_option linter.all false
noncomputable section
set_option maxRecDepth 100000
namespace Go.Proofs
open Go Go.Am
variable {n:Nat}{s:List Nat}
variable [fC]
variable {t:G uA}
theorem zf{a b:Int}:vE a b=decide (a<=b):=by
 grind [mI]
def Xz  : oB Y F 119 [.e .u8 (n:Int)] t=some (.d (bN n)):=by
 refine lC.2 (w119 ?_);simp only[rB,xH,t119,iA,zf,decide_eq_true_eq];grind [bN]
def Te  : oB Y F 169 [.e .u8 (n:Int)] t=some (.d (fD n)):=by
 refine lC.2 (w169 ?_);simp only[rB,t169,iA,zf,decide_eq_true_eq];grind [fD]
def EK  : oB Y F 121 [.e .u8 (n:Int)] t=some (.d (lL n)):=by
 refine lC.2 (w121 ?_);simp only[uB,xH,uY,t121,iA,q119,Xz,xA,O.r];unfold lL
 cases h:bN n with
 | true=>simp
 | false=>
  simp only[F5,if_false,q169,Te,xA,O.r];grind [uF,decide]
def rP {i x:Nat}(h:s[i]?=some x):mJ Y 9 (.h s) (.e .i64 (i:Int))=some (.e .u8 (x:Int)):=by
 unfold mJ;rw[iI,lA];simp only[O.aj,O.ba,O.w];have e:ob (some (i:Int)) kO=some i:=rfl;rw[e,lA,show jE.c .j=true from rfl,xE,xI,h,lA];rfl
def Wj{p:Nat->Bool}{g:Nat}(q:∀n:Nat,oB Y F g [.e .u8 (n:Int)] t=some (.d (p n)))(w:∀ {a:List O} {m:G uA} {R:mB},Wq Y F dC g a m R=oD (oB Y F g a m) (λv=>R v m))(z:Nat.blt g pn=true) (B:s.length<4000000000000000000) :
  ∀(k i:Nat),i+k=s.length->(∀j x,j<i->s[j]?=some x->p x=true)->jp 120 2 [.h s,.q (.aa g) [] [],.e .i64 (i:Int)] t (λv t'=>v=.h (eE p s)/\t'=t):=by
 have d:∀i,i<=s.length->(∀j x,j<i->s[j]?=some x->p x=true)->(∀x,s[i]?=some x->p x=false)->eE p s=s.take i:=by
  intro i h f o;unfold eE;induction s generalizing i with
  | nil=>simp
  | cons a s c=>
   cases i with
   | zero=>simp_all
   | succ i=>
    rw[List.takeWhile_cons,f 0 a (by omega) rfl,A5 rfl,List.take_succ_cons];rw[c (by grind) i (by simp_all) (λj x r b=>f (j+1) x (by omega) (by simp_all)) (λx b=>o x (by simp_all))]
 intro k;induction k with
 | zero=>
  intro i h l;refine zsl ?_;simp only[uU,uB,uS,uC,V,uY,xo,iA,iE,oX];grind [He,xA,O.w]
 | succ k c=>
  intro i h l;have b:s[i]?=some s[i]:=D0 (by omega);refine zsl ?_;simp only[uU,uB,uS,uC,V,uY,xo,iA,iE,oX];rw[A5 (by omega),rP b,xA,yC,xA];have e:eM (.q (.aa g) [] []) [.e .u8 (s[i]:Int)]=some (g,[.e .u8 (s[i]:Int)]):=by
   unfold eM;simp only[O.am,lA,z,xE];rfl
  rw[e,xA];simp only[];rw[w,q,xA];simp only[O.r,xA]
  cases A:p s[i]with
  | true=>
   rw[A5 rfl,A2 (by omega) (by omega),show(i:Int)+1=((i+1:Nat):Int) by omega];refine c (i+1) (by omega) λj x r u=>?_
   grind
  | false=>
   rw[A3 (by simp),He (by omega),xA];simp only[O.w,xA];rw[d i (by omega) l (λx y=>by simp_all)]
   simp_all
def JV (b:s.length<4000000000000000000):oB Y F 120 [.h s,.q (.aa 121) [] []] t=some (.h (eE lL s)):=by
 refine lC.2 (w120 ?_);simp only[V,t120,iA];exact Wj (λn=>EK) (fun {a m R}=>by rw[q121]) rfl b s.length 0 (by omega) (λj x c=>by omega)
def zut (b:s.length<4000000000000000000):oB Y F 120 [.h s,.q (.aa 119) [] []] t=some (.h (eE bN s)):=by
 refine lC.2 (w120 ?_);simp only[V,t120,iA];exact Wj (λn=>Xz) (fun {a m R}=>by rw[q119]) rfl b s.length 0 (by omega) (λj x c=>by omega)
def yL (n:Nat):O × O:=(.e .i64 (n:Int),.h (O7 n))
def GJ{a b:List Nat}(h:a.length<4294967281):oB Y F 143 [.h a,.h b] t=some (.d (Fu b a)):=by
 have c:Y.c.c 143=some (jN Nt):=by kernel_rfl
 refine Ki c λH=>?_;unfold Nt;simp only[];rw[dD,eC.2 h];rfl
def WU (E:s.length<4000000000000000000):oB Y F 122 [.h s] t=some (.d (CL s)):=by
 refine mV (w122 ?_);simp only[uB,uS,rB,V,t122,iA,iE,oX];unfold CL;by_cases v:2<=s.length
 .rw[A3 (by omega)];by_cases w:s.length<=7
  .rw[A3 (by omega)];simp only[q120,zut E,xA,O.w]
   cases x:sF (eE bN s) s with
   | false=>simp
   | true=>
    simp only[Bool.not_true,F5,if_false];intro b H f;have m:Vq ⟨b,t⟩=some (.bc b,⟨b+1,t.d b (.aj [])⟩):=rfl;rw[m,xA];simp only[];have r:(t.d b (.aj [])).c b=some (.aj []):=by rw[G.aa,A5 rfl]
    have z:jF b t (t.d b (.aj [])):=λc i=>by rw[G.aa,A3 i]
    generalize t.d b (.aj [])=h at r z;have a:∀(l:List (O × O)) (k:Nat) (q:List Nat) (p:List (O × O)) (Q:(O × sA)->Prop) (h:G uA),h.c b=some (.aj l)->jF b t h->lQ (.e .i64 (k:Int)) (.h q) l=some p->Od Y 236 (.e .i64 (k:Int))=true →
      (∀n d,d.c b=some (.aj p)->jF b t d->Q (aD,⟨n,d⟩))->∀n,h.c n=none->Y.a<=n->oD (bW Y 236 (.bc b) (.e .i64 (k:Int)) (.h q) ⟨n,h⟩) Q:=by
     intro l k q p Q h A B v w x n _ _;rw[ztt w f A v,xA];exact x n _ (by rw[G.aa,A5 rfl]) λc i=>by rw[G.aa,A3 i];exact B c i
    refine a [] 2 _ [yL 2] _ h r z rfl (by kernel_rfl) λn d g o=>?_;refine a _ 3 _ [yL 2,yL 3] _ d g o rfl (by kernel_rfl) λn d g o=>?_;refine a _ 4 _ [yL 2,yL 3,yL 4] _ d g o rfl (by kernel_rfl) λn d g o=>?_;refine a _ 5 _ [yL 2,yL 3,yL 4,yL 5] _ d g o rfl (by kernel_rfl) λn d g o=>?_;refine a _ 6 _ [yL 2,yL 3,yL 4,yL 5,yL 6] _ d g o rfl (by kernel_rfl) λn d g o=>?_;refine a _ 7 _ [yL 2,yL 3,yL 4,yL 5,yL 6,yL 7] _ d g o rfl (by kernel_rfl) λn d g o=>?_
    have j:zB t d:=λc u i=>by
     have:c≠b:=λe=>by simp_all
     rw[o c this];exact i
    have C:Ci Y 236 ⟨0,d⟩ (.bc b) (.e .i64 (s.length:Int)) false=some (.h (O7 s.length)):=by
     have y:Od Y 236 (.e .i64 (s.length:Int))=true/\rN (.e .i64 (s.length:Int)) [yL 2,yL 3,yL 4,yL 5,yL 6,yL 7]=some (some (.h (O7 s.length))):=by
      have:s.length=2\/s.length=3\/s.length=4\/s.length=5\/s.length=6\/s.length=7:=by omega
      rcases this with e | e | e | e | e | e<;>rw[e]<;>exact⟨by kernel_rfl,rfl⟩
     exact znh y.1 g y.2 pi rfl iI false
    rw[C,xA];simp only[O.w,xA];rw[pH (by grind),xA];simp only[O.w,xA];rw[pH (by grind),xA];simp only[O.w,xA];have D:(O7 s.length).length<4294967281:=by
     have:s.length=2\/s.length=3\/s.length=4\/s.length=5\/s.length=6\/s.length=7:=by omega
     rcases this with e | e | e | e | e | e<;>rw[e]<;>decide
    rw[q143,GJ D,xA];simp only[O.r,xA];refine⟨?_,j⟩
    grind
  grind
 grind
def Kw  : oB Y F 60 [.h s] t=some (.d (fG s)):=by
 refine lC.2 (w60 ?_);simp only[uU,uB,uS,rB,V,uY,t60,iA,iE,oX]
 cases s with
 | nil=>simp[fG,eJ]
 | cons x r=>
  have b:sF (x::r) []=false:=by
   grind [eJ]
  rw[b];simp only[F5,if_false];unfold fG;by_cases c:(x::r).length<=24
  .rw[A3 (by omega)];have a:=rP (s:=x::r) (i:=0) (x:=x) rfl;rw[show((0:Nat):Int)=0 from rfl]at a;rw[a,xA,yC,xA,q119,Xz,xA];simp only[O.r,xA]
   cases d:bN x with
   | false=>simp
   | true=>
    simp only[Bool.not_true,F5,if_false];rw[q120,JV (by omega),xA];simp only[O.w,xA]
    cases e:sF (eE lL (x::r)) (x::r)with
    | false=>simp
    | true=>
     simp only[if_true,q122,WU (s:=x::r) (by omega),xA,O.r]
     simp_all
  grind
end Go.Proofs
namespace Go.Am
open Go Go.RowKit
variable {b:Bool}{x y:T}{K:O->T}{v:O}{a:List O}
section
variable {base:Nat}{W J:xG}{t:G uA}{Q:mB}
theorem tA  (h:b=true)(k:iA base W J x t Q):iA base W J (.a b x y) t Q:=by
 show if b=true then _ else _;simp_all
theorem wB  (h:b≠true)(k:iA base W J y t Q):iA base W J (.a b x y) t Q:=by
 show if b=true then _ else _;simp_all
theorem vA{x:Option O}  (h:x=some v)(k:iA base W J (K v) t Q):iA base W J (.d x K) t Q:=by
 show oD x _;simp_all
def iB{x:G uA->Option O}  (h:x t=some v)(k:iA base W J (K v) t Q):iA base W J (.e x K) t Q:=by
 show oD (x t) _;simp_all
theorem aA{f:Nat}  (k:W f a t (λv t'=>iA base W J (K v) t' Q)):iA base W J (.c f a K) t Q:=k
theorem tB{n:Int}{i:IntKind}{K:Int->T}(k:iA base W J (K n) t Q):iA base W J (.r i (.e i n) K) t Q:=by
 show oD (J3 i (.e i n)) _;rw[yC];exact k
theorem cC {K:Bool->T}(k:iA base W J (K b) t Q):iA base W J (.q (.d b) K) t Q:=k
def gC{s:List Nat}{K:List Nat->T}(k:iA base W J (K s) t Q):iA base W J (.s (.h s) K) t Q:=k
def aC{zs:List O}{a:O}{K:yH->T}{X:yH}(h:mK zs a=some X)(k:iA base W J (K X) t Q):iA base W J (.o zs a K) t Q:=by
 show oD (mK zs a) _;simp_all
def jC{x:sA->Option (O × sA)} (k:∀b,t.c b=none->base<=b->∃v H,x ⟨b,t⟩=some (v,H)/\iA base W J (K v) H.t Q):iA base W J (.h x K) t Q:=by
 intro b a c;obtain⟨v,H,d,e⟩:=k b a c
 simp_all
theorem sC{i:Nat} (k:J i a t Q):iA base W J (.j i a) t Q:=k
end
section
variable {t:G uA}{C:fA}
def mG.mid{T el sz:Nat}{g:Bool}(h:mG C T el sz g){l:List D} (M:bA t sz l v){k:Nat}{d:D}(H:l[k]?=some d) :
  ∃v',aF C T ⟨0,t⟩ v (some (.e .i64 (k:Int))) (some (.e .i64 ((k+1:Nat):Int)))=some v'/\bA t sz [d] v':=by
 obtain⟨⟨y,p,r⟩,⟨z,s,u,N⟩⟩:=h;obtain⟨Q,E,B⟩:=M;have I:=B.g;have L:=(G1.1 H).1;obtain⟨w,R,o⟩:=B.p H;unfold aF;rw[p,lA];have J:∀(y n:Nat),Bm y (.e .i64 (n:Int))=sB (Nat.ble n y) (some n):=λy n=>rfl;rcases E with⟨rfl,rfl⟩ | ⟨b,f,a,rfl,A,⟨c,n,P,F,e⟩,E⟩
 .grind
 .refine⟨.m b (f+k*sz) 1 (a-k),?_,[w],.inr ⟨b,f+k*sz,a-k,rfl,by grind,⟨c,n,P,F,e⟩,λi q S=>?_⟩,kD.2 ⟨w,[],rfl,o,pG.2 rfl⟩⟩
  .unfold gP;simp only[O.w,O.u];rw[r,lA];unfold oS;rw[s,lA];unfold xT Fy;simp only[J];rw[mF.2 (show k+1<=a by omega)];simp only[xE,lA];rw[mF.2 (show k<=k+1 by omega)];simp only[xE,lA];have m:Nat.beq a k=false:=by
    grind [zD]
   have j:iP ⟨0,t⟩ b z.b a k false=false:=by
    grind [iP]
   rw[j,E9,cond_false];have K:mQ ⟨0,t⟩ b z.b a k false=true:=by
    unfold mQ eD;rw[F,lA];simp only[uA.a];rcases e with rfl | ⟨x,rfl,U⟩
    all_goals simp_all
   rw[mF.2 (show k+1<=a by omega),K,m,u];simp only[Bool.and_self,xE,cond_false];rw[show k+1-k=1 by omega]
  grind
end
end Go.Am
namespace Go.Am
open Go Go.RowKit
def HD{C:fA}{F:G kE}{f:Nat}{args:List O}{t:G uA}{Q:mB}{g:List O->sA->Option (O × sA)}(e:C.c.c f=some g)(h:∀X HA,Ov C.a t X HA->∃v t' a,g args HA=some (v,a)/\Ov C.a t' X a/\Q v t')(d:Nat.blt f yo=true:=by rfl):Wc C F f args t Q:=by
 intro X HA i;rw[Lu d,e];obtain⟨v,t',a,j,b,c⟩:=h X HA i;exact⟨⟨v,false⟩,t',a,X,by simp_all,b,dJ.f _,c⟩
end Go.Am
namespace Go.Proofs
open Go Go.Am
variable [fC]
variable {t tf:G uA}{w T:Nat}{s m:List Nat}{z:List O}
def el96:Gi Y 96 5 1:=⟨⟨_,sY,rfl,rfl⟩,⟨_,M7,rfl,rfl,by decide,by decide⟩⟩
def yI{b o:Nat}:nR (.j b o)=some (.j b o):=rfl
def BX (T:Nat)(z:List O)(tf t:G uA)(w:Nat)(s:List Nat):Prop:=
 Y.a<=w/\tf.c w=none/\zB tf t/\pB 256 s/\So Sn T (z.length+2)=true/\∃p a,(p=O.y\/p=.j w 0)/\xC t w (some (.a T)) (p::a::z)/\cH (.a 5) Y.a tf t 1 (tC .u8 s) a/\(¬ iM a w/\(s=[]->a=.g))
def BX.g(h:BX T z tf t w s):zB tf t:=h.2.2.1
def BX.k(h:BX T z tf t w s){n:Nat}(i:t.c n=none)(y:uA):BX T z (tf.d n y) (t.d n y) w s:=by
 obtain⟨l,D,m,r,q,p,j,x,g,a,o⟩:=h;have f:w≠n:=by intro e;obtain⟨c,h,_⟩:=g;simp_all
 refine⟨l,by grind [G.aa],BU i m,r,q,p,j,x,g.i (by rw[G.aa,A3 f]),?_,o⟩;have d:∀b,iM j b->b≠n:=λb d e=>EJ a d (e ▸ i);rcases a with⟨rfl,a⟩ | ⟨b,k,c,rfl,A,F,H,B,C⟩
 .exact .inl ⟨rfl,a⟩
 .have v:=d b (Cx.2 rfl);exact .inr ⟨b,k,c,rfl,A,by grind [G.aa],by grind [G.aa],B,tD.f (λc u E=>by
   grind [Cr,G.aa]) _ _ C⟩
def BX.q{n:Nat}{y:uA}(x:tf.c n=none)(h:BX T z (tf.d n y) t w s):BX T z tf (t.q n) w s:=by
 obtain⟨j,g,k,q,o,p,D,A,l,d,m⟩:=h;have a:w≠n:=by grind [G.aa]
 have f:zB tf (tf.d n y):=(oO x y).1;rw[G.aa,A3 a]at g;refine⟨j,g,λc u v=>?_,q,o,p,D,A,l.i (by rw[G.e,A3 a]),?_,m⟩
 .have:c≠n:=λe=>by simp_all
  rw[G.e,A3 this];exact k _ _ (f _ _ v)
 .rcases d with⟨rfl,d⟩ | ⟨b,i,c,rfl,B,E,F,C,H⟩
  .exact .inl ⟨rfl,d⟩
  .have r:b≠n:=by grind [G.aa]
   refine .inr ⟨b,i,c,rfl,B,by grind [G.aa],by grind [G.e],C,?_⟩
   grind [Gh]
def BX.r(h:BX T z tf t w s){t':G uA}(c:zB tf t')(e:∀b,b=w\/(∃p a,xC t w (some (.a T)) (p::a::z)/\iM a b)->t'.c b=t.c b):BX T z tf t' w s:=by
 obtain⟨f,g,o,l,k,p,a,n,d,i,j⟩:=h;exact⟨f,g,c,l,k,p,a,n,d.i (e _ (.inl rfl)),i.f λb m=>e b (.inr ⟨p,a,d,m⟩),j⟩
def BX.o{Q:mB}(h:BX T z tf t w s)(o:∀t',BX T z tf t' w s->Q (.p []) t'):Wc Y F 87 [.j w 0] t Q:=by
 have r:=h;obtain⟨l,x,m,C,B,p,d,H,⟨c,n,g⟩,y,A⟩:=h;have D:Y.c.c 87=some R9:=by kernel_rfl
 refine HD D λX f k=>?_;have E:eD f w=some (c,(p::d::z).length,some (.a T)):=by unfold eD;rw[k.q n];rfl
 have i:c.c 0=some p:=g 0 p rfl;rcases H with rfl | rfl
 .refine⟨.p [],t.d w (.aa (c.d 0 (.j w 0)) (O.y::d::z).length (some (.a T))),A7 f w (.aa (c.d 0 (.j w 0)) (O.y::d::z).length (some (.a T))),?_,k.i n _,o _ ?_⟩
  .unfold R9 Km;simp only[];rw[E,lA,i,lA];simp only[];have J:(!Nat.blt w (256+fC.n))=true:=by
    cases I:Nat.blt w (256+fC.n)with
    | true=>
     have m:=eC.1 I;have v:256+fC.n<=w:=l;omega
    | false=>rfl
   simp_all
  .refine⟨l,x,λb u q=>?_,C,B,.j w 0,d,.inr rfl,⟨_,by rw[G.aa,A5 rfl];rfl,λj a K=>?_⟩,y.f λb q=>?_,A⟩
   .have:b≠w:=λe=>by simp_all
    rw[G.aa,A3 this];exact m _ _ q
   all_goals grind [G.aa]
 .refine⟨.p [],t,f,?_,k,o _ r⟩
  simp_all [R9,Km]
def fu{b:Nat}:jB Y 98 1 (.j b 0)=some (.j b 1):=by kernel_rfl
def BX.f{Q:mB}(h:BX T z tf t w s)(r:m≠[])(k:pB 256 m)(N:s.length+m.length<400000)(L:∀v t',BX T z tf t' w (s++m)->Q v t'):Wc Y F 42 [.j w 0,.h m] t Q:=by
 refine w42 ?_;unfold t42 rC V;refine aA ?_;rw[q87];refine h.o λt' E=>?_;obtain⟨o,q,H,M,K,p,W,R,f,I,J⟩:=E;refine vA yI (vA fu (iB (f.f (j:=1) sY rfl rfl) (jC λn P a=>?_)));have i:n≠w:=by intro e;obtain⟨c,Z,_⟩:=f;simp_all
 obtain⟨U,A,B,C,D⟩:=TW el96 ⟨_,iI,rfl⟩ zd I r N P a H;refine⟨_,_,A,vA yI (vA fu (jC λS _ _=>?_))⟩;have g:xC U w (some (.a T)) (p::W::z):=f.i (D w i.symm J.1);obtain⟨t2,u,y,l⟩:=g.g (v:=.m n 0 (s.length+m.length) (s.length+m.length)) o sY rfl rfl rfl (j:=1) (by simp);refine⟨_,_,u S,L _ _ ⟨o,q,C.g q l,λx d=>?_,K,p,_,R,y,B.f λb X=>l b λe=>?_,λe=>?_,λe=>absurd (List.append_eq_nil_iff.1 e).2 r⟩⟩
 .rcases F7.1 d with d | d
  .exact M x d
  .exact k x d
 all_goals grind [Cx]
def MU:∀ {l:List Nat},pB 256 l->jH Go.Am.E8 (l.map fun(n:Nat)=>O.e .u8 (n:Int))=some l
 | [],_=>rfl
 | x::l,h=>by
  have a:Go.Am.E8 (.e .u8 (x:Int))=some x:=by
   show sB (Nat.blt x 256) (some x)=_;rw[eC.2 (h x (.head _))];rfl
  rw[L1,iQ,a,lA,MU λy b=>h y (.tail _ b)];rfl
def BX.i{Q:mB}(h:BX T z tf t w s)(hl:s.length<400000)(C:∀t',zB tf t'->Q (.h s) t'):Wc Y F 44 [.j w 0] t Q:=by
 obtain⟨S,U,q,K,Z,p,tv,hp,⟨c,A,l⟩,B,W⟩:=h;have D:Y.c.c 44=some S0:=by kernel_rfl
 rcases B with⟨rfl,B⟩ | ⟨b,R,d,rfl,N,k1,y,P,H⟩
 .refine HD D λX i k=>?_;have o:eD i w=some (c,(p::O.g::z).length,some (.a T)):=by unfold eD;rw[k.q A];rfl
  have g:=l 1 _ rfl;have x:s=[]:=by grind [qH]
  subst x;refine⟨.h [],t,i,?_,k,C _ q⟩;unfold S0 Kl;simp only[];rw[o,lA,g,lA]
 have x:s≠[]:=λe=>by simp_all
 have m:0<s.length:=List.length_pos_iff.2 x;rw[qH,Nat.mul_one]at y;rw[Gh]at H;subst H;have f:∀j a,(s.map fun(n:Nat)=>O.e .u8 (n:Int))[j]?=some a->d.c j=some a:=by
  intro j a hj;have r:(B8 .u8 s)[j]?=some [a]:=by
   grind [B8]
  have:=(P j _ r).2 0 a rfl
  simp_all
 refine HD D λX i k=>?_;have o:eD i w=some (c,(p::O.m b 0 (tC .u8 s).length (tC .u8 s).length::z).length,some (.a T)):=by unfold eD;rw[k.q A];rfl
 have v:eD i b=some (d,s.length,some (.a 5)):=by unfold eD;rw[k.q y];rfl
 have g:=l 1 _ rfl;refine⟨.h s,t.q b,⟨i.a,i.t.q b⟩,?_,k.k y,C _ λe u L=>?_⟩
 .unfold S0 Kl;simp only[];rw[o,lA,g,lA];unfold Wy;simp only[];rw[o,lA,g,lA];simp only[O.u,lA,qH];rw[v,lA];simp only[];have E:=zg8 f s.length 0 (by simp);rw[H6,L8 (by simp)]at E;rw[E,lA,MU K,lA];have I:(!Nat.blt b (256+fC.n))=true:=by
   cases M:Nat.blt b (256+fC.n)with
   | true=>
    have q:=eC.1 M;have J:256+fC.n<=b:=N;omega
   | false=>rfl
  rw[I,zD.2 rfl,eC.2 m,mF.2 (B4 _),eC.2 (show s.length<1000000000 by omega),zD.2 rfl];rfl
 .have:e≠b:=λh=>by simp_all
  rw[G.e,A3 this];exact q _ _ L
end Go.Proofs
namespace Go.Proofs
open Go Go.Am
section
variable {n:Nat}{Q:mB}
variable [fC]
variable {t tf:G uA}{d:Nat}{s m:List Nat}
def TX (tf t:G uA)(d:Nat)(s:List Nat):Prop:=Y.a<=d/\tf.c d=none/\zB tf t/\∃a,xC t d none [a]/\cH (.a 5) Y.a tf t 1 (tC .u8 s) a/\¬ iM a d
def TX.g(h:TX tf t d s) (j:t.c n=none)(y:uA):TX (tf.d n y) (t.d n y) d s:=by
 obtain⟨m,x,o,k,i,a,p⟩:=h;have g:d≠n:=by intro e;obtain⟨c,h,_⟩:=i;simp_all
 refine⟨m,by grind [G.aa],BU j o,k,i.i (by rw[G.aa,A3 g]),?_,p⟩;have f:∀b,iM k b->b≠n:=λb f e=>EJ a f (e ▸ j);rcases a with⟨rfl,a⟩ | ⟨b,l,c,rfl,r,A,B,v,w⟩
 .exact .inl ⟨rfl,a⟩
 .have q:=f b (Cx.2 rfl);exact .inr ⟨b,l,c,rfl,r,by grind [G.aa],by grind [G.aa],v,tD.f (λc u z=>by
   grind [Cr,G.aa]) _ _ w⟩
def TX.o {y:uA}(r:tf.c n=none)(h:TX (tf.d n y) t d s):TX tf (t.q n) d s:=by
 obtain⟨k,i,l,x,m,f,o⟩:=h;have a:d≠n:=by grind [G.aa]
 have g:zB tf (tf.d n y):=(oO r y).1;rw[G.aa,A3 a]at i;refine⟨k,i,λc u q=>?_,x,m.i (by rw[G.e,A3 a]),?_,o⟩
 .have:c≠n:=λe=>by simp_all
  rw[G.e,A3 this];exact l _ _ (g _ _ q)
 .rcases f with⟨rfl,f⟩ | ⟨b,j,c,rfl,v,z,A,w,B⟩
  .exact .inl ⟨rfl,f⟩
  .have p:b≠n:=by grind [G.aa]
   refine .inr ⟨b,j,c,rfl,v,by grind [G.aa],by grind [G.e],w,?_⟩
   grind [Gh]
def TX.a(h:TX tf t d s):∃a,oA Y 96 ⟨0,t⟩ (.j d 0)=some a/\xC t d none [a]/\cH (.a 5) Y.a tf t 1 (tC .u8 s) a/\¬ iM a d:=by
 obtain⟨f,g,i,a,b,c,e⟩:=h;exact⟨a,b.f sY rfl rfl,b,c,e⟩
def TX.i{t1:G uA}{k:Nat}{p:O}(f:Y.a<=d)(g:tf.c d=none)(m:xC t1 d none [p])(o:cH (.a 5) Y.a tf t1 1 (tC .u8 s) (.m n 0 k k))(a:zB tf t1)(q:n≠d) :
  ∃t2,(∀n',mC Y 96 (.j d 0) (.m n 0 k k) ⟨n',t1⟩=some (aD,⟨n',t2⟩))/\TX tf t2 d s:=by
 obtain⟨t2,h,i,c⟩:=m.g (v:=.m n 0 k k) f sY rfl rfl rfl (j:=0) (by simp);refine⟨t2,h,f,g,a.g g c,_,i,o.f λb l=>c b λe=>?_,λe=>?_⟩
 all_goals grind [Cx]
theorem TX.l(h:TX tf t d s)(r:m≠[])(q:s.length+m.length<400000):∃f,oA Y 96 ⟨0,t⟩ (.j d 0)=some f/\∀n,t.c n=none->Y.a<=n →
  ∃w t1 t2,lG Y 96 9 f (.h m) ⟨n,t⟩=some (w,⟨n+1,t1⟩)/\(∀n',mC Y 96 (.j d 0) w ⟨n',t1⟩=some (aD,⟨n',t2⟩))/\TX tf t2 d (s++m):=by
 obtain⟨f,l,g,o,p⟩:=h.a;refine⟨f,l,λn u a=>?_⟩;have b:n≠d:=by intro e;obtain⟨c,z,_⟩:=g;simp_all
 obtain⟨t1,v,i,j,k⟩:=TW nz ⟨_,iI,rfl⟩ zd o r q u a h.2.2.1;obtain⟨t2,x,y⟩:=TX.i h.1 h.2.1 (g.i (k d b.symm p)) i j b
 grind
def TX.f(h:TX tf t d s)(x:Nat)(N:s.length+1<400000):∃j,oA Y 96 ⟨0,t⟩ (.j d 0)=some j/\∀n,t.c n=none->Y.a<=n →
  ∃g,rD Y 96 1 [(0,.e .u8 (x:Int))] ⟨n,t⟩=some (.m n 0 1 1,g)/\∀i,g.t.c i=none->Y.a<=i →
   ∃w t1 t2,lG Y 96 96 j (.m n 0 1 1) ⟨i,g.t⟩=some (w,⟨i+1,t1⟩)/\(∀n',mC Y 96 (.j d 0) w ⟨n',t1⟩=some (aD,⟨n',t2⟩))/\TX tf t2 d (s++[x]):=by
 obtain⟨j,H,v,z,I⟩:=h.a;refine⟨j,H,λn K p=>?_⟩;obtain⟨g,B,C,m⟩:=DP (k:=.u8) sY rfl M7 rfl rfl x trivial K;refine⟨g,B,λi r a=>?_⟩;have f:xC g.t d none [j]:=v.i (by
  obtain⟨c,q,_⟩:=v;rw[m _ _ q,q])
 have l:i≠d:=by intro e;obtain⟨c,q,_⟩:=f;simp_all
 have o:cH (.a 5) Y.a tf g.t 1 (tC .u8 s) j:=z.f λb J=>by
  obtain⟨_,_,y,A⟩:=z.o J;rw[m _ _ A,A]
 obtain⟨t1,D,u,E,F⟩:=UC nz zd o (C.m (cap:=1) (B4 _)) (by simp) (by omega) r a (h.2.2.1.d m);simp only[List.length_singleton]at D u;obtain⟨t2,L,M⟩:=TX.i h.1 h.2.1 (f.i (F d l.symm I)) u E l
 grind
def zm1 {c:Nat}(x:m≠[])(H:c<100)(y:m.length<100):∀(k i:Nat) (s:List Nat) (t:G uA),i+k=c->s.length+k+m.length<400000->TX tf t d s->(∀t',TX tf t' d (s++(List.replicate k 48++m))->Q (.d true) t') →
  jp 183 10 [.j d 0,.h m,.e .i64 (c:Int),.e .i64 (i:Int)] t Q:=by
 intro k;induction k with
 | zero=>
  intro i s t u v h l;refine zie ?_;simp only[uC,V,uY,BD,iA,iE];rw[A3 (by omega)];obtain⟨D,f,g⟩:=h.l x (by omega)
  grind [xA]
 | succ k A=>
  intro i s t u v h l;refine zie ?_;simp only[uC,V,uY,BD,iA,iE];rw[A5 (by omega)];obtain⟨D,f,g⟩:=h.f 48 (by omega);rw[f,xA];intro n z b;obtain⟨E,j,o⟩:=g n z b;rw[show((48:Nat):Int)=48 from rfl]at j;rw[j,xA];intro B e a;obtain⟨w,J,C,p,q,r⟩:=o B e a;simp only[];rw[p,xA];intro I _ _;rw[q,xA];rw[A2 (by omega) (by omega),show(i:Int)+1=((i+1:Nat):Int) by omega];refine A (i+1) (s++[48]) C (by omega) (by grind) r λt' F=>l t' ?_
  grind
def ztu{u:Nat}(h:u<18446744073709551616):oB Y F 238 [.e .u64 (u:Int),.e .i64 10] t=some (.h (eF u)):=by
 have a:Y.c.c 238=some (jN Rz):=by kernel_rfl
 refine Ki a λH=>?_;show sB (vE 0 (u:Int)&&fB (u:Int) 18446744073709551616&&kB 10 10) (some (O.h (wJ (u:Int))))=_;rw[Xy,mI.2 (by omega),iE.2 (by omega)];rfl
def Ut(s:List Nat)(x:Nat):List Nat:=if s=[]\/s=[45]then s++eF x else s++kV 9 x
theorem zx8 {x:Nat}(h:TX tf t d s)(D:x<1000000000)(C:s.length<300000)(o:pB 256 s)(m:∀t',TX tf t' d (Ut s x)->Q (.d true) t'):jp 183 6 [.j d 0,.e .u32 (x:Int)] t Q:=by
 have B:=Zb x;have n:(eF x).length<=9:=Ub (by decide) (by omega);have a:eF x≠[]:=λe=>by simp_all
 have c:s≠[]->s≠[45]->jp 183 10 [.j d 0,.h (eF x),.e .i64 (cA .i64 (9-Int.ofNat (vB (eF x)))),.e .i64 0] t Q:=by
  intro l g;have e:cA .i64 (9-Int.ofNat (vB (eF x)))=((9-(eF x).length:Nat):Int):=by
   grind [dD,A2]
  rw[e];refine zm1 a (by omega) (by omega) _ 0 s t (D8 _) (by omega) h λt' A=>m t' ?_
  grind [Ut,zu9]
 have j:s=[]\/s=[45]->∃f,oA Y 96 ⟨0,t⟩ (.j d 0)=some f/\∀b,t.c b=none->Y.a<=b->oD (lG Y 96 9 f (.h (eF x)) ⟨b,t⟩) λp=>∀b,p.2.t.c b=none->Y.a<=b->oD (mC Y 96 (.j d 0) p.1 ⟨b,p.2.t⟩) λp=>Q (.d true) p.2.t:=by
  intro r;obtain⟨f,w,z⟩:=h.l a (by omega)
  grind [xA,Ut]
 obtain⟨f,u,H,k,I⟩:=h.a;refine j183_6 ?_;simp only[fg,uI,uU,uS,V,uW,zqt,iA,q238];rw[gG (by omega) (by omega),ztu (by omega),xA];simp only[O.w,xA,u,k.q,yC,qH,iE,rI];by_cases l:1<s.length
 .rw[A5 (by omega)];exact c (by grind) (by grind)
 .rw[A3 (by omega)];by_cases g:s.length=1
  .rw[A5 (by omega)];obtain⟨y,rfl⟩:=List.length_eq_one_iff.1 g;have q:=k.r (by rfl) h.2.2.1;obtain⟨b,v,E,F⟩:=q.f sl96 (i:=0) (x:=y) rfl
   grind [xA,yC,Fe]
  grind [List.length_eq_zero_iff]
end
section
variable {p:Nat->Bool}{r s:List Nat}{b:Nat}{m:List xD}
theorem CD   : ∀b∈eE p s,p b=true:=by
 intro b a;unfold eE at a;induction s with
 | nil=>cases a
 | cons x s c=>
  grind [List.takeWhile_cons]
def zfs   : ∃r,s=eE p s++r/\∀b a,r=b::a->p b=false:=by
 refine⟨s.dropWhile p,(List.takeWhile_append_dropWhile).symm,λb a h=>?_⟩
 grind [List.head?_dropWhile_not]
theorem Ae {a:List Nat}(h:∀b∈a,p b=true)(f:∀b c,r=b::c->p b=false):eE p (a++r)=a:=by
 unfold eE;induction a with
 | nil=>
  cases r with
  | nil=>rfl
  | cons b c=>simp_all
 | cons x a e=>
  rw[List.cons_append,List.takeWhile_cons,h x C7,A5 rfl,e λb d=>h b (C9 _ d)]
theorem Tz (h:fD b=true):decide (b≠47)=true:=by
 grind [fD]
def jd(f q:List Nat):(f++q)[f.length]?=q.head?:=by
 rw[T9 (B4 _),Nat.sub_self];cases q<;>rfl
def zdl(f q:List Nat):(f++q).take f.length=f:=by simp
theorem Yz(f q:List Nat)(b:Nat):(f++b::q).drop (f.length+1)=q:=by
 simp_all
theorem zve   (I:s=b::r)(H:fD b=true)(h:mM s=false):bT (s.take (vH s))/\0<(s.take (vH s)).length:=by
 unfold mM at h;simp only[Z7,decide_eq_false_iff_not]at h;obtain⟨⟨⟨⟨B,C⟩,D⟩,E⟩,F⟩:=h;have z:nE s≠[]:=by
  grind [nE,eE,List.takeWhile_cons]
 obtain⟨q,c,A⟩:=zfs (p:=fD) (s:=s);have c:s=nE s++q:=c;have d:∀x∈nE s,fD x=true:=CD;have f:0<(nE s).length:=List.length_pos_iff.2 z;have l:s[(nE s).length]?=q.head?:=by
  have:=jd (nE s) q
  rwa [<- c]at this
 by_cases n:sH s=[]
 .have m:vH s=(nE s).length:=A5 n;have o:s.take (vH s)=nE s:=by rw[m];have:=zdl (nE s) q;rwa [<- c]at this
  rw[o];have v:jL (nE s)=nE s:=by
   have:=Ae (p:=λb=>decide (b≠47)) (a:=nE s) (r:=[]) (λb k=>Tz (d b k)) (λ_ _ e=>by cases e)
   rwa [Do]at this
  refine⟨⟨by omega,by grind,by grind,by grind,λJ=>?_⟩,f⟩
  grind [xK,Tz]
 .have m:vH s=(nE s).length+1+(sH s).length:=A3 n;have i:s[(nE s).length]?=some 47:=by
   cases Decidable.em (s[(nE s).length]?=some 47)with
   | inl h=>exact h
   | inr h=>exact absurd (A3 h) n
  rw[l]at i;obtain⟨u,rfl⟩:∃u,q=47::u:=by
   cases q with
   | nil=>cases i
   | cons x u=>grind
  have g:sH s=eE fD u:=by
   unfold sH;rw[A5 (by grind)];congr 1;have:=Yz (nE s) u 47
   rwa [<- c]at this
  obtain⟨w,t,_⟩:=zfs (p:=fD) (s:=u);rw[<- g]at t;have j:∀x∈sH s,fD x=true:=by grind [CD]
  have o:s.take (vH s)=nE s++47::sH s:=by
   have e:s=(nE s++47::sH s)++w:=by grind
   rw[m];have:=zdl (nE s++47::sH s) w;rw[<- e]at this;rw[E1,D6,show(nE s).length+((sH s).length+1)=(nE s).length+1+(sH s).length from by omega]at this;exact this
  rw[o];have v:jL (nE s++47::sH s)=nE s:=Ae (λb k=>Tz (d b k)) (λb K e=>by grind);have y:dO (nE s++47::sH s)=sH s:=by
   grind [dO,Yz]
  refine⟨⟨?_,by grind,by grind,by grind,λ_=>?_⟩,by grind⟩
  all_goals grind
theorem AW {k:Nat}{w:List Nat}(h:fE s=.aa k w):0<w.length/\(k=2->bT w)/\(k=3->Zn w)/\k≠5:=by
 unfold fE at h;split at h
 .cases h
 .rename_i b r;split at h
  .grind [eE,List.takeWhile_cons,lL]
  .split at h
   .rename_i d;simp only[B3]at d;split at h
    .cases h
    .rename_i a;cases h;have f:10<=(b::r).length:=by
      grind [wK]
     have c:((b::r).take 10).length=10:=by simp_all
     refine⟨by omega,λe=>by omega,λ_=>⟨c,?_,?_⟩,by omega⟩
     .grind [wK]
     .have a:zT (b::r)=false:=by simp_all
      unfold zT at a;simp only[Z7,decide_eq_false_iff_not]at a
      cases g:gU ((b::r).take 10)with
      | none=>simp_all
      | some n=>simp_all
   grind [zve]
theorem je {e:Nat}(h:fE s=.ac e):e≠0:=by
 unfold fE at h;grind
theorem zjg(p:Nat × Nat):qY (O8 p):=⟨λe=>(by cases e),λe=>(by cases e)⟩
def zj2{t:xD}{r:LR} (h:r.d t=.ok m):∃a,r=.ok a/\m=t::a:=by
 cases r with
 | ok l=>cases h;simp_all
 | er _ _ _=>cases h
theorem SO{op:Option (Nat × Nat)}{r:LR} (h:LR.c op r=.ok m):∃a,r=.ok a/\m.length<=a.length+1/\∀x∈m,x∈a\/qY x:=by
 cases op with
 | none=>exact⟨m,h,by omega,λx b=>.inl b⟩
 | some p=>
  obtain⟨a,c,rfl⟩:=zj2 h
  grind [zjg]
def znn:∀(k:Nat) (s:List Nat) (c cl:Nat) (op:Option (Nat × Nat)) (m:List xD),uP k s c cl op=.ok m->m.length<=s.length+1/\∀x∈m,qY x:=by
 intro k;induction k with
 | zero=>intro s c cl op m h;cases h;simp_all
 | succ k l=>
  intro s c cl op m h;unfold uP at h;split at h
  .omega
  .grind [SO]
  .rename_i b r a;cases a;split at h
   .grind [SO]
   .split at h
    .grind
    .split at h
     .grind
     .split at h
      .cases h
      .rename_i p w j;obtain⟨q,i,rfl⟩:=zj2 h;obtain⟨g,o⟩:=l _ _ _ _ _ i;obtain⟨n,e,f,_⟩:=AW j;rw[mm]at g;refine⟨by grind,λx d=>?_⟩;rcases C6.1 d with rfl | d
       .exact⟨e,f⟩
       simp_all
def zvv:∀(k:Nat) (s:List Nat) (f cl:Nat) (op:Option (Nat × Nat)) (e a b:Nat),uP k s f cl op=.er e a b->e≠0:=by
 have c:∀(t:xD) (r:LR) (e a b:Nat),r.d t=.er e a b->r=.er e a b:=by
  intro t r e a b h
  cases r with
  | ok l=>cases h
  | er _ _ _=>cases h;rfl
 have d:∀(op:Option (Nat × Nat)) (r:LR) (e a b:Nat),LR.c op r=.er e a b->r=.er e a b:=by
  intro op r e a b h
  cases op with
  | none=>exact h
  | some p=>exact c _ _ _ _ _ h
 intro k;induction k with
 | zero=>intro s f cl op e a b h;cases h
 | succ k g=>
  intro s f cl op e a b h;unfold uP at h;grind [je]
end
section
variable {n:Nat}
theorem zxm(n:Nat):∀s:List Nat,s.foldl (λn b=>n*10+(b-48)) n=n*10^s.length+sE s:=by
 intro s;induction s generalizing n with
 | nil=>simp[sE]
 | cons b s a=>
  show s.foldl _ (n*10+(b-48))=_+s.foldl _ (0*10+(b-48))
  grind
theorem FW(a b:List Nat):sE (a++b)=sE a*10^b.length+sE b:=by
 grind [sE,zxm]
theorem Zg(a:List Nat)(x:Nat):sE (a++[x])=sE a*10+(x-48):=by
 grind [sE]
theorem Io:∀ {s:List Nat},(∀b∈s,fD b=true)->sE s<10^s.length:=by
 intro s;induction s with
 | nil=>grind [sE]
 | cons b s e=>
  intro h;have a:=h b (by simp);have f:=e λc d=>h c (by simp[d]);have:sE (b::s)=(b-48)*10^s.length+sE s:=by
   have:=FW [b] s
   grind [sE]
  rw[this,D6,K7];unfold fD at a;simp only[B3,decide_eq_true_eq]at a;have:(b-48)*10^s.length<=9*10^s.length:=D4 _ (by omega);omega
def RZ{s:List Nat}(c:∀b∈s,fD b=true)(f:s≠[])(d:s.head?≠some 48):0<sE s:=by
 cases s with
 | nil=>simp_all
 | cons b s=>
  have a:=c b (by simp);unfold fD at a;simp only[B3,decide_eq_true_eq]at a;have:sE (b::s)=(b-48)*10^s.length+sE s:=by
   have:=FW [b] s
   grind [sE]
  rw[this];have g:b≠48:=λe=>d (by simp[e]);have:1*10^s.length<=(b-48)*10^s.length:=D4 _ (by omega)
  grind
theorem dZ(n:Nat):A4 65536 (iC n)=n:=by
 induction n using Nat.strongRecOn with
 | ind n a=>
  grind [iC,A4]
def gW(n:Nat):pB 65536 (iC n):=by
 induction n using Nat.strongRecOn with
 | ind n b=>
  unfold iC;split
  .intro x a;cases a
  .intro x a;rcases C6.1 a with rfl | a
   .omega
   .exact b _ (by omega) x a
def Nv(n:Nat):B5 (iC n):=by
 induction n using Nat.strongRecOn with
 | ind n d=>
  unfold iC;split
  .intro h;grind
  .intro h;have c:=d (n / 65536) (by omega);by_cases a:iC (n / 65536)=[]
   .simp only[a,List.getLast_singleton];have b:=dZ (n / 65536);rw[a]at b;have:n / 65536=0:=b.symm;omega
   .rw[List.getLast_cons a];exact c a
def Sx{l:List Nat} (a:pB 65536 l)(b:B5 l)(c:A4 65536 l=n):l=iC n:=
 MK (B:=65536) (by omega) a (gW n) b (Nv n) (by rw[dZ,c])
theorem Ez  : iC n=[] ↔ n=0:=by
 grind [iC]
def Xw{k:Nat}(h:n<65536^k):(iC n).length<=k:=by
 induction k generalizing n with
 | zero=>
  grind [Ez]
 | succ k a=>
  grind [iC]
end
section
variable {ds es s:List Nat}{n:Nat}
section
variable {k a cl:Nat}{op:Option (Nat × Nat)}{r:List Nat}
def Ox{b:Nat}(h:fD b=true):b≠10/\b≠32/\b≠9/\b≠35/\b≠45/\b≠47/\bN b=false:=by
 grind [fD,bN]
def MI {i:Nat}(hi:i<10)(h:vM i (s.getD i 0)=false):wK s=false:=by
 grind [wK]
def zvg (h:∀b∈s,b≠45):wK s=false:=by
 refine MI (i:=4) (by omega) ?_
 grind [vM]
def PP (c:ds≠[])(h:∀b∈ds,fD b=true):∃x a,ds=x::a/\fD x=true:=by
 cases ds with
 | nil=>simp_all
 | cons x a=>simp_all
def zbp (g:ds≠[])(c:∀b∈ds,fD b=true)(a:es≠[])(d:∀b∈es,fD b=true)(i:∀b f,r=b::f->fD b=false) :
  nE (ds++47::(es++r))=ds/\sH (ds++47::(es++r))=es/\vH (ds++47::(es++r))=(ds++47::es).length:=by
 have h:nE (ds++47::(es++r))=ds:=Ae c λb k e=>by cases e;rfl
 have j:sH (ds++47::(es++r))=es:=by
  grind [sH,Yz,Ae]
 grind [vH]
end
def nJ (n:Nat):List Nat:=if n<10 then [48+n]else nJ (n / 10)++[48+n%10]
decreasing_by omega
def FZ:∀(k n:Nat),n<10^(k+1)->(nJ n).length<=k+1
 | 0,n,h=>by grind [nJ]
 | k+1,n,h=>by
  rw[nJ];split
  .simp
  .have:=FZ k (n / 10) (by omega)
   simp_all
theorem Zh(n:Nat):nJ n≠[]:=by rw[nJ];split<;>simp
theorem zsz (h:n<10):fD (48+n)=true:=by grind [fD]
def GA:∀(k n:Nat),n<=k->(∀b∈nJ n,fD b=true)/\(0<n->(nJ n).head?≠some 48)/\sE (nJ n)=n:=by
 intro k;induction k with
 | zero=>
  intro n h;have:n=0:=by omega
  subst this;rw[nJ,A5 (by omega)];exact⟨λb a=>by rw[ydd]at a;subst a;rfl,λh=>by omega,rfl⟩
 | succ k d=>
  intro n h;rw[nJ];split
  .rename_i c;refine⟨λb a=>by grind [zsz],λh e=>?_,?_⟩
   .simp_all
   .show 0*10+(48+n-48)=n;omega
  grind [zsz,nJ,Zg]
theorem Ls(n:Nat):∀b∈nJ n,fD b=true:=(GA n n (B4 _)).1
theorem Uf(n:Nat):sE (nJ n)=n:=(GA n n (B4 _)).2.2
theorem FY(n:Nat):fP (nJ n)=false:=by
 unfold fP;by_cases h:n=0
 .grind [nJ]
 .rw[decide_eq_false (p:=(nJ n).head?=some 48) ((GA n n (B4 _)).2.1 (by omega)),E9]
theorem zju  : nJ n=[48] ↔ n=0:=by
 constructor
 .intro h;have:=Uf n;rw[h]at this;exact this.symm
 grind [nJ]
theorem FX(n:Nat):xK (nJ n)=false:=by
 unfold xK
 cases a:(nJ n).contains 47 with
 | false=>rfl
 | true=>have:=(Ox (Ls n 47 (by simp_all))).2.2.2.2.2.1;omega
theorem zo4 (a:∀b∈ds,fD b=true):jL (ds++47::es)=ds/\dO (ds++47::es)=es/\xK (ds++47::es)=true:=by
 grind [jL,Ae,Tz,dO,Yz,xK]
end
section
structure FM where
 b:Nat
 c:List Nat
 e:Bool
 d:Nat
 g:Nat
 a:Nat
 h:Nat
 i:Nat
def U9 (w:List Nat):FM:=⟨3,w,true,1,1,7,7,7⟩
def lW(w:List Nat)(n:Bool)(a b:Nat):FM:=⟨6,w,n,a,b,7,1,1⟩
def Cp(w:List Nat)(a b c:Nat):FM:=⟨4,w,false,2,2,a,b,c⟩
def Fi:List FM:=[⟨0,[],false,0,0,0,0,0⟩,⟨1,[],false,0,0,7,0,0⟩,⟨2,[116,111,100,97,121],false,0,0,7,0,0⟩,U9 [102,97,99,116,32],U9 [104,97,115,32],U9 [],lW [108,111,111,107] true 1 2,Cp [43] 5 5 6,Cp [45] 5 5 6,Cp [42] 6 6 7,Cp [47] 6 6 7,
 lW [109,105,110] false 2 2,lW [109,97,120] false 2 2,Cp [60] 4 5 5,Cp [61] 4 5 5,Cp [97,110,100] 2 2 3,Cp [111,114] 1 1 2,⟨5,[110,111,116,32],false,1,1,3,3,3⟩,lW [105,102] false 3 3,lW [114,111,117,110,100] false 2 2,lW [98,101,116,119,101,101,110] false 2 2,
 lW [115,101,114,118,105,99,101] true 2 2,lW [98,101,115,116] true 3 3,lW [103,114,111,119] true 2 2,lW [109,111,110,116,104,115] false 1 1,lW [110,117,109,98,101,114] false 1 1,lW [115,116,97,114,116] false 1 1]
def yB(op:Nat):FM:=Fi.getD op ⟨0,[],false,0,0,0,0,0⟩
def nU (a b:List Nat):Bool:=decide (b.length<=a.length)&&sF (a.take b.length) b
def gH(s:List Nat):List Nat:=if nU s [45]then [109,105,110,117,115,32]++s.drop 1 else s
def Gn(neg:Bool)(l:List Nat):List Nat:=dh neg (A4 65536 l)
def pK(f:qF):List Nat:=Gn f.n.b f.n.a++(if kX f.d then []else 47::Gn f.d.b f.d.a)
def Dr(f:qF):Bool := !f.n.b && !f.d.b&&decide (f.n.a.length+f.d.a.length=0)
def lV(f:qF):Bool:=decide (f.n.a.length<=42)&&decide (f.d.a.length<=42)&&oM f&&decide ((if nU (pK f) [45]then(pK f).drop 1 else pK f).length<=200)
def zM(v:gE):Bool:=
 if v.a=2\/v.a=3 then decide (v.i=0)&&lV v.f
 else if v.a=1 then Dr v.f&&(decide (v.i=0)||decide (v.i=1))
 else if v.a=4 then Dr v.f&&(decide (0<=v.i)&&decide (v.i<65536))
 else if v.a=5\/v.a=6 then Dr v.f&&(decide (-1048576<=v.i)&&decide (v.i<=1048576))
 else false
def rX:Nat->Nat->Nat
 | 0,_=>0
 | k+1,n=>if wH (k+1)<=n then k+1 else rX k n
def d1 (n:Nat):Nat:=48+n%10
def Gk (y m d:Nat):List Nat:=[d1 (y / 1000),d1 (y / 100),d1 (y / 10),d1 y,45,d1 (m / 10),d1 m,45,d1 (d / 10),d1 d]
def rH(n:Nat):List Nat:=Gk (1900+rX 2153 n / 12) (rX 2153 n%12+1) (n-wH (rX 2153 n)+1)
def Qm(date:List Nat)(v:gE):List Nat:=
 if v.a=1 then(if v.i=1 then [116,114,117,101]else [102,97,108,115,101])
 else if v.a=2 then gH (pK v.f)
 else if v.a=3 then [109,111,110,101,121,32]++gH (pK v.f)
 else if v.a=4 then date
 else if v.a=5 then gH (wJ v.i)++[32,100,97,121,115]
 else if v.a=6 then gH (wJ v.i)++[32,109,111,110,116,104,115]
 else []
def Gs (v:gE):List Nat:=Qm (rH v.i.toNat) v
def Dq(v:gE):Bool:=decide (v.a=0)&&decide (v.i=0)&&Dr v.f
def aP(op:Nat)(name:List Nat)(n:Nat):Bool:=
 decide (op<27) && !decide ((yB op).b=0)&&decide ((yB op).d<=n)&&decide (n<=(yB op).g)&&(if (yB op).e=true then fG name else sF name [])
def cO(op:Nat)(v:gE):Bool:=if op=19 then decide (1<=v.i)&&decide (v.i<=6)&&Dq { v with i:=0 } else Dq v
mutual
/-- is an expression printable at a depth? -/
def qJ:pA->Nat->Bool
 | .mk op name v args,d=>decide (d<=24)&&aP op name args.length&&(if op=1 then zM v else cO op v&&jZ args (d+1))
def jZ:List pA->Nat->Bool
 | [],_=>true
 | x::l,d=>qJ x d&&jZ l d
end
theorem AD:∀ {l:List pA} {d:Nat},jZ l d=l.all λx=>qJ x d
 | [],d=>by rw[jZ];rfl
 | x::l,d=>by rw[jZ,AD];rfl
def Cs:List (List Nat):=[[],[100,111,119,110],[117,112],[102,108,111,111,114],[99,101,105,108],[104,97,108,102],[101,118,101,110]]
def kM(n:Nat):List Nat:=if n<7 then Cs.getD n []else []
def G8 (lev:Nat)(p:Nat × List Nat):List Nat:=if lev<=p.1 then p.2 else [40]++p.2++[41]
def wW:Bool->List (Nat × List Nat)->List Nat
 | _,[]=>[]
 | b,p::l=>(if b then []else [44,32])++p.2++wW false l
def Dx(op:Nat)(i:Int):List Nat:=(if op=19 then [44,32]++kM i.toNat else [])++[41]
def dS(op:Nat)(name:List Nat)(v:gE)(l:List (Nat × List Nat)):List Nat:=
 if (yB op).b=1 then Gs v else if (yB op).b=2 then(yB op).c
 else if (yB op).b=3 then(yB op).c++name++[32,97,116,32]++G8 (yB op).h (l.getD 0 (0,[]))
 else if (yB op).b=4 then G8 (yB op).h (l.getD 0 (0,[]))++([32]++(yB op).c++[32]++G8 (yB op).i (l.getD 1 (0,[])))
 else if (yB op).b=5 then(yB op).c++G8 (yB op).h (l.getD 0 (0,[]))
 else(yB op).c++[40]++((if (yB op).e then name++[44,32]else [])++(wW true l++Dx op v.i))
mutual
def oQ:pA->List Nat
 | .mk op name v args=>dS op name v (lJ args)
def lJ:List pA->List (Nat × List Nat)
 | []=>[]
 | y::l=>((yB y.e).a,oQ y)::lJ l
end
theorem Mw:∀l:List pA,lJ l=l.map λy=>((yB y.e).a,oQ y)
 | []=>by rw[lJ];rfl
 | y::l=>by rw[lJ,Mw l];rfl
end
section
variable {l a:List Nat}
variable [fC]
variable {t tf:G uA}{b:Nat}{s m:List Nat}
theorem ZY (b:a=[]\/a=[45]){x:Nat}  : Ut (a++zN l) x=a++zN (x::l):=by
 unfold Ut
 cases l with
 | nil=>
  grind [zN]
 | cons p l=>
  have c:zN (p::l)≠[]:=by
   cases l with
   | nil=>grind [Zb,zN]
   | cons q l=>
    grind [zN,List.length_append,CS]
  rw[A3,zN,D5];rintro(h | h)
  .simp_all
  .rcases b with rfl | rfl
   .rw[F3]at h;have:=BA (p::l) 45 (by simp_all);omega
   simp_all
theorem ID:∀(l:List Nat),(∀x∈l,x<1000000000)->(zN l).length<=9*l.length
 | [],_=>by simp[zN]
 | [p],h=>by
  simp_all [Ub,zN]
 | p::q::l,h=>by
  have:=ID (q::l) λx a=>h x (.tail _ a)
  grind [zN,CS]
theorem UH (c:a=[]\/a=[45]):pB 256 (a++zN l):=by
 intro x b;rcases F7.1 b with b | b
 .grind
 .have:=BA _ x b;omega
def TX.d{b:Nat}{s:List Nat}:AJ (λtf t=>TX tf t b s) where
 le:=λh=>h.2.2.1
 aa:=λh a y=>h.g a y
 ac:=λa h=>TX.o a h
def zp7{Q:mB}{t0:G uA}{ps:List Nat}{l:O} (g:a=[]\/a=[45])(o:zB t0 tf)(s:bA tf 1 (tC .u32 ps) l)(c:pB 1000000000 ps)(r:ps.length<30000)(h:TX tf t b a)
  (p:∀t',zB t0 t'->Q (.p [.h (a++zN ps),.e .i64 0]) t'):jp 183 29 [.h [],.e .i64 0,l,.j b 0] t Q:=by
 refine zwm ?_;unfold zeu uS V;refine KM (S:=λk tf t=>TX tf t b (a++zN (ps.drop k))) (λk=>TX.d) s r (by grind [zN]) ?_ ?_
 .intro k x tf t' A j B q;have C:k<ps.length:=(G1.1 j).1;have u:x<1000000000:=c x (Q5 j);have e:ps.drop k=x::ps.drop (k+1):=by
   grind [List.drop_eq_getElem_cons]
  have i:(a++zN (ps.drop (k+1))).length<300000:=by
   have:=ID (ps.drop (k+1)) λy v=>c y (List.mem_of_mem_drop v)
   grind
  grind [zx8,UH,ZY]
 .intro w t' f d;rw[H6]at d;obtain⟨z,m,_,n,_⟩:=d.a;show oD (oA Y 96 ⟨0,t'⟩ (.j b 0)) _;rw[m,xA];show oD (rS Y 96 9 ⟨0,t'⟩ z) _;rw[zo7 sY iI rfl rfl rfl M7 rfl (n.r (by rfl) d.2.2.1) (UH g),xA];exact p _ (o.d (f.d d.2.2.1))
set_option exponentiation.threshold 2000 in
theorem zdk{neg:Bool} {v:O}(D:bA t 1 (tC .u16 l) v)(g:pB 65536 l)(q:rL neg l=true):oB Y F 183 [.i [.d neg,v]] t=some (.p [.h (Gn neg l),.e .i64 0]):=by
 have T:l.length<=1024:=by
  grind [rL]
 refine mV (w183 ?_);simp only[uI,uB,V,t183,iA,q196];rw[Jp (by omega) D,q];simp only[O.r,xA,Bool.not_true,F5,if_false,D.c,qH,yC,rI];by_cases S:l=[]
 .grind [rL,Gn,dh,A4,Ua]
 .have U:0<l.length:=List.length_pos_iff.2 S;rw[A3 (by omega),q235];refine Ry D (by omega) g λJ v1 y E=>?_;have f:l.getLast?≠some 0:=by
   grind [rL]
  have a:B5 l:=λA s=>f (by rw[List.getLast?_eq_some_getLast A,s]);have hN:A4 4294967296 (oH l)=A4 65536 l:=Vp l;have H:0<A4 65536 l:=by
   rcases Z9 (A4 65536 l)with e | e
   .exfalso;exact S (Xg (B:=65536) (by decide) a e)
   .exact e
  have p:(oH l).length<=512:=by rw[dT];omega
  have k:A4 4294967296 (oH l)<1000000000^1100:=by
   have P:=qQ (B:=4294967296) (by decide) (Md g);have Q:4294967296^(oH l).length<=4294967296^512:=L7 (by decide) p;omega
  refine za4 (t0:=J) (N:=A4 65536 l) (M:=1100) (by decide) ?_ 1100 (oH l) [] .g v1 J J k (by simp) (Nu a) (Md g) (by omega) (λx hx=>by cases hx) ?_ (by simp[A4,hN]) (zB.f _) (zB.f _) MR E
  .intro tf t' Z v4 v5 k1 X k3 k4 I k6 k7 k8 k9;refine zr9 ?_;simp only[uI,uL,uX,V,uY,xy,iA,(k4.a X).c,xA,yC,qH,iE,G2];rw[A3 (by simp)];obtain⟨r,f1,K,L,f4⟩:=k3.p rfl X;have o:Z.length<30000:=by omega
   intro b m d;obtain⟨t2,e1,s,e3,e4⟩:=yQ (C:=Y) sY m;rw[e1,xA];have i:TX r t2 b []:=⟨d,Cr K m,K.d e3,.g,s,MR,Yb⟩;have W:zB t r:=y.d (k1.d f1);have c:zN Z=eF (A4 65536 l):=by rw[<- k8];exact(IE k6 I k7).1
   cases neg with
   | false=>
    simp only[F5,if_false];refine zp7 (.inl rfl) W L I o i λt' h=>⟨?_,h⟩;rw[c];rfl
   | true=>
    simp only[if_true];obtain⟨tv,P,Q⟩:=i.f 45 (by simp);rw[P,xA];intro n hn u;obtain⟨H1,R,g4⟩:=Q n hn u;rw[show((45:Nat):Int)=45 from rfl]at R;rw[R,xA];intro n2 z j;obtain⟨w,t3,t4,g5,g6,g7⟩:=g4 n2 z j;simp only[];rw[g5,xA];intro n3 _ _;rw[g6,xA];refine zp7 (.inr rfl) W L I o g7 λt' h=>⟨?_,h⟩;rw[c];rfl
  grind [dT]
end
section
variable {a b:List Nat}{n:Int}{u v:O}{f:qF}
variable [fC]
variable {t:G uA}
def PS  : oB Y F 239 [.h a,.h b] t=some (.d (nU a b)):=by
 refine lC.2 (w239 ?_);simp only[uS,rB,V,t239,iA,oX,mI];grind [nU,He,xA,O.w]
def VI  : oB Y F 132 [.h a,.h b] t=some (.h (if nU a b then a.drop b.length else a)):=by
 have h:oB Y F 185 [.h a,.h b] t=some (.h (if nU a b then a.drop b.length else a)):=by
  refine lC.2 (w185 ?_);simp only[uB,uS,V,t185,iA,q239,PS,xA,O.r,oX];grind [nU,Nb,xA,O.w]
 refine lC.2 (w132 ?_);simp only[uS,t132,iA,q185,h,xA,O.w];simp_all
def YV  : oB Y F 186 [.h a,.h b] t=some (.p [.h (if nU a b then a.drop b.length else a),.d (nU a b)]):=by
 have h:oB Y F 240 [.h a,.h b] t=some (.p [.h (if nU a b then a.drop b.length else a),.d (nU a b)]):=by
  refine lC.2 (w240 ?_);simp only[uB,uS,V,t240,iA,q239,PS,xA,O.r,oX];grind [nU,Nb,xA,O.w]
 refine lC.2 (w186 ?_);have c:∀u v,tK 0 (.p [u,v])=some u:=λ_ _=>rfl;have d:∀u v,tK 1 (.p [u,v])=some v:=λ_ _=>rfl;simp only[uB,uS,uX,t186,iA,q240,h,xA,c,d,O.w,O.r];simp_all
def JI{s:List Nat}(h:s.length<4000000000000000000):oB Y F 134 [.h s] t=some (.h (gH s)):=by
 refine lC.2 (w134 ?_);have a:∀u v,tK 0 (.p [u,v])=some u:=λ_ _=>rfl;have b:∀u v,tK 1 (.p [u,v])=some v:=λ_ _=>rfl;simp only[uB,uS,uX,t134,iA,q186,YV,xA,a,b,O.w,O.r];grind [gH,pH,xA]
def zws (a : -9223372036854775808<=n)(b:n<9223372036854775808):oB Y F 137 [.e .i64 n] t=some (.h (wJ n)):=by
 have c:Y.c.c 137=some (jN Ns):=by kernel_rfl
 refine Ki c λH=>?_;unfold Ns;simp only[];rw[mI.2 a,iE.2 b];rfl
theorem Xx (a : -9223372036854775808<=n)(b:n<9223372036854775808):(wJ n).length<=21:=by
 by_cases h:n<0
 .obtain⟨u,rfl⟩:∃u:Nat,n = -(u:Int):=⟨n.natAbs,by omega⟩;rw[EC (by omega)];have:=Ub (u:=u) (k:=20) (by decide) (by omega)
  grind
 .obtain⟨u,rfl⟩:∃u:Nat,n=(u:Int):=⟨n.toNat,by omega⟩;rw[Xy];have:=Ub (u:=u) (k:=20) (by decide) (by omega);omega
def Yd (a : -9223372036854775808<=n)(b:n<9223372036854775808):oB Y F 75 [.e .i64 n] t=some (.h (gH (wJ n))):=by
 have:=Xx a b;refine lC.2 (w75 ?_);simp only[uS,V,t75,iA,q137,zws a b,xA,O.w,q134,JI (s:=wJ n) (by omega)]
 simp_all
def YT{u:Nat}:∀ {k:Nat},u<10^k->(eF u).length<=k+1:=by
 intro k h;have:=Ub (u:=u) (k:=k+1) (by omega) (by omega);exact this
theorem Vl{neg:Bool}{l:List Nat}(a:pB 65536 l)(d:l.length<=1024):(Gn neg l).length<=10000:=by
 unfold Gn dh;have b:=qQ (B:=65536) (by decide) a;have c:(65536:Nat)^l.length<=10^(5*l.length):=by
  simp_all [Nat.pow_mul,Nat.pow_le_pow_left]
 have:=YT (u:=A4 65536 l) (k:=5*l.length) (by omega)
 grind
theorem HQ (h:oM f=true):rL f.n.b f.n.a=true/\rL f.d.b f.d.a=true/\f.n.a.length<=1024/\f.d.a.length<=1024:=by
 grind [oM]
theorem ET (c:f.a)(h:oM f=true):(pK f).length<=20001:=by
 obtain⟨_,_,d,e⟩:=HQ h;have a:=Vl (neg:=f.n.b) c.2.1 d;have b:=Vl (neg:=f.d.b) c.2.2 e
 grind [pK]
def QA  (h:bA t 1 (vD f.n.a) u)(e:bA t 1 (vD f.d.a) v)(c:qF.a f):oB Y F 131 [.i [.d f.n.b,u,.d f.d.b,v]] t=some (if oM f then .p [.h (pK f),.e .i64 0]else .p [.h [],.e .i64 2]):=by
 refine lC.2 (w131 ?_);have i:∀u v,tK 0 (.p [u,v])=some u:=λ_ _=>rfl;have j:∀u v,tK 1 (.p [u,v])=some v:=λ_ _=>rfl;simp only[uI,uB,uS,uX,V,t131,iA,q130,AQ h e c,xA,O.r]
 cases d:oM f with
 | false=>simp
 | true=>
  obtain⟨l,m,n,o⟩:=HQ d;have a:=Vl (neg:=f.n.b) c.2.1 n;have b:=Vl (neg:=f.d.b) c.2.2 o;have k:oB Y F 184 [.i [.d f.n.b,u,.d f.d.b,v]] t=some (.d (kX f.d)):=by
   refine lC.2 (w184 ?_);simp only[uB,t184,iA,q233,EG e,xA,O.r];first | exact⟨rfl,rfl⟩ | exact⟨trivial,trivial⟩ | exact⟨rfl,trivial⟩
  simp only[Bool.not_true,F5,if_false,q183,zdk h c.2.1 l,xA,i,j,O.w,yC,if_true,q184,k,O.r];unfold pK
  cases g:kX f.d with
  | true=>simp
  | false=>
   simp only[L0,if_true,zdk e c.2.2 m,xA,i,j,O.w,yC];grind [pH,xA]
def ES  (c:bA t 1 (vD f.n.a) u)(d:bA t 1 (vD f.d.a) v)(b:qF.a f)(a:oM f=true):oB Y F 73 [.i [.d f.n.b,u,.d f.d.b,v]] t=some (.h (gH (pK f))):=by
 have:=ET b a;refine lC.2 (w73 ?_);have e:∀u v,tK 0 (.p [u,v])=some u:=λ_ _=>rfl;have g:∀u v,tK 1 (.p [u,v])=some v:=λ_ _=>rfl;simp only[uI,uS,uX,t73,iA,q131,QA c d b,a,if_true,xA,e,g,O.w,yC,q134,JI (s:=pK f) (by omega)]
 simp_all
def KY  (b:bA t 1 (vD f.n.a) u)(c:bA t 1 (vD f.d.a) v)(d:qF.a f):oB Y F 69 [.i [.d f.n.b,u,.d f.d.b,v]] t=some (.d (lV f)):=by
 refine lC.2 (w69 ?_);have i:∀u v,tK 0 (.p [u,v])=some u:=λ_ _=>rfl;have j:∀u v,tK 1 (.p [u,v])=some v:=λ_ _=>rfl;simp only[uI,uB,uS,rB,uX,t69,iA,b.c,c.c,fU,xA,yC,iE];unfold lV;by_cases e:f.n.a.length<=42
 .rw[A3 (by omega)];by_cases g:f.d.a.length<=42
  .rw[A3 (by omega)];simp only[q130,AQ b c d,xA,O.r]
   cases a:oM f with
   | false=>simp
   | true=>
    simp only[Bool.not_true,F5,if_false,q131,QA b c d,a,if_true,xA,i,j,O.w,yC,rI,q132,VI,oX];simp[e,g,oU];constructor<;>intro h<;>omega
  grind
 grind
def HH  (b:bA t 1 (vD f.n.a) u)(c:bA t 1 (vD f.d.a) v)(a:f.c):oB Y F 70 [.i [.d f.n.b,u,.d f.d.b,v]] t=some (.d (Dr f)):=by
 unfold qF.c tE at a;refine lC.2 (w70 ?_);simp only[uI,rB,uW,t70,iA,b.c,c.c,fU,xA,yC];unfold Dr;rw[A2 (by omega) (by omega),uF];have e:decide ((f.n.a.length:Int)+(f.d.a.length:Int)=0)=decide (f.n.a.length+f.d.a.length=0):=by
  grind
 rw[e];cases f.n.b<;>cases f.d.b<;>simp
def OX  : oB Y F 71 [.e .i64 n] t=some (.d (decide (0<=n)&&decide (n<65536))):=by
 refine lC.2 (w71 ?_);simp only[rB,t71,iA,mI];grind [wD]
def XD{a:gE} (c:bA t 1 (vD a.f.n.a) u)(d:bA t 1 (vD a.f.d.a) v)(b:qF.a a.f):oB Y F 34 [.i [.e .u8 a.a,.d a.f.n.b,u,.d a.f.d.b,v,.e .i64 a.i]] t=some (.d (zM a)):=by
 refine lC.2 (w34 ?_);simp only[J6,w7,uB,rB,xH,V,t34,iA,q69,KY c d b,q70,HH c d b.1,q71,OX,xA,O.r];unfold zM;have h:∀j:Int,kB (a.a:Int) j=decide ((a.a:Int)=j):=λj=>uF;simp only[h];by_cases g:a.a=2
 .have e:(a.a:Int)=2:=by omega
  by_cases f:a.i=0<;>simp[e,g,f,uF]
 by_cases i:a.a=3
 all_goals grind [uF,oU]
end
section
variable [fC]
variable {t:G uA}
theorem Ri(s:List Nat):(gH s).length<=s.length+6:=by
 grind [gH]
theorem Wt{v:gE}(h:zM v=true)(a:v.a=2\/v.a=3):oM v.f=true:=by
 grind [zM,lV]
def UX{a:gE}{u v:O}{date:List Nat}(l:bA t 1 (vD a.f.n.a) u)(m:bA t 1 (vD a.f.d.a) v)(r:gE.b a)(i:zM a=true)(q:a.a=4->oB Y F 74 [.e .i64 a.i] t=some (.h date)):oB Y F 35 [.i [.e .u8 a.a,.d a.f.n.b,u,.d a.f.d.b,v,.e .i64 a.i]] t=some (.h (Qm date a)):=by
 obtain⟨_,c,d,f⟩:=r;have s:=Xx d f;have x:=Ri (wJ a.i);have B:∀j:Int,kB (a.a:Int) j=decide ((a.a:Int)=j):=λj=>uF;refine lC.2 (w35 ?_);simp only[uS,V,t35,iA,B];unfold Qm;by_cases y:a.a=1
 .have e:(a.a:Int)=1:=by omega
  have p:oB Y F 72 [.d (kB a.i 1)] t=some (.h (if a.i=1 then [116,114,117,101]else [102,97,108,115,101])):=by
   refine lC.2 (w72 ?_);have g:oB Y F 133 [.d (kB a.i 1)] t=some (.h (if a.i=1 then [116,114,117,101]else [102,97,108,115,101])):=by
    refine lC.2 (w133 ?_);by_cases h:a.i=1<;>simp[t133,iA,uF,h]
   simp only[uS,t72,iA,q133,g,xA,O.w];simp_all
  simp[e,y,q72,p,O.w]
 have C:¬ (a.a:Int)=1:=by omega
 by_cases n:a.a=2
 .have e:(a.a:Int)=2:=by omega
  simp[e,n,q73,ES l m c (Wt i (.inl n)),O.w]
 have D:¬ (a.a:Int)=2:=by omega
 by_cases k:a.a=3
 .have e:(a.a:Int)=3:=by omega
  have J:=ET c (Wt i (.inr k));have w:=Ri (pK a.f);have:=pH (a:=[109,111,110,101,121,32]) (b:=gH (pK a.f)) (by grind);simp[e,k,q73,ES l m c (Wt i (.inr k)),O.w,this]
 have E:¬ (a.a:Int)=3:=by omega
 by_cases o:a.a=4
 .have e:(a.a:Int)=4:=by omega
  simp[e,o,q74,q o,O.w]
 have H:¬ (a.a:Int)=4:=by omega
 by_cases z:a.a=5
 .have e:(a.a:Int)=5:=by omega
  have:=pH (a:=gH (wJ a.i)) (b:=[32,100,97,121,115]) (by simp;omega);simp[e,z,q75,Yd d f,O.w,this]
 have I:¬ (a.a:Int)=5:=by omega
 by_cases A:a.a=6
 .have e:(a.a:Int)=6:=by omega
  have:=pH (a:=gH (wJ a.i)) (b:=[32,109,111,110,116,104,115]) (by simp;omega);simp[e,A,q75,Yd d f,O.w,this]
 grind
end
section
variable {a b:Nat}{w:List Nat}{K:yH->T}{Q:mB}
variable [fC]
variable {t:G uA}
def HF{a:gE}{u v:O}(d:bA t 1 (vD a.f.n.a) u)(e:bA t 1 (vD a.f.d.a) v)(c:a.f.c):oB Y F 61 [.i [.e .u8 a.a,.d a.f.n.b,u,.d a.f.d.b,v,.e .i64 a.i]] t=some (.d (Dq a)):=by
 refine lC.2 (w61 ?_);simp only[uB,rB,t61,iA,rI];unfold Dq;by_cases f:a.a=0
 .rw[A5 (by omega)];by_cases b:a.i=0
  .rw[A5 b,q70,HH d e c,xA]
   grind [O.r,xA]
  simp_all
 simp_all
def FM.j(f:FM):List O:=[.e .u8 f.b,.h f.c,.d f.e,.e .i64 f.d,.e .i64 f.g,.e .i64 f.a,.e .i64 f.h,.e .i64 f.i]
def cS:List O:=(Fi.map FM.j).flatten
abbrev z8:List O:=[.e .u8 0,.h [],.d false,.e .i64 0,.e .i64 0,.e .i64 0,.e .i64 0,.e .i64 0]
def cv76 {n:Bool}   (h:wp 59 (K (AN (lW w n a b).j)) t Q):wp 59 (.n (.q (.aa 116) [] []) [.h w,.d n,.e .i64 (a:Int),.e .i64 (b:Int)] λa=>.o z8 a K) t Q:=by
 have e:oB Y F 116 [.h w,.d n,.e .i64 (a:Int),.e .i64 (b:Int)] t=some (.i (lW w n a b).j):=by
  refine lC.2 (w116 ?_);simp only[V,uY,t116,iA,if_true];constructor<;>trivial
 show oD (some (116,[O.h w,.d n,.e .i64 (a:Int),.e .i64 (b:Int)])) _;rw[xA];simp only[];rw[q116,e,xA];exact h
def cv77   (h:wp 59 (K (AN (U9 w).j)) t Q):wp 59 (.n (.q (.aa 117) [] []) [.h w] λa=>.o z8 a K) t Q:=by
 have e:oB Y F 117 [.h w] t=some (.i (U9 w).j):=by
  refine lC.2 (w117 ?_);simp only[V,uY,t117,iA,if_true];constructor<;>trivial
 show oD (some (117,[O.h w])) _;rw[xA];simp only[];rw[q117,e,xA];exact h
def cv78 {c:Nat}  (h:wp 59 (K (AN (Cp w a b c).j)) t Q):wp 59 (.n (.q (.aa 118) [] []) [.h w,.e .i64 (a:Int),.e .i64 (b:Int),.e .i64 (c:Int)] λa=>.o z8 a K) t Q:=by
 have e:oB Y F 118 [.h w,.e .i64 (a:Int),.e .i64 (b:Int),.e .i64 (c:Int)] t=some (.i (Cp w a b c).j):=by
  refine lC.2 (w118 ?_);simp only[V,uY,t118,iA,if_true];constructor<;>trivial
 show oD (some (118,[O.h w,.e .i64 (a:Int),.e .i64 (b:Int),.e .i64 (c:Int)])) _;rw[xA];simp only[];rw[q118,e,xA];exact h
def MN (h:∀b t',t.c b=none->Y.a<=b->xC t' b none cS->zB t t'->jF b t t'->Q (.j b 0) t'):Wc Y F 59 [] t Q:=by
 refine w59 ?_;unfold t59 uG V uY;repeat (first | refine cv76 ?_ | refine cv77 ?_ | refine cv78 ?_ | refine tA rfl ?_)
 intro b c a;obtain⟨t',d,f,g,i⟩:=Ep c cS none;have e:∀l:List O,l=cS->dL (.i l) ⟨b,t⟩=some (.j b 0,⟨b+1,t'⟩):=by
  intro l j;show some (O.j b 0,sG ⟨b,t⟩ l none)=_;rw[j,d]
 rw[e _ (by rfl),xA];exact h b t' c a f g i
def XQ (h:∀b t',t.c b=none->Y.a<=b->xC t' b none cS->zB t t'->jF b t t'->Q (.i [.j b 0]) t'):Wc Y F 26 [] t Q:=by
 refine w26 ?_;unfold t26 aB;refine aA ?_;rw[q59];refine MN λb t' a c d e f=>?_;refine tA rfl (tA rfl ?_);exact h b t' a c d e f
end
section
variable {a b:Int}
theorem lM (h:a≠b):kB a b≠true:=λe=>h (rI.1 e)
theorem dK (h:¬ a<b):fB a b≠true:=λe=>h (iE.1 e)
theorem V0 (h:¬ a<=b):vE a b≠true:=λe=>h (mI.1 e)
theorem wS (h:a=b):kB a b=true:=rI.2 h
theorem iK (h:a<b):fB a b=true:=iE.2 h
theorem V1 (h:a<=b):vE a b=true:=mI.2 h
end
section
variable [fC]
variable {t:G uA}
theorem QL{f:FM->List O}(a:∀x,(f x).length=8):∀(l:List FM) (i k:Nat),i<l.length->k<8->(l.map f).flatten[i*8+k]?=(f (l.getD i ⟨0,[],false,0,0,0,0,0⟩))[k]?
 | [],i,k,h,_=>by simp at h
 | x::l,0,k,h,b=>by
  grind
 | x::l,i+1,k,h,b=>by
  rw[L1,lj,T9 (by grind),a,show(i+1)*8+k-8=i*8+k by omega];rw[QL a l i k (by grind) b];simp
def Ik{op k:Nat}(h:op<27)(a:k<8):cS[op*8+k]?=(yB op).j[k]?:=QL (f:=FM.j) (λ_=>rfl) Fi op k h a
def zg{b op:Nat}(h:op<27):zC Y 191 (.j b 0) (.e .u8 (op:Int))=some (.j b (op*8)):=by
 have a:ob (Y.b.c 191) (λy=>y.a.g)=some (27,131):=by kernel_rfl
 rw[mA]at a;obtain⟨y,c,d⟩:=a;unfold zC;rw[c,lA];have e:(O.e .u8 (op:Int)).aj=some op:=rfl
 grind [lA,O.u,O.ah,W4,eC,xE]
def jU{b o k:Nat}(a:k<8):jB Y 131 k (.j b o)=some (.j b (o+k)):=by
 have h:Qr Y 131 k=some k:=by
  unfold Qr;rw[W4,lA];simp only[jE.b,lA];have:k=0\/k=1\/k=2\/k=3\/k=4\/k=5\/k=6\/k=7:=by omega
  rcases this with e | e | e | e | e | e | e | e<;>rw[e]<;>rfl
 unfold jB;rw[h];rfl
section
variable {b op:Nat}(a:xC t b none cS)(h:op<27)
include a h
def NL:oA Y 5 ⟨0,t⟩ (.j b (op*8+0))=some (.e .u8 (yB op).b):=a.f M7 rfl (by rw[Ik h (by decide)];rfl)
def zhq:oA Y 9 ⟨0,t⟩ (.j b (op*8+1))=some (.h (yB op).c):=a.f iI rfl (by rw[Ik h (by decide)];rfl)
def NM:oA Y 4 ⟨0,t⟩ (.j b (op*8+2))=some (.d (yB op).e):=a.f yy rfl (by rw[Ik h (by decide)];rfl)
def znv:oA Y 3 ⟨0,t⟩ (.j b (op*8+3))=some (.e .i64 (yB op).d):=a.f cL rfl (by rw[Ik h (by decide)];rfl)
def zv3:oA Y 3 ⟨0,t⟩ (.j b (op*8+4))=some (.e .i64 (yB op).g):=a.f cL rfl (by rw[Ik h (by decide)];rfl)
def znu:oA Y 3 ⟨0,t⟩ (.j b (op*8+5))=some (.e .i64 (yB op).a):=a.f cL rfl (by rw[Ik h (by decide)];rfl)
def DV:oA Y 3 ⟨0,t⟩ (.j b (op*8+6))=some (.e .i64 (yB op).h):=a.f cL rfl (by rw[Ik h (by decide)];rfl)
def znt:oA Y 3 ⟨0,t⟩ (.j b (op*8+7))=some (.e .i64 (yB op).i):=a.f cL rfl (by rw[Ik h (by decide)];rfl)
end
def zp8(h:O)(g:Int)(i:List Nat)(b:Int)(c:Bool)(d:O)(e:Bool)(f:O)(a:Int)(j:O)(m:Int):T:=
 .a (nD O.z [(.e .u8 b),(.d c),d,(.d e),f,(.e .i64 a)]) (.a (kB g 1)
 (.c 34 [(.i [(.e .u8 b),(.d c),d,(.d e),f,(.e .i64 a)])] λk=>
 .q k λl=>.l (.d l))
 (.a (kB g 19)
 (.a (fB a 1)
 (.l (.d false))
 (.a (fB 6 a)
 (.l (.d false))
 (.a true (.j 33 [(.e .i64 m),h,(.e .u8 g),(.h i),(.e .u8 b),(.d c),d,(.d e),f,(.e .i64 a),j,(.e .u8 b),(.d c),d,(.d e),f,(.e .i64 0)]) .g)))
 (.j 33 [(.e .i64 m),h,(.e .u8 g),(.h i),(.e .u8 b),(.d c),d,(.d e),f,(.e .i64 a),j,(.e .u8 b),(.d c),d,(.d e),f,(.e .i64 a)]))) .g
section
variable {op:Nat}{name:List Nat}{v:gE}{a b c:O}{bf d:Nat}
def SM{e:Int}{v':gE}{R:Bool}{n:Nat}{c3:O}(f:bA t 1 (vD v'.f.n.a) a)(g:bA t 1 (vD v'.f.d.a) b)(h:v'.f.c)(p:vC c=some (.e .i64 (n:Int)))
  (d:jp 27 4 [.e .i64 e,c,.e .i64 (n:Int),.e .i64 0,c3] t (λx t'=>x=.d R/\t'=t)) (j:Bool) (l:Bool) (i o:Int) (k m:O) :
  jp 27 33 [.e .i64 e,c3,.e .u8 (op:Int),.h name,.e .u8 i,.d j,k,.d l,m,.e .i64 o,c,.e .u8 v'.a,.d v'.f.n.b,a,.d v'.f.d.b,b,.e .i64 v'.i] t (λx t'=>x=.d (Dq v'&&R)/\t'=t):=by
 refine j27_33 ?_;simp only[uI,uB,rB,V,uY,zqo,iA,q61,HF f g h,xA,O.r];grind [xA,yC]
def zlq{n:Nat}{R:Bool}(f:bA t 1 (vD v.f.n.a) a)(g:bA t 1 (vD v.f.d.a) b)(h:qF.a v.f)(l:vC c=some (.e .i64 (n:Int)))
  (e:jp 27 4 [.e .i64 (d:Int),c,.e .i64 (n:Int),.e .i64 0,.j bf 0] t (λx t'=>x=.d R/\t'=t)) :
  wp 27 (zp8 (.j bf 0) (op:Int) name (v.a:Int) v.f.n.b a v.f.d.b b v.i c (d:Int)) t (λx t'=>x=.d (if op=1 then zM v else cO op v&&R)/\t'=t):=by
 unfold zp8;refine tA ?_ ?_
 .rw[gI];simp only[ce,sa,f.e,g.e];rfl
 by_cases j:op=1
 .refine tA (wS (by omega)) ?_;simp only[iA,q34,XD f g h,xA,O.r,A5 j];constructor<;>trivial
 .refine wB (lM (by omega)) ?_;simp only[A3 j];unfold cO;by_cases k:op=19
  .refine tA (wS (by omega)) ?_;simp only[A5 k];by_cases m:1<=v.i
   .refine wB (dK (by omega)) ?_;by_cases o:v.i<=6
    .refine wB (dK (by omega)) (tA rfl ?_);have:=SM (op:=op) (name:=name) (v':={ v with i:=0 }) f g h.1 l e v.f.n.b v.f.d.b v.a v.i a b;simp only[decide_eq_true m,decide_eq_true o,E5];exact this
    grind [iK,iA]
   grind [iK,iA]
  .refine wB (lM (by omega)) ?_;simp only[A3 k];exact SM (op:=op) (name:=name) (v':=v) f g h.1 l e v.f.n.b v.f.d.b v.a v.i a b
def zod{n:Nat}{R:Bool}(j:xC t bf none cS)(w:op<256)(z:n<tE)(u:name.length<tE)(o:bA t 1 (vD v.f.n.a) a)(p:bA t 1 (vD v.f.d.a) b)(q:qF.a v.f)(k:vC c=some (.e .i64 (n:Int)))
  (h:d<=24->jp 27 4 [.e .i64 (d:Int),c,.e .i64 (n:Int),.e .i64 0,.j bf 0] t (λx t'=>x=.d R/\t'=t)) :
  oB Y F 27 [.i [.j bf 0],.i [.e .u8 op,.h name,.e .u8 v.a,.d v.f.n.b,a,.d v.f.d.b,b,.e .i64 v.i,c],.e .i64 (d:Int)] t=some (.d (decide (d<=24)&&aP op name n&&(if op=1 then zM v else cO op v&&R))):=by
 refine lC.2 (w27 ?_);unfold t27 aP my uI uU uB aB rB rC V uY uW;by_cases l:d<=24
 case neg=>
  grind [iK,iA]
 refine wB (dK (by omega)) ?_;have g:=zlq (op:=op) (name:=name) (d:=d) (bf:=bf) o p q k (h l);by_cases e:op<27
 case neg=>
  grind [A2,V1,iA]
 refine wB (by grind [A2,V0]) ?_;refine vA yI (vA (zg e) (vA yI (vA (jU (by decide)) (iB (NL j e) (tB ?_)))));by_cases y:(yB op).b=0
 .grind [wS,iA]
 refine wB (lM (by omega)) ?_;refine vA k (tB (vA yI (vA (jU (by decide)) (iB (znv j e) (tB ?_)))));by_cases r:(yB op).d<=n
 case neg=>
  grind [iK,iA]
 refine wB (dK (by omega)) ?_;refine vA k (tB (vA yI (vA (jU (by decide)) (iB (zv3 j e) (tB ?_)))));by_cases s:n<=(yB op).g
 case neg=>
  grind [iK,iA]
 refine wB (dK (by omega)) ?_;have f:=NM j e;refine vA yI (vA (jU (by decide)) (iB f (cC ?_)));simp only[decide_eq_true l,decide_eq_true e,decide_eq_false y,decide_eq_true r,decide_eq_true s,E5,L0]
 cases i:(yB op).e with
 | true=>
  rw[i]at f;simp only[if_true];refine tA rfl (aA ?_);rw[q60,Kw,xA];refine cC ?_
  cases m:fG name with
  | false=>
   grind [iA]
  | true=>
   refine wB (by simp) (vA yI (vA (jU (by decide)) (iB f (cC (wB (by simp) ?_)))));simp only[E5];exact g
 | false=>
  rw[i]at f;simp only[F5,if_false];refine wB (by simp) (vA yI (vA (jU (by decide)) (iB f (cC (tA rfl ?_)))))
  cases m:sF name []with
  | false=>
   grind [iA]
  | true=>
   refine wB (by simp) ?_;simp only[E5];exact g
end
mutual
theorem FG{bf:Nat}(k:xC t bf none cS):∀(x:pA) (d:Nat) (cs:List O),x.b->d<1000->RD t x.d cs->oB Y F 27 [.i [.j bf 0],.i cs,.e .i64 (d:Int)] t=some (.d (qJ x d))
 | .mk op name v args,d,cs,D,q,h=>by
  obtain⟨a,b,c,rfl,w,y,g⟩:=bI h;simp only[pA.e,pA.i,pA.v,pA.j]at w y g ⊢;have e:=D;unfold pA.b at e;unfold qJ;refine zod k e.1 (n:=args.length) e.2.2.2.2.1 e.2.1 w y e.2.2.2.1.2.1 (by rw[g.c,C5]) λr=>?_;have:=TU k args args d c 0 g rfl e.2.2.2.2.2 e.2.2.2.2.1 r;exact this
theorem TU{bf:Nat}(k:xC t bf none cS):∀(l args:List pA) (d:Nat) (c:O) (i:Nat),bA t 9 (args.map pA.d) c->args.drop i=l->pA.f l->args.length<tE->d<=24 →
  jp 27 4 [.e .i64 (d:Int),c,.e .i64 (args.length:Int),.e .i64 (i:Int),.j bf 0] t (λx t'=>x=.d (jZ l (d+1))/\t'=t)
 | [],args,d,c,i,g,s,m,j,q=>by
  have:=FP s;refine j27_4 ?_;unfold xi uB uG aB uC rB xH V iH nF;grind [dK,jZ,iA]
 | x::l,args,d,c,i,g,s,m,j,q=>by
  obtain⟨B,C,I⟩:=FQ s;unfold tE at j;have f:=m;unfold pA.f at f;refine j27_4 ?_;obtain⟨K,L,cs,z,A,E,H,o⟩:=mG.at J9 (by simp) g (i:=i) (d:=x.d) (by simp[B]);unfold xi uB uG aB uC rB xH V iH nF;refine tA (iK (by omega)) (vA z (iB A ?_));rw[Cf];refine aC (vO o x.s) ?_;have u:=o.mk x.s;have p:[O.e .u8 ((AN cs).i 0),.h ((AN cs).s 1),.e .u8 ((AN cs).i 2),.d ((AN cs).b 3),(AN cs).v 4,.d ((AN cs).b 5),(AN cs).v 6,.e .i64 ((AN cs).i 7),(AN cs).v 8]=cs:=u
  rw[p];refine tA o.e (aA ?_);rw[A2 (by omega) (by omega),show(d:Int)+1=((d+1:Nat):Int) by omega,q27,FG k x (d+1) cs f.1 (by omega) o,xA];refine cC ?_;unfold jZ
  cases J:qJ x (d+1)with
  | false=>
   grind [iA]
  | true=>
   refine wB (by simp) (sC ?_);rw[A2 (by omega) (by omega),show(i:Int)+1=((i+1:Nat):Int) by omega];have:=TU k l args d c (i+1) g C f.2 j q
   simp_all
end
end
section
variable [fC]
def Wr (s T a:List Nat):Prop:=a=s++T\/(65536<s.length+T.length/\65536<a.length)
theorem Wr.b(s T:List Nat):Wr s T (s++T):=.inl rfl
def Wr.d{s:List Nat}(T:List Nat)(h:65536<s.length):Wr s T s:=.inr ⟨by omega,h⟩
def Wr.a{s T c U d:List Nat}(h:Wr s T c)(k:Wr c U d):Wr s (T++U) d:=by
 rcases h with rfl | ⟨e,f⟩
 .rcases k with rfl | ⟨b,a⟩
  .exact .inl (by simp)
  .exact .inr ⟨by simp at b ⊢;omega,a⟩
 .rcases k with rfl | ⟨b,a⟩
  .exact .inr ⟨by simp;omega,by simp;omega⟩
  .exact .inr ⟨by simp;omega,a⟩
def Wr.c{s T a b:List Nat}(h:Wr s T b)(e:T=a):Wr s a b:=e ▸ h
def zn2{l:List (Nat × List Nat)}{i:Nat}(h:i<l.length):wW (decide (i=0)) (l.drop i)=(if i=0 then []else [44,32])++l[i].2++wW (decide (i+1=0)) (l.drop (i+1)):=by
 rw[F8 h,wW];by_cases a:i=0<;>simp[a]
end
section
variable {b from_ i k:Nat}{d:Int}{l:List Nat}
variable [fC]
variable {t:G uA}
def Lc:List Int:=[31,28,31,30,31,30,31,31,30,31,30,31]
def cM(t:G uA):Prop:=At t 3 0 (Lc.map λn=>O.e .i64 n)
theorem cM.a{t':G uA}(h:cM t)(k:zB t t'):cM t':=At.f k h
def VJ(x:Int) (b:0<k) : -(k:Int)<Int.tmod x k/\Int.tmod x k<k:=by
 have h:=Int.natAbs_tmod x k;have a:=G3 x.natAbs (show 0<(k:Int).natAbs by omega);omega
def tu(y:Int):Bool:=decide (Int.tmod y 4=0)&&(!decide (Int.tmod y 100=0)||decide (Int.tmod y 400=0))
def fw (y m:Int):Int:=if m<1 then 0 else if 12<m then 0 else if m=2/\tu y=true then 29 else Lc.getD (m-1).toNat 0
def zh(y:Int):Int:=cA .i64 ((cA .i64 ((cA .i64 (Int.tdiv y 4))-(cA .i64 (Int.tdiv y 100))))+(cA .i64 (Int.tdiv y 400)))
def Wa(c d:Int):Nat->Int->Int->Int
 | 0,_,a=>a
 | k+1,b,a=>if b<=Int.tmod c 12 then Wa c d k (b+1) (cA .i64 (a+fw d b))else a
def Cl(m:Int):Int:=Wa m (cA .i64 (1900+(cA .i64 (Int.tdiv m 12)))) 11 1 (cA .i64 ((cA .i64 ((cA .i64 (365*(cA .i64 ((cA .i64 (1900+(cA .i64 (Int.tdiv m 12))))-1900))))+zh (cA .i64 ((cA .i64 (1900+(cA .i64 (Int.tdiv m 12))))-1))))-zh 1899))
def Hf(P:Int->Bool):Nat->Nat->Nat->Int
 | 0,i,_=>(i:Int)
 | k+1,i,j=>if i<j then(if P (((i+j) / 2:Nat):Int)=true then Hf P k i ((i+j) / 2)else Hf P k ((i+j) / 2+1) j)else(i:Int)
def znr(y:Int):oB Y F 271 [.e .i64 y] t=some (.d (tu y)):=by
 refine lC.2 (w271 ?_);unfold t271 tu rB xH;grind [iA,uF]
def jf(c:cM t){m:Int}(g:1<=m)(h:m<=12):∃b o,zC Y 304 (.j 3 0) (.e .i64 (cA .i64 (m-1)))=some (.j b o)/\oA Y 3 ⟨0,t⟩ (.j b o)=some (.e .i64 (Lc.getD (m-1).toNat 0)):=by
 obtain⟨k,rfl⟩:∃k:Nat,m=(k:Int)+1:=⟨(m-1).toNat,by omega⟩;have d:k<12:=by omega
 have a:((k:Int)+1-1).toNat=k:=by omega
 rw[A2 (by omega) (by omega),a,show(k:Int)+1-1=(k:Int) by omega];have f:(Lc.map λn=>O.e .i64 n)[k]?=some (.e .i64 (Lc.getD k 0)):=by
  have:k<Lc.length:=d
  simp_all
 refine⟨3,0+k,?_,c.d cL rfl f⟩;unfold zC;rw[W8,lA];have e:(O.e .i64 (k:Int)).aj=some k:=rfl;rw[e,lA];grind [O.u,O.ah,lA,jE.g,cL,eC,xE]
def XT(g:cM t)(y m:Int):oB Y F 244 [.e .i64 y,.e .i64 m] t=some (.e .i64 (fw y m)):=by
 refine lC.2 (w244 ?_);unfold t244 fw J7 uI uB V uW;by_cases a:m<1
 .rw[A5 a];exact tA (iK a) ⟨rfl,rfl⟩
 rw[A3 a];refine wB (dK a) ?_;by_cases c:12<m
 .rw[A5 c];exact tA (iK c) ⟨rfl,rfl⟩
 rw[A3 c];refine wB (dK c) ?_;obtain⟨b,o,e,f⟩:=jf g (m:=m) (by omega) (by omega);by_cases d:m=2
 .refine tA (wS d) (aA ?_);rw[q271,znr,xA];refine cC ?_
  cases h:tu y with
  | true=>rw[A5 ⟨d,rfl⟩];exact tA rfl ⟨rfl,rfl⟩
  | false=>rw[A3 (by simp)];exact wB (by simp) (vA e (iB f (tB ⟨rfl,rfl⟩)))
 .rw[A3 (by simp[d])];exact wB (lM d) (vA e (iB f (tB ⟨rfl,rfl⟩)))
def zas(h:cM t)(c e:Int):∀(k:Nat) (a d:Int),a+k=12->1<=a->jp 189 2 [.e .i64 c,.e .i64 e,.e .i64 d,.e .i64 a] t (λv t'=>v=.e .i64 (Wa c e k a d)/\t'=t):=by
 have i:=VJ c (k:=12) (by omega);rw[show((12:Nat):Int)=12 from rfl]at i
 intro k;induction k with
 | zero=>
  intro a d f g;exact Tc (wB (V0 (by omega)) ⟨rfl,rfl⟩)
 | succ k j=>
  intro a d f g;unfold Wa;by_cases b:a<=Int.tmod c 12
  .rw[A5 b];refine Tc (tA (V1 b) (aA ?_));rw[q244,XT h,xA];refine tB (sC ?_)
   grind [A2]
  .rw[A3 b];exact Tc (wB (V0 b) ⟨rfl,rfl⟩)
def NK(y:Int):oB Y F 243 [.e .i64 y] t=some (.e .i64 (zh y)):=lC.2 (w243 ⟨rfl,rfl⟩)
def JC(a:cM t)(m:Int):oB Y F 189 [.e .i64 m] t=some (.e .i64 (Cl m)):=by
 refine lC.2 (w189 (aA ?_));rw[q243,NK,xA];refine tB (aA ?_);rw[q243,NK,xA];exact tB (sC (zas a m _ 11 1 _ (by omega) (by omega)))
def WO{e:O}{P:Int->Bool}(a:∀n:Int,∀(R:mB),R (.d (P n)) t->oD (eM e [.e .i64 n]) λp=>Wq Y F dC p.1 p.2 t R) :
  ∀(k i j:Nat),j-i<=k->j<=100000->jp 241 2 [e,.e .i64 (i:Int),.e .i64 (j:Int)] t (λv t'=>v=.e .i64 (Hf P k i j)/\t'=t):=by
 intro k;induction k with
 | zero=>
  intro i j g b;exact yv (wB (dK (by omega)) ⟨rfl,rfl⟩)
 | succ k d=>
  intro i j g b;unfold Hf;by_cases c:i<j
  .have f:cA .i64 (Int.fdiv (cA .u64 (cA .i64 ((i:Int)+(j:Int)))) 2)=(((i+j) / 2:Nat):Int):=by
    grind [A2,gG]
   rw[A5 c];refine yv (tA (iK (by omega)) ?_);show oD _ _;unfold V uW;rw[f];refine a _ _ (cC ?_)
   cases h:P (((i+j) / 2:Nat):Int)with
   | false=>
    rw[A3 (by simp)];refine tA rfl (sC ?_);rw[A2 (by omega) (by omega),show(((i+j) / 2:Nat):Int)+1=(((i+j) / 2+1:Nat):Int) by omega];exact d _ _ (by omega) b
   | true=>
    rw[A5 rfl];exact wB (by simp) (sC (d _ _ (by omega) (by omega)))
  .rw[A3 c];exact yv (wB (dK (by omega)) ⟨rfl,rfl⟩)
def fV(d:Int):Int:=Hf (λn=>fB d (Cl (cA .i64 (n+1)))) 2154 0 2154
def zbe(h:cM t)(d:Int):oB Y F 188 [.e .i64 d] t=some (.e .i64 (fV d)):=by
 refine mV (w188 ?_);unfold t188 uI V;refine jC λb k g=>?_;obtain⟨f,e,l,c,_⟩:=Ep k [.e .i64 d] none;refine⟨.j b 0,⟨b+1,f⟩,by show some (O.j b 0,sG ⟨b,t⟩ [.e .i64 d] none)=_;rw[e],aA ?_⟩;have a:oA Y 3 ⟨0,f⟩ (.j b 0)=some (.e .i64 d):=l.f (j:=0) cL rfl rfl;have:oB Y F 241 [.e .i64 2154,.q (.aa 242) [] [.j b 0]] f=some (.e .i64 (fV d)):=by
  refine lC.2 (w241 (sC ?_));refine WO (λn R i=>?_) 2154 0 2154 (by omega) (by omega);show oD (some (242,[O.e .i64 n,.j b 0])) _;rw[xA];simp only[];have:oB Y F 242 [O.e .i64 n,.j b 0] f=some (.d (fB d (Cl (cA .i64 (n+1))))):=by
   refine lC.2 (w242 (iB a (tB (aA ?_))));unfold uC;rw[q189,JC (h.a c),xA];exact tB (iB a (tA Hh ⟨rfl,rfl⟩))
  rw[q242,this,xA];exact i
 rw[q241];exact ph this (tB ⟨rfl,c⟩)
def oc (d:Int):O:=.p [.e .i64 (cA .i64 (1900+(cA .i64 (Int.tdiv (fV d) 12)))),.e .i64 (cA .i64 ((Int.tmod (fV d) 12)+1)),.e .i64 (cA .i64 ((cA .i64 (d-Cl (fV d)))+1)),.e .i64 0]
def jg(a:cM t) (b:0<=d)(c:d<65536):oB Y F 135 [.e .i64 d] t=some (oc d):=by
 have e:oB Y F 187 [.e .i64 d] t=some (.d true):=by
  refine lC.2 (w187 (tA (V1 b) ?_));rw[iK c];exact⟨rfl,rfl⟩
 refine lC.2 (w135 (aA ?_));rw[q187,e,xA];refine cC (wB (by simp) (aA ?_));rw[q188,zbe a,xA];refine tB (aA ?_);rw[q189,JC a,xA];exact tB ⟨rfl,rfl⟩
def cB (l:List Nat):List O:=l.map fun(n:Nat)=>O.e .u8 (n:Int)
theorem zi (h:l.length=10):∃a b c d e f g h i j,l=[a,b,c,d,e,f,g,h,i,j]:=by
 match l,h with
 | [a,b,c,d,e,f,g,h,i,j],_=>simp_all
theorem Pg  : (cB l).length=l.length:=by simp[cB]
def jh {x:Nat}:(cB l).set i (.e .u8 (x:Int))=cB (l.set i x):=by simp[cB,List.map_set]
def ji (h:i<10):zC Y 209 (.j b 0) (.e .i64 (i:Int))=some (.j b i):=by
 unfold zC;rw[Qw,lA];have e:(O.e .i64 (i:Int)).aj=some i:=rfl;rw[e,lA];grind [O.u,O.ah,lA,jE.g,M7,eC,xE]
def Zt  (h:xC t b none (cB l))(a:l.length=10):oA Y 209 ⟨0,t⟩ (.j b 0)=some (.i (cB l)):=by
 have:=h.p.e (C:=Y) (ty:=209) Qw rfl (n:=10) rfl (j:=0) (by rw[Pg];omega);rw[D8]at this;rw[this];congr 2;rw[H6,L8 (by rw[Pg];omega)]
def TA {m:List Nat}(h:xC t b none (cB l))(g:Y.a<=b)(o:l.length=10)(i:m.length=10):∃t',(∀n,mC Y 209 (.j b 0) (.i (cB m)) ⟨n,t⟩=some (aD,⟨n,t'⟩))/\xC t' b none (cB m)/\jF b t t':=by
 obtain⟨t',d,k,f⟩:=h.m (C:=Y) g (T:=209) (v:=.i (cB m)) (j:=0) Qw (by show(cB m).length=10;rw[Pg,i]) (by show 0+(cB m).length<=_;grind [Pg]) (by
  show nD O.z (cB m)=true;rw[gI,C8];intro a c;unfold cB at c;obtain⟨n,_,rfl⟩:=G6.1 c;rfl)
 refine⟨t',d,?_,f⟩;have e:jJ (cB l) 0 (O.i (cB m)).s=cB m:=by
  show jJ (cB l) 0 (cB m)=cB m;unfold jJ;rw[List.take_zero,F3,F1 (by grind [Pg]),Do]
 simp_all
abbrev z10:List O:=[.e .u8 0,.e .u8 0,.e .u8 0,.e .u8 0,.e .u8 0,.e .u8 0,.e .u8 0,.e .u8 0,.e .u8 0,.e .u8 0]
def Uo (k:l.length=10):mK z10 (.i (cB l))=some (AN (cB l)):=by
 obtain⟨a,b,c,d,e,f,g,h,i,j,rfl⟩:=zi k;exact aQ rfl
def GR (k:l.length=10):[O.e .u8 ((AN (cB l)).i 0),.e .u8 ((AN (cB l)).i 1),.e .u8 ((AN (cB l)).i 2),.e .u8 ((AN (cB l)).i 3),.e .u8 ((AN (cB l)).i 4),.e .u8 ((AN (cB l)).i 5),.e .u8 ((AN (cB l)).i 6),.e .u8 ((AN (cB l)).i 7),.e .u8 ((AN (cB l)).i 8),.e .u8 ((AN (cB l)).i 9)]=cB l:=by
 obtain⟨a,b,c,d,e,f,g,h,i,j,rfl⟩:=zi k;rfl
def Dc (x:Int):Nat:=(48+Int.tmod x 10).toNat
theorem zjp(x:Int):cA .u8 (cA .i64 (48+Int.tmod x 10))=((Dc x:Nat):Int)/\Dc x<256:=by
 grind [Dc,A2,Mi]
def G9:Nat->Int->Nat->List Nat->List Nat
 | 0,_,_,l=>l
 | k+1,x,i,l=>G9 k (cA .i64 (Int.tdiv x 10)) (i-1) (l.set i (Dc x))
theorem Jj:∀(k:Nat) (x:Int) (i:Nat) (l:List Nat),pB 256 l->(G9 k x i l).length=l.length/\pB 256 (G9 k x i l)
 | 0,x,i,l,h=>⟨rfl,h⟩
 | k+1,x,i,l,h=>by
  unfold G9;have:=Jj k (cA .i64 (Int.tdiv x 10)) (i-1) (l.set i (Dc x)) (λy b=>by
   rcases List.mem_or_eq_of_mem_set b with a | a
   .exact h y a
   simp_all [zjp])
  simp_all
def UP (u:Y.a<=b){c0 c1 c2 c3 c4 c5 c6 c7 c8 c9:Int}:∀(k:Nat) (from_:Nat) (x:Int) (i:Int) (l:List Nat) (t:G uA),i+1=(from_:Int)+k->from_+k<=10->l.length=10->xC t b none (cB l) →
  jp 136 2 [.e .i64 (from_:Int),.e .i64 x,.j b 0,.e .i64 i,.e .u8 c0,.e .u8 c1,.e .u8 c2,.e .u8 c3,.e .u8 c4,.e .u8 c5,.e .u8 c6,.e .u8 c7,.e .u8 c8,.e .u8 c9] t (λv t'=>v=.i (cB (G9 k x i.toNat l))/\jF b t t'):=by
 intro k;induction k with
 | zero=>
  intro from_ x i l t r s a d;refine zsg (wB (V0 (by omega)) (iB (Zt d a) (aC (Uo a) (tA rfl ?_))));show O.i _=_/\_;rw[GR a];exact⟨rfl,λ_ _=>rfl⟩
 | succ k w=>
  intro from_ x i l t r s a d;obtain⟨n,rfl⟩:∃n:Nat,i=(n:Int):=⟨i.toNat,by omega⟩;refine zsg (tA (V1 (by omega)) (vA (ji (by omega)) (jC λm _ _=>?_)));rw[(zjp x).1];obtain⟨t',p,e,q⟩:=d.g (v:=.e .u8 ((Dc x:Nat):Int)) u M7 rfl rfl rfl (j:=n) (by rw[Pg];omega);refine⟨_,_,p m,sC ?_⟩;rw[jh]at e;unfold uW;rw[A2 (n:=(n:Int)-1) (by omega) (by omega)];have:=w from_ (cA .i64 (Int.tdiv x 10)) ((n:Int)-1) (l.set n (Dc x)) t' (by omega) (by omega) (by simp_all) e
  refine Jq.a this λv y g=>⟨?_,λc f=>by rw[g.2 c f,q c f]⟩;rw[g.1];have h:((n:Int)-1).toNat=n-1:=by omega
  have o:((n:Int)).toNat=n:=by omega
  rw[h,o];rfl
def UO (r:l.length=10) (z:from_+k<=10)(C:1<=from_+k)(x:Int):oB Y F 136 [.i (cB l),.e .i64 (from_:Int),.e .i64 (k:Int),.e .i64 x] t=some (.i (cB (G9 k x (from_+k-1) l))):=by
 obtain⟨a,b,c,d,e,f,g,h,i,j,rfl⟩:=zi r;refine mV ?_;show Wf 136 [.i [.e .u8 a,.e .u8 b,.e .u8 c,.e .u8 d,.e .u8 e,.e .u8 f,.e .u8 g,.e .u8 h,.e .u8 i,.e .u8 j],.e .i64 (from_:Int),.e .i64 (k:Int),.e .i64 x] t _;refine w136 ?_;unfold t136 V uY uW;refine jC λn A m=>?_;obtain⟨s,u,w,o,D⟩:=Ep A (cB [a,b,c,d,e,f,g,h,i,j]) none;refine⟨.j n 0,⟨n+1,s⟩,by show some (O.j n 0,sG ⟨n,t⟩ (cB [a,b,c,d,e,f,g,h,i,j]) none)=_;rw[u],sC ?_⟩
 rw[A2 (n:=(from_:Int)+(k:Int)) (by omega) (by omega),A2 (by omega) (by omega)];have:=UP (c0:=0) (c1:=0) (c2:=0) (c3:=0) (c4:=0) (c5:=0) (c6:=0) (c7:=0) (c8:=0) (c9:=0) m k from_ x ((from_:Int)+(k:Int)-1) _ s (by omega) z r w;refine Jq.a this λv E q=>⟨?_,λp y B=>?_⟩
 .rw[q.1,show((from_:Int)+(k:Int)-1).toNat=from_+k-1 by omega]
 .have:p≠n:=λe=>by simp_all
  rw[q.2 p this];exact o _ _ B
def Fw (d:Int):List Nat:=
 G9 2 (cA .i64 ((cA .i64 (d-Cl (fV d)))+1)) 9 (G9 2 (cA .i64 ((Int.tmod (fV d) 12)+1)) 6 (G9 4 (cA .i64 (1900+(cA .i64 (Int.tdiv (fV d) 12)))) 3 [0,0,0,0,45,0,0,45,0,0]))
theorem zpm(d:Int):(Fw d).length=10/\pB 256 (Fw d):=by
 have a:pB 256 [0,0,0,0,45,0,0,45,0,0]:=by intro x e;simp at e;omega
 have b:=Jj 4 (cA .i64 (1900+(cA .i64 (Int.tdiv (fV d) 12)))) 3 _ a;have c:=Jj 2 (cA .i64 ((Int.tmod (fV d) 12)+1)) 6 _ b.2;have f:=Jj 2 (cA .i64 ((cA .i64 (d-Cl (fV d)))+1)) 9 _ c.2
 simp_all [Fw]
def zj{K:O->T}{Q:mB} {p:Nat}{x:Int}(b:l.length=10)(c:pB 256 l)(q:Y.a<=p)(j:xC t p none (cB l))(o:from_+k<=10)(i:1<=from_+k)
  (h:∀t',xC t' p none (cB (G9 k x (from_+k-1) l))->jF p t t'->∀u,wp 74 (K u) t' Q) :
  wp 74 (.c 136 [.i [(.e .u8 ((AN (cB l)).i 0)),(.e .u8 ((AN (cB l)).i 1)),(.e .u8 ((AN (cB l)).i 2)),(.e .u8 ((AN (cB l)).i 3)),(.e .u8 ((AN (cB l)).i 4)),(.e .u8 ((AN (cB l)).i 5)),(.e .u8 ((AN (cB l)).i 6)),(.e .u8 ((AN (cB l)).i 7)),(.e .u8 ((AN (cB l)).i 8)),(.e .u8 ((AN (cB l)).i 9))],.e .i64 (from_:Int),.e .i64 (k:Int),.e .i64 x] λa=>.o z10 a λX=>
   .h (mC Y 209 (.j p 0) (.i [(.e .u8 (X.i 0)),(.e .u8 (X.i 1)),(.e .u8 (X.i 2)),(.e .u8 (X.i 3)),(.e .u8 (X.i 4)),(.e .u8 (X.i 5)),(.e .u8 (X.i 6)),(.e .u8 (X.i 7)),(.e .u8 (X.i 8)),(.e .u8 (X.i 9))])) K) t Q:=by
 have d:=Jj k x (from_+k-1) l c;refine aA ?_;rw[GR b,q136,UO b o i,xA];refine aC (Uo (by rw[d.1,b])) (jC λn _ _=>?_);rw[GR (by rw[d.1,b])];obtain⟨t',e,f,g⟩:=TA j q b (m:=G9 k x (from_+k-1) l) (by rw[d.1,b]);exact⟨_,_,e n,h t' f g _⟩
def zs8(I:cM t) (E:0<=d)(H:d<65536):oB Y F 74 [.e .i64 d] t=some (.h (Fw d)):=by
 refine mV (w74 ?_);unfold t74 uI uS uG uX V uY U7;refine aA ?_;rw[q135,jg I E H,xA];unfold oc;refine vA rfl (tB (vA rfl (tB (vA rfl (tB (vA rfl (tB (wB (by grind [wS]) (tA rfl ?_)))))))));refine jC λp K a=>?_;obtain⟨W,B,z,Q,Z⟩:=yQ (C:=Y) Qw K;refine⟨_,_,B,?_⟩;have q:xC W p none (cB [0,0,0,0,0,0,0,0,0,0]):=z;refine jC λn _ _=>?_;obtain⟨t2,D,s,R⟩:=TA q a rfl (m:=[0,0,0,0,45,0,0,45,0,0]) rfl;refine⟨_,_,D n,?_⟩
 have i:pB 256 [0,0,0,0,45,0,0,45,0,0]:=by intro x N;simp at N;omega
 refine iB (Zt s rfl) (aC (Uo rfl) ?_);refine zj (from_:=0) (k:=4) rfl i a s (by omega) (by omega) λt3 u S _=>?_;have f:=Jj 4 (cA .i64 (1900+(cA .i64 (Int.tdiv (fV d) 12)))) 3 _ i;refine iB (Zt u f.1) (aC (Uo f.1) ?_);refine zj (from_:=5) (k:=2) f.1 f.2 a u (by omega) (by omega) λt4 v T _=>?_;have l:=Jj 2 (cA .i64 ((Int.tmod (fV d) 12)+1)) 6 _ f.2;rw[f.1]at l;refine iB (Zt v l.1) (aC (Uo l.1) ?_)
 refine zj (from_:=8) (k:=2) l.1 l.2 a v (by omega) (by omega) λo A U _=>?_;have w:=zpm d;have h:xC o p none (cB (Fw d)):=A;have L:aF Y 209 ⟨0,o⟩ (.j p 0) none none=some (.m p 0 10 10):=by
  obtain⟨c,g,_⟩:=h;have J:eD ⟨0,o⟩ p=some (c,(cB (Fw d)).length,none):=by unfold eD;rw[g];rfl
  unfold aF;rw[Qw,lA];unfold gP;simp only[O.w,O.u,O.ah,jE.g,lA];unfold oS;rw[M7,lA];have r:xT 10 10 none none=some (0,10):=rfl;rw[r,lA];unfold iP mQ;rw[J];rfl
 have M:rS Y 96 9 ⟨0,o⟩ (.m p 0 10 10)=some (.h (Fw d)):=zb8 sY iI rfl rfl rfl M7 rfl h w.1 (λj x X=>by
  grind [cB]) w.2
 refine iB L (iB M (gC ⟨rfl,λb y P=>?_⟩));have:b≠p:=λe=>by simp_all
 rw[U b this,T b this,S b this,R b this];exact Q _ _ P
end
section
mutual
def pA.a:pA->Prop
 | .mk _ _ v args=>(v.f.n.a.length<300000/\v.f.d.a.length<300000)/\args.length<300000/\pA.c args
def pA.c:List pA->Prop
 | []=>True
 | x::l=>pA.a x/\pA.c l
end
structure uD.g (p:uD):Prop where
 d:p.c.length<300000
 b:p.a.length<300000
 a:p.b.length<300000
 e:∀x∈p.a,x.a.length<300000/\∀r∈x.a,r.f.n.a.length<300000/\r.f.d.a.length<300000
 c:∀x∈p.b,pA.a x.a/\pA.a x.b
def qF.e(f:qF):Prop:=f.n.a.length<300000/\f.d.a.length<300000
def NE (tk:List xD)(a b:Nat):Prop:=∀j,a<=j->j<b->cK tk 5 j=false
theorem NE.c{tk:List xD}{a:Nat}:NE tk a a:=λj b c=>by omega
structure VP where
 c:List xD
 a:List xD
 d:Nat
 k:Nat
 b:Prop
 dp:Prop
 e:Nat:=0
abbrev qk:List (List Nat):=[[41],Jl]
structure VW (S:VP):Prop where
 acc:∀i,S.e<=i->i<S.k->∀w,Proofs.B0 S.a w (i+S.d)=Proofs.B0 S.c w i
 kind:∀i,S.e<=i->i<S.k->∀q,cK S.a q (i+S.d)=cK S.c q i
 text:∀i,S.e<=i->i<S.k->yN S.a (i+S.d)=yN S.c i
 qacc:∀w,w∉qk->Proofs.B0 S.a w (S.k+S.d)=false
 a:∀q,q=2\/q=3->cK S.a q (S.k+S.d)=false
 b:pU S.a (S.k+S.d)=false
 full:S.b->¬ S.dp/\(∀w,Proofs.B0 S.a w (S.k+S.d)=false)/\∀q,q≠5->cK S.a q (S.k+S.d)=false
 good:∀x∈S.c,qY x
def RRk {a:Type}(j:Nat)(r:PR a):Prop:=match r with | .ok _ n=>n=j | .er e i=>i=j/\(e=120\/e=122)
def MO {c:Type}(S:VP)(V:c->Prop)(n:Nat)(r:PR c):Prop:=
 match r with | .ok a b=>n<=b/\NE S.c n b/\V a | .er e i=>n<=i/\NE S.c n i/\(e=120\/e=121\/e=122)
structure RA {α:Type} (S:VP) (V:α->Prop) (n:Nat) (r r2:PR α):Prop where
 mo:MO S V n r
 ok:n<=S.k->∀a n',r=.ok a n'->n'<=S.k->r2=.ok a (n'+S.d)\/(S.dp/\∃i,r2=.er 122 i)
 er:n<=S.k->S.b->∀e,r=.er e S.k->RRk (S.k+S.d) r2
structure Rel {α:Type} (S:VP) (H:Prop) (V:α->Prop) (f f2:PM α):Prop where
 ra:H->∀n,S.e<=n->RA S V n (f n) (f2 (n+S.d))
 rr:S.b->RRk (S.k+S.d) (f2 (S.k+S.d))
section
variable {S:VP}{H:Prop}{a c:Type}{V:a->Prop}{W:c->Prop}{n:Nat}
theorem RA.fail{e:Nat}(a:e=120\/e=122):RA S V n (.er e n) (.er e (n+S.d)):=
 ⟨⟨B4 _,NE.c,by omega⟩,λ_ b m e _=>(by cases e),λ_ _ c h=>by cases h;exact⟨rfl,a⟩⟩
end
section
variable {S:VP}{H:Prop}{n:Nat}
theorem XY{tk:List xD}{q n:Nat}(b:∀x∈tk,qY x)(h:cK tk q n=true):q=2->bT (yN tk n):=by
 rintro rfl;unfold cK at h;unfold yN
 cases a:tk[n]? with
 | none=>rw[a]at h;cases h
 | some t=>rw[a]at h;exact(b t (Q5 a)).1 (of_decide_eq_true h)
end
end
section
variable {p:Nat->Bool}{r s:List Nat}{b n:Nat}
def Hd(r:List Nat):Prop:=∀c a,r=c::a->c=10\/c=32\/c=40\/c=41\/c=44
def CC  (d:∀c b,r=c::b->p c=false):∀s:List Nat,eE p (s++r)=eE p s:=by
 intro s;unfold eE;induction s with
 | nil=>
  cases r with
  | nil=>rfl
  | cons c r=>simp_all
 | cons x s a=>rw[List.cons_append,List.takeWhile_cons,List.takeWhile_cons,a]
def zk  (b:Hd r)(h:(p 10||(p 32||(p 40||(p 41||p 44))))=false):∀c a,r=c::a->p c=false:=by
 intro c a e;simp only[Z7]at h;rcases b c a e with rfl | rfl | rfl | rfl | rfl<;>simp only[h]
theorem zq3 (s:List Nat):(eE p s).length<=s.length:=(List.takeWhile_sublist p).length_le
def zb5 (d:Hd r):wK (s++r)=wK s:=by
 by_cases h:10<=s.length
 .unfold wK;have e:∀i∈List.range 10,vM i ((s++r).getD i 0)=vM i (s.getD i 0):=λi b=>by
   rw[List.mem_range]at b;rw[List.getD_eq_getElem?_getD,List.getD_eq_getElem?_getD,mg (by omega)]
  rw[show(List.range 10).all (λi=>vM i ((s++r).getD i 0))=(List.range 10).all (λi=>vM i (s.getD i 0)) from by
   grind]
  rw[decide_eq_true h,decide_eq_true (by grind)]
 .have a:wK s=false:=by grind [wK]
  rw[a];refine MI (i:=s.length) (by omega) ?_;rw[List.getD_eq_getElem?_getD,T9 (B4 _),Nat.sub_self]
  cases r with
  | nil=>unfold vM;split<;>rfl
  | cons c r=>
   rcases d c r rfl with rfl | rfl | rfl | rfl | rfl <;> (unfold vM;split<;>rfl)
theorem QF (a:Hd r) (b:n<=s.length):mU (s++r) n=mU s n:=by
 unfold mU;by_cases h:n<s.length
 .rw[mg h]
 .have:n=s.length:=by omega
  subst this;rw[T9 (B4 _),Nat.sub_self,List.getElem?_eq_none (B4 _)]
  cases r with
  | nil=>rfl
  | cons c r=>rcases a c r rfl with rfl | rfl | rfl | rfl | rfl<;>rfl
def FA (a:Hd r):nE (s++r)=nE s:=CC (zk a rfl) s
theorem zkr (a:Hd r) (b:n<=s.length):((s++r)[n]?=some 47) ↔ s[n]?=some 47:=by
 by_cases h:n<s.length
 .rw[mg h]
 .have:n=s.length:=by omega
  subst this;rw[T9 (B4 _),Nat.sub_self,List.getElem?_eq_none (B4 _)]
  cases r with
  | nil=>simp
  | cons c r=>rcases a c r rfl with rfl | rfl | rfl | rfl | rfl<;>simp
def JR (a:Hd r):sH (s++r)=sH s:=by
 unfold sH;rw[FA a];have b:(nE s).length<=s.length:=zq3 s;by_cases h:s[(nE s).length]?=some 47
 .rw[A5 ((zkr a b).2 h),A5 h];have:(nE s).length<s.length:=(G1.1 h).1;rw[List.drop_append_of_le_length (by omega)];exact CC (zk a rfl) _
 grind [zkr]
theorem zfq (h:sH s≠[]):s[(nE s).length]?=some 47/\sH s=eE fD (s.drop ((nE s).length+1)):=by
 grind [sH]
theorem MF(s:List Nat):vH s<=s.length:=by
 grind [nE,zq3,vH,zfq]
theorem zlk  (a:Hd r):fE ((b::s)++r)=fE (b::s):=by
 have d:=CC (p:=lL) (zk a rfl) (b::s);have e:=zb5 (s:=b::s) a;have c:vH ((b::s)++r)=vH (b::s):=by unfold vH;rw[JR a,FA a]
 have f:mM ((b::s)++r)=mM (b::s):=by unfold mM;rw[c,QF a (MF _),JR a,FA a]
 show(if bN b=true then _ else _)=if bN b=true then _ else _;show(if bN b=true then(if 24<(eE lL ((b::s)++r)).length then TR.ac 111 else .aa 1 (eE lL ((b::s)++r)))else if (fD b&&wK ((b::s)++r))=true then(if zT ((b::s)++r)=true then .ac 113 else .aa 3 (((b::s)++r).take 10))else if fD b=true then(if mM ((b::s)++r)=true then .ac 112 else .aa 2 (((b::s)++r).take (vH ((b::s)++r))))else if Ie b=true then .aa 4 [b]else .ac 110)=_
 grind [MF,wK,zT,QF,mU]
def zlm  {k:Nat}{w:List Nat}(h:fE (b::r)=.aa k w):b≠10/\b≠32/\b≠9/\b≠35:=by
 refine⟨?_,?_,?_,?_⟩ <;> (rintro rfl;simp_all [fE,bN,fD,Ie])
end
section
variable {r s:List Nat}{o:Bool}{b:Nat}
abbrev pD:=Nat × List Nat
def kt (t:xD):pD:=(t.b,t.a)
def ma:LR->Option (List pD)
 | .ok l=>some (l.map kt)
 | .er _ _ _=>none
def gS:Nat->List Nat->Bool->Option (List pD)
 | 0,_,_=>some []
 | _+1,[],o=>some (if o=true then [(5,[])]else [])
 | k+1,b::r,o=>
  if b=10 then(gS k r false).map λl=>if o=true then(5,[])::l else l
  else if b=32\/b=9 then gS k r o
  else if b=35 then gS k ((b::r).drop (eE (λx=>decide (x≠10)) (b::r)).length) o
  else match fE (b::r)with
   | .ac _=>none
   | .aa a w=>(gS k ((b::r).drop w.length) true).map λl=>(a,w)::l
def zv0:∀(k:Nat) (s:List Nat) (c cl:Nat) (op:Option (Nat × Nat)),ma (uP k s c cl op)=gS k s op.isSome:=by
 have cons:∀(t:xD) (r:LR),ma (r.d t)=(ma r).map λl=>kt t::l:=λt r=>by cases r<;>rfl
 have a:∀(op:Option (Nat × Nat)) (r:LR),ma (LR.c op r)=(ma r).map λl=>if op.isSome=true then(5,[])::l else l:=λop r=>by
  cases op with
  | none=>cases r<;>rfl
  | some p=>exact cons _ r
 intro k;induction k with
 | zero=>intro s c cl op;rfl
 | succ k d=>
  intro s c cl op
  cases s with
  | nil=>rw[uP,a];rfl
  | cons b r=>
   rw[uP,gS];split
   .simp_all
   split
   .simp_all
   split
   .simp_all
   .cases fE (b::r)with
    | ac e=>rfl
    | aa f w=>exact(cons _ _).trans (by rw[d];rfl)
def zhm:∀(k k':Nat) (s:List Nat) (o:Bool),s.length<k->s.length<k'->gS k s o=gS k' s o:=by
 intro k;induction k with
 | zero=>omega
 | succ k c=>
  intro k' s o h a;obtain⟨k',rfl⟩:∃m,k'=m+1:=⟨k'-1,by omega⟩
  cases s with
  | nil=>rfl
  | cons b r=>
   simp only[D6]at h a;rw[gS,gS];split
   .rw[c k' r false (by omega) (by omega)]
   split
   all_goals grind [eE,List.takeWhile_cons,AW]
def iS (s:List Nat)(o:Bool):Option (List pD):=gS (s.length+1) s o
def zhk{k:Nat}  (h:s.length<k):gS k s o=iS s o:=zhm _ _ _ _ h (by omega)
def zvx   : iS (10::r) o=(iS r false).map λl=>if o=true then(5,[])::l else l:=by
 grind [iS,gS]
def zhl   (h:b=32\/b=9):iS (b::r) o=iS r o:=by
 grind [iS,gS]
theorem NC {w:List Nat}{a:Nat} (h:fE (b::r)=.aa a w):iS (b::r) o=(iS ((b::r).drop w.length) true).map λl=>(a,w)::l:=by
 obtain⟨c,e,f,d⟩:=zlm h;have:=(AW h).1;rw[<- zhk (k:=(b::r).length+1) (by omega),gS,A3 c,A3 (by omega),A3 d,h];show(gS _ _ true).map _=_;rw[zhk (by grind)]
def zvz(s:List Nat):ma (Hy s)=iS s false:=zv0 _ _ _ _ _
def zvy {l:List pD}(h:iS s false=some l):∃m,Hy s=.ok m/\m.map kt=l:=by
 have e:=zvz s;rw[h]at e
 cases d:Hy s with
 | ok m=>rw[d]at e;exact⟨m,rfl,D9 e⟩
 | er a b c=>rw[d]at e;cases e
end
section
section
variable {S:VP}{H:Prop}{n:Nat}{o g:PM pA}
def PR.d{d g:Type}{r:PR d}{f:d->Nat->PR g}{b:g}{n:Nat}(h:r.c f=.ok b n):∃a c,r=.ok a c/\f a c=.ok b n:=by
 cases r with
 | ok a c=>exact⟨a,c,rfl,h⟩
 | er e i=>cases h
def Y1(tk:List xD)(e:PM pA)(f:CF):PM pA:=λn=>(mE tk [40] n).c λ_ d=>
  (if f.b then(mL tk d).c λw a=>(mE tk [44] a).c λ_ b=>.ok w b else .ok [] d:PR (List Nat)).c λw a=>
  (e a).c λx b=>(fY tk e (f.a-1) [x] b).c λl h=>(jT tk e (f.c-f.a) l h).c λl g=>
  (if f.e=19 then(mE tk [44] g).c λ_ c=>nK tk cN 6 6 1 c else .ok 0 g:PR Nat).c λm c=>
  (mE tk [41] c).c λ_ i=>.ok (.mk f.e w ⟨0,zK,m⟩ l) i
def qD.l(c:qD):Prop:=pA.a c.a/\pA.a c.b
end
end
section
structure Cg (tk tk':List xD):Prop where
 acc:B0 tk=B0 tk'
 kind:cK tk=cK tk'
 text:yN tk=yN tk'
 len:tk.length=tk'.length
end
section
theorem MM{tk:List xD}{w:List Nat}{n:Nat}(h:tk.length<=n):B0 tk w n=false:=by unfold B0;rw[List.getElem?_eq_none h]
section
variable {tk:List xD}(d:∀x∈tk,qY x)
include d
structure PBd (p:uD) (n:Nat):Prop where
 defs:p.c.length<=n
 b:p.a.length<=n
 a:p.b.length<=n
 rows:∀x∈p.a,x.a.length<=n/\∀r∈x.a,qF.e r.f
 c:∀x∈p.b,qD.l x
end
end
section
variable {q:Nat}{v:List Nat}
def jj(l:List pD):Prop:=l≠[]/\∀t∈l,t.1≠5/\fE t.2=.aa t.1 t.2
section
variable {tk:List xD}{o:PM pA}{n n':Nat}{x:pA}{l:List (List Nat × Nat)}
def Zo(h:o n=.ok x n')(a:iN tk l n'=none):cQ tk o l n=.ok x n':=by
 unfold cQ;rw[h];show bQ tk o l tk.length x n'=_
 cases tk.length with
 | zero=>rfl
 | succ m=>rw[bQ,a]
end
section
variable {tk:List xD}{K:List pD}
theorem Uv(a:tk.map kt=K){n:Nat} (h:K[n]?=some (q,v))(w:List Nat):B0 tk w n=((decide (q=1)||decide (q=4))&&sF v w):=by
 subst a;rw[G4]at h;unfold B0
 cases b:tk[n]? with
 | none=>simp_all
 | some t=>rw[b]at h;cases h;rfl
theorem Cv(a:tk.map kt=K){n:Nat} (h:K[n]?=some (q,v))(j:Nat):cK tk j n=decide (q=j):=by
 subst a;rw[G4]at h;unfold cK
 cases b:tk[n]? with
 | none=>simp_all
 | some t=>rw[b]at h;cases h;rfl
theorem Qx(a:tk.map kt=K){n:Nat} (h:K[n]?=some (q,v)):yN tk n=v:=by
 subst a;rw[G4]at h;unfold yN
 cases b:tk[n]? with
 | none=>simp_all
 | some t=>rw[b]at h;cases h;rfl
def zrd(a:tk.map kt=K):tk.length=K.length:=by rw[<- a,C5]
end
structure Ex (m:List xD) (u:List pD) (x:pA):Prop where
 toks:m.map kt=u++[(5,[])]
 line:jj u
 good:∀t∈m,qY t
 ok:oZ m 0=.ok x u.length
end
section
theorem zsx{v w:List Nat}(h:v≠w):sF v w=false:=by
 grind [eJ]
section
variable {tk:List xD}{K:List pD}{o:PM pA}{n q:Nat}{v:List Nat}
theorem eH(a:tk.map kt=K)(h:K[n]?=some (q,v)){w:List Nat}(b:v≠w):B0 tk w n=false:=by rw[Uv a h,zsx b,E9]
theorem tM(a:tk.map kt=K)(h:K[n]?=some (q,v))(b:q=1\/q=4):B0 tk v n=true:=by
 rw[Uv a h,(eJ v v).2 rfl];rcases b with rfl | rfl<;>rfl
def Pa(a:tk.map kt=K)(h:K[n]?=some (q,v))(b:q≠2/\q≠3)(c:v∉[Ml,Mo,Jm,pJ]):yT tk n=.ok none n:=by
 grind [yT,eH,Cv]
def zn9(a:tk.map kt=K)(h:K[n]?=some (4,[40])):aN tk o n=(C0 tk o (n+1)).c λx b=>(mE tk [41] b).c λ_ c=>.ok x c:=by
 unfold aN;rw[Pa a h (by decide) (by decide)];show(if B0 tk [40] n=true then _ else _)=_;rw[tM a h (.inr rfl),A5 rfl]
def bR(a:tk.map kt=K)(h:K[n]?=some (q,v))(b:q=1\/q=4):mE tk v n=.ok () (n+1):=by
 unfold mE;rw[tM a h b,A5 rfl]
def Jx(a:tk.map kt=K)(h:K[n]?=some (q,v)):yK tk q n=.ok v (n+1):=by
 unfold yK;rw[Cv a h,decide_eq_true rfl,A5 rfl,Qx a h]
def Kr(a:tk.map kt=K)(h:K[n]?=some (1,v))(b:fG v=true):mL tk n=.ok v (n+1):=by
 grind [mL,pU,Cv,Qx]
def SA(a:tk.map kt=K)(h:K[n]?=some (3,v)):eO tk n=.ok ((gU v).getD 0:Nat) (n+1):=by
 unfold eO;rw[Jx a h];rfl
end
variable {m T:List xD}{u:List pD}{x:pA}
abbrev startX(x:pA):pA:=eX 7 (.mk 26 [] ⟨0,zK,(0:Nat)⟩ [x]) (Uj ⟨2,kL [49] false,0⟩)
end
section
variable {m n:Nat}
theorem Bf(n:Nat):eF n=nJ n:=by
 induction n using Nat.strongRecOn with
 | _ n a=>
  grind [nJ,Ua,Uc]
theorem HG{f:qF}(h:Dr f=true):f=zK:=by
 obtain⟨⟨a,l⟩,⟨b,m⟩⟩:=f;unfold Dr at h;simp only[B3,E7,decide_eq_true_eq]at h;have c:l=[]:=List.eq_nil_of_length_eq_zero (by omega);have d:m=[]:=List.eq_nil_of_length_eq_zero (by omega);rw[h.1.1,h.1.2,c,d];rfl
def zff:((List.range 2154).all λm=>Nat.beq (wH (m+1)) (wH m+tP (1900+m / 12) (m%12+1)))=true:=by kernel_rfl
theorem BM (h:m<2154):wH (m+1)=wH m+tP (1900+m / 12) (m%12+1):=Nat.eq_of_beq_eq_true (C8.1 zff m (List.mem_range.2 h))
def BO:Nat.ble 65536 (wH 2154)=true:=by kernel_rfl
def DH(n:Nat):∀k,rX k n<=k/\wH (rX k n)<=n/\(n<wH (k+1)->n<wH (rX k n+1)):=by
 intro k;induction k with
 | zero=>exact⟨B4 _,by show wH 0<=n;exact I1 _,id⟩
 | succ k a=>
  grind [rX]
theorem zb6 (h:n<65536):∃M,M<=2153/\rH n=Gk (1900+M / 12) (M%12+1) (n-wH M+1)/\wH M<=n/\n-wH M+1<=tP (1900+M / 12) (M%12+1):=by
 have a:=DH n 2153;have b:65536<=wH (2153+1):=Nat.le_of_ble_eq_true BO;have c:=a.2.2 (by omega);refine⟨_,a.1,rfl,a.2.1,?_⟩
 grind [BM]
theorem zho(y m:Nat):tP y m<=31:=by
 unfold tP;split
 .omega
 .split
  .omega
  .rename_i h _;have:m=1\/m=2\/m=3\/m=4\/m=5\/m=6\/m=7\/m=8\/m=9\/m=10\/m=11\/m=12:=by omega
   rcases this with rfl | rfl | rfl | rfl | rfl | rfl | rfl | rfl | rfl | rfl | rfl | rfl<;>decide
def zs2(n:Nat):fD (d1 n)=true:=by grind [fD,d1]
def jk(n:Nat):d1 n-48=n%10:=by grind [d1]
def zcx(y m d:Nat):wK (Gk y m d)=true:=by
 unfold wK Gk;simp[List.range,List.range.loop,vM,zs2]
theorem zti{y d:Nat}(c:y<10000)(b:m<100)(a:d<100):gU (Gk y m d)=Dd y m d:=by
 unfold gU Gk sE;simp only[List.take,List.drop,List.foldl,jk];rw[show(((0*10+y / 1000%10)*10+y / 100%10)*10+y / 10%10)*10+y%10=y by omega,show(0*10+m / 10%10)*10+m%10=m by omega,show(0*10+d / 10%10)*10+d%10=d by omega]
theorem GG (h:n<65536):gU (rH n)=some n:=by
 grind [zb6,zho,zti,Dd]
theorem zo3(n:Nat):(rH n).length=10:=rfl
def SC (h:n<65536):fE (rH n)=.aa 3 (rH n):=by
 have b:wK (rH n)=true:=zcx _ _ _;have a:zT (rH n)=false:=by
  grind [zT,zo3,GG]
 obtain⟨x,r,e,c⟩:∃x r,rH n=x::r/\fD x=true:=⟨_,_,rfl,zs2 _⟩;rw[e]at b a ⊢;have d:bN x=false:=(Ox c).2.2.2.2.2.2;have f:(x::r).take 10=x::r:=by rw[<- e];rfl
 grind [fE]
end
section
variable [fC]
def zar:((List.range 2155).all λm=>kB (Cl (m:Int)) (wH m:Int))=true:=by kernel_rfl
def JB{m:Nat}(h:m<2155):Cl (m:Int)=(wH m:Nat):=(Ba _ _).1 (C8.1 zar m (List.mem_range.2 h))
theorem JA:∀ {a b:Nat},a<=b->b<=2154->wH a<=wH b:=by
 intro a b h;induction h with
 | refl=>omega
 | @step m c d=>grind [BM]
theorem BW{P:Int->Bool}(c:∀x y:Nat,x<=y->y<2154->P (y:Int)=false->P (x:Int)=false) :
  ∀(k i j:Nat),j-i<=k->i<=j->j<=2154->(∀x:Nat,x<i->P (x:Int)=false)->(j<2154->P (j:Int)=true) →
   ∃r:Nat,Hf P k i j=(r:Int)/\r<=2154/\(∀x:Nat,x<r->P (x:Int)=false)/\(r<2154->P (r:Int)=true)
 | 0,i,j,f,g,d,b,e=>⟨i,rfl,by omega,b,by grind⟩
 | k+1,i,j,f,g,d,b,e=>by
  unfold Hf;by_cases h:i<j
  .rw[A5 h];by_cases a:P (((i+j) / 2:Nat):Int)=true
   .rw[A5 a];exact BW c k i _ (by omega) (by omega) (by omega) b λ_=>a
   .rw[A3 a];exact BW c k _ j (by omega) (by omega) d (λx l=>c x _ (by omega) (by omega) (Bool.eq_false_iff.2 a)) e
  grind
theorem zg5{n:Nat}(k:n<65536):fV (n:Int)=(rX 2153 n:Nat):=by
 have a:∀y:Nat,y<2154->fB (n:Int) (Cl (cA .i64 ((y:Int)+1)))=decide (n<wH (y+1)):=λy b=>by
  rw[A2 (by omega) (by omega),show(y:Int)+1=((y+1:Nat):Int) by omega,JB (by omega)]
  grind [Lg]
 obtain⟨r,d,g,i,e⟩:=BW (P:=λm=>fB (n:Int) (Cl (cA .i64 (m+1)))) (λx y f b h=>by
  simp only[a y b,decide_eq_false_iff_not]at h;simp only[a x (by omega),decide_eq_false_iff_not];have:=JA (show x+1<=y+1 by omega) (by omega);omega) 2154 0 2154 (by omega) (by omega) (by omega) (λx l=>by omega) (λh=>by omega)
 have j:65536<=wH 2154:=Nat.le_of_ble_eq_true BO;obtain⟨o,p,c⟩:=DH n 2153;have c:=c (show n<wH 2154 by omega);show Hf _ _ _ _=_;rw[d];generalize rX 2153 n=m at *;congr 1;rcases Nat.lt_trichotomy r m with h | h | h
 .have:=e (by omega);simp only[a r (by omega),decide_eq_true_eq]at this;have:=JA (show r+1<=m by omega) (by omega);omega
 all_goals grind
theorem Gm{k x i:Nat}{l:List Nat}(c:x<1000000000):G9 (k+1) (x:Int) i l=G9 k ((x / 10:Nat):Int) (i-1) (l.set i (d1 x)):=by
 have a:Int.tdiv (x:Int) 10=((x / 10:Nat):Int):=by simp_all
 have b:Dc (x:Int)=d1 x:=by
  grind [Dc,d1]
 show G9 k (cA .i64 (Int.tdiv (x:Int) 10)) (i-1) (l.set i (Dc x))=_;rw[a,b,A2 (by omega) (by omega)]
theorem TF{n:Nat}(g:n<65536):Fw (n:Int)=rH n:=by
 have e:=zg5 g;obtain⟨l,h,a⟩:=DH n 2153;have a:=a (by have:65536<=wH 2154:=Nat.le_of_ble_eq_true BO;grind);rw[BM (by omega)]at a;have f:=zho (1900+rX 2153 n / 12) (rX 2153 n%12+1);unfold Fw rH;rw[e];generalize rX 2153 n=M at *;rw[JB (by omega)];have b:Int.tdiv (M:Int) 12=((M / 12:Nat):Int):=by simp_all
 have c:Int.tmod (M:Int) 12=((M%12:Nat):Int):=by grind
 rw[b,c,A2 (n:=(n:Int)-(wH M:Nat)) (by omega) (by omega),A2 (n:=((M / 12:Nat):Int)) (by omega) (by omega),A2 (by omega) (by omega),A2 (by omega) (by omega),A2 (by omega) (by omega)];rw[show(n:Int)-(wH M:Nat)+1=((n-wH M+1:Nat):Int) by omega,show((M%12:Nat):Int)+1=((M%12+1:Nat):Int) by omega,show(1900:Int)+((M / 12:Nat):Int)=((1900+M / 12:Nat):Int) by omega];have i:1900+M / 12<10000:=by omega
 have j:M%12+1<100:=by omega
 have k:n-wH M+1<100:=by omega
 clear e h a f b c;generalize 1900+M / 12=y at *;generalize M%12+1=m at *;generalize n-wH M+1=d at *;rw[Gm (by omega),Gm (by omega),Gm (by omega),Gm (by omega),Gm (by omega),Gm (by omega),Gm (by omega),Gm (by omega)];simp[G9,Gk,Nat.div_div_eq_div_mul]
end
end Go.Proofs
