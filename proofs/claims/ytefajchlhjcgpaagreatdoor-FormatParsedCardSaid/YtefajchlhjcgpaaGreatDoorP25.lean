/- The parser: plans. -/
import Derived.Test.YtefajchlhjcgpaaGreatDoorP24
set_option linter.all false
noncomputable section
set_option maxRecDepth 100000
namespace Go.Proofs
open Go Go.Am
variable {p x:uD}{cs:List O}
variable [fC]
def Rt(tf:G uA)(x:uD)(v:O):Prop:=∃cs,v=.i cs/\RD tf x.d cs
section
variable {P:uK}{tf t:G uA}{n d g:Nat}{Q E:mB}{J W:xG}
theorem Bu.e (N:Bu P g p tf t n):∃r cs,zB tf r/\St P r t n 0/\oA Y 52 ⟨0,t⟩ (.j g 0)=some (.i cs)/\RD r p.d cs:=by
 obtain⟨h,f,rv,q,d,R,K,e,b1,b2,b3,b4⟩:=N;have L:xC t g none [.h p.e,h,f,q]:=e.g.d (A:=[nH P n 0]);obtain⟨a1,F,S,W⟩:=xB.g (A:=[nH P n 0,oC g none [.h p.e,h,f,q],iD Y.a 3 (p.c.map pF.d) h,sJ Y.a 3 d f]) (B:=iD Y.a 24 (p.b.map qD.d) q::P.L) e.g;obtain⟨a6,z,T,X⟩:=xB.g (A:=[nH P n 0,oC g none [.h p.e,h,f,q],iD Y.a 3 (p.c.map pF.d) h,sJ Y.a 3 d f]) (B:=P.L) S;obtain⟨u,v,w,Z⟩:=xB.g (A:=[nH P n 0,oC g none [.h p.e,h,f,q]]) (B:=sJ Y.a 3 d f::P.L) T
 have x:LK (.b 3) Y.a t 3 d f:=w.s (sJ Y.a 3 d f) (by simp);have s:=zdp K F W;obtain⟨m,C,U,r4⟩:∃m,zB u m/\xB Y.a m t ([nH P n 0,oC g none [.h p.e,h,f,q]]++P.L)/\bA m 3 (p.a.map aE.d) f:=by
  have I:=xB.i (A:=[nH P n 0,oC g none [.h p.e,h,f,q]]) w;rcases x with⟨rfl,rfl⟩ | ⟨b,c,rfl,h1,J,D⟩
  .exact⟨u,zB.f _,I,[],.inl ⟨rfl,rfl⟩,tD.f (z.d v) _ _ s⟩
  .have y:=w.x (A:=[nH P n 0,oC g none [.h p.e,h,_,q]]) (o:=sJ Y.a 3 d (.m b 0 d.length d.length)) (k:=b) (by simp[sJ,vK]);obtain⟨Q,H⟩:=I.r y J (w.f b (by simp[sJ,vK])).2;exact⟨_,H,Q,d,.inr ⟨b,0,d.length,rfl,B4 _,⟨_,_,_,by rw[G.aa,A5 rfl],.inr ⟨_,rfl,rfl⟩⟩,λi cs E=>⟨(D i cs E).1,_,_,_,by rw[G.aa,A5 rfl],λj a M=>by rw[D8];exact(D i cs E).2 j a M⟩⟩,tD.f ((z.d v).d H) _ _ s⟩
 have l:=((F.d z).d v).d C;refine⟨m,[.h p.e,h,f,q],l,⟨e.p.a l,xB.i (A:=[nH P n 0]) U,e.f,e.m,e.a,e.e.a l⟩,?_,?_⟩
 .have:=L.p.e (j:=0) (n:=4) fj rfl rfl (by simp);simpa using this
 .exact lK.2 ⟨[[.h p.e],[h],[f],[q]],rfl,kD.2 ⟨_,_,rfl,mP.2 rfl,kD.2 ⟨_,_,rfl,xR.2 ⟨_,rfl,Z.a C⟩,kD.2 ⟨_,_,rfl,xR.2 ⟨_,rfl,r4⟩,kD.2 ⟨_,_,rfl,xR.2 ⟨_,rfl,X.a (v.d C)⟩,pG.2 rfl⟩⟩⟩⟩⟩
def nh  (h:RD tf x.d cs):mK [.h [],.g,.g,.g] (.i cs)=some (AN cs):=vO h (uD.zs _)
def Pf  (h:RD tf x.d cs):[O.h ((AN cs).s 0),(AN cs).v 1,(AN cs).v 2,(AN cs).v 3]=cs:=by
 obtain⟨a,b,c,rfl,_⟩:=nY h;rfl
def znm{tk:List xD}  : Up (iO tk p):=by
 intro n a b h;unfold iO at h;split at h
 .have:=dF Ue (λd=>gN (a:=(⟨p.e,p.c++[d],p.a,p.b⟩:uD))) _ _ _ h;omega
 split at h
 .have:=dF Ue (λd=>gN (a:=(⟨p.e,p.c++[d],p.a,p.b⟩:uD))) _ _ _ h;omega
 split at h
 .have:=dF zdq (λd=>gN (a:=(⟨p.e,p.c,p.a++[d],p.b⟩:uD))) _ _ _ h;omega
 split at h
 .have:=dF CH (λd=>gN (a:=(⟨p.e,p.c,nP p.a d,p.b⟩:uD))) _ _ _ h;omega
 split at h
 .have:=dF GL (λd=>gN (a:=(⟨p.e,p.c,p.a,p.b++[d]⟩:uD))) _ _ _ h;omega
 .cases h
def Ok.m{X:List kF}{p s:Type}{g:G uA->p->O->Prop}{rd:G uA->s->O->Prop}{r:PR p}{f:p->Nat->PR s}{q:mB}(h:Ok P rd d tf (r.c f) Q E)
  (k:∀a m b t1 v,r=.ok a m->zB tf b->St (P.c (X++P.L)) b t1 m d->g b a v->Ok P rd d b (f a m) Q E->q v t1):Ok (P.c (X++P.L)) g d tf r q E:=by
 cases r with
 | ok a n=>exact λc o v j l u=>k a n c o v rfl j l u (Ok.g h j)
 | er e i=>exact λc o w t j l=>h c o w t j l.u
def znl:∀(m:Nat) (p:uD) (n:Nat) (tf t:G uA) (a b c:O) (s:List Nat),P.a.length<=n+m->Bu P g p tf t n->Ok P Rt 0 tf (tN P.a m p n) Q E->sI E 47 2 [.j P.b 0,.j g 0,.h s,a,b,c] t Q:=by
 intro m;induction m with
 | zero=>
  intro p n tf t a b c s hm r h;refine zy ?_;unfold tw uI uG aB rC V uY L6 M6;have j:=r;obtain⟨dv,tv,rv,cv,I,R,hT,d,b1,b2,b3,b4⟩:=r;obtain⟨u,cs,W,X,Z,o⟩:=j.e;refine vA nl (vA f1 (iB d.l1 (tB (vA nl (vA f0 (iB d.l0 (vA d.aa (tB (wB ?_ (iB Z (aC (nh o) ?_)))))))))))
  .rw[wD];change ¬ decide ((n:Int)<(P.a.length:Int))=true;simp;omega
  .have e:=Pf o;have f:=o.e;rw[<- e]at f;refine tA f ?_;show Q (.i _) t;rw[e];exact h u t _ W X ⟨cs,rfl,o⟩
 | succ m ih=>
  intro p n tf t a b c s hm r h;by_cases hn:n<P.a.length
  .refine zy ?_;unfold tw uI uG aB rC V uY L6 M6;unfold tN at h;rw[A5 hn]at h;have j:=r;obtain⟨dv,tv,rv,cv,I,R,hT,d,b1,b2,b3,b4⟩:=r;refine vA nl (vA f1 (iB d.l1 (tB (vA nl (vA f0 (iB d.l0 (vA d.aa (tB (tA ?_ (aA ?_))))))))))
   .rw[wD];change decide ((n:Int)<(P.a.length:Int))=true;simp;omega
   rw[pE 97];refine zvt j ?_
   cases U:iO P.a p n with
   | er e i=>rw[U]at h;exact h
   | ok F n1=>
    rw[U]at h;change Ok P Rt 0 tf ((yK P.a 5 n1).c λ_ K=>tN P.a m F K) Q E at h;have a7:=znm _ _ _ U;intro a8 t1 S T;obtain⟨z,J,H,y,q,R1,L,C,c1,c2,c3,c4⟩:=T;refine aA ?_;rw[pE 68];refine Jy (k:=5) (P:=P.c (mO g (.h F.e) z J H y (F.c.map pF.d) q R1 (F.b.map qD.d)++P.L)) (by omega) C ((h.g S).m λw K a1 t2 v l A D B N=>?_);obtain⟨x,_,_,rfl⟩:=B;have a6:n1+1=K:=by
     change yK P.a 5 n1=_ at l;unfold yK at l;split at l<;>cases l;rfl
    exact aC (H9 _) (sC (ih F K a1 t2 _ _ _ _ (by omega) ⟨z,J,H,y,q,R1,L.a A,D,by omega,by omega,by omega,by omega⟩ N))
  .have M:Ok P Rt 0 tf (tN P.a 0 p n) Q E:=by
    unfold tN at h;rw[A3 hn]at h;exact h
   clear ih h;refine zy ?_;unfold tw uI uG aB rC V uY L6 M6;have j:=r;obtain⟨dv,tv,rv,cv,I,R,hT,d,b1,b2,b3,b4⟩:=r;obtain⟨u,cs,W,X,Z,o⟩:=j.e;refine vA nl (vA f1 (iB d.l1 (tB (vA nl (vA f0 (iB d.l0 (vA d.aa (tB (wB ?_ (iB Z (aC (nh o) ?_)))))))))))
   .rw[wD];change ¬ decide ((n:Int)<(P.a.length:Int))=true;simp;omega
   .have e:=Pf o;have f:=o.e;rw[<- e]at f;refine tA f ?_;show Q (.i _) t;rw[e];exact M u t _ W X ⟨cs,rfl,o⟩
def zu6(h:St P tf t 0 0)(c:Ok P Rt 0 tf (vJ P.a) Q E):vL Y F E 47 [.j P.b 0] t Q:=by
 refine w47 ?_;unfold t47 uS uG V uY;refine jC λg y d=>?_;obtain⟨K,S,T,U,W⟩:=yQ (C:=Y) (b:=g) fj y;refine⟨_,_,S,?_⟩;have o1:xB Y.a tf K (nH P 0 0::(mO g (.h []) .g .g .g .g [] [] [] []++P.L)):=by
  have e:=xB.c (A:=[nH P 0 0]) (B:=P.L) h.g y d T U W;have L:=xB.ac (A:=[nH P 0 0,oC g none [.h [],.g,.g,.g]]) (B:=P.L) (o':=iD Y.a 24 [] .g) e (λk _=>rfl) (λk c=>by cases c) (.inl ⟨rfl,rfl⟩) (by simp[iD,vK]) e.b;have M:=xB.ac (A:=[nH P 0 0,oC g none [.h [],.g,.g,.g]]) (B:=iD Y.a 24 [] .g::P.L) (o':=iD Y.a 7 [] .g) L (λk _=>rfl) (λk c=>by cases c) (.inl ⟨rfl,rfl⟩) (by simp[iD,vK]) e.b;have N:=xB.ac (A:=[nH P 0 0,oC g none [.h [],.g,.g,.g]]) (B:=iD Y.a 7 [] .g::iD Y.a 24 [] .g::P.L) (o':=sJ Y.a 3 [] .g) M (λk _=>rfl) (λk c=>by cases c) (.inl ⟨rfl,rfl⟩) (by simp[sJ,vK]) e.b
  exact xB.ac (A:=[nH P 0 0,oC g none [.h [],.g,.g,.g]]) (B:=sJ Y.a 3 [] .g::iD Y.a 7 [] .g::iD Y.a 24 [] .g::P.L) (o':=iD Y.a 3 [] .g) N (λk _=>rfl) (λk c=>by cases c) (.inl ⟨rfl,rfl⟩) (by simp[iD,vK]) e.b
 have r:St (P.c (mO g (.h []) .g .g .g .g [] [] [] []++P.L)) tf K 0 0:=⟨h.p,o1,h.f,h.m,h.a,h.e⟩;unfold vJ at c;refine Lp (P:=P.c (mO g (.h []) .g .g .g .g [] [] [] []++P.L)) r (c.m λu n1 a7 t2 v X z l I o=>aA ?_);rw[pE 96];refine Kv (P:=P.c (mO g (.h []) .g .g .g .g [] [] [] []++P.L)) l (o.m λw J s t3 v Z D a f p=>?_);cases f;refine gC (vA (gF 0 (by omega)) (jC λR _ _=>?_));obtain⟨t4,m1,m2⟩:=xB.a (A:=[nH P J 0]) (j:=0) (v:=.h w) a.g iI rfl (by show 0+1<=4;omega) rfl
 refine⟨_,_,m1 R,aA ?_⟩;have n:St (P.c (mO g (.h w) .g .g .g .g [] [] [] []++P.L)) s t4 J 0:=⟨a.p,m2,a.f,a.m,a.a,a.e⟩;rw[pE 68];refine Jy (k:=5) (P:=P.c (mO g (.h w) .g .g .g .g [] [] [] []++P.L)) (by omega) n (p.m λw5 n3 a8 t5 v a6 H m i q=>?_);obtain⟨x,_,_,rfl⟩:=i;exact aC (H9 _) (sC (znl _ _ _ _ _ _ _ _ _ (by omega) ⟨.g,.g,.g,.g,[],[],.inl ⟨rfl,rfl,rfl,rfl⟩,m,by simp,by simp,by simp,by simp⟩ q))
end
end Go.Proofs
namespace Go.Proofs
open Go Go.Am
variable [fC]
def t28_eq(s:List Nat)(a:O):t46 s a=T2 52 zP cP s a:=rfl
def zeb(a b c d e:O):zdt a b c d e=T3 52 zP cP a b c d e:=rfl
def zl0(a b c d:O):ue a b c d=nd 52 zP a b c d:=rfl
def zl3(a b c:O):uf a b c=nf 52 a b c:=rfl
def gf:RT 52 zP cP:=⟨⟨_,fj,rfl,rfl,rfl⟩,rfl,aQ rfl,rfl⟩
section
variable {t:G uA}{Q:mB}{s:List Nat}
def q9(C:sL t)(l:∀b∈s,b<256)(d:match wN vJ s with
  | .ok x=>∀t' cs,zB t t'->RD t' x.d cs->Q (.p [.i cs,.i [.e .i64 0,.e .i64 0],.e .i64 0]) t'
  | .er e a b=>∀t',zB t t'->Q (.p [.i zP,.i [.e .i64 (a:Int),.e .i64 (b:Int)],.e .i64 (e:Int)]) t'):Wc Y F 46 [.h s,.q (.aa 47) [] []] t Q:=by
 refine w46 _ _ ?_;rw[t28_eq];refine zus gf C l (λm o=>zhj o) (λe a b h=>⟨NA h,?_⟩) (λm o J N P K L M q y z A j k=>⟨rfl,tl46 _ _ _ _ _ ?_⟩)
 .rw[JZ h]at d;exact d
 .rw[zeb];simp only[zl0,zl3];refine jy (rd:=Rt) (good:=λf x cs=>RD f x.d cs) (r:=vJ P.a) gf A k ?_ (λQ E D=>by rw[pE 47];exact zu6 k D) (by kernel_rfl) (λf x v ⟨cs,B,g⟩=>⟨cs,B,by obtain⟨a,b,c,rfl,_⟩:=nY g;rfl,nh g,Pf g,by obtain⟨a,b,c,rfl,_⟩:=nY g;exact g.e,g⟩);rw[CE o]at d;rw[q]
  cases u:vJ m with
  | ok x n=>
   rw[u]at d;exact λf t' cs p w I=>d t' cs (j.d (p.d w)) (I.f w)
  | er e i=>
   rw[u]at d;have H:lH P i=K4 m s i:=by unfold lH K4;rw[q,y,z]
   intro t' p;rw[H];exact d t' (j.d p)
def zu8(k:sL t)(g:∀b∈s,b<256)(f:match wN vJ s with
  | .ok x=>∀t' cs,zB t t'->RD t' x.d cs->Q (.p [.i cs,.i [.e .i64 0,.e .i64 0],.e .i64 0]) t'
  | .er e a b=>∀t',zB t t'->Q (.p [.i zP,.i [.e .i64 (a:Int),.e .i64 (b:Int)],.e .i64 (e:Int)]) t'):Wc Y F 19 [.h s] t Q:=by
 refine w19 ?_;unfold t19 L6 M6 uA4;refine aA ?_;rw[q46];refine q9 k g ?_
 cases i:wN vJ s with
 | ok x=>
  rw[i]at f;intro t' cs h d;refine vA (v:=.i cs) rfl (aC (nh d) (vA (v:=.i [.e .i64 0,.e .i64 0]) rfl (aC mc (vA (v:=.e .i64 0) rfl (tB ?_)))));show iA _ _ _ (.a (nD O.z (cP (AN cs))) (.a true (.l (.p [.i (cP (AN cs)),_,_])) .g) .g) _ _;have j:cP (AN cs)=cs:=Pf d;rw[j];refine tA (by obtain⟨a,b,c,rfl,_⟩:=nY d;exact d.e) (tA rfl (f t' cs h d))
 | er e a b=>
  rw[i]at f;intro t' h;exact vA (v:=.i zP) rfl (aC gf.ag (vA (v:=.i [.e .i64 (a:Int),.e .i64 (b:Int)]) rfl (aC mc (vA (v:=.e .i64 (e:Int)) rfl (tB (tA rfl (tA rfl (f t' h))))))))
end
end Go.Proofs
namespace Go.Am
open Go Go.RowKit
section
variable {t:G uA}{C:fA}{W J:xG}{S el sz p:Nat}{Q:mB}{zs:List O}
abbrev Cmp:=List O->List O->(O->T)->T
def T5 (g:Nat):Cmp:=λa b K=>.c g [.i a,.i b] K
def zup(C:fA)(S el p:Nat)(g:Cmp)(zs:List O)(ne:Bool->Bool)(a b:O)(i:Int):T:=
 .d (vC a) λe=>.r .i64 e λo=>.a (fB i o)
  (.d (zC C S a (.e .i64 i)) λf=>.e (λm=>oA C el ⟨0,m⟩ f) λh=>.o zs h λc=>
   .d (zC C S b (.e .i64 i)) λj=>.e (λm=>oA C el ⟨0,m⟩ j) λk=>.o zs k λd=>
   g (qX zs c 0) (qX zs d 0) λl=>.q l λn=>.a (ne n) (.l (.d false)) (.j p [a,b,.e .i64 (cA .i64 (i+1))]))
  (.l (.d true))
theorem Rm{g:Cmp}{ne:Bool->Bool}{ok:Bool}{ds:List D}{f h:O}(n:mG C S el sz true)(H:∀d∈ds,d.g=zs)(F:ne ok=false)
  (B:∀d∈ds,∀cs cs' K,RD t d cs->RD t d cs'->iA C.a W J (K (.d ok)) t Q->iA C.a W J (g cs cs' K) t Q) (r:ds.length<300000)
  (q:∀i,iA C.a W J (zup C S el p g zs ne f h i) t Q->J p [f,h,.e .i64 i] t Q) (m:bA t sz ds f) (z:bA t sz ds h) (A:Q (.d true) t) :
  ∀(k i:Nat),i+k=ds.length->J p [f,h,.e .i64 (i:Int)] t Q:=by
 intro k;induction k with
 | zero=>
  intro i E;refine q _ ?_;unfold zup;exact vA m.c (tB (wB (λe=>by grind [iE]) A))
 | succ k I=>
  intro i E;have c:i<ds.length:=by omega
  have o:ds[i]?=some ds[i]:=D0 c;have s:ds[i]∈ds:=F2 c;obtain⟨b,L,cs,x,y,R,T,l⟩:=mG.at n (by simp) m o;obtain⟨M,u,cs',v,w,N,P,j⟩:=mG.at n (by simp) z o;have a:=H _ s;refine q _ ?_;unfold zup;refine vA m.c (tB (tA (iE.2 (by omega)) (vA x (iB y (aC (vO l a) (vA v (iB w (aC (vO j a) ?_))))))));rw[l.mk a,j.mk a];refine B _ s _ _ _ l j (cC (wB (by simp_all) (sC ?_)));rw[A2 (by omega) (by omega)];exact I (i+1) (by omega)
end
end Go.Am
namespace Go.Proofs
open Go Go.Am
variable [fC]
variable {t tf:G uA}
def ka{l:List Nat}{u v:O}(d:bA t 1 (vD l) u)(f:bA t 1 (vD l) v)(y:l.length<300000):oB Y F 145 [u,v] t=some (.d true):=by
 have b:vC u=some (.e .i64 (l.length:Int)):=by rw[d.c,fU]
 have c:vC v=some (.e .i64 (l.length:Int)):=by rw[f.c,fU]
 refine lC.2 (w145 ?_);unfold t145 uI rB V;refine vA b (tB (vA c (tB (wB (λe=>absurd rfl (Ai.1 e)) (sC ?_)))));have a:∀(m i:Nat),i+m=l.length->jp 145 2 [u,v,.e .i64 (i:Int)] t (λw s=>w=.d true/\s=t):=by
  intro m;induction m with
  | zero=>
   intro i q;refine zsd ?_;unfold xw uI uH uC rB xH V;exact vA b (tB (wB (dK (by omega)) ⟨rfl,rfl⟩))
  | succ m r=>
   intro i q;obtain⟨x,g⟩:=A6 (show i<l.length by omega);obtain⟨p,o,h,j⟩:=bA.f (C:=Y) Eb d g;obtain⟨A,z,k,n⟩:=bA.f (C:=Y) Eb f g;refine zsd ?_;unfold xw uI uH uC rB xH V;refine vA b (tB (tA (iK (by omega)) (vA h (iB j (tB (vA k (iB n (tB (wB (λe=>absurd rfl (Ai.1 e)) (sC ?_))))))))));rw[A2 (by omega) (by omega)];exact r (i+1) (by omega)
 exact a l.length 0 (by omega)
def zq1{w:sM}{cs ds:List O}(a:w.a.length<300000)(h:RD t w.d cs)(k:RD t w.d ds):oB Y F 82 [.i cs,.i ds] t=some (.d true):=by
 obtain⟨u,rfl,b⟩:=Wp h;obtain⟨v,rfl,c⟩:=Wp k;refine lC.2 (w82 ?_);unfold t82 uB rB;refine tA (by rw[kZ];simp) (aA ?_);rw[q145,ka b c a,xA];exact cC ⟨rfl,rfl⟩
def zq2{f:qF}{cs ds:List O}(e:f.n.a.length<300000/\f.d.a.length<300000)(h:RD t f.b cs)(k:RD t f.b ds):oB Y F 40 [.i cs,.i ds] t=some (.d true):=by
 obtain⟨a,b,rfl,g,i⟩:=C4 h;obtain⟨j,l,rfl,c,d⟩:=C4 k;refine lC.2 (w40 ?_);unfold t40 uB rB;refine aA ?_;rw[q82,zq1 e.1 (Ht (w:=f.n) g) (Ht (w:=f.n) c),xA];refine cC (tA rfl (aA ?_));rw[q82,zq1 e.2 (Ht (w:=f.d) i) (Ht (w:=f.d) d),xA];exact cC ⟨rfl,rfl⟩
def rf{x:gE}{cs ds:List O}(i:x.f.n.a.length<300000/\x.f.d.a.length<300000)(h:RD t x.d cs)(k:RD t x.d ds):oB Y F 15 [.i cs,.i ds] t=some (.d true):=by
 obtain⟨a,b,rfl,e,g⟩:=Rr h;obtain⟨j,l,rfl,c,d⟩:=Rr k;refine lC.2 (w15 ?_);unfold t15 uB rB;refine tA (rI.2 rfl) (aA ?_);rw[q40,zq2 i (Hu (f:=x.f) e g) (Hu (f:=x.f) c d),xA];refine cC (tA rfl ?_);rw[rI.2 rfl];exact⟨rfl,rfl⟩
def kb{x:oG}{cs ds:List O}(i:x.f.n.a.length<300000/\x.f.d.a.length<300000)(h:RD t x.d cs)(k:RD t x.d ds):oB Y F 203 [.i cs,.i ds] t=some (.d true):=by
 obtain⟨a,b,rfl,e,g⟩:=Nj h;obtain⟨j,l,rfl,c,d⟩:=Nj k;refine lC.2 (w203 ?_);unfold t203 uB rB;refine tA (rI.2 rfl) (tA (rI.2 rfl) (tA (rI.2 rfl) (aA ?_)));rw[q40,zq2 i (Hu (f:=x.f) e g) (Hu (f:=x.f) c d),xA];exact cC ⟨rfl,rfl⟩
theorem rh{l:List oG}{u v:O}(q:l.length<300000)(m:∀x∈l,x.f.n.a.length<300000/\x.f.d.a.length<300000)(b:bA t 7 (l.map oG.d) u)(c:bA t 7 (l.map oG.d) v):oB Y F 155 [u,v] t=some (.d true):=by
 refine lC.2 (w155 ?_);unfold t155 uI rB V;refine vA b.c (tB (vA c.c (tB (wB (λe=>absurd rfl (Ai.1 e)) (sC ?_)))));refine Rm (C:=Y) (W:=Wq Y F dC) (J:=Jq Y F 155) (g:=T5 203) (ne:=not) (ok:=true) (ds:=l.map oG.d) T0 (λd a=>?_) rfl (λd a p f K h j k=>?_) (by simp_all) (λi n=>j155_2 n) b c ⟨rfl,rfl⟩ l.length 0 (by simp)
 .obtain⟨x,_,rfl⟩:=G6.1 a;exact x.g
 .obtain⟨x,o,rfl⟩:=G6.1 a;refine aA ?_;rw[q203,kb (m x o) h j,xA];exact k
def ri{x:aE}{cs ds:List O}(f:x.a.length<300000)(e:∀r∈x.a,r.f.n.a.length<300000/\r.f.d.a.length<300000)(h:RD t x.d cs)(k:RD t x.d ds):oB Y F 98 [.i cs,.i ds] t=some (.d true):=by
 obtain⟨a,rfl,c⟩:=Rs h;obtain⟨b,rfl,d⟩:=Rs k;refine lC.2 (w98 ?_);unfold t98 uB rB;refine tA ((eJ _ _).2 rfl) (tA (by rw[kZ];simp) (aA ?_));rw[q155,rh f e c d,xA];exact cC ⟨rfl,rfl⟩
theorem rj{l:List aE}{u v:O}(q:l.length<300000)(b:∀x∈l,x.a.length<300000/\∀r∈x.a,r.f.n.a.length<300000/\r.f.d.a.length<300000)(c:bA t 3 (l.map aE.d) u)(f:bA t 3 (l.map aE.d) v):oB Y F 49 [u,v] t=some (.d true):=by
 refine lC.2 (w49 ?_);unfold t49 uI rB V;refine vA c.c (tB (vA f.c (tB (wB (λe=>absurd rfl (Ai.1 e)) (sC ?_)))));refine Rm (C:=Y) (W:=Wq Y F dC) (J:=Jq Y F 49) (g:=T5 98) (ne:=not) (ok:=true) (ds:=l.map aE.d) O4 (λd a=>?_) rfl (λd a p j K k m n=>?_) (by simp_all) (λi o=>j49_2 o) c f ⟨rfl,rfl⟩ l.length 0 (by simp)
 .obtain⟨x,_,rfl⟩:=G6.1 a;exact x.f
 .obtain⟨x,h,rfl⟩:=G6.1 a;refine aA ?_;rw[q98,ri (b x h).1 (b x h).2 k m,xA];exact n
theorem zxi{x y:Operand}{s:List Nat}{k:Int}{b:Bool}:(dX .neq).f Y 89 x y (.i [.h s,.e .u8 k,.d b]) (.i [.h s,.e .u8 k,.d b])=some (.d false):=by
 have e:(dX .neq).f Y 89 x y (.i [.h s,.e .u8 k,.d b]) (.i [.h s,.e .u8 k,.d b])=ob (bif sF s s then(bif kB k k then(bif H7 b b then some true else some false)else some false)else some false) λr=>some (.d (!r)):=by kernel_rfl
 rw[e,(eJ s s).2 rfl,rI.2 rfl];cases b<;>rfl
theorem rk{l:List pF}{u v:O}(r:l.length<300000)(f:bA t 3 (l.map pF.d) u)(h:bA t 3 (l.map pF.d) v):oB Y F 48 [u,v] t=some (.d true):=by
 refine lC.2 (w48 ?_);unfold t48 uI rB V;refine vA f.c (tB (vA h.c (tB (wB (λe=>absurd rfl (Ai.1 e)) (sC ?_)))));refine Rm (C:=Y) (W:=Wq Y F dC) (J:=Jq Y F 48) (g:=λa b K=>.d ((dX .neq).f Y 89 (.tmp 20) (.tmp 24) (.i a) (.i b)) K) (ne:=λb=>b) (ok:=false) (ds:=l.map pF.d) TO (λd c=>?_) rfl (λd c n j K k p q=>?_) (by simp_all) (λi m=>j48_2 m) f h ⟨rfl,rfl⟩ l.length 0 (by simp)
 .obtain⟨x,_,rfl⟩:=G6.1 c;exact x.f
 .obtain⟨x,s,rfl⟩:=G6.1 c;have o:=Nk k
  grind [Nk,vA,zxi]
mutual
theorem zur:∀(x:pA),pA.a x->∀cs ds,RD t x.d cs->RD t x.d ds->oB Y F 12 [.i cs,.i ds] t=some (.d true)
 | .mk op name v args,h,cs,ds,z,n=>by
  obtain⟨a,b,c,rfl,q,r,p⟩:=bI z;obtain⟨a',b',c',rfl,k,m,f⟩:=bI n;simp only[pA.e,pA.i,pA.v,pA.j]at q r p k m f ⊢;unfold pA.a at h;refine lC.2 (w12 ?_);unfold t12 uB rB V uY;refine tA (rI.2 rfl) (tA ((eJ _ _).2 rfl) (aA ?_));rw[q15,rf h.1 (Sl (x:=v) q r) (Sl (x:=v) k m),xA];refine cC (tA rfl (aA ?_));have:=Z2 args h.2.2;have o:oB Y F 33 [c,c'] t=some (.d true):=by
   refine lC.2 (w33 ?_);unfold t33 uI rB V;refine vA p.c (tB (vA f.c (tB (wB (λe=>absurd rfl (Ai.1 e)) (sC ?_)))));refine Rm (C:=Y) (W:=Wq Y F dC) (J:=Jq Y F 33) (g:=T5 12) (ne:=not) (ok:=true) (ds:=args.map pA.d) J9 (λd n=>?_) rfl (λd n cs cs' K s u w=>?_) (by simp_all) (λi A=>j33_2 A) p f ⟨rfl,rfl⟩ args.length 0 (by simp)
   .obtain⟨x,_,rfl⟩:=G6.1 n;exact x.s
   .obtain⟨x,j,rfl⟩:=G6.1 n;refine aA ?_;rw[q12,this x j cs cs' s u,xA];exact w
  rw[q33,o,xA];exact cC ⟨rfl,rfl⟩
theorem Z2:∀(l:List pA),pA.c l->∀x∈l,∀cs ds,RD t x.d cs->RD t x.d ds->oB Y F 12 [.i cs,.i ds] t=some (.d true)
 | [],_,x,j=>by cases j
 | y::l,h,x,j=>by
  unfold pA.c at h;rcases C6.1 j with e | j
  .rw[e];exact zur y h.1
  .exact Z2 l h.2 x j
end
def rm{x:qD}{cs ds:List O}(n:pA.a x.a)(m:pA.a x.b)(h:RD t x.d cs)(k:RD t x.d ds):oB Y F 99 [.i cs,.i ds] t=some (.d true):=by
 obtain⟨a,b,c,d,e,f,rfl,j,l⟩:=Kh h;obtain⟨q,r,s,u,v,w,rfl,o,p⟩:=Kh k;refine lC.2 (w99 ?_);unfold t99 uB rB V uY;refine tA ((eJ _ _).2 rfl) (tA ((eJ _ _).2 rfl) (tA (rI.2 rfl) (tA (rI.2 rfl) (tA (rI.2 rfl) (tA (by rw[kZ];simp) (aA ?_))))));have g:=zur x.a n _ _ j o;have i:=zur x.b m _ _ l p;unfold qN at g i;rw[q12,g,xA];refine cC (tA rfl (aA ?_));rw[q12,i,xA];exact cC ⟨rfl,rfl⟩
theorem rn{l:List qD}{u v:O}(q:l.length<300000)(b:∀x∈l,pA.a x.a/\pA.a x.b)(c:bA t 24 (l.map qD.d) u)(f:bA t 24 (l.map qD.d) v):oB Y F 50 [u,v] t=some (.d true):=by
 refine lC.2 (w50 ?_);unfold t50 uI rB V;refine vA c.c (tB (vA f.c (tB (wB (λe=>absurd rfl (Ai.1 e)) (sC ?_)))));refine Rm (C:=Y) (W:=Wq Y F dC) (J:=Jq Y F 50) (g:=T5 99) (ne:=not) (ok:=true) (ds:=l.map qD.d) O5 (λd a=>?_) rfl (λd a p j K k m n=>?_) (by simp_all) (λi o=>j50_2 o) c f ⟨rfl,rfl⟩ l.length 0 (by simp)
 .obtain⟨x,_,rfl⟩:=G6.1 a;exact x.k
 .obtain⟨x,h,rfl⟩:=G6.1 a;refine aA ?_;rw[q99,rm (b x h).1 (b x h).2 k m,xA];exact n
def rp{p:uD}{cs ds:List O}(d:uD.g p)(h:RD t p.d cs)(k:RD t p.d ds):oB Y F 20 [.i cs,.i ds] t=some (.d true):=by
 obtain⟨a,b,c,rfl,i,j,l⟩:=nY h;obtain⟨m,n,o,rfl,e,f,g⟩:=nY k;refine lC.2 (w20 ?_);unfold t20 uB rB;refine tA ((eJ _ _).2 rfl) (aA ?_);rw[q48,rk d.d i e,xA];refine cC (tA rfl (aA ?_));rw[q49,rj d.b d.e j f,xA];refine cC (tA rfl (aA ?_));rw[q50,rn d.a d.c l g,xA];exact cC ⟨rfl,rfl⟩
end Go.Proofs
namespace Go.Proofs
open Go Go.Am
section
variable [fC]
def RP.d{a:Type}:RP a->Nat | .ok _=>0 | .er e _ _=>e
def RP.f{c:Type}:RP c->Nat × Nat | .ok _=>(0,0) | .er _ a b=>(a,b)
def RP.g{a:Type}(z:a):RP a->a | .ok x=>x | .er _ _ _=>z
def dt (p:Nat × Nat):List O:=[.e .i64 (p.1:Int),.e .i64 (p.2:Int)]
def zji:uD:=⟨[],[],[],[]⟩
def zg1{t:G uA}{sz:Nat}:bA t sz [] .g:=⟨[],.inl ⟨rfl,rfl⟩,pG.2 rfl⟩
def zjh{t:G uA}:RD t zji.d zP:=
 lK.2 ⟨[[.h []],[.g],[.g],[.g]],rfl,kD.2 ⟨_,_,rfl,mP.2 rfl,kD.2 ⟨_,_,rfl,xR.2 ⟨_,rfl,zg1⟩,kD.2 ⟨_,_,rfl,xR.2 ⟨_,rfl,zg1⟩,kD.2 ⟨_,_,rfl,xR.2 ⟨_,rfl,zg1⟩,pG.2 rfl⟩⟩⟩⟩⟩
def agPl{p:Nat × Nat}:mK Dp (.i (dt p))=some (AN (dt p)):=aQ rfl
section
variable {t:G uA}{Q:mB}{s:List Nat}{J:xG}
def zge{K:yH->yH->Int->T}(m:sL t)(i:∀b∈s,b<256)
  (k:∀t' cs,zB t t'->RD t' ((wN vJ s).g zji).d cs->iA Y.a (Wq Y F dC) J (K (AN cs) (AN (dt (wN vJ s).f)) ((wN vJ s).d:Int)) t' Q) :
  iA Y.a (Wq Y F dC) J (.c 19 [.h s] λa=>.d (uX 0 a)<|uG OK λg=>.d (uX 1 a)<|uG Dp λX=>.d (uX 2 a)<|uI λn=>.a (aB (L6 g)) (.a true (K g X n) .g) .g) t Q:=by
 refine aA ?_;rw[q19];refine zu8 m i ?_;have d:∀t' cs,zB t t'->RD t' ((wN vJ s).g zji).d cs->iA Y.a (Wq Y F dC) J (.d (uX 0 (.p [.i cs,.i (dt (wN vJ s).f),.e .i64 ((wN vJ s).d:Int)]))<|uG OK λg=>.d (uX 1 (.p [.i cs,.i (dt (wN vJ s).f),.e .i64 ((wN vJ s).d:Int)]))<|uG Dp λX=>.d (uX 2 (.p [.i cs,.i (dt (wN vJ s).f),.e .i64 ((wN vJ s).d:Int)]))<|uI λn=>.a (aB (L6 g)) (.a true (K g X n) .g) .g) t' Q:=by
  intro t' cs h f;have l:L6 (AN cs)=cs:=Pf f;refine vA (v:=.i cs) rfl (aC (nh f) (vA (v:=.i (dt (wN vJ s).f)) rfl (aC agPl (vA (v:=.e .i64 ((wN vJ s).d:Int)) rfl (tB (tA ?_ (tA rfl (k t' cs h f))))))));show nD O.z (L6 (AN cs))=true;rw[l];obtain⟨a,b,c,rfl,_⟩:=nY f;exact f.e
 cases j:wN vJ s with
 | ok x=>rw[j]at d;exact λt' cs h f=>d t' cs h f
 | er e a b=>rw[j]at d;exact λt' h=>d t' zP h zjh
def zpt{K:T}(k:iA Y.a (Wq Y F dC) J K t Q):iA Y.a (Wq Y F dC) J (.c 7 []<|uB λb=>.a (!b) rB K) t Q:=by
 refine aA ?_;have a:oB Y F 7 [] t=some (.d true):=Ki (g:=td) (by kernel_rfl) λH=>rfl;rw[q7,a,xA];exact cC (wB (by decide) k)
def zuq{K:O->T}{p:uD}{cs ds:List O}(b:uD.g p)(h:RD t p.d cs)(a:RD t p.d ds)(k:iA Y.a (Wq Y F dC) J (K (.d true)) t Q):iA Y.a (Wq Y F dC) J (.c 20 [.i cs,.i ds] K) t Q:=by
 refine aA ?_;rw[q20,rp b h a,xA];exact k
end
def zvw{s:List Nat}(h:s.length<=65536):vP s=Hy s:=by unfold vP;rw[A3 (by omega)]
end
section
def xO (n:Int):Bool:=decide (0<=n)&&decide (n<65536)
def bY (n:Int):Bool:=decide (-2147483648<=n)&&decide (n<2147483648)
def aR (d:pF):Bool:=fG d.a&&(decide (1<=d.b)&&decide (d.b<=6))
def iT (a:Bool)(r:oG):Bool:=bY r.a&&(bY r.b&&((a||decide (r.b=0))&&(xO r.c&&lV r.f)))
def xX(x:aE):Bool:=fG x.b&&x.a.all (iT x.c)
def Du(x:pA):Bool:=decide (x.e=0)&&(sF x.i []&&(decide (x.j.length=0)&&Dq x.v))
def oW(x:qD):Bool:=
 fG x.g&&(fG x.e&&(xO x.f&&(xO x.c&&((xO x.i||decide (x.i=65536))&&(if x.h=true then Du x.a&&Du x.b else qJ x.a 1&&qJ x.b 1)))))
def fR(p:uD):Bool:=fG p.e&&(p.c.all aR&&(p.a.all xX&&p.b.all oW))
end
section
variable {a v:O}{n:Int}{bf:Nat}{cs:List O}{p:uD}
variable [fC]
variable {t:G uA}
def allF (S el f:Nat)(zs:List O)(cond:yH->Bool)(a b:O)(n i:Int):T:=
 .a (fB i n)
  (.d (zC Y S b (.e .i64 i)) λc=>.e (λm=>oA Y el ⟨0,m⟩ c) λd=>.o zs d λX=>
   .a (cond X) (.n a [.i (qX zs X 0)] λe=>.q e λg=>.a (!g) (.l (.d false)) (.j 2 [a,b,.e .i64 n,.e .i64 (cA .i64 (i+1))])) .g)
  (.l (.d true))
theorem AF{m:Type}{dd:m->D}{P:m->Bool}{S el sz f:Nat}{zs:List O}{cond:yH->Bool}{h j:O}(u:mG Y S el sz true){l:List m}(A:∀x∈l,(dd x).g=zs)(z:bA t sz (l.map dd) j)(o:l.length<1000000000000000000)
  (n:∀i t Q,wp f (allF S el f zs cond h j l.length i) t Q->jp f 2 [h,j,.e .i64 (l.length:Int),.e .i64 i] t Q)
  (v:∀cs,nD O.z cs=true->lU zs cs=true->cond (AN cs)=true)
  (a:∀x∈l,∀cs,RD t (dd x) cs->∀(R:mB),R (.d (P x)) t->oD (eM h [.i cs]) λp=>Wq Y F dC p.1 p.2 t R) :
  ∀(k i:Nat),i+k=l.length->jp f 2 [h,j,.e .i64 (l.length:Int),.e .i64 (i:Int)] t (λx t'=>x=.d ((l.drop i).all P)/\t'=t):=by
 intro k;induction k with
 | zero=>
  intro i y;refine n _ _ _ (wB (dK (by omega)) ?_);rw[F1 (by omega)];exact⟨rfl,rfl⟩
 | succ k I=>
  intro i y;have c:i<l.length:=by omega
  have q:l[i]∈l:=F2 c;obtain⟨b,B,cs,r,s,C,E,g⟩:=mG.at u (by simp) z (i:=i) (d:=dd l[i]) (by simp[c]);refine n _ _ _ (tA (iK (by omega)) (vA r (iB s ?_)));rw[Cf];have e:=A _ q;refine aC (vO g e) (tA (v cs g.e (by grind [Yr])) ?_);rw[g.mk e];refine a _ q cs g _ ?_;refine cC ?_;have w:l.drop i=l[i]::l.drop (i+1):=F8 c;rw[w,ce]
  cases H:P l[i]with
  | false=>exact tA rfl ⟨rfl,rfl⟩
  | true=>
   grind [wB,sC,A2]
theorem HJ{x:pA}{b c:O}(i:x.b)(f:bA t 1 (vD x.v.f.n.a) a)(g:bA t 1 (vD x.v.f.d.a) b)(h:bA t 9 (x.j.map pA.d) c):oB Y F 150 [.i (qN x a b c)] t=some (.d (Du x)):=by
 obtain⟨k,e,v,d⟩:=x;simp only[pA.e,pA.i,pA.v,pA.j,Du,qN]at f g h ⊢;unfold pA.b at i;have j:vC c=some (.e .i64 (d.length:Int)):=by rw[h.c,C5]
 refine lC.2 (w150 ?_);unfold t150 uI uB rB V uY;by_cases l:k=0
 case neg=>grind [lM,iA]
 refine tA (wS (by omega)) ?_
 cases m:sF e []with
 | false=>grind [iA]
 | true=>
  refine tA rfl (vA j (tB ?_));by_cases n:d.length=0
  case neg=>grind [lM,iA]
  refine tA (wS (by omega)) (aA ?_);rw[q61,HF f g i.2.2.2.1.2.1.1,xA];grind [cC,iA]
theorem zpw{l:List pF} (c:bA t 3 (l.map pF.d) v)(a:l.length<tE):oB Y F 89 [v,.q (.aa 88) [] []] t=some (.d (l.all aR)):=by
 unfold tE at a;refine lC.2 (w89 ?_);unfold t89 uI V;refine vA c.c (tB (sC ?_));rw[C5];refine AF (dd:=pF.d) (P:=aR) (S:=48) (el:=89) (zs:=[.h [],.e .u8 0,.d false]) (cond:=λ_=>true) TO (λx _=>x.f) c (by omega) (λi t Q h=>j89_2 h) (λ_ _ _=>rfl) ?_ l.length 0 (by omega);intro x e cs b R d;have:=Nk b;subst this;show oD (some (88,[O.i [.h x.a,.e .u8 x.b,.d x.c]])) _;rw[xA];have:oB Y F 88 [O.i [.h x.a,.e .u8 x.b,.d x.c]] t=some (.d (aR x)):=by
  refine lC.2 (w88 ?_);unfold t88 aR uB rB;refine aA ?_;rw[q60,Kw,xA];grind [cC,iA,zf]
 rw[q88,this,xA];exact d
def zv8  : oB Y F 147 [.e .i64 n] t=some (.d (bY n)):=by
 refine lC.2 (w147 ?_);unfold t147 bY rB;by_cases h : -2147483648<=n
 .refine tA (V1 h) ?_;rw[decide_eq_true h,E5,<- wD];exact⟨rfl,rfl⟩
 .refine wB (V0 h) ?_;rw[decide_eq_false h,Bool.false_and];exact⟨rfl,rfl⟩
def Zl  : oB Y F 71 [.e .i64 n] t=some (.d (xO n)):=OX
theorem zuy{a:Bool}{r:oG}{u:O}{k b:Nat}{s:O}{B:List Nat}(z:bA t 1 (vD r.f.n.a) u)(A:bA t 1 (vD r.f.d.a) v)(w:r.f.a)(y:xC t k none [.q (.aa 147) [] []])(q:xC t b none [.h B,.d a,s]) :
  oB Y F 148 [.i [.e .i64 r.a,.e .i64 r.b,.e .i64 r.c,.d r.f.n.b,u,.d r.f.d.b,v],.j k 0,.j b 0] t=some (.d (iT a r)):=by
 refine lC.2 (w148 ?_);have c:oA Y 152 ⟨0,t⟩ (.j k 0)=some (.q (.aa 147) [] []):=y.f (j:=0) y7 rfl rfl;have i:oA Y 4 ⟨0,t⟩ (.j b 1)=some (.d a):=q.f (j:=1) yy rfl rfl;have g:jB Y 92 1 (.j b 0)=some (.j b 1):=by kernel_rfl
 have m:∀(n:Int) (K:O->T) (Q:mB),wp 148 (K (.d (bY n))) t Q->wp 148 (.n (.q (.aa 147) [] []) [.e .i64 n] K) t Q:=by
  intro n K Q h;show oD (some (147,[O.e .i64 n])) _;rw[xA];simp only[];rw[q147,zv8,xA];exact h
 have p:∀(D:Bool),(wp 148 (.c 71 [(.e .i64 r.c)] λo=>
 .q o λe=>.a e
 (.c 69 [(.i [(.d r.f.n.b),u,(.d r.f.d.b),v])] λd=>
 .q d λf=>.l (.d f))
 (.l (.d false))) t (λx C=>x=.d (xO r.c&&lV r.f)/\C=t)):=by
  intro _;refine aA ?_;rw[q71,Zl,xA];refine cC ?_
  cases h:xO r.c with
  | false=>exact wB (by simp) ⟨rfl,rfl⟩
  | true=>
   refine tA rfl (aA ?_);rw[q69,KY z A w,xA];exact cC ⟨rfl,rfl⟩
 unfold t148 iT J6 uB rB V;refine iB c (m _ _ _ (cC ?_))
 cases E:bY r.a with
 | false=>exact wB (by simp) ⟨rfl,rfl⟩
 | true=>
  refine tA rfl (iB c (m _ _ _ (cC ?_)))
  cases H:bY r.b with
  | false=>exact wB (by simp) ⟨rfl,rfl⟩
  | true=>
   refine tA rfl (vA g (iB i (cC ?_)))
   cases a with
   | true=>
    simp_all [tA]
   | false=>
    refine wB (by simp) ?_;by_cases l:r.b=0
    .simp_all [tA,wS]
    .refine wB (lM l) ?_;simp only[decide_eq_false l,Bool.or_false,Bool.false_and,E9];exact⟨rfl,rfl⟩
theorem zlu{x:aE} (E:bA t 7 (x.a.map oG.d) a)(H:x.e):oB Y F 91 [.i [.h x.b,.d x.c,a]] t=some (.d (xX x)):=by
 have p:=H.2.1;unfold tE at p;refine mV (w91 ?_);unfold t91 uB uS rB;refine jC λb W y=>?_;obtain⟨t1,L,D,l1,o1⟩:=Ep W [.h x.b,.d x.c,a] none;refine⟨.j b 0,⟨b+1,t1⟩,by rw[<- L];rfl,?_⟩;refine jC λk hk f=>?_;obtain⟨t2,M,J,l2,o2⟩:=yQ (C:=Y) y7 hk;refine⟨_,_,M,?_⟩;refine jC λn _ _=>?_;obtain⟨B,N,K,I⟩:=J.g (v:=.q (.aa 147) [] []) f y7 rfl rfl rfl (j:=0) (by simp);refine⟨_,_,N n,?_⟩;have l:b≠k:=by intro e;obtain⟨c,h,_⟩:=D;simp_all
 have q:xC B b none [.h x.b,.d x.c,a]:=D.i (by rw[I b l,o2 b l]);have d:zB t B:=λc u Z=>by
  have s:=l1 _ _ Z;have w:c≠k:=λe=>by simp_all
  rw[I c w];exact l2 _ _ s
 have m:jB Y 92 0 (.j b 0)=some (.j b 0):=by kernel_rfl
 have o:jB Y 92 2 (.j b 0)=some (.j b 2):=by kernel_rfl
 refine vA m (iB (q.f (j:=0) iI rfl rfl) (gC (aA ?_)));rw[q60,Kw,xA];refine cC ?_;unfold xX
 cases s:fG x.b with
 | false=>exact wB (by simp) ⟨rfl,d⟩
 | true=>
  refine tA rfl (vA o (iB (q.f (j:=2) dc rfl rfl) (aA ?_)));have g:oB Y F 149 [a,.q (.aa 148) [] [.j k 0,.j b 0]] B=some (.d (x.a.all (iT x.c))):=by
   refine lC.2 (w149 ?_);unfold t149 uI V;refine vA (E.a d).c (tB (sC ?_));rw[C5];refine AF (dd:=oG.d) (P:=iT x.c) (S:=90) (el:=94) (zs:=[.e .i64 0,.e .i64 0,.e .i64 0,.d false,.g,.d false,.g]) (cond:=λX=>nD O.z [(.e .i64 (X.i 0)),(.e .i64 (X.i 1)),(.e .i64 (X.i 2)),(.d (X.b 3)),(X.v 4),(.d (X.b 5)),(X.v 6)]) T0 (λx _=>x.g) (E.a d) (by omega) (λi t Q h=>j149_2 h) ?_ ?_ x.a.length 0 (by omega)
   .intro cs s w;have T:qX [.e .i64 0,.e .i64 0,.e .i64 0,.d false,.g,.d false,.g] (AN cs) 0=cs:=by simpa using To _ cs [] w
    have e:[O.e .i64 ((AN cs).i 0),.e .i64 ((AN cs).i 1),.e .i64 ((AN cs).i 2),.d ((AN cs).b 3),(AN cs).v 4,.d ((AN cs).b 5),(AN cs).v 6]=cs:=T
    simp_all
   .intro r A cs z R U;obtain⟨u,v,rfl,hu,hv⟩:=Nj z;show oD (some (148,[O.i [.e .i64 r.a,.e .i64 r.b,.e .i64 r.c,.d r.f.n.b,u,.d r.f.d.b,v],.j k 0,.j b 0])) _;rw[xA];simp only[];rw[q148,zuy hu hv (H.2.2 r A).2.2.2 K q,xA];exact U
  rw[q149,g,xA];exact cC ⟨rfl,d⟩
theorem zct{l:List aE} (d:bA t 3 (l.map aE.d) v)(b:l.length<tE)(n:∀x∈l,x.e):oB Y F 90 [v,.q (.aa 91) [] []] t=some (.d (l.all xX)):=by
 unfold tE at b;refine lC.2 (w90 ?_);unfold t90 uI V;refine vA d.c (tB (sC ?_));rw[C5];refine AF (dd:=aE.d) (P:=xX) (S:=49) (el:=92) (zs:=[.h [],.d false,.g]) (cond:=λX=>nD O.z [(.h (X.s 0)),(.d (X.b 1)),(X.v 2)]) O4 (λx _=>x.f) d (by omega) (λi t Q h=>j90_2 h) ?_ ?_ l.length 0 (by omega)
 .intro cs o f;have g:qX [.h [],.d false,.g] (AN cs) 0=cs:=by simpa using To _ cs [] f
  have e:[O.h ((AN cs).s 0),.d ((AN cs).b 1),(AN cs).v 2]=cs:=g
  simp_all
 .intro x m cs c R j;obtain⟨a,rfl,k⟩:=Rs c;show oD (some (91,[O.i [.h x.b,.d x.c,a]])) _;rw[xA];simp only[];rw[q91,zlu k (n x m),xA];exact j
theorem zcc (A:xC t bf none cS){x:qD} (E:x.j)(Q:RD t x.d cs):oB Y F 93 [.i [.j bf 0],.i cs] t=some (.d (oW x)):=by
 obtain⟨a,b,c,H,I,J,rfl,D,C⟩:=Kh Q;have i:=E.2.2.2.2.2.1;have g:=E.2.2.2.2.2.2;obtain⟨S,U,X,d,M,N,P⟩:=bI D;obtain⟨T,W,Z,e,u,w,y⟩:=bI C;simp only[qN,List.cons.injEq,true_and,and_true]at d e;obtain⟨rfl,rfl,rfl⟩:=d;obtain⟨rfl,rfl,rfl⟩:=e;have f:∀(k j:List O),k=qN x.a a b c->j=qN x.b H I J->wp 93 (.a x.h
 (.c 150 [(.i k)] λl=>
 .q l λp=>.a p
 (.c 150 [(.i j)] λm=>
 .q m λq=>.l (.d q))
 (.l (.d false)))
 (.c 27 [(.i [.j bf 0]),(.i k),(.e .i64 1)] λn=>
 .q n λr=>.a r
 (.c 27 [(.i [.j bf 0]),(.i j),(.e .i64 1)] λo=>
 .q o λs=>.l (.d s))
 (.l (.d false)))) t (λv R=>v=.d (if x.h=true then Du x.a&&Du x.b else qJ x.a 1&&qJ x.b 1)/\R=t):=by
  intro k j L K;subst L;subst K
  cases B:x.h with
  | true=>
   refine tA rfl (aA ?_);rw[q150,HJ i M N P,xA];refine cC ?_;rw[A5 rfl]
   cases h:Du x.a with
   | false=>exact wB (by simp) ⟨rfl,rfl⟩
   | true=>
    refine tA rfl (aA ?_);rw[q150,HJ g u w y,xA];exact cC ⟨rfl,rfl⟩
  | false=>
   refine wB (by simp) (aA ?_);have d:=FG A x.a 1 _ i (by omega) D;have e:=FG A x.b 1 _ g (by omega) C;rw[show((1:Nat):Int)=1 from rfl]at d e;rw[q27,d,xA];refine cC ?_;rw[A3 (by simp)]
   cases h:qJ x.a 1 with
   | false=>exact wB (by simp) ⟨rfl,rfl⟩
   | true=>
    refine tA rfl (aA ?_);rw[q27,e,xA];exact cC ⟨rfl,rfl⟩
 refine lC.2 ?_;unfold qN;refine w93 ?_;unfold t93 oW ff uB rB V uY;refine aA ?_;rw[q60,Kw,xA];refine cC ?_
 cases h1:fG x.g with
 | false=>exact tA rfl ⟨rfl,rfl⟩
 | true=>
  refine wB (by simp) (aA ?_);rw[q60,Kw,xA];refine cC ?_
  cases h2:fG x.e with
  | false=>exact tA rfl ⟨rfl,rfl⟩
  | true=>
   refine wB (by simp) (aA ?_);rw[q71,Zl,xA];refine cC ?_
   cases h3:xO x.f with
   | false=>exact tA rfl ⟨rfl,rfl⟩
   | true=>
    refine wB (by simp) (aA ?_);rw[q71,Zl,xA];refine cC ?_
    cases h4:xO x.c with
    | false=>exact tA rfl ⟨rfl,rfl⟩
    | true=>
     refine wB (by simp) (aA ?_);rw[q71,Zl,xA];refine cC ?_;simp only[E5]
     cases h5:xO x.i with
     | false=>
      refine tA rfl ?_;by_cases z:x.i=65536
      .refine wB (by grind [wS]) ?_;simp only[decide_eq_true z,Bool.or_true,E5];exact f _ _ rfl rfl
      .have:kB x.i 65536=false:=by
        grind [lM]
       refine tA (by simp_all) ?_;simp only[decide_eq_false z,Bool.or_false,Bool.false_and];exact⟨rfl,rfl⟩
     | true=>
      refine wB (by simp) ?_;simp only[Bool.true_or,E5];exact f _ _ rfl rfl
theorem ZS (g:xC t bf none cS){l:List qD} (d:bA t 24 (l.map qD.d) v)(b:l.length<tE)(m:∀x∈l,x.j):oB Y F 92 [v,.q (.aa 93) [.i [.j bf 0]] []] t=some (.d (l.all oW)):=by
 unfold tE at b;refine lC.2 (w92 ?_);unfold t92 uI V;refine vA d.c (tB (sC ?_));rw[C5];refine AF (dd:=qD.d) (P:=oW) (S:=50) (el:=60) (zs:=[(.h []),(.h []),(.e .i64 0),(.e .i64 0),(.e .i64 0),(.d false),(.e .u8 0),(.h []),(.e .u8 0),(.d false),.g,(.d false),.g,(.e .i64 0),.g,(.e .u8 0),(.h []),(.e .u8 0),(.d false),.g,(.d false),.g,(.e .i64 0),.g])
  (cond:=λa=>nD O.z [(.h (a.s 0)),(.h (a.s 1)),(.e .i64 (a.i 2)),(.e .i64 (a.i 3)),(.e .i64 (a.i 4)),(.d (a.b 5)),(.e .u8 (a.i 6)),(.h (a.s 7)),(.e .u8 (a.i 8)),(.d (a.b 9)),(a.v 10),(.d (a.b 11)),(a.v 12),(.e .i64 (a.i 13)),(a.v 14),(.e .u8 (a.i 15)),(.h (a.s 16)),(.e .u8 (a.i 17)),(.d (a.b 18)),(a.v 19),(.d (a.b 20)),(a.v 21),(.e .i64 (a.i 22)),(a.v 23)]) O5 (λx _=>x.k) d (by omega) (λi t Q h=>j92_2 h) ?_ ?_ l.length 0 (by omega)
 .intro cs n e;have f:=To _ cs [] e;rw[F3,G2]at f;show nD O.z (qX [(.h []),(.h []),(.e .i64 0),(.e .i64 0),(.e .i64 0),(.d false),(.e .u8 0),(.h []),(.e .u8 0),(.d false),.g,(.d false),.g,(.e .i64 0),.g,(.e .u8 0),(.h []),(.e .u8 0),(.d false),.g,(.d false),.g,(.e .i64 0),.g] (AN cs) 0)=true
  simp_all
 .intro x k cs c R j;show oD (some (93,[.i [.j bf 0],O.i cs])) _;rw[xA];simp only[];rw[q93,zcc g (m x k) c,xA];exact j
def zmz (e:xC t bf none cS)  (d:p.f)(i:RD t p.d cs):oB Y F 45 [.i [.j bf 0],.i cs] t=some (.d (fR p)):=by
 obtain⟨a,b,c,rfl,f,g,h⟩:=nY i;refine lC.2 (w45 ?_);unfold t45 fR uB rB;refine aA ?_;rw[q60,Kw,xA];refine cC ?_
 cases j:fG p.e with
 | false=>exact wB (by simp) ⟨rfl,rfl⟩
 | true=>
  refine tA rfl (aA ?_);rw[q89,zpw f d.ak,xA];refine cC ?_
  cases k:p.c.all aR with
  | false=>exact wB (by simp) ⟨rfl,rfl⟩
  | true=>
   refine tA rfl (aA ?_);rw[q90,zct g d.aj d.ah,xA];refine cC ?_
   cases l:p.a.all xX with
   | false=>exact wB (by simp) ⟨rfl,rfl⟩
   | true=>
    refine tA rfl (aA ?_);rw[q92,ZS e h d.ac d.aa,xA];exact cC ⟨rfl,rfl⟩
def XC  (i:p.f)(g:RD t p.d cs):oB Y F 18 [.i cs] t=some (.d (fR p)):=by
 have d:=g;obtain⟨a,b,c,rfl,m,n,o⟩:=nY g;refine mV (w18 ?_);unfold t18 uB uG;refine aA ?_;rw[q26];refine XQ λbf q j k h f l=>?_;refine aC (aQ rfl) (tA ?_ (aA ?_))
 .exact d.i
 .have e:(AN [O.j bf 0]).v 0=.j bf 0:=rfl;rw[q45,e,zmz h i (d.f f),xA];exact cC ⟨rfl,f⟩
end
section
variable {n:Nat}{f:qF}
theorem FT{ds es:List Nat}(k:ds≠[])(g:∀b∈ds,fD b=true)(w:fP ds=false){s:List Nat}(n:s=ds/\es=[]\/s=ds++47::es/\es≠[]/\es≠[48])(i:∀b∈es,fD b=true)(t:fP es=false)(v:s.length<=200):fE s=.aa 2 s:=by
 have l:nE s=ds/\sH s=es/\vH s=s.length:=by
  rcases n with⟨rfl,rfl⟩ | ⟨rfl,o,_⟩
  .have l:nE s=s:=by
    have:=Ae (p:=fD) (a:=s) (r:=[]) g (λb u e=>by cases e)
    rwa [Do]at this
   grind [sH,vH]
  .have:=zbp (r:=[]) k g o i (λb u e=>by cases e)
   rwa [Do]at this
 have f:∀b∈s,b≠45:=by
  rcases n with⟨rfl,rfl⟩ | ⟨rfl,_,_⟩
  .simp_all [Ox]
  .intro b d;rcases F7.1 d with h | h
   .simp_all [Ox]
   .rcases C6.1 h with rfl | h
    all_goals simp_all [Ox]
 have q:es≠[48]:=by
  grind
 have d:mM s=false:=by
  grind [mM,mU]
 have c:=zvg f;obtain⟨x,r,e,j⟩:∃x r,s=x::r/\fD x=true:=by
  obtain⟨x,r,rfl,j⟩:=PP k g
  grind
 have m:=l.2.2;rw[e]at d c m ⊢;unfold fE;simp only[(Ox j).2.2.2.2.2.2,j,c,d,F5,if_false,if_true,E9];rw[m,List.take_length]
def yM (f:qF):List Nat:=eF (A4 65536 f.n.a)++(if kX f.d then []else 47::eF (A4 65536 f.d.a))
theorem PQ(s:List Nat):nU s [45]=decide (s.head?=some 45):=by
 unfold nU
 cases s with
 | nil=>rfl
 | cons x r=>
  rw[decide_eq_true (by simp)];simp only[D6,G2,List.take,E5,List.head?_cons,Option.some.injEq];by_cases h:x=45
  .subst h;rfl
  grind [zsx]
theorem RV {r:List Nat}:(eF n++r).head?≠some 45:=by
 obtain⟨x,b,e,a⟩:=PP (Zh n) (Ls n);rw[Bf,e];intro h;cases h;cases a
def Hv(neg:Bool):List Nat:=if neg then [109,105,110,117,115,32]else []
theorem We (h:f.d.b=false):gH (pK f)=Hv f.n.b++yM f/\(if nU (pK f) [45]then(pK f).drop 1 else pK f)=yM f:=by
 grind [gH,pK,yM,Gn,dh,PQ,Hv,RV]
def BT{n:Int}:gH (wJ n)=Hv (decide (n<0))++eF n.natAbs:=by
 unfold gH Hv;rw[PQ];by_cases h:n<0
 .obtain⟨u,rfl,a⟩:∃u:Nat,n = -(u:Int)/\0<u:=⟨n.natAbs,by omega,by omega⟩
  grind [EC]
 .obtain⟨u,rfl⟩:∃u:Nat,n=(u:Int):=⟨n.toNat,by omega⟩;rw[Xy,show(u:Int).natAbs=u by omega];have:(eF u).head?≠some 45:=by have:=RV (n:=u) (r:=[]);rwa [Do]at this
  simp_all
def PZ (a:f.a)(d:oM f=true):f.d.b=false/\f.d.a=iC (A4 65536 f.d.a)/\f.n.a=iC (A4 65536 f.n.a)/\0<A4 65536 f.d.a/\(f.n.b=true->0<A4 65536 f.n.a)/\Nat.gcd (A4 65536 f.n.a) (A4 65536 f.d.a)=1/\(kX f.d=true->A4 65536 f.d.a=1):=by
 obtain⟨_,g,i⟩:=a;unfold oM at d;simp only[B3,E7,H5,decide_eq_true_eq]at d;obtain⟨⟨⟨⟨⟨⟨_,_⟩,k⟩,m⟩,r⟩,p⟩,q⟩:=d;have c:∀ {b:Bool} {l:List Nat},rL b l=true->B5 l:=by
  intro b l h e;grind [rL]
 have n:=Sx g (c k) rfl;have o:=Sx i (c m) rfl;have j:kX f.d=true->A4 65536 f.d.a=1:=by
  intro h;unfold kX at h;simp only[B3,decide_eq_true_eq]at h;rw[h.2];rfl
 grind [Ez,rL,Nat.gcd_one_right]
theorem DC (c:f.a)(q:oM f=true):kL (yM f) f.n.b=f:=by
 obtain⟨d,g,i,t,j,k,n⟩:=PZ c q;have s:kL (yM f) f.n.b=oK f.n.b (A4 65536 f.n.a) (A4 65536 f.d.a):=by
  unfold kL yM;rw[Bf,Bf];by_cases h:kX f.d=true
  .rw[A5 h,Do,FX,n h];have:jL (nJ (A4 65536 f.n.a))=nJ (A4 65536 f.n.a):=by
    have:=Ae (p:=λb=>decide (b≠47)) (a:=nJ (A4 65536 f.n.a)) (r:=[]) (λb o=>Tz (Ls _ b o)) (λb u e=>by cases e)
    rwa [Do]at this
   grind [Uf]
  grind [zo4,Ls,Uf]
 rw[s];unfold oK;rw[k,Nat.div_one,Nat.div_one,<- g,<- i];obtain⟨⟨a,l⟩,⟨b,m⟩⟩:=f;simp only at d j ⊢;rw[d];cases a
 all_goals grind
def zm9 (a:f.a)(c:oM f=true)(b:(yM f).length<=200):fE (yM f)=.aa 2 (yM f):=by
 obtain⟨d,g,i,j,k,l,m⟩:=PZ a c;have e:yM f=nJ (A4 65536 f.n.a)++(if kX f.d then []else 47::nJ (A4 65536 f.d.a)):=by unfold yM;rw[Bf,Bf]
 by_cases h:kX f.d=true
 .rw[A5 h,Do]at e;exact FT (es:=[]) (Zh _) (Ls _) (FY _) (.inl ⟨e,rfl⟩) (by simp) rfl b
 grind [FT,Zh,Ls,FY,zju]
def zjo (h:n<10^200):fE (eF n)=.aa 2 (eF n):=by
 rw[Bf];exact FT (es:=[]) (Zh _) (Ls _) (FY _) (.inl ⟨rfl,rfl⟩) (by simp) rfl (FZ 199 n h)
end
section
variable {s y w:List Nat}{c k:Nat}{R l z:List pD}{neg:Bool}{f:qF}{v:gE}{a:pD}
def Lx (s:List Nat)(l:List pD):Prop:=∀r o,Hd r->iS (s++r) o=(iS r true).map λm=>l++m
theorem Lx.i  (h:fE w=.aa k w):Lx w [(k,w)]:=by
 intro r o a
 cases w with
 | nil=>have h:TR.ac 110=.aa k []:=h;cases h
 | cons b w=>
  grind [zlk,NC]
theorem Lx.u  (h:Lx s l)(a:Lx y z):Lx (s++32::y) (l++z):=by
 intro r o b;rw[D5,List.cons_append,h _ _ (λc d e=>by simp_all),zhl (.inl rfl),a _ _ b]
 simp_all [Function.comp_def]
theorem Sq (b:Ie c=true)(r:List Nat)(o:Bool):iS (c::r) o=(iS r true).map λm=>(4,[c])::m:=by
 have a:c=40\/c=41\/c=44\/c=43\/c=45\/c=42\/c=47\/c=60\/c=61:=by simp_all [Ie]
 grind [fE,bN,fD,NC]
theorem Lx.x  (h:Lx s l):Lx ([40]++s++[41]) ((4,[40])::(l++[(4,[41])])):=by
 intro r o a;rw[show [40]++s++[41]++r=40::(s++(41::r)) by simp,Sq rfl,h _ _ (λc b e=>by grind),Sq rfl]
 simp_all [Function.comp_def]
theorem Lx.sg   (h:Lx s l)(a:c=40\/c=41\/c=44):Lx (s++[c]) (l++[(4,[c])]):=by
 intro r o b;rw[D5,h _ _ (λd f e=>by simp_all),List.singleton_append,Sq (by rcases a with rfl | rfl | rfl<;>rfl)]
 simp_all [Function.comp_def]
theorem Lx.p  (h:Lx s l)(a:Lx y z)(f:∃c r,y=c::r/\(c=40\/c=41\/c=44)):Lx (s++y) (l++z):=by
 intro r o b;obtain⟨c,g,rfl,i⟩:=f;rw[D5,h _ _ (λd g e=>by simp_all),a _ _ b]
 simp_all [Function.comp_def]
theorem Lx.q   (h:Lx s l)(a:Ie c=true):Lx (c::s) ((4,[c])::l):=by
 intro r o b;rw[List.cons_append,Sq a,h _ _ b];simp_all [Function.comp_def]
def Lx.t  (h:Lx s l):Lx (32::s) l:=by
 intro r o a;rw[List.cons_append,zhl (.inl rfl),h _ _ a]
theorem Lx.g    (h:fE w=.aa k w)(a:Lx s l):Lx (w++32::s) ((k,w)::l):=(Lx.i h).u a
def jM(neg:Bool):List pD:=if neg then [(1,pJ)]else []
def rY (v:gE):List pD:=
 if v.a=1 then [(1,if v.i=1 then Ml else Mo)]
 else if v.a=2 then jM v.f.n.b++[(2,yM v.f)]
 else if v.a=3 then(1,Jm)::(jM v.f.n.b++[(2,yM v.f)])
 else if v.a=4 then [(3,rH v.i.toNat)]
 else jM (decide (v.i<0))++[(2,eF v.i.natAbs),(1,if v.a=5 then vY else wY)]
def Lx.j   (h:Lx s l):Lx (Hv neg++s) (jM neg++l):=by
 unfold Hv jM;cases neg
 .exact h
 .exact Lx.g (w:=pJ) (by kernel_rfl) h
theorem Wu (h:lV f=true):oM f=true/\f.d.b=false/\(yM f).length<=200:=by
 have a:f.d.b=false:=by grind [lV,oM]
 grind [lV,We]
def ER (a:f.a)(h:lV f=true):Lx (gH (pK f)) (jM f.n.b++[(2,yM f)]):=by
 obtain⟨b,c,d⟩:=Wu h;rw[(We c).1];exact(Lx.i (zm9 a b d)).j
theorem CP (h:zM v=true):v.a=1/\v.f=zK/\(v.i=0\/v.i=1)\/(v.a=2\/v.a=3)/\v.i=0/\lV v.f=true\/v.a=4/\v.f=zK/\0<=v.i/\v.i<65536\/(v.a=5\/v.a=6)/\v.f=zK /\ -1048576<=v.i/\v.i<=1048576:=by
 unfold zM at h;split at h
 all_goals grind [HG]
theorem ztr (a:v.f.a)(h:zM v=true):Lx (Gs v) (rY v):=by
 have b:=CP h;obtain⟨l,f,i⟩:=v;simp only at b a;rcases b with⟨rfl,_,j⟩ | ⟨k,_,c⟩ | ⟨rfl,_,e,g⟩ | ⟨k,_,e,g⟩
 .show Lx (if i=1 then [116,114,117,101]else [102,97,108,115,101]) [(1,if i=1 then Ml else Mo)];split
  .exact Lx.i (by kernel_rfl)
  .exact Lx.i (by kernel_rfl)
 .rcases k with rfl | rfl
  .exact ER a c
  .exact Lx.g (w:=Jm) (by kernel_rfl) (ER a c)
 .exact Lx.i (w:=rH i.toNat) (SC (by omega))
 .have d:fE (eF i.natAbs)=.aa 2 (eF i.natAbs):=zjo (Nat.lt_of_lt_of_le (show i.natAbs<10^7 by omega) (L7 (by omega) (by omega)));rcases k with rfl | rfl
  .show Lx (gH (wJ i)++[32,100,97,121,115]) _;rw[BT,D5];exact(Lx.g d (Lx.i (w:=vY) (k:=1) (by kernel_rfl))).j
  .show Lx (gH (wJ i)++[32,109,111,110,116,104,115]) _;rw[BT,D5];exact(Lx.g d (Lx.i (w:=wY) (k:=1) (by kernel_rfl))).j
section
variable {tk:List xD}{K:List pD}{n:Nat}
def kg (h:K.drop n=l++R){i:Nat}(hi:i<l.length):K[n+i]?=l[i]?:=by
 rw[<- lm,h,mg hi]
theorem cD  (h:K.drop n=a::R):K[n]?=some a:=by
 have:=kg (l:=[a]) (R:=R) h (i:=0) (by simp)
 simp_all
def wM (h:K.drop n=l++R):K.drop (n+l.length)=R:=by
 rw[<- List.drop_drop,h];simp
def rF  (h:K.drop n=a::R):K.drop (n+1)=R:=wM (l:=[a]) h
theorem Bs(a:tk.map kt=K){q:Nat}{u:List Nat}(h:K[n]?=some (q,u))(b:q=2\/q=3\/q=5)(w:List Nat):B0 tk w n=false:=by
 rw[Uv a h];rcases b with rfl | rfl | rfl<;>rfl
def zgy(R:List pD):Prop:=∀q u a,R=(q,u)::a->u≠vY/\u≠wY
theorem GZ(c:tk.map kt=K)  (h:K.drop n=R)(d:∀q u b,R=(q,u)::b->u≠w):B0 tk w n=false:=by
 cases R with
 | nil=>
  grind [List.drop_eq_nil_iff,MM]
 | cons a R=>exact eH c (cD h) (d a.1 a.2 R rfl)
def zf9(b:tk.map kt=K)   (h:K.drop n=(2,s)::R)(c:zgy R):kS tk neg n=.ok ⟨2,kL s neg,0⟩ (n+1):=by
 unfold kS;rw[Jx b (cD h)];show(if (B0 tk vY (n+1)||B0 tk wY (n+1))=true then _ else _)=_;rw[GZ b (rF h) λq u a e=>(c q u a e).1,GZ b (rF h) λq u a e=>(c q u a e).2];rfl
theorem zaz(a:tk.map kt=K) {i:Int}  {b:Bool}(h:K.drop n=(2,s)::(1,if b=true then vY else wY)::R)(d:xK s=false)(hi:sP s neg (-1048576) 1048576=some i):kS tk neg n=.ok ⟨if b=true then 5 else 6,zK,i⟩ (n+2):=by
 have c:=cD (rF h);unfold kS;rw[Jx a (cD h)];show(if (B0 tk vY (n+1)||B0 tk wY (n+1))=true then _ else _)=_
 grind [eH,tM]
def SL(b:tk.map kt=K)   (h:K.drop n=jM neg++(2,s)::R):yT tk n=(kS tk neg (n+(jM neg).length)).c λv c=>.ok (some v) c:=by
 unfold yT;cases neg
 .have a:=cD (show K.drop n=(2,s)::R from h);rw[Bs b a (.inl rfl),Bs b a (.inl rfl),Bs b a (.inl rfl),Bs b a (.inl rfl),Cv b a,Cv b a];rfl
 .have a:=cD (show K.drop n=(1,pJ)::(2,s)::R from h);rw[eH b a (by decide),eH b a (by decide),eH b a (by decide),tM b a (.inl rfl),Cv b a];rfl
theorem zjz(a:tk.map kt=K) (g:v.f.a)(h:zM v=true) (c:K.drop n=rY v++R)(r:zgy R):yT tk n=.ok (some v) (n+(rY v).length):=by
 have o:=CP h;obtain⟨l,f,i⟩:=v;simp only at o g;rcases o with⟨rfl,rfl,j⟩ | ⟨k,rfl,s⟩ | ⟨rfl,rfl,m,b⟩ | ⟨k,rfl,m,b⟩
 .have b:=cD (show K.drop n=(1,if i=1 then Ml else Mo)::R from c);unfold yT;rcases j with rfl | rfl
  .rw[A3 (by omega)]at b;rw[eH a b (by decide),tM a b (.inl rfl)];rfl
  .rw[A5 rfl]at b;rw[tM a b (.inl rfl)];rfl
 .obtain⟨u,w,_⟩:=Wu s;rcases k with rfl | rfl
  .have c:K.drop n=jM f.n.b++(2,yM f)::R:=by grind [rY]
   rw[SL a c,zf9 a (wM c) r,DC g u]
   grind [rY,PR.c]
  .have c:K.drop n=(1,Jm)::(jM f.n.b++(2,yM f)::R):=by grind [rY]
   have b:=cD c;unfold yT;rw[eH a b (by decide),eH a b (by decide),tM a b (.inl rfl),Cv a b];have t:B0 tk pJ (n+1)=f.n.b:=by
    have d:=rF c
    cases p:f.n.b with
    | false=>rw[p]at d;exact Bs a (cD (show K.drop (n+1)=(2,yM f)::R from d)) (.inl rfl) _
    | true=>rw[p]at d;exact tM a (cD (show K.drop (n+1)=(1,pJ)::(2,yM f)::R from d)) (.inl rfl)
   rw[t];have q:(if f.n.b=true then n+2 else n+1)=n+1+(jM f.n.b).length:=by unfold jM;split<;>rfl
   show(yK tk 2 (if f.n.b=true then n+2 else n+1)).c _=_;rw[q,Jx a (cD (wM (rF c)))];show PR.ok (some (⟨3,kL (yM f) f.n.b,0⟩:gE)) _=_
   grind [DC,rY]
 .have d:=cD (show K.drop n=(3,rH i.toNat)::R from c);unfold yT;rw[Bs a d (.inr (.inl rfl)),Bs a d (.inr (.inl rfl)),Cv a d,SA a d,GG (by omega)];show PR.ok (some (⟨4,zK,((i.toNat:Nat):Int)⟩:gE)) _=_;rw[show((i.toNat:Nat):Int)=i by omega];rfl
 .have e:rY ⟨l,zK,i⟩=jM (decide (i<0))++[(2,eF i.natAbs),(1,if l=5 then vY else wY)]:=by
   rcases k with rfl | rfl<;>rfl
  rw[e]at c ⊢;have c:K.drop n=jM (decide (i<0))++(2,eF i.natAbs)::(1,if decide (l=5)=true then vY else wY)::R:=by grind
  have j:sP (eF i.natAbs) (decide (i<0)) (-1048576) 1048576=some i:=by
   unfold sP;rw[Bf,Uf];have:(if decide (i<0)=true then -((i.natAbs:Nat):Int)else(i.natAbs:Nat))=i:=by
    grind
   simp only[this];rw[A5 ⟨m,b⟩]
  rw[SL a c,zaz a (wM c) (by rw[Bf];exact FX _) j];show PR.ok (some _) _=_
  grind
end
end
section
variable [fC]
variable {t:G uA}
def ot{f:qF}{u v:O}(a:bA t 1 (vD f.n.a) u)(b:bA t 1 (vD f.d.a) v)(c:f.c):oB Y F 25 [.i [.d f.n.b,u,.d f.d.b,v]] t=some (.e .i64 (nS f:Nat)):=by
 have d:=Rg c;refine lC.2 (w25 ?_);unfold nS at d   ⊢;simp (disch:=omega) only[uI,V,uW,t25,iA,a.c,b.c,xA,yC,fU,A2];simp
mutual
theorem gg:∀(x:pA) (left:Int) (cs:List O),x.q -> -9007199254740992<=left->left<=9007199254740992->RD t x.d cs->oB Y F 8 [.i cs,.e .i64 left] t=some (.e .i64 (xP x left))
 | .mk op name v args,left,cs,I,g,j,h=>by
  obtain⟨a,b,c,rfl,u,w,k⟩:=bI h;simp only[pA.e,pA.i,pA.v,pA.j]at u w k ⊢;have f:=I;unfold pA.q at f;have P:=Rg f.2.1;have r:=f.1;unfold tE at r;refine lC.2 (w8 ?_);simp (disch:=omega) only[uI,V,uY,uW,t8,iA,q25,ot u w f.2.1,xA,yC,Hg,Hh,if_true,oX,A2,Int.tdiv_eq_ediv_of_nonneg];unfold xP;exact zra args args left _ op name v _ _ c 0 k rfl f.2.2.2 f.2.2.1 (by omega) g j (by omega)
theorem zra:∀(l args:List pA) (left n:Int) (op:Nat) (name:List Nat) (v:gE) (a b c:O) (i:Nat),bA t 9 (args.map pA.d) c->args.drop i=l->pA.k l->args.length<tE->0<=n -> -9007199254740992<=left->left<=9007199254740992->n<=27021597764222976 →
  jp 8 2 [.e .i64 left,.e .i64 n,.e .i64 i,.e .u8 op,.h name,.e .u8 v.a,.d v.f.n.b,a,.d v.f.d.b,b,.e .i64 v.i,c] t (λv' t'=>v'=.e .i64 (oY l left n)/\t'=t)
 | [],args,left,n,op,name,v,a,b,c,i,k,q,o,m,r,g,j,s=>by
  have:=FP q;refine j8_2 ?_;simp only[uI,uG,uC,V,uY,uW,nF,t8_2,iA,k.c,xA,yC,C5,iE];grind [oY]
 | x::l,args,left,n,op,name,v,a,b,c,i,k,q,o,m,r,g,j,s=>by
  obtain⟨A,B,N⟩:=FQ q;unfold tE at m;have e:=o;unfold pA.k at e;refine j8_2 ?_;obtain⟨R,S,cs,y,z,L,M,p⟩:=mG.at J9 (by simp) k (i:=i) (d:=x.d) (by simp[A]);simp only[uI,uG,uC,V,uY,uW,nF,t8_2,iA,k.c,xA,yC,C5,iE,mI,y,z,Cf];rw[A5 (by omega)];unfold oY;split
  .rename_i H;obtain⟨J,K,c1,rfl,C,D,E⟩:=bI p;have Q:=Wd x (left-n) e.1;rw[vO p x.s];simp only[xA,AN,Tg,sq,Fz,Gt];simp (disch:=omega) only[q8,I2,I3,A2];rw[gg x (left-n) _ e.1 (by omega) (by omega) p];simp (disch:=omega) only[xA,yC,A2];have:=zra l args left (n+xP x (left-n)) op name v a b c (i+1) k B e.2 m (by omega) g j (by omega)
   simp_all
  .simp
end
end
section
variable {x:qD}{l:List qD}{i:Nat}
variable [fC]
variable {t:G uA}
def Ir(x:qD)(a b c a' b' c':O):List O:=[.h x.g,.h x.e,.e .i64 x.f,.e .i64 x.i,.e .i64 x.c,.d x.h,.e .u8 x.a.e,.h x.a.i,.e .u8 x.a.v.a,.d x.a.v.f.n.b,a,.d x.a.v.f.d.b,b,.e .i64 x.a.v.i,c,.e .u8 x.b.e,.h x.b.i,.e .u8 x.b.v.a,.d x.b.v.f.n.b,a',.d x.b.v.f.d.b,b',.e .i64 x.b.v.i,c']
def zcw:List O:=[(.h []),(.h []),(.e .i64 0),(.e .i64 0),(.e .i64 0),(.d false),(.e .u8 0),(.h []),(.e .u8 0),(.d false),.g,(.d false),.g,(.e .i64 0),.g,(.e .u8 0),(.h []),(.e .u8 0),(.d false),.g,(.d false),.g,(.e .i64 0),.g]
def za7 {a b c a' b' c':O}(g:O.z a=true)(h:O.z b=true)(i:O.z c=true)(d:O.z a'=true)(e:O.z b'=true)(f:O.z c'=true):nD O.z (Ir x a b c a' b' c')=true:=by
 rw[gI];simp only[Ir,ce,sa,g,h,i,d,e,f];rfl
def zkb {v:O}(n:bA t 24 (l.map qD.d) v)  (o:l[i]?=some x) :
  ∃p off a b c a' b' c',zC Y 50 v (.e .i64 (i:Int))=some (.j p off)/\oA Y 60 ⟨0,t⟩ (.j p off)=some (.i (Ir x a b c a' b' c'))/\mK zcw (.i (Ir x a b c a' b' c'))=some (AN (Ir x a b c a' b' c')) ∧
   RD t x.a.d (qN x.a a b c)/\RD t x.b.d (qN x.b a' b' c')/\nD O.z (Ir x a b c a' b' c')=true:=by
 obtain⟨p,off,A,k,m,_,_,g⟩:=mG.at O5 (by simp) n (i:=i) (d:=x.d) (by simp[o]);have q:=vO g x.k;obtain⟨a,b,c,a',b',c',rfl,h,j⟩:=Kh g;obtain⟨B,C,D,e,r,s,u⟩:=bI h;obtain⟨E,F,H,f,w,y,z⟩:=bI j;unfold qN at e f;cases e;cases f;exact⟨p,off,_,_,_,_,_,_,k,m,q,h,j,za7 r.e s.e u.e w.e y.e z.e⟩
def Ec:List pF->Int->Int
 | [],n=>n
 | d::l,n=>if n<=2000 then Ec l (n+(d.a.length:Int) / 30)else n
def vX:List oG->Int->Int
 | [],n=>n
 | r::l,n=>if n<=2000 then vX l (n+(nS r.f:Nat))else n
def Ad:List aE->Int->Int
 | [],n=>n
 | x::l,n=>if n<=2000 then Ad l (vX x.a (n+(x.b.length:Int) / 30))else n
def jR(c:qD)(n:Int):Int:=n+((c.g.length:Int) / 30+(c.e.length:Int) / 30+xP c.a (2000-n))
def tX:List qD->Int->Int
 | [],n=>n
 | c::l,n=>if n<=2000 then(if jR c n<=2000 then tX l (jR c n+xP c.b (2000-jR c n))else tX l (jR c n))else n
def uh(p:uD):Int:=tX p.b (Ad p.a (Ec p.c (1+(p.e.length:Int) / 30+p.c.length+p.a.length+p.b.length)))
def ui(n:Nat):Int.tdiv (n:Int) 30=(n:Int) / 30:=Int.tdiv_eq_ediv_of_nonneg (by omega)
section
variable {p:uD}{a b c:O}
theorem WE (j:bA t 24 (l.map qD.d) c)(T:l.length<1125899906842624)(P:∀x∈l,x.j):∀(m i:Nat) (n:Int),i+m=l.length->0<=n->n<1152921504606846976->jp 16 14 [.e .i64 2000,.e .i64 n,.e .i64 (i:Int),.h p.e,a,b,c] t (λv s=>v=.e .i64 (tX (l.drop i) n)/\s=t):=by
 intro m;induction m with
 | zero=>
  intro i n Q M N;refine zsb ?_;simp only[uI,uG,aB,uC,V,uY,uW,l8,xe,iA,j.c,xA,yC,C5,iE];rw[A3 (by omega),F1 (by omega)]
  (first | exact⟨rfl,rfl⟩ | exact⟨rfl,trivial⟩ | trivial)
 | succ m B=>
  intro i n Q M N;have d:i<l.length:=by omega
  obtain⟨q,R,X,Z,u3,w1,w2,w3,I,J,y,K,L,z⟩:=zkb j (D0 d);have e:=P _ (F2 d);obtain⟨D,E,_,_,_,F,H⟩:=e;unfold tE at D E;have f:=pA.g F;have g:=pA.g H;refine zsb ?_;simp only[uI,uG,aB,uC,V,uY,uW,l8,xe,iA,j.c,xA,yC,C5,iE,mI];rw[A5 (by omega),F8 d];unfold tX;by_cases A:n<=2000
  .rw[A5 A,A5 A];unfold zcw at y;rw[I,xA,J,xA,y,xA];unfold Ir at z;simp only[Ir,AN,Tg,sq,Fz,Gt,I2,I3];have U:=Wd l[i].a (2000-n) f;have r:=gg l[i].a (2000-n) _ f (by omega) (by omega) K;unfold qN at r;have S:jR l[i] n=n+((l[i].g.length:Int) / 30+(l[i].e.length:Int) / 30+xP l[i].a (2000-n)):=rfl;have C:cA .i64 (n+cA .i64 (cA .i64 (cA .i64 ((l[i].g.length:Int) / 30)+cA .i64 ((l[i].e.length:Int) / 30))+xP l[i].a (2000-n)))=jR l[i] n:=by
    rw[A2 (n:=(l[i].g.length:Int) / 30) (by omega) (by omega),A2 (n:=(l[i].e.length:Int) / 30) (by omega) (by omega),A2 (n:=(l[i].g.length:Int) / 30+(l[i].e.length:Int) / 30) (by omega) (by omega),
     A2 (n:=(l[i].g.length:Int) / 30+(l[i].e.length:Int) / 30+xP l[i].a (2000-n)) (by omega) (by omega),A2 (by omega) (by omega)]
    rfl
   have o:0<=jR l[i] n/\jR l[i] n<1152921504606846976:=by omega
   refine EE z ?_;rw[A2 (n:=2000-n) (by omega) (by omega),q8,r,xA,yC,xA];simp only[Hg,Hh,if_true,oX,ui,C,mI];have w:cA .i64 ((i:Int)+1)=((i+1:Nat):Int):=by grind [A2]
   generalize jR l[i] n=k at *;by_cases h:k<=2000
   .rw[A5 h,A5 h];have W:=Wd l[i].b (2000-k) g;have u:=gg l[i].b (2000-k) _ g (by omega) (by omega) L;unfold qN at u;rw[A2 (n:=2000-k) (by omega) (by omega),q8,u,xA,yC,xA,w,A2 (by omega) (by omega)];exact B (i+1) _ (by omega) (by omega) (by omega)
   .rw[A3 h,A3 h,w];exact B (i+1) _ (by omega) o.1 o.2
  grind
theorem JG:∀(l:List oG) (n:Int),(∀r∈l,r.e)->0<=n->0<=vX l n/\vX l n<=max n 4503599627372496
 | [],n,_,h=>by grind [vX]
 | r::l,n,a,h=>by
  unfold vX;split
  .have:=Rg (a r (by simp)).2.2.2.1;have:=JG l (n+(nS r.f:Nat)) (λx b=>a x (by simp[b])) (by omega);omega
  .omega
theorem QV{l:List aE}(f:bA t 3 (l.map aE.d) b) (hi:i<l.length):∃p o v,zC Y 49 b (.e .i64 (i:Int))=some (.j p o)/\jB Y 92 0 (.j p o)=some (.j p (o+0))/\jB Y 92 2 (.j p o)=some (.j p (o+2))/\oA Y 9 ⟨0,t⟩ (.j p (o+0))=some (.h l[i].b)/\oA Y 90 ⟨0,t⟩ (.j p (o+2))=some v/\bA t 7 (l[i].a.map oG.d) v:=by
 obtain⟨p,o,h,c,j,a,_,e⟩:=mG.at O4 (by simp) f (i:=i) (d:=l[i].d) (by simp_all);obtain⟨v,rfl,g⟩:=Rs e;exact⟨p,o,v,c,by kernel_rfl,by kernel_rfl,a.d iI rfl rfl,a.d dc rfl rfl,g⟩
theorem zfm{l:List aE}(L:bA t 3 (l.map aE.d) b)(M:∀x∈l,x.e) (hi:i<l.length)(N:i<1125899906842624){Q:mB}:∀(m j:Nat) (n:Int),j+m=l[i].a.length->0<=n->n<1152921504606846976 →
  jp 16 6 [.e .i64 2000,.e .i64 (vX (l[i].a.drop j) n),.e .i64 ((i+1:Nat):Int),.h p.e,a,b,c] t Q->jp 16 10 [.e .i64 2000,.e .i64 n,.e .i64 (i:Int),.e .i64 (j:Int),.h p.e,a,b,c] t Q:=by
 obtain⟨q,o,v,z,g2,h,g4,k,r⟩:=QV L hi;have f:=M _ (F2 hi);obtain⟨D,E,F⟩:=f;unfold tE at D E;have B:cA .i64 ((i:Int)+1)=((i+1:Nat):Int):=by grind [A2]
 intro m;induction m with
 | zero=>
  intro j n P I J e;rw[F1 (by omega)]at e;refine zsc ?_;simp only[uI,uG,uC,V,uW,P9,xd,iA];rw[z,xA,h,xA,k,xA,r.c,xA,C5,yC,xA];simp only[iE];rw[A3 (by omega),B];exact e
 | succ m ih=>
  intro j n P I J e;have g:j<l[i].a.length:=by omega
  rw[F8 g]at e;unfold vX at e;refine zsc ?_;simp only[uI,uG,uC,V,uW,P9,xd,iA];rw[z,xA,h,xA,k,xA,r.c,xA,C5,yC,xA];simp only[iE,mI];rw[A5 (by omega)];by_cases K:n<=2000
  .rw[A5 K]at e ⊢;obtain⟨u,s,cs,U,k2,W,_,X⟩:=mG.at T0 (by simp) r (i:=j) (d:=l[i].a[j].d) (by simp_all);obtain⟨x,y,rfl,R,S⟩:=Nj X;have H:jB Y 94 3 (.j u s)=some (.j u (s+3)):=by kernel_rfl
   have Z:oA Y 26 ⟨0,t⟩ (.j u (s+3))=some (.i [.d l[i].a[j].f.n.b,x,.d l[i].a[j].f.d.b,y]):=W.e (j:=3) ty26 rfl rfl (by simp_all);have w:(l[i].a[j]).e:=F _ (F2 g);have T:mK [(.d false),.g,(.d false),.g] (.i [.d l[i].a[j].f.n.b,x,.d l[i].a[j].f.d.b,y])=some (AN [.d l[i].a[j].f.n.b,x,.d l[i].a[j].f.d.b,y]):=aQ (by
    show(true&&(Bc .g x&&(true&&(Bc .g y&&true))))=true
    grind [Ys])
   have A:=ot R S w.2.2.2.1;have hs:=Rg w.2.2.2.1;have C:cA .i64 ((j:Int)+1)=((j+1:Nat):Int):=by grind [A2]
   simp only[xA,h,k];rw[U,xA,H,xA,Z,xA,T,xA];simp only[AN,Fz,Gt,I2,I3];rw[q25,A,xA,yC,xA,C,A2 (by omega) (by omega)]
   grind
  grind
theorem WD(k:bA t 3 (p.a.map aE.d) b)(B:bA t 24 (p.b.map qD.d) c)(g:p.f):∀(m i:Nat) (n:Int),i+m=p.a.length->0<=n->n<1152921504606846976->jp 16 6 [.e .i64 2000,.e .i64 n,.e .i64 (i:Int),.h p.e,a,b,c] t (λv s=>v=.e .i64 (tX p.b (Ad (p.a.drop i) n))/\s=t):=by
 have r:=g.aj;have f:=g.ac;unfold tE at r f;have l:∀n:Int,0<=n->n<1152921504606846976->jp 16 14 [.e .i64 2000,.e .i64 n,.e .i64 0,.h p.e,a,b,c] t (λv s=>v=.e .i64 (tX p.b n)/\s=t):=by
  intro n h j;have:=WE (p:=p) (a:=a) (b:=b) B f g.aa p.b.length 0 n (by omega) h j
  simp_all
 intro m;induction m with
 | zero=>
  intro i n C h j;refine j16_6 ?_;simp only[uI,uS,V,uW,xb,iA,k.c,xA,yC,C5,iE];rw[A3 (by omega),F1 (by omega)];exact l n h j
 | succ m D=>
  intro i n C h j;have d:i<p.a.length:=by omega
  obtain⟨q,o,v,y,z,F,A,H,I⟩:=QV k d;have e:=g.ah _ (F2 d);obtain⟨w,E,x⟩:=e;unfold tE at w;refine j16_6 ?_;simp only[uI,uS,V,uW,xb,iA,k.c,xA,yC,C5,iE,mI];rw[A5 (by omega),F8 d];unfold Ad;by_cases u:n<=2000
  .rw[A5 u,A5 u,y,xA,z,xA,A,xA,TN,xA,oX,ui,A2 (n:=(p.a[i].b.length:Int) / 30) (by omega) (by omega),A2 (by omega) (by omega)];have J:=JG p.a[i].a (n+(p.a[i].b.length:Int) / 30) x (by omega);refine zfm (p:=p) (a:=a) (c:=c) k g.ah d (by omega) p.a[i].a.length 0 _ (by omega) (by omega) (by omega) ?_;rw[H6];exact D (i+1) _ (by omega) (by omega) (by omega)
  simp_all [A3]
def zfn(r:bA t 3 (p.c.map pF.d) a)(C:bA t 3 (p.a.map aE.d) b)(D:bA t 24 (p.b.map qD.d) c)(w:p.f):∀(m i:Nat) (n:Int),i+m=p.c.length->0<=n->n<1152921504606846976->jp 16 2 [.e .i64 2000,.e .i64 n,.e .i64 (i:Int),.h p.e,a,b,c] t (λv s=>v=.e .i64 (tX p.b (Ad p.a (Ec (p.c.drop i) n)))/\s=t):=by
 have u:=w.ak;unfold tE at u;have f:∀n:Int,0<=n->n<1152921504606846976->jp 16 6 [.e .i64 2000,.e .i64 n,.e .i64 0,.h p.e,a,b,c] t (λv s=>v=.e .i64 (tX p.b (Ad p.a n))/\s=t):=by
  intro n g h;have:=WD (a:=a) C D w p.a.length 0 n (by omega) g h;rw[H6]at this;exact this
 intro m;induction m with
 | zero=>
  intro i n E g h;refine j16_2 ?_;simp only[uI,uS,uC,V,uW,xa,iA,r.c,xA,yC,C5,iE];rw[A3 (by omega),F1 (by omega)];exact f n g h
 | succ m F=>
  intro i n E g h;have e:i<p.c.length:=by omega
  obtain⟨q,o,I,A,J,B,_,l⟩:=mG.at TO (by simp) r (i:=i) (d:=p.c[i].d) (by simp[D0 e]);have l:=Nk l;subst l;have z:jB Y 89 0 (.j q o)=some (.j q (o+0)):=by kernel_rfl
  have H:oA Y 9 ⟨0,t⟩ (.j q (o+0))=some (.h p.c[i].a):=B.d iI rfl rfl;have j:=w.ap _ (F2 e);have y:=j.1;unfold tE at y;have x:cA .i64 ((i:Int)+1)=((i+1:Nat):Int):=by rw[A2 (by omega) (by omega)];omega
  refine j16_2 ?_;simp only[uI,uS,uC,V,uW,xa,iA,r.c,xA,yC,C5,iE,mI];rw[A5 (by omega),F8 e];unfold Ec;by_cases k:n<=2000
  .rw[A5 k,A5 k,A,xA,z,xA,H,xA,TN,xA,oX,ui,x,A2 (n:=(p.c[i].a.length:Int) / 30) (by omega) (by omega),A2 (by omega) (by omega)];exact F (i+1) _ (by omega) (by omega) (by omega)
  .rw[A3 k,A3 k];exact f n g h
def zmd{cs:List O}(d:p.f)(h:RD t p.d cs):oB Y F 16 [.i cs,.e .i64 2000] t=some (.e .i64 (uh p)):=by
 obtain⟨a,b,c,rfl,e,f,g⟩:=nY h;have i:=d.am;have j:=d.ak;have k:=d.aj;have l:=d.ac;unfold tE at i j k l;refine lC.2 (w16 ?_);simp only[uI,V,uW,t16,iA,e.c,f.c,g.c,xA,yC,C5,oX,ui];rw[A2 (n:=(p.e.length:Int) / 30) (by omega) (by omega),A2 (n:=1+(p.e.length:Int) / 30) (by omega) (by omega),A2 (n:=1+(p.e.length:Int) / 30+(p.c.length:Int)) (by omega) (by omega),A2 (n:=1+(p.e.length:Int) / 30+(p.c.length:Int)+(p.a.length:Int)) (by omega) (by omega),A2 (by omega) (by omega)]
 have:=zfn e f g d p.c.length 0 (1+(p.e.length:Int) / 30+p.c.length+p.a.length+p.b.length) (by omega) (by omega) (by omega);rw[H6]at this;exact this
end
end
section
theorem EQ(f:qF):1<=nS f/\f.n.a.length<nS f/\f.d.a.length<nS f:=by grind [nS]
def BS:∀(x:pA) (left:Int),x.q->1<=xP x left
 | .mk c b v a,left,h=>by
  unfold pA.q at h;unfold xP;have:=EQ v.f;have:=(Rh a left (nS v.f+(b.length:Int) / 30) h.2.2.2 (by omega)).1;omega
mutual
def GH:∀(x:pA) (left:Int),x.q->xP x left<=left->left<=2000->pA.a x
 | .mk op name v args,left,h,a,b=>by
  unfold pA.q at h;unfold xP at a;unfold pA.a;have:=EQ v.f;have c:=(Rh args left (nS v.f+(name.length:Int) / 30) h.2.2.2 (by omega)).1;obtain⟨d,e⟩:=SG args left (nS v.f+(name.length:Int) / 30) h.2.2.2 (by omega) a b
  grind
def SG:∀(l:List pA) (left n:Int),pA.k l->0<=n->oY l left n<=left->left<=2000->n+l.length<=left/\pA.c l
 | [],left,n,_,_,a,_=>by
  grind [oY,pA.c]
 | x::l,left,n,h,i,a,b=>by
  unfold pA.k at h;unfold oY at a;unfold pA.c;by_cases g:n<=left
  .rw[A5 g]at a;have c:=BS x (left-n) h.1;have d:=(Rh l left (n+xP x (left-n)) h.2 (by omega)).1;obtain⟨e,f⟩:=SG l left _ h.2 (by omega) a b;exact⟨by grind,GH x (left-n) h.1 (by omega) (by omega),f⟩
  omega
end
def JH:∀(l:List pF) (n:Int),n<=Ec l n
 | [],n=>by grind [Ec]
 | d::l,n=>by
  unfold Ec;split
  .have:=JH l (n+(d.a.length:Int) / 30);omega
  .omega
def KC:∀(l:List oG) (n:Int),n<=vX l n/\(vX l n<=2000->0<=n->l.length+n<=2000/\∀r∈l,r.f.n.a.length<300000/\r.f.d.a.length<300000)
 | [],n=>by grind [vX]
 | r::l,n=>by
  obtain⟨a,b⟩:=KC l (n+(nS r.f:Nat))
  grind [EQ,vX]
def IJ:∀(l:List aE) (n:Int),n<=Ad l n/\(Ad l n<=2000->0<=n->∀x∈l,x.a.length<300000/\∀r∈x.a,r.f.n.a.length<300000/\r.f.d.a.length<300000)
 | [],n=>by grind [Ad]
 | x::l,n=>by
  obtain⟨c,d⟩:=KC x.a (n+(x.b.length:Int) / 30);obtain⟨a,b⟩:=IJ l (vX x.a (n+(x.b.length:Int) / 30))
  grind [Ad]
def GK:∀(l:List qD) (n:Int),(∀x∈l,x.j)->0<=n->n<=tX l n/\(tX l n<=2000->∀x∈l,pA.a x.a/\pA.a x.b)
 | [],n,_,_=>by grind [tX]
 | x::l,n,b,g=>by
  have a:=b x (by simp);have j:=BS x.a (2000-n) (pA.g a.2.2.2.2.2.1);have k:=BS x.b (2000-jR x n) (pA.g a.2.2.2.2.2.2);have i:n<=jR x n/\xP x.a (2000-n)<=jR x n-n:=by grind [jR]
  unfold tX;split
  .split
   .obtain⟨e,f⟩:=GK l (jR x n+xP x.b (2000-jR x n)) (λy c=>b y (by simp[c])) (by omega);refine⟨by omega,λh q d=>?_⟩;rcases C6.1 d with rfl | d
    .exact⟨GH _ (2000-n) (pA.g a.2.2.2.2.2.1) (by omega) (by omega),GH _ (2000-jR q n) (pA.g a.2.2.2.2.2.2) (by omega) (by omega)⟩
    simp_all
   .obtain⟨e,_⟩:=GK l (jR x n) (λy c=>b y (by simp[c])) (by omega);omega
  omega
def zmx{p:uD}(c:p.f)(h:uh p<=2000):uD.g p/\p.b.length<=2000:=by
 unfold uh at h;have d:=JH p.c (1+(p.e.length:Int) / 30+p.c.length+p.a.length+p.b.length);obtain⟨e,a⟩:=IJ p.a (Ec p.c (1+(p.e.length:Int) / 30+p.c.length+p.a.length+p.b.length));obtain⟨f,b⟩:=GK p.b (Ad p.a (Ec p.c (1+(p.e.length:Int) / 30+p.c.length+p.a.length+p.b.length))) c.aa (by omega);exact⟨⟨by omega,by omega,by omega,a (by omega) (by omega),b h⟩,by omega⟩
end
section
def sN (lev:Nat)(p:Nat × List pD):List pD:=if lev<=p.1 then p.2 else(4,[40])::(p.2++[(4,[41])])
def bG:Bool->List (Nat × List pD)->List pD
 | _,[]=>[]
 | b,p::l=>(if b then []else [(4,[44])])++p.2++bG false l
def nQ(op:Nat)(i:Int):List pD:=(if op=19 then [(4,[44]),(1,kM i.toNat)]else [])++[(4,[41])]
def Hl (op:Nat):List pD:=if op=3 then [(1,cW)]else if op=4 then [(1,Gp)]else []
def Ko(op:Nat):pD:=(if op=15\/op=16 then 1 else 4,(yB op).c)
def vW(op:Nat)(name:List Nat)(v:gE)(l:List (Nat × List pD)):List pD:=
 if (yB op).b=1 then rY v else if (yB op).b=2 then [(1,(yB op).c)]
 else if (yB op).b=3 then Hl op++(1,name)::(1,Q9)::sN (yB op).h (l.getD 0 (0,[]))
 else if (yB op).b=4 then sN (yB op).h (l.getD 0 (0,[]))++Ko op::sN (yB op).i (l.getD 1 (0,[]))
 else if (yB op).b=5 then(1,Ce)::sN (yB op).h (l.getD 0 (0,[]))
 else(1,(yB op).c)::(4,[40])::((if (yB op).e then [(1,name),(4,[44])]else [])++(bG true l++nQ op v.i))
mutual
def xF:pA->List pD
 | .mk op name v args=>vW op name v (wF args)
def wF:List pA->List (Nat × List pD)
 | []=>[]
 | y::l=>((yB y.e).a,xF y)::wF l
end
def zdi:∀l:List pA,wF l=l.map λy=>((yB y.e).a,xF y)
 | []=>by rw[wF];rfl
 | y::l=>by rw[wF,zdi l];rfl
def Iq:List Nat:=[6,11,12,18,19,20,21,22,23,24,25,26]
def Pk:List Nat:=[7,8,9,10,13,14,15,16]
def LZ:∀op,op<27->op≠0->op=1\/op=2\/op∈[3,4,5]\/op∈Pk\/op=17\/op∈Iq:=by decide
def QE:∀k∈[3,4,5],(yB k).b=3/\(yB k).h=7/\(yB k).a=7/\(yB k).e=true/\(yB k).d=1/\(yB k).g=1:=by decide +kernel
def EV:∀k∈Pk,(yB k).b=4/\(yB k).e=false/\(yB k).d=2/\(yB k).g=2:=by decide +kernel
def EU:∀k∈Iq,(yB k).b=6/\(yB k).a=7:=by decide +kernel
theorem Ym:(yB 17).b=5/\(yB 17).h=3/\(yB 17).a=3/\(yB 17).e=false/\(yB 17).d=1/\(yB 17).g=1:=by decide +kernel
theorem Ll:(yB 1).b=1/\(yB 1).a=7/\(yB 1).e=false/\(yB 1).g=0:=by decide +kernel
theorem Fh:(yB 2).b=2/\(yB 2).a=7/\(yB 2).e=false/\(yB 2).g=0:=by decide +kernel
structure Pt (op:Nat) (name:List Nat) (n:Nat):Prop where
 d:op<27
 f:op≠0
 b:(yB op).d<=n
 a:n<=(yB op).g
 e:(yB op).e=true->fG name=true
 c:(yB op).e=false->name=[]
theorem zoe{op:Nat}{name:List Nat}{n:Nat}(h:aP op name n=true):Pt op name n:=by
 unfold aP at h;simp only[B3,decide_eq_true_eq,E7,decide_eq_false_iff_not]at h;obtain⟨⟨⟨⟨a,b⟩,c⟩,d⟩,f⟩:=h;refine⟨a,?_,c,d,λe=>by rwa [A5 e]at f,λe=>?_⟩
 .rintro rfl;exact b rfl
 grind [eJ]
def FH{op:Nat}{name:List Nat}{v:gE}{args:List pA}{d:Nat}(h:qJ (.mk op name v args) d=true):d<=24/\Pt op name args.length/\(op=1->zM v=true)/\(op≠1->cO op v=true/\∀y∈args,qJ y (d+1)=true):=by
 grind [qJ,zoe,AD]
def Hr{w:List Nat}(h:fG w=true):fE w=.aa 1 w:=by
 unfold fG at h;grind [eJ,fE]
def Lx.f{lev n:Nat}{s:List Nat}{l:List pD}(h:Lx s l):Lx (G8 lev (n,s)) (sN lev (n,l)):=by
 unfold G8 sN;by_cases a:lev<=n
 .simp_all
 .rw[A3 a,A3 a];exact h.x
def znf{i:Nat}(a:1<=i)(b:i<=6):fE (kM i)=.aa 1 (kM i):=by
 have:i=1\/i=2\/i=3\/i=4\/i=5\/i=6:=by omega
 clear a b;rcases this with rfl | rfl | rfl | rfl | rfl | rfl
 .exact(by kernel_rfl:fE (kM 1)=.aa 1 (kM 1))
 .exact(by kernel_rfl:fE (kM 2)=.aa 1 (kM 2))
 .exact(by kernel_rfl:fE (kM 3)=.aa 1 (kM 3))
 .exact(by kernel_rfl:fE (kM 4)=.aa 1 (kM 4))
 .exact(by kernel_rfl:fE (kM 5)=.aa 1 (kM 5))
 .exact(by kernel_rfl:fE (kM 6)=.aa 1 (kM 6))
theorem Lx.a:Lx [41] [(4,[41])]:=λr o _=>Sq rfl r o
theorem IF{op:Nat}{v:gE}(a:cO op v=true):Lx (Dx op v.i) (nQ op v.i)/\∃c r,Dx op v.i=c::r/\(c=40\/c=41\/c=44):=by
 unfold Dx nQ;by_cases h:op=19
 .rw[A5 h,A5 h];unfold cO at a;rw[A5 h]at a;simp only[B3,decide_eq_true_eq]at a;refine⟨?_,_,_,rfl,by simp⟩;exact((Lx.i (znf (i:=v.i.toNat) (by omega) (by omega))).sg (c:=41) (by simp)).t.q rfl
 grind [Lx.a]
def TS{op:Nat}{v:gE}(b:cO op v=true):∀l:List pA,(∀y∈l,Lx (oQ y) (xF y))->Lx (wW false (lJ l)++Dx op v.i) (bG false (wF l)++nQ op v.i)/\∃c r,wW false (lJ l)++Dx op v.i=c::r/\(c=40\/c=41\/c=44)
 | [],_=>by
  grind [lJ,wF,wW,bG,IF]
 | y::l,h=>by
  have a:=TS b l λz e=>h z (C9 _ e);have d:=h y C7;rw[lJ,wF,wW,bG];refine⟨?_,_,_,rfl,by simp⟩;have:=((d.p a.1 a.2).t).q (c:=44) rfl
  simp_all
def zn1{op:Nat}{v:gE}(b:cO op v=true){l:List pA}(h:∀y∈l,Lx (oQ y) (xF y)):Lx (wW true (lJ l)++Dx op v.i) (bG true (wF l)++nQ op v.i):=by
 cases l with
 | nil=>
  grind [lJ,wF,wW,bG,IF]
 | cons y l=>
  have a:=TS b l λz c=>h z (C9 _ c);have:=(h y C7).p a.1 a.2
  grind [lJ,wF,wW,bG]
def zm3:∀ {op:Nat},op∈Pk->fE (yB op).c=.aa (Ko op).1 (yB op).c:=by
 intro op h;simp only[Pk,C6,List.not_mem_nil,or_false]at h;rcases h with rfl | rfl | rfl | rfl | rfl | rfl | rfl | rfl<;>kernel_rfl
def zpj:∀ {op:Nat},op∈Iq->fE (yB op).c=.aa 1 (yB op).c:=by
 intro op h;simp only[Iq,C6,List.not_mem_nil,or_false]at h;rcases h with rfl | rfl | rfl | rfl | rfl | rfl | rfl | rfl | rfl | rfl | rfl | rfl<;>kernel_rfl
def PN{op:Nat}{name:List Nat}{v:gE}{args:List pA}(A:v.f.a)(b:Pt op name args.length)(z:op=1->zM v=true)(s:op≠1->cO op v=true)(l:∀y∈args,Lx (oQ y) (xF y)):Lx (dS op name v (lJ args)) (vW op name v (wF args)):=by
 have a:∀ {i lev:Nat},i<args.length->Lx (G8 lev ((lJ args).getD i (0,[]))) (sN lev ((wF args).getD i (0,[]))):=fun {i lev} e=>by
  rw[Mw,zdi];rw[show(args.map λy=>((yB y.e).a,oQ y)).getD i (0,[])=((yB args[i].e).a,oQ args[i]) by simp[e],show(args.map λy=>((yB y.e).a,xF y)).getD i (0,[])=((yB args[i].e).a,xF args[i]) by simp[e]];exact(l _ (F2 e)).f
 unfold dS vW;rcases LZ op b.d b.f with rfl | rfl | h | h | rfl | h
 .grind [Ll,ztr]
 .rw[A3 (by grind [Fh]),A5 Fh.1,A3 (by grind [Fh]),A5 Fh.1];exact Lx.i (by kernel_rfl)
 .obtain⟨d,p,x,g,q,r⟩:=QE op h;have n:=b.b;have u:=Hr (b.e g);rw[d,p];have j:=Lx.g u (Lx.g (w:=Q9) (k:=1) (by kernel_rfl) (a (i:=0) (lev:=7) (by omega)));simp only[C6,List.not_mem_nil,or_false]at h;rcases h with rfl | rfl | rfl
  .have:=Lx.g (w:=cW) (k:=1) (by kernel_rfl) j
   grind [Hl,yB,Fi,U9]
  .have:=Lx.g (w:=Gp) (k:=1) (by kernel_rfl) j
   simp_all [Hl,yB,Fi,U9]
  simp_all [Hl,yB,Fi,U9]
 .obtain⟨d,g,q,r⟩:=EV op h;have n:=b.b;rw[d];have:=(a (i:=0) (lev:=(yB op).h) (by omega)).u (Lx.g (zm3 h) (a (i:=1) (lev:=(yB op).i) (by omega)))
  grind [Ko]
 .have n:=b.b;rw[Ym.1,Ym.2.1];have:=Lx.g (w:=Ce) (k:=1) (by kernel_rfl) (a (i:=0) (lev:=3) (by grind [Ym]))
  simp_all [yB,Fi]
 .obtain⟨d,_⟩:=EU op h;have f:op≠1:=by rintro rfl;revert h;decide
  have m:=zn1 (s f) l;rw[d];have o:=zpj h;by_cases t:(yB op).e=true
  .have:=(Lx.i o).p ((((Lx.i (Hr (b.e t))).p (m.t.q (c:=44) rfl) ⟨_,_,rfl,by simp⟩).q (c:=40) rfl)) ⟨_,_,rfl,by simp⟩
   simp_all
  .have:=(Lx.i o).p (m.q (c:=40) rfl) ⟨_,_,rfl,by simp⟩
   simp_all
mutual
def FF:∀(x:pA) (d:Nat),x.b->qJ x d=true->Lx (oQ x) (xF x)
 | .mk op name v args,d,a,h=>by
  obtain⟨k,c,g,i⟩:=FH h;rw[oQ,xF];rw[pA.b]at a;by_cases f:op=1
  .have m:=c.a;have:args=[]:=List.eq_nil_of_length_eq_zero (by simp_all [Ll]);subst this;exact PN a.2.2.2.1.2.1 c g (λe=>absurd f e) (by simp)
  .exact PN a.2.2.2.1.2.1 c g (λe=>(i e).1) (QW args (d+1) a.2.2.2.2.2 (i f).2)
def QW:∀(l:List pA) (d:Nat),pA.f l->(∀y∈l,qJ y d=true)->∀y∈l,Lx (oQ y) (xF y)
 | [],_,_,_,_,b=>by cases b
 | x::l,d,a,h,y,b=>by
  rw[pA.f]at a;rcases C6.1 b with e | b
  .rw[e];exact FF x d a.1 (h x C7)
  .exact QW l d a.2 (λz j=>h z (C9 _ j)) y b
end
end
section
variable {A B R:List pD}{op q:Nat}{g:List (List Nat × Nat)}{w:List Nat}{a b:pA}
def ni:List (List Nat × Nat):=[([42],6),([47],6),([43],5),([45],5),([60],4),([61],4),(ft,2),(ze,1)]
def Qt (lev:Nat)(R:List pD):Prop:=∀q u a,R=(q,u)::a->(∀p∈ni,lev<=p.2->u≠p.1)/\u≠vY/\u≠wY
theorem Qt.c{lev a:Nat} (h:Qt lev R)(f:lev<=a):Qt a R:=λq u b e=>⟨λp c d=>(h q u b e).1 p c (by omega),(h q u b e).2⟩
def Qt.d{lev:Nat} (h:Qt lev R):zgy R:=λq u a e=>(h q u a e).2
def md (lev:Nat)(u:List Nat):Bool:=ni.all (λp => !decide (lev<=p.2)||decide (u≠p.1))&&(decide (u≠vY)&&decide (u≠wY))
theorem Ei{lev:Nat}{u:List Nat} (h:md lev u=true):Qt lev ((q,u)::R):=by
 intro b c a e;grind [md]
def eY (tk:List xD)(o:PM pA):Nat->PM pA
 | 7=>o
 | 6=>tq tk o
 | 5=>Ck tk o
 | 4=>eU tk o
 | 3=>aT tk o
 | 2=>Ul tk o
 | _=>C0 tk o
def qM (K:List pD)(f:PM pA)(lev:Nat)(l:List pD)(x:pA):Prop:=∀n R,K.drop n=l++R->Qt lev R->f n=.ok x (n+l.length)
def En(l:List pD):Prop:=∃q u r,l=(q,u)::r/\(q=2\/q=3\/u≠Ce)
def Ch (tk:List xD)(K:List pD)(f:PM pA)(g:List (List Nat × Nat))(lev:Nat)(l:List pD)(x:pA):Prop:=
 ∀n R,K.drop n=l++R->Qt lev R->∃b a k,f n=.ok b a/\k<=l.length/\∀m,bQ tk f g (m+k) b a=bQ tk f g m x (n+l.length)
section
variable {tk:List xD}{K:List pD}(c:tk.map kt=K){o f:PM pA}{n lev:Nat}{l:List pD}{x:pA}
include c
def Nl  (h:K.drop n=R)(k:Qt lev R)(i:(g.all λp=>ni.any λq=>decide (q.1=p.1)&&decide (lev<=q.2))=true):iN tk g n=none:=by
 unfold iN;rw[List.find?_eq_none.2]
 .rfl
 .intro p j;have:=C8.1 i p j;rw[List.any_eq_true]at this;obtain⟨q,f,b⟩:=this;simp only[B3,decide_eq_true_eq]at b;rw[GZ c h λa u d e=>by rw[<- b.1];exact(k a u d e).1 q f b.2];simp
theorem zg0 (h:K.drop n=l++R)(a:En l):B0 tk Ce n=false:=by
 obtain⟨q,u,r,rfl,b⟩:=a;have:=cD h
 grind [Bs,eH]
omit c in
theorem zgw(h:B0 tk Ce n=false):∀m,nL tk m n=0
 | 0=>rfl
 | m+1=>by grind [nL]
theorem zun(e:qM K (eY tk o (lev+1)) (lev+1) l x)(f:1<=lev)(g:lev<=6)(d:lev=3->En l):qM K (eY tk o lev) lev l x:=by
 intro n R a b;have h:=e n R a (b.c (by omega));have:lev=1\/lev=2\/lev=3\/lev=4\/lev=5\/lev=6:=by omega
 rcases this with rfl | rfl | rfl | rfl | rfl | rfl
 .exact Zo (o:=Ul tk o) h (Nl c (wM a) b (by decide))
 .exact Zo (o:=aT tk o) h (Nl c (wM a) b (by decide))
 .have h:eU tk o n=.ok x (n+l.length):=h;show aT tk o n=_;unfold aT;rw[zgw (zg0 c a (d rfl)),L9,h];rfl
 .have h:Ck tk o n=.ok x (n+l.length):=h;show eU tk o n=_;unfold eU;rw[h];show(match iN tk [([60],13),([61],14)] (n+l.length)with | none=>_ | some op=>_)=_
  rw[Nl c (wM a) b (by decide)]
 .exact Zo (o:=tq tk o) h (Nl c (wM a) b (by decide))
 .exact Zo (o:=o) h (Nl c (wM a) b (by decide))
theorem Ob(d:En l\/lev<=3):∀j a,a+j=lev->1<=a->lev<=7->qM K (eY tk o lev) lev l x->qM K (eY tk o a) a l x
 | 0,a,h,_,_,b=>by simp_all
 | j+1,a,h,e,c,b=>by
  have:=Ob d j (a+1) (by omega) (by omega) c b
  grind [zun]
omit c in
def zx1 (d:qM K f lev l x):Ch tk K f g lev l x:=λn R a b=>⟨x,n+l.length,0,d n R a b,by omega,λm=>rfl⟩
theorem zgm   (h:K[n]?=some (q,w))(b:q=1\/q=4)(a:(g.find? λp=>sF w p.1).map Prod.snd=some op):iN tk g n=some op:=by
 grind [iN,Uv]
theorem zx0     (o:Ch tk K f g lev A a)(r:qM K f lev B b)(t:q=1\/q=4)(u:md lev w=true)(s:(g.find? λp=>sF w p.1).map Prod.snd=some op):Ch tk K f g lev (A++(q,w)::B) (eX op a b):=by
 intro n R e l;rw[D5,List.cons_append]at e;obtain⟨x,v,k,h,y,i⟩:=o n _ e (Ei u);have d:=wM e;have j:=r _ R (rF d) l;refine⟨x,v,k+1,h,by grind,λm=>?_⟩;rw[show m+(k+1)=m+1+k by omega,i,bQ,zgm c (cD d) t s];show(f (n+A.length+1)).c _=_;rw[j];show bQ tk f g m (eX op a b) _=_
 grind
theorem kh (h:Ch tk K f g (lev+1) l x)(j:(g.all λp=>ni.any λq=>decide (q.1=p.1)&&decide (lev<=q.2))=true):qM K (cQ tk f g) lev l x:=by
 intro n R a d;obtain⟨r,o,k,e,s,i⟩:=h n R a (d.c (by omega));have b:n+l.length<=tk.length\/l=[]:=by
  rw[zrd c];by_cases u:n<=K.length
  .grind [List.length_append]
  .rw[F1 (by omega)]at a
   simp_all
 have t:k<=tk.length:=by
  grind
 unfold cQ;rw[e];show bQ tk f g tk.length r o=_;rw[show tk.length=(tk.length-k)+k by omega,i]
 cases tk.length-k with
 | zero=>rfl
 | succ m=>rw[bQ,Nl c (wM a) d j]
omit c in
theorem MH:∀(m n:Nat),tk.length<=m+n->nL tk (m+1) n=nL tk m n
 | 0,n,h=>by
  grind [nL,MM]
 | m+1,n,h=>by
  unfold nL;rw[MH m (n+1) (by omega)]
omit c in
def HO:∀(k:Nat) (x:pA),Dv (k+1) x=I7 17 [] (Dv k x)
 | 0,x=>rfl
 | k+1,x=>by
  show Dv (k+1) (I7 17 [] x)=_;rw[HO k];rfl
omit c in
def znb(h:B0 tk Ce n=true)(b:n<tk.length):aT tk o n=(aT tk o (n+1)).c λy n'=>.ok (I7 17 [] y) n':=by
 have e:nL tk tk.length n=nL tk tk.length (n+1)+1:=by
  obtain⟨m,a⟩:∃m,tk.length=m+1:=⟨tk.length-1,by omega⟩;rw[a];rw[MH m (n+1) (by omega)];conv=>lhs;unfold nL
  rw[A5 h]
 unfold aT;rw[e,show n+(nL tk tk.length (n+1)+1)=n+1+nL tk tk.length (n+1) by omega]
 cases eU tk o (n+1+nL tk tk.length (n+1))with
 | er e i=>rfl
 | ok x n'=>
  show PR.ok _ _=PR.ok _ _;rw[HO]
theorem ki{y:pA}(h:qM K (aT tk o) 3 l y):qM K (aT tk o) 3 ((1,Ce)::l) (I7 17 [] y):=by
 intro n R a e;have b:=cD a;have d:n<tk.length:=by grind
 rw[znb (tM c b (.inl rfl)) d,h (n+1) R (rF a) e];show PR.ok _ _=PR.ok _ _;rw[D6,Nat.add_assoc,T8 1]
theorem zm0{k:Nat}(h:qM K (C0 tk (A9 tk k)) 1 l x):qM K (A9 tk (k+1)) 7 ((4,[40])::(l++[(4,[41])])) x:=by
 intro n R a b;rw[List.cons_append,D5]at a;show aN tk (A9 tk k) n=_;rw[zn9 c (cD a),h (n+1) _ (rF a) (Ei (by decide))];show(mE tk [41] (n+1+l.length)).c _=_;rw[bR c (cD (wM (rF a))) (.inr rfl)];show PR.ok _ _=PR.ok _ _
 grind
theorem zxr    (g:qM K (Ck tk o) 5 A a)(h:qM K (Ck tk o) 5 B b)(j:q=1\/q=4)(k:md 5 w=true)(i:(([([60],13),([61],14)]:List (List Nat × Nat)).find? λp=>sF w p.1).map Prod.snd=some op):qM K (eU tk o) 4 (A++(q,w)::B) (eX op a b):=by
 intro n R e f;rw[D5,List.cons_append]at e;have d:=wM e;unfold eU;rw[g n _ e (Ei k)];show(match iN tk [([60],13),([61],14)] (n+A.length)with | none=>_ | some op=>_)=_
 rw[zgm c (cD d) j i];show(Ck tk o (n+A.length+1)).c _=_;rw[h _ R (rF d) (f.c (by omega))];show PR.ok _ _=PR.ok _ _
 grind
end
end
section
variable {v:gE}{op:Nat}{w:List Nat}
def AK (h:Dq v=true):v=qR:=by
 obtain⟨k,f,i⟩:=v;unfold Dq at h;simp only[B3,decide_eq_true_eq]at h;obtain⟨⟨rfl,rfl⟩,a⟩:=h;rw[HG a];rfl
theorem Uk  (h:cO op v=true):v=⟨0,zK,((if op=19 then v.i.toNat else 0:Nat):Int)⟩/\(op=19->1<=v.i.toNat/\v.i.toNat<=6):=by
 unfold cO at h;by_cases a:op=19
 .rw[A5 a]at h;simp only[B3,decide_eq_true_eq]at h;have:=AK h.2;obtain⟨k,f,i⟩:=v;cases this
  grind [zK]
 .rw[A3 a]at h;rw[AK h,A3 a];exact⟨rfl,λe=>absurd e a⟩
def Sg:List (List Nat):=[Ce,Ml,Mo,Jm,pJ,Mm,cW,Gp]
theorem znc (h:fG w=true):∀u∈Sg,w≠u:=by
 have e:(Sg.all λu => !fG u)=true:=by kernel_rfl
 grind
section
variable {tk:List xD}{K:List pD}(c:tk.map kt=K){o e:PM pA}{n:Nat}
include c
theorem zg2:∀(l acc:List pA) (n:Nat) (R:List pD),(∀y∈l,qM K e 1 (xF y) y)->K.drop n=bG false (wF l)++R->Qt 1 R->fY tk e l.length acc n=.ok (acc++l) (n+(bG false (wF l)).length)
 | [],acc,n,R,_,_,_=>by
  show PR.ok acc n=_
  grind [wF,bG]
 | y::l,acc,n,R,h,a,b=>by
  have a:K.drop n=(4,[44])::(xF y++(bG false (wF l)++R)):=by grind [wF,bG]
  have d:Qt 1 (bG false (wF l)++R):=by
   cases l with
   | nil=>grind [wF,bG]
   | cons z l=>rw[wF,bG];exact Ei (by decide)
  show(mE tk [44] n).c _=_;rw[bR c (cD a) (.inr rfl)];show(e (n+1)).c _=_;rw[h y C7 (n+1) _ (rF a) d];show fY tk e l.length (acc++[y]) (n+1+(xF y).length)=_;rw[zg2 l (acc++[y]) _ R (λz f=>h z (C9 _ f)) (wM (rF a)) b,wF,bG]
  grind
theorem zfg:∀(j:Nat) (l acc:List pA) (n:Nat) (R:List pD),l.length<=j->(l.length<j->∃b,R=(4,[41])::b)->(∀y∈l,qM K e 1 (xF y) y)->K.drop n=bG false (wF l)++R->Qt 1 R->jT tk e j acc n=.ok (acc++l) (n+(bG false (wF l)).length)
 | 0,l,acc,n,R,g,_,_,_,_=>by
  have:l=[]:=List.eq_nil_of_length_eq_zero (by omega);subst this;show PR.ok acc n=_
  grind [wF,bG]
 | j+1,[],acc,n,R,_,d,_,a,_=>by
  obtain⟨b,rfl⟩:=d (by simp);rw[wF,bG]at a ⊢;unfold jT;rw[eH c (cD (show K.drop n=(4,[41])::b from a)) (by decide)];simp
 | j+1,y::l,acc,n,R,g,d,h,a,f=>by
  have a:K.drop n=(4,[44])::(xF y++(bG false (wF l)++R)):=by grind [wF,bG]
  have i:Qt 1 (bG false (wF l)++R):=by
   cases l with
   | nil=>grind [wF,bG]
   | cons z l=>rw[wF,bG];exact Ei (by decide)
  unfold jT;rw[tM c (cD a) (.inr rfl),A5 rfl,h y C7 (n+1) _ (rF a) i];show jT tk e j (acc++[y]) (n+1+(xF y).length)=_;rw[zfg j l (acc++[y]) _ R (by simp_all) (λm=>d (by simp_all)) (λz k=>h z (C9 _ k)) (wM (rF a)) f,wF,bG]
  grind
theorem zvj{i:Nat}(b:1<=i)(d:i<=6)(h:K[n]?=some (1,kM i)):nK tk cN 6 6 1 n=.ok i (n+1):=by
 have:i=1\/i=2\/i=3\/i=4\/i=5\/i=6:=by omega
 clear b d;have a:B0 tk (kM i) n=true:=tM c h (.inl rfl);have f:∀w,kM i≠w->B0 tk w n=false:=λw e=>eH c h e;rcases this with rfl | rfl | rfl | rfl | rfl | rfl
 .have a:B0 tk (cN 1) n=true:=a;simp[nK,a]
 .have a:B0 tk (cN 2) n=true:=a
  grind [nK,cN]
 .have a:B0 tk (cN 3) n=true:=a
  grind [nK,cN]
 .have a:B0 tk (cN 4) n=true:=a
  grind [nK,cN]
 .have a:B0 tk (cN 5) n=true:=a
  grind [nK,cN]
 .have a:B0 tk (cN 6) n=true:=a
  grind [nK,cN]
def P2 (op:Nat):CF:=⟨(yB op).c,op,(yB op).e,(yB op).d,(yB op).g⟩
omit c in
def GQ:∀ {op:Nat},op∈Iq->(Bl.find? λf=>sF (yB op).c f.d)=some (P2 op)/\fG (yB op).c=false/\(yB op).c∉Sg/\1<=(yB op).d/\(yB op).d<=(yB op).g/\(op=19->(yB op).g=(yB op).d):=by
 intro op h;simp only[Iq,C6,List.not_mem_nil,or_false]at h;rcases h with rfl | rfl | rfl | rfl | rfl | rfl | rfl | rfl | rfl | rfl | rfl | rfl<;>exact⟨by kernel_rfl,by kernel_rfl,by decide +kernel,by decide +kernel,by decide +kernel,by decide +kernel⟩
omit c in
theorem zx5 (a:K[n]?=some (1,(yB op).c))(c:tk.map kt=K)(h:op∈Iq):aN tk o n=Y1 tk (C0 tk o) (P2 op) (n+1):=by
 obtain⟨g,j,k,_⟩:=GQ h;have b:∀u∈Sg,(yB op).c≠u:=λu p e=>k (e ▸ p);unfold aN;rw[Pa c a (by decide) (by
  intro i;simp only[C6,List.not_mem_nil,or_false]at i;rcases i with e | e | e | e<;>exact b _ (by decide) e)]
 show(if B0 tk [40] n=true then _ else _)=_;have m:pU tk n=false:=by
  unfold pU;rw[Qx c a,j,E9]
 have d:B0 tk [40] n=false:=eH c a (by
  intro e;rw[e]at g;cases g)
 rw[d,eH c a (b Mm (by decide)),eH c a (b cW (by decide)),eH c a (b Gp (by decide)),m];have l:(Bl.find? λf=>B0 tk f.d n)=some (P2 op):=by
  grind [Uv]
 show mW tk (C0 tk o) n=_;unfold mW;rw[l];rfl
def zvi {R:List pD}(b:fG w=true)(a:K.drop n=(1,w)::(4,[44])::R):(mL tk n).c (λw d=>(mE tk [44] d).c λ_ e=>.ok w e)=.ok w (n+2):=by
 rw[Kr c (cD a) b];show(mE tk [44] (n+1)).c _=_;rw[bR c (cD (rF a)) (.inr rfl)];rfl
theorem zx2 {name:List Nat} {args:List pA}{k:Nat}(h:op∈Iq)(C:Pt op name args.length)(W:cO op v=true)(E:∀y∈args,qM K (C0 tk (A9 tk k)) 1 (xF y) y) :
  qM K (A9 tk (k+1)) 7 (vW op name v (wF args)) (.mk op name v args):=by
 intro n R B hR;obtain⟨f1,_⟩:=EU op h;obtain⟨c1,c2,c3,c4,c5,c6⟩:=GQ h;obtain⟨S,v2⟩:=Uk W;have I:=C.b;have F:=C.a;have T:vW op name v (wF args)=(1,(yB op).c)::(4,[40])::((if (yB op).e then [(1,name),(4,[44])]else [])++(bG true (wF args)++nQ op v.i)):=by
  grind [vW]
 rw[T]at B ⊢;have B:K.drop n=(1,(yB op).c)::(4,[40])::((if (yB op).e then [(1,name),(4,[44])]else [])++(bG true (wF args)++(nQ op v.i++R))):=by grind
 obtain⟨y,i,j,rfl,H⟩:∃y i j,args=y::(i++j)/\i.length=(yB op).d-1:=by
  cases args with
  | nil=>grind
  | cons y l=>
   refine⟨y,l.take ((yB op).d-1),l.drop ((yB op).d-1),by rw[List.take_append_drop],?_⟩
   grind
 show aN tk (A9 tk k) n=_;rw[zx5 (cD B) c h];unfold Y1;have t:=rF B;rw[bR c (cD t) (.inr rfl)];have o:=rF t;generalize g:(if (yB op).e=true then [(1,name),(4,[44])]else []:List pD)=m at o ⊢;have J:(if (P2 op).b then(mL tk (n+1+1)).c λw n2=>(mE tk [44] n2).c λ_ n3=>.ok w n3 else .ok [] (n+1+1):PR (List Nat))=.ok name (n+1+1+m.length):=by
  show(if (yB op).e then _ else _)=_
  cases D:(yB op).e with
  | true=>
   rw[D]at g;subst g;exact zvi c (C.e D) o
  | false=>
   rw[D]at g;subst g;rw[C.c D];rfl
 show PR.c (if (P2 op).b then _ else _) _=_;rw[J];have p:=wM o;have s:bG true (wF (y::(i++j)))=xF y++(bG false (wF i)++bG false (wF j)):=by
  have Q:∀a b:List pA,bG false (wF (a++b))=bG false (wF a)++bG false (wF b):=by
   intro a b;induction a with
   | nil=>grind [wF,bG]
   | cons z a ih=>grind [wF,bG]
  grind [wF,bG]
 rw[s,D5,D5]at p;have U:∃r,nQ op v.i++R=(4,[44])::r\/nQ op v.i++R=(4,[41])::r:=by
  grind [nQ]
 have P:Qt 1 (nQ op v.i++R):=by
  obtain⟨r,e | e⟩:=U <;> (rw[e];exact Ei (by decide))
 have M:∀l:List pA,∀R,Qt 1 R->Qt 1 (bG false (wF l)++R):=λl R h=>by
  cases l with
  | nil=>grind [wF,bG]
  | cons z l=>rw[wF,bG];exact Ei (by decide)
 show(C0 tk (A9 tk k) (n+1+1+m.length)).c _=_;rw[E y C7 _ _ p (M _ _ (M _ _ P))];have u:=wM p;show(fY tk _ ((yB op).d-1) [y] _).c _=_;rw[<- H,zg2 c i [y] _ _ (λz L=>E z (C9 _ (M0 _ L))) u (M _ _ P)];have x:=wM u;show(jT tk _ ((yB op).g-(yB op).d) ([y]++i) _).c _=_;simp only[D6,E1]at F I;rw[zfg c _ j ([y]++i) _ _ (by omega) (λX=>by
  have q:op≠19:=λe=>by omega
  grind [nQ]) (λz L=>E z (C9 _ (E3 _ L))) x P]
 have d:=wM x;generalize hN:n+1+1+m.length+(xF y).length+(bG false (wF i)).length+(bG false (wF j)).length=N at d ⊢;have f:N+(nQ op v.i).length=n+((1,(yB op).c)::(4,[40])::(m++(bG true (wF (y::(i++j)))++nQ op v.i))).length:=by
  grind
 by_cases q:op=19
 .obtain⟨Z,m2⟩:=v2 q;have A:nQ op v.i=[(4,[44]),(1,kM v.i.toNat),(4,[41])]:=by grind [nQ]
  rw[A]at d f;show PR.c (if op=19 then _ else _) _=_;rw[A5 q,bR c (cD d) (.inr rfl)];show(nK tk cN 6 6 1 (N+1)).c _=_;rw[zvj c Z m2 (cD (rF d))];show(mE tk [41] (N+1+1)).c _=_;rw[bR c (cD (rF (rF d))) (.inr rfl),A,<- f];show PR.ok (pA.mk op name ⟨0,zK,((v.i.toNat:Nat):Int)⟩ ([y]++i++j)) _=_;rw[A5 q]at S;rw[<- S];rfl
 .have A:nQ op v.i=[(4,[41])]:=by grind [nQ]
  rw[A]at d f;show PR.c (if op=19 then _ else _) _=_;rw[A3 q];show(mE tk [41] N).c _=_;rw[bR c (cD d) (.inr rfl),A,<- f];show PR.ok (pA.mk op name ⟨0,zK,((0:Nat):Int)⟩ ([y]++i++j)) _=_
  simp_all
end
end
section
def Nz(lev:Nat):List (List Nat × Nat):=match lev with
 | 6=>[([42],9),([47],10)]
 | 5=>[([43],7),([45],8)]
 | 2=>[(ft,15)]
 | 1=>[(ze,16)]
 | _=>[]
structure hZ (tk:List xD) (K:List pD) (k:Nat) (x:pA):Prop where
 rd:∀lev,1<=lev->lev<=(yB x.e).a->qM K (eY tk (A9 tk k) lev) lev (xF x) x
 ch:∀lev,lev∈[1,2,5,6]->(yB x.e).a=lev->Ch tk K (eY tk (A9 tk k) (lev+1)) (Nz lev) (lev+1) (xF x) x
 hd:4<=(yB x.e).a->En (xF x)
def zno:∀op,op<27->(yB op).a<=7:=by decide +kernel
def Sj(op:Nat){w u:List Nat}(h:fG w=true)(a:u∈Sg):w≠u:=znc h u a
section
variable {tk:List xD}{K:List pD}(c:tk.map kt=K){n k:Nat}
include c
theorem Yl{x:pA}(f:(yB x.e).a=7)(d:En (xF x))(h:qM K (A9 tk k) 7 (xF x) x):hZ tk K k x where
 rd:=λa b e=>Ob c (.inl d) (7-a) a (by omega) b (B4 _) h
 ch:=λa b e=>by
  grind
 hd:=λ_=>d
def Og{y:pA}{lev:Nat}(d:1<=lev)(f:lev<=7)(e:hZ tk K (k+1) y)(a:hZ tk K k y)(g:(yB y.e).a<=7)(b:1<=(yB y.e).a):qM K (eY tk (A9 tk (k+1)) lev) lev (sN lev ((yB y.e).a,xF y)) y:=by
 unfold sN;by_cases h:lev<=(yB y.e).a
 .rw[A5 h];exact e.rd lev d h
 .rw[A3 h];exact Ob c (.inl ⟨_,_,_,rfl,.inr (.inr (by decide))⟩) (7-lev) lev (by omega) d (B4 _) (zm0 c (a.rd 1 (by omega) b))
theorem rq{y:pA}{lev:Nat}(e:lev∈[1,2,5,6])(d:hZ tk K (k+1) y)(a:hZ tk K k y)(f:(yB y.e).a<=7)(b:1<=(yB y.e).a):Ch tk K (eY tk (A9 tk (k+1)) (lev+1)) (Nz lev) (lev+1) (sN lev ((yB y.e).a,xF y)) y:=by
 have g:1<=lev/\lev<=6:=by
  grind
 by_cases h:(yB y.e).a=lev
 .unfold sN;rw[A5 (by omega)];exact d.ch lev e h
 .refine zx1 ?_;have:=Og c (lev:=lev+1) (by omega) (by omega) d a f b
  grind [sN]
omit c in
theorem PF{y:pA}{lev:Nat}(b:4<=lev)(a:hZ tk K k y){R:List pD}:En (sN lev ((yB y.e).a,xF y)++R):=by
 unfold sN;by_cases h:lev<=(yB y.e).a
 .rw[A5 h];obtain⟨q,u,r,e,h⟩:=a.hd (by omega);exact⟨q,u,r++R,by simp_all,h⟩
 .rw[A3 h];exact⟨4,[40],_,rfl,.inr (.inr (by decide))⟩
omit c in
def zkd:∀ {op:Nat},op∈[7,8,9,10,15,16]->(yB op).a∈[1,2,5,6]/\(yB op).h=(yB op).a/\(yB op).i=(yB op).a+1/\md ((yB op).a+1) (yB op).c=true/\((Ko op).1=1\/(Ko op).1=4)/\(((Nz (yB op).a).all λp=>ni.any λq=>decide (q.1=p.1)&&decide ((yB op).a<=q.2))=true):=by decide +kernel
omit c in
def zce:∀ {op:Nat},op∈[7,8,9,10,15,16]->((Nz (yB op).a).find? λp=>sF (yB op).c p.1).map Prod.snd=some op:=by
 intro op h;simp only[C6,List.not_mem_nil,or_false]at h;rcases h with rfl | rfl | rfl | rfl | rfl | rfl<;>kernel_rfl
omit c in
def zpc:∀ {op:Nat},op∈[13,14]->(yB op).a=4/\(yB op).h=5/\(yB op).i=5/\md 5 (yB op).c=true/\(Ko op).1=4:=by decide +kernel
omit c in
def zj3:∀ {op:Nat},op∈[13,14]->(([([60],13),([61],14)]:List (List Nat × Nat)).find? λp=>sF (yB op).c p.1).map Prod.snd=some op:=by
 intro op h;simp only[C6,List.not_mem_nil,or_false]at h;rcases h with rfl | rfl<;>kernel_rfl
omit c in
def zcf{o:PM pA}:∀ {lev:Nat},lev∈[1,2,5,6]->cQ tk (eY tk o (lev+1)) (Nz lev)=eY tk o lev:=by
 intro lev h;simp only[C6,List.not_mem_nil,or_false]at h;rcases h with rfl | rfl | rfl | rfl<;>rfl
omit c in
theorem kj{op:Nat}{name:List Nat}{args:List pA}(d:Pt op name args.length)(h:op∈Pk):∃a b,args=[a,b]/\name=[]:=by
 obtain⟨f,e,g,i⟩:=EV op h;have j:=d.b;have k:=d.a
 match args with
 | [a,b]=>exact⟨a,b,rfl,d.c e⟩
 | []=>simp_all
 | [_]=>simp_all
 | _::_::_::_=>simp_all
theorem PU{op:Nat}{name:List Nat}{v:gE}{args:List pA}(hv:v.f.a)(o:Pt op name args.length)(h1:op=1->zM v=true)(z:op≠1->cO op v=true)
  (C:∀y∈args,(yB y.e).a<=7/\1<=(yB y.e).a) (A:∀y∈args,hZ tk K (k+2) y/\hZ tk K (k+1) y/\hZ tk K k y):hZ tk K (k+2) (.mk op name v args):=by
 have j:xF (.mk op name v args)=vW op name v (wF args):=by rw[xF]
 rcases LZ op o.d o.f with rfl | rfl | h | h | rfl | h
 .-- a constant
  have N:=o.a;have e:args=[]:=List.eq_nil_of_length_eq_zero (by grind [Ll]);subst e;have D:=o.c Ll.2.2.1;subst D;have j:xF (.mk 1 [] v [])=rY v:=by rw[j];unfold vW;rw[A5 Ll.1]
  have p:En (rY v):=by
   unfold rY;rcases CP (h1 rfl)with⟨g,_,_⟩ | ⟨g | g,_,_⟩ | ⟨g,_,_⟩ | ⟨g,_,_,_⟩
   .simp only[g];exact⟨1,_,_,rfl,.inr (.inr (by split<;>decide))⟩
   .simp only[g];unfold jM;cases v.f.n.b
    .exact⟨2,_,_,rfl,.inl rfl⟩
    .exact⟨1,_,_,rfl,.inr (.inr (by decide))⟩
   .simp only[g];exact⟨1,Jm,_,rfl,.inr (.inr (by decide))⟩
   .simp only[g];exact⟨3,_,_,rfl,.inr (.inl rfl)⟩
   .have:¬ v.a=1/\¬ v.a=2/\¬ v.a=3/\¬ v.a=4:=by omega
    rw[A3 this.1,A3 this.2.1,A3 this.2.2.1,A3 this.2.2.2];unfold jM;cases decide (v.i<0)
    .exact⟨2,_,_,rfl,.inl rfl⟩
    .exact⟨1,_,_,rfl,.inr (.inr (by decide))⟩
  refine Yl c Ll.2.1 (by simp_all) ?_;rw[j];intro n R f m;show aN tk (A9 tk (k+1)) n=_;unfold aN;rw[zjz c hv (h1 rfl) f m.d];rfl
 .-- today
  have N:=o.a;have e:args=[]:=List.eq_nil_of_length_eq_zero (by grind [Fh]);subst e;have D:=o.c Fh.2.2.1;subst D;obtain⟨s,_⟩:=Uk (z (by decide));have j:xF (.mk 2 [] v [])=[(1,Mm)]:=by rw[j];unfold vW;rw[A3 (by grind [Fh]),A5 Fh.1];rfl
  refine Yl c Fh.2.1 (by rw[j];exact⟨_,_,_,rfl,.inr (.inr (by decide))⟩) ?_;rw[j];intro n R f m;have d:=cD (show K.drop n=(1,Mm)::R from f);show aN tk (A9 tk (k+1)) n=_;unfold aN;rw[Pa c d (by decide) (by decide)];show(if B0 tk [40] n=true then _ else _)=_;rw[eH c d (by decide),tM c d (.inl rfl),s];rfl
 .-- fact,has,a reference
  obtain⟨T,U,L,W,f5,f6⟩:=QE op h;have a7:=o.b;have a6:=o.a;obtain⟨y,rfl⟩:∃y,args=[y]:=by
   match args with
   | [y]=>simp_all
   | []=>simp_all
   | _::_::_=>simp_all
  obtain⟨g1,X,g3⟩:=A y C7;obtain⟨l1,l2⟩:=C y C7;have l:=o.e W;have p:op≠1:=by grind
  have t:op≠19:=by grind
  obtain⟨s,_⟩:=Uk (z p);rw[A3 t]at s;have j:xF (.mk op name v [y])=Hl op++(1,name)::(1,Q9)::sN 7 ((yB y.e).a,xF y):=by
   grind [vW,wF]
  have u:∀n R,K.drop n=(1,name)::(1,Q9)::(sN 7 ((yB y.e).a,xF y)++R)->Qt 7 R->∀q,wT tk (A9 tk (k+1)) q n=.ok (I7 q name y) (n+2+(sN 7 ((yB y.e).a,xF y)).length):=λn R f m q=>by
   unfold wT;rw[Kr c (cD f) l];show(mE tk Q9 (n+1)).c _=_;rw[bR c (cD (rF f)) (.inl rfl)];show(A9 tk (k+1) (n+1+1)).c _=_;rw[show A9 tk (k+1) (n+1+1)=_ from Og c (lev:=7) (by omega) (by omega) X g3 l1 l2 (n+1+1) R (rF (rF f)) m];rfl
  refine Yl c L ?_ ?_
  .rw[j];simp only[C6,List.not_mem_nil,or_false]at h;rcases h with rfl | rfl | rfl
   .exact⟨1,cW,_,rfl,.inr (.inr (by decide))⟩
   .exact⟨1,Gp,_,rfl,.inr (.inr (by decide))⟩
   .exact⟨1,name,_,rfl,.inr (.inr (Sj 0 l (by decide)))⟩
  .rw[j];intro n R f m;show aN tk (A9 tk (k+1)) n=_;unfold aN;simp only[C6,List.not_mem_nil,or_false]at h;rcases h with rfl | rfl | rfl
   .have f:K.drop n=(1,cW)::(1,name)::(1,Q9)::(sN 7 ((yB y.e).a,xF y)++R):=f;have d:=cD f;rw[Pa c d (by decide) (by decide)];show(if B0 tk [40] n=true then _ else _)=_;rw[eH c d (by decide),eH c d (by decide),tM c d (.inl rfl)];show wT tk _ 3 (n+1)=_;rw[u _ R (rF f) m,s];show PR.ok _ _=PR.ok _ _;congr 1
    grind [Hl]
   .have f:K.drop n=(1,Gp)::(1,name)::(1,Q9)::(sN 7 ((yB y.e).a,xF y)++R):=f;have d:=cD f;rw[Pa c d (by decide) (by decide)];show(if B0 tk [40] n=true then _ else _)=_;rw[eH c d (by decide),eH c d (by decide),eH c d (by decide),tM c d (.inl rfl)];show wT tk _ 4 (n+1)=_;rw[u _ R (rF f) m,s];show PR.ok _ _=PR.ok _ _;congr 1
    grind [Hl]
   .have f:K.drop n=(1,name)::(1,Q9)::(sN 7 ((yB y.e).a,xF y)++R):=f;have d:=cD f;rw[Pa c d (by decide) (by
     intro N;simp only[C6,List.not_mem_nil,or_false]at N;rcases N with e | e | e | e<;>exact Sj 0 l (by decide) e)]
    show(if B0 tk [40] n=true then _ else _)=_;have Z:name≠[40]:=by rintro rfl;revert l;exact(by kernel_rfl:fG [40]=false) ▸ by decide
    have hi:pU tk n=true:=by grind [pU,Cv,Qx]
    rw[eH c d Z,eH c d (Sj 0 l (by decide)),eH c d (Sj 0 l (by decide)),eH c d (Sj 0 l (by decide)),hi];show wT tk _ 5 n=_;rw[u _ R f m,s];show PR.ok _ _=PR.ok _ _;congr 1
    grind [Hl]
 .-- an operation of two arguments
  obtain⟨a,b,rfl,rfl⟩:=kj o h;obtain⟨T,_⟩:=EV op h;obtain⟨a1,a2,a3⟩:=A a C7;obtain⟨b1,b2,b3⟩:=A b (C9 _ C7);obtain⟨E,F⟩:=C a C7;obtain⟨H,I⟩:=C b (C9 _ C7);have p:op≠1:=by rintro rfl;revert h;decide
  have t:op≠19:=by rintro rfl;revert h;decide
  obtain⟨s,_⟩:=Uk (z p);rw[A3 t]at s;have j:xF (.mk op [] v [a,b])=sN (yB op).h ((yB a.e).a,xF a)++Ko op::sN (yB op).i ((yB b.e).a,xF b):=by
   grind [vW,wF]
  have J:pA.mk op [] v [a,b]=eX op a b:=by rw[s];rfl
  by_cases B:op∈[13,14]
  .obtain⟨w,P,x,Q,S⟩:=zpc B;have m:qM K (eU tk (A9 tk (k+2))) 4 (xF (.mk op [] v [a,b])) (.mk op [] v [a,b]):=by
    rw[j,J,P,x];exact zxr c (Og c (lev:=5) (by omega) (by omega) a1 a2 E F) (Og c (lev:=5) (by omega) (by omega) b1 b2 H I) (.inr S) Q (zj3 B)
   have M:En (xF (.mk op [] v [a,b])):=by grind [PF]
   refine⟨λlev g i=>?_,λlev g i=>?_,λ_=>M⟩
   .have i:lev<=4:=by rw[<- w];exact i
    exact Ob c (.inl M) (4-lev) lev (by omega) g (by omega) m
   .have i:4=lev:=by rw[<- w];exact i
    grind
  .have B:op∈[7,8,9,10,15,16]:=by
    grind [Pk]
   obtain⟨w,P,x,Q,S,c6⟩:=zkd B;have cf:=zce B;have a8:1<=(yB op).a/\(yB op).a<=6:=by
    grind
   have hC:Ch tk K (eY tk (A9 tk (k+2)) ((yB op).a+1)) (Nz (yB op).a) ((yB op).a+1) (xF (.mk op [] v [a,b])) (.mk op [] v [a,b]):=by
    rw[j,J,P,x];exact zx0 c (rq c w a1 a2 E F) (Og c (lev:=(yB op).a+1) (by omega) (by omega) b1 b2 H I) S Q cf
   have m:qM K (eY tk (A9 tk (k+2)) (yB op).a) (yB op).a (xF (.mk op [] v [a,b])) (.mk op [] v [a,b]):=by
    have:=kh c hC c6
    rwa [zcf w]at this
   have M:4<=(yB op).a->En (xF (.mk op [] v [a,b])):=λh4=>by grind [PF]
   refine⟨λlev g i=>?_,λlev g i=>?_,M⟩
   .have i:lev<=(yB op).a:=i;refine Ob c ?_ ((yB op).a-lev) lev (by omega) g (by omega) m
    grind
   .have i:(yB op).a=lev:=i
    simp_all
 .-- not
  obtain⟨T,U,L,W,f5,f6⟩:=Ym;have a7:=o.b;have a6:=o.a;obtain⟨y,rfl⟩:∃y,args=[y]:=by
   match args with
   | [y]=>simp_all
   | []=>simp_all
   | _::_::_=>simp_all
  obtain⟨g1,X,g3⟩:=A y C7;obtain⟨l1,l2⟩:=C y C7;have D:=o.c W;subst D;obtain⟨s,_⟩:=Uk (z (by decide));have j:xF (.mk 17 [] v [y])=(1,Ce)::sN 3 ((yB y.e).a,xF y):=by
   grind [vW,wF]
  have J:pA.mk 17 [] v [y]=I7 17 [] y:=by rw[s];rfl
  have m:qM K (aT tk (A9 tk (k+2))) 3 (xF (.mk 17 [] v [y])) (.mk 17 [] v [y]):=by
   rw[j,J];exact ki c (Og c (lev:=3) (by omega) (by omega) g1 X l1 l2)
  refine⟨λlev g i=>?_,λlev g i=>?_,λh4=>?_⟩
  .have i:lev<=3:=by rw[<- L];exact i
   exact Ob c (.inr (B4 _)) (3-lev) lev (by omega) g (by omega) m
  .have i:3=lev:=by rw[<- L];exact i
   grind
  .have:4<=(yB 17).a:=h4;omega
 .-- a call
  have p:op≠1:=by rintro rfl;revert h;decide
  obtain⟨T,U⟩:=EU op h;have e0:∃r,vW op name v (wF args)=(1,(yB op).c)::r:=by
   grind [vW]
  obtain⟨_,_,x,_⟩:=GQ h;refine Yl c U ?_ ?_
  .obtain⟨r,e⟩:=e0;rw[j,e];exact⟨_,_,_,rfl,.inr (.inr λe=>x (by rw[e];decide))⟩
  .rw[j];exact zx2 c h o (z p) λy hy=>(A y hy).2.1.rd 1 (B4 _) (C y hy).2
omit c in
def RJ{x:pA}{d:Nat}(h:qJ x d=true):(yB x.e).a<=7/\1<=(yB x.e).a:=by
 obtain⟨a,g,v,f⟩:=x;obtain⟨_,b,_⟩:=FH h;have e:∀a,a<27->a≠0->1<=(yB a).a:=by decide +kernel
 exact⟨zno a b.d,e a b.d b.f⟩
mutual
theorem QY:∀(x:pA) (d k:Nat),x.b->qJ x d=true->2*(25-d)<=k->hZ tk K k x
 | .mk op name v args,d,k,b,h,m=>by
  obtain⟨p,f,j,n⟩:=FH h;rw[pA.b]at b;obtain⟨k',rfl⟩:∃k',k=k'+2:=⟨k-2,by omega⟩;by_cases i:op=1
  .have q:=f.a;have:args=[]:=List.eq_nil_of_length_eq_zero (by simp_all [Ll]);subst this;exact PU c b.2.2.2.1.2.1 f j (λe=>absurd i e) (by simp) (by simp)
  .obtain⟨c1,c2⟩:=n i;have g:=QX args (d+1) b.2.2.2.2.2 c2;exact PU c b.2.2.2.1.2.1 f j (λe=>c1) (λy a=>RJ (c2 y a)) λy a=>⟨g y a _ (by omega),g y a _ (by omega),g y a _ (by omega)⟩
theorem QX:∀(l:List pA) (d:Nat),pA.f l->(∀y∈l,qJ y d=true)->∀y∈l,∀k,2*(25-d)<=k->hZ tk K k y
 | [],_,_,_,_,a=>by cases a
 | x::l,d,b,h,y,a=>by
  rw[pA.f]at b;rcases C6.1 a with e | a
  .intro k m;rw[e];exact QY x d k b.1 (h x C7) m
  .exact QX l d b.2 (λz o=>h z (C9 _ o)) y a
end
def zi7{x:pA}(a:x.b)(h:qJ x 1=true):qM K (oZ tk) 1 (xF x) x:=
 (QY c x 1 101 a h (by omega)).rd 1 (B4 _) (RJ h).2
end
end
end Go.Proofs
