/- Trees: slots, regions. -/
import Derived.Lib.Bytealg
import Derived.Lib.Index
import Derived.Lib.IndexMore
import Derived.Lib.ItoaNum
import Derived.Shelf.Strings.Builder1
import Derived.Test.YtefajchlhjcgpaaGreatDoorP05
set_option linter.all false
noncomputable section
namespace Go.Am
open Go Go.RowKit
section
variable {d i ty:Nat}{l:List O}{dst:Option Nat}{v:O}{L:Bool}{H:KT}{all:Array Oper}{I:List Nat}{m:Tm->sA->wC}
structure qG (base:Nat) (X0:Xt) (kf:Nat) (ν:Nat->Nat) (X:Xt) (st:vI) (tm:Tm) (HA:sA) (t:G uA):Prop where
 o:Ov base t X HA
 x:dJ X0 X
 k:st.a.k=kf
 kA:tm.k=kf
 f:∀i v,st.a.a i=some v->tm.a i=some v
 g:∀i p,uO i st.d=some p->tm.a i=some (.j (ν p.1) p.2)
 w:Vd base X0 X ν st.b
 inj:∀d d' l l',st.b.c d=some l->st.b.c d'=some l'->ν d=ν d'->d=d'
theorem Po {a:Nat × Nat × Nat}{l:List (Nat × Nat × Nat)}:uO i (a::l)=if i=a.1 then some a.2 else uO i l:=by
 grind [uO,uM,zD]
theorem zkz {p:Nat × Nat}:∀ {l:List (Nat × Nat × Nat)},uO i l=some p->(i,p.1,p.2)∈l:=by
 intro l;induction l with
 | nil=>intro h;cases h
 | cons a l b=>
  grind [Po]
theorem Kj{n:Nat}{tm:Tm}   : (By n tm dst v).k=tm.k:=by
 unfold By R4
 cases dst with
 | none=>rfl
 | some d=>
  grind [Nn,Tm.c,uM]
theorem Tm.n{tm:Tm}   : (tm.c i v).k=tm.k:=by unfold Tm.c;rw[uM];split<;>rfl
section
variable {W J:xG}{t:G uA}{X D:Xt}{HA:sA}{C:fA}{A:G bC}{ν:Nat->Nat}{Q E:mB}{F n:Nat}{B:vI}{tm:Tm}
theorem qG.s(h:qG C.a D F ν X B tm HA t)    (b:iA C.a W J (uV n dst v L B H) t Q) :
  ∃c,qG C.a D F ν X c (By n tm dst v) HA t/\iA C.a W J (H c) t Q:=by
 unfold uV at b
 cases dst with
 | none=>exact⟨B,h,b⟩
 | some d=>
  simp only[bD]at b;split at b
  .rename_i l;rw[oR]at b;obtain⟨g,j⟩:=b;refine⟨_,?_,j⟩;refine⟨h.o,h.x,(by grind [k,Tm.n]),by rw[Kj];exact h.kA,?_,?_,h.w,h.inj⟩
   .intro i u f;have a:(B.a.c d v).a i=some u:=f;rw[Tm.f]at a;rw[qK];split at a
    .simp_all
    .rename_i e;rw[A3 (λm=>e (by simp_all))];exact h.f i u a
   .intro i p f;rw[qK,A3]
    .exact h.g i p f
    .rintro⟨e,_⟩;injection e with e;subst e;rw[f]at g;cases g
  .rename_i l;refine⟨B,?_,b⟩
   simp_all [By,R4,Nn,bD,A3]
theorem qG.ac(h:qG C.a D F ν X B tm HA t) {off:Nat} (b:iA C.a W J (wj n dst d off B H) t Q) :
  ∃c,qG C.a D F ν X c (Am.By n tm dst (.j (ν d) off)) HA t/\iA C.a W J (H c) t Q:=by
 unfold wj at b;rw[oF]at b;obtain⟨i,g,b⟩:=b;subst g;simp only[oR]at b;obtain⟨l,f,k⟩:=b;refine⟨_,?_,k⟩;refine⟨h.o,h.x,h.k,by rw[Kj];exact h.kA,?_,?_,h.w,h.inj⟩
 .intro j u a;rw[qK,A3]
  .exact h.f j u a
  .rintro⟨e,_⟩;injection e with e;subst e;have a:B.a.a i=some u:=a;rw[a]at f;cases f
 .intro j p a;have a:uO j ((i,d,off)::B.d)=some p:=a;rw[Po]at a;rw[qK];split at a
  .rename_i e;cases a;rw[A5 ⟨by rw[e],by simp_all⟩]
  .rename_i e;rw[A3 (λm=>e (by simp_all))];exact h.g j p a
theorem qG.am(h:qG C.a D F ν X B tm HA t)   (x:iA C.a W J (ek n d l B H) t Q) :
  ∃s E L,qG C.a D F E L s (Am.By n tm (some d) (.j HA.a 0)) (sG HA l none) t/\iA C.a W J (H s) t Q:=by
 unfold ek at x;simp only[oR]at x;obtain⟨Z,K,v,M⟩:=x;have hx:=h.o.aa;refine⟨_,λc=>if c=d then HA.a else ν c,λc=>if c=HA.a then some (.aa (G.ac l) (vB l) none)else X c,?_,M⟩;refine⟨h.o.r _,?_,h.k,by rw[Kj];exact h.kA,?_,?_,?_,?_⟩
 .intro b y N;have:X b=some y:=h.x b y N
  grind
 .intro j u i;rw[qK,A3]
  .exact h.f j u i
  .rintro⟨e,_⟩;injection e with e;subst e;have i:B.a.a d=some u:=i;rw[i]at K;cases K
 .intro j p i;have i:uO j ((d,d,0)::B.d)=some p:=i;rw[Po]at i;rw[qK];split at i
  .rename_i e;cases i;rw[A5 ⟨by rw[e],by simp_all⟩];show some (O.j HA.a 0)=some (O.j (if d=d then HA.a else ν d) 0);rw[A5 rfl]
  .rename_i e;rw[A3 (λhh=>e (by simp_all))];have P:=zkz i;unfold zq8 at v;rw[gI,C8]at v;have:=v _ P;simp only[bD]at this;have w:p.1≠d:=by
    simp_all
   show Tm.a tm j=some (O.j (if p.1=d then HA.a else ν p.1) p.2);rw[A3 w];exact h.g j p i
 .intro c m f;have f:(B.b.d d l).c c=some m:=f;rw[G.aa]at f;show D (if c=d then HA.a else ν c)=none/\C.a<=(if c=d then HA.a else ν c)/\∃k,(if (if c=d then HA.a else ν c)=HA.a then some (uA.aa (G.ac l) (vB l) none)else X (if c=d then HA.a else ν c))=some (.aa k m.length none)/\∀j a,m[j]?=some a->k.c j=some a;split at f
  .rename_i e;cases f;simp only[e,if_true];refine⟨?_,h.o.d,G.ac l,by rw[dD],λj a i=>by grind [G.o]⟩
   cases R:D HA.a with
   | none=>rfl
   | some z=>have:=h.x _ _ R;simp_all
  .rename_i e;simp only[A3 e];obtain⟨S,T,k,I,U⟩:=h.w c m f
   grind
 .intro c k m A f g r;have f:(B.b.d d l).c c=some m:=f;have g:(B.b.d d l).c k=some A:=g;have r:(if c=d then HA.a else ν c)=(if k=d then HA.a else ν k):=r;rw[G.aa]at f g;split at f<;>split at g
  .rename_i o q;rw[o,q]
  .rename_i o q;rw[A5 o,A3 q]at r;obtain⟨_,_,_,I,_⟩:=h.w k A g
   simp_all
  .rename_i o q;rw[A3 o,A5 q]at r;obtain⟨_,_,_,I,_⟩:=h.w c m f
   simp_all
  .rename_i o q;rw[A3 o,A3 q]at r;exact h.inj c k m A f g r
theorem qG.aj(h:qG C.a D F ν X B tm HA t) {i:List O}{c':G O}(n:B.b.c d=some l)(N:i.length=l.length)(P:∀j a,i[j]?=some a->c'.c j=some a) :
  ∃o,qG C.a D F ν o ⟨B.a,B.d,B.b.d d i,B.c⟩ tm (A7 HA (ν d) (.aa c' l.length none)) t:=by
 obtain⟨K,L,c,s,M⟩:=h.w d l n;refine⟨_,h.o.m s _,?_,h.k,h.kA,h.f,h.g,?_,?_⟩
 .intro b y u;show(if b=ν d then _ else X b)=some y;rw[A3]
  .exact h.x b y u
  grind
 .intro e m f;have f:(B.b.d d i).c e=some m:=f;rw[G.aa]at f;split at f
  .simp_all
  .rename_i p;obtain⟨w,x,z,A,E⟩:=h.w e m f;refine⟨w,x,z,?_,E⟩;show(if ν e=ν d then _ else X (ν e))=_;rw[A3,A];intro r;exact p (h.inj e d m l f n r)
 .intro e k m H f g v;have f:(B.b.d d i).c e=some m:=f;have g:(B.b.d d i).c k=some H:=g;rw[G.aa]at f g;have I:∃q,B.b.c e=some q:=by
   grind
  have J:∃q,B.b.c k=some q:=by
   grind
  exact h.inj e k _ _ I.choose_spec J.choose_spec v
def qG.r(h:qG C.a D F ν X B tm HA t){b:Xt}{a:sA}{t':G uA}(m:Ov C.a t' b a)(e:dJ X b):qG C.a D F ν b B tm a t':=
 ⟨m,h.x.g e,h.k,h.kA,h.f,h.g,λd l k=>by
  obtain⟨f,g,c,i,j⟩:=h.w d l k;exact⟨f,g,c,e _ _ i,j⟩,h.inj⟩
theorem Yt  (h:J0 C ty v=true):Fl C ty v:=by
 unfold J0 at h;unfold Fl
 cases b:C.b.c ty with
 | none=>trivial
 | some y=>
  rw[b]at h;simp only at h ⊢;unfold I9;cases a:y.a<;>rw[a]at h<;>simp only at h ⊢
  case r=>
   have:=zD.1 h;cases v<;>simp only[O.aa]at this<;>first
    | exact⟨_,rfl⟩
    | (cases this;done)
  case m k=>
   cases v<;>simp only[O.ac]at h<;>first
    | exact⟨_,by rw[hO.1 h]⟩
    | (cases h;done)
  case j=>
   have:=zD.1 h;cases v<;>simp only[O.aa]at this<;>first
    | exact⟨_,rfl⟩
    | (cases this;done)
theorem EZ  (h:(!Nat.ble (uJ C ty) 2)=true):Fl C ty v:=by
 unfold Fl;unfold uJ at h
 cases b:C.b.c ty with
 | none=>trivial
 | some y=>
  rw[b]at h;simp only at h ⊢;unfold I9;cases a:y.a<;>rw[a]at h<;>first
   | trivial
   | (simp only[jE.l]at h;exact absurd h (by decide))
def To:∀(zs l:List O) (c:List O),lU zs l=true->qX zs (AN (c++l)) c.length=l:=by
 intro zs;induction zs with
 | nil=>intro l c b;cases l with
  | nil=>rfl
  | cons a l=>cases b
 | cons z zs j=>
  intro l c b
  cases l with
  | nil=>cases b
  | cons a l=>
   unfold lU at b;rw[B3]at b;show we z (AN (c++a::l)) c.length::qX zs (AN (c++a::l)) (c.length+1)=a::l;have g:=j l (c++[a]) b.2;rw[D5]at g;simp only[List.cons_append,F3,E1,D6,G2]at g;rw[g];congr 1;have i:(c++a::l)[c.length]?=some a:=by simp
   have f:=b.1;cases z<;>simp only[Bc]at f<;>simp only[we,AN,Fz,Tg,sq,Gt,i]<;>try (cases f;done)
   case d=>
    have:=zD.1 f;cases a<;>simp only[O.aa]at this<;>first
     | rfl
     | (cases this;done)
   case e k _=>
    cases a<;>simp only[O.ac]at f<;>first
     | (rw[hO.1 f];done)
     | (cases f;done)
   case h=>
    have:=zD.1 f;cases a<;>simp only[O.aa]at this<;>first
     | rfl
     | (cases this;done)
theorem IM  {K:O->T}(h:iA C.a W J (Qz C ty v K) t Q):Fl C ty v/\iA C.a W J (K v) t Q:=by
 unfold Qz at h;unfold Fl;have c:∀a,iA C.a W J (bif Nat.ble (vB a) 40 then .o a v λX=>K (.i (qX a X 0))else K v) t Q->iA C.a W J (K v) t Q:=by
  intro a h;rw[bD]at h;split at h
  .have h:oD (mK a v) λX=>iA C.a W J (K (.i (qX a X 0))) t Q:=h;rw[El]at h;obtain⟨X,b,f⟩:=h;unfold mK at b;simp only[mA,qB]at b;obtain⟨l,g,d,e⟩:=b;cases e;have:=To a l [] d
   grind [Pl]
  .exact h
 grind [I9,iA,El,Iu,J3,mA,qB,Bq,hO,Bp]
theorem Vy{g:Bool} {K:O->Bool->T}(h:iA C.a W J (My g L v K) t Q):∃a,iA C.a W J (K v a) t Q:=by
 grind [My,oF,Iu,iA]
theorem Qi(h:qG C.a D F ν X B tm HA t){g:Option (Nat × Bool)} {w:Bool}(a:cG g all B.a=some w):cG g all tm=some w:=by
 unfold cG Qk at a ⊢
 cases g with
 | none=>exact a
 | some e=>
  simp only[Qj]at a ⊢;rw[mA]at a ⊢;obtain⟨d,b,a⟩:=a;refine⟨d,b,?_⟩;rw[mA]at a ⊢;obtain⟨v,c,a⟩:=a;exact⟨v,h.f _ _ c,a⟩
def SK (C:fA)(W J:xG)(D:Xt)(F:Nat)(E Q:mB)(H:KT)(m:Tm->sA->wC):Prop:=∀B tm HA t X ν,qG C.a D F ν X B tm HA t->iA C.a W J (H B) t Q->qC C.a D E Q (m tm HA)
theorem qC.c  {K:O->wC}(e:Fl C ty v)(h:qC C.a D E Q (K v)):qC C.a D E Q (fN C ty v K):=by
 obtain⟨u,f,a,b,c,d⟩:=h;exact⟨u,f,a,b,jS.2 ⟨e,c⟩,d⟩
theorem qC.f{b:Type}{x:Option b}{a:b}{K:b->wC}(c:x=some a)(h:qC C.a D E Q (K a)):qC C.a D E Q (Am.ob x K):=by simp_all
theorem zfe(N:nT C A E W){e s:mD}{K:rR}(R:bX e s)(P:Py ν K s)(a:qG C.a D F ν X B tm HA t)  {o:Oper}
  (y:∀b tm' f t' p i,(I=[]->i=ν)->qG C.a D F i p b tm' f t'->(∃v,tm'=By n tm o.dst v)->iA C.a W J (H b) t' Q->qC C.a D E Q (m tm' f))
  (h:iA C.a W J (tH C I o.dst o.op e K B.b (U3 C all n o e B H) (lr C n o B H)) t Q) :
  qC C.a D E Q (fH (sD C A) ((iF o.op).f C s HA) HA λv H'=>fN C o.type v λv=>m (By n tm o.dst v) H'):=by
 refine pg N a.x R P a.o a.w h ?_ ?_ ?_ ?_ ?_
 .intro v t' f p w x c;have c:iA C.a W J (Qz C o.type v λv=>My (Ya all.toList o.dst all.toList) (sw o.op e B.c) v λv L=>uV n o.dst v L B H) t' Q:=c;obtain⟨j,g⟩:=IM c;obtain⟨z,q⟩:=Vy g;obtain⟨b,r,k⟩:=(a.r w x).s q
  grind [qC.c]
 .intro v t' f p w x c;obtain⟨j,g⟩:=oR.1 c;obtain⟨z,q⟩:=Vy g;obtain⟨b,r,k⟩:=(a.r w x).s q
  grind [qC.c,Yt]
 .intro d T c;obtain⟨j,g⟩:=oR.1 c;obtain⟨b,r,k⟩:=a.ac g
  grind [qC.c,EZ]
 .intro d l u c;obtain⟨j,g⟩:=oR.1 c;obtain⟨b,i,p,r,k⟩:=a.am g;have e:=zht u;rw[e];refine qC.c (EZ j) (y _ _ _ _ _ _ (λS=>?_) r ⟨_,by rw[e]⟩ k);rw[S,e]at u;cases u
 .intro d l l' U j g q c;obtain⟨r,k⟩:=oR.1 c;obtain⟨p,M⟩:=a.aj j g q;obtain⟨b,Z,h8⟩:=M.s k
  grind [qC.c,Yt]
def Sf(h:qG C.a D F ν X B tm HA t):bX (.b B.a) (.b tm)/\Py ν (.b B.d) (.b tm):=⟨h.f,h.g⟩
def zt3(k:nT C A E W)    (b:SK C W J D F E Q H m):∀(l:List Oper),SK C W J D F E Q (N4 C I all n H l) (lO C (sD C A) all n m l):=by
 intro l;induction l with
 | nil=>exact b
 | cons o l e=>
  intro B tm HA t X ν a h;have h:iA C.a W J (kC (cG o.guard all B.a) λw=>Bool.rec (motive:=λ_=>T) (uV n o.dst aD false B (N4 C I all n H l))
   (tH C I o.dst o.op (.b B.a) (.b B.d) B.b (U3 C all n o (.b B.a) B (N4 C I all n H l)) (lr C n o B (N4 C I all n H l))) w) t Q:=h
  rw[oF]at h;obtain⟨w,g,d⟩:=h;rw[Hp];refine qC.f (Qi a g) ?_
  cases w with
  | false=>
   rw[A3 (by simp)];obtain⟨c,i,j⟩:=a.s d;exact e _ _ _ _ _ _ i j
  | true=>
   rw[A5 rfl];exact zfe k (Sf a).1 (Sf a).2 a (λc r f v u s _ p _ q=>e _ _ _ _ _ _ p q) d
end
end
section
variable {b base f fn i k:Nat}{op:Op}{B:KT}{e:mD}{I:uQ}{m:Tm->sA->wC}{F pl:List Nat}{q:Nat × Nat}{v:O}{p:PI}{vals:List O}{y:uA}{c:bC}
structure Pr (ν:Nat->Nat) (old:vI) (oldA:Tm):Prop where
 a:∀i v,old.a.a i=some v->oldA.a i=some v
 b:∀i p,uO i old.d=some p->oldA.a i=some (.j (ν p.1) p.2)
def qG.ak {b X:Xt}{c:Nat}{ν:Nat->Nat}{a:vI}{tm:Tm}{HA:sA}{t:G uA}(h:qG base b c ν X a tm HA t):Pr ν a tm:=⟨h.f,h.g⟩
def Tm.g{tm:Tm}  : tm.b.a i=if i<tm.k then tm.a i else none:=by
 unfold Tm.b Tm.a;simp only[uM];by_cases h:Nat.blt i tm.k=true
 .rw[A5 h,A5 h,A5 (eC.1 h)]
 .rw[A3 h,A3 (λe=>h (eC.2 e))];rfl
theorem zk0  : ∀ {l:List (Nat × Nat × Nat)},uO i (mD.d k l)=if i<k then uO i l else none:=by
 intro l;induction l with
 | nil=>show none=_;split<;>rfl
 | cons a l b=>
  grind [mD.d,eC,Po]
section
variable {W J:xG}{t:G uA}{X c:Xt}{HA:sA}{C:fA}{A:G bC}{ν:Nat->Nat}{Q E:mB}{f n:Nat}{b old:vI}{tm a:Tm}{all:Array Oper}{olds:List (Nat × List Nat)}
theorem qG.aa(h:qG C.a c f ν X b tm HA t):qG C.a c f ν X b.e tm.b HA t:=by
 refine⟨h.o,h.x,h.k,h.kA,?_,?_,h.w,h.inj⟩
 .intro i v a;have a:b.a.b.a i=some v:=a;rw[Tm.g]at a ⊢;split at a
  .rename_i e;rw[A5 (by rw[h.kA,<- h.k];exact e)];exact h.f i v a
  grind
 .intro i p a;have a:uO i (mD.d b.a.k b.d)=some p:=a;rw[zk0]at a;rw[Tm.g];split at a
  .rename_i e;rw[A5 (by rw[h.kA,<- h.k];exact e)];exact h.g i p a
  grind
theorem Ky(h:qG C.a c f ν X b tm HA t)(j:Pr ν old a){os:List Nat}  : bX (yU b old os op) (.c tm a os (aI op))/\Py ν (Er b old os op) (.c tm a os (aI op)):=by
 constructor
 .intro i v d;have d:(bif yJ i (aI op)then Tm.a (bif yJ i os then old.a else b.a) i else none)=some v:=d;show(bif yJ i (aI op)then Tm.a (bif yJ i os then a else tm) i else none)=some v
  cases g:yJ i (aI op)with
  | false=>simp_all
  | true=>
   rw[g]at d;simp only[cond_true]at d ⊢
   cases e:yJ i os with
   | true=>rw[e]at d;exact j.a i v d
   | false=>rw[e]at d;exact h.f i v d
 .intro i p d;have d:(bif yJ i (aI op)then uO i (bif yJ i os then old.d else b.d)else none)=some p:=d;show(bif yJ i (aI op)then Tm.a (bif yJ i os then a else tm) i else none)=_
  cases g:yJ i (aI op)with
  | false=>simp_all
  | true=>
   rw[g]at d;simp only[cond_true]at d ⊢
   cases e:yJ i os with
   | true=>rw[e]at d;exact j.b i p d
   | false=>rw[e]at d;exact h.g i p d
theorem AY(z:Pr ν old a) {q:Tm->wC}(p:∀g tm',qG C.a c f ν X g tm' HA t->iA C.a W J (B g) t Q->qC C.a c E Q (q tm')) :
  ∀(l:List Nat) (b:vI) (tm:Tm),qG C.a c f ν X b tm HA t->iA C.a W J (yX C all n old olds B l b) t Q->qC C.a c E Q (oJ C HA all n a olds q l tm):=by
 intro l;induction l with
 | nil=>exact p
 | cons i l L=>
  intro b tm e h;have h:iA C.a W J (kC (lD all.toList i) λo=>kC (cG o.guard all b.a) λw=>Bool.rec (motive:=λ_=>T) (uV n o.dst aD false b (yX C all n old olds B l))
   (tL C o.op (yU b old (tG i olds) o.op) (Er b old (tG i olds) o.op) b.b (U3 C all n o (yU b old (tG i olds) o.op) b (yX C all n old olds B l))) w) t Q:=h
  rw[oF]at h;obtain⟨o,A,h⟩:=h;rw[oF]at h;obtain⟨w,D,y⟩:=h;rw[Xr];refine qC.f A (qC.f (Qi e D) ?_)
  cases w with
  | false=>
   rw[A3 (by simp)];obtain⟨g,I,K⟩:=e.s y
   grind
  | true=>
   rw[A5 rfl];refine Exists.elim (wl (R:=λv=>qC C.a c E Q (fN C o.type v λv=>oJ C HA all n a olds q l (By n tm o.dst v))) (Ky e z).1 (Ky e z).2 e.o e.w y ?_ ?_ ?_) (λv h=>qC.f h.1 h.2)
   .intro v j;have j:iA C.a W J (Qz C o.type v λv=>My (Ya all.toList o.dst all.toList) (sw o.op (yU b old (tG i olds) o.op) b.c) v λv F=>uV n o.dst v F b (yX C all n old olds B l)) t Q:=j;obtain⟨s,k⟩:=IM j;obtain⟨r,m⟩:=Vy k;obtain⟨g,u,x⟩:=e.s m
    grind [qC.c]
   .intro v j;obtain⟨s,k⟩:=oR.1 j;obtain⟨r,m⟩:=Vy k;obtain⟨g,u,x⟩:=e.s m
    grind [qC.c,Yt]
   .intro d H j;obtain⟨s,k⟩:=oR.1 j;obtain⟨g,u,x⟩:=e.ac k
    grind [qC.c,EZ]
theorem zdo(n:Pr ν old a)(e:qG C.a c f ν X b tm HA t){k:T}{m:wC}(y:iA C.a W J k t Q->qC C.a c E Q m) :
  ∀(l:List Nat),iA C.a W J (Cj C all old olds b k l) t Q->qC C.a c E Q (oP C HA all a olds tm m l):=by
 intro l;induction l with
 | nil=>exact y
 | cons i l A=>
  intro h;have h:iA C.a W J (kC (lD all.toList i) λo=>kC o.dst λd=>kC (cG o.guard all b.a) λw=>Bool.rec (motive:=λ_=>T) (Cj C all old olds b k l)
   (kC (b.a.a d) λu=>gM (J0 C o.type u) (tL C o.op (yU b old (tG i olds) o.op) (Er b old (tG i olds) o.op) b.b ⟨λv=>.a (A8 10 v u) (Cj C all old olds b k l) .g,λv=>.a (A8 10 v u) (Cj C all old olds b k l) .g,λ_ _=>.g⟩)) w) t Q:=h
  rw[oF]at h;obtain⟨o,p,h⟩:=h;rw[oF]at h;obtain⟨d,q,h⟩:=h;rw[oF]at h;obtain⟨w,r,h⟩:=h;rw[GY];refine qC.f p (qC.f q (qC.f (Qi e r) ?_))
  cases w with
  | false=>simp_all
  | true=>
   rw[A5 rfl];simp only[oF,oR]at h;obtain⟨u,s,B,x⟩:=h;have g:∀v,iA C.a W J (.a (A8 10 v u) (Cj C all old olds b k l) .g) t Q->qC C.a c E Q (fN C o.type v λv=>ob (tm.a d) λu=>sB (A8 10 v u) (oP C HA all a olds tm m l)):=by
    intro v j;have j:if A8 10 v u=true then iA C.a W J (Cj C all old olds b k l) t Q else False:=j;split at j
    .rename_i z;refine qC.c ?_ (qC.f (e.f _ _ s) ?_)
     .grind [BZ,Yt]
     .rw[z];exact A j
    simp_all
   obtain⟨v,D,F⟩:=wl (R:=λv=>qC C.a c E Q (fN C o.type v λv=>ob (tm.a d) λu=>sB (A8 10 v u) (oP C HA all a olds tm m l))) (Ky e n).1 (Ky e n).2 e.o e.w x g g (λ_ _ h=>h.elim)
   simp_all
theorem zla(a:qG C.a c f ν X b tm HA t){h:Nat}{o:Oper}{w:Bool}(d:eZ C all h o b.a=some w):eZ C all h o tm=some w:=by
 grind [eZ,mA,Qi]
theorem zb1{a:mD}(b:bX e a)  (h:Fp op e=some I):Fp op a=some I:=by
 cases op<;>first | (cases h;done) | skip
 all_goals grind [Fp,mA,bF]
theorem zuc  {a:rR} (h:en op e a=some I):Fp op e=some I:=by
 cases op<;>first | exact h | skip
 grind [en]
def zlx(d:qG C.a c f ν X b tm HA t)(m:Pr ν old a){l:List Nat}{es:List uQ}(h:ta all old olds b l=some es):Ow all a olds tm l=some es:=by
 refine Xl l (λi I h=>?_) h;unfold Db;simp only[mA,qB]at h ⊢;obtain⟨o,e,w,g,j,k⟩:=h;exact⟨o,e,w,Qi d g,j,zb1 (Ky d m).1 (zuc k)⟩
theorem zak(hW:nT C A E W)(r:Pr ν old a)  (P:SK C W J c f E Q B m) :
  ∀(l:List dH) (b:vI) (tm:Tm) (HA:sA) (t:G uA) (X:Xt),qG C.a c f ν X b tm HA t->iA C.a W J (Gw C all n old olds B l b) t Q->qC C.a c E Q (fK C (sD C A) all n a olds m l tm HA):=by
 intro l;induction l with
 | nil=>intro b tm HA t X i h;exact P _ _ _ _ _ _ i h
 | cons s l S=>
  intro b tm HA t X i h
  cases z:yZ all s with
  | true=>
   have h:iA C.a W J (Bool.rec (motive:=λ_=>T) _ (gM (Ct C all) (kC (ta all old olds b s.c) λq=>.h (Mt C q) λ_=>yX C all n old olds (Gw C all n old olds B l) s.b b)) (yZ all s)) t Q:=h;rw[z]at h;have h:iA C.a W J (gM (Ct C all) (kC (ta all old olds b s.c) λq=>.h (Mt C q) λ_=>yX C all n old olds (Gw C all n old olds B l) s.b b)) t Q:=h;rw[oR]at h;obtain⟨K,h⟩:=h;rw[oF]at h;obtain⟨q,L,h⟩:=h
   have h:=h HA.a i.o.o i.o.d;rw[El]at h;obtain⟨⟨v,F⟩,y,R⟩:=h;obtain⟨g,U,Z⟩:=zc9 _ _ _ _ _ i.o y;have h6:Fg C q HA=some g:=by
    grind [Mt,mA]
   rw[Rd z];unfold Tk;rw[K];show qC C.a c E Q (ob (Ow all a olds tm s.c) λq=>ob (Fg C q HA) λF=>oJ C F all n a olds (λtm=>fK C (sD C A) all n a olds m l tm F) s.b tm);refine qC.f (zlx i r L) (qC.f h6 ?_);exact AY r (λd k u x=>S _ _ _ _ _ u x) _ _ _ (i.r Z (dJ.f _)) R
  | false=>
  have h:iA C.a W J (Bool.rec (motive:=λ_=>T) (kC (lD all.toList (bP all s.a)) λo=>kC (eZ C all s.a o b.a) λw=>
   (λj:KT=>Bool.rec (motive:=λ_=>T) (uV n o.dst aD false b j)
    (tH C [] o.dst o.op (yU b old (tG (bP all s.a) olds) o.op) (Er b old (tG (bP all s.a) olds) o.op) b.b (U3 C all n o (yU b old (tG (bP all s.a) olds) o.op) b j) (lr C n o b j)) w)
   (λd=>Cj C all old olds d (yX C all n old olds (Gw C all n old olds B l) s.b d) s.c)) _ (yZ all s)) t Q:=h
  rw[z]at h;have h:iA C.a W J (kC (lD all.toList (bP all s.a)) λo=>kC (eZ C all s.a o b.a) λw=>
   (λj:KT=>Bool.rec (motive:=λ_=>T) (uV n o.dst aD false b j)
    (tH C [] o.dst o.op (yU b old (tG (bP all s.a) olds) o.op) (Er b old (tG (bP all s.a) olds) o.op) b.b (U3 C all n o (yU b old (tG (bP all s.a) olds) o.op) b j) (lr C n o b j)) w)
   (λd=>Cj C all old olds d (yX C all n old olds (Gw C all n old olds B l) s.b d) s.c)) t Q:=h
  rw[oF]at h;obtain⟨o,K,h⟩:=h;rw[oF]at h;obtain⟨w,L,y⟩:=h;rw[Na z];refine qC.f K (qC.f (zla i L) ?_);have I:∀d k g D H p,p=ν->qG C.a c f p H d k g D->iA C.a W J (Cj C all old olds d (yX C all n old olds (Gw C all n old olds B l) s.b d) s.c) D Q →
    qC C.a c E Q (oP C g all a olds k (oJ C g all n a olds (λtm=>fK C (sD C A) all n a olds m l tm g) s.b k) s.c):=by
   intro d k g D H p e u x;subst e;exact zdo r u (λhl=>AY r (λa1 a6 M N=>S _ _ _ _ _ M N) _ _ _ u hl) _ x
  cases w with
  | false=>
   simp only[F5,if_false];obtain⟨d,R,U⟩:=i.s y
   grind
  | true=>
   simp only[if_true];exact zfe (m:=λk g=>oP C g all a olds k (oJ C g all n a olds (λtm=>fK C (sD C A) all n a olds m l tm g) s.b k) s.c)
    hW (Ky i r).1 (Ky i r).2 i (λd k g D H p hn u _ x=>I _ _ _ _ _ _ (hn rfl) u x) y
def zam(j:nT C A E W) {i:Nat}{d:Bool}  (e:SK C W J c f E Q B m):SK C W J c f E Q (zdg C F fn n B i all d) (Nh C (sD C A) fn n m i all d):=by
 intro b tm HA t X ν a h
 cases d with
 | false=>exact zt3 j e _ _ _ _ _ _ _ a.aa h
 | true=>
  have h:iA C.a W J (kC (ob (C.e.c fn) λt=>t.c i) λp=>gM (jY all p) (yX C all n b.e p.b (Gw C all n b.e p.b B p.a) p.c b.e)) t Q:=h;simp only[oF,oR]at h;obtain⟨p,k,l,o⟩:=h;show qC C.a c E Q (ob (ob (C.e.c fn) λt=>t.c i) λp=>sB (jY all p) (oJ C HA all n tm.b p.b (λg=>fK C (sD C A) all n tm.b p.b m p.a g HA) p.c tm.b));refine qC.f k ?_;rw[l];exact AY a.aa.ak (λs g q r=>zak j a.aa.ak e _ _ _ _ _ _ q r) _ _ _ a.aa o
end
structure U4 where
 p:PI
 m:Tm->sA->wC
def vN(C:fA)(φ:fF)(fn n:Nat):bC->Kt->List U4
 | .ah,_=>[]
 | .aa _ _ _,_=>[]
 | .ak a b,B=>vN C φ fn n a ⟨wE C φ fn n b B,B.a,B.b⟩++vN C φ fn n b B
 | .ap _ x y,B=>vN C φ fn n x B++vN C φ fn n y B
 | .am h c,B=>vN C φ fn n c ⟨B.c,λi e H=>Bool.rec (motive:=λ_=>wC) (B.a i e H) (B.c e H) (Nat.beq h i),B.b⟩
 | .ac p c,B=>⟨p,wE C φ fn n (.ac p c) B⟩::vN C φ fn n c ⟨wE C φ fn n (.ac p c) B,B.a,B.b⟩
 | .au _,_=>[]
 | .ax,_=>[]
 | .aw p c,B=>⟨p,wE C φ fn n (.aw p c) B⟩::vN C φ fn n c B
 | .aj i pl g d f c,_=>⟨⟨i,oE pl d.toList,[]⟩,sk C φ fn n ⟨i,pl,g,d,f,c⟩⟩::vN C φ fn n c M1
def Uy(base c:Nat)(E:mB)(d:U4)(vals:List O)(t:G uA)(Q:mB):Prop:=∀b X a e f,qG base b c f X (qO c d.p vals) e a t->qC base b E Q (d.m e a)
def H8 (base a:Nat)(E:mB)(J:xG)(l:List U4):Prop:=∀d∈l,∀vals t Q,J d.p.e vals t Q->Uy base a E d vals t Q
structure U5 (C:fA) (W J:xG) (X0:Xt) (kf:Nat) (E Q:mB) (B:M2) (m:Kt):Prop where
 a:SK C W J X0 kf E Q B.b m.c
 b:∀i,SK C W J X0 kf E Q (B.a i) (m.a i)
 c:SK C W J X0 kf E Q B.c m.b
theorem BQ{d:Nat}{l:List O}{e:vI}:∀ {c:List (Nat × Nat)} {b rest:List O},Mp e c=some b->(Aa c (b++rest)).c d=some l->e.b.c d=some l:=by
 intro c;induction c with
 | nil=>grind [Aa,G.ah]
 | cons p c n=>
  intro b rest f h;have f:(ob (uO p.1 e.d) λa=>sB (Nat.beq a.1 p.1&&Nat.beq a.2 0) (ob (e.b.c p.1) λl=>sB (Nat.beq (vB l) p.2) (ob (Mp e c) λr=>some (oE l r))))=some b:=f;simp only[mA,qB]at f;obtain⟨a,_,_,g,j,k,r,m,i⟩:=f;cases i;have h:((Aa c (tU (oE g r++rest) p.2)).d p.1 (Et (oE g r++rest) p.2)).c d=some l:=h
  grind [zD,dD,wI,vU,eV,G.aa]
theorem zmb  {c:vI}:∀ {a:List (Nat × Nat)} {b:List O},Mp c a=some b->uO i (N5 a)=some q->uO i c.d=some q:=by
 intro a;induction a with
 | nil=>intro b _ h;cases h
 | cons p a d=>
  grind [Mp,mA,qB,zD,N5,Po]
theorem zl9  {c:vI}:∀ {pl:List Nat} {a rest:List O},jH (λi=>c.a.a i) pl=some a->(kR pl (a++rest)).c i=some v->c.a.a i=some v:=by
 intro pl;induction pl with
 | nil=>grind [kR,G.ah]
 | cons j pl f=>
  intro a rest b h;rw[iQ,mA]at b;obtain⟨u,d,b⟩:=b;rw[mA]at b;obtain⟨r,e,b⟩:=b;cases b;have h:((kR pl (r++rest)).d j u).c i=some v:=h
  grind [G.aa]
theorem Tm.d {v:G O}{u:O}(h:Tm.a ⟨k,v,[]⟩ i=some u):i<k/\v.c i=some u:=by
 unfold Tm.a at h;rw[uM]at h;split at h
 .simp_all
 .cases h
theorem zac {c:vI} (h:Jo p c=some vals):∃a b,vals=a++b/\jH (λi=>c.a.a i) p.d=some a/\Mp c p.c=some b/\a.length=p.d.length:=by
 unfold Jo at h;simp only[mA]at h;obtain⟨a,d,b,e,f⟩:=h;cases f;refine⟨a,b,wI _ _,d,e,?_⟩;have:∀(l:List Nat) (r:List O),jH (λi=>c.a.a i) l=some r->r.length=l.length:=by
  intro l;induction l with
  | nil=>intro r h;cases h;rfl
  | cons x l g=>
   grind [iQ,mA]
 grind
section
variable {W J:xG}{t:G uA}{X k:Xt}{HA:sA}{C:fA}{A:G bC}{ν:Nat->Nat}{Q E:mB}{o n:Nat}{D:vI}{tm:Tm}
theorem qG.at(h:qG C.a k o ν X D tm HA t){p:PI}{vals:List O}(y:Jo p D=some vals):qG C.a k o ν X (qO o p vals) tm HA t:=by
 obtain⟨a,b,rfl,u,f,w⟩:=zac y;have s:tU (a++b) (vB p.d)=b:=by rw[vU,dD,<- w,List.drop_left]
 refine⟨h.o,h.x,rfl,h.kA,?_,?_,?_,?_⟩
 .intro i v n;exact h.f i v (zl9 u (Tm.d n).2)
 .intro i q n;exact h.g i q (zmb f n)
 .intro d l c;have c:(Aa p.c (tU (a++b) (vB p.d))).c d=some l:=c;rw[s]at c;have j:(Aa p.c (b++[])).c d=some l:=by simp_all
  exact h.w d l (BQ f j)
 .intro d g l r c e x;have c:(Aa p.c (tU (a++b) (vB p.d))).c d=some l:=c;have e:(Aa p.c (tU (a++b) (vB p.d))).c g=some r:=e;rw[s]at c e;have j:(Aa p.c (b++[])).c d=some l:=by simp_all
  have m:(Aa p.c (b++[])).c g=some r:=by simp_all
  exact h.inj d g l r (BQ f j) (BQ f m) x
theorem zh9{tm:Tm}  (a:tm.a i=some v):∀ {live:List Nat},i∈live->(Of tm live).c i=some v:=by
 intro live;induction live with
 | nil=>simp_all
 | cons j live b=>
  grind [Of,G.aa]
theorem zl8   : ∀ {pl:List Nat} {vals:List O},(kR pl vals).c i=some v->i∈pl:=by
 intro pl;induction pl with
 | nil=>grind [kR,G.ah]
 | cons j pl a=>
  intro vals h
  cases vals with
  | nil=>grind [kR,G.ah]
  | cons u vals=>
   have h:((kR pl vals).d j u).c i=some v:=h
   grind [G.aa]
theorem zma   : ∀ {b:List (Nat × Nat)},uO i (N5 b)=some q->i∈(List.rec (motive:=λ_=>List Nat) [] (λa _ r=>a.1::r) b:List Nat):=by
 intro b;induction b with
 | nil=>intro h;cases h
 | cons p b c=>
  grind [N5,Po]
theorem qG.ah  (d:∀i,i∈p.b->i<o)(h:qG C.a k o ν X (qO o p vals) tm HA t):qG C.a k o ν X (qO o p vals) (Am.C1 p.b tm) HA t:=by
 have b:∀i v,i∈p.b->tm.a i=some v->(Am.C1 p.b tm).a i=some v:=by
  intro i v a c;unfold Am.C1 Tm.a;rw[uM,A5 (eC.2 (by rw[h.kA];grind))];exact zh9 c a
 refine⟨h.o,h.x,rfl,h.kA,?_,?_,h.w,h.inj⟩
 .intro i v a;refine b i v ?_ (h.f i v a);unfold PI.b;rw[wI];exact M0 _ (zl8 (Tm.d a).2)
 .intro i q a;refine b i _ ?_ (h.g i q a);unfold PI.b;rw[wI];exact E3 _ (zma a)
def EA{l:List U4}(d:H8 C.a o E J l)  (e:(⟨p,m⟩:U4)∈l):SK C W J k o E Q (Cw p) m:=by
 intro D tm HA t X ν a h;unfold Cw at h;rw[oF]at h;obtain⟨vals,b,c⟩:=h;exact d _ e vals t Q c _ _ _ _ _ (a.at b)
def zq5:U5 C W J k o E Q mn M1:=⟨λ_ tm HA t X _ a h=>⟨_,t,HA,X,rfl,a.o,a.x,h⟩,λ_ _ _ _ _ _ _ _ h=>h.elim,λ_ tm HA t X _ a h=>⟨_,t,HA,X,rfl,a.o,a.x,h⟩⟩
def Gg(C:fA)(A:G bC)(W:xG):Prop:=∀l a t Q,(∀X HA,Ov C.a t X HA->qC C.a X eK Q (Fv C A (yo+l) a HA))->W (yo+l) a t Q
def eR (X:Xt)(b:Nat)(y:uA):Xt:=λc=>if c=b then some y else X c
theorem Se{X:Xt}  (h:X b=none):dJ X (eR X b y):=by
 intro c z a;grind [eR]
theorem Ov.l (h:Ov base t X HA)  (f:t.c b=some y)(z:uA):Ov base (t.q b) (eR X b z) (Am.A7 HA b z):=by
 refine⟨h.d,λc a=>?_,λc u a=>?_,λc u a=>?_⟩
 .show(HA.t.d b z).c c=_;unfold eR at a;split at a
  .cases a
  .rename_i e;rw[G.aa,A3 e,G.e,A3 e];exact h.f c a
 .show(HA.t.d b z).c c=_/\_;unfold eR at a;split at a
  .rename_i e;cases a;subst e;exact⟨by rw[G.aa,A5 rfl],by rw[G.e,A5 rfl],h.j _ _ f⟩
  .rename_i e;obtain⟨g,i,d⟩:=h.a c u a;exact⟨by grind [G.aa],by grind [G.e],d⟩
 .rw[G.e]at a;split at a
  .cases a
  .exact h.j _ _ a
theorem Ov.s (h:Ov base t X HA)  (i:X b=some y)(z:uA):Ov base (t.d b z) (λc=>if c=b then none else X c) (Am.A7 HA b z):=by
 obtain⟨f,g,d⟩:=h.a b y i;refine⟨h.d,λc a=>?_,λc u a=>?_,λc u a=>?_⟩
 .show(HA.t.d b z).c c=_;rw[G.aa,G.aa];split
  .rfl
  .rename_i e;rw[A3 e]at a;exact h.f c a
 .show(HA.t.d b z).c c=_/\_;split at a
  .cases a
  .rename_i e;obtain⟨f,g,d⟩:=h.a c u a;exact⟨by grind [G.aa],by grind [G.aa],d⟩
 .rw[G.aa]at a;split at a
  .rename_i e;rw[e];exact d
  .exact h.j _ _ a
def DM{H:sA}{l:Nat}{r:yP}(a:256<=l)(h:H.t.c l=some (.ac r)):rK H l=some r:=by
 unfold rK;rw[h,lA,Nat.ble_eq_true_of_le a];rfl
theorem zmm{o n:Nat}{D:vI}{tm:Tm} {ps:List Nat}{args:List O}{X:Xt}{HA:sA}{t:G uA}(y:Ov base t X HA)(N:D.a.k=o)(x:tm.k=o)
  (P:∀i v,D.a.a i=some v->tm.a i=some v) (z:zqy pl D=some vals) (k:nD (λp=>Nat.blt p D.a.k&&Nat.blt p n && !yJ p pl) ps=true) (E:ep ps=true) (w:args.length=ps.length) :
  ∃tm',Ed n ps args tm=some tm'/\qG base X o (λi=>i) X (qO o ⟨i,oE pl ps,[]⟩ (vals++args)) tm' HA t:=by
 have g:∀(pl:List Nat) (vals f:List O) j v,jH (λi=>D.a.a i) pl=some vals->(kR (pl++ps) (vals++f)).c j=some v->(j∈pl/\tm.a j=some v)\/(kR ps f).c j=some v:=by
  intro pl;induction pl with
  | nil=>intro vals f j v h c;cases h;simp_all
  | cons a pl Q=>
   intro vals f j v h c;rw[iQ,mA]at h;obtain⟨u,L,h⟩:=h;rw[mA]at h;obtain⟨J,M,h⟩:=h;cases h;have c:((kR (pl++ps) (J++f)).d a u).c j=some v:=c
   grind [G.aa]
 cases ps with
 | nil=>
  cases args with
  | cons _ _=>cases w
  | nil=>
   refine⟨tm,rfl,y,dJ.f _,rfl,x,λj v c=>?_,λj p h=>(by cases h),λd l h=>?_,λd _ l _ h=>?_⟩
   .have c:=(Tm.d c).2;have c:(kR (oE pl []) (vals++[])).c j=some v:=c;rw[wI]at c;rcases g pl vals [] j v z c with⟨_,h⟩ | h
    all_goals grind [kR,G.ah]
   .rw[show(qO o ⟨i,oE pl [],[]⟩ (vals++[])).b=.aj from rfl,G.ah]at h;cases h
   omega
 | cons p ps=>
  cases ps with
  | cons q ps=>
   cases ps with
   | cons _ _=>cases E
   | nil=>
   match args,w with
   | [a,b],_=>
    have I:p≠q:=λe=>by simp_all [ep]
    have H:(bif (Nat.blt p D.a.k&&Nat.blt p n && !yJ p pl)then(bif (Nat.blt q D.a.k&&Nat.blt q n && !yJ q pl)then true else false)else false)=true:=k
    cases m:(Nat.blt p D.a.k&&Nat.blt p n && !yJ p pl)with
    | false=>grind
    | true=>
    cases A:(Nat.blt q D.a.k&&Nat.blt q n && !yJ q pl)with
    | false=>grind
    | true=>
     simp only[B3,E7]at m A;obtain⟨⟨r,s⟩,K⟩:=m;obtain⟨⟨B,C⟩,R⟩:=A;have r:=eC.1 r;have s:=eC.1 s;have B:=eC.1 B;have C:=eC.1 C;refine⟨By n (By n tm (some p) a) (some q) b,rfl,y,dJ.f _,rfl,by grind [Kj],λj v c=>?_,λj p h=>(by cases h),λd l h=>?_,λd _ l _ h=>?_⟩
     .have c:=(Tm.d c).2;have c:(kR (oE pl [p,q]) (vals++[a,b])).c j=some v:=c;rw[wI]at c;rw[qK,qK];rcases g pl vals [a,b] j v z c with⟨F,h⟩ | h
      all_goals grind [Es,kR,G.aa,G.ah]
     .rw[show(qO o ⟨i,oE pl [p,q],[]⟩ (vals++[a,b])).b=.aj from rfl,G.ah]at h;cases h
     omega
  | nil=>
   cases args with
   | nil=>cases w
   | cons a args=>
    cases args with
    | cons _ _=>simp at w
    | nil=>
     have H:(bif (Nat.blt p D.a.k&&Nat.blt p n && !yJ p pl)then nD (λp=>Nat.blt p D.a.k&&Nat.blt p n && !yJ p pl) []else false)=true:=k
     cases m:(Nat.blt p D.a.k&&Nat.blt p n && !yJ p pl)with
     | false=>grind
     | true=>
      simp only[B3,E7]at m;obtain⟨⟨r,s⟩,K⟩:=m;have r:=eC.1 r;have s:=eC.1 s;refine⟨By n tm (some p) a,rfl,y,dJ.f _,rfl,by grind [Kj],λj v c=>?_,λj p h=>(by cases h),λd l h=>?_,λd _ l _ h=>?_⟩
      .have c:=(Tm.d c).2;have c:(kR (oE pl [p]) (vals++[a])).c j=some v:=c;rw[wI]at c;rw[qK];rcases g pl vals [a] j v z c with⟨F,h⟩ | h
       all_goals grind [Es,kR,G.aa,G.ah]
      .rw[show(qO o ⟨i,oE pl [p],[]⟩ (vals++[a])).b=.aj from rfl,G.ah]at h;cases h
      omega
def WY (l:List (Nat × Array Oper)):nM (U0 c l)=nM c:=by
 induction l with
 | nil=>rfl
 | cons x l a=>exact a
def XG{C:fA}{φ:fF}{n:Nat} {B:Kt}(l:List (Nat × Array Oper)):vN C φ fn n (U0 c l) B=vN C φ fn n c B:=by
 induction l with
 | nil=>rfl
 | cons x l a=>exact a
theorem zf2(hW:nT C A E W)(hE:E=eK)(hY:Gg C A W) {B:M2}{m:Kt}(hκ:∀k,U5 C W J k o E Q B m)  {fo:Operand}{ps:Array Nat}{F:List (Nat × Array Oper)}
  (af:∃c0,A.c f=some c0/\Sc c0=some ⟨i,pl,fo,ps,F,c⟩) (hJ:∀vals t Q,J i vals t Q->Uy C.a o E ⟨⟨i,oE pl ps.toList,[]⟩,sk C (sD C A) f n ⟨i,pl,fo,ps,F,c⟩⟩ vals t Q) :
  SK C W J k o E Q (wk C n B i pl fo ps.toList F c) (nV C (sD C A) f n m fo ps.toList (Q7 F) (bE c)):=by
 subst hE;intro D tm HA t X ν s h;unfold wk at h;rw[oR,oF]at h;obtain⟨a1,vals,hv,h⟩:=h;rw[oF]at h;obtain⟨fv,hf,az,h⟩:=h;unfold zf4 at a1;simp only[B3]at a1;obtain⟨⟨⟨ab,ad⟩,ae⟩,P⟩:=a1;have P:nM c=[]:=by
  grind
 have N:=s.o;have ak:=N.d;generalize R:(⟨.ready,none,f,n,tm,ps.toList,Q7 F,bE c,HA.a⟩:yP)=r at *;have aw:t.c (HA.a+1)=none:=by
  cases hx:t.c (HA.a+1)with
  | none=>rfl
  | some y=>exact absurd (N.j _ _ hx) (by omega)
 have K:∀p t1 Q1,p.length=vB ps.toList->t1.c (HA.a+1)=some (.ac r)->J i (vals++p) (t1.q (HA.a+1)) (λv t2=>t2.c (HA.a+1)=none->∃b,v=.d b/\Q1 v (t2.d (HA.a+1) (.ac (eP b r))))->W (yo+(HA.a+1)) p t1 Q1:=by
  intro p t1 Q1 ao I hj;refine hY _ _ _ _ λX1 ah z=>?_;rw[TE,wc];show qC C.a X1 eK Q1 (Kg C A (sD C A) (HA.a+1) p ah);have ax:=z.p I;have au:=z.l I (.ac (Lv r));obtain⟨ay,b2,av⟩:=zmm (n:=n) (i:=i) au s.k s.kA s.f hv ab ad (by rw[ao,dD]);obtain⟨v,t2,x,X2,e1,S,e3,e4⟩:=iR.1 (hJ _ _ _ hj _ _ _ _ _ av);have T:X2 (HA.a+1)=some (.ac (Lv r)):=e3 _ _ (by unfold eR;rw[A5 rfl]);obtain⟨b,e4,e5⟩:=e4 (S.a _ _ T).2.1
  subst e4;obtain⟨c0,b0,al⟩:=af;refine iR.2 ⟨.d b,_,_,_,Nf.2 ⟨r,ay,c0,⟨i,pl,fo,ps,F,c⟩,(⟨.d b,false⟩,x),Lv r,b,DM (by omega) (by rw[z.q I]),?_,?_,al,?_,?_,DM (by omega) (S.a _ _ T).1,rfl,rfl⟩,S.s T _,?_,e5⟩
  .grind
  .grind
  .rw[<- R];exact⟨⟨rfl,rfl,rfl,rfl,ae,P⟩,z.j _ _ I⟩
  .grind
  .intro c y hc;have U:c≠HA.a+1:=λe=>by simp_all
   show(if c=HA.a+1 then none else X2 c)=some y;rw[A3 U];exact e3 _ _ (Se ax _ _ hc)
 have h:=h (HA.a+1) r aw (by omega) (by rw[<- R]) (by rw[<- R]) K;rw[El]at h;obtain⟨⟨g,F⟩,j,hw⟩:=h;unfold Cn at j;rw[mA]at j;obtain⟨⟨qf,q1,q2⟩,hq,j⟩:=j
 cases qf with
 | ac l=>cases j
 | aa g'=>
  simp only[qB,B3]at j;obtain⟨⟨hg,Z⟩,j⟩:=j;cases j;have hp:C.c.c g=none:=by
   unfold jQ at Z
   cases hx:C.c.c g with
   | none=>rfl
   | some u=>rw[hx]at Z;cases Z
  have aj:X HA.a=none:=N.aa;have z:Ov C.a t (eR X HA.a (.ah (some []))) (B2 HA (.ah (some []))):=by
   refine⟨Nat.le_succ_of_le N.d,λb q=>?_,λb y q=>?_,λb y q=>Nat.lt_succ_of_lt (N.j _ _ q)⟩
   .unfold eR at q;split at q
    .cases q
    .rename_i e;show(HA.t.d HA.a _).c b=_;rw[G.aa,A3 e];exact N.f b q
   .unfold eR at q;show(HA.t.d HA.a _).c b=_/\_/\b<HA.a+1;split at q
    .rename_i e;cases q;subst e;exact⟨by rw[G.aa,A5 rfl],N.o,Nat.lt_succ_self _⟩
    .rename_i e;obtain⟨g1,g2,g3⟩:=N.a b y q
     grind [G.aa]
  have ap:=z.g (.ac r);obtain⟨v,t',x,X2,e1,S,e3,e4⟩:=iR.1 (hW.fn _ _ _ _ hg hw _ _ ap);rw[Lu (zs9 hg).1,hp]at e1;have e1:sD C A (.aa g) (oE q1 (.q (.ac (HA.a+1)) [] []::q2)) (B2 (B2 HA (.ah (some []))) (.ac r))=some (⟨v,false⟩,x):=e1;have L:∀a (κ':KT) (m':Tm->sA->wC),t'.c (HA.a+1)=some (.ac a)->(!Nat.beq (LoopState.a a.e) 1)=true->(∀tm H,Ge m a.a tm H=m' tm H)->(∀k,SK C W J k o eK Q κ' m')->iA C.a W J (κ' D) (t'.q (HA.a+1)) Q →
    qC C.a k eK Q (nV C (sD C A) f n m fo ps.toList (Q7 F) (bE c) tm HA):=by
   intro a κ' m' k1 k2 k3 k4 k5;have ar:=S.l k1 (.ac ⟨.exhausted,a.a,a.g,a.n,a.h,a.b,a.c,a.f,a.d⟩);have ag:=S.p k1;have ai:dJ X (eR X2 (HA.a+1) (.ac ⟨.exhausted,a.a,a.g,a.n,a.h,a.b,a.c,a.f,a.d⟩)):=((Se aj).g e3).g (Se ag);have b1:(eR X2 (HA.a+1) (.ac ⟨.exhausted,a.a,a.g,a.n,a.h,a.b,a.c,a.f,a.d⟩)) HA.a=some (.ah (some [])):=by
    refine(Se ag) _ _ (e3 _ _ ?_);unfold eR;rw[A5 rfl]
   have a7:k HA.a=none:=by
    cases hx:k HA.a with
    | none=>rfl
    | some y=>have:=s.x _ _ hx;simp_all
   have M:=s.r ar ai;have am:qG C.a (eR k HA.a (.ah (some []))) o ν (eR X2 (HA.a+1) (.ac ⟨.exhausted,a.a,a.g,a.n,a.h,a.b,a.c,a.f,a.d⟩)) D tm (D3 x (HA.a+1) a) (t'.q (HA.a+1)):=by
    refine⟨M.o,?_,M.k,M.kA,M.f,M.g,λd l hd=>?_,M.inj⟩
    .intro b y q;unfold eR at q;split at q
     .simp_all
     .exact M.x _ _ q
    .obtain⟨g1,g2,g3⟩:=M.w d l hd
     grind [eR]
   obtain⟨w,t4,a6,X4,f1,f2,f3,f4⟩:=iR.1 (k4 _ _ _ _ _ _ _ am k5);have a8:X4 HA.a=some (.ah (some [])):=f3 _ _ (by unfold eR;rw[A5 rfl]);refine iR.2 ⟨w,t4,_,_,?_,f2.m a8 (.ah none),?_,f4⟩
   .unfold nV;rw[bF (Sf s).1 hf,lA,hq,lA];show(sB (dE (C.c.c g)) _)=_;rw[hp];show(ob (sD C A (.aa g) _ (B2 (B2 HA (.ah (some []))) (.ac ⟨.ready,none,f,n,tm,ps.toList,Q7 F,bE c,HA.a⟩))) _)=_;rw[R,e1,lA];show(ob (rK x (HA.a+1)) _)=_;rw[DM (by omega) (S.q k1),lA,k2];show(ob (Ge m a.a tm _) _)=_;rw[k3];show(ob (m' tm (D3 x (HA.a+1) a)) _)=_;rw[f1,lA];show(ob (Bh a6 HA.a) _)=_;have:Bh a6 HA.a=some (some []):=by
     unfold Bh;rw[(f2.a _ _ a8).1,lA,Nat.ble_eq_true_of_le (by omega:256<=HA.a)];rfl
    simp only[this,lA];rfl
   .intro b y q;have U:b≠HA.a:=λe=>by simp_all
    show(if b=HA.a then _ else X4 b)=some y;rw[A3 U];exact f3 _ _ (Se a7 _ _ q)
  rcases e4 with⟨k1,k2⟩ | ⟨k1,k2⟩
  .exact L r B.b m.c k1 (by rw[<- R];rfl) (λ_ _=>by rw[<- R];rfl) (λk=>(hκ k).a) k2
  .exact L _ B.c m.b k1 (by rw[<- R];rfl) (λ_ _=>by rw[<- R];rfl) (λk=>(hκ k).c) k2
def vQ (A:G bC)(E:mB)(f:Nat)(c:bC):Prop:=∀q∈nM c,E=eK/\∃a,A.c f=some a/\Sc a=some q
theorem vQ.l{a b:List Mg}{P:Mg->Prop}(h:∀q∈oE a b,P q):(∀q∈a,P q)/\∀q∈b,P q:=by
 grind [wI]
def Gz(M:nT C A E W)(R:Gg C A W)   : ∀(c:bC) (B:M2) (m:Kt),vQ A E f c->(∀k,U5 C W J k o E Q B m)->H8 C.a o E J (vN C (sD C A) f n c m)->∀k,SK C W J k o E Q (rO C F f n c B) (wE C (sD C A) f n c m):=by
 intro c;induction c with
 | ah=>intro B m _ e _ k;exact(e k).a
 | aa q U d=>intro B m _ e _ k;exact zam M (e k).a
 | ak a b u y=>
  intro B m l e g;exact u ⟨rO C F f n b B,B.a,B.c⟩ ⟨wE C (sD C A) f n b m,m.a,m.b⟩ (vQ.l l).1 (λk=>⟨y B m (vQ.l l).2 e (λd s=>g d (E3 _ s)) k,(e k).b,(e k).c⟩) λd s=>g d (M0 _ s)
 | ap x a b u y=>
  intro B m l e g k D tm HA t X ν j h;have S:=u B m (vQ.l l).1 e (λd s=>g d (M0 _ s)) k;have z:=y B m (vQ.l l).2 e (λd s=>g d (E3 _ s)) k;have h:iA C.a W J (kC (ob (ev x (.b D.a)) O.r) λK=>bif Hw x D.c then Bool.rec (motive:=λ_=>T) (rO C F f n b B D) (rO C F f n a B D) K else .a K (rO C F f n a B D) (rO C F f n b B D)) t Q:=h;rw[oF]at h;obtain⟨w,L,r⟩:=h;rw[mA]at L;obtain⟨v,N,P⟩:=L;show qC C.a k E Q (ob (ob (ev x (.b tm)) O.r) λt=>Bool.rec (motive:=λ_=>wC) (wE C (sD C A) f n b m tm HA) (wE C (sD C A) f n a m tm HA) t)
  refine qC.f (a:=w) (by rw[bF (Sf j).1 N];exact P) ?_;have r:if w=true then iA C.a W J (rO C F f n a B D) t Q else iA C.a W J (rO C F f n b B D) t Q:=by
   rw[bD]at r;split at r
   .cases w<;>exact r
   .exact r
  cases w with
  | true=>exact S _ _ _ _ _ _ j r
  | false=>exact z _ _ _ _ _ _ j r
 | am q c I=>
  intro B m l e g;refine I ⟨B.b,λi D=>Bool.rec (motive:=λ_=>T) (B.a i D) (B.b D) (Nat.beq q i),B.c⟩ ⟨m.c,λi tm H=>Bool.rec (motive:=λ_=>wC) (m.a i tm H) (m.c tm H) (Nat.beq q i),m.b⟩ l (λk=>⟨(e k).a,λi=>?_,(e k).c⟩) g;intro D tm HA t X ν j h;have h:iA C.a W J (Bool.rec (motive:=λ_=>T) (B.a i D) (B.b D) (Nat.beq q i)) t Q:=h;show qC C.a k E Q (Bool.rec (motive:=λ_=>wC) (m.a i tm HA) (m.c tm HA) (Nat.beq q i))
  cases z:Nat.beq q i with
  | true=>rw[z]at h;exact(e k).a _ _ _ _ _ _ j h
  | false=>rw[z]at h;exact(e k).b i _ _ _ _ _ _ j h
 | ac p c I=>intro B m _ e g k;exact EA g C7
 | au q=>intro B m _ e _ k;exact(e k).b q
 | ax=>intro B m _ e _ k;exact(e k).c
 | aw p c I=>intro B m _ e g k;exact EA g C7
 | aj i pl fo ps Z c I=>intro B m l e g k;exact zf2 M (l _ C7).1 R e (l _ C7).2 λvals t Q h=>g _ C7 vals t Q h
def eu (C:fA)(E:mB)(W J:xG)(o:Nat)(l:List cp)(d:U4):Prop:=∃q∈l,q.p=d.p/\∀vals t Q,iA C.a W J (q.a vals) t Q->Uy C.a o E d vals t Q
def B7(o:Nat):bC->Bool
 | .ak a b=>B7 o a&&B7 o b
 | .ap _ a b=>B7 o a&&B7 o b
 | .am _ c=>B7 o c
 | .ac p c=>p.b.all (λi=>Nat.blt i o)&&B7 o c
 | .aw p c=>p.b.all (λi=>Nat.blt i o)&&B7 o c
 | .aj _ _ _ _ _ c=>B7 o c
 | _=>true
def zgd(U:nT C A E W)(Z:Gg C A W)   : ∀(c:bC) (B:M2) (m:Kt),vQ A E f c->B7 o c=true->(∀k Q,U5 C W J k o E Q B m)->H8 C.a o E J (vN C (sD C A) f n c m)->∀d∈vN C (sD C A) f n c m,eu C E W J o (Hm C F f n o c B) d:=by
 have N:∀ {l l':List cp} {d:U4},eu C E W J o l d->(∀q∈l,q∈l')->eu C E W J o l' d:=fun⟨q,h1,h2⟩ hl=>⟨q,hl q h1,h2⟩
 intro c;induction c with
 | ah=>intro B m _ _ _ _ d g;cases g
 | aa I a6 dr=>intro B m _ _ _ _ d g;cases g
 | ak a b L M=>
  intro B m w r j y d g;unfold B7 at r;rw[B3]at r;have e:Hm C F f n o (.ak a b) B=Hm C F f n o a ⟨rO C F f n b B,B.a,B.c⟩++Hm C F f n o b B:=wI _ _;rw[e];have a1:H8 C.a o E J (vN C (sD C A) f n a ⟨wE C (sD C A) f n b m,m.a,m.b⟩):=λd g=>y d (M0 _ g);have P:H8 C.a o E J (vN C (sD C A) f n b m):=λd g=>y d (E3 _ g);rcases F7.1 g with g | g
  .exact N (L ⟨rO C F f n b B,B.a,B.c⟩ ⟨wE C (sD C A) f n b m,m.a,m.b⟩ (vQ.l w).1 r.1 (λk Q=>⟨Gz U Z b B m (vQ.l w).2 (λk=>j k Q) P k,(j k Q).b,(j k Q).c⟩) a1 d g) λq u=>M0 _ u
  .exact N (M _ _ (vQ.l w).2 r.2 j P d g) λq u=>E3 _ u
 | ap x a b L M=>
  intro B m w r j y d g;unfold B7 at r;rw[B3]at r;have e:Hm C F f n o (.ap x a b) B=Hm C F f n o a B++Hm C F f n o b B:=wI _ _;rw[e];rcases F7.1 g with g | g
  .exact N (L _ _ (vQ.l w).1 r.1 j (λd g=>y d (M0 _ g)) d g) λq u=>M0 _ u
  .exact N (M _ _ (vQ.l w).2 r.2 j (λd g=>y d (E3 _ g)) d g) λq u=>E3 _ u
 | am I c K=>
  intro B m w r j y d g;refine K ⟨B.b,λi D=>Bool.rec (motive:=λ_=>T) (B.a i D) (B.b D) (Nat.beq I i),B.c⟩ ⟨m.c,λi tm H=>Bool.rec (motive:=λ_=>wC) (m.a i tm H) (m.c tm H) (Nat.beq I i),m.b⟩ w r (λk Q=>⟨(j k Q).a,λi=>?_,(j k Q).c⟩) y d g;intro D tm HA t X ν v h;have h:iA C.a W J (Bool.rec (motive:=λ_=>T) (B.a i D) (B.b D) (Nat.beq I i)) t Q:=h;show qC C.a k E Q (Bool.rec (motive:=λ_=>wC) (m.a i tm HA) (m.c tm HA) (Nat.beq I i))
  cases hb:Nat.beq I i with
  | true=>rw[hb]at h;exact(j k Q).a _ _ _ _ _ _ v h
  | false=>rw[hb]at h;exact(j k Q).b i _ _ _ _ _ _ v h
 | ac p c K=>
  intro B m w r j y d g;unfold B7 at r;rw[B3,C8]at r;have s:H8 C.a o E J (vN C (sD C A) f n c ⟨wE C (sD C A) f n (.ac p c) m,m.a,m.b⟩):=λd g=>y d (C9 _ g);have z:∀k Q,U5 C W J k o E Q ⟨Cw p,B.a,B.c⟩ ⟨wE C (sD C A) f n (.ac p c) m,m.a,m.b⟩:=λk Q=>⟨EA y C7,(j k Q).b,(j k Q).c⟩;rcases C6.1 g with rfl | g
  .refine⟨_,C7,rfl,λvals t Q S k X HA tm ν v=>?_⟩;show qC C.a k E Q (wE C (sD C A) f n (.ac p c) m tm HA);rw[zo0];exact Gz U Z c _ _ w (λk=>z k Q) s k _ _ _ _ _ _ (v.ah λi hi=>eC.1 (r.1 i hi)) S
  .exact N (K ⟨Cw p,B.a,B.c⟩ ⟨wE C (sD C A) f n (.ac p c) m,m.a,m.b⟩ w r.2 z s d g) λq u=>C9 _ u
 | au I=>intro B m _ _ _ _ d g;cases g
 | ax=>intro B m _ _ _ _ d g;cases g
 | aw p c K=>
  intro B m w r j y d g;unfold B7 at r;rw[B3,C8]at r;have s:H8 C.a o E J (vN C (sD C A) f n c m):=λd g=>y d (C9 _ g);rcases C6.1 g with rfl | g
  .refine⟨_,C7,rfl,λvals t Q S k X HA tm ν v=>?_⟩;exact Gz U Z c _ _ w (λk=>j k Q) s k _ _ _ _ _ _ (v.ah λi hi=>eC.1 (r.1 i hi)) S
  .exact N (K _ _ w r.2 j s d g) λq u=>C9 _ u
 | aj i pl fo ps aq c K=>
  intro B m w r j y d g;have R:vQ A E f c:=λq u=>w q (C9 _ u);have s:H8 C.a o E J (vN C (sD C A) f n c M1):=λd g=>y d (C9 _ g);rcases C6.1 g with rfl | g
  .refine⟨_,C7,rfl,λvals t Q S k X HA tm ν v=>?_⟩;exact Gz U Z (U0 c aq) mn M1 (λq u=>R q (by rwa [WY]at u)) (λ_=>zq5) (λd g=>s d (by rwa [XG]at g)) k _ _ _ _ _ _ v S
  .exact N (K mn M1 R r (λ_ _=>zq5) s d g) λq u=>C9 _ u
end
end
section
variable {o:Type}{args vals:List O}{s:mB}{v:O}{pan:Nat->Bool}{i:Nat}
def G.ax{o b:Type}(f:o->b)(t:G o):G b:=G.rec (motive:=λ_=>G b) .aj (λ_ v _ l r=>.ak l (match v with | some a=>some (f a) | none=>none) r) t
theorem G.z{d:Type}(f:o->d):∀(t:G o) (n:Nat),(t.ax f).c n=(t.c n).map f:=by
 intro t;induction t with
 | aj=>intro n;rfl
 | ak l v r b c=>
  intro n;show(G.ak (l.ax f) (match v with | some a=>some (f a) | none=>none) (r.ax f)).c n=_
  grind [G.au]
def zF(F:G kE):G bC:=F.ax kE.a
def lz (f a:Nat)(c:bC):Bool:=Nat.blt f yo&&(B7 a c&&(dE (Ab c)&&(match nM c with | []=>true | [_]=>true | _=>false)))
structure aO (C:fA) (F:G kE) (f:Nat) (fn:Func) (kf:Nat) (A:kE):Prop where
 g:F.c f=some A
 a:C.d.c f=some fn
 i:C.g.c f=some kf
 k:dE (C.c.c f)=true
 b:lz f kf A.a=true
 l:dE fn.body=false
theorem aO.lt{C:fA}{F:G kE}{f:Nat}{fn:Func}{a:Nat}{A:kE}(h:aO C F f fn a A):Nat.blt f yo=true:=by
 have:=h.b;grind [lz]
theorem aO.c{C:fA}{F:G kE}{f:Nat}{fn:Func}{a:Nat}{A:kE}(h:aO C F f fn a A):B7 a A.a=true:=by
 have:=h.b;grind [lz]
def aO.d{C:fA}{F:G kE}{f:Nat}{fn:Func}{a:Nat}{A:kE}(h:aO C F f fn a A):(zF F).c f=some A.a:=by unfold zF;rw[G.z,h.g];rfl
theorem aO.m{C:fA}{F:G kE}{f:Nat}{fn:Func}{b:Nat}{A:kE}{E:mB}(h:aO C F f fn b A)(a:E=eK\/nM A.a=[]):vQ (zF F) E f A.a:=by
 have:=h.b;unfold lz at this;simp only[B3]at this;intro q c;refine⟨a.resolve_right (λe=>by simp_all),_,h.d,?_⟩
 grind [Sc]
def aO.j{C:fA}{F:G kE}{f:Nat}{fn:Func}{b:Nat}{A:kE}(h:aO C F f fn b A):Ab A.a=none:=by
 have:=h.b;unfold lz at this;simp only[B3]at this
 cases a:Ab A.a with
 | none=>rfl
 | some u=>rw[a]at this;cases this.2.2.1
def vL (C:fA)(F:G kE)(E:mB):xG:=λf args t Q=>∀X a,Ov C.a t X a->qC C.a X E Q (Fv C (zF F) f args a)
def Wc (C:fA)(F:G kE):xG:=λf args t Q=>∀X a,Ov C.a t X a->qC C.a X eK Q (Fv C (zF F) f args a)
theorem Wc.a{C:fA}{F:G kE}{f:Nat} {t:G uA}{Q:mB}(h:Wc C F f args t Q)(k:∀v t',Q v t'->s v t'):Wc C F f args t s:=λX a b=>(h X a b).g k
theorem G.bc (t:G o):∃n,∀b y,t.c b=some y->b<n:=by
 induction t with
 | aj=>simp_all [G.ah]
 | ak l v r a c=>
  obtain⟨n,e⟩:=a;obtain⟨m,d⟩:=c;refine⟨2*n+2*m+3,λb y h=>?_⟩
  grind [G.au]
def PV (C:fA)(F:G kE)(f:Nat)(args:List O)(t:G uA)(v:O):Prop:=Wc C F f args t λb a=>b=v/\a=t
def PV.unique{C:fA}{F:G kE}{f:Nat} {t:G uA}{v':O}(h:PV C F f args t v)(i:PV C F f args t v'):v=v':=by
 obtain⟨n,o⟩:=G.bc t;have d:Ov C.a t (λ_=>none) ⟨C.a+n,t⟩:=⟨Nat.le_add_right _ _,λ_ _=>rfl,λ_ _ h=>(by cases h),λb y m=>Nat.lt_of_lt_of_le (o b y m) (Nat.le_add_left _ _)⟩;obtain⟨u,r,e,q,j,_,_,k,_⟩:=iR.1 (h _ _ d);obtain⟨s,p,a,g,c,_,_,l,_⟩:=iR.1 (i _ _ d);rw[j]at c;cases c;rw[<- k,<- l]
def oB (C:fA)(F:G kE)(f:Nat)(args:List O)(t:G uA):Option O:=@dite _ (∃v,PV C F f args t v) (Classical.propDecidable _) (λh=>some h.choose) (λ_=>none)
theorem lC{C:fA}{F:G kE}{f:Nat} {t:G uA}  : oB C F f args t=some v ↔ PV C F f args t v:=by
 unfold oB;constructor
 .intro h;by_cases a:∃v,PV C F f args t v
  all_goals grind
 .intro h;have a:∃v,PV C F f args t v:=⟨v,h⟩;rw[dif_pos a,PV.unique a.choose_spec h]
def Wq (C:fA)(F:G kE)(a:Nat->Bool):xG:=λf args t R=>if (a f&&Nat.blt f yo)=true then oD (oB C F f args t) λv=>R v t else if Nat.beq f pn=true then False else Wc C F f args t R
def lF (C:fA)(F:G kE)(a pan:Nat->Bool)(E:mB):xG:=λf args t R=>if (a f&&Nat.blt f yo)=true then oD (oB C F f args t) λv=>R v t else if Nat.beq f pn=true then ∃v,args=[v]/\E v t else
 if (pan f&&Nat.blt f pn)=true then vL C F E f args t R else Wc C F f args t R
def Wc.g{C:fA}{F:G kE}{E:mB}{f:Nat} {t:G uA}{Q:mB}(h:Wc C F f args t Q):vL C F E f args t Q:=λX a b=>(h X a b).g (λ_ _ h=>h) λ_ _ h=>h.elim
theorem W2{C:fA}{F:G kE}{f:Nat} {t:G uA}{R:mB}(h:oD (oB C F f args t) λv=>R v t):Wc C F f args t R:=by
 rw[El]at h;obtain⟨v,a,b⟩:=h;exact(lC.1 a).a λe d c=>by simp_all
theorem zq7{f:Nat}(h:Nat.blt f pn=true):Nat.beq f pn=false:=Bool.eq_false_iff.2 λe=>by simp_all
theorem Ca{l:Nat}:Nat.blt (yo+l) yo=false/\Nat.blt (yo+l) pn=false/\Nat.beq (yo+l) pn=false:=by
 grind [eC,yo,pn,zD]
theorem tc{C:fA}{F:G kE}{a:Nat->Bool}(e:a pn=false):nT C (zF F) eK (Wq C F a):=by
 refine⟨λf args t R d h X b c=>?_,λl args t R h X b c=>?_,λargs t R h=>?_⟩
 .unfold Wq at h;split at h
  .exact W2 h X b c
  .rw[zq7 d,A3 (by simp)]at h;exact h X b c
 .unfold Wq at h;rw[Ca.1,E9,A3 (by simp),Ca.2.2,A3 (by simp)]at h;exact h X b c
 grind [Wq,zD]
theorem wm{C:fA}{F:G kE}{a:Nat->Bool}{E:mB}(e:a pn=false):nT C (zF F) E (lF C F a pan E):=by
 refine⟨λf args t R d h X b c=>?_,λl args t R h X b c=>?_,λargs t R h=>?_⟩
 .unfold lF at h;split at h
  .exact(W2 h).g X b c
  .rw[zq7 d,A3 (by simp)]at h;split at h
   .exact h X b c
   .exact h.g X b c
 .unfold lF at h;rw[Ca.1,E9,A3 (by simp),Ca.2.2,A3 (by simp),Ca.2.1,E9,A3 (by simp)]at h;exact h X b c
 grind [lF,zD]
def AI{C:fA}{F:G kE}{a:Nat->Bool}:Gg C (zF F) (Wq C F a):=by
 intro l args t Q h;unfold Wq;rw[Ca.1,E9,A3 (by simp),Ca.2.2,A3 (by simp)];exact h
def HC{C:fA}{F:G kE}{a:Nat->Bool}{E:mB}:Gg C (zF F) (lF C F a pan E):=by
 intro l args t Q h;unfold lF;rw[Ca.1,E9,A3 (by simp),Ca.2.2,A3 (by simp),Ca.2.1,E9,A3 (by simp)];exact h
def M3 (C:fA)(F:G kE)(E:mB)(f:Nat):xG:=λi vals t Q=>∀a b A,aO C F f a b A->∀d∈vN C (sD C (zF F)) f a.ntmps A.a (mR C a),d.p.e=i->Uy C.a b E d vals t Q
def Jq (C:fA)(F:G kE)(f:Nat):xG:=λi vals t Q=>∀a b A,aO C F f a b A->∀d∈vN C (sD C (zF F)) f a.ntmps A.a (mR C a),d.p.e=i->Uy C.a b eK d vals t Q
def ztf{C:fA}{F:G kE}{E:mB}{f:Nat}{fn:Func}{a:Nat}{A:kE}(h:aO C F f fn a A):H8 C.a a E (M3 C F E f) (vN C (sD C (zF F)) f fn.ntmps A.a (mR C fn)):=
 λd c _ _ _ b=>b fn a A h d c rfl
section
variable {W J:xG}{t:G uA}{X d:Xt}{HA:sA}{C:fA}{A:G bC}{ν:Nat->Nat}{Q E:mB}{f n:Nat}{b:vI}{tm:Tm}
theorem zu0(g:qG C.a d f ν X b tm HA t):∀(l:List ResultVar) (K:List O->T),iA C.a W J (J1 C b l K) t Q->∃j,Af C HA tm l=some j/\iA C.a W J (K j) t Q:=by
 intro l;induction l with
 | nil=>intro K h;exact⟨[],rfl,h⟩
 | cons r l z=>
  intro K h
  cases r with
  | tmp i=>
   have h:iA C.a W J (kC (b.a.a i) λv=>J1 C b l λl=>K (v::l)) t Q:=h;rw[oF]at h;obtain⟨v,o,q⟩:=h;obtain⟨j,k,s⟩:=z _ q;refine⟨v::j,?_,s⟩;show jH (qV C HA tm) _=_;rw[iQ];show ob (tm.a i) _=_;rw[g.f _ _ o,lA];have k:jH (qV C HA tm) l=some j:=k;rw[k];rfl
  | cell a n=>
   have h:iA C.a W J (match uO a b.d with
    | some p=>kC (b.b.c p.1) λm=>kC (C.b.c n) λy=>gM (Nat.ble (p.2+y.b) (vB m)) (kC (eT C n m p.2) λv=>J1 C b l λl=>K (v::l))
    | none=>kC (b.a.a a) λa=>.e (λm=>oA C n ⟨0,m⟩ a) λv=>J1 C b l λl=>K (v::l)) t Q:=h
   have w:∀ {u v:O},tm.a a=some u->oA C n HA u=some v->iA C.a W J (J1 C b l λl=>K (v::l)) t Q->∃j,Af C HA tm (.cell a n::l)=some j/\iA C.a W J (K j) t Q:=by
    intro u v o q k;obtain⟨j,s,x⟩:=z _ k;refine⟨v::j,?_,x⟩;show jH (qV C HA tm) _=_;rw[iQ];have e:qV C HA tm (.cell a n)=some v:=by
     show(ob (ob (tm.a a) O.ah) λp=>ob (C.b.c n) λn=>ob (eD HA p.1) λc=>dV n c.1 p.2)=some v
     grind [oA,lA]
    have s:jH (qV C HA tm) l=some j:=s
    simp_all
   split at h
   .rename_i p A;simp only[oF,oR]at h;obtain⟨m,o,y,q,k,v,s,x⟩:=h;exact w (g.g _ _ A) (MV g.o g.w o q k s) x
   .simp only[oF,Mj]at h;obtain⟨u,o,v,q,k⟩:=h;exact w (g.f _ _ o) (Qq g.o.le q) k
def Tv{fn:Func}:SK C W J d f E Q (E0 C fn) (nZ C fn):=by
 intro b tm HA t X ν a h;obtain⟨g,c,e⟩:=zu0 a _ _ h;unfold nZ;exact qC.f c ⟨_,t,HA,X,rfl,a.o,a.x,e⟩
def AV{fn:Func}:U5 C W J d f E Q (Gy C fn) (mR C fn):=⟨Tv,λ_ _ _ _ _ _ _ _ h=>h.elim,Tv⟩
end
section
variable {C:fA}{F:G kE}{f:Nat}{fn:Func}{c:Nat}{A:kE}{e:Nat->Bool}{t:G uA}{Q:mB}
theorem ztd{E:mB}{W:xG}(n:nT C (zF F) E W)(o:Gg C (zF F) W)(h:aO C F f fn c A)(v:E=eK\/nM A.a=[]) (r:(Nat.ble (vB args) c&&Nat.ble (vB args) fn.ntmps)=true)(w:iA C.a W (M3 C F E f) (J2 C fn c f A args) t Q):vL C F E f args t Q:=by
 intro X e s;have m:=h.d;obtain⟨a,p⟩:∃b,fn.body=some b:=by
  cases k:fn.body with
  | none=>have:=h.l;rw[k]at this;cases this
  | some b=>simp_all
 have q:xM C f args false=some ⟨[.a a],⟨c,G.ac args,[]⟩,⟨f,fn.ntmps,[],.ah,false,none⟩⟩:=by
  unfold xM;rw[h.a,lA,p,lA,h.i,lA,r];rfl
 have u:C.c.c f=none:=by
  cases k:C.c.c f with
  | none=>rfl
  | some g=>have:=h.k;rw[k]at this;cases this
 rw[Lu h.lt,u];show qC C.a X E Q (sD C (zF F) (.aa f) args e);rw[wc];show qC C.a X E Q (tW C (zF F) (sD C (zF F)) f args e);unfold tW;refine qC.f m (qC.f h.a (qC.f q ?_));unfold Bn;rw[h.j];have j:qG C.a X c (λi=>i) X ⟨⟨c,G.ac args,[]⟩,[],.aj,[]⟩ ⟨c,G.ac args,[]⟩ e t:=
  ⟨s,dJ.f _,rfl,rfl,λ_ _ h=>h,λ_ _ h=>(by cases h),λd l h=>(by grind [G.ah]),λd _ l _ h=>(by omega)⟩
 exact Gz n o A.a (Gy C fn) (mR C fn) (h.m v) (λ_=>AV) (ztf h) _ _ _ _ _ _ _ j w
def wq(h:aO C F f fn c A) (b:(Nat.ble (vB args) c&&Nat.ble (vB args) fn.ntmps)=true)(d:iA C.a (Wq C F e) (Jq C F f) (J2 C fn c f A args) t Q)(a:e pn=false:=by rfl):Wc C F f args t Q:=
 ztd (E:=eK) (tc a) AI h (.inl rfl) b d
theorem ik{E:mB}{W:xG}(o:nT C (zF F) E W)(r:Gg C (zF F) W)(h:aO C F f fn c A)(v:E=eK\/nM A.a=[])  {l:List T}(u:Kk (N6 C fn c f A) i vals=l)(w:∀T∈l,iA C.a W (M3 C F E f) T t Q):M3 C F E f i vals t Q:=by
 intro k x y a d s B;have e:=h.a;rw[a.a]at e;cases e;have g:=h.i;rw[a.i]at g;cases g;have j:=h.g;rw[a.g]at j;cases j;obtain⟨q,m,z,n⟩:=zgd o r A.a (Gy C fn) (mR C fn) (h.m v) h.c (λ_ _=>AV) (ztf h) d s;refine n vals t Q (w _ ?_);subst u;have b:∀(l:List cp),q∈l->q.a vals∈Kk l i vals:=by
  intro l;induction l with
  | nil=>simp_all
  | cons p l D=>
   grind [Kk,zD]
 exact b _ m
theorem zk5{E:mB}{W:xG}(a:nT C (zF F) E W)(b:Gg C (zF F) W)(h:aO C F f fn c A)(e:E=eK\/nM A.a=[])  {T:T}(d:Kk (N6 C fn c f A) i vals=[T])(k:iA C.a W (M3 C F E f) T t Q):M3 C F E f i vals t Q:=
 ik a b h e d λg j=>by simp_all
def il(h:aO C F f fn c A)  {T:T}(b:Kk (N6 C fn c f A) i vals=[T])(d:iA C.a (Wq C F e) (Jq C F f) T t Q)(a:e pn=false:=by rfl):Jq C F f i vals t Q:=
 zk5 (E:=eK) (tc a) AI h (.inl rfl) b d
theorem Jq.a   (h:Jq C F f i vals t Q)(k:∀v t',Q v t'->s v t'):Jq C F f i vals t s:=
 λfn c A j d g l e X b m n a=>(h fn c A j d g l e X b m n a).g k
theorem ph  (h:oB C F f args t=some v)(b:Q v t):Wc C F f args t Q:=(lC.1 h).a λ_ _ a=>by simp_all
theorem Ki{g:List O->sA->Option O}(c:C.c.c f=some (jN g))  (h:∀H,g args H=some v)(b:Nat.blt f yo=true:=by rfl):oB C F f args t=some v:=by
 refine lC.2 λX a d=>?_
 grind [Lu,iR,jN,lA,dJ.f]
theorem mV  (h:Wc C F f args t λv' t'=>v'=v/\∀b y,t.c b=some y->t'.c b=some y):oB C F f args t=some v:=by
 refine lC.2 λX k i=>?_;obtain⟨u,t',d,l,m,c,n,o,g⟩:=iR.1 (h X k i);refine iR.2 ⟨u,t,d,λb=>match t.c b with | some _=>none | none=>d.t.c b,m,⟨c.d,?_,?_,?_⟩,?_,o,rfl⟩
 .intro b a
  cases e:t.c b with
  | some y=>rw[c.q (g b y e)]
  | none=>simp_all
 .intro b y a
  cases e:t.c b with
  | some y=>simp_all
  | none=>
   simp only[e]at a;refine⟨a,rfl,?_⟩
   cases j:l b with
   | some z=>exact(c.a b z j).2.2
   | none=>rw[c.f b j]at a;exact c.j b y a
 .intro b y a;exact c.j b y (g b y a)
 .intro b y a;have p:=(i.a b y a).2.1;simp only[p];exact(c.a b y (n b y a)).1
end
theorem ZF{P:Program}{C:fA}{F:G kE}{B N:Nat}{I:World->Prop}{μ:Mu}{w:World}(n:rM P C B N I)(m:I w)(k:Bx C (zF F)){f:Nat}(q:C.c.c f=none) {args':Array Value}{H:sA}{Q:mB}(a:C.a<=H.a)(g:∀b y,H.t.c b=some y->b<H.a)(l:lB B N μ H w)(p:bB μ args args'.toList)
  (h:Wc C F f args H.t Q) (o:Nat.blt f yo=true:=by rfl):Calls P f args' w λe w'=>∃v v' t' c,e=.returned v'/\μ.l c/\rA c v v'/\Q v t'/\Below N w w':=by
 obtain⟨v,t',j,r,i,D,E,J⟩:=iR.1 (h (λ_=>none) H ⟨a,λ_ _=>rfl,λ_ _ h=>(by cases h),g⟩);rw[Lu o,q]at i;intro d;obtain⟨e,w',b,⟨v',c,s,t,u,x,z⟩,A⟩:=ZD n m k l p i d
 grind
end
section
variable {j m:List (Nat × PI)}{l:List (Nat × kE)}{f:Nat}{C:fA}
def ez (i:Nat)(l:List (Nat × PI)):Option PI:=List.rec (motive:=λ_=>Option PI) none (λa _ g=>bif Nat.beq i a.1 then some a.2 else g) l
def fb (p:Option PI)(c:bC):bC:=
 match p with
 | some p=>.aw p c
 | none=>c
def ws(p:Option PI)(c:bC):bC:=
 match p with
 | some p=>.ac p c
 | none=>.ac ⟨0,[],[]⟩ c
def im(p:Option PI)(f:Operand)(ps:Array Nat)(a:Code)(c:bC):bC:=
 match a with
 | .region d b _=>.aj (match p with | some p=>p.e | none=>0) (match p with | some p=>p.d | none=>[]) f ps [(d,b)] c
 | .seq (.region i o _) (.region d b _)=>.aj (match p with | some p=>p.e | none=>0) (match p with | some p=>p.d | none=>[]) f ps [(i,o),(d,b)] c
 | _=>.ah
def OY:Code->Bool
 | .region _ _ d => !d
 | .seq (.region _ _ d) (.region _ _ e) => !d && !e
 | _=>false
def Dh(m j:List (Nat × PI))(c:Code):Nat->bC:=
 Code.rec (motive:=λ_=>Nat->bC)
  (λ_=>.ah)
  (λb h d _=>fb (ez b m) (.aa b h d))
  (λ_ _ i e k=>.ak (i k) (e k))
  (λc _ _ l n k=>.ap c (l k) (n k))
  (λb _ g _=>.am b (g b))
  (λ_ g k=>ws (ez k j) (g k))
  (λf o a _ _ e k=>im (ez k j) f o a (e k))
  (λb _=>.au b)
  (λ_ _ _=>.ah)
  (λ_ _=>.ah)
  (λ_ _=>.ah)
  (λ_=>.ax)
  (λ_ _=>.ah) c
def W3(m j:List (Nat × PI))(k:Nat)(c:Code):bC:=Dh m j c k
def kY(c:Code):Bool:=
 Code.rec (motive:=λ_=>Bool) true (λ_ _ _=>true) (λ_ _ a b=>bif a then b else false) (λ_ _ _ a b=>bif a then b else false) (λ_ _ a=>a) (λ_ a=>a)
  (λ_ _ a _ _ b=>bif OY a then b else false) (λ_=>true) (λ_ _=>false) (λ_=>false) (λ_=>false) true (λ_=>false) c
def zbz(p:Option PI)(c:bC):bE (fb p c)=bE c:=by cases p<;>rfl
def YI(p:Option PI)(c:bC):bE (ws p c)=.loop (bE c):=by cases p<;>rfl
def YJ  : ∀(c:Code) (k:Nat),kY c=true->bE (Dh m j c k)=c:=by
 intro c;induction c with
 | skip=>intro k _;rfl
 | region g n d=>intro k _;show bE (fb _ _)=_;rw[zbz];rfl
 | seq a b t e=>
  intro k h;have h:(bif kY a then kY b else false)=true:=h;have p:kY a=true:=by simp_all
  have q:kY b=true:=by simp_all
  show Code.seq (bE (Dh m j a k)) (bE (Dh m j b k))=_;rw[t k p,e k q]
 | cond c x y u v=>
  intro k h;have h:(bif kY x then kY y else false)=true:=h;have p:kY x=true:=by simp_all
  have q:kY y=true:=by simp_all
  show Code.cond c (bE (Dh m j x k)) (bE (Dh m j y k))=_;rw[u k p,v k q]
 | block g c r=>intro k h;show Code.block g (bE (Dh m j c g))=_;rw[r g h]
 | loop c r=>intro k h;show bE (ws _ (Dh m j c k))=_;rw[YI,r k h]
 | exit g=>intro k _;rfl
 | ret=>intro k _;rfl
 | rangeFunc f w a b _ e=>
  intro k h;have h:(bif OY a then kY b else false)=true:=h
  cases a with
  | region g n d=>
   cases d with
   | true=>cases h
   | false=>show Code.rangeFunc f w (.region g n false) (bE (Dh m j b k))=_;rw[e k h]
  | seq x y=>
   cases x with
   | region i o d=>
    cases y with
    | region A B z=>
     cases d with
     | true=>cases h
     | false=>
      cases z with
      | true=>cases h
      | false=>
       show Code.rangeFunc f w (.seq (.region i o false) (.region A B false)) (bE (Dh m j b k))=_;rw[e k h]
    | _=>cases h
   | _=>cases h
  | _=>cases h
 | scope c _=>intro k h;cases h
 | label l=>intro k h;cases h
 | goto l=>intro k h;cases h
 | refuse s=>intro k h;cases h
def J4 (l:List (Nat × kE)):G kE:=List.rec (motive:=λ_=>G kE) .aj (λp _ g=>g.d p.1 p.2) l
def zlv  {A:kE}(h:(J4 l).c f=some A):(f,A)∈l:=by
 induction l with
 | nil=>grind [J4,G.ah]
 | cons p l a=>
  grind [J4,G.aa]
def ztg(C:fA)(p:Nat × kE):Prop:=∃a c,C.d.c p.1=some a/\a.body=some c/\bE p.2.a=c
def iq  {fn:Func}{c:Code} {e:List Nat}(a:C.d.c f=some fn)(b:fn.body=some c)(d:kY c=true):ztg C (f,⟨W3 m j 0 c,e⟩):=⟨fn,c,a,b,YJ c 0 d⟩
def zb9  (h:∀p∈l,ztg C p):Bx C (zF (J4 l)):=by
 intro f c a;unfold zF at a;rw[G.z]at a
 cases d:(J4 l).c f with
 | none=>simp_all
 | some A=>
  rw[d]at a;cases a;obtain⟨e,b,g,i,j⟩:=h _ (zlv d)
  simp_all
end
end Go.Am
namespace Go.Am
class fC where
 n:Nat
def td(a:List O)(_:sA):Option O:=match a with | []=>some (.d true) | _=>none
def Ay:List Nat->List Nat->Bool
 | [],_=>true
 | _::_,[]=>false
 | a::x,b::y=>bif Nat.beq a b then Ay x y else false
def Ft (a:List Nat):List Nat->Option (List Nat × List Nat)
 | []=>bif a.isEmpty then some ([],[])else none
 | b::l=>bif Ay a (b::l)then some ([],tU (b::l) (vB a))else ob (Ft a l) λp=>some (b::p.1,p.2)
def R8 (a:List O)(_:sA):Option O:=match a with
 | [.h s,.h c]=>sB (Nat.blt (vB s) 4294967281) (match Ft c s with
  | some p=>some (.p [.h p.1,.h p.2,.d true])
  | none=>some (.p [.h s,.h [],.d false]))
 | _=>none
def wJ(n:Int):List Nat:=(Lib.itoa n).map UInt8.toNat
def Ns(a:List O)(_:sA):Option O:=match a with
 | [.e .i64 n]=>sB (vE (-9223372036854775808) n&&fB n 9223372036854775808) (some (.h (wJ n)))
 | _=>none
def Rz(a:List O)(_:sA):Option O:=match a with
 | [.e .u64 n,.e .i64 b]=>sB (vE 0 n&&fB n 18446744073709551616&&kB b 10) (some (.h (wJ n)))
 | _=>none
end Go.Am
namespace Go.Am
open Go Go.Shelf Go.RowKit Go.Proofs
variable {P:Program}{a:Ren}
set_option maxHeartbeats 2000000 in
set_option maxRecDepth 100000 in
theorem zb0(L:Lays.n169 P a)(X:Builder.Extra P a)(b g cap c:Nat)(l:List UInt8)(w:World)(c1:w.cell? ⟨b,1,none⟩=some (.slice (some ⟨g,0,none⟩) l.length cap))(u:l≠[])(m:l.length<=cap)
  (h:w.shape? g=some (a.t 5,c)) (z:l.length<=c) (f:l.length<=9223372036854775807) (d:∀j x,l[j]?=some x->w.cell? ((⟨g,0,none⟩:Addr).add j)=some (.int .u8 x.toNat)) :
  Calls P (a.f 169) #[.pointer (some ⟨b,0,none⟩)] w λe w'=>e=.returned (.string ⟨l.toArray⟩)/\w'=w.drew.freeze ⟨g,0,none⟩ l.length:=by
 have A:l.length≠0:=by simp_all
 have c1:w.drew.cell? ⟨b,1,none⟩=some (.slice (some ⟨g,0,none⟩) l.length cap):=c1;have v:(Builtin.unsafeSliceData_ #[(a.t 37)] (a.t 127) #[.slice (some ⟨g,0,none⟩) l.length cap]).run P w.drew=.ok (.pointer (some ⟨g,0,none⟩)) w.drew:=
  Lib.run_unsafeSliceData_row _ _ _ _ _ _ (by omega)
 have y:(Builtin.unsafeString_ #[(a.t 127),(a.t 3)] (a.t 9) #[.pointer (some ⟨g,0,none⟩),.int .i64 l.length]).run P w.drew=.ok (.string ⟨l.toArray⟩) (w.drew.freeze ⟨g,0,none⟩ l.length):=
  Lib.run_unsafeString_row w.drew (a.t 127) (a.t 3) (a.t 9) (a.t 5) L.t127 X.cellsByte g c h l u z f d
 have i:=L.mixed;have D:=L.t72;have t:=L.a72;have Q:=L.z72;have K:=L.v72;have H:=run_underlying L.t72;have C:=L.t70;have s:=L.a70;have N:=L.z70;have J:=L.v70;have F:=run_underlying L.t70;have B:=L.t37;have r:=L.a37;have M:=L.z37;have I:=L.v37;have E:=run_underlying L.t37;have n:=L.t127;have k:=L.a127;have q:=L.z127;have p:=L.v127;have o:=run_underlying L.t127;have U:=L.t3;have R:=L.a3;have z3:=L.z3;have v3:=L.v3;have u3:=run_underlying L.t3
 have Z:=L.t9;have T:=L.a9;have z9:=L.z9;have v9:=L.v9;have u9:=run_underlying L.t9;have W:=X.t5;have S:=X.a5;have z5:=X.z5;have v5:=X.v5;have u5:=run_underlying X.t5
 go_enter L.f169,Body.n169_ntmps a
 go_wp2
 go_region_o
 all_goals (go_wp2;go_ret;simp_all)
end Go.Am
namespace Go.Am
open Go Go.Shelf Go.RowKit Go.Proofs
variable {base f k:Nat}{args:List O}{args':Array Value}{v:O}{H':sA}
section
variable {P:Program}{z:Ren}{B N:Nat}{μ:Mu}{H:sA}{w:World}
theorem lB.bk(b:lB B N μ H w){g:Nat}(m:N<=g)(d:∀a x j,H.t.c a=some x->μ a=some j->j.b≠g)(o':Obj):lB B N μ H (World.c w g o'):=by
 have c:(World.c w g o').heap.size=w.heap.size:=by simp[World.c]
 refine⟨b.ak,b.ac,b.aw,b.ah,by rw[c];exact b.aa,b.r,λa x i h e=>?_,λa i f e=>by rw[c];exact b.aj a i f e,b.inj,b.ax⟩;obtain⟨o,k,l⟩:=b.am a x i h e
 grind [Ke]
def So:List (Nat × Nat)->Nat->Nat->Bool
 | [],_,_=>false
 | p::r,t,n=>bif Nat.beq p.1 t&&Nat.ble p.2 n then true else So r t n
theorem MQ:∀ {a:List (Nat × Nat)} {t n:Nat},So a t n=true->∃p∈a,p.1=t/\p.2<=n
 | [],_,_,h=>by cases h
 | p::r,t,n,h=>by
  unfold So at h;rw[bD]at h;split at h
  .simp_all
  .obtain⟨q,b,c⟩:=MQ h
   grind
def Km(base:Nat)(a:List (Nat × Nat))(args:List O)(H:sA):Option (O × sA):=
 match args with
 | [.j b 0]=>ob (eD H b) λc=>ob (c.1.c 0) λv=>match v with
  | .y=>sB (!Nat.blt b base&&(match c.2.2 with | some (.a t)=>So a t c.2.1 | _=>false)) (some (.p [],A7 H b (.aa (c.1.d 0 (.j b 0)) c.2.1 c.2.2)))
  | .j d o=>sB (Nat.beq d b&&Nat.beq o 0) (some (.p [],H))
  | _=>none
 | _=>none
theorem zgj {D:List (Nat × Nat)} (J:B<=base)
  (m:∀p∈D,∀(b n:Nat) (w:World),w.cell? ⟨b,0,none⟩=some (.pointer none)->w.shape? b=some (p.1,n)->p.2<=n->w.frozen? ⟨b,0,none⟩=false->Calls P f #[.pointer (some ⟨b,0,none⟩)] w λe w'=>e=.returned (.tuple #[])/\w'=w.setCell ⟨b,0,none⟩ (.pointer (some ⟨b,0,none⟩)))
  (s:∀(b:Nat) (w:World),w.cell? ⟨b,0,none⟩=some (.pointer (some ⟨b,0,none⟩))->Calls P f #[.pointer (some ⟨b,0,none⟩)] w λe w'=>e=.returned (.tuple #[])/\w'=w)
  (l:∀(w:World) (a:Array Value),(callFunc f a).run P w=.ok (.enter f a) w)     (z:lB B N μ H w) (g:Km base D args H=some (v,H')) (W:bB μ args args'.toList) :
  (callFunc f args').run P w=.ok (.enter f args') w/\Calls P f args' w λe w'=>∃v' t,e=.returned v'/\μ.le t/\lB B N t H' w'/\Below N w w'/\rA t v v':=by
 refine⟨l w args',?_⟩;unfold Km at g;split at g
 case h_2=>cases g
 rename_i b;rw[bB]at W;obtain⟨u,r,h1,T,U⟩:=W;rw[bB]at U;subst U;rw[rA]at T;obtain⟨i,A,rfl⟩:=T;have ha:args' = #[.pointer (some ⟨i.b,0,none⟩)]:=by apply mf.1;rw[h1]
 subst ha;rw[mA]at g;obtain⟨⟨c,n,lo⟩,hc,g⟩:=g;rw[mA]at g;obtain⟨v0,h0,g⟩:=g;have Z:=Ga hc;obtain⟨o,R,S⟩:=z.am _ _ _ Z A;have a1:=S;obtain⟨Q,E,fr,rfl,F,g4,g5,g6⟩:=S;obtain⟨X,u,hu,C⟩:=g5 0 v0 h0;have F:n<=Q.size:=F;have X:0<n:=X;have h:w.cell? ⟨i.b,0,none⟩=some u:=by grind [World.cell?]
 have k:rA μ (.p []) (.tuple #[]):=by rw[rA];exact⟨#[],rfl,.p⟩
 split at g
 .rw[rA]at C;subst C;simp only[qB,B3,E7]at g;obtain⟨⟨hb,ht⟩,g⟩:=g;cases g;have q:B<=b:=by
   grind [eC]
  have I:=z.aj b i q A;have a6:=g4.resolve_left (by simp_all);have hE:∃p∈D,p.1=E/\p.2<=n:=by
   grind [MQ]
  obtain⟨p,L,K,M⟩:=hE;subst K;refine(m p L i.b Q.size w h (by unfold World.shape?;rw[R]) (Nat.le_trans M F) ?_).mono ?_
  .grind [World.frozen?]
  .rintro e w' ⟨rfl,rfl⟩;rw[JQ R];refine⟨_,μ,rfl,μ.g,z.be Z A q ?_,Dg I.1,k⟩;refine⟨_,_,fr,rfl,by simp_all,by simp_all,λj x hj=>?_,by simp_all⟩
   grind [G.aa,rA]
 .rename_i d o;simp only[qB,B3,zD]at g;obtain⟨⟨rfl,rfl⟩,g⟩:=g;cases g;rw[rA]at C;obtain⟨i',y,rfl⟩:=C;rw[A]at y;cases y;refine(s i.b w h).mono ?_;rintro e w' ⟨rfl,rfl⟩;exact⟨_,μ,rfl,μ.g,z,Below.refl _ _,k⟩
 grind
theorem zni{b c:Type}{f:b->Option c}:∀ {l:List b} {r:List c},jH f l=some r->r.length=l.length/\∀(t:Nat) k,r[t]?=some k->∃y,l[t]?=some y/\f y=some k:=by
 intro l;induction l with
 | nil=>grind [Lb]
 | cons a l d=>
  grind [iQ,mA]
theorem zp4 (h:k<256):(UInt8.ofNat k).toNat=k:=by
 simp_all
def E8:O->Option Nat
 | .e .u8 (.ofNat k)=>sB (Nat.blt k 256) (some k)
 | _=>none
theorem ZK  (h:E8 v=some k):v=.e .u8 (k:Int)/\k<256:=by
 unfold E8 at h;split at h
 all_goals grind [qB,eC]
def Wy(base U:Nat)(args:List O)(H:sA):Option (O × sA):=
 match args with
 | [.j b 0]=>ob (eD H b) λc=>ob (c.1.c 1) λv=>ob v.u λs=>ob (eD H s.1) λd=>ob (d.1.u s.2.2.1 0) λm=>ob (jH E8 m) λl=>
  sB (!Nat.blt s.1 base&&Nat.beq s.2.1 0&&Nat.blt 0 s.2.2.1&&Nat.ble s.2.2.1 s.2.2.2&&Nat.ble s.2.2.1 d.2.1&&Nat.blt s.2.2.1 1000000000&&(match d.2.2 with | some (.a t)=>Nat.beq t U | _=>false)) (some (.h l,⟨H.a,H.t.q s.1⟩))
 | _=>none
theorem za5 (L:Lays.n169 P z)(X:Builder.Extra P z)(hf:z.f 169=f) (a6:B<=base)
  (D:∀(w:World) (a:Array Value),(callFunc f a).run P w=.ok (.enter f a) w)     (J:lB B N μ H w) (R:Wy base (z.t 5) args H=some (v,H')) (hl:bB μ args args'.toList) :
  (callFunc f args').run P w=.ok (.enter f args') w/\Calls P f args' w λe w'=>∃v' S,e=.returned v'/\μ.le S/\lB B N S H' w'/\Below N w w'/\rA S v v':=by
 refine⟨D w args',?_⟩;subst hf;unfold Wy at R;split at R
 case h_2=>cases R
 rename_i b;rw[bB]at hl;obtain⟨u,r,h1,h2,h3⟩:=hl;rw[bB]at h3;subst h3;rw[rA]at h2;obtain⟨i,hi,rfl⟩:=h2;have ha:args' = #[.pointer (some ⟨i.b,0,none⟩)]:=by apply mf.1;rw[h1]
 subst ha;simp only[mA,qB,B3,E7,It]at R;obtain⟨⟨c,n,lo⟩,hc,v0,h0,⟨g,ac,C,T⟩,rfl,⟨d,m,ai⟩,hd,ml,hm,l,aa,⟨⟨⟨⟨⟨⟨q1,q2⟩,q3⟩,q4⟩,q5⟩,q6⟩,q7⟩,R⟩:=R;cases R;have q2:ac=0:=zD.1 q2;have q3:0<C:=eC.1 q3;have q4:C<=T:=mF.1 q4;have q5:C<=m:=mF.1 q5;have q6:C<1000000000:=eC.1 q6;subst q2;have hx:=Ga hc;obtain⟨o,g1,cs,E,fr,rfl,g3,g4,g5,g6⟩:=J.am _ _ _ hx hi;obtain⟨hn,u,hu,hr⟩:=g5 1 _ h0;rw[rA]at hr;rcases hr with⟨j,q,hj,rfl,F,_,_⟩ | ⟨_,hz,_⟩
 case inr=>simp_all
 have F:T<=q:=F;have Z:=Ga hd;obtain⟨o2,k1,s,E2,A,rfl,k3,k4,k5,k6⟩:=J.am _ _ _ Z hj;have k3:m<=s.size:=k3;have hE:E2=z.t 5:=by
  grind [zD]
 subst hE;have I:B<=g:=by
  grind [eC]
 have U:=J.aj g j I hj;obtain⟨m1,m2⟩:=G.w _ _ _ _ hm;obtain⟨ah,ag⟩:=zni aa
 let p:List UInt8:=l.map UInt8.ofNat
 have ae:p.length=C:=by grind
 have a7:∀(t:Nat) k,l[t]?=some k->ml[t]?=some (.e .u8 (k:Int))/\k<256:=by
  grind [ZK]
 have K:∀t x,p[t]?=some x->w.cell? ((⟨j.b,0,none⟩:Addr).add t)=some (.int .u8 x.toNat):=by
  intro t x ht;simp only[p,G4,Z8]at ht;obtain⟨k,e1,rfl⟩:=ht;obtain⟨e2,e3⟩:=a7 t k e1;have hg:=m2 t (by grind);rw[D8,e2]at hg;obtain⟨_,y,e4,e5⟩:=k5 t _ hg;rw[rA]at e5;subst e5;rw[Dj];unfold World.cell?;simp only[k1];simp only[D8];show s[t]?=_;rw[e4,zp4 e3]
 have c1:w.cell? ⟨i.b,1,none⟩=some (.slice (some ⟨j.b,0,none⟩) p.length q):=by
  grind [World.cell?]
 have Q:p≠[]:=by grind
 refine(zb0 L X i.b j.b q s.size p w c1 Q (by omega) (by unfold World.shape?;rw[k1]) (by omega) (by omega) K).mono ?_;rintro e w' ⟨rfl,rfl⟩;have a8:∃o',w.drew.freeze ⟨j.b,0,none⟩ p.length=World.c w.drew j.b o':=by
  unfold World.freeze;rw[A3 (by omega)];refine⟨.cells s (z.t 5) (if A.1 == A.2 then(0,0+p.length)else(min A.1 0,max A.2 (0+p.length))),?_⟩;unfold World.c;congr 1;apply Array.ext_getElem?;intro k;rw[Array.getElem?_modify,mh];have af:w.drew.heap[j.b]?=some (.cells s (z.t 5) A):=k1
  grind
 obtain⟨o',ab⟩:=a8;rw[ab];have M:=J.au.bt g (λx t e=>by have:=(J.ax _ _ _ e).1;simp_all);refine⟨_,μ,rfl,μ.g,M.bk U.1 (λa x k ad W e=>?_) o',(Lz).trans (Dg U.1),?_⟩
 .have h:(if a=g then none else H.t.c a)=some x:=by grind [G.e]
  split at h
  .cases h
  .rename_i Q;by_cases a1:B<=a
   .exact Q (J.inj a g x _ k j h Z W hj a1 I e)
   .have:=(J.aw a x k (by omega) h W).1;omega
 .rw[rA];refine⟨_,rfl,?_⟩;unfold rG;show p.map UInt8.toNat=l;simp only[p,List.map_map];have:∀k∈l,(UInt8.toNat ∘ UInt8.ofNat) k=k:=by
   grind [List.mem_iff_getElem?,zp4]
  rw[List.map_congr_left this,List.map_id']
end
end Go.Am
namespace Go.Am
open Go Go.Shelf Go.RowKit Go.Proofs
section
variable {P:Program}{a:Ren}
set_option maxHeartbeats 2000000 in
set_option maxRecDepth 100000 in
theorem YN(L:Lays.n169 P a)(X:Builder.Extra P a)(b:Nat)(w:World)(c1:w.cell? ⟨b,1,none⟩=some (.slice none 0 0)) :
  Calls P (a.f 169) #[.pointer (some ⟨b,0,none⟩)] w λe w'=>e=.returned (.string .empty)/\w'=w.drew:=by
 have c1:w.drew.cell? ⟨b,1,none⟩=some (.slice none 0 0):=c1;have m:(Builtin.unsafeSliceData_ #[(a.t 37)] (a.t 127) #[.slice none 0 0]).run P w.drew=.ok (.pointer none) w.drew:=Lib.run_unsafeSliceData_nil ..;have n:(Builtin.unsafeString_ #[(a.t 127),(a.t 3)] (a.t 9) #[.pointer none,.int .i64 0]).run P w.drew=.ok (.string .empty) w.drew:=Lib.run_unsafeString_none ..;have c:=L.mixed;have q:=L.t72;have l:=L.a72;have A:=L.z72;have x:=L.v72;have t:=run_underlying L.t72
 have p:=L.t70;have k:=L.a70;have z:=L.z70;have v:=L.v70;have s:=run_underlying L.t70;have o:=L.t37;have j:=L.a37;have y:=L.z37;have u:=L.v37;have r:=run_underlying L.t37;have f:=L.t127;have d:=L.a127;have i:=L.z127;have h:=L.v127;have g:=run_underlying L.t127;have E:=L.t3;have B:=L.a3;have R:=L.z3;have M:=L.v3;have I:=run_underlying L.t3;have H:=L.t9;have D:=L.a9;have T:=L.z9;have Q:=L.v9;have K:=run_underlying L.t9
 have F:=X.t5;have C:=X.a5;have S:=X.z5;have N:=X.v5;have J:=run_underlying X.t5
 go_enter L.f169,Body.n169_ntmps a
 go_wp2
 go_region_o
 all_goals (go_wp2;go_ret;simp_all)
end
section
variable {P:Program}{d:Ren}{B:Nat}{N:Nat}{μ:Mu}{H:sA}{w:World}
def Kl(base U:Nat)(args:List O)(H:sA):Option (O × sA):=
 match args with
 | [.j b 0]=>ob (eD H b) λc=>ob (c.1.c 1) λv=>match v with
  | .g=>some (.h [],H)
  | _=>Wy base U args H
 | _=>none
theorem XH{f:Nat}(L:Lays.n169 P d)(X:Builder.Extra P d)(C:d.f 169=f){base:Nat}(k:B<=base)
  (g:∀(w:World) (a:Array Value),(callFunc f a).run P w=.ok (.enter f a) w) {args:List O} {args':Array Value} {v:O} {H':sA} (p:lB B N μ H w) (h:Kl base (d.t 5) args H=some (v,H')) (q:bB μ args args'.toList) :
  (callFunc f args').run P w=.ok (.enter f args') w/\Calls P f args' w λe w'=>∃v' j,e=.returned v'/\μ.le j/\lB B N j H' w'/\Below N w w'/\rA j v v':=by
 unfold Kl at h;split at h
 case h_2=>cases h
 rename_i b;simp only[mA]at h;obtain⟨⟨c,n,W⟩,A,Z,x,h⟩:=h;split at h
 case h_2=>grind [za5]
 cases h;refine⟨g w args',?_⟩;subst C;rw[bB]at q;obtain⟨u,r,y,l,m⟩:=q;rw[bB]at m;subst m;rw[rA]at l;obtain⟨i,D,rfl⟩:=l;have z:args' = #[.pointer (some ⟨i.b,0,none⟩)]:=by apply mf.1;rw[y]
 subst z;have I:=Ga A;obtain⟨o,M,J,E,K,rfl,Q,R,t,S⟩:=p.am _ _ _ I D;obtain⟨T,u,U,F⟩:=t 1 _ x;rw[rA]at F;have s:w.cell? ⟨i.b,1,none⟩=some (.slice none 0 0):=by
  grind [World.cell?]
 refine(YN L X i.b w s).mono ?_;rintro e w' ⟨rfl,rfl⟩;exact⟨_,μ,rfl,μ.g,p.au,Lz,by rw[rA];exact⟨_,rfl,rfl⟩⟩
end
end Go.Am
set_option maxRecDepth 100000
namespace Go.Am
open Go Go.RowKit
def xZ(c:Nat):List Nat->Option Nat
 | []=>none
 | x::r=>bif Nat.beq x c then some 0 else ob (xZ c r) λn=>some (n+1)
def Fu(a:List Nat):List Nat->Bool
 | []=>a.isEmpty
 | b::l=>bif Ay a (b::l)then true else Fu a l
def Sa(a:List O)(_:sA):Option O:=match a with | [.h s,.e .u8 (.ofNat c)]=>sB (Nat.blt c 256) (some (.e .i64 (match xZ c s with | some n=>.ofNat n | none=>.negSucc 0))) | _=>none
def Nt(a:List O)(_:sA):Option O:=match a with | [.h s,.h c]=>sB (Nat.blt (vB s) 4294967281) (some (.d (Fu c s))) | _=>none
def G0 (g:Nat)(l:List O)(t:G uA):G uA:=t.d g (.aa (G.ac l) (vB l) none)
def M4:dG->Nat
 | .aa _=>0
 | .ah v _=>match v.r with
  | some true=>1
  | _=>2
 | .ac n=>100+n
def Ea(C:fA)(f:Nat)(args:List O)(H:sA):dG:=match xM C f args false with
 | some a=>.aa ⟨a,[],H⟩
 | none=>.ac 0
theorem EF:∀(c s:List UInt8),Ay (c.map UInt8.toNat) (s.map UInt8.toNat)=c.isPrefixOf s
 | [],_=>by simp[Ay]
 | _::_,[]=>rfl
 | a::x,b::y=>by
  simp only[L1,Ay,bD,EF x y,List.isPrefixOf];grind [UInt8.toNat_inj,zD]
def SJ(c:List UInt8):∀s:List UInt8,Fu (c.map UInt8.toNat) (s.map UInt8.toNat)=Lib.contains s c
 | []=>by cases c<;>simp[Fu,Lib.contains,Lib.index]
 | b::l=>by
  have a:=SJ c l
  grind [EF,Fu,Lib.contains,Lib.index]
def PD(c:UInt8):∀s:List UInt8,(match xZ c.toNat (s.map UInt8.toNat)with | some n=>Int.ofNat n | none=>.negSucc 0)=Lib.indexByte s c
 | []=>rfl
 | b::l=>by
  have d:=PD c l;simp only[L1,xZ,bD];rw[Lib.indexByte];by_cases h:b=c
  .subst h;simp
  .have:¬ Nat.beq b.toNat c.toNat=true:=λe=>h (UInt8.toNat_inj.1 (zD.1 e));rw[A3 this];simp only[beq_iff_eq,h,if_false]
   cases a:xZ c.toNat (l.map UInt8.toNat)with
   | none=>simp_all
   | some n=>
    grind [lA]
def zs3(c:List UInt8):∀s:List UInt8,match Ft (c.map UInt8.toNat) (s.map UInt8.toNat)with
  | some p=>∃x y,p=(x.map UInt8.toNat,y.map UInt8.toNat)/\0<=Lib.index s c/\x=s.take (Lib.index s c).toNat/\y=s.drop ((Lib.index s c).toNat+c.length)
  | none=>Lib.index s c = -1
 | []=>by
  cases c with
  | nil=>exact⟨[],[],by simp,by simp[Lib.index],by simp,by simp⟩
  | cons a c=>simp[Ft,Lib.index]
 | b::l=>by
  have i:=zs3 c l;have g:=EF c (b::l);have r:=Lib.index_ge l c;simp only[L1]at g ⊢;simp only[Ft,bD,g];rw[Lib.index];by_cases h:c.isPrefixOf (b::l)=true
  .rw[A5 h,A5 h]
   grind [vU,dD,List.map_drop]
  .rw[A3 h,A3 h]
   cases q:Ft (c.map UInt8.toNat) (l.map UInt8.toNat)with
   | none=>simp_all
   | some p=>
    rw[q]at i;obtain⟨x,y,rfl,m,d,f⟩:=i;have e:¬ ((Lib.index l c == -1)=true):=by grind
    rw[A3 e];obtain⟨n,o⟩:∃n:Nat,Lib.index l c=n:=⟨_,(Int.toNat_of_nonneg m).symm⟩;rw[o]at d f ⊢;have j:((n:Int)+1).toNat=n+1:=by omega
    have k:((n:Int)).toNat=n:=by omega
    rw[j];rw[k]at d f;refine⟨b::x,y,by simp,by omega,by simp[d],?_⟩
    grind
def wt:jE->jE->Bool
 | .r,.r=>true
 | .m k,.m j=>dP k j
 | .j,.j=>true
 | .v a,.v b=>Nat.beq a b
 | .i a,.i b=>Nat.beq a b
 | .q a c,.q b d=>Nat.beq a b&&Nat.beq c d
 | .w a c,.w b d=>Nat.beq a b&&Nat.beq c d
 | .f f,.f g=>decide (f=g)
 | .u,.u=>true
 | .s,.s=>true
 | .t,.t=>true
 | _,_=>false
def zja{a b:jE}(h:wt a b=true):a=b:=by
 cases a<;>cases b<;>simp[wt,hO]at h ⊢<;>first | exact h | exact⟨h.1,h.2⟩
def fe (a b:jD):Bool:=wt a.a b.a&&Nat.beq a.b b.b&&Nat.beq a.d b.d&&A8.sames 10 a.c b.c&&H7 a.e b.e
theorem zxa{a b:jD}(h:fe a b=true):a=b:=by
 obtain⟨d,s,y,z,e⟩:=a;obtain⟨k,m,n,o,l⟩:=b;simp only[fe,B3,zD,kZ,beq_iff_eq]at h;obtain⟨⟨⟨⟨c,f⟩,g⟩,i⟩,j⟩:=h;rw[zja c,f,g,BY _ _ _ i,j]
def N7 {a:Type}(p:Nat->a->Bool):G a->(Nat->Nat)->Bool
 | .aj,_=>true
 | .ak l v r,f=>(match v with | some v=>p (f 0) v | none=>true)&&N7 p l (λm=>f (2*m+1))&&N7 p r (λm=>f (2*m+2))
theorem zye{a:Type}{p:Nat->a->Bool}:∀(t:G a) (f:Nat->Nat),N7 p t f=true->∀(n:Nat) v,t.c n=some v->p (f n) v=true:=by
 intro t;induction t with
 | aj=>grind [G.ah]
 | ak l x r b c=>
  intro f h n v d;simp only[N7,B3]at h;grind [G.au]
def lR (l:List (List UInt8)):List Value:=l.map λb=>.string ⟨b.toArray⟩
def Ig (l:List Int):List Value:=l.map λn=>.int .i64 n
def mq:Mu:=⟨λg=>if g<256 then some ⟨g,true,0,0,true⟩else none,λ_=>none⟩
def BF{μ:Mu}:∀l:List (List UInt8),bB μ (l.map λb=>O.h (b.map UInt8.toNat)) (lR l)
 | []=>.p
 | b::l=>.e (by grind [rA,rG]) (BF l)
def OZ{μ:Mu}:∀l:List Int,bB μ (l.map λn=>O.e .i64 n) (Ig l)
 | []=>.p
 | b::l=>.e (by rw[rA]) (OZ l)
theorem Zr{μ:Mu}{g:Nat}{l:List O}{a:List Value}(h:bB μ l a)(t:TypeId):kK μ ⟨g,true,0,0,true⟩ (.aa (G.ac l) (vB l) none) (.cells a.toArray t (0,0)):=h.y rfl
def zw5{o:dG}(h:M4 o=1):∃H,o=.ah (.d true) H:=by
 cases o with
 | aa s=>cases h
 | ac n=>grind [M4]
 | ah v H=>
  grind [M4,Iu]
end Go.Am
namespace Go.Am
open Go Go.RowKit
def Bj(c:Nat):List Nat->Nat
 | []=>0
 | x::r=>bif Nat.beq x c then Bj c r+1 else Bj c r
def Wz(a:List O)(_:sA):Option O:=match a with | [.h s,.h [c]]=>some (.e .i64 (.ofNat (Bj c s))) | _=>none
end Go.Am
