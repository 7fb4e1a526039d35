/- Code as a function: all functions of a program; what a value is worth. -/
import Derived.Test.YtefajchlhjcgpaaGreatDoorC04
set_option linter.all false
noncomputable section
namespace Go.Am
open Go Go.RowKit
section
def bY (C:fA)(fn:Func)(tm:Tm)(H:sA):wC:=ob (iZ C H tm fn.results.toList) λl=>some (⟨Ju l,false⟩,H)
def yR (C:fA)(fn:Func):Kt:=⟨bY C fn,λ_ _ _=>none,bY C fn⟩
def He(a:List Oper):Bool:=oD (λo=>match o.op with | .move _=>iE o.guard | .assign _=>iE o.guard | .alloc _=>iE o.guard | .store _ _ _=>iE o.guard | _=>false) a
def Wp(l:List (Nat × Array Oper)):Bool:=match l with | []=>false | x::r=>oD (λx=>He x.2.toList) (x::r)
def Rx(c:cC):Option Ma:=match vM c with | [q]=>some q | _=>none
def nu (r:iO)(q:Ma):Prop:=r.c=Q0 q.a/\r.f=fE q.c/\r.b=q.ps.toList/\LoopState.a r.e=0/\Wp q.a=true/\vM q.c=[]
def Lp(r:iO):iO:=⟨.busy,r.a,r.g,r.n,r.h,r.b,r.c,r.f,r.d⟩
def pP(b:Bool)(r:iO):iO:=⟨if b then .ready else .done,if b then none else some .ret,r.g,r.n,r.h,r.b,r.c,r.f,r.d⟩
def L4:Kt:=⟨λ_ H=>some (⟨.d true,false⟩,H),λ_ _ _=>none,λ_ H=>some (⟨.d false,false⟩,H)⟩
def sr(C:fA)(φ:jF)(fn n:Nat)(q:Ma)(tm:Tm)(H:sA):wC:=wE C φ fn n (T7 q.c q.a) L4 tm H
def Kc(C:fA)(A:G cC)(φ:jF)(l:Nat)(args:List O)(H:sA):wC:=
 ob (tK H l) λr=>ob (Dn r.n r.b args r.h) λd=>ob (A.c r.g) λc=>ob (Rx c) λq=>@ite _ (nu r q/\l<H.a) (Classical.propDecidable _)
  (ob (sr C φ r.g r.n q d (A7 H l (.ac (Lp r)))) λx=>tB (!x.1.p) (ob (tK x.2 l) λa=>ob x.1.v.r λb=>some (⟨.d b,false⟩,A7 x.2 l (.ac (pP b a))))) none
def R2 (c:cC):Option (Nat × Array Oper):=match c with
 | .aa b a false=>some (b,a)
 | .aw _ (.aa b a false)=>some (b,a)
 | _=>none
structure dS where
 f:Nat
 c:Array Oper
 d:Nat
 a:Nat
 e:List Operand
 i6:Nat
 b:Array Oper
def dz (l:List Oper):Option (Nat × Nat × List Operand):=match l with
 | [⟨some d,.makeFunc (.func f) b c,_,_,_,none⟩,⟨none,.defer a,_,_,_,none⟩]=>(match b.toList,a.callee,a.args.toList with
  | [],.value (.tmp e),[]=>bif Nat.beq d e then some (d,f,c.toList)else none
  | _,_,_=>none)
 | _=>none
def sv(c:cC):Option dS:=match c with
 | .ak a (.ak b .ax)=>ob (R2 a) λu=>ob (R2 b) λv=>ob (dz u.2.toList) λq=>some ⟨u.1,u.2,q.1,q.2.1,q.2.2,v.1,v.2⟩
 | _=>none
def lZ(c:cC):Option (List cC × dS):=
 cC.rec (motive:=λ_=>Option (List cC × dS)) none (λ_ _ _=>none)
  (λa b _ g=>match sv (.ak a b)with | some q=>some ([],q) | none=>ob g λp=>some (a::p.1,p.2))
  (λ_ _ _ _ _=>none) (λ_ _ _=>none) (λ_ _ _=>none) (λ_=>none) none (λ_ _ _=>none) (λ_ _ _ _ _ _ _=>none) c
def Bt (l:List cC):cC:=List.rec (motive:=λ_=>cC) .ah (λa _ g=>.ak a g) l
def M6 (l:List Oper):Option (Nat × Nat):=match l with
 | [⟨some d,.call a,_,_,_,none⟩,⟨some e,.assign (.tmp f),_,_,_,none⟩]=>(match a.callee with
  | .builtin .recover=>bif Nat.beq d f then some (d,e)else none
  | _=>none)
 | _=>none
structure T8 where
 i:Nat
 o:Array Oper
 d:Nat
 e:Nat
 c:cC
def ee (c:cC):Option T8:=match c with
 | .ak a b=>ob (R2 a) λu=>ob (M6 u.2.toList) λp=>some ⟨u.1,u.2,p.1,p.2,b⟩
 | _=>none
def M7 (n:Nat)(q:T8)(tm:Tm)(v:O):Tm:=A9 n (A9 n tm.b (some q.d) v) (some q.e) v
def fV(C:fA)(A:G cC)(φ:jF)(cl:Nat)(a:List O)(v:O)(H:sA):wC:=
 ob (C.d.c cl) λb=>ob (A.c cl) λc=>ob (ee c) λq=>tB (iE (C.c.c cl)&&Nat.blt q.d b.ntmps) (ob (iL C cl a true) λg=>wE C φ cl b.ntmps q.c (yR C b) (M7 b.ntmps q g.b v) H)
def aO (C:fA)(A:G cC)(φ:jF)(fn:Func)(cl:Nat)(a:List O)(v:O)(tm:Tm)(H:sA):wC:=
 ob (fV C A φ cl a v H) λy=>tB (!y.1.p) (bY C fn tm y.2)
def Uh(l:List ResultVar)(b:List Oper):Bool:=oD (λr=>match r with | .cell a _=>oD (λo=>match o.dst with | some d => !Nat.beq d a | none=>true) b | .tmp _=>false) l
def iU(C:fA)(A:G cC)(φ:jF)(fn:Func)(q:dS)(tm:Tm)(H:sA):wC:=
 tB (Uh fn.results.toList q.b.toList&&(Nat.ble tm.k q.d&&Nat.blt q.d fn.ntmps)) (ob (lQ q.e (.b tm.b)) λa=>
  ob (xO C φ q.b fn.ntmps (λb c=>aO C A φ fn q.a a .x b c) q.b.toList tm.b H) λx=>
   Bool.rec (motive:=λ_=>wC) (some x) (aO C A φ fn q.a a x.1.v tm.b x.2) x.1.p)
def Ha (C:fA)(A:G cC)(φ:jF)(fn:Func)(q:dS):Kt:=⟨iU C A φ fn q,λ_ _ _=>none,bY C fn⟩
def Ax(C:fA)(A:G cC)(φ:jF)(f:Nat)(fn:Func)(c:cC)(tm:Tm)(H:sA):wC:=
 match lZ c with
 | none=>wE C φ f fn.ntmps c (yR C fn) tm H
 | some p=>wE C φ f fn.ntmps (Bt p.1) (Ha C A φ fn p.2) tm H
def jV (C:fA)(A:G cC)(φ:jF)(f:Nat)(args:List O)(H:sA):wC:=
 ob (A.c f) λc=>ob (C.d.c f) λa=>ob (iL C f args false) λg=>Ax C A φ f a c g.b H
def Jx(C:fA)(A:G cC)(φ:jF):jF
 | .aa f=>jV C A φ f
 | .ac l=>Kc C A φ l
def Hg (C:fA)(A:G cC):Nat->jF
 | 0=>λ_ _ _=>none
 | n+1=>Jx C A (Hg C A n)
def uD (C:fA)(A:G cC):jF:=λf a H=>mc λn=>Hg C A n f a H
section
variable {C:fA}{A:G cC}
def Na{φ:jF}{l:Nat}{args:List O}{H:sA}{x:lI × sA}:Kc C A φ l args H=some x ↔ ∃r tm c q y a b,tK H l=some r/\Dn r.n r.b args r.h=some tm/\A.c r.g=some c/\Rx c=some q/\(nu r q/\l<H.a)/\sr C φ r.g r.n q tm (A7 H l (.ac (Lp r)))=some y/\tK y.2 l=some a/\y.1=⟨.d b,false⟩/\x=(⟨.d b,false⟩,A7 y.2 l (.ac (pP b a))):=by
 have d:∀(o:lI) (b:Bool),o=⟨.d b,false⟩ ↔ o.v=.d b/\o.p=false:=λo b=>by cases o;simp
 unfold Kc;grind [pA,Ik,qB]
theorem zbv{φ b:jF}(h:eQ φ b){cl:Nat}{a:List O}{v:O}{H:sA}{x:lI × sA}(c:fV C A φ cl a v H=some x):fV C A b cl a v H=some x:=by
 unfold fV at c ⊢;simp only[pA,qB]at c ⊢;obtain⟨e,f,d,i,q,j,k,g,l,m⟩:=c;exact⟨e,f,d,i,q,j,k,g,l,Fb h _ _ _ (kR.c _) _ _ _ m⟩
def Tu{φ b:jF}(h:eQ φ b){fn:Func}{cl:Nat}{a:List O}{v:O}{tm:Tm}{H:sA}{x:lI × sA}(c:aO C A φ fn cl a v tm H=some x):aO C A b fn cl a v tm H=some x:=by
 grind [aO,pA,zbv]
def IC{φ c:jF}(h:eQ φ c){fn:Func}{q:dS}:vL (iU C A φ fn q) (iU C A c fn q):=by
 intro j H x b;unfold iU at b ⊢;simp only[qB,pA]at b ⊢;obtain⟨e,a,f,y,g,d⟩:=b;refine⟨e,a,f,y,Rw h (λj H x b=>Tu h b) _ _ _ _ g,?_⟩
 cases i:y.1.p with
 | false=>simp_all
 | true=>rw[i]at d;exact Tu h d
def zb6{φ a:jF}(h:eQ φ a){f:Nat}{fn:Func}{c:cC}:vL (Ax C A φ f fn c) (Ax C A a f fn c):=by
 intro d H x b;unfold Ax at b ⊢;split at b
 .exact Fb h c _ _ (kR.c _) _ _ _ b
 .exact Fb h _ (Ha C A φ fn _) (Ha C A a fn _) ⟨IC h,λ_ _ _ _ h=>h,λ_ _ _ h=>h⟩ _ _ _ b
def QU{φs:Nat->jF}{φ:jF}(h:wZ φs φ){fn:Func}{cl:Nat}{a:List O}{v:O}:iQ (λn=>aO C A (φs n) fn cl a v) (aO C A φ fn cl a v):=by
 refine⟨λn j H x b=>Tu (h.b n) b,λj H x b=>?_⟩;unfold aO at b;rw[pA]at b;obtain⟨y,c,s⟩:=b;unfold fV at c;simp only[pA,qB]at c;obtain⟨e,l,k,m,q,o,p,g,r,f⟩:=c;have d:Iq (λ_=>yR C e) (yR C e):=⟨⟨λ_ _ _ _ h=>h,λ_ _ _ h=>⟨0,h⟩⟩,λi=>⟨λ_ _ _ _ h=>h,λ_ _ _ h=>⟨0,h⟩⟩,⟨λ_ _ _ _ h=>h,λ_ _ _ h=>⟨0,h⟩⟩⟩;obtain⟨n,t⟩:=(Ua h q.c _ _ d).c _ _ _ f
 grind [aO,fV,pA,qB]
def zcz{φs:Nat->jF}{φ:jF}(h:wZ φs φ){fn:Func}{q:dS}:iQ (λn=>iU C A (φs n) fn q) (iU C A φ fn q):=by
 refine⟨λn=>IC (h.b n),λg H x b=>?_⟩;unfold iU at b;simp only[qB,pA]at b;obtain⟨k,a,l,y,o,d⟩:=b;obtain⟨n,p⟩:=(LM h (QU h) _).c _ _ _ o;have f:∀m,n<=m->xO C (φs m) q.b fn.ntmps (λi j=>aO C A (φs m) fn q.a a .x i j) q.b.toList g.b H=some y:=
  λm c=>Rw (h.c c) (λg H x b=>Tu (h.c c) b) _ _ _ _ p
 cases e:y.1.p with
 | false=>
  rw[e]at d;refine⟨n,?_⟩
  simp_all [iU,qB]
 | true=>
  rw[e]at d;obtain⟨m,c⟩:=(QU h).c _ _ _ d;refine⟨max n m,?_⟩;show iU C A (φs (max n m)) fn q g H=some x;unfold iU;simp only[qB,pA];exact⟨k,a,l,y,f _ (Nat.le_max_left _ _),by rw[e];exact Tu (h.c (Nat.le_max_right _ _)) c⟩
def zjm{φs:Nat->jF}{φ:jF}(h:wZ φs φ){f:Nat}{fn:Func}{c:cC}{tm:Tm}{H:sA}{x:lI × sA}(a:Ax C A φ f fn c tm H=some x):∃n,Ax C A (φs n) f fn c tm H=some x:=by
 unfold Ax at a ⊢;split at a
 .have b:Iq (λ_=>yR C fn) (yR C fn):=⟨⟨λ_ _ _ _ h=>h,λ_ _ _ h=>⟨0,h⟩⟩,λi=>⟨λ_ _ _ _ h=>h,λ_ _ _ h=>⟨0,h⟩⟩,⟨λ_ _ _ _ h=>h,λ_ _ _ h=>⟨0,h⟩⟩⟩;exact(Ua h c _ _ b).c _ _ _ a
 .rename_i p _;exact(Ua h (Bt p.1) (λn=>Ha C A (φs n) fn p.2) (Ha C A φ fn p.2) ⟨zcz h,λi=>⟨λ_ _ _ _ h=>h,λ_ _ _ h=>⟨0,h⟩⟩,⟨λ_ _ _ _ h=>h,λ_ _ _ h=>⟨0,h⟩⟩⟩).c _ _ _ a
def IU{φ e:jF}(h:eQ φ e):eQ (Jx C A φ) (Jx C A e):=by
 intro f d H x a
 cases f with
 | ac l=>
  have a:Kc C A φ l d H=some x:=a;obtain⟨r,w,c,q,y,v,b,i,j,k,n,u,o,p,s,t⟩:=Na.1 a;exact Na.2 ⟨r,w,c,q,y,v,b,i,j,k,n,u,Fb h _ _ _ (kR.c _) _ _ _ o,p,s,t⟩
 | aa f=>
 have a:jV C A φ f d H=some x:=a;show jV C A e f d H=some x;unfold jV at a ⊢;rw[pA]at a ⊢;obtain⟨c,i,a⟩:=a;refine⟨c,i,?_⟩;rw[pA]at a ⊢;obtain⟨m,j,a⟩:=a;refine⟨m,j,?_⟩;rw[pA]at a ⊢;obtain⟨g,k,a⟩:=a;exact⟨g,k,zb6 h _ _ _ a⟩
def zf1:∀n,eQ (Hg C A n) (Hg C A (n+1)):=by
 intro n;induction n with
 | zero=>intro f a H x h;cases h
 | succ n b=>exact IU b
def Lh{f:K6}{args:List O}{H:sA}{x:lI × sA}:uD C A f args H=some x ↔ ∃n,Hg C A n f args H=some x:=
 Xj λn _ a=>zf1 n _ _ _ _ a
def zh2:wZ (Hg C A) (uD C A):=⟨zf1,λ_ _ _ _ h=>Lh.1 h⟩
def wg(f:K6)(args:List O)(H:sA):uD C A f args H=Jx C A (uD C A) f args H:=by
 have z:∀x,uD C A f args H=some x ↔ Jx C A (uD C A) f args H=some x:=by
  intro x;constructor
  .intro h;obtain⟨n,d⟩:=Lh.1 h
   cases n with
   | zero=>cases d
   | succ n=>exact IU (λf a H y w=>Lh.2 ⟨n,w⟩) _ _ _ _ d
  .intro h
   cases f with
   | ac l=>
    have h:Kc C A (uD C A) l args H=some x:=h;obtain⟨r,D,c,q,y,B,b,k,e,m,o,v,p,s,t,u⟩:=Na.1 h;have j:Iq (λ_=>L4) L4:=⟨⟨λ_ _ _ _ h=>h,λ_ _ _ h=>⟨0,h⟩⟩,λi=>⟨λ_ _ _ _ h=>h,λ_ _ _ h=>⟨0,h⟩⟩,⟨λ_ _ _ _ h=>h,λ_ _ _ h=>⟨0,h⟩⟩⟩;obtain⟨n,d⟩:=(Ua zh2 _ _ _ j).c _ _ _ p;exact Lh.2 ⟨n+1,Na.2 ⟨r,D,c,q,y,B,b,k,e,m,o,v,d,s,t,u⟩⟩
   | aa f=>
   have h:jV C A (uD C A) f args H=some x:=h;unfold jV at h;rw[pA]at h;obtain⟨c,k,h⟩:=h;rw[pA]at h;obtain⟨E,e,h⟩:=h;rw[pA]at h;obtain⟨g,m,h⟩:=h;obtain⟨n,d⟩:=zjm zh2 h;refine Lh.2 ⟨n+1,?_⟩;show jV C A (Hg C A n) f args H=some x
   grind [jV,mA]
 cases h:uD C A f args H with
 | some x=>grind
 | none=>
  cases e:Jx C A (uD C A) f args H with
  | none=>rfl
  | some x=>simp_all
def Bh(C:fA)(A:G cC):Prop:=∀f c,A.c f=some c->∃a,C.d.c f=some a/\a.body=some (fE c)
def YL{f:Nat}{args:List O}{g:pC}(h:iL C f args false=some g):∃fn c,C.d.c f=some fn/\fn.body=some c/\g.a=[.a c]/\g.R=⟨f,fn.ntmps,[],.ah,false,none⟩:=by
 grind [iL,pA,qB]
def Xg{c d:Type}{f g:c->Option d}:∀(l:List c) {r:List d},(∀a b,f a=some b->g a=some b)->kH f l=some r->kH g l=some r:=by
 intro l;induction l with
 | nil=>intro r _ h;exact h
 | cons a l e=>
  grind [oQ,pA]
def lU(C:fA)(f:Nat)(acs:List pC)(fl:Bool:=false):Bg:=λb o x=>∃a,o=.aa ⟨a,acs,x.2⟩/\fS C f b a x.2 x.1 fl
def WT{H:sA}{tm:Tm}{r:Nat}{d e:Option (List kI)}(m:H.t.c r=some (.ah d)):∀(l:List ResultVar) i,iZ C H tm l=some i->iZ C (A7 H r (.ah e)) tm l=some i:=by
 intro l i h;refine Xg l (λq v h=>?_) h
 cases q with
 | tmp t=>exact h
 | cell a t=>
  have h:(ob (ob (tm.a a) O.ah) λp=>ob (C.b.c t) λb=>ob (fD H p.1) λc=>qV b c.1 p.2)=some v:=h;show(ob (ob (tm.a a) O.ah) λp=>ob (C.b.c t) λb=>ob (fD (A7 H r (.ah e)) p.1) λc=>qV b c.1 p.2)=some v;simp only[pA]at h ⊢;obtain⟨p,k,b,n,c,g,o⟩:=h;refine⟨p,k,b,n,c,?_,o⟩;unfold fD at g ⊢;rw[pA]at g ⊢;obtain⟨y,f,j⟩:=g;refine⟨y,?_,j⟩;show(H.t.d r (.ah e)).c p.1=some y;rw[G.aa,A3 λe=>by rw[e,m]at f;cases f;cases j]
  exact f
def fS.a{f:Nat}{ds:List kI}{a:pC}{H:sA}{o:lI}{fl:Bool}(h:fS C f ds a H o fl)(b:o.p=false):Lz C f ds a H o.v fl:=by
 unfold fS at h;rwa [b,A3 (by simp)]at h
def fS.b{f:Nat}{ds:List kI}{a:pC}{H:sA}{o:lI}{fl:Bool}(h:Lz C f ds a H o.v fl)(b:o.p=false):fS C f ds a H o fl:=by
 unfold fS;rwa [b,A3 (by simp)]
def Yi{f N:Nat}{acs:List pC}{fl:Bool}(q:∃fn,C.d.c f=some fn):Pq C (lU C f acs fl) (λ_=>True) f N none acs fl:=by
 refine⟨?_,λ_ _=>trivial,?_,λe b p x _ m=>⟨_,rfl,by unfold fS;rw[A5 m];exact⟨⟨rfl,rfl,rfl,rfl⟩,q⟩⟩⟩
 .rintro e b p H x ⟨h,j,d⟩;cases j;unfold fS at d;split at d
  .have:=d.1.1;cases this
  .have:=d.1;cases this
 .rintro _ r e o x m ⟨h,rfl,D⟩ k;obtain⟨j,d,s,t,fn,l,A,u,B⟩:=D.a m;obtain⟨b,p,g,n,i,v,a,c⟩:=h;simp only at j d s t u;subst j d s t;have E:x.2.t.c r=some (.ah (some [])):=by
   unfold As at k;rw[qB,pA]at k;obtain⟨_,y,w,z⟩:=k;cases y<;>cases z;exact w
  refine⟨_,.ac ?_,⟨⟨b,p,⟨g,n,e,.aa,a,c⟩⟩,rfl,fS.b ⟨rfl,rfl,rfl,rfl,fn,l,A,WT E _ _ u,B⟩ m⟩⟩;show lM C (Jp C ⟨none,r,[]⟩ e ⟨b,p,⟨g,n,⟨none,r,[]⟩::e,.aa,a,c⟩⟩ acs x.2) _;unfold Jp;simp only[k,mA];exact .aa _
def Tt{f:Nat}{fn:Func}{acs:List pC}{x:lI × sA}{ds:List kI}{fl:Bool}(d:C.d.c f=some fn){tm:Tm}{H:sA}(h:bY C fn tm H=some x){a:List aE}{N:Nat}
  (e:iV C a tm (RR f N none ds fl) acs H=.aa ⟨Dp ⟨a,tm,RR f N none ds fl⟩ .aa,acs,H⟩):B5 C (lU C f acs fl) ds (.aa ⟨⟨a,tm,RR f N none ds fl⟩,acs,H⟩) x:=by
 unfold bY at h;rw[pA]at h;obtain⟨l,b,c⟩:=h;cases c;refine .a ?_;rw[uK rfl,e];exact⟨_,.aa _,_,rfl,fS.b ⟨rfl,rfl,rfl,rfl,fn,l,d,b,rfl⟩ rfl⟩
def RdG (l:Nat)(c:pC):lI × sA->Prop:=λx=>∃b d a,x.1=⟨.d b,false⟩/\tK x.2 l=some d/\eI c (.d b)=some a
def V7(l:Nat)(c:pC)(acs:List pC):Bg:=λ_ o x=>∃b d a,x.1=⟨.d b,false⟩/\tK x.2 l=some d/\eI c (.d b)=some a/\o=.aa ⟨a,acs,A7 x.2 l (.ac (pP b d))⟩
def zew{l b:Nat}(h:b≠l)(t:G vA)(x y:vA):(t.d l x).d b y=(t.d b y).d l x:=G.ay t _ _ _ _ (λe=>h e.symm)
def zb8{C:fA}{φ:jF}{all:Array Oper}{n:Nat}{j:Tm->sA->wC}{b:Nat}{K f:iO}:∀(l:List Oper) (tm:Tm) (H:sA) (x:lI × sA),He l=true->b<H.a->H.t.c b=some (.ac K)->xO C φ all n j l tm (A7 H b (.ac f))=some x →
  ∃tm' H',j tm' (A7 H' b (.ac f))=some x/\b<H'.a/\H'.t.c b=some (.ac K)/\∀(k:List aE) (R:qL) (cs:List pC),R.n=n->zO C all k R cs l tm H=P9 k tm' R cs H':=by
 intro l;induction l with
 | nil=>intro tm H x _ z A h;exact⟨tm,H,h,z,A,λ_ _ _ _=>rfl⟩
 | cons o l ih=>
  intro tm H x r M L h;have r:(bif (match o.op with | .move _=>iE o.guard | .assign _=>iE o.guard | .alloc _=>iE o.guard | .store _ _ _=>iE o.guard | _=>false)then He l else false)=true:=r
  have d:(match o.op with | .move _=>iE o.guard | .assign _=>iE o.guard | .alloc _=>iE o.guard | .store _ _ _=>iE o.guard | _=>false)=true:=by
   simp_all
  rw[d]at r;have r:He l=true:=r;have X:dG o.guard all tm=some true:=by
   have:iE o.guard=true:=by cases D:o.op<;>rw[D]at d<;>first | exact d | (cases d;done)
   cases Z:o.guard with
   | none=>rfl
   | some g=>rw[Z]at this;cases this
  rw[Hf,X,mA,A5 rfl]at h;have J:∃v H',(kF o.op).f C (.b tm) (A7 H b (.ac f))=.aa v (A7 H' b (.ac f))/\(kF o.op).f C (.b tm) H=.aa v H'/\b<H'.a/\H'.t.c b=some (.ac K):=by
   cases D:o.op<;>rw[D]at d h<;>try (cases d;done)
   case move u=>
    have e:∀H,(kF (.move u)).f C (.b tm) H=lv (oS u) C (.b tm) H:=λ_=>rfl;rw[e]at h
    cases I:ev u (.b tm)with
    | none=>
     have:lv (oS u) C (.b tm) (A7 H b (.ac f))=.ac:=by unfold lv oS;rw[I]
     rw[this]at h;cases h
    | some v=>grind [lv,oS]
   case assign u=>
    have e:∀H,(kF (.assign u)).f C (.b tm) H=lv (oS u) C (.b tm) H:=λ_=>rfl;rw[e]at h
    cases I:ev u (.b tm)with
    | none=>
     have:lv (oS u) C (.b tm) (A7 H b (.ac f))=.ac:=by unfold lv oS;rw[I]
     rw[this]at h;cases h
    | some v=>grind [lv,oS]
   case alloc t=>
    have e:∀H,(kF (.alloc t)).f C (.b tm) H=sN (ob (C.b.c t) λi=>some (.j H.a 0,tG H i.c (lL C t))):=λ_=>rfl;rw[e]at h
    cases F:C.b.c t with
    | none=>rw[F]at h;cases h
    | some i=>
     refine⟨.j H.a 0,tG H i.c (lL C t),?_,by rw[e,F];rfl,Nat.lt_succ_of_lt M,?_⟩
     .rw[e,F];show zM.aa (.j H.a 0) (tG (A7 H b (.ac f)) i.c (lL C t))=_;congr 1;show(⟨H.a+1,(H.t.d b _).d H.a _⟩:sA)=⟨H.a+1,(H.t.d H.a _).d b _⟩;rw[zew (by omega)]
     .show(H.t.d H.a _).c b=_;rw[G.aa,A3 (by omega),L]
   case store t a u=>
    have e:∀H,(kF (.store t a u)).f C (.b tm) H=sN (ob (C.b.c t) λi=>ob (ev a (.b tm)) λa=>ob a.ah λp=>ob (ev u (.b tm)) λv=>tB (Nat.beq (wB v.s) i.b) (ob (kK C H p.1 p.2 v.s) λH'=>some (aD,H'))):=λ_=>rfl;rw[e]at h
    cases s:(ob (C.b.c t) λi=>ob (ev a (.b tm)) λa=>ob a.ah λp=>ob (ev u (.b tm)) λv=>tB (Nat.beq (wB v.s) i.b) (ob (kK C (A7 H b (.ac f)) p.1 p.2 v.s) λH'=>some (aD,H')))with
    | none=>rw[s]at h;cases h
    | some q=>
     have E:=s;simp only[pA,qB]at s;obtain⟨i,z,a',A,p,S,v,T,U,H1,B,W⟩:=s;unfold kK at B;simp only[pA,qB]at B;obtain⟨N,c,w,P,Q⟩:=B;have m:p.1≠b:=by
      intro e;unfold fD at w;have:(A7 H b (.ac f)).t.c p.1=some (.ac f):=by
       show(H.t.d b _).c p.1=_;rw[G.aa,A5 e]
      rw[this,mA]at w;cases w
     have y:fD H p.1=some c:=by
      grind [fD,A7,G.aa]
     refine⟨aD,A7 H p.1 (.aa (c.1.am v.s p.2) c.2.1 c.2.2),?_,?_,M,?_⟩
     .rw[e,E,<- W,<- D6 Q];show zM.aa aD (A7 (A7 H b (.ac f)) p.1 _)=_;congr 1;show(⟨H.a,(H.t.d b _).d p.1 _⟩:sA)=⟨H.a,(H.t.d p.1 _).d b _⟩;rw[zew m]
     .rw[e,z,mA,A,mA,S,mA,T,mA,U];unfold kK;rw[N,y];simp only[mA];rw[P];rfl
     .show(H.t.d p.1 _).c b=_;rw[G.aa,A3 (λe=>m e.symm),L]
  obtain⟨v,H',k1,k2,k3,k4⟩:=J;rw[k1]at h;have h:pN C o.type v (λv=>xO C φ all n j l (A9 n tm o.dst v) (A7 H' b (.ac f)))=some x:=h
  grind [vS,Gz,zM.a]
def zb7{C:fA}{φ:jF}{fn n:Nat}{m:Kt}{c:cC}{b:Nat}{t j:iO}:∀(a:List (Nat × Array Oper)) (tm:Tm) (H:sA) (x:lI × sA),Wp a=true->b<H.a->H.t.c b=some (.ac t)->wE C φ fn n (T7 c a) m tm (A7 H b (.ac j))=some x →
  ∃tm' H',wE C φ fn n c m tm' (A7 H' b (.ac j))=some x/\H'.t.c b=some (.ac t)/\∀(k:List aE) (R:qL) (cs:List pC),R.n=n->R.a.a=true->lM C (.aa ⟨⟨.a (Q0 a)::k,tm,R⟩,cs,H⟩) (.aa ⟨⟨k,tm',R⟩,cs,H'⟩):=by
 intro a;induction a with
 | nil=>intro _ _ _ h;cases h
 | cons z a F=>
  intro tm H x s E D h;have s:(bif He z.2.toList then oD (λx=>He x.2.toList) a else false)=true:=s;have g:He z.2.toList=true:=by simp_all
  have h:xO C φ z.2 n (wE C φ fn n (T7 c a) m) z.2.toList tm.b (A7 H b (.ac j))=some x:=h;obtain⟨d,o,p,B,q,r⟩:=zb8 _ _ _ _ g E D h
  cases a with
  | nil=>
   refine⟨d,o,p,q,λk R cs e f=>.ac ?_⟩;rw[uK f];show lM C (zO C z.2 k R cs z.2.toList tm.b H) _;rw[r _ _ _ e];exact .aa _
  | cons w a=>
   have i:Wp (w::a)=true:=by
    show oD (λx=>He x.2.toList) (w::a)=true
    simp_all
   obtain⟨l,u,v,y,A⟩:=F d o x i B q p;refine⟨l,u,v,y,λk R cs e f=>.ac ?_⟩;rw[uK f];show lM C (zO C z.2 (.a (Q0 (w::a))::k) R cs z.2.toList tm.b H) _;rw[r _ _ _ e];exact A _ _ _ e f
def WQ{φ:jF}(v:pU C φ){l:Nat}{args:List O}{H:sA}{x:lI × sA}(h:Kc C A φ l args H=some x) :
  ∃r tm,tK H l=some r/\Dn r.n r.b args r.h=some tm/\x.1.p=false/\∀c acs c',eI c x.1.v=some c'->lM C (.aa ⟨CN r l tm,c::acs,H⟩) (.aa ⟨c',acs,x.2⟩):=by
 obtain⟨r,tm,cc,q,y,f,b,m,F,h3,h4,⟨⟨S,T,q3,U,W,X⟩,u⟩,s,I,J,rfl⟩:=Na.1 h;refine⟨r,tm,m,F,rfl,λc acs c' t=>?_⟩;have Q:H.t.c l=some (.ac r):=by
  unfold tK at m;rw[qB,pA]at m;obtain⟨_,y,D,E⟩:=m;cases y<;>cases E;exact D
 have z:256<=l:=by
  grind [tK,qB,rF]
 have s:wE C φ r.g r.n (T7 q.c q.a) L4 tm (A7 H l (.ac (Lp r)))=some y:=s;obtain⟨a,g,K,R,L⟩:=zb7 _ _ _ _ W u Q s;have p:tK g l=some r:=by
  grind [tK]
 unfold CN;rw[S,T];refine(L [.b,.a (fE q.c)] _ _ rfl rfl).d (.ac ?_);show lM C (iV C (.b::[.a (fE q.c)]) a ⟨r.g,r.n,[],.ah,false,some l⟩ (c::acs) g) _;have P:iV C (.b::[.a (fE q.c)]) a ⟨r.g,r.n,[],.ah,false,some l⟩ (c::acs) g=.aa ⟨⟨[.a (fE q.c)],a,RR r.g r.n (some l) []⟩,c::acs,A7 g l (.ac (Lp r))⟩:=by
  show Pz C [.a (fE q.c)] a _ (c::acs) g=_;unfold Pz;simp only[mA];rw[p,mA,U];rfl
 rw[P];have t:eI c (.d b)=some c':=t;have M:Pq C (V7 l c acs) (RdG l c) r.g r.n (some l) (c::acs):=by
  refine⟨?_,λe=>(by cases e),λe=>(by cases e),?_⟩
  .rintro d k tm H x ⟨b,f,c',_,_,_,e⟩
   simp_all
  .rintro d k tm x ⟨b,f,c',e,_,_⟩ hp
   simp_all
 have N:Pk C (V7 l c acs) (RdG l c) r.g r.n (some l) (c::acs) L4 []:=by
  refine⟨?_,λ_ _ _ _ _ _ h=>(by cases h),?_⟩
  .rintro d x tm H ⟨b,f,c',o,i,j⟩ h;cases h;cases o;refine .a ?_;rw[uK rfl];have:iV C [] tm (RR r.g r.n (some l) d) (c::acs) H=.aa ⟨c',acs,A7 H l (.ac (pP true f))⟩:=by
    have n:iV C [] tm (RR r.g r.n (some l) d) (c::acs) H=dW none C ⟨[],tm,RR r.g r.n (some l) d⟩ (c::acs) H:=rfl;rw[n];unfold dW;simp only[i,mA];show oN (ob (eI c (.d true)) _) 7=_;rw[j];rfl
   rw[this];exact⟨_,.aa _,true,f,c',rfl,i,j,rfl⟩
  .rintro d x tm H ⟨b,f,c',o,i,j⟩ h w;cases h;cases o;refine .a ?_;rw[uK rfl];have:iV C (.a .ret::w) tm (RR r.g r.n (some l) d) (c::acs) H=.aa ⟨c',acs,A7 H l (.ac (pP false f))⟩:=by
    have n:iV C (.a .ret::w) tm (RR r.g r.n (some l) d) (c::acs) H=dW (some .ret) C ⟨.a .ret::w,tm,RR r.g r.n (some l) d⟩ (c::acs) H:=rfl;rw[n];unfold dW;simp only[i,mA];show oN (ob (eI c (.d false)) _) 7=_;rw[j];rfl
   rw[this];exact⟨_,.aa _,false,f,c',rfl,i,j,rfl⟩
 obtain⟨o',k1,b',Z,B,k2,k3,k4,rfl⟩:=Yz v M q.c L4 [] (Or.inr X) N [] y a _ ⟨b,f,c',J,I,t⟩ K
 simp_all
theorem KE{c:cC}{i:Nat}{o:Array Oper}(h:R2 c=some (i,o)):fE c=.region i o false:=by
 cases c with
 | aa b a d=>cases d<;>cases h;rfl
 | aw p c=>
  cases c with
  | aa b a d=>cases d<;>cases h;rfl
  | _=>cases h
 | _=>cases h
def VI{c:cC}{q:dS}(h:sv c=some q):fE c=.seq (.region q.f q.c false) (.seq (.region q.i6 q.b false) .ret)/\dz q.c.toList=some (q.d,q.a,q.e):=by
 unfold sv at h;grind [pA,fE,KE]
def Tj(l:List cC)(e:Code):Code:=List.rec (motive:=λ_=>Code) e (λa _ g=>.seq (fE a) g) l
def WC:∀(c:cC) {l:List cC} {q:dS},lZ c=some (l,q)->fE c=Tj l (.seq (.region q.f q.c false) (.seq (.region q.i6 q.b false) .ret))/\dz q.c.toList=some (q.d,q.a,q.e):=by
 intro c;induction c with
 | ak a b _ i=>
  intro l q h;have h:(match sv (.ak a b)with | some q=>some ([],q) | none=>ob (lZ b) λp=>some (a::p.1,p.2))=some (l,q):=h
  split at h
  .rename_i d;cases h;exact VI d
  .rw[pA]at h;obtain⟨p,d,g⟩:=h;cases g;obtain⟨e,f⟩:=i d;exact⟨by show Code.seq (fE a) (fE b)=_;rw[e];rfl,f⟩
 | _=>intro l q h;cases h
def zje{c:cC}{q:T8}(h:ee c=some q):fE c=.seq (.region q.i q.o false) (fE q.c)/\M6 q.o.toList=some (q.d,q.e):=by
 unfold ee at h;grind [pA,fE,KE]
def zix{l:List Oper}{d cl:Nat}{f:List Operand}(h:dz l=some (d,cl,f)):∃b c t p a e t' g a',l=[⟨some d,.makeFunc (.func cl) b c,t,p,a,none⟩,⟨none,.defer e,t',g,a',none⟩]/\b.toList=[]/\c.toList=f/\e.callee=.value (.tmp d)/\e.args.toList=[]:=by
 unfold dz at h;grind [bC]
def ze8{l:List Oper}{d e:Nat}(h:M6 l=some (d,e)):∃b t p a t' c a',l=[⟨some d,.call b,t,p,a,none⟩,⟨some e,.assign (.tmp d),t',c,a',none⟩]/\b.callee=.builtin .recover:=by
 unfold M6 at h;grind [bC]
def XJ{φ:jF}(i:pU C φ){E:Bg}{ds:List kI}{x:lI × sA}{R:qL}{acs:List pC}{k:List aE}{all:Array Oper}{N:Nat}{I:Tm->Prop}(d:R.a.a=true)(u:R.n=N)(y:∀l tm,I tm->x.1.p=true->E ds (.aa ⟨gZ ⟨.h all l::k,tm,R⟩ [⟨x.1.v,false⟩],acs,x.2⟩) x){b:Tm->sA->wC}(g:∀tm H,I tm->b tm H=some x->B5 C E ds (.aa ⟨⟨k,tm,R⟩,acs,H⟩) x) :
  ∀(l:List Oper) (tm:Tm) (H:sA),(∀o∈l,∀tm v,I tm->I (A9 N tm o.dst v))->I tm->xO C φ all N b l tm H=some x->B5 C E ds (zO C all k R acs l tm H) x:=by
 intro l;induction l with
 | nil=>exact λtm H _ c h=>g tm H c h
 | cons o l j=>
  intro tm H n c h;have f:=λtm v h=>n o C5 tm v h;have j:=λtm H=>j tm H λo z=>n o (C7 _ z);rw[Hf,pA]at h;obtain⟨w,t,h⟩:=h;rw[Gz,t]
  cases w with
  | false=>
   simp_all
  | true=>
   rw[A5 rfl]at h;simp only[];generalize (kF o.op).f C (.b tm) H=r at h
   cases q:r.a with
   | some p=>
    have e:r=.aa p.1 p.2:=by cases r<;>simp[zM.a]at q;rw[<- q]
    grind [gH,vS]
   | none=>
    simp only[if_true];refine CP i h (λv A s a m=>?_) (λv=>⟨⟨.h all l::k,A9 R.n tm o.dst v,R⟩,by unfold eI;simp only[d,cond_true];rfl⟩) (jZ d) (y _ _ c);unfold eI at a;simp only[d,cond_true]at a;have a:some (⟨.h all l::k,A9 R.n tm o.dst v,R⟩:pC)=some s:=a;cases a;refine .a ?_;rw[uK d,u];rw[vS]at m;exact j _ _ (f _ _ c) m.2
def cutK{n:Nat}{tm:Tm}{d:Nat}{v:O}(h:tm.k<=d):(A9 n tm (some d) v).b=tm.b:=by
 show(Nk d n tm v).b=_;unfold Nk;simp only[bD];split
 .unfold Tm.c;rw[eL,A3 (by simp_all)];rfl
 .rfl
def ziw{l:List Oper}{d cl:Nat}{j:List Operand}{b:List O}(h:dz l=some (d,cl,j)){tm:Tm}{H:sA}(A:lQ j (.b tm)=some b){f n:Nat}{ds:List kI}{acs:List pC}{k:List aE}{all:Array Oper}(x:d<n) :
  zO C all k (RR f n none ds) acs l tm H=.aa ⟨⟨.h all []::k,A9 n tm (some d) (.q (.aa cl) [] b),RR f n none (⟨some (.aa cl),0,b⟩::ds)⟩,acs,H⟩:=by
 obtain⟨g,i,t,p,a,q,D,B,y,rfl,r,s,m,o⟩:=zix h;subst s;obtain⟨z,c,e⟩:=q;simp only at m o;subst m;have u:(kF (.makeFunc (.func cl) g i)).f C (.b tm) H=.aa (.q (.aa cl) [] b) H:=by
  show lv (Ny cl g i) C (.b tm) H=_;unfold lv Ny;rw[r];show(match ob (some []) _ with | some v=>zM.aa v H | none=>.ac)=_
  simp_all
 have w:(kF (.defer ⟨.value (.tmp d),c,e⟩)).f C (.b (A9 n tm (some d) (.q (.aa cl) [] b))) H=.ah ⟨some (.aa cl),0,b⟩:=by
  show Dr (ob (bU (.tmp d) c (.b (A9 n tm (some d) (.q (.aa cl) [] b)))) λp=>some (.ah ⟨some p.1,0,tE p.2.1 p.2.2⟩))=_;have:bU (.tmp d) c (.b (A9 n tm (some d) (.q (.aa cl) [] b)))=some (.aa cl,[],b):=by
   unfold bU;rw[o,show ev (.tmp d) (.b (A9 n tm (some d) (.q (.aa cl) [] b)))=(A9 n tm (some d) (.q (.aa cl) [] b)).a d from rfl,rK,A5 ⟨rfl,x⟩];rfl
  rw[this];rfl
 rw[Gz];show(match ((kF (.makeFunc (.func cl) g i)).f C (.b tm) H).a with | some p=>_ | none=>_)=_
 rw[u];show zO C all k (RR f n none ds) acs _ (A9 n tm (some d) (.q (.aa cl) [] b)) H=_;rw[Gz];show(match ((kF (.defer ⟨.value (.tmp d),c,e⟩)).f C (.b (A9 n tm (some d) (.q (.aa cl) [] b))) H).a with | some p=>_ | none=>_)=_
 rw[w];rfl
def WX{φ:jF}{E:Bg}{l:List Oper}{d e:Nat}(h:M6 l=some (d,e)){tm:Tm}{H:sA}{f n:Nat}{ds:List kI}{acs:List pC}{k:List aE}{all:Array Oper}{x:lI × sA}(I:d<n){c c':pC}{v:O}
  (F:(c.R.a=.aa/\v=.x/\c'=c)\/(c.R.a=.ac [⟨v,false⟩]/\c'=Dp c (.ac [⟨v,true⟩]))) (N:B5 C E ds (.aa ⟨⟨k,A9 n (A9 n tm (some d) v) (some e) v,RR f n none ds true⟩,c'::acs,H⟩) x) :
  B5 C E ds (zO C all k (RR f n none ds true) (c::acs) l tm H) x:=by
 obtain⟨z,t,p,a,q,o,i,rfl,y⟩:=ze8 h;obtain⟨J,b,g⟩:=z;simp only at y;subst y;have L:(kF (.call ⟨.builtin .recover,b,g⟩)).f C (.b tm) H=.aj:=rfl;rw[Gz];have M:zO C all k (RR f n none ds true) (c'::acs) [⟨some e,.assign (.tmp d),q,o,i,none⟩] (A9 n tm (some d) v) H=.aa ⟨⟨k,A9 n (A9 n tm (some d) v) (some e) v,RR f n none ds true⟩,c'::acs,H⟩:=by
  rw[Gz];show(match ((kF (.assign (.tmp d))).f C (.b (A9 n tm (some d) v)) H).a with | some p=>_ | none=>_)=_
  have:(kF (.assign (.tmp d))).f C (.b (A9 n tm (some d) v)) H=.aa v H:=by
   show lv (oS (.tmp d)) C (.b (A9 n tm (some d) v)) H=_;unfold lv oS;rw[show ev (.tmp d) (.b (A9 n tm (some d) v))=(A9 n tm (some d) v).a d from rfl,rK,A5 ⟨rfl,I⟩]
  rw[this];rfl
 have D:Rq C ⟨.h all (⟨some d,.call ⟨.builtin .recover,b,g⟩,t,p,a,none⟩::[⟨some e,.assign (.tmp d),q,o,i,none⟩])::k,tm,RR f n none ds true⟩ (c::acs) H=.aa ⟨⟨.h all [⟨some e,.assign (.tmp d),q,o,i,none⟩]::k,A9 n tm (some d) v,RR f n none ds true⟩,c'::acs,H⟩:=by
  obtain⟨u,B,A,K,j,s,w,r⟩:=c;rcases F with⟨m,rfl,rfl⟩ | ⟨m,rfl⟩
  .simp only at m;subst m;rfl
  .simp only at m;subst m;rfl
 show B5 C E ds (Rq C ⟨.h all (⟨some d,.call ⟨.builtin .recover,b,g⟩,t,p,a,none⟩::[⟨some e,.assign (.tmp d),q,o,i,none⟩])::k,tm,RR f n none ds true⟩ (c::acs) H) x;rw[D];refine .a ?_;rw[uK rfl];show B5 C E ds (zO C all k (RR f n none ds true) (c'::acs) [⟨some e,.assign (.tmp d),q,o,i,none⟩] (A9 n tm (some d) v) H) x
 simp_all
def YY(I:Bh C A){φ:jF}(k:pU C φ){cl:Nat}{a:List O}{v:O}{H:sA}{y:lI × sA}{acs:List pC}{c c':pC}
  (K:(c.R.a=.aa/\v=.x/\c'=c)\/(c.R.a=.ac [⟨v,false⟩]/\c'=Dp c (.ac [⟨v,true⟩]))) (h:fV C A φ cl a v H=some y) (M:y.1.p=false) :
  C.c.c cl=none/\∃g,iL C cl a true=some g/\∃b,lM C (.aa ⟨g,c::acs,H⟩) (.aa ⟨b,c'::acs,y.2⟩)/\Lz C cl [] b y.2 y.1.v true:=by
 unfold fV at h;simp only[pA,qB,B2]at h;obtain⟨d,e,l,z,q,B,⟨o,D⟩,g,E,F⟩:=h;have j:C.c.c cl=none:=by
  cases L:C.c.c cl with
  | none=>rfl
  | some u=>rw[L]at o;cases o
 refine⟨j,g,E,?_⟩;obtain⟨r,n,S⟩:=I _ _ z;rw[e]at n;cases n;obtain⟨s,t⟩:=zje B;have w:g.a=[.a (fE l)]/\g.R=⟨cl,d.ntmps,[],.ah,true,none⟩:=by
  grind [iL,pA,qB]
 obtain⟨U,f,T⟩:=g;obtain⟨rfl,rfl⟩:=w;have J:Pk C (lU C cl (c'::acs) true) (λ_=>True) cl d.ntmps none (c'::acs) (yR C d) [] true:=⟨λm x p H _ h=>Tt e h rfl,λm x i p H _ h=>(by cases h),λm x p H _ h W=>Tt e h rfl⟩;have N:=Yz k (Yi (fl:=true) ⟨d,e⟩) q.c (yR C d) [] (Or.inl rfl) J [] y _ H trivial F;have P:B5 C (lU C cl (c'::acs) true) [] (.aa ⟨⟨[.a (fE l)],f,RR cl d.ntmps none [] true⟩,c::acs,H⟩) y:=by
  refine .a ?_;rw[uK rfl,s];exact WX (φ:=φ) t (gC.1 D) K N
 obtain⟨X,Q,b,rfl,R⟩:=P;exact⟨b,Q,R.a M⟩
def zod(hA:Bh C A){φ:jF}(S:pU C φ){cl:Nat}{b:List O}{v:O}{H:sA}{y:lI × sA}{acs:List pC}{c:pC}{ds:List kI}(Z:c.R.d=⟨some (.aa cl),0,b⟩::ds)
  (z:(c.R.a=.aa/\v=.x)\/c.R.a=.ac [⟨v,false⟩]) (h:fV C A φ cl b v H=some y) (hy:y.1.p=false) :
  lM C (.aa ⟨c,acs,H⟩) (.aa ⟨⟨c.a,c.b,⟨c.R.e,c.R.n,ds,.aa,c.R.b,c.R.c⟩⟩,acs,y.2⟩):=by
 obtain⟨d,p,o,s,w,j,k,a⟩:=c;simp only at Z z;subst Z;have hx:∀m:sZ,((m=.aa/\v=.x)\/m=.ac [⟨v,false⟩])->∀q:pC,q=(⟨d,p,⟨o,s,ds,m,k,a⟩⟩:pC)->∃i:pC,((q.R.a=.aa/\v=.x/\i=q)\/(q.R.a=.ac [⟨v,false⟩]/\i=Dp q (.ac [⟨v,true⟩])))/\∀f H,Lz C cl [] f H y.1.v true->eX C (.aa ⟨f,i::acs,H⟩)=.aa ⟨⟨d,p,⟨o,s,ds,.aa,k,a⟩⟩,acs,H⟩:=by
  intro m z q Q;subst Q;have B:∀(i:pC),i.R.a=.aa\/i.R.a=.ac [⟨v,true⟩]->∀f H,Lz C cl [] f H y.1.v true->eX C (.aa ⟨f,i::acs,H⟩)=.aa ⟨Dp i .aa,acs,H⟩:=by
   rintro i x f H ⟨J,K,L,M,fn,l,P,X,h7⟩;obtain⟨D,tm,a7,n,I,a1,t,T⟩:=f;obtain⟨F,W,U,a6,r,E,N,u⟩:=i;simp only at J K L M X x;subst J K L M;show Jo C ⟨D,tm,_⟩ (_::acs) H=_;unfold Jo;rw[P,mA,X];rcases x with rfl | rfl<;>rfl
  rcases z with⟨rfl,rfl⟩ | rfl
  .exact⟨_,.inl ⟨rfl,rfl,rfl⟩,λf H R=>B _ (.inl rfl) f H R⟩
  .exact⟨_,.inr ⟨rfl,rfl⟩,λf H R=>B _ (.inr rfl) f H R⟩
 obtain⟨i,J,K⟩:=hx j z _ rfl;obtain⟨hp,g,L,f,M,P⟩:=YY hA S (acs:=acs) J h hy;refine .ac ?_;have e:eX C (.aa ⟨⟨d,p,⟨o,s,⟨some (.aa cl),0,b⟩::ds,j,k,a⟩⟩,acs,H⟩)=.aa ⟨g,⟨d,p,⟨o,s,ds,j,k,a⟩⟩::acs,H⟩:=by
  have e1:eX C (.aa ⟨⟨d,p,⟨o,s,⟨some (.aa cl),0,b⟩::ds,j,k,a⟩⟩,acs,H⟩)=Jp C ⟨some (.aa cl),0,b⟩ ds ⟨d,p,⟨o,s,⟨some (.aa cl),0,b⟩::ds,j,k,a⟩⟩ acs H:=by
   rcases z with⟨rfl,_⟩ | rfl<;>rfl
  rw[e1];unfold Jp;simp only[];rw[hp];simp only[];rw[L];rfl
 rw[e];refine M.d (.ac ?_);rw[K _ _ P];exact .aa _
theorem WS{H:sA}{tm tm':Tm}:∀ {l:List ResultVar},(∀r∈l,∃a t,r=.cell a t/\tm'.a a=tm.a a)->iZ C H tm' l=iZ C H tm l:=by
 intro l;induction l with
 | nil=>exact λ_=>rfl
 | cons r l b=>
  intro h;obtain⟨a,t,rfl,d⟩:=h _ C5;have b:=b λr f=>h r (C7 _ f);show kH (cU C H tm') _=kH (cU C H tm) _;rw[oQ,oQ];have e:cU C H tm' (.cell a t)=cU C H tm (.cell a t):=by
   show(ob (ob (tm'.a a) O.ah) λp=>ob (C.b.c t) λg=>ob (fD H p.1) λc=>qV g c.1 p.2)=_;rw[d];rfl
  rw[e];have b:kH (cU C H tm') l=kH (cU C H tm) l:=b;rw[b]
def zb2{l:List ResultVar}{b:List Oper}(h:Uh l b=true):∀r∈l,∃a t,r=.cell a t/\∀o∈b,o.dst≠some a:=by
 unfold Uh at h;rw[gI,C9]at h;intro r f;have:=h r f
 cases r with
 | tmp t=>cases this
 | cell a t=>
  refine⟨a,t,rfl,λo c e=>?_⟩;have this:oD (λo=>match o.dst with | some d => !Nat.beq d a | none=>true) b=true:=this
  rw[gI,C9]at this;have:=this o c
  simp_all
def VJ(hA:Bh C A){φ:jF}(p:pU C φ){f:Nat}{fn:Func}{q:dS}(hf:C.d.c f=some fn)(hq:dz q.c.toList=some (q.d,q.a,q.e)){acs:List pC}{ds:List kI}{tm:Tm}{H:sA}{x:lI × sA}(h:iU C A φ fn q tm H=some x) :
  B5 C (lU C f acs) ds (.aa ⟨⟨[.a (.seq (.region q.f q.c false) (.seq (.region q.i6 q.b false) .ret))],tm,RR f fn.ntmps none ds⟩,acs,H⟩) x:=by
 unfold iU at h;simp only[qB,pA,B2]at h;obtain⟨⟨U,W,X⟩,b,Z,y,h5,j⟩:=h;have hc:=zb2 U
 let I:Tm->Prop:=λd=>∀r∈fn.results.toList,∃a t,r=.cell a t/\d.a a=tm.b.a a
 let D:kI:=⟨some (.aa q.a),0,b⟩
 let R:Bg:=λ_ o y=>if y.1.p=true then ∃g,o=.aa ⟨g,acs,y.2⟩/\g.R=⟨f,fn.ntmps,D::ds,.ac [⟨y.1.v,false⟩],false,none⟩/\I g.b else lU C f acs false ds o y
 have e:∀(c:pC) (H:sA) (v:O) (m:Tm) (z:lI × sA),c.R=⟨f,fn.ntmps,D::ds,c.R.a,false,none⟩->((c.R.a=.aa/\v=.x)\/c.R.a=.ac [⟨v,false⟩])->(∀r∈fn.results.toList,∃a t,r=.cell a t/\c.b.a a=m.a a)->aO C A φ fn q.a b v m H=some z->z.1.p=false/\∃k,lM C (.aa ⟨c,acs,H⟩) k/\lU C f acs false ds k z:=by
  intro c H v m z n E e3 F;unfold aO at F;rw[pA]at F;obtain⟨w,S,s⟩:=F;rw[qB]at s;unfold bY at s;rw[pA]at s;obtain⟨e7,l,e8,T⟩:=s;cases T;have hd:c.R.d=D::ds:=by rw[n]
  have r1:=zod hA p (acs:=acs) hd E S (by grind);refine⟨rfl,_,r1,_,rfl,fS.b ⟨rfl,rfl,by rw[n],by rw[n],fn,l,hf,?_,rfl⟩ rfl⟩
  grind [WS]
 refine .a ?_;rw[uK rfl];show B5 C (lU C f acs) ds (zO C q.c [.a (.seq (.region q.i6 q.b false) .ret)] (RR f fn.ntmps none ds) acs q.c.toList tm.b H) x;rw[ziw hq Z (gC.1 X)];refine .a ?_;rw[uK rfl];show B5 C (lU C f acs) ds (.aa ⟨⟨[.a (.seq (.region q.i6 q.b false) .ret)],A9 fn.ntmps tm.b (some q.d) (.q (.aa q.a) [] b),RR f fn.ntmps none (D::ds)⟩,acs,H⟩) x;refine .a ?_;rw[uK rfl];show B5 C (lU C f acs) ds (zO C q.b [.a .ret] (RR f fn.ntmps none (D::ds)) acs q.b.toList (A9 fn.ntmps tm.b (some q.d) (.q (.aa q.a) [] b)).b H) x
 rw[cutK (show tm.b.k<=q.d from rF.1 W)];have r6:B5 C R (D::ds) (zO C q.b [.a .ret] (RR f fn.ntmps none (D::ds)) acs q.b.toList tm.b.b H) y:=by
  refine XJ p (I:=I) (N:=fn.ntmps) rfl rfl (λl d J u=>?_) (λd B J hy=>?_) _ _ _ (λo ho d v J r K=>?_) (λr K=>?_) h5
  .show if y.1.p=true then _ else _;rw[A5 u];exact⟨_,rfl,rfl,J⟩
  .have:eX C (.aa ⟨⟨[.a .ret],d,RR f fn.ntmps none (D::ds)⟩,acs,B⟩)=.aa ⟨⟨[.a .ret],d,⟨f,fn.ntmps,D::ds,.aa,false,none⟩⟩,acs,B⟩:=rfl;refine .a ?_;rw[this];obtain⟨z1,k,M,Q⟩:=e ⟨[.a .ret],d,⟨f,fn.ntmps,D::ds,.aa,false,none⟩⟩ B .x d y rfl (.inl ⟨rfl,rfl⟩) (λr K=>by grind) hy;refine⟨k,M,?_⟩
   grind
  .grind [rK]
  .obtain⟨a,t,rfl,_⟩:=hc r K;exact⟨a,t,rfl,rfl⟩
 obtain⟨k,P,i⟩:=r6;have i:if y.1.p=true then ∃g,k=.aa ⟨g,acs,y.2⟩/\g.R=⟨f,fn.ntmps,D::ds,.ac [⟨y.1.v,false⟩],false,none⟩/\I g.b else lU C f acs false ds k y:=i
 cases u:y.1.p with
 | false=>
  rw[u]at j i;rw[A3 (by simp)]at i;have j:some y=some x:=j;cases j;exact⟨k,P,i⟩
 | true=>
  rw[u]at j i;rw[A5 rfl]at i;have j:aO C A φ fn q.a b y.1.v tm.b y.2=some x:=j;obtain⟨g,rfl,n,E⟩:=i;obtain⟨_,L,M,Q⟩:=e g y.2 y.1.v tm.b x (by rw[n]) (.inr (by rw[n])) E j;exact⟨L,P.d M,Q⟩
def ZM(n:Bh C A){φ:jF}(e:pU C φ){f:Nat}{fn:Func}{c:cC}(d:C.d.c f=some fn){acs:List pC}{tm:Tm}{H:sA}{x:lI × sA}(h:Ax C A φ f fn c tm H=some x) :
  B5 C (lU C f acs) [] (.aa ⟨⟨[.a (fE c)],tm,RR f fn.ntmps none []⟩,acs,H⟩) x:=by
 unfold Ax at h;split at h
 .have g:Pk C (lU C f acs) (λ_=>True) f fn.ntmps none acs (yR C fn) []:=⟨λb x tm H _ h=>Tt d h rfl,λb x i tm H _ h=>(by cases h),λb x tm H _ h r=>Tt d h rfl⟩;exact Yz e (Yi ⟨fn,d⟩) c (yR C fn) [] (Or.inl rfl) g [] x tm H trivial h
 .rename_i p k;obtain⟨l,q⟩:=p;obtain⟨j,m⟩:=WC c k;rw[j];clear j k;have s:∀(l:List cC) b x tm H,wE C φ f fn.ntmps (Bt l) (Ha C A φ fn q) tm H=some x->B5 C (lU C f acs) b (.aa ⟨⟨[.a (Tj l (.seq (.region q.f q.c false) (.seq (.region q.i6 q.b false) .ret)))],tm,RR f fn.ntmps none b⟩,acs,H⟩) x:=by
   intro l;induction l with
   | nil=>exact λb x tm H h=>VJ n e d m h
   | cons a l o=>
    intro b x tm H h;refine Yo (Yi ⟨fn,d⟩) (t1:=[.a (Tj (a::l) _)]) rfl (t2:=.a (fE a)::[.a (Tj l (.seq (.region q.f q.c false) (.seq (.region q.i6 q.b false) .ret)))]) (λ_ _=>rfl) ?_;have g:Pk C (lU C f acs) (λ_=>True) f fn.ntmps none acs ⟨wE C φ f fn.ntmps (Bt l) (Ha C A φ fn q),λ_ _ _=>none,bY C fn⟩ [.a (Tj l (.seq (.region q.f q.c false) (.seq (.region q.i6 q.b false) .ret)))]:=
     ⟨λb x tm H _ h=>o b x tm H h,λb x i tm H _ h=>(by cases h),λb x tm H _ h r=>Tt d h rfl⟩
    exact Yz e (Yi ⟨fn,d⟩) a _ _ (Or.inl rfl) g b x tm H trivial h
  simp_all
def VZ(p:Bh C A){φ:jF}(b:pU C φ):pU C (Jx C A φ):=by
 refine⟨λf a H x h=>?_,λl a H x h=>WQ b h⟩;have h:jV C A φ f a H=some x:=h;unfold jV at h;rw[pA]at h;obtain⟨c,t,h⟩:=h;rw[pA]at h;obtain⟨v,e,h⟩:=h;rw[pA]at h;obtain⟨g,o,h⟩:=h;refine⟨g,o,λacs=>?_⟩;obtain⟨d,u,i,q,j,k⟩:=YL o;rw[e]at i;cases i;obtain⟨d,m,n⟩:=p f c t;rw[e]at m;cases m;rw[q]at n;cases n;obtain⟨y,s,w⟩:=g;simp only at j k h;subst j k;obtain⟨D,z,r,rfl,B⟩:=ZM p b e (acs:=acs) h
 grind
def LX(b:Bh C A):∀n,pU C (Hg C A n):=by
 intro n;induction n with
 | zero=>exact⟨λf a H x h=>(by cases h),λl a H x h=>(by cases h)⟩
 | succ n c=>exact VZ b c
def zh3(c:Bh C A):pU C (uD C A):=by
 refine⟨λf a H x h=>?_,λf a H x h=>?_⟩
 .obtain⟨n,b⟩:=Lh.1 h;exact(LX c n).a _ _ _ _ b
 .obtain⟨n,b⟩:=Lh.1 h;exact(LX c n).rd _ _ _ _ b
def ZD{P:Program}{B N:Nat}{I:World->Prop}{μ:Mu}{w:World}(j:cL P C B N I)(M:I w)(J:Bh C A){f:Nat}{args:List O}{args':Array Value}{H H':sA}{v:O}(L:mB B N μ H w)(R:jB μ args args'.toList)
  (h:uD C A (.aa f) args H=some (⟨v,false⟩,H')):Calls P f args' w λe w'=>∃v' a,e=.returned v'/\μ.l a/\rA a v v'/\mB B N a H' w'/\Below N w w':=by
 intro c;obtain⟨g,Q,S⟩:=(zh3 J).a _ _ _ _ h;obtain⟨t,W,K⟩:=S [];obtain⟨x,y,z,D,s,l,E,F,rfl⟩:=K.a rfl;have u:qE P C B N μ c (lone (Frame.enter P f args' .normal) c w) w (.aa ⟨g,[],H⟩):=BR j.a L R Q;obtain⟨a,b,cs,w',X,Z,s3,r,i,s6⟩:=qE.d j M W u;cases s6;have k:=i.c;rw[A3 (by grind [sZ.a])]at k;obtain⟨v',T,U⟩:=JY j.b r k F;have p:=i.a.e;rw[x]at p;have n:b.mode=.returning:=by
  cases k:b.mode with
  | returning=>rfl
  | _=>rw[k]at p;exact p.elim
 have o:=i.a.c;rw[y]at o;have m:b.defers=[]:=by
  generalize hx:b.defers=bd at o;cases o;rfl
 have q:=i.a.d;rw[z]at q;have d:b.fn=f:=by rw[i.a.i,D]
 exact⟨.returned v',w',b,⟨v',a,rfl,Z,U,r,s3⟩,X,d,n,m,q,s,by rw[d];exact(j.a _ _ E).1,T⟩
end
end
section
def oA(C:fA)(t:Nat)(H:sA)(v:O):Option O:=ob v.ah λp=>ob (C.b.c t) λa=>ob (fD H p.1) λc=>qV a c.1 p.2
def dR(C:fA)(s d:Nat)(H:sA)(a:O):Option O:=ob (C.b.c s) λs=>ob (C.b.c d) λd=>gV C s d a H
def cF(C:fA)(t:Nat)(H:sA)(a:O)(l h:Option O):Option O:=ob (C.b.c t) λb=>sP C H b a l h
def Qm(C:fA)(s f:Nat):Option Nat:=ob (C.b.c s) λc=>ob c.a.b λb=>ob (lD b f) λa=>tB (!Nat.beq a.2.2 0) (some a.1)
def iB(C:fA)(s f:Nat)(v:O):Option O:=ob (Qm C s f) λk=>ob v.ah λp=>some (.j p.1 (p.2+k))
def zC(C:fA)(t:Nat)(v i:O):Option O:=
 ob (C.b.c t) λc=>ob i.aj λi=>
  match v.u with
  | some s=>ob c.a.a λd=>ob (C.b.c d) λb=>tB (Nat.blt i s.2.2.1) (some (.j s.1 (s.2.1+i*b.b)))
  | none=>ob v.ah λp=>ob c.a.g λa=>ob (C.b.c a.2) λb=>tB (Nat.blt i a.1) (some (.j p.1 (p.2+i*b.b)))
def HN(C:fA)(t i:Nat):Option Nat:=ob (C.b.c t) λc=>ob c.a.g λa=>ob (C.b.c a.2) λb=>tB (Nat.blt i a.1) (some (i*b.b))
def wJ(C:fA)(t:Nat)(v i:O):Option O:=
 ob (C.b.c t) λc=>ob i.aj λi=>
  match v.w with
  | some s=>tB c.a.c (ob (lD s i) λb=>some (.e .u8 (.ofNat b)))
  | none=>ob v.ak λl=>ob c.a.g λa=>ob (C.b.c a.2) λd=>tB (Nat.blt i a.1) (wT C a.2 l (i*d.b))
def vK(i:Nat)(v:O):Option O:=ob v.ay λl=>lD l i
def jX (C:fA)(t:Nat)(H:sA)(v:O):Option O:=ob (C.b.c t) λa=>ob (qY H a v) λn=>some (.e .i64 (.ofNat n))
def vC(v:O):Option O:=
 match v.u with
 | some s=>some (.e .i64 (.ofNat s.2.2.1))
 | none=>tB (Nat.beq v.aa 5) (some (.e .i64 (.ofNat 0)))
def zR (v:O):Option O:=tB (Nat.beq v.aa 4||Nat.beq v.aa 9) (some v)
def Vk(C:fA)(u:Nat)(ok:Bool)(v:O):Option O:=
 ob (C.b.c u) λa=>tB (Nat.blt a.a.l 9) (
  match v.au with
  | some p=>bif Nat.beq p.1 u then some (bif ok then .p [p.2,.d true]else p.2)else tB ok (some (.p [Bi a,.d false]))
  | none=>tB (Nat.beq v.aa 12&&ok) (some (.p [Bi a,.d false])))
def Bp(C:fA)(t:Nat)(H:sA)(m k:O)(ok:Bool):Option O:=
 ob (C.b.c t) λe=>ob e.a.p λc=>ob (C.b.c c.1) λb=>tB (oY C b) (ob (C.b.c c.2) λa=>
  ob (dZ H m) λd=>tB (nV C b k) (ob (aM k d) λr=>
   match r with
   | some v=>some (bif ok then .p [v,.d true]else v)
   | none=>some (bif ok then .p [Bi a,.d false]else Bi a)))
def zL(C:fA)(t:Nat)(H:sA):Option (O × sA):=ob (C.b.c t) λa=>some (.j H.a 0,tG H a.c none)
def nL (v:O)(H:sA):Option (O × sA):=some (.j H.a 0,tG H v.s none)
def Jm(C:fA)(t:Nat)(H:sA):Option (O × sA):=ob (C.b.c t) λa=>some (.j H.a 0,tG H a.c (lL C t))
def Mn(C:fA)(t:Nat)(v:O)(H:sA):Option (O × sA):=some (.j H.a 0,tG H v.s (lL C t))
def sD(C:fA)(t a:Nat)(ps:List (Nat × O))(H:sA):Option (O × sA):=
 ob (C.b.c t) λd=>ob d.a.a λc=>ob (C.b.c c) λb=>
  tB (Nat.blt (a*b.b) 1000000&&Nat.beq (wB b.c) b.b) (ob (mN (λi=>some (i*b.b,b.b)) ps (mJ b.c a)) λl=>some (.m H.a 0 a a,tG H l none))
def nC(C:fA)(t:Nat)(a v:O)(H:sA):Option (O × sA):=ob (C.b.c t) λc=>ob a.ah λp=>tB (Nat.beq (wB v.s) c.b) (ob (kK C H p.1 p.2 v.s) λb=>some (aD,b))
def Vj(H:sA):Option (O × sA):=some (.bc H.a,B0 H (.aj []))
def rW(C:fA)(t:Nat)(m k v:O)(H:sA):Option (O × sA):=
 ob (C.b.c t) λe=>ob e.a.p λc=>ob (C.b.c c.1) λa=>tB (oY C a)
  (ob m.az λb=>tB (!Nat.blt b C.a) (ob (zN H b) λl=>tB (nV C a k) (ob (uQ k v l) λd=>some (aD,A7 H b (.aj d)))))
def eR(C:fA)(t:Nat)(l c:O)(H:sA):Option (O × sA):=
 ob (C.b.c t) λd=>ob d.a.a λb=>ob (C.b.c b) λa=>ob l.aj λl=>ob c.aj λc=>
  tB (Nat.ble l c&&Nat.blt c 1000000&&Nat.blt (c*a.d) 1000000000&&Nat.beq (wB a.c) a.b) (some (.m H.a 0 l c,tG H (mJ a.c c) none))
def AM(C:fA)(s d:Nat)(v:O)(H:sA):Option (O × sA):=
 ob (C.b.c s) λ_=>ob (C.b.c d) λc=>ob c.a.a λa=>ob (C.b.c a) λb=>ob b.a.o λk=>tB (oP k .u8) (ob v.w λl=>
  some (.m H.a 0 (wB l) (wB l),tG H (Cq l) (some (.a a))))
def mG(C:fA)(t u:Nat)(a b:O)(H:sA):Option (O × sA):=ob (C.b.c t) λd=>ob (C.b.c u) λc=>tB (!Nat.beq c.a.l 1) (Ba C H d a b)
def vNext(v:O)(H:sA):Option (O × sA):=ob v.ah λp=>tB (Nat.beq p.2 0) (ob (ob (H.t.c p.1) vA.f) λx=>
 match lD x.1 x.2 with
 | some c=>tB (Nat.blt c 128) (some (.p [.d true,.e .i64 (.ofNat x.2),.e .i32 (.ofNat c)],A7 H p.1 (.ak x.1 (x.2+1))))
 | none=>some (.p [.d false],H))
structure zH where
 b:Nat->Bool
 i:Nat->Int
 s:Nat->List Nat
 v:Nat->O
inductive T where
 | l (v:O)
 | g
 | a (b:Bool) (x y:T)
 | d (x:Option O) (K:O->T)
 | e (x:G vA->Option O) (K:O->T)
 | h (x:sA->Option (O × sA)) (K:O->T)
 | c (f:Nat) (args:List O) (K:O->T)
 | n (f:O) (args:List O) (K:O->T)
 | r (k:IntKind) (v:O) (K:Int->T)
 | q (v:O) (K:Bool->T)
 | s (v:O) (K:List Nat->T)
 | o (zs:List O) (v:O) (K:zH->T)
 | j (i:Nat) (vals:List O)
 | p (np:Nat->Bool) (f:O) (i m:Nat) (vals:List O) (K R:T)
def yo:Nat:=1099511627776
def pn:Nat:=1099511627775
def wh(z:O)(X:zH)(j:Nat):O:=
 match z with
 | .d _=>.d (X.b j)
 | .e k _=>.e k (X.i j)
 | .h _=>.h (X.s j)
 | _=>X.v j
def fW(zs:List O)(X:zH):Nat->List O:=
 List.rec (motive:=λ_=>Nat->List O) (λ_=>[]) (λz _ g j=>wh z X j::g (j+1)) zs
def Fm(l:List O)(j:Nat):Bool:=match l[j]? with | some (.d b)=>b | _=>false
def Tc(l:List O)(j:Nat):Int:=match l[j]? with | some (.e _ n)=>n | _=>0
def sw(l:List O)(j:Nat):List Nat:=match l[j]? with | some (.h s)=>s | _=>[]
def Gj(l:List O)(j:Nat):O:=match l[j]? with | some v=>v | _=>.y
def AN(l:List O):zH:=⟨Fm l,Tc l,sw l,Gj l⟩
def Ap (z a:O):Bool:=
 match z with
 | .d _=>Nat.beq a.aa 0
 | .e k _=>match a.ac with | some p=>oP p.1 k | none=>false
 | .h _=>Nat.beq a.aa 2
 | .y=>Nat.beq a.aa 3||Nat.beq a.aa 4
 | .g=>Nat.beq a.aa 5||Nat.beq a.aa 6
 | .ax=>Nat.beq a.aa 7||Nat.beq a.aa 8
 | .ap=>Nat.beq a.aa 10||Nat.beq a.aa 9
 | .x=>Nat.beq a.aa 12||Nat.beq a.aa 11
 | _=>false
def bT:List O->List O->Bool
 | [],[]=>true
 | z::b,a::l=>Ap z a&&bT b l
 | _,_=>false
structure vI where
 a:Tm
 d:List (Nat × Nat × Nat)
 b:G (List O)
 c:List Nat
abbrev KT:=vI->T
structure L5 where
 b:KT
 a:Nat->KT
 c:KT
def lC {a:Type}(x:Option a)(K:a->T):T:=Option.rec (motive:=λ_=>T) .g K x
def nM (b:Bool)(K:T):T:=Bool.rec (motive:=λ_=>T) .g K b
def jN(i:Nat)(l:List (Nat × Nat × Nat)):Option (Nat × Nat):=
 List.rec (motive:=λ_=>Option (Nat × Nat)) none (λa _ g=>Bool.rec (motive:=λ_=>Option (Nat × Nat)) g (some a.2) (Nat.beq i a.1)) l
inductive cQ where
 | b (ad:List (Nat × Nat × Nat))
 | a (ad old:List (Nat × Nat × Nat)) (olds names:List Nat)
def tAd (e:cQ)(t:Nat):Option (Nat × Nat):=
 match e with
 | .b c=>jN t c
 | .a c d b a=>bif yJ t a then jN t (bif yJ t b then d else c)else none
def T9 (e:cQ)(x:Operand):Option (Nat × Nat):=
 match x with
 | .tmp t=>tAd e t
 | _=>none
def wN:sA:=⟨0,.aj⟩
def vJ (C:fA)(t:Nat):Nat:=
 match C.b.c t with
 | some a=>a.a.l
 | none=>10
def EL(x:Operand):Bool:=
 match x with
 | .const _=>true
 | _=>false
def zi5(x:Operand):Bool:=
 match x with
 | .const (.int _ n) => !kB n 0
 | _=>false
def ja(C:fA)(op:BinOp)(t:Nat)(y:Operand):Bool:=
 match op with
 | .add=>Nat.beq (vJ C t) 1
 | .sub=>true
 | .mul=>true
 | .quo=>zi5 y
 | .rem=>zi5 y
 | .shl=>EL y
 | .shr=>EL y
 | .eql=>Nat.ble (vJ C t) 2
 | .neq=>Nat.ble (vJ C t) 2
 | .lss=>Nat.ble (vJ C t) 2
 | .leq=>Nat.ble (vJ C t) 2
 | .gtr=>Nat.ble (vJ C t) 2
 | .geq=>Nat.ble (vJ C t) 2
 | _=>false
structure uP where
 K:O->T
 a:O->T
 b:Nat->Nat->T
def fU (C:fA)(op:Op)(e:mD)(k:uP):T:=lC ((kG op).f C e wN) k.a
def ta(C:fA)(op:Op)(x:Operand)(e:mD)(a:cQ)(k:uP):T:=
 match T9 a x with
 | some p=>k.b p.1 p.2
 | none=>fU C op e k
def V8(C:fA)(t:Nat)(a:Operand)(e:mD)(b:cQ)(lo:G (List O))(k:uP):T:=
 match T9 b a with
 | some p=>lC (lo.c p.1) λl=>lC (C.b.c t) λc=>nM (Nat.ble (p.2+c.b) (wB l)) (lC (wT C t l p.2) k.a)
 | none=>lC (ev a e) λv=>.e (λm=>oA C t ⟨0,m⟩ v) k.K
def IK(C:fA)(s:Nat)(x:Operand)(f:Nat)(e:mD)(a:cQ)(k:uP):T:=
 match T9 a x with
 | some p=>lC (Qm C s f) λo=>k.b p.1 (p.2+o)
 | none=>lC (ev x e) λv=>.d (iB C s f v) k.K
def II(C:fA)(t:Nat)(x i:Operand)(e:mD)(a:cQ)(k:uP):T:=
 match T9 a x with
 | some p=>lC (ev i e) λi=>lC i.aj λi=>lC (HN C t i) λo=>k.b p.1 (p.2+o)
 | none=>lC (ev x e) λv=>lC (ev i e) λi=>.d (zC C t v i) k.K
def nv (x:Operand)(e:mD)(a:cQ)(k:uP):T:=
 match T9 a x with
 | some p=>k.b p.1 p.2
 | none=>lC (ev x e) λv=>.d (zR v) k.K
def nw (C:fA)(c:Call)(e:mD)(k:uP):T:=
 lC (lD c.argTypes.toList 0) λt=>lC (lD c.args.toList 0) λx=>lC (ev x e) λv=>
  bif Nat.beq (vJ C t) 4 then .d (vC v) k.K else bif Nat.beq (vJ C t) 6 then .e (λm=>jX C t ⟨0,m⟩ v) k.K else lC (jX C t wN v) k.a
def ny (C:fA)(op:BinOp)(t:Nat)(x y:Operand)(u:Nat)(e:mD)(k:uP):T:=
 bif ja C op t y then fU C (.binOp op t x y u) e k else lC (ev x e) λa=>lC (ev y e) λb=>.d ((rU op).f C t x y a b) k.K
def wi(C:fA)(s d:Nat)(x:Operand)(e:mD)(k:uP):T:=
 bif Nat.beq (vJ C d) 2 then(bif Nat.beq (vJ C s) 2 then fU C (.convert s d x) e k else lC (ev x e) λv=>.e (λm=>dR C s d ⟨0,m⟩ v) k.K)else bif Nat.beq (vJ C d) 1 then fU C (.convert s d x) e k else .g
def zo4(C:fA)(t:Nat)(x:Operand)(lo hi:Option Operand)(e:mD)(k:uP):T:=
 lC (ev x e) λa=>lC (I0 lo e) λl=>lC (I0 hi e) λh=>
  bif Nat.beq (vJ C t) 2 then .d (cF C t wN a l h) k.K else .e (λm=>cF C t ⟨0,m⟩ a l h) k.K
def Qv(C:fA)(c:Call)(e:mD)(k:uP):Builtin->T
 | .len=>nw C c e k
 | .max=>fU C (.call c) e k
 | .min=>fU C (.call c) e k
 | _=>.g
def Oy(ty:jD)(v:O):List O:=bif ty.a.h then v.s else [v]
def wj(a:List O)(off b:Nat)(c:List O):Option (List O):=
 tB (Nat.beq (wB c) b&&Nat.ble (off+wB c) (wB a)) (some (tE (Ef a off) (tE c (lT a (off+wB c)))))
def wk(C:fA)(a:Nat->Option Nat):List (Nat × O)->Option (List (Nat × O × List O) × List O):=
 List.rec (motive:=λ_=>Option (List (Nat × O × List O) × List O)) (some ([],[]))
  (λp _ g=>ob (a p.1) λt=>ob (C.b.c t) λb=>ob g λr=>some (bif b.a.h then((p.1,p.2,p.2.s)::r.1,r.2)else((p.1,p.2,[p.2])::r.1,p.2::r.2)))
def tc(b:Nat->Option (Nat × Nat)):List (Nat × O × List O)->List O->Option (List O):=
 List.rec (motive:=λ_=>List O->Option (List O)) (λa=>some a) (λp _ g a=>ob (b p.1) λq=>ob (wj a q.1 q.2 p.2.2) λa=>g a)
def pj(ty:jD)(i:Nat):Option Nat:=
 match ty.a.b with
 | some b=>ob (lD b i) λx=>some x.2.1
 | none=>ob ty.a.g λa=>some a.2
def Nm(C:fA)(ty:jD)(i:Nat):Option (Nat × Nat):=
 match ty.a.b with
 | some c=>ob (lD c i) λx=>some (x.1,x.2.2)
 | none=>ob ty.a.g λa=>ob (C.b.c a.2) λb=>some (i*b.b,b.b)
def nz(C:fA)(ty:jD):Bool:=
 match ty.a.b with
 | some _=>true
 | none=>match ty.a.g with
  | some a=>(match C.b.c a.2 with | some _=>true | none=>false)
  | none=>false
def zo6(C:fA)(t:Nat)(ps:Array (Nat × Operand))(e:mD)(k:uP):T:=
 lC (C.b.c t) λa=>nM (nz C a) <| lC (I1 ps.toList e) λb=>lC (wk C (pj a) b) λq=>lC (tc (Nm C a) q.1 a.c) λl=>.a (oD O.z q.2) (k.a (.i l)) .g
def tL (C:fA)(op:Op)(e:mD)(g:cQ)(lo:G (List O))(k:uP):T:=
 match op with
 | .move x=>ta C (.move x) x e g k
 | .assign x=>ta C (.assign x) x e g k
 | .load t a=>V8 C t a e g lo k
 | .fieldAddr s x f=>IK C s x f e g k
 | .indexAddr t x i=>II C t x i e g k
 | .nilCheck x=>nv x e g k
 | .binOp op t x y u=>ny C op t x y u e k
 | .convert s d x=>wi C s d x e k
 | .slice t x lo p none=>zo4 C t x lo p e k
 | .index t x i=>bif EL i&&Nat.beq (vJ C t) 5 then fU C (.index t x i) e k else lC (ev x e) λv=>lC (ev i e) λi=>.d (wJ C t v i) k.K
 | .extract t i=>lC (ev t e) λv=>.d (vK i v) k.K
 | .typeAssert x _ u l=>lC (ev x e) λv=>.d (Vk C u l v) k.K
 | .lookup t x i l=>lC (ev x e) λm=>lC (ev i e) λj=>.e (λh=>Bp C t ⟨0,h⟩ m j l) k.K
 | .call c=>match c.callee with
  | .builtin b=>Qv C c e k b
  | _=>.g
 | .pick c a b=>fU C (.pick c a b) e k
 | .unOp o t x=>(match o with
  | .xor=>lC (ev x e) λv=>.d (Jn v) k.K
  | o=>fU C (.unOp o t x) e k)
 | .makeInterface t x=>fU C (.makeInterface t x) e k
 | .makeFunc n a b=>fU C (.makeFunc n a b) e k
 | .field t x f=>fU C (.field t x f) e k
 | .build t q=>zo6 C t q e k
 | _=>.g
def M8 (a:List Nat)(dst:Option Nat):Option Nat:=
 match dst with
 | some d=>bif yJ d a then some d else none
 | none=>none
structure td where
 a:Nat->List O->T
 b:Nat->List O->T
def zo5(f:Operand)(args:Array Operand)(e:mD)(k:uP):T:=
 match f with
 | .func g=>nM (Nat.blt g pn) (lC (lQ args.toList e) λa=>.c g a k.K)
 | f=>lC (ev f e) λb=>lC (lQ args.toList e) λa=>.n b a k.K
def oa (c:Call)(e:mD)(K:O->O->T):T:=lC (K7 c e) λp=>K p.1 p.2
def IJ(C:fA)(c:Call)(e:mD)(k:uP):Builtin->T
 | .append=>lC (lD c.argTypes.toList 0) λt=>lC (lD c.argTypes.toList 1) λu=>oa c e λa b=>.h (mG C t u a b) k.K
 | b=>Qv C c e k b
def zo3(C:fA)(t:Nat)(a x:Operand)(e:mD)(c:cQ)(lo:G (List O))(k:uP)(d:td):T:=
 match T9 c a with
 | some p=>lC (ev x e) λv=>lC (C.b.c t) λb=>lC (lo.c p.1) λl=>lC (wj l p.2 b.b (Oy b v)) λf=>.a (oD O.z (Oy b v)) (d.b p.1 f) .g
 | none=>lC (ev a e) λa=>lC (ev x e) λv=>.h (nC C t a v) k.a
def tH (C:fA)(q:List Nat)(dst:Option Nat)(op:Op)(e:mD)(o:cQ)(lo:G (List O))(k:uP)(h:td):T:=
 match op with
 | .box t x=>bif iE (lL C t)then lC (ev x e) λv=>(match M8 q dst with
  | some d=>lC (C.b.c t) λn=>bif n.a.h then h.a d v.s else .a (O.z v) (h.a d [v]) .g
  | none=>.h (nL v) k.K)else lC (ev x e) λv=>.h (Mn C t v) k.K
 | .alloc t=>bif iE (lL C t)then(match M8 q dst with
  | some d=>lC (C.b.c t) λn=>h.a d n.c
  | none=>.h (zL C t) k.K)else .h (Jm C t) k.K
 | .store t a x=>zo3 C t a x e o lo k h
 | .buildSlice t i j=>lC (I1 j.toList e) λj=>.h (sD C t i j) k.K
 | .makeMap _ none=>.h Vj k.K
 | .insert t m g x=>lC (ev m e) λm=>lC (ev g e) λg=>lC (ev x e) λv=>.h (rW C t m g v) k.a
 | .mapUpdate t m g x=>lC (ev m e) λm=>lC (ev g e) λg=>lC (ev x e) λv=>.h (rW C t m g v) k.a
 | .makeSlice t l c=>lC (ev l e) λl=>lC (ev c e) λc=>.h (eR C t l c) k.K
 | .convert s d x=>bif Nat.beq (vJ C d) 4 then lC (ev x e) λv=>.h (AM C s d v) k.K else wi C s d x e k
 | .call c=>match c.callee with
  | .value f=>zo5 f c.args e k
  | .builtin b=>IJ C c e k b
  | _=>.g
 | .panic x=>lC (ev x e) λv=>lC v.au λp=>.c pn [.aw p.1 p.2] k.K
 | op=>tL C op e o lo k
def V9(i:Nat)(l:List Nat):List Nat:=List.rec (motive:=λ_=>List Nat) [] (λj _ g=>bif Nat.beq i j then g else j::g) l
def gU (n:Nat)(dst:Option Nat)(v:O)(c:Bool)(a:vI)(b:KT):T:=
 match dst with
 | none=>b a
 | some d=>bif Nat.blt d n then nM (iE (jN d a.d)) (b ⟨a.a.c d v,a.d,a.b,bif c then d::V9 d a.c else V9 d a.c⟩)else b a
def wl(n:Nat)(dst:Option Nat)(d off:Nat)(a:vI)(b:KT):T:=
 lC dst λi=>nM (Nat.blt i n) (nM (iE (a.a.a i)) (b ⟨a.a,(i,d,off)::a.d,a.b,a.c⟩))
def zp1(d:Nat)(b:List (Nat × Nat × Nat)):Bool:=oD (λa=>bif Nat.beq a.2.1 d then Nat.beq a.1 d else true) b
def fm (n:Nat)(d:Nat)(l:List O)(a:vI)(b:KT):T:=
 nM (Nat.blt d n) (nM (iE (a.a.a d)) (nM (zp1 d a.d) (b ⟨a.a,(d,d,0)::a.d,a.b.d d l,a.c⟩)))
def I6 (C:fA)(t:Nat)(v:O):Bool:=
 match C.b.c t with
 | some a=>(match a.a with
  | .r=>Nat.beq v.aa 0
  | .m k=>(match v.ac with | some p=>oP p.1 k | none=>false)
  | .j=>Nat.beq v.aa 2
  | _=>true)
 | none=>true
def Qu(C:fA)(t:Nat)(v:O)(K:O->T):T:=
 match C.b.c t with
 | some a=>(match a.a with
  | .r=>.q v λb=>K (.d b)
  | .m k=>.r k v λn=>K (.e k n)
  | .j=>.s v λs=>K (.h s)
  | .f _=>bif Nat.ble (wB a.c) 40 then .o a.c v λX=>K (.i (fW a.c X 0))else K v
  | .q _ _=>bif Nat.ble (wB a.c) 40 then .o a.c v λX=>K (.i (fW a.c X 0))else K v
  | _=>K v)
 | none=>K v
def Hl (x:Operand)(a:List Nat):Bool:=
 match x with
 | .tmp t=>a.contains t
 | .const _=>true
 | _=>false
def te(op:Op)(e:mD)(d:List Nat):Bool:=
 match op with
 | .move x=>Hl x d
 | .assign x=>Hl x d
 | .unOp _ _ x=>Hl x d
 | .pick c a b=>bif Hl c d then(match ob (ev c e) O.r with
  | some w=>bif w then Hl a d else Hl b d
  | none=>false)else false
 | _=>false
def Xu(all:List Oper)(dst:Option Nat)(l:List Oper):Bool:=
 match dst with
 | none=>false
 | some d => !oD (λo=>match o.guard with
  | some g=>(match ob (lD all g.1) λp=>p.dst with | some i => !Nat.beq i d | none=>true)
  | none=>true) l
def Mt(g a:Bool)(v:O)(K:O->Bool->T):T:=
 bif g then(bif a then K v true else lC v.r λb=>.a b (K (.d true) true) (K (.d false) true))else K v a
def U0 (C:fA)(all:Array Oper)(n:Nat)(o:Oper)(e:mD)(a:vI)(f:KT):uP:=
 ⟨λv=>Qu C o.type v λv=>Mt (Xu all.toList o.dst all.toList) (te o.op e a.c) v λv b=>gU n o.dst v b a f,
  λv=>nM (I6 C o.type v) (Mt (Xu all.toList o.dst all.toList) (te o.op e a.c) v λv b=>gU n o.dst v b a f),
  λd c=>nM (!Nat.ble (vJ C o.type) 2) (wl n o.dst d c a f)⟩
def md (C:fA)(n:Nat)(o:Oper)(a:vI)(b:KT):td:=
 ⟨λd l=>nM (!Nat.ble (vJ C o.type) 2) (fm n d l a b),
  λd l=>nM (I6 C o.type aD) (gU n o.dst aD false ⟨a.a,a.d,a.b.d d l,a.c⟩ b)⟩
def mD.d(k:Nat)(l:List (Nat × Nat × Nat)):List (Nat × Nat × Nat):=l.filter λa=>Nat.blt a.1 k
def vI.e(a:vI):vI:=⟨a.a.b,mD.d a.a.k a.d,a.b,a.c⟩
def M9 (C:fA)(b:List Nat)(all:Array Oper)(n:Nat)(c:KT)(l:List Oper):KT:=
 List.rec (motive:=λ_=>KT) c
  (λo _ g a=>lC (dG o.guard all a.a) λw=>Bool.rec (motive:=λ_=>T) (gU n o.dst aD false a g)
   (tH C b o.dst o.op (.b a.a) (.b a.d) a.b (U0 C all n o (.b a.a) a g) (md C n o a g)) w) l
def oT (a old:vI)(olds:List Nat)(op:Op):mD:=.c a.a old.a olds (aI op)
def Ed (a old:vI)(olds:List Nat)(op:Op):cQ:=.a a.d old.d olds (aI op)
def oW(C:fA)(all:Array Oper)(n:Nat)(old:vI)(olds:List (Nat × List Nat))(b:KT)(l:List Nat):KT:=
 List.rec (motive:=λ_=>KT) b
  (λi _ g a=>lC (lD all.toList i) λo=>lC (dG o.guard all a.a) λw=>Bool.rec (motive:=λ_=>T) (gU n o.dst aD false a g)
   (tL C o.op (oT a old (vG i olds) o.op) (Ed a old (vG i olds) o.op) a.b (U0 C all n o (oT a old (vG i olds) o.op) a g)) w) l
def Bq(C:fA)(all:Array Oper)(old:vI)(olds:List (Nat × List Nat))(a:vI)(k:T)(l:List Nat):T:=
 List.rec (motive:=λ_=>T) k
  (λi _ g=>lC (lD all.toList i) λo=>lC o.dst λd=>lC (dG o.guard all a.a) λw=>Bool.rec (motive:=λ_=>T) g
   (lC (a.a.a d) λu=>nM (I6 C o.type u) (tL C o.op (oT a old (vG i olds) o.op) (Ed a old (vG i olds) o.op) a.b ⟨λv=>.a (A8 10 v u) g .g,λv=>.a (A8 10 v u) g .g,λ_ _=>.g⟩)) w) l
def Mm(C:fA)(es:List dP)(H:sA):Option (O × sA):=ob (Es C es H) λa=>some (aD,a)
def fp (op:Op)(e:mD)(b:cQ):Option dP:=
 match op with
 | .store t a x=>(match T9 b a with
  | some _=>none
  | none=>Fa (.store t a x) e)
 | op=>Fa op e
def tg(all:Array Oper)(old:vI)(olds:List (Nat × List Nat))(a:vI)(l:List Nat):Option (List dP):=
 kH (λi=>ob (lD all.toList i) λo=>ob (dG o.guard all a.a) λw=>tB w (fp o.op (oT a old (vG i olds) o.op) (Ed a old (vG i olds) o.op))) l
def Gm(C:fA)(all:Array Oper)(n:Nat)(old:vI)(olds:List (Nat × List Nat))(e:KT)(l:List eH):KT:=
 List.rec (motive:=λ_=>KT) e
  (λs _ g b=>Bool.rec (motive:=λ_=>T) (lC (lD all.toList (lP all s.a)) λo=>lC (rZ C all s.a o b.a) λw=>
   (λa:KT=>Bool.rec (motive:=λ_=>T) (gU n o.dst aD false b a)
    (tH C [] o.dst o.op (oT b old (vG (lP all s.a) olds) o.op) (Ed b old (vG (lP all s.a) olds) o.op) b.b (U0 C all n o (oT b old (vG (lP all s.a) olds) o.op) b a) (md C n o b a)) w)
   (λc=>Bq C all old olds c (oW C all n old olds g s.b c) s.c))
   (nM (Cb C all) (lC (tg all old olds b s.c) λd=>.h (Mm C d) λ_=>oW C all n old olds g s.b b)) (mY all s)) l
def zcv(C:fA)(e:List Nat)(fn n:Nat)(c:KT)(d:Nat)(all:Array Oper)(a:Bool):KT:=
 Bool.rec (motive:=λ_=>KT) (λb=>M9 C e all n c all.toList b.e)
  (λb=>lC (ob (C.e.c fn) λt=>t.c d) λp=>nM (tY all p) (oW C all n b.e p.b (Gm C all n b.e p.b c p.a) p.c b.e)) a
def Mj(b:vI)(c:List (Nat × Nat)):Option (List O):=
 List.rec (motive:=λ_=>Option (List O)) (some []) (λp _ g=>ob (jN p.1 b.d) λa=>tB (Nat.beq a.1 p.1&&Nat.beq a.2 0) (ob (b.b.c p.1) λl=>tB (Nat.beq (wB l) p.2) (ob g λr=>some (tE l r)))) c
def Jj(p:PI)(c:vI):Option (List O):=ob (kH (λi=>c.a.a i) p.d) λa=>ob (Mj c p.c) λb=>some (tE a b)
def mZ (b:List (Nat × Nat)):List O->G (List O):=
 List.rec (motive:=λ_=>List O->G (List O)) (λ_=>.aj) (λp _ g a=>(g (lT a p.2)).d p.1 (Ef a p.2)) b
def wR (pl:List Nat):List O->G O:=
 List.rec (motive:=λ_=>List O->G O) (λ_=>.aj) (λi _ g a=>List.rec (motive:=λ_=>G O) .aj (λv a _=>(g a).d i v) a) pl
def No (a:List (Nat × Nat)):List (Nat × Nat × Nat):=List.rec (motive:=λ_=>List (Nat × Nat × Nat)) [] (λp _ g=>(p.1,p.1,0)::g) a
def cN (k:Nat)(p:PI)(vals:List O):vI:=⟨⟨k,wR p.d vals,[]⟩,No p.c,mZ p.c (lT vals (wB p.d)),[]⟩
def qQ (C:fA)(g:Nat):Bool:=iE (C.c.c g)
def zpr(pl:List Nat)(a:vI):Option (List O):=kH (λi=>a.a.a i) pl
def fq:List Nat->Bool
 | []=>true
 | [_]=>true
 | [p,q] => !Nat.beq p q
 | _=>false
def zfe(k n:Nat)(pl ps:List Nat)(a:List (Nat × Array Oper))(c:cC):Bool:=
 oD (λp=>Nat.blt p k&&Nat.blt p n && !yJ p pl) ps&&fq ps&&Wp a&&(match vM c with | []=>true | _=>false)
def m6:L5:=⟨λ_=>.l (.d true),λ_ _=>.g,λ_=>.l (.d false)⟩
def wm(C:fA)(n:Nat)(e:L5)(i:Nat)(pl:List Nat)(f:Operand)(ps:List Nat)(d:List (Nat × Array Oper))(c:cC)(a:vI):T:=
 nM (zfe a.a.k n pl ps d c) (lC (zpr pl a) λb=>lC (ev f (.b a.a)) λg=>.p (qQ C) g i (wB ps) b (e.b a) (e.c a))
def dN (C:fA)(s:List Nat)(fn n:Nat)(c:cC):L5->KT:=
 cC.rec (motive:=λ_=>L5->KT)
  (λa d=>a.b d)
  (λj k h a=>zcv C s fn n a.b j k h)
  (λ_ _ q r a=>q ⟨r a,a.a,a.c⟩)
  (λc _ _ m o a d=>lC (ob (ev c (.b d.a)) O.r) λb=>bif Hl c d.c then Bool.rec (motive:=λ_=>T) (o a d) (m a d) b else .a b (m a d) (o a d))
  (λj _ g a=>g ⟨a.b,λi d=>Bool.rec (motive:=λ_=>T) (a.a i d) (a.b d) (Nat.beq j i),a.c⟩)
  (λp _ _ _ d=>lC (Jj p d) λe=>.j p.e e)
  (λj a d=>a.a j d)
  (λa d=>a.c d)
  (λp _ _ _ d=>lC (Jj p d) λe=>.j p.e e)
  (λi t f u l c _ a d=>wm C n a i t f u.toList l c d) c
structure ek where
 p:PI
 a:List O->T
def Ce(p:PI):KT:=λb=>lC (Jj p b) λa=>.j p.e a
def Hd(C:fA)(e:List Nat)(fn n k:Nat)(c:cC):L5->List ek:=
 cC.rec (motive:=λ_=>L5->List ek)
  (λ_=>[])
  (λ_ _ _ _=>[])
  (λ_ b m o a=>tE (m ⟨dN C e fn n b a,a.a,a.c⟩) (o a))
  (λ_ _ _ q r a=>tE (q a) (r a))
  (λs _ g a=>g ⟨a.b,λi l=>Bool.rec (motive:=λ_=>T) (a.a i l) (a.b l) (Nat.beq s i),a.c⟩)
  (λp c g a=>⟨p,λd=>dN C e fn n c ⟨Ce p,a.a,a.c⟩ (cN k p d)⟩::g ⟨Ce p,a.a,a.c⟩)
  (λ_ _=>[])
  (λ_=>[])
  (λp c g a=>⟨p,λd=>dN C e fn n c a (cN k p d)⟩::g a)
  (λi h _ j f c g _=>⟨⟨i,tE h j.toList,[]⟩,λd=>dN C e fn n (T7 c f) m6 (cN k ⟨i,tE h j.toList,[]⟩ d)⟩::g m6) c
def I7 (C:fA)(b:vI)(l:List ResultVar):(List O->T)->T:=
 List.rec (motive:=λ_=>(List O->T)->T) (λK=>K [])
  (λr _ g K=>match r with
   | .tmp t=>lC (b.a.a t) λv=>g λl=>K (v::l)
   | .cell a t=>match jN a b.d with
    | some p=>lC (b.b.c p.1) λl=>lC (C.b.c t) λc=>nM (Nat.ble (p.2+c.b) (wB l)) (lC (wT C t l p.2) λv=>g λl=>K (v::l))
    | none=>lC (b.a.a a) λa=>.e (λm=>oA C t ⟨0,m⟩ a) λv=>g λl=>K (v::l)) l
def D7 (C:fA)(fn:Func):KT:=λa=>I7 C a fn.results.toList λl=>.l (Ju l)
def Gp (C:fA)(fn:Func):L5:=⟨D7 C fn,λ_ _=>.g,D7 C fn⟩
structure oE where
 a:cC
 b:List Nat
def I8 (C:fA)(fn:Func)(k:Nat)(f:Nat)(A:oE)(args:List O):T:=dN C A.b f fn.ntmps A.a (Gp C fn) ⟨⟨k,G.ac args,[]⟩,[],.aj,[]⟩
def N0 (C:fA)(fn:Func)(k:Nat)(f:Nat)(A:oE):List ek:=Hd C A.b f fn.ntmps k A.a (Gp C fn)
def Kg(l:List ek)(i:Nat)(vals:List O):List T:=List.rec (motive:=λ_=>List T) [] (λp _ g=>bif Nat.beq p.p.e i then p.a vals::g else g) l
end
section
variable {b d n s ty:Nat}{y:vA}{i x:Operand}{l r:Option O}{c:Call}{a k m u w:O}{ok:Bool}
def pD {b:Type}(x:Option b)(P:b->Prop):Prop:=
 match x with
 | some a=>P a
 | none=>False
theorem Dy{b:Type}{x:Option b}{P:b->Prop}:pD x P ↔ ∃a,x=some a/\P a:=by
 cases x with
 | none=>simp[pD]
 | some a=>simp[pD]
@[simp] theorem xA {b:Type} {a:b} {P:b->Prop}:pD (some a) P=P a:=rfl
@[simp] theorem mq {a:Type} {P:a->Prop}:pD (none:Option a) P=False:=rfl
abbrev lB:=O->G vA->Prop
abbrev yG:=Nat->List O->G vA->lB->Prop
def zra{a:Type}:List a->Bool | []=>true | _::_=>false
def mM(f:O)(args:List O):Option (Nat × List O):=ob f.am λp=>match p.1 with
 | .aa g=>tB (Nat.blt g pn) (some (g,tE (tE p.2.1 args) p.2.2))
 | .ac l=>tB (zra p.2.1&&zra p.2.2) (some (yo+l,args))
def Bs(a:Nat->Bool)(f:O)(l:Nat):Option (Nat × List O):=ob f.am λp=>match p.1 with
 | .aa g=>tB (Nat.blt g pn&&a g) (some (g,tE p.2.1 (.q (.ac l) [] []::p.2.2)))
 | .ac _=>none
def I9 (k:IntKind)(v:O):Option Int:=ob v.ac λp=>tB (oP p.1 k) (some p.2)
def nK (zs:List O)(v:O):Option zH:=ob v.ak λl=>tB (bT zs l) (some (AN l))
def lA (base:Nat)(W:yG)(J:yG):T->G vA->lB->Prop
 | .l v,t,Q=>Q v t
 | .g,_,_=>False
 | .a b x y,t,Q=>if b=true then lA base W J x t Q else lA base W J y t Q
 | .d x K,t,Q=>pD x λv=>lA base W J (K v) t Q
 | .e x K,t,Q=>pD (x t) λv=>lA base W J (K v) t Q
 | .h x K,t,Q=>∀b,t.c b=none->base<=b->pD (x ⟨b,t⟩) λp=>lA base W J (K p.1) p.2.t Q
 | .c f a K,t,Q=>W f a t λv d=>lA base W J (K v) d Q
 | .n f a K,t,Q=>pD (mM f a) λp=>W p.1 p.2 t λv d=>lA base W J (K v) d Q
 | .r k v K,t,Q=>pD (I9 k v) λn=>lA base W J (K n) t Q
 | .q v K,t,Q=>pD v.r λn=>lA base W J (K n) t Q
 | .s v K,t,Q=>pD v.w λn=>lA base W J (K n) t Q
 | .o o v K,t,Q=>pD (nK o v) λX=>lA base W J (K X) t Q
 | .j i c,t,Q=>J i c t Q
 | .p j f i m c K R,t,Q=>256<=base/\∀l r,t.c l=none->base<=l->r.e=.ready->r.a=none →
   (∀a e g,a.length=m->e.c l=some (.ac r)->J i (c++a) (e.q l) (λv h=>h.c l=none->∃b,v=.d b/\g v (h.d l (.ac (pP b r))))->W (yo+l) a e g) →
   pD (Bs j f l) λp=>W p.1 p.2 (t.d l (.ac r)) λ_ d=>(d.c l=some (.ac r)/\lA base W J K (d.q l) Q)\/(d.c l=some (.ac (pP false r))/\lA base W J R (d.q l) Q)
abbrev Xt:=Nat->Option vA
def eJ (X Y:Xt):Prop:=∀b y,X b=some y->Y b=some y
theorem eJ.f(X:Xt):eJ X X:=λ_ _ h=>h
def eJ.g{X Y Z:Xt}(h:eJ X Y)(k:eJ Y Z):eJ X Z:=λb y e=>k b y (h b y e)
structure Ov (base:Nat) (t:G vA) (X:Xt) (H:sA):Prop where
 d:base<=H.a
 f:∀b,X b=none->H.t.c b=t.c b
 a:∀b y,X b=some y->H.t.c b=some y/\t.c b=none/\b<H.a
 j:∀b y,t.c b=some y->b<H.a
def I2 (H H':sA):Prop:=∀b y,H.t.c b=some y->H'.t.c b=some y
def qX(e a:mD):Prop:=∀i v,Bk i e=some v->Bk i a=some v
section
variable {base:Nat}{t:G vA}{X:Xt}{H HA:sA}{e j:mD}{C:fA}{v:O}
def Ov.p(h:Ov base t X HA)  (c:t.c b=some y):X b=none:=by
 cases a:X b with
 | none=>rfl
 | some z=>have:=(h.a b z a).2.1;simp_all
def Ov.q(h:Ov base t X HA)  (a:t.c b=some y):HA.t.c b=some y:=by rw[h.f b (h.p a)];exact a
def Ov.le(h:Ov base t X HA)  : I2 ⟨n,t⟩ HA:=λ_ _ a=>h.q a
def Ov.aa(h:Ov base t X HA):X HA.a=none:=by
 cases a:X HA.a with
 | none=>rfl
 | some z=>exact absurd (h.a _ z a).2.2 (Nat.lt_irrefl _)
def Ov.o(h:Ov base t X HA):t.c HA.a=none:=by
 cases a:t.c HA.a with
 | none=>rfl
 | some z=>exact absurd (h.j _ z a) (Nat.lt_irrefl _)
theorem Cr(h:I2 H HA) {p:G O × Nat × Option Lo}(a:fD H b=some p):fD HA b=some p:=by
 unfold fD at a ⊢;rw[pA]at a ⊢;obtain⟨y,c,d⟩:=a;exact⟨y,h _ _ c,d⟩
theorem Lr(h:I2 H HA) {p:List (O × O)}(a:zN H b=some p):zN HA b=some p:=by
 unfold zN at a ⊢;rw[pA]at a ⊢;obtain⟨y,c,d⟩:=a;exact⟨y,h _ _ c,d⟩
theorem dF(h:qX e j) (a:ev x e=some v):ev x j=some v:=by
 cases x with
 | tmp i=>exact h i v a
 | const c=>exact a
 | global g=>exact a
 | func f=>exact a
theorem FK(h:qX e j){l:List Operand}{a:List O}(b:lQ l e=some a):lQ l j=some a:=Xg l (λ_ _ k=>dF h k) b
def QQ(h:qX e j){x:Option Operand} (a:I0 x e=some r):I0 x j=some r:=by
 cases x with
 | none=>exact a
 | some x=>
  have a:ob (ev x e) (λv=>some (some v))=some r:=a;show ob (ev x j) (λv=>some (some v))=some r
  grind [pA,dF]
theorem FN(h:qX e j){l:List (Nat × Operand)}{c:List (Nat × O)}(d:I1 l e=some c):I1 l j=some c:=
 Xg l (λa b k=>by grind [pA,dF]) d
theorem AT(h:qX e j) {p:O × O}(a:K7 c e=some p):K7 c j=some p:=by
 grind [K7,pA,dF]
def Ql(h:I2 H HA)  (b:oA C ty H a=some v):oA C ty HA a=some v:=by
 grind [oA,pA,Cr]
theorem GF(h:I2 H HA){s d:jD} (b:gV C s d a H=some v):gV C s d a HA=some v:=by
 unfold gV at b ⊢;split at b
 .omega
 .rename_i c;rw[qB]at b ⊢;refine⟨b.1,?_⟩;have b:=b.2;rw[bD]at b ⊢;split at b
  all_goals grind [pA,qB,Lm,Cr]
def UR(h:I2 H HA)  (b:dR C s d H a=some v):dR C s d HA a=some v:=by
 grind [dR,pA,GF]
theorem BV(h:I2 H HA){ty:jD}  (g:sP C H ty a l r=some v):sP C HA ty a l r=some v:=by
 have t:∀ {d e b j i f},aR C H d e b j i f l r=some v->aR C HA d e b j i f l r=some v:=by
  intro d e b j i f g;unfold aR at g ⊢;simp only[pA]at g ⊢;obtain⟨k,q,m,s,g⟩:=g;refine⟨k,q,m,s,?_⟩
  cases n:fD H b with
  | none=>
   have o:tP H b k.b f m.1 d=false:=by unfold tP;rw[n]
   have p:vQ H b k.b f m.1 d=false:=by unfold vQ;rw[n]
   rw[o,p,E5,E5]at g;cases g
  | some c=>
   grind [tP,Cr,vQ]
 grind [sP,pA]
def UN(h:I2 H HA)   (b:cF C ty H a l r=some v):cF C ty HA a l r=some v:=by
 grind [cF,pA,BV]
theorem DM(h:I2 H HA) {l:List (O × O)}(a:dZ H m=some l):dZ HA m=some l:=by
 grind [dZ,Lr]
def UQ(h:I2 H HA)   (a:Bp C ty H m k ok=some v):Bp C ty HA m k ok=some v:=by
 unfold Bp at a ⊢;simp only[pA,qB]at a ⊢
 grind [DM]
theorem DW(h:I2 H HA){ty:jD}  (b:qY H ty a=some n):qY HA ty a=some n:=by
 unfold qY at b ⊢;split at b
 all_goals grind [qB,pA,Lr]
def zcm(h:I2 H HA)  (b:jX C ty H a=some v):jX C ty HA a=some v:=by
 grind [jX,pA,DW]
theorem zg2 {a:Operand}:Ab ty a C e H=ob (ev a e) λv=>oA C ty H v:=rfl
def zg4   (a:ev x e=some u):nS s d x C e H=dR C s d H u:=by simp_all [nS,dR]
def zm2  {lo hi:Option Operand}  (b:ev x e=some a)(c:I0 lo e=some l)(d:I0 hi e=some r):Eh ty x lo hi C e H=cF C ty H a l r:=by unfold Eh cF;rw[b,mA,c,mA,d,mA]
theorem NL{f:Nat}  (c:ev x e=some u):Af s x f C e H=iB C s f u:=by
 unfold Af iB Qm;rw[c]
 cases C.b.c s with
 | none=>rfl
 | some ty=>
  simp only[mA]
  cases ty.a.b with
  | none=>rfl
  | some b=>
   simp only[mA]
   cases lD b f with
   | none=>rfl
   | some a=>simp only[mA];cases d:(!Nat.beq a.2.2 0)<;>rfl
theorem NG   (a:ev x e=some u)(hi:ev i e=some w):Ad ty x i C e H=zC C ty u w:=by unfold Ad zC;rw[a,hi];rfl
theorem zm4   (a:ev x e=some u)(hi:ev i e=some w):Ae ty x i C e H=wJ C ty u w:=by unfold Ae wJ;rw[a,hi];rfl
theorem zp6  (a:ev x e=some u):Ej x C e H=zR u:=by simp_all [Ej,zR]
theorem za5 {i:Nat} (a:ev x e=some u):Ag x i C e H=vK i u:=by simp_all [Ag,vK]
theorem jb{op:BinOp} {y:Operand} (a:ev x e=some u)(b:ev y e=some w):Ah op ty x y C e H=(rU op).f C ty x y u w:=by simp_all [Ah]
theorem zg6 {a:Nat}  (b:ev x e=some u):Ai x a ok C e H=Vk C a ok u:=by
 unfold Ai Vk;rw[b];rfl
def zg1    (a:ev x e=some m)(hi:ev i e=some k):Aa ty x i ok C e H=Bp C ty H m k ok:=by unfold Aa Bp;rw[a,hi];rfl
def jc    (a:lD c.argTypes.toList 0=some ty)(b:lD c.args.toList 0=some x)(d:ev x e=some u):kT c C e H=jX C ty H u:=by grind [kT,jX,mA]
theorem znw(p:qX e j){op:Op}(g:xY op=true\/(∃s d x,op=.convert s d x/\(vJ C d=1\/vJ C s=2))\/(∃c,op=.call c/\(c.callee=.builtin .max\/c.callee=.builtin .min))){H':sA}(h:(kG op).f C e H=some v):(kG op).f C j H'=some v:=by
 rcases g with g | g | g
 .cases op<;>simp only[xY]at g<;>try (cases g;done)
  case move x=>exact dF p h
  case assign x=>exact dF p h
  case pick c a b=>
   have h:ob (ev c e) (λc=>ob c.r λc=>bif c then ev a e else ev b e)=some v:=h;show ob (ev c j) (λc=>ob c.r λc=>bif c then ev a j else ev b j)=some v
   grind [pA,dF]
  case nilCheck x=>
   have h:ob (ev x e) (λu=>tB (Nat.beq u.aa 4||Nat.beq u.aa 9) (some u))=some v:=h;show ob (ev x j) (λu=>tB (Nat.beq u.aa 4||Nat.beq u.aa 9) (some u))=some v
   grind [pA,dF]
  case binOp op t x y u=>
   have h:Ah op t x y C e H=some v:=h;show Ah op t x y C j H'=some v
   grind [Ah,pA,dF]
  case unOp op t x=>
   have h:P2 op x C e H=some v:=h;show P2 op x C j H'=some v
   grind [P2,pA,dF]
  case makeInterface t x=>
   have h:Hq t x C e H=some v:=h;show Hq t x C j H'=some v
   grind [Hq,pA,qB,dF]
  case makeFunc A a b=>
   have h:(Hr A a b).f C e H=some v:=h;show(Hr A a b).f C j H'=some v;unfold Hr at h ⊢;split at h
   .grind [Ny,pA,FK]
   .cases h
  case fieldAddr s x f=>
   have h:Af s x f C e H=some v:=h;show Af s x f C j H'=some v;unfold Af at h ⊢;simp only[pA,qB]at h ⊢;obtain⟨a,r,b,m,c,n,k,u,o,E⟩:=h;exact⟨a,r,b,m,c,n,k,u,dF p o,E⟩
  case field t x f=>
   have h:Ht t x f C e H=some v:=h;show Ht t x f C j H'=some v
   grind [Ht,pA,dF]
  case indexAddr t x i=>
   have h:Ad t x i C e H=some v:=h;show Ad t x i C j H'=some v;unfold Ad at h ⊢;simp only[pA]at h ⊢
   grind [dF]
  case index t x i=>
   have h:Ae t x i C e H=some v:=h;show Ae t x i C j H'=some v;unfold Ae at h ⊢;simp only[pA]at h ⊢
   grind [dF]
  case extract t i=>
   have h:Ag t i C e H=some v:=h;show Ag t i C j H'=some v
   grind [Ag,pA,dF]
  case build t D=>
   have h:Cc t D C e H=some v:=h;show Cc t D C j H'=some v
   grind [Cc,pA,FN]
  case typeAssert x t u ok=>
   have h:Ai x u ok C e H=some v:=h;show Ai x u ok C j H'=some v
   grind [Ai,pA,qB,dF]
 .obtain⟨s,d,x,rfl,g⟩:=g;have h:nS s d x C e H=some v:=h;show nS s d x C j H'=some v;unfold nS at h ⊢;simp only[pA]at h ⊢;obtain⟨u,r,z,m,q,n,k⟩:=h;refine⟨u,dF p r,z,m,q,n,?_⟩;unfold gV at k ⊢;split at k
  .exact k
  .rename_i B;rw[qB]at k ⊢;refine⟨k.1,?_⟩;have k:=k.2;rw[bD]at k ⊢;split at k
   .simp_all
   .rename_i e;exfalso;rcases g with g | g
    .unfold vJ at g;rw[n]at g;have g:q.a.l=1:=g;cases w:q.a<;>rw[w]at g B<;>first
      | (cases g;done)
      | (cases B;done)
    .unfold vJ at g;rw[m]at g;have g:z.a.l=2:=g;simp only[pA]at k;obtain⟨F,o,_⟩:=k;cases w:z.a<;>rw[w]at g o<;>first
      | (cases g;done)
      | (cases o;done)
 .obtain⟨c,rfl,l⟩:=g;rcases l with l | l
  .have h:(bW c c.callee).f C e H=some v:=h;show(bW c c.callee).f C j H'=some v;rw[l]at h ⊢;have h:aZ c C e H=some v:=h;show aZ c C j H'=some v
   grind [aZ,pA,AT]
  .have h:(bW c c.callee).f C e H=some v:=h;show(bW c c.callee).f C j H'=some v;rw[l]at h ⊢;have h:bZ c C e H=some v:=h;show bZ c C j H'=some v
   grind [bZ,pA,AT]
end
end
section
variable {b d n off ty:Nat}{a u:O}{l:List O}{H':sA}{K:O->T}{op:Op}
section
variable {base:Nat}{t:G vA}{X:Xt}{H HA:sA}{e f:mD}{C:fA}{v:O}
def Ov.g(h:Ov base t X HA)(y:vA):Ov base (t.d HA.a y) X (B0 HA y):=by
 refine⟨Nat.le_succ_of_le h.d,λb a=>?_,λb z a=>?_,λb z a=>?_⟩
 .show(HA.t.d HA.a y).c b=_;rw[G.aa,G.aa];split
  .rfl
  .exact h.f b a
 .obtain⟨e,f,c⟩:=h.a b z a;have d:b≠HA.a:=Nat.ne_of_lt c;refine⟨?_,?_,Nat.lt_succ_of_lt c⟩
  .show(HA.t.d HA.a y).c b=_
   grind [G.aa]
  grind [G.aa]
 .rw[G.aa]at a;show b<HA.a+1;split at a
  .omega
  .exact Nat.lt_succ_of_lt (h.j _ _ a)
theorem Ov.i(h:Ov base t X HA){b:Nat}{y:vA}(f:t.c b=some y)(z:vA):Ov base (t.d b z) X (A7 HA b z):=by
 refine⟨h.d,λc a=>?_,λc u a=>?_,λc u a=>?_⟩
 .show(HA.t.d b z).c c=_;rw[G.aa,G.aa];split
  .rfl
  .exact h.f c a
 .obtain⟨i,j,d⟩:=h.a c u a;have g:c≠b:=λe=>by simp_all
  refine⟨?_,?_,d⟩
  .show(HA.t.d b z).c c=_
   grind [G.aa]
  grind [G.aa]
 .rw[G.aa]at a;show c<HA.a;split at a
  .rename_i e;rw[e];exact h.j _ _ f
  .exact h.j _ _ a
def Ov.k(h:Ov base t X HA) {y:vA}(g:t.c b=some y):Ov base (t.q b) X ⟨HA.a,HA.t.q b⟩:=by
 refine⟨h.d,λc a=>?_,λc u a=>?_,λc u a=>?_⟩
 .show(HA.t.q b).c c=_;rw[G.e,G.e];split
  .rfl
  .exact h.f c a
 .obtain⟨d,e,f⟩:=h.a c u a
  grind [G.e]
 .rw[G.e]at a;show c<HA.a;split at a
  .cases a
  .exact h.j _ _ a
def rX (base:Nat)(x:sA->Option (O × sA)):Prop:=∀t X HA v H',Ov base t X HA->x ⟨HA.a,t⟩=some (v,H')->∃a,x HA=some (v,a)/\Ov base H'.t X a
theorem Ea(l:List O)(lo:Option Lo)(h:Ov base t X HA):Ov base (tG ⟨HA.a,t⟩ l lo).t X (tG HA l lo):=h.g _
def zcp  : rX base (zL C ty):=by
 intro t X HA v H' c h;unfold zL at h ⊢;rw[pA]at h;obtain⟨y,b,a⟩:=h;cases a;simp_all [Ea]
def zr6  : rX base (nL u):=by
 intro t X HA v H' a h;cases h;exact⟨_,rfl,Ea _ _ a⟩
def UU  : rX base (Jm C ty):=by
 intro t X HA v H' c h;unfold Jm at h ⊢;rw[pA]at h;obtain⟨y,a,b⟩:=h
 grind [mA,Ea]
def zki   : rX base (Mn C ty u):=by
 intro t X HA v H' a h;grind [Mn,Ea]
def US {ps:List (Nat × O)}:rX base (sD C ty n ps):=by
 intro t X HA v H' k h;unfold sD at h ⊢;simp only[pA,qB]at h;obtain⟨a,d,b,e,c,f,g,l,i,j⟩:=h
 grind [Ea,pA,qB]
theorem BN(f:Ov base t X HA)   (h:kK C ⟨HA.a,t⟩ b off l=some H'):∃d,kK C HA b off l=some d/\Ov base H'.t X d:=by
 unfold kK at h ⊢;simp only[pA,qB]at h;obtain⟨g,c,e,i,j⟩:=h;cases j;have a:=e;unfold fD at a;rw[pA]at a;obtain⟨y,k,_⟩:=a;refine⟨_,?_,f.i k _⟩;simp only[pA,qB];exact⟨g,c,Cr f.le e,i,rfl⟩
def zcl   : rX base (nC C ty a u):=by
 intro t X HA v H' i h;unfold nC at h ⊢;simp only[pA,qB]at h;obtain⟨y,c,p,d,e,b,f,g⟩:=h
 grind [BN,pA,qB]
def UP:rX base Vj:=by
 intro t X HA v H' a h;cases h;exact⟨_,rfl,a.g _⟩
def HL {m k:O}:rX base (rW C ty m k u):=by
 intro t X HA v H' j h;unfold rW at h ⊢;simp only[pA,qB]at h;obtain⟨a,n,b,o,c,p,q,d,r,s,l,i,w,z,x,f⟩:=h;cases f;have e:=i;unfold zN at e;rw[pA]at e;obtain⟨y,g,_⟩:=e;refine⟨_,?_,j.i g _⟩;simp only[pA,qB];exact⟨a,n,b,o,c,p,q,d,r,s,l,Lr j.le i,w,z,x,rfl⟩
def zjv(c:Ov base t X HA){e:RE} (h:Fs C ⟨HA.a,t⟩ e=some H'):∃a,Fs C HA e=some a/\Ov base H'.t X a/\a.a=HA.a/\H'.a=HA.a:=by
 obtain⟨x,y,b,d,rfl⟩:=Uk.1 h;exact⟨A7 HA e.a y,Uk.2 ⟨x,y,c.q b,d,rfl⟩,c.i b _,rfl,rfl⟩
theorem TC:∀ {l:List RE} {t:G vA} {HA:sA} {H':sA},Ov base t X HA->Lv C l ⟨HA.a,t⟩=some H'->∃a,Lv C l HA=some a/\Ov base H'.t X a
 | [],t,HA,H',c,h=>by cases h;exact⟨HA,rfl,c⟩
 | e::l,t,HA,H',c,h=>by
  unfold Lv at h ⊢;rw[pA]at h;obtain⟨d,k,h⟩:=h;obtain⟨f,g,i,j,b⟩:=zjv c k;rw[g,mA];obtain⟨m,n⟩:=d;have b:m=HA.a:=b;subst b;rw[<- j]at h;exact TC i h
theorem zfa(a:Ov base t X HA){e:RE}(h:Nd C ⟨HA.a,t⟩ e=true):Nd C HA e=true:=by
 cases e with
 | st b off l=>
  change (!iE (kK C ⟨HA.a,t⟩ b off l))=true at h;show(!iE (kK C HA b off l))=true
  cases c:kK C ⟨HA.a,t⟩ b off l with
  | none=>rw[c]at h;cases h
  | some H'=>obtain⟨d,g,_⟩:=BN a c;rw[g];rfl
 | up b k v=>
  unfold Nd at h ⊢;rw[B2]at h ⊢;refine⟨h.1,?_⟩;have f:=h.2;split at f
  .rename_i i;rw[Lr a.le i]
  grind
def zco{es:List dP}:rX base (Mm C es):=by
 intro t X HA v H' a h;grind [Mm,Es,pA,qB,TC,gI,zfa]
def UO {l c:O}:rX base (eR C ty l c):=by
 intro t X HA v H' p h;unfold eR at h ⊢;simp only[pA,qB]at h;obtain⟨a,e,b,f,d,g,n,i,m,j,k,o⟩:=h
 grind [Ea,pA,qB]
def UM{s:Nat}  : rX base (AM C s d u):=by
 intro t X HA v H' f h;unfold AM at h ⊢;simp only[pA,qB]at h;obtain⟨a,i,b,j,c,m,g,n,k,o,p,l,q,e⟩:=h;cases e;refine⟨tG HA (Cq l) (some (.a c)),?_,Ea _ _ f⟩
 grind [pA,qB]
def YE(h:I2 H HA){sz:Nat}  (a:dY H sz n u=some l):dY HA sz n u=some l:=by
 grind [dY,pA,Cr]
theorem zcb(k:Ov base t X HA){ty:jD}{b:O} (h:Ba C ⟨HA.a,t⟩ ty a b=some (v,H')):∃e,Ba C HA ty a b=some (v,e)/\Ov base H'.t X e:=by
 unfold Ba at h;simp only[pA]at h;obtain⟨l,E,g,F,n,H,f,w,d⟩:=h;have x:=YE k.le w
 suffices o:∃e,(match a.u with
  | some s=>bif Nat.ble (s.2.2.1+n) s.2.2.2 then Cj C HA g n f s else Ao C HA l g n f s
  | none=>tB (Nat.beq a.aa 5) (zX HA l g n f))=some (v,e)/\Ov base H'.t X e by
  grind [Ba,pA]
 cases o:a.u with
 | some s=>
  rw[o]at d;simp only[]at d ⊢;rw[bD]at d;split at d
  .rename_i j;simp only[j,cond_true];unfold Cj at d ⊢
   grind [pA,BN]
  .rename_i j;simp only[Bool.not_eq_true]at j;simp only[j,cond_false];unfold Ao at d ⊢;rw[qB]at d;obtain⟨D,d⟩:=d;rw[qB]at d;obtain⟨B,d⟩:=d;rw[pA]at d;obtain⟨c,i,d⟩:=d;have q:=Cr k.le i;unfold fD at i;rw[pA]at i;obtain⟨y,r,_⟩:=i;split at d
   .rename_i z;unfold Of at d;rw[pA]at d;obtain⟨A,u,m⟩:=d
    grind [Ea,qB,pA,Of]
   .rename_i p z;unfold Ld at d;rw[qB]at d;obtain⟨u,m⟩:=d;cases m;refine⟨⟨HA.a+1,(HA.t.q s.1).d HA.a (.aa (c.1.am f (s.2.2.1*g.b)) ((s.2.2.1+n)*g.b) (some p))⟩,?_,(k.k r).g _⟩
    grind [qB,pA,Ld]
 | none=>
  grind [qB,zX,Ea]
def UT{u:Nat}{b:O}:rX base (mG C ty u a b):=by
 intro t X HA v H' c h;grind [mG,pA,qB,zcb]
end
def Pt(ν:Nat->Nat)(a:cQ)(e:mD):Prop:=∀i p,tAd a i=some p->Bk i e=some (.j (ν p.1) p.2)
def Uv(base:Nat)(b X:Xt)(ν:Nat->Nat)(lo:G (List O)):Prop:=∀d l,lo.c d=some l->b (ν d)=none/\base<=ν d/\∃c,X (ν d)=some (.aa c l.length none)/\∀j a,l[j]?=some a->c.c j=some a
theorem uF{base:Nat}{W J:yG}{b:Type}{x:Option b}{K:b->T}{t:G vA}{Q:lB}:lA base W J (lC x K) t Q ↔ ∃a,x=some a/\lA base W J (K a) t Q:=by
 cases x with
 | none=>exact⟨λh=>(by cases h),fun⟨_,h,_⟩=>(by cases h)⟩
 | some a=>exact⟨λh=>⟨a,rfl,h⟩,fun⟨_,h,k⟩=>(by cases h;exact k)⟩
def bQ{base:Nat}{W J:yG}{b:Bool}{K:T}{t:G vA}{Q:lB}:lA base W J (nM b K) t Q ↔ b=true/\lA base W J K t Q:=by
 cases b with
 | false=>exact⟨λh=>(by cases h),fun⟨h,_⟩=>(by cases h)⟩
 | true=>exact⟨λh=>⟨rfl,h⟩,fun⟨_,h⟩=>h⟩
theorem Bl{base:Nat}{W J:yG}{x:Option O} {t:G vA}{Q:lB}:lA base W J (.d x K) t Q ↔ ∃a,x=some a/\lA base W J (K a) t Q:=Dy
def Me{base:Nat}{W J:yG}{x:G vA->Option O} {t:G vA}{Q:lB}:lA base W J (.e x K) t Q ↔ ∃a,x t=some a/\lA base W J (K a) t Q:=Dy
theorem Iz{ν:Nat->Nat}{b:cQ}{e:mD}(h:Pt ν b e){x:Operand}{p:Nat × Nat}(a:T9 b x=some p):ev x e=some (.j (ν p.1) p.2):=by
 cases x with
 | tmp i=>exact h i p a
 | const _=>cases a
 | global _=>cases a
 | func _=>cases a
theorem zgc{c:G O} (h:∀j a,l[j]?=some a->c.c j=some a):∀(n off:Nat),off+n<=l.length->c.u n off=some ((l.drop off).take n):=by
 intro n;induction n with
 | zero=>intro off _;simp;rfl
 | succ n d=>
  intro off e;have b:off<l.length:=by omega
  rw[G.aw,h off l[off] (C6 b),mA,d (off+1) (by omega),mA];rw[G0 b,List.take_succ_cons]
section
variable {W J:yG}{t:G vA}{X z:Xt}{HA:sA}{e j:mD}{C:fA}{ν:Nat->Nat}{A:cQ}{lo:G (List O)}{k:uP}{Q:lB}{R:O->Prop}
theorem ML(g:Ov C.a t X HA)(f:Uv C.a z X ν lo)  {y:jD}{v:O}(a:lo.c d=some l)(b:C.b.c ty=some y)(h:Nat.ble (off+y.b) (wB l)=true)(i:wT C ty l off=some v) :
  oA C ty HA (.j (ν d) off)=some v:=by
 obtain⟨_,_,c,e,k⟩:=f d l a;have j:=(g.a _ _ e).1;unfold oA;simp only[O.ah,mA];rw[b,mA];grind [fD,mA,vA.a,wT,qV,rF,eD,zgc,rV,mT,yI]
def nW(b:qX e j) (f:xY op=true\/(∃s d x,op=.convert s d x/\(vJ C d=1\/vJ C s=2))\/(∃c,op=.call c/\(c.callee=.builtin .max\/c.callee=.builtin .min)))
  (h:lA C.a W J (fU C op e k) t Q) (a:∀v,lA C.a W J (k.a v) t Q->R v):∃v,(kG op).f C j HA=some v/\R v:=by
 grind [fU,uF,znw]
theorem zcn {v:O}{H:sA}(a:vJ C ty=4)(h:vC u=some v):jX C ty H u=some v:=by
 unfold vJ at a
 cases b:C.b.c ty with
 | none=>simp_all
 | some y=>
  rw[b]at a;have a:y.a.l=4:=a;unfold jX;rw[b,mA];unfold vC at h;unfold qY;cases u<;>simp only[O.u,O.w,O.az,O.aa]at h ⊢ <;> (try (rw[qB]at h;exact absurd h.1 (by decide)))
  case g=>
   rw[qB]at h;have d:y.a.g=none:=by cases c:y.a<;>rw[c]at a<;>first | rfl | (cases a;done)
   simp_all [pA,qB]
  simp_all [pA,qB]
theorem zhp {v:O}{H:sA}(d:vJ C ty≠6)(h:jX C ty H u=some v):jX C ty H' u=some v:=by
 unfold jX at h ⊢;simp only[pA]at h ⊢;obtain⟨y,b,n,a,c⟩:=h;refine⟨y,b,n,?_,c⟩;have d:¬ Nat.beq y.a.l 6=true:=by
  grind [vJ,bC]
 unfold qY at a ⊢;split at a
 all_goals grind [qB]
theorem zem {v:O}{l h:Option O}{H:sA}(b:vJ C ty=2)(d:cF C ty H a l h=some v):cF C ty H' a l h=some v:=by
 unfold cF at d ⊢;rw[pA]at d ⊢;obtain⟨y,e,f⟩:=d;refine⟨y,e,?_⟩;unfold vJ at b;rw[e]at b;have b:y.a.l=2:=b;unfold sP at f ⊢;have g:y.a.a=none:=by cases c:y.a<;>rw[c]at b<;>first | rfl | (cases b;done)
 have i:y.a.g=none:=by cases c:y.a<;>rw[c]at b<;>first | rfl | (cases b;done)
 simp_all
theorem DA (h:O.z u=true):u.s=[u]:=by
 cases u<;>first
  | rfl
  | (have:=gC.1 h;grind [O.aa])
def zbj{e:Nat->Option Nat}(d:Nat->Option (Nat × Nat)):∀(f:List (Nat × O)) {q:List (Nat × O × List O) × List O},wk C e f=some q->oD O.z q.2=true->∀c l,tc d q.1 c=some l->mN d f c=some l:=by
 intro f;induction f with
 | nil=>intro q h _ c l g;cases h;exact g
 | cons p f x=>
  intro q h u c l g;have h:(ob (e p.1) λt=>ob (C.b.c t) λty=>ob (wk C e f) λr=>some (bif ty.a.h then((p.1,p.2,p.2.s)::r.1,r.2)else((p.1,p.2,[p.2])::r.1,p.2::r.2)))=some q:=h;simp only[pA]at h;obtain⟨ty,_,y,_,r,v,i⟩:=h;have j:∀(m:List O),oD O.z r.2=true->(ob (d p.1) λq=>ob (wj c q.1 q.2 p.2.s) λc=>tc d r.1 c)=some l->mN d (p::f) c=some l:=by
   intro _ w g;show(ob (d p.1) λq=>ob (cY c q.1 q.2 p.2) λc=>mN d f c)=some l;simp only[pA]at g ⊢;obtain⟨a,n,b,o,s⟩:=g;exact⟨a,n,b,o,x v w _ _ s⟩
  cases k:y.a.h with
  | true=>
   rw[k]at i;cases i;exact j [] u g
  | false=>
   rw[k]at i;cases i;simp_all [gI,tc,DA]
def wq(F:qX e j)(P:Pt ν A j)(S:Ov C.a t X HA)(hl:Uv C.a z X ν lo) (h:lA C.a W J (tL C op e A lo k) t Q)
  (I:∀v,lA C.a W J (k.K v) t Q->R v) (g:∀v,lA C.a W J (k.a v) t Q->R v) (K:∀d off,lA C.a W J (k.b d off) t Q->R (.j (ν d) off)) :
  ∃v,(kG op).f C j HA=some v/\R v:=by
 cases op<;>simp only[tL]at h<;>try (cases h;done)
 case move x=>
  unfold ta at h;split at h
  .rename_i p N;exact⟨_,Iz P N,K _ _ h⟩
  .exact nW F (.inl rfl) h g
 case assign x=>
  unfold ta at h;split at h
  .rename_i p N;exact⟨_,Iz P N,K _ _ h⟩
  .exact nW F (.inl rfl) h g
 case pick c a b=>exact nW F (.inl rfl) h g
 case load ty a=>
  unfold V8 at h;split at h
  .rename_i p N;simp only[uF,bQ]at h;obtain⟨l,H,y,B,E,v,D,M⟩:=h;refine⟨v,?_,g v M⟩;show Ab ty a C j HA=some v
   grind [zg2,Iz,mA,ML]
  .rw[uF]at h;obtain⟨u,H,B⟩:=h;rw[Me]at B;obtain⟨v,E,D⟩:=B;refine⟨v,?_,I v D⟩;show Ab ty a C j HA=some v;rw[zg2,dF F H,mA];exact Ql S.le E
 case nilCheck x=>
  unfold nv at h;split at h
  .rename_i p N;refine⟨_,?_,K _ _ h⟩;show Ej x C j HA=_;rw[zp6 (Iz P N)];rfl
  .rw[uF]at h;obtain⟨u,H,B⟩:=h;rw[Bl]at B;obtain⟨v,E,D⟩:=B;refine⟨v,?_,I v D⟩;show Ej x C j HA=_
   grind [zp6,dF]
 case binOp op ty x y u=>
  unfold ny at h;rw[bD]at h;split at h
  .exact nW F (.inl rfl) h g
  .simp only[uF,Bl]at h;obtain⟨a,H,b,B,v,E,D⟩:=h;refine⟨v,?_,I v D⟩;show Ah op ty x y C j HA=_
   grind [jb,dF]
 case unOp o ty x=>
  split at h
  .simp only[uF,Bl]at h;obtain⟨u,H,v,B,E⟩:=h;refine⟨v,?_,I v E⟩;show P2 .xor x C j HA=_;unfold P2;rw[dF F H];exact B
  .exact nW F (.inl rfl) h g
 case convert s d x=>
  unfold wi at h;rw[bD]at h;split at h
  .rename_i hd;rw[bD]at h;split at h
   .rename_i U;exact nW F (.inr (.inl ⟨s,d,x,rfl,.inr (bC.1 U)⟩)) h g
   .simp only[uF,Me]at h;obtain⟨u,H,v,B,E⟩:=h;refine⟨v,?_,I v E⟩;show nS s d x C j HA=_;rw[zg4 (dF F H)];exact UR S.le B
  .rw[bD]at h;split at h
   .rename_i hd;exact nW F (.inr (.inl ⟨s,d,x,rfl,.inl (bC.1 hd)⟩)) h g
   .cases h
 case makeInterface ty x=>exact nW F (.inl rfl) h g
 case makeFunc fn a b=>exact nW F (.inl rfl) h g
 case slice ty x a1 hi mx=>
  cases mx with
  | some _=>cases h
  | none=>
   simp only[zo4,uF]at h;obtain⟨a,H,l,B,r,E,D⟩:=h;rw[bD]at D;show ∃v,Eh ty x a1 hi C j HA=some v/\R v;rw[zm2 (dF F H) (QQ F B) (QQ F E)];split at D
   .grind [Bl,zem,bC]
   .rw[Me]at D;obtain⟨v,M,h6⟩:=D;exact⟨v,UN S.le M,I v h6⟩
 case fieldAddr s x f=>
  unfold IK at h;show ∃v,Af s x f C j HA=some v/\R v;split at h
  .rename_i p N;rw[uF]at h;obtain⟨o,H,B⟩:=h;refine⟨_,?_,K _ _ B⟩;rw[NL (Iz P N)];unfold iB;rw[H];rfl
  grind [uF,Bl,NL,dF]
 case field ty x f=>exact nW F (.inl rfl) h g
 case indexAddr ty x i=>
  unfold II at h;show ∃v,Ad ty x i C j HA=some v/\R v;split at h
  .rename_i p N;simp only[uF]at h;obtain⟨iv,H,n,B,o,E,D⟩:=h;refine⟨_,?_,K _ _ D⟩;rw[NG (Iz P N) (dF F H)];unfold HN at E;simp only[pA,qB]at E;obtain⟨y,g1,a,g2,Z,g3,g4,g5⟩:=E;cases g5;unfold zC;rw[g1,mA,B,mA];simp only[O.u,O.ah,mA];rw[g2,mA,g3,mA,g4];rfl
  grind [uF,Bl,NG,dF]
 case index ty x i=>
  rw[bD]at h;split at h
  .exact nW F (.inl rfl) h g
  .simp only[uF,Bl]at h;obtain⟨u,H,w,B,v,E,D⟩:=h;refine⟨v,?_,I v D⟩;show Ae ty x i C j HA=_
   grind [zm4,dF]
 case lookup ty x i ok=>
  simp only[uF,Me]at h;obtain⟨m,H,a6,B,v,E,D⟩:=h;refine⟨v,?_,I v D⟩;show Aa ty x i ok C j HA=_;rw[zg1 (dF F H) (dF F B)];exact UQ S.le E
 case extract x i=>
  simp only[uF,Bl]at h;obtain⟨u,H,v,B,E⟩:=h;refine⟨v,?_,I v E⟩;show Ag x i C j HA=_
  grind [za5,dF]
 case typeAssert x a u ok=>
  simp only[uF,Bl]at h;obtain⟨w,H,v,B,E⟩:=h;refine⟨v,?_,I v E⟩;show Ai x u ok C j HA=_
  grind [zg6,dF]
 case build ty ps=>
  unfold zo6 at h;simp only[uF,bQ]at h;obtain⟨y,H,L,vs,B,q,E,l,D,M⟩:=h;have M:if oD O.z q.2=true then lA C.a W J (k.a (.i l)) t Q else False:=M;split at M
  .rename_i T;refine⟨_,?_,g _ M⟩;show Cc ty ps C j HA=_;have hf:=zbj (Nm C y) vs E T y.c l D;unfold Cc;rw[H,mA,FN F B,mA]
   cases U:y.a.b with
   | some fs=>
    simp only[];have:(λi=>ob (lD fs i) λx=>some (x.1,x.2.2))=Nm C y:=by funext i;unfold Nm;rw[U]
    simp_all
   | none=>
    simp only[];unfold nz at L;rw[U]at L;simp only[]at L
    cases P:y.a.g with
    | none=>simp_all
    | some a=>
     rw[P]at L;simp only[]at L
     cases hy:C.b.c a.2 with
     | none=>simp_all
     | some Z=>
      simp only[mA];have:(λi=>some (i*Z.b,Z.b))=Nm C y:=by funext i;unfold Nm;rw[U];simp only[];rw[P,mA,hy,mA]
      simp_all
  simp_all
 case call c=>
  split at h
  .rename_i b hb;cases b<;>simp only[Qv]at h<;>try (cases h;done)
   case len=>
    unfold nw at h;simp only[uF]at h;obtain⟨ty,H,x,B,u,E,D⟩:=h;show ∃v,(bW c c.callee).f C j HA=some v/\R v;rw[hb];show ∃v,kT c C j HA=some v/\R v;rw[jc H B (dF F E)];rw[bD]at D;split at D
    .grind [Bl,zcn,bC]
    .rw[bD]at D;split at D
     .rw[Me]at D;obtain⟨v,M,h6⟩:=D;exact⟨v,zcm S.le M,I v h6⟩
     grind [uF,zhp,bC]
   case max=>exact nW F (.inr (.inr ⟨c,rfl,.inl hb⟩)) h g
   case min=>exact nW F (.inr (.inr ⟨c,rfl,.inr hb⟩)) h g
  .cases h
end
end
section
variable {base f l:Nat}{args:List O}{H:sA}{d:wC}{u v:O}{op:Op}{w:O->sA->wC}{φ:jF}{K:O->T}{I:List Nat}{dst:Option Nat}
def Fi(C:fA)(A:G cC)(f:Nat)(args:List O)(H:sA):wC:=
 bif Nat.blt f yo then
  match C.c.c f with
  | some g=>ob (g args H) λp=>some (⟨p.1,false⟩,p.2)
  | none=>uD C A (.aa f) args H
 else uD C A (.ac (f-yo)) args H
theorem Ln{C:fA}{A:G cC}   (h:Nat.blt f yo=true):Fi C A f args H=(match C.c.c f with
  | some g=>ob (g args H) λp=>some (⟨p.1,false⟩,p.2)
  | none=>uD C A (.aa f) args H):=by grind [Fi]
def SO{C:fA}{A:G cC}    : Fi C A (yo+l) args H=uD C A (.ac l) args H:=by
 unfold Fi;have:Nat.blt (yo+l) yo=false:=Bool.eq_false_iff.2 λe=>by grind [gC]
 simp_all
def iK:lB:=λ_ _=>False
def rC (base:Nat)(e:Xt)(E Q:lB)(d:wC):Prop:=∃o b a c,d=some (o,a)/\Ov base b c a/\eJ e c/\if o.p=true then E o.v b else Q o.v b
theorem rC.g {e:Xt}{E Q b c:lB} (h:rC base e E Q d)(k:∀v t,Q v t->c v t)(k':∀v t,E v t->b v t:=by exact λ_ _ h=>h):rC base e b c d:=by
 obtain⟨o,l,a,f,g,i,j,m⟩:=h;refine⟨o,l,a,f,g,i,j,?_⟩
 grind
theorem uR {e:Xt}{Q:lB}  : rC base e iK Q d ↔ ∃v t' a b,d=some (⟨v,false⟩,a)/\Ov base t' b a/\eJ e b/\Q v t':=by
 constructor
 .rintro⟨⟨v,p⟩,t',a,b,f,g,h,c⟩
  cases p with
  | true=>exact c.elim
  | false=>grind
 .rintro⟨v,t',a,b,f,g,h,c⟩;exact⟨_,t',a,b,f,g,h,c⟩
structure cS (C:fA) (A:G cC) (E:lB) (W:yG):Prop where
 fn:∀f args t R,Nat.blt f pn=true->W f args t R->∀X HA,Ov C.a t X HA->rC C.a X E R (Fi C A f args HA)
 rd:∀l args t R,W (yo+l) args t R->∀X HA,Ov C.a t X HA->rC C.a X iK R (Fi C A (yo+l) args HA)
 a:∀args t R,W pn args t R->∃v,args=[v]/\E v t
section
variable {W J:yG}{t:G vA}{X o:Xt}{HA:sA}{e B:mD}{C:fA}{A:G cC}{ν:Nat->Nat}{F:cQ}{lo:G (List O)}{k:uP}{D:td}{Q E:lB}
def tO{f:sL}  (h:f C e H=some v):lv f C e H=.aa v H:=by unfold lv;rw[h]
def zjy   (h:(kG op).f C e H=some v):(kF op).f C e H=.aa v H:=by
 cases op
 case move x=>exact tO h
 case assign x=>exact tO h
 case pick c a b=>exact tO h
 case load t a=>exact tO h
 case nilCheck x=>exact tO h
 case binOp op t x y u=>exact tO h
 case unOp op t x=>exact tO h
 case makeInterface t x=>exact tO h
 case makeFunc k a b=>exact tO h
 case slice t x lo l m=>exact tO h
 case fieldAddr s x f=>exact tO h
 case field t x f=>exact tO h
 case indexAddr t x i=>exact tO h
 case index t x i=>exact tO h
 case extract t i=>exact tO h
 case build t n=>exact tO h
 case typeAssert x t u j=>exact tO h
 case lookup t x i j=>exact tO h
 case convert s d x=>
  show Ci s d x C e H=_;have h:nS s d x C e H=some v:=h;unfold Ci;rw[h]
 case call c=>
  have h:(bW c c.callee).f C e H=some v:=h;show(Od c c.callee).f C e H=_
  cases g:c.callee with
  | value f=>rw[g]at h;cases h
  | invoke a b=>rw[g]at h;cases h
  | builtin b=>
   rw[g]at h;cases b
   case len=>exact tO (f:=kT c) h
   case max=>exact tO (f:=aZ c) h
   case min=>exact tO (f:=bZ c) h
   all_goals exact absurd (show(none:Option O)=some v from h) (by simp)
 all_goals exact absurd (show(none:Option O)=some v from h) (by simp)
def Hb{x:Option (O × sA)} {H':sA}  (h:x=some (v,H')):gH φ (sN x) HA w=w v H':=by subst h;rfl
def jY(b:Ov C.a t X HA){x:sA->Option (O × sA)}(e:rX C.a x) (h:lA C.a W J (.h x K) t Q)
  (k:∀v t' a c,Ov C.a t' c a->eJ X c->lA C.a W J (K v) t' Q->rC C.a o E Q (w v a)) {r:zM} (l:∀p,x HA=some p->gH φ r HA w=w p.1 p.2):rC C.a o E Q (gH φ r HA w):=by
 have h:=h HA.a b.o b.d;rw[Dy]at h;obtain⟨⟨v,f⟩,d,g⟩:=h;obtain⟨a,i,j⟩:=e _ _ _ _ _ b d
 grind [eJ.f]
def zrp (h:Nat.blt f pn=true):Nat.blt f yo=true/\f≠pn:=by
 grind [gC,pn,yo]
def GJ(s:cS C A E W)(B:Ov C.a t X HA)(u:eJ o X) (m:Nat.blt f pn=true)  (h:W f args t λv t'=>lA C.a W J (K v) t' Q)
  (l:∀v t' a d,Ov C.a t' d a->eJ X d->lA C.a W J (K v) t' Q->rC C.a o E Q (w v a)):rC C.a o E Q (gH (uD C A) (Oz C HA args f (C.c.c f)) HA w):=by
 obtain⟨k,z⟩:=zrp m;obtain⟨⟨v,p⟩,t',a,d,c,e,i,j⟩:=s.fn _ _ _ _ m h X HA B;rw[Ln k]at c;unfold Oz
 cases n:C.c.c f with
 | some g=>
  rw[n]at c;rw[pA]at c;obtain⟨q,c,r⟩:=c;cases r;simp only[c];exact l _ _ _ _ e i j
 | none=>
  rw[n]at c;have c:uD C A (.aa f) args HA=some (⟨v,p⟩,a):=c;show rC C.a o E Q (ob (uD C A (.aa f) args HA) λp=>bif p.1.p then some p else w p.1.v p.2);rw[c]
  cases p with
  | true=>exact⟨_,t',a,d,rfl,e,λb y x=>i b y (u b y x),j⟩
  | false=>exact l _ _ _ _ e i j
def zlq(j:cS C A E W)(k:Ov C.a t X HA)   (h:W (yo+l) args t λv t'=>lA C.a W J (K v) t' Q)
  (i:∀v t' a b,Ov C.a t' b a->eJ X b->lA C.a W J (K v) t' Q->rC C.a o E Q (w v a)):rC C.a o E Q (gH (uD C A) (.ak l args) HA w):=by
 have c:=j.rd _ _ _ _ h X HA k;rw[uR]at c;obtain⟨v,t',a,b,d,e,f,g⟩:=c;rw[SO]at d;show rC C.a o E Q (ob (uD C A (.ac l) args HA) λp=>tB (!p.1.p) (w p.1.v p.2));rw[d];exact i _ _ _ _ e f g
def Ov.m (h:Ov base t X HA){b:Nat}{y:vA}(e:X b=some y)(z:vA):Ov base t (λc=>if c=b then some z else X c) (Am.A7 HA b z):=by
 obtain⟨f,g,i⟩:=h.a b y e;refine⟨h.d,λc d=>?_,λc u d=>?_,h.j⟩
 .split at d
  .cases d
  .rename_i a;show(HA.t.d b z).c c=_;rw[G.aa,A3 a];exact h.f c d
 .show(HA.t.d b z).c c=_/\_/\c<HA.a;rw[G.aa];split at d
  .simp_all
  .rename_i a;rw[A3 a];exact h.a c u d
def Ov.r (h:Ov base t X HA)(z:vA):Ov base t (λc=>if c=HA.a then some z else X c) (Am.B0 HA z):=by
 refine⟨Nat.le_succ_of_le h.d,λc a=>?_,λc u a=>?_,λb y f=>Nat.lt_succ_of_lt (h.j b y f)⟩
 .split at a
  .cases a
  .rename_i d;show(HA.t.d HA.a z).c c=_;rw[G.aa,A3 d];exact h.f c a
 .show(HA.t.d HA.a z).c c=_/\_/\c<HA.a+1;rw[G.aa];split at a
  .rename_i e;cases a;subst e;rw[A5 rfl];exact⟨rfl,h.o,Nat.lt_succ_self _⟩
  .rename_i d;rw[A3 d];have:=h.a c u a;grind
def zgg(k:Ov C.a t X HA)(i:Uv C.a o X ν lo){d off:Nat}{l e:List O} {sz:Nat}(g:lo.c d=some l)(b:cY l off sz u=some e)(p:oD O.z u.s=true) :
  Nat.beq (wB u.s) sz=true/\e.length=l.length/\∃c',kK C HA (ν d) off u.s=some (A7 HA (ν d) (.aa c' l.length none))/\∀j a,e[j]?=some a->c'.c j=some a:=by
 obtain⟨_,q,c,h,r⟩:=i d l g;have v:=(k.a _ _ h).1;unfold cY at b;simp only[qB,B2,rF,eD,xI,rV,mT,Option.some.injEq]at b;obtain⟨⟨m,n⟩,f⟩:=b;subst f;refine⟨by grind [eD],?_,c.am u.s off,?_,?_⟩
 .grind
 .grind [kK,Nat.blt,fD,qB,mA,vA.a,rF,eD]
 .intro j a s;rw[G.ap];grind
def zjh{y:jD} (h:oD O.z (Oy y u)=true):Oy y u=u.s:=by
 grind [Oy,gI,DA]
theorem zai    (h:(kG op).f C B HA=some v):gH φ ((kF op).f C B HA) HA w=w v HA:=by rw[zjy h];rfl
def zgx  {d:Nat}(h:M8 I dst=some d):dst=some d:=by
 unfold M8 at h;grind
def pk(hW:cS C A E W)(hX:eJ o X)(L:qX e B)(ha:Pt ν F B)(K:Ov C.a t X HA)(hl:Uv C.a o X ν lo)
  (h:lA C.a W J (tH C I dst op e F lo k D) t Q)
  (S:∀v t' T X',Ov C.a t' X' T->eJ X X'->lA C.a W J (k.K v) t' Q->rC C.a o E Q (w v T))
  (a6:∀v t' T X',Ov C.a t' X' T->eJ X X'->lA C.a W J (k.a v) t' Q->rC C.a o E Q (w v T))
  (af:∀d off,lA C.a W J (k.b d off) t Q->rC C.a o E Q (w (.j (ν d) off) HA))
  (U:∀d l,M8 I dst=some d->lA C.a W J (D.a d l) t Q->rC C.a o E Q (w (.j HA.a 0) (tG HA l none)))
  (ab:∀d l l' c',lo.c d=some l->l'.length=l.length->(∀j a,l'[j]?=some a->c'.c j=some a)->lA C.a W J (D.b d l') t Q->rC C.a o E Q (w aD (A7 HA (ν d) (.aa c' l.length none)))) :
  rC C.a o E Q (gH (uD C A) ((kF op).f C B HA) HA w):=by
 have a1:∀(op:Op),lA C.a W J (tL C op e F lo k) t Q->rC C.a o E Q (gH (uD C A) ((kF op).f C B HA) HA w):=by
  intro op h;obtain⟨v,i,M⟩:=wq (R:=λv=>rC C.a o E Q (w v HA)) L ha K hl h (λv h=>S v _ _ _ K (eJ.f _) h) (λv h=>a6 v _ _ _ K (eJ.f _) h) af
  grind [zai]
 cases op<;>simp only[tH]at h<;>try (exact a1 _ h)
 case alloc H=>
  show rC C.a o E Q (gH _ (Hz H C B HA) HA w);rw[bD]at h;split at h
  .rename_i ht;have ht:lL C H=none:=by
    cases hx:lL C H with
    | none=>rfl
    | some _=>rw[hx]at ht;cases ht
   split at h
   .rename_i d N;rw[uF]at h;obtain⟨y,i,M⟩:=h;unfold Hz;rw[i,ht];exact U d _ N M
   .refine jY K zcp h S λp z=>?_;unfold Hz;rw[ht];have z:(ob (C.b.c H) λH=>some (.j HA.a 0,tG HA H.c none))=some p:=z;rw[z];rfl
  .refine jY K UU h S λp z=>?_;unfold Hz;unfold Jm at z;rw[z];rfl
 case box H x=>
  rw[bD]at h;show rC C.a o E Q (gH _ (Er H x C B HA) HA w);unfold Er;split at h
  .rename_i ht;have ht:lL C H=none:=by
    cases hx:lL C H with
    | none=>rfl
    | some _=>rw[hx]at ht;cases ht
   rw[uF]at h;obtain⟨v,i,h⟩:=h;rw[dF L i,ht];split at h
   .rename_i d N;rw[uF]at h;obtain⟨y,_,h⟩:=h;rw[bD]at h;split at h
    .exact U d _ N h
    .have h:if O.z v=true then lA C.a W J (D.a d [v]) t Q else False:=h;split at h
     .rename_i i;have:=U d _ N h;rw[<- DA i]at this;exact this
     simp_all
   .refine jY K zr6 h S λp z=>?_;cases z;rfl
  .rw[uF]at h;obtain⟨v,i,h⟩:=h;rw[dF L i];refine jY K zki h S λp z=>?_;cases z;rfl
 case buildSlice H n ps=>
  rw[uF]at h;obtain⟨vs,i,h⟩:=h;show rC C.a o E Q (gH _ (Hy H n ps C B HA) HA w);refine jY K US h S λp z=>?_;refine Hb (v:=p.1) (H':=p.2) ?_;rw[FN L i];exact z
 case makeMap H r=>
  cases r with
  | some _=>simp_all
  | none=>
   simp only[]at h;show rC C.a o E Q (gH _ (Tf none C B HA) HA w);refine jY K UP h S λp z=>?_;cases z;rfl
 case makeSlice H l c=>
  simp only[uF]at h;obtain⟨a,i,b,M,h⟩:=h;show rC C.a o E Q (gH _ (EP H l c C B HA) HA w);refine jY K UO h S λp z=>?_;refine Hb (v:=p.1) (H':=p.2) ?_
  grind [dF,eR,mA]
 case store H a x=>
  unfold zo3 at h;show rC C.a o E Q (gH _ (Td H a x C B HA) HA w);split at h
  .rename_i p z;simp only[uF]at h;obtain⟨u,i,y,M,l,P,l',h4,h5⟩:=h;have h5:if oD O.z (Oy y u)=true then lA C.a W J (D.b p.1 l') t Q else False:=h5;split at h5
   .rename_i Z;have a7:=zjh Z;rw[a7]at Z h4;have h4:cY l p.2 y.b u=some l':=h4;obtain⟨g1,g2,c',g3,g4⟩:=zgg K hl P h4 Z;have:=ab p.1 l l' c' P g2 g4 h5;have e1:gH (uD C A) (Td H a x C B HA) HA w=w aD (A7 HA (ν p.1) (.aa c' l.length none)):=by
     refine Hb ?_;rw[M,mA,Iz ha z,mA];simp only[O.ah,mA];rw[dF L i,mA,g1,g3];rfl
    simp_all
   simp_all
  .simp only[uF]at h;obtain⟨av,i,u,M,h⟩:=h;refine jY K zcl h a6 λp z=>?_;refine Hb (v:=p.1) (H':=p.2) ?_
   grind [dF,nC,mA]
 case convert s d x=>
  rw[bD]at h;split at h
  .rename_i N;rw[uF]at h;obtain⟨u,i,h⟩:=h;show rC C.a o E Q (gH _ (Ci s d x C B HA) HA w);have hn:nS s d x C B HA=none:=by
    rw[zg4 (dF L i)]
    cases hq:dR C s d HA u with
    | none=>rfl
    | some q=>
     exfalso;unfold dR at hq;simp only[pA]at hq;obtain⟨sy,g1,dy,g2,g3⟩:=hq;have N:=bC.1 N;unfold vJ at N;rw[g2]at N;have N:dy.a.l=4:=N;unfold gV at g3;have n1:dy.a.o=none:=by cases hz:dy.a<;>rw[hz]at N<;>first | rfl | (cases N;done)
     have n2:dy.a.c=false:=by unfold lE.c;rw[N];rfl
     rw[n1,n2]at g3;cases g3
   unfold Ci;rw[hn];simp only[];refine jY K UM h S λp z=>?_;refine Hb (v:=p.1) (H':=p.2) ?_;rw[dF L i];exact z
  grind [tL]
 case insert H m a8 x=>
  simp only[uF]at h;obtain⟨mv,i,kv,M,u,P,h⟩:=h;show rC C.a o E Q (gH _ (Hx H m a8 x C B HA) HA w);refine jY K HL h a6 λp z=>?_;refine Hb (v:=p.1) (H':=p.2) ?_;rw[dF L i,dF L M,dF L P];exact z
 case mapUpdate H m a8 x=>
  simp only[uF]at h;obtain⟨mv,i,kv,M,u,P,h⟩:=h;show rC C.a o E Q (gH _ (Hx H m a8 x C B HA) HA w);refine jY K HL h a6 λp z=>?_;refine Hb (v:=p.1) (H':=p.2) ?_;rw[dF L i,dF L M,dF L P];exact z
 case panic x=>
  have h:lA C.a W J (lC (ev x e) λv=>lC v.au λp=>.c pn [.aw p.1 p.2] k.K) t Q:=h;simp only[uF]at h;obtain⟨v,i,p,M,P⟩:=h;obtain⟨u,e1,e2⟩:=hW.a _ _ _ P;cases e1;show rC C.a o E Q (gH _ (Te x C B HA) HA w);unfold Te;rw[dF L i,mA,M,mA];exact⟨⟨_,true⟩,t,HA,X,rfl,K,hX,e2⟩
 case call c=>
  show rC C.a o E Q (gH _ ((Od c c.callee).f C B HA) HA w);split at h
  .rename_i f hc;rw[hc];show rC C.a o E Q (gH _ (Lc f c.args C B HA) HA w);have ad:∀ {fv:O} {aq:List O},ev f e=some fv->lQ c.args.toList e=some aq->lA C.a W J (.n fv aq k.K) t Q->rC C.a o E Q (gH (uD C A) (Lc f c.args C B HA) HA w):=by
    intro fv aq i M h;have h:pD (mM fv aq) λp=>W p.1 p.2 t λv t'=>lA C.a W J (k.K v) t' Q:=h;rw[Dy]at h;obtain⟨⟨g,ag⟩,P,h4⟩:=h;unfold mM at P;rw[pA]at P;obtain⟨p,h5,h6⟩:=P;have e0:Lc f c.args C B HA=uy C HA (tE p.2.1 aq) p.2.2 p.1:=by
     unfold Lc bU;rw[dF L i,mA,h5,mA,FK L M,mA,mA];rfl
    rw[e0]
    cases z:p.1 with
    | aa g'=>
     rw[z]at h6;simp only[qB]at h6;obtain⟨hg,h6⟩:=h6;cases h6;exact GJ hW K hX hg h4 S
    | ac l=>
     rw[z]at h6;simp only[qB,B2]at h6;obtain⟨⟨ha,hb⟩,h6⟩:=h6;cases h6;have ea:p.2.1=[]:=by cases hx:p.2.1 with | nil=>rfl | cons _ _=>rw[hx]at ha;cases ha
     have eb:p.2.2=[]:=by cases hx:p.2.2 with | nil=>rfl | cons _ _=>rw[hx]at hb;cases hb
     rw[ea,eb];exact zlq hW K h4 S
   unfold zo5 at h;split at h
   .rename_i g;rw[bQ,uF]at h;obtain⟨hg,aq,i,h⟩:=h;refine ad (fv:=.q (.aa g) [] []) rfl i ?_;show pD (mM (.q (.aa g) [] []) aq) _;have e2:mM (.q (.aa g) [] []) aq=some (g,aq):=by
     show tB (Nat.blt g pn) (some (g,tE (tE [] aq) []))=_;rw[hg,xI,xI];simp[tB]
    rw[e2];exact h
   grind [uF]
  .rename_i b hb;rw[hb];have lt:lA C.a W J (Qv C c e k b) t Q->rC C.a o E Q (gH (uD C A) ((Od c (.builtin b)).f C B HA) HA w):=by
    intro h;have:=a1 (.call c) (by show lA C.a W J (match c.callee with | .builtin b=>Qv C c e k b | _=>.g) t Q;simp_all)
    have e1:(kF (.call c)).f C B HA=(Od c c.callee).f C B HA:=rfl
    simp_all
   unfold IJ at h;split at h
   .simp only[uF,oa]at h;obtain⟨H,i,u,M,p,P,h⟩:=h;show rC C.a o E Q (gH _ (Oe c C B HA) HA w);refine jY K UT h S λq hq=>?_;refine Hb (v:=q.1) (H':=q.2) ?_
    grind [mG,pA,qB,AT]
   grind
  .cases h
end
end
end Go.Am
