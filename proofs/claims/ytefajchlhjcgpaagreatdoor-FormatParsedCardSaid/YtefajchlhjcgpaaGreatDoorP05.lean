/- Code as a function: all functions of a program; what a value is worth. -/
import Derived.Test.YtefajchlhjcgpaaGreatDoorP04
set_option linter.all false
noncomputable section
namespace Go.Am
open Go Go.RowKit
section
def nZ (C:fA)(fn:Func)(tm:Tm)(H:sA):wC:=ob (Af C H tm fn.results.toList) λl=>some (⟨Jw l,false⟩,H)
def mR (C:fA)(fn:Func):Kt:=⟨nZ C fn,λ_ _ _=>none,nZ C fn⟩
def Ho(a:List Oper):Bool:=nD (λo=>match o.op with | .move _=>dE o.guard | .assign _=>dE o.guard | .alloc _=>dE o.guard | .store _ _ _=>dE o.guard | _=>false) a
def Ww(l:List (Nat × Array Oper)):Bool:=match l with | []=>false | x::r=>nD (λx=>Ho x.2.toList) (x::r)
def Sc(c:bC):Option Mg:=match nM c with | [q]=>some q | _=>none
def nq (r:yP)(q:Mg):Prop:=r.c=Q7 q.a/\r.f=bE q.c/\r.b=q.ps.toList/\LoopState.a r.e=0/\Ww q.a=true/\nM q.c=[]
def Lv(r:yP):yP:=⟨.busy,r.a,r.g,r.n,r.h,r.b,r.c,r.f,r.d⟩
def eP(b:Bool)(r:yP):yP:=⟨if b then .ready else .done,if b then none else some .ret,r.g,r.n,r.h,r.b,r.c,r.f,r.d⟩
def M1:Kt:=⟨λ_ H=>some (⟨.d true,false⟩,H),λ_ _ _=>none,λ_ H=>some (⟨.d false,false⟩,H)⟩
def sk(C:fA)(φ:fF)(fn n:Nat)(q:Mg)(tm:Tm)(H:sA):wC:=wE C φ fn n (U0 q.c q.a) M1 tm H
def Kg(C:fA)(A:G bC)(φ:fF)(l:Nat)(args:List O)(H:sA):wC:=
 ob (rK H l) λr=>ob (Ed r.n r.b args r.h) λd=>ob (A.c r.g) λc=>ob (Sc c) λq=>@ite _ (nq r q/\l<H.a) (Classical.propDecidable _)
  (ob (sk C φ r.g r.n q d (A7 H l (.ac (Lv r)))) λx=>sB (!x.1.p) (ob (rK x.2 l) λa=>ob x.1.v.r λb=>some (⟨.d b,false⟩,A7 x.2 l (.ac (eP b a))))) none
def R7 (c:bC):Option (Nat × Array Oper):=match c with
 | .aa b a false=>some (b,a)
 | .aw _ (.aa b a false)=>some (b,a)
 | _=>none
structure oT where
 f:Nat
 c:Array Oper
 d:Nat
 a:Nat
 e:List Operand
 i6:Nat
 b:Array Oper
def ck (l:List Oper):Option (Nat × Nat × List Operand):=match l with
 | [⟨some d,.makeFunc (.func f) b c,_,_,_,none⟩,⟨none,.defer a,_,_,_,none⟩]=>(match b.toList,a.callee,a.args.toList with
  | [],.value (.tmp e),[]=>bif Nat.beq d e then some (d,f,c.toList)else none
  | _,_,_=>none)
 | _=>none
def sn(c:bC):Option oT:=match c with
 | .ak a (.ak b .ax)=>ob (R7 a) λu=>ob (R7 b) λv=>ob (ck u.2.toList) λq=>some ⟨u.1,u.2,q.1,q.2.1,q.2.2,v.1,v.2⟩
 | _=>none
def Ab(c:bC):Option (List bC × oT):=
 bC.rec (motive:=λ_=>Option (List bC × oT)) none (λ_ _ _=>none)
  (λa b _ g=>match sn (.ak a b)with | some q=>some ([],q) | none=>ob g λp=>some (a::p.1,p.2))
  (λ_ _ _ _ _=>none) (λ_ _ _=>none) (λ_ _ _=>none) (λ_=>none) none (λ_ _ _=>none) (λ_ _ _ _ _ _ _=>none) c
def Co (l:List bC):bC:=List.rec (motive:=λ_=>bC) .ah (λa _ g=>.ak a g) l
def N1 (l:List Oper):Option (Nat × Nat):=match l with
 | [⟨some d,.call a,_,_,_,none⟩,⟨some e,.assign (.tmp f),_,_,_,none⟩]=>(match a.callee with
  | .builtin .recover=>bif Nat.beq d f then some (d,e)else none
  | _=>none)
 | _=>none
structure U1 where
 i:Nat
 o:Array Oper
 d:Nat
 e:Nat
 c:bC
def co (c:bC):Option U1:=match c with
 | .ak a b=>ob (R7 a) λu=>ob (N1 u.2.toList) λp=>some ⟨u.1,u.2,p.1,p.2,b⟩
 | _=>none
def N2 (n:Nat)(q:U1)(tm:Tm)(v:O):Tm:=By n (By n tm.b (some q.d) v) (some q.e) v
def qW(C:fA)(A:G bC)(φ:fF)(cl:Nat)(a:List O)(v:O)(H:sA):wC:=
 ob (C.d.c cl) λb=>ob (A.c cl) λc=>ob (co c) λq=>sB (dE (C.c.c cl)&&Nat.blt q.d b.ntmps) (ob (xM C cl a true) λg=>wE C φ cl b.ntmps q.c (mR C b) (N2 b.ntmps q g.b v) H)
def pP (C:fA)(A:G bC)(φ:fF)(fn:Func)(cl:Nat)(a:List O)(v:O)(tm:Tm)(H:sA):wC:=
 ob (qW C A φ cl a v H) λy=>sB (!y.1.p) (nZ C fn tm y.2)
def Un(l:List ResultVar)(b:List Oper):Bool:=nD (λr=>match r with | .cell a _=>nD (λo=>match o.dst with | some d => !Nat.beq d a | none=>true) b | .tmp _=>false) l
def vV(C:fA)(A:G bC)(φ:fF)(fn:Func)(q:oT)(tm:Tm)(H:sA):wC:=
 sB (Un fn.results.toList q.b.toList&&(Nat.ble tm.k q.d&&Nat.blt q.d fn.ntmps)) (ob (eQ q.e (.b tm.b)) λa=>
  ob (lO C φ q.b fn.ntmps (λb c=>pP C A φ fn q.a a .x b c) q.b.toList tm.b H) λx=>
   Bool.rec (motive:=λ_=>wC) (some x) (pP C A φ fn q.a a x.1.v tm.b x.2) x.1.p)
def Hj (C:fA)(A:G bC)(φ:fF)(fn:Func)(q:oT):Kt:=⟨vV C A φ fn q,λ_ _ _=>none,nZ C fn⟩
def Bn(C:fA)(A:G bC)(φ:fF)(f:Nat)(fn:Func)(c:bC)(tm:Tm)(H:sA):wC:=
 match Ab c with
 | none=>wE C φ f fn.ntmps c (mR C fn) tm H
 | some p=>wE C φ f fn.ntmps (Co p.1) (Hj C A φ fn p.2) tm H
def tW (C:fA)(A:G bC)(φ:fF)(f:Nat)(args:List O)(H:sA):wC:=
 ob (A.c f) λc=>ob (C.d.c f) λa=>ob (xM C f args false) λg=>Bn C A φ f a c g.b H
def Ka(C:fA)(A:G bC)(φ:fF):fF
 | .aa f=>tW C A φ f
 | .ac l=>Kg C A φ l
def Hq (C:fA)(A:G bC):Nat->fF
 | 0=>λ_ _ _=>none
 | n+1=>Ka C A (Hq C A n)
def sD (C:fA)(A:G bC):fF:=λf a H=>lq λn=>Hq C A n f a H
section
variable {C:fA}{A:G bC}
def Nf{φ:fF}{l:Nat}{args:List O}{H:sA}{x:lI × sA}:Kg C A φ l args H=some x ↔ ∃r tm c q y a b,rK H l=some r/\Ed r.n r.b args r.h=some tm/\A.c r.g=some c/\Sc c=some q/\(nq r q/\l<H.a)/\sk C φ r.g r.n q tm (A7 H l (.ac (Lv r)))=some y/\rK y.2 l=some a/\y.1=⟨.d b,false⟩/\x=(⟨.d b,false⟩,A7 y.2 l (.ac (eP b a))):=by
 have d:∀(o:lI) (b:Bool),o=⟨.d b,false⟩ ↔ o.v=.d b/\o.p=false:=λo b=>by cases o;simp
 unfold Kg;grind [mA,Iu,qB]
theorem zca{φ b:fF}(h:uR φ b){cl:Nat}{a:List O}{v:O}{H:sA}{x:lI × sA}(c:qW C A φ cl a v H=some x):qW C A b cl a v H=some x:=by
 unfold qW at c ⊢;simp only[mA,qB]at c ⊢;obtain⟨e,f,d,i,q,j,k,g,l,m⟩:=c;exact⟨e,f,d,i,q,j,k,g,l,Fq h _ _ _ (xS.c _) _ _ _ m⟩
def Tx{φ b:fF}(h:uR φ b){fn:Func}{cl:Nat}{a:List O}{v:O}{tm:Tm}{H:sA}{x:lI × sA}(c:pP C A φ fn cl a v tm H=some x):pP C A b fn cl a v tm H=some x:=by
 grind [pP,mA,zca]
def IG{φ c:fF}(h:uR φ c){fn:Func}{q:oT}:iL (vV C A φ fn q) (vV C A c fn q):=by
 intro j H x b;unfold vV at b ⊢;simp only[qB,mA]at b ⊢;obtain⟨e,a,f,y,g,d⟩:=b;refine⟨e,a,f,y,Sb h (λj H x b=>Tx h b) _ _ _ _ g,?_⟩
 cases i:y.1.p with
 | false=>simp_all
 | true=>rw[i]at d;exact Tx h d
def zcm{φ a:fF}(h:uR φ a){f:Nat}{fn:Func}{c:bC}:iL (Bn C A φ f fn c) (Bn C A a f fn c):=by
 intro d H x b;unfold Bn at b ⊢;split at b
 .exact Fq h c _ _ (xS.c _) _ _ _ b
 .exact Fq h _ (Hj C A φ fn _) (Hj C A a fn _) ⟨IG h,λ_ _ _ _ h=>h,λ_ _ _ h=>h⟩ _ _ _ b
def RQ{φs:Nat->fF}{φ:fF}(h:iZ φs φ){fn:Func}{cl:Nat}{a:List O}{v:O}:yR (λn=>pP C A (φs n) fn cl a v) (pP C A φ fn cl a v):=by
 refine⟨λn j H x b=>Tx (h.b n) b,λj H x b=>?_⟩;unfold pP at b;rw[mA]at b;obtain⟨y,c,s⟩:=b;unfold qW at c;simp only[mA,qB]at c;obtain⟨e,l,k,m,q,o,p,g,r,f⟩:=c;have d:Iz (λ_=>mR C e) (mR C e):=⟨⟨λ_ _ _ _ h=>h,λ_ _ _ h=>⟨0,h⟩⟩,λi=>⟨λ_ _ _ _ h=>h,λ_ _ _ h=>⟨0,h⟩⟩,⟨λ_ _ _ _ h=>h,λ_ _ _ h=>⟨0,h⟩⟩⟩;obtain⟨n,t⟩:=(Ud h q.c _ _ d).c _ _ _ f
 grind [pP,qW,mA,qB]
def zdm{φs:Nat->fF}{φ:fF}(h:iZ φs φ){fn:Func}{q:oT}:yR (λn=>vV C A (φs n) fn q) (vV C A φ fn q):=by
 refine⟨λn=>IG (h.b n),λg H x b=>?_⟩;unfold vV at b;simp only[qB,mA]at b;obtain⟨k,a,l,y,o,d⟩:=b;obtain⟨n,p⟩:=(LV h (RQ h) _).c _ _ _ o;have f:∀m,n<=m->lO C (φs m) q.b fn.ntmps (λi j=>pP C A (φs m) fn q.a a .x i j) q.b.toList g.b H=some y:=
  λm c=>Sb (h.c c) (λg H x b=>Tx (h.c c) b) _ _ _ _ p
 cases e:y.1.p with
 | false=>
  rw[e]at d;refine⟨n,?_⟩
  simp_all [vV,qB]
 | true=>
  rw[e]at d;obtain⟨m,c⟩:=(RQ h).c _ _ _ d;refine⟨max n m,?_⟩;show vV C A (φs (max n m)) fn q g H=some x;unfold vV;simp only[qB,mA];exact⟨k,a,l,y,f _ (Nat.le_max_left _ _),by rw[e];exact Tx (h.c (Nat.le_max_right _ _)) c⟩
def zkk{φs:Nat->fF}{φ:fF}(h:iZ φs φ){f:Nat}{fn:Func}{c:bC}{tm:Tm}{H:sA}{x:lI × sA}(a:Bn C A φ f fn c tm H=some x):∃n,Bn C A (φs n) f fn c tm H=some x:=by
 unfold Bn at a ⊢;split at a
 .have b:Iz (λ_=>mR C fn) (mR C fn):=⟨⟨λ_ _ _ _ h=>h,λ_ _ _ h=>⟨0,h⟩⟩,λi=>⟨λ_ _ _ _ h=>h,λ_ _ _ h=>⟨0,h⟩⟩,⟨λ_ _ _ _ h=>h,λ_ _ _ h=>⟨0,h⟩⟩⟩;exact(Ud h c _ _ b).c _ _ _ a
 .rename_i p _;exact(Ud h (Co p.1) (λn=>Hj C A (φs n) fn p.2) (Hj C A φ fn p.2) ⟨zdm h,λi=>⟨λ_ _ _ _ h=>h,λ_ _ _ h=>⟨0,h⟩⟩,⟨λ_ _ _ _ h=>h,λ_ _ _ h=>⟨0,h⟩⟩⟩).c _ _ _ a
def IZ{φ e:fF}(h:uR φ e):uR (Ka C A φ) (Ka C A e):=by
 intro f d H x a
 cases f with
 | ac l=>
  have a:Kg C A φ l d H=some x:=a;obtain⟨r,w,c,q,y,v,b,i,j,k,n,u,o,p,s,t⟩:=Nf.1 a;exact Nf.2 ⟨r,w,c,q,y,v,b,i,j,k,n,u,Fq h _ _ _ (xS.c _) _ _ _ o,p,s,t⟩
 | aa f=>
 have a:tW C A φ f d H=some x:=a;show tW C A e f d H=some x;unfold tW at a ⊢;rw[mA]at a ⊢;obtain⟨c,i,a⟩:=a;refine⟨c,i,?_⟩;rw[mA]at a ⊢;obtain⟨m,j,a⟩:=a;refine⟨m,j,?_⟩;rw[mA]at a ⊢;obtain⟨g,k,a⟩:=a;exact⟨g,k,zcm h _ _ _ a⟩
def zgv:∀n,uR (Hq C A n) (Hq C A (n+1)):=by
 intro n;induction n with
 | zero=>intro f a H x h;cases h
 | succ n b=>exact IZ b
def Lm{f:L2}{args:List O}{H:sA}{x:lI × sA}:sD C A f args H=some x ↔ ∃n,Hq C A n f args H=some x:=
 Xo λn _ a=>zgv n _ _ _ _ a
def ziz:iZ (Hq C A) (sD C A):=⟨zgv,λ_ _ _ _ h=>Lm.1 h⟩
def wc(f:L2)(args:List O)(H:sA):sD C A f args H=Ka C A (sD C A) f args H:=by
 have z:∀x,sD C A f args H=some x ↔ Ka C A (sD C A) f args H=some x:=by
  intro x;constructor
  .intro h;obtain⟨n,d⟩:=Lm.1 h
   cases n with
   | zero=>cases d
   | succ n=>exact IZ (λf a H y w=>Lm.2 ⟨n,w⟩) _ _ _ _ d
  .intro h
   cases f with
   | ac l=>
    have h:Kg C A (sD C A) l args H=some x:=h;obtain⟨r,D,c,q,y,B,b,k,e,m,o,v,p,s,t,u⟩:=Nf.1 h;have j:Iz (λ_=>M1) M1:=⟨⟨λ_ _ _ _ h=>h,λ_ _ _ h=>⟨0,h⟩⟩,λi=>⟨λ_ _ _ _ h=>h,λ_ _ _ h=>⟨0,h⟩⟩,⟨λ_ _ _ _ h=>h,λ_ _ _ h=>⟨0,h⟩⟩⟩;obtain⟨n,d⟩:=(Ud ziz _ _ _ j).c _ _ _ p;exact Lm.2 ⟨n+1,Nf.2 ⟨r,D,c,q,y,B,b,k,e,m,o,v,d,s,t,u⟩⟩
   | aa f=>
   have h:tW C A (sD C A) f args H=some x:=h;unfold tW at h;rw[mA]at h;obtain⟨c,k,h⟩:=h;rw[mA]at h;obtain⟨E,e,h⟩:=h;rw[mA]at h;obtain⟨g,m,h⟩:=h;obtain⟨n,d⟩:=zkk ziz h;refine Lm.2 ⟨n+1,?_⟩;show tW C A (Hq C A n) f args H=some x
   grind [tW,lA]
 cases h:sD C A f args H with
 | some x=>grind
 | none=>
  cases e:Ka C A (sD C A) f args H with
  | none=>rfl
  | some x=>simp_all
def Bx(C:fA)(A:G bC):Prop:=∀f c,A.c f=some c->∃a,C.d.c f=some a/\a.body=some (bE c)
def YL{f:Nat}{args:List O}{g:pC}(h:xM C f args false=some g):∃fn c,C.d.c f=some fn/\fn.body=some c/\g.a=[.a c]/\g.R=⟨f,fn.ntmps,[],.ah,false,none⟩:=by
 grind [xM,mA,qB]
def Xl{c d:Type}{f g:c->Option d}:∀(l:List c) {r:List d},(∀a b,f a=some b->g a=some b)->jH f l=some r->jH g l=some r:=by
 intro l;induction l with
 | nil=>intro r _ h;exact h
 | cons a l e=>
  grind [iQ,mA]
def yV(C:fA)(f:Nat)(acs:List pC)(fl:Bool:=false):Bw:=λb o x=>∃a,o=.aa ⟨a,acs,x.2⟩/\uT C f b a x.2 x.1 fl
def WT{H:sA}{tm:Tm}{r:Nat}{d e:Option (List kI)}(m:H.t.c r=some (.ah d)):∀(l:List ResultVar) i,Af C H tm l=some i->Af C (A7 H r (.ah e)) tm l=some i:=by
 intro l i h;refine Xl l (λq v h=>?_) h
 cases q with
 | tmp t=>exact h
 | cell a t=>
  have h:(ob (ob (tm.a a) O.ah) λp=>ob (C.b.c t) λb=>ob (eD H p.1) λc=>dV b c.1 p.2)=some v:=h;show(ob (ob (tm.a a) O.ah) λp=>ob (C.b.c t) λb=>ob (eD (A7 H r (.ah e)) p.1) λc=>dV b c.1 p.2)=some v;simp only[mA]at h ⊢;obtain⟨p,k,b,n,c,g,o⟩:=h;refine⟨p,k,b,n,c,?_,o⟩;unfold eD at g ⊢;rw[mA]at g ⊢;obtain⟨y,f,j⟩:=g;refine⟨y,?_,j⟩;show(H.t.d r (.ah e)).c p.1=some y;rw[G.aa,A3 λe=>by rw[e,m]at f;cases f;cases j]
  exact f
def uT.a{f:Nat}{ds:List kI}{a:pC}{H:sA}{o:lI}{fl:Bool}(h:uT C f ds a H o fl)(b:o.p=false):Mf C f ds a H o.v fl:=by
 unfold uT at h;rwa [b,A3 (by simp)]at h
def uT.b{f:Nat}{ds:List kI}{a:pC}{H:sA}{o:lI}{fl:Bool}(h:Mf C f ds a H o.v fl)(b:o.p=false):uT C f ds a H o fl:=by
 unfold uT;rwa [b,A3 (by simp)]
def Yo{f N:Nat}{acs:List pC}{fl:Bool}(q:∃fn,C.d.c f=some fn):Pv C (yV C f acs fl) (λ_=>True) f N none acs fl:=by
 refine⟨?_,λ_ _=>trivial,?_,λe b p x _ m=>⟨_,rfl,by unfold uT;rw[A5 m];exact⟨⟨rfl,rfl,rfl,rfl⟩,q⟩⟩⟩
 .rintro e b p H x ⟨h,j,d⟩;cases j;unfold uT at d;split at d
  .have:=d.1.1;cases this
  .have:=d.1;cases this
 .rintro _ r e o x m ⟨h,rfl,D⟩ k;obtain⟨j,d,s,t,fn,l,A,u,B⟩:=D.a m;obtain⟨b,p,g,n,i,v,a,c⟩:=h;simp only at j d s t u;subst j d s t;have E:x.2.t.c r=some (.ah (some [])):=by
   unfold Bh at k;rw[qB,mA]at k;obtain⟨_,y,w,z⟩:=k;cases y<;>cases z;exact w
  refine⟨_,.ac ?_,⟨⟨b,p,⟨g,n,e,.aa,a,c⟩⟩,rfl,uT.b ⟨rfl,rfl,rfl,rfl,fn,l,A,WT E _ _ u,B⟩ m⟩⟩;show dM C (Jv C ⟨none,r,[]⟩ e ⟨b,p,⟨g,n,⟨none,r,[]⟩::e,.aa,a,c⟩⟩ acs x.2) _;unfold Jv;simp only[k,lA];exact .aa _
def Tw{f:Nat}{fn:Func}{acs:List pC}{x:lI × sA}{ds:List kI}{fl:Bool}(d:C.d.c f=some fn){tm:Tm}{H:sA}(h:nZ C fn tm H=some x){a:List yF}{N:Nat}
  (e:sW C a tm (RR f N none ds fl) acs H=.aa ⟨Ee ⟨a,tm,RR f N none ds fl⟩ .aa,acs,H⟩):B6 C (yV C f acs fl) ds (.aa ⟨⟨a,tm,RR f N none ds fl⟩,acs,H⟩) x:=by
 unfold nZ at h;rw[mA]at h;obtain⟨l,b,c⟩:=h;cases c;refine .a ?_;rw[sK rfl,e];exact⟨_,.aa _,_,rfl,uT.b ⟨rfl,rfl,rfl,rfl,fn,l,d,b,rfl⟩ rfl⟩
def RdG (l:Nat)(c:pC):lI × sA->Prop:=λx=>∃b d a,x.1=⟨.d b,false⟩/\rK x.2 l=some d/\fI c (.d b)=some a
def V9(l:Nat)(c:pC)(acs:List pC):Bw:=λ_ o x=>∃b d a,x.1=⟨.d b,false⟩/\rK x.2 l=some d/\fI c (.d b)=some a/\o=.aa ⟨a,acs,A7 x.2 l (.ac (eP b d))⟩
def zfo{l b:Nat}(h:b≠l)(t:G uA)(x y:uA):(t.d l x).d b y=(t.d b y).d l x:=G.ay t _ _ _ _ (λe=>h e.symm)
def zco{C:fA}{φ:fF}{all:Array Oper}{n:Nat}{j:Tm->sA->wC}{b:Nat}{K f:yP}:∀(l:List Oper) (tm:Tm) (H:sA) (x:lI × sA),Ho l=true->b<H.a->H.t.c b=some (.ac K)->lO C φ all n j l tm (A7 H b (.ac f))=some x →
  ∃tm' H',j tm' (A7 H' b (.ac f))=some x/\b<H'.a/\H'.t.c b=some (.ac K)/\∀(k:List yF) (R:eL) (cs:List pC),R.n=n->nO C all k R cs l tm H=Q6 k tm' R cs H':=by
 intro l;induction l with
 | nil=>intro tm H x _ z A h;exact⟨tm,H,h,z,A,λ_ _ _ _=>rfl⟩
 | cons o l ih=>
  intro tm H x r M L h;have r:(bif (match o.op with | .move _=>dE o.guard | .assign _=>dE o.guard | .alloc _=>dE o.guard | .store _ _ _=>dE o.guard | _=>false)then Ho l else false)=true:=r
  have d:(match o.op with | .move _=>dE o.guard | .assign _=>dE o.guard | .alloc _=>dE o.guard | .store _ _ _=>dE o.guard | _=>false)=true:=by
   simp_all
  rw[d]at r;have r:Ho l=true:=r;have X:cG o.guard all tm=some true:=by
   have:dE o.guard=true:=by cases D:o.op<;>rw[D]at d<;>first | exact d | (cases d;done)
   cases Z:o.guard with
   | none=>rfl
   | some g=>rw[Z]at this;cases this
  rw[Hp,X,lA,A5 rfl]at h;have J:∃v H',(iF o.op).f C (.b tm) (A7 H b (.ac f))=.aa v (A7 H' b (.ac f))/\(iF o.op).f C (.b tm) H=.aa v H'/\b<H'.a/\H'.t.c b=some (.ac K):=by
   cases D:o.op<;>rw[D]at d h<;>try (cases d;done)
   case move u=>
    have e:∀H,(iF (.move u)).f C (.b tm) H=lv (fS u) C (.b tm) H:=λ_=>rfl;rw[e]at h
    cases I:ev u (.b tm)with
    | none=>
     have:lv (fS u) C (.b tm) (A7 H b (.ac f))=.ac:=by unfold lv fS;rw[I]
     rw[this]at h;cases h
    | some v=>grind [lv,fS]
   case assign u=>
    have e:∀H,(iF (.assign u)).f C (.b tm) H=lv (fS u) C (.b tm) H:=λ_=>rfl;rw[e]at h
    cases I:ev u (.b tm)with
    | none=>
     have:lv (fS u) C (.b tm) (A7 H b (.ac f))=.ac:=by unfold lv fS;rw[I]
     rw[this]at h;cases h
    | some v=>grind [lv,fS]
   case alloc t=>
    have e:∀H,(iF (.alloc t)).f C (.b tm) H=kN (ob (C.b.c t) λi=>some (.j H.a 0,sG H i.c (bL C t))):=λ_=>rfl;rw[e]at h
    cases F:C.b.c t with
    | none=>rw[F]at h;cases h
    | some i=>
     refine⟨.j H.a 0,sG H i.c (bL C t),?_,by rw[e,F];rfl,Nat.lt_succ_of_lt M,?_⟩
     .rw[e,F];show pM.aa (.j H.a 0) (sG (A7 H b (.ac f)) i.c (bL C t))=_;congr 1;show(⟨H.a+1,(H.t.d b _).d H.a _⟩:sA)=⟨H.a+1,(H.t.d H.a _).d b _⟩;rw[zfo (by omega)]
     .show(H.t.d H.a _).c b=_;rw[G.aa,A3 (by omega),L]
   case store t a u=>
    have e:∀H,(iF (.store t a u)).f C (.b tm) H=kN (ob (C.b.c t) λi=>ob (ev a (.b tm)) λa=>ob a.ah λp=>ob (ev u (.b tm)) λv=>sB (Nat.beq (vB v.s) i.b) (ob (gK C H p.1 p.2 v.s) λH'=>some (aD,H'))):=λ_=>rfl;rw[e]at h
    cases s:(ob (C.b.c t) λi=>ob (ev a (.b tm)) λa=>ob a.ah λp=>ob (ev u (.b tm)) λv=>sB (Nat.beq (vB v.s) i.b) (ob (gK C (A7 H b (.ac f)) p.1 p.2 v.s) λH'=>some (aD,H')))with
    | none=>rw[s]at h;cases h
    | some q=>
     have E:=s;simp only[mA,qB]at s;obtain⟨i,z,a',A,p,S,v,T,U,H1,B,W⟩:=s;unfold gK at B;simp only[mA,qB]at B;obtain⟨N,c,w,P,Q⟩:=B;have m:p.1≠b:=by
      intro e;unfold eD at w;have:(A7 H b (.ac f)).t.c p.1=some (.ac f):=by
       show(H.t.d b _).c p.1=_;rw[G.aa,A5 e]
      rw[this,lA]at w;cases w
     have y:eD H p.1=some c:=by
      grind [eD,A7,G.aa]
     refine⟨aD,A7 H p.1 (.aa (c.1.am v.s p.2) c.2.1 c.2.2),?_,?_,M,?_⟩
     .rw[e,E,<- W,<- D9 Q];show pM.aa aD (A7 (A7 H b (.ac f)) p.1 _)=_;congr 1;show(⟨H.a,(H.t.d b _).d p.1 _⟩:sA)=⟨H.a,(H.t.d p.1 _).d b _⟩;rw[zfo m]
     .rw[e,z,lA,A,lA,S,lA,T,lA,U];unfold gK;rw[N,y];simp only[lA];rw[P];rfl
     .show(H.t.d p.1 _).c b=_;rw[G.aa,A3 (λe=>m e.symm),L]
  obtain⟨v,H',k1,k2,k3,k4⟩:=J;rw[k1]at h;have h:fN C o.type v (λv=>lO C φ all n j l (By n tm o.dst v) (A7 H' b (.ac f)))=some x:=h
  grind [jS,Hi,pM.a]
def zcn{C:fA}{φ:fF}{fn n:Nat}{m:Kt}{c:bC}{b:Nat}{t j:yP}:∀(a:List (Nat × Array Oper)) (tm:Tm) (H:sA) (x:lI × sA),Ww a=true->b<H.a->H.t.c b=some (.ac t)->wE C φ fn n (U0 c a) m tm (A7 H b (.ac j))=some x →
  ∃tm' H',wE C φ fn n c m tm' (A7 H' b (.ac j))=some x/\H'.t.c b=some (.ac t)/\∀(k:List yF) (R:eL) (cs:List pC),R.n=n->R.a.a=true->dM C (.aa ⟨⟨.a (Q7 a)::k,tm,R⟩,cs,H⟩) (.aa ⟨⟨k,tm',R⟩,cs,H'⟩):=by
 intro a;induction a with
 | nil=>intro _ _ _ h;cases h
 | cons z a F=>
  intro tm H x s E D h;have s:(bif Ho z.2.toList then nD (λx=>Ho x.2.toList) a else false)=true:=s;have g:Ho z.2.toList=true:=by simp_all
  have h:lO C φ z.2 n (wE C φ fn n (U0 c a) m) z.2.toList tm.b (A7 H b (.ac j))=some x:=h;obtain⟨d,o,p,B,q,r⟩:=zco _ _ _ _ g E D h
  cases a with
  | nil=>
   refine⟨d,o,p,q,λk R cs e f=>.ac ?_⟩;rw[sK f];show dM C (nO C z.2 k R cs z.2.toList tm.b H) _;rw[r _ _ _ e];exact .aa _
  | cons w a=>
   have i:Ww (w::a)=true:=by
    show nD (λx=>Ho x.2.toList) (w::a)=true
    simp_all
   obtain⟨l,u,v,y,A⟩:=F d o x i B q p;refine⟨l,u,v,y,λk R cs e f=>.ac ?_⟩;rw[sK f];show dM C (nO C z.2 (.a (Q7 (w::a))::k) R cs z.2.toList tm.b H) _;rw[r _ _ _ e];exact A _ _ _ e f
def WQ{φ:fF}(v:cU C φ){l:Nat}{args:List O}{H:sA}{x:lI × sA}(h:Kg C A φ l args H=some x) :
  ∃r tm,rK H l=some r/\Ed r.n r.b args r.h=some tm/\x.1.p=false/\∀c acs c',fI c x.1.v=some c'->dM C (.aa ⟨CK r l tm,c::acs,H⟩) (.aa ⟨c',acs,x.2⟩):=by
 obtain⟨r,tm,cc,q,y,f,b,m,F,h3,h4,⟨⟨S,T,q3,U,W,X⟩,u⟩,s,I,J,rfl⟩:=Nf.1 h;refine⟨r,tm,m,F,rfl,λc acs c' t=>?_⟩;have Q:H.t.c l=some (.ac r):=by
  unfold rK at m;rw[qB,mA]at m;obtain⟨_,y,D,E⟩:=m;cases y<;>cases E;exact D
 have z:256<=l:=by
  grind [rK,qB,mF]
 have s:wE C φ r.g r.n (U0 q.c q.a) M1 tm (A7 H l (.ac (Lv r)))=some y:=s;obtain⟨a,g,K,R,L⟩:=zcn _ _ _ _ W u Q s;have p:rK g l=some r:=by
  grind [rK]
 unfold CK;rw[S,T];refine(L [.b,.a (bE q.c)] _ _ rfl rfl).d (.ac ?_);show dM C (sW C (.b::[.a (bE q.c)]) a ⟨r.g,r.n,[],.ah,false,some l⟩ (c::acs) g) _;have P:sW C (.b::[.a (bE q.c)]) a ⟨r.g,r.n,[],.ah,false,some l⟩ (c::acs) g=.aa ⟨⟨[.a (bE q.c)],a,RR r.g r.n (some l) []⟩,c::acs,A7 g l (.ac (Lv r))⟩:=by
  show Qg C [.a (bE q.c)] a _ (c::acs) g=_;unfold Qg;simp only[lA];rw[p,lA,U];rfl
 rw[P];have t:fI c (.d b)=some c':=t;have M:Pv C (V9 l c acs) (RdG l c) r.g r.n (some l) (c::acs):=by
  refine⟨?_,λe=>(by cases e),λe=>(by cases e),?_⟩
  .rintro d k tm H x ⟨b,f,c',_,_,_,e⟩
   simp_all
  .rintro d k tm x ⟨b,f,c',e,_,_⟩ hp
   simp_all
 have N:Pp C (V9 l c acs) (RdG l c) r.g r.n (some l) (c::acs) M1 []:=by
  refine⟨?_,λ_ _ _ _ _ _ h=>(by cases h),?_⟩
  .rintro d x tm H ⟨b,f,c',o,i,j⟩ h;cases h;cases o;refine .a ?_;rw[sK rfl];have:sW C [] tm (RR r.g r.n (some l) d) (c::acs) H=.aa ⟨c',acs,A7 H l (.ac (eP true f))⟩:=by
    have n:sW C [] tm (RR r.g r.n (some l) d) (c::acs) H=nX none C ⟨[],tm,RR r.g r.n (some l) d⟩ (c::acs) H:=rfl;rw[n];unfold nX;simp only[i,lA];show dN (ob (fI c (.d true)) _) 7=_;rw[j];rfl
   rw[this];exact⟨_,.aa _,true,f,c',rfl,i,j,rfl⟩
  .rintro d x tm H ⟨b,f,c',o,i,j⟩ h w;cases h;cases o;refine .a ?_;rw[sK rfl];have:sW C (.a .ret::w) tm (RR r.g r.n (some l) d) (c::acs) H=.aa ⟨c',acs,A7 H l (.ac (eP false f))⟩:=by
    have n:sW C (.a .ret::w) tm (RR r.g r.n (some l) d) (c::acs) H=nX (some .ret) C ⟨.a .ret::w,tm,RR r.g r.n (some l) d⟩ (c::acs) H:=rfl;rw[n];unfold nX;simp only[i,lA];show dN (ob (fI c (.d false)) _) 7=_;rw[j];rfl
   rw[this];exact⟨_,.aa _,false,f,c',rfl,i,j,rfl⟩
 obtain⟨o',k1,b',Z,B,k2,k3,k4,rfl⟩:=Zf v M q.c M1 [] (Or.inr X) N [] y a _ ⟨b,f,c',J,I,t⟩ K
 simp_all
theorem KK{c:bC}{i:Nat}{o:Array Oper}(h:R7 c=some (i,o)):bE c=.region i o false:=by
 cases c with
 | aa b a d=>cases d<;>cases h;rfl
 | aw p c=>
  cases c with
  | aa b a d=>cases d<;>cases h;rfl
  | _=>cases h
 | _=>cases h
def zan{c:bC}{q:oT}(h:sn c=some q):bE c=.seq (.region q.f q.c false) (.seq (.region q.i6 q.b false) .ret)/\ck q.c.toList=some (q.d,q.a,q.e):=by
 unfold sn at h;grind [mA,bE,KK]
def Tn(l:List bC)(e:Code):Code:=List.rec (motive:=λ_=>Code) e (λa _ g=>.seq (bE a) g) l
def WC:∀(c:bC) {l:List bC} {q:oT},Ab c=some (l,q)->bE c=Tn l (.seq (.region q.f q.c false) (.seq (.region q.i6 q.b false) .ret))/\ck q.c.toList=some (q.d,q.a,q.e):=by
 intro c;induction c with
 | ak a b _ i=>
  intro l q h;have h:(match sn (.ak a b)with | some q=>some ([],q) | none=>ob (Ab b) λp=>some (a::p.1,p.2))=some (l,q):=h
  split at h
  .rename_i d;cases h;exact zan d
  .rw[mA]at h;obtain⟨p,d,g⟩:=h;cases g;obtain⟨e,f⟩:=i d;exact⟨by show Code.seq (bE a) (bE b)=_;rw[e];rfl,f⟩
 | _=>intro l q h;cases h
def zkc{c:bC}{q:U1}(h:co c=some q):bE c=.seq (.region q.i q.o false) (bE q.c)/\N1 q.o.toList=some (q.d,q.e):=by
 unfold co at h;grind [mA,bE,KK]
def zjt{l:List Oper}{d cl:Nat}{f:List Operand}(h:ck l=some (d,cl,f)):∃b c t p a e t' g a',l=[⟨some d,.makeFunc (.func cl) b c,t,p,a,none⟩,⟨none,.defer e,t',g,a',none⟩]/\b.toList=[]/\c.toList=f/\e.callee=.value (.tmp d)/\e.args.toList=[]:=by
 unfold ck at h;grind [zD]
def zfy{l:List Oper}{d e:Nat}(h:N1 l=some (d,e)):∃b t p a t' c a',l=[⟨some d,.call b,t,p,a,none⟩,⟨some e,.assign (.tmp d),t',c,a',none⟩]/\b.callee=.builtin .recover:=by
 unfold N1 at h;grind [zD]
def XI{φ:fF}(i:cU C φ){E:Bw}{ds:List kI}{x:lI × sA}{R:eL}{acs:List pC}{k:List yF}{all:Array Oper}{N:Nat}{I:Tm->Prop}(d:R.a.a=true)(u:R.n=N)(y:∀l tm,I tm->x.1.p=true->E ds (.aa ⟨Ah ⟨.h all l::k,tm,R⟩ [⟨x.1.v,false⟩],acs,x.2⟩) x){b:Tm->sA->wC}(g:∀tm H,I tm->b tm H=some x->B6 C E ds (.aa ⟨⟨k,tm,R⟩,acs,H⟩) x) :
  ∀(l:List Oper) (tm:Tm) (H:sA),(∀o∈l,∀tm v,I tm->I (By N tm o.dst v))->I tm->lO C φ all N b l tm H=some x->B6 C E ds (nO C all k R acs l tm H) x:=by
 intro l;induction l with
 | nil=>exact λtm H _ c h=>g tm H c h
 | cons o l j=>
  intro tm H n c h;have f:=λtm v h=>n o C7 tm v h;have j:=λtm H=>j tm H λo z=>n o (C9 _ z);rw[Hp,mA]at h;obtain⟨w,t,h⟩:=h;rw[Hi,t]
  cases w with
  | false=>
   simp_all
  | true=>
   rw[A5 rfl]at h;simp only[];generalize (iF o.op).f C (.b tm) H=r at h
   cases q:r.a with
   | some p=>
    have e:r=.aa p.1 p.2:=by cases r<;>simp[pM.a]at q;rw[<- q]
    grind [fH,jS]
   | none=>
    simp only[if_true];refine CM i h (λv A s a m=>?_) (λv=>⟨⟨.h all l::k,By R.n tm o.dst v,R⟩,by unfold fI;simp only[d,cond_true];rfl⟩) (Ae d) (y _ _ c);unfold fI at a;simp only[d,cond_true]at a;have a:some (⟨.h all l::k,By R.n tm o.dst v,R⟩:pC)=some s:=a;cases a;refine .a ?_;rw[sK d,u];rw[jS]at m;exact j _ _ (f _ _ c) m.2
def cutK{n:Nat}{tm:Tm}{d:Nat}{v:O}(h:tm.k<=d):(By n tm (some d) v).b=tm.b:=by
 show(Nn d n tm v).b=_;unfold Nn;simp only[bD];split
 .unfold Tm.c;rw[uM,A3 (by simp_all)];rfl
 .rfl
def zjs{l:List Oper}{d cl:Nat}{j:List Operand}{b:List O}(h:ck l=some (d,cl,j)){tm:Tm}{H:sA}(A:eQ j (.b tm)=some b){f n:Nat}{ds:List kI}{acs:List pC}{k:List yF}{all:Array Oper}(x:d<n) :
  nO C all k (RR f n none ds) acs l tm H=.aa ⟨⟨.h all []::k,By n tm (some d) (.q (.aa cl) [] b),RR f n none (⟨some (.aa cl),0,b⟩::ds)⟩,acs,H⟩:=by
 obtain⟨g,i,t,p,a,q,D,B,y,rfl,r,s,m,o⟩:=zjt h;subst s;obtain⟨z,c,e⟩:=q;simp only at m o;subst m;have u:(iF (.makeFunc (.func cl) g i)).f C (.b tm) H=.aa (.q (.aa cl) [] b) H:=by
  show lv (Oc cl g i) C (.b tm) H=_;unfold lv Oc;rw[r];show(match ob (some []) _ with | some v=>pM.aa v H | none=>.ac)=_
  simp_all
 have w:(iF (.defer ⟨.value (.tmp d),c,e⟩)).f C (.b (By n tm (some d) (.q (.aa cl) [] b))) H=.ah ⟨some (.aa cl),0,b⟩:=by
  show Eg (ob (pV (.tmp d) c (.b (By n tm (some d) (.q (.aa cl) [] b)))) λp=>some (.ah ⟨some p.1,0,oE p.2.1 p.2.2⟩))=_;have:pV (.tmp d) c (.b (By n tm (some d) (.q (.aa cl) [] b)))=some (.aa cl,[],b):=by
   unfold pV;rw[o,show ev (.tmp d) (.b (By n tm (some d) (.q (.aa cl) [] b)))=(By n tm (some d) (.q (.aa cl) [] b)).a d from rfl,qK,A5 ⟨rfl,x⟩];rfl
  rw[this];rfl
 rw[Hi];show(match ((iF (.makeFunc (.func cl) g i)).f C (.b tm) H).a with | some p=>_ | none=>_)=_
 rw[u];show nO C all k (RR f n none ds) acs _ (By n tm (some d) (.q (.aa cl) [] b)) H=_;rw[Hi];show(match ((iF (.defer ⟨.value (.tmp d),c,e⟩)).f C (.b (By n tm (some d) (.q (.aa cl) [] b))) H).a with | some p=>_ | none=>_)=_
 rw[w];rfl
def WX{φ:fF}{E:Bw}{l:List Oper}{d e:Nat}(h:N1 l=some (d,e)){tm:Tm}{H:sA}{f n:Nat}{ds:List kI}{acs:List pC}{k:List yF}{all:Array Oper}{x:lI × sA}(I:d<n){c c':pC}{v:O}
  (F:(c.R.a=.aa/\v=.x/\c'=c)\/(c.R.a=.ac [⟨v,false⟩]/\c'=Ee c (.ac [⟨v,true⟩]))) (N:B6 C E ds (.aa ⟨⟨k,By n (By n tm (some d) v) (some e) v,RR f n none ds true⟩,c'::acs,H⟩) x) :
  B6 C E ds (nO C all k (RR f n none ds true) (c::acs) l tm H) x:=by
 obtain⟨z,t,p,a,q,o,i,rfl,y⟩:=zfy h;obtain⟨J,b,g⟩:=z;simp only at y;subst y;have L:(iF (.call ⟨.builtin .recover,b,g⟩)).f C (.b tm) H=.aj:=rfl;rw[Hi];have M:nO C all k (RR f n none ds true) (c'::acs) [⟨some e,.assign (.tmp d),q,o,i,none⟩] (By n tm (some d) v) H=.aa ⟨⟨k,By n (By n tm (some d) v) (some e) v,RR f n none ds true⟩,c'::acs,H⟩:=by
  rw[Hi];show(match ((iF (.assign (.tmp d))).f C (.b (By n tm (some d) v)) H).a with | some p=>_ | none=>_)=_
  have:(iF (.assign (.tmp d))).f C (.b (By n tm (some d) v)) H=.aa v H:=by
   show lv (fS (.tmp d)) C (.b (By n tm (some d) v)) H=_;unfold lv fS;rw[show ev (.tmp d) (.b (By n tm (some d) v))=(By n tm (some d) v).a d from rfl,qK,A5 ⟨rfl,I⟩]
  rw[this];rfl
 have D:Rv C ⟨.h all (⟨some d,.call ⟨.builtin .recover,b,g⟩,t,p,a,none⟩::[⟨some e,.assign (.tmp d),q,o,i,none⟩])::k,tm,RR f n none ds true⟩ (c::acs) H=.aa ⟨⟨.h all [⟨some e,.assign (.tmp d),q,o,i,none⟩]::k,By n tm (some d) v,RR f n none ds true⟩,c'::acs,H⟩:=by
  obtain⟨u,B,A,K,j,s,w,r⟩:=c;rcases F with⟨m,rfl,rfl⟩ | ⟨m,rfl⟩
  .simp only at m;subst m;rfl
  .simp only at m;subst m;rfl
 show B6 C E ds (Rv C ⟨.h all (⟨some d,.call ⟨.builtin .recover,b,g⟩,t,p,a,none⟩::[⟨some e,.assign (.tmp d),q,o,i,none⟩])::k,tm,RR f n none ds true⟩ (c::acs) H) x;rw[D];refine .a ?_;rw[sK rfl];show B6 C E ds (nO C all k (RR f n none ds true) (c'::acs) [⟨some e,.assign (.tmp d),q,o,i,none⟩] (By n tm (some d) v) H) x
 simp_all
def YY(I:Bx C A){φ:fF}(k:cU C φ){cl:Nat}{a:List O}{v:O}{H:sA}{y:lI × sA}{acs:List pC}{c c':pC}
  (K:(c.R.a=.aa/\v=.x/\c'=c)\/(c.R.a=.ac [⟨v,false⟩]/\c'=Ee c (.ac [⟨v,true⟩]))) (h:qW C A φ cl a v H=some y) (M:y.1.p=false) :
  C.c.c cl=none/\∃g,xM C cl a true=some g/\∃b,dM C (.aa ⟨g,c::acs,H⟩) (.aa ⟨b,c'::acs,y.2⟩)/\Mf C cl [] b y.2 y.1.v true:=by
 unfold qW at h;simp only[mA,qB,B3]at h;obtain⟨d,e,l,z,q,B,⟨o,D⟩,g,E,F⟩:=h;have j:C.c.c cl=none:=by
  cases L:C.c.c cl with
  | none=>rfl
  | some u=>rw[L]at o;cases o
 refine⟨j,g,E,?_⟩;obtain⟨r,n,S⟩:=I _ _ z;rw[e]at n;cases n;obtain⟨s,t⟩:=zkc B;have w:g.a=[.a (bE l)]/\g.R=⟨cl,d.ntmps,[],.ah,true,none⟩:=by
  grind [xM,mA,qB]
 obtain⟨U,f,T⟩:=g;obtain⟨rfl,rfl⟩:=w;have J:Pp C (yV C cl (c'::acs) true) (λ_=>True) cl d.ntmps none (c'::acs) (mR C d) [] true:=⟨λm x p H _ h=>Tw e h rfl,λm x i p H _ h=>(by cases h),λm x p H _ h W=>Tw e h rfl⟩;have N:=Zf k (Yo (fl:=true) ⟨d,e⟩) q.c (mR C d) [] (Or.inl rfl) J [] y _ H trivial F;have P:B6 C (yV C cl (c'::acs) true) [] (.aa ⟨⟨[.a (bE l)],f,RR cl d.ntmps none [] true⟩,c::acs,H⟩) y:=by
  refine .a ?_;rw[sK rfl,s];exact WX (φ:=φ) t (eC.1 D) K N
 obtain⟨X,Q,b,rfl,R⟩:=P;exact⟨b,Q,R.a M⟩
def zpf(hA:Bx C A){φ:fF}(S:cU C φ){cl:Nat}{b:List O}{v:O}{H:sA}{y:lI × sA}{acs:List pC}{c:pC}{ds:List kI}(Z:c.R.d=⟨some (.aa cl),0,b⟩::ds)
  (z:(c.R.a=.aa/\v=.x)\/c.R.a=.ac [⟨v,false⟩]) (h:qW C A φ cl b v H=some y) (hy:y.1.p=false) :
  dM C (.aa ⟨c,acs,H⟩) (.aa ⟨⟨c.a,c.b,⟨c.R.e,c.R.n,ds,.aa,c.R.b,c.R.c⟩⟩,acs,y.2⟩):=by
 obtain⟨d,p,o,s,w,j,k,a⟩:=c;simp only at Z z;subst Z;have hx:∀m:fZ,((m=.aa/\v=.x)\/m=.ac [⟨v,false⟩])->∀q:pC,q=(⟨d,p,⟨o,s,ds,m,k,a⟩⟩:pC)->∃i:pC,((q.R.a=.aa/\v=.x/\i=q)\/(q.R.a=.ac [⟨v,false⟩]/\i=Ee q (.ac [⟨v,true⟩])))/\∀f H,Mf C cl [] f H y.1.v true->pY C (.aa ⟨f,i::acs,H⟩)=.aa ⟨⟨d,p,⟨o,s,ds,.aa,k,a⟩⟩,acs,H⟩:=by
  intro m z q Q;subst Q;have B:∀(i:pC),i.R.a=.aa\/i.R.a=.ac [⟨v,true⟩]->∀f H,Mf C cl [] f H y.1.v true->pY C (.aa ⟨f,i::acs,H⟩)=.aa ⟨Ee i .aa,acs,H⟩:=by
   rintro i x f H ⟨J,K,L,M,fn,l,P,X,h7⟩;obtain⟨D,tm,a7,n,I,a1,t,T⟩:=f;obtain⟨F,W,U,a6,r,E,N,u⟩:=i;simp only at J K L M X x;subst J K L M;show Ju C ⟨D,tm,_⟩ (_::acs) H=_;unfold Ju;rw[P,lA,X];rcases x with rfl | rfl<;>rfl
  rcases z with⟨rfl,rfl⟩ | rfl
  .exact⟨_,.inl ⟨rfl,rfl,rfl⟩,λf H R=>B _ (.inl rfl) f H R⟩
  .exact⟨_,.inr ⟨rfl,rfl⟩,λf H R=>B _ (.inr rfl) f H R⟩
 obtain⟨i,J,K⟩:=hx j z _ rfl;obtain⟨hp,g,L,f,M,P⟩:=YY hA S (acs:=acs) J h hy;refine .ac ?_;have e:pY C (.aa ⟨⟨d,p,⟨o,s,⟨some (.aa cl),0,b⟩::ds,j,k,a⟩⟩,acs,H⟩)=.aa ⟨g,⟨d,p,⟨o,s,ds,j,k,a⟩⟩::acs,H⟩:=by
  have e1:pY C (.aa ⟨⟨d,p,⟨o,s,⟨some (.aa cl),0,b⟩::ds,j,k,a⟩⟩,acs,H⟩)=Jv C ⟨some (.aa cl),0,b⟩ ds ⟨d,p,⟨o,s,⟨some (.aa cl),0,b⟩::ds,j,k,a⟩⟩ acs H:=by
   rcases z with⟨rfl,_⟩ | rfl<;>rfl
  rw[e1];unfold Jv;simp only[];rw[hp];simp only[];rw[L];rfl
 rw[e];refine M.d (.ac ?_);rw[K _ _ P];exact .aa _
theorem WS{H:sA}{tm tm':Tm}:∀ {l:List ResultVar},(∀r∈l,∃a t,r=.cell a t/\tm'.a a=tm.a a)->Af C H tm' l=Af C H tm l:=by
 intro l;induction l with
 | nil=>exact λ_=>rfl
 | cons r l b=>
  intro h;obtain⟨a,t,rfl,d⟩:=h _ C7;have b:=b λr f=>h r (C9 _ f);show jH (qV C H tm') _=jH (qV C H tm) _;rw[iQ,iQ];have e:qV C H tm' (.cell a t)=qV C H tm (.cell a t):=by
   show(ob (ob (tm'.a a) O.ah) λp=>ob (C.b.c t) λg=>ob (eD H p.1) λc=>dV g c.1 p.2)=_;rw[d];rfl
  rw[e];have b:jH (qV C H tm') l=jH (qV C H tm) l:=b;rw[b]
def zch{l:List ResultVar}{b:List Oper}(h:Un l b=true):∀r∈l,∃a t,r=.cell a t/\∀o∈b,o.dst≠some a:=by
 unfold Un at h;rw[gI,C8]at h;intro r f;have:=h r f
 cases r with
 | tmp t=>cases this
 | cell a t=>
  refine⟨a,t,rfl,λo c e=>?_⟩;have this:nD (λo=>match o.dst with | some d => !Nat.beq d a | none=>true) b=true:=this
  rw[gI,C8]at this;have:=this o c
  simp_all
def VL(hA:Bx C A){φ:fF}(p:cU C φ){f:Nat}{fn:Func}{q:oT}(hf:C.d.c f=some fn)(hq:ck q.c.toList=some (q.d,q.a,q.e)){acs:List pC}{ds:List kI}{tm:Tm}{H:sA}{x:lI × sA}(h:vV C A φ fn q tm H=some x) :
  B6 C (yV C f acs) ds (.aa ⟨⟨[.a (.seq (.region q.f q.c false) (.seq (.region q.i6 q.b false) .ret))],tm,RR f fn.ntmps none ds⟩,acs,H⟩) x:=by
 unfold vV at h;simp only[qB,mA,B3]at h;obtain⟨⟨U,W,X⟩,b,Z,y,h5,j⟩:=h;have hc:=zch U
 let I:Tm->Prop:=λd=>∀r∈fn.results.toList,∃a t,r=.cell a t/\d.a a=tm.b.a a
 let D:kI:=⟨some (.aa q.a),0,b⟩
 let R:Bw:=λ_ o y=>if y.1.p=true then ∃g,o=.aa ⟨g,acs,y.2⟩/\g.R=⟨f,fn.ntmps,D::ds,.ac [⟨y.1.v,false⟩],false,none⟩/\I g.b else yV C f acs false ds o y
 have e:∀(c:pC) (H:sA) (v:O) (m:Tm) (z:lI × sA),c.R=⟨f,fn.ntmps,D::ds,c.R.a,false,none⟩->((c.R.a=.aa/\v=.x)\/c.R.a=.ac [⟨v,false⟩])->(∀r∈fn.results.toList,∃a t,r=.cell a t/\c.b.a a=m.a a)->pP C A φ fn q.a b v m H=some z->z.1.p=false/\∃k,dM C (.aa ⟨c,acs,H⟩) k/\yV C f acs false ds k z:=by
  intro c H v m z n E e3 F;unfold pP at F;rw[mA]at F;obtain⟨w,S,s⟩:=F;rw[qB]at s;unfold nZ at s;rw[mA]at s;obtain⟨e7,l,e8,T⟩:=s;cases T;have hd:c.R.d=D::ds:=by rw[n]
  have r1:=zpf hA p (acs:=acs) hd E S (by grind);refine⟨rfl,_,r1,_,rfl,uT.b ⟨rfl,rfl,by rw[n],by rw[n],fn,l,hf,?_,rfl⟩ rfl⟩
  grind [WS]
 refine .a ?_;rw[sK rfl];show B6 C (yV C f acs) ds (nO C q.c [.a (.seq (.region q.i6 q.b false) .ret)] (RR f fn.ntmps none ds) acs q.c.toList tm.b H) x;rw[zjs hq Z (eC.1 X)];refine .a ?_;rw[sK rfl];show B6 C (yV C f acs) ds (.aa ⟨⟨[.a (.seq (.region q.i6 q.b false) .ret)],By fn.ntmps tm.b (some q.d) (.q (.aa q.a) [] b),RR f fn.ntmps none (D::ds)⟩,acs,H⟩) x;refine .a ?_;rw[sK rfl];show B6 C (yV C f acs) ds (nO C q.b [.a .ret] (RR f fn.ntmps none (D::ds)) acs q.b.toList (By fn.ntmps tm.b (some q.d) (.q (.aa q.a) [] b)).b H) x
 rw[cutK (show tm.b.k<=q.d from mF.1 W)];have r6:B6 C R (D::ds) (nO C q.b [.a .ret] (RR f fn.ntmps none (D::ds)) acs q.b.toList tm.b.b H) y:=by
  refine XI p (I:=I) (N:=fn.ntmps) rfl rfl (λl d J u=>?_) (λd B J hy=>?_) _ _ _ (λo ho d v J r K=>?_) (λr K=>?_) h5
  .show if y.1.p=true then _ else _;rw[A5 u];exact⟨_,rfl,rfl,J⟩
  .have:pY C (.aa ⟨⟨[.a .ret],d,RR f fn.ntmps none (D::ds)⟩,acs,B⟩)=.aa ⟨⟨[.a .ret],d,⟨f,fn.ntmps,D::ds,.aa,false,none⟩⟩,acs,B⟩:=rfl;refine .a ?_;rw[this];obtain⟨z1,k,M,Q⟩:=e ⟨[.a .ret],d,⟨f,fn.ntmps,D::ds,.aa,false,none⟩⟩ B .x d y rfl (.inl ⟨rfl,rfl⟩) (λr K=>by grind) hy;refine⟨k,M,?_⟩
   grind
  .grind [qK]
  .obtain⟨a,t,rfl,_⟩:=hc r K;exact⟨a,t,rfl,rfl⟩
 obtain⟨k,P,i⟩:=r6;have i:if y.1.p=true then ∃g,k=.aa ⟨g,acs,y.2⟩/\g.R=⟨f,fn.ntmps,D::ds,.ac [⟨y.1.v,false⟩],false,none⟩/\I g.b else yV C f acs false ds k y:=i
 cases u:y.1.p with
 | false=>
  rw[u]at j i;rw[A3 (by simp)]at i;have j:some y=some x:=j;cases j;exact⟨k,P,i⟩
 | true=>
  rw[u]at j i;rw[A5 rfl]at i;have j:pP C A φ fn q.a b y.1.v tm.b y.2=some x:=j;obtain⟨g,rfl,n,E⟩:=i;obtain⟨_,L,M,Q⟩:=e g y.2 y.1.v tm.b x (by rw[n]) (.inr (by rw[n])) E j;exact⟨L,P.d M,Q⟩
def ZM(n:Bx C A){φ:fF}(e:cU C φ){f:Nat}{fn:Func}{c:bC}(d:C.d.c f=some fn){acs:List pC}{tm:Tm}{H:sA}{x:lI × sA}(h:Bn C A φ f fn c tm H=some x) :
  B6 C (yV C f acs) [] (.aa ⟨⟨[.a (bE c)],tm,RR f fn.ntmps none []⟩,acs,H⟩) x:=by
 unfold Bn at h;split at h
 .have g:Pp C (yV C f acs) (λ_=>True) f fn.ntmps none acs (mR C fn) []:=⟨λb x tm H _ h=>Tw d h rfl,λb x i tm H _ h=>(by cases h),λb x tm H _ h r=>Tw d h rfl⟩;exact Zf e (Yo ⟨fn,d⟩) c (mR C fn) [] (Or.inl rfl) g [] x tm H trivial h
 .rename_i p k;obtain⟨l,q⟩:=p;obtain⟨j,m⟩:=WC c k;rw[j];clear j k;have s:∀(l:List bC) b x tm H,wE C φ f fn.ntmps (Co l) (Hj C A φ fn q) tm H=some x->B6 C (yV C f acs) b (.aa ⟨⟨[.a (Tn l (.seq (.region q.f q.c false) (.seq (.region q.i6 q.b false) .ret)))],tm,RR f fn.ntmps none b⟩,acs,H⟩) x:=by
   intro l;induction l with
   | nil=>exact λb x tm H h=>VL n e d m h
   | cons a l o=>
    intro b x tm H h;refine Yu (Yo ⟨fn,d⟩) (t1:=[.a (Tn (a::l) _)]) rfl (t2:=.a (bE a)::[.a (Tn l (.seq (.region q.f q.c false) (.seq (.region q.i6 q.b false) .ret)))]) (λ_ _=>rfl) ?_;have g:Pp C (yV C f acs) (λ_=>True) f fn.ntmps none acs ⟨wE C φ f fn.ntmps (Co l) (Hj C A φ fn q),λ_ _ _=>none,nZ C fn⟩ [.a (Tn l (.seq (.region q.f q.c false) (.seq (.region q.i6 q.b false) .ret)))]:=
     ⟨λb x tm H _ h=>o b x tm H h,λb x i tm H _ h=>(by cases h),λb x tm H _ h r=>Tw d h rfl⟩
    exact Zf e (Yo ⟨fn,d⟩) a _ _ (Or.inl rfl) g b x tm H trivial h
  simp_all
def VZ(p:Bx C A){φ:fF}(b:cU C φ):cU C (Ka C A φ):=by
 refine⟨λf a H x h=>?_,λl a H x h=>WQ b h⟩;have h:tW C A φ f a H=some x:=h;unfold tW at h;rw[mA]at h;obtain⟨c,t,h⟩:=h;rw[mA]at h;obtain⟨v,e,h⟩:=h;rw[mA]at h;obtain⟨g,o,h⟩:=h;refine⟨g,o,λacs=>?_⟩;obtain⟨d,u,i,q,j,k⟩:=YL o;rw[e]at i;cases i;obtain⟨d,m,n⟩:=p f c t;rw[e]at m;cases m;rw[q]at n;cases n;obtain⟨y,s,w⟩:=g;simp only at j k h;subst j k;obtain⟨D,z,r,rfl,B⟩:=ZM p b e (acs:=acs) h
 grind
def MG(b:Bx C A):∀n,cU C (Hq C A n):=by
 intro n;induction n with
 | zero=>exact⟨λf a H x h=>(by cases h),λl a H x h=>(by cases h)⟩
 | succ n c=>exact VZ b c
def zi0(c:Bx C A):cU C (sD C A):=by
 refine⟨λf a H x h=>?_,λf a H x h=>?_⟩
 .obtain⟨n,b⟩:=Lm.1 h;exact(MG c n).a _ _ _ _ b
 .obtain⟨n,b⟩:=Lm.1 h;exact(MG c n).rd _ _ _ _ b
def ZD{P:Program}{B N:Nat}{I:World->Prop}{μ:Mu}{w:World}(j:rM P C B N I)(M:I w)(J:Bx C A){f:Nat}{args:List O}{args':Array Value}{H H':sA}{v:O}(L:lB B N μ H w)(R:bB μ args args'.toList)
  (h:sD C A (.aa f) args H=some (⟨v,false⟩,H')):Calls P f args' w λe w'=>∃v' a,e=.returned v'/\μ.l a/\rA a v v'/\lB B N a H' w'/\Below N w w':=by
 intro c;obtain⟨g,Q,S⟩:=(zi0 J).a _ _ _ _ h;obtain⟨t,W,K⟩:=S [];obtain⟨x,y,z,D,s,l,E,F,rfl⟩:=K.a rfl;have u:lE P C B N μ c (lone (Frame.enter P f args' .normal) c w) w (.aa ⟨g,[],H⟩):=BN j.a L R Q;obtain⟨a,b,cs,w',X,Z,s3,r,i,s6⟩:=lE.d j M W u;cases s6;have k:=i.c;rw[A3 (by grind [fZ.a])]at k;obtain⟨v',T,U⟩:=KF j.b r k F;have p:=i.a.e;rw[x]at p;have n:b.mode=.returning:=by
  cases k:b.mode with
  | returning=>rfl
  | _=>rw[k]at p;exact p.elim
 have o:=i.a.c;rw[y]at o;have m:b.defers=[]:=by
  generalize hx:b.defers=bd at o;cases o;rfl
 have q:=i.a.d;rw[z]at q;have d:b.fn=f:=by rw[i.a.i,D]
 exact⟨.returned v',w',b,⟨v',a,rfl,Z,U,r,s3⟩,X,d,n,m,q,s,by rw[d];exact(j.a _ _ E).1,T⟩
end
end
section
def oA(C:fA)(t:Nat)(H:sA)(v:O):Option O:=ob v.ah λp=>ob (C.b.c t) λa=>ob (eD H p.1) λc=>dV a c.1 p.2
def rS(C:fA)(s d:Nat)(H:sA)(a:O):Option O:=ob (C.b.c s) λs=>ob (C.b.c d) λd=>rW C s d a H
def aF(C:fA)(t:Nat)(H:sA)(a:O)(l h:Option O):Option O:=ob (C.b.c t) λb=>gP C H b a l h
def Qr(C:fA)(s f:Nat):Option Nat:=ob (C.b.c s) λc=>ob c.a.b λb=>ob (lD b f) λa=>sB (!Nat.beq a.2.2 0) (some a.1)
def jB(C:fA)(s f:Nat)(v:O):Option O:=ob (Qr C s f) λk=>ob v.ah λp=>some (.j p.1 (p.2+k))
def zC(C:fA)(t:Nat)(v i:O):Option O:=
 ob (C.b.c t) λc=>ob i.aj λi=>
  match v.u with
  | some s=>ob c.a.a λd=>ob (C.b.c d) λb=>sB (Nat.blt i s.2.2.1) (some (.j s.1 (s.2.1+i*b.b)))
  | none=>ob v.ah λp=>ob c.a.g λa=>ob (C.b.c a.2) λb=>sB (Nat.blt i a.1) (some (.j p.1 (p.2+i*b.b)))
def HS(C:fA)(t i:Nat):Option Nat:=ob (C.b.c t) λc=>ob c.a.g λa=>ob (C.b.c a.2) λb=>sB (Nat.blt i a.1) (some (i*b.b))
def mJ(C:fA)(t:Nat)(v i:O):Option O:=
 ob (C.b.c t) λc=>ob i.aj λi=>
  match v.w with
  | some s=>sB c.a.c (ob (lD s i) λb=>some (.e .u8 (.ofNat b)))
  | none=>ob v.ak λl=>ob c.a.g λa=>ob (C.b.c a.2) λd=>sB (Nat.blt i a.1) (eT C a.2 l (i*d.b))
def tK(i:Nat)(v:O):Option O:=ob v.ay λl=>lD l i
def tY (C:fA)(t:Nat)(H:sA)(v:O):Option O:=ob (C.b.c t) λa=>ob (dY H a v) λn=>some (.e .i64 (.ofNat n))
def vC(v:O):Option O:=
 match v.u with
 | some s=>some (.e .i64 (.ofNat s.2.2.1))
 | none=>sB (Nat.beq v.aa 5) (some (.e .i64 (.ofNat 0)))
def nR (v:O):Option O:=sB (Nat.beq v.aa 4||Nat.beq v.aa 9) (some v)
def Vr(C:fA)(u:Nat)(ok:Bool)(v:O):Option O:=
 ob (C.b.c u) λa=>sB (Nat.blt a.a.l 9) (
  match v.au with
  | some p=>bif Nat.beq p.1 u then some (bif ok then .p [p.2,.d true]else p.2)else sB ok (some (.p [Bz a,.d false]))
  | none=>sB (Nat.beq v.aa 12&&ok) (some (.p [Bz a,.d false])))
def Ci(C:fA)(t:Nat)(H:sA)(m k:O)(ok:Bool):Option O:=
 ob (C.b.c t) λe=>ob e.a.p λc=>ob (C.b.c c.1) λb=>sB (aY C b) (ob (C.b.c c.2) λa=>
  ob (Ak H m) λd=>sB (xW C b k) (ob (rN k d) λr=>
   match r with
   | some v=>some (bif ok then .p [v,.d true]else v)
   | none=>some (bif ok then .p [Bz a,.d false]else Bz a)))
def qL(C:fA)(t:Nat)(H:sA):Option (O × sA):=ob (C.b.c t) λa=>some (.j H.a 0,sG H a.c none)
def dL (v:O)(H:sA):Option (O × sA):=some (.j H.a 0,sG H v.s none)
def Js(C:fA)(t:Nat)(H:sA):Option (O × sA):=ob (C.b.c t) λa=>some (.j H.a 0,sG H a.c (bL C t))
def Mv(C:fA)(t:Nat)(v:O)(H:sA):Option (O × sA):=some (.j H.a 0,sG H v.s (bL C t))
def rD(C:fA)(t a:Nat)(ps:List (Nat × O))(H:sA):Option (O × sA):=
 ob (C.b.c t) λd=>ob d.a.a λc=>ob (C.b.c c) λb=>
  sB (Nat.blt (a*b.b) 1000000&&Nat.beq (vB b.c) b.b) (ob (yO (λi=>some (i*b.b,b.b)) ps (kJ b.c a)) λl=>some (.m H.a 0 a a,sG H l none))
def mC(C:fA)(t:Nat)(a v:O)(H:sA):Option (O × sA):=ob (C.b.c t) λc=>ob a.ah λp=>sB (Nat.beq (vB v.s) c.b) (ob (gK C H p.1 p.2 v.s) λb=>some (aD,b))
def Vq(H:sA):Option (O × sA):=some (.bc H.a,B2 H (.aj []))
def bW(C:fA)(t:Nat)(m k v:O)(H:sA):Option (O × sA):=
 ob (C.b.c t) λe=>ob e.a.p λc=>ob (C.b.c c.1) λa=>sB (aY C a)
  (ob m.az λb=>sB (!Nat.blt b C.a) (ob (pN H b) λl=>sB (xW C a k) (ob (lQ k v l) λd=>some (aD,A7 H b (.aj d)))))
def sS(C:fA)(t:Nat)(l c:O)(H:sA):Option (O × sA):=
 ob (C.b.c t) λd=>ob d.a.a λb=>ob (C.b.c b) λa=>ob l.aj λl=>ob c.aj λc=>
  sB (Nat.ble l c&&Nat.blt c 1000000&&Nat.blt (c*a.d) 1000000000&&Nat.beq (vB a.c) a.b) (some (.m H.a 0 l c,sG H (kJ a.c c) none))
def AR(C:fA)(s d:Nat)(v:O)(H:sA):Option (O × sA):=
 ob (C.b.c s) λ_=>ob (C.b.c d) λc=>ob c.a.a λa=>ob (C.b.c a) λb=>ob b.a.o λk=>sB (dP k .u8) (ob v.w λl=>
  some (.m H.a 0 (vB l) (vB l),sG H (De l) (some (.a a))))
def lG(C:fA)(t u:Nat)(a b:O)(H:sA):Option (O × sA):=ob (C.b.c t) λd=>ob (C.b.c u) λc=>sB (!Nat.beq c.a.l 1) (Br C H d a b)
def vNext(v:O)(H:sA):Option (O × sA):=ob v.ah λp=>sB (Nat.beq p.2 0) (ob (ob (H.t.c p.1) uA.f) λx=>
 match lD x.1 x.2 with
 | some c=>sB (Nat.blt c 128) (some (.p [.d true,.e .i64 (.ofNat x.2),.e .i32 (.ofNat c)],A7 H p.1 (.ak x.1 (x.2+1))))
 | none=>some (.p [.d false],H))
structure yH where
 b:Nat->Bool
 i:Nat->Int
 s:Nat->List Nat
 v:Nat->O
inductive T where
 | l (v:O)
 | g
 | a (b:Bool) (x y:T)
 | d (x:Option O) (K:O->T)
 | e (x:G uA->Option O) (K:O->T)
 | h (x:sA->Option (O × sA)) (K:O->T)
 | c (f:Nat) (args:List O) (K:O->T)
 | n (f:O) (args:List O) (K:O->T)
 | r (k:IntKind) (v:O) (K:Int->T)
 | q (v:O) (K:Bool->T)
 | s (v:O) (K:List Nat->T)
 | o (zs:List O) (v:O) (K:yH->T)
 | j (i:Nat) (vals:List O)
 | p (np:Nat->Bool) (f:O) (i m:Nat) (vals:List O) (K R:T)
def yo:Nat:=1099511627776
def pn:Nat:=1099511627775
def we(z:O)(X:yH)(j:Nat):O:=
 match z with
 | .d _=>.d (X.b j)
 | .e k _=>.e k (X.i j)
 | .h _=>.h (X.s j)
 | _=>X.v j
def qX(zs:List O)(X:yH):Nat->List O:=
 List.rec (motive:=λ_=>Nat->List O) (λ_=>[]) (λz _ g j=>we z X j::g (j+1)) zs
def Fz(l:List O)(j:Nat):Bool:=match l[j]? with | some (.d b)=>b | _=>false
def Tg(l:List O)(j:Nat):Int:=match l[j]? with | some (.e _ n)=>n | _=>0
def sq(l:List O)(j:Nat):List Nat:=match l[j]? with | some (.h s)=>s | _=>[]
def Gt(l:List O)(j:Nat):O:=match l[j]? with | some v=>v | _=>.y
def AN(l:List O):yH:=⟨Fz l,Tg l,sq l,Gt l⟩
def Bc (z a:O):Bool:=
 match z with
 | .d _=>Nat.beq a.aa 0
 | .e k _=>match a.ac with | some p=>dP p.1 k | none=>false
 | .h _=>Nat.beq a.aa 2
 | .y=>Nat.beq a.aa 3||Nat.beq a.aa 4
 | .g=>Nat.beq a.aa 5||Nat.beq a.aa 6
 | .ax=>Nat.beq a.aa 7||Nat.beq a.aa 8
 | .ap=>Nat.beq a.aa 10||Nat.beq a.aa 9
 | .x=>Nat.beq a.aa 12||Nat.beq a.aa 11
 | _=>false
def lU:List O->List O->Bool
 | [],[]=>true
 | z::b,a::l=>Bc z a&&lU b l
 | _,_=>false
structure vI where
 a:Tm
 d:List (Nat × Nat × Nat)
 b:G (List O)
 c:List Nat
abbrev KT:=vI->T
structure M2 where
 b:KT
 a:Nat->KT
 c:KT
def kC {a:Type}(x:Option a)(K:a->T):T:=Option.rec (motive:=λ_=>T) .g K x
def gM (b:Bool)(K:T):T:=Bool.rec (motive:=λ_=>T) .g K b
def uO(i:Nat)(l:List (Nat × Nat × Nat)):Option (Nat × Nat):=
 List.rec (motive:=λ_=>Option (Nat × Nat)) none (λa _ g=>Bool.rec (motive:=λ_=>Option (Nat × Nat)) g (some a.2) (Nat.beq i a.1)) l
inductive rR where
 | b (ad:List (Nat × Nat × Nat))
 | a (ad old:List (Nat × Nat × Nat)) (olds names:List Nat)
def tAd (e:rR)(t:Nat):Option (Nat × Nat):=
 match e with
 | .b c=>uO t c
 | .a c d b a=>bif yJ t a then uO t (bif yJ t b then d else c)else none
def U2 (e:rR)(x:Operand):Option (Nat × Nat):=
 match x with
 | .tmp t=>tAd e t
 | _=>none
def mN:sA:=⟨0,.aj⟩
def uJ (C:fA)(t:Nat):Nat:=
 match C.b.c t with
 | some a=>a.a.l
 | none=>10
def EI(x:Operand):Bool:=
 match x with
 | .const _=>true
 | _=>false
def zj1(x:Operand):Bool:=
 match x with
 | .const (.int _ n) => !kB n 0
 | _=>false
def ig(C:fA)(op:BinOp)(t:Nat)(y:Operand):Bool:=
 match op with
 | .add=>Nat.beq (uJ C t) 1
 | .sub=>true
 | .mul=>true
 | .quo=>zj1 y
 | .rem=>zj1 y
 | .shl=>EI y
 | .shr=>EI y
 | .eql=>Nat.ble (uJ C t) 2
 | .neq=>Nat.ble (uJ C t) 2
 | .lss=>Nat.ble (uJ C t) 2
 | .leq=>Nat.ble (uJ C t) 2
 | .gtr=>Nat.ble (uJ C t) 2
 | .geq=>Nat.ble (uJ C t) 2
 | _=>false
structure jP where
 K:O->T
 a:O->T
 b:Nat->Nat->T
def tV (C:fA)(op:Op)(e:mD)(k:jP):T:=kC ((jG op).f C e mN) k.a
def sr(C:fA)(op:Op)(x:Operand)(e:mD)(a:rR)(k:jP):T:=
 match U2 a x with
 | some p=>k.b p.1 p.2
 | none=>tV C op e k
def W0(C:fA)(t:Nat)(a:Operand)(e:mD)(b:rR)(lo:G (List O))(k:jP):T:=
 match U2 b a with
 | some p=>kC (lo.c p.1) λl=>kC (C.b.c t) λc=>gM (Nat.ble (p.2+c.b) (vB l)) (kC (eT C t l p.2) k.a)
 | none=>kC (ev a e) λv=>.e (λm=>oA C t ⟨0,m⟩ v) k.K
def IQ(C:fA)(s:Nat)(x:Operand)(f:Nat)(e:mD)(a:rR)(k:jP):T:=
 match U2 a x with
 | some p=>kC (Qr C s f) λo=>k.b p.1 (p.2+o)
 | none=>kC (ev x e) λv=>.d (jB C s f v) k.K
def IN(C:fA)(t:Nat)(x i:Operand)(e:mD)(a:rR)(k:jP):T:=
 match U2 a x with
 | some p=>kC (ev i e) λi=>kC i.aj λi=>kC (HS C t i) λo=>k.b p.1 (p.2+o)
 | none=>kC (ev x e) λv=>kC (ev i e) λi=>.d (zC C t v i) k.K
def nr (x:Operand)(e:mD)(a:rR)(k:jP):T:=
 match U2 a x with
 | some p=>k.b p.1 p.2
 | none=>kC (ev x e) λv=>.d (nR v) k.K
def ns (C:fA)(c:Call)(e:mD)(k:jP):T:=
 kC (lD c.argTypes.toList 0) λt=>kC (lD c.args.toList 0) λx=>kC (ev x e) λv=>
  bif Nat.beq (uJ C t) 4 then .d (vC v) k.K else bif Nat.beq (uJ C t) 6 then .e (λm=>tY C t ⟨0,m⟩ v) k.K else kC (tY C t mN v) k.a
def nt (C:fA)(op:BinOp)(t:Nat)(x y:Operand)(u:Nat)(e:mD)(k:jP):T:=
 bif ig C op t y then tV C (.binOp op t x y u) e k else kC (ev x e) λa=>kC (ev y e) λb=>.d ((dX op).f C t x y a b) k.K
def wg(C:fA)(s d:Nat)(x:Operand)(e:mD)(k:jP):T:=
 bif Nat.beq (uJ C d) 2 then(bif Nat.beq (uJ C s) 2 then tV C (.convert s d x) e k else kC (ev x e) λv=>.e (λm=>rS C s d ⟨0,m⟩ v) k.K)else bif Nat.beq (uJ C d) 1 then tV C (.convert s d x) e k else .g
def zqa(C:fA)(t:Nat)(x:Operand)(lo hi:Option Operand)(e:mD)(k:jP):T:=
 kC (ev x e) λa=>kC (I4 lo e) λl=>kC (I4 hi e) λh=>
  bif Nat.beq (uJ C t) 2 then .d (aF C t mN a l h) k.K else .e (λm=>aF C t ⟨0,m⟩ a l h) k.K
def Ra(C:fA)(c:Call)(e:mD)(k:jP):Builtin->T
 | .len=>ns C c e k
 | .max=>tV C (.call c) e k
 | .min=>tV C (.call c) e k
 | _=>.g
def Pd(ty:jD)(v:O):List O:=bif ty.a.h then v.s else [v]
def wh(a:List O)(off b:Nat)(c:List O):Option (List O):=
 sB (Nat.beq (vB c) b&&Nat.ble (off+vB c) (vB a)) (some (oE (Et a off) (oE c (tU a (off+vB c)))))
def wi(C:fA)(a:Nat->Option Nat):List (Nat × O)->Option (List (Nat × O × List O) × List O):=
 List.rec (motive:=λ_=>Option (List (Nat × O × List O) × List O)) (some ([],[]))
  (λp _ g=>ob (a p.1) λt=>ob (C.b.c t) λb=>ob g λr=>some (bif b.a.h then((p.1,p.2,p.2.s)::r.1,r.2)else((p.1,p.2,[p.2])::r.1,p.2::r.2)))
def ss(b:Nat->Option (Nat × Nat)):List (Nat × O × List O)->List O->Option (List O):=
 List.rec (motive:=λ_=>List O->Option (List O)) (λa=>some a) (λp _ g a=>ob (b p.1) λq=>ob (wh a q.1 q.2 p.2.2) λa=>g a)
def pf(ty:jD)(i:Nat):Option Nat:=
 match ty.a.b with
 | some b=>ob (lD b i) λx=>some x.2.1
 | none=>ob ty.a.g λa=>some a.2
def Nq(C:fA)(ty:jD)(i:Nat):Option (Nat × Nat):=
 match ty.a.b with
 | some c=>ob (lD c i) λx=>some (x.1,x.2.2)
 | none=>ob ty.a.g λa=>ob (C.b.c a.2) λb=>some (i*b.b,b.b)
def TJ(C:fA)(ty:jD):Bool:=
 match ty.a.b with
 | some _=>true
 | none=>match ty.a.g with
  | some a=>(match C.b.c a.2 with | some _=>true | none=>false)
  | none=>false
def zqc(C:fA)(t:Nat)(ps:Array (Nat × Operand))(e:mD)(k:jP):T:=
 kC (C.b.c t) λa=>gM (TJ C a) <| kC (I5 ps.toList e) λb=>kC (wi C (pf a) b) λq=>kC (ss (Nq C a) q.1 a.c) λl=>.a (nD O.z q.2) (k.a (.i l)) .g
def tL (C:fA)(op:Op)(e:mD)(g:rR)(lo:G (List O))(k:jP):T:=
 match op with
 | .move x=>sr C (.move x) x e g k
 | .assign x=>sr C (.assign x) x e g k
 | .load t a=>W0 C t a e g lo k
 | .fieldAddr s x f=>IQ C s x f e g k
 | .indexAddr t x i=>IN C t x i e g k
 | .nilCheck x=>nr x e g k
 | .binOp op t x y u=>nt C op t x y u e k
 | .convert s d x=>wg C s d x e k
 | .slice t x lo p none=>zqa C t x lo p e k
 | .index t x i=>bif EI i&&Nat.beq (uJ C t) 5 then tV C (.index t x i) e k else kC (ev x e) λv=>kC (ev i e) λi=>.d (mJ C t v i) k.K
 | .extract t i=>kC (ev t e) λv=>.d (tK i v) k.K
 | .typeAssert x _ u l=>kC (ev x e) λv=>.d (Vr C u l v) k.K
 | .lookup t x i l=>kC (ev x e) λm=>kC (ev i e) λj=>.e (λh=>Ci C t ⟨0,h⟩ m j l) k.K
 | .call c=>match c.callee with
  | .builtin b=>Ra C c e k b
  | _=>.g
 | .pick c a b=>tV C (.pick c a b) e k
 | .unOp o t x=>(match o with
  | .xor=>kC (ev x e) λv=>.d (Jt v) k.K
  | o=>tV C (.unOp o t x) e k)
 | .makeInterface t x=>tV C (.makeInterface t x) e k
 | .makeFunc n a b=>tV C (.makeFunc n a b) e k
 | .field t x f=>tV C (.field t x f) e k
 | .build t q=>zqc C t q e k
 | _=>.g
def N3 (a:List Nat)(dst:Option Nat):Option Nat:=
 match dst with
 | some d=>bif yJ d a then some d else none
 | none=>none
structure sv where
 a:Nat->List O->T
 b:Nat->List O->T
def zqb(f:Operand)(args:Array Operand)(e:mD)(k:jP):T:=
 match f with
 | .func g=>gM (Nat.blt g pn) (kC (eQ args.toList e) λa=>.c g a k.K)
 | f=>kC (ev f e) λb=>kC (eQ args.toList e) λa=>.n b a k.K
def nu (c:Call)(e:mD)(K:O->O->T):T:=kC (L4 c e) λp=>K p.1 p.2
def IP(C:fA)(c:Call)(e:mD)(k:jP):Builtin->T
 | .append=>kC (lD c.argTypes.toList 0) λt=>kC (lD c.argTypes.toList 1) λu=>nu c e λa b=>.h (lG C t u a b) k.K
 | b=>Ra C c e k b
def zp9(C:fA)(t:Nat)(a x:Operand)(e:mD)(c:rR)(lo:G (List O))(k:jP)(d:sv):T:=
 match U2 c a with
 | some p=>kC (ev x e) λv=>kC (C.b.c t) λb=>kC (lo.c p.1) λl=>kC (wh l p.2 b.b (Pd b v)) λf=>.a (nD O.z (Pd b v)) (d.b p.1 f) .g
 | none=>kC (ev a e) λa=>kC (ev x e) λv=>.h (mC C t a v) k.a
def tH (C:fA)(q:List Nat)(dst:Option Nat)(op:Op)(e:mD)(o:rR)(lo:G (List O))(k:jP)(h:sv):T:=
 match op with
 | .box t x=>bif dE (bL C t)then kC (ev x e) λv=>(match N3 q dst with
  | some d=>kC (C.b.c t) λn=>bif n.a.h then h.a d v.s else .a (O.z v) (h.a d [v]) .g
  | none=>.h (dL v) k.K)else kC (ev x e) λv=>.h (Mv C t v) k.K
 | .alloc t=>bif dE (bL C t)then(match N3 q dst with
  | some d=>kC (C.b.c t) λn=>h.a d n.c
  | none=>.h (qL C t) k.K)else .h (Js C t) k.K
 | .store t a x=>zp9 C t a x e o lo k h
 | .buildSlice t i j=>kC (I5 j.toList e) λj=>.h (rD C t i j) k.K
 | .makeMap _ none=>.h Vq k.K
 | .insert t m g x=>kC (ev m e) λm=>kC (ev g e) λg=>kC (ev x e) λv=>.h (bW C t m g v) k.a
 | .mapUpdate t m g x=>kC (ev m e) λm=>kC (ev g e) λg=>kC (ev x e) λv=>.h (bW C t m g v) k.a
 | .makeSlice t l c=>kC (ev l e) λl=>kC (ev c e) λc=>.h (sS C t l c) k.K
 | .convert s d x=>bif Nat.beq (uJ C d) 4 then kC (ev x e) λv=>.h (AR C s d v) k.K else wg C s d x e k
 | .call c=>match c.callee with
  | .value f=>zqb f c.args e k
  | .builtin b=>IP C c e k b
  | _=>.g
 | .panic x=>kC (ev x e) λv=>kC v.au λp=>.c pn [.aw p.1 p.2] k.K
 | op=>tL C op e o lo k
def W1(i:Nat)(l:List Nat):List Nat:=List.rec (motive:=λ_=>List Nat) [] (λj _ g=>bif Nat.beq i j then g else j::g) l
def uV (n:Nat)(dst:Option Nat)(v:O)(c:Bool)(a:vI)(b:KT):T:=
 match dst with
 | none=>b a
 | some d=>bif Nat.blt d n then gM (dE (uO d a.d)) (b ⟨a.a.c d v,a.d,a.b,bif c then d::W1 d a.c else W1 d a.c⟩)else b a
def wj(n:Nat)(dst:Option Nat)(d off:Nat)(a:vI)(b:KT):T:=
 kC dst λi=>gM (Nat.blt i n) (gM (dE (a.a.a i)) (b ⟨a.a,(i,d,off)::a.d,a.b,a.c⟩))
def zq8(d:Nat)(b:List (Nat × Nat × Nat)):Bool:=nD (λa=>bif Nat.beq a.2.1 d then Nat.beq a.1 d else true) b
def ek (n:Nat)(d:Nat)(l:List O)(a:vI)(b:KT):T:=
 gM (Nat.blt d n) (gM (dE (a.a.a d)) (gM (zq8 d a.d) (b ⟨a.a,(d,d,0)::a.d,a.b.d d l,a.c⟩)))
def J0 (C:fA)(t:Nat)(v:O):Bool:=
 match C.b.c t with
 | some a=>(match a.a with
  | .r=>Nat.beq v.aa 0
  | .m k=>(match v.ac with | some p=>dP p.1 k | none=>false)
  | .j=>Nat.beq v.aa 2
  | _=>true)
 | none=>true
def Qz(C:fA)(t:Nat)(v:O)(K:O->T):T:=
 match C.b.c t with
 | some a=>(match a.a with
  | .r=>.q v λb=>K (.d b)
  | .m k=>.r k v λn=>K (.e k n)
  | .j=>.s v λs=>K (.h s)
  | .f _=>bif Nat.ble (vB a.c) 40 then .o a.c v λX=>K (.i (qX a.c X 0))else K v
  | .q _ _=>bif Nat.ble (vB a.c) 40 then .o a.c v λX=>K (.i (qX a.c X 0))else K v
  | _=>K v)
 | none=>K v
def Hw (x:Operand)(a:List Nat):Bool:=
 match x with
 | .tmp t=>a.contains t
 | .const _=>true
 | _=>false
def sw(op:Op)(e:mD)(d:List Nat):Bool:=
 match op with
 | .move x=>Hw x d
 | .assign x=>Hw x d
 | .unOp _ _ x=>Hw x d
 | .pick c a b=>bif Hw c d then(match ob (ev c e) O.r with
  | some w=>bif w then Hw a d else Hw b d
  | none=>false)else false
 | _=>false
def Ya(all:List Oper)(dst:Option Nat)(l:List Oper):Bool:=
 match dst with
 | none=>false
 | some d => !nD (λo=>match o.guard with
  | some g=>(match ob (lD all g.1) λp=>p.dst with | some i => !Nat.beq i d | none=>true)
  | none=>true) l
def My(g a:Bool)(v:O)(K:O->Bool->T):T:=
 bif g then(bif a then K v true else kC v.r λb=>.a b (K (.d true) true) (K (.d false) true))else K v a
def U3 (C:fA)(all:Array Oper)(n:Nat)(o:Oper)(e:mD)(a:vI)(f:KT):jP:=
 ⟨λv=>Qz C o.type v λv=>My (Ya all.toList o.dst all.toList) (sw o.op e a.c) v λv b=>uV n o.dst v b a f,
  λv=>gM (J0 C o.type v) (My (Ya all.toList o.dst all.toList) (sw o.op e a.c) v λv b=>uV n o.dst v b a f),
  λd c=>gM (!Nat.ble (uJ C o.type) 2) (wj n o.dst d c a f)⟩
def lr (C:fA)(n:Nat)(o:Oper)(a:vI)(b:KT):sv:=
 ⟨λd l=>gM (!Nat.ble (uJ C o.type) 2) (ek n d l a b),
  λd l=>gM (J0 C o.type aD) (uV n o.dst aD false ⟨a.a,a.d,a.b.d d l,a.c⟩ b)⟩
def mD.d(k:Nat)(l:List (Nat × Nat × Nat)):List (Nat × Nat × Nat):=l.filter λa=>Nat.blt a.1 k
def vI.e(a:vI):vI:=⟨a.a.b,mD.d a.a.k a.d,a.b,a.c⟩
def N4 (C:fA)(b:List Nat)(all:Array Oper)(n:Nat)(c:KT)(l:List Oper):KT:=
 List.rec (motive:=λ_=>KT) c
  (λo _ g a=>kC (cG o.guard all a.a) λw=>Bool.rec (motive:=λ_=>T) (uV n o.dst aD false a g)
   (tH C b o.dst o.op (.b a.a) (.b a.d) a.b (U3 C all n o (.b a.a) a g) (lr C n o a g)) w) l
def yU (a old:vI)(olds:List Nat)(op:Op):mD:=.c a.a old.a olds (aI op)
def Er (a old:vI)(olds:List Nat)(op:Op):rR:=.a a.d old.d olds (aI op)
def yX(C:fA)(all:Array Oper)(n:Nat)(old:vI)(olds:List (Nat × List Nat))(b:KT)(l:List Nat):KT:=
 List.rec (motive:=λ_=>KT) b
  (λi _ g a=>kC (lD all.toList i) λo=>kC (cG o.guard all a.a) λw=>Bool.rec (motive:=λ_=>T) (uV n o.dst aD false a g)
   (tL C o.op (yU a old (tG i olds) o.op) (Er a old (tG i olds) o.op) a.b (U3 C all n o (yU a old (tG i olds) o.op) a g)) w) l
def Cj(C:fA)(all:Array Oper)(old:vI)(olds:List (Nat × List Nat))(a:vI)(k:T)(l:List Nat):T:=
 List.rec (motive:=λ_=>T) k
  (λi _ g=>kC (lD all.toList i) λo=>kC o.dst λd=>kC (cG o.guard all a.a) λw=>Bool.rec (motive:=λ_=>T) g
   (kC (a.a.a d) λu=>gM (J0 C o.type u) (tL C o.op (yU a old (tG i olds) o.op) (Er a old (tG i olds) o.op) a.b ⟨λv=>.a (A8 10 v u) g .g,λv=>.a (A8 10 v u) g .g,λ_ _=>.g⟩)) w) l
def Mt(C:fA)(es:List uQ)(H:sA):Option (O × sA):=ob (Fg C es H) λa=>some (aD,a)
def en (op:Op)(e:mD)(b:rR):Option uQ:=
 match op with
 | .store t a x=>(match U2 b a with
  | some _=>none
  | none=>Fp (.store t a x) e)
 | op=>Fp op e
def ta(all:Array Oper)(old:vI)(olds:List (Nat × List Nat))(a:vI)(l:List Nat):Option (List uQ):=
 jH (λi=>ob (lD all.toList i) λo=>ob (cG o.guard all a.a) λw=>sB w (en o.op (yU a old (tG i olds) o.op) (Er a old (tG i olds) o.op))) l
def Gw(C:fA)(all:Array Oper)(n:Nat)(old:vI)(olds:List (Nat × List Nat))(e:KT)(l:List dH):KT:=
 List.rec (motive:=λ_=>KT) e
  (λs _ g b=>Bool.rec (motive:=λ_=>T) (kC (lD all.toList (bP all s.a)) λo=>kC (eZ C all s.a o b.a) λw=>
   (λa:KT=>Bool.rec (motive:=λ_=>T) (uV n o.dst aD false b a)
    (tH C [] o.dst o.op (yU b old (tG (bP all s.a) olds) o.op) (Er b old (tG (bP all s.a) olds) o.op) b.b (U3 C all n o (yU b old (tG (bP all s.a) olds) o.op) b a) (lr C n o b a)) w)
   (λc=>Cj C all old olds c (yX C all n old olds g s.b c) s.c))
   (gM (Ct C all) (kC (ta all old olds b s.c) λd=>.h (Mt C d) λ_=>yX C all n old olds g s.b b)) (yZ all s)) l
def zdg(C:fA)(e:List Nat)(fn n:Nat)(c:KT)(d:Nat)(all:Array Oper)(a:Bool):KT:=
 Bool.rec (motive:=λ_=>KT) (λb=>N4 C e all n c all.toList b.e)
  (λb=>kC (ob (C.e.c fn) λt=>t.c d) λp=>gM (jY all p) (yX C all n b.e p.b (Gw C all n b.e p.b c p.a) p.c b.e)) a
def Mp(b:vI)(c:List (Nat × Nat)):Option (List O):=
 List.rec (motive:=λ_=>Option (List O)) (some []) (λp _ g=>ob (uO p.1 b.d) λa=>sB (Nat.beq a.1 p.1&&Nat.beq a.2 0) (ob (b.b.c p.1) λl=>sB (Nat.beq (vB l) p.2) (ob g λr=>some (oE l r)))) c
def Jo(p:PI)(c:vI):Option (List O):=ob (jH (λi=>c.a.a i) p.d) λa=>ob (Mp c p.c) λb=>some (oE a b)
def Aa (b:List (Nat × Nat)):List O->G (List O):=
 List.rec (motive:=λ_=>List O->G (List O)) (λ_=>.aj) (λp _ g a=>(g (tU a p.2)).d p.1 (Et a p.2)) b
def kR (pl:List Nat):List O->G O:=
 List.rec (motive:=λ_=>List O->G O) (λ_=>.aj) (λi _ g a=>List.rec (motive:=λ_=>G O) .aj (λv a _=>(g a).d i v) a) pl
def N5 (a:List (Nat × Nat)):List (Nat × Nat × Nat):=List.rec (motive:=λ_=>List (Nat × Nat × Nat)) [] (λp _ g=>(p.1,p.1,0)::g) a
def qO (k:Nat)(p:PI)(vals:List O):vI:=⟨⟨k,kR p.d vals,[]⟩,N5 p.c,Aa p.c (tU vals (vB p.d)),[]⟩
def jQ (C:fA)(g:Nat):Bool:=dE (C.c.c g)
def zqy(pl:List Nat)(a:vI):Option (List O):=jH (λi=>a.a.a i) pl
def ep:List Nat->Bool
 | []=>true
 | [_]=>true
 | [p,q] => !Nat.beq p q
 | _=>false
def zf4(k n:Nat)(pl ps:List Nat)(a:List (Nat × Array Oper))(c:bC):Bool:=
 nD (λp=>Nat.blt p k&&Nat.blt p n && !yJ p pl) ps&&ep ps&&Ww a&&(match nM c with | []=>true | _=>false)
def mn:M2:=⟨λ_=>.l (.d true),λ_ _=>.g,λ_=>.l (.d false)⟩
def wk(C:fA)(n:Nat)(e:M2)(i:Nat)(pl:List Nat)(f:Operand)(ps:List Nat)(d:List (Nat × Array Oper))(c:bC)(a:vI):T:=
 gM (zf4 a.a.k n pl ps d c) (kC (zqy pl a) λb=>kC (ev f (.b a.a)) λg=>.p (jQ C) g i (vB ps) b (e.b a) (e.c a))
def rO (C:fA)(s:List Nat)(fn n:Nat)(c:bC):M2->KT:=
 bC.rec (motive:=λ_=>M2->KT)
  (λa d=>a.b d)
  (λj k h a=>zdg C s fn n a.b j k h)
  (λ_ _ q r a=>q ⟨r a,a.a,a.c⟩)
  (λc _ _ m o a d=>kC (ob (ev c (.b d.a)) O.r) λb=>bif Hw c d.c then Bool.rec (motive:=λ_=>T) (o a d) (m a d) b else .a b (m a d) (o a d))
  (λj _ g a=>g ⟨a.b,λi d=>Bool.rec (motive:=λ_=>T) (a.a i d) (a.b d) (Nat.beq j i),a.c⟩)
  (λp _ _ _ d=>kC (Jo p d) λe=>.j p.e e)
  (λj a d=>a.a j d)
  (λa d=>a.c d)
  (λp _ _ _ d=>kC (Jo p d) λe=>.j p.e e)
  (λi t f u l c _ a d=>wk C n a i t f u.toList l c d) c
structure cp where
 p:PI
 a:List O->T
def Cw(p:PI):KT:=λb=>kC (Jo p b) λa=>.j p.e a
def Hm(C:fA)(e:List Nat)(fn n k:Nat)(c:bC):M2->List cp:=
 bC.rec (motive:=λ_=>M2->List cp)
  (λ_=>[])
  (λ_ _ _ _=>[])
  (λ_ b m o a=>oE (m ⟨rO C e fn n b a,a.a,a.c⟩) (o a))
  (λ_ _ _ q r a=>oE (q a) (r a))
  (λs _ g a=>g ⟨a.b,λi l=>Bool.rec (motive:=λ_=>T) (a.a i l) (a.b l) (Nat.beq s i),a.c⟩)
  (λp c g a=>⟨p,λd=>rO C e fn n c ⟨Cw p,a.a,a.c⟩ (qO k p d)⟩::g ⟨Cw p,a.a,a.c⟩)
  (λ_ _=>[])
  (λ_=>[])
  (λp c g a=>⟨p,λd=>rO C e fn n c a (qO k p d)⟩::g a)
  (λi h _ j f c g _=>⟨⟨i,oE h j.toList,[]⟩,λd=>rO C e fn n (U0 c f) mn (qO k ⟨i,oE h j.toList,[]⟩ d)⟩::g mn) c
def J1 (C:fA)(b:vI)(l:List ResultVar):(List O->T)->T:=
 List.rec (motive:=λ_=>(List O->T)->T) (λK=>K [])
  (λr _ g K=>match r with
   | .tmp t=>kC (b.a.a t) λv=>g λl=>K (v::l)
   | .cell a t=>match uO a b.d with
    | some p=>kC (b.b.c p.1) λl=>kC (C.b.c t) λc=>gM (Nat.ble (p.2+c.b) (vB l)) (kC (eT C t l p.2) λv=>g λl=>K (v::l))
    | none=>kC (b.a.a a) λa=>.e (λm=>oA C t ⟨0,m⟩ a) λv=>g λl=>K (v::l)) l
def E0 (C:fA)(fn:Func):KT:=λa=>J1 C a fn.results.toList λl=>.l (Jw l)
def Gy (C:fA)(fn:Func):M2:=⟨E0 C fn,λ_ _=>.g,E0 C fn⟩
structure kE where
 a:bC
 b:List Nat
def J2 (C:fA)(fn:Func)(k:Nat)(f:Nat)(A:kE)(args:List O):T:=rO C A.b f fn.ntmps A.a (Gy C fn) ⟨⟨k,G.ac args,[]⟩,[],.aj,[]⟩
def N6 (C:fA)(fn:Func)(k:Nat)(f:Nat)(A:kE):List cp:=Hm C A.b f fn.ntmps k A.a (Gy C fn)
def Kk(l:List cp)(i:Nat)(vals:List O):List T:=List.rec (motive:=λ_=>List T) [] (λp _ g=>bif Nat.beq p.p.e i then p.a vals::g else g) l
end
section
variable {b d n s ty:Nat}{y:uA}{i x:Operand}{l r:Option O}{c:Call}{a k m u w:O}{ok:Bool}
def oD {b:Type}(x:Option b)(P:b->Prop):Prop:=
 match x with
 | some a=>P a
 | none=>False
theorem El{b:Type}{x:Option b}{P:b->Prop}:oD x P ↔ ∃a,x=some a/\P a:=by
 cases x with
 | none=>simp[oD]
 | some a=>simp[oD]
@[simp] theorem xA {b:Type} {a:b} {P:b->Prop}:oD (some a) P=P a:=rfl
@[simp] theorem me {a:Type} {P:a->Prop}:oD (none:Option a) P=False:=rfl
abbrev mB:=O->G uA->Prop
abbrev xG:=Nat->List O->G uA->mB->Prop
def zsm{a:Type}:List a->Bool | []=>true | _::_=>false
def eM(f:O)(args:List O):Option (Nat × List O):=ob f.am λp=>match p.1 with
 | .aa g=>sB (Nat.blt g pn) (some (g,oE (oE p.2.1 args) p.2.2))
 | .ac l=>sB (zsm p.2.1&&zsm p.2.2) (some (yo+l,args))
def Cn(a:Nat->Bool)(f:O)(l:Nat):Option (Nat × List O):=ob f.am λp=>match p.1 with
 | .aa g=>sB (Nat.blt g pn&&a g) (some (g,oE p.2.1 (.q (.ac l) [] []::p.2.2)))
 | .ac _=>none
def J3 (k:IntKind)(v:O):Option Int:=ob v.ac λp=>sB (dP p.1 k) (some p.2)
def mK (zs:List O)(v:O):Option yH:=ob v.ak λl=>sB (lU zs l) (some (AN l))
def iA (base:Nat)(W:xG)(J:xG):T->G uA->mB->Prop
 | .l v,t,Q=>Q v t
 | .g,_,_=>False
 | .a b x y,t,Q=>if b=true then iA base W J x t Q else iA base W J y t Q
 | .d x K,t,Q=>oD x λv=>iA base W J (K v) t Q
 | .e x K,t,Q=>oD (x t) λv=>iA base W J (K v) t Q
 | .h x K,t,Q=>∀b,t.c b=none->base<=b->oD (x ⟨b,t⟩) λp=>iA base W J (K p.1) p.2.t Q
 | .c f a K,t,Q=>W f a t λv d=>iA base W J (K v) d Q
 | .n f a K,t,Q=>oD (eM f a) λp=>W p.1 p.2 t λv d=>iA base W J (K v) d Q
 | .r k v K,t,Q=>oD (J3 k v) λn=>iA base W J (K n) t Q
 | .q v K,t,Q=>oD v.r λn=>iA base W J (K n) t Q
 | .s v K,t,Q=>oD v.w λn=>iA base W J (K n) t Q
 | .o o v K,t,Q=>oD (mK o v) λX=>iA base W J (K X) t Q
 | .j i c,t,Q=>J i c t Q
 | .p j f i m c K R,t,Q=>256<=base/\∀l r,t.c l=none->base<=l->r.e=.ready->r.a=none →
   (∀a e g,a.length=m->e.c l=some (.ac r)->J i (c++a) (e.q l) (λv h=>h.c l=none->∃b,v=.d b/\g v (h.d l (.ac (eP b r))))->W (yo+l) a e g) →
   oD (Cn j f l) λp=>W p.1 p.2 (t.d l (.ac r)) λ_ d=>(d.c l=some (.ac r)/\iA base W J K (d.q l) Q)\/(d.c l=some (.ac (eP false r))/\iA base W J R (d.q l) Q)
abbrev Xt:=Nat->Option uA
def dJ (X Y:Xt):Prop:=∀b y,X b=some y->Y b=some y
theorem dJ.f(X:Xt):dJ X X:=λ_ _ h=>h
def dJ.g{X Y Z:Xt}(h:dJ X Y)(k:dJ Y Z):dJ X Z:=λb y e=>k b y (h b y e)
structure Ov (base:Nat) (t:G uA) (X:Xt) (H:sA):Prop where
 d:base<=H.a
 f:∀b,X b=none->H.t.c b=t.c b
 a:∀b y,X b=some y->H.t.c b=some y/\t.c b=none/\b<H.a
 j:∀b y,t.c b=some y->b<H.a
def I6 (H H':sA):Prop:=∀b y,H.t.c b=some y->H'.t.c b=some y
def bX(e a:mD):Prop:=∀i v,Cb i e=some v->Cb i a=some v
section
variable {base:Nat}{t:G uA}{X:Xt}{H HA:sA}{e j:mD}{C:fA}{v:O}
def Ov.p(h:Ov base t X HA)  (c:t.c b=some y):X b=none:=by
 cases a:X b with
 | none=>rfl
 | some z=>have:=(h.a b z a).2.1;simp_all
def Ov.q(h:Ov base t X HA)  (a:t.c b=some y):HA.t.c b=some y:=by rw[h.f b (h.p a)];exact a
def Ov.le(h:Ov base t X HA)  : I6 ⟨n,t⟩ HA:=λ_ _ a=>h.q a
def Ov.aa(h:Ov base t X HA):X HA.a=none:=by
 cases a:X HA.a with
 | none=>rfl
 | some z=>exact absurd (h.a _ z a).2.2 (Nat.lt_irrefl _)
def Ov.o(h:Ov base t X HA):t.c HA.a=none:=by
 cases a:t.c HA.a with
 | none=>rfl
 | some z=>exact absurd (h.j _ z a) (Nat.lt_irrefl _)
theorem Df(h:I6 H HA) {p:G O × Nat × Option Lo}(a:eD H b=some p):eD HA b=some p:=by
 unfold eD at a ⊢;rw[mA]at a ⊢;obtain⟨y,c,d⟩:=a;exact⟨y,h _ _ c,d⟩
theorem Lw(h:I6 H HA) {p:List (O × O)}(a:pN H b=some p):pN HA b=some p:=by
 unfold pN at a ⊢;rw[mA]at a ⊢;obtain⟨y,c,d⟩:=a;exact⟨y,h _ _ c,d⟩
theorem bF(h:bX e j) (a:ev x e=some v):ev x j=some v:=by
 cases x with
 | tmp i=>exact h i v a
 | const c=>exact a
 | global g=>exact a
 | func f=>exact a
theorem FJ(h:bX e j){l:List Operand}{a:List O}(b:eQ l e=some a):eQ l j=some a:=Xl l (λ_ _ k=>bF h k) b
def RL(h:bX e j){x:Option Operand} (a:I4 x e=some r):I4 x j=some r:=by
 cases x with
 | none=>exact a
 | some x=>
  have a:ob (ev x e) (λv=>some (some v))=some r:=a;show ob (ev x j) (λv=>some (some v))=some r
  grind [mA,bF]
theorem FK(h:bX e j){l:List (Nat × Operand)}{c:List (Nat × O)}(d:I5 l e=some c):I5 l j=some c:=
 Xl l (λa b k=>by grind [mA,bF]) d
theorem AU(h:bX e j) {p:O × O}(a:L4 c e=some p):L4 c j=some p:=by
 grind [L4,mA,bF]
def Qq(h:I6 H HA)  (b:oA C ty H a=some v):oA C ty HA a=some v:=by
 grind [oA,mA,Df]
theorem GI(h:I6 H HA){s d:jD} (b:rW C s d a H=some v):rW C s d a HA=some v:=by
 unfold rW at b ⊢;split at b
 .omega
 .rename_i c;rw[qB]at b ⊢;refine⟨b.1,?_⟩;have b:=b.2;rw[bD]at b ⊢;split at b
  all_goals grind [mA,qB,Lt,Df]
def zae(h:I6 H HA)  (b:rS C s d H a=some v):rS C s d HA a=some v:=by
 grind [rS,mA,GI]
theorem BR(h:I6 H HA){ty:jD}  (g:gP C H ty a l r=some v):gP C HA ty a l r=some v:=by
 have t:∀ {d e b j i f},oS C H d e b j i f l r=some v->oS C HA d e b j i f l r=some v:=by
  intro d e b j i f g;unfold oS at g ⊢;simp only[mA]at g ⊢;obtain⟨k,q,m,s,g⟩:=g;refine⟨k,q,m,s,?_⟩
  cases n:eD H b with
  | none=>
   have o:iP H b k.b f m.1 d=false:=by unfold iP;rw[n]
   have p:mQ H b k.b f m.1 d=false:=by unfold mQ;rw[n]
   rw[o,p,E9,E9]at g;cases g
  | some c=>
   grind [iP,Df,mQ]
 grind [gP,mA]
def UZ(h:I6 H HA)   (b:aF C ty H a l r=some v):aF C ty HA a l r=some v:=by
 grind [aF,mA,BR]
theorem DI(h:I6 H HA) {l:List (O × O)}(a:Ak H m=some l):Ak HA m=some l:=by
 grind [Ak,Lw]
def VC(h:I6 H HA)   (a:Ci C ty H m k ok=some v):Ci C ty HA m k ok=some v:=by
 unfold Ci at a ⊢;simp only[mA,qB]at a ⊢
 grind [DI]
theorem DT(h:I6 H HA){ty:jD}  (b:dY H ty a=some n):dY HA ty a=some n:=by
 unfold dY at b ⊢;split at b
 all_goals grind [qB,mA,Lw]
def zc7(h:I6 H HA)  (b:tY C ty H a=some v):tY C ty HA a=some v:=by
 grind [tY,mA,DT]
theorem zhy {a:Operand}:Aq ty a C e H=ob (ev a e) λv=>oA C ty H v:=rfl
def zh0   (a:ev x e=some u):eS s d x C e H=rS C s d H u:=by simp_all [eS,rS]
def znx  {lo hi:Option Operand}  (b:ev x e=some a)(c:I4 lo e=some l)(d:I4 hi e=some r):Ev ty x lo hi C e H=aF C ty H a l r:=by unfold Ev aF;rw[b,lA,c,lA,d,lA]
theorem NY{f:Nat}  (c:ev x e=some u):Au s x f C e H=jB C s f u:=by
 unfold Au jB Qr;rw[c]
 cases C.b.c s with
 | none=>rfl
 | some ty=>
  simp only[lA]
  cases ty.a.b with
  | none=>rfl
  | some b=>
   simp only[lA]
   cases lD b f with
   | none=>rfl
   | some a=>simp only[lA];cases d:(!Nat.beq a.2.2 0)<;>rfl
theorem NT   (a:ev x e=some u)(hi:ev i e=some w):Ar ty x i C e H=zC C ty u w:=by unfold Ar zC;rw[a,hi];rfl
theorem znz   (a:ev x e=some u)(hi:ev i e=some w):As ty x i C e H=mJ C ty u w:=by unfold As mJ;rw[a,hi];rfl
theorem zrf  (a:ev x e=some u):Ey x C e H=nR u:=by simp_all [Ey,nR]
theorem zbk {i:Nat} (a:ev x e=some u):Av x i C e H=tK i u:=by simp_all [Av,tK]
theorem ii{op:BinOp} {y:Operand} (a:ev x e=some u)(b:ev y e=some w):Aw op ty x y C e H=(dX op).f C ty x y u w:=by simp_all [Aw]
theorem zh2 {a:Nat}  (b:ev x e=some u):Ax x a ok C e H=Vr C a ok u:=by
 unfold Ax Vr;rw[b];rfl
def zhx    (a:ev x e=some m)(hi:ev i e=some k):Ap ty x i ok C e H=Ci C ty H m k ok:=by unfold Ap Ci;rw[a,hi];rfl
def ij    (a:lD c.argTypes.toList 0=some ty)(b:lD c.args.toList 0=some x)(d:ev x e=some u):sU c C e H=tY C ty H u:=by grind [sU,tY,lA]
theorem zow(p:bX e j){op:Op}(g:lY op=true\/(∃s d x,op=.convert s d x/\(uJ C d=1\/uJ C s=2))\/(∃c,op=.call c/\(c.callee=.builtin .max\/c.callee=.builtin .min))){H':sA}(h:(jG op).f C e H=some v):(jG op).f C j H'=some v:=by
 rcases g with g | g | g
 .cases op<;>simp only[lY]at g<;>try (cases g;done)
  case move x=>exact bF p h
  case assign x=>exact bF p h
  case pick c a b=>
   have h:ob (ev c e) (λc=>ob c.r λc=>bif c then ev a e else ev b e)=some v:=h;show ob (ev c j) (λc=>ob c.r λc=>bif c then ev a j else ev b j)=some v
   grind [mA,bF]
  case nilCheck x=>
   have h:ob (ev x e) (λu=>sB (Nat.beq u.aa 4||Nat.beq u.aa 9) (some u))=some v:=h;show ob (ev x j) (λu=>sB (Nat.beq u.aa 4||Nat.beq u.aa 9) (some u))=some v
   grind [mA,bF]
  case binOp op t x y u=>
   have h:Aw op t x y C e H=some v:=h;show Aw op t x y C j H'=some v
   grind [Aw,mA,bF]
  case unOp op t x=>
   have h:P8 op x C e H=some v:=h;show P8 op x C j H'=some v
   grind [P8,mA,bF]
  case makeInterface t x=>
   have h:Ia t x C e H=some v:=h;show Ia t x C j H'=some v
   grind [Ia,mA,qB,bF]
  case makeFunc A a b=>
   have h:(Ib A a b).f C e H=some v:=h;show(Ib A a b).f C j H'=some v;unfold Ib at h ⊢;split at h
   .grind [Oc,mA,FJ]
   .cases h
  case fieldAddr s x f=>
   have h:Au s x f C e H=some v:=h;show Au s x f C j H'=some v;unfold Au at h ⊢;simp only[mA,qB]at h ⊢;obtain⟨a,r,b,m,c,n,k,u,o,E⟩:=h;exact⟨a,r,b,m,c,n,k,u,bF p o,E⟩
  case field t x f=>
   have h:Ic t x f C e H=some v:=h;show Ic t x f C j H'=some v
   grind [Ic,mA,bF]
  case indexAddr t x i=>
   have h:Ar t x i C e H=some v:=h;show Ar t x i C j H'=some v;unfold Ar at h ⊢;simp only[mA]at h ⊢
   grind [bF]
  case index t x i=>
   have h:As t x i C e H=some v:=h;show As t x i C j H'=some v;unfold As at h ⊢;simp only[mA]at h ⊢
   grind [bF]
  case extract t i=>
   have h:Av t i C e H=some v:=h;show Av t i C j H'=some v
   grind [Av,mA,bF]
  case build t D=>
   have h:Cu t D C e H=some v:=h;show Cu t D C j H'=some v
   grind [Cu,mA,FK]
  case typeAssert x t u ok=>
   have h:Ax x u ok C e H=some v:=h;show Ax x u ok C j H'=some v
   grind [Ax,mA,qB,bF]
 .obtain⟨s,d,x,rfl,g⟩:=g;have h:eS s d x C e H=some v:=h;show eS s d x C j H'=some v;unfold eS at h ⊢;simp only[mA]at h ⊢;obtain⟨u,r,z,m,q,n,k⟩:=h;refine⟨u,bF p r,z,m,q,n,?_⟩;unfold rW at k ⊢;split at k
  .exact k
  .rename_i B;rw[qB]at k ⊢;refine⟨k.1,?_⟩;have k:=k.2;rw[bD]at k ⊢;split at k
   .simp_all
   .rename_i e;exfalso;rcases g with g | g
    .unfold uJ at g;rw[n]at g;have g:q.a.l=1:=g;cases w:q.a<;>rw[w]at g B<;>first
      | (cases g;done)
      | (cases B;done)
    .unfold uJ at g;rw[m]at g;have g:z.a.l=2:=g;simp only[mA]at k;obtain⟨F,o,_⟩:=k;cases w:z.a<;>rw[w]at g o<;>first
      | (cases g;done)
      | (cases o;done)
 .obtain⟨c,rfl,l⟩:=g;rcases l with l | l
  .have h:(lX c c.callee).f C e H=some v:=h;show(lX c c.callee).f C j H'=some v;rw[l]at h ⊢;have h:Ao c C e H=some v:=h;show Ao c C j H'=some v
   grind [Ao,mA,AU]
  .have h:(lX c c.callee).f C e H=some v:=h;show(lX c c.callee).f C j H'=some v;rw[l]at h ⊢;have h:An c C e H=some v:=h;show An c C j H'=some v
   grind [An,mA,AU]
end
end
section
variable {b d n off ty:Nat}{a u:O}{l:List O}{H':sA}{K:O->T}{op:Op}
section
variable {base:Nat}{t:G uA}{X:Xt}{H HA:sA}{e f:mD}{C:fA}{v:O}
def Ov.g(h:Ov base t X HA)(y:uA):Ov base (t.d HA.a y) X (B2 HA y):=by
 refine⟨Nat.le_succ_of_le h.d,λb a=>?_,λb z a=>?_,λb z a=>?_⟩
 .show(HA.t.d HA.a y).c b=_;rw[G.aa,G.aa];split
  .rfl
  .exact h.f b a
 .obtain⟨e,f,c⟩:=h.a b z a;have d:b≠HA.a:=Nat.ne_of_lt c;refine⟨?_,?_,Nat.lt_succ_of_lt c⟩
  .show(HA.t.d HA.a y).c b=_
   grind [G.aa]
  grind [G.aa]
 .rw[G.aa]at a;show b<HA.a+1;split at a
  .omega
  .exact Nat.lt_succ_of_lt (h.j _ _ a)
theorem Ov.i(h:Ov base t X HA){b:Nat}{y:uA}(f:t.c b=some y)(z:uA):Ov base (t.d b z) X (A7 HA b z):=by
 refine⟨h.d,λc a=>?_,λc u a=>?_,λc u a=>?_⟩
 .show(HA.t.d b z).c c=_;rw[G.aa,G.aa];split
  .rfl
  .exact h.f c a
 .obtain⟨i,j,d⟩:=h.a c u a;have g:c≠b:=λe=>by simp_all
  refine⟨?_,?_,d⟩
  .show(HA.t.d b z).c c=_
   grind [G.aa]
  grind [G.aa]
 .rw[G.aa]at a;show c<HA.a;split at a
  .rename_i e;rw[e];exact h.j _ _ f
  .exact h.j _ _ a
def Ov.k(h:Ov base t X HA) {y:uA}(g:t.c b=some y):Ov base (t.q b) X ⟨HA.a,HA.t.q b⟩:=by
 refine⟨h.d,λc a=>?_,λc u a=>?_,λc u a=>?_⟩
 .show(HA.t.q b).c c=_;rw[G.e,G.e];split
  .rfl
  .exact h.f c a
 .obtain⟨d,e,f⟩:=h.a c u a
  grind [G.e]
 .rw[G.e]at a;show c<HA.a;split at a
  .cases a
  .exact h.j _ _ a
def cX (base:Nat)(x:sA->Option (O × sA)):Prop:=∀t X HA v H',Ov base t X HA->x ⟨HA.a,t⟩=some (v,H')->∃a,x HA=some (v,a)/\Ov base H'.t X a
theorem Eo(l:List O)(lo:Option Lo)(h:Ov base t X HA):Ov base (sG ⟨HA.a,t⟩ l lo).t X (sG HA l lo):=h.g _
def zda  : cX base (qL C ty):=by
 intro t X HA v H' c h;unfold qL at h ⊢;rw[mA]at h;obtain⟨y,b,a⟩:=h;cases a;simp_all [Eo]
def zts  : cX base (dL u):=by
 intro t X HA v H' a h;cases h;exact⟨_,rfl,Eo _ _ a⟩
def zag  : cX base (Js C ty):=by
 intro t X HA v H' c h;unfold Js at h ⊢;rw[mA]at h;obtain⟨y,a,b⟩:=h
 grind [lA,Eo]
def zlf   : cX base (Mv C ty u):=by
 intro t X HA v H' a h;grind [Mv,Eo]
def VD {ps:List (Nat × O)}:cX base (rD C ty n ps):=by
 intro t X HA v H' k h;unfold rD at h ⊢;simp only[mA,qB]at h;obtain⟨a,d,b,e,c,f,g,l,i,j⟩:=h
 grind [Eo,mA,qB]
theorem BH(f:Ov base t X HA)   (h:gK C ⟨HA.a,t⟩ b off l=some H'):∃d,gK C HA b off l=some d/\Ov base H'.t X d:=by
 unfold gK at h ⊢;simp only[mA,qB]at h;obtain⟨g,c,e,i,j⟩:=h;cases j;have a:=e;unfold eD at a;rw[mA]at a;obtain⟨y,k,_⟩:=a;refine⟨_,?_,f.i k _⟩;simp only[mA,qB];exact⟨g,c,Df f.le e,i,rfl⟩
def zc6   : cX base (mC C ty a u):=by
 intro t X HA v H' i h;unfold mC at h ⊢;simp only[mA,qB]at h;obtain⟨y,c,p,d,e,b,f,g⟩:=h
 grind [BH,mA,qB]
def VB:cX base Vq:=by
 intro t X HA v H' a h;cases h;exact⟨_,rfl,a.g _⟩
def HR {m k:O}:cX base (bW C ty m k u):=by
 intro t X HA v H' j h;unfold bW at h ⊢;simp only[mA,qB]at h;obtain⟨a,n,b,o,c,p,q,d,r,s,l,i,w,z,x,f⟩:=h;cases f;have e:=i;unfold pN at e;rw[mA]at e;obtain⟨y,g,_⟩:=e;refine⟨_,?_,j.i g _⟩;simp only[mA,qB];exact⟨a,n,b,o,c,p,q,d,r,s,l,Lw j.le i,w,z,x,rfl⟩
def zkt(c:Ov base t X HA){e:RE} (h:Gd C ⟨HA.a,t⟩ e=some H'):∃a,Gd C HA e=some a/\Ov base H'.t X a/\a.a=HA.a/\H'.a=HA.a:=by
 obtain⟨x,y,b,d,rfl⟩:=Ur.1 h;exact⟨A7 HA e.a y,Ur.2 ⟨x,y,c.q b,d,rfl⟩,c.i b _,rfl,rfl⟩
theorem TV:∀ {l:List RE} {t:G uA} {HA:sA} {H':sA},Ov base t X HA->Mb C l ⟨HA.a,t⟩=some H'->∃a,Mb C l HA=some a/\Ov base H'.t X a
 | [],t,HA,H',c,h=>by cases h;exact⟨HA,rfl,c⟩
 | e::l,t,HA,H',c,h=>by
  unfold Mb at h ⊢;rw[mA]at h;obtain⟨d,k,h⟩:=h;obtain⟨f,g,i,j,b⟩:=zkt c k;rw[g,lA];obtain⟨m,n⟩:=d;have b:m=HA.a:=b;subst b;rw[<- j]at h;exact TV i h
theorem zf0(a:Ov base t X HA){e:RE}(h:Ni C ⟨HA.a,t⟩ e=true):Ni C HA e=true:=by
 cases e with
 | st b off l=>
  change (!dE (gK C ⟨HA.a,t⟩ b off l))=true at h;show(!dE (gK C HA b off l))=true
  cases c:gK C ⟨HA.a,t⟩ b off l with
  | none=>rw[c]at h;cases h
  | some H'=>obtain⟨d,g,_⟩:=BH a c;rw[g];rfl
 | up b k v=>
  unfold Ni at h ⊢;rw[B3]at h ⊢;refine⟨h.1,?_⟩;have f:=h.2;split at f
  .rename_i i;rw[Lw a.le i]
  grind
def zc9{es:List uQ}:cX base (Mt C es):=by
 intro t X HA v H' a h;grind [Mt,Fg,mA,qB,TV,gI,zf0]
def VA {l c:O}:cX base (sS C ty l c):=by
 intro t X HA v H' p h;unfold sS at h ⊢;simp only[mA,qB]at h;obtain⟨a,e,b,f,d,g,n,i,m,j,k,o⟩:=h
 grind [Eo,mA,qB]
def UY{s:Nat}  : cX base (AR C s d u):=by
 intro t X HA v H' f h;unfold AR at h ⊢;simp only[mA,qB]at h;obtain⟨a,i,b,j,c,m,g,n,k,o,p,l,q,e⟩:=h;cases e;refine⟨sG HA (De l) (some (.a c)),?_,Eo _ _ f⟩
 grind [mA,qB]
def YE(h:I6 H HA){sz:Nat}  (a:qZ H sz n u=some l):qZ HA sz n u=some l:=by
 grind [qZ,mA,Df]
theorem zcr(k:Ov base t X HA){ty:jD}{b:O} (h:Br C ⟨HA.a,t⟩ ty a b=some (v,H')):∃e,Br C HA ty a b=some (v,e)/\Ov base H'.t X e:=by
 unfold Br at h;simp only[mA]at h;obtain⟨l,E,g,F,n,H,f,w,d⟩:=h;have x:=YE k.le w
 suffices o:∃e,(match a.u with
  | some s=>bif Nat.ble (s.2.2.1+n) s.2.2.2 then Cz C HA g n f s else Bb C HA l g n f s
  | none=>sB (Nat.beq a.aa 5) (jX HA l g n f))=some (v,e)/\Ov base H'.t X e by
  grind [Br,mA]
 cases o:a.u with
 | some s=>
  rw[o]at d;simp only[]at d ⊢;rw[bD]at d;split at d
  .rename_i j;simp only[j,cond_true];unfold Cz at d ⊢
   grind [mA,BH]
  .rename_i j;simp only[Bool.not_eq_true]at j;simp only[j,cond_false];unfold Bb at d ⊢;rw[qB]at d;obtain⟨D,d⟩:=d;rw[qB]at d;obtain⟨B,d⟩:=d;rw[mA]at d;obtain⟨c,i,d⟩:=d;have q:=Df k.le i;unfold eD at i;rw[mA]at i;obtain⟨y,r,_⟩:=i;split at d
   .rename_i z;unfold Oj at d;rw[mA]at d;obtain⟨A,u,m⟩:=d
    grind [Eo,qB,mA,Oj]
   .rename_i p z;unfold Lj at d;rw[qB]at d;obtain⟨u,m⟩:=d;cases m;refine⟨⟨HA.a+1,(HA.t.q s.1).d HA.a (.aa (c.1.am f (s.2.2.1*g.b)) ((s.2.2.1+n)*g.b) (some p))⟩,?_,(k.k r).g _⟩
    grind [qB,mA,Lj]
 | none=>
  grind [qB,jX,Eo]
def zaf{u:Nat}{b:O}:cX base (lG C ty u a b):=by
 intro t X HA v H' c h;grind [lG,mA,qB,zcr]
end
def Py(ν:Nat->Nat)(a:rR)(e:mD):Prop:=∀i p,tAd a i=some p->Cb i e=some (.j (ν p.1) p.2)
def Vd(base:Nat)(b X:Xt)(ν:Nat->Nat)(lo:G (List O)):Prop:=∀d l,lo.c d=some l->b (ν d)=none/\base<=ν d/\∃c,X (ν d)=some (.aa c l.length none)/\∀j a,l[j]?=some a->c.c j=some a
theorem oF{base:Nat}{W J:xG}{b:Type}{x:Option b}{K:b->T}{t:G uA}{Q:mB}:iA base W J (kC x K) t Q ↔ ∃a,x=some a/\iA base W J (K a) t Q:=by
 cases x with
 | none=>exact⟨λh=>(by cases h),fun⟨_,h,_⟩=>(by cases h)⟩
 | some a=>exact⟨λh=>⟨a,rfl,h⟩,fun⟨_,h,k⟩=>(by cases h;exact k)⟩
def oR{base:Nat}{W J:xG}{b:Bool}{K:T}{t:G uA}{Q:mB}:iA base W J (gM b K) t Q ↔ b=true/\iA base W J K t Q:=by
 cases b with
 | false=>exact⟨λh=>(by cases h),fun⟨h,_⟩=>(by cases h)⟩
 | true=>exact⟨λh=>⟨rfl,h⟩,fun⟨_,h⟩=>h⟩
theorem Cc{base:Nat}{W J:xG}{x:Option O} {t:G uA}{Q:mB}:iA base W J (.d x K) t Q ↔ ∃a,x=some a/\iA base W J (K a) t Q:=El
def Mj{base:Nat}{W J:xG}{x:G uA->Option O} {t:G uA}{Q:mB}:iA base W J (.e x K) t Q ↔ ∃a,x t=some a/\iA base W J (K a) t Q:=El
theorem Jh{ν:Nat->Nat}{b:rR}{e:mD}(h:Py ν b e){x:Operand}{p:Nat × Nat}(a:U2 b x=some p):ev x e=some (.j (ν p.1) p.2):=by
 cases x with
 | tmp i=>exact h i p a
 | const _=>cases a
 | global _=>cases a
 | func _=>cases a
theorem zg8{c:G O} (h:∀j a,l[j]?=some a->c.c j=some a):∀(n off:Nat),off+n<=l.length->c.u n off=some ((l.drop off).take n):=by
 intro n;induction n with
 | zero=>intro off _;simp;rfl
 | succ n d=>
  intro off e;have b:off<l.length:=by omega
  rw[G.aw,h off l[off] (D0 b),lA,d (off+1) (by omega),lA];rw[F8 b,List.take_succ_cons]
section
variable {W J:xG}{t:G uA}{X z:Xt}{HA:sA}{e j:mD}{C:fA}{ν:Nat->Nat}{A:rR}{lo:G (List O)}{k:jP}{Q:mB}{R:O->Prop}
theorem MV(g:Ov C.a t X HA)(f:Vd C.a z X ν lo)  {y:jD}{v:O}(a:lo.c d=some l)(b:C.b.c ty=some y)(h:Nat.ble (off+y.b) (vB l)=true)(i:eT C ty l off=some v) :
  oA C ty HA (.j (ν d) off)=some v:=by
 obtain⟨_,_,c,e,k⟩:=f d l a;have j:=(g.a _ _ e).1;unfold oA;simp only[O.ah,lA];rw[b,lA];grind [eD,lA,uA.a,eT,dV,mF,dD,zg8,eV,vU,xI]
def wX(b:bX e j) (f:lY op=true\/(∃s d x,op=.convert s d x/\(uJ C d=1\/uJ C s=2))\/(∃c,op=.call c/\(c.callee=.builtin .max\/c.callee=.builtin .min)))
  (h:iA C.a W J (tV C op e k) t Q) (a:∀v,iA C.a W J (k.a v) t Q->R v):∃v,(jG op).f C j HA=some v/\R v:=by
 grind [tV,oF,zow]
theorem zc8 {v:O}{H:sA}(a:uJ C ty=4)(h:vC u=some v):tY C ty H u=some v:=by
 unfold uJ at a
 cases b:C.b.c ty with
 | none=>simp_all
 | some y=>
  rw[b]at a;have a:y.a.l=4:=a;unfold tY;rw[b,lA];unfold vC at h;unfold dY;cases u<;>simp only[O.u,O.w,O.az,O.aa]at h ⊢ <;> (try (rw[qB]at h;exact absurd h.1 (by decide)))
  case g=>
   rw[qB]at h;have d:y.a.g=none:=by cases c:y.a<;>rw[c]at a<;>first | rfl | (cases a;done)
   simp_all [mA,qB]
  simp_all [mA,qB]
theorem zik {v:O}{H:sA}(d:uJ C ty≠6)(h:tY C ty H u=some v):tY C ty H' u=some v:=by
 unfold tY at h ⊢;simp only[mA]at h ⊢;obtain⟨y,b,n,a,c⟩:=h;refine⟨y,b,n,?_,c⟩;have d:¬ Nat.beq y.a.l 6=true:=by
  grind [uJ,zD]
 unfold dY at a ⊢;split at a
 all_goals grind [qB]
theorem zfc {v:O}{l h:Option O}{H:sA}(b:uJ C ty=2)(d:aF C ty H a l h=some v):aF C ty H' a l h=some v:=by
 unfold aF at d ⊢;rw[mA]at d ⊢;obtain⟨y,e,f⟩:=d;refine⟨y,e,?_⟩;unfold uJ at b;rw[e]at b;have b:y.a.l=2:=b;unfold gP at f ⊢;have g:y.a.a=none:=by cases c:y.a<;>rw[c]at b<;>first | rfl | (cases b;done)
 have i:y.a.g=none:=by cases c:y.a<;>rw[c]at b<;>first | rfl | (cases b;done)
 simp_all
theorem CX (h:O.z u=true):u.s=[u]:=by
 cases u<;>first
  | rfl
  | (have:=eC.1 h;grind [O.aa])
def zby{e:Nat->Option Nat}(d:Nat->Option (Nat × Nat)):∀(f:List (Nat × O)) {q:List (Nat × O × List O) × List O},wi C e f=some q->nD O.z q.2=true->∀c l,ss d q.1 c=some l->yO d f c=some l:=by
 intro f;induction f with
 | nil=>intro q h _ c l g;cases h;exact g
 | cons p f x=>
  intro q h u c l g;have h:(ob (e p.1) λt=>ob (C.b.c t) λty=>ob (wi C e f) λr=>some (bif ty.a.h then((p.1,p.2,p.2.s)::r.1,r.2)else((p.1,p.2,[p.2])::r.1,p.2::r.2)))=some q:=h;simp only[mA]at h;obtain⟨ty,_,y,_,r,v,i⟩:=h;have j:∀(m:List O),nD O.z r.2=true->(ob (d p.1) λq=>ob (wh c q.1 q.2 p.2.s) λc=>ss d r.1 c)=some l->yO d (p::f) c=some l:=by
   intro _ w g;show(ob (d p.1) λq=>ob (pZ c q.1 q.2 p.2) λc=>yO d f c)=some l;simp only[mA]at g ⊢;obtain⟨a,n,b,o,s⟩:=g;exact⟨a,n,b,o,x v w _ _ s⟩
  cases k:y.a.h with
  | true=>
   rw[k]at i;cases i;exact j [] u g
  | false=>
   rw[k]at i;cases i;simp_all [gI,ss,CX]
def wl(F:bX e j)(P:Py ν A j)(S:Ov C.a t X HA)(hl:Vd C.a z X ν lo) (h:iA C.a W J (tL C op e A lo k) t Q)
  (I:∀v,iA C.a W J (k.K v) t Q->R v) (g:∀v,iA C.a W J (k.a v) t Q->R v) (K:∀d off,iA C.a W J (k.b d off) t Q->R (.j (ν d) off)) :
  ∃v,(jG op).f C j HA=some v/\R v:=by
 cases op<;>simp only[tL]at h<;>try (cases h;done)
 case move x=>
  unfold sr at h;split at h
  .rename_i p N;exact⟨_,Jh P N,K _ _ h⟩
  .exact wX F (.inl rfl) h g
 case assign x=>
  unfold sr at h;split at h
  .rename_i p N;exact⟨_,Jh P N,K _ _ h⟩
  .exact wX F (.inl rfl) h g
 case pick c a b=>exact wX F (.inl rfl) h g
 case load ty a=>
  unfold W0 at h;split at h
  .rename_i p N;simp only[oF,oR]at h;obtain⟨l,H,y,B,E,v,D,M⟩:=h;refine⟨v,?_,g v M⟩;show Aq ty a C j HA=some v
   grind [zhy,Jh,lA,MV]
  .rw[oF]at h;obtain⟨u,H,B⟩:=h;rw[Mj]at B;obtain⟨v,E,D⟩:=B;refine⟨v,?_,I v D⟩;show Aq ty a C j HA=some v;rw[zhy,bF F H,lA];exact Qq S.le E
 case nilCheck x=>
  unfold nr at h;split at h
  .rename_i p N;refine⟨_,?_,K _ _ h⟩;show Ey x C j HA=_;rw[zrf (Jh P N)];rfl
  .rw[oF]at h;obtain⟨u,H,B⟩:=h;rw[Cc]at B;obtain⟨v,E,D⟩:=B;refine⟨v,?_,I v D⟩;show Ey x C j HA=_
   grind [zrf,bF]
 case binOp op ty x y u=>
  unfold nt at h;rw[bD]at h;split at h
  .exact wX F (.inl rfl) h g
  .simp only[oF,Cc]at h;obtain⟨a,H,b,B,v,E,D⟩:=h;refine⟨v,?_,I v D⟩;show Aw op ty x y C j HA=_
   grind [ii,bF]
 case unOp o ty x=>
  split at h
  .simp only[oF,Cc]at h;obtain⟨u,H,v,B,E⟩:=h;refine⟨v,?_,I v E⟩;show P8 .xor x C j HA=_;unfold P8;rw[bF F H];exact B
  .exact wX F (.inl rfl) h g
 case convert s d x=>
  unfold wg at h;rw[bD]at h;split at h
  .rename_i hd;rw[bD]at h;split at h
   .rename_i U;exact wX F (.inr (.inl ⟨s,d,x,rfl,.inr (zD.1 U)⟩)) h g
   .simp only[oF,Mj]at h;obtain⟨u,H,v,B,E⟩:=h;refine⟨v,?_,I v E⟩;show eS s d x C j HA=_;rw[zh0 (bF F H)];exact zae S.le B
  .rw[bD]at h;split at h
   .rename_i hd;exact wX F (.inr (.inl ⟨s,d,x,rfl,.inl (zD.1 hd)⟩)) h g
   .cases h
 case makeInterface ty x=>exact wX F (.inl rfl) h g
 case makeFunc fn a b=>exact wX F (.inl rfl) h g
 case slice ty x a1 hi mx=>
  cases mx with
  | some _=>cases h
  | none=>
   simp only[zqa,oF]at h;obtain⟨a,H,l,B,r,E,D⟩:=h;rw[bD]at D;show ∃v,Ev ty x a1 hi C j HA=some v/\R v;rw[znx (bF F H) (RL F B) (RL F E)];split at D
   .grind [Cc,zfc,zD]
   .rw[Mj]at D;obtain⟨v,M,h6⟩:=D;exact⟨v,UZ S.le M,I v h6⟩
 case fieldAddr s x f=>
  unfold IQ at h;show ∃v,Au s x f C j HA=some v/\R v;split at h
  .rename_i p N;rw[oF]at h;obtain⟨o,H,B⟩:=h;refine⟨_,?_,K _ _ B⟩;rw[NY (Jh P N)];unfold jB;rw[H];rfl
  grind [oF,Cc,NY,bF]
 case field ty x f=>exact wX F (.inl rfl) h g
 case indexAddr ty x i=>
  unfold IN at h;show ∃v,Ar ty x i C j HA=some v/\R v;split at h
  .rename_i p N;simp only[oF]at h;obtain⟨iv,H,n,B,o,E,D⟩:=h;refine⟨_,?_,K _ _ D⟩;rw[NT (Jh P N) (bF F H)];unfold HS at E;simp only[mA,qB]at E;obtain⟨y,g1,a,g2,Z,g3,g4,g5⟩:=E;cases g5;unfold zC;rw[g1,lA,B,lA];simp only[O.u,O.ah,lA];rw[g2,lA,g3,lA,g4];rfl
  grind [oF,Cc,NT,bF]
 case index ty x i=>
  rw[bD]at h;split at h
  .exact wX F (.inl rfl) h g
  .simp only[oF,Cc]at h;obtain⟨u,H,w,B,v,E,D⟩:=h;refine⟨v,?_,I v D⟩;show As ty x i C j HA=_
   grind [znz,bF]
 case lookup ty x i ok=>
  simp only[oF,Mj]at h;obtain⟨m,H,a6,B,v,E,D⟩:=h;refine⟨v,?_,I v D⟩;show Ap ty x i ok C j HA=_;rw[zhx (bF F H) (bF F B)];exact VC S.le E
 case extract x i=>
  simp only[oF,Cc]at h;obtain⟨u,H,v,B,E⟩:=h;refine⟨v,?_,I v E⟩;show Av x i C j HA=_
  grind [zbk,bF]
 case typeAssert x a u ok=>
  simp only[oF,Cc]at h;obtain⟨w,H,v,B,E⟩:=h;refine⟨v,?_,I v E⟩;show Ax x u ok C j HA=_
  grind [zh2,bF]
 case build ty ps=>
  unfold zqc at h;simp only[oF,oR]at h;obtain⟨y,H,L,vs,B,q,E,l,D,M⟩:=h;have M:if nD O.z q.2=true then iA C.a W J (k.a (.i l)) t Q else False:=M;split at M
  .rename_i T;refine⟨_,?_,g _ M⟩;show Cu ty ps C j HA=_;have hf:=zby (Nq C y) vs E T y.c l D;unfold Cu;rw[H,lA,FK F B,lA]
   cases U:y.a.b with
   | some fs=>
    simp only[];have:(λi=>ob (lD fs i) λx=>some (x.1,x.2.2))=Nq C y:=by funext i;unfold Nq;rw[U]
    simp_all
   | none=>
    simp only[];unfold TJ at L;rw[U]at L;simp only[]at L
    cases P:y.a.g with
    | none=>simp_all
    | some a=>
     rw[P]at L;simp only[]at L
     cases hy:C.b.c a.2 with
     | none=>simp_all
     | some Z=>
      simp only[lA];have:(λi=>some (i*Z.b,Z.b))=Nq C y:=by funext i;unfold Nq;rw[U];simp only[];rw[P,lA,hy,lA]
      simp_all
  simp_all
 case call c=>
  split at h
  .rename_i b hb;cases b<;>simp only[Ra]at h<;>try (cases h;done)
   case len=>
    unfold ns at h;simp only[oF]at h;obtain⟨ty,H,x,B,u,E,D⟩:=h;show ∃v,(lX c c.callee).f C j HA=some v/\R v;rw[hb];show ∃v,sU c C j HA=some v/\R v;rw[ij H B (bF F E)];rw[bD]at D;split at D
    .grind [Cc,zc8,zD]
    .rw[bD]at D;split at D
     .rw[Mj]at D;obtain⟨v,M,h6⟩:=D;exact⟨v,zc7 S.le M,I v h6⟩
     grind [oF,zik,zD]
   case max=>exact wX F (.inr (.inr ⟨c,rfl,.inl hb⟩)) h g
   case min=>exact wX F (.inr (.inr ⟨c,rfl,.inr hb⟩)) h g
  .cases h
end
end
section
variable {base f l:Nat}{args:List O}{H:sA}{d:wC}{u v:O}{op:Op}{w:O->sA->wC}{φ:fF}{K:O->T}{I:List Nat}{dst:Option Nat}
def Fv(C:fA)(A:G bC)(f:Nat)(args:List O)(H:sA):wC:=
 bif Nat.blt f yo then
  match C.c.c f with
  | some g=>ob (g args H) λp=>some (⟨p.1,false⟩,p.2)
  | none=>sD C A (.aa f) args H
 else sD C A (.ac (f-yo)) args H
theorem Lu{C:fA}{A:G bC}   (h:Nat.blt f yo=true):Fv C A f args H=(match C.c.c f with
  | some g=>ob (g args H) λp=>some (⟨p.1,false⟩,p.2)
  | none=>sD C A (.aa f) args H):=by grind [Fv]
def TE{C:fA}{A:G bC}    : Fv C A (yo+l) args H=sD C A (.ac l) args H:=by
 unfold Fv;have:Nat.blt (yo+l) yo=false:=Bool.eq_false_iff.2 λe=>by grind [eC]
 simp_all
def eK:mB:=λ_ _=>False
def qC (base:Nat)(e:Xt)(E Q:mB)(d:wC):Prop:=∃o b a c,d=some (o,a)/\Ov base b c a/\dJ e c/\if o.p=true then E o.v b else Q o.v b
theorem qC.g {e:Xt}{E Q b c:mB} (h:qC base e E Q d)(k:∀v t,Q v t->c v t)(k':∀v t,E v t->b v t:=by exact λ_ _ h=>h):qC base e b c d:=by
 obtain⟨o,l,a,f,g,i,j,m⟩:=h;refine⟨o,l,a,f,g,i,j,?_⟩
 grind
theorem iR {e:Xt}{Q:mB}  : qC base e eK Q d ↔ ∃v t' a b,d=some (⟨v,false⟩,a)/\Ov base t' b a/\dJ e b/\Q v t':=by
 constructor
 .rintro⟨⟨v,p⟩,t',a,b,f,g,h,c⟩
  cases p with
  | true=>exact c.elim
  | false=>grind
 .rintro⟨v,t',a,b,f,g,h,c⟩;exact⟨_,t',a,b,f,g,h,c⟩
structure nT (C:fA) (A:G bC) (E:mB) (W:xG):Prop where
 fn:∀f args t R,Nat.blt f pn=true->W f args t R->∀X HA,Ov C.a t X HA->qC C.a X E R (Fv C A f args HA)
 rd:∀l args t R,W (yo+l) args t R->∀X HA,Ov C.a t X HA->qC C.a X eK R (Fv C A (yo+l) args HA)
 a:∀args t R,W pn args t R->∃v,args=[v]/\E v t
section
variable {W J:xG}{t:G uA}{X o:Xt}{HA:sA}{e B:mD}{C:fA}{A:G bC}{ν:Nat->Nat}{F:rR}{lo:G (List O)}{k:jP}{D:sv}{Q E:mB}
def jO{f:gL}  (h:f C e H=some v):lv f C e H=.aa v H:=by unfold lv;rw[h]
def zkw   (h:(jG op).f C e H=some v):(iF op).f C e H=.aa v H:=by
 cases op
 case move x=>exact jO h
 case assign x=>exact jO h
 case pick c a b=>exact jO h
 case load t a=>exact jO h
 case nilCheck x=>exact jO h
 case binOp op t x y u=>exact jO h
 case unOp op t x=>exact jO h
 case makeInterface t x=>exact jO h
 case makeFunc k a b=>exact jO h
 case slice t x lo l m=>exact jO h
 case fieldAddr s x f=>exact jO h
 case field t x f=>exact jO h
 case indexAddr t x i=>exact jO h
 case index t x i=>exact jO h
 case extract t i=>exact jO h
 case build t n=>exact jO h
 case typeAssert x t u j=>exact jO h
 case lookup t x i j=>exact jO h
 case convert s d x=>
  show Cy s d x C e H=_;have h:eS s d x C e H=some v:=h;unfold Cy;rw[h]
 case call c=>
  have h:(lX c c.callee).f C e H=some v:=h;show(Oh c c.callee).f C e H=_
  cases g:c.callee with
  | value f=>rw[g]at h;cases h
  | invoke a b=>rw[g]at h;cases h
  | builtin b=>
   rw[g]at h;cases b
   case len=>exact jO (f:=sU c) h
   case max=>exact jO (f:=Ao c) h
   case min=>exact jO (f:=An c) h
   all_goals exact absurd (show(none:Option O)=some v from h) (by simp)
 all_goals exact absurd (show(none:Option O)=some v from h) (by simp)
def Hk{x:Option (O × sA)} {H':sA}  (h:x=some (v,H')):fH φ (kN x) HA w=w v H':=by subst h;rfl
def vZ(b:Ov C.a t X HA){x:sA->Option (O × sA)}(e:cX C.a x) (h:iA C.a W J (.h x K) t Q)
  (k:∀v t' a c,Ov C.a t' c a->dJ X c->iA C.a W J (K v) t' Q->qC C.a o E Q (w v a)) {r:pM} (l:∀p,x HA=some p->fH φ r HA w=w p.1 p.2):qC C.a o E Q (fH φ r HA w):=by
 have h:=h HA.a b.o b.d;rw[El]at h;obtain⟨⟨v,f⟩,d,g⟩:=h;obtain⟨a,i,j⟩:=e _ _ _ _ _ b d
 grind [dJ.f]
def zs9 (h:Nat.blt f pn=true):Nat.blt f yo=true/\f≠pn:=by
 grind [eC,pn,yo]
def GO(s:nT C A E W)(B:Ov C.a t X HA)(u:dJ o X) (m:Nat.blt f pn=true)  (h:W f args t λv t'=>iA C.a W J (K v) t' Q)
  (l:∀v t' a d,Ov C.a t' d a->dJ X d->iA C.a W J (K v) t' Q->qC C.a o E Q (w v a)):qC C.a o E Q (fH (sD C A) (Pe C HA args f (C.c.c f)) HA w):=by
 obtain⟨k,z⟩:=zs9 m;obtain⟨⟨v,p⟩,t',a,d,c,e,i,j⟩:=s.fn _ _ _ _ m h X HA B;rw[Lu k]at c;unfold Pe
 cases n:C.c.c f with
 | some g=>
  rw[n]at c;rw[mA]at c;obtain⟨q,c,r⟩:=c;cases r;simp only[c];exact l _ _ _ _ e i j
 | none=>
  rw[n]at c;have c:sD C A (.aa f) args HA=some (⟨v,p⟩,a):=c;show qC C.a o E Q (ob (sD C A (.aa f) args HA) λp=>bif p.1.p then some p else w p.1.v p.2);rw[c]
  cases p with
  | true=>exact⟨_,t',a,d,rfl,e,λb y x=>i b y (u b y x),j⟩
  | false=>exact l _ _ _ _ e i j
def zmn(j:nT C A E W)(k:Ov C.a t X HA)   (h:W (yo+l) args t λv t'=>iA C.a W J (K v) t' Q)
  (i:∀v t' a b,Ov C.a t' b a->dJ X b->iA C.a W J (K v) t' Q->qC C.a o E Q (w v a)):qC C.a o E Q (fH (sD C A) (.ak l args) HA w):=by
 have c:=j.rd _ _ _ _ h X HA k;rw[iR]at c;obtain⟨v,t',a,b,d,e,f,g⟩:=c;rw[TE]at d;show qC C.a o E Q (ob (sD C A (.ac l) args HA) λp=>sB (!p.1.p) (w p.1.v p.2));rw[d];exact i _ _ _ _ e f g
def Ov.m (h:Ov base t X HA){b:Nat}{y:uA}(e:X b=some y)(z:uA):Ov base t (λc=>if c=b then some z else X c) (Am.A7 HA b z):=by
 obtain⟨f,g,i⟩:=h.a b y e;refine⟨h.d,λc d=>?_,λc u d=>?_,h.j⟩
 .split at d
  .cases d
  .rename_i a;show(HA.t.d b z).c c=_;rw[G.aa,A3 a];exact h.f c d
 .show(HA.t.d b z).c c=_/\_/\c<HA.a;rw[G.aa];split at d
  .simp_all
  .rename_i a;rw[A3 a];exact h.a c u d
def Ov.r (h:Ov base t X HA)(z:uA):Ov base t (λc=>if c=HA.a then some z else X c) (Am.B2 HA z):=by
 refine⟨Nat.le_succ_of_le h.d,λc a=>?_,λc u a=>?_,λb y f=>Nat.lt_succ_of_lt (h.j b y f)⟩
 .split at a
  .cases a
  .rename_i d;show(HA.t.d HA.a z).c c=_;rw[G.aa,A3 d];exact h.f c a
 .show(HA.t.d HA.a z).c c=_/\_/\c<HA.a+1;rw[G.aa];split at a
  .rename_i e;cases a;subst e;rw[A5 rfl];exact⟨rfl,h.o,Nat.lt_succ_self _⟩
  .rename_i d;rw[A3 d];have:=h.a c u a;grind
def zhc(k:Ov C.a t X HA)(i:Vd C.a o X ν lo){d off:Nat}{l e:List O} {sz:Nat}(g:lo.c d=some l)(b:pZ l off sz u=some e)(p:nD O.z u.s=true) :
  Nat.beq (vB u.s) sz=true/\e.length=l.length/\∃c',gK C HA (ν d) off u.s=some (A7 HA (ν d) (.aa c' l.length none))/\∀j a,e[j]?=some a->c'.c j=some a:=by
 obtain⟨_,q,c,h,r⟩:=i d l g;have v:=(k.a _ _ h).1;unfold pZ at b;simp only[qB,B3,mF,dD,wI,eV,vU,Option.some.injEq]at b;obtain⟨⟨m,n⟩,f⟩:=b;subst f;refine⟨by grind [dD],?_,c.am u.s off,?_,?_⟩
 .grind
 .grind [gK,Nat.blt,eD,qB,lA,uA.a,mF,dD]
 .intro j a s;rw[G.ap];grind
def zkf{y:jD} (h:nD O.z (Pd y u)=true):Pd y u=u.s:=by
 grind [Pd,gI,CX]
theorem zax    (h:(jG op).f C B HA=some v):fH φ ((iF op).f C B HA) HA w=w v HA:=by rw[zkw h];rfl
def zht  {d:Nat}(h:N3 I dst=some d):dst=some d:=by
 unfold N3 at h;grind
def pg(hW:nT C A E W)(hX:dJ o X)(L:bX e B)(ha:Py ν F B)(K:Ov C.a t X HA)(hl:Vd C.a o X ν lo)
  (h:iA C.a W J (tH C I dst op e F lo k D) t Q)
  (S:∀v t' T X',Ov C.a t' X' T->dJ X X'->iA C.a W J (k.K v) t' Q->qC C.a o E Q (w v T))
  (a6:∀v t' T X',Ov C.a t' X' T->dJ X X'->iA C.a W J (k.a v) t' Q->qC C.a o E Q (w v T))
  (af:∀d off,iA C.a W J (k.b d off) t Q->qC C.a o E Q (w (.j (ν d) off) HA))
  (U:∀d l,N3 I dst=some d->iA C.a W J (D.a d l) t Q->qC C.a o E Q (w (.j HA.a 0) (sG HA l none)))
  (ab:∀d l l' c',lo.c d=some l->l'.length=l.length->(∀j a,l'[j]?=some a->c'.c j=some a)->iA C.a W J (D.b d l') t Q->qC C.a o E Q (w aD (A7 HA (ν d) (.aa c' l.length none)))) :
  qC C.a o E Q (fH (sD C A) ((iF op).f C B HA) HA w):=by
 have a1:∀(op:Op),iA C.a W J (tL C op e F lo k) t Q->qC C.a o E Q (fH (sD C A) ((iF op).f C B HA) HA w):=by
  intro op h;obtain⟨v,i,M⟩:=wl (R:=λv=>qC C.a o E Q (w v HA)) L ha K hl h (λv h=>S v _ _ _ K (dJ.f _) h) (λv h=>a6 v _ _ _ K (dJ.f _) h) af
  grind [zax]
 cases op<;>simp only[tH]at h<;>try (exact a1 _ h)
 case alloc H=>
  show qC C.a o E Q (fH _ (Ij H C B HA) HA w);rw[bD]at h;split at h
  .rename_i ht;have ht:bL C H=none:=by
    cases hx:bL C H with
    | none=>rfl
    | some _=>rw[hx]at ht;cases ht
   split at h
   .rename_i d N;rw[oF]at h;obtain⟨y,i,M⟩:=h;unfold Ij;rw[i,ht];exact U d _ N M
   .refine vZ K zda h S λp z=>?_;unfold Ij;rw[ht];have z:(ob (C.b.c H) λH=>some (.j HA.a 0,sG HA H.c none))=some p:=z;rw[z];rfl
  .refine vZ K zag h S λp z=>?_;unfold Ij;unfold Js at z;rw[z];rfl
 case box H x=>
  rw[bD]at h;show qC C.a o E Q (fH _ (Ff H x C B HA) HA w);unfold Ff;split at h
  .rename_i ht;have ht:bL C H=none:=by
    cases hx:bL C H with
    | none=>rfl
    | some _=>rw[hx]at ht;cases ht
   rw[oF]at h;obtain⟨v,i,h⟩:=h;rw[bF L i,ht];split at h
   .rename_i d N;rw[oF]at h;obtain⟨y,_,h⟩:=h;rw[bD]at h;split at h
    .exact U d _ N h
    .have h:if O.z v=true then iA C.a W J (D.a d [v]) t Q else False:=h;split at h
     .rename_i i;have:=U d _ N h;rw[<- CX i]at this;exact this
     simp_all
   .refine vZ K zts h S λp z=>?_;cases z;rfl
  .rw[oF]at h;obtain⟨v,i,h⟩:=h;rw[bF L i];refine vZ K zlf h S λp z=>?_;cases z;rfl
 case buildSlice H n ps=>
  rw[oF]at h;obtain⟨vs,i,h⟩:=h;show qC C.a o E Q (fH _ (Ii H n ps C B HA) HA w);refine vZ K VD h S λp z=>?_;refine Hk (v:=p.1) (H':=p.2) ?_;rw[FK L i];exact z
 case makeMap H r=>
  cases r with
  | some _=>simp_all
  | none=>
   simp only[]at h;show qC C.a o E Q (fH _ (Tj none C B HA) HA w);refine vZ K VB h S λp z=>?_;cases z;rfl
 case makeSlice H l c=>
  simp only[oF]at h;obtain⟨a,i,b,M,h⟩:=h;show qC C.a o E Q (fH _ (EM H l c C B HA) HA w);refine vZ K VA h S λp z=>?_;refine Hk (v:=p.1) (H':=p.2) ?_
  grind [bF,sS,lA]
 case store H a x=>
  unfold zp9 at h;show qC C.a o E Q (fH _ (Th H a x C B HA) HA w);split at h
  .rename_i p z;simp only[oF]at h;obtain⟨u,i,y,M,l,P,l',h4,h5⟩:=h;have h5:if nD O.z (Pd y u)=true then iA C.a W J (D.b p.1 l') t Q else False:=h5;split at h5
   .rename_i Z;have a7:=zkf Z;rw[a7]at Z h4;have h4:pZ l p.2 y.b u=some l':=h4;obtain⟨g1,g2,c',g3,g4⟩:=zhc K hl P h4 Z;have:=ab p.1 l l' c' P g2 g4 h5;have e1:fH (sD C A) (Th H a x C B HA) HA w=w aD (A7 HA (ν p.1) (.aa c' l.length none)):=by
     refine Hk ?_;rw[M,lA,Jh ha z,lA];simp only[O.ah,lA];rw[bF L i,lA,g1,g3];rfl
    simp_all
   simp_all
  .simp only[oF]at h;obtain⟨av,i,u,M,h⟩:=h;refine vZ K zc6 h a6 λp z=>?_;refine Hk (v:=p.1) (H':=p.2) ?_
   grind [bF,mC,lA]
 case convert s d x=>
  rw[bD]at h;split at h
  .rename_i N;rw[oF]at h;obtain⟨u,i,h⟩:=h;show qC C.a o E Q (fH _ (Cy s d x C B HA) HA w);have hn:eS s d x C B HA=none:=by
    rw[zh0 (bF L i)]
    cases hq:rS C s d HA u with
    | none=>rfl
    | some q=>
     exfalso;unfold rS at hq;simp only[mA]at hq;obtain⟨sy,g1,dy,g2,g3⟩:=hq;have N:=zD.1 N;unfold uJ at N;rw[g2]at N;have N:dy.a.l=4:=N;unfold rW at g3;have n1:dy.a.o=none:=by cases hz:dy.a<;>rw[hz]at N<;>first | rfl | (cases N;done)
     have n2:dy.a.c=false:=by unfold jE.c;rw[N];rfl
     rw[n1,n2]at g3;cases g3
   unfold Cy;rw[hn];simp only[];refine vZ K UY h S λp z=>?_;refine Hk (v:=p.1) (H':=p.2) ?_;rw[bF L i];exact z
  grind [tL]
 case insert H m a8 x=>
  simp only[oF]at h;obtain⟨mv,i,kv,M,u,P,h⟩:=h;show qC C.a o E Q (fH _ (Ih H m a8 x C B HA) HA w);refine vZ K HR h a6 λp z=>?_;refine Hk (v:=p.1) (H':=p.2) ?_;rw[bF L i,bF L M,bF L P];exact z
 case mapUpdate H m a8 x=>
  simp only[oF]at h;obtain⟨mv,i,kv,M,u,P,h⟩:=h;show qC C.a o E Q (fH _ (Ih H m a8 x C B HA) HA w);refine vZ K HR h a6 λp z=>?_;refine Hk (v:=p.1) (H':=p.2) ?_;rw[bF L i,bF L M,bF L P];exact z
 case panic x=>
  have h:iA C.a W J (kC (ev x e) λv=>kC v.au λp=>.c pn [.aw p.1 p.2] k.K) t Q:=h;simp only[oF]at h;obtain⟨v,i,p,M,P⟩:=h;obtain⟨u,e1,e2⟩:=hW.a _ _ _ P;cases e1;show qC C.a o E Q (fH _ (Ti x C B HA) HA w);unfold Ti;rw[bF L i,lA,M,lA];exact⟨⟨_,true⟩,t,HA,X,rfl,K,hX,e2⟩
 case call c=>
  show qC C.a o E Q (fH _ ((Oh c c.callee).f C B HA) HA w);split at h
  .rename_i f hc;rw[hc];show qC C.a o E Q (fH _ (Lh f c.args C B HA) HA w);have ad:∀ {fv:O} {aq:List O},ev f e=some fv->eQ c.args.toList e=some aq->iA C.a W J (.n fv aq k.K) t Q->qC C.a o E Q (fH (sD C A) (Lh f c.args C B HA) HA w):=by
    intro fv aq i M h;have h:oD (eM fv aq) λp=>W p.1 p.2 t λv t'=>iA C.a W J (k.K v) t' Q:=h;rw[El]at h;obtain⟨⟨g,ag⟩,P,h4⟩:=h;unfold eM at P;rw[mA]at P;obtain⟨p,h5,h6⟩:=P;have e0:Lh f c.args C B HA=uv C HA (oE p.2.1 aq) p.2.2 p.1:=by
     unfold Lh pV;rw[bF L i,lA,h5,lA,FJ L M,lA,lA];rfl
    rw[e0]
    cases z:p.1 with
    | aa g'=>
     rw[z]at h6;simp only[qB]at h6;obtain⟨hg,h6⟩:=h6;cases h6;exact GO hW K hX hg h4 S
    | ac l=>
     rw[z]at h6;simp only[qB,B3]at h6;obtain⟨⟨ha,hb⟩,h6⟩:=h6;cases h6;have ea:p.2.1=[]:=by cases hx:p.2.1 with | nil=>rfl | cons _ _=>rw[hx]at ha;cases ha
     have eb:p.2.2=[]:=by cases hx:p.2.2 with | nil=>rfl | cons _ _=>rw[hx]at hb;cases hb
     rw[ea,eb];exact zmn hW K h4 S
   unfold zqb at h;split at h
   .rename_i g;rw[oR,oF]at h;obtain⟨hg,aq,i,h⟩:=h;refine ad (fv:=.q (.aa g) [] []) rfl i ?_;show oD (eM (.q (.aa g) [] []) aq) _;have e2:eM (.q (.aa g) [] []) aq=some (g,aq):=by
     show sB (Nat.blt g pn) (some (g,oE (oE [] aq) []))=_;rw[hg,wI,wI];simp[sB]
    rw[e2];exact h
   grind [oF]
  .rename_i b hb;rw[hb];have lt:iA C.a W J (Ra C c e k b) t Q->qC C.a o E Q (fH (sD C A) ((Oh c (.builtin b)).f C B HA) HA w):=by
    intro h;have:=a1 (.call c) (by show iA C.a W J (match c.callee with | .builtin b=>Ra C c e k b | _=>.g) t Q;simp_all)
    have e1:(iF (.call c)).f C B HA=(Oh c c.callee).f C B HA:=rfl
    simp_all
   unfold IP at h;split at h
   .simp only[oF,nu]at h;obtain⟨H,i,u,M,p,P,h⟩:=h;show qC C.a o E Q (fH _ (Oi c C B HA) HA w);refine vZ K zaf h S λq hq=>?_;refine Hk (v:=q.1) (H':=q.2) ?_
    grind [lG,mA,qB,AU]
   grind
  .cases h
end
end
end Go.Am
