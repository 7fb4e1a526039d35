/- The simulation: leaving, rounds, regions in order, heavy operations. -/
import Derived.Test.YtefajchlhjcgpaaGreatDoorP03
set_option linter.all false
noncomputable section
namespace Go.Am
open Go Go.RowKit
section
variable {m:Option Nat}{D F:Nat}{o:Oper}{olds:List (Nat × List Nat)}{E:G Nat}{old:Tm}{S:Nat->Bool}{z:List Nat}{A:dH}{q:List dH}
section
variable {P:Program}{C:fA}{B N:Nat}{I:World->Prop}{μ ν:Mu}{H H':sA}{w:World}{tm:Tm}{R:eL}{acs:List pC}{base cs:List Frame}
variable {b:Frame}{tmps:Array Value}{ds:List Deferred}{k:List yF}{k':List Item}{all:Array Oper}
def KE (h:Ja μ none m):m=none:=by
 cases m with
 | none=>rfl
 | some l=>exact h.elim
theorem CJ{l:Nat} (h:Ja μ (some l) m):∃i,μ l=some i/\m=some i.b:=by
 cases m with
 | none=>exact h.elim
 | some m=>obtain⟨i,a,b⟩:=h;simp_all
theorem DU(n:lB B N μ H w)(j:mH C μ acs cs)(o:pI μ R (b.atR ⟨tmps,ds⟩ []))(K:cF μ R.n tm tmps){m:List yF}{d:List Item}{a:Option Code}
  (z:b.roundOf=none->u7 a=true->step P (lone (b.atR ⟨tmps,ds⟩ d) (cs++base) w)=.next (lone { b.atR ⟨tmps,ds⟩ d with mode:=.returning } (cs++base) w))
  (A:∀l c rest v w',b.roundOf=some l->b.kind=.normal->(Instr.endRound l a).run P w=.ok v w'->step P (lone (b.atR ⟨tmps,ds⟩ d) (c::rest) w)=.next (lone (c.finish v) rest w')) :
  lE P C B N μ base (lone (b.atR ⟨tmps,ds⟩ d) (cs++base) w) w (nX a C ⟨m,tm,R⟩ acs H):=by
 unfold nX;simp only[]
 cases x:R.c with
 | none=>
  have p:b.roundOf=none:=by
   have:=o.a;rw[x]at this;exact KE this
  cases J:u7 a with
  | false=>exact trivial
  | true=>exact WR n j o K (.one (z p J))
 | some l=>
  obtain⟨i,q,p⟩:∃i,μ l=some i/\b.roundOf=some i.b:=by
   have:=o.a;rw[x]at this;exact CJ this
  simp only[]
  cases L:rK H l with
  | none=>exact trivial
  | some r=>
   rw[lA]
   cases j with
   | ac=>exact trivial
   | @aa c y t g D k=>
    simp only[]
    cases E:R.b with
    | true=>exact trivial
    | false=>
     have f:b.kind=.normal:=by have:=o.d;rw[E]at this;exact this
     cases F:fI c (.d a.isNone)with
     | none=>exact trivial
     | some Q=>
      obtain⟨u,M,I,S,e⟩:=Sp n L q;have s:(Instr.endRound i.b a).run P w=.ok (.bool a.isNone) (World.c w i.b (.loop { M with state:=if a.isNone then .ready else .done,pending:=a })):=by
       simp_all [Instr.endRound,Ro,Nc]
      refine⟨μ,_,g,_,.one (A i.b y (g++base) _ _ p f s),λ_ _ h=>h,Dg (n.aj l i u q).1,?_,Ln D F (by rw[rA]),k⟩;refine n.be I q u ?_;rw[kK];exact⟨_,rfl,rfl,rfl,e.g,e.j,e.b,e.c,e.e,e.d⟩
theorem YG  : ∀ {k:List yF} {k':List Item},qE (bH μ) k k'->iX F k=none->exitTo F k'=none:=by
 intro k k' h;induction h with
 | ac=>intro _;rfl
 | aa a l b=>
  intro e
  cases a with
  | ah i=>
   grind [iX,yF.j,exitTo,zD]
  | _=>
   grind [iX,exitTo]
def zw8(e:lB B N μ H w)(a:mH C μ acs cs)(f:pI μ R (b.atR ⟨tmps,ds⟩ []))(j:cF μ R.n tm tmps)(i:qE (bH μ) k k')  :
  lE P C B N μ base (lone (b.atR ⟨tmps,ds⟩ (.code (.exit F)::k')) (cs++base) w) w (Gl F C k tm R acs H):=by
 unfold Gl
 cases g:iX F k with
 | some r=>
  obtain⟨s,n,o⟩:=zi8 i g;exact Ek e a f j o (.one (stepR_exit n))
 | none=>
  exact DU e a f j (λ_ h=>by cases h) λl c m v t p d q=>stepR_round_exit p d (YG i g) q
def ib(e:lB B N μ H w)(c:mH C μ acs cs)(f:pI μ R (b.atR ⟨tmps,ds⟩ []))(h:cF μ R.n tm tmps) :
  lE P C B N μ base (lone (b.atR ⟨tmps,ds⟩ (.code .ret::k')) (cs++base) w) w (nj C k tm R acs H):=
 DU e c f h (λa _=>stepR_ret a) λ_ _ _ _ _ a d g=>stepR_round_ret a d g
theorem zjg(e:lB B N μ H w)(c:mH C μ acs cs)(f:pI μ R (b.atR ⟨tmps,ds⟩ []))(h:cF μ R.n tm tmps) :
  lE P C B N μ base (lone (b.atR ⟨tmps,ds⟩ []) (cs++base) w) w (nX none C ⟨[],tm,R⟩ acs H):=
 DU e c f h (λa _=>stepR_end a) λ_ _ _ _ _ a d g=>stepR_round_end a d g
theorem Hi {rest:List Oper}:nO C all k R acs (o::rest) tm H=match cG o.guard all tm with
  | none=>.ac 20
  | some false=>nO C all k R acs rest (By R.n tm o.dst aD) H
  | some true=>match ((iF o.op).f C (.b tm) H).a with
   | some p=>nO C all k R acs rest (By R.n tm o.dst p.1) p.2
   | none=>Pm ((iF o.op).f C (.b tm) H) C ⟨.h all (o::rest)::k,tm,R⟩ acs H:=by
 show(match cG o.guard all tm with
  | some w=>Bool.rec (motive:=λ_=>dG) (nO C all k R acs rest (By R.n tm o.dst aD) H)
     (let r:=(iF o.op).f C (.b tm) H
     match r.a with
     | some p=>nO C all k R acs rest (By R.n tm o.dst p.1) p.2
     | none=>Pm r C ⟨.h all (o::rest)::k,tm,R⟩ acs H) w
  | none=>.ac 20)=_
 grind
theorem KL{n i:Nat}(h:i<n):(List.range n).drop i=i::(List.range n).drop (i+1):=by
 grind [List.drop_eq_getElem_cons]
theorem KB(v:rM P C B N I):∀(rest:List Oper) (i:Nat) (tm:Tm) (H:sA) (w:World) (μ:Mu) (tmps:Array Value),rest=all.toList.drop i->i<=all.size->I w->lB B N μ H w->mH C μ acs cs →
  pI μ R (b.atR ⟨tmps,ds⟩ [])->cF μ R.n tm tmps->qE (bH μ) k k' →
  lE P C B N μ base (lone (b.atR ⟨tmps,ds⟩ (.inRegion all ((List.range all.size).drop i)::k')) (cs++base) w) w (nO C all k R acs rest tm H):=by
 intro rest;induction rest with
 | nil=>
  intro i tm H w μ tmps Q F A z a q m x;have:all.size<=i:=by
   simp_all
  rw[F1 (by simp_all)];exact Ek z a q m x (.one stepR_region_end)
 | cons o rest T=>
  intro i tm H w μ tmps Q F A z a q m x;obtain⟨h1,M⟩:=Be Q;have g:i<all.size:=by grind
  have S:all[i]?=some o:=by simp_all
  rw[Hi,KL g]
  cases hw:cG o.guard all tm with
  | none=>exact trivial
  | some wn=>
   have u:=m.p (all:=all) hw
   cases wn with
   | false=>
    refine lE.c (.one (BK S u)) (λ_ _ h=>h) (Below.refl N w) ?_;rw[Nm];have t:=m.f (ds:=ds) (dst:=o.dst) Vm;exact T (i+1) _ _ _ _ _ M g A z a (q.l t.1) t x
   | true=>
    have J:=ztb v.b v.d v.a v.c z A (m.l (ds:=ds) z.ac) o;simp only[];generalize hr:(iF o.op).f C (.b tm) H=r at J;have E:(∃c,o.op=.defer c)->r=.ac\/∃d,r=.ah d:=λh=>by grind [UF]
    have a1:fL C μ acs.length none ⟨.h all (o::rest)::k,tm,R⟩ (b.atR ⟨tmps,ds⟩ (.inRegion all (i::(List.range all.size).drop (i+1))::k')):=by
     refine⟨q.n,?_⟩;rw[A5 q.f,<- KL g,Q];exact .aa (.aa (.au all i F) x) m
    cases y:r.a with
    | none=>grind [UJ]
    | some p=>
     have:r=.aa p.1 p.2:=by cases r<;>simp[pM.a]at y;rw[<- y]
     subst this;simp only[];have W:∀c,o.op≠.defer c:=λc e=>by
      rcases E ⟨c,e⟩with h | ⟨d,h⟩<;>cases h
     rcases J with h | ⟨f,L,X,Z⟩
     .obtain⟨U,K,l,s,j,n,D,y⟩:=AP (b:=b) (k':=k') (rest:=(List.range all.size).drop (i+1)) (cs:=cs++base) S u W h;refine lE.c (.one s) j.f D ?_;have t:=(m.c j).f (ds:=ds) (dst:=o.dst) y;exact T (i+1) _ _ _ _ _ M g (v.e _ _ D A) n (a.e j) ((q.j j).l t.1) t (x.c λ_ _ r=>r.d j)
     .obtain⟨U,K,s,l,j,n,D,y⟩:=TC (b:=b) (k':=k') (rest:=(List.range all.size).drop (i+1)) (cs:=cs++base) (R:=λU K=>∃ l,μ.le l/\lB B N l p.2 K/\Below N w K/\rA l p.1 U) S u W X (Z.mono λe K hh=>by simp_all);refine lE.c s j.f D ?_;have t:=(m.c j).f (ds:=ds) (dst:=o.dst) y;exact T (i+1) _ _ _ _ _ M g (v.e _ _ D A) n (a.e j) ((q.j j).l t.1) t (x.c λ_ _ r=>r.d j)
theorem zob(e:rM P C B N I)(F:I w)(n:lB B N μ H w)(a:mH C μ acs cs)(y:pI μ R (b.atR ⟨tmps,ds⟩ []))(K:qE (bH μ) k k')
  (Q:aG μ all olds E R.n old tm D S z tmps) (j:pL all.toList E (A::q) D=true) (M:eI C μ acs.length H all olds R.n old tm D S) (i:all[A.a]?=some o) :
  lE P C B N μ base (lone (b.atR ⟨tmps,ds⟩ (.inRegion all z::k')) (cs++base) w) w (Vh all old olds A q o C k tm R acs H):=by
 have f:A.a<=all.size:=Nat.le_of_lt (H4.1 i).1;obtain⟨Z,c,l,m,W,s,g,p,U⟩:=pe (b:=b) (k:=k') (cs:=cs++base) (ds:=ds) e.b j f z S tmps μ w n Q M;refine lE.c s g.g g.below ?_
 replace F:=e.e _ _ g.below F
 replace n:=g.b
 replace a:=a.c λd hd=>g.j d (by omega)
 replace y:=y.j g.g
 replace K:qE (bH m) k k':=K.c λ_ _ r=>r.d g.g
 unfold Vh
 cases T:cG o.guard all tm with
 | none=>exact trivial
 | some X=>
  obtain⟨o',v,J,t,_⟩:=p.p;rw[i]at v;cases v;have x:=p.y i t T;have u:fL C m acs.length none ⟨.d all old olds (A::q)::k,tm,R⟩ (b.atR ⟨l,ds⟩ (.inRegion all (A.a::c)::k')):=by
   refine⟨(y.l p.q).n,?_⟩;rw[A5 y.f];exact .ac p j f (gz j f p U) K
  cases X with
  | false=>
   refine CO (H:=H) u a m.g n (Below.refl N W) Vm ?_;rw[Frame.finish_atR,i,Z6];exact .one (BK i x)
  | true=>
   have L:=ztb e.b e.d e.a e.c n F (p.ak (ds:=ds) n.ac i J t) o;exact UJ e n a u i x (λh=>UF h _ _ _) L
theorem zbr(hS:rM P C B N I)(X:lB B N μ H w)(a7:mH C μ acs cs)(hR:pI μ R (b.atR ⟨tmps,ds⟩ []))(hk:qE (bH μ) k k')
  (F:aG μ all olds E R.n old tm D S z tmps) (aa:pL all.toList E (A::q) D=true) (hp:eI C μ acs.length H all olds R.n old tm D S) (a8:all.size<A.a) (M:A.a<=all.size+all.size) :
  lE P C B N μ base (lone (b.atR ⟨tmps,ds⟩ (.inRegion all z::k')) (cs++base) w) w (Vj all old olds A q (A.a-(all.size+1)) C k tm R acs H):=by
 obtain⟨o,D1,D2,Q,hf,h1,h2,h3⟩:=XM aa a8 M;generalize A.a-(all.size+1)=i at *;obtain⟨c,t,Z,J,L⟩:=Sd h1;rw[Q]at t;cases t;unfold Vj;generalize K:(ob (lD all.toList i) λo=>ob (cG o.guard all tm) λw=>sB (w&&dE (Eu C o.op)) (ob ((iF o.op).f C (.c tm old (tG i olds) (aI o.op)) H).a λp=>
  ob (bV C p.2 all R.n old olds A.b (By R.n tm o.dst p.1)) λW=>some (⟨⟨.d all old olds q::k,W,R⟩,acs,p.2⟩:xV)))=x
 cases x with
 | none=>exact trivial
 | some x=>
  simp only[mA,qB,xI,B3]at K;obtain⟨c,t,wn,hw,⟨ab,g⟩,p,hv,W,hl,K⟩:=K;have g:Eu C c.op=none:=by
   cases K:Eu C c.op with
   | none=>rfl
   | some _=>rw[K]at g;cases g
  have:c=o:=by
   simp_all
  subst this;subst ab;cases K;have T:(iF c.op).f C (jV tm old olds i c) H=.aa p.1 p.2:=by
   show(iF c.op).f C (.c tm old (tG i olds) (aI c.op)) H=_;generalize (iF c.op).f C (.c tm old (tG i olds) (aI c.op)) H=r at hv;cases r<;>simp[pM.a]at hv;rw[<- hv]
  obtain⟨l,s⟩:∃l,p.2=sG H l none:=zbs hf g T;have a1:lB B N (μ.u H.a (.aa (G.ac l) (vB l) none,acs.length,i)) p.2 w:=by rw[s];exact X.bz
  have f:μ.l (μ.u H.a (.aa (G.ac l) (vB l) none,acs.length,i)):=λ_ _ h=>h;have U:∀d,μ.t d (μ.u H.a (.aa (G.ac l) (vB l) none,acs.length,i)):=λd=>⟨f,λa x j ha=>by
   show(if a=H.a then _ else μ.n a)=_;rw[A3]
   .exact ha
   .intro e;have:=(X.ax _ _ _ ha).2.1;rw[e,(X.r _ (B4 _)).2]at this;cases this⟩
  have m:HM.aa H p.2:=by
   intro b y J;rw[s];show(H.t.d H.a _).c b=some y;rw[G.aa,A3]
   .exact J
   .intro e;rw[e,(X.r _ (B4 _)).2]at J;cases J
  have r1:=(F.am (v:=p.1) Q Z J L).ac f;have p1:eI C (μ.u H.a (.aa (G.ac l) (vB l) none,acs.length,i)) acs.length p.2 all olds R.n old (By R.n tm c.dst p.1) D1 S:=by
   intro j n a6;rw[L]at n;simp only[H5,beq_iff_eq]at n;rcases n with n | rfl
   .rcases hp j n a6 with⟨u,wu,vu,pu⟩ | ⟨u,vu,pu⟩
    .exact .inl ⟨u,wu,vu,(pu.l F.r F.l n Q Z).q m⟩
    .exact .inr ⟨u,vu,(pu.f F.r F.l n Q Z).c (U _)⟩
   .refine .inr ⟨c,p.1,Bv.r F.r F.l Q J Z hf g hw ⟨H,l,by rw[T,s],?_⟩⟩;show(if H.a=H.a then _ else μ.n H.a)=_;rw[A5 rfl]
  obtain⟨r2,p2⟩:=Xs _ _ _ hl h2 r1 p1;exact⟨_,_,cs,w,.refl _ _,f,Below.refl N w,a1,⟨(hR.j f).n,by rw[A5 hR.f];exact .ah r2 h3 p2 (hk.c λ_ _ r=>r.d f)⟩,a7.c λd _=>U d⟩
theorem DO{c b:Type}{f:c->Option b}(d:b):∀ {l:List c} {r:List b},jH f l=some r->(∀x∈l,f x=some ((f x).getD d))/\r=l.map λx=>(f x).getD d
 | [],r,h=>by grind [Lb]
 | a::l,r,h=>by
  rw[iQ,mA]at h;obtain⟨v,j,h⟩:=h;rw[mA]at h;obtain⟨m,e,h⟩:=h;cases h;obtain⟨g,i⟩:=DO d e
  grind
theorem zbo(hS:rM P C B N I)(hH:lB B N μ H w)(ac:mH C μ acs cs)(hR:pI μ R (b.atR ⟨tmps,ds⟩ []))(hk:qE (bH μ) k k')
  (hr:aG μ all olds E R.n old tm D S z tmps) (ai:pL all.toList E (A::q) D=true) (hp:eI C μ acs.length H all olds R.n old tm D S) (af:all.size+all.size<A.a) :
  lE P C B N μ base (lone (b.atR ⟨tmps,ds⟩ (.inRegion all z::k')) (cs++base) w) w (Vi all old olds A q C k tm R acs H):=by
 obtain⟨D1,D2,Z,h2,h3⟩:=XL ai af;unfold Vi;generalize hx:(sB (Ct C all) (ob (Ow all old olds tm A.c) λes=>ob (Fg C es H) λH'=>ob (bV C H' all R.n old olds A.b tm) λW=>some (⟨⟨.d all old olds q::k,W,R⟩,acs,H'⟩:xV)))=x
 cases x with
 | none=>exact trivial
 | some x=>
  simp only[mA,qB]at hx;obtain⟨m,es,s,K,f,W,hl,hx⟩:=hx;cases hx;unfold Fg at f;simp only[mA,qB,B3]at f;obtain⟨rs,ag,⟨c,T⟩,f⟩:=f;obtain⟨e1,e2⟩:=DO (uQ.b 0 .y .y) s;obtain⟨e3,e4⟩:=DO (RE.st 0 0 []) ag;have t:∀i∈A.c,Db all old olds tm i=some ((Db all old olds tm i).getD (uQ.b 0 .y .y))/\Ag C ((Db all old olds tm i).getD (uQ.b 0 .y .y))=some ((Ag C ((Db all old olds tm i).getD (uQ.b 0 .y .y))).getD (RE.st 0 0 [])):=
   λi v=>⟨e1 i v,e3 _ (by grind)⟩
  generalize hE:(λi=>(Db all old olds tm i).getD (uQ.b 0 .y .y))=L at e2;have t:∀i∈A.c,Db all old olds tm i=some (L i)/\Ag C (L i)=some ((λi=>(Ag C (L i)).getD (RE.st 0 0 [])) i):=by
   grind
  have n:rs=A.c.map λi=>(Ag C (L i)).getD (RE.st 0 0 []):=by rw[e4,e2,List.map_map];rfl
  generalize (λi=>(Ag C (L i)).getD (RE.st 0 0 []))=J at t n;subst n;have c:=UE c;have T:∀i∈A.c,Ux C H (J i):=by
   grind [gI,zf1]
  have p:tQ C H (A.c.map J) K:=by
   have:=tQ.n tQ.j (l:=A.c.map J) (λe s=>by grind) (by grind) f
   rwa [F3]at this
  obtain⟨S',a1,aj,X,w',seq,Hs,s1,b1,l1,d1,F,dn,hm,a7,U,p1,Q⟩:=zoi (b:=b) (k:=k') (cs:=cs++base) (ds:=ds) (H:=H) hS.b hS.d Z m t c T z S tmps μ w [] H D List.nodup_nil (λi v=>by cases v) tQ.j (λi v=>by cases v) (λk=>by simp) hH hr hp;have M:(seq.map J).Pairwise eW:=((F.map J).symm.pairwise_iff (λh=>eW.d h)).1 c;have ad:dz X Hs K:=dn.o p (F.map J) M λe s=>by grind
  have a8:=a7.br ad;have p2:eI C X acs.length K all olds R.n old tm D1 S':=by
   cases a6:A.c with
   | nil=>
    rw[a6]at F p;have ah:seq=[]:=List.Perm.eq_nil F;subst ah;have ae:HM.aa Hs K:=λa y hy=>by rw[p.d a (λe s=>by cases s),<- dn.d a (λe s=>by cases s)];exact hy
    intro j hj ab;rcases p1 j hj ab with⟨u,wu,vu,pu⟩ | h
    .exact .inl ⟨u,wu,vu,pu.q ae⟩
    grind
   | cons g l=>
    have f:g∈A.c:=by grind
    have aa:S' g=true:=Q g (F.mem_iff.2 f);obtain⟨o,ho,_⟩:=Z.e g f;refine LJ Z m (seq:=A.c) Z.a (λi v=>Q i (F.mem_iff.2 v)) f (λk hk=>U.r.f U.m ho (λj hj=>U.m g o ho aa j hj) hk) p1 K
  obtain⟨r2,p3⟩:=Xs _ _ _ hl h2 U p2;exact⟨_,_,cs,w',s1,l1,b1,a8,⟨((hR.j l1).l U.q).n,by rw[A5 hR.f];exact .ah r2 h3 p3 (hk.c λ_ _ r=>r.d l1)⟩,ac.c λd hd=>d1 d (by omega)⟩
end
end
section
variable {l:Nat}{i:BI}{f:Operand}{params:Array Nat}{assign body c:Code}{v:O}{h:pC}
section
variable {P:Program}{C:fA}{B N:Nat}{I:World->Prop}{μ ν:Mu}{H H':sA}{w:World}{tm:Tm}{R:eL}{acs:List pC}{base cs:List Frame}
variable {b:Frame}{tmps:Array Value}{ds:List Deferred}{k:List yF}{k':List Item}{all:Array Oper}
theorem zpr(d:lB B N μ H w)(e:mH C μ acs cs)(c:pI μ R (b.atR ⟨tmps,ds⟩ []))(v:cF μ R.n tm tmps)(s:qE (bH μ) k k') :
  lE P C B N μ base (lone (b.atR ⟨tmps,ds⟩ (.beginRound::k')) (cs++base) w) w (Qg C k tm R acs H):=by
 unfold Qg
 cases t:R.c with
 | none=>exact trivial
 | some l=>
  obtain⟨i,f,p⟩:∃i,μ l=some i/\b.roundOf=some i.b:=by
   have:=c.a;rw[t]at this;exact CJ this
  rw[lA]
  cases x:rK H l with
  | none=>exact trivial
  | some r=>
   rw[lA]
   cases g:Nat.beq (LoopState.a r.e) 0 with
   | false=>exact trivial
   | true=>
    obtain⟨n,o,q,y,a⟩:=Sp d x f;have j:o.state=.ready:=by
     rw[a.f];cases u:r.e<;>rw[u]at g<;>first | rfl | grind [LoopState.a,Nat.beq]
    have m:(Instr.beginRound i.b).run P w=.ok () (World.c w i.b (.loop { o with state:=.busy })):=by
     simp_all [Instr.beginRound,Ro,Nc]
    refine⟨μ,_,cs,_,.one (stepR_beginRound p m),λ_ _ h=>h,Dg (d.aj l i n f).1,?_,⟨?_,?_⟩,e⟩
    .refine d.be q f n ?_;rw[kK];exact⟨_,rfl,rfl,a.a,a.g,a.j,a.b,a.c,a.e,a.d⟩
    .refine⟨c.i,c.g,c.c,c.e,c.d,?_⟩;exact c.a
    .show if R.a.a=true then sQ C μ acs.length R.n _ k tm k' tmps else cF μ R.n tm tmps;rw[A5 c.f];exact .aa s v
theorem VX {a:Option Code}{w':World}{cs:List Frame}(c:(Instr.endLoop l).run P w=.ok a w') :
  step P (lone (b.atR ⟨tmps,ds⟩ (.endRangeFunc l::k')) cs w)=.next (lone (b.atR ⟨tmps,ds⟩ ((a.map Item.code).toList++k')) cs w'):=
 step_lone_go (by simp_all [stepG,stepG.exec,Frame.atR])
theorem YM(j:lB B N μ H w)(m:mH C μ acs cs)(d:pI μ R (b.atR ⟨tmps,ds⟩ []))(s:cF μ R.n tm tmps)(p:qE (bH μ) k k')  (hi:μ l=some i) :
  lE P C B N μ base (lone (b.atR ⟨tmps,ds⟩ (.endRangeFunc i.b::k')) (cs++base) w) w (Qc l C k tm R acs H):=by
 unfold Qc
 cases u:rK H l with
 | none=>exact trivial
 | some r=>
  rw[lA]
  cases f:Nat.beq (LoopState.a r.e) 1 with
  | true=>exact trivial
  | false=>
   obtain⟨q,g,t,v,a⟩:=Sp j u hi;have o:g.state≠.busy:=by
    intro e;rw[a.f]at e;rw[e]at f;cases f
   have n:(Instr.endLoop i.b).run P w=.ok g.pending (World.c w i.b (.loop { g with state:=.exhausted })):=by
    simp_all [Instr.endLoop,Ro,Nc]
   refine⟨μ,_,cs,_,.one (VX n),λ_ _ h=>h,Dg (j.aj l i q hi).1,?_,⟨?_,?_⟩,m⟩
   .refine j.be t hi q ?_;rw[kK];exact⟨_,rfl,rfl,a.a,a.g,a.j,a.b,a.c,a.e,a.d⟩
   .exact⟨d.i,d.g,d.c,d.e,d.d,d.a⟩
   .show if R.a.a=true then sQ C μ acs.length R.n _ (match r.a with | some c=>.a c::k | none=>k) tm ((g.pending.map Item.code).toList++k') tmps else cF μ R.n tm tmps
    rw[A5 d.f,a.a]
    cases r.a with
    | none=>exact .aa p s
    | some c=>exact .aa (.aa (.ac c) p) s
theorem IW    {a:List Deferred}{c:World}{g:Nat}{args':Array Value}{cs:List Frame}
  (h:(Instr.enterLoop b.fn tmps params assign body b.roundOf).run P w=.ok (l,a) c)
  (e:(do let d <- resolve (Act.eval ⟨tmps,ds⟩) { callee:=.value f,args := #[.const (.func (.yield l) #[] #[])],argTypes := #[] } 0;invoke d.target d.args:Sem Next).run P c=.ok (.enter g args') c) :
  step P (lone (b.atR ⟨tmps,ds⟩ (.code (.rangeFunc f params assign body)::k')) cs w)=.next (lone (Frame.enter P g args' .normal) (b.atR ⟨tmps,a++ds⟩ (.inRangeFunc l::k')::cs) c):=by
 refine step_lone_go ?_;have i:(Frame.eval { b.atR ⟨tmps,ds⟩ (.code (.rangeFunc f params assign body)::k')with todo:=.inRangeFunc l::k',defers:=a++ds })=Act.eval ⟨tmps,ds⟩:=funext λx=>by cases x<;>rfl
 simp_all [Frame.atR,stepG,stepG.exec,stepG.apply]
theorem zay   (e:Eh C l v=some h):∃g first cap,v=.q (.aa g) first cap/\C.c.c g=none/\xM C g (oE first (.q (.ac l) [] []::cap)) false=some h:=by
 grind [Eh,mA,TQ]
def KN{dp:Nat}(k:rM P C B N I)    (e:Eh C l v=some h)(hi:μ l=some i) (b:rA μ v (Act.eval ⟨tmps,ds⟩ f)){cur:Option sA} :
  ∃g args',(∀w,(do let d <- resolve (Act.eval ⟨tmps,ds⟩) { callee:=.value f,args := #[.const (.func (.yield i.b) #[] #[])],argTypes := #[] } 0;invoke d.target d.args:Sem Next).run P w=.ok (.enter g args') w) ∧
   fL C μ dp cur h (Frame.enter P g args' .normal):=by
 obtain⟨g,first,a,rfl,x,s⟩:=zay e
 rw[rA]at b;obtain⟨n,m,j,b,t,p,q⟩:=b;cases t;have u:bB μ (oE first (.q (.ac l) [] []::a)) (m ++ #[Value.func (.yield i.b) #[] #[]]++j).toList:=by
  rw[wI];have:bB μ (O.q (.ac l) [] []::a) (Value.func (.yield i.b) #[] #[]::j.toList):=.e (by rw[rA];exact⟨_,_,_,rfl,⟨i,hi,rfl⟩,.p,.p⟩) q;simpa using p.o this
 obtain⟨o,n,c,r⟩:=Tu (cur:=cur) k.a s u;refine⟨g,_,λw=>?_,o⟩;simp only[C2,resolve,b,Deferred.ofValue,E4,C3,invoke];have:Array.map (Act.eval ⟨tmps,ds⟩) #[Operand.const (Value.func (.yield i.b) #[] #[])] = #[Value.func (.yield i.b) #[] #[]]:=by simp[Act.eval]
 rw[this];exact Wk k.a c r
theorem zmr(Q:rM P C B N I)(d:lB B N μ H w)(p:mH C μ acs cs)(j:pI μ R (b.atR ⟨tmps,ds⟩ []))(s:cF μ R.n tm tmps)(S:qE (bH μ) k k')    :
  lE P C B N μ base (lone (b.atR ⟨tmps,ds⟩ (.code (.rangeFunc f params assign body)::k')) (cs++base) w) w (Qa f params assign body C k tm R acs H):=by
 unfold Qa
 cases X:ev f (.b tm)with
 | none=>exact trivial
 | some v=>
  have t:=s.l (ds:=ds) d.ac f _ X;rw[lA]
  cases F:R.c with
  | none=>
   have W:b.roundOf=none:=by
    have:=j.a;rw[F]at this;exact KE this
   simp only[]
   cases J:Eh C (H.a+1) v with
   | none=>exact trivial
   | some h=>
    have M:=d.ap (x:=.ah (some [])) (o:=.deferred (some [])) (i:=⟨w.heap.size,true,0,0,false⟩) rfl rfl (by rw[kK];exact⟨_,rfl,.ac⟩);have u:μ.le (μ.p H.a ⟨w.heap.size,true,0,0,false⟩):=d.d;have e:(μ.p H.a ⟨w.heap.size,true,0,0,false⟩).le ((μ.p H.a ⟨w.heap.size,true,0,0,false⟩).p (B2 H (.ah (some []))).a ⟨w.heap.size+1,true,0,0,false⟩):=M.d;have U:(w.alloc (.deferred (some []))).heap.size=w.heap.size+1:=Array.size_push ..
    have y:=M.ap (x:=.ac ⟨.ready,none,R.e,R.n,tm,params.toList,assign,body,H.a⟩) (o:=.loop { state:=.ready,pending:=none,fn:=b.fn,tmps,params,assign,body,defers:=w.heap.size })
     (i:=⟨w.heap.size+1,true,0,0,false⟩) U.symm rfl (by
      rw[kK];exact⟨_,rfl,rfl,rfl,j.i,(s.c u.f).c e.f,rfl,rfl,rfl,⟨_,e _ _ Mu.d,rfl⟩⟩)
    have le:=Mu.o u e;have a:((μ.p H.a ⟨w.heap.size,true,0,0,false⟩).p (B2 H (.ah (some []))).a ⟨w.heap.size+1,true,0,0,false⟩) (H.a+1)=some ⟨w.heap.size+1,true,0,0,false⟩:=Mu.d;obtain⟨g,l,z,m⟩:=KN (ds:=ds) Q J a (t.d le.f _ _) (cur:=some (B2 (B2 H (.ah (some []))) (.ac ⟨.ready,none,R.e,R.n,tm,params.toList,assign,body,H.a⟩)));have n:(Instr.enterLoop b.fn tmps params assign body b.roundOf).run P w=.ok (w.heap.size+1,[{ target:=.collected w.heap.size,args := #[] }]) ((w.alloc (.deferred (some []))).alloc (.loop { state:=.ready,pending:=none,fn:=b.fn,tmps,params,assign,body,defers:=w.heap.size })):=by
     simp_all [Instr.enterLoop]
    refine⟨_,_,b.atR ⟨tmps,{ target:=.collected w.heap.size,args := #[] }::ds⟩ (.inRangeFunc (w.heap.size+1)::k')::cs,_,.one (IW n (z _)),le,?_,y,m,.aa ⟨?_,?_⟩ (p.e le)⟩
    .refine(jW d.aa _).trans (jW ?_ _);rw[U];have:=d.aa;omega
    .have:=j.j le.f;exact⟨this.i,this.g,.aa ⟨⟨_,e _ _ Mu.d,rfl⟩⟩ this.c,this.e,this.d,by have:=this.a;rw[F]at this;exact this⟩
    .show if R.a.a=true then sQ C _ acs.length R.n none (.e (H.a+1)::k) tm (.inRangeFunc (w.heap.size+1)::k') tmps else _;rw[A5 j.f];exact .aa (.aa (.aj _ ⟨w.heap.size+1,true,0,0,false⟩ a) (S.c λ_ _ r=>r.d le.f)) (s.c le.f)
  | some c=>
   obtain⟨io,D,W⟩:∃i,μ c=some i/\b.roundOf=some i.b:=by
    have:=j.a;rw[F]at this;exact CJ this
   simp only[]
   cases E:rK H c with
   | none=>exact trivial
   | some o=>
    rw[lA]
    cases J:Eh C H.a v with
    | none=>exact trivial
    | some h=>
     obtain⟨hl,T,Z,hw,L⟩:=Sp d E D;obtain⟨K,A,q⟩:=L.d;have le:μ.le (μ.p H.a ⟨w.heap.size,true,0,0,false⟩):=d.d;have y:=d.ap (x:=.ac ⟨.ready,none,R.e,R.n,tm,params.toList,assign,body,o.d⟩) (o:=.loop { state:=.ready,pending:=none,fn:=b.fn,tmps,params,assign,body,defers:=T.defers })
      (i:=⟨w.heap.size,true,0,0,false⟩) rfl rfl (by
       rw[kK];exact⟨_,rfl,rfl,rfl,j.i,s.c le,rfl,rfl,rfl,⟨K,le _ _ A,q⟩⟩)
     have a:(μ.p H.a ⟨w.heap.size,true,0,0,false⟩) H.a=some ⟨w.heap.size,true,0,0,false⟩:=Mu.d;obtain⟨g,l,z,m⟩:=KN (ds:=ds) Q J a (t.d le.f _ _) (cur:=some (B2 H (.ac ⟨.ready,none,R.e,R.n,tm,params.toList,assign,body,o.d⟩)));have n:(Instr.enterLoop b.fn tmps params assign body b.roundOf).run P w=.ok (w.heap.size,[]) (w.alloc (.loop { state:=.ready,pending:=none,fn:=b.fn,tmps,params,assign,body,defers:=T.defers })):=by
      simp_all [Instr.enterLoop,Ro]
     refine⟨_,_,b.atR ⟨tmps,ds⟩ (.inRangeFunc w.heap.size::k')::cs,_,.one (IW n (z _)),le,jW d.aa _,y,m,.aa ⟨?_,?_⟩ (p.e le)⟩
     .have:=j.j le.f;exact⟨this.i,this.g,this.c,this.e,this.d,this.a⟩
     .show if R.a.a=true then sQ C _ acs.length R.n none (.e H.a::k) tm (.inRangeFunc w.heap.size::k') tmps else _;rw[A5 j.f];exact .aa (.aa (.aj _ ⟨w.heap.size,true,0,0,false⟩ a) (S.c λ_ _ r=>r.d le.f)) (s.c le.f)
def VR  : step P (lone (b.atR ⟨tmps,ds⟩ (.code (.scope c)::k')) cs w)=.next (lone (b.atR ⟨tmps,ds⟩ (.code c::.inScope c::k')) cs w):=
 step_lone_go (by simp[stepG,stepG.exec,Frame.atR])
def VV  : step P (lone (b.atR ⟨tmps,ds⟩ (.inScope c::k')) cs w)=.next (lone (b.atR ⟨tmps,ds⟩ k') cs w):=
 step_lone_go (by simp[stepG,stepG.exec,Frame.atR])
def zxw(o:rM P C B N I)(r:I w)(i:lB B N μ H w)(e:mH C μ acs cs)(j:pI μ R (b.atR ⟨tmps,ds⟩ []))(m:cF μ R.n tm tmps):∀(c:Code) {k:List yF} {k':List Item},qE (bH μ) k k' →
  lE P C B N μ base (lone (b.atR ⟨tmps,ds⟩ (.code c::k')) (cs++base) w) w ((vj c).f C k tm R acs H):=by
 intro c;induction c with
 | skip=>intro k k' g;exact Wx i e j m g stepR_skip
 | region q n d=>
  intro k k' g
  cases d with
  | true=>exact zxe o i e j m g
  | false=>
   refine lE.c (.one stepR_region) (λ_ _ h=>h) (Below.refl N w) ?_;have:=KB (base:=base) (all:=n) o n.toList 0 tm.b H w μ tmps (by simp) (I1 _) r i e j m.q g;rw[H6]at this;exact this
 | seq x y p _=>
  intro k k' g;exact lE.c (.one stepR_seq) (λ_ _ h=>h) (Below.refl N w) (p (.aa (.ac y) g))
 | cond c x y _ _=>intro k k' g;exact zxq i e j m g
 | block q c _=>intro k k' g;exact zpq i e j m g
 | loop c _=>intro k k' g;exact zvo i e j m g
 | rangeFunc f t a c _ _=>intro k k' g;exact zmr o i e j m g
 | exit q=>intro k k' g;exact zw8 i e j m g
 | scope c _=>intro k k' g;exact Ek i e j m (.aa (.ac _) (.aa (.ap _) g)) (.one VR)
 | label l=>intro k k' g;exact Wx i e j m g stepR_label
 | goto l=>intro k k' _;exact trivial
 | ret=>intro k k' _;exact ib i e j m
 | refuse s=>intro k k' _;exact trivial
theorem zw9(A:rM P C B N I)(z:I w)(k:lB B N μ H w)(e:mH C μ acs cs)(m:pI μ R (b.atR ⟨tmps,ds⟩ [])){n:List yF}{f:List Item}(E:sQ C μ acs.length R.n (some H) n tm f tmps) :
  lE P C B N μ base (lone (b.atR ⟨tmps,ds⟩ f) (cs++base) w) w (sW C n tm R acs H):=by
 generalize F:some H=L at E
 cases E with
 | aa a t=>
  cases a with
  | ac=>exact zjg k e m t
  | aa i h=>
   cases i with
   | ac c=>exact zxw A z k e m t c h
   | ah id=>exact Wx k e m t h stepR_inBlock
   | am c=>exact Ek k e m t (.aa (.ac _) (.aa (.am _) h)) (.one stepR_inLoop)
   | ap c=>exact Wx k e m t h VV
   | au all i M=>exact KB A _ i _ _ _ _ _ rfl M z k e m t h
   | aj l i J=>exact trivial
   | ak l i J=>exact YM k e m t h J
   | aa=>exact zpr k e m t h
 | @ah _ all q _ g d _ r _ _ s D S Q v X h=>
  cases F;show lE P C B N μ base _ w (dW all q g d C _ tm R acs H);unfold dW
  cases d with
  | nil=>grind [zfx]
  | cons x d=>
   by_cases u:x.a<=all.size
   .obtain⟨_,_,T,K,y,_⟩:=Xa v u;obtain⟨o,W,_⟩:=Sd y;have:lD all.toList x.a=some o:=by grind [xI]
    simp only[this];grind [zob]
   .have:lD all.toList x.a=none:=by grind [xI]
    simp only[this];grind [eC,dD,zbo,zbr]
 | @aj _ all q _ g j p d _ r _ _ s D K S Q y U Z h=>
  show lE P C B N μ base _ w (dW all q g (⟨all.size,j,p⟩::d) C _ tm R acs H);unfold dW;have:lD all.toList all.size=none:=by rw[xI];simp
  simp only[this];grind [eC,dD,zhi]
 | ac _ _ _ _ _=>cases F
end
end
section
variable {es:List Deferred}{dp f n:Nat}{fn:Func}{m:Machine}{j:pC}
section
variable {P:Program}{C:fA}{B N:Nat}{I:World->Prop}{μ ν:Mu}{H H':sA}{w:World}{tm:Tm}{R:eL}{acs:List pC}{base cs:List Frame}
variable {b:Frame}{tmps:Array Value}
theorem VO{a:Nat}{c:List Deferred}{w':World}(i:b.mode≠.run)(e:b.defers={ target:=.collected a,args := #[] }::es)(j:(Instr.takeDeferred a).run P w=.ok c w') :
  step P (lone b cs w)=.next (lone { b with defers:=c++es } cs w'):=by
 obtain⟨fn,tmps,h,defers,g,f,d⟩:=b;simp only at i e;subst e;refine step_lone_go ?_
 simp_all [stepG,unwind]
theorem zaq {cap a:Array Value} (i:b.mode≠.run)(d:b.defers={ target:=.fn (.func f) cap,args:=a }::es)(j:(callFunc f (a++cap)).run P w=.ok (.enter f (a++cap)) w) :
  step P (lone b cs w)=.next (lone (Frame.enter P f (a++cap) .deferred) ({ b with defers:=es }::cs) w):=by
 obtain⟨fn,tmps,h,defers,g,e,c⟩:=b;simp only at i d;subst d;refine step_lone_go ?_
 simp_all [stepG,unwind,callDeferred,invoke]
def Gc(c:Frame):Frame:=
 match c.mode with
 | .panicking ({ recovered:=true,.. }::a)=>
  match a.dropWhile (!·.goexit)with
  | []=>{ c with mode:=.returning }
  | b=>{ c with mode:=.panicking b }
 | _=>c
def VN {v:Value}{c:Frame}(f:b.mode=.returning)(a:b.defers=[])(e:b.kind=.deferred)(d:P.funcs[b.fn]?=some fn)(g:(results fn b.tmps).run P w=.ok v w) :
  step P (lone b (c::cs) w)=.next (lone (Gc c) cs w):=by
 refine step_lone_go ?_;simp only[stepG,unwind,doReturn,f,a,e,d,Sem.runT_eq,g,GStep.bare_after];rfl
def Wo(tmps:Array Value)(r:ResultVar):Sem Value:=
 match r with
 | .tmp t=>pure (tmps.getD t undef)
 | .cell a t=>do loadVar t (<- asAddr (tmps.getD a undef))
theorem zaw(fn:Func)(tmps:Array Value):results fn tmps=(do let a <- fn.results.mapM (Wo tmps);pure (if h:a.size=1 then a[0]else .tuple a)):=rfl
theorem WP(u:nG P C)(s:lB B N μ H w) (o:cF μ n tm tmps):∀(b:List ResultVar) (l:List O),jH (qV C H tm) b=some l →
  ∃j,(b.mapM (Wo tmps)).run P w=.ok j w/\bB μ l j:=by
 intro b;induction b with
 | nil=>intro l h;rw[Lb]at h;cases h;exact⟨[],by simp_all,.p⟩
 | cons r b D=>
  intro l h;rw[iQ,mA]at h;obtain⟨a,d,h⟩:=h;rw[mA]at h;obtain⟨m,A,h⟩:=h;cases h;obtain⟨j,F,k⟩:=D m A;rw[List.mapM_cons]
  cases r with
  | tmp t=>
   refine⟨_,?_,.e (o.2 t a d) k⟩
   grind [Wo,Sem.run_bind,Sem.run_pure,Result.andThen_ok]
  | cell x t=>
   simp only[qV,mA,Ma]at d;obtain⟨p,⟨E,e,rfl⟩,J,f,c,v,z⟩:=d;have g:=o.2 x _ e;rw[rA]at g;obtain⟨i,y,g⟩:=g;obtain⟨K,I,q⟩:=MT (P:=P) s (u.a f) v y z;refine⟨_,?_,.e q k⟩
   grind [asAddr,Wo,Sem.run_bind,Sem.run_pure,Result.andThen_ok]
theorem KF(g:nG P C)(f:lB B N μ H w) (j:cF μ n tm tmps) {l:List O}(h:Af C H tm fn.results.toList=some l) :
  ∃v,(results fn tmps).run P w=.ok v w/\rA μ (Jw l) v:=by
 obtain⟨c,o,b⟩:=WP g f j _ _ h;refine⟨if h:c.toArray.size=1 then c.toArray[0]else .tuple c.toArray,?_,?_⟩
 .grind [zaw,Array.mapM_eq_mapM_toList,Sem.run_bind,map_eq_pure_bind,Result.andThen_ok,Sem.run_pure]
 .have i:=b.d
  cases l with
  | nil=>
   rw[bB]at b;subst b;rw[dif_neg (by simp)];show rA μ (.p []) _;rw[rA];exact⟨_,rfl,.p⟩
  | cons a m=>
   cases m with
   | nil=>
    rw[bB]at b;obtain⟨v,r,rfl,k,d⟩:=b;rw[bB]at d;subst d;rw[dif_pos (by simp)];exact k
   | cons e m=>
    rw[dif_neg (by simp[i])];show rA μ (.p (a::e::m)) _
    grind [rA]
def ic(μ:Mu):Option (List kI)->Option (List Deferred)->Prop
 | none,none=>True
 | some a,some b=>qE (Gj μ) a b
 | _,_=>False
def YU(f:lB B N μ H w){l:Nat}{x:Option (List kI)}(h:Bh H l=some x){i:BI}(d:μ l=some i):B<=l/\∃x',H.t.c l=some (.ah x)/\w.heap[i.b]?=some (.deferred x')/\ic μ x x':=by
 unfold Bh at h;rw[qB,mF,mA]at h;obtain⟨m,y,a,c⟩:=h;have:y=.ah x:=by cases y<;>simp[uA.b]at c;rw[c]
 subst this;obtain⟨o,j,e⟩:=f.am l _ i a d;rw[kK]at e;obtain⟨g,rfl,k⟩:=e;refine⟨Nat.le_of_not_lt λb=>?_,g,a,j,?_⟩
 .have:=(f.aw l _ i b a d).2.2;cases this
 cases x<;>cases g<;>exact k
def zba{μ:Mu}{m:fZ}{a:FrameMode}(h:Uz μ m a)(b:m.a=false):a≠.run:=by
 rintro rfl;cases m<;>first | exact h.elim | cases b
theorem zdc(J:rM P C B N I)(v:lB B N μ H w)(s:mH C μ acs cs) (c:pI μ j.R b)(U:j.R.a.a=false)(K:cF μ j.R.n j.b b.tmps){d:kI}{l:List kI}(R:j.R.d=d::l) :
  lE P C B N μ base (lone b (cs++base) w) w (Jv C d l j acs H):=by
 have k:=zba c.e U;have p:=c.c;rw[R]at p;generalize r:b.defers=bd at p
 cases p with
 | @aa _ e _ es u F=>
  obtain⟨z,E,o⟩:=d;have u:=u.a;unfold Jv
  cases z with
  | none=>
   obtain⟨i,A,rfl⟩:=u;simp only[]
   cases W:Bh H E with
   | none=>exact trivial
   | some x=>
    rw[lA]
    cases x with
    | none=>exact trivial
    | some n=>
     obtain⟨y,X,T,hw,t⟩:=YU v W A
     cases X with
     | none=>exact t.elim
     | some a=>
      have D:(Instr.takeDeferred i.b).run P w=.ok a (World.c w i.b (.deferred none)):=by
       simp_all [Nc,getObj,Sem.run,Instr.takeDeferred]
      refine⟨μ,_,cs,_,.one (VO k r D),λ_ _ h=>h,Dg (v.aj E i y A).1,?_,⟨?_,?_⟩,s⟩
      .refine v.be T A y ?_
       grind [kK]
      .refine⟨c.i,c.g,?_,c.e,c.d,c.a⟩;show qE (Gj μ) (oE n l) (a++es);rw[wI];exact qE.d t F
      .show if j.R.a.a=true then sQ C _ _ _ _ _ _ _ _ else _;rw[A3 (by grind)];exact K
  | some fn=>
   cases fn with
   | ac m=>exact trivial
   | aa f=>
    obtain⟨fn,L,Z,rfl,q,y⟩:=u;cases q;simp only[]
    cases hp:C.c.c f with
    | some x=>exact trivial
    | none=>
     simp only[]
     cases S:xM C f o true with
     | none=>exact trivial
     | some g=>
      obtain⟨M,fn,q,Q⟩:=Tu (cur:=some H) J.a S y;refine⟨μ,_,{ b with defers:=es }::cs,w,.one (zaq k r (Wk J.a q Q)),λ_ _ h=>h,Below.refl N w,v,M,.aa ⟨⟨c.i,c.g,F,c.e,c.d,c.a⟩,?_⟩ s⟩;show if j.R.a.a=true then sQ C _ _ _ _ _ _ _ _ else _;rw[A3 (by grind)];exact K
theorem fL.g {cur a:Option sA} (h:fL C μ dp cur j b)(c:j.R.a.a=false):fL C μ dp a j b:=by
 refine⟨h.a,?_⟩;have:=h.c
 simp_all
theorem YP{l:List PanicEntry}{m:List Je}(h:qE (Jb μ) m l):l.dropWhile (!·.goexit)=[]:=by
 induction h with
 | ac=>rfl
 | aa a _ b=>simp[a.b,b]
def si(c:pC)(rest:List pC)(H:sA):Option xV:=
 match c.R.a with
 | .ac (⟨_,true⟩::_)=>some (⟨Ee c .aa,rest,H⟩:xV)
 | _=>sB (!c.R.a.a) (some ⟨c,rest,H⟩)
def KR(C:fA)(j:pC)(b:List Je)(cs:List pC)(H:sA):dG:=
 dN (ob (C.d.c j.R.e) λ_=>match cs with | c::a=>some ⟨Ah c b,a,H⟩ | []=>none) 19
theorem zx9 {c:pC}{c':Frame}(g:fL C μ dp none c c'){x:xV}{rest:List pC}(h:si c rest H=some x):x.a=rest/\x.H=H/\fL C μ dp (some H) x.b (Gc c'):=by
 have d:=g.a.e;have b:c'.mode=c'.mode->(Gc c'=c')->c.R.a.a=false->x=⟨c,rest,H⟩->x.a=rest/\x.H=H/\fL C μ dp (some H) x.b (Gc c'):=by
  intro _ u v w;subst w;rw[u];exact⟨rfl,rfl,g.g v⟩
 obtain⟨D,r,o⟩:=c;obtain⟨f,n,F,mode,E,L⟩:=o;unfold si at h;simp only at h d
 cases mode with
 | ah=>cases h
 | aa=>
  cases a:c'.mode with
  | returning=>exact b rfl (by unfold Gc;rw[a]) rfl (D9 h).symm
  | _=>rw[a]at d;exact d.elim
 | ac B=>
  cases a:c'.mode with
  | run=>rw[a]at d;exact d.elim
  | returning=>rw[a]at d;exact d.elim
  | panicking q=>
   rw[a]at d
   cases d with
   | ac=>exact b rfl (by unfold Gc;rw[a]) rfl (D9 h).symm
   | @aa p e j i z k=>
    obtain⟨K,J⟩:=p;obtain⟨t,s,I⟩:=e;obtain⟨A,l,m⟩:=z;simp only at A l m;subst l m
    cases s with
    | false=>exact b rfl (by unfold Gc;rw[a]) rfl (D9 h).symm
    | true=>
     cases D9 h;refine⟨rfl,rfl,?_⟩;have:Gc c'={ c' with mode:=.returning }:=by
      grind [Gc,YP]
     rw[this];have y:=g.c;exact⟨⟨g.a.i,g.a.g,g.a.c,trivial,g.a.d,g.a.a⟩,y⟩
theorem zai(J:rM P C B N I)(m:lB B N μ H w)(p:mH C μ acs cs) (y:pI μ j.R b)(u:b.mode=.returning)(q:b.defers=[])(L:cF μ j.R.n j.b b.tmps) :
  lE P C B N μ base (lone b (cs++base) w) w (Ju C j acs H):=by
 unfold Ju
 cases n:ob (C.d.c j.R.e) λfn=>Af C H j.b fn.results.toList with
 | none=>exact trivial
 | some l=>
  rw[mA]at n;obtain⟨fn,t,k⟩:=n;obtain⟨v,o,A⟩:=KF J.b m L k;have r:P.funcs[b.fn]?=some fn:=by rw[y.i];exact(J.a _ _ t).1
  have f:=y.d;simp only[]
  cases p with
  | ac=>
   simp only[bD]
   cases a:j.R.b with
   | true=>exact trivial
   | false=>
    rw[a]at f;rw[A3 (by simp)];split
    .rename_i z;exact⟨μ,b,w,v,.refl _ _,λ_ _ h=>h,Below.refl N w,m,A,by rw[y.i];simp_all,u,q,f,fn,r,o⟩
    .exact trivial
  | @aa c M d i K e=>
   simp only[]
   cases a:j.R.b with
   | true=>
    rw[a]at f;simp only[cond_true];show lE P C B N μ base _ w (dN (si c d H) 18);generalize n:si c d H=x
    cases x with
    | none=>exact trivial
    | some x=>
     obtain⟨D,E,F⟩:=zx9 K n;obtain⟨R,Q,S⟩:=x;simp only at D E F;subst D E;exact⟨μ,_,i,w,.one (VN u q f r o),λ_ _ h=>h,Below.refl N w,m,F,e⟩
   | false=>
    rw[a]at f;simp only[cond_false]
    cases s:fI c (Jw l)with
    | none=>exact trivial
    | some g=>
     exact⟨μ,_,i,w,.one (step_leave_returned ⟨u,q,f,fn,r,o⟩),λ_ _ h=>h,Below.refl N w,m,Ln K s A,e⟩
theorem zdb(s:rM P C B N I)(r:lB B N μ H w)(i:mH C μ acs cs) (m:fL C μ acs.length (some H) j b)(t:j.R.a.a=false) :
  lE P C B N μ base (lone b (cs++base) w) w (Vs C j acs H):=by
 have A:cF μ j.R.n j.b b.tmps:=by
  have:=m.c
  simp_all
 have n:=m.a;unfold Vs
 cases y:j.R.d with
 | cons d l=>grind [zdc]
 | nil=>
  have e:b.defers=[]:=by
   have:=n.c;rw[y]at this;generalize e:b.defers=D at this;cases this;rfl
  have a:=n.e;simp only[]
  cases f:j.R.a with
  | ah=>rw[f]at t;cases t
  | aa=>
   rw[f]at a;have:b.mode=.returning:=by
    cases g:b.mode with
    | returning=>rfl
    | _=>rw[g]at a;exact a.elim
   exact zai s r i n this e A
  | ac u=>
   rw[f]at a
   cases g:b.mode with
   | run=>rw[g]at a;exact a.elim
   | returning=>rw[g]at a;exact a.elim
   | panicking v=>
    rw[g]at a;show lE P C B N μ base _ w (KR C j u acs H);unfold KR
    cases p:C.d.c j.R.e with
    | none=>exact trivial
    | some fn=>
     rw[lA];have z:P.funcs[b.fn]?=some fn:=by rw[n.i];exact(s.a _ _ p).1
     cases i with
     | ac=>exact trivial
     | @aa c E q o x k=>
      exact⟨μ,_,o,w,.one (step_leave_panicked ⟨g,e,fn,z⟩),λ_ _ h=>h,Below.refl N w,r,KQ x a,k⟩
theorem zl7(n:rM P C B N I)(m:I w){s:xV}(l:lB B N μ s.H w)(j:mH C μ s.a cs)(g:fL C μ s.a.length (some s.H) s.b b):lE P C B N μ base (lone b (cs++base) w) w (V8 C s):=by
 obtain⟨⟨c,tm,R⟩,acs,H⟩:=s;show lE P C B N μ base _ w (bif R.a.a then sW C c tm R acs H else Vs C ⟨c,tm,R⟩ acs H)
 cases k:R.a.a with
 | false=>grind [zdb]
 | true=>
  have d:=g.c;have a:=g.a;simp only at d a;rw[A5 k]at d;have f:b.mode=.run:=by
   have h:=a.e
   cases i:R.a with
   | ah=>
    rw[i]at h
    cases d:b.mode with
    | run=>rfl
    | _=>rw[d]at h;exact h.elim
   | _=>rw[i]at k;cases k
  have e:=zpu f;have:=zw9 (b:=b) (tmps:=b.tmps) (ds:=b.defers) (base:=base) n m l j ⟨a.i,a.g,a.c,by have:=a.e;rw[f]at this;exact this,a.d,a.a⟩ d
  simp_all
theorem IY(c:rM P C B N I)(j:I w) {o:dG}(h:lE P C B N μ base m w o):lE P C B N μ base m w (pY C o):=by
 cases o with
 | ac n=>exact trivial
 | ah v H=>exact h
 | aa s=>
  obtain⟨k,b,cs,l,d,e,a,f,g,i⟩:=h;exact lE.c d e a (zl7 c (c.e _ _ a j) f i g)
def zuu(c:rM P C B N I)(b:I w)  : ∀(n:Nat) {o:dG},lE P C B N μ base m w o->lE P C B N μ base m w (sX C n o):=by
 intro n;induction n with
 | zero=>intro o h;exact IY c b h
 | succ n a=>intro o h;exact a (a h)
def ZE(j:rM P C B N I)(u:I w) (c:C.f=f){args:List O}{args':Array Value}(t:lB B N μ H w)(y:bB μ args args'.toList){g:pC}(x:xM C f args false=some g) {v:O}{H':sA}
  (d:sX C n (.aa ⟨g,[],H⟩)=.ah v H') :
  Calls P f args' w λe w'=>∃v' a,e=.returned v'/\μ.l a/\rA a v v'/\lB B N a H' w'/\Below N w w':=by
 intro base;have k:lE P C B N μ base (lone (Frame.enter P f args' .normal) base w) w (.aa ⟨g,[],H⟩):=
  ⟨μ,_,[],w,.refl _ _,λ_ _ h=>h,Below.refl N w,t,(Tu (cur:=some H) j.a x y).1,.ac⟩
 have i:=zuu j u n k;rw[d]at i;obtain⟨a,b,w',v',l,m,o,p,q,r,s⟩:=i;exact⟨.returned v',w',b,⟨v',a,rfl,m,q,p,o⟩,l,by rw[r,c],s⟩
end
end
section
variable {j:Type}{v:O}
structure lI where
 v:O
 p:Bool
abbrev wC:=Option (lI × sA)
abbrev fF:=L2->List O->sA->wC
structure Kt where
 c:Tm->sA->wC
 a:Nat->Tm->sA->wC
 b:Tm->sA->wC
structure PI where
 e:Nat
 d:List Nat
 c:List (Nat × Nat)
def PI.b(p:PI):List Nat:=oE p.d (List.rec (motive:=λ_=>List Nat) [] (λa _ r=>a.1::r) p.c)
inductive bC where
 | ah
 | aa (id:Nat) (ops:Array Oper) (draw:Bool)
 | ak (a b:bC)
 | ap (c:Operand) (x y:bC)
 | am (id:Nat) (c:bC)
 | ac (p:PI) (c:bC)
 | au (id:Nat)
 | ax
 | aw (p:PI) (c:bC)
 | aj (i:Nat) (pl:List Nat) (f:Operand) (ps:Array Nat) (as:List (Nat × Array Oper)) (c:bC)
def Q7 (l:List (Nat × Array Oper)):Code:=List.rec (motive:=λ_=>Code) .skip (λx r g=>match r with | []=>.region x.1 x.2 false | _::_=>.seq (.region x.1 x.2 false) g) l
def U0 (c:bC)(l:List (Nat × Array Oper)):bC:=List.rec (motive:=λ_=>bC) c (λx _ g=>.ak (.aa x.1 x.2 false) g) l
def bE:bC->Code
 | .ah=>.skip
 | .aa e g d=>.region e g d
 | .ak a b=>.seq (bE a) (bE b)
 | .ap c x y=>.cond c (bE x) (bE y)
 | .am e c=>.block e (bE c)
 | .ac _ c=>.loop (bE c)
 | .au e=>.exit e
 | .ax=>.ret
 | .aw _ c=>bE c
 | .aj _ _ f i h c=>.rangeFunc f i (Q7 h) (bE c)
def lq {j:Type}(f:Nat->Option j):Option j:=@dite _ (∃n r,f n=some r) (Classical.propDecidable _) (λh=>f h.choose) (λ_=>none)
def ee {j:Type}(f:Nat->Option j):Prop:=∀n r,f n=some r->f (n+1)=some r
def ee.le {f:Nat->Option j}(h:ee f){n m:Nat}{r:j}(b:f n=some r)(a:n<=m):f m=some r:=by
 induction a with
 | refl=>exact b
 | step _ c=>exact h _ _ c
def Xo {f:Nat->Option j}(h:ee f){r:j}:lq f=some r ↔ ∃n,f n=some r:=by
 unfold lq;by_cases c:∃n r,f n=some r
 .rw[dif_pos c];obtain⟨g,d⟩:=c.choose_spec;constructor
  .grind
  .rintro⟨n,e⟩;have a:=h.le d (Nat.le_max_left c.choose n);have b:=h.le e (Nat.le_max_right c.choose n)
   simp_all
 simp_all
def vw:jE->O->(O->wC)->wC
 | .r,v,K=>ob v.r λb=>K (.d b)
 | .m k,v,K=>ob v.ac λp=>sB (dP p.1 k) (K (.e k p.2))
 | .j,v,K=>ob v.w λl=>K (.h l)
 | .v _,v,K=>K v
 | .i _,v,K=>K v
 | .q _ _,v,K=>K v
 | .w _ _,v,K=>K v
 | .f _,v,K=>K v
 | .u,v,K=>K v
 | .s,v,K=>K v
 | .t,v,K=>K v
def I9:jE->O->Prop
 | .r,v=>∃b,v=.d b
 | .m k,v=>∃n,v=.e k n
 | .j,v=>∃l,v=.h l
 | _,_=>True
theorem zbb{d:jE} {K:O->wC}{x:lI × sA}:vw d v K=some x ↔ I9 d v/\K v=some x:=by
 cases d<;>simp only[vw,I9,mA,qB,true_and]
 case r=>
  grind [Iu]
 case m k=>
  constructor
  .grind [Bq,hO]
  .rintro⟨⟨n,rfl⟩,h⟩;exact⟨(k,n),rfl,hO.2 rfl,h⟩
 grind [Bp]
def fN(C:fA)(t:Nat)(v:O)(K:O->wC):wC:=
 match C.b.c t with
 | some a=>vw a.a v K
 | none=>K v
def Fl (C:fA)(t:Nat)(v:O):Prop:=
 match C.b.c t with
 | some a=>I9 a.a v
 | none=>True
theorem jS{C:fA}{t:Nat} {K:O->wC}{x:lI × sA}:fN C t v K=some x ↔ Fl C t v/\K v=some x:=by
 grind [fN,Fl,zbb]
def fH (φ:fF)(r:pM)(H:sA)(k:O->sA->wC):wC:=
 match r with
 | .aa v b=>k v b
 | .am f a=>ob (φ (.aa f) a H) λp=>bif p.1.p then some p else k p.1.v p.2
 | .ak l a=>ob (φ (.ac l) a H) λp=>sB (!p.1.p) (k p.1.v p.2)
 | .ap v=>some (⟨v,true⟩,H)
 | _=>none
def lO (C:fA)(φ:fF)(all:Array Oper)(n:Nat)(c:Tm->sA->wC)(l:List Oper):Tm->sA->wC:=
 List.rec (motive:=λ_=>Tm->sA->wC) c
  (λo _ g a H=>ob (cG o.guard all a) λw=>Bool.rec (motive:=λ_=>wC) (g (By n a o.dst aD) H)
   (fH φ ((iF o.op).f C (.b a) H) H λv b=>fN C o.type v λv=>g (By n a o.dst v) b) w) l
def oJ(C:fA)(H:sA)(all:Array Oper)(n:Nat)(old:Tm)(olds:List (Nat × List Nat))(k:Tm->wC)(l:List Nat):Tm->wC:=
 List.rec (motive:=λ_=>Tm->wC) k
  (λi _ g a=>ob (lD all.toList i) λo=>ob (cG o.guard all a) λw=>Bool.rec (motive:=λ_=>wC) (g (By n a o.dst aD))
   (ob ((jG o.op).f C (.c a old (tG i olds) (aI o.op)) H) λv=>fN C o.type v λv=>g (By n a o.dst v)) w) l
def oP(C:fA)(H:sA)(all:Array Oper)(old:Tm)(olds:List (Nat × List Nat))(tm:Tm)(k:wC)(l:List Nat):wC:=
 List.rec (motive:=λ_=>wC) k
  (λi _ g=>ob (lD all.toList i) λo=>ob o.dst λd=>ob (cG o.guard all tm) λw=>Bool.rec (motive:=λ_=>wC) g
   (ob ((jG o.op).f C (.c tm old (tG i olds) (aI o.op)) H) λv=>fN C o.type v λv=>ob (tm.a d) λu=>sB (A8 10 v u) g) w) l
def bP (all:Array Oper)(h:Nat):Nat:=bif Nat.blt (vB all.toList) h then Nat.sub h (Nat.succ (vB all.toList))else h
def eZ(C:fA)(all:Array Oper)(h:Nat)(o:Oper)(tm:Tm):Option Bool:=ob (cG o.guard all tm) λw=>bif Nat.blt (vB all.toList) h then sB (w&&zO o.op&&dE (Eu C o.op)) (some w)else some w
def yZ(all:Array Oper)(a:dH):Bool:=Nat.blt (vB all.toList+vB all.toList) a.a
def Tk(C:fA)(all:Array Oper)(n:Nat)(old:Tm)(olds:List (Nat × List Nat))(b:dH)(g:Tm->sA->wC)(tm:Tm)(H:sA):wC:=
 sB (Ct C all) (ob (Ow all old olds tm b.c) λc=>ob (Fg C c H) λa=>oJ C a all n old olds (λtm=>g tm a) b.b tm)
def fK(C:fA)(φ:fF)(all:Array Oper)(n:Nat)(old:Tm)(olds:List (Nat × List Nat))(e:Tm->sA->wC)(l:List dH):Tm->sA->wC:=
 List.rec (motive:=λ_=>Tm->sA->wC) e
  (λb _ g c H=>Bool.rec (motive:=λ_=>wC) (ob (lD all.toList (bP all b.a)) λo=>ob (eZ C all b.a o c) λw=>
   (λa:O->sA->wC=>Bool.rec (motive:=λ_=>wC) (a aD H)
    (fH φ ((iF o.op).f C (.c c old (tG (bP all b.a) olds) (aI o.op)) H) H λv d=>fN C o.type v λv=>a v d) w)
   (λv d=>oP C d all old olds (By n c o.dst v) (oJ C d all n old olds (λc=>g c d) b.b (By n c o.dst v)) b.c)) (Tk C all n old olds b g c H) (yZ all b)) l
def Nh(C:fA)(φ:fF)(fn n:Nat)(d:Tm->sA->wC)(e:Nat)(all:Array Oper)(a:Bool):Tm->sA->wC:=
 Bool.rec (motive:=λ_=>Tm->sA->wC) (λb H=>lO C φ all n d all.toList b.b H)
  (λb H=>ob (ob (C.e.c fn) λt=>t.c e) λp=>sB (jY all p) (oJ C H all n b.b p.b (λc=>fK C φ all n b.b p.b d p.a c H) p.c b.b)) a
def Of(tm:Tm)(live:List Nat):G O:=
 List.rec (motive:=λ_=>G O) .aj (λi _ t=>match tm.a i with | some v=>t.d i v | none=>t) live
def C1 (live:List Nat)(tm:Tm):Tm:=⟨tm.k,Of tm live,[]⟩
def ie:Option (List kI)->Bool
 | some []=>true
 | _=>false
def Ge(a:Kt)(p:Option Code)(tm:Tm)(H:sA):wC:=
 match p with
 | none=>a.c tm H
 | some .ret=>a.b tm H
 | _=>none
def D3(H:sA)(l:Nat)(r:yP):sA:=A7 H l (.ac ⟨.exhausted,r.a,r.g,r.n,r.h,r.b,r.c,r.f,r.d⟩)
def nV(C:fA)(φ:fF)(fn n:Nat)(c:Kt)(f:Operand)(ps:List Nat)(a b:Code)(tm:Tm)(H:sA):wC:=
 ob (ev f (.b tm)) λv=>ob v.am λq=>match q.1 with
  | .ac _=>none
  | .aa g=>sB (dE (C.c.c g)) (ob (φ (.aa g) (oE q.2.1 (.q (.ac (H.a+1)) [] []::q.2.2)) (B2 (B2 H (.ah (some []))) (.ac ⟨.ready,none,fn,n,tm,ps,a,b,H.a⟩))) λy=>
   sB (!y.1.p) (ob (rK y.2 (H.a+1)) λr=>sB (!Nat.beq (LoopState.a r.e) 1) (ob (Ge c r.a tm (D3 y.2 (H.a+1) r)) λz=>
    sB (!z.1.p) (ob (Bh z.2 H.a) λd=>sB (ie d) (some (z.1,A7 z.2 H.a (.ah none)))))))
def wE (C:fA)(φ:fF)(fn n:Nat)(c:bC):Kt->Tm->sA->wC:=
 bC.rec (motive:=λ_=>Kt->Tm->sA->wC)
  (λa d H=>a.c d H)
  (λj k h a=>Nh C φ fn n a.c j k h)
  (λ_ _ o p a=>o ⟨p a,a.a,a.b⟩)
  (λc _ _ q s a d H=>ob (ob (ev c (.b d)) O.r) λb=>Bool.rec (motive:=λ_=>wC) (s a d H) (q a d H) b)
  (λj _ g a=>g ⟨a.c,λi d H=>Bool.rec (motive:=λ_=>wC) (a.a i d H) (a.c d H) (Nat.beq j i),a.b⟩)
  (λe _ g a d H=>lq λm=>Nat.rec (motive:=λ_=>Tm->sA->wC) (λ_ _=>none) (λ_ r d H=>g ⟨r,a.a,a.b⟩ (C1 e.b d) H) m d H)
  (λj a d H=>a.a j d H)
  (λa d H=>a.b d H)
  (λe _ g a d H=>g a (C1 e.b d) H)
  (λ_ _ f t l c _ a d H=>nV C φ fn n a f t.toList (Q7 l) (bE c) d H) c
end
section
variable {k:wC}{k':O->sA->wC}{m c:Tm->sA->wC}{l:List Nat}{tm:Tm}{fn i:Nat}{s:dH}
def iL {c d e:Type}(k k':c->d->Option e):Prop:=∀a b x,k a b=some x->k' a b=some x
def uR (φ b:fF):Prop:=∀f a H x,φ f a H=some x->b f a H=some x
structure xS (m c:Kt):Prop where
 a:iL m.c c.c
 b:∀i,iL (m.a i) (c.a i)
 d:iL m.b c.b
section
variable {C:fA}{φ j:fF}{all:Array Oper}{n:Nat}{x:lI × sA}
def KI(c:uR φ j){r:pM}{H:sA}{k:O->sA->wC}(e:iL k k')(h:fH φ r H k=some x):fH j r H k'=some x:=by
 cases r<;>simp only[fH]at h ⊢<;>try (cases h;done)
 case aa v i=>exact e _ _ _ h
 case am f b=>
  rw[mA]at h ⊢;obtain⟨p,d,a⟩:=h;refine⟨p,c _ _ _ _ d,?_⟩
  cases g:p.1.p with
  | true=>rw[g]at a;exact a
  | false=>rw[g]at a;exact e _ _ _ a
 case ak l b=>
  rw[mA]at h ⊢;obtain⟨p,d,a⟩:=h;rw[qB]at a;exact⟨p,c _ _ _ _ d,qB.2 ⟨a.1,e _ _ _ a.2⟩⟩
 case ap v=>exact h
def DF{t:Nat}{k:O->sA->wC}(a:iL k k'):iL (λv H=>fN C t v λv=>k v H) (λv H=>fN C t v λv=>k' v H):=by
 intro v H x h;rw[jS]at h ⊢;exact⟨h.1,a _ _ _ h.2⟩
theorem Hp {o:Oper}{l:List Oper} {H:sA}:lO C φ all n m (o::l) tm H=ob (cG o.guard all tm) λw=>if w=true then
   (fH φ ((iF o.op).f C (.b tm) H) H λv H'=>fN C o.type v λv=>lO C φ all n m l (By n tm o.dst v) H')else lO C φ all n m l (By n tm o.dst aD) H:=by
 show(ob (cG o.guard all tm) λw=>Bool.rec (motive:=λ_=>wC) _ _ w)=_;congr 1;funext w;rw[uM];rfl
def Sb(f:uR φ j) (d:iL m c):∀(l:List Oper),iL (lO C φ all n m l) (lO C j all n c l):=by
 intro l;induction l with
 | nil=>exact d
 | cons o l g=>
  intro tm H x h;rw[Hp,mA]at h ⊢;obtain⟨w,i,b⟩:=h;refine⟨w,i,?_⟩;split at b
  .rename_i e;rw[A5 e];exact KI f (DF (k:=λv a=>lO C φ all n m l (By n tm o.dst v) a) (k':=λv a=>lO C j all n c l (By n tm o.dst v) a) λv a y p=>g _ _ _ p) b
  .rename_i e;rw[A3 e];exact g _ _ _ b
variable {H:sA}{old:Tm}{olds:List (Nat × List Nat)}
theorem Xr{k:Tm->wC}    : oJ C H all n old olds k (i::l) tm=ob (lD all.toList i) λo=>ob (cG o.guard all tm) λw=>if w=true then
   (ob ((jG o.op).f C (.c tm old (tG i olds) (aI o.op)) H) λv=>fN C o.type v λv=>oJ C H all n old olds k l (By n tm o.dst v))else oJ C H all n old olds k l (By n tm o.dst aD):=by
 show(ob (lD all.toList i) λo=>ob (cG o.guard all tm) λw=>Bool.rec (motive:=λ_=>wC) _ _ w)=_;congr 1;funext o;congr 1;funext w;rw[uM];rfl
theorem Xq{k k':Tm->wC}(a:∀tm x,k tm=some x->k' tm=some x):∀(l:List Nat) tm x,oJ C H all n old olds k l tm=some x->oJ C H all n old olds k' l tm=some x:=by
 intro l;induction l with
 | nil=>exact a
 | cons i l b=>
  grind [Xr,mA,jS]
def GY     : oP C H all old olds tm k (i::l)=ob (lD all.toList i) λo=>ob o.dst λd=>ob (cG o.guard all tm) λw=>if w=true then
   (ob ((jG o.op).f C (.c tm old (tG i olds) (aI o.op)) H) λv=>fN C o.type v λv=>ob (tm.a d) λu=>sB (A8 10 v u) (oP C H all old olds tm k l))else oP C H all old olds tm k l:=by
 show(ob (lD all.toList i) λo=>ob o.dst λd=>ob (cG o.guard all tm) λw=>Bool.rec (motive:=λ_=>wC) _ _ w)=_;congr 1;funext o;congr 1;funext d;congr 1;funext w;rw[uM];rfl
theorem Us   : ∀(l:List Nat),oP C H all old olds tm k l=some x->Ix C H all old olds tm l=true/\k=some x:=by
 intro l;induction l with
 | nil=>intro h;exact⟨rfl,h⟩
 | cons i l b=>
  intro h;rw[GY,mA]at h;obtain⟨o,a,h⟩:=h;rw[mA]at h;grind [mA,Ix,jS,qB]
theorem GX {k':wC}(b:k'=some x):∀(l:List Nat),oP C H all old olds tm k l=some x->oP C H all old olds tm k' l=some x:=by
 intro l;induction l with
 | nil=>intro _;exact b
 | cons i l c=>
  intro h;rw[GY,mA]at h ⊢;obtain⟨o,a,h⟩:=h;refine⟨o,a,?_⟩;rw[mA]at h ⊢
  grind [mA,jS,qB]
theorem Na  {l:List dH} (b:yZ all s=false):fK C φ all n old olds m (s::l) tm H=ob (lD all.toList (bP all s.a)) λo=>ob (eZ C all s.a o tm) λw=>
   (λa:O->sA->wC=>if w=true then(fH φ ((iF o.op).f C (.c tm old (tG (bP all s.a) olds) (aI o.op)) H) H λv H'=>fN C o.type v λv=>a v H')else a aD H)
   (λv H'=>oP C H' all old olds (By n tm o.dst v) (oJ C H' all n old olds (λtm=>fK C φ all n old olds m l tm H') s.b (By n tm o.dst v)) s.c):=by
 show Bool.rec (motive:=λ_=>wC) _ _ (yZ all s)=_;rw[b];show(ob (lD all.toList (bP all s.a)) λo=>ob (eZ C all s.a o tm) λw=>(λa:O->sA->wC=>Bool.rec (motive:=λ_=>wC) _ _ w) _)=_;congr 1;funext o;congr 1;funext w;cases w<;>rfl
theorem Rd  {l:List dH} (a:yZ all s=true):fK C φ all n old olds m (s::l) tm H=Tk C all n old olds s (fK C φ all n old olds m l) tm H:=by
 show Bool.rec (motive:=λ_=>wC) _ _ (yZ all s)=_;rw[a];rfl
theorem Yk {g:Tm->sA->wC} {x:lI × sA}:Tk C all n old olds s g tm H=some x ↔ Ct C all=true/\∃es H',Ow all old olds tm s.c=some es/\Fg C es H=some H'/\oJ C H' all n old olds (λtm=>g tm H') s.b tm=some x:=by
 grind [Tk,mA,qB]
theorem BP(k:uR φ j) (i:iL m c):∀(l:List dH),iL (fK C φ all n old olds m l) (fK C j all n old olds c l):=by
 intro l;induction l with
 | nil=>exact i
 | cons s l r=>
  intro tm H x h
  cases p:yZ all s with
  | true=>
   rw[Rd p,Yk]at h ⊢;obtain⟨u,t,a,d,f,z⟩:=h;exact⟨u,t,a,d,f,Xq (λtm x g=>r _ _ _ g) _ _ _ z⟩
  | false=>
  rw[Na p,mA]at h ⊢;obtain⟨o,d,h⟩:=h;refine⟨o,d,?_⟩;rw[mA]at h ⊢;obtain⟨w,f,h⟩:=h;refine⟨w,f,?_⟩;have b:∀v a y,oP C a all old olds (By n tm o.dst v) (oJ C a all n old olds (λtm=>fK C φ all n old olds m l tm a) s.b (By n tm o.dst v)) s.c=some y →
    oP C a all old olds (By n tm o.dst v) (oJ C a all n old olds (λtm=>fK C j all n old olds c l tm a) s.b (By n tm o.dst v)) s.c=some y:=by
   intro v a y q;exact GX (Xq (λtm x g=>r _ _ _ g) _ _ _ (Us _ q).2) _ q
  simp only[]at h ⊢;split at h
  .rename_i e;rw[A5 e];exact KI k (DF b) h
  grind
def KJ(e:uR φ j) (d:iL m c){f:Nat}{a:Bool}:iL (Nh C φ fn n m f all a) (Nh C j fn n c f all a):=by
 intro tm H x h
 cases a with
 | false=>exact Sb e d _ _ _ _ h
 | true=>
  have h:(ob (ob (C.e.c fn) λt=>t.c f) λp=>sB (jY all p) (oJ C H all n tm.b p.b (λb=>fK C φ all n tm.b p.b m p.a b H) p.c tm.b))=some x:=h;show(ob (ob (C.e.c fn) λt=>t.c f) λp=>sB (jY all p) (oJ C H all n tm.b p.b (λb=>fK C j all n tm.b p.b c p.a b H) p.c tm.b))=some x;rw[mA]at h ⊢;obtain⟨p,g,h⟩:=h;refine⟨p,g,?_⟩;rw[qB]at h ⊢;exact⟨h.1,Xq (λtm x i=>BP e d _ _ _ _ i) _ _ _ h.2⟩
def UK{m c:Kt}(a:xS m c){p:Option Code}:iL (Ge m p) (Ge c p):=by
 intro tm H x h;unfold Ge at h ⊢;split at h
 .exact a.a _ _ _ h
 .exact a.d _ _ _ h
 .cases h
def KP(e:uR φ j){m c:Kt}(d:xS m c) {f:Operand}{ps:List Nat}{a b:Code}:iL (nV C φ fn n m f ps a b) (nV C j fn n c f ps a b):=by
 intro tm H x h;unfold nV at h ⊢;rw[mA]at h ⊢;obtain⟨v,g,h⟩:=h;refine⟨v,g,?_⟩;rw[mA]at h ⊢;obtain⟨q,i,h⟩:=h;refine⟨q,i,?_⟩;split at h
 .cases h
 .rw[qB,mA]at h ⊢;obtain⟨k,y,l,h⟩:=h;refine⟨k,y,e _ _ _ _ l,?_⟩;rw[qB,mA]at h ⊢;obtain⟨t,r,o,h⟩:=h;refine⟨t,r,o,?_⟩;rw[qB,mA]at h ⊢;obtain⟨p,z,s,h⟩:=h;exact⟨p,z,UK d _ _ _ s,h⟩
end
end
section
variable {A:Type}{m n:Nat}{g:Kt->Tm->sA->wC}{j:Kt}{H:sA}{ks:Nat->O->sA->wC}{k:O->sA->wC}{s:Nat->Tm->sA->wC}
theorem vz {f:Nat->Option A}{r:A}(h:lq f=some r):∃n,f n=some r:=by
 unfold lq at h;by_cases a:∃n r,f n=some r
 all_goals grind
structure yR {A β γ:Type} (ks:Nat->A->β->Option γ) (k:A->β->Option γ):Prop where
 d:∀n,iL (ks n) (ks (n+1))
 c:∀a b x,k a b=some x->∃n,ks n a b=some x
def Qs{f g:Type}{ks:Nat->A->f->Option g}(h:∀n,iL (ks n) (ks (n+1))) (c:n<=m):iL (ks n) (ks m):=by
 induction c with
 | refl=>exact λ_ _ _ h=>h
 | step _ e=>exact λa b x d=>h _ _ _ _ (e a b x d)
structure iZ (φs:Nat->fF) (φ:fF):Prop where
 b:∀n,uR (φs n) (φs (n+1))
 d:∀f a H x,φ f a H=some x->∃n,φs n f a H=some x
def iZ.c{φs:Nat->fF}{φ:fF}(h:iZ φs φ) (b:n<=m):uR (φs n) (φs m):=by
 induction b with
 | refl=>exact λ_ _ _ _ h=>h
 | step _ d=>exact λf a H x c=>h.b _ _ _ _ _ (d f a H x c)
structure Iz (s:Nat->Kt) (j:Kt):Prop where
 a:yR (λn=>(s n).c) j.c
 b:∀i,yR (λn=>(s n).a i) (j.a i)
 c:yR (λn=>(s n).b) j.b
section
variable {C:fA}{φ u:fF}{φs:Nat->fF}{all:Array Oper}{N fn:Nat}
def zig{e:Kt->Tm->sA->wC}{c:Kt}(d:xS j c)(f:∀ j c,xS j c->iL (g j) (e c))(live:List Nat):∀m,iL (Nat.rec (motive:=λ_=>Tm->sA->wC) (λ_ _=>none) (λ_ r tm H=>g ⟨r,j.a,j.b⟩ (C1 live tm) H) m)
  (Nat.rec (motive:=λ_=>Tm->sA->wC) (λ_ _=>none) (λ_ r tm H=>e ⟨r,c.a,c.b⟩ (C1 live tm) H) m):=by
 intro m;induction m with
 | zero=>intro a b x h;cases h
 | succ m i=>exact λa b x h=>f ⟨_,_,_⟩ ⟨_,_,_⟩ ⟨i,d.b,d.d⟩ _ _ _ h
theorem xS.c(j:Kt):xS j j:=⟨λ_ _ _ h=>h,λ_ _ _ _ h=>h,λ_ _ _ h=>h⟩
def ED  (d:∀ j c,xS j c->iL (g j) (g c))(live:List Nat):∀m,iL (Nat.rec (motive:=λ_=>Tm->sA->wC) (λ_ _=>none) (λ_ r tm H=>g ⟨r,j.a,j.b⟩ (C1 live tm) H) m)
  (Nat.rec (motive:=λ_=>Tm->sA->wC) (λ_ _=>none) (λ_ r tm H=>g ⟨r,j.a,j.b⟩ (C1 live tm) H) (m+1)):=by
 intro m;induction m with
 | zero=>intro a b x h;cases h
 | succ m e=>exact λa b x h=>d ⟨_,_,_⟩ ⟨_,_,_⟩ ⟨e,(xS.c j).b,(xS.c j).d⟩ _ _ _ h
def Fq(k:uR φ u):∀(c:bC) (j l:Kt),xS j l->iL (wE C φ fn N c j) (wE C u fn N c l):=by
 have s:∀(z:fF),uR z z:=λ_ _ _ _ _ h=>h;intro c;suffices h:∀ φ u,uR φ u->∀(j l:Kt),xS j l->iL (wE C φ fn N c j) (wE C u fn N c l) from h φ u k
 induction c with
 | ah=>exact λ_ _ _ j l g=>g.a
 | aa v E d=>exact λ_ _ k j l g=>KJ k g.a
 | ak a b q r=>exact λ_ _ k j l g=>q _ _ k _ _ ⟨r _ _ k _ _ g,g.b,g.d⟩
 | ap c a b q r=>
  intro φ u k j l g o H x h;have h:(ob (ob (ev c (.b o)) O.r) λt=>Bool.rec (motive:=λ_=>wC) (wE C φ fn N b j o H) (wE C φ fn N a j o H) t)=some x:=h;show(ob (ob (ev c (.b o)) O.r) λt=>Bool.rec (motive:=λ_=>wC) (wE C u fn N b l o H) (wE C u fn N a l o H) t)=some x;rw[mA]at h ⊢;obtain⟨t,A,w⟩:=h;refine⟨t,A,?_⟩
  cases t with
  | true=>exact q _ _ k _ _ g _ _ _ w
  | false=>exact r _ _ k _ _ g _ _ _ w
 | am v c p=>
  intro φ u k j l g;refine p _ _ k _ _ ⟨g.a,λi o H x h=>?_,g.d⟩;simp only[uM]at h ⊢;split at h
  .rename_i e;rw[A5 e];exact g.a _ _ _ h
  .rename_i e;rw[A3 e];exact g.b _ _ _ _ h
 | ac n c p=>
  intro φ u k j l g o H x h;obtain⟨m,B⟩:=vz h;refine(Xo λm y D=>ED (p _ _ (s u)) n.b m _ _ _ D).2 ⟨m,?_⟩;exact zig g (p _ _ k) n.b m _ _ _ B
 | au v=>exact λ_ _ _ j l g=>g.b v
 | ax=>exact λ_ _ _ j l g=>g.d
 | aw n c p=>exact λ_ _ k j l g o H x h=>p _ _ k _ _ g _ _ _ h
 | aj i I f J F c p=>exact λ_ _ k j l g o H x h=>KP k g _ _ _ h
def KH(a:iZ φs φ){r:pM}   (d:yR ks k){x:lI × sA}(h:fH φ r H k=some x):∃n,fH (φs n) r H (ks n)=some x:=by
 cases r<;>simp only[fH]at h ⊢<;>try (cases h;done)
 case aa v o=>exact d.c _ _ _ h
 case am f c=>
  rw[mA]at h;obtain⟨p,i,b⟩:=h;obtain⟨n,e⟩:=a.d _ _ _ _ i
  cases g:p.1.p with
  | true=>
   rw[g]at b;exact⟨n,by rw[mA];exact⟨p,e,by rw[g];exact b⟩⟩
  | false=>
  rw[g]at b;obtain⟨m,j⟩:=d.c _ _ _ b;exact⟨max n m,by rw[mA];exact⟨p,a.c (Nat.le_max_left n m) _ _ _ _ e,by rw[g];exact Qs d.d (Nat.le_max_right n m) _ _ _ j⟩⟩
 case ak l c=>
  rw[mA]at h;obtain⟨p,i,b⟩:=h;rw[qB]at b;obtain⟨n,e⟩:=a.d _ _ _ _ i;obtain⟨m,j⟩:=d.c _ _ _ b.2;exact⟨max n m,by rw[mA];exact⟨p,a.c (Nat.le_max_left n m) _ _ _ _ e,qB.2 ⟨b.1,Qs d.d (Nat.le_max_right n m) _ _ _ j⟩⟩⟩
 case ap v=>exact⟨0,h⟩
theorem ML{t:Nat}  (a:yR ks k):yR (λn v H=>fN C t v λv=>ks n v H) (λv H=>fN C t v λv=>k v H):=by
 refine⟨λn=>DF (a.d n),λv H x h=>?_⟩;rw[jS]at h;obtain⟨n,b⟩:=a.c _ _ _ h.2;exact⟨n,by grind [jS]⟩
theorem LV(b:iZ φs φ) {j:Tm->sA->wC}(a:yR s j):∀(l:List Oper),yR (λn=>lO C (φs n) all N (s n) l) (lO C φ all N j l):=by
 intro l;refine⟨λn=>Sb (b.b n) (a.d n) l,?_⟩
 induction l with
 | nil=>exact a.c
 | cons o l i=>
  intro g H x h;rw[Hp,mA]at h;obtain⟨w,m,f⟩:=h;split at f
  .rename_i e;obtain⟨n,p⟩:=KH b (ML (ks:=λn v c=>lO C (φs n) all N (s n) l (By N g o.dst v) c) (k:=λv c=>lO C φ all N j l (By N g o.dst v) c) ⟨λn v c y d=>Sb (b.b n) (a.d n) l _ _ _ d,λv c y d=>i _ _ _ d⟩) f
   grind [Hp,mA]
  grind [Hp,mA]
variable {old:Tm}{olds:List (Nat × List Nat)}
theorem DQ {ks:Nat->Tm->wC}{k:Tm->wC}(b:∀tm x,k tm=some x->∃n,ks n tm=some x):∀(l:List Nat) tm x,oJ C H all N old olds k l tm=some x->∃n,oJ C H all N old olds (ks n) l tm=some x:=by
 intro l;induction l with
 | nil=>exact b
 | cons i l j=>
  intro tm x h;simp only[Xr]at h ⊢;rw[mA]at h;obtain⟨o,c,h⟩:=h;rw[mA]at h;obtain⟨w,d,a⟩:=h;split at a
  .rename_i e;rw[mA]at a;obtain⟨v,f,g⟩:=a
   simp_all [jS]
  simp_all
theorem WA(f:iZ φs φ) {j:Tm->sA->wC}(d:yR s j):∀(l:List dH),yR (λn=>fK C (φs n) all N old olds (s n) l) (fK C φ all N old olds j l):=by
 intro l;refine⟨λn=>BP (f.b n) (d.d n) l,?_⟩
 induction l with
 | nil=>exact d.c
 | cons k l q=>
  intro a H x h
  cases p:yZ all k with
  | true=>
   rw[Rd p,Yk]at h;obtain⟨A,z,b,r,t,u⟩:=h;obtain⟨n,m⟩:=DQ (λa x g=>q a b x g) _ _ _ u;exact⟨n,by grind [Rd,Yk]⟩
  | false=>
  rw[Na p,mA]at h;obtain⟨o,r,h⟩:=h;rw[mA]at h;obtain⟨w,t,h⟩:=h;have c:yR (λn v b=>oP C b all old olds (By N a o.dst v) (oJ C b all N old olds (λa=>fK C (φs n) all N old olds (s n) l a b) k.b (By N a o.dst v)) k.c)
    (λv b=>oP C b all old olds (By N a o.dst v) (oJ C b all N old olds (λa=>fK C φ all N old olds j l a b) k.b (By N a o.dst v)) k.c):=by
   refine⟨λn v b y i=>GX (Xq (λa x g=>BP (f.b n) (d.d n) l _ _ _ g) _ _ _ (Us _ i).2) _ i,λv b y i=>?_⟩;obtain⟨n,m⟩:=DQ (λa x g=>q a b x g) _ _ _ (Us _ i).2;exact⟨n,GX m _ i⟩
  simp only[]at h;split at h
  .rename_i e;obtain⟨n,m⟩:=KH f (ML c) h
   grind [Na,lA]
  .rename_i e;obtain⟨n,m⟩:=c.c _ _ _ h;exact⟨n,by grind [Na,lA]⟩
theorem WW(d:iZ φs φ) {j:Tm->sA->wC}(c:yR s j){f:Nat}{a:Bool}:yR (λn=>Nh C (φs n) fn N (s n) f all a) (Nh C φ fn N j f all a):=by
 refine⟨λn=>KJ (d.b n) (c.d n),λe H x h=>?_⟩
 cases a with
 | false=>exact(LV d c _).c _ _ _ h
 | true=>
  have h:(ob (ob (C.e.c fn) λt=>t.c f) λp=>sB (jY all p) (oJ C H all N e.b p.b (λb=>fK C φ all N e.b p.b j p.a b H) p.c e.b))=some x:=h;rw[mA]at h;obtain⟨p,i,h⟩:=h;rw[qB]at h;obtain⟨n,k⟩:=DQ (λb x g=>(WA d c p.a).c b H x g) _ _ _ h.2;refine⟨n,?_⟩;show(ob (ob (C.e.c fn) λt=>t.c f) λp=>sB (jY all p) (oJ C H all N e.b p.b (λb=>fK C (φs n) all N e.b p.b (s n) p.a b H) p.c e.b))=some x
  grind [lA,qB]
theorem KO(d:iZ φs φ){s:Nat->Kt} (c:Iz s j){f:Operand}{ps:List Nat}{a b:Code}:yR (λn=>nV C (φs n) fn N (s n) f ps a b) (nV C φ fn N j f ps a b):=by
 have k:∀n,xS (s n) (s (n+1)):=λn=>⟨c.a.d n,λi=>(c.b i).d n,c.c.d n⟩;have l:∀n m,n<=m->xS (s n) (s m):=λn m h=>⟨Qs c.a.d h,λi=>Qs (c.b i).d h,Qs c.c.d h⟩;refine⟨λn=>KP (d.b n) (k n),λo H x h=>?_⟩;unfold nV at h;rw[mA]at h;obtain⟨v,p,h⟩:=h;rw[mA]at h;obtain⟨q,t,h⟩:=h;split at h
 .cases h
 .rename_i g D;rw[qB,mA]at h;obtain⟨u,y,w,h⟩:=h;rw[qB,mA]at h;obtain⟨I,r,A,h⟩:=h;rw[qB,mA]at h;obtain⟨B,z,e,h⟩:=h;obtain⟨n,F⟩:=d.d _ _ _ _ w;have:∃m,Ge (s m) r.a (o) (D3 y.2 (H.a+1) r)=some z:=by
   unfold Ge at e ⊢;split at e
   .exact c.a.c _ _ _ e
   .exact c.c.c _ _ _ e
   grind
  obtain⟨m,E⟩:=this;refine⟨max n m,?_⟩;show nV C (φs (max n m)) fn N (s (max n m)) f ps a b o H=some x;unfold nV;rw[p,lA,t,lA,D];simp only[];rw[qB,mA];refine⟨u,y,d.c (Nat.le_max_left n m) _ _ _ _ F,?_⟩;rw[qB];refine⟨I,?_⟩;rw[A,lA,qB,mA];exact⟨B,z,UK (l _ _ (Nat.le_max_right n m)) _ _ _ E,h⟩
theorem Ud(o:iZ φs φ):∀(c:bC) (s:Nat->Kt) (j:Kt),Iz s j->yR (λn=>wE C (φs n) fn N c (s n)) (wE C φ fn N c j):=by
 have w:∀ {s:Nat->Kt} {j:Kt},Iz s j->∀n,xS (s n) (s (n+1)):=λh n=>⟨h.a.d n,λi=>(h.b i).d n,h.c.d n⟩
 intro c;induction c with
 | ah=>exact λs j g=>g.a
 | aa z K d=>exact λs j g=>WW o g.a
 | ak a b q u=>exact λs j g=>q (λn=>⟨wE C (φs n) fn N b (s n),(s n).a,(s n).b⟩) _ ⟨u _ _ g,g.b,g.c⟩
 | ap c a b q u=>
  intro s j g;refine⟨λn=>Fq (o.b n) (.ap c a b) _ _ (w g n),λk H x h=>?_⟩;have h:(ob (ob (ev c (.b k)) O.r) λt=>Bool.rec (motive:=λ_=>wC) (wE C φ fn N b j k H) (wE C φ fn N a j k H) t)=some x:=h;rw[mA]at h;obtain⟨t,M,D⟩:=h;have J:∀n,(Bool.rec (motive:=λ_=>wC) (wE C (φs n) fn N b (s n) k H) (wE C (φs n) fn N a (s n) k H) t:wC)=some x->wE C (φs n) fn N (.ap c a b) (s n) k H=some x:=by
   simp_all [wE]
  cases t with
  | true=>obtain⟨n,v⟩:=(q _ _ g).c _ _ _ D;grind
  | false=>obtain⟨n,v⟩:=(u _ _ g).c _ _ _ D;grind
 | am z c p=>
  intro s j g;refine p (λn=>⟨(s n).c,λi k H=>Bool.rec (motive:=λ_=>wC) ((s n).a i k H) ((s n).c k H) (Nat.beq z i),(s n).b⟩) _ ⟨g.a,λi=>⟨λn k H x h=>?_,λk H x h=>?_⟩,g.c⟩
  .simp only[uM]at h ⊢;split at h
   .rename_i e;rw[A5 e];exact g.a.d n _ _ _ h
   .rename_i e;rw[A3 e];exact(g.b i).d n _ _ _ h
  .simp only[uM]at h ⊢;split at h
   .rename_i e;obtain⟨n,v⟩:=g.a.c _ _ _ h;grind
   .rename_i e;obtain⟨n,v⟩:=(g.b i).c _ _ _ h;grind
 | ac l c p=>
  intro s j g;refine⟨λn=>Fq (o.b n) (.ac l c) _ _ (w g n),λk H x h=>?_⟩;obtain⟨m,E⟩:=vz h;have I:∀m,yR (λn=>(Nat.rec (motive:=λ_=>Tm->sA->wC) (λ_ _=>none) (λ_ r k H=>wE C (φs n) fn N c ⟨r,(s n).a,(s n).b⟩ (C1 l.b k) H) m:Tm->sA->wC))
    (Nat.rec (motive:=λ_=>Tm->sA->wC) (λ_ _=>none) (λ_ r k H=>wE C φ fn N c ⟨r,j.a,j.b⟩ (C1 l.b k) H) m):=by
   intro m;induction m with
   | zero=>exact⟨λ_ _ _ _ h=>h,λ_ _ _ h=>by cases h⟩
   | succ m A=>
    have:=p _ _ (⟨A,g.b,g.c⟩:Iz (λn=>⟨(Nat.rec (motive:=λ_=>Tm->sA->wC) (λ_ _=>none) (λ_ r k H=>wE C (φs n) fn N c ⟨r,(s n).a,(s n).b⟩ (C1 l.b k) H) m:Tm->sA->wC),(s n).a,(s n).b⟩) ⟨(Nat.rec (motive:=λ_=>Tm->sA->wC) (λ_ _=>none) (λ_ r k H=>wE C φ fn N c ⟨r,j.a,j.b⟩ (C1 l.b k) H) m:Tm->sA->wC),j.a,j.b⟩);exact⟨λn k H x h=>this.d n _ _ _ h,λk H x h=>this.c _ _ _ h⟩
  obtain⟨n,v⟩:=(I m).c _ _ _ E;exact⟨n,(Xo λm y F=>ED (λj B h=>Fq (λ_ _ _ _ h=>h) c j B h) l.b m _ _ _ F).2 ⟨m,v⟩⟩
 | au z=>exact λs j g=>g.b z
 | ax=>exact λs j g=>g.c
 | aw l c p=>exact λs j g=>⟨λn k H x h=>(p _ _ g).d n _ _ _ h,λk H x h=>(p _ _ g).c _ _ _ h⟩
 | aj i P f Q L c p=>exact λs j g=>⟨λn k H x h=>(KO o g).d n _ _ _ h,λk H x h=>(KO o g).c _ _ _ h⟩
theorem zo0{live:PI}{c:bC} {tm:Tm}  : wE C φ fn N (.ac live c) j tm H=wE C φ fn N c ⟨wE C φ fn N (.ac live c) j,j.a,j.b⟩ (C1 live.b tm) H:=by
 have b:uR φ φ:=λ_ _ _ _ h=>h;have g:∀m,iL (Nat.rec (motive:=λ_=>Tm->sA->wC) (λ_ _=>none) (λ_ r tm H=>wE C φ fn N c ⟨r,j.a,j.b⟩ (C1 live.b tm) H) m)
   (Nat.rec (motive:=λ_=>Tm->sA->wC) (λ_ _=>none) (λ_ r tm H=>wE C φ fn N c ⟨r,j.a,j.b⟩ (C1 live.b tm) H) (m+1)):=ED (Fq b c) live.b
 have a:∀tm H x,wE C φ fn N (.ac live c) j tm H=some x ↔ ∃m,(Nat.rec (motive:=λ_=>Tm->sA->wC) (λ_ _=>none) (λ_ r tm H=>wE C φ fn N c ⟨r,j.a,j.b⟩ (C1 live.b tm) H) m:Tm->sA->wC) tm H=some x:=
  λtm H x=>Xo λm y e=>g m _ _ _ e
 have f:Iz (λm=>⟨(Nat.rec (motive:=λ_=>Tm->sA->wC) (λ_ _=>none) (λ_ r tm H=>wE C φ fn N c ⟨r,j.a,j.b⟩ (C1 live.b tm) H) m:Tm->sA->wC),j.a,j.b⟩) ⟨wE C φ fn N (.ac live c) j,j.a,j.b⟩:=
  ⟨⟨g,λtm H x h=>(a tm H x).1 h⟩,λi=>⟨λ_ _ _ _ h=>h,λ_ _ _ h=>⟨0,h⟩⟩,⟨λ_ _ _ _ h=>h,λ_ _ _ h=>⟨0,h⟩⟩⟩
 have k:∀x,wE C φ fn N (.ac live c) j tm H=some x ↔ wE C φ fn N c ⟨wE C φ fn N (.ac live c) j,j.a,j.b⟩ (C1 live.b tm) H=some x:=by
  intro x;rw[a];constructor
  .rintro⟨m,d⟩
   cases m with
   | zero=>cases d
   | succ m=>exact Fq b c ⟨(Nat.rec (motive:=λ_=>Tm->sA->wC) (λ_ _=>none) (λ_ r tm H=>wE C φ fn N c ⟨r,j.a,j.b⟩ (C1 live.b tm) H) m:Tm->sA->wC),j.a,j.b⟩ ⟨wE C φ fn N (.ac live c) j,j.a,j.b⟩ ⟨λtm H y e=>(a tm H y).2 ⟨m,e⟩,λ_ _ _ _ h=>h,λ_ _ _ h=>h⟩ _ _ _ d
  .intro h;obtain⟨m,d⟩:=(Ud (φs:=λ_=>φ) ⟨λ_=>b,λ_ _ _ _ h=>⟨0,h⟩⟩ c _ _ f).c _ _ _ h;exact⟨m+1,d⟩
 cases h:wE C φ fn N (.ac live c) j tm H with
 | some x=>grind
 | none=>
  cases l:wE C φ fn N c ⟨wE C φ fn N (.ac live c) j,j.a,j.b⟩ (C1 live.b tm) H with
  | none=>rfl
  | some x=>simp_all
end
end
section
def sj:List yF->Bool
 | .d .. :: _=>true
 | _=>false
section
variable {P:Program}{C:fA}{B N:Nat}{I:World->Prop}{μ:Mu}{w:World}{base:List Frame}{m:Machine}
theorem BN(a:Jd P C){f:Nat}{args:List O}{args':Array Value}{H:sA}(b:lB B N μ H w)(d:bB μ args args'.toList){g:pC}(c:xM C f args false=some g) :
  lE P C B N μ base (lone (Frame.enter P f args' .normal) base w) w (.aa ⟨g,[],H⟩):=
 ⟨μ,_,[],w,.refl _ _,λ_ _ h=>h,Below.refl N w,b,(Tu (cur:=some H) a c d).1,.ac⟩
end
end
section
variable {c D:pC}{old tm tm':Tm}{t1 t2 A:List yF}{H:sA}{o o':dG}{v:O}{r:pM}{J:Tm->sA->wC}{olds:List (Nat × List Nat)}{live:List Nat}{i:Nat}
inductive dM (C:fA):dG->dG->Prop
 | aa (o:dG):dM C o o
 | ac {o o':dG}:dM C (pY C o) o'->dM C o o'
 | ah {A:List yF} {tm tm':Tm} {R:eL} {cs:List pC} {H:sA} {o':dG}:sj A=false->(∀i v,tm'.a i=some v->tm.a i=some v)->dM C (.aa ⟨⟨A,tm',R⟩,cs,H⟩) o'->dM C (.aa ⟨⟨A,tm,R⟩,cs,H⟩) o'
def dM.d{C:fA}{a b c:dG}(h:dM C a b)(k:dM C b c):dM C a c:=by
 induction h with
 | aa=>exact k
 | ac _ d=>exact .ac (d k)
 | ah e f _ d=>exact .ah e f (d k)
section
variable {P:Program}{C:fA}{B N:Nat}{I:World->Prop}{μ:Mu}{w:World}{base:List Frame}{m:Machine}
def cF.a{n:Nat} {tmps:Array Value}(h:cF μ n tm tmps)(a:∀i v,tm'.a i=some v->tm.a i=some v):cF μ n tm' tmps:=⟨h.1,λi v b=>h.2 i v (a i v b)⟩
theorem ziy  {R:eL}{acs:List pC} (p:sj A=false)(q:∀i v,tm'.a i=some v->tm.a i=some v)(h:lE P C B N μ base m w (.aa ⟨⟨A,tm,R⟩,acs,H⟩)) :
  lE P C B N μ base m w (.aa ⟨⟨A,tm',R⟩,acs,H⟩):=by
 obtain⟨n,b,s,E,u,x,y,z,o,D⟩:=h;obtain⟨r,j,k,c,g,f,d⟩:=b;refine⟨n,_,s,E,u,x,y,z,⟨o.a,?_⟩,D⟩;have e:=o.c;simp only at e ⊢;split at e
 .rename_i l;rw[A5 l]
  cases e with
  | aa a t=>exact .aa a (t.a q)
  | ah _ _ _ _=>cases p
  | aj _ _ _ _ _=>cases p
 .rename_i l;rw[A3 l];exact e.a q
theorem lE.d(c:rM P C B N I)(b:I w) (h:dM C o o'):lE P C B N μ base m w o->lE P C B N μ base m w o':=by
 induction h with
 | aa=>exact id
 | ac _ a=>grind [IY]
 | ah d e _ a=>grind [ziy]
end
def Mf(C:fA)(f:Nat)(ds:List kI)(D:pC)(H:sA)(v:O)(fl:Bool:=false):Prop:=
 D.R.a=.aa/\D.R.d=ds/\D.R.b=fl/\D.R.e=f/\∃a l,C.d.c f=some a/\Af C H D.b a.results.toList=some l/\v=Jw l
def CK(r:yP)(l:Nat)(tm:Tm):pC:=⟨[.a r.c,.b,.a r.f],tm,⟨r.g,r.n,[],.ah,false,some l⟩⟩
def zte(f:Nat)(ds:List kI)(D:pC)(v:O)(fl:Bool:=false):Prop:=D.R.a=.ac [⟨v,false⟩]/\D.R.d=ds/\D.R.b=fl/\D.R.e=f
def uT(C:fA)(f:Nat)(ds:List kI)(D:pC)(H:sA)(o:lI)(fl:Bool:=false):Prop:=if o.p=true then zte f ds D o.v fl/\∃a,C.d.c f=some a else Mf C f ds D H o.v fl
structure cU (C:fA) (φ:fF):Prop where
 a:∀f args H x,φ (.aa f) args H=some x->∃g,xM C f args false=some g/\∀acs,∃fr',dM C (.aa ⟨g,acs,H⟩) (.aa ⟨fr',acs,x.2⟩)/\uT C f [] fr' x.2 x.1
 rd:∀l args H x,φ (.ac l) args H=some x->∃r tm,rK H l=some r/\Ed r.n r.b args r.h=some tm/\x.1.p=false/\∀c acs c',fI c x.1.v=some c'->dM C (.aa ⟨CK r l tm,c::acs,H⟩) (.aa ⟨c',acs,x.2⟩)
abbrev Bw:=List kI->dG->lI × sA->Prop
def B6 (C:fA)(E:Bw)(ds:List kI)(o:dG)(x:lI × sA):Prop:=∃o',dM C o o'/\E ds o' x
theorem B6.a{C:fA}{E:Bw}{ds:List kI} {x:lI × sA}(h:B6 C E ds (pY C o) x):B6 C E ds o x:=by
 obtain⟨D,a,b⟩:=h;exact⟨D,.ac a,b⟩
theorem B6.b{C:fA}{E:Bw}{ds:List kI} {x:lI × sA}(c:dM C o o')(h:B6 C E ds o' x):B6 C E ds o x:=by
 obtain⟨D,a,b⟩:=h;exact⟨D,c.d a,b⟩
abbrev RR(f N:Nat)(a:Option Nat)(ds:List kI)(fl:Bool:=false):eL:=⟨f,N,ds,.ah,fl,a⟩
structure Pv (C:fA) (E:Bw) (G:lI × sA->Prop) (f N:Nat) (ro:Option Nat) (acs:List pC) (fl:Bool:=false):Prop where
 c:∀ds A tm H x,¬ E ds (.aa ⟨⟨A,tm,RR f N ro ds fl⟩,acs,H⟩) x
 a:ro=none->∀x,G x
 d:ro=none->∀r ds o x,x.1.p=false->E (⟨none,r,[]⟩::ds) o x->Bh x.2 r=some (some [])->∃o',dM C o o'/\E ds o' (x.1,A7 x.2 r (.ah none))
 b:∀ds A tm x,G x->x.1.p=true->E ds (.aa ⟨Ah ⟨A,tm,RR f N ro ds fl⟩ [⟨x.1.v,false⟩],acs,x.2⟩) x
structure Pp (C:fA) (E:Bw) (G:lI × sA->Prop) (f N:Nat) (ro:Option Nat) (acs:List pC) (κ:Kt) (k:List yF) (fl:Bool:=false):Prop where
 a:∀ds x tm H,G x->κ.c tm H=some x->B6 C E ds (.aa ⟨⟨k,tm,RR f N ro ds fl⟩,acs,H⟩) x
 b:∀ds x i tm H,G x->κ.a i tm H=some x->B6 C E ds (.aa ⟨⟨.a (.exit i)::k,tm,RR f N ro ds fl⟩,acs,H⟩) x
 c:∀ds x tm H,G x->κ.b tm H=some x->∀k',B6 C E ds (.aa ⟨⟨.a .ret::k',tm,RR f N ro ds fl⟩,acs,H⟩) x
structure Mg where
 i:Nat
 pl:List Nat
 f:Operand
 ps:Array Nat
 a:List (Nat × Array Oper)
 c:bC
def nM(c:bC):List Mg:=
 bC.rec (motive:=λ_=>List Mg) [] (λ_ _ _=>[]) (λ_ _ a b=>oE a b) (λ_ _ _ a b=>oE a b) (λ_ _ a=>a) (λ_ _ a=>a) (λ_=>[]) [] (λ_ _ a=>a)
  (λi e f g d c a=>⟨i,e,f,g,d,c⟩::a) c
section
variable {C:fA}{φ:fF}{E:Bw}{s:lI × sA->Prop}{ds:List kI}{F:Option Nat}{f N:Nat}{acs:List pC}{R:eL}{B:Kt}{k:List yF}{x:lI × sA}{all:Array Oper}{fl:Bool}
theorem sK(a:R.a.a=true)    : pY C (.aa ⟨⟨A,tm,R⟩,acs,H⟩)=sW C A tm R acs H:=by
 show(bif R.a.a then sW C A tm R acs H else _)=_
 grind
def zin{c':pC}  (q:Mf C f [] D H v)(p:fI c v=some c'):pY C (.aa ⟨D,c::acs,H⟩)=.aa ⟨c',acs,H⟩:=by
 obtain⟨e,g,h,i,r,l,o,j,rfl⟩:=q;obtain⟨A,tm,m,n,b,k,a,d⟩:=D;simp only at e g h i j;subst e g h i;show Ju C ⟨A,tm,_⟩ (c::acs) H=_;unfold Ju;rw[o,lA,j];simp only[cond_false];rw[p];rfl
def zms   {g:Nat}{fn:Func}(k:c.R.a=.ah)(o:zte g [] D v)(m:C.d.c g=some fn):pY C (.aa ⟨D,c::acs,H⟩)=.aa ⟨Ah c [⟨v,false⟩],acs,H⟩:=by
 obtain⟨f,h,i,j⟩:=o;obtain⟨A,tm,d,n,b,l,a,e⟩:=D;simp only at f h i j;subst f h i j;show dN (ob (C.d.c d) λ_=>some (⟨Ah c [⟨v,false⟩],acs,H⟩:xV)) 19=_;rw[m];rfl
def CM(j:cU C φ)  {K:O->sA->wC}(h:fH φ r H K=some x)
  (m:∀v H' c',fI D v=some c'->K v H'=some x->B6 C E ds (.aa ⟨c',acs,H'⟩) x) (c:∀v,∃c',fI D v=some c') (i:D.R.a=.ah) (q:x.1.p=true->E ds (.aa ⟨Ah D [⟨x.1.v,false⟩],acs,x.2⟩) x):B6 C E ds (Pm r C D acs H) x:=by
 cases r<;>simp only[fH]at h<;>try (cases h;done)
 case aa v H'=>
  have y:K v H'=some x:=h;obtain⟨c',d⟩:=c v;show B6 C E ds (cj v H' C D acs H) x;unfold cj;rw[d];exact m _ _ _ d y
 case am g a=>
  rw[mA]at h;obtain⟨p,k,b⟩:=h;obtain⟨c',d⟩:=c p.1.v;show B6 C E ds (Rw g a C D acs H) x;unfold Rw;obtain⟨F,z,o⟩:=j.a _ _ _ _ k;obtain⟨w,s,e⟩:=o (D::acs);rw[z]
  cases f:p.1.p with
  | true=>
   rw[f]at b;have b:some p=some x:=b;cases b;unfold uT at e;rw[A5 f]at e;obtain⟨e,B,n⟩:=e;refine B6.b (s.d (.ac ?_)) ⟨_,.aa _,q f⟩;rw[zms i e n];exact .aa _
  | false=>
   rw[f]at b;have b:K p.1.v p.2=some x:=b;unfold uT at e;rw[f,A3 (by simp)]at e;refine B6.b (s.d (.ac ?_)) (m _ _ _ d b);rw[zin e d];exact .aa _
 case ak l a=>
  rw[mA]at h;obtain⟨p,k,b⟩:=h;rw[qB]at b;obtain⟨c',d⟩:=c p.1.v;obtain⟨r,tm,t,u,A,o⟩:=j.rd _ _ _ _ k;show B6 C E ds (Ru l a C D acs H) x;unfold Ru;rw[t,lA,u,lA];exact B6.b (o _ _ _ d) (m _ _ _ d b.2)
 case ap v=>
  cases h;exact⟨_,.aa _,q rfl⟩
theorem Ae{m:fZ}(h:m.a=true):m=.ah:=by cases m<;>first | rfl | cases h
theorem za6(d:cU C φ)(b:R.a.a=true)(j:R.n=N)(m:∀A tm,x.1.p=true->E ds (.aa ⟨Ah ⟨A,tm,R⟩ [⟨x.1.v,false⟩],acs,x.2⟩) x) (c:∀tm H,J tm H=some x->B6 C E ds (.aa ⟨⟨k,tm,R⟩,acs,H⟩) x) :
  ∀(l:List Oper) (tm:Tm) (H:sA),lO C φ all N J l tm H=some x->B6 C E ds (nO C all k R acs l tm H) x:=by
 intro l;induction l with
 | nil=>exact λtm H h=>c tm H h
 | cons o l n=>
  intro tm H h;rw[Hp,mA]at h;obtain⟨w,i,h⟩:=h;rw[Hi,i]
  cases w with
  | false=>simp_all
  | true=>
   rw[A5 rfl]at h;simp only[];generalize (iF o.op).f C (.b tm) H=r at h
   cases f:r.a with
   | some p=>
    have:r=.aa p.1 p.2:=by cases r<;>simp[pM.a]at f;rw[<- f]
    grind [fH,jS]
   | none=>
    refine CM d h (λv q g a e=>?_) (λv=>⟨⟨.h all l::k,By R.n tm o.dst v,R⟩,by unfold fI;simp only[b,cond_true];rfl⟩) (Ae b) (m _ _);unfold fI at a;simp only[b,cond_true]at a;have a:some (⟨.h all l::k,By R.n tm o.dst v,R⟩:pC)=some g:=a;cases a;refine .a ?_;rw[sK b,j];rw[jS]at e;exact n _ _ e.2
theorem Xp   {K:Tm->wC}:∀(l:List Nat) (tm:Tm),oJ C H all N old olds K l tm=some x->∃tm',bV C H all N old olds l tm=some tm'/\K tm'=some x:=by
 intro l;induction l with
 | nil=>exact λtm h=>⟨tm,rfl,h⟩
 | cons i l b=>
  intro tm h;rw[Xr,mA]at h;obtain⟨o,a,h⟩:=h;rw[mA]at h;grind [bV,lA,mA,jS]
def EW{C:fA}{o:Op}{e:mD}  (b:zO o=true)(h:(iF o).f C e H=r)(c:∀q,r≠kN q):False:=by
 have a:∀q:Option (O × sA),kN q=r->False:=λq e=>c q e.symm;cases o<;>simp only[zO]at b<;>first
  | (cases b;done)
  | exact a _ h
theorem WB(T:cU C φ)(r:R.a.a=true)(I:R.n=N)(hP:∀A tm,x.1.p=true->E ds (.aa ⟨Ah ⟨A,tm,R⟩ [⟨x.1.v,false⟩],acs,x.2⟩) x) (S:∀tm H,J tm H=some x->B6 C E ds (.aa ⟨⟨k,tm,R⟩,acs,H⟩) x)   :
  ∀(l:List dH) (tm:Tm) (H:sA),fK C φ all N old olds J l tm H=some x->B6 C E ds (.aa ⟨⟨.d all old olds l::k,tm,R⟩,acs,H⟩) x:=by
 intro l;induction l with
 | nil=>
  intro tm H h;refine .a ?_;rw[sK r];exact S tm H h
 | cons a l U=>
  intro tm H h
  cases D:yZ all a with
  | true=>
   rw[Rd D,Yk]at h;obtain⟨Z,es,c,f,B,h3⟩:=h;obtain⟨tm',j,m⟩:=Xp _ _ h3;refine .a ?_;rw[sK r];show B6 C E ds (dW all old olds (a::l) C k tm R acs H) x;unfold dW;have L:=eC.1 D;rw[dD]at L;have d:lD all.toList a.a=none:=by
    grind [xI]
   simp only[d];rw[bD,A5 (eC.2 (by rw[dD];omega)),bD,A5 (show Nat.blt (vB all.toList+vB all.toList) a.a=true from D)];unfold Vi;rw[Z,show ∀(x:Option xV),sB true x=x from λ_=>rfl,f,lA,B,lA,I,j,lA];exact U _ _ m
  | false=>
  rw[Na D,mA]at h;obtain⟨o,f,h⟩:=h;rw[mA]at h;obtain⟨w,b,h⟩:=h;have M:Nat.blt (vB all.toList+vB all.toList) a.a=false:=D;by_cases i:Nat.blt (vB all.toList) a.a=true
  .-- an operation that is done early
   unfold eZ at b;unfold bP at f h;rw[i]at f b h;simp only[cond_true,mA,qB,B3]at f b;obtain⟨w',B,⟨⟨hw,u⟩,Q⟩,b⟩:=b;cases b;subst hw;simp only[if_true,cond_true]at h;have F:∃v c,(iF o.op).f C (.c tm old (tG (Nat.sub a.a (Nat.succ (vB all.toList))) olds) (aI o.op)) H=.aa v c:=by
    cases K:(iF o.op).f C (.c tm old (tG (Nat.sub a.a (Nat.succ (vB all.toList))) olds) (aI o.op)) H with
    | aa v c=>simp_all
    | am g y=>exact(EW u K λq=>by cases q<;>simp[kN]).elim
    | ak g y=>exact(EW u K λq=>by cases q<;>simp[kN]).elim
    | ap v=>exact(EW u K λq=>by cases q<;>simp[kN]).elim
    | _=>rw[K]at h;cases h
   obtain⟨v,c,X⟩:=F;rw[X]at h;have h:(fN C o.type v λv=>oP C c all old olds (By N tm o.dst v) (oJ C c all N old olds (λtm=>fK C φ all N old olds J l tm c) a.b (By N tm o.dst v)) a.c)=some x:=h;rw[jS]at h;obtain⟨W,P⟩:=Us _ h.2;obtain⟨tm',j,m⟩:=Xp _ _ P;refine .a ?_;rw[sK r];show B6 C E ds (dW all old olds (a::l) C k tm R acs H) x;unfold dW;have d:lD all.toList a.a=none:=by
    grind [xI,eC,dD]
   simp only[d];rw[i,cond_true,M,cond_false];unfold Vj;rw[f,lA,B,lA,X,Q];show B6 C E ds (dN (ob (bV C c all R.n old olds a.b (By R.n tm o.dst v)) λtm'=>some ⟨⟨.d all old olds l::k,tm',R⟩,acs,c⟩) 23) x;rw[I,j,lA];exact U _ _ m
  have i:Nat.blt (vB all.toList) a.a=false:=Bool.eq_false_iff.2 i;unfold eZ at b;unfold bP at f h;rw[i]at f b h;simp only[cond_false,mA]at f b;obtain⟨w',B,b⟩:=b;cases b;simp only[cond_false]at h;have t:∀v c n,fI (⟨.d all old olds (a::l)::k,tm,R⟩:pC) v=some n →
    oP C c all old olds (By N tm o.dst v) (oJ C c all N old olds (λtm=>fK C φ all N old olds J l tm c) a.b (By N tm o.dst v)) a.c=some x->B6 C E ds (.aa ⟨n,acs,c⟩) x:=by
   intro v c n p hK;unfold fI at p;simp only[r,cond_true]at p;have p:(ob (lD all.toList a.a) λo=>some (⟨.d all old olds (⟨all.size,a.b,a.c⟩::l)::k,By R.n tm o.dst v,R⟩:pC))=some n:=p;rw[f,lA]at p;cases p;refine .a ?_;rw[sK r,I];obtain⟨W,P⟩:=Us _ hK;obtain⟨tm',j,m⟩:=Xp _ _ P;show B6 C E ds (dW all old olds (⟨all.size,a.b,a.c⟩::l) C k (By N tm o.dst v) R acs c) x;unfold dW;have:lD all.toList all.size=none:=by rw[xI];simp
   simp only[this];rw[bD,A3 λe=>by grind [eC,dD]];show B6 C E ds (Qb all old olds ⟨all.size,a.b,a.c⟩ l C k (By N tm o.dst v) R acs c) x;unfold Qb;simp only[W,I,j,lA];exact U _ _ m
  have z:∀v c n,fI (⟨.d all old olds (a::l)::k,tm,R⟩:pC) v=some n →
    (fN C o.type v λv=>oP C c all old olds (By N tm o.dst v) (oJ C c all N old olds (λtm=>fK C φ all N old olds J l tm c) a.b (By N tm o.dst v)) a.c)=some x->B6 C E ds (.aa ⟨n,acs,c⟩) x:=by
   grind [jS]
  refine .a ?_;rw[sK r];show B6 C E ds (dW all old olds (a::l) C k tm R acs H) x;unfold dW;simp only[f];unfold Vh;rw[B];simp only[];have s:∀v,∃n,fI (⟨.d all old olds (a::l)::k,tm,R⟩:pC) v=some n:=λv=>⟨⟨.d all old olds (⟨all.size,a.b,a.c⟩::l)::k,By R.n tm o.dst v,R⟩,by
   unfold fI;simp only[r,cond_true];show(ob (lD all.toList a.a) λo=>some (⟨.d all old olds (⟨all.size,a.b,a.c⟩::l)::k,By R.n tm o.dst v,R⟩:pC))=_;rw[f];rfl⟩
  cases w with
  | true=>
   simp only[if_true]at h;exact CM T h z s (Ae r) (hP _ _)
  | false=>
   simp only[F5,if_false]at h;obtain⟨n,p⟩:=s aD;show B6 C E ds (cj aD H C _ acs H) x;unfold cj;rw[p];exact t _ _ _ p h
theorem zn0    (h:(C1 live tm).a i=some v):tm.a i=some v:=by
 unfold C1 Tm.a at h;simp only[uM]at h;split at h
 case isFalse=>cases h
 rename_i b;have a:∀live:List Nat,(Of tm live).c i=some v->tm.a i=some v:=by
  intro live;induction live with
  | nil=>grind [Of,G.ah]
  | cons j live c=>
   grind [Of,G.aa]
 grind
def QS (a:sj A=false)   (h:B6 C E ds (.aa ⟨⟨A,C1 live tm,R⟩,acs,H⟩) x):B6 C E ds (.aa ⟨⟨A,tm,R⟩,acs,H⟩) x:=
 B6.b (.ah a (λ_ _=>zn0) (.aa _)) h
def Yu(i:Pv C E s f N F acs fl) (g:sj t1=false)(k:∀tm H,sW C t1 tm (RR f N F ds fl) acs H=sW C t2 tm (RR f N F ds fl) acs H)  (h:B6 C E ds (.aa ⟨⟨t2,tm,RR f N F ds fl⟩,acs,H⟩) x):B6 C E ds (.aa ⟨⟨t1,tm,RR f N F ds fl⟩,acs,H⟩) x:=by
 obtain⟨o',d,c⟩:=h;refine⟨o',?_,c⟩;generalize a:(.aa ⟨⟨t2,tm,RR f N F ds fl⟩,acs,H⟩:dG)=o at d
 induction d generalizing tm with
 | aa=>
  subst a;exact(i.c _ _ _ _ _ c).elim
 | ac h e=>
  subst a;refine .ac ?_;rw[sK rfl,k,<- sK rfl];exact h
 | ah j b h e=>
  cases a;exact .ah g b (e c rfl)
theorem zbi     : nX (some (.exit i)) C ⟨t1,tm,R⟩ acs H=nX (some (.exit i)) C ⟨t2,tm,R⟩ acs H:=by
 obtain⟨a,b,c,d,e,F⟩:=R;unfold nX;cases F<;>rfl
theorem FI(a:Pv C E s f N F acs fl) {y:yF}(b:∀j,y.j=some j->Nat.beq j i=false)  (h:B6 C E ds (.aa ⟨⟨.a (.exit i)::k,tm,RR f N F ds fl⟩,acs,H⟩) x):B6 C E ds (.aa ⟨⟨.a (.exit i)::y::k,tm,RR f N F ds fl⟩,acs,H⟩) x:=by
 refine Yu a rfl (λtm H=>?_) h;show Gl i C (y::k) tm (RR f N F ds fl) acs H=Gl i C k tm (RR f N F ds fl) acs H
 grind [iX,Gl,zbi]
theorem XA(q:cU C φ)(o:Pv C E s f N none acs fl){B:Kt}(i:Pp C E s f N none acs B k fl){m:Operand}{ps:Array Nat}{a b:Code}  (h:nV C φ f N B m ps.toList a b tm H=some x):B6 C E ds (.aa ⟨⟨.a (.rangeFunc m ps a b)::k,tm,RR f N none ds fl⟩,acs,H⟩) x:=by
 unfold nV at h;rw[mA]at h;obtain⟨v,M,h⟩:=h;rw[mA]at h;obtain⟨⟨qf,q1,q2⟩,h2,h⟩:=h
 cases qf with
 | ac l=>cases h
 | aa g=>
  simp only[qB,mA]at h;obtain⟨D,y,P,I,r,Q,R,z,j,J,d,S,F,n⟩:=h;have I:y.1.p=false:=by simp_all
  have J:z.1.p=false:=by simp_all
  have hp:C.c.c g=none:=by
   cases U:C.c.c g with
   | none=>rfl
   | some u=>rw[U]at D;cases D
  obtain⟨L,he,r0⟩:=q.a _ _ _ _ P;obtain⟨K,r1,A⟩:=r0 (⟨.e (H.a+1)::k,tm,RR f N none (⟨none,H.a,[]⟩::ds) fl⟩::acs);unfold uT at A;rw[I,A3 (by simp)]at A;refine .a ?_;rw[sK rfl];show B6 C E ds (Qa m ps a b C k tm (RR f N none ds fl) acs H) x;have p:Eh C (H.a+1) v=some L:=by
   grind [Eh,lA]
  unfold Qa;rw[M,lA];simp only[p,lA];refine B6.b (r1.d (.ac ?_)) (?_:B6 C E ds (.aa ⟨⟨.g (H.a+1)::k,tm,RR f N none (⟨none,H.a,[]⟩::ds) fl⟩,acs,y.2⟩) x)
  .rw[zin A (c':=⟨.g (H.a+1)::k,tm,RR f N none (⟨none,H.a,[]⟩::ds) fl⟩) rfl];exact .aa _
  refine .a ?_;rw[sK rfl];show B6 C E ds (Qc (H.a+1) C k tm (RR f N none (⟨none,H.a,[]⟩::ds) fl) acs y.2) x;unfold Qc;rw[Q,lA,R];have t:B6 C E (⟨none,H.a,[]⟩::ds) (.aa ⟨⟨(match r.a with | some c=>.a c::k | none=>k),tm,RR f N none (⟨none,H.a,[]⟩::ds) fl⟩,acs,D3 y.2 (H.a+1) r⟩) z:=by
   unfold Ge at j;split at j
   .rename_i e;rw[e];exact i.a _ _ _ _ (o.a rfl _) j
   .rename_i e;rw[e];exact i.c _ _ _ _ (o.a rfl _) j k
   grind
  obtain⟨o',W,X⟩:=t;have T:Bh z.2 H.a=some (some []):=by
   rw[S]
   cases d with
   | none=>cases F
   | some l=>cases l with | nil=>rfl | cons _ _=>cases F
  obtain⟨w,Z,k4⟩:=o.d rfl _ _ _ _ J X T;cases n;exact⟨w,W.d Z,k4⟩
theorem Ws{c:Type}{a b:List c}(h:oE a b=[]):a=[]/\b=[]:=by grind [wI,List.append_eq_nil_iff]
theorem Zf(w:cU C φ)(q:Pv C E s f N F acs fl):∀(c:bC) (B:Kt) (k:List yF),(F=none\/nM c=[])->Pp C E s f N F acs B k fl->∀ds x tm H,s x->wE C φ f N c B tm H=some x->B6 C E ds (.aa ⟨⟨.a (bE c)::k,tm,RR f N F ds fl⟩,acs,H⟩) x:=by
 intro c;induction c with
 | ah=>
  intro B k _ g ds x tm H l h;refine .a ?_;rw[sK rfl];exact g.a _ _ _ _ l h
 | aa id o d=>
  intro B k _ g ds x tm H l h;refine .a ?_;rw[sK rfl]
  cases d with
  | false=>exact za6 w rfl rfl (λA tm M=>q.b _ _ _ _ l M) (λtm H h=>g.a _ _ _ _ l h) _ _ _ h
  | true=>
   have h:(ob (ob (C.e.c f) λt=>t.c id) λp=>sB (jY o p) (oJ C H o N tm.b p.b (λtm'=>fK C φ o N tm.b p.b B.c p.a tm' H) p.c tm.b))=some x:=h;rw[mA]at h;obtain⟨p,I,h⟩:=h;rw[qB]at h;obtain⟨tm',K,L⟩:=Xp _ _ h.2;show B6 C E ds (Qe id o C k tm (RR f N F ds fl) acs H) x;unfold Qe;rw[I,lA,h.1,K];exact WB w rfl rfl (λA tm M=>q.b _ _ _ _ l M) (λtm H h=>g.a _ _ _ _ l h) _ _ _ L
 | ak a b y z=>
  intro B k n g ds x tm H l h;have u:F=none\/nM a=[]:=n.imp id λe=>(Ws e).1;have v:F=none\/nM b=[]:=n.imp id λe=>(Ws e).2;refine Yu q (t1:=.a (bE (.ak a b))::k) rfl (t2:=.a (bE a)::.a (bE b)::k) (λ_ _=>rfl) ?_;exact y ⟨wE C φ f N b B,B.a,B.b⟩ _ u ⟨λds x tm H l h=>z _ _ v g ds x tm H l h,λds x i tm H l h=>FI q (λ_ e=>by cases e) (g.b _ _ _ _ _ l h),g.c⟩ ds x tm H l h
 | ap c a b y z=>
  intro B k n g ds x tm H l h;have u:F=none\/nM a=[]:=n.imp id λe=>(Ws e).1;have v:F=none\/nM b=[]:=n.imp id λe=>(Ws e).2;have h:(ob (ob (ev c (.b tm)) O.r) λt=>Bool.rec (motive:=λ_=>wC) (wE C φ f N b B tm H) (wE C φ f N a B tm H) t)=some x:=h;rw[mA]at h;obtain⟨t,I,h⟩:=h;refine .a ?_;rw[sK rfl];show B6 C E ds (Qf c (bE a) (bE b) C k tm (RR f N F ds fl) acs H) x;unfold Qf;rw[I]
  cases t with
  | true=>exact y _ _ u g _ _ _ _ l h
  | false=>exact z _ _ v g _ _ _ _ l h
 | am id c D=>
  intro B k n g ds x tm H l h;refine .a ?_;rw[sK rfl];have S:∀ds x tm H,s x->B.c tm H=some x->B6 C E ds (.aa ⟨⟨.f id::k,tm,RR f N F ds fl⟩,acs,H⟩) x:=by
   intro ds x tm H l h;refine .a ?_;rw[sK rfl];exact g.a _ _ _ _ l h
  refine D ⟨B.c,λi tm H=>Bool.rec (motive:=λ_=>wC) (B.a i tm H) (B.c tm H) (Nat.beq id i),B.b⟩ _ n ⟨S,λds x i tm H l h=>?_,g.c⟩ ds x tm H l h;dsimp only at h
  cases J:Nat.beq id i with
  | true=>
   rw[J]at h;refine .a ?_;rw[sK rfl];show B6 C E ds (Gl i C (.f id::k) tm (RR f N F ds fl) acs H) x;have e:iX i (.f id::k)=some k:=by
    show(bif Nat.beq id i then some k else iX i k)=_
    grind
   unfold Gl;rw[e];exact g.a _ _ _ _ l h
  | false=>
   rw[J]at h;exact FI q (λj e=>by cases e;exact J) (g.b _ _ _ _ _ l h)
 | ac live c D=>
  intro B k n g ds x tm H l h;obtain⟨m,Q⟩:=vz h;have R:∀(m:Nat) ds x tm H,s x->(Nat.rec (motive:=λ_=>Tm->sA->wC) (λ_ _=>none) (λ_ r tm H=>wE C φ f N c ⟨r,B.a,B.b⟩ (C1 live.b tm) H) m:Tm->sA->wC) tm H=some x->B6 C E ds (.aa ⟨⟨.i (bE c)::k,tm,RR f N F ds fl⟩,acs,H⟩) x:=by
   intro m;induction m with
   | zero=>simp_all
   | succ m P=>
    intro ds x tm H l h;refine QS (live:=live.b) rfl (.a ?_);rw[sK rfl];exact D ⟨_,B.a,B.b⟩ _ n ⟨P,λds x i tm H l h=>FI q (λ_ e=>by cases e) (g.b _ _ _ _ _ l h),g.c⟩ _ _ _ _ l h
  exact Yu q (t1:=.a (bE (.ac live c))::k) rfl (t2:=.i (bE c)::k) (λ_ _=>rfl) (R m _ _ tm H l Q)
 | au id=>exact λB k _ g ds x tm H l h=>g.b _ _ _ _ _ l h
 | ax=>exact λB k _ g ds x tm H l h=>g.c _ _ _ _ l h k
 | aw live c D=>exact λB k n g ds x tm H l h=>QS rfl (D B k n g _ _ _ _ l h)
 | aj i W U X T c D=>
  intro B k n g ds x tm H l h;rcases n with rfl | e
  .exact XA w q g h
  .cases e
end
end
end Go.Am
