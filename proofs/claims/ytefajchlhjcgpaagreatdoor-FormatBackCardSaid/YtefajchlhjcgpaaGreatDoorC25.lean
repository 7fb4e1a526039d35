/- The parser: lines; plans. -/
import Derived.Test.YtefajchlhjcgpaaGreatDoorC24
set_option linter.all false
noncomputable section
set_option maxRecDepth 100000
namespace Go.Proofs
open Go Go.Am
variable {q:G vA}{z:List (List O)}{R:List D}{H:O}{X:List oF}{L:Type}{w:List Nat}{K:O->T}{I:lB}{b:Nat}
variable [fC]
section
variable {tk:List xD}
def XK:∀k,Up (tJ tk k):=by
 intro k;induction k with
 | zero=>intro n a c h;cases h
 | succ k b=>exact OO b
def QL:Up (Ck tk):=QN (XK 101)
def Ub{f:Bool}:Up (F9 tk f):=fF Kq λ_=>fF (SD _ _) λ_=>qN
def zhb:Up (El tk):=by
 intro n a c h;unfold El at h;have b:∀m,n<=m->(if (!kL tk 2 m||sK (fN tk m))=true then(.er 120 m:PR Int)else match nP (fN tk m) (By tk pL n) (-2147483648) 2147483647 with | none=>.er 121 m | some i=>.ok i (m+1))=.ok a c->n<=c:=by
  intro m d h;split at h
  .cases h
  .split at h<;>cases h;omega
 refine b _ ?_ h;split<;>omega
def CL{e:Bool}:Up (fb tk e):=by
 have g:∀a b d,Up (λf=>(fun(c:Bool)=>(wM tk 2 (if c then f+1 else f)).c λs k=>(.ok (⟨a,b,d,kP s c⟩:rG) k:PR rG)) (By tk pL f)):=by
  intro a b d n x l h;obtain⟨s,m,i,j⟩:=PR.j h;have:=Vq _ _ _ i;cases j;split at this<;>omega
 refine fF zhb λa=>?_
 cases e with
 | true=>exact fF zhb λb=>fF mQ λ_=>fF Ou λd=>fF mQ λ_=>g a b d
 | false=>exact fF qN λb=>fF mQ λ_=>fF Ou λd=>fF mQ λ_=>g a b d
def GI:Up (Ig tk):=by
 refine fF Kq λa=>fF Kq λb=>fF mQ λ_=>fF Ou λf=>fF mQ λ_=>?_;have d:Up (λc=>(if By tk Ji c then .ok 65536 (c+1)else nR tk c:PR Int)):=by
  intro n a e h;dsimp only at h;split at h
  .cases h;omega
  .exact Ou _ _ _ h
 refine fF d λu=>fF mQ λ_=>fF Ou λk=>?_;intro n x e h;dsimp only at h;split at h
 .cases h;omega
 .exact fF mQ (λ_=>fF QL λx=>fF mQ λ_=>fF QL λy=>qN (a:=(⟨a,b,f,u,k,false,x,y⟩:nD))) _ _ _ h
def zc2:Up (Vs tk):=by
 refine fF Kq λw n a b h=>?_;split at h
 .cases h;omega
 .exact fF mQ (λ_=>qN (a:=(⟨w,false,[]⟩:mE))) _ _ _ h
end
def Ly(tf:G vA)(T:List mE)(z:List (List O))(R:List D)(H:O):Prop:=
 (T=[]/\z=[]/\R=[]/\H=.g)\/∃A x a,T=A++[x]/\z=a++[[.h x.b,.d x.c,H]]/\wD tf (A.map mE.d) a/\R=x.a.map rG.d
theorem Ly.a{tf:G vA}{T:List mE}   (h:Ly tf T z R H)(f:zB tf q):Ly q T z R H:=by
 rcases h with h | ⟨A,x,a,b,c,d,e⟩
 .exact .inl h
 .exact .inr ⟨A,x,a,b,c,wD.f f _ _ d,e⟩
theorem Ly.c{tf:G vA}{T:List mE}   (h:Ly tf T z R H):z.length=T.length:=by
 rcases h with⟨rfl,rfl,_⟩ | ⟨A,x,a,rfl,rfl,b,c⟩
 .rfl
 .have:=b.g
  simp_all
def yO(e:Nat)(d b c H a:O)(D:List D)(z:List (List O))(R C:List Am.D):List oF:=
 [oC e none [d,b,c,a],iD Y.a 3 D b,rJ Y.a 3 z c,iD Y.a 7 R H,iD Y.a 24 C a]
def Be(P:wK)(c:Nat)(p:rD)(tf t:G vA)(n:Nat):Prop:=
 ∃b d H a z R,Ly tf p.a z R H/\St (P.c (yO c (.h p.e) b d H a (p.c.map eE.d) z R (p.b.map nD.d)++P.L)) tf t n 0/\p.c.length<=n/\p.a.length<=n/\R.length<=n/\p.b.length<=n
def xN (P:wK)(d:Nat)(tf:G vA)(r:PR rD)(Q E:lB):Prop:=
 match r with
 | .ok p n=>∀q a,zB tf q->Be P d p q a n->Q (.p []) a
 | .er e i=>∀q a c b,zB tf q->St P q a c b->E (ud P e i) a
section
variable {P:wK}{tf t:G vA}{n d p:Nat}{Q E:lB}{J W:yG}
theorem xN.g{r:PR rD}(h:xN P p tf r Q E) (g:zB tf q):xN P p q r Q E:=by
 cases r with
 | ok a n=>exact λb f c d=>h b f (g.d c) d
 | er e i=>exact λb f k j c d=>h b f k j (g.d c) d
theorem xN.c  {c:G vA->L->O->Prop}{r:PR L}{f:L->Nat->PR rD}{m:lB}(h:xN P p tf (r.c f) Q E)
  (k:∀a j b t1 v,r=.ok a j->zB tf b->St (P.c (X++P.L)) b t1 j 0->c b a v->xN P p b (f a j) Q E->m v t1):Ok (P.c (X++P.L)) c 0 tf r m E:=by
 cases r with
 | ok a n=>exact λq l v d g s=>k a n q l v rfl d g s (xN.g h d)
 | er e i=>exact λq l t o d g=>h q l t o d g.u
def xN.l   {f:Unit->Nat->PR rD} (i:St (P.c (X++P.L)) tf t n 0)(h:xN P p tf ((gE P.a w n).c f) I E)
  (k:∀d b t1,n<=d->zB tf b->St (P.c (X++P.L)) b t1 d 0->xN P p b (f () d) I E->lA Y.a (pF Y F eC aF E) J (K (.p [])) t1 Q) :
  lA Y.a (pF Y F eC aF E) J (.h (sD Y 62 1 [(0,.h w)]) λa=>.c 95 [.j P.b 0,a] K) t Q:=by
 refine Lj (P:=P.c (X++P.L)) i ?_;refine h.c λa d b t1 v l e c g j=>?_;cases g;exact k d b t1 (mQ _ _ _ l) e c j
def Un  {c Z:T}(h:St (P.c (X++P.L)) tf t n d)(e:By P.a w n=true->∀t',St (P.c (X++P.L)) tf t' (n+1) d->lA Y.a (pF Y F eC aF E) J c t' Q)(f:By P.a w n=false->∀t',St (P.c (X++P.L)) tf t' n d->lA Y.a (pF Y F eC aF E) J Z t' Q) :
  lA Y.a (pF Y F eC aF E) J (.c 78 [.j P.b 0,.h w] λa=>.q a λb=>.a b c Z) t Q:=lR (P:=P.c (X++P.L)) h e f
def xN.j  {f:List Nat->Nat->PR rD} (i:St (P.c (X++P.L)) tf t n 0)(h:xN P p tf ((vO P.a n).c f) I E)
  (k:∀w d b t1,n<=d->zB tf b->St (P.c (X++P.L)) b t1 d 0->xN P p b (f w d) I E->lA Y.a (pF Y F eC aF E) J (K (.h w)) t1 Q) :
  lA Y.a (pF Y F eC aF E) J (.c 96 [.j P.b 0] K) t Q:=by
 refine aA ?_;rw[pE 96];refine Ko (P:=P.c (X++P.L)) i (h.c λa d b t1 v l e c g j=>?_);cases g;exact k a d b t1 (Kq _ _ _ l) e c j
def gF(k:Nat)(a:k=0\/k=1\/k=2\/k=3)  : iB Y 52 k (.j b 0)=some (.j b k):=by
 rcases a with rfl | rfl | rfl | rfl<;>kernel_rfl
def gT(k:Nat)(a:k=1\/k=2){o:Nat}:iB Y 92 k (.j b o)=some (.j b (o+k)):=by
 rcases a with rfl | rfl<;>kernel_rfl
def KN{T el sz j g:Nat}{y:jD}{A B:List oF}{l:List D}{pc zs:List O}{v:O} {rd:G vA->L->O->Prop}{r:PR L}{k:L->Nat->PR rD}{dd:L->D}{fc:zH->List O}{args:List O}
  (hT:eS Y T el sz) (U:Y.b.c T=some y) (x:y.a.h=false) (N:y.b=1) (hs:sz<1000) (f:j=0\/j=1\/j=2\/j=3)
  (M:∀tf a w,rd tf a w->∃cs,w=.i cs/\RD tf (dd a) cs/\nK zs (.i cs)=some (AN cs)/\fc (AN cs)=cs/\cs.length=sz)
  (S:St (P.c ((oC p none pc::(A++iD Y.a sz l v::B))++P.L)) tf t n 0) (C:pc[j]?=some v) (hl:l.length+1<400000)
  (hW:∀a m R,pF Y F eC aF E g a m R=cK Y F E g a m R)
  (e:∀I,Ok (P.c ((oC p none pc::(A++iD Y.a sz l v::B))++P.L)) rd 0 tf r I E->cK Y F E g args t I)
  (hk:xN P p tf (r.c k) Q E)
  (hQ:∀a d q t' v',r=.ok a d->zB tf q->St (P.c ((oC p none (pc.set j v')::(A++iD Y.a sz (l++[dd a]) v'::B))++P.L)) q t' d 0->xN P p q (k a d) Q E->Q (.p []) t') :
  lA Y.a (pF Y F eC aF E) J (.d (zR (.j p 0)) λa7=>.d (iB Y 52 j a7) λu=>.e (λm=>oA Y T ⟨0,m⟩ u) λW=>.c g args λo=>.o zs o λX=>
   .e (λm=>oA Y T ⟨0,m⟩ u) λs=>.a (A8 10 s W) (Nl T (.j p 0) (iB Y 52 j) u W (fc X)) .g) t Q:=by
 have hc:xC t p none pc:=S.g.d (A:=[pH P n 0]);refine uA nl (uA (gF j f) (fB (hc.f U x C) (aA ?_)));rw[hW];refine e _ (hk.c λa d c i w hr K b h H=>?_);obtain⟨cs,rfl,c1,c2,c3,c4⟩:=M _ _ _ h;have z:xC i p none pc:=b.g.d (A:=[pH P d 0]);have Z:xB Y.a c i ([pH P d 0]++oC p none pc::(A++iD Y.a sz l v::(B++P.L))):=by
  have:=b.g;change xB Y.a c i (pH P d 0::((oC p none pc::(A++iD Y.a sz l v::B))++P.L))at this;simpa using this
 have hv:oU Y.a c i sz l v:=Z.s (iD Y.a sz l v) (by simp);refine aC c2 (fB (z.f U x C) (tA hv.g ?_));rw[c3];refine zfk hT U x N c4 hs nl (gF j f) Z C c1 hl λt2 v' o2=>?_;refine hQ a d c t2 v' hr K ⟨b.p,?_,b.f,b.m,b.a,b.e⟩ H;show xB Y.a c t2 (pH P d 0::((oC p none (pc.set j v')::(A++iD Y.a sz (l++[dd a]) v'::B))++P.L));simpa using o2
end
end Go.Proofs
namespace Go.Proofs
open Go Go.Am
section
variable {p:rD}{x:mE}{g:O}
variable [fC]
section
variable {P:wK}{tf t:G vA}{n d f:Nat}{Q E:lB}{J W:yG}
def RF{b:Bool} (W:Be P f p tf t n)(N:∀a k,F9 P.a b n=.ok a k->p.c.length+1<=k)
  (T:xN P f tf ((F9 P.a b n).c λd k=>.ok ⟨p.e,p.c++[d],p.a,p.b⟩ k) Q E) :
  lA Y.a (pF Y F eC aF E) J (.d (zR (.j f 0)) λH=>.d (iB Y 52 1 H) λq=>.e (λm=>oA Y 48 ⟨0,m⟩ q) λB=>.c 152 [.j P.b 0,.d b] λl=>.o [.h [],.e .u8 0,.d false] l λX=>
   .e (λm=>oA Y 48 ⟨0,m⟩ q) λo=>.a (A8 10 o B) (Nl 48 (.j f 0) (iB Y 52 1) q B [.h (X.s 0),.e .u8 (X.i 1),.d (X.b 2)]) .g) t Q:=by
 obtain⟨C,z,g,r,e,R,S,c,b1,I,K,L⟩:=W;have U:=c.f;have x:=c.m;refine KN (A:=[]) (fc:=λX=>[.h (X.s 0),.e .u8 (X.i 1),.d (X.b 2)]) el48 S4 rfl rfl (by omega) (by omega) (dd:=eE.d) (rd:=Y9) ?_ c rfl (by rw[C4];have:(P.c (yO f (.h p.e) C z g r (p.c.map eE.d) e R (p.b.map nD.d)++P.L)).a=P.a:=rfl;rw[this]at U x;omega) (λ_ _ _=>by rw[pE 152]) (λQ' s=>kx (P:=P.c (yO f (.h p.e) C z g r (p.c.map eE.d) e R (p.b.map nD.d)++P.L)) c s) T ?_
 .rintro tf a w ⟨M,rfl,h⟩;have:=Ng h;exact⟨M,rfl,h,kN h rfl,by rw[this];rfl,by rw[this];rfl⟩
 .intro a k y Z v' D i j v;have u:=Ub _ _ _ D;refine v y Z (zB.f _) ⟨v',z,g,r,e,R,S.a i,?_,by simpa using N _ _ D,Nat.le_trans I u,Nat.le_trans K u,Nat.le_trans L u⟩;simpa[yO]using j
def zv6 (U:Be P f p tf t n)(M:∀a j,Ig P.a n=.ok a j->p.b.length+1<=j)
  (S:xN P f tf ((Ig P.a n).c λc j=>.ok ⟨p.e,p.c,p.a,p.b++[c]⟩ j) Q E) :
  lA Y.a (pF Y F eC aF E) J (.d (zR (.j f 0)) λH=>.d (iB Y 52 3 H) λr=>.e (λm=>oA Y 50 ⟨0,m⟩ r) λz=>.c 154 [.j P.b 0] λo=>.o [(.h []),(.h []),(.e .i64 0),(.e .i64 0),(.e .i64 0),(.d false),(.e .u8 0),(.h []),(.e .u8 0),(.d false),.g,(.d false),.g,(.e .i64 0),.g,(.e .u8 0),(.h []),(.e .u8 0),(.d false),.g,(.d false),.g,(.e .i64 0),.g] o λX=>
   .e (λm=>oA Y 50 ⟨0,m⟩ r) λq=>.a (A8 10 q z) (Nl 50 (.j f 0) (iB Y 52 3) r z [(.h (X.s 0)),(.h (X.s 1)),(.e .i64 (X.i 2)),(.e .i64 (X.i 3)),(.e .i64 (X.i 4)),(.d (X.b 5)),(.e .u8 (X.i 6)),(.h (X.s 7)),(.e .u8 (X.i 8)),(.d (X.b 9)),(X.v 10),(.d (X.b 11)),(X.v 12),(.e .i64 (X.i 13)),(X.v 14),(.e .u8 (X.i 15)),(.h (X.s 16)),(.e .u8 (X.i 17)),(.d (X.b 18)),(X.v 19),(.d (X.b 20)),(X.v 21),(.e .i64 (X.i 22)),(X.v 23)]) .g) t Q:=by
 obtain⟨k,l,g,C,d,R,N,b,I,K,L,b4⟩:=U;have T:=b.f;have x:=b.m;refine KN (A:=[iD Y.a 3 (p.c.map eE.d) k,rJ Y.a 3 d l,iD Y.a 7 R g]) (B:=[]) (fc:=λX=>[(.h (X.s 0)),(.h (X.s 1)),(.e .i64 (X.i 2)),(.e .i64 (X.i 3)),(.e .i64 (X.i 4)),(.d (X.b 5)),(.e .u8 (X.i 6)),(.h (X.s 7)),(.e .u8 (X.i 8)),(.d (X.b 9)),(X.v 10),(.d (X.b 11)),(X.v 12),(.e .i64 (X.i 13)),(X.v 14),(.e .u8 (X.i 15)),(.h (X.s 16)),(.e .u8 (X.i 17)),(.d (X.b 18)),(X.v 19),(.d (X.b 20)),(X.v 21),(.e .i64 (X.i 22)),(X.v 23)]) el50 S5 rfl rfl (by omega) (by omega) (dd:=nD.d) (rd:=ib) ?_ b rfl (by rw[C4];have:(P.c (yO f (.h p.e) k l g C (p.c.map eE.d) d R (p.b.map nD.d)++P.L)).a=P.a:=rfl;rw[this]at T x;omega) (λ_ _ _=>by rw[pE 154]) (λQ' s=>zjc (P:=P.c (yO f (.h p.e) k l g C (p.c.map eE.d) d R (p.b.map nD.d)++P.L)) b s) S ?_
 .rintro tf a w ⟨cs,rfl,h⟩;obtain⟨a1,a2,a3,a4,a5,a6,rfl,_⟩:=Nh h;exact⟨_,rfl,h,kN h (nD.k _),rfl,rfl⟩
 .intro a j y W Z D e i v;have u:=GI _ _ _ D;refine v y W (zB.f _) ⟨k,l,g,Z,d,R,N.a e,?_,Nat.le_trans I u,Nat.le_trans K u,Nat.le_trans L u,by simpa using M _ _ D⟩;simpa[yO]using i
def zln {A:List mE} {n4:Int}(hp:Be P f p tf t n)(D:p.a=A++[x])(au:n4=((A.length+1:Nat):Int))(h0:∀a K,fb P.a x.c n=.ok a K->x.a.length+1<=K)
  (hk:xN P f tf ((fb P.a x.c n).c λr K=>.ok ⟨p.e,p.c,xW p.a r,p.b⟩ K) Q E) :
  lA Y.a (pF Y F eC aF E) J (.d (zR (.j f 0)) λab=>.d (iB Y 52 2 ab) λac=>.e (λm=>oA Y 49 ⟨0,m⟩ ac) λad=>.d (zC Y 49 ad (.e .i64 (cA .i64 (n4-1)))) λB=>.d (zR B) λae=>.d (iB Y 92 2 ae) λC=>.e (λm=>oA Y 90 ⟨0,m⟩ C) λN=>.d (zR B) λaf=>.d (iB Y 92 1 af) λag=>.e (λm=>oA Y 4 ⟨0,m⟩ ag) λah=>.q ah λak=>.c 153 [.j P.b 0,.d ak] λai=>
   .o [(.e .i64 0),(.e .i64 0),(.e .i64 0),(.d false),.g,(.d false),.g] ai λj=>
   .e (λm=>oA Y 90 ⟨0,m⟩ C) λaj=>.a (A8 10 aj N) (Nl 90 B (iB Y 92 2) C N [(.e .i64 (j.i 0)),(.e .i64 (j.i 1)),(.e .i64 (j.i 2)),(.d (j.b 3)),(j.v 4),(.d (j.b 5)),(j.v 6)]) .g) t Q:=by
 obtain⟨q,tv,g,s,c,R,U,d,b1,b2,b3,b4⟩:=hp;rcases U with⟨U,_⟩ | ⟨A',x',o,U,l,a7,hR⟩
 .rw[U]at D;simp at D
 obtain⟨rfl,e⟩:=List.append_inj' (D.symm.trans U) rfl;cases e;have hl:=d.f;have a1:=d.m;have Z:o.length=A.length:=by simpa using a7.g
 have am:LK (.b 3) Y.a t 3 c tv:=d.g.s (rJ Y.a 3 c tv) (by simp[yO,wK.c]);have y:c[A.length]?=some [.h x.b,.d x.c,g]:=by rw[l,<- Z];simp
 obtain⟨b,al,X,aw⟩:=LK.a OK am y;subst al;have av:A.length<100000000:=by
  have:A.length<p.a.length:=by rw[D];simp
  change n<=P.a.length at a1;change P.a.length<300000 at hl;omega
 have hc:xC t f none [.h p.e,q,.m b 0 c.length c.length,s]:=d.g.d (A:=[pH P n 0]);obtain⟨_,k,z⟩:=xB.au (A:=[pH P n 0,oC f none [.h p.e,q,.m b 0 c.length c.length,s],iD Y.a 3 (p.c.map eE.d) q]) d.g;have aa:St (P.c ([oC f none [.h p.e,q,.m b 0 c.length c.length,s],iD Y.a 3 (p.c.map eE.d) q,oC b (some (.b 3)) c.flatten,iD Y.a 7 R g,iD Y.a 24 (p.b.map nD.d) s]++P.L)) tf t n 0:=⟨d.p,z,d.f,d.m,d.a,d.e⟩;have W:xC t b (some (.b 3)) c.flatten:=z.d
 have g1:=eY k A.length 1 _ (.d x.c) y rfl;have g2:=eY k A.length 2 _ g y rfl;have e4:cA .i64 (n4-1)=(A.length:Int):=by rw[au,A2 (by omega) (by omega)];omega
 refine uA nl (uA (gF 2 (by omega)) (fB (hc.f Jt rfl rfl) (uA (by rw[e4];exact X) (uA nl (uA (gT 2 (by omega)) (fB (W.f Js rfl g2) (uA nl (uA (gT 1 (by omega)) (fB (W.f yr rfl g1) (iC (aA ?_)))))))))));rw[pE 153];refine ky (P:=P.c ([oC f none [.h p.e,q,.m b 0 c.length c.length,s],iD Y.a 3 (p.c.map eE.d) q,oC b (some (.b 3)) c.flatten,iD Y.a 7 R g,iD Y.a 24 (p.b.map nD.d) s]++P.L)) aa (hk.c λr K L t1 w hr a6 h a8 aq=>?_)
 obtain⟨S,rfl,I⟩:=a8;obtain⟨u,v,rfl,_⟩:=Nf I;have o1:xB Y.a L t1 ([pH P K 0,oC f none [.h p.e,q,.m b 0 c.length c.length,s],iD Y.a 3 (p.c.map eE.d) q]++oC b (some (.b 3)) c.flatten::([]++iD Y.a 7 R g::(iD Y.a 24 (p.b.map nD.d) s::P.L))):=h.g;have ap:xC t1 b (some (.b 3)) c.flatten:=o1.d;have hv:oU Y.a L t1 7 R g:=o1.s (iD Y.a 7 R g) (by simp);refine aC (kN I (rG.g _)) (fB (ap.f Js rfl g2) (tA hv.g ?_))
 have ao:R.length=x.a.length:=by rw[hR,C4]
 refine zfk el90 Js rfl rfl rfl (by omega) nl (gT 2 (by omega)) o1 g2 I (by
  change n<=P.a.length at a1;change P.a.length<300000 at hl;omega) λt2 M o2=>?_
 have ef:c.flatten.set (A.length*3+2) M=(o++[[.h x.b,.d x.c,M]]).flatten:=by
  have hj:=(F6.1 g2).1;rw[<- LL hj,zno k y (by show 2+1<=3;omega)];congr 1;rw[l,zli Z];rfl
 rw[ef]at o2;have H:∀(i:Nat) S,(o++[[.h x.b,.d x.c,M]])[i]?=some S->S.length=3:=by
  intro i S y;rw[List.getElem?_append]at y;split at y
  .rename_i ar;exact k i S (by rw[l,mu ar];exact y)
  .exact Kl (sz:=3) rfl _ _ y
 have o3:=xB.ax H o2;have T:(o++[[O.h x.b,.d x.c,M]]).length=c.length:=by rw[l];simp
 rw[T]at o3;have hd:=CL _ _ _ hr;refine aq L t2 (zB.f _) ⟨q,_,M,s,o++[[.h x.b,.d x.c,M]],R++[r.d],.inr ⟨A,⟨x.b,x.c,x.a++[r]⟩,o,?_,rfl,wD.f a6 _ _ a7,by rw[hR];simp⟩,⟨h.p,o3,h.f,h.m,h.a,h.e⟩,Nat.le_trans b1 hd,?_,by have:=h0 _ _ hr;simpa[ao]using this,Nat.le_trans b4 hd⟩
 .show xW p.a r=_;rw[D];simp[xW]
 .show(xW p.a r).length<=K;rw[D];simp[xW];rw[D]at b2;simp at b2;omega
def zkv{t:G vA}  (h:bA t 7 (x.a.map rG.d) g):RD t x.d [.h x.b,.d x.c,g]:=
 xK.2 ⟨[[.h x.b],[.d x.c],[g]],rfl,kD.2 ⟨_,_,rfl,xP.2 rfl,kD.2 ⟨_,_,rfl,Cy.2 rfl,kD.2 ⟨_,_,rfl,kO.2 ⟨_,rfl,h⟩,pG.2 rfl⟩⟩⟩⟩
def zc1{T:List mE}{b:List (List O)}{R:List D} {a:G vA}(h:Ly tf T b R g)(c:zB tf a)(f:bA a 7 R g):wD a (T.map mE.d) b:=by
 rcases h with⟨rfl,rfl,_⟩ | ⟨A,x,d,rfl,rfl,e,rfl⟩
 .exact pG.2 rfl
 .rw[List.map_append];exact wD.q (wD.f c _ _ e) (kD.2 ⟨_,_,rfl,zkv f,pG.2 rfl⟩)
def IG {w:List Nat}{e:Bool}(Z:Be P f p tf t n)(N:p.a.length+1<=n)
  (x:xN P f tf (.ok ⟨p.e,p.c,p.a++[⟨w,e,[]⟩],p.b⟩ n) Q E):rI E 97 23 [.j f 0,.h w,.d e] t Q:=by
 obtain⟨m,q,g,l,i,R,H,c,K,L,F,M⟩:=Z;refine j97_23 ?_;unfold zo7 sC;have X:=c.f;have y:=c.m;change n<=P.a.length at y;change P.a.length<300000 at X;have W:xC t f none [.h p.e,m,q,l]:=c.g.d (A:=[pH P n 0]);obtain⟨D,d,o1,z⟩:=xB.g (A:=[pH P n 0,oC f none [.h p.e,m,q,l],iD Y.a 3 (p.c.map eE.d) m,rJ Y.a 3 i q]) (B:=iD Y.a 24 (p.b.map nD.d) l::P.L) c.g;refine uA nl (uA (gF 2 (by omega)) (fB (W.f Jt rfl rfl) (tA rfl (kC λb J u=>?_))))
 obtain⟨t1,S,T,h3,U⟩:=LS (cs:=[.h w,.d e,.g]) ox rfl (by omega) J;refine⟨_,_,S,kC λL s h=>?_⟩;have o2:=o1.z J U;obtain⟨t2,r,k1,k2,k3,o⟩:=xB.ap (A:=[pH P n 0,oC f none [.h p.e,m,q,l],iD Y.a 3 (p.c.map eE.d) m]) (B:=iD Y.a 24 (p.b.map nD.d) l::P.L) ox o2 T (by intro a I;simp at I;rcases I with rfl | rfl | rfl<;>rfl) (by rw[H.c];omega) s h;refine⟨_,_,k1,uA nl (uA (gF 2 (by omega)) (kC λF _ _=>?_))⟩
 obtain⟨t3,m1,C⟩:=xB.a (A:=[pH P n 0]) (j:=2) (v:=r) k2 Jt (by rw[o];rfl) (by rw[o];show 2+1<=4;omega) (by rw[o];simpa[oD]using k3);rw[o]at C;refine⟨_,_,m1 F,?_⟩;have o4:=xB.ac (A:=[pH P n 0,oC f none [.h p.e,m,r,l],iD Y.a 3 (p.c.map eE.d) m,rJ Y.a 3 (i++[[.h w,.d e,.g]]) r]) (B:=iD Y.a 24 (p.b.map nD.d) l::P.L) (o':=iD Y.a 7 [] .g) C (λk _=>rfl) (λk x=>by cases x) (.inl ⟨rfl,rfl⟩) (by simp[iD,zK]) C.b
 refine x D t3 d ⟨m,r,.g,l,i++[[.h w,.d e,.g]],[],.inr ⟨p.a,⟨w,e,[]⟩,i,rfl,rfl,zc1 H d z,rfl⟩,?_,K,by simpa using N,by simp,M⟩;exact⟨c.p.a d,o4,c.f,c.m,c.a,c.e.a d⟩
def zt6 (hp:Be P f p tf t n)(d:xN P f tf (sS P.a p n) Q E):cK Y F E 97 [.j P.b 0,.j f 0] t Q:=by
 have ai:=hp;obtain⟨z,l,g,y,j,R,C,I,b1,b2,b3,b4⟩:=hp;refine w97 ?_;unfold t97 zj uI uB uS uG sC V uY uW J1 U4;have hc:xC t f none [.h p.e,z,l,y]:=I.g.d (A:=[pH P n 0]);have ac:LK (.b 3) Y.a t 3 j l:=I.g.s (rJ Y.a 3 j l) (by simp[yO,wK.c]);have T:vC l=some (.e .i64 (p.a.length:Int)):=by
  rw[<- C.c];rcases ac with⟨rfl,rfl⟩ | ⟨b,c,rfl,_⟩<;>rfl
 unfold sS at d;have q:∀(a:Nat) (u:G vA),n<=a->St (P.c (yO f (.h p.e) z l g y (p.c.map eE.d) j R (p.b.map nD.d)++P.L)) tf u a 0->Be P f p tf u a:=λa u i h=>⟨z,l,g,y,j,R,C,h,by omega,by omega,by omega,by omega⟩;refine uA nl (uA (gF 2 (by omega)) (fB (hc.f Jt rfl rfl) (uA T (sB ?_))));refine Un I (λi u h1=>?_) (λi u h1=>?_)
 .rw[A5 i]at d;exact RF (q _ _ (by omega) h1) (λa k H=>by have:=Ub _ _ _ H;omega) d
 rw[i,A3 (by simp)]at d;refine Un h1 (λi t2 r=>?_) (λi t2 r=>?_)
 .rw[A5 i]at d;exact RF (q _ _ (by omega) r) (λa k H=>by have:=Ub _ _ _ H;omega) d
 rw[i,A3 (by simp)]at d;refine Un r (λi t3 Z=>?_) (λi t3 Z=>?_)
 .rw[A5 i]at d;unfold Vs at d;rw[PR.d]at d;refine xN.j Z d λw k ae J ak N U s=>?_;have K:∀(a:Nat) (v u:G vA),zB tf v->n<=a->St (P.c (yO f (.h p.e) z l g y (p.c.map eE.d) j R (p.b.map nD.d)++P.L)) v u a 0->Be P f p v u a:=λa v u hl i h=>⟨z,l,g,y,j,R,C.a hl,h,by omega,by omega,by omega,by omega⟩;refine jC (aA ?_);rw[pW 78];refine Ip (P:=P.c (yO f (.h p.e) z l g y (p.c.map eE.d) j R (p.b.map nD.d)++P.L)) U λt5 o=>iC ?_
  change St _ ae t5 (if By P.a Bm k=true then k+1 else k) 0 at o;change lA _ _ _ (.a (!By P.a Bm k) _ (.j 23 [.j f 0,.h w,.d (By P.a Bm k)])) _ _
  cases r:By P.a Bm k with
  | true=>
   rw[r,A5 rfl]at o;rw[r,A5 rfl]at s;exact vB (by simp) (qC (IG (K _ _ _ N (by omega) o) (by omega) s))
  | false=>
   rw[r,A3 (by simp)]at o;rw[r,A3 (by simp),PR.d]at s;exact tA rfl (xN.l o s λn6 am t6 ag S W ad=>qC (by
    have e2:rI E 97 23 [.j f 0,.h w,.d false] t6 Q:=IG (K _ _ _ (N.d S) (by omega) W) (by omega) ad;rw[<- r]at e2;exact e2))
 rw[i,A3 (by simp)]at d;have D:∀J,St (P.c (yO f (.h p.e) z l g y (p.c.map eE.d) j R (p.b.map nD.d)++P.L)) tf J n 0->xN P f tf (if By P.a Gg n=true then(Ig P.a (n+1)).c λc k=>.ok ⟨p.e,p.c,p.a,p.b++[c]⟩ k else .er 120 n) Q E →
   lA Y.a (pF Y F eC aF E) (L6 Y F E 97) (.c 78 [.j P.b 0,.h Gg] λaa=>.q aa λab=>.a ab (.d (zR (.j f 0)) λa7=>.d (iB Y 52 3 a7) λa8=>.e (λm=>oA Y 50 ⟨0,m⟩ a8) λa9=>.c 154 [.j P.b 0] λa1=>.o [(.h []),(.h []),(.e .i64 0),(.e .i64 0),(.e .i64 0),(.d false),(.e .u8 0),(.h []),(.e .u8 0),(.d false),.g,(.d false),.g,(.e .i64 0),.g,(.e .u8 0),(.h []),(.e .u8 0),(.d false),.g,(.d false),.g,(.e .i64 0),.g] a1 λX=>
   .e (λm=>oA Y 50 ⟨0,m⟩ a8) λa6=>.a (A8 10 a6 a9) (Nl 50 (.j f 0) (iB Y 52 3) a8 a9 [(.h (X.s 0)),(.h (X.s 1)),(.e .i64 (X.i 2)),(.e .i64 (X.i 3)),(.e .i64 (X.i 4)),(.d (X.b 5)),(.e .u8 (X.i 6)),(.h (X.s 7)),(.e .u8 (X.i 8)),(.d (X.b 9)),(X.v 10),(.d (X.b 11)),(X.v 12),(.e .i64 (X.i 13)),(X.v 14),(.e .u8 (X.i 15)),(.h (X.s 16)),(.e .u8 (X.i 17)),(.d (X.b 18)),(X.v 19),(.d (X.b 20)),(X.v 21),(.e .i64 (X.i 22)),(X.v 23)]) .g)
   (.c 39 [.j P.b 0,.e .i64 120] λ_=>.l (.p []))) J Q:=by
  intro J M d;refine Un M (λi t5 o=>?_) (λi t5 o=>?_)
  .rw[A5 i]at d;exact zv6 (q _ _ (by omega) o) (λa k H=>by have:=GI _ _ _ H;omega) d
  .rw[i,A3 (by simp)]at d;refine aA ?_;rw[pE 39];exact zh8 (P:=P.c (yO f (.h p.e) z l g y (p.c.map eE.d) j R (p.b.map nD.d)++P.L)) o (d tf t5 n 0 (zB.f _) o.u)
 by_cases L:p.a=[]
 .rw[L]at d;refine vB (by rw[L];simp[zD]) (D t3 Z ?_);rw[L];simpa using d
 .obtain⟨A,x,B⟩:∃A x,p.a=A++[x]:=⟨p.a.dropLast,p.a.getLast L,(List.dropLast_concat_getLast L).symm⟩;refine tA (by rw[B];simp[zD]) (Un Z (λi J M=>?_) (λi J M=>D J M ?_))
  .have hx:Sp p.a=x.c:=by rw[B];simp[Sp]
   rw[A5 (by rw[i,B];simp),hx]at d;have al:x.a.length<=n:=by
    rcases C with⟨C,_⟩ | ⟨A',x',ah,C,af,aj,hR⟩
    .rw[C]at B;simp at B
    obtain⟨rfl,e⟩:=List.append_inj' (B.symm.trans C) rfl;cases e;rw[hR,C4]at b3;exact b3
   exact zln (q _ _ (by omega) M) B (by rw[B];simp) (λa k H=>by have:=CL _ _ _ H;omega) d
  .rw[i]at d;simpa using d
end
end
section
variable {p x:rD}{cs:List O}
variable [fC]
def Ro(tf:G vA)(x:rD)(v:O):Prop:=∃cs,v=.i cs/\RD tf x.d cs
section
variable {P:wK}{tf t:G vA}{n d g:Nat}{Q E:lB}{J W:yG}
theorem Be.e (N:Be P g p tf t n):∃r cs,zB tf r/\St P r t n 0/\oA Y 52 ⟨0,t⟩ (.j g 0)=some (.i cs)/\RD r p.d cs:=by
 obtain⟨h,f,rv,q,d,R,K,e,b1,b2,b3,b4⟩:=N;have L:xC t g none [.h p.e,h,f,q]:=e.g.d (A:=[pH P n 0]);obtain⟨a1,F,S,W⟩:=xB.g (A:=[pH P n 0,oC g none [.h p.e,h,f,q],iD Y.a 3 (p.c.map eE.d) h,rJ Y.a 3 d f]) (B:=iD Y.a 24 (p.b.map nD.d) q::P.L) e.g;obtain⟨a6,z,T,X⟩:=xB.g (A:=[pH P n 0,oC g none [.h p.e,h,f,q],iD Y.a 3 (p.c.map eE.d) h,rJ Y.a 3 d f]) (B:=P.L) S;obtain⟨u,v,w,Z⟩:=xB.g (A:=[pH P n 0,oC g none [.h p.e,h,f,q]]) (B:=rJ Y.a 3 d f::P.L) T
 have x:LK (.b 3) Y.a t 3 d f:=w.s (rJ Y.a 3 d f) (by simp);have s:=zc1 K F W;obtain⟨m,C,U,r4⟩:∃m,zB u m/\xB Y.a m t ([pH P n 0,oC g none [.h p.e,h,f,q]]++P.L)/\bA m 3 (p.a.map mE.d) f:=by
  have I:=xB.i (A:=[pH P n 0,oC g none [.h p.e,h,f,q]]) w;rcases x with⟨rfl,rfl⟩ | ⟨b,c,rfl,h1,J,D⟩
  .exact⟨u,zB.f _,I,[],.inl ⟨rfl,rfl⟩,wD.f (z.d v) _ _ s⟩
  .have y:=w.x (A:=[pH P n 0,oC g none [.h p.e,h,_,q]]) (o:=rJ Y.a 3 d (.m b 0 d.length d.length)) (k:=b) (by simp[rJ,zK]);obtain⟨Q,H⟩:=I.r y J (w.f b (by simp[rJ,zK])).2;exact⟨_,H,Q,d,.inr ⟨b,0,d.length,rfl,B3 _,⟨_,_,_,by rw[G.aa,A5 rfl],.inr ⟨_,rfl,rfl⟩⟩,λi cs E=>⟨(D i cs E).1,_,_,_,by rw[G.aa,A5 rfl],λj a M=>by rw[D8];exact(D i cs E).2 j a M⟩⟩,wD.f ((z.d v).d H) _ _ s⟩
 have l:=((F.d z).d v).d C;refine⟨m,[.h p.e,h,f,q],l,⟨e.p.a l,xB.i (A:=[pH P n 0]) U,e.f,e.m,e.a,e.e.a l⟩,?_,?_⟩
 .have:=L.p.e (j:=0) (n:=4) gh rfl rfl (by simp);simpa using this
 .exact xK.2 ⟨[[.h p.e],[h],[f],[q]],rfl,kD.2 ⟨_,_,rfl,xP.2 rfl,kD.2 ⟨_,_,rfl,kO.2 ⟨_,rfl,Z.a C⟩,kD.2 ⟨_,_,rfl,kO.2 ⟨_,rfl,r4⟩,kD.2 ⟨_,_,rfl,kO.2 ⟨_,rfl,X.a (v.d C)⟩,pG.2 rfl⟩⟩⟩⟩⟩
def nq  (h:RD tf x.d cs):nK [.h [],.g,.g,.g] (.i cs)=some (AN cs):=kN h (rD.zs _)
def Pa  (h:RD tf x.d cs):[O.h ((AN cs).s 0),(AN cs).v 1,(AN cs).v 2,(AN cs).v 3]=cs:=by
 obtain⟨a,b,c,rfl,_⟩:=aX h;rfl
def zmq{tk:List xD}  : Up (sS tk p):=by
 intro n a b h;unfold sS at h;split at h
 .have:=fF Ub (λd=>qN (a:=(⟨p.e,p.c++[d],p.a,p.b⟩:rD))) _ _ _ h;omega
 split at h
 .have:=fF Ub (λd=>qN (a:=(⟨p.e,p.c++[d],p.a,p.b⟩:rD))) _ _ _ h;omega
 split at h
 .have:=fF zc2 (λd=>qN (a:=(⟨p.e,p.c,p.a++[d],p.b⟩:rD))) _ _ _ h;omega
 split at h
 .have:=fF CL (λd=>qN (a:=(⟨p.e,p.c,xW p.a d,p.b⟩:rD))) _ _ _ h;omega
 split at h
 .have:=fF GI (λd=>qN (a:=(⟨p.e,p.c,p.a,p.b++[d]⟩:rD))) _ _ _ h;omega
 .cases h
def Ok.m{X:List oF}{p s:Type}{g:G vA->p->O->Prop}{rd:G vA->s->O->Prop}{r:PR p}{f:p->Nat->PR s}{q:lB}(h:Ok P rd d tf (r.c f) Q E)
  (k:∀a m b t1 v,r=.ok a m->zB tf b->St (P.c (X++P.L)) b t1 m d->g b a v->Ok P rd d b (f a m) Q E->q v t1):Ok (P.c (X++P.L)) g d tf r q E:=by
 cases r with
 | ok a n=>exact λc o v j l u=>k a n c o v rfl j l u (Ok.g h j)
 | er e i=>exact λc o w t j l=>h c o w t j l.u
def zmp:∀(m:Nat) (p:rD) (n:Nat) (tf t:G vA) (a b c:O) (s:List Nat),P.a.length<=n+m->Be P g p tf t n->Ok P Ro 0 tf (tS P.a m p n) Q E->rI E 47 2 [.j P.b 0,.j g 0,.h s,a,b,c] t Q:=by
 intro m;induction m with
 | zero=>
  intro p n tf t a b c s hm r h;refine zt ?_;unfold uc uI uG aB sC V uY L9 U3;have j:=r;obtain⟨dv,tv,rv,cv,I,R,hT,d,b1,b2,b3,b4⟩:=r;obtain⟨u,cs,W,X,Z,o⟩:=j.e;refine uA nl (uA f1 (fB d.l1 (sB (uA nl (uA f0 (fB d.l0 (uA d.aa (sB (vB ?_ (fB Z (aC (nq o) ?_)))))))))))
  .rw[zD];change ¬ decide ((n:Int)<(P.a.length:Int))=true;simp;omega
  .have e:=Pa o;have f:=o.e;rw[<- e]at f;refine tA f ?_;show Q (.i _) t;rw[e];exact h u t _ W X ⟨cs,rfl,o⟩
 | succ m ih=>
  intro p n tf t a b c s hm r h;by_cases hn:n<P.a.length
  .refine zt ?_;unfold uc uI uG aB sC V uY L9 U3;unfold tS at h;rw[A5 hn]at h;have j:=r;obtain⟨dv,tv,rv,cv,I,R,hT,d,b1,b2,b3,b4⟩:=r;refine uA nl (uA f1 (fB d.l1 (sB (uA nl (uA f0 (fB d.l0 (uA d.aa (sB (tA ?_ (aA ?_))))))))))
   .rw[zD];change decide ((n:Int)<(P.a.length:Int))=true;simp;omega
   rw[pE 97];refine zt6 j ?_
   cases U:sS P.a p n with
   | er e i=>rw[U]at h;exact h
   | ok F n1=>
    rw[U]at h;change Ok P Ro 0 tf ((wM P.a 5 n1).c λ_ K=>tS P.a m F K) Q E at h;have a7:=zmq _ _ _ U;intro a8 t1 S T;obtain⟨z,J,H,y,q,R1,L,C,c1,c2,c3,c4⟩:=T;refine aA ?_;rw[pE 68];refine Jw (k:=5) (P:=P.c (yO g (.h F.e) z J H y (F.c.map eE.d) q R1 (F.b.map nD.d)++P.L)) (by omega) C ((h.g S).m λw K a1 t2 v l A D B N=>?_);obtain⟨x,_,_,rfl⟩:=B;have a6:n1+1=K:=by
     change wM P.a 5 n1=_ at l;unfold wM at l;split at l<;>cases l;rfl
    exact aC (H6 _) (qC (ih F K a1 t2 _ _ _ _ (by omega) ⟨z,J,H,y,q,R1,L.a A,D,by omega,by omega,by omega,by omega⟩ N))
  .have M:Ok P Ro 0 tf (tS P.a 0 p n) Q E:=by
    unfold tS at h;rw[A3 hn]at h;exact h
   clear ih h;refine zt ?_;unfold uc uI uG aB sC V uY L9 U3;have j:=r;obtain⟨dv,tv,rv,cv,I,R,hT,d,b1,b2,b3,b4⟩:=r;obtain⟨u,cs,W,X,Z,o⟩:=j.e;refine uA nl (uA f1 (fB d.l1 (sB (uA nl (uA f0 (fB d.l0 (uA d.aa (sB (vB ?_ (fB Z (aC (nq o) ?_)))))))))))
   .rw[zD];change ¬ decide ((n:Int)<(P.a.length:Int))=true;simp;omega
   .have e:=Pa o;have f:=o.e;rw[<- e]at f;refine tA f ?_;show Q (.i _) t;rw[e];exact M u t _ W X ⟨cs,rfl,o⟩
def ztk(h:St P tf t 0 0)(c:Ok P Ro 0 tf (xM P.a) Q E):cK Y F E 47 [.j P.b 0] t Q:=by
 refine w47 ?_;unfold t47 uS uG V uY;refine kC λg y d=>?_;obtain⟨K,S,T,U,W⟩:=gP (C:=Y) (b:=g) gh y;refine⟨_,_,S,?_⟩;have o1:xB Y.a tf K (pH P 0 0::(yO g (.h []) .g .g .g .g [] [] [] []++P.L)):=by
  have e:=xB.c (A:=[pH P 0 0]) (B:=P.L) h.g y d T U W;have L:=xB.ac (A:=[pH P 0 0,oC g none [.h [],.g,.g,.g]]) (B:=P.L) (o':=iD Y.a 24 [] .g) e (λk _=>rfl) (λk c=>by cases c) (.inl ⟨rfl,rfl⟩) (by simp[iD,zK]) e.b;have M:=xB.ac (A:=[pH P 0 0,oC g none [.h [],.g,.g,.g]]) (B:=iD Y.a 24 [] .g::P.L) (o':=iD Y.a 7 [] .g) L (λk _=>rfl) (λk c=>by cases c) (.inl ⟨rfl,rfl⟩) (by simp[iD,zK]) e.b;have N:=xB.ac (A:=[pH P 0 0,oC g none [.h [],.g,.g,.g]]) (B:=iD Y.a 7 [] .g::iD Y.a 24 [] .g::P.L) (o':=rJ Y.a 3 [] .g) M (λk _=>rfl) (λk c=>by cases c) (.inl ⟨rfl,rfl⟩) (by simp[rJ,zK]) e.b
  exact xB.ac (A:=[pH P 0 0,oC g none [.h [],.g,.g,.g]]) (B:=rJ Y.a 3 [] .g::iD Y.a 7 [] .g::iD Y.a 24 [] .g::P.L) (o':=iD Y.a 3 [] .g) N (λk _=>rfl) (λk c=>by cases c) (.inl ⟨rfl,rfl⟩) (by simp[iD,zK]) e.b
 have r:St (P.c (yO g (.h []) .g .g .g .g [] [] [] []++P.L)) tf K 0 0:=⟨h.p,o1,h.f,h.m,h.a,h.e⟩;unfold xM at c;refine Lj (P:=P.c (yO g (.h []) .g .g .g .g [] [] [] []++P.L)) r (c.m λu n1 a7 t2 v X z l I o=>aA ?_);rw[pE 96];refine Ko (P:=P.c (yO g (.h []) .g .g .g .g [] [] [] []++P.L)) l (o.m λw J s t3 v Z D a f p=>?_);cases f;refine jC (uA (gF 0 (by omega)) (kC λR _ _=>?_));obtain⟨t4,m1,m2⟩:=xB.a (A:=[pH P J 0]) (j:=0) (v:=.h w) a.g iI rfl (by show 0+1<=4;omega) rfl
 refine⟨_,_,m1 R,aA ?_⟩;have n:St (P.c (yO g (.h w) .g .g .g .g [] [] [] []++P.L)) s t4 J 0:=⟨a.p,m2,a.f,a.m,a.a,a.e⟩;rw[pE 68];refine Jw (k:=5) (P:=P.c (yO g (.h w) .g .g .g .g [] [] [] []++P.L)) (by omega) n (p.m λw5 n3 a8 t5 v a6 H m i q=>?_);obtain⟨x,_,_,rfl⟩:=i;exact aC (H6 _) (qC (zmp _ _ _ _ _ _ _ _ _ (by omega) ⟨.g,.g,.g,.g,[],[],.inl ⟨rfl,rfl,rfl,rfl⟩,m,by simp,by simp,by simp,by simp⟩ q))
end
end
section
variable [fC]
def t28_eq(s:List Nat)(a:O):t46 s a=TO 52 zP cP s a:=rfl
def zdl(a b c d e:O):zc3 a b c d e=T0 52 zP cP a b c d e:=rfl
def zk2(a b c d:O):uh a b c d=ni 52 zP a b c d:=rfl
def zk5(a b c:O):ui a b c=nj 52 a b c:=rfl
def ic:RT 52 zP cP:=⟨⟨_,gh,rfl,rfl,rfl⟩,rfl,kQ rfl,rfl⟩
section
variable {t:G vA}{Q:lB}{s:List Nat}
def rj(C:bK t)(l:∀b∈s,b<256)(d:match aN xM s with
  | .ok x=>∀t' cs,zB t t'->RD t' x.d cs->Q (.p [.i cs,.i [.e .i64 0,.e .i64 0],.e .i64 0]) t'
  | .er e a b=>∀t',zB t t'->Q (.p [.i zP,.i [.e .i64 (a:Int),.e .i64 (b:Int)],.e .i64 (e:Int)]) t'):Wc Y F 46 [.h s,.q (.aa 47) [] []] t Q:=by
 refine w46 _ _ ?_;rw[t28_eq];refine zs3 ic C l (λm o=>zt8 o) (λe a b h=>⟨zms h,?_⟩) (λm o J N P K L M q y z A j k=>⟨rfl,tl46 _ _ _ _ _ ?_⟩)
 .rw[zll h]at d;exact d
 .rw[zdl];simp only[zk2,zk5];refine ku (rd:=Ro) (good:=λf x cs=>RD f x.d cs) (r:=xM P.a) ic A k ?_ (λQ E D=>by rw[pE 47];exact ztk k D) (by kernel_rfl) (λf x v ⟨cs,B,g⟩=>⟨cs,B,by obtain⟨a,b,c,rfl,_⟩:=aX g;rfl,nq g,Pa g,by obtain⟨a,b,c,rfl,_⟩:=aX g;exact g.e,g⟩);rw[ze2 o]at d;rw[q]
  cases u:xM m with
  | ok x n=>
   rw[u]at d;exact λf t' cs p w I=>d t' cs (j.d (p.d w)) (I.f w)
  | er e i=>
   rw[u]at d;have H:mH P i=J9 m s i:=by unfold mH J9;rw[q,y,z]
   intro t' p;rw[H];exact d t' (j.d p)
def ztn(k:bK t)(g:∀b∈s,b<256)(f:match aN xM s with
  | .ok x=>∀t' cs,zB t t'->RD t' x.d cs->Q (.p [.i cs,.i [.e .i64 0,.e .i64 0],.e .i64 0]) t'
  | .er e a b=>∀t',zB t t'->Q (.p [.i zP,.i [.e .i64 (a:Int),.e .i64 (b:Int)],.e .i64 (e:Int)]) t'):Wc Y F 19 [.h s] t Q:=by
 refine w19 ?_;unfold t19 L9 U3 tt;refine aA ?_;rw[q46];refine rj k g ?_
 cases i:aN xM s with
 | ok x=>
  rw[i]at f;intro t' cs h d;refine uA (v:=.i cs) rfl (aC (nq d) (uA (v:=.i [.e .i64 0,.e .i64 0]) rfl (aC mm (uA (v:=.e .i64 0) rfl (sB ?_)))));show lA _ _ _ (.a (oD O.z (cP (AN cs))) (.a true (.l (.p [.i (cP (AN cs)),_,_])) .g) .g) _ _;have j:cP (AN cs)=cs:=Pa d;rw[j];refine tA (by obtain⟨a,b,c,rfl,_⟩:=aX d;exact d.e) (tA rfl (f t' cs h d))
 | er e a b=>
  rw[i]at f;intro t' h;exact uA (v:=.i zP) rfl (aC ic.ag (uA (v:=.i [.e .i64 (a:Int),.e .i64 (b:Int)]) rfl (aC mm (uA (v:=.e .i64 (e:Int)) rfl (sB (tA rfl (tA rfl (f t' h))))))))
end
end
end Go.Proofs
namespace Go.Am
open Go Go.RowKit
section
variable {t:G vA}{C:fA}{W J:yG}{S el sz p:Nat}{Q:lB}{zs:List O}
abbrev Cmp:=List O->List O->(O->T)->T
def T2 (g:Nat):Cmp:=λa b K=>.c g [.i a,.i b] K
def zs0(C:fA)(S el p:Nat)(g:Cmp)(zs:List O)(ne:Bool->Bool)(a b:O)(i:Int):T:=
 .d (vC a) λe=>.r .i64 e λo=>.a (bB i o)
  (.d (zC C S a (.e .i64 i)) λf=>.e (λm=>oA C el ⟨0,m⟩ f) λh=>.o zs h λc=>
   .d (zC C S b (.e .i64 i)) λj=>.e (λm=>oA C el ⟨0,m⟩ j) λk=>.o zs k λd=>
   g (fW zs c 0) (fW zs d 0) λl=>.q l λn=>.a (ne n) (.l (.d false)) (.j p [a,b,.e .i64 (cA .i64 (i+1))]))
  (.l (.d true))
theorem Rh{g:Cmp}{ne:Bool->Bool}{ok:Bool}{ds:List D}{f h:O}(n:gG C S el sz true)(H:∀d∈ds,d.h=zs)(F:ne ok=false)
  (B:∀d∈ds,∀cs cs' K,RD t d cs->RD t d cs'->lA C.a W J (K (.d ok)) t Q->lA C.a W J (g cs cs' K) t Q) (r:ds.length<300000)
  (q:∀i,lA C.a W J (zs0 C S el p g zs ne f h i) t Q->J p [f,h,.e .i64 i] t Q) (m:bA t sz ds f) (z:bA t sz ds h) (A:Q (.d true) t) :
  ∀(k i:Nat),i+k=ds.length->J p [f,h,.e .i64 (i:Int)] t Q:=by
 intro k;induction k with
 | zero=>
  intro i E;refine q _ ?_;unfold zs0;exact uA m.c (sB (vB (λe=>by grind [kE]) A))
 | succ k I=>
  intro i E;have c:i<ds.length:=by omega
  have o:ds[i]?=some ds[i]:=C6 c;have s:ds[i]∈ds:=F2 c;obtain⟨b,L,cs,x,y,R,T,l⟩:=gG.at n (by simp) m o;obtain⟨M,u,cs',v,w,N,P,j⟩:=gG.at n (by simp) z o;have a:=H _ s;refine q _ ?_;unfold zs0;refine uA m.c (sB (tA (kE.2 (by omega)) (uA x (fB y (aC (kN l a) (uA v (fB w (aC (kN j a) ?_))))))));rw[l.mk a,j.mk a];refine B _ s _ _ _ l j (iC (vB (by simp_all) (qC ?_)));rw[A2 (by omega) (by omega)];exact I (i+1) (by omega)
end
end Go.Am
namespace Go.Proofs
open Go Go.Am
variable [fC]
variable {t tf:G vA}
def kz{l:List Nat}{u v:O}(d:bA t 1 (vD l) u)(f:bA t 1 (vD l) v)(y:l.length<300000):oB Y F 145 [u,v] t=some (.d true):=by
 have b:vC u=some (.e .i64 (l.length:Int)):=by rw[d.c,wU]
 have c:vC v=some (.e .i64 (l.length:Int)):=by rw[f.c,wU]
 refine mC.2 (w145 ?_);unfold t145 uI rB V;refine uA b (sB (uA c (sB (vB (λe=>absurd rfl (fZ.1 e)) (qC ?_)))));have a:∀(m i:Nat),i+m=l.length->jp 145 2 [u,v,.e .i64 (i:Int)] t (λw s=>w=.d true/\s=t):=by
  intro m;induction m with
  | zero=>
   intro i q;refine zq1 ?_;unfold xp uI uH tC rB nH V;exact uA b (sB (vB (dM (by omega)) ⟨rfl,rfl⟩))
  | succ m r=>
   intro i q;obtain⟨x,g⟩:=A6 (show i<l.length by omega);obtain⟨p,o,h,j⟩:=bA.f (C:=Y) Dl d g;obtain⟨A,z,k,n⟩:=bA.f (C:=Y) Dl f g;refine zq1 ?_;unfold xp uI uH tC rB nH V;refine uA b (sB (tA (iM (by omega)) (uA h (fB j (sB (uA k (fB n (sB (vB (λe=>absurd rfl (fZ.1 e)) (qC ?_))))))))));rw[A2 (by omega) (by omega)];exact r (i+1) (by omega)
 exact a l.length 0 (by omega)
def zpu{w:xL}{cs ds:List O}(a:w.a.length<300000)(h:RD t w.d cs)(k:RD t w.d ds):oB Y F 82 [.i cs,.i ds] t=some (.d true):=by
 obtain⟨u,rfl,b⟩:=Wj h;obtain⟨v,rfl,c⟩:=Wj k;refine mC.2 (w82 ?_);unfold t82 uB rB;refine tA (by rw[xZ];simp) (aA ?_);rw[q145,kz b c a,xA];exact iC ⟨rfl,rfl⟩
def zpv{f:qF}{cs ds:List O}(e:f.n.a.length<300000/\f.d.a.length<300000)(h:RD t f.b cs)(k:RD t f.b ds):oB Y F 40 [.i cs,.i ds] t=some (.d true):=by
 obtain⟨a,b,rfl,g,i⟩:=C2 h;obtain⟨j,l,rfl,c,d⟩:=C2 k;refine mC.2 (w40 ?_);unfold t40 uB rB;refine aA ?_;rw[q82,zpu e.1 (Hi (w:=f.n) g) (Hi (w:=f.n) c),xA];refine iC (tA rfl (aA ?_));rw[q82,zpu e.2 (Hi (w:=f.d) i) (Hi (w:=f.d) d),xA];exact iC ⟨rfl,rfl⟩
def rk{x:iF}{cs ds:List O}(i:x.f.n.a.length<300000/\x.f.d.a.length<300000)(h:RD t x.d cs)(k:RD t x.d ds):oB Y F 15 [.i cs,.i ds] t=some (.d true):=by
 obtain⟨a,b,rfl,e,g⟩:=Rm h;obtain⟨j,l,rfl,c,d⟩:=Rm k;refine mC.2 (w15 ?_);unfold t15 uB rB;refine tA (fI.2 rfl) (aA ?_);rw[q40,zpv i (Hj (f:=x.f) e g) (Hj (f:=x.f) c d),xA];refine iC (tA rfl ?_);rw[fI.2 rfl];exact⟨rfl,rfl⟩
def lf{x:rG}{cs ds:List O}(i:x.f.n.a.length<300000/\x.f.d.a.length<300000)(h:RD t x.d cs)(k:RD t x.d ds):oB Y F 203 [.i cs,.i ds] t=some (.d true):=by
 obtain⟨a,b,rfl,e,g⟩:=Nf h;obtain⟨j,l,rfl,c,d⟩:=Nf k;refine mC.2 (w203 ?_);unfold t203 uB rB;refine tA (fI.2 rfl) (tA (fI.2 rfl) (tA (fI.2 rfl) (aA ?_)));rw[q40,zpv i (Hj (f:=x.f) e g) (Hj (f:=x.f) c d),xA];exact iC ⟨rfl,rfl⟩
theorem rm{l:List rG}{u v:O}(q:l.length<300000)(m:∀x∈l,x.f.n.a.length<300000/\x.f.d.a.length<300000)(b:bA t 7 (l.map rG.d) u)(c:bA t 7 (l.map rG.d) v):oB Y F 155 [u,v] t=some (.d true):=by
 refine mC.2 (w155 ?_);unfold t155 uI rB V;refine uA b.c (sB (uA c.c (sB (vB (λe=>absurd rfl (fZ.1 e)) (qC ?_)))));refine Rh (C:=Y) (W:=Wq Y F eC) (J:=Jq Y F 155) (g:=T2 203) (ne:=not) (ok:=true) (ds:=l.map rG.d) S9 (λd a=>?_) rfl (λd a p f K h j k=>?_) (by simp_all) (λi n=>j155_2 n) b c ⟨rfl,rfl⟩ l.length 0 (by simp)
 .obtain⟨x,_,rfl⟩:=G6.1 a;exact x.g
 .obtain⟨x,o,rfl⟩:=G6.1 a;refine aA ?_;rw[q203,lf (m x o) h j,xA];exact k
def rn{x:mE}{cs ds:List O}(f:x.a.length<300000)(e:∀r∈x.a,r.f.n.a.length<300000/\r.f.d.a.length<300000)(h:RD t x.d cs)(k:RD t x.d ds):oB Y F 98 [.i cs,.i ds] t=some (.d true):=by
 obtain⟨a,rfl,c⟩:=Rn h;obtain⟨b,rfl,d⟩:=Rn k;refine mC.2 (w98 ?_);unfold t98 uB rB;refine tA ((bJ _ _).2 rfl) (tA (by rw[xZ];simp) (aA ?_));rw[q155,rm f e c d,xA];exact iC ⟨rfl,rfl⟩
theorem rp{l:List mE}{u v:O}(q:l.length<300000)(b:∀x∈l,x.a.length<300000/\∀r∈x.a,r.f.n.a.length<300000/\r.f.d.a.length<300000)(c:bA t 3 (l.map mE.d) u)(f:bA t 3 (l.map mE.d) v):oB Y F 49 [u,v] t=some (.d true):=by
 refine mC.2 (w49 ?_);unfold t49 uI rB V;refine uA c.c (sB (uA f.c (sB (vB (λe=>absurd rfl (fZ.1 e)) (qC ?_)))));refine Rh (C:=Y) (W:=Wq Y F eC) (J:=Jq Y F 49) (g:=T2 98) (ne:=not) (ok:=true) (ds:=l.map mE.d) OK (λd a=>?_) rfl (λd a p j K k m n=>?_) (by simp_all) (λi o=>j49_2 o) c f ⟨rfl,rfl⟩ l.length 0 (by simp)
 .obtain⟨x,_,rfl⟩:=G6.1 a;exact x.f
 .obtain⟨x,h,rfl⟩:=G6.1 a;refine aA ?_;rw[q98,rn (b x h).1 (b x h).2 k m,xA];exact n
theorem zvt{x y:Operand}{s:List Nat}{k:Int}{b:Bool}:(rU .neq).f Y 89 x y (.i [.h s,.e .u8 k,.d b]) (.i [.h s,.e .u8 k,.d b])=some (.d false):=by
 have e:(rU .neq).f Y 89 x y (.i [.h s,.e .u8 k,.d b]) (.i [.h s,.e .u8 k,.d b])=ob (bif sF s s then(bif kB k k then(bif K5 b b then some true else some false)else some false)else some false) λr=>some (.d (!r)):=by kernel_rfl
 rw[e,(bJ s s).2 rfl,fI.2 rfl];cases b<;>rfl
theorem rq{l:List eE}{u v:O}(r:l.length<300000)(f:bA t 3 (l.map eE.d) u)(h:bA t 3 (l.map eE.d) v):oB Y F 48 [u,v] t=some (.d true):=by
 refine mC.2 (w48 ?_);unfold t48 uI rB V;refine uA f.c (sB (uA h.c (sB (vB (λe=>absurd rfl (fZ.1 e)) (qC ?_)))));refine Rh (C:=Y) (W:=Wq Y F eC) (J:=Jq Y F 48) (g:=λa b K=>.d ((rU .neq).f Y 89 (.tmp 20) (.tmp 24) (.i a) (.i b)) K) (ne:=λb=>b) (ok:=false) (ds:=l.map eE.d) S7 (λd c=>?_) rfl (λd c n j K k p q=>?_) (by simp_all) (λi m=>j48_2 m) f h ⟨rfl,rfl⟩ l.length 0 (by simp)
 .obtain⟨x,_,rfl⟩:=G6.1 c;exact x.f
 .obtain⟨x,s,rfl⟩:=G6.1 c;have o:=Ng k
  grind [Ng,uA,zvt]
mutual
theorem zs2:∀(x:iA),iA.a x->∀cs ds,RD t x.d cs->RD t x.d ds->oB Y F 12 [.i cs,.i ds] t=some (.d true)
 | .mk op name v args,h,cs,ds,z,n=>by
  obtain⟨a,b,c,rfl,q,r,p⟩:=uJ z;obtain⟨a',b',c',rfl,k,m,f⟩:=uJ n;simp only[iA.e,iA.i,iA.v,iA.k]at q r p k m f ⊢;unfold iA.a at h;refine mC.2 (w12 ?_);unfold t12 uB rB V uY;refine tA (fI.2 rfl) (tA ((bJ _ _).2 rfl) (aA ?_));rw[q15,rk h.1 (Sg (x:=v) q r) (Sg (x:=v) k m),xA];refine iC (tA rfl (aA ?_));have:=Z1 args h.2.2;have o:oB Y F 33 [c,c'] t=some (.d true):=by
   refine mC.2 (w33 ?_);unfold t33 uI rB V;refine uA p.c (sB (uA f.c (sB (vB (λe=>absurd rfl (fZ.1 e)) (qC ?_)))));refine Rh (C:=Y) (W:=Wq Y F eC) (J:=Jq Y F 33) (g:=T2 12) (ne:=not) (ok:=true) (ds:=args.map iA.d) On (λd n=>?_) rfl (λd n cs cs' K s u w=>?_) (by simp_all) (λi A=>j33_2 A) p f ⟨rfl,rfl⟩ args.length 0 (by simp)
   .obtain⟨x,_,rfl⟩:=G6.1 n;exact x.s
   .obtain⟨x,j,rfl⟩:=G6.1 n;refine aA ?_;rw[q12,this x j cs cs' s u,xA];exact w
  rw[q33,o,xA];exact iC ⟨rfl,rfl⟩
theorem Z1:∀(l:List iA),iA.c l->∀x∈l,∀cs ds,RD t x.d cs->RD t x.d ds->oB Y F 12 [.i cs,.i ds] t=some (.d true)
 | [],_,x,j=>by cases j
 | y::l,h,x,j=>by
  unfold iA.c at h;rcases C3.1 j with e | j
  .rw[e];exact zs2 y h.1
  .exact Z1 l h.2 x j
end
def rz{x:nD}{cs ds:List O}(n:iA.a x.a)(m:iA.a x.b)(h:RD t x.d cs)(k:RD t x.d ds):oB Y F 99 [.i cs,.i ds] t=some (.d true):=by
 obtain⟨a,b,c,d,e,f,rfl,j,l⟩:=Nh h;obtain⟨q,r,s,u,v,w,rfl,o,p⟩:=Nh k;refine mC.2 (w99 ?_);unfold t99 uB rB V uY;refine tA ((bJ _ _).2 rfl) (tA ((bJ _ _).2 rfl) (tA (fI.2 rfl) (tA (fI.2 rfl) (tA (fI.2 rfl) (tA (by rw[xZ];simp) (aA ?_))))));have g:=zs2 x.a n _ _ j o;have i:=zs2 x.b m _ _ l p;unfold mO at g i;rw[q12,g,xA];refine iC (tA rfl (aA ?_));rw[q12,i,xA];exact iC ⟨rfl,rfl⟩
theorem r9{l:List nD}{u v:O}(q:l.length<300000)(b:∀x∈l,iA.a x.a/\iA.a x.b)(c:bA t 24 (l.map nD.d) u)(f:bA t 24 (l.map nD.d) v):oB Y F 50 [u,v] t=some (.d true):=by
 refine mC.2 (w50 ?_);unfold t50 uI rB V;refine uA c.c (sB (uA f.c (sB (vB (λe=>absurd rfl (fZ.1 e)) (qC ?_)))));refine Rh (C:=Y) (W:=Wq Y F eC) (J:=Jq Y F 50) (g:=T2 99) (ne:=not) (ok:=true) (ds:=l.map nD.d) S8 (λd a=>?_) rfl (λd a p j K k m n=>?_) (by simp_all) (λi o=>j50_2 o) c f ⟨rfl,rfl⟩ l.length 0 (by simp)
 .obtain⟨x,_,rfl⟩:=G6.1 a;exact x.k
 .obtain⟨x,h,rfl⟩:=G6.1 a;refine aA ?_;rw[q99,rz (b x h).1 (b x h).2 k m,xA];exact n
def sa{p:rD}{cs ds:List O}(d:rD.g p)(h:RD t p.d cs)(k:RD t p.d ds):oB Y F 20 [.i cs,.i ds] t=some (.d true):=by
 obtain⟨a,b,c,rfl,i,j,l⟩:=aX h;obtain⟨m,n,o,rfl,e,f,g⟩:=aX k;refine mC.2 (w20 ?_);unfold t20 uB rB;refine tA ((bJ _ _).2 rfl) (aA ?_);rw[q48,rq d.d i e,xA];refine iC (tA rfl (aA ?_));rw[q49,rp d.b d.e j f,xA];refine iC (tA rfl (aA ?_));rw[q50,r9 d.a d.c l g,xA];exact iC ⟨rfl,rfl⟩
end Go.Proofs
namespace Go.Proofs
open Go Go.Am
section
variable [fC]
def RP.d{a:Type}:RP a->Nat | .ok _=>0 | .er e _ _=>e
def RP.f{c:Type}:RP c->Nat × Nat | .ok _=>(0,0) | .er _ a b=>(a,b)
def RP.g{a:Type}(z:a):RP a->a | .ok x=>x | .er _ _ _=>z
def U9 (p:Nat × Nat):List O:=[.e .i64 (p.1:Int),.e .i64 (p.2:Int)]
def zil:rD:=⟨[],[],[],[]⟩
def zf7{t:G vA}{sz:Nat}:bA t sz [] .g:=⟨[],.inl ⟨rfl,rfl⟩,pG.2 rfl⟩
def zik{t:G vA}:RD t zil.d zP:=
 xK.2 ⟨[[.h []],[.g],[.g],[.g]],rfl,kD.2 ⟨_,_,rfl,xP.2 rfl,kD.2 ⟨_,_,rfl,kO.2 ⟨_,rfl,zf7⟩,kD.2 ⟨_,_,rfl,kO.2 ⟨_,rfl,zf7⟩,kD.2 ⟨_,_,rfl,kO.2 ⟨_,rfl,zf7⟩,pG.2 rfl⟩⟩⟩⟩⟩
def agPl{p:Nat × Nat}:nK Fy (.i (U9 p))=some (AN (U9 p)):=kQ rfl
section
variable {t:G vA}{Q:lB}{s:List Nat}{J:yG}
def zti{K:zH->zH->Int->T}(m:bK t)(i:∀b∈s,b<256)
  (k:∀t' cs,zB t t'->RD t' ((aN xM s).g zil).d cs->lA Y.a (Wq Y F eC) J (K (AN cs) (AN (U9 (aN xM s).f)) ((aN xM s).d:Int)) t' Q) :
  lA Y.a (Wq Y F eC) J (.c 19 [.h s] λa=>.d (uX 0 a)<|uG R7 λg=>.d (uX 1 a)<|uG Fy λX=>.d (uX 2 a)<|uI λn=>.a (aB (L9 g)) (.a true (K g X n) .g) .g) t Q:=by
 refine aA ?_;rw[q19];refine ztn m i ?_;have d:∀t' cs,zB t t'->RD t' ((aN xM s).g zil).d cs->lA Y.a (Wq Y F eC) J (.d (uX 0 (.p [.i cs,.i (U9 (aN xM s).f),.e .i64 ((aN xM s).d:Int)]))<|uG R7 λg=>.d (uX 1 (.p [.i cs,.i (U9 (aN xM s).f),.e .i64 ((aN xM s).d:Int)]))<|uG Fy λX=>.d (uX 2 (.p [.i cs,.i (U9 (aN xM s).f),.e .i64 ((aN xM s).d:Int)]))<|uI λn=>.a (aB (L9 g)) (.a true (K g X n) .g) .g) t' Q:=by
  intro t' cs h f;have l:L9 (AN cs)=cs:=Pa f;refine uA (v:=.i cs) rfl (aC (nq f) (uA (v:=.i (U9 (aN xM s).f)) rfl (aC agPl (uA (v:=.e .i64 ((aN xM s).d:Int)) rfl (sB (tA ?_ (tA rfl (k t' cs h f))))))));show oD O.z (L9 (AN cs))=true;rw[l];obtain⟨a,b,c,rfl,_⟩:=aX f;exact f.e
 cases j:aN xM s with
 | ok x=>rw[j]at d;exact λt' cs h f=>d t' cs h f
 | er e a b=>rw[j]at d;exact λt' h=>d t' zP h zik
def zop{K:T}(k:lA Y.a (Wq Y F eC) J K t Q):lA Y.a (Wq Y F eC) J (.c 7 []<|uB λb=>.a (!b) rB K) t Q:=by
 refine aA ?_;have a:oB Y F 7 [] t=some (.d true):=Ke (g:=ti) (by kernel_rfl) λH=>rfl;rw[q7,a,xA];exact iC (vB (by decide) k)
def zs1{K:O->T}{p:rD}{cs ds:List O}(b:rD.g p)(h:RD t p.d cs)(a:RD t p.d ds)(k:lA Y.a (Wq Y F eC) J (K (.d true)) t Q):lA Y.a (Wq Y F eC) J (.c 20 [.i cs,.i ds] K) t Q:=by
 refine aA ?_;rw[q20,sa b h a,xA];exact k
end
def zt9{s:List Nat}(h:s.length<=65536):rP s=Ho s:=by unfold rP;rw[A3 (by omega)]
end
section
def jS (n:Int):Bool:=decide (0<=n)&&decide (n<65536)
def Aj (n:Int):Bool:=decide (-2147483648<=n)&&decide (n<2147483648)
def vX (d:eE):Bool:=sI d.a&&(decide (1<=d.b)&&decide (d.b<=6))
def bX (a:Bool)(r:rG):Bool:=Aj r.a&&(Aj r.b&&((a||decide (r.b=0))&&(jS r.c&&wY r.f)))
def oZ(x:mE):Bool:=sI x.b&&x.a.all (bX x.c)
def Dc(x:iA):Bool:=decide (x.e=0)&&(sF x.i []&&(decide (x.k.length=0)&&Fz x.v))
def zZ(x:nD):Bool:=
 sI x.g&&(sI x.c&&(jS x.f&&(jS x.e&&((jS x.i||decide (x.i=65536))&&(if x.h=true then Dc x.a&&Dc x.b else fJ x.a 1&&fJ x.b 1)))))
def xT(p:rD):Bool:=sI p.e&&(p.c.all vX&&(p.a.all oZ&&p.b.all zZ))
end
section
variable {a v:O}{n:Int}{bf:Nat}{cs:List O}{p:rD}
variable [fC]
variable {t:G vA}
def allF (S el f:Nat)(zs:List O)(cond:zH->Bool)(v1 v7:O)(n i:Int):T:=
 .a (bB i n)
  (.d (zC Y S v7 (.e .i64 i)) λa0=>.e (λm=>oA Y el ⟨0,m⟩ a0) λa1=>.o zs a1 λX=>
   .a (cond X) (.n v1 [.i (fW zs X 0)] λa3=>.q a3 λb4=>.a (!b4) (.l (.d false)) (.j 2 [v1,v7,.e .i64 n,.e .i64 (cA .i64 (i+1))])) .g)
  (.l (.d true))
theorem Zy{m:Type}{dd:m->D}{P:m->Bool}{S el sz f:Nat}{zs:List O}{cond:zH->Bool}{h j:O}(u:gG Y S el sz true){l:List m}(A:∀x∈l,(dd x).h=zs)(z:bA t sz (l.map dd) j)(o:l.length<1000000000000000000)
  (n:∀i t Q,wp f (allF S el f zs cond h j l.length i) t Q->jp f 2 [h,j,.e .i64 (l.length:Int),.e .i64 i] t Q)
  (v:∀cs,oD O.z cs=true->bT zs cs=true->cond (AN cs)=true)
  (a:∀x∈l,∀cs,RD t (dd x) cs->∀(R:lB),R (.d (P x)) t->pD (mM h [.i cs]) λp=>Wq Y F eC p.1 p.2 t R) :
  ∀(k i:Nat),i+k=l.length->jp f 2 [h,j,.e .i64 (l.length:Int),.e .i64 (i:Int)] t (λx t'=>x=.d ((l.drop i).all P)/\t'=t):=by
 intro k;induction k with
 | zero=>
  intro i y;refine n _ _ _ (vB (dM (by omega)) ?_);rw[E3 (by omega)];exact⟨rfl,rfl⟩
 | succ k I=>
  intro i y;have c:i<l.length:=by omega
  have q:l[i]∈l:=F2 c;obtain⟨b,B,cs,r,s,C,E,g⟩:=gG.at u (by simp) z (i:=i) (d:=dd l[i]) (by simp[c]);refine n _ _ _ (tA (iM (by omega)) (uA r (fB s ?_)));rw[Bo];have e:=A _ q;refine aC (kN g e) (tA (v cs g.e (by grind [Yl])) ?_);rw[g.mk e];refine a _ q cs g _ ?_;refine iC ?_;have w:l.drop i=l[i]::l.drop (i+1):=G0 c;rw[w,Z8]
  cases H:P l[i]with
  | false=>exact tA rfl ⟨rfl,rfl⟩
  | true=>
   grind [vB,qC,A2]
theorem HC{x:iA}{b c:O}(i:x.b)(f:bA t 1 (vD x.v.f.n.a) a)(g:bA t 1 (vD x.v.f.d.a) b)(h:bA t 9 (x.k.map iA.d) c):oB Y F 150 [.i (mO x a b c)] t=some (.d (Dc x)):=by
 obtain⟨k,e,v,d⟩:=x;simp only[iA.e,iA.i,iA.v,iA.k,Dc,mO]at f g h ⊢;unfold iA.b at i;have j:vC c=some (.e .i64 (d.length:Int)):=by rw[h.c,C4]
 refine mC.2 (w150 ?_);unfold t150 uI uB rB V uY;by_cases l:k=0
 case neg=>grind [rM,lA]
 refine tA (jR (by omega)) ?_
 cases m:sF e []with
 | false=>grind [lA]
 | true=>
  refine tA rfl (uA j (sB ?_));by_cases n:d.length=0
  case neg=>grind [rM,lA]
  refine tA (jR (by omega)) (aA ?_);rw[q61,GW f g i.2.2.2.1.2.1.1,xA];grind [iC,lA]
theorem zos{l:List eE} (hr:bA t 3 (l.map eE.d) v)(hlen:l.length<lF):oB Y F 89 [v,.q (.aa 88) [] []] t=some (.d (l.all vX)):=by
 unfold lF at hlen;refine mC.2 (w89 ?_);unfold t89 uI V;refine uA hr.c (sB (qC ?_));rw[C4];refine Zy (dd:=eE.d) (P:=vX) (S:=48) (el:=89) (zs:=[.h [],.e .u8 0,.d false]) (cond:=λ_=>true) S7 (λx _=>x.f) hr (by omega) (λi t Q h=>j89_2 h) (λ_ _ _=>rfl) ?_ l.length 0 (by omega);intro x hx cs hcs R hR;have:=Ng hcs;subst this;show pD (some (88,[O.i [.h x.a,.e .u8 x.b,.d x.c]])) _;rw[xA];have:oB Y F 88 [O.i [.h x.a,.e .u8 x.b,.d x.c]] t=some (.d (vX x)):=by
  refine mC.2 (w88 ?_);unfold t88 vX uB rB;refine aA ?_;rw[q60,Kp,xA];grind [iC,lA,za]
 rw[q88,this,xA];exact hR
def zul  : oB Y F 147 [.e .i64 n] t=some (.d (Aj n)):=by
 refine mC.2 (w147 ?_);unfold t147 Aj rB;by_cases h : -2147483648<=n
 .refine tA (fe h) ?_;rw[decide_eq_true h,F3,<- zD];exact⟨rfl,rfl⟩
 .refine vB (mh h) ?_;rw[decide_eq_false h,Bool.false_and];exact⟨rfl,rfl⟩
def Zf  : oB Y F 71 [.e .i64 n] t=some (.d (jS n)):=OJ
theorem zta{a:Bool}{r:rG}{u:O}{k b:Nat}{s:O}{B:List Nat}(z:bA t 1 (vD r.f.n.a) u)(A:bA t 1 (vD r.f.d.a) v)(w:r.f.a)(y:xC t k none [.q (.aa 147) [] []])(q:xC t b none [.h B,.d a,s]) :
  oB Y F 148 [.i [.e .i64 r.a,.e .i64 r.b,.e .i64 r.c,.d r.f.n.b,u,.d r.f.d.b,v],.j k 0,.j b 0] t=some (.d (bX a r)):=by
 refine mC.2 (w148 ?_);have c:oA Y 152 ⟨0,t⟩ (.j k 0)=some (.q (.aa 147) [] []):=y.f (j:=0) yv rfl rfl;have i:oA Y 4 ⟨0,t⟩ (.j b 1)=some (.d a):=q.f (j:=1) yr rfl rfl;have g:iB Y 92 1 (.j b 0)=some (.j b 1):=by kernel_rfl
 have m:∀(n:Int) (K:O->T) (Q:lB),wp 148 (K (.d (Aj n))) t Q->wp 148 (.n (.q (.aa 147) [] []) [.e .i64 n] K) t Q:=by
  intro n K Q h;show pD (some (147,[O.e .i64 n])) _;rw[xA];simp only[];rw[q147,zul,xA];exact h
 have p:∀(D:Bool),(wp 148 (.c 71 [(.e .i64 r.c)] λo=>
 .q o λe=>.a e
 (.c 69 [(.i [(.d r.f.n.b),u,(.d r.f.d.b),v])] λd=>
 .q d λf=>.l (.d f))
 (.l (.d false))) t (λx C=>x=.d (jS r.c&&wY r.f)/\C=t)):=by
  intro _;refine aA ?_;rw[q71,Zf,xA];refine iC ?_
  cases h:jS r.c with
  | false=>exact vB (by simp) ⟨rfl,rfl⟩
  | true=>
   refine tA rfl (aA ?_);rw[q69,KQ z A w,xA];exact iC ⟨rfl,rfl⟩
 unfold t148 bX J2 uB rB V;refine fB c (m _ _ _ (iC ?_))
 cases E:Aj r.a with
 | false=>exact vB (by simp) ⟨rfl,rfl⟩
 | true=>
  refine tA rfl (fB c (m _ _ _ (iC ?_)))
  cases H:Aj r.b with
  | false=>exact vB (by simp) ⟨rfl,rfl⟩
  | true=>
   refine tA rfl (uA g (fB i (iC ?_)))
   cases a with
   | true=>
    simp_all [tA]
   | false=>
    refine vB (by simp) ?_;by_cases l:r.b=0
    .simp_all [tA,jR]
    .refine vB (rM l) ?_;simp only[decide_eq_false l,Bool.or_false,Bool.false_and,E5];exact⟨rfl,rfl⟩
theorem zkw{x:mE} (hr:bA t 7 (x.a.map rG.d) a)(hx:x.e):oB Y F 91 [.i [.h x.b,.d x.c,a]] t=some (.d (oZ x)):=by
 have hlen:=hx.2.1;unfold lF at hlen;refine xV (w91 ?_);unfold t91 uB uS rB;refine kC λb hb hbase=>?_;obtain⟨t1,e1,c1,l1,o1⟩:=Eb hb [.h x.b,.d x.c,a] none;refine⟨.j b 0,⟨b+1,t1⟩,by rw[<- e1];rfl,?_⟩;refine kC λk hk kbase=>?_;obtain⟨t2,e2,c2,l2,o2⟩:=gP (C:=Y) yv hk;refine⟨_,_,e2,?_⟩;refine kC λn _ _=>?_;obtain⟨t3,e3,c3,o3⟩:=c2.g (v:=.q (.aa 147) [] []) kbase yv rfl rfl rfl (j:=0) (by simp)
 refine⟨_,_,e3 n,?_⟩;have hbk:b≠k:=by intro e;obtain⟨c,h,_⟩:=c1;simp_all
 have cb:xC t3 b none [.h x.b,.d x.c,a]:=c1.i (by rw[o3 b hbk,o2 b hbk]);have hle:zB t t3:=λc u hc=>by
  have h1:=l1 _ _ hc;have h2:c≠k:=λe=>by simp_all
  rw[o3 c h2];exact l2 _ _ h1
 have hfa0:iB Y 92 0 (.j b 0)=some (.j b 0):=by kernel_rfl
 have hfa2:iB Y 92 2 (.j b 0)=some (.j b 2):=by kernel_rfl
 refine uA hfa0 (fB (cb.f (j:=0) iI rfl rfl) (jC (aA ?_)));rw[q60,Kp,xA];refine iC ?_;unfold oZ
 cases h1:sI x.b with
 | false=>exact vB (by simp) ⟨rfl,hle⟩
 | true=>
  refine tA rfl (uA hfa2 (fB (cb.f (j:=2) Js rfl rfl) (aA ?_)));have hall:oB Y F 149 [a,.q (.aa 148) [] [.j k 0,.j b 0]] t3=some (.d (x.a.all (bX x.c))):=by
   refine mC.2 (w149 ?_);unfold t149 uI V;refine uA (hr.a hle).c (sB (qC ?_));rw[C4];refine Zy (dd:=rG.d) (P:=bX x.c) (S:=90) (el:=94) (zs:=[.e .i64 0,.e .i64 0,.e .i64 0,.d false,.g,.d false,.g]) (cond:=λX=>oD O.z [(.e .i64 (X.i 0)),(.e .i64 (X.i 1)),(.e .i64 (X.i 2)),(.d (X.b 3)),(X.v 4),(.d (X.b 5)),(X.v 6)]) S9 (λx _=>x.g) (hr.a hle) (by omega) (λi t Q h=>j149_2 h) ?_ ?_ x.a.length 0 (by omega)
   .intro cs h1 h2;have h3:fW [.e .i64 0,.e .i64 0,.e .i64 0,.d false,.g,.d false,.g] (AN cs) 0=cs:=by simpa using Tk _ cs [] h2
    have e:[O.e .i64 ((AN cs).i 0),.e .i64 ((AN cs).i 1),.e .i64 ((AN cs).i 2),.d ((AN cs).b 3),(AN cs).v 4,.d ((AN cs).b 5),(AN cs).v 6]=cs:=h3
    simp_all
   .intro r hr' cs hcs R hR;obtain⟨u,v,rfl,hu,hv⟩:=Nf hcs;show pD (some (148,[O.i [.e .i64 r.a,.e .i64 r.b,.e .i64 r.c,.d r.f.n.b,u,.d r.f.d.b,v],.j k 0,.j b 0])) _;rw[xA];simp only[];rw[q148,zta hu hv (hx.2.2 r hr').2.2.2 c3 cb,xA];exact hR
  rw[q149,hall,xA];exact iC ⟨rfl,hle⟩
theorem zcd{l:List mE} (hr:bA t 3 (l.map mE.d) v)(hlen:l.length<lF)(hx:∀x∈l,x.e):oB Y F 90 [v,.q (.aa 91) [] []] t=some (.d (l.all oZ)):=by
 unfold lF at hlen;refine mC.2 (w90 ?_);unfold t90 uI V;refine uA hr.c (sB (qC ?_));rw[C4];refine Zy (dd:=mE.d) (P:=oZ) (S:=49) (el:=92) (zs:=[.h [],.d false,.g]) (cond:=λX=>oD O.z [(.h (X.s 0)),(.d (X.b 1)),(X.v 2)]) OK (λx _=>x.f) hr (by omega) (λi t Q h=>j90_2 h) ?_ ?_ l.length 0 (by omega)
 .intro cs h1 h2;have h3:fW [.h [],.d false,.g] (AN cs) 0=cs:=by simpa using Tk _ cs [] h2
  have e:[O.h ((AN cs).s 0),.d ((AN cs).b 1),(AN cs).v 2]=cs:=h3
  simp_all
 .intro x hm cs hcs R hR;obtain⟨a,rfl,ha⟩:=Rn hcs;show pD (some (91,[O.i [.h x.b,.d x.c,a]])) _;rw[xA];simp only[];rw[q91,zkw ha (hx x hm),xA];exact hR
theorem zbx (A:xC t bf none lS){x:nD} (E:x.j)(Q:RD t x.d cs):oB Y F 93 [.i [.j bf 0],.i cs] t=some (.d (zZ x)):=by
 obtain⟨a,b,c,H,I,J,rfl,D,C⟩:=Nh Q;have i:=E.2.2.2.2.2.1;have g:=E.2.2.2.2.2.2;obtain⟨S,U,X,d,M,N,P⟩:=uJ D;obtain⟨T,W,Z,e,u,w,y⟩:=uJ C;simp only[mO,List.cons.injEq,true_and,and_true]at d e;obtain⟨rfl,rfl,rfl⟩:=d;obtain⟨rfl,rfl,rfl⟩:=e;have f:∀(k j:List O),k=mO x.a a b c->j=mO x.b H I J->wp 93 (.a x.h
 (.c 150 [(.i k)] λl=>
 .q l λp=>.a p
 (.c 150 [(.i j)] λm=>
 .q m λq=>.l (.d q))
 (.l (.d false)))
 (.c 27 [(.i [.j bf 0]),(.i k),(.e .i64 1)] λn=>
 .q n λr=>.a r
 (.c 27 [(.i [.j bf 0]),(.i j),(.e .i64 1)] λo=>
 .q o λs=>.l (.d s))
 (.l (.d false)))) t (λv R=>v=.d (if x.h=true then Dc x.a&&Dc x.b else fJ x.a 1&&fJ x.b 1)/\R=t):=by
  intro k j L K;subst L;subst K
  cases B:x.h with
  | true=>
   refine tA rfl (aA ?_);rw[q150,HC i M N P,xA];refine iC ?_;rw[A5 rfl]
   cases h:Dc x.a with
   | false=>exact vB (by simp) ⟨rfl,rfl⟩
   | true=>
    refine tA rfl (aA ?_);rw[q150,HC g u w y,xA];exact iC ⟨rfl,rfl⟩
  | false=>
   refine vB (by simp) (aA ?_);have d:=FH A x.a 1 _ i (by omega) D;have e:=FH A x.b 1 _ g (by omega) C;rw[show((1:Nat):Int)=1 from rfl]at d e;rw[q27,d,xA];refine iC ?_;rw[A3 (by simp)]
   cases h:fJ x.a 1 with
   | false=>exact vB (by simp) ⟨rfl,rfl⟩
   | true=>
    refine tA rfl (aA ?_);rw[q27,e,xA];exact iC ⟨rfl,rfl⟩
 refine mC.2 ?_;unfold mO;refine w93 ?_;unfold t93 zZ gc uB rB V uY;refine aA ?_;rw[q60,Kp,xA];refine iC ?_
 cases h1:sI x.g with
 | false=>exact tA rfl ⟨rfl,rfl⟩
 | true=>
  refine vB (by simp) (aA ?_);rw[q60,Kp,xA];refine iC ?_
  cases h2:sI x.c with
  | false=>exact tA rfl ⟨rfl,rfl⟩
  | true=>
   refine vB (by simp) (aA ?_);rw[q71,Zf,xA];refine iC ?_
   cases h3:jS x.f with
   | false=>exact tA rfl ⟨rfl,rfl⟩
   | true=>
    refine vB (by simp) (aA ?_);rw[q71,Zf,xA];refine iC ?_
    cases h4:jS x.e with
    | false=>exact tA rfl ⟨rfl,rfl⟩
    | true=>
     refine vB (by simp) (aA ?_);rw[q71,Zf,xA];refine iC ?_;simp only[F3]
     cases h5:jS x.i with
     | false=>
      refine tA rfl ?_;by_cases z:x.i=65536
      .refine vB (by grind [jR]) ?_;simp only[decide_eq_true z,Bool.or_true,F3];exact f _ _ rfl rfl
      .have:kB x.i 65536=false:=by
        grind [rM]
       refine tA (by simp_all) ?_;simp only[decide_eq_false z,Bool.or_false,Bool.false_and];exact⟨rfl,rfl⟩
     | true=>
      refine vB (by simp) ?_;simp only[Bool.true_or,F3];exact f _ _ rfl rfl
theorem ZS (hF:xC t bf none lS){l:List nD} (hr:bA t 24 (l.map nD.d) v)(hlen:l.length<lF)(hx:∀x∈l,x.j):oB Y F 92 [v,.q (.aa 93) [.i [.j bf 0]] []] t=some (.d (l.all zZ)):=by
 unfold lF at hlen;refine mC.2 (w92 ?_);unfold t92 uI V;refine uA hr.c (sB (qC ?_));rw[C4];refine Zy (dd:=nD.d) (P:=zZ) (S:=50) (el:=60) (zs:=[(.h []),(.h []),(.e .i64 0),(.e .i64 0),(.e .i64 0),(.d false),(.e .u8 0),(.h []),(.e .u8 0),(.d false),.g,(.d false),.g,(.e .i64 0),.g,(.e .u8 0),(.h []),(.e .u8 0),(.d false),.g,(.d false),.g,(.e .i64 0),.g])
  (cond:=λX2=>oD O.z [(.h (X2.s 0)),(.h (X2.s 1)),(.e .i64 (X2.i 2)),(.e .i64 (X2.i 3)),(.e .i64 (X2.i 4)),(.d (X2.b 5)),(.e .u8 (X2.i 6)),(.h (X2.s 7)),(.e .u8 (X2.i 8)),(.d (X2.b 9)),(X2.v 10),(.d (X2.b 11)),(X2.v 12),(.e .i64 (X2.i 13)),(X2.v 14),(.e .u8 (X2.i 15)),(.h (X2.s 16)),(.e .u8 (X2.i 17)),(.d (X2.b 18)),(X2.v 19),(.d (X2.b 20)),(X2.v 21),(.e .i64 (X2.i 22)),(X2.v 23)]) S8 (λx _=>x.k) hr (by omega) (λi t Q h=>j92_2 h) ?_ ?_ l.length 0 (by omega)
 .intro cs h1 h2;have h3:=Tk _ cs [] h2;rw[E8,G1]at h3;show oD O.z (fW [(.h []),(.h []),(.e .i64 0),(.e .i64 0),(.e .i64 0),(.d false),(.e .u8 0),(.h []),(.e .u8 0),(.d false),.g,(.d false),.g,(.e .i64 0),.g,(.e .u8 0),(.h []),(.e .u8 0),(.d false),.g,(.d false),.g,(.e .i64 0),.g] (AN cs) 0)=true
  simp_all
 .intro x hm cs hcs R hR;show pD (some (93,[.i [.j bf 0],O.i cs])) _;rw[xA];simp only[];rw[q93,zbx hF (hx x hm) hcs,xA];exact hR
def zl3 (e:xC t bf none lS)  (d:p.f)(i:RD t p.d cs):oB Y F 45 [.i [.j bf 0],.i cs] t=some (.d (xT p)):=by
 obtain⟨a,b,c,rfl,f,g,h⟩:=aX i;refine mC.2 (w45 ?_);unfold t45 xT uB rB;refine aA ?_;rw[q60,Kp,xA];refine iC ?_
 cases j:sI p.e with
 | false=>exact vB (by simp) ⟨rfl,rfl⟩
 | true=>
  refine tA rfl (aA ?_);rw[q89,zos f d.f,xA];refine iC ?_
  cases k:p.c.all vX with
  | false=>exact vB (by simp) ⟨rfl,rfl⟩
  | true=>
   refine tA rfl (aA ?_);rw[q90,zcd g d.e d.c,xA];refine iC ?_
   cases l:p.a.all oZ with
   | false=>exact vB (by simp) ⟨rfl,rfl⟩
   | true=>
    refine tA rfl (aA ?_);rw[q92,ZS e h d.b d.a,xA];exact iC ⟨rfl,rfl⟩
def KP  (i:p.f)(g:RD t p.d cs):oB Y F 18 [.i cs] t=some (.d (xT p)):=by
 have d:=g;obtain⟨a,b,c,rfl,m,n,o⟩:=aX g;refine xV (w18 ?_);unfold t18 uB uG;refine aA ?_;rw[q26];refine XR λbf q j k h f l=>?_;refine aC (kQ rfl) (tA ?_ (aA ?_))
 .exact d.i
 .have e:(AN [O.j bf 0]).v 0=.j bf 0:=rfl;rw[q45,e,zl3 h i (d.f f),xA];exact iC ⟨rfl,f⟩
end
section
variable {n:Nat}{f:qF}
theorem FS{ds es:List Nat}(k:ds≠[])(g:∀b∈ds,dD b=true)(w:sQ ds=false){s:List Nat}(n:s=ds/\es=[]\/s=ds++47::es/\es≠[]/\es≠[48])(i:∀b∈es,dD b=true)(t:sQ es=false)(v:s.length<=200):jE s=.aa 2 s:=by
 have l:rE s=ds/\wH s=es/\xH s=s.length:=by
  rcases n with⟨rfl,rfl⟩ | ⟨rfl,o,_⟩
  .have l:rE s=s:=by
    have:=jZ (p:=dD) (a:=s) (r:=[]) g (λb u e=>by cases e)
    rwa [C8]at this
   grind [wH,xH]
  .have:=zba (r:=[]) k g o i (λb u e=>by cases e)
   rwa [C8]at this
 have f:∀b∈s,b≠45:=by
  rcases n with⟨rfl,rfl⟩ | ⟨rfl,_,_⟩
  .simp_all [Oo]
  .intro b d;rcases F5.1 d with h | h
   .simp_all [Oo]
   .rcases C3.1 h with rfl | h
    all_goals simp_all [Oo]
 have q:es≠[48]:=by
  grind
 have d:tM s=false:=by
  grind [tM,cT]
 have c:=ztv f;obtain⟨x,r,e,j⟩:∃x r,s=x::r/\dD x=true:=by
  obtain⟨x,r,rfl,j⟩:=OW k g
  grind
 have m:=l.2.2;rw[e]at d c m ⊢;unfold jE;simp only[(Oo j).2.2.2.2.2.2,j,c,d,F0,if_false,if_true,E5];rw[m,List.take_length]
def uM (f:qF):List Nat:=mF (A4 65536 f.n.a)++(if aW f.d then []else 47::mF (A4 65536 f.d.a))
theorem OX(s:List Nat):dT s [45]=decide (s.head?=some 45):=by
 unfold dT
 cases s with
 | nil=>rfl
 | cons x r=>
  rw[decide_eq_true (by simp)];simp only[Do,G1,List.take,F3,List.head?_cons,Option.some.injEq];by_cases h:x=45
  .subst h;rfl
  grind [zrf]
theorem QZ {r:List Nat}:(mF n++r).head?≠some 45:=by
 obtain⟨x,b,e,a⟩:=OW (Zb n) (Ll n);rw[Cn,e];intro h;cases h;cases a
def Hk(neg:Bool):List Nat:=if neg then [109,105,110,117,115,32]else []
theorem BZ (h:f.d.b=false):iH (qK f)=Hk f.n.b++uM f/\(if dT (qK f) [45]then(qK f).drop 1 else qK f)=uM f:=by
 grind [iH,qK,uM,Ge,eu,OX,Hk,QZ]
def BY{n:Int}:iH (xJ n)=Hk (decide (n<0))++mF n.natAbs:=by
 unfold iH Hk;rw[OX];by_cases h:n<0
 .obtain⟨u,rfl,a⟩:∃u:Nat,n = -(u:Int)/\0<u:=⟨n.natAbs,by omega,by omega⟩
  grind [EF]
 .obtain⟨u,rfl⟩:∃u:Nat,n=(u:Int):=⟨n.toNat,by omega⟩;rw[Xr,show(u:Int).natAbs=u by omega];have:(mF u).head?≠some 45:=by have:=QZ (n:=u) (r:=[]);rwa [C8]at this
  simp_all
def PF (a:f.a)(d:uN f=true):f.d.b=false/\f.d.a=dC (A4 65536 f.d.a)/\f.n.a=dC (A4 65536 f.n.a)/\0<A4 65536 f.d.a/\(f.n.b=true->0<A4 65536 f.n.a)/\Nat.gcd (A4 65536 f.n.a) (A4 65536 f.d.a)=1/\(aW f.d=true->A4 65536 f.d.a=1):=by
 obtain⟨_,g,i⟩:=a;unfold uN at d;simp only[B2,F4,G7,decide_eq_true_eq]at d;obtain⟨⟨⟨⟨⟨⟨_,_⟩,k⟩,m⟩,r⟩,p⟩,q⟩:=d;have c:∀ {b:Bool} {l:List Nat},yM b l=true->B4 l:=by
  intro b l h e;grind [yM]
 have n:=Ss g (c k) rfl;have o:=Ss i (c m) rfl;have j:aW f.d=true->A4 65536 f.d.a=1:=by
  intro h;unfold aW at h;simp only[B2,decide_eq_true_eq]at h;rw[h.2];rfl
 grind [Ky,yM,Nat.gcd_one_right]
theorem DF (c:f.a)(q:uN f=true):kP (uM f) f.n.b=f:=by
 obtain⟨d,g,i,t,j,k,n⟩:=PF c q;have s:kP (uM f) f.n.b=oO f.n.b (A4 65536 f.n.a) (A4 65536 f.d.a):=by
  unfold kP uM;rw[Cn,Cn];by_cases h:aW f.d=true
  .rw[A5 h,C8,FW,n h];have:jP (pK (A4 65536 f.n.a))=pK (A4 65536 f.n.a):=by
    have:=jZ (p:=λb=>decide (b≠47)) (a:=pK (A4 65536 f.n.a)) (r:=[]) (λb o=>Tv (Ll _ b o)) (λb u e=>by cases e)
    rwa [C8]at this
   grind [Uc]
  grind [zn5,Ll,Uc]
 rw[s];unfold oO;rw[k,Nat.div_one,Nat.div_one,<- g,<- i];obtain⟨⟨a,l⟩,⟨b,m⟩⟩:=f;simp only at d j ⊢;rw[d];cases a
 all_goals grind
def zme (a:f.a)(c:uN f=true)(b:(uM f).length<=200):jE (uM f)=.aa 2 (uM f):=by
 obtain⟨d,g,i,j,k,l,m⟩:=PF a c;have e:uM f=pK (A4 65536 f.n.a)++(if aW f.d then []else 47::pK (A4 65536 f.d.a)):=by unfold uM;rw[Cn,Cn]
 by_cases h:aW f.d=true
 .rw[A5 h,C8]at e;exact FS (es:=[]) (Zb _) (Ll _) (FX _) (.inl ⟨e,rfl⟩) (by simp) rfl b
 grind [FS,Zb,Ll,FX,ziy]
def zis (h:n<10^200):jE (mF n)=.aa 2 (mF n):=by
 rw[Cn];exact FS (es:=[]) (Zb _) (Ll _) (FX _) (.inl ⟨rfl,rfl⟩) (by simp) rfl (RG 199 n h)
end
section
variable {s y w:List Nat}{c k:Nat}{R l z:List qD}{neg:Bool}{f:qF}{v:iF}{a:qD}
def Lx (s:List Nat)(l:List qD):Prop:=∀r o,Gu r->rS (s++r) o=(rS r true).map λm=>l++m
theorem Lx.i  (h:jE w=.aa k w):Lx w [(k,w)]:=by
 intro r o a
 cases w with
 | nil=>have h:TR.ac 110=.aa k []:=h;cases h
 | cons b w=>
  grind [zkn,MN]
theorem Lx.u  (h:Lx s l)(a:Lx y z):Lx (s++32::y) (l++z):=by
 intro r o b;rw[D4,List.cons_append,h _ _ (λc d e=>by simp_all),zgo (.inl rfl),a _ _ b]
 simp_all [Function.comp_def]
theorem Sl (b:Hu c=true)(r:List Nat)(o:Bool):rS (c::r) o=(rS r true).map λm=>(4,[c])::m:=by
 have a:c=40\/c=41\/c=44\/c=43\/c=45\/c=42\/c=47\/c=60\/c=61:=by simp_all [Hu]
 grind [jE,rO,dD,MN]
theorem Lx.x  (h:Lx s l):Lx ([40]++s++[41]) ((4,[40])::(l++[(4,[41])])):=by
 intro r o a;rw[show [40]++s++[41]++r=40::(s++(41::r)) by simp,Sl rfl,h _ _ (λc b e=>by grind),Sl rfl]
 simp_all [Function.comp_def]
theorem Lx.sg   (h:Lx s l)(a:c=40\/c=41\/c=44):Lx (s++[c]) (l++[(4,[c])]):=by
 intro r o b;rw[D4,h _ _ (λd f e=>by simp_all),List.singleton_append,Sl (by rcases a with rfl | rfl | rfl<;>rfl)]
 simp_all [Function.comp_def]
theorem Lx.p  (h:Lx s l)(a:Lx y z)(f:∃c r,y=c::r/\(c=40\/c=41\/c=44)):Lx (s++y) (l++z):=by
 intro r o b;obtain⟨c,g,rfl,i⟩:=f;rw[D4,h _ _ (λd g e=>by simp_all),a _ _ b]
 simp_all [Function.comp_def]
theorem Lx.q   (h:Lx s l)(a:Hu c=true):Lx (c::s) ((4,[c])::l):=by
 intro r o b;rw[List.cons_append,Sl a,h _ _ b];simp_all [Function.comp_def]
def Lx.t  (h:Lx s l):Lx (32::s) l:=by
 intro r o a;rw[List.cons_append,zgo (.inl rfl),h _ _ a]
theorem Lx.g    (h:jE w=.aa k w)(a:Lx s l):Lx (w++32::s) ((k,w)::l):=(Lx.i h).u a
def pM(neg:Bool):List qD:=if neg then [(1,pL)]else []
def fX (v:iF):List qD:=
 if v.a=1 then [(1,if v.i=1 then Mg else Mi)]
 else if v.a=2 then pM v.f.n.b++[(2,uM v.f)]
 else if v.a=3 then(1,Jg)::(pM v.f.n.b++[(2,uM v.f)])
 else if v.a=4 then [(3,vH v.i.toNat)]
 else pM (decide (v.i<0))++[(2,mF v.i.natAbs),(1,if v.a=5 then kX else lX)]
def Lx.j   (h:Lx s l):Lx (Hk neg++s) (pM neg++l):=by
 unfold Hk pM;cases neg
 .exact h
 .exact Lx.g (w:=pL) (by kernel_rfl) h
theorem Wm (h:wY f=true):uN f=true/\f.d.b=false/\(uM f).length<=200:=by
 have a:f.d.b=false:=by grind [wY,uN]
 grind [wY,BZ]
def EU (a:f.a)(h:wY f=true):Lx (iH (qK f)) (pM f.n.b++[(2,uM f)]):=by
 obtain⟨b,c,d⟩:=Wm h;rw[(BZ c).1];exact(Lx.i (zme a b d)).j
theorem CS (h:tQ v=true):v.a=1/\v.f=aK/\(v.i=0\/v.i=1)\/(v.a=2\/v.a=3)/\v.i=0/\wY v.f=true\/v.a=4/\v.f=aK/\0<=v.i/\v.i<65536\/(v.a=5\/v.a=6)/\v.f=aK /\ -1048576<=v.i/\v.i<=1048576:=by
 unfold tQ at h;split at h
 all_goals grind [GX]
theorem zr5 (a:v.f.a)(h:tQ v=true):Lx (Gi v) (fX v):=by
 have b:=CS h;obtain⟨l,f,i⟩:=v;simp only at b a;rcases b with⟨rfl,_,j⟩ | ⟨k,_,c⟩ | ⟨rfl,_,e,g⟩ | ⟨k,_,e,g⟩
 .show Lx (if i=1 then [116,114,117,101]else [102,97,108,115,101]) [(1,if i=1 then Mg else Mi)];split
  .exact Lx.i (by kernel_rfl)
  .exact Lx.i (by kernel_rfl)
 .rcases k with rfl | rfl
  .exact EU a c
  .exact Lx.g (w:=Jg) (by kernel_rfl) (EU a c)
 .exact Lx.i (w:=vH i.toNat) (RI (by omega))
 .have d:jE (mF i.natAbs)=.aa 2 (mF i.natAbs):=zis (Nat.lt_of_lt_of_le (show i.natAbs<10^7 by omega) (O8 (by omega) (by omega)));rcases k with rfl | rfl
  .show Lx (iH (xJ i)++[32,100,97,121,115]) _;rw[BY,D4];exact(Lx.g d (Lx.i (w:=kX) (k:=1) (by kernel_rfl))).j
  .show Lx (iH (xJ i)++[32,109,111,110,116,104,115]) _;rw[BY,D4];exact(Lx.g d (Lx.i (w:=lX) (k:=1) (by kernel_rfl))).j
section
variable {tk:List xD}{K:List qD}{n:Nat}
def lh (h:K.drop n=l++R){i:Nat}(hi:i<l.length):K[n+i]?=l[i]?:=by
 rw[<- mb,h,mu hi]
theorem cD  (h:K.drop n=a::R):K[n]?=some a:=by
 have:=lh (l:=[a]) (R:=R) h (i:=0) (by simp)
 simp_all
def gL (h:K.drop n=l++R):K.drop (n+l.length)=R:=by
 rw[<- List.drop_drop,h];simp
def vF  (h:K.drop n=a::R):K.drop (n+1)=R:=gL (l:=[a]) h
theorem Bc(a:tk.map kt=K){q:Nat}{u:List Nat}(h:K[n]?=some (q,u))(b:q=2\/q=3\/q=5)(w:List Nat):By tk w n=false:=by
 rw[Uo a h];rcases b with rfl | rfl | rfl<;>rfl
def zf4(R:List qD):Prop:=∀q u a,R=(q,u)::a->u≠kX/\u≠lX
theorem GR(c:tk.map kt=K)  (h:K.drop n=R)(d:∀q u b,R=(q,u)::b->u≠w):By tk w n=false:=by
 cases R with
 | nil=>
  grind [List.drop_eq_nil_iff,MD]
 | cons a R=>exact fH c (cD h) (d a.1 a.2 R rfl)
def zfj(b:tk.map kt=K)   (h:K.drop n=(2,s)::R)(c:zf4 R):zY tk neg n=.ok ⟨2,kP s neg,0⟩ (n+1):=by
 unfold zY;rw[Jv b (cD h)];show(if (By tk kX (n+1)||By tk lX (n+1))=true then _ else _)=_;rw[GR b (vF h) λq u a e=>(c q u a e).1,GR b (vF h) λq u a e=>(c q u a e).2];rfl
theorem zak(a:tk.map kt=K) {i:Int}  {b:Bool}(h:K.drop n=(2,s)::(1,if b=true then kX else lX)::R)(d:sK s=false)(hi:nP s neg (-1048576) 1048576=some i):zY tk neg n=.ok ⟨if b=true then 5 else 6,aK,i⟩ (n+2):=by
 have c:=cD (vF h);unfold zY;rw[Jv a (cD h)];show(if (By tk kX (n+1)||By tk lX (n+1))=true then _ else _)=_
 grind [fH,dL]
def RS(b:tk.map kt=K)   (h:K.drop n=pM neg++(2,s)::R):sX tk n=(zY tk neg (n+(pM neg).length)).c λv c=>.ok (some v) c:=by
 unfold sX;cases neg
 .have a:=cD (show K.drop n=(2,s)::R from h);rw[Bc b a (.inl rfl),Bc b a (.inl rfl),Bc b a (.inl rfl),Bc b a (.inl rfl),Cd b a,Cd b a];rfl
 .have a:=cD (show K.drop n=(1,pL)::(2,s)::R from h);rw[fH b a (by decide),fH b a (by decide),fH b a (by decide),dL b a (.inl rfl),Cd b a];rfl
theorem zi2(a:tk.map kt=K) (g:v.f.a)(h:tQ v=true) (c:K.drop n=fX v++R)(r:zf4 R):sX tk n=.ok (some v) (n+(fX v).length):=by
 have o:=CS h;obtain⟨l,f,i⟩:=v;simp only at o g;rcases o with⟨rfl,rfl,j⟩ | ⟨k,rfl,s⟩ | ⟨rfl,rfl,m,b⟩ | ⟨k,rfl,m,b⟩
 .have b:=cD (show K.drop n=(1,if i=1 then Mg else Mi)::R from c);unfold sX;rcases j with rfl | rfl
  .rw[A3 (by omega)]at b;rw[fH a b (by decide),dL a b (.inl rfl)];rfl
  .rw[A5 rfl]at b;rw[dL a b (.inl rfl)];rfl
 .obtain⟨u,w,_⟩:=Wm s;rcases k with rfl | rfl
  .have c:K.drop n=pM f.n.b++(2,uM f)::R:=by grind [fX]
   rw[RS a c,zfj a (gL c) r,DF g u]
   grind [fX,PR.c]
  .have c:K.drop n=(1,Jg)::(pM f.n.b++(2,uM f)::R):=by grind [fX]
   have b:=cD c;unfold sX;rw[fH a b (by decide),fH a b (by decide),dL a b (.inl rfl),Cd a b];have t:By tk pL (n+1)=f.n.b:=by
    have d:=vF c
    cases p:f.n.b with
    | false=>rw[p]at d;exact Bc a (cD (show K.drop (n+1)=(2,uM f)::R from d)) (.inl rfl) _
    | true=>rw[p]at d;exact dL a (cD (show K.drop (n+1)=(1,pL)::(2,uM f)::R from d)) (.inl rfl)
   rw[t];have q:(if f.n.b=true then n+2 else n+1)=n+1+(pM f.n.b).length:=by unfold pM;split<;>rfl
   show(wM tk 2 (if f.n.b=true then n+2 else n+1)).c _=_;rw[q,Jv a (cD (gL (vF c)))];show PR.ok (some (⟨3,kP (uM f) f.n.b,0⟩:iF)) _=_
   grind [DF,fX]
 .have d:=cD (show K.drop n=(3,vH i.toNat)::R from c);unfold sX;rw[Bc a d (.inr (.inl rfl)),Bc a d (.inr (.inl rfl)),Cd a d,RH a d,GC (by omega)];show PR.ok (some (⟨4,aK,((i.toNat:Nat):Int)⟩:iF)) _=_;rw[show((i.toNat:Nat):Int)=i by omega];rfl
 .have e:fX ⟨l,aK,i⟩=pM (decide (i<0))++[(2,mF i.natAbs),(1,if l=5 then kX else lX)]:=by
   rcases k with rfl | rfl<;>rfl
  rw[e]at c ⊢;have c:K.drop n=pM (decide (i<0))++(2,mF i.natAbs)::(1,if decide (l=5)=true then kX else lX)::R:=by grind
  have j:nP (mF i.natAbs) (decide (i<0)) (-1048576) 1048576=some i:=by
   unfold nP;rw[Cn,Uc];have:(if decide (i<0)=true then -((i.natAbs:Nat):Int)else(i.natAbs:Nat))=i:=by
    grind
   simp only[this];rw[A5 ⟨m,b⟩]
  rw[RS a c,zak a (gL c) (by rw[Cn];exact FW _) j];show PR.ok (some _) _=_
  grind
end
end
section
variable [fC]
variable {t:G vA}
def oy{f:qF}{u v:O}(a:bA t 1 (vD f.n.a) u)(b:bA t 1 (vD f.d.a) v)(c:f.c):oB Y F 25 [.i [.d f.n.b,u,.d f.d.b,v]] t=some (.e .i64 (zS f:Nat)):=by
 have d:=Rb c;refine mC.2 (w25 ?_);unfold zS at d   ⊢;simp (disch:=omega) only[uI,V,uW,t25,lA,a.c,b.c,xA,yC,wU,A2];simp
mutual
theorem ie:∀(x:iA) (left:Int) (cs:List O),x.r -> -9007199254740992<=left->left<=9007199254740992->RD t x.d cs->oB Y F 8 [.i cs,.e .i64 left] t=some (.e .i64 (hO x left))
 | .mk op name v args,left,cs,I,g,j,h=>by
  obtain⟨a,b,c,rfl,u,w,k⟩:=uJ h;simp only[iA.e,iA.i,iA.v,iA.k]at u w k ⊢;have f:=I;unfold iA.r at f;have P:=Rb f.2.1;have r:=f.1;unfold lF at r;refine mC.2 (w8 ?_);simp (disch:=omega) only[uI,V,uY,uW,t8,lA,q25,oy u w f.2.1,xA,yC,Gx,Gy,if_true,eW,A2,Int.tdiv_eq_ediv_of_nonneg];unfold hO;exact zp3 args args left _ op name v _ _ c 0 k rfl f.2.2.2 f.2.2.1 (by omega) g j (by omega)
theorem zp3:∀(l args:List iA) (left n:Int) (op:Nat) (name:List Nat) (v:iF) (a b c:O) (i:Nat),bA t 9 (args.map iA.d) c->args.drop i=l->iA.m l->args.length<lF->0<=n -> -9007199254740992<=left->left<=9007199254740992->n<=27021597764222976 →
  jp 8 2 [.e .i64 left,.e .i64 n,.e .i64 i,.e .u8 op,.h name,.e .u8 v.a,.d v.f.n.b,a,.d v.f.d.b,b,.e .i64 v.i,c] t (λv' t'=>v'=.e .i64 (cX l left n)/\t'=t)
 | [],args,left,n,op,name,v,a,b,c,i,k,q,o,m,r,g,j,s=>by
  have:=QX q;refine j8_2 ?_;simp only[uI,uG,tC,V,uY,uW,bF,t8_2,lA,k.c,xA,yC,C4,kE];grind [cX]
 | x::l,args,left,n,op,name,v,a,b,c,i,k,q,o,m,r,g,j,s=>by
  obtain⟨A,B,N⟩:=QY q;unfold lF at m;have e:=o;unfold iA.m at e;refine j8_2 ?_;obtain⟨R,S,cs,y,z,L,M,p⟩:=gG.at On (by simp) k (i:=i) (d:=x.d) (by simp[A]);simp only[uI,uG,tC,V,uY,uW,bF,t8_2,lA,k.c,xA,yC,C4,kE,mI,y,z,Bo];rw[A5 (by omega)];unfold cX;split
  .rename_i H;obtain⟨J,K,c1,rfl,C,D,E⟩:=uJ p;have Q:=Vx x (left-n) e.1;rw[kN p x.s];simp only[xA,AN,Tc,sw,Fm,Gj];simp (disch:=omega) only[q8,If,In,A2];rw[ie x (left-n) _ e.1 (by omega) (by omega) p];simp (disch:=omega) only[xA,yC,A2];have:=zp3 l args left (n+hO x (left-n)) op name v a b c (i+1) k B e.2 m (by omega) g j (by omega)
   simp_all
  .simp
end
end
section
variable {x:nD}{l:List nD}{i:Nat}
variable [fC]
variable {t:G vA}
def Ii(x:nD)(a b c a' b' c':O):List O:=[.h x.g,.h x.c,.e .i64 x.f,.e .i64 x.i,.e .i64 x.e,.d x.h,.e .u8 x.a.e,.h x.a.i,.e .u8 x.a.v.a,.d x.a.v.f.n.b,a,.d x.a.v.f.d.b,b,.e .i64 x.a.v.i,c,.e .u8 x.b.e,.h x.b.i,.e .u8 x.b.v.a,.d x.b.v.f.n.b,a',.d x.b.v.f.d.b,b',.e .i64 x.b.v.i,c']
def zce:List O:=[(.h []),(.h []),(.e .i64 0),(.e .i64 0),(.e .i64 0),(.d false),(.e .u8 0),(.h []),(.e .u8 0),(.d false),.g,(.d false),.g,(.e .i64 0),.g,(.e .u8 0),(.h []),(.e .u8 0),(.d false),.g,(.d false),.g,(.e .i64 0),.g]
def zas {a b c a' b' c':O}(g:O.z a=true)(h:O.z b=true)(i:O.z c=true)(d:O.z a'=true)(e:O.z b'=true)(f:O.z c'=true):oD O.z (Ii x a b c a' b' c')=true:=by
 rw[gI];simp only[Ii,Z8,sf,g,h,i,d,e,f];rfl
def zjd {v:O}(n:bA t 24 (l.map nD.d) v)  (o:l[i]?=some x) :
  ∃p off a b c a' b' c',zC Y 50 v (.e .i64 (i:Int))=some (.j p off)/\oA Y 60 ⟨0,t⟩ (.j p off)=some (.i (Ii x a b c a' b' c'))/\nK zce (.i (Ii x a b c a' b' c'))=some (AN (Ii x a b c a' b' c')) ∧
   RD t x.a.d (mO x.a a b c)/\RD t x.b.d (mO x.b a' b' c')/\oD O.z (Ii x a b c a' b' c')=true:=by
 obtain⟨p,off,A,k,m,_,_,g⟩:=gG.at S8 (by simp) n (i:=i) (d:=x.d) (by simp[o]);have q:=kN g x.k;obtain⟨a,b,c,a',b',c',rfl,h,j⟩:=Nh g;obtain⟨B,C,D,e,r,s,u⟩:=uJ h;obtain⟨E,F,H,f,w,y,z⟩:=uJ j;unfold mO at e f;cases e;cases f;exact⟨p,off,_,_,_,_,_,_,k,m,q,h,j,zas r.e s.e u.e w.e y.e z.e⟩
def Dm:List eE->Int->Int
 | [],n=>n
 | d::l,n=>if n<=2000 then Dm l (n+(d.a.length:Int) / 30)else n
def mW:List rG->Int->Int
 | [],n=>n
 | r::l,n=>if n<=2000 then mW l (n+(zS r.f:Nat))else n
def kZ:List mE->Int->Int
 | [],n=>n
 | x::l,n=>if n<=2000 then kZ l (mW x.a (n+(x.b.length:Int) / 30))else n
def vR(c:nD)(n:Int):Int:=n+((c.g.length:Int) / 30+(c.c.length:Int) / 30+hO c.a (2000-n))
def lW:List nD->Int->Int
 | [],n=>n
 | c::l,n=>if n<=2000 then(if vR c n<=2000 then lW l (vR c n+hO c.b (2000-vR c n))else lW l (vR c n))else n
def uk(p:rD):Int:=lW p.b (kZ p.a (Dm p.c (1+(p.e.length:Int) / 30+p.c.length+p.a.length+p.b.length)))
def ul(n:Nat):Int.tdiv (n:Int) 30=(n:Int) / 30:=Int.tdiv_eq_ediv_of_nonneg (by omega)
section
variable {p:rD}{a b c:O}
theorem WE (j:bA t 24 (l.map nD.d) c)(T:l.length<1125899906842624)(P:∀x∈l,x.j):∀(m i:Nat) (n:Int),i+m=l.length->0<=n->n<1152921504606846976->jp 16 14 [.e .i64 2000,.e .i64 n,.e .i64 (i:Int),.h p.e,a,b,c] t (λv s=>v=.e .i64 (lW (l.drop i) n)/\s=t):=by
 intro m;induction m with
 | zero=>
  intro i n Q M N;refine zqz ?_;simp only[uI,uG,aB,tC,V,uY,uW,mf,xd,lA,j.c,xA,yC,C4,kE];rw[A3 (by omega),E3 (by omega)]
  (first | exact⟨rfl,rfl⟩ | exact⟨rfl,trivial⟩ | trivial)
 | succ m B=>
  intro i n Q M N;have d:i<l.length:=by omega
  obtain⟨q,R,X,Z,u3,w1,w2,w3,I,J,y,K,L,z⟩:=zjd j (C6 d);have e:=P _ (F2 d);obtain⟨D,E,_,_,_,F,H⟩:=e;unfold lF at D E;have f:=iA.g F;have g:=iA.g H;refine zqz ?_;simp only[uI,uG,aB,tC,V,uY,uW,mf,xd,lA,j.c,xA,yC,C4,kE,mI];rw[A5 (by omega),G0 d];unfold lW;by_cases A:n<=2000
  .rw[A5 A,A5 A];unfold zce at y;rw[I,xA,J,xA,y,xA];unfold Ii at z;simp only[Ii,AN,Tc,sw,Fm,Gj,If,In];have U:=Vx l[i].a (2000-n) f;have r:=ie l[i].a (2000-n) _ f (by omega) (by omega) K;unfold mO at r;have S:vR l[i] n=n+((l[i].g.length:Int) / 30+(l[i].c.length:Int) / 30+hO l[i].a (2000-n)):=rfl;have C:cA .i64 (n+cA .i64 (cA .i64 (cA .i64 ((l[i].g.length:Int) / 30)+cA .i64 ((l[i].c.length:Int) / 30))+hO l[i].a (2000-n)))=vR l[i] n:=by
    rw[A2 (n:=(l[i].g.length:Int) / 30) (by omega) (by omega),A2 (n:=(l[i].c.length:Int) / 30) (by omega) (by omega),A2 (n:=(l[i].g.length:Int) / 30+(l[i].c.length:Int) / 30) (by omega) (by omega),
     A2 (n:=(l[i].g.length:Int) / 30+(l[i].c.length:Int) / 30+hO l[i].a (2000-n)) (by omega) (by omega),A2 (by omega) (by omega)]
    rfl
   have o:0<=vR l[i] n/\vR l[i] n<1152921504606846976:=by omega
   refine EH z ?_;rw[A2 (n:=2000-n) (by omega) (by omega),q8,r,xA,yC,xA];simp only[Gx,Gy,if_true,eW,ul,C,mI];have w:cA .i64 ((i:Int)+1)=((i+1:Nat):Int):=by grind [A2]
   generalize vR l[i] n=k at *;by_cases h:k<=2000
   .rw[A5 h,A5 h];have W:=Vx l[i].b (2000-k) g;have u:=ie l[i].b (2000-k) _ g (by omega) (by omega) L;unfold mO at u;rw[A2 (n:=2000-k) (by omega) (by omega),q8,u,xA,yC,xA,w,A2 (by omega) (by omega)];exact B (i+1) _ (by omega) (by omega) (by omega)
   .rw[A3 h,A3 h,w];exact B (i+1) _ (by omega) o.1 o.2
  grind
theorem JB:∀(l:List rG) (n:Int),(∀r∈l,r.e)->0<=n->0<=mW l n/\mW l n<=max n 4503599627372496
 | [],n,_,h=>by grind [mW]
 | r::l,n,a,h=>by
  unfold mW;split
  .have:=Rb (a r (by simp)).2.2.2.1;have:=JB l (n+(zS r.f:Nat)) (λx b=>a x (by simp[b])) (by omega);omega
  .omega
theorem QG{l:List mE}(f:bA t 3 (l.map mE.d) b) (hi:i<l.length):∃p o v,zC Y 49 b (.e .i64 (i:Int))=some (.j p o)/\iB Y 92 0 (.j p o)=some (.j p (o+0))/\iB Y 92 2 (.j p o)=some (.j p (o+2))/\oA Y 9 ⟨0,t⟩ (.j p (o+0))=some (.h l[i].b)/\oA Y 90 ⟨0,t⟩ (.j p (o+2))=some v/\bA t 7 (l[i].a.map rG.d) v:=by
 obtain⟨p,o,h,c,j,a,_,e⟩:=gG.at OK (by simp) f (i:=i) (d:=l[i].d) (by simp_all);obtain⟨v,rfl,g⟩:=Rn e;exact⟨p,o,v,c,by kernel_rfl,by kernel_rfl,a.d iI rfl rfl,a.d Js rfl rfl,g⟩
theorem zeu{l:List mE}(L:bA t 3 (l.map mE.d) b)(M:∀x∈l,x.e) (hi:i<l.length)(N:i<1125899906842624){Q:lB}:∀(m j:Nat) (n:Int),j+m=l[i].a.length->0<=n->n<1152921504606846976 →
  jp 16 6 [.e .i64 2000,.e .i64 (mW (l[i].a.drop j) n),.e .i64 ((i+1:Nat):Int),.h p.e,a,b,c] t Q->jp 16 10 [.e .i64 2000,.e .i64 n,.e .i64 (i:Int),.e .i64 (j:Int),.h p.e,a,b,c] t Q:=by
 obtain⟨q,o,v,z,g2,h,g4,k,r⟩:=QG L hi;have f:=M _ (F2 hi);obtain⟨D,E,F⟩:=f;unfold lF at D E;have B:cA .i64 ((i:Int)+1)=((i+1:Nat):Int):=by grind [A2]
 intro m;induction m with
 | zero=>
  intro j n P I J e;rw[E3 (by omega)]at e;refine zq0 ?_;simp only[uI,uG,tC,V,uW,P3,xb,lA];rw[z,xA,h,xA,k,xA,r.c,xA,C4,yC,xA];simp only[kE];rw[A3 (by omega),B];exact e
 | succ m ih=>
  intro j n P I J e;have g:j<l[i].a.length:=by omega
  rw[G0 g]at e;unfold mW at e;refine zq0 ?_;simp only[uI,uG,tC,V,uW,P3,xb,lA];rw[z,xA,h,xA,k,xA,r.c,xA,C4,yC,xA];simp only[kE,mI];rw[A5 (by omega)];by_cases K:n<=2000
  .rw[A5 K]at e ⊢;obtain⟨u,s,cs,U,k2,W,_,X⟩:=gG.at S9 (by simp) r (i:=j) (d:=l[i].a[j].d) (by simp_all);obtain⟨x,y,rfl,R,S⟩:=Nf X;have H:iB Y 94 3 (.j u s)=some (.j u (s+3)):=by kernel_rfl
   have Z:oA Y 26 ⟨0,t⟩ (.j u (s+3))=some (.i [.d l[i].a[j].f.n.b,x,.d l[i].a[j].f.d.b,y]):=W.e (j:=3) ty26 rfl rfl (by simp_all);have w:(l[i].a[j]).e:=F _ (F2 g);have T:nK [(.d false),.g,(.d false),.g] (.i [.d l[i].a[j].f.n.b,x,.d l[i].a[j].f.d.b,y])=some (AN [.d l[i].a[j].f.n.b,x,.d l[i].a[j].f.d.b,y]):=kQ (by
    show(true&&(Ap .g x&&(true&&(Ap .g y&&true))))=true
    grind [Ym])
   have A:=oy R S w.2.2.2.1;have hs:=Rb w.2.2.2.1;have C:cA .i64 ((j:Int)+1)=((j+1:Nat):Int):=by grind [A2]
   simp only[xA,h,k];rw[U,xA,H,xA,Z,xA,T,xA];simp only[AN,Fm,Gj,If,In];rw[q25,A,xA,yC,xA,C,A2 (by omega) (by omega)]
   grind
  grind
theorem WD(k:bA t 3 (p.a.map mE.d) b)(B:bA t 24 (p.b.map nD.d) c)(g:p.f):∀(m i:Nat) (n:Int),i+m=p.a.length->0<=n->n<1152921504606846976->jp 16 6 [.e .i64 2000,.e .i64 n,.e .i64 (i:Int),.h p.e,a,b,c] t (λv s=>v=.e .i64 (lW p.b (kZ (p.a.drop i) n))/\s=t):=by
 have r:=g.e;have f:=g.b;unfold lF at r f;have l:∀n:Int,0<=n->n<1152921504606846976->jp 16 14 [.e .i64 2000,.e .i64 n,.e .i64 0,.h p.e,a,b,c] t (λv s=>v=.e .i64 (lW p.b n)/\s=t):=by
  intro n h j;have:=WE (p:=p) (a:=a) (b:=b) B f g.a p.b.length 0 n (by omega) h j
  simp_all
 intro m;induction m with
 | zero=>
  intro i n C h j;refine j16_6 ?_;simp only[uI,uS,V,uW,xa,lA,k.c,xA,yC,C4,kE];rw[A3 (by omega),E3 (by omega)];exact l n h j
 | succ m D=>
  intro i n C h j;have d:i<p.a.length:=by omega
  obtain⟨q,o,v,y,z,F,A,H,I⟩:=QG k d;have e:=g.c _ (F2 d);obtain⟨w,E,x⟩:=e;unfold lF at w;refine j16_6 ?_;simp only[uI,uS,V,uW,xa,lA,k.c,xA,yC,C4,kE,mI];rw[A5 (by omega),G0 d];unfold kZ;by_cases u:n<=2000
  .rw[A5 u,A5 u,y,xA,z,xA,A,xA,SX,xA,eW,ul,A2 (n:=(p.a[i].b.length:Int) / 30) (by omega) (by omega),A2 (by omega) (by omega)];have J:=JB p.a[i].a (n+(p.a[i].b.length:Int) / 30) x (by omega);refine zeu (p:=p) (a:=a) (c:=c) k g.c d (by omega) p.a[i].a.length 0 _ (by omega) (by omega) (by omega) ?_;rw[G8];exact D (i+1) _ (by omega) (by omega) (by omega)
  simp_all [A3]
def zev(r:bA t 3 (p.c.map eE.d) a)(C:bA t 3 (p.a.map mE.d) b)(D:bA t 24 (p.b.map nD.d) c)(w:p.f):∀(m i:Nat) (n:Int),i+m=p.c.length->0<=n->n<1152921504606846976->jp 16 2 [.e .i64 2000,.e .i64 n,.e .i64 (i:Int),.h p.e,a,b,c] t (λv s=>v=.e .i64 (lW p.b (kZ p.a (Dm (p.c.drop i) n)))/\s=t):=by
 have u:=w.f;unfold lF at u;have f:∀n:Int,0<=n->n<1152921504606846976->jp 16 6 [.e .i64 2000,.e .i64 n,.e .i64 0,.h p.e,a,b,c] t (λv s=>v=.e .i64 (lW p.b (kZ p.a n))/\s=t):=by
  intro n g h;have:=WD (a:=a) C D w p.a.length 0 n (by omega) g h;rw[G8]at this;exact this
 intro m;induction m with
 | zero=>
  intro i n E g h;refine j16_2 ?_;simp only[uI,uS,tC,V,uW,w9,lA,r.c,xA,yC,C4,kE];rw[A3 (by omega),E3 (by omega)];exact f n g h
 | succ m F=>
  intro i n E g h;have e:i<p.c.length:=by omega
  obtain⟨q,o,I,A,J,B,_,l⟩:=gG.at S7 (by simp) r (i:=i) (d:=p.c[i].d) (by simp[C6 e]);have l:=Ng l;subst l;have z:iB Y 89 0 (.j q o)=some (.j q (o+0)):=by kernel_rfl
  have H:oA Y 9 ⟨0,t⟩ (.j q (o+0))=some (.h p.c[i].a):=B.d iI rfl rfl;have j:=w.h _ (F2 e);have y:=j.1;unfold lF at y;have x:cA .i64 ((i:Int)+1)=((i+1:Nat):Int):=by rw[A2 (by omega) (by omega)];omega
  refine j16_2 ?_;simp only[uI,uS,tC,V,uW,w9,lA,r.c,xA,yC,C4,kE,mI];rw[A5 (by omega),G0 e];unfold Dm;by_cases k:n<=2000
  .rw[A5 k,A5 k,A,xA,z,xA,H,xA,SX,xA,eW,ul,x,A2 (n:=(p.c[i].a.length:Int) / 30) (by omega) (by omega),A2 (by omega) (by omega)];exact F (i+1) _ (by omega) (by omega) (by omega)
  .rw[A3 k,A3 k];exact f n g h
def zlf{cs:List O}(d:p.f)(h:RD t p.d cs):oB Y F 16 [.i cs,.e .i64 2000] t=some (.e .i64 (uk p)):=by
 obtain⟨a,b,c,rfl,e,f,g⟩:=aX h;have i:=d.g;have j:=d.f;have k:=d.e;have l:=d.b;unfold lF at i j k l;refine mC.2 (w16 ?_);simp only[uI,V,uW,t16,lA,e.c,f.c,g.c,xA,yC,C4,eW,ul];rw[A2 (n:=(p.e.length:Int) / 30) (by omega) (by omega),A2 (n:=1+(p.e.length:Int) / 30) (by omega) (by omega),A2 (n:=1+(p.e.length:Int) / 30+(p.c.length:Int)) (by omega) (by omega),A2 (n:=1+(p.e.length:Int) / 30+(p.c.length:Int)+(p.a.length:Int)) (by omega) (by omega),A2 (by omega) (by omega)]
 have:=zev e f g d p.c.length 0 (1+(p.e.length:Int) / 30+p.c.length+p.a.length+p.b.length) (by omega) (by omega) (by omega);rw[G8]at this;exact this
end
end
section
theorem ET(f:qF):1<=zS f/\f.n.a.length<zS f/\f.d.a.length<zS f:=by grind [zS]
def BW:∀(x:iA) (left:Int),x.r->1<=hO x left
 | .mk c b v a,left,h=>by
  unfold iA.r at h;unfold hO;have:=ET v.f;have:=(Rc a left (zS v.f+(b.length:Int) / 30) h.2.2.2 (by omega)).1;omega
mutual
def GD:∀(x:iA) (left:Int),x.r->hO x left<=left->left<=2000->iA.a x
 | .mk op name v args,left,h,a,b=>by
  unfold iA.r at h;unfold hO at a;unfold iA.a;have:=ET v.f;have c:=(Rc args left (zS v.f+(name.length:Int) / 30) h.2.2.2 (by omega)).1;obtain⟨d,e⟩:=RM args left (zS v.f+(name.length:Int) / 30) h.2.2.2 (by omega) a b
  grind
def RM:∀(l:List iA) (left n:Int),iA.m l->0<=n->cX l left n<=left->left<=2000->n+l.length<=left/\iA.c l
 | [],left,n,_,_,a,_=>by
  grind [cX,iA.c]
 | x::l,left,n,h,i,a,b=>by
  unfold iA.m at h;unfold cX at a;unfold iA.c;by_cases g:n<=left
  .rw[A5 g]at a;have c:=BW x (left-n) h.1;have d:=(Rc l left (n+hO x (left-n)) h.2 (by omega)).1;obtain⟨e,f⟩:=RM l left _ h.2 (by omega) a b;exact⟨by grind,GD x (left-n) h.1 (by omega) (by omega),f⟩
  omega
end
def JC:∀(l:List eE) (n:Int),n<=Dm l n
 | [],n=>by grind [Dm]
 | d::l,n=>by
  unfold Dm;split
  .have:=JC l (n+(d.a.length:Int) / 30);omega
  .omega
def JV:∀(l:List rG) (n:Int),n<=mW l n/\(mW l n<=2000->0<=n->l.length+n<=2000/\∀r∈l,r.f.n.a.length<300000/\r.f.d.a.length<300000)
 | [],n=>by grind [mW]
 | r::l,n=>by
  obtain⟨a,b⟩:=JV l (n+(zS r.f:Nat))
  grind [ET,mW]
def IF:∀(l:List mE) (n:Int),n<=kZ l n/\(kZ l n<=2000->0<=n->∀x∈l,x.a.length<300000/\∀r∈x.a,r.f.n.a.length<300000/\r.f.d.a.length<300000)
 | [],n=>by grind [kZ]
 | x::l,n=>by
  obtain⟨c,d⟩:=JV x.a (n+(x.b.length:Int) / 30);obtain⟨a,b⟩:=IF l (mW x.a (n+(x.b.length:Int) / 30))
  grind [kZ]
def GH:∀(l:List nD) (n:Int),(∀x∈l,x.j)->0<=n->n<=lW l n/\(lW l n<=2000->∀x∈l,iA.a x.a/\iA.a x.b)
 | [],n,_,_=>by grind [lW]
 | x::l,n,b,g=>by
  have a:=b x (by simp);have j:=BW x.a (2000-n) (iA.g a.2.2.2.2.2.1);have k:=BW x.b (2000-vR x n) (iA.g a.2.2.2.2.2.2);have i:n<=vR x n/\hO x.a (2000-n)<=vR x n-n:=by grind [vR]
  unfold lW;split
  .split
   .obtain⟨e,f⟩:=GH l (vR x n+hO x.b (2000-vR x n)) (λy c=>b y (by simp[c])) (by omega);refine⟨by omega,λh q d=>?_⟩;rcases C3.1 d with rfl | d
    .exact⟨GD _ (2000-n) (iA.g a.2.2.2.2.2.1) (by omega) (by omega),GD _ (2000-vR q n) (iA.g a.2.2.2.2.2.2) (by omega) (by omega)⟩
    simp_all
   .obtain⟨e,_⟩:=GH l (vR x n) (λy c=>b y (by simp[c])) (by omega);omega
  omega
def zl1{p:rD}(c:p.f)(h:uk p<=2000):rD.g p/\p.b.length<=2000:=by
 unfold uk at h;have d:=JC p.c (1+(p.e.length:Int) / 30+p.c.length+p.a.length+p.b.length);obtain⟨e,a⟩:=IF p.a (Dm p.c (1+(p.e.length:Int) / 30+p.c.length+p.a.length+p.b.length));obtain⟨f,b⟩:=GH p.b (kZ p.a (Dm p.c (1+(p.e.length:Int) / 30+p.c.length+p.a.length+p.b.length))) c.a (by omega);exact⟨⟨by omega,by omega,by omega,a (by omega) (by omega),b h⟩,by omega⟩
end
section
def bM (lev:Nat)(p:Nat × List qD):List qD:=if lev<=p.1 then p.2 else(4,[40])::(p.2++[(4,[41])])
def cG:Bool->List (Nat × List qD)->List qD
 | _,[]=>[]
 | b,p::l=>(if b then []else [(4,[44])])++p.2++cG false l
def wQ(op:Nat)(i:Int):List qD:=(if op=19 then [(4,[44]),(1,qM i.toNat)]else [])++[(4,[41])]
def Hc (op:Nat):List qD:=if op=3 then [(1,sW)]else if op=4 then [(1,Gf)]else []
def Kk(op:Nat):qD:=(if op=15\/op=16 then 1 else 4,(yB op).c)
def kV(op:Nat)(name:List Nat)(v:iF)(l:List (Nat × List qD)):List qD:=
 if (yB op).b=1 then fX v else if (yB op).b=2 then [(1,(yB op).c)]
 else if (yB op).b=3 then Hc op++(1,name)::(1,Q2)::bM (yB op).g (l.getD 0 (0,[]))
 else if (yB op).b=4 then bM (yB op).g (l.getD 0 (0,[]))++Kk op::bM (yB op).i (l.getD 1 (0,[]))
 else if (yB op).b=5 then(1,Bn)::bM (yB op).g (l.getD 0 (0,[]))
 else(1,(yB op).c)::(4,[40])::((if (yB op).e then [(1,name),(4,[44])]else [])++(cG true l++wQ op v.i))
mutual
def zF:iA->List qD
 | .mk op name v args=>kV op name v (yF args)
def yF:List iA->List (Nat × List qD)
 | []=>[]
 | y::l=>((yB y.e).a,zF y)::yF l
end
def zcw:∀l:List iA,yF l=l.map λy=>((yB y.e).a,zF y)
 | []=>by rw[yF];rfl
 | y::l=>by rw[yF,zcw l];rfl
def Ih:List Nat:=[6,11,12,18,19,20,21,22,23,24,25,26]
def Pf:List Nat:=[7,8,9,10,13,14,15,16]
def LO:∀op,op<27->op≠0->op=1\/op=2\/op∈[3,4,5]\/op∈Pf\/op=17\/op∈Ih:=by decide
def PK:∀k∈[3,4,5],(yB k).b=3/\(yB k).g=7/\(yB k).a=7/\(yB k).e=true/\(yB k).d=1/\(yB k).h=1:=by decide +kernel
def EY:∀k∈Pf,(yB k).b=4/\(yB k).e=false/\(yB k).d=2/\(yB k).h=2:=by decide +kernel
def EX:∀k∈Ih,(yB k).b=6/\(yB k).a=7:=by decide +kernel
theorem Yg:(yB 17).b=5/\(yB 17).g=3/\(yB 17).a=3/\(yB 17).e=false/\(yB 17).d=1/\(yB 17).h=1:=by decide +kernel
theorem Lf:(yB 1).b=1/\(yB 1).a=7/\(yB 1).e=false/\(yB 1).h=0:=by decide +kernel
theorem Et:(yB 2).b=2/\(yB 2).a=7/\(yB 2).e=false/\(yB 2).h=0:=by decide +kernel
structure Po (op:Nat) (name:List Nat) (n:Nat):Prop where
 d:op<27
 f:op≠0
 b:(yB op).d<=n
 a:n<=(yB op).h
 e:(yB op).e=true->sI name=true
 c:(yB op).e=false->name=[]
theorem znh{op:Nat}{name:List Nat}{n:Nat}(h:Hw op name n=true):Po op name n:=by
 unfold Hw at h;simp only[B2,decide_eq_true_eq,F4,decide_eq_false_iff_not]at h;obtain⟨⟨⟨⟨a,b⟩,c⟩,d⟩,f⟩:=h;refine⟨a,?_,c,d,λe=>by rwa [A5 e]at f,λe=>?_⟩
 .rintro rfl;exact b rfl
 grind [bJ]
def FI{op:Nat}{name:List Nat}{v:iF}{args:List iA}{d:Nat}(h:fJ (.mk op name v args) d=true):d<=24/\Po op name args.length/\(op=1->tQ v=true)/\(op≠1->vU op v=true/\∀y∈args,fJ y (d+1)=true):=by
 grind [fJ,znh,Zw]
def Hh{w:List Nat}(h:sI w=true):jE w=.aa 1 w:=by
 unfold sI at h;grind [bJ,jE]
def Lx.f{lev n:Nat}{s:List Nat}{l:List qD}(h:Lx s l):Lx (H3 lev (n,s)) (bM lev (n,l)):=by
 unfold H3 bM;by_cases a:lev<=n
 .simp_all
 .rw[A3 a,A3 a];exact h.x
def zmj{i:Nat}(a:1<=i)(b:i<=6):jE (qM i)=.aa 1 (qM i):=by
 have:i=1\/i=2\/i=3\/i=4\/i=5\/i=6:=by omega
 clear a b;rcases this with rfl | rfl | rfl | rfl | rfl | rfl
 .exact(by kernel_rfl:jE (qM 1)=.aa 1 (qM 1))
 .exact(by kernel_rfl:jE (qM 2)=.aa 1 (qM 2))
 .exact(by kernel_rfl:jE (qM 3)=.aa 1 (qM 3))
 .exact(by kernel_rfl:jE (qM 4)=.aa 1 (qM 4))
 .exact(by kernel_rfl:jE (qM 5)=.aa 1 (qM 5))
 .exact(by kernel_rfl:jE (qM 6)=.aa 1 (qM 6))
theorem Lx.a:Lx [41] [(4,[41])]:=λr o _=>Sl rfl r o
theorem IA{op:Nat}{v:iF}(a:vU op v=true):Lx (Dg op v.i) (wQ op v.i)/\∃c r,Dg op v.i=c::r/\(c=40\/c=41\/c=44):=by
 unfold Dg wQ;by_cases h:op=19
 .rw[A5 h,A5 h];unfold vU at a;rw[A5 h]at a;simp only[B2,decide_eq_true_eq]at a;refine⟨?_,_,_,rfl,by simp⟩;exact((Lx.i (zmj (i:=v.i.toNat) (by omega) (by omega))).sg (c:=41) (by simp)).t.q rfl
 grind [Lx.a]
def TA{op:Nat}{v:iF}(b:vU op v=true):∀l:List iA,(∀y∈l,Lx (yQ y) (zF y))->Lx (mV false (nJ l)++Dg op v.i) (cG false (yF l)++wQ op v.i)/\∃c r,mV false (nJ l)++Dg op v.i=c::r/\(c=40\/c=41\/c=44)
 | [],_=>by
  grind [nJ,yF,mV,cG,IA]
 | y::l,h=>by
  have a:=TA b l λz e=>h z (C7 _ e);have d:=h y C5;rw[nJ,yF,mV,cG];refine⟨?_,_,_,rfl,by simp⟩;have:=((d.p a.1 a.2).t).q (c:=44) rfl
  simp_all
def zm6{op:Nat}{v:iF}(b:vU op v=true){l:List iA}(h:∀y∈l,Lx (yQ y) (zF y)):Lx (mV true (nJ l)++Dg op v.i) (cG true (yF l)++wQ op v.i):=by
 cases l with
 | nil=>
  grind [nJ,yF,mV,cG,IA]
 | cons y l=>
  have a:=TA b l λz c=>h z (C7 _ c);have:=(h y C5).p a.1 a.2
  grind [nJ,yF,mV,cG]
def zl8:∀ {op:Nat},op∈Pf->jE (yB op).c=.aa (Kk op).1 (yB op).c:=by
 intro op h;simp only[Pf,C3,List.not_mem_nil,or_false]at h;rcases h with rfl | rfl | rfl | rfl | rfl | rfl | rfl | rfl<;>kernel_rfl
def zoh:∀ {op:Nat},op∈Ih->jE (yB op).c=.aa 1 (yB op).c:=by
 intro op h;simp only[Ih,C3,List.not_mem_nil,or_false]at h;rcases h with rfl | rfl | rfl | rfl | rfl | rfl | rfl | rfl | rfl | rfl | rfl | rfl<;>kernel_rfl
def OV{op:Nat}{name:List Nat}{v:iF}{args:List iA}(A:v.f.a)(b:Po op name args.length)(z:op=1->tQ v=true)(s:op≠1->vU op v=true)(l:∀y∈args,Lx (yQ y) (zF y)):Lx (mS op name v (nJ args)) (kV op name v (yF args)):=by
 have a:∀ {i lev:Nat},i<args.length->Lx (H3 lev ((nJ args).getD i (0,[]))) (bM lev ((yF args).getD i (0,[]))):=fun {i lev} e=>by
  rw[Mq,zcw];rw[show(args.map λy=>((yB y.e).a,yQ y)).getD i (0,[])=((yB args[i].e).a,yQ args[i]) by simp[e],show(args.map λy=>((yB y.e).a,zF y)).getD i (0,[])=((yB args[i].e).a,zF args[i]) by simp[e]];exact(l _ (F2 e)).f
 unfold mS kV;rcases LO op b.d b.f with rfl | rfl | h | h | rfl | h
 .grind [Lf,zr5]
 .rw[A3 (by grind [Et]),A5 Et.1,A3 (by grind [Et]),A5 Et.1];exact Lx.i (by kernel_rfl)
 .obtain⟨d,p,x,g,q,r⟩:=PK op h;have n:=b.b;have u:=Hh (b.e g);rw[d,p];have j:=Lx.g u (Lx.g (w:=Q2) (k:=1) (by kernel_rfl) (a (i:=0) (lev:=7) (by omega)));simp only[C3,List.not_mem_nil,or_false]at h;rcases h with rfl | rfl | rfl
  .have:=Lx.g (w:=sW) (k:=1) (by kernel_rfl) j
   grind [Hc,yB,Lg,U8]
  .have:=Lx.g (w:=Gf) (k:=1) (by kernel_rfl) j
   simp_all [Hc,yB,Lg,U8]
  simp_all [Hc,yB,Lg,U8]
 .obtain⟨d,g,q,r⟩:=EY op h;have n:=b.b;rw[d];have:=(a (i:=0) (lev:=(yB op).g) (by omega)).u (Lx.g (zl8 h) (a (i:=1) (lev:=(yB op).i) (by omega)))
  grind [Kk]
 .have n:=b.b;rw[Yg.1,Yg.2.1];have:=Lx.g (w:=Bn) (k:=1) (by kernel_rfl) (a (i:=0) (lev:=3) (by grind [Yg]))
  simp_all [yB,Lg]
 .obtain⟨d,_⟩:=EX op h;have f:op≠1:=by rintro rfl;revert h;decide
  have m:=zm6 (s f) l;rw[d];have o:=zoh h;by_cases t:(yB op).e=true
  .have:=(Lx.i o).p ((((Lx.i (Hh (b.e t))).p (m.t.q (c:=44) rfl) ⟨_,_,rfl,by simp⟩).q (c:=40) rfl)) ⟨_,_,rfl,by simp⟩
   simp_all
  .have:=(Lx.i o).p (m.q (c:=40) rfl) ⟨_,_,rfl,by simp⟩
   simp_all
mutual
def FG:∀(x:iA) (d:Nat),x.b->fJ x d=true->Lx (yQ x) (zF x)
 | .mk op name v args,d,a,h=>by
  obtain⟨k,c,g,i⟩:=FI h;rw[yQ,zF];rw[iA.b]at a;by_cases f:op=1
  .have m:=c.a;have:args=[]:=List.eq_nil_of_length_eq_zero (by simp_all [Lf]);subst this;exact OV a.2.2.2.1.2.1 c g (λe=>absurd f e) (by simp)
  .exact OV a.2.2.2.1.2.1 c g (λe=>(i e).1) (QH args (d+1) a.2.2.2.2.2 (i f).2)
def QH:∀(l:List iA) (d:Nat),iA.f l->(∀y∈l,fJ y d=true)->∀y∈l,Lx (yQ y) (zF y)
 | [],_,_,_,_,b=>by cases b
 | x::l,d,a,h,y,b=>by
  rw[iA.f]at a;rcases C3.1 b with e | b
  .rw[e];exact FG x d a.1 (h x C5)
  .exact QH l d a.2 (λz j=>h z (C7 _ j)) y b
end
end
section
variable {A B R:List qD}{op q:Nat}{g:List (List Nat × Nat)}{w:List Nat}{a b:iA}
def nr:List (List Nat × Nat):=[([42],6),([47],6),([43],5),([45],5),([60],4),([61],4),(gp,2),(y8,1)]
def Qt (lev:Nat)(R:List qD):Prop:=∀q u a,R=(q,u)::a->(∀p∈nr,lev<=p.2->u≠p.1)/\u≠kX/\u≠lX
theorem Qt.c{lev a:Nat} (h:Qt lev R)(f:lev<=a):Qt a R:=λq u b e=>⟨λp c d=>(h q u b e).1 p c (by omega),(h q u b e).2⟩
def Qt.d{lev:Nat} (h:Qt lev R):zf4 R:=λq u a e=>(h q u a e).2
def mn (lev:Nat)(u:List Nat):Bool:=nr.all (λp => !decide (lev<=p.2)||decide (u≠p.1))&&(decide (u≠kX)&&decide (u≠lX))
theorem Dv{lev:Nat}{u:List Nat} (h:mn lev u=true):Qt lev ((q,u)::R):=by
 intro b c a e;grind [mn]
def rY (tk:List xD)(o:PM iA):Nat->PM iA
 | 7=>o
 | 6=>ua tk o
 | 5=>Di tk o
 | 4=>aY tk o
 | 3=>iW tk o
 | 2=>Uf tk o
 | _=>yU tk o
def bL (K:List qD)(f:PM iA)(lev:Nat)(l:List qD)(x:iA):Prop:=∀n R,K.drop n=l++R->Qt lev R->f n=.ok x (n+l.length)
def Dz(l:List qD):Prop:=∃q u r,l=(q,u)::r/\(q=2\/q=3\/u≠Bn)
def Ch (tk:List xD)(K:List qD)(f:PM iA)(g:List (List Nat × Nat))(lev:Nat)(l:List qD)(x:iA):Prop:=
 ∀n R,K.drop n=l++R->Qt lev R->∃b a k,f n=.ok b a/\k<=l.length/\∀m,dV tk f g (m+k) b a=dV tk f g m x (n+l.length)
section
variable {tk:List xD}{K:List qD}(c:tk.map kt=K){o f:PM iA}{n lev:Nat}{l:List qD}{x:iA}
include c
def Ni  (h:K.drop n=R)(k:Qt lev R)(i:(g.all λp=>nr.any λq=>decide (q.1=p.1)&&decide (lev<=q.2))=true):dO tk g n=none:=by
 unfold dO;rw[List.find?_eq_none.2]
 .rfl
 .intro p j;have:=C9.1 i p j;rw[List.any_eq_true]at this;obtain⟨q,f,b⟩:=this;simp only[B2,decide_eq_true_eq]at b;rw[GR c h λa u d e=>by rw[<- b.1];exact(k a u d e).1 q f b.2];simp
theorem zf6 (h:K.drop n=l++R)(a:Dz l):By tk Bn n=false:=by
 obtain⟨q,u,r,rfl,b⟩:=a;have:=cD h
 grind [Bc,fH]
omit c in
theorem zf2(h:By tk Bn n=false):∀m,sM tk m n=0
 | 0=>rfl
 | m+1=>by grind [sM]
theorem zsy(e:bL K (rY tk o (lev+1)) (lev+1) l x)(f:1<=lev)(g:lev<=6)(d:lev=3->Dz l):bL K (rY tk o lev) lev l x:=by
 intro n R a b;have h:=e n R a (b.c (by omega));have:lev=1\/lev=2\/lev=3\/lev=4\/lev=5\/lev=6:=by omega
 rcases this with rfl | rfl | rfl | rfl | rfl | rfl
 .exact Zi (o:=Uf tk o) h (Ni c (gL a) b (by decide))
 .exact Zi (o:=iW tk o) h (Ni c (gL a) b (by decide))
 .have h:aY tk o n=.ok x (n+l.length):=h;show iW tk o n=_;unfold iW;rw[zf2 (zf6 c a (d rfl)),L1,h];rfl
 .have h:Di tk o n=.ok x (n+l.length):=h;show aY tk o n=_;unfold aY;rw[h];show(match dO tk [([60],13),([61],14)] (n+l.length)with | none=>_ | some op=>_)=_
  rw[Ni c (gL a) b (by decide)]
 .exact Zi (o:=ua tk o) h (Ni c (gL a) b (by decide))
 .exact Zi (o:=o) h (Ni c (gL a) b (by decide))
theorem Nx(d:Dz l\/lev<=3):∀j a,a+j=lev->1<=a->lev<=7->bL K (rY tk o lev) lev l x->bL K (rY tk o a) a l x
 | 0,a,h,_,_,b=>by simp_all
 | j+1,a,h,e,c,b=>by
  have:=Nx d j (a+1) (by omega) (by omega) c b
  grind [zsy]
omit c in
def zv9 (d:bL K f lev l x):Ch tk K f g lev l x:=λn R a b=>⟨x,n+l.length,0,d n R a b,by omega,λm=>rfl⟩
theorem zft   (h:K[n]?=some (q,w))(b:q=1\/q=4)(a:(g.find? λp=>sF w p.1).map Prod.snd=some op):dO tk g n=some op:=by
 grind [dO,Uo]
theorem zv8     (o:Ch tk K f g lev A a)(r:bL K f lev B b)(t:q=1\/q=4)(u:mn lev w=true)(s:(g.find? λp=>sF w p.1).map Prod.snd=some op):Ch tk K f g lev (A++(q,w)::B) (Cs op a b):=by
 intro n R e l;rw[D4,List.cons_append]at e;obtain⟨x,v,k,h,y,i⟩:=o n _ e (Dv u);have d:=gL e;have j:=r _ R (vF d) l;refine⟨x,v,k+1,h,by grind,λm=>?_⟩;rw[show m+(k+1)=m+1+k by omega,i,dV,zft c (cD d) t s];show(f (n+A.length+1)).c _=_;rw[j];show dV tk f g m (Cs op a b) _=_
 grind
theorem li (h:Ch tk K f g (lev+1) l x)(j:(g.all λp=>nr.any λq=>decide (q.1=p.1)&&decide (lev<=q.2))=true):bL K (sU tk f g) lev l x:=by
 intro n R a d;obtain⟨r,o,k,e,s,i⟩:=h n R a (d.c (by omega));have b:n+l.length<=tk.length\/l=[]:=by
  rw[zg c];by_cases u:n<=K.length
  .grind [List.length_append]
  .rw[E3 (by omega)]at a
   simp_all
 have t:k<=tk.length:=by
  grind
 unfold sU;rw[e];show dV tk f g tk.length r o=_;rw[show tk.length=(tk.length-k)+k by omega,i]
 cases tk.length-k with
 | zero=>rfl
 | succ m=>rw[dV,Ni c (gL a) d j]
omit c in
theorem LY:∀(m n:Nat),tk.length<=m+n->sM tk (m+1) n=sM tk m n
 | 0,n,h=>by
  grind [sM,MD]
 | m+1,n,h=>by
  unfold sM;rw[LY m (n+1) (by omega)]
omit c in
def HG:∀(k:Nat) (x:iA),Jb (k+1) x=M1 17 [] (Jb k x)
 | 0,x=>rfl
 | k+1,x=>by
  show Jb (k+1) (M1 17 [] x)=_;rw[HG k];rfl
omit c in
def zmg(h:By tk Bn n=true)(b:n<tk.length):iW tk o n=(iW tk o (n+1)).c λy n'=>.ok (M1 17 [] y) n':=by
 have e:sM tk tk.length n=sM tk tk.length (n+1)+1:=by
  obtain⟨m,a⟩:∃m,tk.length=m+1:=⟨tk.length-1,by omega⟩;rw[a];rw[LY m (n+1) (by omega)];conv=>lhs;unfold sM
  rw[A5 h]
 unfold iW;rw[e,show n+(sM tk tk.length (n+1)+1)=n+1+sM tk tk.length (n+1) by omega]
 cases aY tk o (n+1+sM tk tk.length (n+1))with
 | er e i=>rfl
 | ok x n'=>
  show PR.ok _ _=PR.ok _ _;rw[HG]
theorem lj{y:iA}(h:bL K (iW tk o) 3 l y):bL K (iW tk o) 3 ((1,Bn)::l) (M1 17 [] y):=by
 intro n R a e;have b:=cD a;have d:n<tk.length:=by grind
 rw[zmg (dL c b (.inl rfl)) d,h (n+1) R (vF a) e];show PR.ok _ _=PR.ok _ _;rw[Do,Nat.add_assoc,T5 1]
theorem zl5{k:Nat}(h:bL K (yU tk (tJ tk k)) 1 l x):bL K (tJ tk (k+1)) 7 ((4,[40])::(l++[(4,[41])])) x:=by
 intro n R a b;rw[List.cons_append,D4]at a;show mP tk (tJ tk k) n=_;rw[znc c (cD a),h (n+1) _ (vF a) (Dv (by decide))];show(gE tk [41] (n+1+l.length)).c _=_;rw[oR c (cD (gL (vF a))) (.inr rfl)];show PR.ok _ _=PR.ok _ _
 grind
theorem zv1    (g:bL K (Di tk o) 5 A a)(h:bL K (Di tk o) 5 B b)(j:q=1\/q=4)(k:mn 5 w=true)(i:(([([60],13),([61],14)]:List (List Nat × Nat)).find? λp=>sF w p.1).map Prod.snd=some op):bL K (aY tk o) 4 (A++(q,w)::B) (Cs op a b):=by
 intro n R e f;rw[D4,List.cons_append]at e;have d:=gL e;unfold aY;rw[g n _ e (Dv k)];show(match dO tk [([60],13),([61],14)] (n+A.length)with | none=>_ | some op=>_)=_
 rw[zft c (cD d) j i];show(Di tk o (n+A.length+1)).c _=_;rw[h _ R (vF d) (f.c (by omega))];show PR.ok _ _=PR.ok _ _
 grind
end
end
end Go.Proofs
