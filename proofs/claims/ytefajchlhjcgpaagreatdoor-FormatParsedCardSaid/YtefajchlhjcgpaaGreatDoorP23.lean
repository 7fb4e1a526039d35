/- The parser: literal slices, words taken, chains of operators. -/
import Derived.Test.YtefajchlhjcgpaaGreatDoorP22
set_option linter.all false
noncomputable section
set_option maxRecDepth 100000
namespace Go.Proofs
open Go Go.Am
variable {b el g op sz:Nat}{y z:jD}{v:O}{ps:List (Nat × O)}{cl:List (List O)}{ds:List D}{x:pA}{c cs j:List O}{w:List Nat}{l:List (List Nat × Nat)}
variable [fC]
section
variable {tf t:G uA}{C:fA}
theorem Oo {z:List O} (b:z.length=sz)(a:v.s.length=sz):yO (λi=>some (i*sz,sz)) [(0,v)] (kJ z 1)=some v.s:=by
 have e:kJ z 1=z:=by
  show oE z []=_;rw[wI,Do]
 rw[e];have c:pZ z (0*sz) sz v=some v.s:=by
  unfold pZ;simp only[dD,a,Nat.zero_mul,D8,eV,vU,wI,List.take_zero,F3];rw[zD.2 rfl,mF.2 (by omega)];simp only[Bool.and_self,xE];rw[<- b,List.drop_length,Do]
 grind [yO,lA]
def og{T n:Nat}{L:List kF}    (o:C.b.c T=some y)(f:y.a.a=some el)(q:C.b.c el=some z)(p:z.b=sz)(s:vB z.c=sz)(A:n*sz<1000000)
  (a:yO (λi=>some (i*sz,sz)) ps (kJ z.c n)=some cl.flatten) (e:∀(i:Nat) cs,cl[i]?=some cs->cs.length=sz) (c:cl.length=n) (B:tD tf ds cl) (k:xB C.a tf t L) (g:t.c b=none) :
  ∃d t',rD C T n ps ⟨b,t⟩=some (.m b 0 n n,⟨b+1,t'⟩)/\zB tf d/\xB C.a d t' L/\bA d sz ds (.m b 0 n n):=by
 obtain⟨t',m,E,F,u⟩:=Oa o f q p s A a e c g;have l:=k.z g u;have j:=k.ak g;have w:t'.c b=some (.aa (G.ac cl.flatten) (vB cl.flatten) none):=by
  have:=m;unfold rD at this;rw[o,lA,f,lA,q,lA]at this;rw[qB,p,a,lA]at this;obtain⟨_,h⟩:=this;have h:=(Prod.mk.inj (D9 h)).2;have v:t.d b (.aa (G.ac cl.flatten) (vB cl.flatten) none)=t':=(sA.mk.inj h).2;rw[<- v,G.aa,A5 rfl]
 obtain⟨D,r⟩:=l.r (λx=>k.aa g x) w j;refine⟨_,t',m,r,D,cl,RS e (by rw[G.aa,A5 rfl]) (.inl rfl) c,tD.f r _ _ B⟩
end
def If (x:List Nat × Nat):D:=.f [.c x.1,.a .u8 (x.2:Int)]
theorem qr{t:G uA}{x:List Nat × Nat} (h:RD t (If x) cs):cs=[.h x.1,.e .u8 (x.2:Int)]:=by
 grind [If,lK,kD,pG,mP,lP]
theorem zvb{t:G uA}(x:List Nat × Nat):RD t (If x) [.h x.1,.e .u8 (x.2:Int)]:=by
 simp_all [If,lK,kD,pG]
def wP (tf:G uA)(x:pA)(v:O):Prop:=∃cs,v=.i cs/\RD tf x.d cs
def oi (tf:G uA)(x:gE)(v:O):Prop:=∃cs,v=.i cs/\RD tf x.d cs
abbrev zE:List O:=[.e .u8 0,.h [],.e .u8 0,.d false,.g,.d false,.g,.e .i64 0,.g]
abbrev zV:List O:=[.e .u8 0,.d false,.g,.d false,.g,.e .i64 0]
abbrev cE(X:yH):List O:=[.e .u8 (X.i 0),.h (X.s 1),.e .u8 (X.i 2),.d (X.b 3),X.v 4,.d (X.b 5),X.v 6,.e .i64 (X.i 7),X.v 8]
abbrev cV(X:yH):List O:=[.e .u8 (X.i 0),.d (X.b 1),X.v 2,.d (X.b 3),X.v 4,.e .i64 (X.i 5)]
def ub{tf:G uA}  (h:RD tf x.d cs):cE (AN cs)=cs:=by
 obtain⟨a,b,c,rfl,_⟩:=bI h;rfl
def H3{tf:G uA}  (h:RD tf x.d cs):mK zE (.i cs)=some (AN cs):=vO h (pA.s _)
def agV{tf:G uA}{x:gE} (h:RD tf x.d cs):mK zV (.i cs)=some (AN cs):=vO h (gE.zs _)
def Oq{tf:G uA}  (h:RD tf x.d cs):cs.length=9:=by
 obtain⟨a,b,c,rfl,_⟩:=bI h;rfl
section
variable {P:uK}{tf t:G uA}{n d:Nat}{Q E:mB}{J:xG}
def St.ac{T k:Nat}    (h:St P tf t n d)(q:Y.b.c T=some y)(j:y.a.a=some el)(w:Y.b.c el=some z)(v:z.b=sz)(l:vB z.c=sz)(s:k*sz<1000000)
  (c:yO (λi=>some (i*sz,sz)) ps (kJ z.c k)=some cl.flatten) (g:∀(i:Nat) cs,cl[i]?=some cs->cs.length=sz) (e:cl.length=k) (u:tD tf ds cl) (r:t.c b=none) :
  ∃a t',rD Y T k ps ⟨b,t⟩=some (.m b 0 k k,⟨b+1,t'⟩)/\zB tf a/\St P a t' n d/\bA a sz ds (.m b 0 k k):=by
 obtain⟨a,t',m,f,o,p⟩:=og q j w v l s c g e u h.g r;exact⟨a,t',m,f,⟨h.p.a f,o,h.f,h.m,h.a,h.e.a f⟩,p⟩
theorem Kp  (h:c.length=sz):∀(i:Nat) cs,[c][i]?=some cs->cs.length=sz:=by
 grind
theorem zp5 {c':List O}(h:c.length=sz)(b:c'.length=sz):∀(i:Nat) cs,[c,c'][i]?=some cs->cs.length=sz:=by
 intro i cs a;match i,a with
 | 0,a=>simp_all
 | 1,a=>simp_all
def zS {X c:T}(h:St P tf t n d)(e:B0 P.a w n=true->∀t',St P tf t' (n+1) d->iA Y.a (lF Y F dC zG E) J X t' Q)(f:B0 P.a w n=false->∀t',St P tf t' n d->iA Y.a (lF Y F dC zG E) J c t' Q) :
  iA Y.a (lF Y F dC zG E) J (.c 78 [.j P.b 0,.h w] λa=>.q a λb=>.a b X c) t Q:=by
 refine aA ?_;rw[pW 78];grind [Iy,cC,tA,wB]
def RK  (f:bA tf 1 [D.c w] v)(h:St P tf t n d)(a:Ok P rdU d tf (mE P.a w n) Q E):vL Y F E 95 [.j P.b 0,v] t Q:=by
 refine w95 ?_;unfold t95 uI V;refine vA f.c (tB (sC (j95_2 ?_)));unfold zp uB uS uC V;obtain⟨b,o,cs,g,j,_,_,k⟩:=nv.at (λ_=>rfl) (f.a h.g.b) (i:=0) rfl;have e:cs=[.h w]:=mP.1 k;subst e;refine tA (by simp[wD]) (vA g (iB j (gC (aA ?_))));rw[pW 78];refine Iy h λm c=>cC ?_;unfold mE at a
 cases l:B0 P.a w n with
 | true=>
  rw[l]at c a;refine wB (by simp) (sC (j95_2 ?_));unfold zp uB uS uC V;have:(cA .i64 (0+1))=1:=by decide
  rw[this];exact wB (by simp[wD]) (Ok.j a c rfl)
 | false=>
  grind [tA,aA,Ok.l]
def Fo{p:Type}{rd:G uA->p->O->Prop} {f:Unit->Nat->PR p}{K:O->T}{m:mB}(h:St P tf t n d)(x:Ok P rd d tf ((mE P.a w n).c f) m E)
  (k:∀e c t1,zB tf c->St P c t1 e d->Ok P rd d c (f () e) m E->iA Y.a (lF Y F dC zG E) J (K (.p [])) t1 Q) :
  iA Y.a (lF Y F dC zG E) J (.h (rD Y 62 1 [(0,.h w)]) λa=>.c 95 [.j P.b 0,a] K) t Q:=by
 refine jC λb u _=>?_;obtain⟨c,t1,q,o,r,s⟩:=h.ac (k:=1) (sz:=1) (ds:=[D.c w]) (cl:=[[.h w]]) Ty rfl iI rfl rfl (by omega) (Oo (sz:=1) (z:=[.h []]) (v:=.h w) rfl rfl) (Kp rfl) rfl (kD.2 ⟨_,_,rfl,mP.2 rfl,pG.2 rfl⟩) u;refine⟨_,_,q,aA ?_⟩;rw[pE 95];exact RK s r ((x.g o).c λa e l A v B y j i g=>by cases i;exact k e l A (o.d y) j g)
def CW  (m:bA tf 2 (l.map If) v)(z:l.length<1000)(h:St P tf t n d)
  (a:∀t',match iN P.a l n with | none=>St P tf t' n d->Q (.p [.e .u8 0,.d false]) t' | some op=>St P tf t' (n+1) d->Q (.p [.e .u8 (op:Int),.d true]) t'):Wc Y F 128 [.j P.b 0,v] t Q:=by
 have g:∀(k i:Nat) (t:G uA),i+k=l.length->St P tf t n d->(∀t',match iN P.a (l.drop i) n with | none=>St P tf t' n d->Q (.p [.e .u8 0,.d false]) t' | some op=>St P tf t' (n+1) d->Q (.p [.e .u8 (op:Int),.d true]) t') →
   jp 128 2 [.j P.b 0,v,.e .i64 (l.length:Int),.e .i64 (i:Int)] t Q:=by
  intro k;induction k with
  | zero=>
   intro i t x h a;refine zsj ?_;unfold xq;have e:l.drop i=[]:=F1 (by omega);rw[e]at a;exact wB (by grind [wD]) (a t h)
  | succ k y=>
   intro i t x h a;refine zsj ?_;unfold xq uB uG;have A:l[i]?=some l[i]:=D0 (by omega);have w:(l.map If)[i]?=some (If l[i]):=by grind
   obtain⟨b,o,cs,r,s,_,_,u⟩:=pk.at (λh=>by cases h) (m.a h.g.b) w;have e:=qr u;subst e;rw[F8 (by omega:i<l.length)]at a;unfold iN at a;rw[List.find?_cons]at a;refine tA (by grind [wD]) (vA r (iB s (aC (X:=AN [.h l[i].1,.e .u8 (l[i].2:Int)]) (aQ rfl) (tA rfl ?_))));refine aA ?_;rw[q78];refine Iy h λt' f=>cC ?_;have p:(AN [.h l[i].1,.e .u8 (l[i].2:Int)]).s 0=l[i].1:=rfl;have q:(AN [.h l[i].1,.e .u8 (l[i].2:Int)]).i 1=(l[i].2:Int):=rfl
   rw[p]at f ⊢
   cases j:B0 P.a l[i].1 n with
   | true=>
    rw[j]at f a;refine tA rfl ?_;rw[q];exact a t' f
   | false=>
    rw[j]at f a;refine wB (by simp) (sC ?_);have:uC (i:Int)=.e .i64 ((i+1:Nat):Int):=by
     grind [A2]
    rw[this];exact y (i+1) t' (by omega) f a
 refine w128 ?_;unfold t128;have c:=m.c;rw[C5]at c;exact vA c (tB (sC (g l.length 0 t (by omega) h (by simp_all))))
def cJ(P:uK)(d:Nat)(o:PM pA)(g:Nat):Prop:=∀(tf t:G uA) (n:Nat) (Q E:mB),St P tf t n d->Ok P wP d tf (o n) Q E->vL Y F E g [.j P.b 0] t Q
def Up {c:Type}(o:PM c):Prop:=∀n a b,o n=.ok a b->n<=b
theorem zva  (h:iN P.a l n=some op):n<P.a.length:=by
 unfold iN at h
 cases a:l.find? λo=>B0 P.a o.1 n with
 | none=>simp_all
 | some x=>grind [B0]
def Zy{tf:G uA} {y:pA} (h:bA tf 9 [x.d,y.d] v):RD tf (eX op x y).d [.e .u8 (op:Int),.h [],.e .u8 0,.d false,.g,.d false,.g,.e .i64 0,v]:=by
 unfold eX;exact Nw (v:=qR) lS lS h
def Y5{tf:G uA}    (h:bA tf 9 [x.d] v):RD tf (I7 op w x).d [.e .u8 (op:Int),.h w,.e .u8 0,.d false,.g,.d false,.g,.e .i64 0,v]:=by
 unfold I7;exact Nw (v:=qR) lS lS h
theorem zvc (h:O.z v=true){a:O}(b:O.z a=true):nD O.z [a,v]=true:=by
 grind [gI]
def St.ap {y:pA}{c:List O}(h:St P tf t n d)(e:RD tf x.d j)(f:RD tf y.d c)(g:t.c b=none) :
  ∃a t',rD Y 29 2 [(0,.i j),(1,.i c)] ⟨b,t⟩=some (.m b 0 2 2,⟨b+1,t'⟩)/\zB tf a/\St P a t' n d/\bA a 9 [x.d,y.d] (.m b 0 2 2):=
 h.ac (ds:=[x.d,y.d]) (cl:=[j,c]) S7 rfl cu rfl rfl (by omega) (QT rfl (Oq e) (Oq f)) (zp5 (Oq e) (Oq f)) rfl (kD.2 ⟨_,_,rfl,e,kD.2 ⟨_,_,rfl,f,pG.2 rfl⟩⟩) g
def St.ah   (h:St P tf t n d)(c:RD tf x.d j)(e:t.c b=none) :
  ∃a t',rD Y 29 1 [(0,.i j)] ⟨b,t⟩=some (.m b 0 1 1,⟨b+1,t'⟩)/\zB tf a/\St P a t' n d/\bA a 9 [x.d] (.m b 0 1 1):=by
 have f:yO (λi=>some (i*9,9)) [(0,.i j)] (kJ zE 1)=some [j].flatten:=by
  rw[Oo (sz:=9) (z:=zE) (v:=.i j) rfl (Oq c)];show some j=_;simp
 exact h.ac (k:=1) (sz:=9) (ds:=[x.d]) (cl:=[j]) (ps:=[(0,.i j)]) S7 rfl cu rfl rfl (by omega) f (Kp (Oq c)) rfl (kD.2 ⟨_,_,rfl,c,pG.2 rfl⟩) e
def zki (a:Nat.blt g pn=true)  : eM (.q (.aa g) [v] []) []=some (g,[v]):=by
 unfold eM;simp only[O.am,lA,a,xE];rfl
def zcd{o:PM pA}   (S:cJ P d o g)(z:Up o)(K:Nat.blt g pn=true)(T:(dC g&&Nat.blt g yo)=false)(U:Nat.beq g pn=false)(W:(zG g&&Nat.blt g pn)=true)(D:l.length<1000) :
  ∀(m n:Nat) (x:pA) (cs:List O) (tf t:G uA) (Q E:mB),P.a.length-n<=m->St P tf t n d->bA tf 2 (l.map If) v->RD tf x.d cs->Ok P wP d tf (bQ P.a o l m x n) Q E->sI E 66 2 ([.j P.b 0,.q (.aa g) [.j P.b 0] [],v]++zE++cs) t Q:=by
 intro m;induction m with
 | zero=>
  intro n x cs tf t Q E L h q f i;obtain⟨a,b,c,rfl,_⟩:=bI f;refine j66_2 ?_;unfold zo uU uB uG aB uX V uY iH nF;refine aA ?_;rw[pW 128];have M:iN P.a l n=none:=by
   cases f:iN P.a l n with
   | none=>rfl
   | some op=>have:=zva f;omega
  refine CW q D h λB=>?_;rw[M];intro j;refine vA rfl (tB (vA rfl (cC (tA rfl (tA f.e ?_)))));exact Ok.j i j ⟨_,rfl,f⟩
 | succ m Z=>
  intro n x cs tf t Q E L h q f i;obtain⟨a,b,c,rfl,_⟩:=bI f;refine j66_2 ?_;unfold zo uU uB uG aB uX V uY iH nF;refine aA ?_;rw[pW 128];refine CW q D h λB=>?_;unfold bQ at i
  cases p:iN P.a l n with
  | none=>
   rw[p]at i;intro j;refine vA rfl (tB (vA rfl (cC (tA rfl (tA f.e ?_)))));exact Ok.j i j ⟨_,rfl,f⟩
  | some op=>
   rw[p]at i;intro j;refine vA rfl (tB (vA rfl (cC (wB (by simp) (aZ (zki K) ?_)))));have e:∀a R,lF Y F dC zG E g a B R=vL Y F E g a B R:=λa R=>by grind [lF]
   rw[e];refine S _ _ _ _ _ j (i.c λy n1 a1 t1 vy X k w u s=>?_);obtain⟨cy,rfl,r⟩:=u;have N:=z _ _ _ X;obtain⟨a',b',c',rfl,_⟩:=bI r;refine aC (H3 r) (tA r.e (jC λb J _=>?_));have A:=RD.f k _ _ f;obtain⟨C,t2,k1,H,k3,I⟩:=w.ap A r J;refine⟨_,_,k1,?_⟩;refine tA (zvc rfl rfl) (tA (Zy I).e (sC ?_));exact Z n1 (eX op x y) _ C t2 Q E (by omega) k3 (q.a (k.d H)) (Zy I) (s.g H)
end
end Go.Proofs
namespace Go.Proofs
open Go Go.Am
section
variable {l:List (List Nat × Nat)}{v:O}{b op op':Nat}{w w':List Nat}
variable [fC]
def PR.k{d g:Type}{r:PR d}{f:d->Nat->PR g}{b:g}{n:Nat}(h:r.c f=.ok b n):∃a c,r=.ok a c/\f a c=.ok b n:=by
 cases r with
 | ok a c=>exact⟨a,c,rfl,h⟩
 | er e i=>cases h
section
variable {tk:List xD}{o:PM pA}
theorem zke(h:Up o)  : ∀(m:Nat) (x:pA) (n:Nat) (y:pA) (n':Nat),bQ tk o l m x n=.ok y n'->n<=n':=by
 intro m;induction m with
 | zero=>intro x n y n' b;cases b;omega
 | succ m f=>
  intro x n y n' b;unfold bQ at b
  cases c:iN tk l n with
  | none=>simp_all
  | some op=>
   rw[c]at b;obtain⟨a,g,d,e⟩:=PR.k b;have:=h _ _ _ d
   grind
def Um(h:Up o)  : Up (cQ tk o l):=by
 intro n a e d;obtain⟨x,f,b,c⟩:=PR.k d;have:=h _ _ _ b;have:=zke h _ _ _ _ _ c;omega
theorem zpd(h:Up o):Up (eU tk o):=by
 intro n a k g;obtain⟨x,i,e,c⟩:=PR.k g;have d:Up (Ck tk o):=Um (Um h);have:=d _ _ _ e
 cases b:iN tk [([60],13),([61],14)] i with
 | none=>simp_all
 | some op=>
  rw[b]at c;obtain⟨y,l,f,j⟩:=PR.k c;have:=d _ _ _ f
  grind
theorem MP(h:Up o):Up (aT tk o):=by
 intro n a e c;obtain⟨x,f,b,d⟩:=PR.k c;have:=zpd h _ _ _ b
 grind
def SN(h:Up o):Up (Ul tk o):=Um (MP h)
def RI(h:Up o):Up (C0 tk o):=Um (SN h)
end
section
variable {P:uK}{tf t:G uA}{n d:Nat}{Q E:mB}{J:xG}{o:PM pA}{g:Nat}
def zfu{W:xG}{x:pA} (d:wP tf x v)(k:Q v t):iA Y.a W J (.o zE v λX=>.a (nD O.z (cE X)) (.l (.i (cE X))) .g) t Q:=by
 obtain⟨f,rfl,e⟩:=d;obtain⟨a,b,c,rfl,_⟩:=bI e;exact aC (H3 e) (tA e.e k)
def SW  (z:cJ P d o g)(s:Up o)(B:l.length<1000)(h:St P tf t n d)(C:bA tf 2 (l.map If) v)(A:Ok P wP d tf (cQ P.a o l n) Q E)
  (y:Nat.blt g pn=true:=by kernel_rfl) (k:(dC g&&Nat.blt g yo)=false:=by kernel_rfl) (m:Nat.beq g pn=false:=by kernel_rfl) (p:(zG g&&Nat.blt g pn)=true:=by kernel_rfl):vL Y F E 66 [.j P.b 0,.q (.aa g) [.j P.b 0] [],v] t Q:=by
 refine w66 ?_;unfold t66 uG aB V uY iH;refine aZ (zki y) ?_;have e:∀a R,lF Y F dC zG E g a t R=vL Y F E g a t R:=λa R=>by grind [lF]
 rw[e];refine z _ _ _ _ _ h (A.c λx D w H K J j r q i=>?_);obtain⟨I,rfl,f⟩:=q;have u:=f;obtain⟨a,b,c,rfl,_⟩:=bI f;refine aC (H3 f) (tA f.e (sC ?_));exact zcd z s y k m p B P.a.length D x _ w H Q E (Nat.sub_le _ _) r (C.a j) u i
def St.ay   (h:St P tf t n d)(c:t.c b=none) :
  ∃a t',rD Y 201 1 [(0,.i [.h w,.e .u8 (op:Int)])] ⟨b,t⟩=some (.m b 0 1 1,⟨b+1,t'⟩)/\zB tf a/\St P a t' n d/\bA a 2 ([(w,op)].map If) (.m b 0 1 1):=by
 have e:yO (λi=>some (i*2,2)) [(0,.i [.h w,.e .u8 (op:Int)])] (kJ [.h [],.e .u8 0] 1)=some [[O.h w,.e .u8 (op:Int)]].flatten:=by
  rw[Oo (sz:=2) (z:=[.h [],.e .u8 0]) (v:=.i [.h w,.e .u8 (op:Int)]) rfl rfl];rfl
 exact h.ac (k:=1) (sz:=2) (ds:=[If (w,op)]) (cl:=[[.h w,.e .u8 (op:Int)]]) y8 rfl yz rfl rfl (by omega) e (Kp rfl) rfl (kD.2 ⟨_,_,rfl,zvb (w,op),pG.2 rfl⟩) c
def St.au   (h:St P tf t n d)(c:t.c b=none) :
  ∃a t',rD Y 201 2 [(0,.i [.h w,.e .u8 (op:Int)]),(1,.i [.h w',.e .u8 (op':Int)])] ⟨b,t⟩=some (.m b 0 2 2,⟨b+1,t'⟩)/\zB tf a/\St P a t' n d/\bA a 2 ([(w,op),(w',op')].map If) (.m b 0 2 2):=
 h.ac (k:=2) (sz:=2) (ds:=[If (w,op),If (w',op')]) (cl:=[[.h w,.e .u8 (op:Int)],[.h w',.e .u8 (op':Int)]]) y8 rfl yz rfl rfl (by omega) (QT rfl rfl rfl) (zp5 rfl rfl) rfl (kD.2 ⟨_,_,rfl,zvb (w,op),kD.2 ⟨_,_,rfl,zvb (w',op'),pG.2 rfl⟩⟩) c
def zs6  (B:cJ P d o g)(l:Up o)(h:St P tf t n d)(c:Ok P wP d tf (cQ P.a o [(w,op),(w',op')] n) Q E)
  (A:Nat.blt g pn=true:=by kernel_rfl) (f:(dC g&&Nat.blt g yo)=false:=by kernel_rfl) (j:Nat.beq g pn=false:=by kernel_rfl) (k:(zG g&&Nat.blt g pn)=true:=by kernel_rfl) :
  iA Y.a (lF Y F dC zG E) J (.h (rD Y 201 2 [(0,.i [.h w,.e .u8 (op:Int)]),(1,.i [.h w',.e .u8 (op':Int)])]) λa=>.c 66 [.j P.b 0,.q (.aa g) [.j P.b 0] [],a] λv=>.o zE v λX=>.a (nD O.z (cE X)) (.l (.i (cE X))) .g) t Q:=by
 refine jC λb z _=>?_;obtain⟨I,L,q,s,u,y⟩:=h.au (w:=w) (w':=w') (op:=op) (op':=op') z;refine⟨_,_,q,aA ?_⟩;rw[pE 66];refine SW B l (by simp) u y ?_ A f j k;have c:=c.g s;revert c;generalize cQ P.a o [(w,op),(w',op')] n=r;intro c
 cases r with
 | ok x K=>exact λm H v C D p=>zfu p (c m H v C D p)
 | er e i=>exact c
def zs7  (B:cJ P d o g)(l:Up o)(h:St P tf t n d)(c:Ok P wP d tf (cQ P.a o [(w,op)] n) Q E)
  (A:Nat.blt g pn=true:=by kernel_rfl) (f:(dC g&&Nat.blt g yo)=false:=by kernel_rfl) (j:Nat.beq g pn=false:=by kernel_rfl) (k:(zG g&&Nat.blt g pn)=true:=by kernel_rfl) :
  iA Y.a (lF Y F dC zG E) J (.h (rD Y 201 1 [(0,.i [.h w,.e .u8 (op:Int)])]) λa=>.c 66 [.j P.b 0,.q (.aa g) [.j P.b 0] [],a] λv=>.o zE v λX=>.a (nD O.z (cE X)) (.l (.i (cE X))) .g) t Q:=by
 refine jC λb z _=>?_;obtain⟨I,L,q,s,u,y⟩:=h.ay (w:=w) (op:=op) z;refine⟨_,_,q,aA ?_⟩;rw[pE 66];refine SW B l (by simp) u y ?_ A f j k;have c:=c.g s;revert c;generalize cQ P.a o [(w,op)] n=r;intro c
 cases r with
 | ok x K=>exact λm H v C D p=>zfu p (c m H v C D p)
 | er e i=>exact c
def zu4(c:cJ P d o 287)(a:Up o):cJ P d (tq P.a o) 266:=λtf t n Q E h b=>by
 refine w266 ?_;unfold t266 uG aB V uY iH nF;exact tA rfl (tA rfl (zs6 c a h b))
def zqx(c:cJ P d o 287)(a:Up o):cJ P d (Ck P.a o) 231:=λtf t n Q E h b=>by
 refine w231 ?_;unfold t231 uG aB V uY iH nF;exact tA rfl (tA rfl (zs6 (zu4 c a) (Um a) h b))
def zxu(B:cJ P d o 287)(l:Up o):cJ P d (eU P.a o) 181:=λtf t n Q E h F=>by
 refine w181 ?_;unfold t181 uU uB uG aB uX V uY iH nF;refine aA ?_;rw[pE 231];refine zqx B l _ _ _ _ _ h (F.c λx S T t1 v hr H z u e=>?_);obtain⟨cs,rfl,f⟩:=u;obtain⟨a,b,c,rfl,_⟩:=bI f;refine aC (H3 f) (tA f.e (tA rfl (tA rfl (jC λb r _=>?_))));obtain⟨U,t2,J,p,K,L⟩:=z.au (w:=[60]) (op:=13) (w':=[61]) (op':=14) r;refine⟨_,_,J,aA ?_⟩;rw[pW 128];refine CW L (by simp) K λt3=>?_
 cases i:iN P.a [([60],13),([61],14)] S with
 | none=>
  rw[i]at e;intro q;have A:=RD.f p _ _ f;exact vA rfl (tB (vA rfl (cC (tA rfl (tA f.e (Ok.j (e.g p) q ⟨_,rfl,A⟩))))))
 | some op=>
  rw[i]at e;intro q;refine vA rfl (tB (vA rfl (cC (wB (by simp) (aA ?_)))));rw[pE 231];refine zqx B l _ _ _ _ _ q ((e.g p).c λy n2 W t4 v I g k j s=>?_);obtain⟨D,rfl,m⟩:=j;obtain⟨Z,b',c',rfl,_⟩:=bI m;refine aC (H3 m) (tA m.e (jC λb r _=>?_));obtain⟨X,t5,M,N,R,C⟩:=k.ap (RD.f (p.d g) _ _ f) m r;exact⟨_,_,M,tA (zvc rfl rfl) (tA (Zy C).e (Ok.j (s.g N) R ⟨_,rfl,Zy C⟩))⟩
def zcz{k:Nat}{Q:mB}{P:uK}{n d:Nat}:∀(k:Nat) (x:pA) (cs:List O) (tf t:G uA),k<1000000000->St P tf t n d->RD tf x.d cs->Ok P wP d tf (.ok (Dv k x) n) Q E->sI E 129 6 ([.e .i64 (k:Int)]++zE++cs) t Q:=by
 intro k;induction k with
 | zero=>
  intro x cs tf t _ h f g;obtain⟨a,b,c,rfl,_⟩:=bI f;refine zsh ?_;unfold zr aB V uY uW;exact wB (by simp[wD]) (tA f.e (Ok.j g h ⟨_,rfl,f⟩))
 | succ k s=>
  intro x cs tf t r h f g;obtain⟨a,b,c,rfl,_⟩:=bI f;refine zsh ?_;unfold zr aB V uY uW;refine tA (by grind [wD]) (jC λb q _=>?_);obtain⟨i,u,l,m,o,p⟩:=h.ah f q;have j:=Y5 (op:=17) (w:=[]) p;refine⟨_,_,l,tA (zvc rfl rfl) (tA j.e (sC ?_))⟩;have e:cA .i64 (((k+1:Nat):Int)-1)=(k:Int):=by grind [A2]
  rw[e];exact s (I7 17 [] x) _ i u (by omega) o j (g.g m)
def DD{tk:List xD}:∀(m a n:Nat),tk.length<=n+m->tk.length<=n+a->nL tk m n=nL tk a n:=by
 have z:∀m n,tk.length<=n->nL tk m n=0:=by
  intro m n h
  cases m with
  | zero=>rfl
  | succ m=>
   unfold nL;rw[A3];intro d;have:=AH (P:=⟨tk,0,.y,0,0,[]⟩) d
   grind
 intro m;induction m with
 | zero=>intro a n b c;rw[z 0 n (by omega),z a n (by omega)]
 | succ m e=>
  intro a n b c
  cases a with
  | zero=>rw[z (m+1) n (by omega),z 0 n (by omega)]
  | succ a=>
   grind [nL]
def zvh(H:cJ P d o 287)(y:Up o):cJ P d (aT P.a o) 129:=λtf t n Q E h p=>by
 refine w129 ?_;unfold t129 V uY;refine sC ?_;have l:∀(m i n:Nat) (t:G uA),nL P.a P.a.length n=m->i<=n->St P tf t n d->Ok P wP d tf ((eU P.a o (n+m)).c λx J=>.ok (Dv (i+m) x) J) Q E->sI E 129 2 ([.j P.b 0,.e .i64 (i:Int)]++zE) t Q:=by
  intro m;induction m with
  | zero=>
   intro i n t g B h p;refine zsi ?_;unfold zq uB uG aB uC V uY iH;have C:=h.f;refine zS h (λf r j=>?_) λf r j=>?_
   .have:n<P.a.length:=AH f;rw[DD _ (P.a.length+1) _ (by omega) (by omega)]at g
    grind [nL]
   .refine aA ?_;rw[pE 181];refine zxu H y _ _ _ _ _ j (p.c λx N A K v M D w u s=>?_);obtain⟨L,rfl,q⟩:=u;have z:=q;obtain⟨a,b,c,rfl,_⟩:=bI q;refine aC (H3 q) (tA q.e (sC ?_));exact zcz (k:=0) i x _ A K (by have:=h.m;omega) w z s
  | succ m I=>
   intro i n t g B h p;refine zsi ?_;unfold zq uB uG aB uC V uY iH;have C:=h.f;refine zS h (λf r j=>?_) λf r j=>?_
   .have F:n<P.a.length:=AH f;rw[DD _ (P.a.length+1) _ (by omega) (by omega)]at g;unfold nL at g;rw[A5 f]at g;have e:cA .i64 ((i:Int)+1)=((i+1:Nat):Int):=by grind [A2]
    refine sC ?_;rw[e];exact I (i+1) (n+1) r (by omega) (by omega) j (by rwa [show n+1+m=n+(m+1) by omega,show i+1+m=i+(m+1) by omega])
   .rw[DD _ (P.a.length+1) _ (by omega) (by omega)]at g
    grind [nL]
 exact l _ 0 n t rfl (by omega) h (by rw[D8];exact p)
def zxp(c:cJ P d o 287)(a:Up o):cJ P d (Ul P.a o) 67:=λtf t n Q E h b=>by
 refine w67 ?_;unfold t67 uG aB V uY iH nF;exact tA rfl (zs7 (zvh c a) (MP a) h b)
def FE(c:cJ P d o 287)(a:Up o):cJ P d (C0 P.a o) 31:=λtf t n Q E h b=>by
 refine w31 ?_;unfold t31 uG aB V uY iH nF;exact tA rfl (zs7 (zxp c a) (SN a) h b)
end
end
section
variable {i k:Nat}{f:Nat->List Nat}
variable [fC]
structure Jc:Prop where
 aa:∀ {s:List Nat} {neg:Bool} {tf t:G uA} {L:List kF} {Q:mB},bT s->xB Y.a tf t L->(∀tf' t' cs,zB tf tf'->xB Y.a tf' t' L->RD tf' (kL s neg).b cs->Q (.i cs) t')->Wc Y F 80 [.h s,.d neg] t Q
 ah:∀ {s:List Nat} {neg:Bool} {lo hi:Int} {t:G uA},bT s->xK s=false -> -4294967296<=lo->hi<=4294967296->∃i:Int,oB Y F 144 [.h s,.d neg,.e .i64 lo,.e .i64 hi] t=some (.p [.e .i64 i,.d (sP s neg lo hi).isSome])/\∀j,sP s neg lo hi=some j->i=j
 ac:∀ {s:List Nat} {t:G uA},sL t->Zn s->oB Y F 138 [.h s] t=some (.p [.e .i64 (((gU s).getD 0:Nat):Int),.e .i64 0])
theorem SI:∀s:List Nat,Fu [47] s=xK s:=by
 intro s;unfold xK;induction s with
 | nil=>rfl
 | cons b s a=>
  unfold Fu;rw[a,List.contains_cons];have e:Ay [47] (b::s)=(47 == b):=by
   grind [Ay,zD]
  rw[e];cases (47 == b)<;>rfl
theorem Vx{tk:List xD}{n b:Nat}{a:List Nat}(h:yK tk k n=.ok a b):cK tk k n=true/\a=yN tk n/\b=n+1:=by
 grind [yK]
section
variable {P:uK}{tf t:G uA}{n d:Nat}{Q E:mB}{J:xG}{o:PM pA}
def St.at(h:St P tf t n d) (a:cK P.a k i=true):∃x∈P.a,x.b=k/\x.a=yN P.a i:=by
 grind [cK,yN]
def St.ak(h:St P tf t n d) (e:cK P.a 2 i=true):bT (yN P.a i):=by
 obtain⟨x,a,b,c⟩:=h.at e;rw[<- c];exact(h.a x a).1 b
def St.az(h:St P tf t n d) (e:cK P.a 3 i=true):Zn (yN P.a i):=by
 obtain⟨x,a,b,c⟩:=h.at e;rw[<- c];exact(h.a x a).2 b
def Ui(l:Jc)(h:St P tf t n d)(m:Ok P Y2 d tf (eO P.a n) Q E):vL Y F E 79 [.j P.b 0] t Q:=by
 refine w79 ?_;unfold t79 uI uG uX V uY;refine aA ?_;rw[pE 68];refine Jy (k:=3) (by omega) h (m.c λa r q s v p o b f c=>?_);obtain⟨x,_,e,rfl⟩:=f;obtain⟨i,j,_⟩:=Vx p;have g:=h.az i;rw[<- j]at g;refine aC (H9 _) (aA ?_);rw[pQ 138,ua,e,l.ac (b.e.a b.g.b) g,xA];exact vA rfl (tB (vA rfl (tB (Ok.j c b rfl))))
def zc2{ty b:Nat} (a:Y.b.c ty=some ⟨.q 7 9,7,112,[.h [],.h [],.h [],.h [],.h [],.h [],.h []],true⟩)(h:At t b 0 ((List.range 7).map λi=>.h (f i))) (hi:i<7) :
  zC Y ty (.j b 0) (.e .u8 (i:Int))=some (.j b (0+i))/\oA Y 9 ⟨0,t⟩ (.j b (0+i))=some (.h (f i)):=by
 refine⟨?_,h.d iI rfl ?_⟩
 .unfold zC;rw[a,lA];have e:(O.e .u8 (i:Int)).aj=some i:=rfl;rw[e,lA];simp only[O.u];simp only[O.ah,jE.g,lA];rw[iI,lA,eC.2 hi,xE,Nat.mul_one]
 simp_all
def zvk(d:sL t) (hi:i<256):oB Y F 170 [.e .u8 (i:Int)] t=some (.h (cN i)):=by
 refine lC.2 (w170 ?_);unfold t170 uS;have e:cA .i64 (i:Int)=(i:Int):=A2 (by omega) (by omega);by_cases a:i<7
 .obtain⟨b,c⟩:=zc2 y9 d.2.1 a;exact tA (by grind [wD]) (vA b (iB c (gC ⟨rfl,rfl⟩)))
 .refine wB (by grind [wD]) ⟨?_,rfl⟩;have:cN i=[]:=by
   match i,a with
   | i+7,_=>rfl
  rw[this]
def zh4(d:sL t) (hi:i<256):oB Y F 84 [.e .u8 (i:Int)] t=some (.h (xJ i)):=by
 refine lC.2 (w84 ?_);unfold t84 uS;have e:cA .i64 (i:Int)=(i:Int):=A2 (by omega) (by omega);by_cases a:i<7
 .obtain⟨b,c⟩:=zc2 y9 d.1 a;exact tA (by grind [wD]) (vA b (iB c (gC ⟨rfl,rfl⟩)))
 .refine wB (by grind [wD]) ⟨?_,rfl⟩;have:xJ i=[]:=by
   match i,a with
   | i+7,_=>rfl
  rw[this]
def SS {g most:Nat}(l:∀(t:G uA),sL t->∀i:Nat,i<256->oB Y F g [.e .u8 (i:Int)] t=some (.h (f i)))(m:Nat.blt g pn=true)(p:(dC g&&Nat.blt g yo)=true)(r:most<200)(h:St P tf t n d)(a:Ok P oe d tf (nK P.a f most most 1 n) Q E):vL Y F E 201 [.j P.b 0,.e .u8 1,.e .u8 (most:Int),.q (.aa g) [] []] t Q:=by
 refine w201 ?_;unfold t201 uY;refine sC ?_;have j:∀(k i:Nat) (t:G uA),i+k=most+1->St P tf t n d->Ok P oe d tf (nK P.a f most k i n) Q E->sI E 201 2 [.j P.b 0,.e .u8 (most:Int),.q (.aa g) [] [],.e .u8 (i:Int)] t Q:=by
  intro k;induction k with
  | zero=>
   intro i t o h a;refine zr5 ?_;unfold zt uB uS V uY;exact wB (by grind [oU]) (aA (Ok.l h a))
  | succ k s=>
   intro i t o h a;refine zr5 ?_;unfold zt uB uS V uY;unfold nK at a;rw[A3 (by omega)]at a;have e:eM (.q (.aa g) [] []) [.e .u8 (i:Int)]=some (g,[.e .u8 (i:Int)]):=by
    unfold eM;simp only[O.am,lA,m,xE];rfl
   refine tA (by grind [oU]) (aZ e ?_);unfold lF;rw[A5 p,l t (h.e.a h.g.b) i (by omega),xA];refine gC (zS h (λc q b=>?_) λc q b=>?_)
   .rw[c]at a;exact Ok.j a b rfl
   grind [Mi,sC]
 grind
end
end
section
variable {neg:Bool}
variable [fC]
def Qo{t:G uA}{k:Nat}{i:Int}:RD t (gE.d ⟨k,zK,i⟩) [.e .u8 (k:Int),.d false,.g,.d false,.g,.e .i64 i]:=Sl (x:=⟨k,zK,i⟩) lS lS
def EP{t:G uA}{f:qF}{cs:List O}(h:RD t f.b cs):∃u v,cs=[.d f.n.b,u,.d f.d.b,v]/\mK [.d false,.g,.d false,.g] (.i cs)=some (AN cs)/\∀(k:Nat) (i:Int),RD t (gE.d ⟨k,f,i⟩) [.e .u8 (k:Int),.d f.n.b,u,.d f.d.b,v,.e .i64 i]:=by
 obtain⟨u,v,rfl,a,b⟩:=Go.Am.C4 h;exact⟨u,v,rfl,vO h (qF.zs _),λk i=>Sl (x:=⟨k,f,i⟩) a b⟩
section
variable {P:uK}{tf t:G uA}{n d:Nat}{Q E:mB}{J:xG}{o:PM pA}
def EO{K:O->T}{s:List Nat} (c:Jc)(h:St P tf t n d)(e:bT s)(k:∀a t' cs,zB tf a->St P a t' n d->RD a (kL s neg).b cs->iA Y.a (lF Y F dC zG E) J (K (.i cs)) t' Q) :
  iA Y.a (lF Y F dC zG E) J (.c 80 [.h s,.d neg] K) t Q:=by
 refine aA ?_;rw[pW 80];exact c.aa e h.g λa t' cs b f g=>k a t' cs b ⟨h.p.a b,f,h.f,h.m,h.a,h.e.a b⟩ g
def zmt(H:Jc) (h:St P tf t n d)(L:Ok P oi d tf (kS P.a neg n) Q E):vL Y F E 81 [.j P.b 0,.d neg] t Q:=by
 refine w81 ?_;unfold t81 uI uB uG aB rC V uY;refine vA nl (vA f1 (iB h.l1 (tB (aA ?_))));rw[pE 68];unfold kS at L;refine Jy (k:=2) (by omega) h (L.c λa r w t1 v U S o B m=>?_);obtain⟨x,_,e,rfl⟩:=B;obtain⟨M,N,g3⟩:=Vx U;have y:=h.ak M;rw[<- N]at y;have T:=h.m;subst e;refine aC (H9 _) (tA rfl (vA nl (vA f1 (iB o.l1 (tB ?_)))))
 have g:∀(k:Nat) (l:G uA),St P w l (r+1) d->Ok P oi d w (if xK x.a then .er 120 r else match sP x.a neg (-1048576) 1048576 with
   | none=>.er 121 n
   | some i=>.ok ⟨k,zK,i⟩ (r+1)) Q E->sI E 81 21 [.j P.b 0,.d neg,.e .i64 (n:Int),.e .u8 (k:Int),.e .i64 (r:Int),.e .u8 0,.d false,.g,.d false,.g,.e .i64 0,.e .u8 (x.b:Int),.h x.a,.e .i64 (x.c:Int),.e .i64 (x.e:Int)] l Q:=by
  intro k l f c;refine j81_21 ?_;unfold zqh uB rC V uY;refine aA ?_;rw[pQ 143,GJ (by have:=y.1;omega),xA,SI];refine cC ?_
  cases C:xK x.a with
  | true=>
   rw[C,A5 rfl]at c;refine tA rfl (vA nl (vA f1 (jC λb _ _=>?_)));obtain⟨z,p,q⟩:=f.r (n':=r) (by have:=f.m;omega);exact⟨_,_,p b,aA (Ok.l q c)⟩
  | false=>
   rw[C,A3 (by simp)]at c;refine wB (by simp) (sC (j81_27 ?_));unfold zqg zl uI uB rC uX V uY;obtain⟨i,hi,R⟩:=H.ah (s:=x.a) (neg:=neg) (lo := -1048576) (hi:=1048576) (t:=l) y C (by omega) (by omega);refine aA ?_;rw[pQ 144,hi,xA];refine vA rfl (tB (vA rfl (cC ?_)))
   cases D:sP x.a neg (-1048576) 1048576 with
   | none=>
    rw[D]at c;refine tA rfl (vA nl (vA f1 (jC λb _ _=>?_)));obtain⟨z,p,q⟩:=f.r (n':=n) (by omega);exact⟨_,_,p b,aA (Ok.l q c)⟩
   | some j=>
    rw[D]at c;have:=R j D;subst this;exact wB (by simp) (tA rfl (tA rfl (Ok.j c f ⟨_,rfl,Qo⟩)))
 refine zS o (λI l f=>?_) λI l f=>?_
 .refine sC (g 5 l f ?_)
  grind
 .refine zS f (λJ z A=>?_) λJ z A=>?_
  .refine sC (g 6 z A ?_)
   grind
  .rw[I,J]at m;refine EO H A y λZ t4 cs p q X=>?_;obtain⟨u,v,rfl,W,K⟩:=EP X;refine aC W (tA rfl (tA (K 2 0).e ?_));exact Ok.j (Ok.g m p) q ⟨_,rfl,K 2 0⟩
def oj (tf:G uA)(x:Option gE)(v:O):Prop:=match x with
 | some x=>∃a,v=.p [.i a,.d true]/\RD tf x.d a
 | none=>v=.p [.i zV,.d false]
def zpb(B:Jc)(h:St P tf t n d)(b:Ok P oj d tf (yT P.a n) Q E):vL Y F E 38 [.j P.b 0] t Q:=by
 refine w38 ?_;unfold t38 uI uB uG aB V uY mw w0;refine aA ?_;rw[pQ 77,Nr h,xA];unfold yT at b;rw[Sz (by omega),Sz (by omega)]at b;refine aC (H9 _) (tA rfl (zS h (λc W z=>?_) λc W z=>?_))
 .rw[c,A5 rfl]at b;exact tA rfl (tA rfl (Ok.j b z ⟨_,rfl,Qo⟩))
 rw[c,A3 (by simp)]at b;refine zS z (λc Z r=>?_) λc Z r=>?_
 .rw[c,A5 rfl]at b;exact tA rfl (tA rfl (Ok.j b r ⟨_,rfl,Qo⟩))
 rw[c,A3 (by simp)]at b;by_cases j:(lH P n).b=3
 .rw[decide_eq_true j,A5 rfl]at b;refine tA (by rw[R0,j];rfl) (aA ?_);rw[pE 79];refine Ui B r (b.c λa y a1 K v D q i g f=>?_);subst g;exact tB (tA rfl (tA rfl (Ok.j f i ⟨_,rfl,Qo⟩)))
 rw[decide_eq_false j,A3 (by simp)]at b;refine wB (by grind [R0,uF]) (zS r (λc K A=>?_) λc K A=>?_)
 .rw[c,A5 rfl]at b;refine aA ?_;rw[pW 78];refine Iy A λp l=>cC (aA ?_);rw[pE 68];have e:(if B0 P.a pJ (n+1)then n+2 else n+1)=(if B0 P.a pJ (n+1)then n+1+1 else n+1):=by split<;>rfl
  simp only[e]at b;refine Jy (k:=2) (by omega) l (b.c λa y I t5 v D q i g f=>?_);obtain⟨x,_,e,rfl⟩:=g;obtain⟨M,N,g3⟩:=Vx D;have J:=h.ak M;rw[<- N,<- e]at J;subst e;refine aC (H9 _) (EO B i J λa6 t6 L S T U=>?_);obtain⟨u,v,rfl,R,j⟩:=EP U;refine aC R (tA rfl (tA (j 3 0).e ?_));exact Ok.j (Ok.g f S) T ⟨_,rfl,j 3 0⟩
 rw[c,A3 (by simp)]at b;have o:∀(neg:Bool) (m:Nat) (p:G uA),St P tf p m d->Ok P oj d tf ((kS P.a neg m).c λv y=>.ok (some v) y) Q E →
   iA Y.a (lF Y F dC zG E) (M3 Y F E 38) (.c 81 [.j P.b 0,.d neg] λa=>.o zV a λX=>.a (nD O.z (cV X)) (.l (.p [.i (cV X),.d true])) .g) p Q:=by
  intro neg m p l C;refine aA ?_;rw[pE 81];refine zmt B l (C.c λa y I t5 v D q i g f=>?_);obtain⟨L,rfl,s⟩:=g;have H:=s;obtain⟨u,w,rfl,_⟩:=Rr s;exact aC (agV s) (tA s.e (Ok.j f i ⟨_,rfl,H⟩))
 refine zS A (λc p l=>?_) λc p l=>?_
 .grind
 rw[c,A3 (by simp)]at b;by_cases j:(lH P n).b=2
 .rw[decide_eq_true j,A5 rfl]at b;exact tA (by rw[R0,j];rfl) (o false _ p l b)
 rw[decide_eq_false j,A3 (by simp)]at b;exact wB (by grind [R0,uF]) (tA rfl (tA rfl (Ok.j b l rfl)))
def zyc(B:cJ P d o 287){op:Nat}(h:St P tf t n d)(z:Ok P wP d tf (wT P.a o op n) Q E):vL Y F E 313 [.j P.b 0,.e .u8 (op:Int)] t Q:=by
 refine w313 ?_;unfold t313 uS uG aB V uY nF;refine aA ?_;rw[pE 96];refine Kv h (z.c λw T K X v S A m l i=>?_);subst l;refine gC (Fo m i λU L Z r f j=>?_);refine aA ?_;rw[pE 287];refine B _ _ _ _ _ f (j.c λx W M t3 v C s g e k=>?_);obtain⟨R,rfl,p⟩:=e;have q:=p;obtain⟨a,b,c,rfl,_⟩:=bI p;refine aC (H3 p) (jC λb y _=>?_);obtain⟨N,t4,D,H,I,J⟩:=g.ah q y;have u:=Y5 (op:=op) (w:=w) J;exact⟨_,_,D,tA (by rw[gI];rfl) (tA u.e (Ok.j (k.g H) I ⟨_,rfl,u⟩))⟩
def Ok.p{W:xG}{r:PR pA}(b:Ok P wP d tf r Q E):Ok P wP d tf r (λv t'=>iA Y.a W J (.o zE v λX=>.a (nD O.z (cE X)) (.l (.i (cE X))) .g) t' Q) E:=by
 cases r with
 | ok x j=>exact λa h v f g c=>zfu c (b a h v f g c)
 | er e i=>exact b
def zn8(L:Jc)(y:cJ P d o 287)(D:Up o)(w:cJ P d (mW P.a (C0 P.a o)) 314):cJ P d (aN P.a o) 299:=λtf t n Q E h I=>by
 refine w299 ?_;unfold t299 uB uG aB uX V uY iH nF mw;refine aA ?_;rw[pE 38];unfold aN at I;refine zpb L h (I.c λv i m T u M B H j e=>?_)
 cases v with
 | some v=>
  obtain⟨K,rfl,k⟩:=j;have r:=k;obtain⟨a,b,rfl,g,s⟩:=Rr k;have w:RD m (Uj v).d [.e .u8 1,.h [],.e .u8 v.a,.d v.f.n.b,a,.d v.f.d.b,b,.e .i64 v.i,.g]:=Nw (op:=1) (name:=[]) (v:=v) (args:=[]) g s lS;exact vA rfl (aC (agV k) (vA rfl (cC (tA k.e (tA rfl (tA rfl (tA w.e (Ok.j e H ⟨_,rfl,w⟩))))))))
 | none=>
  have j:u=.p [.i zV,.d false]:=j;subst j;refine vA rfl (aC (agV (x:=qR) (Qo (t:=m))) (vA rfl (cC (tA rfl (wB (by simp) ?_)))));have e:Ok P wP d m (if B0 P.a [40] i then(C0 P.a o (i+1)).c λx i=>(mE P.a [41] i).c λ_ J=>.ok x J
   else if B0 P.a Mm i then .ok (.mk 2 [] qR []) (i+1)
   else if B0 P.a cW i then wT P.a o 3 (i+1)
   else if B0 P.a Gp i then wT P.a o 4 (i+1)
   else if pU P.a i then wT P.a o 5 i
   else mW P.a (C0 P.a o) i) Q E:=e
  refine zS H (λg l f=>?_) λg l f=>?_
  .rw[g,A5 rfl]at e;refine aA ?_;rw[pE 31];refine FE y D _ _ _ _ _ f (e.c λx J N U v M B C j z=>?_);obtain⟨K,rfl,k⟩:=j;have r:=k;obtain⟨a,b,c,rfl,_⟩:=bI k;refine aC (H3 k) (tA k.e (Fo C z λS R W p q A=>?_));have F:=RD.f p _ _ r;exact tA k.e (Ok.j A q ⟨_,rfl,F⟩)
  rw[g,A3 (by simp)]at e;refine zS f (λg l f=>?_) λg l f=>?_
  .rw[g,A5 rfl]at e;exact tA rfl (tA rfl (Ok.j e f ⟨_,rfl,Nw (op:=2) (name:=[]) (v:=qR) (args:=[]) lS lS lS⟩))
  rw[g,A3 (by simp)]at e;refine zS f (λg l f=>?_) λg l f=>?_
  .rw[g,A5 rfl]at e;refine aA ?_;rw[pE 313];exact zyc y (op:=3) f e.p
  rw[g,A3 (by simp)]at e;refine zS f (λg l f=>?_) λg l f=>?_
  .rw[g,A5 rfl]at e;refine aA ?_;rw[pE 313];exact zyc y (op:=4) f e.p
  rw[g,A3 (by simp)]at e;refine aA ?_;rw[pQ 151,OU f,xA];refine cC ?_
  cases s:pU P.a i with
  | true=>
   rw[s,A5 rfl]at e;refine tA rfl (aA ?_);rw[pE 313];exact zyc y (op:=5) f e.p
  | false=>
   rw[s,A3 (by simp)]at e;refine wB (by simp) (aA ?_);rw[pE 314];exact w _ _ _ _ _ f e.p
end
end
section
variable {l:List pA}{v:O}{b:Nat}{L:List kF}
variable [fC]
section
variable {base:Nat}{tf t:G uA}{C:fA}{A B:List kF}
theorem xB.q{T el sz n:Nat}{l:List D}{dd:D}{x:O}{cs:List O}(g:rT C T el sz)(h:xB C.a tf t (A++iD C.a sz l v::B))(k:bA tf sz [dd] x)(q:l.length+1<400000)(i:t.c n=none)(a:C.a<=n) :
  ∃t' v',lG C T T v x ⟨n,t⟩=some (v',⟨n+1,t'⟩)/\xB C.a tf t' (A++iD C.a sz (l++[dd]) v'::B)/\O.z v'=true:=by
 obtain⟨p,e,b⟩:=k;have j:bU C.a tf t sz l v:=h.s (iD C.a sz l v) (by simp);obtain⟨c,r,rfl,f,d⟩:=kD.1 b;rw[pG]at d;subst d;obtain⟨t',o,s,u,w⟩:=UA g (m:=[dd]) j (e.d h.b) b (by
  have:=f.e
  grind [gI]) (by simp) (by omega) i a h.b
 refine⟨t',_,o,?_,rfl⟩
 grind [xB.aj,iD,Kz,vK]
end
def el29:rT Y 29 31 9:=⟨⟨_,S7,rfl,rfl⟩,⟨_,cu,rfl,rfl,by decide,by decide⟩,λy h=>by rw[cu]at h;cases h;rfl⟩
def uK.c(P:uK)(L:List kF):uK:=⟨P.a,P.b,P.d,P.e,P.f,L⟩
def CF.g(f:CF):List O:=[.h f.d,.e .u8 (f.e:Int),.d f.b,.e .i64 (f.a:Int),.e .i64 (f.c:Int)]
abbrev Tl:List O:=[.h [108,111,111,107],.e .u8 6,.d true,.e .i64 1,.e .i64 2,.h [109,105,110],.e .u8 11,.d false,.e .i64 2,.e .i64 2,.h [109,97,120],.e .u8 12,.d false,.e .i64 2,.e .i64 2,.h [98,101,116,119,101,101,110],.e .u8 20,.d false,.e .i64 2,.e .i64 2,.h [105,102],.e .u8 18,.d false,.e .i64 3,.e .i64 3,.h [114,111,117,110,100],.e .u8 19,.d false,.e .i64 2,.e .i64 2,.h [115,101,114,118,105,99,101],.e .u8 21,.d true,.e .i64 2,.e .i64 2,.h [103,114,111,119],.e .u8 23,.d true,.e .i64 2,.e .i64 2,.h [98,101,115,116],.e .u8 22,.d true,.e .i64 3,.e .i64 3,.h [109,111,110,116,104,115],.e .u8 24,.d false,.e .i64 1,.e .i64 1,.h [110,117,109,98,101,114],.e .u8 25,.d false,.e .i64 1,.e .i64 1,.h [115,116,97,114,116],.e .u8 26,.d false,.e .i64 1,.e .i64 1]
section
variable {P:uK}{tf t:G uA}{n d:Nat}{Q E:mB}{J:xG}{o:PM pA}
def St.be  (h:St P tf t n d)(e:t.c b=none):∃a t',dL v ⟨b,t⟩=some (.j b 0,⟨b+1,t'⟩)/\zB tf a/\St P a t' n d/\xC a b none v.s:=by
 obtain⟨t',j,⟨c,k,f⟩,q,l⟩:=Zv (v:=v) e;have o:=h.g.z e l;have g:=h.g.ak e;obtain⟨p,i⟩:=o.r (λm=>h.g.aa e m) k g;exact⟨_,t',j,i,⟨h.p.a i,p,h.f,h.m,h.a,h.e.a i⟩,c,by rw[G.aa,A5 rfl],f⟩
def St.aw{T:Nat}{y:jD} (h:St P tf t n d)(p:Y.b.c T=some y)(E:v.s.length=y.b)(F:y.c.length=y.b)(f:nD O.z v.s=true)(r:t.c b=none)(a:Y.a<=b) :
  ∃t1,qL Y T ⟨b,t⟩=some (.j b 0,⟨b+1,t1⟩)/\∃e t2,(∀q,mC Y T (.j b 0) v ⟨q,t1⟩=some (aD,⟨q,t2⟩))/\zB tf e/\St P e t2 n d/\xC e b none v.s:=by
 obtain⟨t1,w,x,z,D⟩:=yQ (C:=Y) p r;refine⟨t1,w,?_⟩;have J:=xB.c (A:=[nH P n d]) (B:=P.L) h.g r a x z D;obtain⟨t2,H,g⟩:=xB.a (A:=[nH P n d]) (j:=0) (v:=v) J p E (by omega) f;have l:jJ y.c 0 v.s=v.s:=by
  unfold jJ;rw[List.take_zero,F3,F1 (by omega),Do]
 rw[l]at g;obtain⟨c,s,u⟩:=g.d;have i:=g.x (o:=oC b none v.s) (k:=b) (by simp[oC]);obtain⟨I,m⟩:=(xB.i g).r i s (g.f b (by simp[oC])).2;exact⟨_,t2,H,m,⟨h.p.a m,I,h.f,h.m,h.a,h.e.a m⟩,c,by rw[G.aa,A5 rfl],u⟩
def Al{a:Nat}{w:Nat}(h:xC tf a none [.j w 0])(b:St P tf t n d):oA Y 76 ⟨0,t⟩ (.j a 0)=some (.j w 0):=(xC.d h b.g.b).f ty76 rfl rfl
def zw2:∀i:Nat,i<12->∃f,Bl[i]?=some f/\mJ Y 340 (.i Tl) (.e .i64 (i:Int))=some (.i f.g):=by
 intro i a;have:i=0\/i=1\/i=2\/i=3\/i=4\/i=5\/i=6\/i=7\/i=8\/i=9\/i=10\/i=11:=by omega
 rcases this with rfl | rfl | rfl | rfl | rfl | rfl | rfl | rfl | rfl | rfl | rfl | rfl<;>exact⟨_,rfl,by kernel_rfl⟩
def zw4(tk:List xD):PM CF:=λn=>match Bl.find? λf=>B0 tk f.d n with
 | none=>.er 120 n
 | some f=>.ok f (n+1)
def ol (_:G uA)(f:CF)(v:O):Prop:=f∈Bl/\v=.i f.g
def zw3{l g:Nat}(u:xC tf l none Tl)(r:xC tf g none [.j P.b 0])(h:St P tf t n d)(a:Ok P ol d tf (zw4 P.a n) Q E):vL Y F E 319 [.j l 0,.j g 0] t Q:=by
 refine w319 ?_;unfold t319 V uY;have o:oA Y 340 ⟨0,t⟩ (.j l 0)=some (.i Tl):=by
  have:=(xC.d u h.g.b).p.e (j:=0) (n:=60) W9 rfl rfl (by decide)
  simp_all
 refine iB o (sC ?_);have c:∀(k i:Nat) (t:G uA),i+k=12->St P tf t n d->Ok P ol d tf (match (Bl.drop i).find? λf=>B0 P.a f.d n with | none=>.er 120 n | some f=>.ok f (n+1)) Q E →
   sI E 319 2 [.j g 0,.i Tl,.e .i64 (i:Int),.h [],.e .u8 0,.d false,.e .i64 0,.e .i64 0] t Q:=by
  intro k;induction k with
  | zero=>
   intro i t v h a;refine zrn ?_;unfold zx uB uG uC V uY;have e:Bl.drop i=[]:=F1 (by simp_all);rw[e]at a;exact wB (by grind [wD]) (iB (Al r h) (aA (Ok.l h a)))
  | succ k y=>
   intro i t v h a;refine zrn ?_;unfold zx uB uG uC V uY;obtain⟨f,s,w⟩:=zw2 i (by omega);obtain⟨p,m⟩:=G1.1 s;rw[F8 p,m,List.find?_cons]at a;refine tA (by grind [wD]) (vA w (aC (X:=AN f.g) (aQ rfl) (tA rfl (iB (Al r h) (zS h (λb x q=>?_) λb x q=>?_)))))
   .have b:B0 P.a f.d n=true:=b;rw[b]at a;exact tA rfl (Ok.j a q ⟨Q5 s,rfl⟩)
   .have b:B0 P.a f.d n=false:=b
    grind [A2,sC]
 exact c 12 0 t rfl h a
abbrev kQ(l:List pA)(v:O):kF:=iD Y.a 9 (l.map pA.d) v
def St.s   (h:St (P.c (kQ l v::L)) tf t n d):bU Y.a tf t 9 (l.map pA.d) v:=h.g.s (kQ l v) (by simp[uK.c])
def St.ba {x:pA} {j:List O} (h:St (P.c (kQ l v::L)) tf t n d)(s:RD tf x.d j)(y:l.length<1000) (p:t.c b=none) :
  ∃t1 w,rD Y 29 1 [(0,.i j)] ⟨b,t⟩=some (w,⟨b+1,t1⟩)/\∀c,t1.c c=none->Y.a<=c->∃g t2 e,lG Y 29 29 v w ⟨c,t1⟩=some (e,⟨c+1,t2⟩)/\zB tf g/\St (P.c (kQ (l++[x]) e::L)) g t2 n d/\nD O.z [e]=true:=by
 obtain⟨f,t1,k,m,a,o⟩:=h.ah s p;refine⟨t1,_,k,λc q i=>?_⟩;have r:=a.g;obtain⟨t2,e,u,z,C⟩:=xB.q (A:=[nH P n d]) (B:=L) (cs:=[]) el29 r o (by grind) q i;refine⟨f,t2,e,u,m,⟨a.p,?_,a.f,a.m,a.a,a.e⟩,by grind [gI]⟩;show xB Y.a f t2 ([nH P n d]++iD Y.a 9 ((l++[x]).map pA.d) e::L)
 simp_all
end
end
section
variable {q s:Type}{w:List Nat}{f:CF}{p m:Nat}{e:PM pA}{K:O->T}{l:List pA}{v:O}
variable [fC]
def PR.j{b:Type}(r:PR q)(f:q->Nat->PR s)(g:s->Nat->PR b):(r.c f).c g=r.c λa n=>(f a n).c g:=by cases r<;>rfl
section
variable {tk:List xD}{o:PM pA}
theorem fQ  : Up (mE tk w):=by
 intro n a b h;grind [mE]
theorem Kx:Up (mL tk):=by
 intro n a b h;grind [mL]
theorem Vw{k:Nat}:Up (yK tk k):=by
 intro n a b h;grind [yK]
def dF {r:PM q}{f:q->PM s}(e:Up r)(g:∀a,Up (f a)):Up λn=>(r n).c f:=by
 intro n b i h;obtain⟨a,j,c,d⟩:=PR.k h;have:=e _ _ _ c;have:=g _ _ _ _ d;omega
theorem gN {a:q}:Up (λn=>(.ok a n:PR q)):=by intro n b c h;simp_all
def Oz:Up (eO tk):=dF Vw λ_=>gN
theorem om{f:Nat->List Nat}  : ∀(k i:Nat),Up (nK tk f m k i):=by
 intro k;induction k with
 | zero=>intro i n a c h;cases h
 | succ k b=>
  intro i n a c h;unfold nK at h;split at h
  .cases h
  .split at h
   .grind
   .exact b _ _ _ _ h
theorem KV{neg:Bool}:Up (kS tk neg):=by
 intro n b e h;unfold kS at h;obtain⟨a,f,c,d⟩:=PR.k h;have:=Vw _ _ _ c
 grind
theorem zj0:Up (yT tk):=by
 intro n b e h;unfold yT at h;split at h
 .grind
 split at h
 .grind
 split at h
 .exact dF Oz (λ_=>gN) _ _ _ h
 split at h
 .obtain⟨a,f,c,d⟩:=PR.k h;have:=Vw _ _ _ c;cases d;split at this<;>omega
 split at h
 .have:=dF KV (λ_=>gN) _ _ _ h;omega
 split at h
 .exact dF KV (λ_=>gN) _ _ _ h
 simp_all
def zne (a:Up e):∀(k:Nat) (l:List pA),Up (fY tk e k l):=by
 intro k;induction k with
 | zero=>intro l;exact gN
 | succ k b=>intro l;exact dF fQ λ_=>dF a λx=>b (l++[x])
theorem zmc (a:Up e):∀(k:Nat) (l:List pA),Up (jT tk e k l):=by
 intro k;induction k with
 | zero=>intro l;exact gN
 | succ k c=>
  intro l n b d h;unfold jT at h;split at h
  .have:=dF a (λx=>c (l++[x])) _ _ _ h;omega
  simp_all
def zks(a:Up o){op:Nat}:Up (wT tk o op):=dF Kx λ_=>dF fQ λ_=>dF a λ_=>gN
theorem zpk (c:Up e):Up (mW tk e):=by
 intro n b r h;unfold mW at h;split at h
 .cases h
 .rename_i f _;have k:Up (λd=>(if f.b then(mL tk d).c λw o=>(mE tk [44] o).c λ_ p=>.ok w p else .ok [] d:PR (List Nat))):=by
   cases f.b with
   | true=>simp_all [dF,Kx,fQ,gN]
   | false=>exact gN
  have j:Up (λg=>(if f.e=19 then(mE tk [44] g).c λ_ q=>nK tk cN 6 6 1 q else .ok 0 g:PR Nat)):=by
   by_cases i:f.e=19
   all_goals simp_all [dF,fQ,om,gN]
  have:=dF fQ (λ_=>dF k λw=>dF c λx=>dF (zne c (f.a-1) [x]) λl=>dF (zmc c (f.c-f.a) l) λl=>dF j λm=>dF fQ λ_=>gN (a:=pA.mk f.e w ⟨0,zK,m⟩ l)) _ _ _ h;omega
theorem PC(c:Up o):Up (aN tk o):=by
 have d:=RI (tk:=tk) c;refine dF zj0 λv=>?_
 cases v with
 | some v=>exact gN
 | none=>
  intro n b e h;simp only at h;split at h
  .have:=dF d (λx=>dF fQ λ_=>gN (a:=x)) _ _ _ h;omega
  split at h
  .grind
  split at h
  .have:=zks c _ _ _ h;omega
  split at h
  .have:=zks c _ _ _ h;omega
  split at h
  .exact zks c _ _ _ h
  .exact zpk d _ _ _ h
end
section
variable {P:uK}{tf t:G uA}{n d:Nat}{Q E:mB}{J:xG}{o:PM pA}{j:kF}
def St.ax(h:St (P.c (j::P.L)) tf t n d):St P tf t n d:=⟨h.p,xB.i (A:=[nH P n d]) (o:=j) h.g,h.f,h.m,h.a,h.e⟩
def Ok.b {g:G uA->q->O->Prop}{rd:G uA->s->O->Prop}{r:PR q}{f:q->Nat->PR s}{t:mB}(h:Ok P rd d tf (r.c f) Q E)
  (k:∀a o b t1 v,r=.ok a o->zB tf b->St (P.c (j::P.L)) b t1 o d->g b a v->Ok P rd d b (f a o) Q E->t v t1):Ok (P.c (j::P.L)) g d tf r t E:=by
 cases r with
 | ok a n=>exact λc p v l m w=>k a n c p v rfl l m w (Ok.g h l)
 | er e i=>exact λc p x u l m=>h c p x u l m.ax
def Lp  (h:St P tf t n d)(j:Ok P rdU d tf (mE P.a w n) (λv t'=>iA Y.a (lF Y F dC zG E) J (K v) t' Q) E) :
  iA Y.a (lF Y F dC zG E) J (.h (rD Y 62 1 [(0,.h w)]) λa=>.c 95 [.j P.b 0,a] K) t Q:=by
 refine jC λb i _=>?_;obtain⟨l,m,c,e,f,g⟩:=h.ac (k:=1) (sz:=1) (ds:=[D.c w]) (cl:=[[.h w]]) Ty rfl iI rfl rfl (by omega) (Oo (sz:=1) (z:=[.h []]) (v:=.h w) rfl rfl) (Kp rfl) rfl (kD.2 ⟨_,_,rfl,mP.2 rfl,pG.2 rfl⟩) i;refine⟨_,_,c,aA ?_⟩;rw[pE 95];exact RK g f (j.g e)
def zdn(tk:List xD)(f:CF)(w:List Nat)(l:List pA)(m:Nat):PM pA:=λn=>(mE tk [41] n).c λ_ a=>.ok (.mk f.e w ⟨0,zK,m⟩ l) a
def zt7(tk:List xD)(f:CF)(w:List Nat)(l:List pA):PM pA:=λb=>(if f.e=19 then(mE tk [44] b).c λ_ a=>nK tk cN 6 6 1 a else .ok 0 b:PR Nat).c λm a=>zdn tk f w l m a
def zt8(tk:List xD)(e:PM pA)(f:CF)(w:List Nat)(k:Nat)(l:List pA):PM pA:=λn=>(jT tk e k l n).c λl a=>zt7 tk f w l a
def uc(tk:List xD)(e:PM pA)(f:CF)(w:List Nat)(k:Nat)(l:List pA):PM pA:=λn=>(fY tk e k l n).c λl a=>zt8 tk e f w (f.c-f.a) l a
def zpl{tk:List xD}  : mW tk e n=(zw4 tk n).c λf a=>(mE tk [40] a).c λ_ a=>
  (if f.b then(mL tk a).c λw b=>(mE tk [44] b).c λ_ c=>.ok w c else .ok [] a:PR (List Nat)).c λw b=>(e b).c λx c=>uc tk e f w (f.a-1) [x] c:=by
 unfold mW zw4
 cases Bl.find? λf=>B0 tk f.d n with
 | none=>rfl
 | some f=>rfl
abbrev c6(f:CF)(w:List Nat)(m:Nat)(v:O):List O:=[.e .u8 (f.e:Int),.h w,.e .u8 0,.d false,.g,.d false,.g,.e .i64 (m:Int),v]
def zqi     (j:xC tf p none [.j P.b 0])(h:St (P.c (kQ l v::P.L)) tf t n d)(i:Ok P wP d tf (zdn P.a f w l m n) Q E):sI E 314 37 ([.j p 0]++zE++c6 f w m v) t Q:=by
 refine zwb ?_;unfold zdy aB V uY;unfold zdn at i;refine iB (Al j h) (Lp (P:=P.c (kQ l v::P.L)) h (i.b λ_ s y x u z k a o b=>?_));obtain⟨e,c,q,r⟩:=xB.g (A:=[nH P s d]) (B:=P.L) a.g;have g:RD e (pA.mk f.e w ⟨0,zK,m⟩ l).d (c6 f w m v):=Nw (v:=⟨0,zK,m⟩) lS lS r;refine tA g.e (Ok.j (Ok.g b c) (t:=x) ⟨a.p.a c,q,a.f,a.m,a.a,a.e.a c⟩ ⟨_,rfl,g⟩)
def Y6     (H:f.e<256)(o:xC tf p none [.j P.b 0])(h:St (P.c (kQ l v::P.L)) tf t n d)(b:Ok P wP d tf (zt7 P.a f w l n) Q E) :
  iA Y.a (lF Y F dC zG E) (M3 Y F E 314) (.a (kB (f.e:Int) 19)
 (.e (λm=>oA Y 76 ⟨0,m⟩ (.j p 0)) λq=>.h (rD Y 62 1 [(0,(.h [44]))]) λr=>
 .c 95 [q,r] λB=>
 .e (λm=>oA Y 76 ⟨0,m⟩ (.j p 0)) λs=>.c 201 [s,(.e .u8 1),(.e .u8 6),(.q (.aa 170) [] [])] λx=>
 .r .u8 x λA=>.a true (.j 37 ([.j p 0]++zE++[.e .u8 (f.e:Int),.h w,.e .u8 0,.d false,.g,.d false,.g,.e .i64 (cA .i64 A),v])) .g)
 (.j 37 ([.j p 0]++zE++c6 f w 0 v))) t Q:=by
 unfold zt7 at b;by_cases a:f.e=19
 .rw[A5 a,PR.j]at b;refine tA (by rw[a];rfl) (iB (Al o h) (Lp (P:=P.c (kQ l v::P.L)) h (b.b λ_ S L U u R c j J y=>?_)));refine iB (Al (xC.d o c) j) (aA ?_);rw[pE 201];refine SS (P:=P.c (kQ l v::P.L)) (f:=cN) (most:=6) (λt C i D=>zvk C D) (by kernel_rfl) (by kernel_rfl) (by omega) j (y.b λm T M W u I e k g z=>?_);subst g;refine tB (tA rfl (sC ?_));have N:m<256:=by
   grind [nK]
  have K:cA .i64 (m:Int)=(m:Int):=A2 (by omega) (by omega);rw[K];exact zqi (xC.d o (c.d e)) k z
 .rw[A3 a]at b;refine wB (by grind [uF]) (sC ?_);exact zqi o h b
def DG    {f:pA->Nat->PR pA} (S:∀L,cJ (P.c L) d e 31)(M:xC tf p none [.j P.b 0])(U:l.length<1000)(h:St (P.c (kQ l v::P.L)) tf t n d)(T:Ok P wP d tf ((e n).c f) Q E)
  (k:∀x j g t1 v',zB tf g->St (P.c (kQ (l++[x]) v'::P.L)) g t1 j d->Ok P wP d g (f x j) Q E->iA Y.a (lF Y F dC zG E) J (K v') t1 Q) :
  iA Y.a (lF Y F dC zG E) J (.e (λm=>oA Y 76 ⟨0,m⟩ (.j p 0)) λa=>.c 31 [a] λH=>.o zE H λX=>.a (A8 10 v v) (.h (rD Y 29 1 [(0,.i (cE X))]) λI=>.a (A8 10 v v) (.h (lG Y 29 29 v I) λB=>.a (nD O.z [B]) (K B) .g) .g) .g) t Q:=by
 refine iB (Al M h) (aA ?_);rw[pE 31];refine S (kQ l v::P.L) _ _ _ _ _ h (T.b λx j g t1 u hr r i s q=>?_);obtain⟨cs,rfl,y⟩:=s;have z:=y;obtain⟨a,b,c,rfl,_⟩:=bI y;have C:A8 10 v v=true:=i.s.g;refine aC (H3 y) (tA C (jC λb N _=>?_));obtain⟨t2,w,W,Z⟩:=i.ba z U N;refine⟨_,_,W,tA C (jC λc R o=>?_)⟩;obtain⟨A,t3,v3,m1,D,m3,m4⟩:=Z c R o;exact⟨_,_,m1,tA m4 (k x j A t3 v3 (r.d D) m3 (Ok.g q D))⟩
def t6_ok    (r:∀L,cJ (P.c L) d e 31)(i:f.e<256)(o:f.c<900):∀(k:Nat) (l:List pA) (v:O) (n:Nat) (tf t:G uA),l.length+k=f.c->xC tf p none [.j P.b 0]->St (P.c (kQ l v::P.L)) tf t n d->Ok P wP d tf (zt8 P.a e f w k l n) Q E →
  sI E 314 6 ([.j p 0]++zE++f.g++c6 f w 0 v) t Q:=by
 intro k;induction k with
 | zero=>
  intro l v n tf t g c h b;refine zrp ?_;unfold zw uI uU uB uG aB V uY uW nF;have j:=h.s.q;rw[C5]at j;exact vA j (tB (wB (by grind [wD]) (Y6 i c h b)))
 | succ k s=>
  intro l v n tf t g c h b;refine zrp ?_;unfold zw uI uU uB uG aB V uY uW nF;have j:=h.s.q;rw[C5]at j;unfold zt8 jT at b;refine vA j (tB (tA (by grind [wD]) (iB (Al c h) (zS (P:=P.c (kQ l v::P.L)) h (λa B m=>?_) λa B m=>?_))))
  .have a:B0 P.a [44] n=true:=a;rw[a,A5 rfl,PR.j]at b;exact DG r c (by omega) m b λx A q C D u y z=>sC (s (l++[x]) D A q C (by grind) (xC.d c u) y z)
  .have a:B0 P.a [44] n=false:=a;rw[a,A3 (by simp)]at b;exact Y6 i c m b
def t2_ok    (s:∀L,cJ (P.c L) d e 31)(o:f.e<256)(b:f.c<900)(y:f.a<=f.c):∀(k:Nat) (l:List pA) (v:O) (n:Nat) (tf t:G uA),l.length+k=f.a->xC tf p none [.j P.b 0]->St (P.c (kQ l v::P.L)) tf t n d->Ok P wP d tf (uc P.a e f w k l n) Q E →
  sI E 314 2 ([.j p 0]++zE++f.g++c6 f w 0 v) t Q:=by
 intro k;induction k with
 | zero=>
  intro l v n tf t j c h g;refine zrq ?_;unfold zu uI uG aB V uY nF;have m:=h.s.q;rw[C5]at m;exact vA m (tB (wB (by grind [wD]) (sC (t6_ok s o b _ l v n tf t (by omega) c h g))))
 | succ k A=>
  intro l v n tf t j c h g;refine zrq ?_;unfold zu uI uG aB V uY nF;have m:=h.s.q;rw[C5]at m;unfold uc fY at g;rw[PR.j]at g;refine vA m (tB (tA (by grind [wD]) (iB (Al c h) (Lp (P:=P.c (kQ l v::P.L)) h (g.b λ_ M I N u K a q z i=>?_)))));rw[PR.j]at i;exact DG s (xC.d c a) (by omega) q i λx F r H J B C D=>sC (A (l++[x]) J F r H (by grind) (xC.d c (a.d B)) C D)
def zqr    (l:∀L,cJ (P.c L) d e 31)(g:f.e<256)(a:f.c<900)(c:f.a<=f.c)(z:1<=f.a)(j:xC tf p none [.j P.b 0])(h:St P tf t n d)(b:Ok P wP d tf ((e n).c λx u=>uc P.a e f w (f.a-1) [x] u) Q E) :
  sI E 314 19 ([.j p 0]++zE++f.g++c6 f w 0 .g) t Q:=by
 refine zwc ?_;unfold zd0 uG aB V uY nF;have m:St (P.c (kQ [] .g::P.L)) tf t n d:=⟨h.p,xB.ac (A:=[nH P n d]) (B:=P.L) (o':=kQ [] .g) h.g (λ_ _=>rfl) (λk b=>by simp[iD,vK]at b) (.inl ⟨rfl,rfl⟩) (by simp[iD,vK]) h.g.b,h.f,h.m,h.a,h.e⟩;exact DG l j (by simp) m b λx s i v y o q r=>sC (t2_ok l g a c (f.a-1) [x] y s i v (by grind) (xC.d j o) q r)
def zol:∀f∈Bl,f.e<256/\f.c<900/\f.a<=f.c/\1<=f.a:=by decide
def GO (U:∀L,cJ (P.c L) d e 31):cJ P d (mW P.a e) 314:=λtf t n Q E h W=>by
 rw[zpl]at W;refine w314 ?_;unfold t314 uS uG V uY;refine jC λp z _=>?_;obtain⟨ab,t1,h1,h2,h3,h4⟩:=h.be (v:=.j P.b 0) z;refine⟨_,_,h1,?_⟩;refine tA rfl (tA rfl (tA rfl (tA rfl (tA rfl (tA rfl (tA rfl (tA rfl (tA rfl (tA rfl (tA rfl (tA rfl (tA rfl (jC λa1 A B=>?_)))))))))))));obtain⟨t2,k1,I,t3,k2,k3,k4,k5⟩:=h3.aw (v:=.i Tl) W9 rfl rfl rfl A B;refine⟨_,_,k1,jC λc _ _=>⟨_,_,k2 c,?_⟩⟩;have R:xC I p none [.j P.b 0]:=xC.d h4 k3
 refine aZ (g:=319) (a:=[.j a1 0,.j p 0]) rfl ?_;rw[pE 319];refine zw3 k5 R k4 ((W.g (h2.d k3)).c λf n1 ac t4 u hr F r H C=>?_);obtain⟨hf,rfl⟩:=H;obtain⟨J,K,M,N⟩:=zol f hf;have S:=xC.d R F;refine aC (X:=AN f.g) (aQ rfl) (tA rfl (tA rfl (tA rfl (iB (Al S r) (Lp r (C.c λ_ n2 ad t5 u2 a7 l b Z i=>?_))))));have y:=xC.d S l
 cases x:f.b with
 | true=>
  rw[x,A5 rfl,PR.j]at i;refine tA x (iB (Al y b) (aA ?_));rw[pE 96];refine Kv b (i.c λw n3 ae t6 u3 a8 m j q k=>?_);subst q;rw[PR.j]at k;have T:=xC.d y m;refine gC (tA rfl (iB (Al T j) (Lp j (k.c λ_ n4 af t7 u4 aa o s a6 D=>?_))));exact sC (zqr U J K M N (xC.d T o) s D)
 | false=>
  rw[x,A3 (by simp)]at i;refine wB (by rw[show(AN f.g).b 2=f.b from rfl,x];simp) (sC ?_);exact zqr U J K M N y b i
def LY(z:Jc){tk:List xD}:∀(k d:Nat),d+k=101->∀P:uK,P.a=tk->Up (A9 tk k)/\cJ P d (A9 tk k) 287:=by
 intro k;induction k with
 | zero=>
  intro d A P l;refine⟨λn a J h=>(by cases h),λtf t n Q E h f=>?_⟩;refine w287 ?_;unfold t287 uI rC V uY;exact vA nl (vA f2 (iB h.l2 (tB (tA (by grind [wD]) (aA (Ok.l h f))))))
 | succ k s=>
  intro d A P l;have g:Up (A9 tk k):=(s (d+1) (by omega) P l).1;have q:∀L,cJ (P.c L) (d+1) (A9 tk k) 287:=λL=>(s (d+1) (by omega) (P.c L) l).2;subst l;have m:cJ P (d+1) (aN P.a (A9 P.a k)) 299:=zn8 z (q P.L) g (GO λL=>FE (q L) g);refine⟨?_,λtf t n Q E h f=>?_⟩
  .exact PC g
  .refine w287 ?_;unfold t287 uI rC V uY;refine vA nl (vA f2 (iB h.l2 (tB (wB (by grind [wD]) (sC (j287_7 ?_))))));unfold zqn uI uG aB uC rC V uY uW iH nF;refine vA nl (vA f2 (iB h.l2 (tB (vA nl (vA f2 (jC λb _ _=>?_))))));obtain⟨M,w,y⟩:=h.am (d':=d+1);have e:cA .i64 ((d:Int)+1)=((d+1:Nat):Int):=by grind [A2]
   rw[e];refine⟨_,_,w b,aA ?_⟩;rw[pE 299];refine m _ _ _ _ _ y ?_;have f:Ok P wP d tf (aN P.a (A9 P.a k) n) Q E:=f;revert f;generalize aN P.a (A9 P.a k) n=r;intro f
   cases r with
   | er e i=>exact f
   | ok x K=>
    intro p N v C u ⟨I,B,j⟩;subst B;have o:=j;obtain⟨a,b,c,rfl,_⟩:=bI j;refine aC (H3 j) (tA j.e (vA nl (vA f2 (iB u.l2 (tB (vA nl (vA f2 (jC λb _ _=>?_))))))));obtain⟨H,D,F⟩:=u.am (d':=d);have e:cA .i64 (((d+1:Nat):Int)-1)=(d:Int):=by grind [A2]
    rw[e];exact⟨_,_,D b,tA j.e (f p H _ C F ⟨_,rfl,o⟩)⟩
def RH(a:Jc):cJ P 0 (oZ P.a) 31:=FE (LY a 101 0 rfl P rfl).2 (LY a 101 0 rfl P rfl).1
end
end
section
variable {b:Bool}{v:O}{l:List Nat}
variable [fC]
section
variable {t:G uA}{Q:mB}
def sO  (h:O.z v=true):nD O.z [.d b,v]=true:=by
 show(bif O.z (.d b)then(bif O.z v then true else false)else false)=true;rw[h];rfl
def zR   (h:bA t 1 (vD l) v):mK [.d false,.g] (.i [.d b,v])=some (AN [.d b,v]):=vO (Ht (w:=⟨b,l⟩) h) (sM.zs _)
def zfw  {neg:Bool}(j:bA t 1 (tC .u32 l) v)(k:l.length<=500)(b:pB 4294967296 l)
  (i:∀t' u,zB t t'->bA t' 1 (vD (iC (A4 4294967296 l))) u->Q (.p [.i [.d (if vF l=[]then false else neg),u],.e .i64 0]) t'):Wc Y F 195 [.d neg,v] t Q:=by
 refine w195 ?_;unfold t195 O2 uG oI dI;refine aA ?_;rw[q248];refine AS j (by omega) b λt' u g a=>?_;have c:pB 65536 (vF (jI (vF l))):=iW (AG (iW b));have f:A4 65536 (vF (jI (vF l)))=A4 4294967296 l:=by rw[wV,Vo,wV]
 have e:vF (jI (vF l))=iC (A4 4294967296 l):=Sx c (iY _) f;rw[e]at a;have h:(iC (A4 4294967296 l)).length<=1000:=by
  grind [Rc,Qu]
 have d:=bA.c (l:=vD (iC (A4 4294967296 l))) a;rw[fU]at d;refine aC (zR a) (tA (sO a.e) (vA d (tB (wB (by grind [wD]) (tA (sO a.e) ?_)))));exact i t' u g a
def CR{s:List Nat}(hs:∀b∈s,fD b=true)(U:s≠[])(hp:fP s=false)(hl:s.length<=200)(X:∀t' u,zB t t'->bA t' 1 (vD (iC (sE s))) u->Q (.p [.i [.d false,u],.e .i64 0]) t'):Wc Y F 140 [.h s] t Q:=by
 have z:∀b∈s,48<=b/\b<=57:=λb T=>by grind [fD]
 have B:0<s.length:=List.length_pos_iff.2 U;obtain⟨x,H⟩:∃x,s[0]?=some x:=⟨s[0],D0 B⟩;have ac:=z x (Q5 H);have l:=rP H;rw[show((0:Nat):Int)=0 from rfl]at l;have I:∀s:List Nat,(Int.ofNat (vB s))=(s.length:Int):=λs=>by rw[dD];rfl
 have o:∀(n:Nat) (r w:List Nat) (v:O) (y:G uA),r.length<=n->(∀b∈r,fD b=true)->r.length<=200->w.length+r.length<=300->zB t y->bA y 1 (tC .u32 w) v->pB 4294967296 w->A4 4294967296 w*10^r.length+sE r=sE s →
   jp 140 6 [.h r,.d false,v,.d false,.g] y Q:=by
  intro n;induction n with
  | zero=>
   intro r w v y hr K L hw f M g e;have:r=[]:=lk.1 (by omega);subst this;refine zse ?_;unfold xu uI uG oI dI;rw[I];refine wB (by simp[wD]) (aA ?_);rw[q195];refine zfw M (by omega) g λR u P q=>?_;have:(if vF w=[]then false else false)=false:=by split<;>rfl
   rw[this];have e:A4 4294967296 w=sE s:=by grind [sE]
   rw[e]at q;exact vA rfl (aC (zR q) (vA rfl (tB (tA (sO q.e) (X R u (f.d P) q)))))
  | succ n N=>
   intro r w v y hr K L hw f M g e;by_cases hz:r.length=0
   .grind
   refine zse ?_;unfold xu uI uG oI dI;have Z:(bif fB (Int.ofNat (vB r)) 9 then(Int.ofNat (vB r))else 9)=((min 9 r.length:Nat):Int):=by
    grind [wD]
   rw[Z,I];refine tA (by grind [wD]) (sC ?_);have a7:min 9 r.length<=r.length:=Nat.min_le_right _ _;generalize a6:min 9 r.length=c at *;have a1:c<=9:=by omega
   have D:∀i,i<=c->10^i<=1000000000:=λi p=>by
    have:10^i<=10^9:=L7 (by omega) (by omega);omega
   have A:∀i,sE (r.take i)<10^i\/r.length<i:=λi=>by
    grind [Io,List.length_take]
   have m:∀(k i:Nat),i+k=c->jp 140 10 [.h r,.d false,v,.e .i64 (c:Int),.e .u32 ((10^i:Nat):Int),.e .u32 ((sE (r.take i):Nat):Int),.e .i64 (c:Int),.e .i64 (i:Int),.d false,.g] y Q:=by
    intro k;induction k with
    | zero=>
     intro i p;have p:i=c:=by omega
     subst p;refine zif ?_;unfold BE;refine wB (by simp[wD]) (aA ?_);rw[q194];have C:=D i (B4 _);have h:sE (r.take i)<10^i:=(A i).resolve_right (by omega);refine zln M (by omega) g (by omega) (by omega) λR w2 v2 P q k3 k4 k5 k6=>?_;refine vA (Nb (by omega)) (gC (sC ?_));refine N (r.drop i) w2 v2 R (by grind) (λb T=>K b (List.mem_of_mem_drop T)) (by grind) (by grind) (f.d P) q k3 ?_
     grind [FW,List.take_append_drop]
    | succ k ad=>
     intro i p;have j:r[i]?=some r[i]:=D0 (by omega);have aa:48<=r[i]/\r[i]<=57:=by have:=K r[i] (F2 _);unfold fD at this;simpa using this
     refine zif ?_;unfold BE uU;have C:=D (i+1) (by omega);have h:sE (r.take (i+1))<10^(i+1):=(A (i+1)).resolve_right (by omega);rw[kT j,Zg]at h;refine tA (by grind [wD]) (vA (rP j) (tB (sC ?_)));rw[K7]at C h;have e1:cA .u32 (((10^i:Nat):Int)*10)=((10^(i+1):Nat):Int):=by rw[xY (by omega) (by omega),K7];omega
     have e2:cA .u32 (cA .u32 (((sE (r.take i):Nat):Int)*10)+cA .u32 (cA .u8 ((r[i]:Int)-48)))=((sE (r.take (i+1)):Nat):Int):=by
      rw[Mi (by omega) (by omega),xY (n:=((sE (r.take i):Nat):Int)*10) (by omega) (by omega),xY (n:=(r[i]:Int)-48) (by omega) (by omega),xY (by omega) (by omega),kT j,Zg];omega
     have S:uC (i:Int)=.e .i64 ((i+1:Nat):Int):=by
      show O.e .i64 (cA .i64 ((i:Int)+1))=_;rw[A2 (by omega) (by omega)];rfl
     grind
   exact m c 0 (by omega)
 have d:∀(k i:Nat),i+k=s.length->jp 140 2 [.h s,.d false,.e .i64 (s.length:Int),.e .i64 (i:Int),.d false,.g] t Q:=by
  intro k;induction k with
  | zero=>
   intro i p;refine zsf ?_;unfold xr U8 O2;rw[I];refine wB (by grind [wD]) (wB (by grind [wD]) (sC ?_));exact o s.length s [] .g t (B4 _) hs hl (by grind) (zB.f _) lS (λx H=>by cases H) (by simp[A4])
  | succ k N=>
   intro i p;have E:s[i]?=some s[i]:=D0 (by omega);have ab:=z s[i] (F2 _);refine zsf ?_;unfold xr U8 O2 uU;have S:uC (i:Int)=.e .i64 ((i+1:Nat):Int):=by
    grind [A2]
   refine tA (by grind [wD]) (vA (rP E) (tB (wB (by grind [wD]) (vA (rP E) (tB (wB (by grind [wD]) (sC ?_)))))));rw[S];exact N (i+1) (by omega)
 refine w140 ?_;unfold t140 uU;rw[I];refine tA (by grind [wD]) (vA l (tB (wB (by grind [uF]) (sC ?_))));have J:kB (x:Int) 45=false:=by grind [uF]
 rw[J];refine zwr ?_;unfold ze6 U8 uU;rw[I];refine wB (by grind [uF]) (vA l (tB ?_));by_cases W:x=48
 .have a8:s.length=1:=by
   unfold fP at hp;have:s.head?=some 48:=by
    cases s with
    | nil=>cases H
    | cons a r=>simp_all
   grind
  refine tA (by grind [uF]) (wB (by simp) (wB (by grind [wD]) (sC ?_)));exact d s.length 0 (by omega)
 .refine wB (by grind [uF]) (sC ?_);exact d s.length 0 (by omega)
end
end
section
variable {a b:Nat}{u v:O}{l:List Nat}
variable [fC]
theorem Mq{n:Nat}(h:(iC n).length<=1024):rL false (iC n)=true:=by
 unfold rL;split
 .rfl
 .rename_i a;have b:=Nv n a
  grind
def el22:rT Y 22 261 1:=⟨⟨_,O3,rfl,rfl⟩,⟨_,Gv,rfl,rfl,by decide,by decide⟩,λy h=>by rw[Gv]at h;cases h;rfl⟩
section
variable {t:G uA}{Q:mB}
theorem Y7{b:Bool}  (h:bA t 1 (vD l) v):A8 10 (.i [.d b,v]) (.i [.d b,v])=true:=by
 have a:=bA.g (d:=9) h;have c:A8 9 (.d b) (.d b)=true:=CA;show(A8 9 (.d b) (.d b)&&(A8 9 v v&&true))=true
 simp_all
def HT  (h:bA t 1 (tC .u32 l) v)(g:l.length<400000)(a:pB 4294967296 l)(f:∀t' u,zB t t'->bA t' 1 (vD (iC (A4 4294967296 l))) u->Q (.i [.d false,u]) t'):Wc Y F 248 [.d false,v] t Q:=by
 refine AS h g a λt' u d e=>?_;have b:pB 65536 (vF (jI (vF l))):=iW (AG (iW a));have c:A4 65536 (vF (jI (vF l)))=A4 4294967296 l:=by rw[wV,Vo,wV]
 rw[Sx b (iY _) c]at e;have:(if vF l=[]then false else false)=false:=by split<;>rfl
 rw[this];exact f t' u d e
def zjm  (B:bA t 1 (vD (iC a)) u)(A:bA t 1 (vD (iC b)) v)(ha:(iC a).length<=1000)(hb:(iC b).length<=1000)(S:0<b)
  (R:∀t' q r,zB t t'->bA t' 1 (vD (iC (a / b))) q->bA t' 1 (vD (iC (a%b))) r->Q (.p [.i [.d false,q],.i [.d false,r],.e .i64 0]) t'):Wc Y F 277 [.i [.d false,u],.i [.d false,v]] t Q:=by
 have c:=sR;refine w277 ?_;unfold t277 uI uB;refine jC λM x s=>?_;obtain⟨t1,N,P,d,g4⟩:=Oa (C:=Y) (T:=323) (el:=24) (sz:=2) (n:=2) (cl:=[[.d false,u],[.d false,v]]) (ps:=[(0,.i [.d false,u]),(1,.i [.d false,v])]) za rfl fi rfl rfl (by decide) rfl (λi cs y=>by
  match i,y with
  | 0,y=>grind
  | 1,y=>grind) rfl x
 refine⟨_,_,N,aA ?_⟩;have D:bA t1 2 ([(⟨false,iC a⟩:sM),⟨false,iC b⟩].map sM.d) (.m M 0 2 2):=⟨_,P,kD.2 ⟨_,_,rfl,Ht (w:=⟨false,iC a⟩) (B.a d),kD.2 ⟨_,_,rfl,Ht (w:=⟨false,iC b⟩) (A.a d),pG.2 rfl⟩⟩⟩;have g:=UG D (λw D=>by
  grind) (by simp)
 have W:=Mq (n:=a) (by omega);have X:=Mq (n:=b) (by omega);rw[q288,g,xA];refine cC (wB (by simp_all) ?_);have j:=bA.c (l:=vD (iC b)) A;rw[fU]at j;have h:iC b≠[]:=λe=>by grind [Ez]
 have U:0<(iC b).length:=List.length_pos_iff.2 h;refine vA j (tB (wB (by grind [uF]) (aA ?_)));rw[q235];refine Ry (A.a d) (by omega) (gW b) λt2 v2 E Z=>aA ?_;rw[q235];refine Ry ((B.a d).a E) (by omega) (gW a) λt3 v3 J m2=>aA ?_;rw[q295];have an:=Md (gW a);have ab:=Md (gW b);have k:∀n,A4 BB (oH (iC n))=n:=λn=>by rw[c,Vp,dZ]
 refine FS m2 (Z.a J) (by rw[dT];omega) (by simp_all) (by simp_all) (Nu (Nv a)) (Nu (Nv b)) (λe=>?_) λt4 q r qv rv p1 p2 p3 p4 p5 p6 p7 p8 p9=>?_
 .have:=k b;rw[e]at this;have:(0:Nat)=b:=this;omega
 rw[k,k]at p8;rw[k]at p9;have z:A4 BB q=a / b/\A4 BB r=a%b:=by
  grind [Nat.mul_add_div,Nat.div_eq_of_lt,Nat.mul_add_mod,Nat.mod_eq_of_lt]
 have f:1<BB:=by omega
 have H:q.length<=1000:=by
  have p:A4 BB q<=A4 BB (oH (iC a)):=by rw[k,z.1];exact Nat.div_le_self _ _
  have:=gV f (by grind) p6 p
  grind [dT]
 have I:r.length<=1000:=by
  have p:A4 BB r<=A4 BB (oH (iC b)):=by grind
  have:=gV f (by grind) p7 p
  grind [dT]
 refine vA rfl (vA rfl (wB (by decide) (sC ?_)));refine zwh ?_;unfold zef uG oI dI;refine aA ?_;rw[q248];show Wc Y F 248 [.d false,qv] t4 _;refine HT p2 (by omega) (by simp_all) λt5 u5 K m=>?_;rw[<- c,z.1]at m;refine aC (zR m) (tA rfl (aA ?_));rw[q248];refine HT (p3.a K) (by omega) (by grind) λt6 u6 L o=>?_;rw[<- c,z.2]at o;refine aC (zR o) (tA (sO m.e) (tA (sO o.e) ?_));exact R t6 u5 u6 (d.d (E.d (J.d (p1.d (K.d L))))) (m.a L) o
def zsy  (j:bA t 1 (vD (iC a)) u)(k:bA t 1 (vD (iC b)) v)(h:(iC a).length<=1000)(i:(iC b).length<=1000)(e:0<b)
  (g:∀t' q r,zB t t'->bA t' 1 (vD (iC (a / b))) q->bA t' 1 (vD (iC (a%b))) r->Q (.p [.i [.d false,q],.i [.d false,r]]) t'):Wc Y F 249 [.i [.d false,u],.i [.d false,v]] t Q:=by
 refine w249 ?_;unfold t249 uI uG oI dI;refine aA ?_;rw[q277];refine zjm j k h i e λt' q r f d c=>?_;refine vA rfl (aC (zR d) (vA rfl (aC (zR c) (vA rfl (tB (tA (sO d.e) (tA (sO c.e) (tA (sO d.e) (tA (Y7 c) (tA (sO c.e) ?_))))))))));exact g t' q r f d c
def ud{f:qF} (a:bA t 1 (vD f.n.a) u)(b:bA t 1 (vD f.d.a) v):mK [.d false,.g,.d false,.g] (.i [.d f.n.b,u,.d f.d.b,v])=some (AN [.d f.n.b,u,.d f.d.b,v]):=vO (Hu a b) (qF.zs _)
theorem Sy (h:a<=b):(iC a).length<=(iC b).length:=
 gV (B:=65536) (by omega) (gW b) (Nv a) (by grind [dZ])
def zvl  (H:bA t 1 (vD (iC a)) u)(y:bA t 1 (vD (iC b)) v)(ha:(iC a).length<=200)(hb:(iC b).length<=200)(i:0<b)
  (R:∀t' cs,zB t t'->RD t' (oK false a b).b cs->Q (.p [.i cs,.e .i64 0]) t'):Wc Y F 141 [.i [.d false,u],.i [.d false,v]] t Q:=by
 have m:=Mq (n:=a) (by omega);have o:=Mq (n:=b) (by omega);have p:=bA.c (l:=vD (iC b)) y;rw[fU]at p;have j:iC b≠[]:=λe=>by grind [Ez]
 have S:0<(iC b).length:=List.length_pos_iff.2 j;refine w141 ?_;unfold t141 O0 uI uB uG cr P9;refine aA ?_;rw[q196,Jp (by omega) H,xA,m];refine cC (wB (by simp) (aA ?_));rw[q196,Jp (by omega) y,xA,o];refine cC (wB (by simp) (vA p (tB (wB (by grind [uF]) (aA ?_)))));rw[q197];refine w197 ?_;unfold t197 oI;refine wB (by simp) (sC (j197_7 ?_));unfold zqs uG oI dI;refine aA ?_;rw[q234];refine w234 ?_;unfold t234 uI uG oI dI;refine aA ?_
 rw[q267];refine zsv (n:=⟨false,iC a⟩) (d:=⟨false,iC b⟩) H y (by grind) (by grind) (gW a) (gW b) m o λt1 g Z C c N P D=>?_;have D:A4 65536 g=Nat.gcd a b:=by rw[D,dZ,dZ]
 have T:=Sx N P D;subst T;have E:Nat.gcd a b<=b:=Nat.gcd_le_right _ i;have U:=Sy E;have k:0<Nat.gcd a b:=Nat.gcd_pos_of_pos_right _ i;refine vA rfl (aC (zR c) (vA rfl (tB (tA (sO c.e) (tA (sO c.e) ?_)))));refine aC (zR c) (tA (sO c.e) (aA ?_));rw[q249];refine zsy (H.a C) c (by omega) (by omega) k λt2 q r I J W=>?_;refine vA rfl (aC (zR J) (vA rfl (aC (zR W) (tA (sO J.e) (aA ?_)))));rw[q249];refine zsy ((y.a C).a I) (c.a I) (by omega) (by omega) k λB A r2 L h X=>?_
 have z:=J.a L;have x:=Hu (f:=⟨⟨false,iC (a / Nat.gcd a b)⟩,⟨false,iC (b / Nat.gcd a b)⟩⟩) z h;refine vA rfl (aC (zR h) (vA rfl (aC (zR X) (tA (sO h.e) (tA rfl (tA rfl (tA x.e ?_)))))));refine aC (ud (f:=⟨⟨false,iC (a / Nat.gcd a b)⟩,⟨false,iC (b / Nat.gcd a b)⟩⟩) z h) (aA ?_);have M:=bA.c (l:=vD (iC (a / Nat.gcd a b))) z;rw[fU]at M;have w:=bA.c (l:=vD (iC (b / Nat.gcd a b))) h;rw[fU]at w;have la:=Sy (Nat.div_le_self a (Nat.gcd a b))
 have lb:=Sy (Nat.div_le_self b (Nat.gcd a b));have s:oB Y F 232 [.i [.d false,q,.d false,A]] B=some (.d false):=by
  refine lC.2 (w232 ?_);unfold t232 uI xH;refine vA M (tB (wB (by grind [wD]) (vA w (tB ⟨?_,rfl⟩))));rw[wD,decide_eq_false (by omega)]
 have K:oB Y F 198 [.i [.d false,q,.d false,A]] B=some (.p [.i [.d false,q,.d false,A],.e .i64 0]):=by
  refine lC.2 (w198 ?_);unfold t198 uB;refine aA ?_;rw[q232,s,xA];exact cC (wB (by simp) (tA x.e ⟨rfl,rfl⟩))
 rw[q198];show oD (oB Y F 198 [.i [.d false,q,.d false,A]] B) _;rw[K,xA];refine vA rfl (aC (ud (f:=⟨⟨false,iC (a / Nat.gcd a b)⟩,⟨false,iC (b / Nat.gcd a b)⟩⟩) z h) (vA rfl (tB (tA x.e ?_))));refine R B _ (C.d (I.d L)) ?_;unfold oK;exact x
def SP  (f:bA t 1 (vD l) v)(z:l.length<1000000)(p:∀t' v',zB t t'->bA t' 1 (vD l) v'->Q v' t'):Wc Y F 250 [v] t Q:=by
 refine w250 ?_;have e:(dX .eql).f Y 22 (.tmp 3) (.const (.slice none 0 0)) v .g=some (.d (Nat.beq v.aa 5)):=by
  obtain⟨y,o,_⟩:=f;rcases o with⟨rfl,_⟩ | ⟨b,s,g,rfl,_⟩
  .kernel_rfl
  .kernel_rfl
 simp only[uB,t250,iA,e,xA,Iv];split
 .grind [bZ,zD,zB.f]
 .intro b q a;obtain⟨x,h,⟨c,i⟩,d⟩:=nw (t:=t) O3 rfl Gv rfl q;rw[h];simp only[xA];intro n r _;obtain⟨u,w,j,k,m,_⟩:=UD el22 (f.a d) (by grind [fU]) r (.inr ⟨b,c,0,rfl,i⟩);rw[j];simp only[xA];exact p _ _ (d.d m) k
def zgk {neg:Bool} (c:bA t 1 (vD l) v)(i:l.length<1000000)(h:∀t' v',zB t t'->bA t' 1 (vD l) v'->Q (.i [.d (!neg&&decide (0<l.length)),v']) t'):Wc Y F 199 [.i [.d neg,v]] t Q:=by
 have b:=bA.c (l:=vD l) c;rw[fU]at b;refine w199 ?_;unfold t199 uI
 cases neg with
 | false=>
  refine tA rfl (vA b (tB (aA ?_)));rw[q250];refine SP c i λf g d a=>?_;have e:fB 0 (l.length:Int)=decide (0<l.length):=by grind [wD]
  rw[e];have j:A8 10 (.e .i64 (l.length:Int)) (V (l.length:Int))=true:=by
   grind [Hh]
  refine tA c.g (vA b (tA j (tA (sO a.e) (tA (sO a.e) ?_))));have:=h f g d a;rw[L0,E5]at this;exact this
 | true=>
  refine wB (by simp) (aA ?_);rw[q250];refine SP c i λf g d a=>?_;refine tA (sO a.e) (tA (sO a.e) ?_);exact h f g d a
def jn {cs:List O}(x:RD t (oK false a b).b cs)(C:(iC a).length<=200)(D:(iC b).length<=200)(d:0<b)
  (w:∀t' cs,zB t t'->RD t' (oK true a b).b cs->Q (.p [.i cs,.e .i64 0]) t'):Wc Y F 142 [.i cs] t Q:=by
 have l:0<Nat.gcd a b:=Nat.gcd_pos_of_pos_right _ d;have E:=Sy (Nat.div_le_self a (Nat.gcd a b));have H:=Sy (Nat.div_le_self b (Nat.gcd a b));obtain⟨u,v,rfl,i,j⟩:=C4 x;have i:bA t 1 (vD (iC (a / Nat.gcd a b))) u:=i;have j:bA t 1 (vD (iC (b / Nat.gcd a b))) v:=j;have y:0<b / Nat.gcd a b:=Nat.div_pos (Nat.gcd_le_right _ d) l;have c:oM (oK false a b)=true:=by
  grind [oM,oK,Mq,dZ,Nat.gcd_div,Nat.gcd_dvd_left,Nat.gcd_dvd_right,Nat.div_self,Ez]
 have g:qF.a (oK false a b):=⟨⟨by show(iC _).length<_;grind [tE],by show(iC _).length<_;grind [tE]⟩,gW _,gW _⟩;refine w142 ?_;unfold t142 O0 uB uG dI;refine aA ?_;rw[q130];have:=AQ (f:=oK false a b) i j g;show oD (oB Y F 130 [.i [.d (oK false a b).n.b,u,.d (oK false a b).d.b,v]] t) _;rw[this,xA,c];refine cC (wB (by simp) (aA ?_));rw[q199];refine zgk (neg:=false) i (by omega) λI K m n=>?_;have h:=j.a m
 refine aC (zR n) (tA (Y7 h) (aA ?_));rw[q199];refine zgk (neg:=false) h (by omega) λJ L p q=>?_;refine aC (zR q) (aA ?_);rw[q199];refine zgk (neg:=(!false&&decide (0<(iC (b / Nat.gcd a b)).length))) q (by omega) λB M r s=>?_;refine aC (zR s) (tA rfl ?_);have A:0<(iC (b / Nat.gcd a b)).length:=List.length_pos_iff.2 λe=>by grind [Ez]
 have z:(oK true a b).n=⟨!false&&decide (0<(iC (a / Nat.gcd a b)).length),iC (a / Nat.gcd a b)⟩:=by
  grind [oK,Ez,Nat.div_pos,Nat.gcd_le_left,List.length_pos_iff]
 have k:(oK true a b).d=⟨!(!false&&decide (0<(iC (b / Nat.gcd a b)).length))&&decide (0<(iC (b / Nat.gcd a b)).length),iC (b / Nat.gcd a b)⟩:=by
  grind [oK]
 have o:=Hu (f:=⟨⟨!false&&decide (0<(iC (a / Nat.gcd a b)).length),iC (a / Nat.gcd a b)⟩,⟨!(!false&&decide (0<(iC (b / Nat.gcd a b)).length))&&decide (0<(iC (b / Nat.gcd a b)).length),iC (b / Nat.gcd a b)⟩⟩) ((n.a p).a r) s;refine tA o.e ?_;refine w B _ (m.d (p.d r)) ?_;have:oK true a b=⟨(oK true a b).n,(oK true a b).d⟩:=rfl;rw[this,z,k];exact o
end
end
section
variable {l s:List Nat}{v y:O}{o x:Nat}{Q:mB}{I:Nat->G uA->Prop}{neg:Bool}
variable [fC]
section
variable {t tf:G uA}
def YQ      (u:l.length<1000000)
  (g:∀k t,I k t->oA Y 22 ⟨0,t⟩ (.j o 0)=some v/\bA t 1 (tC .u16 l) v)
  (n:∀k x t,l[k]?=some x->I (k+1) t->∀R:mB,(∀t',I k t'->R (.d true) t')->oD (eM y [.e .u16 (x:Nat)]) λp=>Wq Y F dC p.1 p.2 t R)
  (r:∀t,I 0 t->Q (.p []) t):∀(k:Nat) (t:G uA),k<=l.length->I k t->jp 278 2 [y,.j o 0,.e .i64 ((k:Int)-1)] t Q:=by
 intro k;induction k with
 | zero=>
  intro t _ h;refine zrz ?_;simp only[uH,uB,V,uW,yi,iA,mI];simp_all
 | succ k w=>
  intro t s h;obtain⟨d,m⟩:=g _ _ h;obtain⟨x,a⟩:=A6 (l:=l) (i:=k) (by omega);obtain⟨c,q,e,f⟩:=m.f Eb a;have b:((k+1:Nat):Int)-1=(k:Int):=by omega
  rw[b];refine zrz ?_;simp (disch:=omega) only[uH,uB,V,uW,yi,iA,mI,d,e,f,xA,yC,A2];rw[A5 (by omega)];refine n k x t a h _ λt' j=>?_
  grind [O.r,xA]
def zjk     {t:G uA} (d:l.length<1000000)
  (a:∀k t,I k t->oA Y 22 ⟨0,t⟩ (.j o 0)=some v/\bA t 1 (tC .u16 l) v)
  (f:∀k x t,l[k]?=some x->I (k+1) t->∀R:mB,(∀t',I k t'->R (.d true) t')->oD (eM y [.e .u16 (x:Nat)]) λp=>Wq Y F dC p.1 p.2 t R)
  (c:∀t,I 0 t->Q (.p []) t) (h:I l.length t):Wc Y F 278 [y,.j o 0] t Q:=by
 obtain⟨b,e⟩:=a _ _ h;refine w278 ?_;simp (disch:=omega) only[uI,V,uW,t278,iA,b,e.c,qH,xA,yC,A2];exact YQ d a f c l.length t (B4 _) h
def WZ{f i:Nat}{v8 n:O}{K R:T}{ps:List Nat} {S:Nat->G uA->G uA->Prop}(s:∀k,AJ (S k))(hp:bA tf 1 (tC .u16 ps) n)(hl:ps.length<30000)(h:S ps.length tf t)
  (C:∀(k x:Nat) (tf t:G uA) (Q1:mB),ps[k]?=some x->S (k+1) tf t->(∀t',S k tf t'->Q1 (.d true) t')->Jq Y F f i [v8,.e .u16 (x:Int)] t Q1)
  (M:∀L t',zB tf L->S 0 L t'->iA Y.a (Wq Y F dC) (Jq Y F f) K t' Q) :
  iA Y.a (Wq Y F dC) (Jq Y F f) (.c 251 [n] λa0=>.p (jQ Y) a0 i 1 [v8] K R) t Q:=by
 simp only[iA];rw[q251];refine w251 ?_;simp only[t251,iA];intro p D N;have P:n.s=[n]:=by
  obtain⟨cl,B,_⟩:=hp;rcases B with⟨rfl,_⟩ | ⟨_,_,_,rfl,_⟩<;>rfl
 have J:dL n ⟨p,t⟩=some (.j p 0,⟨p+1,t.d p (.aa (G.ac [n]) 1 none)⟩):=by
  unfold dL;rw[P];rfl
 rw[J,xA];simp only[];have B:=(s _).aa h D (.aa (G.ac [n]) 1 none);have U:=Cr ((s _).le h) D;have q:zB tf (tf.d p (.aa (G.ac [n]) 1 none)):=(oO U _).1;generalize a6:tf.d p (.aa (G.ac [n]) 1 none)=o at B q;have W:o.c p=some (.aa (G.ac [n]) 1 none):=by rw[<- a6,G.aa,A5 rfl]
 generalize t.d p (.aa (G.ac [n]) 1 none)=t1 at B;refine⟨Nat.le_add_right _ _,λl r E a7 z A hy=>?_⟩;have a1:Cn (jQ Y) (.q (.aa 278) [] [.j p 0]) l=some (278,[.q (.ac l) [] [],.j p 0]):=by
  unfold Cn;simp only[O.am,lA];have:jQ Y 278=true:=by kernel_rfl
  rw[this];rfl
 rw[a1,xA];have h2:=(s _).aa B E (.ac r);have y:=Cr ((s _).le B) E;have X:eP true r=r:=by
  obtain⟨a,b,c,d,e,f,g,h,i⟩:=r;have z:a=.ready:=z;have A:b=none:=A;subst z;subst A;rfl
 have u:zB o (o.d l (.ac r)):=(oO y _).1;rw[show Wq Y F dC 278=Wc Y F 278 by funext a m R;rw[q278]];refine zjk (l:=ps) (v:=n) (I:=λk t'=>S k (o.d l (.ac r)) t') (by omega) ?_ ?_ ?_ h2
 .intro k t' w;have H:=(s _).le w;have hg:t'.c p=some (.aa (G.ac [n]) 1 none):=H _ _ (u _ _ W);refine⟨?_,hp.a (q.d (u.d H))⟩;exact(xC.f (cs:=[n]) (lo:=none) ⟨G.ac [n],hg,λj a hj=>by grind [G.o]⟩ O3 rfl (j:=0) rfl)
 .intro k x t' hx w R hR;show oD (some (yo+l,[O.e .u16 (x:Int)])) _;rw[xA];refine hy [.e .u16 (x:Int)] t' R rfl ((s _).le w _ _ (by rw[G.aa,A5 rfl])) ?_;refine C k x o _ _ hx ((s _).ac y w) λt2 h3 Z=>⟨true,rfl,?_⟩;rw[X];exact hR _ ((s _).aa h3 Z (.ac r))
 .intro t' w;exact .inl ⟨(s _).le w _ _ (by rw[G.aa,A5 rfl]),M o _ q ((s _).ac y w)⟩
def or16{y:Nat}(d:x<281474976710656)(c:y<65536):fJ Nat.lor .u64 ((x*65536:Nat):Int) (y:Int)=some (.e .u64 ((x*65536+y:Nat):Int)):=by
 have h:=Kb (a:=x) (b:=y) (n:=16) c;have e:(2:Nat)^16=65536:=by decide
 rw[e]at h;rw[wZ (k:=.u64) (show x*65536<zI .u64 by show _<18446744073709551616;omega) (show y<zI .u64 by show _<18446744073709551616;omega),h]
def zn5{a y:Nat}{b:mB}(h:gZ a (.e .u64 (y:Int)) tf t)(m:y<281474976710656)(l:x<65536)(k:∀t',gZ a (.e .u64 ((y*65536+x:Nat):Int)) tf t'->b (.d true) t'):jp 200 2 [.j a 0,.e .u16 (x:Int)] t b:=by
 obtain⟨c,d,n,e⟩:=h;have g:(y:Int)*65536=((y*65536:Nat):Int):=by omega
 have i:fJ Nat.lor .u64 (cA .u64 ((y:Int)*65536)) (cA .u64 (x:Int))=some (.e .u64 ((y*65536+x:Nat):Int)):=by
  rw[g,gG (by omega) (by omega),gG (by omega) (by omega),or16 m l]
 refine j200_2 ?_;unfold zqq uE;refine iB (e.f lT rfl (j:=0) rfl) (tB ?_);refine vA i (tB (jC λf _ _=>?_));obtain⟨r,o,p,q⟩:=e.g (v:=.e .u64 ((y*65536+x:Nat):Int)) c lT rfl rfl rfl (j:=0) (by simp);exact⟨_,_,o f,k _ ⟨c,d,n.g d q,p⟩⟩
def jo{n:Nat} (s:bA t 1 (vD (iC n)) v)(hl:(iC n).length<=1000):oB Y F 200 [.i [.d false,v]] t=some (.p [.e .i64 (if n<9223372036854775808 then(n:Int)else 0),.e .i64 (if n<9223372036854775808 then 0 else 3)]):=by
 have i:=bA.c (l:=vD (iC n)) s;rw[fU]at i;have f:=gW n;have g:=dZ n;refine mV (w200 ?_);unfold t200 uI uB;refine aA ?_;rw[q196,Jp (by omega) s,xA,Mq (by omega)];refine cC (wB (by simp) (vA i (tB ?_)));by_cases X:4<(iC n).length
 .have d:¬ n<9223372036854775808:=λh=>by
   have:=Xw (n:=n) (k:=4) (by omega);omega
  refine tA (by grind [wD]) ⟨?_,zB.f _⟩;rw[A3 d,A3 d]
 .have z:n<18446744073709551616:=by
   grind [iC]
  refine wB (by grind [wD]) (jC λy c a=>?_);obtain⟨t1,H,I,T,J⟩:=yQ (C:=Y) lT c;refine⟨_,_,H,jC λE _ _=>?_⟩;obtain⟨P,K,L,M⟩:=I.g (v:=.e .u64 0) a lT rfl rfl rfl (j:=0) (by simp);refine⟨_,_,K E,?_⟩;have p:gZ y (.e .u64 ((A4 65536 ((iC n).drop (iC n).length):Nat):Int)) t P:=by
   rw[List.drop_length];exact⟨a,c,(zB.f t).g c J |>.g c M,L⟩
  refine WZ (S:=λk tf t=>gZ y (.e .u64 ((A4 65536 ((iC n).drop k):Nat):Int)) tf t) (λk=>gZ.a) s (by omega) p (λk x tf t R u o N=>?_) (λQ D e o=>?_)
  .have Z:=(G1.1 u).1;have r:(iC n).drop k=x::(iC n).drop (k+1):=iU u;have q:A4 65536 ((iC n).drop (k+1))<281474976710656:=by
    have W:=qQ (B:=65536) (by omega) (GW f (k+1))
    grind [iC]
   have m:x<65536:=f x (Q5 u);refine zn5 o q m λD U=>N D ?_;have:A4 65536 ((iC n).drop k)=A4 65536 ((iC n).drop (k+1))*65536+x:=by grind [A4]
   simp_all
  .obtain⟨i1,i2,A,w⟩:=o;rw[H6,g]at w;unfold uE;refine wB (by simp) (iB (w.f lT rfl (j:=0) rfl) (tB ?_));by_cases b:n<9223372036854775808
   .rw[A5 b,A5 b];refine wB (by grind [oU]) (iB (w.f lT rfl (j:=0) rfl) (tB ⟨?_,e.d A⟩));have:uW (n:Int)=(n:Int):=A2 (by omega) (by omega);rw[this]
   .rw[A3 b,A3 b];exact tA (by grind [oU]) ⟨rfl,e.d A⟩
def zgz (h:xK s=false):jL s=s:=by
 unfold xK at h;unfold jL eE;induction s with
 | nil=>rfl
 | cons b s c=>
  rw[List.contains_cons]at h;simp only[Z7,beq_eq_false_iff_ne]at h;have a:decide (b≠47)=true:=decide_eq_true λe:b=47=>h.1 e.symm;rw[List.takeWhile_cons,a,A5 rfl,c h.2]
theorem zjx:∀s:List Nat,Ft [47] s=if xK s=true then some (jL s,dO s)else none:=by
 intro s;induction s with
 | nil=>rfl
 | cons b s d=>
  have e:Ay [47] (b::s)=Nat.beq 47 b:=by
   show(bif Nat.beq 47 b then Ay [] s else false)=_;have:Ay [] s=true:=by cases s<;>rfl
   rw[this];cases Nat.beq 47 b<;>rfl
  unfold Ft;rw[e,d];unfold xK dO jL eE;rw[List.contains_cons]
  cases f:Nat.beq 47 b with
  | true=>
   grind [zD,List.takeWhile_cons,vU,dD]
  | false=>
   have a:¬ 47=b:=λe=>by simp_all
   have c:decide (b≠47)=true:=decide_eq_true λe:b=47=>a e.symm;rw[cond_false,List.takeWhile_cons,c,A5 rfl];have:(47 == b)=false:=by simp[a]
   rw[this,Bool.false_or];split
   .simp
   .rfl
def FV (h:∀b∈s,fD b=true)(d:s.length<=200):(iC (sE s)).length<=200:=by
 have a:=Io h;have c:10^s.length<=65536^s.length:=Nat.pow_le_pow_left (by omega) _;have:=Xw (n:=sE s) (k:=s.length) (by omega);omega
def qt  {lo hi:Int}(h:bT s)(z:xK s=false)(y : -4294967296<=lo)(w:hi<=4294967296):∃i:Int,oB Y F 144 [.h s,.d neg,.e .i64 lo,.e .i64 hi] t=some (.p [.e .i64 i,.d (sP s neg lo hi).isSome])/\∀j,sP s neg lo hi=some j->i=j:=by
 obtain⟨o,g,p,q,_⟩:=h;rw[zgz z]at g p q;have e:=FV g o;generalize v:sE s=n at e;have d:∀R:mB,(∀c,zB t c->n<9223372036854775808->jp 144 15 [.e .i64 lo,.e .i64 hi,.e .i64 (if neg then -(n:Int)else n)] c R)->(∀c,zB t c->¬ n<9223372036854775808->R (.p [.e .i64 0,.d false]) c)->Wc Y F 144 [.h s,.d neg,.e .i64 lo,.e .i64 hi] t R:=by
  intro R B A;refine w144 ?_;unfold t144 uI uG oI dI;refine aA ?_;rw[q140];refine CR g p q o λc u b f=>?_;rw[v]at f;refine vA rfl (aC (zR f) (vA rfl (tB (tA (sO f.e) (aA ?_)))));rw[q200];show oD (oB Y F 200 [.i [.d false,u]] c) _;rw[jo f (by omega),xA];refine vA rfl (tB (vA rfl (tB ?_)));by_cases a:n<9223372036854775808
  .rw[A5 a,A5 a];refine wB (by decide) ?_
   grind [tA,sC,A2,wB]
  .rw[A3 a,A3 a];exact tA (by decide) (A c b a)
 by_cases a:n<9223372036854775808
 .refine⟨if neg then -(n:Int)else n,mV (d _ (λc b _=>?_) λc _ k=>absurd a k),λj r=>?_⟩
  .refine zwq ?_;unfold ze3;unfold sP;rw[v];generalize (if neg then -(n:Int)else n)=m;show wp 144 _ c _;by_cases x:lo<=m
   .refine tA (by grind [oU]) ⟨?_,b⟩
    grind [oU]
   .refine wB (by grind [oU]) ⟨?_,b⟩;simp[x]
  grind [sP]
 .have l:sP s neg lo hi=none:=by
   grind [sP]
  rw[l];exact⟨0,mV (d _ (λc _ k=>absurd k a) λc b _=>⟨rfl,b⟩),λj r=>by cases r⟩
def jq   (h:bT s)(D:∀t' cs,zB t t'->RD t' (kL s neg).b cs->Q (.i cs) t'):Wc Y F 80 [.h s,.d neg] t Q:=by
 obtain⟨h1,C,R,S,T⟩:=h;have la:(jL s).length<=s.length:=by grind [jL,eE,List.takeWhile_sublist]
 have a:∀b:List Nat,(∀x∈b,fD x=true)->b≠[]->fP b=false->b.length<=200->0<sE b->kL s neg=oK neg (sE (jL s)) (sE b)->jp 80 9 [.d neg,.h (jL s),.h b,.d false,.g,.d false,.g] t Q:=by
  intro b q M N w z E;refine j80_9 ?_;unfold t80_9 uI uG oI dI cr P9;refine aA ?_;rw[q140];refine CR C R S (by omega) λt1 u I n=>?_;refine vA rfl (aC (zR n) (vA rfl (tB (tA (sO n.e) (aA ?_)))));rw[q140];refine CR q M N w λt2 v o p=>?_;refine vA rfl (aC (zR p) (vA rfl (tB (tA (sO p.e) (aA ?_)))));rw[q141];have J:=FV C (by omega);have K:=FV q w;refine zvl (n.a o) p J K z λX cs L d=>?_;obtain⟨u3,v3,rfl,j,l⟩:=C4 d
  refine vA rfl (aC (ud j l) (vA rfl (tB (tA d.e ?_))))
  cases neg with
  | true=>
   refine tA rfl (aA ?_);rw[q142];refine jn d J K z λZ P W g=>?_;obtain⟨u4,v4,rfl,k,m⟩:=C4 g;refine vA rfl (aC (ud k m) (vA rfl (tB (tA g.e (tA g.e ?_)))));refine D Z _ (I.d (o.d (L.d W))) ?_;rw[E];exact g
  | false=>
   refine wB (by simp) (tA d.e ?_);refine D X _ (I.d (o.d L)) ?_;rw[E];exact d
 refine w80 ?_;unfold t80 uB uS;refine aA ?_;have U:Y.c.c 139=some (jN R8):=by kernel_rfl
 have c:oB Y F 139 [.h s,.h [47]] t=some (.p [.h (if xK s=true then jL s else s),.h (if xK s=true then dO s else []),.d (xK s)]):=by
  refine Ki U λH=>?_;show sB (Nat.blt (vB s) 4294967281) _=_;rw[dD,eC.2 (by omega),xE,zjx];cases xK s<;>rfl
 rw[q139,c,xA];refine vA rfl (gC (vA rfl (gC (vA rfl (cC ?_)))))
 cases i:xK s with
 | true=>
  obtain⟨A,B,f,c4⟩:=T i;refine wB (by simp) (sC ?_);simp only[if_true];have lb:(dO s).length<=s.length:=by grind [dO]
  refine a (dO s) B A f (by omega) (RZ B A λe=>?_) (by grind [kL]);unfold fP at f;rw[e]at f;simp at f;have:(dO s).length=1:=by grind [List.length_pos_iff]
  match hb:dO s with
  | []=>grind
  | [x]=>simp_all
  | x::y::r=>simp_all
 | false=>
  refine tA rfl (sC ?_);simp only[F5,if_false];have:=a [49] (by decide) (by simp) (by decide) (by simp) (by decide) (by unfold kL;rw[i];rfl)
  rwa [zgz i]at this
end
end
section
variable {a b i m y:Nat}{s:List Nat}
variable [fC]
section
variable {t:G uA}{Q:mB}
def zv2(y:Nat):oB Y F 271 [.e .i64 (y:Int)] t=some (.d (Su y)):=by
 have e:∀k:Nat,Int.tmod (y:Int) (k:Int)=((y%k:Nat):Int):=λk=>by grind
 refine lC.2 (w271 ?_);unfold t271 rB xH;rw[show(4:Int)=((4:Nat):Int) from rfl,show(100:Int)=((100:Nat):Int) from rfl,show(400:Int)=((400:Nat):Int) from rfl,e,e,e];unfold Su;by_cases a:y%4=0
 .refine tA (by grind [uF]) ?_;by_cases b:y%100=0
  .refine wB (by grind [uF]) ⟨?_,rfl⟩;rw[uF];congr 1
   grind
  .refine tA (by grind [uF]) ⟨?_,rfl⟩
   grind
 .refine wB (by grind [uF]) ⟨?_,rfl⟩;simp[a]
def NI (h:y<1000000):oB Y F 243 [.e .i64 (y:Int)] t=some (.e .i64 (wU y:Int)):=by
 have e:∀k:Nat,Int.tdiv (y:Int) (k:Int)=((y / k:Nat):Int):=λk=>by simp_all
 refine lC.2 (w243 ?_);unfold t243 uW;rw[show(4:Int)=((4:Nat):Int) from rfl,show(100:Int)=((100:Nat):Int) from rfl,show(400:Int)=((400:Nat):Int) from rfl,e,e,e];have a:y / 100<=y / 4:=Nat.div_le_div_left (by omega) (by omega);have b:y / 4<=y:=Nat.div_le_self _ _;have c:y / 400<=y:=Nat.div_le_self _ _;simp (disch:=omega) only[A2];refine⟨?_,rfl⟩
 grind [wU]
def zv1(a:sL t) (hi:i<12):zC Y 304 (.j 3 0) (.e .i64 (i:Int))=some (.j 3 (0+i))/\oA Y 3 ⟨0,t⟩ (.j 3 (0+i))=some (.e .i64 ((Sr.getD i 0:Nat):Int)):=by
 refine⟨?_,a.2.2.d cL rfl ?_⟩
 .unfold zC;rw[W8,lA];have e:(O.e .i64 (i:Int)).aj=some i:=rfl;rw[e,lA];simp only[O.u,O.ah,jE.g,lA];rw[cL,lA,eC.2 hi,xE,Nat.mul_one]
 .have:Sr[i]?=some (Sr.getD i 0):=by
   rw[List.getD_eq_getElem?_getD,D0 (by show i<12;exact hi)];rfl
  grind
def zrc(c:sL t)(y m:Nat)(p:m<1000000):oB Y F 244 [.e .i64 (y:Int),.e .i64 (m:Int)] t=some (.e .i64 (tP y m:Int)):=by
 refine lC.2 (w244 ?_);unfold t244 J7 uB;by_cases l:m<1
 .refine tA (by grind [wD]) ⟨?_,rfl⟩
  grind [tP]
 refine wB (by grind [wD]) ?_;by_cases n:12<m
 .refine tA (by grind [wD]) ⟨?_,rfl⟩
  grind [tP]
 refine wB (by grind [wD]) ?_;have a:¬ (m=2/\Su y=true)->wp 244 (J7 (m:Int)) t λk j=>k=.e .i64 (tP y m:Int)/\j=t:=by
  intro d;unfold J7 uI;have e:uW ((m:Int)-1)=((m-1:Nat):Int):=by
   grind [A2]
  obtain⟨f,g⟩:=zv1 c (i:=m-1) (by omega);rw[e];refine vA f (iB g (tB ⟨?_,rfl⟩));unfold tP;rw[A3 (by omega),A3 d]
 by_cases b:m=2
 .refine tA (by grind [uF]) (aA ?_);rw[q271,zv2,xA];refine cC ?_
  cases o:Su y with
  | true=>
   refine tA rfl ⟨?_,rfl⟩
   grind [tP]
  | false=>exact wB (by simp) (a (by grind))
 .exact wB (by grind [uF]) (a λh=>b h.1)
theorem DS(y m:Nat):tP y m<=31:=by
 unfold tP;split
 .omega
 split
 .omega
 .rename_i a _;have:m-1<12:=by omega
  generalize m-1=k at this
  match k,this with
  | 0,_ | 1,_ | 2,_ | 3,_ | 4,_ | 5,_ | 6,_ | 7,_ | 8,_ | 9,_ | 10,_ | 11,_=>decide
theorem IR(y:Nat):∀k,Mz y k<=31*k:=by
 intro k;induction k with
 | zero=>exact B4 _
 | succ k a=>grind [Mz,DS]
theorem NJ(y:Nat):wU y<=y+y:=by grind [wU]
def XX (h:a<=b)(c:b<10000):wU a<=wU b:=by unfold wU;omega
def BN(o:sL t) (x:m<50000):oB Y F 189 [.e .i64 (m:Int)] t=some (.e .i64 (wH m:Int)):=by
 have n:Int.tdiv (m:Int) 12=((m / 12:Nat):Int):=by simp_all
 have d:Int.tmod (m:Int) 12=((m%12:Nat):Int):=by grind
 refine lC.2 (w189 ?_);unfold t189 uI uW;rw[n];have y:m / 12<5000:=by omega
 have f:cA .i64 (cA .i64 (1900+cA .i64 ((m / 12:Nat):Int))-1)=((1899+m / 12:Nat):Int):=by
  grind [A2]
 have g:cA .i64 (1900+cA .i64 ((m / 12:Nat):Int))=((1900+m / 12:Nat):Int):=by
  grind [A2]
 have q:=NJ (1899+m / 12);have r:=XX (a:=1899) (b:=1899+m / 12) (by omega) (by omega);refine aA ?_;rw[f,q243,NI (by omega),xA];refine tB (aA ?_);rw[q243,show(1899:Int)=((1899:Nat):Int) from rfl,NI (by omega),xA,g];refine tB (sC ?_);have h:cA .i64 (cA .i64 (cA .i64 (365*cA .i64 (((1900+m / 12:Nat):Int)-1900))+(wU (1899+m / 12):Int))-(wU 1899:Int))=((365*(m / 12)+wU (1899+m / 12)-wU 1899:Nat):Int):=by
  grind [A2]
 rw[h];have c:∀(k i a:Nat),i+k=m%12->a=365*(m / 12)+wU (1899+m / 12)-wU 1899+Mz (1900+m / 12) i->jp 189 2 [.e .i64 (m:Int),.e .i64 ((1900+m / 12:Nat):Int),.e .i64 (a:Int),.e .i64 ((i+1:Nat):Int)] t λw v=>w=.e .i64 (wH m:Int)/\v=t:=by
  intro k;induction k with
  | zero=>
   intro i a p e;refine Tc ?_;unfold xz;rw[d];refine wB (by grind [oU]) ⟨?_,rfl⟩;subst e;unfold wH;rw[show i=m%12 by omega]
  | succ k u=>
   intro i a p e;have z:=IR (1900+m / 12) i;have s:=DS (1900+m / 12) (i+1);refine Tc ?_;unfold xz uI;rw[d];refine tA (by grind [oU]) (aA ?_);rw[q244];show oD (oB Y F 244 [.e .i64 ((1900+m / 12:Nat):Int),.e .i64 ((i+1:Nat):Int)] t) _;rw[zrc o _ _ (by omega),xA];refine tB (sC ?_);have j:uC ((i+1:Nat):Int)=.e .i64 ((i+1+1:Nat):Int):=by
    show O.e .i64 (cA .i64 (((i+1:Nat):Int)+1))=_;rw[A2 (by omega) (by omega)];rfl
   have l:uW ((a:Int)+(tP (1900+m / 12) (i+1):Int))=((a+tP (1900+m / 12) (i+1):Nat):Int):=by
    show cA .i64 _=_;rw[A2 (by omega) (by omega)];omega
   rw[j,l];exact u (i+1) _ (by omega) (by grind [Mz])
 exact c (m%12) 0 _ (by omega) rfl
def jr(e:sL t){d:Nat}(v:y<10000)(u:m<1000)(s:d<1000):oB Y F 192 [.e .i64 (y:Int),.e .i64 (m:Int),.e .i64 (d:Int)] t=some (.p [.e .i64 (((Dd y m d).getD 0:Nat):Int),.e .i64 (if (Dd y m d).isSome then 0 else 2)]):=by
 refine lC.2 (w192 ?_);unfold t192 uI uB;have a:∀h:y<1900\/2079<y\/d<1\/tP y m<d,Dd y m d=none:=λh=>by unfold Dd;rw[A5 h]
 by_cases j:y<1900
 .rw[a (.inl j)];exact tA (by grind [wD]) ⟨rfl,rfl⟩
 refine wB (by grind [wD]) ?_;by_cases k:2079<y
 .rw[a (.inr (.inl k))];exact tA (by grind [wD]) ⟨rfl,rfl⟩
 refine wB (by grind [wD]) ?_;by_cases l:d<1
 .rw[a (.inr (.inr (.inl l)))];exact tA (by grind [wD]) ⟨rfl,rfl⟩
 refine wB (by grind [wD]) (aA ?_);rw[q244];show oD (oB Y F 244 [.e .i64 (y:Int),.e .i64 (m:Int)] t) _;rw[zrc e _ _ (by omega),xA];refine tB ?_;by_cases n:tP y m<d
 .rw[a (.inr (.inr (.inr n)))];exact tA (by grind [wD]) ⟨rfl,rfl⟩
 refine wB (by grind [wD]) (aA ?_);have o:1<=m:=by
  grind [tP]
 have f:=DS y m;have g:uW (uW (uW (12*uW ((y:Int)-1900))+(m:Int))-1)=((12*(y-1900)+m-1:Nat):Int):=by
  grind [A2]
 rw[q189];show oD (oB Y F 189 [.e .i64 (uW (uW (uW (12*uW ((y:Int)-1900))+(m:Int))-1))] t) _;rw[g,BN e (by omega),xA];refine tB (aA ?_);have q:wH (12*(y-1900)+m-1)<1000000:=by
  grind [wH,IR,NJ]
 have i:uW (uW ((wH (12*(y-1900)+m-1):Int)+(d:Int))-1)=((wH (12*(y-1900)+m-1)+d-1:Nat):Int):=by
  grind [A2]
 rw[i];have p:Dd y m d=if wH (12*(y-1900)+m-1)+d-1<65536 then some (wH (12*(y-1900)+m-1)+d-1)else none:=by
  unfold Dd;rw[A3 (by omega)]
 have b:oB Y F 187 [.e .i64 ((wH (12*(y-1900)+m-1)+d-1:Nat):Int)] t=some (.d (decide (wH (12*(y-1900)+m-1)+d-1<65536))):=by
  refine lC.2 (w187 ?_);unfold t187;generalize wH (12*(y-1900)+m-1)+d-1=z;refine tA (by grind [oU]) ⟨?_,rfl⟩;have r:fB (z:Int) 65536=decide (z<65536):=by
   grind [wD]
  rw[r]
 rw[q187,b,xA,p];refine cC ?_;by_cases c:wH (12*(y-1900)+m-1)+d-1<65536
 .rw[A5 c,decide_eq_true c];exact wB (by simp) ⟨rfl,rfl⟩
 .rw[A3 c,decide_eq_false c];exact tA rfl ⟨rfl,rfl⟩
def za9{a:List (List Nat)}{v:O}(L:bA t 1 (a.map D.c) v)(hl:a.length<100)(hd:∀s∈a,s.length<=9/\∀b∈s,fD b=true)(X:∀t' b,zB t t'->zH t' b .i64 (a.map sE)->Q (.p [.m b 0 a.length a.length,.d true]) t'):Wc Y F 191 [v] t Q:=by
 have d:=L.c;rw[C5]at d;refine w191 ?_;unfold t191 uI;refine vA d (tB (jC λb K m=>?_));obtain⟨l,P,e2,e3,u⟩:=La (C:=Y) (T:=249) (k:=.i64) (n:=a.length) W6 rfl cL rfl rfl (by decide) (by omega) K;refine⟨_,_,P,vA d (tB (sC ?_))⟩;have N:∀(k i:Nat) (h:List Nat) (l:G uA),i+k=a.length->h=(a.take i).map sE++List.replicate k 0->zB t l->zH l b .i64 h->jp 191 2 [.m b 0 a.length a.length,v,.e .i64 (a.length:Int),.e .i64 (i:Int)] l Q:=by
  intro k;induction k with
  | zero=>
   intro i h l hi y f w;refine zr8 ?_;unfold ya;refine wB (by grind [wD]) ?_;rw[show i=a.length by omega,List.take_length,List.replicate_zero,Do]at y;subst y;exact X l b f w
  | succ k ih=>
   intro i h l hi y f w;refine zr8 ?_;unfold ya uS;have M:a[i]?=some a[i]:=D0 (by omega);have B:(a.map D.c)[i]?=some (D.c a[i]):=by simp_all
   obtain⟨b',o',cs,I,J,_,_,W⟩:=nv.at (λ_=>rfl) (L.a f) B;have e:=mP.1 W;subst e;refine tA (by grind [wD]) (vA I (iB J (gC (sC ?_))));have ll:(Int.ofNat (vB a[i]))=(a[i].length:Int):=by rw[dD];rfl
   rw[ll];obtain⟨a6,A⟩:=hd a[i] (F2 _);have o:∀(q j:Nat) (p:G uA),j+q=a[i].length->zB t p->zH p b .i64 ((a.take i).map sE++sE (a[i].take j)::List.replicate k 0)->jp 191 6 [.m b 0 a.length a.length,.e .i64 (i:Int),.h a[i],v,.e .i64 (a.length:Int),.e .i64 (i:Int),.e .i64 (a[i].length:Int),.e .i64 (j:Int)] p Q:=by
    intro q;induction q with
    | zero=>
     intro j p hj c g;refine zr7 ?_;unfold yb;refine wB (by grind [wD]) (sC ?_);have u:uC (i:Int)=.e .i64 ((i+1:Nat):Int):=by
      grind [A2]
     rw[u];refine ih (i+1) _ p (by omega) ?_ c g
     grind [List.take_add_one]
    | succ q H=>
     intro j p hj c g;have z:a[i][j]?=some a[i][j]:=D0 (by omega);have a7:48<=a[i][j]/\a[i][j]<=57:=by grind [List.getElem_mem,fD]
     refine zr7 ?_;unfold yb uI uU;have a1:((a.take i).map sE).length=i:=by grind
     have r:((a.take i).map sE++sE (a[i].take j)::List.replicate k 0)[i]?=some (sE (a[i].take j)):=by
      grind
     have E:=Gu (C:=Y) (b:=b) X8 (off:=0) (n:=a.length) (cap:=a.length) (i:=i) (by omega);rw[D8,Nat.mul_one]at E;have Z:sE (a[i].take j)<1000000000:=by
      have I:=Io (s:=a[i].take j) λx M=>A x (List.mem_of_mem_take M);have J:10^(a[i].take j).length<=10^9:=L7 (by omega) (by grind);omega
     refine tA (by grind [wD]) (vA (rP z) (tB (wB (by grind [wD]) (vA (rP z) (tB (wB (by grind [wD]) (vA E (iB (g.f r cL rfl) (tB (vA (rP z) (tB (vA E (jC λn _ _=>?_)))))))))))));have R:uW (uW (10*((sE (a[i].take j):Nat):Int))+uW (cA .u8 ((a[i][j]:Int)-48)))=((sE (a[i].take (j+1)):Nat):Int):=by
      unfold uW;rw[Mi (by omega) (by omega),kT z,Zg]
      grind [A2]
     obtain⟨t3,S,g2,U⟩:=g.e m (j:=i) (by grind) (sE (a[i].take (j+1))) cL rfl;rw[R];refine⟨_,_,S n,sC ?_⟩;have u:uC (j:Int)=.e .i64 ((j+1:Nat):Int):=by
      grind [A2]
     rw[u];refine H (j+1) t3 (by omega) (c.g K U) ?_
     simp_all
   refine o a[i].length 0 l (by omega) f ?_;rw[y,List.replicate_succ]at w;exact w
 grind
def zfk  (h:a<=b)(c:b<=s.length):aF Y 9 mN (.h s) (some (.e .i64 (a:Int))) (some (.e .i64 (b:Int)))=some (.h ((s.take b).drop a)):=by
 unfold aF gP;rw[iI,lA];simp only[O.w];rw[show jE.c .j=true from rfl,xE];unfold Re xT Fy Bm;have e:∀n:Nat,kO (n:Int)=some n:=λ_=>rfl
 grind [lA,O.aj,O.ba,dD,mF,xE,eV,vU]
theorem GD (h:wK s=true) (hi:i<10):∃b,s[i]?=some b/\vM i b=true:=by
 unfold wK at h;simp only[B3,decide_eq_true_eq,C8,List.mem_range]at h;grind
theorem GF (h:wK s=true) (m:b<=10)(k:¬ (a<=4/\4<b))(l:¬ (a<=7/\7<b)):∀x∈(s.take b).drop a,fD x=true:=by
 intro x e;obtain⟨j,c⟩:=List.getElem?_of_mem e;rw[lm,ul]at c;split at c
 .rename_i d;obtain⟨y,f,g⟩:=GD h (i:=a+j) (by omega)
  grind [vM]
 grind
theorem zjw(J:sL t) (hs:s.length=10)(d:wK s=true):oB Y F 138 [.h s] t=some (.p [.e .i64 (((gU s).getD 0:Nat):Int),.e .i64 (if (gU s).isSome then 0 else 2)]):=by
 refine mV (w138 ?_);unfold t138 uI uU uB uS;have R:(Int.ofNat (vB s))=10:=by grind [dD]
 rw[R];obtain⟨x4,B,o⟩:=GD d (i:=4) (by omega);obtain⟨x7,E,p⟩:=GD d (i:=7) (by omega);have o:x4=45:=by grind [vM]
 have p:x7=45:=by grind [vM]
 subst o p;have L:=rP B;have M:=rP E;have X:=He (s:=s) (k:=4) (by omega);have Z:=zfk (s:=s) (a:=5) (b:=7) (by omega) (by omega);have s8:=Nb (s:=s) (k:=8) (by omega);refine wB (by decide) (vA L (tB (wB (by decide) (vA M (tB (wB (by decide) (vA X (gC (vA Z (gC (vA s8 (gC (jC λb I l=>?_)))))))))))));obtain⟨t1,y,z,A,g5⟩:=Oa (C:=Y) (T:=62) (el:=9) (sz:=1) (n:=3) (cl:=[[.h (s.take 4)],[.h ((s.take 7).drop 5)],[.h (s.drop 8)]]) (ps:=[(0,.h (s.take 4)),(1,.h ((s.take 7).drop 5)),(2,.h (s.drop 8))]) Ty rfl iI rfl rfl (by decide) rfl (λi cs c=>by
  match i,c with
  | 0,c=>grind
  | 1,c=>grind
  | 2,c=>grind) rfl I
 have K:bA t1 1 ([s.take 4,(s.take 7).drop 5,s.drop 8].map D.c) (.m b 0 3 3):=⟨_,z,kD.2 ⟨_,_,rfl,mP.2 rfl,kD.2 ⟨_,_,rfl,mP.2 rfl,kD.2 ⟨_,_,rfl,mP.2 rfl,pG.2 rfl⟩⟩⟩⟩;have u:∀x∈s.take 4,fD x=true:=by
  have:=GF d (a:=0) (b:=4) (by omega) (by omega) (by omega)
  simp_all
 have v:∀x∈(s.take 7).drop 5,fD x=true:=GF d (by omega) (by omega) (by omega);have w:∀x∈s.drop 8,fD x=true:=by
  have:=GF d (a:=8) (b:=10) (by omega) (by omega) (by omega)
  rwa [L8 (by omega)]at this
 refine⟨_,_,y,aA ?_⟩;rw[q191];refine za9 K (by simp) (λx hx=>?_) λt2 f H h=>?_
 .grind
 have m:∀i:Nat,i<3->zC Y 249 (.m f 0 3 3) (.e .i64 (i:Int))=some (.j f i):=λi c=>by
  have:=Gu (C:=Y) (b:=f) X8 (off:=0) (n:=3) (cap:=3) (i:=i) c
  rwa [D8,Nat.mul_one]at this
 have N:=h.f (j:=0) rfl cL rfl (C:=Y);have P:=h.f (j:=1) rfl cL rfl (C:=Y);have Q:=h.f (j:=2) rfl cL rfl (C:=Y);refine vA rfl (vA rfl (cC (wB (by simp) (vA (m 0 (by omega)) (iB N (tB (vA (m 1 (by omega)) (iB P (tB (vA (m 2 (by omega)) (iB Q (tB (aA ?_)))))))))))));have q:=Io u;have g:=Io v;have r:=Io w;have S:(s.take 4).length=4:=by grind
 have U:((s.take 7).drop 5).length=2:=by grind
 have W:(s.drop 8).length=2:=by grind
 rw[S]at q;rw[U]at g;rw[W]at r;have e:=A.d H;rw[q192];show oD (oB Y F 192 [.e .i64 ((sE (s.take 4):Nat):Int),.e .i64 ((sE ((s.take 7).drop 5):Nat):Int),.e .i64 ((sE (s.drop 8):Nat):Int)] t2) _;rw[jr (J.a e) (by omega) (by omega) (by omega),xA];exact vA rfl (tB (vA rfl (tB ⟨rfl,e⟩)))
def Hx:Jc where
 aa:=fun {s f m t L Q} h i k=>Wc.c (R:=λv d=>∃a,v=.i a/\RD d (kL s f).b a) (jq h λj a b c=>⟨b,a,rfl,c⟩) i λv d j b c ⟨a,e,g⟩=>by grind
 ah:=λb c e g=>qt b c e g
 ac:=λl ⟨b,c,n,e⟩=>by grind [zjw]
end
end
end Go.Proofs
namespace Go.Am
open Go Go.RowKit
variable {args vals:List O}{E:mB}{base:Nat}{J:xG}{X:Xt}{tm:Tm}{HA:sA}{p:PI}
structure Px (C:fA) (F:G kE) (f:Nat) (fn:Func) (kf:Nat) (A:kE) (l:List bC) (q:oT) (fc:Func) (kc:Nat) (Ac:kE) (qc:U1):Prop where
 m:F.c f=some A
 a:C.d.c f=some fn
 n:C.g.c f=some kf
 g:C.c.c f=none
 lt:Nat.blt f yo=true
 i:dE fn.body=false
 c:Ab A.a=some (l,q)
 o:F.c q.a=some Ac
 b:C.d.c q.a=some fc
 j:C.g.c q.a=some kc
 d:C.c.c q.a=none
 e:dE fc.body=false
 p:co Ac.a=some qc
 ok:(Un fn.results.toList q.b.toList&&(Nat.ble kf q.d&&Nat.blt q.d fn.ntmps))=true
 r:(Nat.ble (vB q.e) kc&&Nat.ble (vB q.e) fc.ntmps)=true
 s:Nat.blt qc.d fc.ntmps=true
 t:nM (Co l)=[]
 k:nM qc.c=[]
def f9 (C:fA)(F:G kE)(f:Nat)(fn:Func)(c:Nat)(A:kE)(l:List bC)(q:oT)(fc:Func)(b:Nat)(d:kE)(a:U1):Bool:=
 dE (C.c.c f)&&Nat.blt f yo && !dE fn.body&&dE (C.c.c q.a) && !dE fc.body&&(Un fn.results.toList q.b.toList&&(Nat.ble c q.d&&Nat.blt q.d fn.ntmps)) &&
  (Nat.ble (vB q.e) b&&Nat.ble (vB q.e) fc.ntmps)&&Nat.blt a.d fc.ntmps&&(match nM (Co l)with | []=>true | _=>false)&&(match nM a.c with | []=>true | _=>false)
section
variable {C:fA}{F:G kE}{f:Nat}{fn fc:Func}{j m:Nat}{A n:kE}{l:List bC}{q:oT}{k:U1}{e pan:Nat->Bool}{t:G uA}{Q:mB}
def Px.of(o:F.c f=some A)(p:C.d.c f=some fn)(r:C.g.c f=some j)(s:Ab A.a=some (l,q))(t:F.c q.a=some n)(u:C.d.c q.a=some fc)(v:C.g.c q.a=some m)(w:co n.a=some k)(h:f9 C F f fn j A l q fc m n k=true):Px C F f fn j A l q fc m n k:=by
 unfold f9 at h;simp only[B3]at h;obtain⟨⟨⟨⟨⟨⟨⟨⟨⟨c,e⟩,y⟩,g⟩,z⟩,B⟩,D⟩,i⟩,E⟩,d⟩:=h;have a:∀ {b:Type} {x:Option b},dE x=true->x=none:=fun {b} {x} h=>by cases x with | none=>rfl | some _=>cases h
 refine⟨o,p,r,a c,e,by simp_all,s,t,u,v,a g,by simp_all,w,by simp_all,by simp_all,i,?_,?_⟩
 all_goals grind
def zj5(h:F.c f=some A):(zF F).c f=some A.a:=by grind [zF,G.z]
def RO {d:Bool}(e:C.d.c f=some fn)(h:C.g.c f=some j)(a:dE fn.body=false)(i:(Nat.ble (vB args) j&&Nat.ble (vB args) fn.ntmps)=true):∃g,xM C f args d=some g/\g.b=⟨j,G.ac args,[]⟩:=by
 obtain⟨c,a⟩:∃b,fn.body=some b:=by
  cases k:fn.body with
  | none=>rw[k]at a;cases a
  | some b=>simp_all
 refine⟨_,by unfold xM;rw[e,lA,a,lA,h,lA,i];rfl,rfl⟩
theorem vQ.d{A:G bC} {c:bC}(h:nM c=[]):vQ A E f c:=λq a=>by simp_all
theorem H8.a   {L:List U4}(h:L=[]):H8 base j E J L:=λd a=>by simp_all
def Y8    (b:Ov base t X HA)(a:tm.k=j):qG base X j (λi=>i) X ⟨tm,[],.aj,[]⟩ tm HA t:=
 ⟨b,dJ.f _,a,a,λ_ _ h=>h,λ_ _ h=>(by cases h),λd l h=>(by grind [G.ah]),λd _ l _ h=>(by omega)⟩
def zxx(h:Px C F f fn j A l q fc m n k) {a:List O}{v:O}{W:xG} (r:nT C (zF F) E W)(s:Gg C (zF F) W)(b:∀ B,vN C (sD C (zF F)) q.a fc.ntmps k.c B=[]) (w:vB a=vB q.e)
  (y:Jo p ⟨N2 fc.ntmps k ⟨m,G.ac a,[]⟩ v,[],.aj,[]⟩=some vals) {R:mB} (z:iA C.a W J (rO C n.b q.a fc.ntmps k.c (Gy C fc) (qO m p vals)) t R):∀X HA,Ov C.a t X HA->qC C.a X E R (qW C (zF F) (sD C (zF F)) q.a a v HA):=by
 intro X HA x;obtain⟨g,e,o⟩:=RO (args:=a) (d:=true) h.b h.j h.e (by rw[w];exact h.r);unfold qW;refine qC.f h.b (qC.f (zj5 h.o) (qC.f h.p ?_));have u:(dE (C.c.c q.a)&&Nat.blt k.d fc.ntmps)=true:=by rw[h.d,h.s];rfl
 rw[u];show qC C.a X E R (ob (xM C q.a a true) _);refine qC.f e ?_;rw[o];have c:qG C.a X m (λi=>i) X ⟨N2 fc.ntmps k ⟨m,G.ac a,[]⟩ v,[],.aj,[]⟩ (N2 fc.ntmps k ⟨m,G.ac a,[]⟩ v) HA t:=Y8 x (by unfold N2;rw[Kj,Kj];rfl);exact Gz r s k.c (Gy C fc) (mR C fc) (vQ.d h.k) (λ_=>AV) (H8.a (b _)) _ _ _ _ _ _ _ (c.at y) z
def Uw(C:fA)(F:G kE)(e pan:Nat->Bool)(f:Nat)(fn:Func)(j:Nat)(A:kE)(q:oT)(p:PI)(vals:List O)(t:G uA)(Q:mB):Prop:=
 ∃a,∃E:mB,eQ q.e (.b (qO j p vals).a.b)=some a/\(∀HA,qW C (zF F) (sD C (zF F)) q.a a .x HA=some (⟨.p [],false⟩,HA)) ∧
  (∀v c,E v c->∀X HA,Ov C.a c X HA->qC C.a X eK (λ_ b=>iA C.a (Wq C F e) (λ_ _ _ _=>False) (E0 C fn (qO j p vals).e) b Q) (qW C (zF F) (sD C (zF F)) q.a a v HA)) ∧
  iA C.a (lF C F e pan E) (λ_ _ _ _=>False) (rO C A.b f fn.ntmps (.aa q.i6 q.b false) ⟨E0 C fn,λ_ _=>.g,λ_=>.g⟩ (qO j p vals)) t Q
def zt6(h:Px C F f fn j A l q fc m n k) (T:p.c=[]) (z:e pn=false)(W:Uw C F e pan f fn j A q p vals t Q){g:Xt}  {ν:Nat->Nat}(c:qG C.a g j ν X (qO j p vals) tm HA t) :
  qC C.a g eK Q (vV C (zF F) (sD C (zF F)) fn q tm HA):=by
 obtain⟨a,E,K,L,M,N⟩:=W;have u:∀b i,pP C (zF F) (sD C (zF F)) fn q.a a .x b i=nZ C fn b i:=by
  intro b i;unfold pP;rw[L];rfl
 unfold vV;rw[c.kA,h.ok];show qC C.a g eK Q (ob (eQ q.e (.b tm.b)) _);refine qC.f (FJ (Sf c.aa).1 K) ?_;have P:∀g,U5 C (lF C F e pan E) (λ_ _ _ _=>False) g j E Q ⟨E0 C fn,λ_ _=>.g,λ_=>.g⟩ ⟨λb i=>pP C (zF F) (sD C (zF F)) fn q.a a .x b i,λ_ _ _=>none,λ_ _=>none⟩:=by
  intro g;refine⟨?_,λ_ _ _ _ _ _ _ _ h=>h.elim,λ_ _ _ _ _ _ _ h=>h.elim⟩;intro st tm HA t X ν c Z;simp only[u];exact Tv st tm HA t X ν c Z
 have U:=Gz (wm z) HC (.aa q.i6 q.b false) ⟨E0 C fn,λ_ _=>.g,λ_=>.g⟩ ⟨λb i=>pP C (zF F) (sD C (zF F)) fn q.a a .x b i,λ_ _ _=>none,λ_ _=>none⟩ (vQ.d rfl) P (H8.a rfl) g _ _ _ _ _ _ c N;obtain⟨o,t',s,X',y,I,J,H⟩:=U;have y:lO C (sD C (zF F)) q.b fn.ntmps (λb i=>pP C (zF F) (sD C (zF F)) fn q.a a .x b i) q.b.toList tm.b HA=some (o,s):=y;refine qC.f y ?_
 cases S:o.p with
 | false=>
  grind [qC]
 | true=>
  rw[S,A5 rfl]at H;show qC C.a g eK Q (pP C (zF F) (sD C (zF F)) fn q.a a o.v tm.b s);obtain⟨v,D,r,x,k1,k2,k3,k4⟩:=iR.1 (M _ _ H _ _ I);unfold pP;refine qC.f k1 ?_;show qC C.a g eK Q (nZ C fn tm.b r);have w:=c.aa;have R:∀d,(qO j p vals).e.b.c d=none:=by
   intro d;show(Aa p.c (tU vals (vB p.d))).c d=none;rw[T];exact G.ah _
  have B:qG C.a g j ν x (qO j p vals).e tm.b r D:=
   ⟨k2,J.g k3,w.k,w.kA,w.f,w.g,λd l h=>(by simp_all),λd _ l _ h=>(by simp_all)⟩
  exact Tv _ _ _ _ _ _ B k4
def js(h:Px C F f fn j A l q fc m n k) (y:p.c=[])(a:e pn=false) (w:(Nat.ble (vB args) j&&Nat.ble (vB args) fn.ntmps)=true)(b:∀ D,vN C (sD C (zF F)) f fn.ntmps (Co l) D=[])
  (c:iA C.a (Wq C F e) (λi vals t Q=>i=p.e/\Uw C F e pan f fn j A q p vals t Q) (rO C A.b f fn.ntmps (Co l) ⟨Cw p,λ_ _=>.g,E0 C fn⟩ ⟨⟨j,G.ac args,[]⟩,[],.aj,[]⟩) t Q):Wc C F f args t Q:=by
 intro X HA x;obtain⟨g,s,u⟩:=RO (args:=args) (d:=false) h.a h.n h.i w;rw[Lu h.lt,h.g];show qC C.a X eK Q (sD C (zF F) (.aa f) args HA);rw[wc];show qC C.a X eK Q (tW C (zF F) (sD C (zF F)) f args HA);unfold tW;refine qC.f (zj5 h.m) (qC.f h.a (qC.f s ?_));unfold Bn;rw[h.c,u];have v:∀r,U5 C (Wq C F e) (λi vals t Q=>i=p.e/\Uw C F e pan f fn j A q p vals t Q) r j eK Q ⟨Cw p,λ_ _=>.g,E0 C fn⟩ (Hj C (zF F) (sD C (zF F)) fn q):=by
  intro r;refine⟨λE tm HA t X H o c=>?_,λ_ _ _ _ _ _ _ _ h=>h.elim,Tv⟩;unfold Cw at c;rw[oF]at c;obtain⟨vals,z,_,B⟩:=c;exact zt6 h y a B (o.at z)
 exact Gz (tc a) AI (Co l) _ _ (vQ.d h.t) v (H8.a (b _)) _ _ _ _ _ _ _ (Y8 x rfl) c
end
end Go.Am
