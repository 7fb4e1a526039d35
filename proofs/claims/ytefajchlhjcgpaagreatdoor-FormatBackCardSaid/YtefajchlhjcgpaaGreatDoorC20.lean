/- the guess of a digit. -/
import Derived.Test.YtefajchlhjcgpaaGreatDoorC19
set_option linter.all false
noncomputable section
set_option maxRecDepth 100000
namespace Go.Proofs
open Go Go.Am
variable [fC]
variable {t:G vA}
theorem O0{x y:Nat}(d:x<4294967296)(c:y<4294967296):jJ Nat.lor .u64 ((x*4294967296:Nat):Int) (y:Int)=some (.e .u64 ((x*4294967296+y:Nat):Int)):=by
 have h:=Jy (a:=x) (b:=y) (n:=32) c;have e:(2:Nat)^32=4294967296:=by decide
 rw[e]at h;rw[kY (k:=.u64) (show x*4294967296<aH .u64 by show _<18446744073709551616;omega) (show y<aH .u64 by show _<18446744073709551616;omega),h]
def za8{lu lv:List Nat}{u v:O}{Q:lB}{m f e i g U a ur vr:Nat}(hu:bA t 1 (uC .u32 lu) u)(hv:bA t 1 (uC .u32 lv) v)(hl:m<900000)(z:lu[m]?=some i)(B:lv[m]?=some g)(aa:i<BB)(s:g<BB)(q:0<e)(K:e<BB)
  (X:U=(f*BB+i)*BB^m+ur) (ab:ur<BB^m) (Z:a=(e*BB+g)*BB^m+vr) (F:vr<BB^m) (hq:U / a<BB) (a6:f<=e*BB+(BB-1))
  (k:∀d,U / a<=d->d<=U / a+1->d<BB->jp 310 19 [u,v,.e .i64 (m+2:Nat),.e .u64 d] t Q) :
  ∀(d rest:Nat),d*e+rest=f->U / a<=d->d<=BB+1->rest<BB->jp 310 2 [u,v,.e .i64 (m+2:Nat),.e .u64 e,.e .u64 d,.e .u64 rest] t Q:=by
 intro d;induction d with
 | zero=>
  intro rest p x _ r;have T:=dQ;have y:rest<4294967296:=by omega
  obtain⟨b,ac,N,P⟩:=hv.f bH B;obtain⟨c,I,R,S⟩:=hu.f bH z;have A:i<4294967296:=by omega
  have E:g<4294967296:=by omega
  obtain⟨D,w⟩:∃D:Int,((0:Nat):Int)=D:=⟨_,rfl⟩;rw[w];refine zqg ?_;unfold yl S1 uL uE V uW;generalize hC:(4294967296:Int)=C;generalize W:jJ Nat.lor .u64 (cA .u64 ((rest:Int)*C))=G;have e4:D*(g:Int)=0:=by grind
  have J:((m+2:Nat):Int)-2=(m:Int):=by omega
  have L:(rest:Int)*C=((rest*4294967296:Nat):Int):=by simp_all
  have M:G (i:Int)=some (.e .u64 ((rest*4294967296+i:Nat):Int)):=by rw[<- W,L,iG (by omega) (by omega)];grind [O0]
  simp only[lA,mI];rw[A3 (by omega)];simp (disch:=omega) only[J,A2,N,xA];rw[P];simp only[xA,yC,R];rw[S,xA,yC,xA,iG (n:=(i:Int)) (by omega) (by omega),M,xA,yC,xA,iG (n:=(g:Int)) (by omega) (by omega),e4,iG (n:=0) (by decide) (by decide)]
  grind [kE]
 | succ d ih=>
  intro rest p x ag r;have T:=dQ;have y:rest<4294967296:=by omega
  have ae:e<4294967296:=by omega
  have a7:d+1<=4294967296+1:=by omega
  have l:d*e+(rest+e)=f:=by grind
  obtain⟨D,w⟩:∃D:Int,((d+1:Nat):Int)=D:=⟨_,rfl⟩;rw[w];have J:D-1=(d:Int):=by omega
  have e0:(rest:Int)+(e:Int)=((rest+e:Nat):Int):=by omega
  have H:U / a<=d->(if (4294967296:Int)<=((rest+e:Nat):Int)then jp 310 19 [u,v,.e .i64 (m+2:Nat),.e .u64 d] t Q else jp 310 2 [u,v,.e .i64 (m+2:Nat),.e .u64 e,.e .u64 d,.e .u64 ((rest+e:Nat):Int)] t Q):=by
   intro o;split
   .rename_i hb;have a1:BB<=rest+e:=by omega
    have j:d<BB:=by
     grind
    refine k d o ?_ j;refine W9 lK X Z F q (Nat.le_of_lt j) ?_;have h1:d*g<=BB*BB:=G5 (Nat.le_of_lt j) (Nat.le_of_lt s);have h2:BB*BB<=(rest+e)*BB:=D3 _ a1;have h3:f*BB=d*e*BB+(rest+e)*BB:=by rw[<- l,D5]
    grind
   .rename_i hb;exact ih (rest+e) l o (by omega) (by omega)
  refine zqg ?_;unfold yl S1 uL uE V uW;generalize hC:(4294967296:Int)=C;generalize W:jJ Nat.lor .u64 (cA .u64 ((rest:Int)*C))=G;by_cases ad:4294967296<=d+1
  .simp (disch:=omega) only[lA,mI,e0,J,iG];rw[A5 (by omega)]
   grind
  .obtain⟨b,ac,N,P⟩:=hv.f bH B;obtain⟨c,I,R,S⟩:=hu.f bH z;have A:i<4294967296:=by omega
   have E:g<4294967296:=by omega
   have e5:((m+2:Nat):Int)-2=(m:Int):=by omega
   have L:(rest:Int)*C=((rest*4294967296:Nat):Int):=by simp_all
   have e6:cA .u64 (D*(g:Int))=(((d+1)*g:Nat):Int):=by
    rw[<- w,<- Int.natCast_mul];have:(d+1)*g<=4294967295*4294967295:=G5 (by omega) (by omega)
    grind [iG]
   have M:G (i:Int)=some (.e .u64 ((rest*4294967296+i:Nat):Int)):=by rw[<- W,L,iG (by omega) (by omega)];grind [O0]
   simp only[lA,mI];rw[A3 (by omega)];simp (disch:=omega) only[e5,A2,N,xA];rw[P];simp only[xA,yC,R];rw[S,xA,yC,xA,iG (n:=(i:Int)) (by omega) (by omega),M,xA,yC,xA,iG (n:=(g:Int)) (by omega) (by omega),e6];have e7:cA .u64 ((rest:Int)+(e:Int))=((rest+e:Nat):Int):=by rw[e0];exact iG (by omega) (by omega)
   have e8:cA .u64 (D-1)=(d:Int):=by rw[J];grind [iG]
   rw[e7,e8];have ah:(d+1)*(e*BB+g)=(d+1)*e*BB+(d+1)*g:=by rw[K3,<- E9]
   have af:f*BB=(d+1)*e*BB+rest*BB:=by rw[<- p,D5]
   by_cases a8:rest*4294967296+i<(d+1)*g
   .rw[A5 (kE.2 (by omega))];subst hC;refine H (Nat.lt_succ_iff.1 (qe X ab Z ?_))
    grind
   .rw[A3 (λh=>absurd (kE.1 h) (by omega))];rw[<- w];refine k (d+1) x (W9 lK X Z F q (by omega) ?_) (by omega)
    grind
end Go.Proofs
namespace Go.Proofs
open Go Go.Am
variable {o n x:Nat}{v:O}{l:List Nat}
variable [fC]
variable {t tf:G vA}
theorem CA {y:vA}(b:t.c n=none)(h:zB tf t):zB (tf.d n y) (t.d n y):=by
 intro c u a;rw[G.aa]at a ⊢;split at a
 .simp_all
 .rename_i e;rw[A3 e];exact h _ _ a
theorem Bz(h:zB tf t) (a:t.c n=none):tf.c n=none:=by
 cases b:tf.c n with
 | none=>rfl
 | some y=>rw[h _ _ b]at a;cases a
structure AC (S:G vA->G vA->Prop):Prop where
 le:∀ {tf t:G vA},S tf t->zB tf t
 aa:∀ {tf t:G vA} {n:Nat},S tf t->t.c n=none->∀y,S (tf.d n y) (t.d n y)
 ac:∀ {tf t:G vA} {n:Nat} {y:vA},tf.c n=none->S (tf.d n y) t->S tf (t.q n)
def KG{f i:Nat}{v8 n:O}{K R:T}{ps:List Nat}{Q:lB}{S:Nat->G vA->G vA->Prop}(s:∀k,AC (S k))(hp:bA tf 1 (uC .u32 ps) n)(hl:ps.length<30000)(h:S ps.length tf t)
  (C:∀(k x:Nat) (tf t:G vA) (Q1:lB),ps[k]?=some x->S (k+1) tf t->(∀t',S k tf t'->Q1 (.d true) t')->Jq Y F f i [v8,.e .u32 (x:Int)] t Q1)
  (M:∀L t',zB tf L->S 0 L t'->lA Y.a (Wq Y F eC) (Jq Y F f) K t' Q) :
  lA Y.a (Wq Y F eC) (Jq Y F f) (.c 237 [n] λa0=>.p (qQ Y) a0 i 1 [v8] K R) t Q:=by
 simp only[lA];rw[q237];refine w237 ?_;simp only[t237,lA];intro p D N;have P:n.s=[n]:=by
  obtain⟨cl,B,_⟩:=hp;rcases B with⟨rfl,_⟩ | ⟨_,_,_,rfl,_⟩<;>rfl
 have J:nL n ⟨p,t⟩=some (.j p 0,⟨p+1,t.d p (.aa (G.ac [n]) 1 none)⟩):=by
  unfold nL;rw[P];rfl
 rw[J,xA];simp only[];have B:=(s _).aa h D (.aa (G.ac [n]) 1 none);have U:=Bz ((s _).le h) D;have q:zB tf (tf.d p (.aa (G.ac [n]) 1 none)):=(bN U _).1;generalize a6:tf.d p (.aa (G.ac [n]) 1 none)=o at B q;have W:o.c p=some (.aa (G.ac [n]) 1 none):=by rw[<- a6,G.aa,A5 rfl]
 generalize t.d p (.aa (G.ac [n]) 1 none)=t1 at B;refine⟨Nat.le_add_right _ _,λl r E a7 z A hy=>?_⟩;have a1:Bs (qQ Y) (.q (.aa 269) [] [.j p 0]) l=some (269,[.q (.ac l) [] [],.j p 0]):=by
  unfold Bs;simp only[O.am,mA];have:qQ Y 269=true:=by kernel_rfl
  rw[this];rfl
 rw[a1,xA];have h2:=(s _).aa B E (.ac r);have y:=Bz ((s _).le B) E;have X:pP true r=r:=by
  obtain⟨a,b,c,d,e,f,g,h,i⟩:=r;have z:a=.ready:=z;have A:b=none:=A;subst z;subst A;rfl
 have u:zB o (o.d l (.ac r)):=(bN y _).1;rw[show Wq Y F eC 269=Wc Y F 269 by funext a m R;rw[q269]];refine zvs (l:=ps) (v:=n) (I:=λk t'=>S k (o.d l (.ac r)) t') (by omega) ?_ ?_ ?_ h2
 .intro k t' w;have H:=(s _).le w;have hg:t'.c p=some (.aa (G.ac [n]) 1 none):=H _ _ (u _ _ W);refine⟨?_,hp.a (q.d (u.d H))⟩;exact(xC.f (cs:=[n]) (lo:=none) ⟨G.ac [n],hg,λj a hj=>by grind [G.o]⟩ tN rfl (j:=0) rfl)
 .intro k x t' hx w R hR;show pD (some (yo+l,[O.e .u32 (x:Int)])) _;rw[xA];refine hy [.e .u32 (x:Int)] t' R rfl ((s _).le w _ _ (by rw[G.aa,A5 rfl])) ?_;refine C k x o _ _ hx ((s _).ac y w) λt2 h3 Z=>⟨true,rfl,?_⟩;rw[X];exact hR _ ((s _).aa h3 Z (.ac r))
 .intro t' w;exact .inl ⟨(s _).le w _ _ (by rw[G.aa,A5 rfl]),M o _ q ((s _).ac y w)⟩
def tZ (o:Nat)(v:O)(tf t:G vA):Prop:=Y.a<=o/\tf.c o=none/\zB tf t/\xC t o none [v]
def tZ.a   : AC (tZ o v) where
 le:=λh=>h.2.2.1
 aa:=fun {tf t n} h j y=>by
  obtain⟨d,f,g,b⟩:=h;have a:o≠n:=by intro e;obtain⟨c,h,_⟩:=b;simp_all
  exact⟨d,by grind [G.aa],CA j g,b.i (by rw[G.aa,A3 a])⟩
 ac:=fun {tf t n y} j h=>by
  obtain⟨d,f,g,b⟩:=h;have a:o≠n:=by grind [G.aa]
  have i:zB tf (tf.d n y):=(bN j y).1;rw[G.aa,A3 a]at f;refine⟨d,f,λc u k=>?_,b.i (by rw[G.e,A3 a])⟩;have:c≠n:=λe=>by simp_all
  rw[G.e,A3 this];exact g _ _ (i _ _ k)
theorem zgi{y:Nat}{a:lB}(h:tZ o (.e .u64 (y:Int)) tf t)(k:y<4294967296)(i:x<4294967296)(c:∀t',tZ o (.e .u64 ((y*4294967296+x:Nat):Int)) tf t'->a (.d true) t'):jp 303 2 [.j o 0,.e .u32 (x:Int)] t a:=by
 obtain⟨d,e,l,f⟩:=h;have g:(y:Int)*4294967296=((y*4294967296:Nat):Int):=by omega
 have b:jJ Nat.lor .u64 (cA .u64 ((y:Int)*4294967296)) (cA .u64 (x:Int))=some (.e .u64 ((y*4294967296+x:Nat):Int)):=by
  rw[g,iG (by omega) (by omega),iG (by omega) (by omega),O0 k i]
 generalize y*4294967296+x=z at b c;refine j303_2 ?_;simp only[uE,zpd,lA];rw[f.f zT rfl (j:=0) rfl,xA,yC,xA,b,xA,yC,xA];intro q _ _;obtain⟨r,m,n,p⟩:=f.g (v:=.e .u64 (z:Int)) d zT rfl rfl rfl (j:=0) (by simp);rw[m,xA];exact c _ ⟨d,e,l.g e p,n⟩
theorem za0 {k:Nat}(h:l.length<=2)(b:pB 4294967296 l)(f:l[k]?=some x):x<4294967296/\A4 4294967296 (l.drop (k+1))<4294967296/\A4 4294967296 (l.drop k)=A4 4294967296 (l.drop (k+1))*4294967296+x:=by
 have g:k<l.length:=(F6.1 f).1;have d:l.drop k=x::l.drop (k+1):=by
  grind [List.drop_eq_getElem_cons]
 refine⟨b x (O9 f),?_,?_⟩
 .have c:=GO b (k+1);have e:(l.drop (k+1)).length<=1:=by grind
  generalize l.drop (k+1)=m at c e ⊢
  match m,c,e with
  | [],_,_=>exact Nat.zero_lt_succ _
  | [a],c,_=>rw[A4,A4,se,L1];exact c a (.head _)
 grind [A4]
theorem zt5  (H:bA t 1 (uC .u32 l) v)(E:l.length<=2)(m:pB 4294967296 l):oB Y F 303 [v] t=some (.e .u64 ((A4 4294967296 l:Nat):Int)):=by
 refine xV (w303 ?_);have e:l.length<30000:=by omega
 have n:∀k x,l[k]?=some x->_:=λk x=>za0 (k:=k) (x:=x) E m;have A:A4 4294967296 (l.drop l.length)=0:=by rw[List.drop_length,A4]
 generalize D:(λk=>A4 4294967296 (l.drop k))=g;have p:∀k x,l[k]?=some x->x<4294967296/\g (k+1)<4294967296/\g k=g (k+1)*4294967296+x:=λk x P=>by grind
 have f:g l.length=0:=by grind
 have d:A4 4294967296 l=g 0:=by grind
 rw[d];clear D n A d;unfold t303 uE;show ∀b,t.c b=none->Y.a<=b->pD (zL Y 270 ⟨b,t⟩) _;intro o c a;obtain⟨q,r,s,N,u⟩:=gP (C:=Y) zT c;rw[r,xA];show ∀b,q.c b=none->Y.a<=b->pD (nC Y 270 (.j o 0) (.e .u64 0) ⟨b,q⟩) _;intro M _ _;obtain⟨K,w,y,z⟩:=s.g (v:=.e .u64 0) a zT rfl rfl rfl (j:=0) (by simp);rw[w,xA];have h:tZ o (.e .u64 ((g l.length:Nat):Int)) t K:=by
  rw[f];exact⟨a,c,(zB.f t).g c u |>.g c z,y⟩
 refine KG (S:=λk tf t=>tZ o (.e .u64 ((g k:Nat):Int)) tf t) (λk=>tZ.a) H e h ?_ ?_
 .grind [zgi]
 .intro L T i B;obtain⟨Q,R,I,J⟩:=B;simp only[lA];rw[J.f zT rfl (j:=0) rfl,xA];simp only[yC,xA];exact⟨trivial,i.d I⟩
end Go.Proofs
namespace Go.Am
open Go
variable {k u:Nat}
def mF (u:Nat):List Nat:=(Lib.decDigits u).map UInt8.toNat
theorem Tw (h:u<10):mF u=[48+u]:=by
 grind [mF,Lib.decDigits_one,UInt8.toNat_ofNat']
theorem Tz (h:¬ u<10):mF u=mF (u / 10)++[48+u%10]:=by
 grind [mF,Lib.decDigits,UInt8.toNat_ofNat']
def Xr(u:Nat):xJ (u:Int)=mF u:=by
 grind [xJ,Lib.itoa,mF]
theorem EF (h:0<u):xJ (-(u:Int))=45::mF u:=by
 grind [xJ,Lib.itoa,mF]
def zny(u:Nat):(mF u).length=Lib.nDigits u:=by unfold mF;rw[C4,Lib.decDigits_length]
theorem Yv(u:Nat):0<(mF u).length:=by rw[zny];exact Lib.nDigits_pos u
def Yu(u:Nat):∀x∈mF u,48<=x/\x<58:=by
 induction u using Nat.strongRecOn with
 | _ u a=>
  grind [Tw,Tz]
def Tx (a:0<k)(h:u<10^k):(mF u).length<=k:=by
 induction k generalizing u with
 | zero=>omega
 | succ k b=>
  grind [Tw,Tz]
def wV:Nat->Nat->List Nat
 | 0,_=>[]
 | k+1,r=>wV k (r / 10)++[48+r%10]
theorem CV:∀(k r:Nat),(wV k r).length=k
 | 0,_=>rfl
 | k+1,r=>by rw[wV,E1,CV k];rfl
theorem LH:∀k,wV k 0=List.replicate k 48
 | 0=>rfl
 | k+1=>by rw[wV,LH k,List.replicate_succ']
theorem zto{r:Nat}(d:0<k)(h:r<10^k):wV k r=List.replicate (k-(mF r).length) 48++mF r:=by
 induction k generalizing r with
 | zero=>omega
 | succ k e=>
  rw[wV];by_cases a:r<10
  .grind [Tw,LH]
  .have c:r / 10<10^k:=by omega
   have b:0<k:=by
    grind
   simp_all [Tz]
def znx{q:Nat}(e:0<q):∀ {k r:Nat},r<10^k->mF (q*10^k+r)=mF q++wV k r:=by
 intro k;induction k with
 | zero=>grind [wV]
 | succ k f=>
  intro r h;have d:0<10^k:=Nat.pow_pos (by decide);have c:¬ q*10^(k+1)+r<10:=by
   have:10^(k+1)=10^k*10:=K1 ..;have g:10<=q*10^(k+1):=by
    rw[this];calc 10=1*(1*10):=by omega
     _<=q*(10^k*10):=G5 e (G5 d (B3 _))
   omega
  have a:(q*10^(k+1)+r) / 10=q*10^k+r / 10:=by
   rw[K1,<- E9,T5,Nat.add_mul_div_right _ _ (by decide),T5]
  have b:(q*10^(k+1)+r)%10=r%10:=by
   rw[K1,<- E9,T5,Nat.add_mul_mod_self_right]
  rw[Tz c,a,b,f (by omega),wV,D4]
def LI:∀(k r:Nat),∀x∈wV k r,48<=x/\x<58
 | 0,_,x,a=>by cases a
 | k+1,r,x,a=>by
  rw[wV]at a;rcases F5.1 a with a | a
  .exact LI k _ x a
  grind
def gM:List Nat->List Nat
 | []=>[]
 | [p]=>mF p
 | p::q::l=>gM (q::l)++wV 9 p
def HZ:∀ {l:List Nat},l≠[]->(∀x∈l,x<1000000000)->l.getLast?≠some 0->gM l=mF (A4 1000000000 l)/\0<A4 1000000000 l
 | [],h,_,_=>absurd rfl h
 | [p],_,_,h=>by
  grind [gM,A4]
 | p::q::l,_,a,f=>by
  obtain⟨b,c⟩:=HZ (l:=q::l) (by simp) (λx d=>a x (.tail _ d)) (by simp_all);have g:=a p (.head _);have e:A4 1000000000 (p::q::l)=A4 1000000000 (q::l)*10^9+p:=by
   rw[A4];omega
  rw[e,znx c (by omega),gM,b]
  grind
def BC:∀(l:List Nat),∀x∈gM l,48<=x/\x<58
 | [],x,a=>by cases a
 | [p],x,a=>Yu p x a
 | p::q::l,x,a=>by
  rw[gM]at a;rcases F5.1 a with a | a
  .exact BC _ x a
  .exact LI _ _ x a
def eu (neg:Bool)(n:Nat):List Nat:=(if neg then [45]else [])++mF n
end Go.Am
namespace Go.Am
open Go Go.RowKit
section
variable {base:Nat}{t t0:G vA}{X g:Xt}{HA:sA}{n:Nat}{y:vA}{C:fA}{F:G oE}{Q:lB}
def Xt.d(X:Xt)(n:Nat)(y:vA):Xt:=λb=>if b=n then some y else X b
theorem Xt.a{X:Xt}:X.d n y n=some y:=A5 rfl
theorem Xt.c{X:Xt}{b:Nat}(h:b≠n):X.d n y b=X b:=A3 h
def Ov.v(h:Ov base t X HA)(d:t.c n=some y)(f:t0.c n=none)(c:nF n t0 t):Ov base t0 (X.d n y) HA:=by
 refine⟨h.d,λb a=>?_,λb z a=>?_,λb z a=>?_⟩
 .by_cases e:b=n
  .grind [Xt.a]
  .rw[Xt.c e]at a;rw[h.f b a,c b e]
 .by_cases e:b=n
  .subst e;rw[Xt.a]at a;cases a;exact⟨h.q d,f,h.j _ _ d⟩
  .rw[Xt.c e]at a;obtain⟨g,i,j⟩:=h.a b z a;exact⟨g,by rw[<- c b e];exact i,j⟩
 .by_cases e:b=n
  .simp_all
  .exact h.j b z (by rw[c b e];exact a)
def rC.i{Q:lB}{d:wC}(s:X.d n y=g)(C:X n=none)(h:rC base g iK Q d):rC base X iK (λv t'=>∃c,Q v c/\c.c n=none/\t'.c n=some y/\nF n c t') d:=by
 obtain⟨v,t',k,f,q,i,m,r⟩:=uR.1 h;subst s;have u:f n=some y:=m n y Xt.a;obtain⟨p,l,B⟩:=i.a n y u;obtain⟨_,j⟩:=bN (t:=t') l y;have o:(t'.d n y).c n=some y:=by rw[G.aa,A5 rfl]
 refine uR.2 ⟨v,t'.d n y,k,λb=>if b=n then none else f b,q,⟨i.d,λb a=>?_,λb z a=>?_,λb z a=>?_⟩,λb z a=>?_,t',r,l,o,j⟩
 .by_cases e:b=n
  .subst e;rw[p,o]
  .have a:(if b=n then none else f b)=none:=a;rw[A3 e]at a;rw[i.f b a,j b e]
 .by_cases e:b=n
  .simp_all
  .have a:(if b=n then none else f b)=some z:=a;rw[A3 e]at a;obtain⟨w,x,A⟩:=i.a b z a;exact⟨w,by rw[j b e];exact x,A⟩
 .by_cases e:b=n
  .omega
  .rw[j b e]at a;exact i.j b z a
 .show(if b=n then none else f b)=some z;have e:b≠n:=λe=>by simp_all
  rw[A3 e];exact m b z (by grind [Xt.c])
def Wc.d{f:Nat}{args:List O}(h:Wc C F f args t0 Q)(c:t.c n=some y)(d:t0.c n=none)(e:nF n t0 t) :
  Wc C F f args t (λv t'=>∃a,Q v a/\a.c n=none/\t'.c n=some y/\nF n a t'):=
 λX HA b=>rC.i rfl (b.p c) (h _ HA (b.v c d e))
end
def G.az(t:G vA):∀n:Nat,∃t0:G vA,t0.c n=none/\nF n t0 t:=by
 induction t with
 | aj=>exact λn=>⟨.aj,G.ah n,λ_ _=>rfl⟩
 | ak l v r c d=>
  intro n;by_cases f:n=0
  .subst f;refine⟨.ak l none r,by rw[G.au];rfl,λk a=>?_⟩;rw[G.au,G.au,A3 a,A3 a]
  .by_cases i:n%2=1
   .obtain⟨g,e,b⟩:=c (n / 2);refine⟨.ak g v r,by grind [G.au],λk a=>?_⟩;rw[G.au,G.au];split
    .rfl
    .split
     .exact b _ (by omega)
     .rfl
   .obtain⟨h,e,b⟩:=d (n / 2-1);refine⟨.ak l v h,by grind [G.au],λk a=>?_⟩;rw[G.au,G.au];split
    .rfl
    .split
     .rfl
     .exact b _ (by omega)
end Go.Am
namespace Go.Proofs
open Go Go.Am
variable {g:Lo}{base sz:Nat}{l:List D}{v:O}
variable [fC]
variable {t tf:G vA}
def dH.a    (h:dH g base tf t sz l v)(j:zB tf t):∃t0,zB tf t0/\∀ {f:Nat} {args:List O} {Q:lB},Wc Y F f args t0 Q->Wc Y F f args t (λu t'=>∃t1,Q u t1/\(zB tf t1->zB t1 t'/\dH g base t1 t' sz l v)):=by
 rcases h with⟨rfl,rfl⟩ | ⟨b,m,c,rfl,o,A,p,q,r⟩
 .exact⟨t,j,λh=>h.a λu t' s=>⟨t',s,λ_=>⟨zB.f _,.inl ⟨rfl,rfl⟩⟩⟩⟩
 .obtain⟨t0,n,i⟩:=G.az t b;refine⟨t0,λk u d=>?_,λh=>(h.d p n i).a λu t' ⟨t1,w,x,y,z⟩=>⟨t1,w,λe=>⟨λk u d=>?_,.inr ⟨b,m,c,rfl,o,x,y,q,wD.f e _ _ r⟩⟩⟩⟩
  .have a:k≠b:=by grind
   rw[<- i k a];exact j _ _ d
  .have a:k≠b:=by grind
   rw[z k a];exact d
def qg:Fw Y 253 254 1:=⟨⟨_,tN,rfl,rfl⟩,⟨_,tI,rfl,rfl,by decide,by decide⟩⟩
def oi:Fw Y 96 5 1:=⟨⟨_,iX,rfl,rfl⟩,⟨_,M0,rfl,rfl,by decide,by decide⟩⟩
def qh:∀z,Y.b.c 254=some z->lN 254 z=.b 1:=λz h=>by rw[tI]at h;cases h;rfl
def y7:∀z,Y.b.c 5=some z->lN 5 z=.a 5:=λz h=>by rw[M0]at h;cases h;rfl
theorem EM    {b:Nat}(h:dH g base tf t sz l v)(a:oM v b)(c:t.c b=none):False:=by
 obtain⟨_,_,y,d⟩:=h.o a
 simp_all
def zap{S:List Nat}{T:Int}{neg:Bool}{c1:O}{N M:Nat}{Q:lB}{t0:G vA}(hM:M<400000)
  (hR:∀(tf t':G vA) (ps:List Nat) (i o:O),zB t0 tf->zB tf t'->dH (.b 1) Y.a tf t' 1 (uC .u32 ps) i->bA tf 1 (uC .u32 []) o->pB 1000000000 ps->ps≠[]->ps.getLast?≠some 0->A4 1000000000 ps=N->ps.length<=M->jp 183 2 [.h S,.e .i64 T,i,o,.d neg,c1] t' Q) :
  ∀(k:Nat) (l ps:List Nat) (i o:O) (tf t':G vA),A4 4294967296 l<1000000000^k->k+ps.length<=M->B4 l->pB 4294967296 l->l.length<900000->pB 1000000000 ps->(l=[]->ps≠[]/\ps.getLast?≠some 0) →
   A4 4294967296 l*1000000000^ps.length+A4 1000000000 ps=N->zB t0 tf->zB tf t'->dH (.b 1) Y.a tf t' 1 (uC .u32 ps) i->bA tf 1 (uC .u32 l) o->jp 183 2 [.h S,.e .i64 T,i,o,.d neg,c1] t' Q:=by
 intro k;induction k with
 | zero=>
  intro l ps i o tf t' h1 h2 w I J K h7 h8 L j p m;have A:l=[]:=Xb (B:=4294967296) (by decide) w (by omega)
  grind
 | succ k ih=>
  intro l ps i o tf t' h1 h2 w I J K h7 h8 L j p m;by_cases A:l=[]
  .grind [A4]
  have P:0<l.length:=List.length_pos_iff.2 A;have a7:0<A4 4294967296 l:=by
   rcases Z7 (A4 4294967296 l)with e | e
   .exact absurd (Xb (B:=4294967296) (by decide) w e) A
   .exact e
  refine zqx ?_;simp only[uI,uL,uX,V,uY,xr,lA,(m.a j).c,xA,yC,sH,kE];rw[A5 (by omega),q236];obtain⟨t1,v,g2⟩:=dH.a p j;refine(g2 (QW (m.a v) J I (d:=1000000000) (by decide) (by decide) (Q:=λu t'=>∃h q r,u=.p [h,.e .u32 (r:Nat)]/\zB t1 t'/\bA t' 1 (uC .u32 (xF q)) h/\pB 4294967296 q/\q.length=l.length/\r<1000000000/\A4 4294967296 l=A4 4294967296 q*1000000000+r) λt' h q r a b c d e f=>⟨h,q,r,rfl,a,b,c,d,e,f⟩)).a ?_
  rintro u t2 ⟨s,⟨h,q,r,rfl,D,W,X,a4,a5,a6⟩,hk⟩;obtain⟨Z,E⟩:=hk (v.d D);have x0:vK 0 (.p [h,.e .u32 (r:Nat)])=some h:=rfl;have x1:vK 1 (.p [h,.e .u32 (r:Nat)])=some (.e .u32 (r:Nat)):=rfl;simp only[x0,x1,xA,yC];intro n hn z;obtain⟨U,t,c2,F⟩:=DS (k:=.u32) tN rfl tI rfl rfl r trivial hn;rw[t,xA];intro n2 C g;have b3:dH (.b 1) Y.a s U.t 1 (uC .u32 ps) i:=E.f λb hb=>by
   obtain⟨_,_,y,R⟩:=E.o hb;rw[F _ _ R,R]
  obtain⟨t4,H,d2,d3,d4⟩:=TH qg qh b3 (c2.m (cap:=1) (B3 _)) (by simp) (by grind) C g (Z.d F);simp only[List.length_singleton]at H d2;simp only[];rw[H,xA];refine ih (xF q) (ps++[r]) _ _ s t4 ?_ ?_ (sY _) (yW X) ?_ ?_ ?_ ?_ (L.d (v.d D)) d3 ?_ W
  .grind [jU]
  .grind
  .grind [Qx]
  .exact TN K λx hx=>by simp_all
  .intro hs;refine⟨by simp,?_⟩;have hq:A4 4294967296 q=0:=by rw[<- jU,hs];rfl
   grind
  .rw[jU,Ml,E1];simp only[A4,Do,G1,D8,se,L1];grind
  omega
end Go.Proofs
namespace Go.Proofs
open Go Go.Am
variable [fC]
variable {t:G vA}
def znt{A lu lv Z:List Nat}{v:O}{b cap m:Nat}{t0 t':G vA}{Q:lB}(hv:bA t0 1 (uC .u32 lv) v)(hl:lv.length=m+2)(hm:m<800000)(u:pB BB lv)(C:Y.a<=b)(hb:t0.c b=none)(J:lu.length=m+3)(D:pB BB lu)(T:m+3<=cap)
  (a8:∀e,lv[m+1]?=some e->2147483648<=e) (aj:A4 BB lu<BB*A4 BB lv) (ht:zB t0 t') (a6:nF b t t') (ho:aG t' b .u32 (A++lu++Z))
  (hQ:∀t2 r,zB t0 t2->nF b t t2->aG t2 b .u32 (A++(r++[0])++Z)->r.length=m+2->pB BB r->A4 BB r=A4 BB lu%A4 BB lv->A4 BB lu / A4 BB lv<BB->Q (.e .u32 ((A4 BB lu / A4 BB lv:Nat):Int)) t2) :
  Wc Y F 310 [.m b A.length (m+3) cap,v] t' Q:=by
 obtain⟨e,h1⟩:=A6 (l:=lv) (i:=m+1) (by omega);obtain⟨v2,h2⟩:=A6 (l:=lv) (i:=m) (by omega);obtain⟨j,h3⟩:=A6 (l:=lu) (i:=m+2) (by omega);obtain⟨o,h4⟩:=A6 (l:=lu) (i:=m+1) (by omega);obtain⟨u2,h5⟩:=A6 (l:=lu) (i:=m) (by omega);have b1:e<BB:=yN u h1;have b2:v2<BB:=yN u h2;have b3:j<BB:=yN D h3;have b4:o<BB:=yN D h4;have b5:u2<BB:=yN D h5;have w:=dQ;have c1:e<4294967296:=by omega
 have c3:j<4294967296:=by omega
 have c4:o<4294967296:=by omega
 have ak:=a8 e h1;obtain⟨hV,am⟩:=top2 (B:=BB) lK u hl h1 h2;obtain⟨hU,aa⟩:=top3 (B:=BB) lK D J h3 h4 h5;have y:0<A4 BB lv:=by
  have:0<(e*BB+v2)*BB^m:=Nat.mul_pos (by have:0<e*BB:=Nat.mul_pos (by omega) lK;omega) (Nat.pow_pos lK);omega
 have hq:A4 BB lu / A4 BB lv<BB:=P8 (by rw[E7];exact aj);have p:bA t' 1 (uC .u32 lu) (.m b A.length (m+3) cap):=by
  have:=ho.g (off:=A.length) (n:=m+3) (cap:=cap) (by simp;omega) T;rw[D4,List.drop_left,List.take_left' J]at this;exact this
 have H:=hv.a ht;obtain⟨d1,o1,g1,ab⟩:=p.f bH h3;obtain⟨d2,o2,g2,ac⟩:=p.f bH h4;obtain⟨d3,o3,g3,ad⟩:=H.f bH h1;have al:j<=e:=by
  rcases P6 e j with g | g
  .exfalso;have K:(j*BB)*BB*BB^m<=A4 BB lu:=by rw[hU,D5,D5,D5];omega
   have N:A4 BB lv<(e+1)*BB*BB^m:=by
    have h:e*BB+v2+1<=(e+1)*BB:=by rw[D5];omega
    have:=D3 (BB^m) h;rw[D5 (e*BB+v2) 1,Nat.one_mul]at this;omega
   have e3:BB*A4 BB lv<BB*((e+1)*BB*BB^m):=Nat.mul_lt_mul_of_pos_left N lK;have e4:BB*((e+1)*BB*BB^m)<=j*BB*BB*BB^m:=by
    have:(e+1)*BB*BB^m<=j*BB*BB^m:=D3 _ (D3 _ g);have:=F1 BB this
    calc BB*((e+1)*BB*BB^m)<=BB*(j*BB*BB^m):=this
     _=j*BB*BB*BB^m:=by rw[<- E9,E7 BB (j*BB)]
   omega
  .exact g
 have hh:j*BB+o<=e*BB+(BB-1):=by
  have:=D3 BB al;omega
 have U:A4 BB lu / A4 BB lv<=(j*BB+o) / e:=qd hU aa b5 hV (by omega);have q:(j*BB+o) / e<=BB+1:=by
  have:j*BB+o<(BB+2)*e:=by
   rw[D5,E7 BB e];generalize e*BB=P at hh ⊢;generalize j*BB=R at hh ⊢;omega
  have:=P8 (show j*BB+o<e*(BB+2) by rw[E7 e];exact this);omega
 have E:(j*BB+o)%e<BB:=Nat.lt_trans (G2 _ (by omega)) b1;refine w310 ?_;have K:((lv.length:Nat):Int)=((m+2:Nat):Int):=by rw[hl]
 have N:((m+2:Nat):Int)-1=((m+1:Nat):Int):=by omega
 have e3:(j:Int)*4294967296=((j*4294967296:Nat):Int):=by omega
 simp (disch:=omega) only[uI,uL,uE,V,uW,t310,lA,H.c,xA,yC,sH,K,g1,ab,N,A2,g2,ac,g3,ad,iG,e3];have e4:jJ Nat.lor .u64 ((j*4294967296:Nat):Int) (o:Int)=some (.e .u64 ((j*4294967296+o:Nat):Int)):=by
  rw[kY (k:=.u64) (show j*4294967296<aH .u64 by show _<18446744073709551616;omega) (show o<aH .u64 by show _<18446744073709551616;omega)];have:=Jy (a:=j) (b:=o) (n:=32) c4;rw[show j*4294967296=j*2^32 by rfl,this]
 rw[e4];simp only[xA,yC];have e5:Eo .u64 ((j*4294967296+o:Nat):Int) (e:Int)=some (.e .u64 (((j*4294967296+o) / e:Nat):Int)):=EO (by omega) (by
  have h:(j*4294967296+o) / e<=4294967296+1:=by rw[w]at q;exact q
  generalize (j*4294967296+o) / e=z at h ⊢;exact iG (by omega) (by omega))
 rw[e5];simp only[xA,yC];rw[Xz (by omega)];simp only[xA,yC];refine za8 p H (by omega) h5 h2 b5 b2 (by omega) b1 hU aa hV am hq hh (λd q1 q2 q3=>?_) _ _ ?_ (by rw[w]at U ⊢;exact U) (by rw[w]at q ⊢;exact q) (by rw[w]at E ⊢;exact E)
 .refine zuq ?_;simp only[uI,V,zdd,lA,H.c,xA,yC,sH,K];have a1:=XT (t:=t) (A:=A) (Z:=Z) (lu:=lu) (lv:=lv) (v:=v) (b:=b) (cap:=cap) (d:=d) (t0:=t0) (Q:=Q) hv (by omega) u C hb q3 (by omega) D (by omega) ?_ lv.length 0 0 0 t' [] (by omega) ht a6 (by simpa using ho) rfl (λx hx=>by cases hx) (by first | omega | decide) (by first | omega | decide) (by simp[A4])
  .rw[hl]at a1;exact a1
  .intro t2 W f bo k1 k2 k3 k4 k5 k6 k7 k8;have ae:A4 BB (W++[f])<BB^(lv.length+1):=by
    have:=aQ (B:=BB) lK (Cv k5 k6);simp only[E1,Do,G1,k4]at this;exact this
   have ao:A4 BB lv<BB^lv.length:=aQ lK u;have aq:=P7 (A4 BB lu) (A4 BB lv);have ap:A4 BB lu%A4 BB lv<A4 BB lv:=G2 _ y;have S:A4 BB (W++[f])=A4 BB W+BB^lv.length*f:=by rw[zQ,k4]
   split
   .rename_i hz;subst hz;rw[se,L1]at k8;have M:d=A4 BB lu / A4 BB lv:=by
     refine Nat.le_antisymm ?_ q1;rw[Nat.le_div_iff_mul_le y];omega
    have hr:A4 BB (W++[f])=A4 BB lu%A4 BB lv:=by
     rw[M,E7]at k8;omega
    have L:f=0:=by
     rcases Z7 f with g | g
     .exact g
     .exfalso;have:=F1 (BB^lv.length) g;rw[Nat.mul_one]at this;omega
    subst L;rw[M];exact hQ t2 W k1 k2 k3 (by omega) k5 (by rw[<- hr,S];simp) hq
   .rename_i hz;have af:bo=1:=by omega
    subst af;rw[Nat.mul_one]at k8;have M:d=A4 BB lu / A4 BB lv+1:=by
     refine Nat.le_antisymm q2 ?_;rcases P6 (A4 BB lu / A4 BB lv) d with g | g
     .exact g
     .exfalso;have:d*A4 BB lv<=A4 BB lu:=Nat.le_trans (D3 _ g) (Nat.div_mul_le_self _ _);omega
    have ah:A4 BB (W++[f])+A4 BB lv=A4 BB lu%A4 BB lv+BB^(lv.length+1):=by
     rw[M,D5,Nat.one_mul,E7 (A4 BB lu / A4 BB lv)]at k8;omega
    refine ZX (t:=t) (A:=A) (Z:=Z) (t0:=t0) hv (by omega) u C hb (by rw[M];exact Nat.succ_pos _) (by omega) W k4 k5 f k6 (by omega) (λt3 r up n1 n2 n3 n4 n5 n6=>?_) lv.length 0 0 t2 [] (by omega) k1 k2 (by simpa using k3) rfl (λx hx=>by cases hx) (by first | omega | decide) (by simp[A4])
    have a7:A4 BB r<BB^lv.length:=by
     have:=aQ (B:=BB) lK n4;rw[n3]at this;exact this
    rw[S,K1]at ah;have I:A4 BB r+BB^lv.length*(up+f)=A4 BB lu%A4 BB lv+BB^lv.length*BB:=by
     rw[K3];omega
    have s:up+f=BB/\A4 BB r=A4 BB lu%A4 BB lv:=by
     have X:A4 BB lu%A4 BB lv<BB^lv.length:=by omega
     have hB:0<BB^lv.length:=by omega
     have K:(A4 BB r+BB^lv.length*(up+f)) / BB^lv.length=up+f:=by rw[Nat.add_mul_div_left _ _ hB,Nat.div_eq_of_lt a7];simp
     have N:(A4 BB lu%A4 BB lv+BB^lv.length*BB) / BB^lv.length=BB:=by rw[Nat.add_mul_div_left _ _ hB,Nat.div_eq_of_lt X];simp
     rw[I,N]at K;refine⟨K.symm,?_⟩;rw[<- K]at I;omega
    have ai:(f+up)%BB=0:=by rw[T5,s.1];exact Nat.mod_self _
    rw[ai]at n2;have ag:d-1=A4 BB lu / A4 BB lv:=by rw[M];exact Nat.add_sub_cancel _ _
    rw[ag];exact hQ t3 r (k1.g hb (λc hc=>by
     rw[n1 c hc,<- k2 c hc])) n1 n2 (by omega) n4 s.2 hq
 .rw[E7,w];exact P7 _ _
end Go.Proofs
namespace Go.Am
def UV{B p K:Nat}(a:B=p*K)(b:0<p)(m:0<K){x y:Nat}{l:List Nat}(n:x<B) :
  A4 B (x::y::l) / p=(y*B+x) / p%B+B*(A4 B (y::l) / p):=by
 have c:A4 B (x::y::l)=x+p*(K*A4 B (y::l)):=by
  show x+B*A4 B (y::l)=_;rw[a,E9]
 have d:y*B+x=x+p*(K*y):=by rw[a,T5,E7 y,E9]
 have i:A4 B (y::l)%p=y%p:=by
  show(y+B*A4 B l)%p=_;rw[a,E9,Nat.add_mul_mod_self_left]
 have e:K*y=K*(y%p)+B*(y / p):=by
  grind [Nat.div_add_mod]
 have f:K*A4 B (y::l)=K*(y%p)+B*(A4 B (y::l) / p):=by
  grind [Nat.div_add_mod]
 have j:x / p<K:=P8 (by omega);have g:x / p+K*(y%p)<B:=by
  have h:y%p<p:=G2 _ b;have k:K*(y%p+1)<=K*p:=F1 _ h
  grind
 rw[c,Nat.add_mul_div_left _ _ b,d,Nat.add_mul_div_left _ _ b,e,<- Nat.add_assoc,Nat.add_mul_mod_self_left,Nat.mod_eq_of_lt g,f,<- Nat.add_assoc]
end Go.Am
namespace Go.Proofs
open Go Go.Am
variable [fC]
variable {t:G vA}
def zer{l:List Nat}{b L lo hi:Nat}(o:aG t b .u32 l)(j:lo<=hi)(h:hi<=L)(r:lo<L) :
  cF Y 253 ⟨0,t⟩ (.m b 0 L L) (some (.e .i64 (lo:Int))) (some (.e .i64 (hi:Int)))=some (.m b lo (hi-lo) (L-lo)):=by
 obtain⟨c,i,_⟩:=o;obtain⟨⟨y,d,e⟩,⟨z,f,g,q⟩⟩:=bH;unfold cF;rw[d,mA];have m:∀y (k:Nat),Aw y (.e .i64 (k:Int))=tB (Nat.ble k y) (some k):=λy k=>rfl;unfold sP;simp only[O.w,O.u];rw[e,mA];unfold aR;rw[f,mA];unfold gS Fl;simp only[m];rw[show Nat.ble hi L=true from rF.2 h];simp only[xE,mA];rw[show Nat.ble lo hi=true from rF.2 j];simp only[xE,mA];have a:tP ⟨0,t⟩ b z.b L lo false=false:=by
  unfold tP fD;rw[i,mA];rfl
 rw[a,E5,cond_false];have n:vQ ⟨0,t⟩ b z.b L lo false=true:=by
  unfold vQ fD;rw[i,mA];rfl
 rw[show Nat.ble hi L=true from rF.2 h,n];simp only[Bool.and_self,xE];have p:Nat.beq L lo=false:=by
  grind [bC]
 rw[p,cond_false,g,Nat.mul_one,D8]
def UW{P:O}{Z c:List Nat}{b n s L cn:Nat}{Q:lB}(hn:n<900000)(hc:c.length=n+1)(o:pB BB c)(z:c[n]?=some cn)(f:Y.a<=b)(hs:s<32)(hL:n+1<=L)
  (E:∀t' W,nF b t t'->aG t' b .u32 (W++[cn]++Z)->W.length=n->pB BB W->A4 BB W+BB^n*(cn / 2^s)=A4 BB c / 2^s->jp 295 6 [.e .i64 (n:Int),.e .i64 (s:Int),.m b 0 L L,P,.e .i64 (n:Int),.e .i64 (n:Int)] t' Q) :
  ∀(k i:Nat) (t':G vA) (W:List Nat),i+k=n->nF b t t'->aG t' b .u32 (W++c.drop i++Z)->W.length=i->pB BB W->A4 BB W+BB^i*(A4 BB (c.drop i) / 2^s)=A4 BB c / 2^s →
  jp 295 6 [.e .i64 (n:Int),.e .i64 (s:Int),.m b 0 L L,P,.e .i64 (n:Int),.e .i64 (i:Int)] t' Q:=by
 intro k;induction k with
 | zero=>
  intro i t' W hi a v h m e;have F:i=n:=by omega
  subst F;have hd:c.drop i=[cn]:=by
   rw[xU z,E3 (by omega)]
  grind [A4]
 | succ k ih=>
  intro i t' W hi a v h m e;have g:=dQ;obtain⟨x,J⟩:=A6 (l:=c) (i:=i) (by omega);obtain⟨y,M⟩:=A6 (l:=c) (i:=i+1) (by omega);have r:x<4294967296:=by have:=yN o J;omega
  have u:y<4294967296:=by have:=yN o M;omega
  have q:c.drop (i+1)=y::c.drop (i+2):=xU M;have D:c.drop i=x::y::c.drop (i+2):=by rw[xU J,q]
  have I:=Nt (A:=W) (w:=c.drop i) (Z:=Z) (j:=0) (x:=x) (by grind);have N:=Nt (A:=W) (w:=c.drop i) (Z:=Z) (j:=1) (x:=y) (by grind);rw[h]at I N;rw[L1]at I;have U:=La bH (b:=b) (n:=L) (cap:=L) (j:=i) (by omega);have X:=La bH (b:=b) (n:=L) (cap:=L) (j:=i+1) (by omega);have l0:=v.f (C:=Y) I tI rfl;have l1:=v.f (C:=Y) N tI rfl;have T:(i:Int)+1=((i+1:Nat):Int):=by omega
  have R:(y:Int)*4294967296=((y*4294967296:Nat):Int):=by omega
  obtain⟨t1,s1,s2,s3⟩:=v.e (C:=Y) f (j:=i) (by grind) ((y*4294967296+x) / 2^s%4294967296) tI rfl;have d:=Sh (A:=W) (w:=c.drop i) (Z:=Z) (j:=0) (x:=(y*4294967296+x) / 2^s%4294967296) (by grind);rw[L1,h]at d;rw[d]at s2;refine zqk ?_;simp only[uL,uE,tC,V,yh,lA,kE];rw[A5 (by omega)];simp (disch:=omega) only[T,A2,U,X,xA,l0,l1,yC];rw[iG (n:=(y:Int)) (by omega) (by omega),R,iG (n:=((y*4294967296:Nat):Int)) (by omega) (by omega),iG (n:=(x:Int)) (by omega) (by omega),O0 u r,xA,yC,xA,OR (by omega),xA,yC,xA]
  have S:cA .u32 (((y*4294967296+x) / 2^s:Nat):Int)=(((y*4294967296+x) / 2^s%4294967296:Nat):Int):=by
   grind [nX]
  rw[S];intro _ _ _;rw[s1,xA];have hw:(y*4294967296+x) / 2^s%4294967296<BB:=by omega
  refine ih (i+1) t1 (W++[(y*4294967296+x) / 2^s%4294967296]) (by omega) (a.a s3) ?_ (by simp[h]) (Cv m hw) ?_
  .grind
  .have H:=UV (B:=BB) (p:=2^s) (K:=2^(32-s)) (by rw[<- Nat.pow_add,show s+(32-s)=32 by omega,g]) (Nat.pow_pos (by decide)) (Nat.pow_pos (by decide)) (x:=x) (y:=y) (l:=c.drop (i+2)) (by omega);rw[<- e,D,H,zQ,h,q,K1,K3,g];grind
end Go.Proofs
namespace Go.Proofs
open Go Go.Am
variable [fC]
variable {t:G vA}
def YS{lv:List Nat}{v:O}{b g m s L f U:Nat}{t0:G vA}{Q:lB}(hv:bA t0 1 (uC .u32 lv) v)(hl:lv.length=m+2)(hm:m<800000)(X:pB BB lv)(k:Y.a<=b)(d:Y.a<=g)(hb:t0.c b=none)(S:t0.c g=none)(B:b≠g)(hL:L<1000000)
  (I:∀J,lv[m+1]?=some J->2147483648<=J) (R:0<A4 BB lv)
  (o:∀t' q r Z,zB t0 t'->aG t' b .u32 (r++[0]++Z)->aG t' g .u32 q->r.length=m+2->pB BB r->pB BB q->q.length=f->m+3+Z.length=L->A4 BB r<A4 BB lv->U=A4 BB lv*A4 BB q+A4 BB r->jp 295 6 [.e .i64 ((m+2:Nat):Int),.e .i64 (s:Int),.m b 0 L L,.m g 0 f f,.e .i64 ((m+2:Nat):Int),.e .i64 0] t' Q) :
  ∀(j:Nat) (A c Z a:List Nat) (t':G vA),A.length=j->c.length=m+3->pB BB A->pB BB c->pB BB a->A.length+(m+3)+Z.length=L->j+1+a.length=f->A4 BB c<BB*A4 BB lv->zB t0 t'->aG t' b .u32 (A++c++Z)->aG t' g .u32 (List.replicate (j+1) 0++a)->U=A4 BB lv*(BB^(j+1)*A4 BB a)+A4 BB (A++c) →
  jp 295 2 [.e .i64 ((m+2:Nat):Int),.e .i64 (s:Int),v,.m b 0 L L,.m g 0 f f,.e .i64 (j:Int)] t' Q:=by
 intro j;induction j using Nat.strongRecOn with
 | ind j ih=>
  intro A c Z a t' K hc w T z a8 aa W ht ho a1 hU;have gs:=zer (b:=b) (L:=L) (lo:=j) (hi:=j+(m+2)+1) ho (by omega) (by omega) (by omega);rw[show j+(m+2)+1-j=m+3 by omega]at gs;have e1:(j:Int)+((m+2:Nat):Int)=((j+(m+2):Nat):Int):=by omega
  have e2:((j+(m+2):Nat):Int)+1=((j+(m+2)+1:Nat):Int):=by omega
  refine zql ?_;simp only[uL,V,uW,yg,lA,mI];rw[A5 (by omega)];simp (disch:=omega) only[e1,A2,e2,gs,xA,q310];subst K;refine znt (A:=A) (Z:=Z) (t:=t') (t0:=t0) hv hl hm X k hb hc T (by omega) I W ht (nF.d _ _) ho (λt2 r k1 k2 k3 k4 k5 k6 k7=>?_);have E:=a1.o (λe=>B e.symm) k2;have g1:=La bH (b:=g) (n:=f) (cap:=f) (j:=A.length) (by omega);obtain⟨t3,s1,s2,s3⟩:=E.e (C:=Y) d (j:=A.length) (by grind) (A4 BB c / A4 BB lv) tI rfl
  have F:(List.replicate (A.length+1) 0++a).set A.length (A4 BB c / A4 BB lv)=List.replicate A.length 0++((A4 BB c / A4 BB lv)::a):=by
   simp_all [List.replicate_succ']
  rw[F]at s2;rw[yC,xA,g1,xA];intro _ _ _;rw[s1,xA];have ac:=k3.o B s3;have H:=k1.g S s3;have hr:A4 BB r<A4 BB lv:=by grind [Nat.mod_lt]
  have ab:=P7 (A4 BB c) (A4 BB lv);have P:U=A4 BB lv*(BB^A.length*A4 BB ((A4 BB c / A4 BB lv)::a))+A4 BB (A++r):=by
   grind [Ml,A4]
  rcases K:A.length with _ | h
  .have D:A=[]:=List.eq_nil_of_length_eq_zero K;subst D;refine zql ?_;have M:((0:Nat):Int)-1 = -1:=by omega
   rw[M];simp only[uL,V,uW,yg,lA,mI];rw[A3 (by omega)];refine o t3 _ r Z H (by simp_all) (by omega) k4 k5 (λx u=>?_) (by grind) (by omega) hr (by simp_all);rcases C3.1 u with rfl | u
   .exact k7
   .exact z x u
  .obtain⟨x,u⟩:=A6 (l:=A) (i:=h) (by omega);have N:A=A.take h++[x]:=by
    rw[<- yT u,L0 (by omega)]
   have a7:x<BB:=yN w u;have M:((h+1:Nat):Int)-1=(h:Int):=by omega
   rw[M];have a6:A4 BB (x::r)=x+BB*A4 BB r:=rfl;refine ih h (by omega) (A.take h) (x::r) (0::Z) ((A4 BB c / A4 BB lv)::a) t3 (by grind) (by simp[k4]) (Im w _) (λy p=>?_) (λy p=>?_) (by grind) (by grind) ?_ H ?_ ?_ ?_
   .rcases C3.1 p with rfl | p
    .exact a7
    .exact k5 y p
   .rcases C3.1 p with rfl | p
    .exact k7
    .exact z y p
   .rw[a6];have:=F1 BB hr;rw[Nat.mul_succ]at this;omega
   .have:A.take h++x::r++0::Z=A++(r++[0])++Z:=by
     conv=>rhs;rw[N]
     simp
    grind
   .grind
   .rw[P,K];have:A++r=A.take h++x::r:=by
     grind
    rw[this]
end Go.Proofs
namespace Go.Am
def zir{a b q R p:Nat}(c:0<p)(h:a*p=b*p*q+R)(f:R<b*p):a=b*q+R / p/\R / p<b:=by
 have d:p ∣ R:=(Nat.dvd_add_right (⟨b*q,by rw[E7 b p,E9]⟩:p ∣ b*p*q)).1 (h ▸ ⟨a,E7 a p⟩);obtain⟨e,rfl⟩:=d;rw[Nat.mul_div_cancel_left _ c];refine⟨Nat.eq_of_mul_eq_mul_left c ?_,Nat.lt_of_mul_lt_mul_left (a:=p) ?_⟩
 all_goals grind
def qi{B p K n a:Nat}{b c:List Nat}(A:B=p*K)(u:0<p)(g:pB B b)(C:b.length=n+1)(l:b[n]?=some a)(D:a*p<B)(j:B<=2*(a*p))(w:pB B c)(v:c.length=n+2)(E:A4 B c=A4 B b*p) :
  A4 B (c.take (n+1))=A4 B b*p/\∀x,(c.take (n+1))[n]?=some x->B<=2*x:=by
 have f:0<B:=by omega
 have t:A4 B b=A4 B (b.take n)+B^n*a:=by
  have:=Jl B b n
  simp_all [xU,E3,A4]
 have k:A4 B (b.take n)<B^n:=by
  have:=aQ f (Im g n)
  simp_all
 have s:a<K:=by
  simp_all [E7]
 have y:A4 B b*p<B^(n+1):=by
  have m:A4 B b<B^n*(a+1):=by grind
  have o:B^n*(a+1)<=B^n*K:=F1 _ s;have q:A4 B b*p<B^n*K*p:=Nat.mul_lt_mul_of_pos_right (by omega) u
  grind
 have d:=Jl B c (n+1);have i:(c.take (n+1)).length=n+1:=by grind
 rw[i]at d;have H:A4 B (c.drop (n+1))=0:=by
  rcases Z7 (A4 B (c.drop (n+1)))with h | h
  .exact h
  .exfalso;have:=F1 (B^(n+1)) h;omega
 have e:A4 B (c.take (n+1))=A4 B b*p:=by simp_all
 refine⟨e,λx F=>?_⟩;have m:A4 B (c.take (n+1))=A4 B ((c.take (n+1)).take n)+B^n*x:=by
  have:=Jl B (c.take (n+1)) n
  simp_all [xU,E3,A4]
 have o:A4 B ((c.take (n+1)).take n)<B^n:=by
  grind [aQ,Im]
 have q:B^n*(a*p)<=A4 B b*p:=by
  grind [Nat.add_mul]
 have r:B^n*(a*p)<B^n*(x+1):=by grind
 have z:a*p<x+1:=Nat.lt_of_mul_lt_mul_left r;omega
def qj{B p n j:Nat}{a b c:List Nat}(h:0<B)(i:pB B a)(k:B^n<=A4 B b)(t:a.length=j+(n+1))(m:c.length=a.length+1)(l:0<p)(u:A4 B c=A4 B a*p):A4 B (c.drop j)<B*(A4 B b*p):=by
 have e:=Jl B c j;have d:(c.take j).length=j:=by grind
 rw[d]at e;have f:A4 B a<B^(j+(n+1)):=by grind [aQ]
 have o:A4 B a*p<B^(j+(n+1))*p:=Nat.mul_lt_mul_of_pos_right f l;have q:B^(j+(n+1))*p=B^j*(B*(B^n*p)):=by
  rw[Nat.pow_add,K1,E7 (B^n) B,E9,E9]
 have g:B^j*A4 B (c.drop j)<B^j*(B*(B^n*p)):=by omega
 have r:=Nat.lt_of_mul_lt_mul_left g;have s:B*(B^n*p)<=B*(A4 B b*p):=F1 _ (D3 _ k);omega
end Go.Am
namespace Go.Proofs
open Go Go.Am
variable [fC]
variable {t:G vA}
def IY{l:List Nat}{b L hi:Nat}(j:aG t b .u32 l)(h:hi<=L)(o:0<L) :
  cF Y 253 ⟨0,t⟩ (.m b 0 L L) none (some (.e .i64 (hi:Int)))=some (.m b 0 hi L):=by
 obtain⟨c,g,_⟩:=j;obtain⟨⟨y,d,e⟩,⟨z,f,m,n⟩⟩:=bH;unfold cF;rw[d,mA];have i:∀y (k:Nat),Aw y (.e .i64 (k:Int))=tB (Nat.ble k y) (some k):=λy k=>rfl;unfold sP;simp only[O.w,O.u];rw[e,mA];unfold aR;rw[f,mA];unfold gS Fl;simp only[i];rw[show Nat.ble hi L=true from rF.2 h];simp only[xE,mA];have a:tP ⟨0,t⟩ b z.b L 0 false=false:=by
  unfold tP fD;rw[g,mA];rfl
 rw[a,E5,cond_false];have p:vQ ⟨0,t⟩ b z.b L 0 false=true:=by
  unfold vQ fD;rw[g,mA];rfl
 grind [rF,xE]
theorem JO{b o n c:Nat}:A8 10 (.m b o n c) (.m b o n c)=true:=by
 simp[A8]
def YR{q W Z:List Nat}{b c n s L a:Nat}{Q:lB}(g:aG t b .u32 (W++[0]++Z))(d:aG t c .u32 q)(v:W.length=n)(w:n<1000000)(r:n+1+Z.length=L)(x:q.length=a)(m:a<1000000)
  (u:∀e f,bA t 1 (uC .u32 (xF q)) e->bA t 1 (uC .u32 (xF W)) f->Q (.p [e,f]) t) :
  jp 295 6 [.e .i64 (n:Int),.e .i64 (s:Int),.m b 0 L L,.m c 0 a a,.e .i64 (n:Int),.e .i64 (n:Int)] t Q:=by
 have h:=IY (L:=L) (hi:=n) g (by omega) (by omega);have i:bA t 1 (uC .u32 W) (.m b 0 n L):=by
  have:=g.g (off:=0) (n:=n) (cap:=L) (by grind) (by omega)
  simp_all
 have j:bA t 1 (uC .u32 q) (.m c 0 a a):=by
  have:=d.m (cap:=a) (by omega)
  simp_all
 obtain⟨e,k,o⟩:=Gn (by omega) j;obtain⟨f,l,p⟩:=Gn (by omega) i;refine zqk ?_;simp only[uL,uE,tC,V,yh,lA,kE];rw[A3 (by omega)];simp only[h,xA,en,k,l];grind [JO]
def FQ{a b:List Nat}{u v:O}{Q:lB}(hu:bA t 1 (uC .u32 a) u)(hv:bA t 1 (uC .u32 b) v)(ha:a.length<700000)(w:pB BB a)(A:pB BB b)(N:B4 a)(f:B4 b)(y:b≠[])
  (hQ:∀t' q r qv K,zB t t'->bA t' 1 (uC .u32 q) qv->bA t' 1 (uC .u32 r) K->pB BB q->pB BB r->B4 q->B4 r->A4 BB a=A4 BB b*A4 BB q+A4 BB r->A4 BB r<A4 BB b->Q (.p [qv,K]) t') :
  Wc Y F 295 [u,v] t Q:=by
 have o:=dQ;have M:1<BB:=by omega
 have T:=zja M w A N f;refine w295 ?_;simp only[uI,uL,uX,V,uW,t295,lA,q300,zrl (by omega) hu hv,xA,yC,kE];by_cases hc:iP a b<0
 .rw[A5 hc];simp only[q307];refine zoe hu (by omega) λt' v' h1 h2=>?_;exact hQ t' [] a _ _ h1 ⟨[],.inl ⟨rfl,rfl⟩,by simp[uC,wD]⟩ h2 (λx H=>by cases H) w (λh=>absurd rfl h) N (by simp[A4]) (T.1 hc)
 .rw[A3 hc];have af:A4 BB b<=A4 BB a:=Nat.le_of_not_lt λh=>hc (T.2 h);have al:b.length<=a.length:=tV M w f af;simp only[hv.c,xA,yC,sH,fI];by_cases h1:b.length=1
  .rw[A5 (by omega)];obtain⟨d,rfl⟩:∃d,b=[d]:=by
    match b,h1 with
    | [d],_=>simp_all
   have hd:d<4294967296:=by have:=A d (by simp);omega
   have ae:0<d:=by have:=f (by simp);grind
   obtain⟨c,off,g1,g2⟩:=hv.f bH (i:=0) (x:=d) rfl;have ab:zC Y 253 v (.e .i64 0)=some (.j c off):=g1;simp only[ab,g2,xA,yC,q236];refine QW hu (by omega) (by simp_all) hd ae λt' v' q r k1 k2 k3 k4 k5 k6=>?_;simp only[vK,O.ay,mA,yI,If,In,xA,yC];intro b' ac _;obtain⟨H',m1,m2,m3⟩:=DS (k:=.u32) tN rfl tI rfl rfl r trivial ac;have hR:=m2.m (cap:=1) (by simp);obtain⟨K,f1,f2⟩:=Gn (by simp) hR;have aa:oB Y F 247 [.m b' 0 1 1] H'.t=some K:=f1
   rw[m1];simp only[xA,en,aa];rw[<- o]at k3 k6;have ag:pB BB [r]:=λx H=>by grind
   refine hQ H'.t (xF q) (xF [r]) v' K (k1.d m3) (k2.a m3) f2 (yW k3) (yW ag) (sY _) (sY _) ?_ ?_
   all_goals grind [jU,A4]
  .rw[A3 (by omega)];have ad:0<b.length:=List.length_pos_iff.2 y;obtain⟨m,hm⟩:∃m,b.length=m+2:=⟨b.length-2,by omega⟩;obtain⟨j,hj⟩:∃j,a.length=j+(m+2):=⟨a.length-(m+2),by omega⟩;obtain⟨a6,g⟩:=A6 (l:=b) (i:=m+1) (by omega);have a1:a6<4294967296:=by have:=yN A g;omega
   have ai:0<a6:=by
    have:=f y
    grind
   obtain⟨s,hs,ap,aq,ah⟩:=zgf (t:=t) a1 ai;obtain⟨c,off,g1,g2⟩:=hv.f bH g;have eb:((m+2:Nat):Int)-1=((m+1:Nat):Int):=by omega
   simp (disch:=omega) only[hm,eb,A2,g1,g2,xA,yC,q308,ah,q309];refine JE hv (by omega) (by simp_all) hs λt1 b1 rb k1 k2 k3 k4 k5 k6 k7=>?_;rw[<- o]at k6 k7;rw[hm]at k5 ⊢;have hK:BB=2^s*2^(32-s):=by rw[<- Nat.pow_add,show s+(32-s)=32 by omega,o]
   have hp:0<2^s:=Nat.pow_pos (by decide);obtain⟨w1,w2⟩:=qi (n:=m+1) hK hp A hm g (by omega) (by omega) k6 k5 k7;have e1:=IY (L:=m+2+1) (hi:=m+2) k4 (by omega) (by omega);have ak:bA t1 1 (uC .u32 (rb.take (m+2))) (.m b1 0 (m+2) (m+2+1)):=by
    have:=k4.g (off:=0) (n:=m+2) (cap:=m+2+1) (by omega) (by omega)
    simp_all
   simp only[e1,xA];refine JE (hu.a k1) (by omega) (by simp_all) hs λt2 b2 J n1 n2 n3 n4 n5 n6 n7=>?_;rw[<- o]at n6 n7;rw[hj]at n5 ⊢;have ea:((j+(m+2):Nat):Int)-((m+2:Nat):Int)=(j:Int):=by omega
   have a7:(j:Int)+1=((j+1:Nat):Int):=by omega
   simp (disch:=omega) only[hu.c,sH,hj,xA,yC,ea,a7,A2];intro bq E z;obtain⟨t3,p1,p2,p3,p4⟩:=Kv (C:=Y) (k:=.u32) tN rfl tI rfl rfl (by decide) (n:=j+1) (by omega) E;rw[p1];have el:vC (.m bq 0 (j+1) (j+1))=some (.e .i64 ((j+1:Nat):Int)):=rfl;have a8:((j+1:Nat):Int)-1=(j:Int):=by omega
   simp (disch:=omega) only[xA,el,yC,a8,A2];have X:b2≠bq:=by
    intro e;obtain⟨c,am,_⟩:=n4
    simp_all
   have R:t1.c bq=none:=by
    cases hg:t1.c bq with
    | none=>rfl
    | some x=>rw[n1 _ _ hg]at E;cases E
   have D:0<A4 BB (rb.take (m+2)):=by
    rw[w1];refine Nat.mul_pos ?_ hp;have:=AL (B:=BB) f y
    grind
   have P:BB^(m+1)<=A4 BB b:=by
    have:=AL (B:=BB) f y
    simp_all
   have ao:=qj (n:=m+1) (j:=j) (p:=2^s) lK w P (by omega) (by omega) hp n7;have aj:J.take j++J.drop j=J:=List.take_append_drop _ _;refine YS (U:=A4 BB J) ak (by grind) (by omega) (Im k6 _) n3 z n2 R X (by omega) (λx H=>by grind) D (λt4 q r Z z1 z2 z3 z4 z5 z6 z7 z8 z9 I=>?_) j (J.take j) (J.drop j) [] [] t3 (by grind) (by grind) (Im n6 _) (GO n6 _) (λx H=>by cases H) (by grind) (by simp) ?_ (n1.d p3) ?_ (by simp_all) ?_
   .have S:pB BB (r++[0]):=Cv z5 lK;refine UW (t:=t4) (Z:=Z) (c:=r++[0]) (cn:=0) (by omega) (by simp[z4]) S (by simp_all) n3 hs (by omega) (λt5 W y1 y2 y3 y4 y5=>?_) (m+2) 0 t4 [] (by omega) (nF.d _ _) (by simp_all) rfl (λx H=>by cases H) (by rw[G8,Nat.pow_zero,Nat.one_mul];exact D8 _);have y6:A4 BB W=A4 BB r / 2^s:=by
     grind [zQ,Nat.zero_div]
    rw[w1]at z9 I;rw[n7]at I;obtain⟨x1,x2⟩:=zir hp I z9;refine YR y2 (z3.o (λe=>X e.symm) y1) y3 (by omega) (by omega) z7 (by omega) λqv K x3 x4=>?_;have ar:zB t t5:=k1.d (z1.g n2 y1)
    grind [yW,sY,jU]
   .simp_all
   .rw[aj,C8];exact n4.p p3
   simp_all [A4]
end Go.Proofs
namespace Go.Am
variable {B P W u x:Nat}
def wd (l:List Nat)(i:Nat):Nat:=(l[i]?).getD 0
def Jd (a:0<B){l:List Nat}(h:pB B l)(i:Nat):wd l i<B:=by
 unfold wd
 cases b:l[i]? with
 | none=>exact a
 | some x=>exact yN h b
def Qi(B:Nat)(l:List Nat)(i:Nat):A4 B (l.take (i+1))=A4 B (l.take i)+B^i*wd l i:=by
 unfold wd
 cases a:l[i]? with
 | none=>
  grind [List.take_of_length_le]
 | some x=>
  have b:=(F6.1 a).1;rw[yT a,zQ];grind
def ziu{v a b w y bo ai bi x' y' lx ly bo':Nat}(h:W+P*x+v*b=u*a+P*(y+bo))(d:B*x'+lx=x+u*ai)(e:B*y'+ly=y+v*bi)(c:lx+B*bo'=w+ly+bo) :
  (W+P*w)+P*B*x'+v*(b+P*bi)=u*(a+P*ai)+P*B*(y'+bo'):=by
 grind
theorem znz{z X Y:Nat}(h:W+P*x+Y=X+P*z)(b:W<P)(c:X<P)(a:Y<=X):W=X-Y:=by
 rcases Nat.lt_trichotomy x z with g | g | g
 .have:=F1 P g
  grind
 .grind
 .have:=F1 P g
  grind
def SL{a:Nat}(c:x<=u)(b:a<B):(x+u*a) / B<=u:=by
 have h:x+u*a<=u*B:=by
  have:=F1 u (Nat.succ_le_of_lt b)
  grind
 simp_all [Nat.div_le_of_le_mul,E7]
end Go.Am
namespace Go.Proofs
open Go Go.Am
variable [fC]
variable {t:G vA}
theorem KO{x u a:Nat}(d:x<=u)(c:u<4294967296)(b:a<4294967296):cA .u64 ((x:Int)+cA .u64 ((u:Int)*cA .u64 (a:Int)))=((x+u*a:Nat):Int):=by
 have h:u*a<=4294967295*4294967295:=G5 (by omega) (by omega)
 grind [iG]
def zbn{e f:List Nat}{g j w:O}{u v x y bo n i:Nat}{Q:lB}(p:bA t 1 (uC .u32 e) g)(q:bA t 1 (uC .u32 f) j)(l:pB BB e)(m:pB BB f)(B:u<4294967296)(C:v<4294967296)(D:x<=u)(E:y<=v)(hi:i<n)
  (h:jp 302 21 [.e .u64 (u:Int),g,.e .u64 (v:Int),j,w,.e .u64 ((x+u*wd e i:Nat):Int),.e .u64 ((y+v*wd f i:Nat):Int),.e .u32 (bo:Int),.e .i64 (i:Int),.e .i64 (n:Int),.e .i64 (i:Int)] t Q) :
  jp 302 2 [.e .u64 (u:Int),g,.e .u64 (v:Int),j,w,.e .u64 (x:Int),.e .u64 (y:Int),.e .u32 (bo:Int),.e .i64 (n:Int),.e .i64 (i:Int)] t Q:=by
 have A:=dQ;have k:jp 302 17 [.e .u64 (u:Int),g,.e .u64 (v:Int),j,w,.e .u64 ((x+u*wd e i:Nat):Int),.e .u64 (y:Int),.e .u32 (bo:Int),.e .i64 (i:Int),.e .i64 (n:Int),.e .i64 (i:Int)] t Q:=by
  refine zus ?_;simp only[uI,uL,V,zdh,lA,q.c,xA,yC,sH,kE];by_cases a:i<f.length
  .obtain⟨z,b⟩:=A6 a;have d:z<4294967296:=by have:=yN m b;omega
   obtain⟨c,o,r,s⟩:=q.f bH b
   grind [xA,yC,KO,wd]
  grind [wd]
 refine zqi ?_;simp only[uI,uL,V,yj,lA,kE];rw[A5 (by omega)];simp only[p.c,xA,yC,sH];by_cases a:i<e.length
 .obtain⟨z,b⟩:=A6 a;have d:z<4294967296:=by have:=yN l b;omega
  obtain⟨c,o,r,s⟩:=p.f bH b
  grind [xA,yC,KO,wd]
 grind [wd]
end Go.Proofs
namespace Go.Proofs
open Go Go.Am
section
variable {a c:List Nat}{d e:O}{u v:Nat}{Q:lB}
variable [fC]
variable {t:G vA}
def ziv  {b n:Nat}{t0:G vA} (ha:bA t0 1 (uC .u32 a) d)(hb:bA t0 1 (uC .u32 c) e)(q:pB BB a)(r:pB BB c)(hu:u<4294967296)(hv:v<4294967296)(hn:n<1000000)(m:Y.a<=b)(I:t0.c b=none)
  (hQ:∀t' W N x z,zB t0 t'->bA t' 1 (uC .u32 (xF W)) N->W.length=n->pB BB W->A4 BB W+BB^n*x+v*A4 BB (c.take n)=u*A4 BB (a.take n)+BB^n*z->Q N t') :
  ∀(k i x y bo:Nat) (t':G vA) (W:List Nat),i+k=n->zB t0 t'->aG t' b .u32 (W++List.replicate k 0)->W.length=i->pB BB W->x<=u->y<=v->bo<2->A4 BB W+BB^i*x+v*A4 BB (c.take i)=u*A4 BB (a.take i)+BB^i*(y+bo) →
  jp 302 2 [.e .u64 (u:Int),d,.e .u64 (v:Int),e,.m b 0 n n,.e .u64 (x:Int),.e .u64 (y:Int),.e .u32 (bo:Int),.e .i64 (n:Int),.e .i64 (i:Int)] t' Q:=by
 intro k;have F:=dQ
 induction k with
 | zero=>
  intro i x y bo t' W hi E D H o L M s l;have K:i=n:=by omega
  subst K;have e3:bA t' 1 (uC .u32 W) (.m b 0 i i):=by
   rw[List.replicate_zero,C8]at D;have:=D.m (cap:=i) (by omega)
   simp_all
  obtain⟨N,f1,f2⟩:=Gn (by omega) e3;refine zqi ?_;simp only[uI,uL,V,yj,lA,kE];rw[A3 (by omega)];simp only[en,f1,xA];grind
 | succ k ih=>
  intro i x y bo t' W hi E D H o L M s l;refine zbn (ha.a E) (hb.a E) q r hu hv L M (by omega) ?_;have wa:=Jd lK q i;have wb:=Jd lK r i;have R:=SL L wa;have S:=SL M wb;have va:=Qi BB a i;have vb:=Qi BB c i;generalize wd a i=ai at *;generalize wd c i=bi at *;generalize hX:x+u*ai=X at *;generalize hY:y+v*bi=f at *;have ex:cA .u32 (X:Int)=((X%4294967296:Nat):Int):=by rw[nX];omega
  have ey:cA .u32 (f:Int)=((f%4294967296:Nat):Int):=by rw[nX];omega
  have fx:Int.fdiv (X:Int) 4294967296=((X / 4294967296:Nat):Int):=Ib X 4294967296;have fy:Int.fdiv (f:Int) 4294967296=((f / 4294967296:Nat):Int):=Ib f 4294967296;have T:=zk6 (t:=t') (x:=X%4294967296) (y:=f%4294967296) (b:=bo) (G2 _ (by decide)) (G2 _ (by decide)) s;obtain⟨w,Z⟩:∃w,w=(X%4294967296+8589934592-f%4294967296-bo)%4294967296:=⟨_,rfl⟩;obtain⟨bo',g⟩:∃bo':Nat,bo'=if X%4294967296<f%4294967296+bo then 1 else 0:=⟨_,rfl⟩
  rw[<- Z,<- g]at T;have A:w<BB:=by omega
  have J:bo'<2:=by rw[g];split<;>omega
  have U:X%4294967296+4294967296*bo'=w+f%4294967296+bo:=by
   rw[Z,g];split<;>omega
  have g1:=La bH (b:=b) (n:=n) (cap:=n) (j:=i) (by omega);obtain⟨t1,s1,s2,s3⟩:=D.e (C:=Y) m (j:=i) (by grind) w tI rfl;have h:=Vy (p:=W) (n:=k) (x:=w);rw[H]at h;rw[h]at s2;have ei:(i:Int)+1=((i+1:Nat):Int):=by omega
  refine zur ?_;simp only[uL,tC,uX,V,zdf,lA,ex,ey,q311,T,xA,vK,O.ay,mA,yI,If,In,yC,g1,fx,fy,ei];intro _ _ _;rw[s1,xA,A2 (by omega) (by omega)];rw[F]at R S;refine ih (i+1) (X / 4294967296) (f / 4294967296) bo' t1 (W++[w]) (by omega) (E.g I s3) s2 (by simp[H]) (Cv o A) R S J ?_;have a1:=ziu (B:=BB) (P:=BB^i) (ai:=ai) (bi:=bi) (x':=X / 4294967296) (y':=f / 4294967296) (lx:=X%4294967296) (ly:=f%4294967296) (w:=w) (bo':=bo') l (by grind) (by grind) (by simp_all)
  grind [zQ]
def Yw    (o:bA t 1 (uC .u32 a) d)(p:bA t 1 (uC .u32 c) e)(g:pB BB a)(j:pB BB c)(L:u<4294967296)(M:v<4294967296)(E:a.length<700000)(H:c.length<700000)(D:v*A4 BB c<=u*A4 BB a)
  (hQ:∀t' r m,zB t t'->bA t' 1 (uC .u32 r) m->pB BB r->B4 r->A4 BB r=u*A4 BB a-v*A4 BB c->Q m t') :
  Wc Y F 302 [.e .u64 (u:Int),d,.e .u64 (v:Int),e] t Q:=by
 have A:=dQ;refine w302 ?_;simp only[uI,V,uW,t302,lA,o.c,p.c,xA,yC,sH];obtain⟨n,l,I,J,K⟩:∃n:Nat,(bif bB (a.length:Int) (c.length:Int)then(c.length:Int)else(a.length:Int))+1=(n:Int)/\a.length<n/\c.length<n/\n<700002:=by
  cases B:bB (a.length:Int) (c.length:Int)with
  | true=>have:=kE.1 B;exact⟨c.length+1,by simp,by omega,by omega,by omega⟩
  | false=>
   have:¬ ((a.length:Int)<(c.length:Int)):=λh=>by grind [kE]
   exact⟨a.length+1,by simp,by omega,by omega,by omega⟩
 rw[l,A2 (by omega) (by omega)];intro b i f;obtain⟨t',s,R,w,S⟩:=Kv (C:=Y) (k:=.u32) tN rfl tI rfl rfl (by decide) (n:=n) (by omega) i;rw[s];have q:vC (.m b 0 n n)=some (.e .i64 (n:Int)):=rfl;simp only[xA,q,yC];refine ziv o p g j L M (by omega) f i (λt2 W m x z k1 k2 k3 k4 P=>?_) n 0 0 0 0 t' [] (by omega) w (by simp_all) rfl (λx N=>by cases N) (by omega) (by omega) (by omega) (by simp[A4]);rw[L0 (by omega),L0 (by omega)]at P
 have Z:u*A4 BB a<BB^n:=by
  have y:=aQ lK g;have T:BB^(a.length+1)<=BB^n:=O8 lK (by omega);have U:u*A4 BB a<=u*BB^a.length:=F1 _ (Nat.le_of_lt y);have X:u*BB^a.length<BB*BB^a.length:=Nat.mul_lt_mul_of_pos_right (by omega) (Nat.pow_pos lK)
  grind
 grind [aQ,znz,yW,sY,jU]
end
section
variable {v:O}{l:List Nat}{b:Nat}
variable [fC]
variable {t:G vA}
def zwd   (f:bA t 1 (uC .u32 l) v)(h:t.c b=none) :
  ∃H',nL v ⟨b,t⟩=some (.j b 0,H')/\zB t H'.t/\oA Y 253 ⟨0,H'.t⟩ (.j b 0)=some v:=by
 have e:v.s=[v]:=by
  obtain⟨g,d,_⟩:=f;rcases d with⟨rfl,_⟩ | ⟨_,_,_,rfl,_⟩<;>rfl
 refine⟨tG ⟨b,t⟩ [v] none,by unfold nL;rw[e],?_,?_⟩
 .intro c u a;show(t.d b _).c c=_
  grind [G.aa]
 .have a:(tG ⟨b,t⟩ [v] none).t.c b=some (.aa (G.ac [v]) 1 none):=by
   show(t.d b _).c b=_;rw[G.aa,A5 rfl];rfl
  unfold oA;simp only[O.ah,mA];rw[tN,mA];unfold fD;rw[a,mA];simp only[vA.a,mA];unfold qV;first
   | rfl
   | (rw[cond_false,G.o];rfl)
def AI  {i:Nat}(d:bA t 1 (uC .u32 l) v)(j:pB BB l)(a:oA Y 253 ⟨0,t⟩ (.j b 0)=some v):oB Y F 320 [.e .i64 (i:Int),.j b 0] t=some (.e .u64 ((wd l i:Nat):Int)):=by
 have g:=dQ;refine mC.2 (w320 ?_);simp only[uI,uL,V,t320,lA,a,xA,d.c,yC,sH,mI];by_cases h:i<l.length
 .obtain⟨x,e⟩:=A6 h;have f:x<4294967296:=by have:=yN j e;omega
  obtain⟨c,k,m,n⟩:=d.f bH e
  grind [xA,yC,iG,wd]
 grind [wd]
def zhq  {n s:Nat}(e:bA t 1 (uC .u32 l) v)(c:pB BB l)(N:3<=n)(K:n<1000000)(P:s<32)(m:(wd l (n-1)*4294967296+wd l (n-2))*2^s<18446744073709551616) :
  oB Y F 315 [v,.e .i64 (n:Int),.e .i64 (s:Int)] t=some (.e .u64 (((wd l (n-1)*4294967296+wd l (n-2))*2^s+wd l (n-3) / 2^(32-s):Nat):Int)):=by
 have J:=dQ;refine xV (w315 ?_);simp only[uE,V,uW,t315,lA];intro b o _;obtain⟨M,I,d,j⟩:=zwd e o;rw[I,xA];have Q:=Jd lK c (n-1);have R:=Jd lK c (n-2);have S:=Jd lK c (n-3);have x:=AI (i:=n-1) (e.a d) c j;have y:=AI (i:=n-2) (e.a d) c j;have A:=AI (i:=n-3) (e.a d) c j;generalize wd l (n-1)=g at *;generalize wd l (n-2)=u at *;generalize wd l (n-3)=w at *;have B:(n:Int)-1=((n-1:Nat):Int):=by omega
 have C:(n:Int)-2=((n-2:Nat):Int):=by omega
 have D:(n:Int)-3=((n-3:Nat):Int):=by omega
 have E:(32:Int)-(s:Int)=((32-s:Nat):Int):=by omega
 have f:∀a,mM (.q (.aa 320) [] [.j b 0]) [a]=some (320,[a,.j b 0]):=λ_=>rfl;have H:(g:Int)*4294967296=((g*4294967296:Nat):Int):=by omega
 rw[f,xA,B,A2 (by omega) (by omega),q320,x,xA,yC,xA,f,xA,C,A2 (by omega) (by omega),q320,y,xA,yC,xA,H,iG (by omega) (by omega),O0 (by omega) (by omega),xA,yC,xA,OS (by omega) m,xA,yC,xA,f,xA,D,A2 (by omega) (by omega),q320,A,xA,yC,xA,E,A2 (by omega) (by omega),OR (by omega),xA,yC,xA];have r:w / 2^(32-s)<2^s:=P8 (by rw[<- Nat.pow_add,show 32-s+s=32 by omega];omega);have L:(2:Nat)^s<=2^31:=O8 (by decide) (by omega)
 generalize w / 2^(32-s)=z at r ⊢;have q:=Jy (a:=g*4294967296+u) (b:=z) (n:=s) r;generalize (g*4294967296+u)*2^s=h at m q ⊢;have p:z<18446744073709551616:=by omega
 rw[kY (k:=.u64) (show h<aH .u64 from m) (show z<aH .u64 from p),q,xA,yC,xA];exact⟨rfl,d⟩
end
section
variable [fC]
variable {t:G vA}
def WG{A1 B1:Nat}{P:Nat->Nat->Nat->Nat->Nat->Nat->Nat->Nat->Bool->Prop}{Q:lB}(hA:A1<18446744073709551616)(hB:B1<18446744073709551616)
  (hstep:∀x y u0 u1 u2 v0 v1 v2 ev,P x y u0 u1 u2 v0 v1 v2 ev->0<y->v2<=y->v1+v2<=x-y->P y (x%y) u1 u2 (u1+x / y*u2) v1 v2 (v1+x / y*v2) (!ev))
  (hQ:∀x y u0 u1 u2 v0 v1 v2 ev,P x y u0 u1 u2 v0 v1 v2 ev->Q (.i [.e .u64 (u0:Int),.e .u64 (u1:Int),.e .u64 (v0:Int),.e .u64 (v1:Int),.d ev]) t) :
  ∀(y x u0 u1 u2 v0 v1 v2:Nat) (ev:Bool) (c0 c1 c2 c3:Int) (c4:Bool),P x y u0 u1 u2 v0 v1 v2 ev->A1=v2*x+v1*y->B1=u2*x+u1*y->y<=x->1<=v2->v1<=v2 →
  jp 301 2 [.e .u64 (x:Int),.e .u64 (y:Int),.e .u64 (u2:Int),.e .u64 (v2:Int),.e .u64 c0,.e .u64 c1,.e .u64 c2,.e .u64 c3,.d c4,.e .u64 (u0:Int),.e .u64 (u1:Int),.e .u64 (v0:Int),.e .u64 (v1:Int),.d ev] t Q:=by
 intro y;induction y using Nat.strongRecOn with
 | ind y ih=>
  intro x u0 u1 u2 v0 v1 v2 ev c0 c1 c2 c3 c4 hP hx hy hle h1 h12;refine j301_2 ?_;simp only[uE,zpe,lA,mI];by_cases g1:v2<=y
  .rw[A5 (by omega)];have hy0:0<y:=by omega
   have b1:v2*x<=A1:=by omega
   have b2:x<=A1:=Nat.le_trans (T4 x (by omega)) b1;have b3:v2<4294967296:=by
    rcases P6 v2 4294967296 with h | h
    .exact h
    .exfalso;have:4294967296*4294967296<=v2*x:=G5 h (by omega);omega
   have e1:cA .u64 ((v1:Int)+(v2:Int))=((v1+v2:Nat):Int):=by grind [iG]
   have e2:cA .u64 ((x:Int)-(y:Int))=((x-y:Nat):Int):=by grind [iG]
   rw[e1,e2];by_cases g2:v1+v2<=x-y
   .rw[A5 (by omega)];have hdm:=P7 x y;have hmod:x%y<y:=G2 _ hy0;have hq1:1<=x / y:=by
     grind
    have hxq:x / y<=x:=Nat.div_le_self _ _;have e3:Eo .u64 (x:Int) (y:Int)=some (.e .u64 ((x / y:Nat):Int)):=EO hy0 (by
     grind [iG])
    have e4:En .u64 (x:Int) (y:Int)=some (.e .u64 ((x%y:Nat):Int)):=Xz hy0;have hst:=hstep x y u0 u1 u2 v0 v1 v2 ev hP hy0 g1 g2;generalize x / y=q at *;generalize x%y=r at *;have nA:A1=(v1+q*v2)*y+v2*r:=by
     grind
    have nB:B1=(u1+q*u2)*y+u2*r:=by
     grind
    have bv:v1+q*v2<=A1:=Nat.le_trans (Nat.le_mul_of_pos_right _ hy0) (by omega);have bu:u1+q*u2<=B1:=Nat.le_trans (Nat.le_mul_of_pos_right _ hy0) (by omega);have bq:v2<=q*v2:=T4 _ hq1;have e5:cA .u64 ((v1:Int)+cA .u64 ((q:Int)*(v2:Int)))=((v1+q*v2:Nat):Int):=by
     grind [iG]
    have e6:cA .u64 ((u1:Int)+cA .u64 ((q:Int)*(u2:Int)))=((u1+q*u2:Nat):Int):=by
     grind [iG]
    rw[e3,xA,yC,xA,e4,xA,yC,xA,e5,e6];grind
   grind
  grind
end
end Go.Proofs
namespace Go.Am
def oj (a b x y c d e f:Nat)(g:Bool):Prop:=
 match g with
 | false=>c*f=d*e+1/\x+e*b=c*a/\y+d*a=f*b
 | true=>d*e=c*f+1/\x+c*a=e*b/\y+f*b=d*a
def Lst (c a b d:Nat):Prop:=(c=1/\b=0/\a=0)\/(c<=b/\a<=d/\1<=a/\1<=b)
def tz(a b u0 u1 v0 v1:Nat)(ev:Bool):Prop:=∃x y,oj a b x y u0 u1 v0 v1 (!ev)/\v1<=y/\v0+v1<=x-y/\u0<=v0/\u1<=v1/\1<=u1/\1<=v0/\v0<=v1
def Ty (a b x y i e g h c d:Nat)(f:Bool):Prop:=oj a b x y e g c d f/\1<=d/\c<=d/\Lst e g c d/\(h=0\/tz a b i e h c f)
def zj6(a b:Nat):Ty a b a b 0 1 0 0 0 1 false:=⟨⟨by simp,by simp,by simp⟩,B3 _,by omega,.inl ⟨rfl,rfl,rfl⟩,.inl rfl⟩
def zj5{a b x y u0 u1 u2 v0 v1 v2:Nat}{ev:Bool}(h:Ty a b x y u0 u1 u2 v0 v1 v2 ev)(hy:0<y)(h1:v2<=y)(h2:v1+v2<=x-y) :
  Ty a b y (x%y) u1 u2 (u1+x / y*u2) v1 v2 (v1+x / y*v2) (!ev):=by
 obtain⟨k1,k2,k5,k3,k4⟩:=h;have hq:1<=x / y:=by rw[Nat.le_div_iff_mul_le hy];omega
 have hdm:=P7 x y;generalize x / y=q at *;generalize x%y=r at *;have hv2:v2<=q*v2:=T4 _ hq;have hu2:u2<=q*u2:=T4 _ hq;refine⟨?_,by omega,by omega,?_,?_⟩
 .cases ev with
  | false=>
   obtain⟨m1,m2,m3⟩:=k1;refine⟨?_,m3,?_⟩
   all_goals grind
  | true=>
   obtain⟨m1,m2,m3⟩:=k1;refine⟨?_,m3,?_⟩
   all_goals grind
 .right
  rcases k3 with⟨e1,e2,e3⟩ | ⟨g1,g2,g3,g4⟩
  .grind
  .have:=F1 q g2;omega
 .rcases k3 with⟨e1,e2,e3⟩ | ⟨g1,g2,g3,g4⟩
  .omega
  .right
   exact⟨x,y,by simp_all,h1,h2,g1,g2,g3,g4,k5⟩
end Go.Am
namespace Go.Am
variable {A B W a b p q r s i d e c j f:Nat}{k:Bool}
def MS{X Y:Nat}(a:p*s=q*r+1)(b:X+r*B=p*A)(c:Y+q*A=s*B):A=s*X+r*Y/\B=q*X+p*Y:=by
 have d:s*(X+r*B)=s*(p*A):=by rw[b]
 have e:r*(Y+q*A)=r*(s*B):=by rw[c]
 have f:q*(X+r*B)=q*(p*A):=by rw[b]
 have g:p*(Y+q*A)=p*(s*B):=by rw[c]
 have h:p*s*A=q*r*A+A:=by rw[a,D5,Nat.one_mul]
 have i:p*s*B=q*r*B+B:=by rw[a,D5,Nat.one_mul]
 have j:s*(p*A)=p*s*A:=by rw[<- E9,E7 s p]
 have k:r*(q*A)=q*r*A:=by rw[<- E9,E7 r q]
 have l:s*(r*B)=r*(s*B):=Nat.mul_left_comm _ _ _;have m:q*(p*A)=p*(q*A):=Nat.mul_left_comm _ _ _;have n:q*(r*B)=q*r*B:=(E9 _ _ _).symm;have o:p*(s*B)=p*s*B:=(E9 _ _ _).symm;rw[K3]at d e f g;constructor<;>omega
def MR{x y:Nat}(k:x+r*b=p*a)(l:y+q*a=s*b)(c:A=W*a+j)(d:B=W*b+f)(u:j<W)(g:f<W)(i:r+s<=x-y)(n:1<=r+s)(h:q<=y) :
  ∃X Y,X+r*B=p*A/\Y+q*A=s*B/\Y<X:=by
 obtain⟨D,e⟩:∃D,x=y+D:=⟨x-y,by omega⟩;have z:p*A=W*x+r*(W*b)+p*j:=by
  rw[c,K3,Nat.mul_left_comm p W,<- k,K3,Nat.mul_left_comm W r]
 have C:r*B=r*(W*b)+r*f:=by rw[d,K3]
 have E:s*B=W*y+q*(W*a)+s*f:=by
  rw[d,K3,Nat.mul_left_comm s W,<- l,K3,Nat.mul_left_comm W q]
 have F:q*A=q*(W*a)+q*j:=by rw[c,K3]
 have v:r*f<=W*D:=by
  rw[E7 W D];exact G5 (by omega) (by omega)
 have w:q*j<=W*y:=by
  rw[E7 W y];exact G5 h (by omega)
 have m:(r+s)*f<W*D:=by
  have o:(r+s)*f<(r+s)*W:=Nat.mul_lt_mul_of_pos_left g (by omega);have t:(r+s)*W<=D*W:=D3 _ (by omega)
  grind
 have H:W*x=W*y+W*D:=by rw[e,K3]
 rw[D5]at m;exact⟨p*A-r*B,s*B-q*A,by omega,by omega,by omega⟩
def jm  (t:A=W*a+j)(u:B=W*b+f)(v:j<W)(w:f<W)(h:tz a b i d e c k) :
  ∃X Y,(k=true->X+e*B=i*A/\Y+d*A=c*B)/\(k=false->X+i*A=e*B/\Y+c*B=d*A)/\Y<X/\A=c*X+e*Y/\B=d*X+i*Y/\X+Y<A+B:=by
 obtain⟨x,y,z,D,E,I,J,K,L,_⟩:=h;have p:∀X Y:Nat,Y<X->A=c*X+e*Y->B=d*X+i*Y->X+Y<A+B:=by
  intro X Y g l m;have F:X<=c*X:=T4 _ (by omega);have H:X<=d*X:=T4 _ (by omega);omega
 cases k with
 | true=>
  obtain⟨C,r,s⟩:=z;obtain⟨X,Y,g,l,m⟩:=MR r s t u v w E (by omega) (by omega);obtain⟨n,o⟩:=MS C g l;exact⟨X,Y,λ_=>⟨g,l⟩,(λh=>absurd h (by decide)),m,n,o,p X Y m n o⟩
 | false=>
  obtain⟨C,r,s⟩:=z;obtain⟨X,Y,g,l,m⟩:=MR r s u t w v (by omega) (by omega) D;have q:e*d=c*i+1:=by grind
  obtain⟨n,o⟩:=MS q g l;exact⟨X,Y,(λh=>absurd h (by decide)),λ_=>⟨g,l⟩,m,o,n,p X Y m o n⟩
def ZZ  (o:a<18446744073709551616)(p:b<18446744073709551616)(h:tz a b i d e c k):i<4294967296/\d<4294967296/\e<4294967296/\c<4294967296:=by
 obtain⟨x,y,f,q,r,s,t,u,v,w⟩:=h;have j:a=c*x+e*y:=by
  cases k with
  | true=>
   obtain⟨l,m,n⟩:=f
   grind
  | false=>
   obtain⟨l,m,n⟩:=f
   grind
 have:c<4294967296:=by
  rcases P6 c 4294967296 with g | g
  .exact g
  .exfalso;have:4294967296*4294967296<=c*x:=G5 g (by omega);omega
 omega
end Go.Am
namespace Go.Am
variable {B m:Nat}{l:List Nat}
def zkh   (d:l.length<=m+3):A4 B l=A4 B (l.take m)+B^m*(wd l m+B*(wd l (m+1)+B*wd l (m+2))):=by
 have a:=Qi B l m;have b:A4 B (l.take (m+2))=A4 B (l.take (m+1))+B^(m+1)*wd l (m+1):=Qi B l (m+1);have c:A4 B (l.take (m+3))=A4 B (l.take (m+2))+B^(m+2)*wd l (m+2):=Qi B l (m+2)
 grind [List.take_of_length_le]
def OU{p K:Nat} (g:B=p*K)(j:0<p)(a:0<B)(b:pB B l)(i:l.length<=m+3) :
  (wd l (m+2)*B+wd l (m+1))*K+wd l m / p=A4 B l / (B^m*p):=by
 have c:=zkh (B:=B) i;have d:A4 B (l.take m)<B^m:=by
  have h:=aQ a (Im b m)
  grind [Nat.lt_of_lt_of_le,Nat.pow_le_pow_right]
 have f:A4 B l / B^m=wd l m+B*(wd l (m+1)+B*wd l (m+2)):=by
  rw[c,Nat.add_mul_div_left _ _ (Nat.pow_pos a),Nat.div_eq_of_lt d,D8]
 rw[<- Nat.div_div_eq_div_mul,f];generalize wd l m=x;have e:B*(wd l (m+1)+B*wd l (m+2))=p*(K*(wd l (m+2)*B+wd l (m+1))):=by
  rw[<- E9 p,<- g,E7 (wd l (m+2)),T5]
 rw[e,Nat.add_mul_div_left _ _ j,E7 K,T5]
end Go.Am
namespace Go.Proofs
open Go Go.Am
variable [fC]
variable {t:G vA}
def WF{a f:List Nat}{U X:O}{m b:Nat}{Q:lB}(D:bA t 1 (uC .u32 a) U)(hb:bA t 1 (uC .u32 f) X)(e:pB BB a)(o:pB BB f)(E:a.length=m+3)(hm:m<700000)(H:f.length<=m+3)(h:a[m+2]?=some b)(L:0<b)(I:A4 BB f<=A4 BB a)
  (hQ:∀r u i v j W,0<W->A4 BB a / W<18446744073709551616->A4 BB f / W<18446744073709551616->(i=0\/tz (A4 BB a / W) (A4 BB f / W) r u i v j)->Q (.i [.e .u64 (r:Int),.e .u64 (u:Int),.e .u64 (i:Int),.e .u64 (v:Int),.d j]) t) :
  Wc Y F 301 [U,X] t Q:=by
 have g:=dQ;have q:b<4294967296:=by have:=yN e h;omega
 obtain⟨s,T,a1,a6,K⟩:=zgf (t:=t) q L;obtain⟨c,a7,g1,g2⟩:=D.f bH h;have S:BB=2^(32-s)*2^s:=by rw[<- Nat.pow_add,show 32-s+s=32 by omega,g]
 have J:0<2^(32-s):=Nat.pow_pos (by decide);have N:=OU S J lK e (m:=m) (by omega);have R:=OU S J lK o H;have hW:0<BB^m*2^(32-s):=Nat.mul_pos (Nat.pow_pos lK) J;have p:A4 BB f / (BB^m*2^(32-s))<=A4 BB a / (BB^m*2^(32-s)):=Nat.div_le_div_right I;have M:wd a (m+2)=b:=by grind [wd]
 have aa:=Jd lK e (m+1);have a8:=Jd lK e m;have hz:wd a m / 2^(32-s)<2^s:=P8 (by omega);rw[g]at N R;have d:(wd a (m+2)*4294967296+wd a (m+1))*2^s+wd a m / 2^(32-s)<18446744073709551616:=by
  rw[M];have q1:b+1<=2^(32-s):=by
   have:b*2^s<2^(32-s)*2^s:=by omega
   exact Nat.lt_of_mul_lt_mul_right this
  have q2:(b*4294967296+wd a (m+1))+1<=2^(32-s)*4294967296:=by
   omega
  have q3:=D3 (2^s) q2
  grind
 have k:∀l,A4 4294967296 l=A4 BB l:=λl=>by rw[g]
 have C:(4294967296:Nat)^m=BB^m:=by rw[g]
 rw[k,C]at N R;have w:(wd f (m+2)*4294967296+wd f (m+1))*2^s+wd f m / 2^(32-s)<18446744073709551616:=by
  grind
 have z:=zhq (n:=m+3) (s:=s) D e (by omega) (by omega) T (P5 (Nat.le_add_right _ _) d);have A:=zhq (n:=m+3) (s:=s) hb o (by omega) (by omega) T (P5 (Nat.le_add_right _ _) w);rw[show m+3-1=m+2 by omega,show m+3-2=m+1 by omega,show m+3-3=m by omega]at z A;rw[N]at z d;rw[R]at A w;generalize hw:BB^m*2^(32-s)=W at *;have Z:((m+3:Nat):Int)-1=((m+2:Nat):Int):=by omega
 refine w301 ?_;simp only[uI,uL,uE,V,uW,t301,lA,D.c,xA,yC,sH,E,Z];rw[A2 (by omega) (by omega),g1,xA,g2,xA,yC,xA,q308,K,xA,yC,xA,q315,z,xA,yC,xA,q315,A,xA,yC,xA];simp only[if_true];exact WG (P:=Ty (A4 BB a / W) (A4 BB f / W)) d w (λx y r u u2 i v v2 j B hy k1 k2=>zj5 B hy k1 k2) (λx y r u u2 i v v2 j B=>hQ r u i v j W hW d w B.2.2.2.2) _ _ 0 1 0 0 0 1 false 0 0 0 0 false (zj6 _ _) (by omega) (by omega) p (by omega) (by omega)
end Go.Proofs
namespace Go.Am
def zhz{A B X Y b c d e:Nat}{a:Bool}(k:a=true->X+d*B=b*A/\Y+c*A=e*B)(l:a=false->X+b*A=d*B/\Y+e*B=c*A)(m:A=e*X+d*Y)(n:B=c*X+b*Y):Nat.gcd X Y=Nat.gcd A B:=by
 have i:=Nat.gcd_dvd_left X Y;have j:=Nat.gcd_dvd_right X Y;have f:=Nat.gcd_dvd_left A B;have h:=Nat.gcd_dvd_right A B;refine Nat.dvd_antisymm (Nat.dvd_gcd ?_ ?_) (Nat.dvd_gcd ?_ ?_)
 .grind [Nat.dvd_add]
 .grind [Nat.dvd_add]
 .generalize Nat.gcd A B=g at *
  cases a with
  | true=>
   grind [Nat.dvd_add_left]
  | false=>
   grind [Nat.dvd_add_left]
 .generalize Nat.gcd A B=g at *
  cases a with
  | true=>
   grind [Nat.dvd_add_left]
  | false=>
   grind [Nat.dvd_add_left]
theorem H9{a b q r:Nat}(h:a=b*q+r):Nat.gcd b r=Nat.gcd a b:=by
 grind [Nat.mul_comm,Nat.gcd_mul_right_add_left]
theorem zve{x y:Nat}:Nat.gcd y (x%y)=Nat.gcd x y:=by
 rw[Nat.gcd_comm y (x%y),<- Nat.gcd_rec,Nat.gcd_comm]
def HS{B:Nat}{l:List Nat}(a:0<B)(h:pB B l)(b:l.length<=2):A4 B l<B*B:=by
 have c:=aQ a h;have d:B^l.length<=B^2:=O8 a b
 grind
end Go.Am
namespace Go.Proofs
open Go Go.Am
variable {P c:Prop}{Q:lB}{b a:List Nat}{f g:O}
variable [fC]
variable {t:G vA}
theorem EH {d:Decidable c}{Q:Prop}(h:c)(k:P):@ite Prop c d P Q:=by simp_all
theorem jn {d:Decidable c}{Q:Prop}(h:¬ c)(k:Q):@ite Prop c d P Q:=by simp_all
theorem YH  : ∀(y x:Nat),x<18446744073709551616->y<18446744073709551616->(∀t' r a,zB t t'->bA t' 1 (uC .u32 r) a->pB BB r->B4 r->A4 BB r=Nat.gcd x y->Q a t')->jp 289 6 [.e .u64 (x:Int),.e .u64 (y:Int)] t Q:=by
 have c:=dQ
 intro y;induction y using Nat.strongRecOn with
 | ind y h=>
  intro x f g d;refine j289_6 ?_;simp only[uE,zpf,lA,fZ];by_cases b:y=0
  .subst b;rw[A3 (by simp)];simp only[q304];grind [zlh,ZU,UL,XQ]
  .rw[A5 (by omega),Xz (by omega),xA,yC,xA];have e:=G2 x (show 0<y by omega)
   grind [zve]
def zgh{l:List Nat}{v:O}(d:bA t 1 (uC .u32 l) v)(c:l.length<=2)(b:pB BB l):oB Y F 303 [v] t=some (.e .u64 ((A4 BB l:Nat):Int)):=by
 have a:=dQ
 grind [zt5]
def zji   (k:bA t 1 (uC .u32 b) f)(l:bA t 1 (uC .u32 a) g)(c:pB BB b)(d:pB BB a)(e:b.length<=2)(h:a.length<=2)
  (o:∀t' r i,zB t t'->bA t' 1 (uC .u32 r) i->pB BB r->B4 r->A4 BB r=Nat.gcd (A4 BB b) (A4 BB a)->Q i t'):jp 289 33 [f,g] t Q:=by
 have j:=dQ;have m:=HS lK c e;have n:=HS lK d h;refine zut ?_;simp only[uE,zdm,lA,q303,zgh k e c,zgh l h d,xA,yC];grind [YH]
def zjj {t0:G vA}{c:Nat}(hQ:∀t' r U,zB t0 t'->bA t' 1 (uC .u32 r) U->pB BB r->B4 r->A4 BB r=c->Q U t'):∀(n:Nat) (b a:List Nat) (f g:O) (t:G vA),A4 BB b+A4 BB a=n->zB t0 t->bA t 1 (uC .u32 b) f->bA t 1 (uC .u32 a) g->pB BB b->pB BB a->B4 b->B4 a->A4 BB a<=A4 BB b->b.length<700000->Nat.gcd (A4 BB b) (A4 BB a)=c->jp 289 2 [f,g] t Q:=by
 have aa:=dQ;have z:1<BB:=by omega
 intro n;induction n using Nat.strongRecOn with
 | ind n ih=>
  intro b a f g t hn M w s d j A u P k hg;have ad:a.length<=b.length:=tV z d u P;refine j289_2 ?_;simp only[uI,uG,uX,zpg,lA,s.c,xA,yC,sH,kE];by_cases h2:2<a.length
  .rw[A5 (by omega)];have B:a≠[]:=by grind
   have a6:0<A4 BB a:=by
    rcases Z7 (A4 BB a)with h | h
    .exact absurd (Xb lK u h) B
    .exact h
   obtain⟨m,hm⟩:∃m,b.length=m+3:=⟨b.length-3,by omega⟩;obtain⟨a8,R⟩:=A6 (l:=b) (i:=m+2) (by omega);have a1:b≠[]:=by grind
   have a7:0<a8:=by
    have:=A a1
    grind
   rw[q301];refine WF w s d j hm (by omega) (by omega) R a7 P λu0 u1 v0 v1 Z W hW hA hB N=>?_;have eG:nK [(.e .u64 0),(.e .u64 0),(.e .u64 0),(.e .u64 0),(.d false)] (.i [.e .u64 (u0:Int),.e .u64 (u1:Int),.e .u64 (v0:Int),.e .u64 (v1:Int),.d Z])=some (AN [.e .u64 (u0:Int),.e .u64 (u1:Int),.e .u64 (v0:Int),.e .u64 (v1:Int),.d Z]):=kQ rfl;rw[eG];simp only[xA,AN,Tc,Fm,If,In,if_true,Gy];by_cases ae:v0=0
   .refine EH (fI.2 (by omega)) ?_;rw[q295];refine FQ w s k d j A u B λt' q r qv U p S H I T k6 k7 k8 k9=>?_;simp only[vK,O.ay,mA,yI,If,In,xA];refine ih (A4 BB a+A4 BB r) (by omega) a r g U t' rfl (M.d p) (s.a p) H j T u k7 (by omega) (by omega) ?_
    grind [H9]
   .refine jn (λe=>absurd (fI.1 e) (by omega)) ?_;rcases N with h | N
    .omega
    obtain⟨s1,s2,s3,s4⟩:=ZZ hA hB N;have eA:A4 BB b=W*(A4 BB b / W)+A4 BB b%W:=(P7 _ _).symm;have eB:A4 BB a=W*(A4 BB a / W)+A4 BB a%W:=(P7 _ _).symm;obtain⟨X,Y,l1,l2,l3,l4,l5,l6⟩:=jm eA eB (G2 _ hW) (G2 _ hW) N;have ac:=zhz l1 l2 l4 l5;have ab:X<=A4 BB b:=by
     have:X<=v1*X:=T4 _ (by
      obtain⟨x,y,_,_,_,_,_,_,w2,w3⟩:=N;omega)
     omega
    cases Z with
    | true=>
     obtain⟨m1,m2⟩:=l1 rfl;simp only[if_true];rw[q302];refine Yw w s d j s1 s3 k (by omega) (by omega) λt1 J K p S H I T=>?_;rw[q302];refine Yw (s.a p) (w.a p) j d s4 s2 (by omega) k (by omega) λL v o C D E F j5=>?_;have e1:A4 BB J=X:=by omega
     have e2:A4 BB v=Y:=by omega
     refine ih (A4 BB J+A4 BB v) (by omega) J v K o L rfl (M.d (p.d C)) (S.a C) D H E I F (by omega) ?_ (by grind);have:=tV z d I (by omega);omega
    | false=>
     obtain⟨m1,m2⟩:=l2 rfl;simp only[if_true,F0,if_false];rw[q302];refine Yw s w j d s3 s1 (by omega) k (by omega) λt1 J K p S H I T=>?_;rw[q302];refine Yw (w.a p) (s.a p) d j s2 s4 k (by omega) (by omega) λL v o C D E F j5=>?_;have e1:A4 BB J=X:=by omega
     have e2:A4 BB v=Y:=by omega
     refine ih (A4 BB J+A4 BB v) (by omega) J v K o L rfl (M.d (p.d C)) (S.a C) D H E I F (by omega) ?_ (by grind);have:=tV z d I (by omega);omega
  .rw[A3 (by omega)];simp only[fI];by_cases h0:a.length=0
   .rw[A5 (by omega)];have:a=[]:=ma.1 h0;subst this;refine hQ t b f M w d A ?_;rw[<- hg];simp only[A4];rw[Nat.gcd_zero_right]
   .rw[A3 (by omega)];simp only[w.c,xA,yC,sH,kE];have B:a≠[]:=by simp_all
    by_cases h3:2<b.length
    .rw[A5 (by omega),q295];refine FQ w s k d j A u B λt' q r qv U p S H I T k6 k7 k8 k9=>?_;simp only[vK,O.ay,mA,yI,If,In,xA];have:=tV z j k7 (Nat.le_of_lt k9);refine zji (s.a p) H j T (by omega) (by omega) λL v o C D E F j5=>?_;exact hQ L v o (M.d (p.d C)) D E F (by grind [H9])
    .rw[A3 (by omega)];refine zji w s d j (by omega) (by omega) λL v o C D E F j5=>?_;exact hQ L v o (M.d C) D E F (by omega)
def qk   (m:bA t 1 (uC .u32 b) f)(n:bA t 1 (uC .u32 a) g)(c:pB BB b)(e:pB BB a)(d:B4 b)(i:B4 a)(o:b.length<700000)(p:a.length<700000)
  (q:∀t' r s,zB t t'->bA t' 1 (uC .u32 r) s->pB BB r->B4 r->A4 BB r=Nat.gcd (A4 BB b) (A4 BB a)->Q s t'):Wc Y F 289 [f,g] t Q:=by
 have u:=dQ;have l:1<BB:=by omega
 have j:=zja l c e d i;refine w289 ?_;simp only[uI,t289,lA,q300,zrl (by omega) m n,xA,yC,kE];by_cases k:iP b a<0
 .rw[A5 k];have:=j.1 k;exact zjj q _ a b g f t rfl (zB.f _) n m e c i d (by omega) p (Nat.gcd_comm _ _)
 .rw[A3 k];have:A4 BB a<=A4 BB b:=Nat.le_of_not_lt λh=>k (j.2 h);exact zjj q _ b a f g t rfl (zB.f _) m n c e d i this o rfl
end Go.Proofs
namespace Go.Proofs
open Go Go.Am
variable {l:List xL}{v:O}
variable [fC]
variable {t:G vA}
theorem MA{neg:Bool}{l:List Nat}(h:yM neg l=true):B4 l:=by
 intro a;grind [yM]
def ZT  (p:bA t 2 (l.map xL.d) v)(n:∀w∈l,w.a.length<1125899906842624)(z:l.length<1125899906842624):∀(k i:Nat),i+k=l.length->jp 288 2 [v,.e .i64 (l.length:Int),.e .i64 (i:Int)] t (λr m=>r=.d ((l.drop i).all λw=>yM w.b w.a)/\m=t):=by
 intro k;induction k with
 | zero=>
  intro i o;refine zqm ?_;simp only[uB,uG,aB,tC,rB,nH,V,oI,cI,yf,lA,kE];simp_all
 | succ k s=>
  intro i o;have a:i<l.length:=by omega
  have q:l[i]?=some l[i]:=C6 a;obtain⟨b,x,y,h,j,_,_,f⟩:=gG.at qa (by simp) p (i:=i) (d:=l[i].d) (by simp[q]);obtain⟨u,rfl,g⟩:=Wj f;have e:=Jk (neg:=l[i].b) (n _ (F2 a)) g;refine zqm ?_;simp only[uB,uG,aB,tC,rB,nH,V,oI,cI,yf,lA,kE];rw[A5 (by omega),h,xA,j,Bo,xA,kN f (xL.zs _)];simp only[xA,AN,Fm,Gj,If,In];have c:oD O.z [.d l[i].b,u]=true:=by
   show(bif O.z (.d l[i].b)then(bif O.z u then true else false)else false)=true;rw[g.e];rfl
  refine EH c ?_;rw[q196,e];simp only[xA,Il,DH];rw[G0 a,Z8]
  cases A:yM l[i].b l[i].a with
  | false=>simp
  | true=>
   simp only[F3,Bool.true_eq_false,if_false];rw[A2 (by omega) (by omega)];exact s (i+1) (by omega)
def TL  (a:bA t 2 (l.map xL.d) v)(b:∀w∈l,w.a.length<1125899906842624)(c:l.length<1125899906842624):oB Y F 288 [v] t=some (.d (l.all λw=>yM w.b w.a)):=by
 refine mC.2 (w288 ?_);simp only[uI,V,t288,lA,a.c,xA,yC,C4];have:=ZT a b c l.length 0 (by omega)
 simp_all
def zrd{n d:xL}{u:O}{Q:lB}(L:bA t 1 (vD n.a) u)(E:bA t 1 (vD d.a) v)(hn:n.a.length<700000)(hd:d.a.length<700000)(m:pB 65536 n.a)(j:pB 65536 d.a)(o:yM n.b n.a=true)(k:yM d.b d.a=true)
  (W:∀t' g J,zB t t'->bA t' 1 (vD g) J->pB 65536 g->B4 g->A4 65536 g=Nat.gcd (A4 65536 n.a) (A4 65536 d.a)->Q (.p [.i [.d false,J],.e .i64 0]) t'):Wc Y F 267 [.i [.d n.b,u],.i [.d d.b,v]] t Q:=by
 have a:=dQ;refine w267 ?_;simp only[uB,uG,aB,V,oI,cI,t267,lA];intro b X B;obtain⟨t1,S,U,e,g4⟩:=Nw (C:=Y) (T:=323) (el:=24) (sz:=2) (n:=2) (cl:=[[.d n.b,u],[.d d.b,v]]) (ps:=[(0,.i [.d n.b,u]),(1,.i [.d d.b,v])]) yz rfl gg rfl rfl (by decide) rfl (λi cs hi=>by
  grind) rfl X
 rw[S,xA];have M:bA t1 2 ([n,d].map xL.d) (.m b 0 2 2):=⟨_,U,by
  simp only[G4,List.map_nil,kD,pG];refine⟨_,_,rfl,?_,_,_,rfl,?_,rfl⟩
  .unfold xL.d;rw[xK];refine⟨[[.d n.b],[u]],rfl,?_⟩;simp only[kD,pG,Cy,kO];exact⟨_,_,rfl,rfl,_,_,rfl,⟨u,rfl,L.a e⟩,rfl⟩
  .unfold xL.d;rw[xK];refine⟨[[.d d.b],[v]],rfl,?_⟩;simp only[kD,pG,Cy,kO];exact⟨_,_,rfl,rfl,_,_,rfl,⟨v,rfl,E.a e⟩,rfl⟩⟩
 have h:=TL M (λw M=>by
  grind) (by simp)
 rw[q288,h];simp only[xA,Il,DH,Z8,sf,o,k,Bool.and_self,Bool.true_eq_false,if_false];rw[q235];refine Rt (L.a e) (by omega) m λt2 v2 N Z=>?_;rw[A5 E.g,q235];refine Rt ((E.a e).a N) (by omega) j λt3 v3 P m2=>?_;have z:=Lw m;have y:=Lw j;rw[<- a]at z y;rw[q289];refine qk (Z.a P) m2 z y (Nr (MA o)) (Nr (MA k)) (by rw[vT];omega) (by rw[vT];omega) λt4 r J p1 p2 H I q=>?_;rw[a]at H;have x:∀l,A4 BB (qH l)=A4 65536 l:=λl=>by grind [Vi]
 rw[x,x]at q;have D:r.length<400000:=by
  have f:1<BB:=by omega
  rcases Z7 (A4 65536 n.a)with A | A
  .rw[A,Nat.gcd_zero_left,<- x]at q;have:=tV f y I (Nat.le_of_eq q)
   grind [vT]
  .have K:=Nat.gcd_le_left (A4 65536 d.a) A;rw[<- q,<- x]at K;have:=tV f z I K
   grind [vT]
 rw[q248];refine AO p2 D H λt5 c s1 s=>?_;rw[Qw I]at s ⊢;have R:nK [(.d false),.g] (.i [.d (if r=[]then false else false),c])=some (AN [.d (if r=[]then false else false),c]):=kQ (by
  show(true&&(Ap .g c&&true))=true;rw[Ym s];rfl)
 rw[R];have p:oD O.z [.d false,c]=true:=by
  show(bif O.z (.d false)then(bif O.z c then true else false)else false)=true;rw[s.e];rfl
 simp only[xA,AN,Fm,Gj,If,In,ite_self,p,if_true];refine W t5 (xF (jI r)) c (e.d (N.d (P.d (p1.d s1)))) s (yW (Zz H)) (sY _) ?_;rw[jU,<- q,Vh,a]
end Go.Proofs
namespace Go.Am
def qF.a(f:qF):Prop:=f.c/\pB 65536 f.n.a/\pB 65536 f.d.a
def iF.b(v:iF):Prop:=v.a<256/\v.f.a /\ -9223372036854775808<=v.i/\v.i<9223372036854775808
mutual
def iA.b:iA->Prop
 | .mk op name v args=>op<256/\name.length<lF/\(∀c∈name,c<256)/\v.b/\args.length<lF/\iA.f args
def iA.f:List iA->Prop
 | []=>True
 | x::l=>x.b/\iA.f l
end
def iA.j:∀ {l:List iA},iA.f l->∀x∈l,x.b
 | [],_,_,h=>by cases h
 | y::l,h,x,a=>by
  unfold iA.f at h;rcases C3.1 a with rfl | a
  .exact h.1
  .exact iA.j h.2 x a
mutual
def iA.g:∀ {x:iA},x.b->x.r
 | .mk op name v args,h=>by
  unfold iA.b at h;unfold iA.r;exact⟨h.2.1,h.2.2.2.1.2.1.1,h.2.2.2.2.1,iA.p h.2.2.2.2.2⟩
def iA.p:∀ {l:List iA},iA.f l->iA.m l
 | [],_=>by grind [iA.m]
 | x::l,h=>by
  unfold iA.f at h;unfold iA.m;exact⟨iA.g h.1,iA.p h.2⟩
end
def U7 (n:Int):Prop := -9223372036854775808<=n/\n<9223372036854775808
def rG.e(r:rG):Prop:=U7 r.a/\U7 r.b/\U7 r.c/\r.f.a
def mE.e(x:mE):Prop:=x.b.length<lF/\x.a.length<lF/\∀r∈x.a,r.e
def eE.e(x:eE):Prop:=x.a.length<lF/\x.b<256
def nD.j(x:nD):Prop:=x.g.length<lF/\x.c.length<lF/\U7 x.f/\U7 x.i/\U7 x.e/\x.a.b/\x.b.b
structure rD.f (p:rD):Prop where
 g:p.e.length<lF
 f:p.c.length<lF
 e:p.a.length<lF
 b:p.b.length<lF
 h:∀d∈p.c,d.e
 c:∀d∈p.a,d.e
 a:∀d∈p.b,d.j
end Go.Am
namespace Go.Proofs
open Go Go.Am
variable {a b:Int}{f:qF}{u v:O}
variable [fC]
variable {t:G vA}
def aW(w:xL):Bool := !w.b&&decide (w.a=[1])
def uN(f:qF):Bool:=decide (f.n.a.length<=256)&&decide (f.d.a.length<=256)&&yM f.n.b f.n.a&&yM f.d.b f.d.a && !f.d.b&&decide (f.d.a≠[])&&(aW f.d||decide (Nat.gcd (A4 65536 f.n.a) (A4 65536 f.d.a)=1))
theorem zD  : bB a b=decide (a<b):=by
 grind [kE]
theorem eT  : sE a b=decide (a<=b):=by
 grind [mI]
theorem wF  : kB a b=decide (a=b):=by
 grind [fI]
def VH  (j:bA t 1 (vD f.n.a) u)(c:bA t 1 (vD f.d.a) v)(D:qF.a f):oB Y F 182 [.i [.d f.n.b,u,.d f.d.b,v]] t=some (.d (uN f)):=by
 obtain⟨y,z,A⟩:=D;unfold qF.c lF at y;have m:oB Y F 232 [.i [.d f.n.b,u,.d f.d.b,v]] t=some (.d (!(decide (f.n.a.length<=256)&&decide (f.d.a.length<=256)))):=by
  refine mC.2 (w232 ?_);simp only[uI,nH,t232,lA,j.c,c.c,xA,yC,wU];grind [kE]
 have o:=Jk (neg:=f.n.b) (by omega) j;have p:=Jk (neg:=f.d.b) (by omega) c;have q:oB Y F 184 [.i [.d f.n.b,u,.d f.d.b,v]] t=some (.d (aW f.d)):=by
  refine mC.2 (w184 ?_);simp only[uB,t184,lA,q233,EJ c,xA,Il]; (first | exact⟨rfl,rfl⟩ | exact⟨rfl,trivial⟩ | trivial)
 refine xV (w182 ?_);simp only[uI,uB,uG,rB,nH,cI,t182,lA,q232,m,q196,o,p,q184,q,xA,Il,c.c,yC,wU,fI,DH];unfold uN;by_cases s:f.n.a.length<=256
 .by_cases w:f.d.a.length<=256
  .simp only[s,w,decide_true,F3,Bool.not_true,F0,if_false]
   cases H:yM f.n.b f.n.a with
   | false=>simp
   | true=>
    cases C:yM f.d.b f.d.a with
    | false=>simp
    | true=>
     simp only[Bool.true_eq_false,if_false,F3]
     cases E:f.d.b with
     | true=>simp
     | false=>
      simp only[F0,if_false,K4,F3];by_cases l:f.d.a=[]
      .simp_all
      .have:f.d.a.length≠0:=λe=>l (ma.1 e);rw[A3 (by omega)];simp only[l,ne_eq,not_false_eq_true,decide_true,F3]
       cases M:aW f.d with
       | true=>simp
       | false=>
        simp only[F0,if_false,Bool.false_or];rw[q234];refine w234 ?_;simp only[uI,uG,aB,uX,oI,cI,t234,lA,q267];have i:=H;have a:=C;rw[E]at a;refine zrd (n:=f.n) (d:=⟨false,f.d.a⟩) j c (by omega) (by grind) z A i a λP g h I k J K L=>?_;have r:nK [(.d false),.g] (.i [.d false,h])=some (AN [.d false,h]):=kQ (by
         show(true&&(Ap .g h&&true))=true;rw[Ym k];rfl)
        have b:oD O.z [.d false,h]=true:=by
         show(bif O.z (.d false)then(bif O.z h then true else false)else false)=true;rw[k.e];rfl
        simp only[vK,O.ay,mA,yI,If,In,xA,yC,r,AN,Fm,Gj,b,if_true];rw[q233,EJ k];simp only[xA,Il,K4,F3];refine⟨?_,I⟩;congr 1;rw[decide_eq_decide,<- L];constructor
        .intro e;subst e;rfl
        .intro e;exact MB (B:=65536) (by decide) J (λx N=>by grind) K (λ_=>by simp) (by rw[e];rfl)
  grind
 grind
def AK  (b:bA t 1 (vD f.n.a) u)(c:bA t 1 (vD f.d.a) v)(a:qF.a f):oB Y F 130 [.i [.d f.n.b,u,.d f.d.b,v]] t=some (.d (uN f)):=by
 refine mC.2 (w130 ?_);simp only[uB,t130,lA,q182,VH b c a,xA,Il,if_true];simp_all
end Go.Proofs
namespace Go.Proofs
open Go Go.Am
variable {s:List Nat}{k:Nat}
variable [fC]
variable {t:G vA}
theorem rH{a b:List Nat}(h:a.length+b.length<4611686018427387904):lG a b=some (.h (a++b)):=by
 unfold lG;rw[eD,eD,gC.2 h,xI];rfl
theorem Mx  (h:k<=s.length):cF Y 9 wN (.h s) (some (.e .i64 (k:Int))) none=some (.h (s.drop k)):=by
 unfold cF sP;rw[iI,mA];simp only[O.w];rw[show lE.c .j=true from rfl,xE];unfold Qz gS Fl Aw;grind [wO,mA,O.aj,O.ba,eD,rF,xE,rV,mT,List.take_length]
theorem Gv  (h:k<=s.length):cF Y 9 wN (.h s) none (some (.e .i64 (k:Int)))=some (.h (s.take k)):=by
 unfold cF sP;rw[iI,mA];simp only[O.w];rw[show lE.c .j=true from rfl,xE];unfold Qz gS Fl Aw;have e:wO (k:Int)=some k:=rfl;simp only[mA,O.aj,O.ba,e,eD,rF.2 h,rF.2 (H4 _),xE,rV,mT,G8]
end Go.Proofs
namespace Go.Am
open Go Go.RowKit
section
variable {t tf b:G vA}{C:fA}
mutual
theorem RD.j:∀(d:D) (cs:List O),RD t d cs->∀a∈cs,O.z a=true
 | .a _ _,cs,h,a,b=>by rw[RD]at h;subst h;simp at b;subst b;rfl
 | .e _,cs,h,a,b=>by rw[RD]at h;subst h;simp at b;subst b;rfl
 | .c _,cs,h,a,b=>by rw[RD]at h;subst h;simp at b;subst b;rfl
 | .g sz l,cs,h,a,b=>by
  rw[kO]at h;obtain⟨v,rfl,h⟩:=h;simp at b;subst b;exact h.e
 | .f l,cs,h,a,b=>by
  rw[xK]at h;obtain⟨cl,rfl,h⟩:=h;exact wD.o l cl h a b
theorem wD.o:∀(l:List D) (cl:List (List O)),wD t l cl->∀a∈cl.flatten,O.z a=true
 | [],cl,h,a,b=>by grind [wD]
 | d::l,cl,h,a,b=>by
  rw[wD]at h;obtain⟨c,r,rfl,e,f⟩:=h;rw[Z6,F5]at b;rcases b with b | b
  .exact RD.j d c e a b
  .exact wD.o l r f a b
end
def RD.e{d:D}{cs:List O}(h:RD t d cs):oD O.z cs=true:=by
 grind [gI,RD.j]
theorem RD.mk{d:D}{cs zs:List O}(h:RD t d cs)(a:d.h=zs):fW zs (AN cs) 0=cs:=by
 have:=Tk zs cs [] (by grind [Yl])
 simp_all
end
end Go.Am
namespace Go.Am
open Go Go.RowKit
section
variable {C:fA}{t:G vA}
def Nz(C:fA)(T:Nat)(k:O):Bool:=
 match ob (C.b.c T) λc=>ob c.a.p λb=>ob (C.b.c b.1) λa=>tB (oY C a&&nV C a k) (some ())with | some _=>true | none=>false
def OA{T:Nat}{k:O}(h:Nz C T k=true):∃ty b a,C.b.c T=some ty/\ty.a.p=some b/\C.b.c b.1=some a/\oY C a=true/\nV C a k=true:=by
 grind [Nz,pA,qB]
def zr7{T b n:Nat}{k v:O}{l a:List (O × O)}(j:Nz C T k=true)(q:C.a<=b)(m:t.c b=some (.aj l))(o:uQ k v l=some a) :
  rW C T (.bc b) k v ⟨n,t⟩=some (aD,⟨n,t.d b (.aj a)⟩):=by
 obtain⟨s,r,p,e,f,g,h,i⟩:=OA j;have c:(!Nat.blt b C.a)=true:=by
  grind [gC]
 have d:zN ⟨n,t⟩ b=some l:=by unfold zN;rw[m];rfl
 unfold rW;rw[e,mA,f,mA,g,mA,h,xE];simp only[O.az,mA];rw[c,xE,d,mA,i,xE,o];rfl
def zml{T b n:Nat}{k v:O}{l:List (O × O)}(p:Nz C T k=true)(q:t.c b=some (.aj l))(r:aM k l=some (some v)){ty:jD}(f:C.b.c T=some ty){c:Nat × Nat}(g:ty.a.p=some c){a:jD}(o:C.b.c c.2=some a)(ok:Bool) :
  Bp C T ⟨n,t⟩ (.bc b) k ok=some (bif ok then .p [v,.d true]else v):=by
 obtain⟨ty,c,s,d,e,i,j,m⟩:=OA p;rw[f]at d;cases d;rw[g]at e;cases e;have u:zN ⟨n,t⟩ b=some l:=by unfold zN;rw[q];rfl
 unfold Bp;rw[f,mA,g,mA,i,mA,j,xE,o,mA];have h:dZ ⟨n,t⟩ (.bc b)=some l:=by grind [dZ,O.az]
 rw[h,mA,m,xE,r,mA]
mutual
theorem RD.g:∀(d:D) (cs:List O),RD t d cs->∀a∈cs,∀k,Am.A8 k a a=true
 | .a _ _,cs,h,a,b,k=>by grind [RD,Gy]
 | .e _,cs,h,a,b,k=>by grind [RD,CG]
 | .c _,cs,h,a,b,k=>by grind [RD,Gx]
 | .g sz l,cs,h,a,b,k=>by
  rw[kO]at h;obtain⟨v,rfl,h⟩:=h;simp at b;subst b;exact h.g
 | .f l,cs,h,a,b,k=>by
  rw[xK]at h;obtain⟨cl,rfl,h⟩:=h;exact wD.j l cl h a b k
theorem wD.j:∀(l:List D) (cl:List (List O)),wD t l cl->∀a∈cl.flatten,∀k,Am.A8 k a a=true
 | [],cl,h,a,b,k=>by grind [wD]
 | d::l,cl,h,a,b,k=>by
  rw[wD]at h;obtain⟨c,r,rfl,e,f⟩:=h;rw[Z6,F5]at b;rcases b with b | b
  .exact RD.g d c e a b k
  .exact wD.j l r f a b k
end
def JN:∀ {l:List O} {k:Nat},(∀a∈l,∀k,Am.A8 k a a=true)->Am.A8.sames k l l=true
 | [],_,_=>rfl
 | a::l,k,h=>by
  rw[Am.A8.sames,h a (.head _) k,JN λb c=>h b (.tail _ c)];rfl
def RD.i{d:D}{cs:List O}(h:RD t d cs){k:Nat}:Am.A8 (k+1) (.i cs) (.i cs)=true:=JN (RD.g d cs h)
def xC.l{t':G vA}{b:Nat}{lo:Option Lo}{cs:List O}(h:xC t b lo cs)(k:zB t t'):xC t' b lo cs:=by
 obtain⟨c,a,d⟩:=h;exact⟨c,k _ _ a,d⟩
def xC.o{b n:Nat}{lo:Option Lo}{cs:List O}(h:xC t b lo cs)(a:b≠n)(y:vA):xC (t.d n y) b lo cs:=xC.i h (by rw[G.aa,A3 a])
end
end Go.Am
namespace Go.Proofs
open Go Go.Am
def rO(n:Nat):Bool:=(decide (65<=n)&&decide (n<=90))||(decide (97<=n)&&decide (n<=122))
def dD(n:Nat):Bool:=decide (48<=n)&&decide (n<=57)
def jL(n:Nat):Bool:=rO n||dD n||decide (n=95)
def dE (p:Nat->Bool)(s:List Nat):List Nat:=s.takeWhile p
def O1:Nat->List Nat
 | 2=>[32,116,111,32,105,115,32,97,116,32,105,102,32,111,114,32,117,112,32]
 | 3=>[32,100,101,102,32,114,111,119,32,111,110,101,32,116,119,111,32,101,110,100,32,111,102,102,32,104,97,115,32,109,105,110,32,109,97,120,32,97,110,100,32,110,111,116,32]
 | 4=>[32,112,108,97,110,32,102,97,99,116,32,102,114,111,109,32,119,104,101,110,32,116,104,101,110,32,100,97,116,101,32,100,97,121,115,32,116,114,117,101,32,108,111,111,107,32,98,101,115,116,32,103,114,111,119,32,100,111,119,110,32,99,101,105,108,32,104,97,108,102,32,101,118,101,110,32]
 | 5=>[32,116,97,98,108,101,32,107,110,111,119,110,32,116,114,117,116,104,32,109,111,110,101,121,32,102,97,108,115,101,32,109,105,110,117,115,32,116,111,100,97,121,32,114,111,117,110,100,32,115,116,97,114,116,32,102,108,111,111,114,32]
 | 6=>[32,99,108,97,117,115,101,32,110,117,109,98,101,114,32,109,111,110,116,104,115,32]
 | 7=>[32,98,101,116,119,101,101,110,32,115,101,114,118,105,99,101,32]
 | _=>[]
def CO(s:List Nat):Bool:=decide (2<=s.length)&&decide (s.length<=7)&&sF (dE rO s) s&&Fh ([32]++s++[32]) (O1 s.length)
def sI(s:List Nat):Bool:=match s with
 | []=>false
 | x::r=>decide ((x::r).length<=24)&&rO x&&sF (dE jL (x::r)) (x::r) && !CO (x::r)
structure xD where
 b:Nat
 a:List Nat
 c:Nat
 e:Nat
def nE (s:List Nat):Nat:=s.foldl (λn b=>n*10+(b-48)) 0
def fL(i b:Nat):Bool:=if i=4\/i=7 then decide (b=45)else dD b
def aJ(s:List Nat):Bool:=decide (10<=s.length)&&(List.range 10).all λi=>fL i (s.getD i 0)
def So(y:Nat):Bool:=decide (y%4=0)&&(decide (y%100≠0)||decide (y%400=0))
def Sm:List Nat:=[31,28,31,30,31,30,31,31,30,31,30,31]
def bO(y m:Nat):Nat:=if m<1\/12<m then 0 else if m=2/\So y=true then 29 else Sm.getD (m-1) 0
def nT(y:Nat):Nat:=y / 4-y / 100+y / 400
def Mv(y:Nat):Nat->Nat
 | 0=>0
 | k+1=>Mv y k+bO y (k+1)
def yH(m:Nat):Nat:=365*(m / 12)+nT (1899+m / 12)-nT 1899+Mv (1900+m / 12) (m%12)
def Ff (y m d:Nat):Option Nat:=if y<1900\/2079<y\/d<1\/bO y m<d then none else if yH (12*(y-1900)+m-1)+d-1<65536 then some (yH (12*(y-1900)+m-1)+d-1)else none
def tX (s:List Nat):Option Nat:=Ff (nE (s.take 4)) (nE ((s.take 7).drop 5)) (nE (s.drop 8))
def sQ(s:List Nat):Bool:=decide (1<s.length)&&decide (s.head?=some 48)
def Hu(b:Nat):Bool:=[40,41,44,43,45,42,47,60,61].contains b
inductive TR where
 | ac (e:Nat)
 | aa (kind:Nat) (text:List Nat)
def rE(s:List Nat):List Nat:=dE dD s
def wH(s:List Nat):List Nat:=if s[(rE s).length]?=some 47 then dE dD (s.drop ((rE s).length+1))else []
def xH(s:List Nat):Nat:=if wH s=[]then(rE s).length else(rE s).length+1+(wH s).length
def cT(s:List Nat)(n:Nat):Bool:=match s[n]? with | some b=>jL b | none=>false
def tM(s:List Nat):Bool:=decide (200<xH s)||cT s (xH s)||sQ (rE s)||sQ (wH s)||decide (wH s=[48])
def iS(s:List Nat):Bool:=(decide (10<s.length)&&cT s 10)||decide (tX (s.take 10)=none)
def jE(s:List Nat):TR:=
 match s with
 | []=>.ac 110
 | b::_=>
  if rO b then(if 24<(dE jL s).length then .ac 111 else .aa 1 (dE jL s))
  else if dD b&&aJ s then(if iS s then .ac 113 else .aa 3 (s.take 10))
  else if dD b then(if tM s then .ac 112 else .aa 2 (s.take (xH s)))
  else if Hu b then .aa 4 [b]else .ac 110
inductive LR where
 | ok (l:List xD)
 | er (e line col:Nat)
def LR.d(t:xD):LR->LR
 | .ok l=>.ok (t::l)
 | .er e a b=>.er e a b
def O2 (p:Nat × Nat):xD:=⟨5,[],p.1,p.2⟩
def LR.c(op:Option (Nat × Nat))(r:LR):LR:=match op with | some p=>r.d (O2 p) | none=>r
def cO:Nat->List Nat->Nat->Nat->Option (Nat × Nat)->LR
 | 0,_,_,_,_=>.ok []
 | _+1,[],_,_,d=>LR.c d (.ok [])
 | k+1,b::r,a,c,d=>
  if b=10 then LR.c d (cO k r (a+1) 1 none)
  else if b=32\/b=9 then cO k r a (c+1) d
  else if b=35 then cO k ((b::r).drop (dE (λx=>decide (x≠10)) (b::r)).length) a (c+(dE (λx=>decide (x≠10)) (b::r)).length) d
  else match jE (b::r)with
   | .ac e=>.er e a c
   | .aa f w=>LR.d ⟨f,w,a,c⟩ (cO k ((b::r).drop w.length) a (c+w.length) (some (a,c+w.length)))
def Ho (s:List Nat):LR:=cO (s.length+1) s 1 1 none
end Go.Proofs
namespace Go.Proofs
open Go Go.Am
abbrev Qg:List Nat:=[112,108,97,110]
abbrev sW:List Nat:=[102,97,99,116]
abbrev O3:List Nat:=[100,101,102]
abbrev Qf:List Nat:=[116,97,98,108,101]
abbrev Bm:List Nat:=[116,119,111]
abbrev J5:List Nat:=[111,110,101]
abbrev J6:List Nat:=[114,111,119]
abbrev Gg:List Nat:=[99,108,97,117,115,101]
abbrev Q2:List Nat:=[97,116]
abbrev Mh:List Nat:=[116,111,100,97,121]
abbrev Gf:List Nat:=[104,97,115]
abbrev Mg:List Nat:=[116,114,117,101]
abbrev Mi:List Nat:=[102,97,108,115,101]
abbrev Jg:List Nat:=[109,111,110,101,121]
abbrev pL:List Nat:=[109,105,110,117,115]
abbrev kX:List Nat:=[100,97,121,115]
abbrev lX:List Nat:=[109,111,110,116,104,115]
abbrev qm:List Nat:=[108,111,111,107]
abbrev wMin:List Nat:=[109,105,110]
abbrev wMax:List Nat:=[109,97,120]
abbrev zkg:List Nat:=[98,101,116,119,101,101,110]
abbrev wIf:List Nat:=[105,102]
abbrev jo:List Nat:=[114,111,117,110,100]
abbrev zkf:List Nat:=[115,101,114,118,105,99,101]
abbrev qn:List Nat:=[103,114,111,119]
abbrev qo:List Nat:=[98,101,115,116]
abbrev zr4:List Nat:=[110,117,109,98,101,114]
abbrev jq:List Nat:=[115,116,97,114,116]
abbrev fR:List Nat:=[107,110,111,119,110]
abbrev mg:List Nat:=[105,115]
abbrev Jh:List Nat:=[102,114,111,109]
abbrev ez:List Nat:=[116,111]
abbrev Ji:List Nat:=[101,110,100]
abbrev Jf:List Nat:=[111,102,102]
abbrev Mf:List Nat:=[119,104,101,110]
abbrev Je:List Nat:=[116,104,101,110]
abbrev Bn:List Nat:=[110,111,116]
abbrev gp:List Nat:=[97,110,100]
abbrev y8:List Nat:=[111,114]
def dC (n:Nat):List Nat:=if n=0 then []else n%65536::dC (n / 65536)
decreasing_by omega
def jP (s:List Nat):List Nat:=dE (λb=>decide (b≠47)) s
def mR (s:List Nat):List Nat:=s.drop ((jP s).length+1)
def sK(s:List Nat):Bool:=s.contains 47
def oO(neg:Bool)(n d:Nat):qF:=⟨⟨neg&&decide (0<n),dC (n / Nat.gcd n d)⟩,⟨false,dC (d / Nat.gcd n d)⟩⟩
def kP(s:List Nat)(neg:Bool):qF:=oO neg (nE (jP s)) (if sK s then nE (mR s)else 1)
def aK:qF:=⟨⟨false,[]⟩,⟨false,[]⟩⟩
def oX:iF:=⟨0,aK,0⟩
def nP (s:List Nat)(neg:Bool)(lo hi:Int):Option Int:=(λn:Int=>if lo<=n/\n<=hi then some n else none) (if neg then -(nE s:Int)else nE s)
def Bx(s:List Nat):Prop:=s.length<=200/\(∀b∈jP s,dD b=true)/\jP s≠[]/\sQ (jP s)=false/\(sK s=true->mR s≠[]/\(∀b∈mR s,dD b=true)/\sQ (mR s)=false/\mR s≠[48])
def Zh(s:List Nat):Prop:=s.length=10/\aJ s=true/\∃n,tX s=some n
def Df(t:xD):Prop:=(t.b=2->Bx t.a)/\(t.b=3->Zh t.a)
inductive PR (α:Type) where
 | ok (a:α) (n:Nat)
 | er (e:Nat) (i:Nat)
def PR.c{b c:Type}:PR b->(b->Nat->PR c)->PR c
 | .ok a n,f=>f a n
 | .er e i,_=>.er e i
abbrev PM(a:Type):=Nat->PR a
section
variable (tk:List xD)
def By (w:List Nat)(n:Nat):Bool:=match tk[n]? with | some t=>(decide (t.b=1)||decide (t.b=4))&&sF t.a w | none=>false
def kL(k n:Nat):Bool:=match tk[n]? with | some t=>decide (t.b=k) | none=>false
def fN(n:Nat):List Nat:=match tk[n]? with | some t=>t.a | none=>[]
def wM(k:Nat):PM (List Nat):=λn=>if kL tk k n then .ok (fN tk n) (n+1)else .er 120 n
def gE (w:List Nat):PM Unit:=λn=>if By tk w n then .ok () (n+1)else .er 120 n
def lV(n:Nat):Bool:=kL tk 1 n&&sI (fN tk n)
def vO:PM (List Nat):=λn=>if lV tk n then .ok (fN tk n) (n+1)else .er 120 n
def nR:PM Int:=λn=>(wM tk 3 n).c λt n=>.ok ((tX t).getD 0:Nat) n
def oK(a:Nat->List Nat)(most:Nat):Nat->Nat->PM Nat
 | 0,_,n=>.er 120 n
 | k+1,i,n=>if most<i then .er 120 n else if By tk (a i) n then .ok i (n+1)else oK a most k (i+1) n
def dO(l:List (List Nat × Nat))(n:Nat):Option Nat:=(l.find? λo=>By tk o.1 n).map Prod.snd
def Cs (op:Nat)(x y:iA):iA:=.mk op [] oX [x,y]
def M1 (op:Nat)(w:List Nat)(x:iA):iA:=.mk op w oX [x]
def y9(v:iF):iA:=.mk 1 [] v []
def dV(o:PM iA)(l:List (List Nat × Nat)):Nat->iA->PM iA
 | 0,x,n=>.ok x n
 | m+1,x,n=>match dO tk l n with
  | none=>.ok x n
  | some b=>(o (n+1)).c λy a=>dV o l m (Cs b x y) a
def sU(o:PM iA)(l:List (List Nat × Nat)):PM iA:=λn=>(o n).c λx a=>dV tk o l tk.length x a
def ua(o:PM iA):PM iA:=sU tk o [([42],9),([47],10)]
def Di (o:PM iA):PM iA:=sU tk (ua tk o) [([43],7),([45],8)]
def aY(o:PM iA):PM iA:=λn=>(Di tk o n).c λx a=>match dO tk [([60],13),([61],14)] a with
 | none=>.ok x a
 | some c=>(Di tk o (a+1)).c λy b=>.ok (Cs c x y) b
def sM:Nat->Nat->Nat
 | 0,_=>0
 | m+1,n=>if By tk Bn n then sM m (n+1)+1 else 0
def Jb:Nat->iA->iA
 | 0,x=>x
 | k+1,x=>Jb k (M1 17 [] x)
def iW(o:PM iA):PM iA:=λn=>(aY tk o (n+sM tk tk.length n)).c λx a=>.ok (Jb (sM tk tk.length n) x) a
def Uf(o:PM iA):PM iA:=sU tk (iW tk o) [(gp,15)]
def yU(o:PM iA):PM iA:=sU tk (Uf tk o) [(y8,16)]
def I3 (o:PM iA)(op:Nat):PM iA:=λn=>(vO tk n).c λw a=>(gE tk Q2 a).c λ_ b=>(o b).c λx c=>.ok (M1 op w x) c
def zY(neg:Bool):PM iF:=λn=>(wM tk 2 n).c λs a=>
 if By tk kX a||By tk lX a then
  (if sK s then .er 120 a else match nP s neg (-1048576) 1048576 with
   | none=>.er 121 n
   | some i=>.ok ⟨if By tk kX a then 5 else 6,aK,i⟩ (a+1))
 else .ok ⟨2,kP s neg,0⟩ a
def sX:PM (Option iF):=λn=>
 if By tk Mg n then .ok (some ⟨1,aK,1⟩) (n+1)
 else if By tk Mi n then .ok (some ⟨1,aK,0⟩) (n+1)
 else if kL tk 3 n then(nR tk n).c λd a=>.ok (some ⟨4,aK,d⟩) a
 else if By tk Jg n then(fun(b:Bool)=>(wM tk 2 (if b then n+2 else n+1)).c λs a=>.ok (some ⟨3,kP s b,0⟩) a) (By tk pL (n+1))
 else if By tk pL n then(zY tk true (n+1)).c λv a=>.ok (some v) a
 else if kL tk 2 n then(zY tk false n).c λv a=>.ok (some v) a
 else .ok none n
structure CF where
 d:List Nat
 e:Nat
 b:Bool
 a:Nat
 c:Nat
abbrev Cp:List CF:=[⟨qm,6,true,1,2⟩,⟨wMin,11,false,2,2⟩,⟨wMax,12,false,2,2⟩,⟨zkg,20,false,2,2⟩,⟨wIf,18,false,3,3⟩,⟨jo,19,false,2,2⟩,⟨zkf,21,true,2,2⟩,⟨qn,23,true,2,2⟩,⟨qo,22,true,3,3⟩,⟨lX,24,false,1,1⟩,⟨zr4,25,false,1,1⟩,⟨jq,26,false,1,1⟩]
def Ec(e:PM iA):Nat->List iA->PM (List iA)
 | 0,l,n=>.ok l n
 | k+1,l,n=>(gE tk [44] n).c λ_ a=>(e a).c λx b=>Ec e k (l++[x]) b
def dX(e:PM iA):Nat->List iA->PM (List iA)
 | 0,l,n=>.ok l n
 | k+1,l,n=>if By tk [44] n then(e (n+1)).c λx a=>dX e k (l++[x]) a else .ok l n
def uO:Nat->List Nat
 | 1=>[100,111,119,110]
 | 2=>[117,112]
 | 3=>[102,108,111,111,114]
 | 4=>[99,101,105,108]
 | 5=>[104,97,108,102]
 | 6=>[101,118,101,110]
 | _=>[]
def oG:Nat->List Nat
 | 1=>[116,114,117,116,104]
 | 2=>[110,117,109,98,101,114]
 | 3=>[109,111,110,101,121]
 | 4=>[100,97,116,101]
 | 5=>[100,97,121,115]
 | 6=>[109,111,110,116,104,115]
 | _=>[]
def Co(e:PM iA):PM iA:=λn=>match Cp.find? λf=>By tk f.d n with
 | none=>.er 120 n
 | some f=>(gE tk [40] (n+1)).c λ_ d=>
  (if f.b then(vO tk d).c λw a=>(gE tk [44] a).c λ_ b=>.ok w b else .ok [] d:PR (List Nat)).c λw a=>
  (e a).c λx b=>(Ec tk e (f.a-1) [x] b).c λl h=>(dX tk e (f.c-f.a) l h).c λl g=>
  (if f.e=19 then(gE tk [44] g).c λ_ c=>oK tk uO 6 6 1 c else .ok 0 g:PR Nat).c λm c=>
  (gE tk [41] c).c λ_ i=>.ok (.mk f.e w ⟨0,aK,m⟩ l) i
def mP(o:PM iA):PM iA:=λn=>(sX tk n).c λv a=>match v with
 | some v=>.ok (y9 v) a
 | none=>
  if By tk [40] a then(yU tk o (a+1)).c λx b=>(gE tk [41] b).c λ_ c=>.ok x c
  else if By tk Mh a then .ok (.mk 2 [] oX []) (a+1)
  else if By tk sW a then I3 tk o 3 (a+1)
  else if By tk Gf a then I3 tk o 4 (a+1)
  else if lV tk a then I3 tk o 5 a
  else Co tk (yU tk o) a
def tJ:Nat->PM iA
 | 0,n=>.er 122 n
 | k+1,n=>mP tk (tJ k) n
def Ck:PM iA:=yU tk (tJ tk 101)
def F9 (a:Bool):PM eE:=λn=>(vO tk n).c λw b=>(oK tk oG 6 6 1 b).c λk c=>.ok ⟨w,k,a⟩ c
def El:PM Int:=λn=>(fun(a:Bool) (m:Nat)=>
 if !kL tk 2 m||sK (fN tk m)then .er 120 m else match nP (fN tk m) a (-2147483648) 2147483647 with
  | none=>.er 121 m
  | some i=>.ok i (m+1)) (By tk pL n) (if By tk pL n then n+1 else n)
def fb (f:Bool):PM rG:=λn=>(El tk n).c λa g=>
 (if f then El tk g else .ok 0 g:PR Int).c λb h=>(gE tk fR h).c λ_ i=>(nR tk i).c λd j=>(gE tk mg j).c λ_ e=>
 (fun(c:Bool)=>(wM tk 2 (if c then e+1 else e)).c λs k=>.ok ⟨a,b,d,kP s c⟩ k) (By tk pL e)
def Mc:iA:=.mk 0 [] oX []
def Ig:PM nD:=λn=>(vO tk n).c λa i=>(vO tk i).c λb j=>(gE tk Jh j).c λ_ l=>(nR tk l).c λf m=>(gE tk ez m).c λ_ g=>
 (if By tk Ji g then .ok 65536 (g+1)else nR tk g:PR Int).c λt o=>(gE tk fR o).c λ_ p=>(nR tk p).c λk h=>
 if By tk Jf h then .ok ⟨a,b,f,t,k,true,Mc,Mc⟩ (h+1)else
 (gE tk Mf h).c λ_ q=>(Ck tk q).c λx c=>(gE tk Je c).c λ_ d=>(Ck tk d).c λy e=>.ok ⟨a,b,f,t,k,false,x,y⟩ e
def Vs:PM mE:=λn=>(vO tk n).c λw a=>if By tk Bm a then .ok ⟨w,true,[]⟩ (a+1)else(gE tk J5 a).c λ_ b=>.ok ⟨w,false,[]⟩ b
def xW(l:List mE)(r:rG):List mE:=l.dropLast++(l.getLast?.map λt=>(⟨t.b,t.c,t.a++[r]⟩:mE)).toList
def Sp(l:List mE):Bool:=match l.getLast? with | some t=>t.c | none=>false
def sS(p:rD):PM rD:=λn=>
 if By tk sW n then(F9 tk true (n+1)).c λd a=>.ok ⟨p.e,p.c++[d],p.a,p.b⟩ a
 else if By tk O3 n then(F9 tk false (n+1)).c λd a=>.ok ⟨p.e,p.c++[d],p.a,p.b⟩ a
 else if By tk Qf n then(Vs tk (n+1)).c λt a=>.ok ⟨p.e,p.c,p.a++[t],p.b⟩ a
 else if !p.a.isEmpty&&By tk J6 n then(fb tk (Sp p.a) (n+1)).c λr a=>.ok ⟨p.e,p.c,xW p.a r,p.b⟩ a
 else if By tk Gg n then(Ig tk (n+1)).c λc a=>.ok ⟨p.e,p.c,p.a,p.b++[c]⟩ a
 else .er 120 n
def tS:Nat->rD->PM rD
 | 0,p,n=>.ok p n
 | m+1,p,n=>if n<tk.length then(sS tk p n).c λp a=>(wM tk 5 a).c λ_ b=>tS m p b else .ok p n
def xM:PR rD:=(gE tk Qg 0).c λ_ a=>(vO tk a).c λw b=>(wM tk 5 b).c λ_ c=>tS tk tk.length ⟨w,[],[],[]⟩ c
end
end Go.Proofs
