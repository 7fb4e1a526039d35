/- the guess of a digit. -/
import Derived.Test.YtefajchlhjcgpaaGreatDoorP19
set_option linter.all false
noncomputable section
set_option maxRecDepth 100000
namespace Go.Proofs
open Go Go.Am
variable [fC]
variable {t:G uA}
theorem O6{x y:Nat}(d:x<4294967296)(c:y<4294967296):fJ Nat.lor .u64 ((x*4294967296:Nat):Int) (y:Int)=some (.e .u64 ((x*4294967296+y:Nat):Int)):=by
 have h:=Kb (a:=x) (b:=y) (n:=32) c;have e:(2:Nat)^32=4294967296:=by decide
 rw[e]at h;rw[wZ (k:=.u64) (show x*4294967296<zI .u64 by show _<18446744073709551616;omega) (show y<zI .u64 by show _<18446744073709551616;omega),h]
def zbn{lu lv:List Nat}{u v:O}{Q:mB}{m f e i g U a ur vr:Nat}(hu:bA t 1 (tC .u32 lu) u)(hv:bA t 1 (tC .u32 lv) v)(hl:m<900000)(z:lu[m]?=some i)(B:lv[m]?=some g)(aa:i<BB)(s:g<BB)(q:0<e)(K:e<BB)
  (X:U=(f*BB+i)*BB^m+ur) (ab:ur<BB^m) (Z:a=(e*BB+g)*BB^m+vr) (F:vr<BB^m) (hq:U / a<BB) (a6:f<=e*BB+(BB-1))
  (k:∀d,U / a<=d->d<=U / a+1->d<BB->jp 310 19 [u,v,.e .i64 (m+2:Nat),.e .u64 d] t Q) :
  ∀(d rest:Nat),d*e+rest=f->U / a<=d->d<=BB+1->rest<BB->jp 310 2 [u,v,.e .i64 (m+2:Nat),.e .u64 e,.e .u64 d,.e .u64 rest] t Q:=by
 intro d;induction d with
 | zero=>
  intro rest p x _ r;have T:=sR;have y:rest<4294967296:=by omega
  obtain⟨b,ac,N,P⟩:=hv.f aH B;obtain⟨c,I,R,S⟩:=hu.f aH z;have A:i<4294967296:=by omega
  have E:g<4294967296:=by omega
  obtain⟨D,w⟩:∃D:Int,((0:Nat):Int)=D:=⟨_,rfl⟩;rw[w];refine zrs ?_;unfold yq S6 uL uE V uW;generalize hC:(4294967296:Int)=C;generalize W:fJ Nat.lor .u64 (cA .u64 ((rest:Int)*C))=G;have e4:D*(g:Int)=0:=by grind
  have J:((m+2:Nat):Int)-2=(m:Int):=by omega
  have L:(rest:Int)*C=((rest*4294967296:Nat):Int):=by simp_all
  have M:G (i:Int)=some (.e .u64 ((rest*4294967296+i:Nat):Int)):=by rw[<- W,L,gG (by omega) (by omega)];grind [O6]
  simp only[iA,mI];rw[A3 (by omega)];simp (disch:=omega) only[J,A2,N,xA];rw[P];simp only[xA,yC,R];rw[S,xA,yC,xA,gG (n:=(i:Int)) (by omega) (by omega),M,xA,yC,xA,gG (n:=(g:Int)) (by omega) (by omega),e4,gG (n:=0) (by decide) (by decide)]
  grind [iE]
 | succ d ih=>
  intro rest p x ag r;have T:=sR;have y:rest<4294967296:=by omega
  have ae:e<4294967296:=by omega
  have a7:d+1<=4294967296+1:=by omega
  have l:d*e+(rest+e)=f:=by grind
  obtain⟨D,w⟩:∃D:Int,((d+1:Nat):Int)=D:=⟨_,rfl⟩;rw[w];have J:D-1=(d:Int):=by omega
  have e0:(rest:Int)+(e:Int)=((rest+e:Nat):Int):=by omega
  have H:U / a<=d->(if (4294967296:Int)<=((rest+e:Nat):Int)then jp 310 19 [u,v,.e .i64 (m+2:Nat),.e .u64 d] t Q else jp 310 2 [u,v,.e .i64 (m+2:Nat),.e .u64 e,.e .u64 d,.e .u64 ((rest+e:Nat):Int)] t Q):=by
   intro o;split
   .rename_i hb;have a1:BB<=rest+e:=by omega
    have j:d<BB:=by
     grind
    refine k d o ?_ j;refine Y0 jK X Z F q (Nat.le_of_lt j) ?_;have h1:d*g<=BB*BB:=G5 (Nat.le_of_lt j) (Nat.le_of_lt s);have h2:BB*BB<=(rest+e)*BB:=D4 _ a1;have h3:f*BB=d*e*BB+(rest+e)*BB:=by rw[<- l,D7]
    grind
   .rename_i hb;exact ih (rest+e) l o (by omega) (by omega)
  refine zrs ?_;unfold yq S6 uL uE V uW;generalize hC:(4294967296:Int)=C;generalize W:fJ Nat.lor .u64 (cA .u64 ((rest:Int)*C))=G;by_cases ad:4294967296<=d+1
  .simp (disch:=omega) only[iA,mI,e0,J,gG];rw[A5 (by omega)]
   grind
  .obtain⟨b,ac,N,P⟩:=hv.f aH B;obtain⟨c,I,R,S⟩:=hu.f aH z;have A:i<4294967296:=by omega
   have E:g<4294967296:=by omega
   have e5:((m+2:Nat):Int)-2=(m:Int):=by omega
   have L:(rest:Int)*C=((rest*4294967296:Nat):Int):=by simp_all
   have e6:cA .u64 (D*(g:Int))=(((d+1)*g:Nat):Int):=by
    rw[<- w,<- Int.natCast_mul];have:(d+1)*g<=4294967295*4294967295:=G5 (by omega) (by omega)
    grind [gG]
   have M:G (i:Int)=some (.e .u64 ((rest*4294967296+i:Nat):Int)):=by rw[<- W,L,gG (by omega) (by omega)];grind [O6]
   simp only[iA,mI];rw[A3 (by omega)];simp (disch:=omega) only[e5,A2,N,xA];rw[P];simp only[xA,yC,R];rw[S,xA,yC,xA,gG (n:=(i:Int)) (by omega) (by omega),M,xA,yC,xA,gG (n:=(g:Int)) (by omega) (by omega),e6];have e7:cA .u64 ((rest:Int)+(e:Int))=((rest+e:Nat):Int):=by rw[e0];exact gG (by omega) (by omega)
   have e8:cA .u64 (D-1)=(d:Int):=by rw[J];grind [gG]
   rw[e7,e8];have ah:(d+1)*(e*BB+g)=(d+1)*e*BB+(d+1)*g:=by rw[K9,<- F4]
   have af:f*BB=(d+1)*e*BB+rest*BB:=by rw[<- p,D7]
   by_cases a8:rest*4294967296+i<(d+1)*g
   .rw[A5 (iE.2 (by omega))];subst hC;refine H (Nat.lt_succ_iff.1 (pz X ab Z ?_))
    grind
   .rw[A3 (λh=>absurd (iE.1 h) (by omega))];rw[<- w];refine k (d+1) x (Y0 jK X Z F q (by omega) ?_) (by omega)
    grind
end Go.Proofs
namespace Go.Proofs
open Go Go.Am
variable {o n x:Nat}{v:O}{l:List Nat}
variable [fC]
variable {t tf:G uA}
theorem BU {y:uA}(b:t.c n=none)(h:zB tf t):zB (tf.d n y) (t.d n y):=by
 intro c u a;rw[G.aa]at a ⊢;split at a
 .simp_all
 .rename_i e;rw[A3 e];exact h _ _ a
theorem Cr(h:zB tf t) (a:t.c n=none):tf.c n=none:=by
 cases b:tf.c n with
 | none=>rfl
 | some y=>rw[h _ _ b]at a;cases a
structure AJ (S:G uA->G uA->Prop):Prop where
 le:∀ {tf t:G uA},S tf t->zB tf t
 aa:∀ {tf t:G uA} {n:Nat},S tf t->t.c n=none->∀y,S (tf.d n y) (t.d n y)
 ac:∀ {tf t:G uA} {n:Nat} {y:uA},tf.c n=none->S (tf.d n y) t->S tf (t.q n)
def KM{f i:Nat}{v8 n:O}{K R:T}{ps:List Nat}{Q:mB}{S:Nat->G uA->G uA->Prop}(s:∀k,AJ (S k))(hp:bA tf 1 (tC .u32 ps) n)(hl:ps.length<30000)(h:S ps.length tf t)
  (C:∀(k x:Nat) (tf t:G uA) (Q1:mB),ps[k]?=some x->S (k+1) tf t->(∀t',S k tf t'->Q1 (.d true) t')->Jq Y F f i [v8,.e .u32 (x:Int)] t Q1)
  (M:∀L t',zB tf L->S 0 L t'->iA Y.a (Wq Y F dC) (Jq Y F f) K t' Q) :
  iA Y.a (Wq Y F dC) (Jq Y F f) (.c 237 [n] λa0=>.p (jQ Y) a0 i 1 [v8] K R) t Q:=by
 simp only[iA];rw[q237];refine w237 ?_;simp only[t237,iA];intro p D N;have P:n.s=[n]:=by
  obtain⟨cl,B,_⟩:=hp;rcases B with⟨rfl,_⟩ | ⟨_,_,_,rfl,_⟩<;>rfl
 have J:dL n ⟨p,t⟩=some (.j p 0,⟨p+1,t.d p (.aa (G.ac [n]) 1 none)⟩):=by
  unfold dL;rw[P];rfl
 rw[J,xA];simp only[];have B:=(s _).aa h D (.aa (G.ac [n]) 1 none);have U:=Cr ((s _).le h) D;have q:zB tf (tf.d p (.aa (G.ac [n]) 1 none)):=(oO U _).1;generalize a6:tf.d p (.aa (G.ac [n]) 1 none)=o at B q;have W:o.c p=some (.aa (G.ac [n]) 1 none):=by rw[<- a6,G.aa,A5 rfl]
 generalize t.d p (.aa (G.ac [n]) 1 none)=t1 at B;refine⟨Nat.le_add_right _ _,λl r E a7 z A hy=>?_⟩;have a1:Cn (jQ Y) (.q (.aa 269) [] [.j p 0]) l=some (269,[.q (.ac l) [] [],.j p 0]):=by
  unfold Cn;simp only[O.am,lA];have:jQ Y 269=true:=by kernel_rfl
  rw[this];rfl
 rw[a1,xA];have h2:=(s _).aa B E (.ac r);have y:=Cr ((s _).le B) E;have X:eP true r=r:=by
  obtain⟨a,b,c,d,e,f,g,h,i⟩:=r;have z:a=.ready:=z;have A:b=none:=A;subst z;subst A;rfl
 have u:zB o (o.d l (.ac r)):=(oO y _).1;rw[show Wq Y F dC 269=Wc Y F 269 by funext a m R;rw[q269]];refine zxf (l:=ps) (v:=n) (I:=λk t'=>S k (o.d l (.ac r)) t') (by omega) ?_ ?_ ?_ h2
 .intro k t' w;have H:=(s _).le w;have hg:t'.c p=some (.aa (G.ac [n]) 1 none):=H _ _ (u _ _ W);refine⟨?_,hp.a (q.d (u.d H))⟩;exact(xC.f (cs:=[n]) (lo:=none) ⟨G.ac [n],hg,λj a hj=>by grind [G.o]⟩ lN rfl (j:=0) rfl)
 .intro k x t' hx w R hR;show oD (some (yo+l,[O.e .u32 (x:Int)])) _;rw[xA];refine hy [.e .u32 (x:Int)] t' R rfl ((s _).le w _ _ (by rw[G.aa,A5 rfl])) ?_;refine C k x o _ _ hx ((s _).ac y w) λt2 h3 Z=>⟨true,rfl,?_⟩;rw[X];exact hR _ ((s _).aa h3 Z (.ac r))
 .intro t' w;exact .inl ⟨(s _).le w _ _ (by rw[G.aa,A5 rfl]),M o _ q ((s _).ac y w)⟩
def gZ (o:Nat)(v:O)(tf t:G uA):Prop:=Y.a<=o/\tf.c o=none/\zB tf t/\xC t o none [v]
def gZ.a   : AJ (gZ o v) where
 le:=λh=>h.2.2.1
 aa:=fun {tf t n} h j y=>by
  obtain⟨d,f,g,b⟩:=h;have a:o≠n:=by intro e;obtain⟨c,h,_⟩:=b;simp_all
  exact⟨d,by grind [G.aa],BU j g,b.i (by rw[G.aa,A3 a])⟩
 ac:=fun {tf t n y} j h=>by
  obtain⟨d,f,g,b⟩:=h;have a:o≠n:=by grind [G.aa]
  have i:zB tf (tf.d n y):=(oO j y).1;rw[G.aa,A3 a]at f;refine⟨d,f,λc u k=>?_,b.i (by rw[G.e,A3 a])⟩;have:c≠n:=λe=>by simp_all
  rw[G.e,A3 this];exact g _ _ (i _ _ k)
theorem zhe{y:Nat}{a:mB}(h:gZ o (.e .u64 (y:Int)) tf t)(k:y<4294967296)(i:x<4294967296)(c:∀t',gZ o (.e .u64 ((y*4294967296+x:Nat):Int)) tf t'->a (.d true) t'):jp 303 2 [.j o 0,.e .u32 (x:Int)] t a:=by
 obtain⟨d,e,l,f⟩:=h;have g:(y:Int)*4294967296=((y*4294967296:Nat):Int):=by omega
 have b:fJ Nat.lor .u64 (cA .u64 ((y:Int)*4294967296)) (cA .u64 (x:Int))=some (.e .u64 ((y*4294967296+x:Nat):Int)):=by
  rw[g,gG (by omega) (by omega),gG (by omega) (by omega),O6 k i]
 generalize y*4294967296+x=z at b c;refine j303_2 ?_;simp only[uE,zqj,iA];rw[f.f lT rfl (j:=0) rfl,xA,yC,xA,b,xA,yC,xA];intro q _ _;obtain⟨r,m,n,p⟩:=f.g (v:=.e .u64 (z:Int)) d lT rfl rfl rfl (j:=0) (by simp);rw[m,xA];exact c _ ⟨d,e,l.g e p,n⟩
theorem zbf {k:Nat}(h:l.length<=2)(b:pB 4294967296 l)(f:l[k]?=some x):x<4294967296/\A4 4294967296 (l.drop (k+1))<4294967296/\A4 4294967296 (l.drop k)=A4 4294967296 (l.drop (k+1))*4294967296+x:=by
 have g:k<l.length:=(G1.1 f).1;have d:l.drop k=x::l.drop (k+1):=by
  grind [List.drop_eq_getElem_cons]
 refine⟨b x (Q5 f),?_,?_⟩
 .have c:=GW b (k+1);have e:(l.drop (k+1)).length<=1:=by grind
  generalize l.drop (k+1)=m at c e ⊢
  match m,c,e with
  | [],_,_=>exact Nat.zero_lt_succ _
  | [a],c,_=>rw[A4,A4,r9,L9];exact c a (.head _)
 grind [A4]
theorem zvq  (H:bA t 1 (tC .u32 l) v)(E:l.length<=2)(m:pB 4294967296 l):oB Y F 303 [v] t=some (.e .u64 ((A4 4294967296 l:Nat):Int)):=by
 refine mV (w303 ?_);have e:l.length<30000:=by omega
 have n:∀k x,l[k]?=some x->_:=λk x=>zbf (k:=k) (x:=x) E m;have A:A4 4294967296 (l.drop l.length)=0:=by rw[List.drop_length,A4]
 generalize D:(λk=>A4 4294967296 (l.drop k))=g;have p:∀k x,l[k]?=some x->x<4294967296/\g (k+1)<4294967296/\g k=g (k+1)*4294967296+x:=λk x P=>by grind
 have f:g l.length=0:=by grind
 have d:A4 4294967296 l=g 0:=by grind
 rw[d];clear D n A d;unfold t303 uE;show ∀b,t.c b=none->Y.a<=b->oD (qL Y 270 ⟨b,t⟩) _;intro o c a;obtain⟨q,r,s,N,u⟩:=yQ (C:=Y) lT c;rw[r,xA];show ∀b,q.c b=none->Y.a<=b->oD (mC Y 270 (.j o 0) (.e .u64 0) ⟨b,q⟩) _;intro M _ _;obtain⟨K,w,y,z⟩:=s.g (v:=.e .u64 0) a lT rfl rfl rfl (j:=0) (by simp);rw[w,xA];have h:gZ o (.e .u64 ((g l.length:Nat):Int)) t K:=by
  rw[f];exact⟨a,c,(zB.f t).g c u |>.g c z,y⟩
 refine KM (S:=λk tf t=>gZ o (.e .u64 ((g k:Nat):Int)) tf t) (λk=>gZ.a) H e h ?_ ?_
 .grind [zhe]
 .intro L T i B;obtain⟨Q,R,I,J⟩:=B;simp only[iA];rw[J.f lT rfl (j:=0) rfl,xA];simp only[yC,xA];exact⟨trivial,i.d I⟩
end Go.Proofs
namespace Go.Am
open Go
variable {k u:Nat}
def eF (u:Nat):List Nat:=(Lib.decDigits u).map UInt8.toNat
theorem Ua (h:u<10):eF u=[48+u]:=by
 grind [eF,Lib.decDigits_one,UInt8.toNat_ofNat']
theorem Uc (h:¬ u<10):eF u=eF (u / 10)++[48+u%10]:=by
 grind [eF,Lib.decDigits,UInt8.toNat_ofNat']
def Xy(u:Nat):wJ (u:Int)=eF u:=by
 grind [wJ,Lib.itoa,eF]
theorem EC (h:0<u):wJ (-(u:Int))=45::eF u:=by
 grind [wJ,Lib.itoa,eF]
def zoy(u:Nat):(eF u).length=Lib.nDigits u:=by unfold eF;rw[C5,Lib.decDigits_length]
theorem Zb(u:Nat):0<(eF u).length:=by rw[zoy];exact Lib.nDigits_pos u
def Za(u:Nat):∀x∈eF u,48<=x/\x<58:=by
 induction u using Nat.strongRecOn with
 | _ u a=>
  grind [Ua,Uc]
def Ub (a:0<k)(h:u<10^k):(eF u).length<=k:=by
 induction k generalizing u with
 | zero=>omega
 | succ k b=>
  grind [Ua,Uc]
def kV:Nat->Nat->List Nat
 | 0,_=>[]
 | k+1,r=>kV k (r / 10)++[48+r%10]
theorem CS:∀(k r:Nat),(kV k r).length=k
 | 0,_=>rfl
 | k+1,r=>by rw[kV,E1,CS k];rfl
theorem LP:∀k,kV k 0=List.replicate k 48
 | 0=>rfl
 | k+1=>by rw[kV,LP k,List.replicate_succ']
theorem zu9{r:Nat}(d:0<k)(h:r<10^k):kV k r=List.replicate (k-(eF r).length) 48++eF r:=by
 induction k generalizing r with
 | zero=>omega
 | succ k e=>
  rw[kV];by_cases a:r<10
  .grind [Ua,LP]
  .have c:r / 10<10^k:=by omega
   have b:0<k:=by
    grind
   simp_all [Uc]
def zox{q:Nat}(e:0<q):∀ {k r:Nat},r<10^k->eF (q*10^k+r)=eF q++kV k r:=by
 intro k;induction k with
 | zero=>grind [kV]
 | succ k f=>
  intro r h;have d:0<10^k:=Nat.pow_pos (by decide);have c:¬ q*10^(k+1)+r<10:=by
   have:10^(k+1)=10^k*10:=K7 ..;have g:10<=q*10^(k+1):=by
    rw[this];calc 10=1*(1*10):=by omega
     _<=q*(10^k*10):=G5 e (G5 d (B4 _))
   omega
  have a:(q*10^(k+1)+r) / 10=q*10^k+r / 10:=by
   rw[K7,<- F4,T8,Nat.add_mul_div_right _ _ (by decide),T8]
  have b:(q*10^(k+1)+r)%10=r%10:=by
   rw[K7,<- F4,T8,Nat.add_mul_mod_self_right]
  rw[Uc c,a,b,f (by omega),kV,D5]
def LQ:∀(k r:Nat),∀x∈kV k r,48<=x/\x<58
 | 0,_,x,a=>by cases a
 | k+1,r,x,a=>by
  rw[kV]at a;rcases F7.1 a with a | a
  .exact LQ k _ x a
  grind
def zN:List Nat->List Nat
 | []=>[]
 | [p]=>eF p
 | p::q::l=>zN (q::l)++kV 9 p
def IE:∀ {l:List Nat},l≠[]->(∀x∈l,x<1000000000)->l.getLast?≠some 0->zN l=eF (A4 1000000000 l)/\0<A4 1000000000 l
 | [],h,_,_=>absurd rfl h
 | [p],_,_,h=>by
  grind [zN,A4]
 | p::q::l,_,a,f=>by
  obtain⟨b,c⟩:=IE (l:=q::l) (by simp) (λx d=>a x (.tail _ d)) (by simp_all);have g:=a p (.head _);have e:A4 1000000000 (p::q::l)=A4 1000000000 (q::l)*10^9+p:=by
   rw[A4];omega
  rw[e,zox c (by omega),zN,b]
  grind
def BA:∀(l:List Nat),∀x∈zN l,48<=x/\x<58
 | [],x,a=>by cases a
 | [p],x,a=>Za p x a
 | p::q::l,x,a=>by
  rw[zN]at a;rcases F7.1 a with a | a
  .exact BA _ x a
  .exact LQ _ _ x a
def dh (neg:Bool)(n:Nat):List Nat:=(if neg then [45]else [])++eF n
end Go.Am
namespace Go.Am
open Go Go.RowKit
section
variable {base:Nat}{t t0:G uA}{X g:Xt}{HA:sA}{n:Nat}{y:uA}{C:fA}{F:G kE}{Q:mB}
def Xt.d(X:Xt)(n:Nat)(y:uA):Xt:=λb=>if b=n then some y else X b
theorem Xt.a{X:Xt}:X.d n y n=some y:=A5 rfl
theorem Xt.c{X:Xt}{b:Nat}(h:b≠n):X.d n y b=X b:=A3 h
def Ov.v(h:Ov base t X HA)(d:t.c n=some y)(f:t0.c n=none)(c:jF n t0 t):Ov base t0 (X.d n y) HA:=by
 refine⟨h.d,λb a=>?_,λb z a=>?_,λb z a=>?_⟩
 .by_cases e:b=n
  .grind [Xt.a]
  .rw[Xt.c e]at a;rw[h.f b a,c b e]
 .by_cases e:b=n
  .subst e;rw[Xt.a]at a;cases a;exact⟨h.q d,f,h.j _ _ d⟩
  .rw[Xt.c e]at a;obtain⟨g,i,j⟩:=h.a b z a;exact⟨g,by rw[<- c b e];exact i,j⟩
 .by_cases e:b=n
  .simp_all
  .exact h.j b z (by rw[c b e];exact a)
def qC.i{Q:mB}{d:wC}(s:X.d n y=g)(C:X n=none)(h:qC base g eK Q d):qC base X eK (λv t'=>∃c,Q v c/\c.c n=none/\t'.c n=some y/\jF n c t') d:=by
 obtain⟨v,t',k,f,q,i,m,r⟩:=iR.1 h;subst s;have u:f n=some y:=m n y Xt.a;obtain⟨p,l,B⟩:=i.a n y u;obtain⟨_,j⟩:=oO (t:=t') l y;have o:(t'.d n y).c n=some y:=by rw[G.aa,A5 rfl]
 refine iR.2 ⟨v,t'.d n y,k,λb=>if b=n then none else f b,q,⟨i.d,λb a=>?_,λb z a=>?_,λb z a=>?_⟩,λb z a=>?_,t',r,l,o,j⟩
 .by_cases e:b=n
  .subst e;rw[p,o]
  .have a:(if b=n then none else f b)=none:=a;rw[A3 e]at a;rw[i.f b a,j b e]
 .by_cases e:b=n
  .simp_all
  .have a:(if b=n then none else f b)=some z:=a;rw[A3 e]at a;obtain⟨w,x,A⟩:=i.a b z a;exact⟨w,by rw[j b e];exact x,A⟩
 .by_cases e:b=n
  .omega
  .rw[j b e]at a;exact i.j b z a
 .show(if b=n then none else f b)=some z;have e:b≠n:=λe=>by simp_all
  rw[A3 e];exact m b z (by grind [Xt.c])
def Wc.d{f:Nat}{args:List O}(h:Wc C F f args t0 Q)(c:t.c n=some y)(d:t0.c n=none)(e:jF n t0 t) :
  Wc C F f args t (λv t'=>∃a,Q v a/\a.c n=none/\t'.c n=some y/\jF n a t'):=
 λX HA b=>qC.i rfl (b.p c) (h _ HA (b.v c d e))
end
def G.az(t:G uA):∀n:Nat,∃t0:G uA,t0.c n=none/\jF n t0 t:=by
 induction t with
 | aj=>exact λn=>⟨.aj,G.ah n,λ_ _=>rfl⟩
 | ak l v r c d=>
  intro n;by_cases f:n=0
  .subst f;refine⟨.ak l none r,by rw[G.au];rfl,λk a=>?_⟩;rw[G.au,G.au,A3 a,A3 a]
  .by_cases i:n%2=1
   .obtain⟨g,e,b⟩:=c (n / 2);refine⟨.ak g v r,by grind [G.au],λk a=>?_⟩;rw[G.au,G.au];split
    .rfl
    .split
     .exact b _ (by omega)
     .rfl
   .obtain⟨h,e,b⟩:=d (n / 2-1);refine⟨.ak l v h,by grind [G.au],λk a=>?_⟩;rw[G.au,G.au];split
    .rfl
    .split
     .rfl
     .exact b _ (by omega)
end Go.Am
namespace Go.Proofs
open Go Go.Am
variable {g:Lo}{base sz:Nat}{l:List D}{v:O}
variable [fC]
variable {t tf:G uA}
def cH.a    (h:cH g base tf t sz l v)(j:zB tf t):∃t0,zB tf t0/\∀ {f:Nat} {args:List O} {Q:mB},Wc Y F f args t0 Q->Wc Y F f args t (λu t'=>∃t1,Q u t1/\(zB tf t1->zB t1 t'/\cH g base t1 t' sz l v)):=by
 rcases h with⟨rfl,rfl⟩ | ⟨b,m,c,rfl,o,A,p,q,r⟩
 .exact⟨t,j,λh=>h.a λu t' s=>⟨t',s,λ_=>⟨zB.f _,.inl ⟨rfl,rfl⟩⟩⟩⟩
 .obtain⟨t0,n,i⟩:=G.az t b;refine⟨t0,λk u d=>?_,λh=>(h.d p n i).a λu t' ⟨t1,w,x,y,z⟩=>⟨t1,w,λe=>⟨λk u d=>?_,.inr ⟨b,m,c,rfl,o,x,y,q,tD.f e _ _ r⟩⟩⟩⟩
  .have a:k≠b:=by grind
   rw[<- i k a];exact j _ _ d
  .have a:k≠b:=by grind
   rw[z k a];exact d
def qa:Gi Y 253 254 1:=⟨⟨_,lN,rfl,rfl⟩,⟨_,tI,rfl,rfl,by decide,by decide⟩⟩
def nz:Gi Y 96 5 1:=⟨⟨_,sY,rfl,rfl⟩,⟨_,M7,rfl,rfl,by decide,by decide⟩⟩
def qb:∀z,Y.b.c 254=some z->wO 254 z=.b 1:=λz h=>by rw[tI]at h;cases h;rfl
def zd:∀z,Y.b.c 5=some z->wO 5 z=.a 5:=λz h=>by rw[M7]at h;cases h;rfl
theorem EJ    {b:Nat}(h:cH g base tf t sz l v)(a:iM v b)(c:t.c b=none):False:=by
 obtain⟨_,_,y,d⟩:=h.o a
 simp_all
def za4{S:List Nat}{T:Int}{neg:Bool}{c1:O}{N M:Nat}{Q:mB}{t0:G uA}(hM:M<400000)
  (hR:∀(tf t':G uA) (ps:List Nat) (i o:O),zB t0 tf->zB tf t'->cH (.b 1) Y.a tf t' 1 (tC .u32 ps) i->bA tf 1 (tC .u32 []) o->pB 1000000000 ps->ps≠[]->ps.getLast?≠some 0->A4 1000000000 ps=N->ps.length<=M->jp 183 2 [.h S,.e .i64 T,i,o,.d neg,c1] t' Q) :
  ∀(k:Nat) (l ps:List Nat) (i o:O) (tf t':G uA),A4 4294967296 l<1000000000^k->k+ps.length<=M->B5 l->pB 4294967296 l->l.length<900000->pB 1000000000 ps->(l=[]->ps≠[]/\ps.getLast?≠some 0) →
   A4 4294967296 l*1000000000^ps.length+A4 1000000000 ps=N->zB t0 tf->zB tf t'->cH (.b 1) Y.a tf t' 1 (tC .u32 ps) i->bA tf 1 (tC .u32 l) o->jp 183 2 [.h S,.e .i64 T,i,o,.d neg,c1] t' Q:=by
 intro k;induction k with
 | zero=>
  intro l ps i o tf t' h1 h2 w I J K h7 h8 L j p m;have A:l=[]:=Xg (B:=4294967296) (by decide) w (by omega)
  grind
 | succ k ih=>
  intro l ps i o tf t' h1 h2 w I J K h7 h8 L j p m;by_cases A:l=[]
  .grind [A4]
  have P:0<l.length:=List.length_pos_iff.2 A;have a7:0<A4 4294967296 l:=by
   rcases Z9 (A4 4294967296 l)with e | e
   .exact absurd (Xg (B:=4294967296) (by decide) w e) A
   .exact e
  refine zr9 ?_;simp only[uI,uL,uX,V,uY,xy,iA,(m.a j).c,xA,yC,qH,iE];rw[A5 (by omega),q236];obtain⟨t1,v,g2⟩:=cH.a p j;refine(g2 (RU (m.a v) J I (d:=1000000000) (by decide) (by decide) (Q:=λu t'=>∃h q r,u=.p [h,.e .u32 (r:Nat)]/\zB t1 t'/\bA t' 1 (tC .u32 (vF q)) h/\pB 4294967296 q/\q.length=l.length/\r<1000000000/\A4 4294967296 l=A4 4294967296 q*1000000000+r) λt' h q r a b c d e f=>⟨h,q,r,rfl,a,b,c,d,e,f⟩)).a ?_
  rintro u t2 ⟨s,⟨h,q,r,rfl,D,W,X,a4,a5,a6⟩,hk⟩;obtain⟨Z,E⟩:=hk (v.d D);have x0:tK 0 (.p [h,.e .u32 (r:Nat)])=some h:=rfl;have x1:tK 1 (.p [h,.e .u32 (r:Nat)])=some (.e .u32 (r:Nat)):=rfl;simp only[x0,x1,xA,yC];intro n hn z;obtain⟨U,t,c2,F⟩:=DP (k:=.u32) lN rfl tI rfl rfl r trivial hn;rw[t,xA];intro n2 C g;have b3:cH (.b 1) Y.a s U.t 1 (tC .u32 ps) i:=E.f λb hb=>by
   obtain⟨_,_,y,R⟩:=E.o hb;rw[F _ _ R,R]
  obtain⟨t4,H,d2,d3,d4⟩:=UC qa qb b3 (c2.m (cap:=1) (B4 _)) (by simp) (by grind) C g (Z.d F);simp only[List.length_singleton]at H d2;simp only[];rw[H,xA];refine ih (vF q) (ps++[r]) _ _ s t4 ?_ ?_ (iY _) (iW X) ?_ ?_ ?_ ?_ (L.d (v.d D)) d3 ?_ W
  .grind [wV]
  .grind
  .grind [Rc]
  .exact UI K λx hx=>by simp_all
  .intro hs;refine⟨by simp,?_⟩;have hq:A4 4294967296 q=0:=by rw[<- wV,hs];rfl
   grind
  .rw[wV,Mr,E1];simp only[A4,D6,G2,D8,r9,L9];grind
  omega
end Go.Proofs
namespace Go.Proofs
open Go Go.Am
variable [fC]
variable {t:G uA}
def zot{A lu lv Z:List Nat}{v:O}{b cap m:Nat}{t0 t':G uA}{Q:mB}(hv:bA t0 1 (tC .u32 lv) v)(hl:lv.length=m+2)(hm:m<800000)(u:pB BB lv)(C:Y.a<=b)(hb:t0.c b=none)(J:lu.length=m+3)(D:pB BB lu)(T:m+3<=cap)
  (a8:∀e,lv[m+1]?=some e->2147483648<=e) (aj:A4 BB lu<BB*A4 BB lv) (ht:zB t0 t') (a6:jF b t t') (ho:zH t' b .u32 (A++lu++Z))
  (hQ:∀t2 r,zB t0 t2->jF b t t2->zH t2 b .u32 (A++(r++[0])++Z)->r.length=m+2->pB BB r->A4 BB r=A4 BB lu%A4 BB lv->A4 BB lu / A4 BB lv<BB->Q (.e .u32 ((A4 BB lu / A4 BB lv:Nat):Int)) t2) :
  Wc Y F 310 [.m b A.length (m+3) cap,v] t' Q:=by
 obtain⟨e,h1⟩:=A6 (l:=lv) (i:=m+1) (by omega);obtain⟨v2,h2⟩:=A6 (l:=lv) (i:=m) (by omega);obtain⟨j,h3⟩:=A6 (l:=lu) (i:=m+2) (by omega);obtain⟨o,h4⟩:=A6 (l:=lu) (i:=m+1) (by omega);obtain⟨u2,h5⟩:=A6 (l:=lu) (i:=m) (by omega);have b1:e<BB:=oN u h1;have b2:v2<BB:=oN u h2;have b3:j<BB:=oN D h3;have b4:o<BB:=oN D h4;have b5:u2<BB:=oN D h5;have w:=sR;have c1:e<4294967296:=by omega
 have c3:j<4294967296:=by omega
 have c4:o<4294967296:=by omega
 have ak:=a8 e h1;obtain⟨hV,am⟩:=top2 (B:=BB) jK u hl h1 h2;obtain⟨hU,aa⟩:=top3 (B:=BB) jK D J h3 h4 h5;have y:0<A4 BB lv:=by
  have:0<(e*BB+v2)*BB^m:=Nat.mul_pos (by have:0<e*BB:=Nat.mul_pos (by omega) jK;omega) (Nat.pow_pos jK);omega
 have hq:A4 BB lu / A4 BB lv<BB:=Q4 (by rw[F0];exact aj);have p:bA t' 1 (tC .u32 lu) (.m b A.length (m+3) cap):=by
  have:=ho.g (off:=A.length) (n:=m+3) (cap:=cap) (by simp;omega) T;rw[D5,List.drop_left,List.take_left' J]at this;exact this
 have H:=hv.a ht;obtain⟨d1,o1,g1,ab⟩:=p.f aH h3;obtain⟨d2,o2,g2,ac⟩:=p.f aH h4;obtain⟨d3,o3,g3,ad⟩:=H.f aH h1;have al:j<=e:=by
  rcases Q2 e j with g | g
  .exfalso;have K:(j*BB)*BB*BB^m<=A4 BB lu:=by rw[hU,D7,D7,D7];omega
   have N:A4 BB lv<(e+1)*BB*BB^m:=by
    have h:e*BB+v2+1<=(e+1)*BB:=by rw[D7];omega
    have:=D4 (BB^m) h;rw[D7 (e*BB+v2) 1,Nat.one_mul]at this;omega
   have e3:BB*A4 BB lv<BB*((e+1)*BB*BB^m):=Nat.mul_lt_mul_of_pos_left N jK;have e4:BB*((e+1)*BB*BB^m)<=j*BB*BB*BB^m:=by
    have:(e+1)*BB*BB^m<=j*BB*BB^m:=D4 _ (D4 _ g);have:=F6 BB this
    calc BB*((e+1)*BB*BB^m)<=BB*(j*BB*BB^m):=this
     _=j*BB*BB*BB^m:=by rw[<- F4,F0 BB (j*BB)]
   omega
  .exact g
 have hh:j*BB+o<=e*BB+(BB-1):=by
  have:=D4 BB al;omega
 have U:A4 BB lu / A4 BB lv<=(j*BB+o) / e:=py hU aa b5 hV (by omega);have q:(j*BB+o) / e<=BB+1:=by
  have:j*BB+o<(BB+2)*e:=by
   rw[D7,F0 BB e];generalize e*BB=P at hh ⊢;generalize j*BB=R at hh ⊢;omega
  have:=Q4 (show j*BB+o<e*(BB+2) by rw[F0 e];exact this);omega
 have E:(j*BB+o)%e<BB:=Nat.lt_trans (G3 _ (by omega)) b1;refine w310 ?_;have K:((lv.length:Nat):Int)=((m+2:Nat):Int):=by rw[hl]
 have N:((m+2:Nat):Int)-1=((m+1:Nat):Int):=by omega
 have e3:(j:Int)*4294967296=((j*4294967296:Nat):Int):=by omega
 simp (disch:=omega) only[uI,uL,uE,V,uW,t310,iA,H.c,xA,yC,qH,K,g1,ab,N,A2,g2,ac,g3,ad,gG,e3];have e4:fJ Nat.lor .u64 ((j*4294967296:Nat):Int) (o:Int)=some (.e .u64 ((j*4294967296+o:Nat):Int)):=by
  rw[wZ (k:=.u64) (show j*4294967296<zI .u64 by show _<18446744073709551616;omega) (show o<zI .u64 by show _<18446744073709551616;omega)];have:=Kb (a:=j) (b:=o) (n:=32) c4;rw[show j*4294967296=j*2^32 by rfl,this]
 rw[e4];simp only[xA,yC];have e5:F9 .u64 ((j*4294967296+o:Nat):Int) (e:Int)=some (.e .u64 (((j*4294967296+o) / e:Nat):Int)):=EL (by omega) (by
  have h:(j*4294967296+o) / e<=4294967296+1:=by rw[w]at q;exact q
  generalize (j*4294967296+o) / e=z at h ⊢;exact gG (by omega) (by omega))
 rw[e5];simp only[xA,yC];rw[Yf (by omega)];simp only[xA,yC];refine zbn p H (by omega) h5 h2 b5 b2 (by omega) b1 hU aa hV am hq hh (λd q1 q2 q3=>?_) _ _ ?_ (by rw[w]at U ⊢;exact U) (by rw[w]at q ⊢;exact q) (by rw[w]at E ⊢;exact E)
 .refine zwd ?_;simp only[uI,V,zd3,iA,H.c,xA,yC,qH,K];have a1:=XS (t:=t) (A:=A) (Z:=Z) (lu:=lu) (lv:=lv) (v:=v) (b:=b) (cap:=cap) (d:=d) (t0:=t0) (Q:=Q) hv (by omega) u C hb q3 (by omega) D (by omega) ?_ lv.length 0 0 0 t' [] (by omega) ht a6 (by simpa using ho) rfl (λx hx=>by cases hx) (by first | omega | decide) (by first | omega | decide) (by simp[A4])
  .rw[hl]at a1;exact a1
  .intro t2 W f bo k1 k2 k3 k4 k5 k6 k7 k8;have ae:A4 BB (W++[f])<BB^(lv.length+1):=by
    have:=qQ (B:=BB) jK (Di k5 k6);simp only[E1,D6,G2,k4]at this;exact this
   have ao:A4 BB lv<BB^lv.length:=qQ jK u;have aq:=Q3 (A4 BB lu) (A4 BB lv);have ap:A4 BB lu%A4 BB lv<A4 BB lv:=G3 _ y;have S:A4 BB (W++[f])=A4 BB W+BB^lv.length*f:=by rw[rQ,k4]
   split
   .rename_i hz;subst hz;rw[r9,L9]at k8;have M:d=A4 BB lu / A4 BB lv:=by
     refine Nat.le_antisymm ?_ q1;rw[Nat.le_div_iff_mul_le y];omega
    have hr:A4 BB (W++[f])=A4 BB lu%A4 BB lv:=by
     rw[M,F0]at k8;omega
    have L:f=0:=by
     rcases Z9 f with g | g
     .exact g
     .exfalso;have:=F6 (BB^lv.length) g;rw[Nat.mul_one]at this;omega
    subst L;rw[M];exact hQ t2 W k1 k2 k3 (by omega) k5 (by rw[<- hr,S];simp) hq
   .rename_i hz;have af:bo=1:=by omega
    subst af;rw[Nat.mul_one]at k8;have M:d=A4 BB lu / A4 BB lv+1:=by
     refine Nat.le_antisymm q2 ?_;rcases Q2 (A4 BB lu / A4 BB lv) d with g | g
     .exact g
     .exfalso;have:d*A4 BB lv<=A4 BB lu:=Nat.le_trans (D4 _ g) (Nat.div_mul_le_self _ _);omega
    have ah:A4 BB (W++[f])+A4 BB lv=A4 BB lu%A4 BB lv+BB^(lv.length+1):=by
     rw[M,D7,Nat.one_mul,F0 (A4 BB lu / A4 BB lv)]at k8;omega
    refine ZX (t:=t) (A:=A) (Z:=Z) (t0:=t0) hv (by omega) u C hb (by rw[M];exact Nat.succ_pos _) (by omega) W k4 k5 f k6 (by omega) (λt3 r up n1 n2 n3 n4 n5 n6=>?_) lv.length 0 0 t2 [] (by omega) k1 k2 (by simpa using k3) rfl (λx hx=>by cases hx) (by first | omega | decide) (by simp[A4])
    have a7:A4 BB r<BB^lv.length:=by
     have:=qQ (B:=BB) jK n4;rw[n3]at this;exact this
    rw[S,K7]at ah;have I:A4 BB r+BB^lv.length*(up+f)=A4 BB lu%A4 BB lv+BB^lv.length*BB:=by
     rw[K9];omega
    have s:up+f=BB/\A4 BB r=A4 BB lu%A4 BB lv:=by
     have X:A4 BB lu%A4 BB lv<BB^lv.length:=by omega
     have hB:0<BB^lv.length:=by omega
     have K:(A4 BB r+BB^lv.length*(up+f)) / BB^lv.length=up+f:=by rw[Nat.add_mul_div_left _ _ hB,Nat.div_eq_of_lt a7];simp
     have N:(A4 BB lu%A4 BB lv+BB^lv.length*BB) / BB^lv.length=BB:=by rw[Nat.add_mul_div_left _ _ hB,Nat.div_eq_of_lt X];simp
     rw[I,N]at K;refine⟨K.symm,?_⟩;rw[<- K]at I;omega
    have ai:(f+up)%BB=0:=by rw[T8,s.1];exact Nat.mod_self _
    rw[ai]at n2;have ag:d-1=A4 BB lu / A4 BB lv:=by rw[M];exact Nat.add_sub_cancel _ _
    rw[ag];exact hQ t3 r (k1.g hb (λc hc=>by
     rw[n1 c hc,<- k2 c hc])) n1 n2 (by omega) n4 s.2 hq
 .rw[F0,w];exact Q3 _ _
end Go.Proofs
namespace Go.Am
def VE{B p K:Nat}(a:B=p*K)(b:0<p)(m:0<K){x y:Nat}{l:List Nat}(n:x<B) :
  A4 B (x::y::l) / p=(y*B+x) / p%B+B*(A4 B (y::l) / p):=by
 have c:A4 B (x::y::l)=x+p*(K*A4 B (y::l)):=by
  show x+B*A4 B (y::l)=_;rw[a,F4]
 have d:y*B+x=x+p*(K*y):=by rw[a,T8,F0 y,F4]
 have i:A4 B (y::l)%p=y%p:=by
  show(y+B*A4 B l)%p=_;rw[a,F4,Nat.add_mul_mod_self_left]
 have e:K*y=K*(y%p)+B*(y / p):=by
  grind [Nat.div_add_mod]
 have f:K*A4 B (y::l)=K*(y%p)+B*(A4 B (y::l) / p):=by
  grind [Nat.div_add_mod]
 have j:x / p<K:=Q4 (by omega);have g:x / p+K*(y%p)<B:=by
  have h:y%p<p:=G3 _ b;have k:K*(y%p+1)<=K*p:=F6 _ h
  grind
 rw[c,Nat.add_mul_div_left _ _ b,d,Nat.add_mul_div_left _ _ b,e,<- Nat.add_assoc,Nat.add_mul_mod_self_left,Nat.mod_eq_of_lt g,f,<- Nat.add_assoc]
end Go.Am
namespace Go.Proofs
open Go Go.Am
variable [fC]
variable {t:G uA}
def zfj{l:List Nat}{b L lo hi:Nat}(o:zH t b .u32 l)(j:lo<=hi)(h:hi<=L)(r:lo<L) :
  aF Y 253 ⟨0,t⟩ (.m b 0 L L) (some (.e .i64 (lo:Int))) (some (.e .i64 (hi:Int)))=some (.m b lo (hi-lo) (L-lo)):=by
 obtain⟨c,i,_⟩:=o;obtain⟨⟨y,d,e⟩,⟨z,f,g,q⟩⟩:=aH;unfold aF;rw[d,lA];have m:∀y (k:Nat),Bm y (.e .i64 (k:Int))=sB (Nat.ble k y) (some k):=λy k=>rfl;unfold gP;simp only[O.w,O.u];rw[e,lA];unfold oS;rw[f,lA];unfold xT Fy;simp only[m];rw[show Nat.ble hi L=true from mF.2 h];simp only[xE,lA];rw[show Nat.ble lo hi=true from mF.2 j];simp only[xE,lA];have a:iP ⟨0,t⟩ b z.b L lo false=false:=by
  unfold iP eD;rw[i,lA];rfl
 rw[a,E9,cond_false];have n:mQ ⟨0,t⟩ b z.b L lo false=true:=by
  unfold mQ eD;rw[i,lA];rfl
 rw[show Nat.ble hi L=true from mF.2 h,n];simp only[Bool.and_self,xE];have p:Nat.beq L lo=false:=by
  grind [zD]
 rw[p,cond_false,g,Nat.mul_one,D8]
def VF{P:O}{Z c:List Nat}{b n s L cn:Nat}{Q:mB}(hn:n<900000)(hc:c.length=n+1)(o:pB BB c)(z:c[n]?=some cn)(f:Y.a<=b)(hs:s<32)(hL:n+1<=L)
  (E:∀t' W,jF b t t'->zH t' b .u32 (W++[cn]++Z)->W.length=n->pB BB W->A4 BB W+BB^n*(cn / 2^s)=A4 BB c / 2^s->jp 295 6 [.e .i64 (n:Int),.e .i64 (s:Int),.m b 0 L L,P,.e .i64 (n:Int),.e .i64 (n:Int)] t' Q) :
  ∀(k i:Nat) (t':G uA) (W:List Nat),i+k=n->jF b t t'->zH t' b .u32 (W++c.drop i++Z)->W.length=i->pB BB W->A4 BB W+BB^i*(A4 BB (c.drop i) / 2^s)=A4 BB c / 2^s →
  jp 295 6 [.e .i64 (n:Int),.e .i64 (s:Int),.m b 0 L L,P,.e .i64 (n:Int),.e .i64 (i:Int)] t' Q:=by
 intro k;induction k with
 | zero=>
  intro i t' W hi a v h m e;have F:i=n:=by omega
  subst F;have hd:c.drop i=[cn]:=by
   rw[iU z,F1 (by omega)]
  grind [A4]
 | succ k ih=>
  intro i t' W hi a v h m e;have g:=sR;obtain⟨x,J⟩:=A6 (l:=c) (i:=i) (by omega);obtain⟨y,M⟩:=A6 (l:=c) (i:=i+1) (by omega);have r:x<4294967296:=by have:=oN o J;omega
  have u:y<4294967296:=by have:=oN o M;omega
  have q:c.drop (i+1)=y::c.drop (i+2):=iU M;have D:c.drop i=x::y::c.drop (i+2):=by rw[iU J,q]
  have I:=Nx (A:=W) (w:=c.drop i) (Z:=Z) (j:=0) (x:=x) (by grind);have N:=Nx (A:=W) (w:=c.drop i) (Z:=Z) (j:=1) (x:=y) (by grind);rw[h]at I N;rw[L9]at I;have U:=Lf aH (b:=b) (n:=L) (cap:=L) (j:=i) (by omega);have X:=Lf aH (b:=b) (n:=L) (cap:=L) (j:=i+1) (by omega);have l0:=v.f (C:=Y) I tI rfl;have l1:=v.f (C:=Y) N tI rfl;have T:(i:Int)+1=((i+1:Nat):Int):=by omega
  have R:(y:Int)*4294967296=((y*4294967296:Nat):Int):=by omega
  obtain⟨t1,s1,s2,s3⟩:=v.e (C:=Y) f (j:=i) (by grind) ((y*4294967296+x) / 2^s%4294967296) tI rfl;have d:=Sm (A:=W) (w:=c.drop i) (Z:=Z) (j:=0) (x:=(y*4294967296+x) / 2^s%4294967296) (by grind);rw[L9,h]at d;rw[d]at s2;refine zrw ?_;simp only[uL,uE,uC,V,yl,iA,iE];rw[A5 (by omega)];simp (disch:=omega) only[T,A2,U,X,xA,l0,l1,yC];rw[gG (n:=(y:Int)) (by omega) (by omega),R,gG (n:=((y*4294967296:Nat):Int)) (by omega) (by omega),gG (n:=(x:Int)) (by omega) (by omega),O6 u r,xA,yC,xA,PG (by omega),xA,yC,xA]
  have S:cA .u32 (((y*4294967296+x) / 2^s:Nat):Int)=(((y*4294967296+x) / 2^s%4294967296:Nat):Int):=by
   grind [yY]
  rw[S];intro _ _ _;rw[s1,xA];have hw:(y*4294967296+x) / 2^s%4294967296<BB:=by omega
  refine ih (i+1) t1 (W++[(y*4294967296+x) / 2^s%4294967296]) (by omega) (a.a s3) ?_ (by simp[h]) (Di m hw) ?_
  .grind
  .have H:=VE (B:=BB) (p:=2^s) (K:=2^(32-s)) (by rw[<- Nat.pow_add,show s+(32-s)=32 by omega,g]) (Nat.pow_pos (by decide)) (Nat.pow_pos (by decide)) (x:=x) (y:=y) (l:=c.drop (i+2)) (by omega);rw[<- e,D,H,rQ,h,q,K7,K9,g];grind
end Go.Proofs
namespace Go.Proofs
open Go Go.Am
variable [fC]
variable {t:G uA}
def YS{lv:List Nat}{v:O}{b g m s L f U:Nat}{t0:G uA}{Q:mB}(hv:bA t0 1 (tC .u32 lv) v)(hl:lv.length=m+2)(hm:m<800000)(X:pB BB lv)(k:Y.a<=b)(d:Y.a<=g)(hb:t0.c b=none)(S:t0.c g=none)(B:b≠g)(hL:L<1000000)
  (I:∀J,lv[m+1]?=some J->2147483648<=J) (R:0<A4 BB lv)
  (o:∀t' q r Z,zB t0 t'->zH t' b .u32 (r++[0]++Z)->zH t' g .u32 q->r.length=m+2->pB BB r->pB BB q->q.length=f->m+3+Z.length=L->A4 BB r<A4 BB lv->U=A4 BB lv*A4 BB q+A4 BB r->jp 295 6 [.e .i64 ((m+2:Nat):Int),.e .i64 (s:Int),.m b 0 L L,.m g 0 f f,.e .i64 ((m+2:Nat):Int),.e .i64 0] t' Q) :
  ∀(j:Nat) (A c Z a:List Nat) (t':G uA),A.length=j->c.length=m+3->pB BB A->pB BB c->pB BB a->A.length+(m+3)+Z.length=L->j+1+a.length=f->A4 BB c<BB*A4 BB lv->zB t0 t'->zH t' b .u32 (A++c++Z)->zH t' g .u32 (List.replicate (j+1) 0++a)->U=A4 BB lv*(BB^(j+1)*A4 BB a)+A4 BB (A++c) →
  jp 295 2 [.e .i64 ((m+2:Nat):Int),.e .i64 (s:Int),v,.m b 0 L L,.m g 0 f f,.e .i64 (j:Int)] t' Q:=by
 intro j;induction j using Nat.strongRecOn with
 | ind j ih=>
  intro A c Z a t' K hc w T z a8 aa W ht ho a1 hU;have gs:=zfj (b:=b) (L:=L) (lo:=j) (hi:=j+(m+2)+1) ho (by omega) (by omega) (by omega);rw[show j+(m+2)+1-j=m+3 by omega]at gs;have e1:(j:Int)+((m+2:Nat):Int)=((j+(m+2):Nat):Int):=by omega
  have e2:((j+(m+2):Nat):Int)+1=((j+(m+2)+1:Nat):Int):=by omega
  refine zrx ?_;simp only[uL,V,uW,yk,iA,mI];rw[A5 (by omega)];simp (disch:=omega) only[e1,A2,e2,gs,xA,q310];subst K;refine zot (A:=A) (Z:=Z) (t:=t') (t0:=t0) hv hl hm X k hb hc T (by omega) I W ht (jF.d _ _) ho (λt2 r k1 k2 k3 k4 k5 k6 k7=>?_);have E:=a1.o (λe=>B e.symm) k2;have g1:=Lf aH (b:=g) (n:=f) (cap:=f) (j:=A.length) (by omega);obtain⟨t3,s1,s2,s3⟩:=E.e (C:=Y) d (j:=A.length) (by grind) (A4 BB c / A4 BB lv) tI rfl
  have F:(List.replicate (A.length+1) 0++a).set A.length (A4 BB c / A4 BB lv)=List.replicate A.length 0++((A4 BB c / A4 BB lv)::a):=by
   simp_all [List.replicate_succ']
  rw[F]at s2;rw[yC,xA,g1,xA];intro _ _ _;rw[s1,xA];have ac:=k3.o B s3;have H:=k1.g S s3;have hr:A4 BB r<A4 BB lv:=by grind [Nat.mod_lt]
  have ab:=Q3 (A4 BB c) (A4 BB lv);have P:U=A4 BB lv*(BB^A.length*A4 BB ((A4 BB c / A4 BB lv)::a))+A4 BB (A++r):=by
   grind [Mr,A4]
  rcases K:A.length with _ | h
  .have D:A=[]:=List.eq_nil_of_length_eq_zero K;subst D;refine zrx ?_;have M:((0:Nat):Int)-1 = -1:=by omega
   rw[M];simp only[uL,V,uW,yk,iA,mI];rw[A3 (by omega)];refine o t3 _ r Z H (by simp_all) (by omega) k4 k5 (λx u=>?_) (by grind) (by omega) hr (by simp_all);rcases C6.1 u with rfl | u
   .exact k7
   .exact z x u
  .obtain⟨x,u⟩:=A6 (l:=A) (i:=h) (by omega);have N:A=A.take h++[x]:=by
    rw[<- kT u,L8 (by omega)]
   have a7:x<BB:=oN w u;have M:((h+1:Nat):Int)-1=(h:Int):=by omega
   rw[M];have a6:A4 BB (x::r)=x+BB*A4 BB r:=rfl;refine ih h (by omega) (A.take h) (x::r) (0::Z) ((A4 BB c / A4 BB lv)::a) t3 (by grind) (by simp[k4]) (Iw w _) (λy p=>?_) (λy p=>?_) (by grind) (by grind) ?_ H ?_ ?_ ?_
   .rcases C6.1 p with rfl | p
    .exact a7
    .exact k5 y p
   .rcases C6.1 p with rfl | p
    .exact k7
    .exact z y p
   .rw[a6];have:=F6 BB hr;rw[Nat.mul_succ]at this;omega
   .have:A.take h++x::r++0::Z=A++(r++[0])++Z:=by
     conv=>rhs;rw[N]
     simp
    grind
   .grind
   .rw[P,K];have:A++r=A.take h++x::r:=by
     grind
    rw[this]
end Go.Proofs
namespace Go.Am
def zjn{a b q R p:Nat}(c:0<p)(h:a*p=b*p*q+R)(f:R<b*p):a=b*q+R / p/\R / p<b:=by
 have d:p ∣ R:=(Nat.dvd_add_right (⟨b*q,by rw[F0 b p,F4]⟩:p ∣ b*p*q)).1 (h ▸ ⟨a,F0 a p⟩);obtain⟨e,rfl⟩:=d;rw[Nat.mul_div_cancel_left _ c];refine⟨Nat.eq_of_mul_eq_mul_left c ?_,Nat.lt_of_mul_lt_mul_left (a:=p) ?_⟩
 all_goals grind
def qd{B p K n a:Nat}{b c:List Nat}(A:B=p*K)(u:0<p)(g:pB B b)(C:b.length=n+1)(l:b[n]?=some a)(D:a*p<B)(j:B<=2*(a*p))(w:pB B c)(v:c.length=n+2)(E:A4 B c=A4 B b*p) :
  A4 B (c.take (n+1))=A4 B b*p/\∀x,(c.take (n+1))[n]?=some x->B<=2*x:=by
 have f:0<B:=by omega
 have t:A4 B b=A4 B (b.take n)+B^n*a:=by
  have:=Jr B b n
  simp_all [iU,F1,A4]
 have k:A4 B (b.take n)<B^n:=by
  have:=qQ f (Iw g n)
  simp_all
 have s:a<K:=by
  simp_all [F0]
 have y:A4 B b*p<B^(n+1):=by
  have m:A4 B b<B^n*(a+1):=by grind
  have o:B^n*(a+1)<=B^n*K:=F6 _ s;have q:A4 B b*p<B^n*K*p:=Nat.mul_lt_mul_of_pos_right (by omega) u
  grind
 have d:=Jr B c (n+1);have i:(c.take (n+1)).length=n+1:=by grind
 rw[i]at d;have H:A4 B (c.drop (n+1))=0:=by
  rcases Z9 (A4 B (c.drop (n+1)))with h | h
  .exact h
  .exfalso;have:=F6 (B^(n+1)) h;omega
 have e:A4 B (c.take (n+1))=A4 B b*p:=by simp_all
 refine⟨e,λx F=>?_⟩;have m:A4 B (c.take (n+1))=A4 B ((c.take (n+1)).take n)+B^n*x:=by
  have:=Jr B (c.take (n+1)) n
  simp_all [iU,F1,A4]
 have o:A4 B ((c.take (n+1)).take n)<B^n:=by
  grind [qQ,Iw]
 have q:B^n*(a*p)<=A4 B b*p:=by
  grind [Nat.add_mul]
 have r:B^n*(a*p)<B^n*(x+1):=by grind
 have z:a*p<x+1:=Nat.lt_of_mul_lt_mul_left r;omega
def qe{B p n j:Nat}{a b c:List Nat}(h:0<B)(i:pB B a)(k:B^n<=A4 B b)(t:a.length=j+(n+1))(m:c.length=a.length+1)(l:0<p)(u:A4 B c=A4 B a*p):A4 B (c.drop j)<B*(A4 B b*p):=by
 have e:=Jr B c j;have d:(c.take j).length=j:=by grind
 rw[d]at e;have f:A4 B a<B^(j+(n+1)):=by grind [qQ]
 have o:A4 B a*p<B^(j+(n+1))*p:=Nat.mul_lt_mul_of_pos_right f l;have q:B^(j+(n+1))*p=B^j*(B*(B^n*p)):=by
  rw[Nat.pow_add,K7,F0 (B^n) B,F4,F4]
 have g:B^j*A4 B (c.drop j)<B^j*(B*(B^n*p)):=by omega
 have r:=Nat.lt_of_mul_lt_mul_left g;have s:B*(B^n*p)<=B*(A4 B b*p):=F6 _ (D4 _ k);omega
end Go.Am
namespace Go.Proofs
open Go Go.Am
variable [fC]
variable {t:G uA}
def JD{l:List Nat}{b L hi:Nat}(j:zH t b .u32 l)(h:hi<=L)(o:0<L) :
  aF Y 253 ⟨0,t⟩ (.m b 0 L L) none (some (.e .i64 (hi:Int)))=some (.m b 0 hi L):=by
 obtain⟨c,g,_⟩:=j;obtain⟨⟨y,d,e⟩,⟨z,f,m,n⟩⟩:=aH;unfold aF;rw[d,lA];have i:∀y (k:Nat),Bm y (.e .i64 (k:Int))=sB (Nat.ble k y) (some k):=λy k=>rfl;unfold gP;simp only[O.w,O.u];rw[e,lA];unfold oS;rw[f,lA];unfold xT Fy;simp only[i];rw[show Nat.ble hi L=true from mF.2 h];simp only[xE,lA];have a:iP ⟨0,t⟩ b z.b L 0 false=false:=by
  unfold iP eD;rw[g,lA];rfl
 rw[a,E9,cond_false];have p:mQ ⟨0,t⟩ b z.b L 0 false=true:=by
  unfold mQ eD;rw[g,lA];rfl
 grind [mF,xE]
theorem JT{b o n c:Nat}:A8 10 (.m b o n c) (.m b o n c)=true:=by
 simp[A8]
def YR{q W Z:List Nat}{b c n s L a:Nat}{Q:mB}(g:zH t b .u32 (W++[0]++Z))(d:zH t c .u32 q)(v:W.length=n)(w:n<1000000)(r:n+1+Z.length=L)(x:q.length=a)(m:a<1000000)
  (u:∀e f,bA t 1 (tC .u32 (vF q)) e->bA t 1 (tC .u32 (vF W)) f->Q (.p [e,f]) t) :
  jp 295 6 [.e .i64 (n:Int),.e .i64 (s:Int),.m b 0 L L,.m c 0 a a,.e .i64 (n:Int),.e .i64 (n:Int)] t Q:=by
 have h:=JD (L:=L) (hi:=n) g (by omega) (by omega);have i:bA t 1 (tC .u32 W) (.m b 0 n L):=by
  have:=g.g (off:=0) (n:=n) (cap:=L) (by grind) (by omega)
  simp_all
 have j:bA t 1 (tC .u32 q) (.m c 0 a a):=by
  have:=d.m (cap:=a) (by omega)
  simp_all
 obtain⟨e,k,o⟩:=Gx (by omega) j;obtain⟨f,l,p⟩:=Gx (by omega) i;refine zrw ?_;simp only[uL,uE,uC,V,yl,iA,iE];rw[A3 (by omega)];simp only[h,xA,cq,k,l];grind [JT]
def FS{a b:List Nat}{u v:O}{Q:mB}(hu:bA t 1 (tC .u32 a) u)(hv:bA t 1 (tC .u32 b) v)(ha:a.length<700000)(w:pB BB a)(A:pB BB b)(N:B5 a)(f:B5 b)(y:b≠[])
  (hQ:∀t' q r qv K,zB t t'->bA t' 1 (tC .u32 q) qv->bA t' 1 (tC .u32 r) K->pB BB q->pB BB r->B5 q->B5 r->A4 BB a=A4 BB b*A4 BB q+A4 BB r->A4 BB r<A4 BB b->Q (.p [qv,K]) t') :
  Wc Y F 295 [u,v] t Q:=by
 have o:=sR;have M:1<BB:=by omega
 have T:=zj6 M w A N f;refine w295 ?_;simp only[uI,uL,uX,V,uW,t295,iA,q300,zs5 (by omega) hu hv,xA,yC,iE];by_cases hc:zQ a b<0
 .rw[A5 hc];simp only[q307];refine zpg hu (by omega) λt' v' h1 h2=>?_;exact hQ t' [] a _ _ h1 ⟨[],.inl ⟨rfl,rfl⟩,by simp[tC,tD]⟩ h2 (λx H=>by cases H) w (λh=>absurd rfl h) N (by simp[A4]) (T.1 hc)
 .rw[A3 hc];have af:A4 BB b<=A4 BB a:=Nat.le_of_not_lt λh=>hc (T.2 h);have al:b.length<=a.length:=gV M w f af;simp only[hv.c,xA,yC,qH,rI];by_cases h1:b.length=1
  .rw[A5 (by omega)];obtain⟨d,rfl⟩:∃d,b=[d]:=by
    match b,h1 with
    | [d],_=>simp_all
   have hd:d<4294967296:=by have:=A d (by simp);omega
   have ae:0<d:=by have:=f (by simp);grind
   obtain⟨c,off,g1,g2⟩:=hv.f aH (i:=0) (x:=d) rfl;have ab:zC Y 253 v (.e .i64 0)=some (.j c off):=g1;simp only[ab,g2,xA,yC,q236];refine RU hu (by omega) (by simp_all) hd ae λt' v' q r k1 k2 k3 k4 k5 k6=>?_;simp only[tK,O.ay,lA,xI,I2,I3,xA,yC];intro b' ac _;obtain⟨H',m1,m2,m3⟩:=DP (k:=.u32) lN rfl tI rfl rfl r trivial ac;have hR:=m2.m (cap:=1) (by simp);obtain⟨K,f1,f2⟩:=Gx (by simp) hR;have aa:oB Y F 247 [.m b' 0 1 1] H'.t=some K:=f1
   rw[m1];simp only[xA,cq,aa];rw[<- o]at k3 k6;have ag:pB BB [r]:=λx H=>by grind
   refine hQ H'.t (vF q) (vF [r]) v' K (k1.d m3) (k2.a m3) f2 (iW k3) (iW ag) (iY _) (iY _) ?_ ?_
   all_goals grind [wV,A4]
  .rw[A3 (by omega)];have ad:0<b.length:=List.length_pos_iff.2 y;obtain⟨m,hm⟩:∃m,b.length=m+2:=⟨b.length-2,by omega⟩;obtain⟨j,hj⟩:∃j,a.length=j+(m+2):=⟨a.length-(m+2),by omega⟩;obtain⟨a6,g⟩:=A6 (l:=b) (i:=m+1) (by omega);have a1:a6<4294967296:=by have:=oN A g;omega
   have ai:0<a6:=by
    have:=f y
    grind
   obtain⟨s,hs,ap,aq,ah⟩:=zhb (t:=t) a1 ai;obtain⟨c,off,g1,g2⟩:=hv.f aH g;have eb:((m+2:Nat):Int)-1=((m+1:Nat):Int):=by omega
   simp (disch:=omega) only[hm,eb,A2,g1,g2,xA,yC,q308,ah,q309];refine JJ hv (by omega) (by simp_all) hs λt1 b1 rb k1 k2 k3 k4 k5 k6 k7=>?_;rw[<- o]at k6 k7;rw[hm]at k5 ⊢;have hK:BB=2^s*2^(32-s):=by rw[<- Nat.pow_add,show s+(32-s)=32 by omega,o]
   have hp:0<2^s:=Nat.pow_pos (by decide);obtain⟨w1,w2⟩:=qd (n:=m+1) hK hp A hm g (by omega) (by omega) k6 k5 k7;have e1:=JD (L:=m+2+1) (hi:=m+2) k4 (by omega) (by omega);have ak:bA t1 1 (tC .u32 (rb.take (m+2))) (.m b1 0 (m+2) (m+2+1)):=by
    have:=k4.g (off:=0) (n:=m+2) (cap:=m+2+1) (by omega) (by omega)
    simp_all
   simp only[e1,xA];refine JJ (hu.a k1) (by omega) (by simp_all) hs λt2 b2 J n1 n2 n3 n4 n5 n6 n7=>?_;rw[<- o]at n6 n7;rw[hj]at n5 ⊢;have ea:((j+(m+2):Nat):Int)-((m+2:Nat):Int)=(j:Int):=by omega
   have a7:(j:Int)+1=((j+1:Nat):Int):=by omega
   simp (disch:=omega) only[hu.c,qH,hj,xA,yC,ea,a7,A2];intro bq E z;obtain⟨t3,p1,p2,p3,p4⟩:=La (C:=Y) (k:=.u32) lN rfl tI rfl rfl (by decide) (n:=j+1) (by omega) E;rw[p1];have el:vC (.m bq 0 (j+1) (j+1))=some (.e .i64 ((j+1:Nat):Int)):=rfl;have a8:((j+1:Nat):Int)-1=(j:Int):=by omega
   simp (disch:=omega) only[xA,el,yC,a8,A2];have X:b2≠bq:=by
    intro e;obtain⟨c,am,_⟩:=n4
    simp_all
   have R:t1.c bq=none:=by
    cases hg:t1.c bq with
    | none=>rfl
    | some x=>rw[n1 _ _ hg]at E;cases E
   have D:0<A4 BB (rb.take (m+2)):=by
    rw[w1];refine Nat.mul_pos ?_ hp;have:=zb (B:=BB) f y
    grind
   have P:BB^(m+1)<=A4 BB b:=by
    have:=zb (B:=BB) f y
    simp_all
   have ao:=qe (n:=m+1) (j:=j) (p:=2^s) jK w P (by omega) (by omega) hp n7;have aj:J.take j++J.drop j=J:=List.take_append_drop _ _;refine YS (U:=A4 BB J) ak (by grind) (by omega) (Iw k6 _) n3 z n2 R X (by omega) (λx H=>by grind) D (λt4 q r Z z1 z2 z3 z4 z5 z6 z7 z8 z9 I=>?_) j (J.take j) (J.drop j) [] [] t3 (by grind) (by grind) (Iw n6 _) (GW n6 _) (λx H=>by cases H) (by grind) (by simp) ?_ (n1.d p3) ?_ (by simp_all) ?_
   .have S:pB BB (r++[0]):=Di z5 jK;refine VF (t:=t4) (Z:=Z) (c:=r++[0]) (cn:=0) (by omega) (by simp[z4]) S (by simp_all) n3 hs (by omega) (λt5 W y1 y2 y3 y4 y5=>?_) (m+2) 0 t4 [] (by omega) (jF.d _ _) (by simp_all) rfl (λx H=>by cases H) (by rw[H6,Nat.pow_zero,Nat.one_mul];exact D8 _);have y6:A4 BB W=A4 BB r / 2^s:=by
     grind [rQ,Nat.zero_div]
    rw[w1]at z9 I;rw[n7]at I;obtain⟨x1,x2⟩:=zjn hp I z9;refine YR y2 (z3.o (λe=>X e.symm) y1) y3 (by omega) (by omega) z7 (by omega) λqv K x3 x4=>?_;have ar:zB t t5:=k1.d (z1.g n2 y1)
    grind [iW,iY,wV]
   .simp_all
   .rw[aj,Do];exact n4.p p3
   simp_all [A4]
end Go.Proofs
namespace Go.Am
variable {B P W u x:Nat}
def wd (l:List Nat)(i:Nat):Nat:=(l[i]?).getD 0
def Jk (a:0<B){l:List Nat}(h:pB B l)(i:Nat):wd l i<B:=by
 unfold wd
 cases b:l[i]? with
 | none=>exact a
 | some x=>exact oN h b
def Qn(B:Nat)(l:List Nat)(i:Nat):A4 B (l.take (i+1))=A4 B (l.take i)+B^i*wd l i:=by
 unfold wd
 cases a:l[i]? with
 | none=>
  grind [List.take_of_length_le]
 | some x=>
  have b:=(G1.1 a).1;rw[kT a,rQ];grind
def zjq{v a b w y bo ai bi x' y' lx ly bo':Nat}(h:W+P*x+v*b=u*a+P*(y+bo))(d:B*x'+lx=x+u*ai)(e:B*y'+ly=y+v*bi)(c:lx+B*bo'=w+ly+bo) :
  (W+P*w)+P*B*x'+v*(b+P*bi)=u*(a+P*ai)+P*B*(y'+bo'):=by
 grind
theorem zoz{z X Y:Nat}(h:W+P*x+Y=X+P*z)(b:W<P)(c:X<P)(a:Y<=X):W=X-Y:=by
 rcases Nat.lt_trichotomy x z with g | g | g
 .have:=F6 P g
  grind
 .grind
 .have:=F6 P g
  grind
def TB{a:Nat}(c:x<=u)(b:a<B):(x+u*a) / B<=u:=by
 have h:x+u*a<=u*B:=by
  have:=F6 u (Nat.succ_le_of_lt b)
  grind
 simp_all [Nat.div_le_of_le_mul,F0]
end Go.Am
namespace Go.Proofs
open Go Go.Am
variable [fC]
variable {t:G uA}
theorem KX{x u a:Nat}(d:x<=u)(c:u<4294967296)(b:a<4294967296):cA .u64 ((x:Int)+cA .u64 ((u:Int)*cA .u64 (a:Int)))=((x+u*a:Nat):Int):=by
 have h:u*a<=4294967295*4294967295:=G5 (by omega) (by omega)
 grind [gG]
def zb2{e f:List Nat}{g j w:O}{u v x y bo n i:Nat}{Q:mB}(p:bA t 1 (tC .u32 e) g)(q:bA t 1 (tC .u32 f) j)(l:pB BB e)(m:pB BB f)(B:u<4294967296)(C:v<4294967296)(D:x<=u)(E:y<=v)(hi:i<n)
  (h:jp 302 21 [.e .u64 (u:Int),g,.e .u64 (v:Int),j,w,.e .u64 ((x+u*wd e i:Nat):Int),.e .u64 ((y+v*wd f i:Nat):Int),.e .u32 (bo:Int),.e .i64 (i:Int),.e .i64 (n:Int),.e .i64 (i:Int)] t Q) :
  jp 302 2 [.e .u64 (u:Int),g,.e .u64 (v:Int),j,w,.e .u64 (x:Int),.e .u64 (y:Int),.e .u32 (bo:Int),.e .i64 (n:Int),.e .i64 (i:Int)] t Q:=by
 have A:=sR;have k:jp 302 17 [.e .u64 (u:Int),g,.e .u64 (v:Int),j,w,.e .u64 ((x+u*wd e i:Nat):Int),.e .u64 (y:Int),.e .u32 (bo:Int),.e .i64 (i:Int),.e .i64 (n:Int),.e .i64 (i:Int)] t Q:=by
  refine zwf ?_;simp only[uI,uL,V,zd7,iA,q.c,xA,yC,qH,iE];by_cases a:i<f.length
  .obtain⟨z,b⟩:=A6 a;have d:z<4294967296:=by have:=oN m b;omega
   obtain⟨c,o,r,s⟩:=q.f aH b
   grind [xA,yC,KX,wd]
  grind [wd]
 refine zru ?_;simp only[uI,uL,V,yn,iA,iE];rw[A5 (by omega)];simp only[p.c,xA,yC,qH];by_cases a:i<e.length
 .obtain⟨z,b⟩:=A6 a;have d:z<4294967296:=by have:=oN l b;omega
  obtain⟨c,o,r,s⟩:=p.f aH b
  grind [xA,yC,KX,wd]
 grind [wd]
end Go.Proofs
namespace Go.Proofs
open Go Go.Am
section
variable {a c:List Nat}{d e:O}{u v:Nat}{Q:mB}
variable [fC]
variable {t:G uA}
def zjr  {b n:Nat}{t0:G uA} (ha:bA t0 1 (tC .u32 a) d)(hb:bA t0 1 (tC .u32 c) e)(q:pB BB a)(r:pB BB c)(hu:u<4294967296)(hv:v<4294967296)(hn:n<1000000)(m:Y.a<=b)(I:t0.c b=none)
  (hQ:∀t' W N x z,zB t0 t'->bA t' 1 (tC .u32 (vF W)) N->W.length=n->pB BB W->A4 BB W+BB^n*x+v*A4 BB (c.take n)=u*A4 BB (a.take n)+BB^n*z->Q N t') :
  ∀(k i x y bo:Nat) (t':G uA) (W:List Nat),i+k=n->zB t0 t'->zH t' b .u32 (W++List.replicate k 0)->W.length=i->pB BB W->x<=u->y<=v->bo<2->A4 BB W+BB^i*x+v*A4 BB (c.take i)=u*A4 BB (a.take i)+BB^i*(y+bo) →
  jp 302 2 [.e .u64 (u:Int),d,.e .u64 (v:Int),e,.m b 0 n n,.e .u64 (x:Int),.e .u64 (y:Int),.e .u32 (bo:Int),.e .i64 (n:Int),.e .i64 (i:Int)] t' Q:=by
 intro k;have F:=sR
 induction k with
 | zero=>
  intro i x y bo t' W hi E D H o L M s l;have K:i=n:=by omega
  subst K;have e3:bA t' 1 (tC .u32 W) (.m b 0 i i):=by
   rw[List.replicate_zero,Do]at D;have:=D.m (cap:=i) (by omega)
   simp_all
  obtain⟨N,f1,f2⟩:=Gx (by omega) e3;refine zru ?_;simp only[uI,uL,V,yn,iA,iE];rw[A3 (by omega)];simp only[cq,f1,xA];grind
 | succ k ih=>
  intro i x y bo t' W hi E D H o L M s l;refine zb2 (ha.a E) (hb.a E) q r hu hv L M (by omega) ?_;have wa:=Jk jK q i;have wb:=Jk jK r i;have R:=TB L wa;have S:=TB M wb;have va:=Qn BB a i;have vb:=Qn BB c i;generalize wd a i=ai at *;generalize wd c i=bi at *;generalize hX:x+u*ai=X at *;generalize hY:y+v*bi=f at *;have ex:cA .u32 (X:Int)=((X%4294967296:Nat):Int):=by rw[yY];omega
  have ey:cA .u32 (f:Int)=((f%4294967296:Nat):Int):=by rw[yY];omega
  have fx:Int.fdiv (X:Int) 4294967296=((X / 4294967296:Nat):Int):=Il X 4294967296;have fy:Int.fdiv (f:Int) 4294967296=((f / 4294967296:Nat):Int):=Il f 4294967296;have T:=zl4 (t:=t') (x:=X%4294967296) (y:=f%4294967296) (b:=bo) (G3 _ (by decide)) (G3 _ (by decide)) s;obtain⟨w,Z⟩:∃w,w=(X%4294967296+8589934592-f%4294967296-bo)%4294967296:=⟨_,rfl⟩;obtain⟨bo',g⟩:∃bo':Nat,bo'=if X%4294967296<f%4294967296+bo then 1 else 0:=⟨_,rfl⟩
  rw[<- Z,<- g]at T;have A:w<BB:=by omega
  have J:bo'<2:=by rw[g];split<;>omega
  have U:X%4294967296+4294967296*bo'=w+f%4294967296+bo:=by
   rw[Z,g];split<;>omega
  have g1:=Lf aH (b:=b) (n:=n) (cap:=n) (j:=i) (by omega);obtain⟨t1,s1,s2,s3⟩:=D.e (C:=Y) m (j:=i) (by grind) w tI rfl;have h:=Wg (p:=W) (n:=k) (x:=w);rw[H]at h;rw[h]at s2;have ei:(i:Int)+1=((i+1:Nat):Int):=by omega
  refine zwe ?_;simp only[uL,uC,uX,V,zd5,iA,ex,ey,q311,T,xA,tK,O.ay,lA,xI,I2,I3,yC,g1,fx,fy,ei];intro _ _ _;rw[s1,xA,A2 (by omega) (by omega)];rw[F]at R S;refine ih (i+1) (X / 4294967296) (f / 4294967296) bo' t1 (W++[w]) (by omega) (E.g I s3) s2 (by simp[H]) (Di o A) R S J ?_;have a1:=zjq (B:=BB) (P:=BB^i) (ai:=ai) (bi:=bi) (x':=X / 4294967296) (y':=f / 4294967296) (lx:=X%4294967296) (ly:=f%4294967296) (w:=w) (bo':=bo') l (by grind) (by grind) (by simp_all)
  grind [rQ]
def Zc    (o:bA t 1 (tC .u32 a) d)(p:bA t 1 (tC .u32 c) e)(g:pB BB a)(j:pB BB c)(L:u<4294967296)(M:v<4294967296)(E:a.length<700000)(H:c.length<700000)(D:v*A4 BB c<=u*A4 BB a)
  (hQ:∀t' r m,zB t t'->bA t' 1 (tC .u32 r) m->pB BB r->B5 r->A4 BB r=u*A4 BB a-v*A4 BB c->Q m t') :
  Wc Y F 302 [.e .u64 (u:Int),d,.e .u64 (v:Int),e] t Q:=by
 have A:=sR;refine w302 ?_;simp only[uI,V,uW,t302,iA,o.c,p.c,xA,yC,qH];obtain⟨n,l,I,J,K⟩:∃n:Nat,(bif fB (a.length:Int) (c.length:Int)then(c.length:Int)else(a.length:Int))+1=(n:Int)/\a.length<n/\c.length<n/\n<700002:=by
  cases B:fB (a.length:Int) (c.length:Int)with
  | true=>have:=iE.1 B;exact⟨c.length+1,by simp,by omega,by omega,by omega⟩
  | false=>
   have:¬ ((a.length:Int)<(c.length:Int)):=λh=>by grind [iE]
   exact⟨a.length+1,by simp,by omega,by omega,by omega⟩
 rw[l,A2 (by omega) (by omega)];intro b i f;obtain⟨t',s,R,w,S⟩:=La (C:=Y) (k:=.u32) lN rfl tI rfl rfl (by decide) (n:=n) (by omega) i;rw[s];have q:vC (.m b 0 n n)=some (.e .i64 (n:Int)):=rfl;simp only[xA,q,yC];refine zjr o p g j L M (by omega) f i (λt2 W m x z k1 k2 k3 k4 P=>?_) n 0 0 0 0 t' [] (by omega) w (by simp_all) rfl (λx N=>by cases N) (by omega) (by omega) (by omega) (by simp[A4]);rw[L8 (by omega),L8 (by omega)]at P
 have Z:u*A4 BB a<BB^n:=by
  have y:=qQ jK g;have T:BB^(a.length+1)<=BB^n:=L7 jK (by omega);have U:u*A4 BB a<=u*BB^a.length:=F6 _ (Nat.le_of_lt y);have X:u*BB^a.length<BB*BB^a.length:=Nat.mul_lt_mul_of_pos_right (by omega) (Nat.pow_pos jK)
  grind
 grind [qQ,zoz,iW,iY,wV]
end
section
variable {v:O}{l:List Nat}{b:Nat}
variable [fC]
variable {t:G uA}
def zx7   (f:bA t 1 (tC .u32 l) v)(h:t.c b=none) :
  ∃H',dL v ⟨b,t⟩=some (.j b 0,H')/\zB t H'.t/\oA Y 253 ⟨0,H'.t⟩ (.j b 0)=some v:=by
 have e:v.s=[v]:=by
  obtain⟨g,d,_⟩:=f;rcases d with⟨rfl,_⟩ | ⟨_,_,_,rfl,_⟩<;>rfl
 refine⟨sG ⟨b,t⟩ [v] none,by unfold dL;rw[e],?_,?_⟩
 .intro c u a;show(t.d b _).c c=_
  grind [G.aa]
 .have a:(sG ⟨b,t⟩ [v] none).t.c b=some (.aa (G.ac [v]) 1 none):=by
   show(t.d b _).c b=_;rw[G.aa,A5 rfl];rfl
  unfold oA;simp only[O.ah,lA];rw[lN,lA];unfold eD;rw[a,lA];simp only[uA.a,lA];unfold dV;first
   | rfl
   | (rw[cond_false,G.o];rfl)
def AO  {i:Nat}(d:bA t 1 (tC .u32 l) v)(j:pB BB l)(a:oA Y 253 ⟨0,t⟩ (.j b 0)=some v):oB Y F 320 [.e .i64 (i:Int),.j b 0] t=some (.e .u64 ((wd l i:Nat):Int)):=by
 have g:=sR;refine lC.2 (w320 ?_);simp only[uI,uL,V,t320,iA,a,xA,d.c,yC,qH,mI];by_cases h:i<l.length
 .obtain⟨x,e⟩:=A6 h;have f:x<4294967296:=by have:=oN j e;omega
  obtain⟨c,k,m,n⟩:=d.f aH e
  grind [xA,yC,gG,wd]
 grind [wd]
def zil  {n s:Nat}(e:bA t 1 (tC .u32 l) v)(c:pB BB l)(N:3<=n)(K:n<1000000)(P:s<32)(m:(wd l (n-1)*4294967296+wd l (n-2))*2^s<18446744073709551616) :
  oB Y F 315 [v,.e .i64 (n:Int),.e .i64 (s:Int)] t=some (.e .u64 (((wd l (n-1)*4294967296+wd l (n-2))*2^s+wd l (n-3) / 2^(32-s):Nat):Int)):=by
 have J:=sR;refine mV (w315 ?_);simp only[uE,V,uW,t315,iA];intro b o _;obtain⟨M,I,d,j⟩:=zx7 e o;rw[I,xA];have Q:=Jk jK c (n-1);have R:=Jk jK c (n-2);have S:=Jk jK c (n-3);have x:=AO (i:=n-1) (e.a d) c j;have y:=AO (i:=n-2) (e.a d) c j;have A:=AO (i:=n-3) (e.a d) c j;generalize wd l (n-1)=g at *;generalize wd l (n-2)=u at *;generalize wd l (n-3)=w at *;have B:(n:Int)-1=((n-1:Nat):Int):=by omega
 have C:(n:Int)-2=((n-2:Nat):Int):=by omega
 have D:(n:Int)-3=((n-3:Nat):Int):=by omega
 have E:(32:Int)-(s:Int)=((32-s:Nat):Int):=by omega
 have f:∀a,eM (.q (.aa 320) [] [.j b 0]) [a]=some (320,[a,.j b 0]):=λ_=>rfl;have H:(g:Int)*4294967296=((g*4294967296:Nat):Int):=by omega
 rw[f,xA,B,A2 (by omega) (by omega),q320,x,xA,yC,xA,f,xA,C,A2 (by omega) (by omega),q320,y,xA,yC,xA,H,gG (by omega) (by omega),O6 (by omega) (by omega),xA,yC,xA,PH (by omega) m,xA,yC,xA,f,xA,D,A2 (by omega) (by omega),q320,A,xA,yC,xA,E,A2 (by omega) (by omega),PG (by omega),xA,yC,xA];have r:w / 2^(32-s)<2^s:=Q4 (by rw[<- Nat.pow_add,show 32-s+s=32 by omega];omega);have L:(2:Nat)^s<=2^31:=L7 (by decide) (by omega)
 generalize w / 2^(32-s)=z at r ⊢;have q:=Kb (a:=g*4294967296+u) (b:=z) (n:=s) r;generalize (g*4294967296+u)*2^s=h at m q ⊢;have p:z<18446744073709551616:=by omega
 rw[wZ (k:=.u64) (show h<zI .u64 from m) (show z<zI .u64 from p),q,xA,yC,xA];exact⟨rfl,d⟩
end
section
variable [fC]
variable {t:G uA}
def WG{k l:Nat}{P:Nat->Nat->Nat->Nat->Nat->Nat->Nat->Nat->Bool->Prop}{Q:mB}(S:k<18446744073709551616)(T:l<18446744073709551616)
  (j:∀x y g c d i b a f,P x y g c d i b a f->0<y->a<=y->b+a<=x-y->P y (x%y) c d (c+x / y*d) b a (b+x / y*a) (!f))
  (U:∀x y g c d i b a f,P x y g c d i b a f->Q (.i [.e .u64 (g:Int),.e .u64 (c:Int),.e .u64 (i:Int),.e .u64 (b:Int),.d f]) t) :
  ∀(y x g c d i b a:Nat) (f:Bool) (c0 c1 c2 c3:Int) (c4:Bool),P x y g c d i b a f->k=a*x+b*y->l=d*x+c*y->y<=x->1<=a->b<=a →
  jp 301 2 [.e .u64 (x:Int),.e .u64 (y:Int),.e .u64 (d:Int),.e .u64 (a:Int),.e .u64 c0,.e .u64 c1,.e .u64 c2,.e .u64 c3,.d c4,.e .u64 (g:Int),.e .u64 (c:Int),.e .u64 (i:Int),.e .u64 (b:Int),.d f] t Q:=by
 intro y;induction y using Nat.strongRecOn with
 | ind y Z=>
  intro x g c d i b a f c0 c1 c2 c3 c4 D W X F R C;refine j301_2 ?_;simp only[uE,zqk,iA,mI];by_cases A:a<=y
  .rw[A5 (by omega)];have e:0<y:=by omega
   have o:a*x<=k:=by omega
   have J:x<=k:=Nat.le_trans (T7 x (by omega)) o;have K:a<4294967296:=by
    rcases Q2 a 4294967296 with h | h
    .exact h
    .exfalso;have:4294967296*4294967296<=a*x:=G5 h (by omega);omega
   have p:cA .u64 ((b:Int)+(a:Int))=((b+a:Nat):Int):=by grind [gG]
   have s:cA .u64 ((x:Int)-(y:Int))=((x-y:Nat):Int):=by grind [gG]
   rw[p,s];by_cases B:b+a<=x-y
   .rw[A5 (by omega)];have E:=Q3 x y;have n:x%y<y:=G3 _ e;have m:1<=x / y:=by
     grind
    have I:x / y<=x:=Nat.div_le_self _ _;have u:F9 .u64 (x:Int) (y:Int)=some (.e .u64 ((x / y:Nat):Int)):=EL e (by
     grind [gG])
    have v:Fc .u64 (x:Int) (y:Int)=some (.e .u64 ((x%y:Nat):Int)):=Yf e;have H:=j x y g c d i b a f D e A B;generalize x / y=q at *;generalize x%y=r at *;have nA:k=(b+q*a)*y+a*r:=by
     grind
    have nB:l=(c+q*d)*y+d*r:=by
     grind
    have N:b+q*a<=k:=Nat.le_trans (Nat.le_mul_of_pos_right _ e) (by omega);have M:c+q*d<=l:=Nat.le_trans (Nat.le_mul_of_pos_right _ e) (by omega);have L:a<=q*a:=T7 _ m;have w:cA .u64 ((b:Int)+cA .u64 ((q:Int)*(a:Int)))=((b+q*a:Nat):Int):=by
     grind [gG]
    have z:cA .u64 ((c:Int)+cA .u64 ((q:Int)*(d:Int)))=((c+q*d:Nat):Int):=by
     grind [gG]
    rw[u,xA,yC,xA,v,xA,yC,xA,w,z];grind
   grind
  grind
end
end Go.Proofs
namespace Go.Am
def oa (a b x y c d e f:Nat)(g:Bool):Prop:=
 match g with
 | false=>c*f=d*e+1/\x+e*b=c*a/\y+d*a=f*b
 | true=>d*e=c*f+1/\x+c*a=e*b/\y+f*b=d*a
def Lst (c a b d:Nat):Prop:=(c=1/\b=0/\a=0)\/(c<=b/\a<=d/\1<=a/\1<=b)
def tp(a b f e c d:Nat)(g:Bool):Prop:=∃x y,oa a b x y f e c d (!g)/\d<=y/\c+d<=x-y/\f<=c/\e<=d/\1<=e/\1<=c/\c<=d
def T1 (a b x y i e g h c d:Nat)(f:Bool):Prop:=oa a b x y e g c d f/\1<=d/\c<=d/\Lst e g c d/\(h=0\/tp a b i e h c f)
def zk4(a b:Nat):T1 a b a b 0 1 0 0 0 1 false:=⟨⟨by simp,by simp,by simp⟩,B4 _,by omega,.inl ⟨rfl,rfl,rfl⟩,.inl rfl⟩
def zk3{a b x y H j d I e c:Nat}{f:Bool}(h:T1 a b x y H j d I e c f)(C:0<y)(v:c<=y)(w:e+c<=x-y) :
  T1 a b y (x%y) j d (j+x / y*d) e c (e+x / y*c) (!f):=by
 obtain⟨o,J,D,p,K⟩:=h;have n:1<=x / y:=by rw[Nat.le_div_iff_mul_le C];omega
 have z:=Q3 x y;generalize x / y=q at *;generalize x%y=r at *;have B:c<=q*c:=T7 _ n;have A:d<=q*d:=T7 _ n;refine⟨?_,by omega,by omega,?_,?_⟩
 .cases f with
  | false=>
   obtain⟨E,F,i⟩:=o;refine⟨?_,i,?_⟩
   all_goals grind
  | true=>
   obtain⟨E,F,i⟩:=o;refine⟨?_,i,?_⟩
   all_goals grind
 .right
  rcases p with⟨s,t,u⟩ | ⟨k,g,l,m⟩
  .grind
  .have:=F6 q g;omega
 .rcases p with⟨s,t,u⟩ | ⟨k,g,l,m⟩
  .omega
  .right
   exact⟨x,y,by simp_all,v,w,k,g,l,m,D⟩
end Go.Am
namespace Go.Am
variable {A B W a b p q r s i d e c j f:Nat}{k:Bool}
def NH{X Y:Nat}(a:p*s=q*r+1)(b:X+r*B=p*A)(c:Y+q*A=s*B):A=s*X+r*Y/\B=q*X+p*Y:=by
 have d:s*(X+r*B)=s*(p*A):=by rw[b]
 have e:r*(Y+q*A)=r*(s*B):=by rw[c]
 have f:q*(X+r*B)=q*(p*A):=by rw[b]
 have g:p*(Y+q*A)=p*(s*B):=by rw[c]
 have h:p*s*A=q*r*A+A:=by rw[a,D7,Nat.one_mul]
 have i:p*s*B=q*r*B+B:=by rw[a,D7,Nat.one_mul]
 have j:s*(p*A)=p*s*A:=by rw[<- F4,F0 s p]
 have k:r*(q*A)=q*r*A:=by rw[<- F4,F0 r q]
 have l:s*(r*B)=r*(s*B):=Nat.mul_left_comm _ _ _;have m:q*(p*A)=p*(q*A):=Nat.mul_left_comm _ _ _;have n:q*(r*B)=q*r*B:=(F4 _ _ _).symm;have o:p*(s*B)=p*s*B:=(F4 _ _ _).symm;rw[K9]at d e f g;constructor<;>omega
def NG{x y:Nat}(k:x+r*b=p*a)(l:y+q*a=s*b)(c:A=W*a+j)(d:B=W*b+f)(u:j<W)(g:f<W)(i:r+s<=x-y)(n:1<=r+s)(h:q<=y) :
  ∃X Y,X+r*B=p*A/\Y+q*A=s*B/\Y<X:=by
 obtain⟨D,e⟩:∃D,x=y+D:=⟨x-y,by omega⟩;have z:p*A=W*x+r*(W*b)+p*j:=by
  rw[c,K9,Nat.mul_left_comm p W,<- k,K9,Nat.mul_left_comm W r]
 have C:r*B=r*(W*b)+r*f:=by rw[d,K9]
 have E:s*B=W*y+q*(W*a)+s*f:=by
  rw[d,K9,Nat.mul_left_comm s W,<- l,K9,Nat.mul_left_comm W q]
 have F:q*A=q*(W*a)+q*j:=by rw[c,K9]
 have v:r*f<=W*D:=by
  rw[F0 W D];exact G5 (by omega) (by omega)
 have w:q*j<=W*y:=by
  rw[F0 W y];exact G5 h (by omega)
 have m:(r+s)*f<W*D:=by
  have o:(r+s)*f<(r+s)*W:=Nat.mul_lt_mul_of_pos_left g (by omega);have t:(r+s)*W<=D*W:=D4 _ (by omega)
  grind
 have H:W*x=W*y+W*D:=by rw[e,K9]
 rw[D7]at m;exact⟨p*A-r*B,s*B-q*A,by omega,by omega,by omega⟩
def iz  (t:A=W*a+j)(u:B=W*b+f)(v:j<W)(w:f<W)(h:tp a b i d e c k) :
  ∃X Y,(k=true->X+e*B=i*A/\Y+d*A=c*B)/\(k=false->X+i*A=e*B/\Y+c*B=d*A)/\Y<X/\A=c*X+e*Y/\B=d*X+i*Y/\X+Y<A+B:=by
 obtain⟨x,y,z,D,E,I,J,K,L,_⟩:=h;have p:∀X Y:Nat,Y<X->A=c*X+e*Y->B=d*X+i*Y->X+Y<A+B:=by
  intro X Y g l m;have F:X<=c*X:=T7 _ (by omega);have H:X<=d*X:=T7 _ (by omega);omega
 cases k with
 | true=>
  obtain⟨C,r,s⟩:=z;obtain⟨X,Y,g,l,m⟩:=NG r s t u v w E (by omega) (by omega);obtain⟨n,o⟩:=NH C g l;exact⟨X,Y,λ_=>⟨g,l⟩,(λh=>absurd h (by decide)),m,n,o,p X Y m n o⟩
 | false=>
  obtain⟨C,r,s⟩:=z;obtain⟨X,Y,g,l,m⟩:=NG r s u t w v (by omega) (by omega) D;have q:e*d=c*i+1:=by grind
  obtain⟨n,o⟩:=NH q g l;exact⟨X,Y,(λh=>absurd h (by decide)),λ_=>⟨g,l⟩,m,o,n,p X Y m o n⟩
def ZZ  (o:a<18446744073709551616)(p:b<18446744073709551616)(h:tp a b i d e c k):i<4294967296/\d<4294967296/\e<4294967296/\c<4294967296:=by
 obtain⟨x,y,f,q,r,s,t,u,v,w⟩:=h;have j:a=c*x+e*y:=by
  cases k with
  | true=>
   obtain⟨l,m,n⟩:=f
   grind
  | false=>
   obtain⟨l,m,n⟩:=f
   grind
 have:c<4294967296:=by
  rcases Q2 c 4294967296 with g | g
  .exact g
  .exfalso;have:4294967296*4294967296<=c*x:=G5 g (by omega);omega
 omega
end Go.Am
namespace Go.Am
variable {B m:Nat}{l:List Nat}
def zle   (d:l.length<=m+3):A4 B l=A4 B (l.take m)+B^m*(wd l m+B*(wd l (m+1)+B*wd l (m+2))):=by
 have a:=Qn B l m;have b:A4 B (l.take (m+2))=A4 B (l.take (m+1))+B^(m+1)*wd l (m+1):=Qn B l (m+1);have c:A4 B (l.take (m+3))=A4 B (l.take (m+2))+B^(m+2)*wd l (m+2):=Qn B l (m+2)
 grind [List.take_of_length_le]
def PK{p K:Nat} (g:B=p*K)(j:0<p)(a:0<B)(b:pB B l)(i:l.length<=m+3) :
  (wd l (m+2)*B+wd l (m+1))*K+wd l m / p=A4 B l / (B^m*p):=by
 have c:=zle (B:=B) i;have d:A4 B (l.take m)<B^m:=by
  have h:=qQ a (Iw b m)
  grind [Nat.lt_of_lt_of_le,Nat.pow_le_pow_right]
 have f:A4 B l / B^m=wd l m+B*(wd l (m+1)+B*wd l (m+2)):=by
  rw[c,Nat.add_mul_div_left _ _ (Nat.pow_pos a),Nat.div_eq_of_lt d,D8]
 rw[<- Nat.div_div_eq_div_mul,f];generalize wd l m=x;have e:B*(wd l (m+1)+B*wd l (m+2))=p*(K*(wd l (m+2)*B+wd l (m+1))):=by
  rw[<- F4 p,<- g,F0 (wd l (m+2)),T8]
 rw[e,Nat.add_mul_div_left _ _ j,F0 K,T8]
end Go.Am
namespace Go.Proofs
open Go Go.Am
variable [fC]
variable {t:G uA}
def WF{a f:List Nat}{U X:O}{m b:Nat}{Q:mB}(D:bA t 1 (tC .u32 a) U)(hb:bA t 1 (tC .u32 f) X)(e:pB BB a)(o:pB BB f)(E:a.length=m+3)(hm:m<700000)(H:f.length<=m+3)(h:a[m+2]?=some b)(L:0<b)(I:A4 BB f<=A4 BB a)
  (hQ:∀r u i v j W,0<W->A4 BB a / W<18446744073709551616->A4 BB f / W<18446744073709551616->(i=0\/tp (A4 BB a / W) (A4 BB f / W) r u i v j)->Q (.i [.e .u64 (r:Int),.e .u64 (u:Int),.e .u64 (i:Int),.e .u64 (v:Int),.d j]) t) :
  Wc Y F 301 [U,X] t Q:=by
 have g:=sR;have q:b<4294967296:=by have:=oN e h;omega
 obtain⟨s,T,a1,a6,K⟩:=zhb (t:=t) q L;obtain⟨c,a7,g1,g2⟩:=D.f aH h;have S:BB=2^(32-s)*2^s:=by rw[<- Nat.pow_add,show 32-s+s=32 by omega,g]
 have J:0<2^(32-s):=Nat.pow_pos (by decide);have N:=PK S J jK e (m:=m) (by omega);have R:=PK S J jK o H;have hW:0<BB^m*2^(32-s):=Nat.mul_pos (Nat.pow_pos jK) J;have p:A4 BB f / (BB^m*2^(32-s))<=A4 BB a / (BB^m*2^(32-s)):=Nat.div_le_div_right I;have M:wd a (m+2)=b:=by grind [wd]
 have aa:=Jk jK e (m+1);have a8:=Jk jK e m;have hz:wd a m / 2^(32-s)<2^s:=Q4 (by omega);rw[g]at N R;have d:(wd a (m+2)*4294967296+wd a (m+1))*2^s+wd a m / 2^(32-s)<18446744073709551616:=by
  rw[M];have q1:b+1<=2^(32-s):=by
   have:b*2^s<2^(32-s)*2^s:=by omega
   exact Nat.lt_of_mul_lt_mul_right this
  have q2:(b*4294967296+wd a (m+1))+1<=2^(32-s)*4294967296:=by
   omega
  have q3:=D4 (2^s) q2
  grind
 have k:∀l,A4 4294967296 l=A4 BB l:=λl=>by rw[g]
 have C:(4294967296:Nat)^m=BB^m:=by rw[g]
 rw[k,C]at N R;have w:(wd f (m+2)*4294967296+wd f (m+1))*2^s+wd f m / 2^(32-s)<18446744073709551616:=by
  grind
 have z:=zil (n:=m+3) (s:=s) D e (by omega) (by omega) T (K8 (Nat.le_add_right _ _) d);have A:=zil (n:=m+3) (s:=s) hb o (by omega) (by omega) T (K8 (Nat.le_add_right _ _) w);rw[show m+3-1=m+2 by omega,show m+3-2=m+1 by omega,show m+3-3=m by omega]at z A;rw[N]at z d;rw[R]at A w;generalize hw:BB^m*2^(32-s)=W at *;have Z:((m+3:Nat):Int)-1=((m+2:Nat):Int):=by omega
 refine w301 ?_;simp only[uI,uL,uE,V,uW,t301,iA,D.c,xA,yC,qH,E,Z];rw[A2 (by omega) (by omega),g1,xA,g2,xA,yC,xA,q308,K,xA,yC,xA,q315,z,xA,yC,xA,q315,A,xA,yC,xA];simp only[if_true];exact WG (P:=T1 (A4 BB a / W) (A4 BB f / W)) d w (λx y r u u2 i v v2 j B hy k1 k2=>zk3 B hy k1 k2) (λx y r u u2 i v v2 j B=>hQ r u i v j W hW d w B.2.2.2.2) _ _ 0 1 0 0 0 1 false 0 0 0 0 false (zk4 _ _) (by omega) (by omega) p (by omega) (by omega)
end Go.Proofs
namespace Go.Am
def ziw{A B X Y b c d e:Nat}{a:Bool}(k:a=true->X+d*B=b*A/\Y+c*A=e*B)(l:a=false->X+b*A=d*B/\Y+e*B=c*A)(m:A=e*X+d*Y)(n:B=c*X+b*Y):Nat.gcd X Y=Nat.gcd A B:=by
 have i:=Nat.gcd_dvd_left X Y;have j:=Nat.gcd_dvd_right X Y;have f:=Nat.gcd_dvd_left A B;have h:=Nat.gcd_dvd_right A B;refine Nat.dvd_antisymm (Nat.dvd_gcd ?_ ?_) (Nat.dvd_gcd ?_ ?_)
 .grind [Nat.dvd_add]
 .grind [Nat.dvd_add]
 .generalize Nat.gcd A B=g at *
  cases a with
  | true=>
   grind [Nat.dvd_add_left]
  | false=>
   grind [Nat.dvd_add_left]
 .generalize Nat.gcd A B=g at *
  cases a with
  | true=>
   grind [Nat.dvd_add_left]
  | false=>
   grind [Nat.dvd_add_left]
theorem I0{a b q r:Nat}(h:a=b*q+r):Nat.gcd b r=Nat.gcd a b:=by
 grind [Nat.mul_comm,Nat.gcd_mul_right_add_left]
theorem zw1{x y:Nat}:Nat.gcd y (x%y)=Nat.gcd x y:=by
 rw[Nat.gcd_comm y (x%y),<- Nat.gcd_rec,Nat.gcd_comm]
def HX{B:Nat}{l:List Nat}(a:0<B)(h:pB B l)(b:l.length<=2):A4 B l<B*B:=by
 have c:=qQ a h;have d:B^l.length<=B^2:=L7 a b
 grind
end Go.Am
namespace Go.Proofs
open Go Go.Am
variable {P c:Prop}{Q:mB}{b a:List Nat}{f g:O}
variable [fC]
variable {t:G uA}
theorem EE {d:Decidable c}{Q:Prop}(h:c)(k:P):@ite Prop c d P Q:=by simp_all
theorem ja {d:Decidable c}{Q:Prop}(h:¬ c)(k:Q):@ite Prop c d P Q:=by simp_all
theorem YH  : ∀(y x:Nat),x<18446744073709551616->y<18446744073709551616->(∀t' r a,zB t t'->bA t' 1 (tC .u32 r) a->pB BB r->B5 r->A4 BB r=Nat.gcd x y->Q a t')->jp 289 6 [.e .u64 (x:Int),.e .u64 (y:Int)] t Q:=by
 have c:=sR
 intro y;induction y using Nat.strongRecOn with
 | ind y h=>
  intro x f g d;refine j289_6 ?_;simp only[uE,zql,iA,Ai];by_cases b:y=0
  .subst b;rw[A3 (by simp)];simp only[q304];grind [zmf,ZU,zad,XP]
  .rw[A5 (by omega),Yf (by omega),xA,yC,xA];have e:=G3 x (show 0<y by omega)
   grind [zw1]
def zhd{l:List Nat}{v:O}(d:bA t 1 (tC .u32 l) v)(c:l.length<=2)(b:pB BB l):oB Y F 303 [v] t=some (.e .u64 ((A4 BB l:Nat):Int)):=by
 have a:=sR
 grind [zvq]
def zkg   (k:bA t 1 (tC .u32 b) f)(l:bA t 1 (tC .u32 a) g)(c:pB BB b)(d:pB BB a)(e:b.length<=2)(h:a.length<=2)
  (o:∀t' r i,zB t t'->bA t' 1 (tC .u32 r) i->pB BB r->B5 r->A4 BB r=Nat.gcd (A4 BB b) (A4 BB a)->Q i t'):jp 289 33 [f,g] t Q:=by
 have j:=sR;have m:=HX jK c e;have n:=HX jK d h;refine zwg ?_;simp only[uE,zec,iA,q303,zhd k e c,zhd l h d,xA,yC];grind [YH]
def zkh {t0:G uA}{c:Nat}(hQ:∀t' r U,zB t0 t'->bA t' 1 (tC .u32 r) U->pB BB r->B5 r->A4 BB r=c->Q U t'):∀(n:Nat) (b a:List Nat) (f g:O) (t:G uA),A4 BB b+A4 BB a=n->zB t0 t->bA t 1 (tC .u32 b) f->bA t 1 (tC .u32 a) g->pB BB b->pB BB a->B5 b->B5 a->A4 BB a<=A4 BB b->b.length<700000->Nat.gcd (A4 BB b) (A4 BB a)=c->jp 289 2 [f,g] t Q:=by
 have aa:=sR;have z:1<BB:=by omega
 intro n;induction n using Nat.strongRecOn with
 | ind n ih=>
  intro b a f g t hn M w s d j A u P k hg;have ad:a.length<=b.length:=gV z d u P;refine j289_2 ?_;simp only[uI,uG,uX,zqm,iA,s.c,xA,yC,qH,iE];by_cases h2:2<a.length
  .rw[A5 (by omega)];have B:a≠[]:=by grind
   have a6:0<A4 BB a:=by
    rcases Z9 (A4 BB a)with h | h
    .exact absurd (Xg jK u h) B
    .exact h
   obtain⟨m,hm⟩:∃m,b.length=m+3:=⟨b.length-3,by omega⟩;obtain⟨a8,R⟩:=A6 (l:=b) (i:=m+2) (by omega);have a1:b≠[]:=by grind
   have a7:0<a8:=by
    have:=A a1
    grind
   rw[q301];refine WF w s d j hm (by omega) (by omega) R a7 P λu0 u1 v0 v1 Z W hW hA hB N=>?_;have eG:mK [(.e .u64 0),(.e .u64 0),(.e .u64 0),(.e .u64 0),(.d false)] (.i [.e .u64 (u0:Int),.e .u64 (u1:Int),.e .u64 (v0:Int),.e .u64 (v1:Int),.d Z])=some (AN [.e .u64 (u0:Int),.e .u64 (u1:Int),.e .u64 (v0:Int),.e .u64 (v1:Int),.d Z]):=aQ rfl;rw[eG];simp only[xA,AN,Tg,Fz,I2,I3,if_true,Hh];by_cases ae:v0=0
   .refine EE (rI.2 (by omega)) ?_;rw[q295];refine FS w s k d j A u B λt' q r qv U p S H I T k6 k7 k8 k9=>?_;simp only[tK,O.ay,lA,xI,I2,I3,xA];refine ih (A4 BB a+A4 BB r) (by omega) a r g U t' rfl (M.d p) (s.a p) H j T u k7 (by omega) (by omega) ?_
    grind [I0]
   .refine ja (λe=>absurd (rI.1 e) (by omega)) ?_;rcases N with h | N
    .omega
    obtain⟨s1,s2,s3,s4⟩:=ZZ hA hB N;have eA:A4 BB b=W*(A4 BB b / W)+A4 BB b%W:=(Q3 _ _).symm;have eB:A4 BB a=W*(A4 BB a / W)+A4 BB a%W:=(Q3 _ _).symm;obtain⟨X,Y,l1,l2,l3,l4,l5,l6⟩:=iz eA eB (G3 _ hW) (G3 _ hW) N;have ac:=ziw l1 l2 l4 l5;have ab:X<=A4 BB b:=by
     have:X<=v1*X:=T7 _ (by
      obtain⟨x,y,_,_,_,_,_,_,w2,w3⟩:=N;omega)
     omega
    cases Z with
    | true=>
     obtain⟨m1,m2⟩:=l1 rfl;simp only[if_true];rw[q302];refine Zc w s d j s1 s3 k (by omega) (by omega) λt1 J K p S H I T=>?_;rw[q302];refine Zc (s.a p) (w.a p) j d s4 s2 (by omega) k (by omega) λL v o C D E F j5=>?_;have e1:A4 BB J=X:=by omega
     have e2:A4 BB v=Y:=by omega
     refine ih (A4 BB J+A4 BB v) (by omega) J v K o L rfl (M.d (p.d C)) (S.a C) D H E I F (by omega) ?_ (by grind);have:=gV z d I (by omega);omega
    | false=>
     obtain⟨m1,m2⟩:=l2 rfl;simp only[if_true,F5,if_false];rw[q302];refine Zc s w j d s3 s1 (by omega) k (by omega) λt1 J K p S H I T=>?_;rw[q302];refine Zc (w.a p) (s.a p) d j s2 s4 k (by omega) (by omega) λL v o C D E F j5=>?_;have e1:A4 BB J=X:=by omega
     have e2:A4 BB v=Y:=by omega
     refine ih (A4 BB J+A4 BB v) (by omega) J v K o L rfl (M.d (p.d C)) (S.a C) D H E I F (by omega) ?_ (by grind);have:=gV z d I (by omega);omega
  .rw[A3 (by omega)];simp only[rI];by_cases h0:a.length=0
   .rw[A5 (by omega)];have:a=[]:=lk.1 h0;subst this;refine hQ t b f M w d A ?_;rw[<- hg];simp only[A4];rw[Nat.gcd_zero_right]
   .rw[A3 (by omega)];simp only[w.c,xA,yC,qH,iE];have B:a≠[]:=by simp_all
    by_cases h3:2<b.length
    .rw[A5 (by omega),q295];refine FS w s k d j A u B λt' q r qv U p S H I T k6 k7 k8 k9=>?_;simp only[tK,O.ay,lA,xI,I2,I3,xA];have:=gV z j k7 (Nat.le_of_lt k9);refine zkg (s.a p) H j T (by omega) (by omega) λL v o C D E F j5=>?_;exact hQ L v o (M.d (p.d C)) D E F (by grind [I0])
    .rw[A3 (by omega)];refine zkg w s d j (by omega) (by omega) λL v o C D E F j5=>?_;exact hQ L v o (M.d C) D E F (by omega)
def qg   (m:bA t 1 (tC .u32 b) f)(n:bA t 1 (tC .u32 a) g)(c:pB BB b)(e:pB BB a)(d:B5 b)(i:B5 a)(o:b.length<700000)(p:a.length<700000)
  (q:∀t' r s,zB t t'->bA t' 1 (tC .u32 r) s->pB BB r->B5 r->A4 BB r=Nat.gcd (A4 BB b) (A4 BB a)->Q s t'):Wc Y F 289 [f,g] t Q:=by
 have u:=sR;have l:1<BB:=by omega
 have j:=zj6 l c e d i;refine w289 ?_;simp only[uI,t289,iA,q300,zs5 (by omega) m n,xA,yC,iE];by_cases k:zQ b a<0
 .rw[A5 k];have:=j.1 k;exact zkh q _ a b g f t rfl (zB.f _) n m e c i d (by omega) p (Nat.gcd_comm _ _)
 .rw[A3 k];have:A4 BB a<=A4 BB b:=Nat.le_of_not_lt λh=>k (j.2 h);exact zkh q _ b a f g t rfl (zB.f _) m n c e d i this o rfl
end Go.Proofs
namespace Go.Proofs
open Go Go.Am
variable {l:List sM}{v:O}
variable [fC]
variable {t:G uA}
theorem MJ{neg:Bool}{l:List Nat}(h:rL neg l=true):B5 l:=by
 intro a;grind [rL]
def ZT  (p:bA t 2 (l.map sM.d) v)(n:∀w∈l,w.a.length<1125899906842624)(z:l.length<1125899906842624):∀(k i:Nat),i+k=l.length->jp 288 2 [v,.e .i64 (l.length:Int),.e .i64 (i:Int)] t (λr m=>r=.d ((l.drop i).all λw=>rL w.b w.a)/\m=t):=by
 intro k;induction k with
 | zero=>
  intro i o;refine zry ?_;simp only[uB,uG,aB,uC,rB,xH,V,oI,dI,yj,iA,iE];simp_all
 | succ k s=>
  intro i o;have a:i<l.length:=by omega
  have q:l[i]?=some l[i]:=D0 a;obtain⟨b,x,y,h,j,_,_,f⟩:=mG.at pp (by simp) p (i:=i) (d:=l[i].d) (by simp[q]);obtain⟨u,rfl,g⟩:=Wp f;have e:=Jp (neg:=l[i].b) (n _ (F2 a)) g;refine zry ?_;simp only[uB,uG,aB,uC,rB,xH,V,oI,dI,yj,iA,iE];rw[A5 (by omega),h,xA,j,Cf,xA,vO f (sM.zs _)];simp only[xA,AN,Fz,Gt,I2,I3];have c:nD O.z [.d l[i].b,u]=true:=by
   show(bif O.z (.d l[i].b)then(bif O.z u then true else false)else false)=true;rw[g.e];rfl
  refine EE c ?_;rw[q196,e];simp only[xA,Iv,DE];rw[F8 a,ce]
  cases A:rL l[i].b l[i].a with
  | false=>simp
  | true=>
   simp only[E5,Bool.true_eq_false,if_false];rw[A2 (by omega) (by omega)];exact s (i+1) (by omega)
def UG  (a:bA t 2 (l.map sM.d) v)(b:∀w∈l,w.a.length<1125899906842624)(c:l.length<1125899906842624):oB Y F 288 [v] t=some (.d (l.all λw=>rL w.b w.a)):=by
 refine lC.2 (w288 ?_);simp only[uI,V,t288,iA,a.c,xA,yC,C5];have:=ZT a b c l.length 0 (by omega)
 simp_all
def zsv{n d:sM}{u:O}{Q:mB}(L:bA t 1 (vD n.a) u)(E:bA t 1 (vD d.a) v)(hn:n.a.length<700000)(hd:d.a.length<700000)(m:pB 65536 n.a)(j:pB 65536 d.a)(o:rL n.b n.a=true)(k:rL d.b d.a=true)
  (W:∀t' g J,zB t t'->bA t' 1 (vD g) J->pB 65536 g->B5 g->A4 65536 g=Nat.gcd (A4 65536 n.a) (A4 65536 d.a)->Q (.p [.i [.d false,J],.e .i64 0]) t'):Wc Y F 267 [.i [.d n.b,u],.i [.d d.b,v]] t Q:=by
 have a:=sR;refine w267 ?_;simp only[uB,uG,aB,V,oI,dI,t267,iA];intro b X B;obtain⟨t1,S,U,e,g4⟩:=Oa (C:=Y) (T:=323) (el:=24) (sz:=2) (n:=2) (cl:=[[.d n.b,u],[.d d.b,v]]) (ps:=[(0,.i [.d n.b,u]),(1,.i [.d d.b,v])]) za rfl fi rfl rfl (by decide) rfl (λi cs hi=>by
  grind) rfl X
 rw[S,xA];have M:bA t1 2 ([n,d].map sM.d) (.m b 0 2 2):=⟨_,U,by
  simp only[L1,List.map_nil,kD,pG];refine⟨_,_,rfl,?_,_,_,rfl,?_,rfl⟩
  .unfold sM.d;rw[lK];refine⟨[[.d n.b],[u]],rfl,?_⟩;simp only[kD,pG,Dl,xR];exact⟨_,_,rfl,rfl,_,_,rfl,⟨u,rfl,L.a e⟩,rfl⟩
  .unfold sM.d;rw[lK];refine⟨[[.d d.b],[v]],rfl,?_⟩;simp only[kD,pG,Dl,xR];exact⟨_,_,rfl,rfl,_,_,rfl,⟨v,rfl,E.a e⟩,rfl⟩⟩
 have h:=UG M (λw M=>by
  grind) (by simp)
 rw[q288,h];simp only[xA,Iv,DE,ce,sa,o,k,Bool.and_self,Bool.true_eq_false,if_false];rw[q235];refine Ry (L.a e) (by omega) m λt2 v2 N Z=>?_;rw[A5 E.g,q235];refine Ry ((E.a e).a N) (by omega) j λt3 v3 P m2=>?_;have z:=Md m;have y:=Md j;rw[<- a]at z y;rw[q289];refine qg (Z.a P) m2 z y (Nu (MJ o)) (Nu (MJ k)) (by rw[dT];omega) (by rw[dT];omega) λt4 r J p1 p2 H I q=>?_;rw[a]at H;have x:∀l,A4 BB (oH l)=A4 65536 l:=λl=>by grind [Vp]
 rw[x,x]at q;have D:r.length<400000:=by
  have f:1<BB:=by omega
  rcases Z9 (A4 65536 n.a)with A | A
  .rw[A,Nat.gcd_zero_left,<- x]at q;have:=gV f y I (Nat.le_of_eq q)
   grind [dT]
  .have K:=Nat.gcd_le_left (A4 65536 d.a) A;rw[<- q,<- x]at K;have:=gV f z I K
   grind [dT]
 rw[q248];refine AS p2 D H λt5 c s1 s=>?_;rw[Rb I]at s ⊢;have R:mK [(.d false),.g] (.i [.d (if r=[]then false else false),c])=some (AN [.d (if r=[]then false else false),c]):=aQ (by
  show(true&&(Bc .g c&&true))=true;rw[Ys s];rfl)
 rw[R];have p:nD O.z [.d false,c]=true:=by
  show(bif O.z (.d false)then(bif O.z c then true else false)else false)=true;rw[s.e];rfl
 simp only[xA,AN,Fz,Gt,I2,I3,ite_self,p,if_true];refine W t5 (vF (jI r)) c (e.d (N.d (P.d (p1.d s1)))) s (iW (AG H)) (iY _) ?_;rw[wV,<- q,Vo,a]
end Go.Proofs
namespace Go.Am
def qF.a(f:qF):Prop:=f.c/\pB 65536 f.n.a/\pB 65536 f.d.a
def gE.b(v:gE):Prop:=v.a<256/\v.f.a /\ -9223372036854775808<=v.i/\v.i<9223372036854775808
mutual
def pA.b:pA->Prop
 | .mk op name v args=>op<256/\name.length<tE/\(∀c∈name,c<256)/\v.b/\args.length<tE/\pA.f args
def pA.f:List pA->Prop
 | []=>True
 | x::l=>x.b/\pA.f l
end
def pA.m:∀ {l:List pA},pA.f l->∀x∈l,x.b
 | [],_,_,h=>by cases h
 | y::l,h,x,a=>by
  unfold pA.f at h;rcases C6.1 a with rfl | a
  .exact h.1
  .exact pA.m h.2 x a
mutual
def pA.g:∀ {x:pA},x.b->x.q
 | .mk op name v args,h=>by
  unfold pA.b at h;unfold pA.q;exact⟨h.2.1,h.2.2.2.1.2.1.1,h.2.2.2.2.1,pA.p h.2.2.2.2.2⟩
def pA.p:∀ {l:List pA},pA.f l->pA.k l
 | [],_=>by grind [pA.k]
 | x::l,h=>by
  unfold pA.f at h;unfold pA.k;exact⟨pA.g h.1,pA.p h.2⟩
end
def Q8 (n:Int):Prop := -9223372036854775808<=n/\n<9223372036854775808
def oG.e(r:oG):Prop:=Q8 r.a/\Q8 r.b/\Q8 r.c/\r.f.a
def aE.e(x:aE):Prop:=x.b.length<tE/\x.a.length<tE/\∀r∈x.a,r.e
def pF.e(x:pF):Prop:=x.a.length<tE/\x.b<256
def qD.j(x:qD):Prop:=x.g.length<tE/\x.e.length<tE/\Q8 x.f/\Q8 x.i/\Q8 x.c/\x.a.b/\x.b.b
structure uD.f (p:uD):Prop where
 am:p.e.length<tE
 ak:p.c.length<tE
 aj:p.a.length<tE
 ac:p.b.length<tE
 ap:∀d∈p.c,d.e
 ah:∀d∈p.a,d.e
 aa:∀d∈p.b,d.j
end Go.Am
namespace Go.Proofs
open Go Go.Am
variable {a b:Int}{f:qF}{u v:O}
variable [fC]
variable {t:G uA}
def kX(w:sM):Bool := !w.b&&decide (w.a=[1])
def oM(f:qF):Bool:=decide (f.n.a.length<=256)&&decide (f.d.a.length<=256)&&rL f.n.b f.n.a&&rL f.d.b f.d.a && !f.d.b&&decide (f.d.a≠[])&&(kX f.d||decide (Nat.gcd (A4 65536 f.n.a) (A4 65536 f.d.a)=1))
theorem wD  : fB a b=decide (a<b):=by
 grind [iE]
theorem oU  : vE a b=decide (a<=b):=by
 grind [mI]
theorem uF  : kB a b=decide (a=b):=by
 grind [rI]
def VK  (j:bA t 1 (vD f.n.a) u)(c:bA t 1 (vD f.d.a) v)(D:qF.a f):oB Y F 182 [.i [.d f.n.b,u,.d f.d.b,v]] t=some (.d (oM f)):=by
 obtain⟨y,z,A⟩:=D;unfold qF.c tE at y;have m:oB Y F 232 [.i [.d f.n.b,u,.d f.d.b,v]] t=some (.d (!(decide (f.n.a.length<=256)&&decide (f.d.a.length<=256)))):=by
  refine lC.2 (w232 ?_);simp only[uI,xH,t232,iA,j.c,c.c,xA,yC,fU];grind [iE]
 have o:=Jp (neg:=f.n.b) (by omega) j;have p:=Jp (neg:=f.d.b) (by omega) c;have q:oB Y F 184 [.i [.d f.n.b,u,.d f.d.b,v]] t=some (.d (kX f.d)):=by
  refine lC.2 (w184 ?_);simp only[uB,t184,iA,q233,EG c,xA,Iv]; (first | exact⟨rfl,rfl⟩ | exact⟨rfl,trivial⟩ | trivial)
 refine mV (w182 ?_);simp only[uI,uB,uG,rB,xH,dI,t182,iA,q232,m,q196,o,p,q184,q,xA,Iv,c.c,yC,fU,rI,DE];unfold oM;by_cases s:f.n.a.length<=256
 .by_cases w:f.d.a.length<=256
  .simp only[s,w,decide_true,E5,Bool.not_true,F5,if_false]
   cases H:rL f.n.b f.n.a with
   | false=>simp
   | true=>
    cases C:rL f.d.b f.d.a with
    | false=>simp
    | true=>
     simp only[Bool.true_eq_false,if_false,E5]
     cases E:f.d.b with
     | true=>simp
     | false=>
      simp only[F5,if_false,L0,E5];by_cases l:f.d.a=[]
      .simp_all
      .have:f.d.a.length≠0:=λe=>l (lk.1 e);rw[A3 (by omega)];simp only[l,ne_eq,not_false_eq_true,decide_true,E5]
       cases M:kX f.d with
       | true=>simp
       | false=>
        simp only[F5,if_false,Bool.false_or];rw[q234];refine w234 ?_;simp only[uI,uG,aB,uX,oI,dI,t234,iA,q267];have i:=H;have a:=C;rw[E]at a;refine zsv (n:=f.n) (d:=⟨false,f.d.a⟩) j c (by omega) (by grind) z A i a λP g h I k J K L=>?_;have r:mK [(.d false),.g] (.i [.d false,h])=some (AN [.d false,h]):=aQ (by
         show(true&&(Bc .g h&&true))=true;rw[Ys k];rfl)
        have b:nD O.z [.d false,h]=true:=by
         show(bif O.z (.d false)then(bif O.z h then true else false)else false)=true;rw[k.e];rfl
        simp only[tK,O.ay,lA,xI,I2,I3,xA,yC,r,AN,Fz,Gt,b,if_true];rw[q233,EG k];simp only[xA,Iv,L0,E5];refine⟨?_,I⟩;congr 1;rw[decide_eq_decide,<- L];constructor
        .intro e;subst e;rfl
        .intro e;exact MK (B:=65536) (by decide) J (λx N=>by grind) K (λ_=>by simp) (by rw[e];rfl)
  grind
 grind
def AQ  (b:bA t 1 (vD f.n.a) u)(c:bA t 1 (vD f.d.a) v)(a:qF.a f):oB Y F 130 [.i [.d f.n.b,u,.d f.d.b,v]] t=some (.d (oM f)):=by
 refine lC.2 (w130 ?_);simp only[uB,t130,iA,q182,VK b c a,xA,Iv,if_true];simp_all
end Go.Proofs
namespace Go.Proofs
open Go Go.Am
variable {s:List Nat}{k:Nat}
variable [fC]
variable {t:G uA}
theorem pH{a b:List Nat}(h:a.length+b.length<4611686018427387904):kG a b=some (.h (a++b)):=by
 unfold kG;rw[dD,dD,eC.2 h,wI];rfl
theorem Nb  (h:k<=s.length):aF Y 9 mN (.h s) (some (.e .i64 (k:Int))) none=some (.h (s.drop k)):=by
 unfold aF gP;rw[iI,lA];simp only[O.w];rw[show jE.c .j=true from rfl,xE];unfold Re xT Fy Bm;grind [kO,lA,O.aj,O.ba,dD,mF,xE,eV,vU,List.take_length]
theorem He  (h:k<=s.length):aF Y 9 mN (.h s) none (some (.e .i64 (k:Int)))=some (.h (s.take k)):=by
 unfold aF gP;rw[iI,lA];simp only[O.w];rw[show jE.c .j=true from rfl,xE];unfold Re xT Fy Bm;have e:kO (k:Int)=some k:=rfl;simp only[lA,O.aj,O.ba,e,dD,mF.2 h,mF.2 (I1 _),xE,eV,vU,H6]
end Go.Proofs
namespace Go.Am
open Go Go.RowKit
section
variable {t tf b:G uA}{C:fA}
mutual
theorem RD.j:∀(d:D) (cs:List O),RD t d cs->∀a∈cs,O.z a=true
 | .a _ _,cs,h,a,b=>by rw[RD]at h;subst h;simp at b;subst b;rfl
 | .e _,cs,h,a,b=>by rw[RD]at h;subst h;simp at b;subst b;rfl
 | .c _,cs,h,a,b=>by rw[RD]at h;subst h;simp at b;subst b;rfl
 | .h sz l,cs,h,a,b=>by
  rw[xR]at h;obtain⟨v,rfl,h⟩:=h;simp at b;subst b;exact h.e
 | .f l,cs,h,a,b=>by
  rw[lK]at h;obtain⟨cl,rfl,h⟩:=h;exact tD.o l cl h a b
theorem tD.o:∀(l:List D) (cl:List (List O)),tD t l cl->∀a∈cl.flatten,O.z a=true
 | [],cl,h,a,b=>by grind [tD]
 | d::l,cl,h,a,b=>by
  rw[tD]at h;obtain⟨c,r,rfl,e,f⟩:=h;rw[lj,F7]at b;rcases b with b | b
  .exact RD.j d c e a b
  .exact tD.o l r f a b
end
def RD.e{d:D}{cs:List O}(h:RD t d cs):nD O.z cs=true:=by
 grind [gI,RD.j]
theorem RD.mk{d:D}{cs zs:List O}(h:RD t d cs)(a:d.g=zs):qX zs (AN cs) 0=cs:=by
 have:=To zs cs [] (by grind [Yr])
 simp_all
end
end Go.Am
namespace Go.Am
open Go Go.RowKit
section
variable {C:fA}{t:G uA}
def Od(C:fA)(T:Nat)(k:O):Bool:=
 match ob (C.b.c T) λc=>ob c.a.p λb=>ob (C.b.c b.1) λa=>sB (aY C a&&xW C a k) (some ())with | some _=>true | none=>false
def OO{T:Nat}{k:O}(h:Od C T k=true):∃ty b a,C.b.c T=some ty/\ty.a.p=some b/\C.b.c b.1=some a/\aY C a=true/\xW C a k=true:=by
 grind [Od,mA,qB]
def ztt{T b n:Nat}{k v:O}{l a:List (O × O)}(j:Od C T k=true)(q:C.a<=b)(m:t.c b=some (.aj l))(o:lQ k v l=some a) :
  bW C T (.bc b) k v ⟨n,t⟩=some (aD,⟨n,t.d b (.aj a)⟩):=by
 obtain⟨s,r,p,e,f,g,h,i⟩:=OO j;have c:(!Nat.blt b C.a)=true:=by
  grind [eC]
 have d:pN ⟨n,t⟩ b=some l:=by unfold pN;rw[m];rfl
 unfold bW;rw[e,lA,f,lA,g,lA,h,xE];simp only[O.az,lA];rw[c,xE,d,lA,i,xE,o];rfl
def znh{T b n:Nat}{k v:O}{l:List (O × O)}(p:Od C T k=true)(q:t.c b=some (.aj l))(r:rN k l=some (some v)){ty:jD}(f:C.b.c T=some ty){c:Nat × Nat}(g:ty.a.p=some c){a:jD}(o:C.b.c c.2=some a)(ok:Bool) :
  Ci C T ⟨n,t⟩ (.bc b) k ok=some (bif ok then .p [v,.d true]else v):=by
 obtain⟨ty,c,s,d,e,i,j,m⟩:=OO p;rw[f]at d;cases d;rw[g]at e;cases e;have u:pN ⟨n,t⟩ b=some l:=by unfold pN;rw[q];rfl
 unfold Ci;rw[f,lA,g,lA,i,lA,j,xE,o,lA];have h:Ak ⟨n,t⟩ (.bc b)=some l:=by grind [Ak,O.az]
 rw[h,lA,m,xE,r,lA]
mutual
theorem RD.g:∀(d:D) (cs:List O),RD t d cs->∀a∈cs,∀k,Am.A8 k a a=true
 | .a _ _,cs,h,a,b,k=>by grind [RD,Hh]
 | .e _,cs,h,a,b,k=>by grind [RD,CA]
 | .c _,cs,h,a,b,k=>by grind [RD,Hg]
 | .h sz l,cs,h,a,b,k=>by
  rw[xR]at h;obtain⟨v,rfl,h⟩:=h;simp at b;subst b;exact h.g
 | .f l,cs,h,a,b,k=>by
  rw[lK]at h;obtain⟨cl,rfl,h⟩:=h;exact tD.j l cl h a b k
theorem tD.j:∀(l:List D) (cl:List (List O)),tD t l cl->∀a∈cl.flatten,∀k,Am.A8 k a a=true
 | [],cl,h,a,b,k=>by grind [tD]
 | d::l,cl,h,a,b,k=>by
  rw[tD]at h;obtain⟨c,r,rfl,e,f⟩:=h;rw[lj,F7]at b;rcases b with b | b
  .exact RD.g d c e a b k
  .exact tD.j l r f a b k
end
def JS:∀ {l:List O} {k:Nat},(∀a∈l,∀k,Am.A8 k a a=true)->Am.A8.sames k l l=true
 | [],_,_=>rfl
 | a::l,k,h=>by
  rw[Am.A8.sames,h a (.head _) k,JS λb c=>h b (.tail _ c)];rfl
def RD.i{d:D}{cs:List O}(h:RD t d cs){k:Nat}:Am.A8 (k+1) (.i cs) (.i cs)=true:=JS (RD.g d cs h)
def xC.l{t':G uA}{b:Nat}{lo:Option Lo}{cs:List O}(h:xC t b lo cs)(k:zB t t'):xC t' b lo cs:=by
 obtain⟨c,a,d⟩:=h;exact⟨c,k _ _ a,d⟩
def xC.o{b n:Nat}{lo:Option Lo}{cs:List O}(h:xC t b lo cs)(a:b≠n)(y:uA):xC (t.d n y) b lo cs:=xC.i h (by rw[G.aa,A3 a])
end
end Go.Am
namespace Go.Proofs
open Go Go.Am
def bN(n:Nat):Bool:=(decide (65<=n)&&decide (n<=90))||(decide (97<=n)&&decide (n<=122))
def fD(n:Nat):Bool:=decide (48<=n)&&decide (n<=57)
def lL(n:Nat):Bool:=bN n||fD n||decide (n=95)
def eE (p:Nat->Bool)(s:List Nat):List Nat:=s.takeWhile p
def O7:Nat->List Nat
 | 2=>[32,116,111,32,105,115,32,97,116,32,105,102,32,111,114,32,117,112,32]
 | 3=>[32,100,101,102,32,114,111,119,32,111,110,101,32,116,119,111,32,101,110,100,32,111,102,102,32,104,97,115,32,109,105,110,32,109,97,120,32,97,110,100,32,110,111,116,32]
 | 4=>[32,112,108,97,110,32,102,97,99,116,32,102,114,111,109,32,119,104,101,110,32,116,104,101,110,32,100,97,116,101,32,100,97,121,115,32,116,114,117,101,32,108,111,111,107,32,98,101,115,116,32,103,114,111,119,32,100,111,119,110,32,99,101,105,108,32,104,97,108,102,32,101,118,101,110,32]
 | 5=>[32,116,97,98,108,101,32,107,110,111,119,110,32,116,114,117,116,104,32,109,111,110,101,121,32,102,97,108,115,101,32,109,105,110,117,115,32,116,111,100,97,121,32,114,111,117,110,100,32,115,116,97,114,116,32,102,108,111,111,114,32]
 | 6=>[32,99,108,97,117,115,101,32,110,117,109,98,101,114,32,109,111,110,116,104,115,32]
 | 7=>[32,98,101,116,119,101,101,110,32,115,101,114,118,105,99,101,32]
 | _=>[]
def CL(s:List Nat):Bool:=decide (2<=s.length)&&decide (s.length<=7)&&sF (eE bN s) s&&Fu ([32]++s++[32]) (O7 s.length)
def fG(s:List Nat):Bool:=match s with
 | []=>false
 | x::r=>decide ((x::r).length<=24)&&bN x&&sF (eE lL (x::r)) (x::r) && !CL (x::r)
structure xD where
 b:Nat
 a:List Nat
 c:Nat
 e:Nat
def sE (s:List Nat):Nat:=s.foldl (λn b=>n*10+(b-48)) 0
def vM(i b:Nat):Bool:=if i=4\/i=7 then decide (b=45)else fD b
def wK(s:List Nat):Bool:=decide (10<=s.length)&&(List.range 10).all λi=>vM i (s.getD i 0)
def Su(y:Nat):Bool:=decide (y%4=0)&&(decide (y%100≠0)||decide (y%400=0))
def Sr:List Nat:=[31,28,31,30,31,30,31,31,30,31,30,31]
def tP(y m:Nat):Nat:=if m<1\/12<m then 0 else if m=2/\Su y=true then 29 else Sr.getD (m-1) 0
def wU(y:Nat):Nat:=y / 4-y / 100+y / 400
def Mz(y:Nat):Nat->Nat
 | 0=>0
 | k+1=>Mz y k+tP y (k+1)
def wH(m:Nat):Nat:=365*(m / 12)+wU (1899+m / 12)-wU 1899+Mz (1900+m / 12) (m%12)
def Dd (y m d:Nat):Option Nat:=if y<1900\/2079<y\/d<1\/tP y m<d then none else if wH (12*(y-1900)+m-1)+d-1<65536 then some (wH (12*(y-1900)+m-1)+d-1)else none
def gU (s:List Nat):Option Nat:=Dd (sE (s.take 4)) (sE ((s.take 7).drop 5)) (sE (s.drop 8))
def fP(s:List Nat):Bool:=decide (1<s.length)&&decide (s.head?=some 48)
def Ie(b:Nat):Bool:=[40,41,44,43,45,42,47,60,61].contains b
inductive TR where
 | ac (e:Nat)
 | aa (kind:Nat) (text:List Nat)
def nE(s:List Nat):List Nat:=eE fD s
def sH(s:List Nat):List Nat:=if s[(nE s).length]?=some 47 then eE fD (s.drop ((nE s).length+1))else []
def vH(s:List Nat):Nat:=if sH s=[]then(nE s).length else(nE s).length+1+(sH s).length
def mU(s:List Nat)(n:Nat):Bool:=match s[n]? with | some b=>lL b | none=>false
def mM(s:List Nat):Bool:=decide (200<vH s)||mU s (vH s)||fP (nE s)||fP (sH s)||decide (sH s=[48])
def zT(s:List Nat):Bool:=(decide (10<s.length)&&mU s 10)||decide (gU (s.take 10)=none)
def fE(s:List Nat):TR:=
 match s with
 | []=>.ac 110
 | b::_=>
  if bN b then(if 24<(eE lL s).length then .ac 111 else .aa 1 (eE lL s))
  else if fD b&&wK s then(if zT s then .ac 113 else .aa 3 (s.take 10))
  else if fD b then(if mM s then .ac 112 else .aa 2 (s.take (vH s)))
  else if Ie b then .aa 4 [b]else .ac 110
inductive LR where
 | ok (l:List xD)
 | er (e line col:Nat)
def LR.d(t:xD):LR->LR
 | .ok l=>.ok (t::l)
 | .er e a b=>.er e a b
def O8 (p:Nat × Nat):xD:=⟨5,[],p.1,p.2⟩
def LR.c(op:Option (Nat × Nat))(r:LR):LR:=match op with | some p=>r.d (O8 p) | none=>r
def uP:Nat->List Nat->Nat->Nat->Option (Nat × Nat)->LR
 | 0,_,_,_,_=>.ok []
 | _+1,[],_,_,d=>LR.c d (.ok [])
 | k+1,b::r,a,c,d=>
  if b=10 then LR.c d (uP k r (a+1) 1 none)
  else if b=32\/b=9 then uP k r a (c+1) d
  else if b=35 then uP k ((b::r).drop (eE (λx=>decide (x≠10)) (b::r)).length) a (c+(eE (λx=>decide (x≠10)) (b::r)).length) d
  else match fE (b::r)with
   | .ac e=>.er e a c
   | .aa f w=>LR.d ⟨f,w,a,c⟩ (uP k ((b::r).drop w.length) a (c+w.length) (some (a,c+w.length)))
def Hy (s:List Nat):LR:=uP (s.length+1) s 1 1 none
end Go.Proofs
namespace Go.Proofs
open Go Go.Am
abbrev Mn:List Nat:=[112,108,97,110]
abbrev cW:List Nat:=[102,97,99,116]
abbrev O9:List Nat:=[100,101,102]
abbrev Ql:List Nat:=[116,97,98,108,101]
abbrev Cd:List Nat:=[116,119,111]
abbrev K0:List Nat:=[111,110,101]
abbrev K1:List Nat:=[114,111,119]
abbrev Gr:List Nat:=[99,108,97,117,115,101]
abbrev Q9:List Nat:=[97,116]
abbrev Mm:List Nat:=[116,111,100,97,121]
abbrev Gp:List Nat:=[104,97,115]
abbrev Ml:List Nat:=[116,114,117,101]
abbrev Mo:List Nat:=[102,97,108,115,101]
abbrev Jm:List Nat:=[109,111,110,101,121]
abbrev pJ:List Nat:=[109,105,110,117,115]
abbrev vY:List Nat:=[100,97,121,115]
abbrev wY:List Nat:=[109,111,110,116,104,115]
abbrev qh:List Nat:=[108,111,111,107]
abbrev wMin:List Nat:=[109,105,110]
abbrev wMax:List Nat:=[109,97,120]
abbrev zld:List Nat:=[98,101,116,119,101,101,110]
abbrev wIf:List Nat:=[105,102]
abbrev jb:List Nat:=[114,111,117,110,100]
abbrev zlc:List Nat:=[115,101,114,118,105,99,101]
abbrev qi:List Nat:=[103,114,111,119]
abbrev qj:List Nat:=[98,101,115,116]
abbrev ztq:List Nat:=[110,117,109,98,101,114]
abbrev jc:List Nat:=[115,116,97,114,116]
abbrev tS:List Nat:=[107,110,111,119,110]
abbrev l9:List Nat:=[105,115]
abbrev Jn:List Nat:=[102,114,111,109]
abbrev di:List Nat:=[116,111]
abbrev Gq:List Nat:=[101,110,100]
abbrev dj:List Nat:=[111,102,102]
abbrev Mk:List Nat:=[119,104,101,110]
abbrev Jl:List Nat:=[116,104,101,110]
abbrev Ce:List Nat:=[110,111,116]
abbrev ft:List Nat:=[97,110,100]
abbrev ze:List Nat:=[111,114]
def iC (n:Nat):List Nat:=if n=0 then []else n%65536::iC (n / 65536)
decreasing_by omega
def jL (s:List Nat):List Nat:=eE (λb=>decide (b≠47)) s
def dO (s:List Nat):List Nat:=s.drop ((jL s).length+1)
def xK(s:List Nat):Bool:=s.contains 47
def oK(neg:Bool)(n d:Nat):qF:=⟨⟨neg&&decide (0<n),iC (n / Nat.gcd n d)⟩,⟨false,iC (d / Nat.gcd n d)⟩⟩
def kL(s:List Nat)(neg:Bool):qF:=oK neg (sE (jL s)) (if xK s then sE (dO s)else 1)
def zK:qF:=⟨⟨false,[]⟩,⟨false,[]⟩⟩
def qR:gE:=⟨0,zK,0⟩
def sP (s:List Nat)(neg:Bool)(lo hi:Int):Option Int:=(λn:Int=>if lo<=n/\n<=hi then some n else none) (if neg then -(sE s:Int)else sE s)
def bT(s:List Nat):Prop:=s.length<=200/\(∀b∈jL s,fD b=true)/\jL s≠[]/\fP (jL s)=false/\(xK s=true->dO s≠[]/\(∀b∈dO s,fD b=true)/\fP (dO s)=false/\dO s≠[48])
def Zn(s:List Nat):Prop:=s.length=10/\wK s=true/\∃n,gU s=some n
def qY(t:xD):Prop:=(t.b=2->bT t.a)/\(t.b=3->Zn t.a)
inductive PR (α:Type) where
 | ok (a:α) (n:Nat)
 | er (e:Nat) (i:Nat)
def PR.c{b c:Type}:PR b->(b->Nat->PR c)->PR c
 | .ok a n,f=>f a n
 | .er e i,_=>.er e i
abbrev PM(a:Type):=Nat->PR a
section
variable (tk:List xD)
def B0 (w:List Nat)(n:Nat):Bool:=match tk[n]? with | some t=>(decide (t.b=1)||decide (t.b=4))&&sF t.a w | none=>false
def cK(k n:Nat):Bool:=match tk[n]? with | some t=>decide (t.b=k) | none=>false
def yN(n:Nat):List Nat:=match tk[n]? with | some t=>t.a | none=>[]
def yK(k:Nat):PM (List Nat):=λn=>if cK tk k n then .ok (yN tk n) (n+1)else .er 120 n
def mE (w:List Nat):PM Unit:=λn=>if B0 tk w n then .ok () (n+1)else .er 120 n
def pU(n:Nat):Bool:=cK tk 1 n&&fG (yN tk n)
def mL:PM (List Nat):=λn=>if pU tk n then .ok (yN tk n) (n+1)else .er 120 n
def eO:PM Int:=λn=>(yK tk 3 n).c λt n=>.ok ((gU t).getD 0:Nat) n
def nK(a:Nat->List Nat)(most:Nat):Nat->Nat->PM Nat
 | 0,_,n=>.er 120 n
 | k+1,i,n=>if most<i then .er 120 n else if B0 tk (a i) n then .ok i (n+1)else nK a most k (i+1) n
def iN(l:List (List Nat × Nat))(n:Nat):Option Nat:=(l.find? λo=>B0 tk o.1 n).map Prod.snd
def eX (op:Nat)(x y:pA):pA:=.mk op [] qR [x,y]
def I7 (op:Nat)(w:List Nat)(x:pA):pA:=.mk op w qR [x]
def Uj(v:gE):pA:=.mk 1 [] v []
def bQ(o:PM pA)(l:List (List Nat × Nat)):Nat->pA->PM pA
 | 0,x,n=>.ok x n
 | m+1,x,n=>match iN tk l n with
  | none=>.ok x n
  | some b=>(o (n+1)).c λy a=>bQ o l m (eX b x y) a
def cQ(o:PM pA)(l:List (List Nat × Nat)):PM pA:=λn=>(o n).c λx a=>bQ tk o l tk.length x a
def tq(o:PM pA):PM pA:=cQ tk o [([42],9),([47],10)]
def Ck (o:PM pA):PM pA:=cQ tk (tq tk o) [([43],7),([45],8)]
def eU(o:PM pA):PM pA:=λn=>(Ck tk o n).c λx a=>match iN tk [([60],13),([61],14)] a with
 | none=>.ok x a
 | some c=>(Ck tk o (a+1)).c λy b=>.ok (eX c x y) b
def nL:Nat->Nat->Nat
 | 0,_=>0
 | m+1,n=>if B0 tk Ce n then nL m (n+1)+1 else 0
def Dv:Nat->pA->pA
 | 0,x=>x
 | k+1,x=>Dv k (I7 17 [] x)
def aT(o:PM pA):PM pA:=λn=>(eU tk o (n+nL tk tk.length n)).c λx a=>.ok (Dv (nL tk tk.length n) x) a
def Ul(o:PM pA):PM pA:=cQ tk (aT tk o) [(ft,15)]
def C0(o:PM pA):PM pA:=cQ tk (Ul tk o) [(ze,16)]
def wT (o:PM pA)(op:Nat):PM pA:=λn=>(mL tk n).c λw a=>(mE tk Q9 a).c λ_ b=>(o b).c λx c=>.ok (I7 op w x) c
def kS(neg:Bool):PM gE:=λn=>(yK tk 2 n).c λs a=>
 if B0 tk vY a||B0 tk wY a then
  (if xK s then .er 120 a else match sP s neg (-1048576) 1048576 with
   | none=>.er 121 n
   | some i=>.ok ⟨if B0 tk vY a then 5 else 6,zK,i⟩ (a+1))
 else .ok ⟨2,kL s neg,0⟩ a
def yT:PM (Option gE):=λn=>
 if B0 tk Ml n then .ok (some ⟨1,zK,1⟩) (n+1)
 else if B0 tk Mo n then .ok (some ⟨1,zK,0⟩) (n+1)
 else if cK tk 3 n then(eO tk n).c λd a=>.ok (some ⟨4,zK,d⟩) a
 else if B0 tk Jm n then(fun(b:Bool)=>(yK tk 2 (if b then n+2 else n+1)).c λs a=>.ok (some ⟨3,kL s b,0⟩) a) (B0 tk pJ (n+1))
 else if B0 tk pJ n then(kS tk true (n+1)).c λv a=>.ok (some v) a
 else if cK tk 2 n then(kS tk false n).c λv a=>.ok (some v) a
 else .ok none n
structure CF where
 d:List Nat
 e:Nat
 b:Bool
 a:Nat
 c:Nat
abbrev Bl:List CF:=[⟨qh,6,true,1,2⟩,⟨wMin,11,false,2,2⟩,⟨wMax,12,false,2,2⟩,⟨zld,20,false,2,2⟩,⟨wIf,18,false,3,3⟩,⟨jb,19,false,2,2⟩,⟨zlc,21,true,2,2⟩,⟨qi,23,true,2,2⟩,⟨qj,22,true,3,3⟩,⟨wY,24,false,1,1⟩,⟨ztq,25,false,1,1⟩,⟨jc,26,false,1,1⟩]
def fY(e:PM pA):Nat->List pA->PM (List pA)
 | 0,l,n=>.ok l n
 | k+1,l,n=>(mE tk [44] n).c λ_ a=>(e a).c λx b=>fY e k (l++[x]) b
def jT(e:PM pA):Nat->List pA->PM (List pA)
 | 0,l,n=>.ok l n
 | k+1,l,n=>if B0 tk [44] n then(e (n+1)).c λx a=>jT e k (l++[x]) a else .ok l n
def cN:Nat->List Nat
 | 1=>[100,111,119,110]
 | 2=>[117,112]
 | 3=>[102,108,111,111,114]
 | 4=>[99,101,105,108]
 | 5=>[104,97,108,102]
 | 6=>[101,118,101,110]
 | _=>[]
def xJ:Nat->List Nat
 | 1=>[116,114,117,116,104]
 | 2=>[110,117,109,98,101,114]
 | 3=>[109,111,110,101,121]
 | 4=>[100,97,116,101]
 | 5=>[100,97,121,115]
 | 6=>[109,111,110,116,104,115]
 | _=>[]
def mW(e:PM pA):PM pA:=λn=>match Bl.find? λf=>B0 tk f.d n with
 | none=>.er 120 n
 | some f=>(mE tk [40] (n+1)).c λ_ d=>
  (if f.b then(mL tk d).c λw a=>(mE tk [44] a).c λ_ b=>.ok w b else .ok [] d:PR (List Nat)).c λw a=>
  (e a).c λx b=>(fY tk e (f.a-1) [x] b).c λl h=>(jT tk e (f.c-f.a) l h).c λl g=>
  (if f.e=19 then(mE tk [44] g).c λ_ c=>nK tk cN 6 6 1 c else .ok 0 g:PR Nat).c λm c=>
  (mE tk [41] c).c λ_ i=>.ok (.mk f.e w ⟨0,zK,m⟩ l) i
def aN(o:PM pA):PM pA:=λn=>(yT tk n).c λv a=>match v with
 | some v=>.ok (Uj v) a
 | none=>
  if B0 tk [40] a then(C0 tk o (a+1)).c λx b=>(mE tk [41] b).c λ_ c=>.ok x c
  else if B0 tk Mm a then .ok (.mk 2 [] qR []) (a+1)
  else if B0 tk cW a then wT tk o 3 (a+1)
  else if B0 tk Gp a then wT tk o 4 (a+1)
  else if pU tk a then wT tk o 5 a
  else mW tk (C0 tk o) a
def A9:Nat->PM pA
 | 0,n=>.er 122 n
 | k+1,n=>aN tk (A9 k) n
def oZ:PM pA:=C0 tk (A9 tk 101)
def mZ (a:Bool):PM pF:=λn=>(mL tk n).c λw b=>(nK tk xJ 6 6 1 b).c λk c=>.ok ⟨w,k,a⟩ c
def yW:PM Int:=λn=>(fun(a:Bool) (m:Nat)=>
 if !cK tk 2 m||xK (yN tk m)then .er 120 m else match sP (yN tk m) a (-2147483648) 2147483647 with
  | none=>.er 121 m
  | some i=>.ok i (m+1)) (B0 tk pJ n) (if B0 tk pJ n then n+1 else n)
def Cm (f:Bool):PM oG:=λn=>(yW tk n).c λa g=>
 (if f then yW tk g else .ok 0 g:PR Int).c λb h=>(mE tk tS h).c λ_ i=>(eO tk i).c λd j=>(mE tk l9 j).c λ_ e=>
 (fun(c:Bool)=>(yK tk 2 (if c then e+1 else e)).c λs k=>.ok ⟨a,b,d,kL s c⟩ k) (B0 tk pJ e)
def zY:pA:=.mk 0 [] qR []
def Bk:PM qD:=λn=>(mL tk n).c λa i=>(mL tk i).c λb j=>(mE tk Jn j).c λ_ l=>(eO tk l).c λf m=>(mE tk di m).c λ_ g=>
 (if B0 tk Gq g then .ok 65536 (g+1)else eO tk g:PR Int).c λt o=>(mE tk tS o).c λ_ p=>(eO tk p).c λk h=>
 if B0 tk dj h then .ok ⟨a,b,f,t,k,true,zY,zY⟩ (h+1)else
 (mE tk Mk h).c λ_ q=>(oZ tk q).c λx c=>(mE tk Jl c).c λ_ d=>(oZ tk d).c λy e=>.ok ⟨a,b,f,t,k,false,x,y⟩ e
def Jz:PM aE:=λn=>(mL tk n).c λw a=>if B0 tk Cd a then .ok ⟨w,true,[]⟩ (a+1)else(mE tk K0 a).c λ_ b=>.ok ⟨w,false,[]⟩ b
def nP(l:List aE)(r:oG):List aE:=l.dropLast++(l.getLast?.map λt=>(⟨t.b,t.c,t.a++[r]⟩:aE)).toList
def Ld(l:List aE):Bool:=match l.getLast? with | some t=>t.c | none=>false
def iO(p:uD):PM uD:=λn=>
 if B0 tk cW n then(mZ tk true (n+1)).c λd a=>.ok ⟨p.e,p.c++[d],p.a,p.b⟩ a
 else if B0 tk O9 n then(mZ tk false (n+1)).c λd a=>.ok ⟨p.e,p.c++[d],p.a,p.b⟩ a
 else if B0 tk Ql n then(Jz tk (n+1)).c λt a=>.ok ⟨p.e,p.c,p.a++[t],p.b⟩ a
 else if !p.a.isEmpty&&B0 tk K1 n then(Cm tk (Ld p.a) (n+1)).c λr a=>.ok ⟨p.e,p.c,nP p.a r,p.b⟩ a
 else if B0 tk Gr n then(Bk tk (n+1)).c λc a=>.ok ⟨p.e,p.c,p.a,p.b++[c]⟩ a
 else .er 120 n
def tN:Nat->uD->PM uD
 | 0,p,n=>.ok p n
 | m+1,p,n=>if n<tk.length then(iO tk p n).c λp a=>(yK tk 5 a).c λ_ b=>tN m p b else .ok p n
def vJ:PR uD:=(mE tk Mn 0).c λ_ a=>(mL tk a).c λw b=>(yK tk 5 b).c λ_ c=>tN tk tk.length ⟨w,[],[],[]⟩ c
end
end Go.Proofs
