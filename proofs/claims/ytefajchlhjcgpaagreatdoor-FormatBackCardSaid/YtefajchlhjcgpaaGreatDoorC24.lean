/- The calendar: a date's text as a day. -/
import Derived.Test.YtefajchlhjcgpaaGreatDoorC23
set_option linter.all false
noncomputable section
set_option maxRecDepth 100000
namespace Go.Proofs
open Go Go.Am
variable {a b i m y:Nat}{s:List Nat}
variable [fC]
section
variable {t:G vA}{Q:lB}
def zuf(y:Nat):oB Y F 271 [.e .i64 (y:Int)] t=some (.d (So y)):=by
 have e:∀k:Nat,Int.tmod (y:Int) (k:Int)=((y%k:Nat):Int):=λk=>by grind
 refine mC.2 (w271 ?_);unfold t271 rB nH;rw[show(4:Int)=((4:Nat):Int) from rfl,show(100:Int)=((100:Nat):Int) from rfl,show(400:Int)=((400:Nat):Int) from rfl,e,e,e];unfold So;by_cases a:y%4=0
 .refine tA (by grind [wF]) ?_;by_cases b:y%100=0
  .refine vB (by grind [wF]) ⟨?_,rfl⟩;rw[wF];congr 1
   grind
  .refine tA (by grind [wF]) ⟨?_,rfl⟩
   grind
 .refine vB (by grind [wF]) ⟨?_,rfl⟩;simp[a]
def MT (h:y<1000000):oB Y F 243 [.e .i64 (y:Int)] t=some (.e .i64 (nT y:Int)):=by
 have e:∀k:Nat,Int.tdiv (y:Int) (k:Int)=((y / k:Nat):Int):=λk=>by simp_all
 refine mC.2 (w243 ?_);unfold t243 uW;rw[show(4:Int)=((4:Nat):Int) from rfl,show(100:Int)=((100:Nat):Int) from rfl,show(400:Int)=((400:Nat):Int) from rfl,e,e,e];have a:y / 100<=y / 4:=Nat.div_le_div_left (by omega) (by omega);have b:y / 4<=y:=Nat.div_le_self _ _;have c:y / 400<=y:=Nat.div_le_self _ _;simp (disch:=omega) only[A2];refine⟨?_,rfl⟩
 grind [nT]
def zue(a:bK t) (hi:i<12):zC Y 304 (.j 3 0) (.e .i64 (i:Int))=some (.j 3 (0+i))/\oA Y 3 ⟨0,t⟩ (.j 3 (0+i))=some (.e .i64 ((Sm.getD i 0:Nat):Int)):=by
 refine⟨?_,a.2.2.d mL rfl ?_⟩
 .unfold zC;rw[W6,mA];have e:(O.e .i64 (i:Int)).aj=some i:=rfl;rw[e,mA];simp only[O.u,O.ah,lE.g,mA];rw[mL,mA,gC.2 hi,xE,Nat.mul_one]
 .have:Sm[i]?=some (Sm.getD i 0):=by
   rw[List.getD_eq_getElem?_getD,C6 (by show i<12;exact hi)];rfl
  grind
def zp4(c:bK t)(y m:Nat)(p:m<1000000):oB Y F 244 [.e .i64 (y:Int),.e .i64 (m:Int)] t=some (.e .i64 (bO y m:Int)):=by
 refine mC.2 (w244 ?_);unfold t244 J3 uB;by_cases l:m<1
 .refine tA (by grind [zD]) ⟨?_,rfl⟩
  grind [bO]
 refine vB (by grind [zD]) ?_;by_cases n:12<m
 .refine tA (by grind [zD]) ⟨?_,rfl⟩
  grind [bO]
 refine vB (by grind [zD]) ?_;have a:¬ (m=2/\So y=true)->wp 244 (J3 (m:Int)) t λk j=>k=.e .i64 (bO y m:Int)/\j=t:=by
  intro d;unfold J3 uI;have e:uW ((m:Int)-1)=((m-1:Nat):Int):=by
   grind [A2]
  obtain⟨f,g⟩:=zue c (i:=m-1) (by omega);rw[e];refine uA f (fB g (sB ⟨?_,rfl⟩));unfold bO;rw[A3 (by omega),A3 d]
 by_cases b:m=2
 .refine tA (by grind [wF]) (aA ?_);rw[q271,zuf,xA];refine iC ?_
  cases o:So y with
  | true=>
   refine tA rfl ⟨?_,rfl⟩
   grind [bO]
  | false=>exact vB (by simp) (a (by grind))
 .exact vB (by grind [wF]) (a λh=>b h.1)
theorem DV(y m:Nat):bO y m<=31:=by
 unfold bO;split
 .omega
 split
 .omega
 .rename_i a _;have:m-1<12:=by omega
  generalize m-1=k at this
  match k,this with
  | 0,_ | 1,_ | 2,_ | 3,_ | 4,_ | 5,_ | 6,_ | 7,_ | 8,_ | 9,_ | 10,_ | 11,_=>decide
theorem IL(y:Nat):∀k,Mv y k<=31*k:=by
 intro k;induction k with
 | zero=>exact B3 _
 | succ k a=>grind [Mv,DV]
theorem MU(y:Nat):nT y<=y+y:=by grind [nT]
def XY (h:a<=b)(c:b<10000):nT a<=nT b:=by unfold nT;omega
def BR(o:bK t) (x:m<50000):oB Y F 189 [.e .i64 (m:Int)] t=some (.e .i64 (yH m:Int)):=by
 have n:Int.tdiv (m:Int) 12=((m / 12:Nat):Int):=by simp_all
 have d:Int.tmod (m:Int) 12=((m%12:Nat):Int):=by grind
 refine mC.2 (w189 ?_);unfold t189 uI uW;rw[n];have y:m / 12<5000:=by omega
 have f:cA .i64 (cA .i64 (1900+cA .i64 ((m / 12:Nat):Int))-1)=((1899+m / 12:Nat):Int):=by
  grind [A2]
 have g:cA .i64 (1900+cA .i64 ((m / 12:Nat):Int))=((1900+m / 12:Nat):Int):=by
  grind [A2]
 have q:=MU (1899+m / 12);have r:=XY (a:=1899) (b:=1899+m / 12) (by omega) (by omega);refine aA ?_;rw[f,q243,MT (by omega),xA];refine sB (aA ?_);rw[q243,show(1899:Int)=((1899:Nat):Int) from rfl,MT (by omega),xA,g];refine sB (qC ?_);have h:cA .i64 (cA .i64 (cA .i64 (365*cA .i64 (((1900+m / 12:Nat):Int)-1900))+(nT (1899+m / 12):Int))-(nT 1899:Int))=((365*(m / 12)+nT (1899+m / 12)-nT 1899:Nat):Int):=by
  grind [A2]
 rw[h];have c:∀(k i a:Nat),i+k=m%12->a=365*(m / 12)+nT (1899+m / 12)-nT 1899+Mv (1900+m / 12) i->jp 189 2 [.e .i64 (m:Int),.e .i64 ((1900+m / 12:Nat):Int),.e .i64 (a:Int),.e .i64 ((i+1:Nat):Int)] t λw v=>w=.e .i64 (yH m:Int)/\v=t:=by
  intro k;induction k with
  | zero=>
   intro i a p e;refine Sy ?_;unfold xu;rw[d];refine vB (by grind [eT]) ⟨?_,rfl⟩;subst e;unfold yH;rw[show i=m%12 by omega]
  | succ k u=>
   intro i a p e;have z:=IL (1900+m / 12) i;have s:=DV (1900+m / 12) (i+1);refine Sy ?_;unfold xu uI;rw[d];refine tA (by grind [eT]) (aA ?_);rw[q244];show pD (oB Y F 244 [.e .i64 ((1900+m / 12:Nat):Int),.e .i64 ((i+1:Nat):Int)] t) _;rw[zp4 o _ _ (by omega),xA];refine sB (qC ?_);have j:tC ((i+1:Nat):Int)=.e .i64 ((i+1+1:Nat):Int):=by
    show O.e .i64 (cA .i64 (((i+1:Nat):Int)+1))=_;rw[A2 (by omega) (by omega)];rfl
   have l:uW ((a:Int)+(bO (1900+m / 12) (i+1):Int))=((a+bO (1900+m / 12) (i+1):Nat):Int):=by
    show cA .i64 _=_;rw[A2 (by omega) (by omega)];omega
   rw[j,l];exact u (i+1) _ (by omega) (by grind [Mv])
 exact c (m%12) 0 _ (by omega) rfl
def ki(e:bK t){d:Nat}(v:y<10000)(u:m<1000)(s:d<1000):oB Y F 192 [.e .i64 (y:Int),.e .i64 (m:Int),.e .i64 (d:Int)] t=some (.p [.e .i64 (((Ff y m d).getD 0:Nat):Int),.e .i64 (if (Ff y m d).isSome then 0 else 2)]):=by
 refine mC.2 (w192 ?_);unfold t192 uI uB;have a:∀h:y<1900\/2079<y\/d<1\/bO y m<d,Ff y m d=none:=λh=>by unfold Ff;rw[A5 h]
 by_cases j:y<1900
 .rw[a (.inl j)];exact tA (by grind [zD]) ⟨rfl,rfl⟩
 refine vB (by grind [zD]) ?_;by_cases k:2079<y
 .rw[a (.inr (.inl k))];exact tA (by grind [zD]) ⟨rfl,rfl⟩
 refine vB (by grind [zD]) ?_;by_cases l:d<1
 .rw[a (.inr (.inr (.inl l)))];exact tA (by grind [zD]) ⟨rfl,rfl⟩
 refine vB (by grind [zD]) (aA ?_);rw[q244];show pD (oB Y F 244 [.e .i64 (y:Int),.e .i64 (m:Int)] t) _;rw[zp4 e _ _ (by omega),xA];refine sB ?_;by_cases n:bO y m<d
 .rw[a (.inr (.inr (.inr n)))];exact tA (by grind [zD]) ⟨rfl,rfl⟩
 refine vB (by grind [zD]) (aA ?_);have o:1<=m:=by
  grind [bO]
 have f:=DV y m;have g:uW (uW (uW (12*uW ((y:Int)-1900))+(m:Int))-1)=((12*(y-1900)+m-1:Nat):Int):=by
  grind [A2]
 rw[q189];show pD (oB Y F 189 [.e .i64 (uW (uW (uW (12*uW ((y:Int)-1900))+(m:Int))-1))] t) _;rw[g,BR e (by omega),xA];refine sB (aA ?_);have q:yH (12*(y-1900)+m-1)<1000000:=by
  grind [yH,IL,MU]
 have i:uW (uW ((yH (12*(y-1900)+m-1):Int)+(d:Int))-1)=((yH (12*(y-1900)+m-1)+d-1:Nat):Int):=by
  grind [A2]
 rw[i];have p:Ff y m d=if yH (12*(y-1900)+m-1)+d-1<65536 then some (yH (12*(y-1900)+m-1)+d-1)else none:=by
  unfold Ff;rw[A3 (by omega)]
 have b:oB Y F 187 [.e .i64 ((yH (12*(y-1900)+m-1)+d-1:Nat):Int)] t=some (.d (decide (yH (12*(y-1900)+m-1)+d-1<65536))):=by
  refine mC.2 (w187 ?_);unfold t187;generalize yH (12*(y-1900)+m-1)+d-1=z;refine tA (by grind [eT]) ⟨?_,rfl⟩;have r:bB (z:Int) 65536=decide (z<65536):=by
   grind [zD]
  rw[r]
 rw[q187,b,xA,p];refine iC ?_;by_cases c:yH (12*(y-1900)+m-1)+d-1<65536
 .rw[A5 c,decide_eq_true c];exact vB (by simp) ⟨rfl,rfl⟩
 .rw[A3 c,decide_eq_false c];exact tA rfl ⟨rfl,rfl⟩
def zau{a:List (List Nat)}{v:O}(L:bA t 1 (a.map D.c) v)(hl:a.length<100)(hd:∀s∈a,s.length<=9/\∀b∈s,dD b=true)(X:∀t' b,zB t t'->aG t' b .i64 (a.map nE)->Q (.p [.m b 0 a.length a.length,.d true]) t'):Wc Y F 191 [v] t Q:=by
 have d:=L.c;rw[C4]at d;refine w191 ?_;unfold t191 uI;refine uA d (sB (kC λb K m=>?_));obtain⟨l,P,e2,e3,u⟩:=Kv (C:=Y) (T:=249) (k:=.i64) (n:=a.length) W4 rfl mL rfl rfl (by decide) (by omega) K;refine⟨_,_,P,uA d (sB (qC ?_))⟩;have N:∀(k i:Nat) (h:List Nat) (l:G vA),i+k=a.length->h=(a.take i).map nE++List.replicate k 0->zB t l->aG l b .i64 h->jp 191 2 [.m b 0 a.length a.length,v,.e .i64 (a.length:Int),.e .i64 (i:Int)] l Q:=by
  intro k;induction k with
  | zero=>
   intro i h l hi y f w;refine zqw ?_;unfold xw;refine vB (by grind [zD]) ?_;rw[show i=a.length by omega,List.take_length,List.replicate_zero,C8]at y;subst y;exact X l b f w
  | succ k ih=>
   intro i h l hi y f w;refine zqw ?_;unfold xw uS;have M:a[i]?=some a[i]:=C6 (by omega);have B:(a.map D.c)[i]?=some (D.c a[i]):=by simp_all
   obtain⟨b',o',cs,I,J,_,_,W⟩:=oc.at (λ_=>rfl) (L.a f) B;have e:=xP.1 W;subst e;refine tA (by grind [zD]) (uA I (fB J (jC (qC ?_))));have ll:(Int.ofNat (wB a[i]))=(a[i].length:Int):=by rw[eD];rfl
   rw[ll];obtain⟨a6,A⟩:=hd a[i] (F2 _);have o:∀(q j:Nat) (p:G vA),j+q=a[i].length->zB t p->aG p b .i64 ((a.take i).map nE++nE (a[i].take j)::List.replicate k 0)->jp 191 6 [.m b 0 a.length a.length,.e .i64 (i:Int),.h a[i],v,.e .i64 (a.length:Int),.e .i64 (i:Int),.e .i64 (a[i].length:Int),.e .i64 (j:Int)] p Q:=by
    intro q;induction q with
    | zero=>
     intro j p hj c g;refine zqv ?_;unfold xx;refine vB (by grind [zD]) (qC ?_);have u:tC (i:Int)=.e .i64 ((i+1:Nat):Int):=by
      grind [A2]
     rw[u];refine ih (i+1) _ p (by omega) ?_ c g
     grind [List.take_add_one]
    | succ q H=>
     intro j p hj c g;have z:a[i][j]?=some a[i][j]:=C6 (by omega);have a7:48<=a[i][j]/\a[i][j]<=57:=by grind [List.getElem_mem,dD]
     refine zqv ?_;unfold xx uI uU;have a1:((a.take i).map nE).length=i:=by grind
     have r:((a.take i).map nE++nE (a[i].take j)::List.replicate k 0)[i]?=some (nE (a[i].take j)):=by
      grind
     have E:=Gk (C:=Y) (b:=b) W8 (off:=0) (n:=a.length) (cap:=a.length) (i:=i) (by omega);rw[D8,Nat.mul_one]at E;have Z:nE (a[i].take j)<1000000000:=by
      have I:=Ot (s:=a[i].take j) λx M=>A x (List.mem_of_mem_take M);have J:10^(a[i].take j).length<=10^9:=O8 (by omega) (by grind);omega
     refine tA (by grind [zD]) (uA (qO z) (sB (vB (by grind [zD]) (uA (qO z) (sB (vB (by grind [zD]) (uA E (fB (g.f r mL rfl) (sB (uA (qO z) (sB (uA E (kC λn _ _=>?_)))))))))))));have R:uW (uW (10*((nE (a[i].take j):Nat):Int))+uW (cA .u8 ((a[i][j]:Int)-48)))=((nE (a[i].take (j+1)):Nat):Int):=by
      unfold uW;rw[Md (by omega) (by omega),yT z,Za]
      grind [A2]
     obtain⟨t3,S,g2,U⟩:=g.e m (j:=i) (by grind) (nE (a[i].take (j+1))) mL rfl;rw[R];refine⟨_,_,S n,qC ?_⟩;have u:tC (j:Int)=.e .i64 ((j+1:Nat):Int):=by
      grind [A2]
     rw[u];refine H (j+1) t3 (by omega) (c.g K U) ?_
     simp_all
   refine o a[i].length 0 l (by omega) f ?_;rw[y,List.replicate_succ]at w;exact w
 grind
def zes  (h:a<=b)(c:b<=s.length):cF Y 9 wN (.h s) (some (.e .i64 (a:Int))) (some (.e .i64 (b:Int)))=some (.h ((s.take b).drop a)):=by
 unfold cF sP;rw[iI,mA];simp only[O.w];rw[show lE.c .j=true from rfl,xE];unfold Qz gS Fl Aw;have e:∀n:Nat,wO (n:Int)=some n:=λ_=>rfl
 grind [mA,O.aj,O.ba,eD,rF,xE,rV,mT]
theorem FZ (h:aJ s=true) (hi:i<10):∃b,s[i]?=some b/\fL i b=true:=by
 unfold aJ at h;simp only[B2,decide_eq_true_eq,C9,List.mem_range]at h;grind
theorem GA (h:aJ s=true) (m:b<=10)(k:¬ (a<=4/\4<b))(l:¬ (a<=7/\7<b)):∀x∈(s.take b).drop a,dD x=true:=by
 intro x e;obtain⟨j,c⟩:=List.getElem?_of_mem e;rw[mb,uo]at c;split at c
 .rename_i d;obtain⟨y,f,g⟩:=FZ h (i:=a+j) (by omega)
  grind [fL]
 grind
theorem ziz(J:bK t) (hs:s.length=10)(d:aJ s=true):oB Y F 138 [.h s] t=some (.p [.e .i64 (((tX s).getD 0:Nat):Int),.e .i64 (if (tX s).isSome then 0 else 2)]):=by
 refine xV (w138 ?_);unfold t138 uI uU uB uS;have R:(Int.ofNat (wB s))=10:=by grind [eD]
 rw[R];obtain⟨x4,B,o⟩:=FZ d (i:=4) (by omega);obtain⟨x7,E,p⟩:=FZ d (i:=7) (by omega);have o:x4=45:=by grind [fL]
 have p:x7=45:=by grind [fL]
 subst o p;have L:=qO B;have M:=qO E;have X:=Gv (s:=s) (k:=4) (by omega);have Z:=zes (s:=s) (a:=5) (b:=7) (by omega) (by omega);have s8:=Mx (s:=s) (k:=8) (by omega);refine vB (by decide) (uA L (sB (vB (by decide) (uA M (sB (vB (by decide) (uA X (jC (uA Z (jC (uA s8 (jC (kC λb I l=>?_)))))))))))));obtain⟨t1,y,z,A,g5⟩:=Nw (C:=Y) (T:=62) (el:=9) (sz:=1) (n:=3) (cl:=[[.h (s.take 4)],[.h ((s.take 7).drop 5)],[.h (s.drop 8)]]) (ps:=[(0,.h (s.take 4)),(1,.h ((s.take 7).drop 5)),(2,.h (s.drop 8))]) S6 rfl iI rfl rfl (by decide) rfl (λi cs c=>by
  match i,c with
  | 0,c=>grind
  | 1,c=>grind
  | 2,c=>grind) rfl I
 have K:bA t1 1 ([s.take 4,(s.take 7).drop 5,s.drop 8].map D.c) (.m b 0 3 3):=⟨_,z,kD.2 ⟨_,_,rfl,xP.2 rfl,kD.2 ⟨_,_,rfl,xP.2 rfl,kD.2 ⟨_,_,rfl,xP.2 rfl,pG.2 rfl⟩⟩⟩⟩;have u:∀x∈s.take 4,dD x=true:=by
  have:=GA d (a:=0) (b:=4) (by omega) (by omega) (by omega)
  simp_all
 have v:∀x∈(s.take 7).drop 5,dD x=true:=GA d (by omega) (by omega) (by omega);have w:∀x∈s.drop 8,dD x=true:=by
  have:=GA d (a:=8) (b:=10) (by omega) (by omega) (by omega)
  rwa [L0 (by omega)]at this
 refine⟨_,_,y,aA ?_⟩;rw[q191];refine zau K (by simp) (λx hx=>?_) λt2 f H h=>?_
 .grind
 have m:∀i:Nat,i<3->zC Y 249 (.m f 0 3 3) (.e .i64 (i:Int))=some (.j f i):=λi c=>by
  have:=Gk (C:=Y) (b:=f) W8 (off:=0) (n:=3) (cap:=3) (i:=i) c
  rwa [D8,Nat.mul_one]at this
 have N:=h.f (j:=0) rfl mL rfl (C:=Y);have P:=h.f (j:=1) rfl mL rfl (C:=Y);have Q:=h.f (j:=2) rfl mL rfl (C:=Y);refine uA rfl (uA rfl (iC (vB (by simp) (uA (m 0 (by omega)) (fB N (sB (uA (m 1 (by omega)) (fB P (sB (uA (m 2 (by omega)) (fB Q (sB (aA ?_)))))))))))));have q:=Ot u;have g:=Ot v;have r:=Ot w;have S:(s.take 4).length=4:=by grind
 have U:((s.take 7).drop 5).length=2:=by grind
 have W:(s.drop 8).length=2:=by grind
 rw[S]at q;rw[U]at g;rw[W]at r;have e:=A.d H;rw[q192];show pD (oB Y F 192 [.e .i64 ((nE (s.take 4):Nat):Int),.e .i64 ((nE ((s.take 7).drop 5):Nat):Int),.e .i64 ((nE (s.drop 8):Nat):Int)] t2) _;rw[ki (J.a e) (by omega) (by omega) (by omega),xA];exact uA rfl (sB (uA rfl (sB ⟨rfl,e⟩)))
def Hm:Iu where
 aa:=fun {s f m t L Q} h i k=>Wc.c (R:=λv d=>∃a,v=.i a/\RD d (kP s f).b a) (kh h λj a b c=>⟨b,a,rfl,c⟩) i λv d j b c ⟨a,e,g⟩=>by grind
 ah:=λb c e g=>qy b c e g
 ac:=λl ⟨b,c,n,e⟩=>by grind [ziz]
end
end Go.Proofs
namespace Go.Am
open Go Go.RowKit
variable {args vals:List O}{E:lB}{base:Nat}{J:yG}{X:Xt}{tm:Tm}{HA:sA}{p:PI}
structure Ps (C:fA) (F:G oE) (f:Nat) (fn:Func) (kf:Nat) (A:oE) (l:List cC) (q:dS) (fc:Func) (kc:Nat) (Ac:oE) (qc:T8):Prop where
 m:F.c f=some A
 a:C.d.c f=some fn
 n:C.g.c f=some kf
 g:C.c.c f=none
 lt:Nat.blt f yo=true
 i:iE fn.body=false
 c:lZ A.a=some (l,q)
 o:F.c q.a=some Ac
 b:C.d.c q.a=some fc
 j:C.g.c q.a=some kc
 d:C.c.c q.a=none
 e:iE fc.body=false
 p:ee Ac.a=some qc
 ok:(Uh fn.results.toList q.b.toList&&(Nat.ble kf q.d&&Nat.blt q.d fn.ntmps))=true
 r:(Nat.ble (wB q.e) kc&&Nat.ble (wB q.e) fc.ntmps)=true
 s:Nat.blt qc.d fc.ntmps=true
 t:vM (Bt l)=[]
 k:vM qc.c=[]
def gw (C:fA)(F:G oE)(f:Nat)(fn:Func)(c:Nat)(A:oE)(l:List cC)(q:dS)(fc:Func)(b:Nat)(d:oE)(a:T8):Bool:=
 iE (C.c.c f)&&Nat.blt f yo && !iE fn.body&&iE (C.c.c q.a) && !iE fc.body&&(Uh fn.results.toList q.b.toList&&(Nat.ble c q.d&&Nat.blt q.d fn.ntmps)) &&
  (Nat.ble (wB q.e) b&&Nat.ble (wB q.e) fc.ntmps)&&Nat.blt a.d fc.ntmps&&(match vM (Bt l)with | []=>true | _=>false)&&(match vM a.c with | []=>true | _=>false)
section
variable {C:fA}{F:G oE}{f:Nat}{fn fc:Func}{j m:Nat}{A n:oE}{l:List cC}{q:dS}{k:T8}{e pan:Nat->Bool}{t:G vA}{Q:lB}
def Ps.of(o:F.c f=some A)(p:C.d.c f=some fn)(r:C.g.c f=some j)(s:lZ A.a=some (l,q))(t:F.c q.a=some n)(u:C.d.c q.a=some fc)(v:C.g.c q.a=some m)(w:ee n.a=some k)(h:gw C F f fn j A l q fc m n k=true):Ps C F f fn j A l q fc m n k:=by
 unfold gw at h;simp only[B2]at h;obtain⟨⟨⟨⟨⟨⟨⟨⟨⟨c,e⟩,y⟩,g⟩,z⟩,B⟩,D⟩,i⟩,E⟩,d⟩:=h;have a:∀ {b:Type} {x:Option b},iE x=true->x=none:=fun {b} {x} h=>by cases x with | none=>rfl | some _=>cases h
 refine⟨o,p,r,a c,e,by simp_all,s,t,u,v,a g,by simp_all,w,by simp_all,by simp_all,i,?_,?_⟩
 all_goals grind
def zi9(h:F.c f=some A):(bE F).c f=some A.a:=by grind [bE,G.z]
def QT {d:Bool}(e:C.d.c f=some fn)(h:C.g.c f=some j)(a:iE fn.body=false)(i:(Nat.ble (wB args) j&&Nat.ble (wB args) fn.ntmps)=true):∃g,iL C f args d=some g/\g.b=⟨j,G.ac args,[]⟩:=by
 obtain⟨c,a⟩:∃b,fn.body=some b:=by
  cases k:fn.body with
  | none=>rw[k]at a;cases a
  | some b=>simp_all
 refine⟨_,by unfold iL;rw[e,mA,a,mA,h,mA,i];rfl,rfl⟩
theorem eP.d{A:G cC} {c:cC}(h:vM c=[]):eP A E f c:=λq a=>by simp_all
theorem H5.a   {L:List U1}(h:L=[]):H5 base j E J L:=λd a=>by simp_all
def Y7    (b:Ov base t X HA)(a:tm.k=j):qG base X j (λi=>i) X ⟨tm,[],.aj,[]⟩ tm HA t:=
 ⟨b,eJ.f _,a,a,λ_ _ h=>h,λ_ _ h=>(by cases h),λd l h=>(by grind [G.ah]),λd _ l _ h=>(by omega)⟩
def zv5(h:Ps C F f fn j A l q fc m n k) {a:List O}{v:O}{W:yG} (r:cS C (bE F) E W)(s:Fu C (bE F) W)(b:∀ B,eM C (uD C (bE F)) q.a fc.ntmps k.c B=[]) (w:wB a=wB q.e)
  (y:Jj p ⟨M7 fc.ntmps k ⟨m,G.ac a,[]⟩ v,[],.aj,[]⟩=some vals) {R:lB} (z:lA C.a W J (dN C n.b q.a fc.ntmps k.c (Gp C fc) (cN m p vals)) t R):∀X HA,Ov C.a t X HA->rC C.a X E R (fV C (bE F) (uD C (bE F)) q.a a v HA):=by
 intro X HA x;obtain⟨g,e,o⟩:=QT (args:=a) (d:=true) h.b h.j h.e (by rw[w];exact h.r);unfold fV;refine rC.f h.b (rC.f (zi9 h.o) (rC.f h.p ?_));have u:(iE (C.c.c q.a)&&Nat.blt k.d fc.ntmps)=true:=by rw[h.d,h.s];rfl
 rw[u];show rC C.a X E R (ob (iL C q.a a true) _);refine rC.f e ?_;rw[o];have c:qG C.a X m (λi=>i) X ⟨M7 fc.ntmps k ⟨m,G.ac a,[]⟩ v,[],.aj,[]⟩ (M7 fc.ntmps k ⟨m,G.ac a,[]⟩ v) HA t:=Y7 x (by unfold M7;rw[Kf,Kf];rfl);exact Gq r s k.c (Gp C fc) (yR C fc) (eP.d h.k) (λ_=>AV) (H5.a (b _)) _ _ _ _ _ _ _ (c.at y) z
def Uq(C:fA)(F:G oE)(e pan:Nat->Bool)(f:Nat)(fn:Func)(j:Nat)(A:oE)(q:dS)(p:PI)(vals:List O)(t:G vA)(Q:lB):Prop:=
 ∃a,∃E:lB,lQ q.e (.b (cN j p vals).a.b)=some a/\(∀HA,fV C (bE F) (uD C (bE F)) q.a a .x HA=some (⟨.p [],false⟩,HA)) ∧
  (∀v c,E v c->∀X HA,Ov C.a c X HA->rC C.a X iK (λ_ b=>lA C.a (Wq C F e) (λ_ _ _ _=>False) (D7 C fn (cN j p vals).e) b Q) (fV C (bE F) (uD C (bE F)) q.a a v HA)) ∧
  lA C.a (pF C F e pan E) (λ_ _ _ _=>False) (dN C A.b f fn.ntmps (.aa q.i6 q.b false) ⟨D7 C fn,λ_ _=>.g,λ_=>.g⟩ (cN j p vals)) t Q
def zsh(h:Ps C F f fn j A l q fc m n k) (T:p.c=[]) (z:e pn=false)(W:Uq C F e pan f fn j A q p vals t Q){g:Xt}  {ν:Nat->Nat}(c:qG C.a g j ν X (cN j p vals) tm HA t) :
  rC C.a g iK Q (iU C (bE F) (uD C (bE F)) fn q tm HA):=by
 obtain⟨a,E,K,L,M,N⟩:=W;have u:∀b i,aO C (bE F) (uD C (bE F)) fn q.a a .x b i=bY C fn b i:=by
  intro b i;unfold aO;rw[L];rfl
 unfold iU;rw[c.kA,h.ok];show rC C.a g iK Q (ob (lQ q.e (.b tm.b)) _);refine rC.f (FK (Sa c.aa).1 K) ?_;have P:∀g,U2 C (pF C F e pan E) (λ_ _ _ _=>False) g j E Q ⟨D7 C fn,λ_ _=>.g,λ_=>.g⟩ ⟨λb i=>aO C (bE F) (uD C (bE F)) fn q.a a .x b i,λ_ _ _=>none,λ_ _=>none⟩:=by
  intro g;refine⟨?_,λ_ _ _ _ _ _ _ _ h=>h.elim,λ_ _ _ _ _ _ _ h=>h.elim⟩;intro st tm HA t X ν c Z;simp only[u];exact Tq st tm HA t X ν c Z
 have U:=Gq (ws z) GS (.aa q.i6 q.b false) ⟨D7 C fn,λ_ _=>.g,λ_=>.g⟩ ⟨λb i=>aO C (bE F) (uD C (bE F)) fn q.a a .x b i,λ_ _ _=>none,λ_ _=>none⟩ (eP.d rfl) P (H5.a rfl) g _ _ _ _ _ _ c N;obtain⟨o,t',s,X',y,I,J,H⟩:=U;have y:xO C (uD C (bE F)) q.b fn.ntmps (λb i=>aO C (bE F) (uD C (bE F)) fn q.a a .x b i) q.b.toList tm.b HA=some (o,s):=y;refine rC.f y ?_
 cases S:o.p with
 | false=>
  grind [rC]
 | true=>
  rw[S,A5 rfl]at H;show rC C.a g iK Q (aO C (bE F) (uD C (bE F)) fn q.a a o.v tm.b s);obtain⟨v,D,r,x,k1,k2,k3,k4⟩:=uR.1 (M _ _ H _ _ I);unfold aO;refine rC.f k1 ?_;show rC C.a g iK Q (bY C fn tm.b r);have w:=c.aa;have R:∀d,(cN j p vals).e.b.c d=none:=by
   intro d;show(mZ p.c (lT vals (wB p.d))).c d=none;rw[T];exact G.ah _
  have B:qG C.a g j ν x (cN j p vals).e tm.b r D:=
   ⟨k2,J.g k3,w.k,w.kA,w.f,w.g,λd l h=>(by simp_all),λd _ l _ h=>(by simp_all)⟩
  exact Tq _ _ _ _ _ _ B k4
def kj(h:Ps C F f fn j A l q fc m n k) (y:p.c=[])(a:e pn=false) (w:(Nat.ble (wB args) j&&Nat.ble (wB args) fn.ntmps)=true)(b:∀ D,eM C (uD C (bE F)) f fn.ntmps (Bt l) D=[])
  (c:lA C.a (Wq C F e) (λi vals t Q=>i=p.e/\Uq C F e pan f fn j A q p vals t Q) (dN C A.b f fn.ntmps (Bt l) ⟨Ce p,λ_ _=>.g,D7 C fn⟩ ⟨⟨j,G.ac args,[]⟩,[],.aj,[]⟩) t Q):Wc C F f args t Q:=by
 intro X HA x;obtain⟨g,s,u⟩:=QT (args:=args) (d:=false) h.a h.n h.i w;rw[Ln h.lt,h.g];show rC C.a X iK Q (uD C (bE F) (.aa f) args HA);rw[wg];show rC C.a X iK Q (jV C (bE F) (uD C (bE F)) f args HA);unfold jV;refine rC.f (zi9 h.m) (rC.f h.a (rC.f s ?_));unfold Ax;rw[h.c,u];have v:∀r,U2 C (Wq C F e) (λi vals t Q=>i=p.e/\Uq C F e pan f fn j A q p vals t Q) r j iK Q ⟨Ce p,λ_ _=>.g,D7 C fn⟩ (Ha C (bE F) (uD C (bE F)) fn q):=by
  intro r;refine⟨λE tm HA t X H o c=>?_,λ_ _ _ _ _ _ _ _ h=>h.elim,Tq⟩;unfold Ce at c;rw[uF]at c;obtain⟨vals,z,_,B⟩:=c;exact zsh h y a B (o.at z)
 exact Gq (th a) AB (Bt l) _ _ (eP.d h.t) v (H5.a (b _)) _ _ _ _ _ _ _ (Y7 x rfl) c
end
end Go.Am
namespace Go.Proofs
open Go Go.Am
variable {m:G vA}{Q:lB}
variable [fC]
def dq0:dS:=⟨0,#[],0,0,[],0,#[]⟩
def cq0:T8:=⟨0,#[],0,0,.ah⟩
def pcs (f:Nat):List cC:=(gD ([],dq0) (lZ (ao f).a)).1
def Q6 (f:Nat):dS:=(gD ([],dq0) (lZ (ao f).a)).2
def cqo (f:Nat):T8:=gD cq0 (ee (ao f).a)
def dB (f cl:Nat):Bool := !iE (F.c f) && !iE (K8.c f) && !iE (ks.c f) && !iE (lZ (ao f).a) && !iE (F.c cl) && !iE (K8.c cl) && !iE (ks.c cl) && !iE (ee (ao cl).a)&&Nat.beq (Q6 f).a cl&&gw Y F f (fo f) (ko f) (ao f) (pcs f) (Q6 f) (fo cl) (ko cl) (ao cl) (cqo cl)
def dA(f cl:Nat)(h:dB f cl=true:=by kernel_rfl):Ps Y F f (fo f) (ko f) (ao f) (pcs f) (Q6 f) (fo cl) (ko cl) (ao cl) (cqo cl):=by
 unfold dB at h;simp only[B2]at h;obtain⟨⟨⟨⟨⟨⟨⟨⟨⟨b,c⟩,d⟩,g⟩,i⟩,j⟩,k⟩,l⟩,m⟩,a⟩:=h;have e:=bC.1 m;exact .of (gO b) (gO c) (gO d) (gO g) (by rw[e];exact gO i) (by rw[e];exact gO j) (by rw[e];exact gO k) (gO l) a
abbrev Q7:yG:=λ_ _ _ _=>False
abbrev pR:PI:=⟨11,[1,4,5,6,8],[]⟩
abbrev pS:PI:=⟨3,[0,1,2,3],[]⟩
abbrev zP:List O:=[.h [],.g,.g,.g]
abbrev cP(X:zH):List O:=[.h (X.s 0),X.v 1,X.v 2,X.v 3]
def TO (ty:Nat)(z:List O)(C:zH->List O)(v:List Nat)(E:O):T:=
 .h (zL Y ty) λf=>
 .h (zL Y 39) λd=>
 .h (zL Y 34) λb=>
 .c 63 [(.h v)] λt=>
 .d (vK 0 t) λx=>.d (vK 1 t) λy=>.o [(.e .i64 0),(.e .i64 0)] y λw=>
 .d (vK 2 t) λA=>.r .i64 A λD=>.h (nC Y 39 d (.i [(.e .i64 (w.i 0)),(.e .i64 (w.i 1))])) λ_=>
 .h (nC Y 34 b (.e .i64 D)) λ_=>
 .e (λm=>oA Y 34 ⟨0,m⟩ b) λB=>.r .i64 B λu=>.a (!kB u 0)
 (.e (λm=>oA Y ty ⟨0,m⟩ f) λh=>.o z h λg=>
 .e (λm=>oA Y 39 ⟨0,m⟩ d) λi=>.o [(.e .i64 0),(.e .i64 0)] i λa=>
 .e (λm=>oA Y 34 ⟨0,m⟩ b) λj=>.r .i64 j λc=>.h (nC Y ty f (.i (C g))) λ_=>
 .e (λm=>oA Y 39 ⟨0,m⟩ d) λk=>.a (A8 10 k (.i [(.e .i64 (a.i 0)),(.e .i64 (a.i 1))])) (.e (λm=>oA Y 34 ⟨0,m⟩ b) λl=>.a (A8 10 l (.e .i64 c)) (.h (nC Y 39 d (.i [(.e .i64 (a.i 0)),(.e .i64 (a.i 1))])) λ_=>
 .e (λm=>oA Y 34 ⟨0,m⟩ b) λn=>.a (A8 10 n (.e .i64 c)) (.h (nC Y 34 b (.e .i64 c)) λ_=>
 .e (λm=>oA Y ty ⟨0,m⟩ f) λo=>.e (λm=>oA Y 39 ⟨0,m⟩ d) λp=>.e (λm=>oA Y 34 ⟨0,m⟩ b) λq=>.l (.p [o,p,q])) .g) .g) .g)
 (.c 64 [(.h v),(.e .i64 (Int.ofNat (wB v)))] λr=>
 .o [(.e .i64 0),(.e .i64 0)] r λe=>
 .a (oD O.z [x]) (.h (nL (.i [x,(.e .i64 0),(.e .i64 0),(.e .i64 (e.i 0)),(.e .i64 (e.i 1))])) λs=>
 .j 11 [E,f,d,b,s]) .g)
def T0 (ty:Nat)(z:List O)(i:zH->List O)(j a b c k:O):T:=
 .n j [k] λe=>
 .o z e λd=>
 .a true (.h (nC Y ty a (.i (i d))) λ_=>
 .h (nC Y 39 b (.i [(.e .i64 0),(.e .i64 0)])) λ_=>
 .h (nC Y 34 c (.e .i64 0)) λ_=>
 .e (λm=>oA Y ty ⟨0,m⟩ a) λf=>.e (λm=>oA Y 39 ⟨0,m⟩ b) λg=>.e (λm=>oA Y 34 ⟨0,m⟩ c) λh=>.l (.p [f,g,h])) .g
def ni (ty:Nat)(z:List O)(j c k d:O):T:=
 .d ((rU .neq).f Y 20 (.tmp 8) (.const .nilIface) d .x) λe=>.q e λh=>.a h
 (.h (nC Y ty j (.i z)) λ_=>
 .h (nC Y 34 c (.e .i64 120)) λ_=>
 .d (Vk Y 143 true d) λb=>.d (vK 0 b) λf=>.o [(.e .i64 0),(.e .i64 0),(.e .i64 0)] f λa=>
 .d (vK 1 b) λg=>.q g λi=>.a true (.a i
 (.h (nC Y 39 k (.i [(.e .i64 (a.i 0)),(.e .i64 (a.i 1))])) λ_=>
 .a (A8 10 (.e .i64 (a.i 2)) (.e .i64 (a.i 2))) (.h (nC Y 34 c (.e .i64 (a.i 2))) λ_=>
 .l (.p [])) .g)
 (.l (.p []))) .g)
 (.l (.p []))
def nj (ty:Nat)(d e f:O):T:=.e (λm=>oA Y ty ⟨0,m⟩ d) λa=>.e (λm=>oA Y 39 ⟨0,m⟩ e) λb=>.e (λm=>oA Y 34 ⟨0,m⟩ f) λc=>.l (.p [a,b,c])
def t46:List Nat->O->T:=TO 52 zP cP
def zc3:O->O->O->O->O->T:=T0 52 zP cP
def uh:O->O->O->O->T:=ni 52 zP
def ui:O->O->O->T:=nj 52
def e46(a:List Nat)(b:O):dN Y (ao 46).b 46 (fo 46).ntmps (Bt (pcs 46)) ⟨Ce pR,λ_ _=>.g,Am.D7 Y (fo 46)⟩ ⟨⟨ko 46,G.ac [(.h a),b],[]⟩,[],.aj,[]⟩=t46 a b:=by kernel_rfl
def e46_13(a b c d e:O):dN Y (ao 46).b 46 (fo 46).ntmps (.aa (Q6 46).i6 (Q6 46).b false) ⟨Am.D7 Y (fo 46),λ_ _=>.g,λ_=>.g⟩ (cN (ko 46) pR [a,b,c,d,e])=zc3 a b c d e:=by kernel_rfl
def e46_e(d a b c e:O):Am.D7 Y (fo 46) (cN (ko 46) pR [d,a,b,c,e]).e=ui a b c:=by kernel_rfl
def e94_3(a b c d:O):dN Y (ao 94).b (Q6 46).a (fo 94).ntmps (cqo 94).c (Gp Y (fo 94)) (cN (ko 94) pS [a,b,c,d])=uh a b c d:=by kernel_rfl
def qz(a b c:O)(HA:sA):fV Y (bE F) (uD Y (bE F)) (Q6 46).a [a,b,c] .x HA=some (⟨.p [],false⟩,HA):=by kernel_rfl
def tl46(e a b c f:O)  (h:lA Y.a (pF Y F eC aF λv t'=>lA Y.a (Wq Y F eC) Q7 (uh a c b v) t' λ_ d=>lA Y.a (Wq Y F eC) Q7 (ui a b c) d Q) Q7 (zc3 e a b c f) m Q) :
  Uq Y F eC aF 46 (fo 46) (ko 46) (ao 46) (Q6 46) pR [e,a,b,c,f] m Q:=by
 refine⟨[a,c,b],(λv t'=>lA Y.a (Wq Y F eC) Q7 (uh a c b v) t' λ_ d=>lA Y.a (Wq Y F eC) Q7 (ui a b c) d Q),by kernel_rfl,qz _ _ _,λv t' g=>?_,by rw[e46_13];exact h⟩;refine zv5 (dA 46 94) (p:=pS) (W:=Wq Y F eC) (th (by kernel_rfl)) AB (by intro i;kernel_rfl) (by kernel_rfl) (vals:=[a,c,b,v]) (by kernel_rfl) (J:=Q7) ?_;rw[e94_3,e46_e];exact g
def w46(a:List Nat)(b:O)  (h:lA Y.a (Wq Y F eC) (λi vals t Q=>i=11/\Uq Y F eC aF 46 (fo 46) (ko 46) (ao 46) (Q6 46) pR vals t Q) (t46 a b) m Q):Wf 46 [(.h a),b] m Q:=
 kj (pan:=aF) (dA 46 94) (p:=pR) rfl (by kernel_rfl) (by kernel_rfl) (by intro c;kernel_rfl) (by rw[e46];exact h)
end Go.Proofs
namespace Go.Proofs
open Go Go.Am
section
variable [fC]
section
variable {t:G vA}{Q:lB}{s:List Nat}
theorem nQ(s:List Nat):(Int.ofNat (wB s))=(s.length:Int):=by rw[eD];rfl
def zez(b:s.length<4000000000000000000):oB Y F 120 [.h s,.q (.aa 169) [] []] t=some (.h (dE dD s)):=by
 refine mC.2 (w120 ?_);simp only[V,t120,lA];exact Wb (λn=>Ta) (fun {a m R}=>by rw[q169]) rfl b s.length 0 (by omega) (λj x c=>by omega)
def zmf{n:Nat}:oB Y F 175 [.e .u8 (n:Int)] t=some (.d (decide (n≠10))):=by
 refine mC.2 (w175 ?_);unfold t175;refine⟨?_,rfl⟩;rw[wF];congr 1
 grind
def zlk(b:s.length<4000000000000000000):oB Y F 120 [.h s,.q (.aa 175) [] []] t=some (.h (dE (λx=>decide (x≠10)) s)):=by
 refine mC.2 (w120 ?_);simp only[V,t120,lA];exact Wb (λn=>zmf) (fun {a m R}=>by rw[q175]) rfl b s.length 0 (by omega) (λj x c=>by omega)
theorem CK(p:Nat->Bool)(s:List Nat):(dE p s).length<=s.length:=(List.takeWhile_sublist _).length_le
theorem ze3(p:Nat->Bool)(s:List Nat):dE p s=s.take (dE p s).length:=by
 unfold dE;induction s with
 | nil=>rfl
 | cons a s b=>
  grind [List.takeWhile_cons]
def UH(a:s.length<4000000000000000000):oB Y F 225 [.h s] t=some (.p [.h (if 24<(dE jL s).length then []else dE jL s),.e .i64 (if 24<(dE jL s).length then 111 else 0)]):=by
 refine mC.2 (w225 ?_);unfold t225 uS;refine aA ?_;rw[q120,JQ a,xA];refine jC ?_;rw[nQ];by_cases h:24<(dE jL s).length
 .rw[A5 h,A5 h];exact tA (by grind [zD]) ⟨rfl,rfl⟩
 .rw[A3 h,A3 h];exact vB (by grind [zD]) ⟨rfl,rfl⟩
def LG:oB Y F 261 [.h s] t=some (.d (sQ s)):=by
 refine mC.2 (w261 ?_);unfold t261;rw[nQ];unfold sQ;by_cases h:1<s.length
 .cases s with
  | nil=>simp at h
  | cons x r=>
   have a:=qO (s:=x::r) (i:=0) (x:=x) rfl;refine tA (by grind [zD]) (uA a (sB ⟨?_,rfl⟩));rw[wF,decide_eq_true h];congr 1
   grind
 .refine vB (by grind [zD]) ⟨?_,rfl⟩;simp[h]
def zn3:oB Y F 226 [.h s] t=some (.d (aJ s)):=by
 have a:10<=s.length->∀(k i:Nat),i+k=10->jp 226 2 [.h s,.e .i64 (i:Int)] t (λv c=>v=.d (((List.range 10).drop i).all λi=>fL i (s.getD i 0))/\c=t):=by
  intro r k;induction k with
  | zero=>
   intro i o;refine zqs ?_;unfold xz J4 nH;refine vB (by grind [zD]) ⟨?_,rfl⟩
   grind [List.drop_eq_nil_of_le]
  | succ k u=>
   intro i o;have g:s[i]?=some s[i]:=C6 (by omega);have q:s.getD i 0=s[i]:=by grind
   have e:((List.range 10).drop i).all (λi=>fL i (s.getD i 0))=(fL i s[i]&&((List.range 10).drop (i+1)).all λi=>fL i (s.getD i 0)):=by
    grind [List.drop_eq_getElem_cons]
   have j:tC (i:Int)=.e .i64 ((i+1:Nat):Int):=by
    show O.e .i64 (cA .i64 ((i:Int)+1))=_;rw[A2 (by omega) (by omega)];rfl
   have next:fL i s[i]=true->jp 226 2 [.h s,tC (i:Int)] t (λv c=>v=.d (((List.range 10).drop i).all λi=>fL i (s.getD i 0))/\c=t):=λh=>by
    rw[e,h,F3,j];grind
   have b:(i=4\/i=7)->wp 226 (J4 s (i:Int)) t (λv c=>v=.d (((List.range 10).drop i).all λi=>fL i (s.getD i 0))/\c=t):=λd=>by
    unfold J4 uU rB;refine uA (qO g) (sB ?_);have f:fL i s[i]=decide (s[i]=45):=by unfold fL;rw[A5 d]
    by_cases m:s[i]=45
    .grind [vB,wF,qC]
    .refine tA (by grind [wF]) ⟨?_,rfl⟩
     simp_all
   refine zqs ?_;unfold xz J4 uU uB rB;refine tA (by grind [zD]) ?_;by_cases l:i=4
   .exact tA (by grind [wF]) (b (.inl l))
   refine vB (by grind [wF]) ?_;by_cases n:i=7
   .exact tA (by grind [wF]) (b (.inr n))
   refine vB (by grind [wF]) (uA (qO g) (sB (aA ?_)));rw[q169];show pD (oB Y F 169 [.e .u8 (s[i]:Int)] t) _;rw[Ta,xA];have f:fL i s[i]=dD s[i]:=by unfold fL;rw[A3 (by omega)]
   refine iC ?_
   cases p:dD s[i]with
   | true=>grind [vB,qC]
   | false=>
    refine tA rfl ⟨?_,rfl⟩
    simp_all
 refine mC.2 (w226 ?_);unfold t226 rB;rw[nQ];unfold aJ;by_cases h:10<=s.length
 .refine vB (by grind [zD]) (qC ?_);rw[decide_eq_true h,F3];exact a h 10 0 rfl
 .refine tA (by grind [zD]) ⟨?_,rfl⟩
  grind
theorem zbp(h:aJ s=true):aJ (s.take 10)=true/\(s.take 10).length=10:=by
 grind [aJ]
def zbs(l:bK t)(j:aJ s=true):oB Y F 227 [.h s] t=some (.p [.h (if iS s then []else s.take 10),.e .i64 (if iS s then 113 else 0)]):=by
 obtain⟨g,i⟩:=zbp j;have p:10<=s.length:=by grind
 have a:(decide (10<s.length)&&cT s 10)=false->wp 227 (ng s) t λo m=>o=.p [.h (if iS s then []else s.take 10),.e .i64 (if iS s then 113 else 0)]/\m=t:=by
  intro d;have c:iS s=decide (tX (s.take 10)=none):=by unfold iS;rw[d,Bool.false_or]
  unfold ng uS uI;have f:=Gv (s:=s) (k:=10) (by omega);refine uA f (jC (aA ?_));rw[q138,ziz l i g,xA];refine uA rfl (sB (uA rfl (sB ?_)));rw[c]
  cases e:tX (s.take 10)with
  | none=>exact tA (by decide) ⟨rfl,rfl⟩
  | some n=>exact vB (λh=>by cases h) (uA f (jC ⟨rfl,rfl⟩))
 refine mC.2 (w227 ?_);unfold t227 ng uU uB;rw[nQ];by_cases b:10<s.length
 .have e:s[10]?=some s[10]:=C6 b;refine tA (by grind [zD]) (uA (qO e) (sB (aA ?_)));rw[q121];show pD (oB Y F 121 [.e .u8 (s[10]:Int)] t) _;rw[EN,xA];refine iC ?_;have d:cT s 10=jL s[10]:=by unfold cT;rw[e]
  cases c:jL s[10]with
  | true=>
   refine tA rfl ⟨?_,rfl⟩
   grind [iS]
  | false=>
   refine vB (by simp) (a ?_);rw[d,c,E5]
 .exact vB (by grind [zD]) (a (by grind))
def zf0(w:s.length<1000000):oB Y F 228 [.h s] t=some (.p [.h (if tM s then []else s.take (xH s)),.e .i64 (if tM s then 112 else 0)]):=by
 have n:=CK dD s;have k:(rE s).length<=s.length:=n;have f:(rE s).length+1+(wH s).length<=s.length\/wH s=[]:=by
  grind [wH,CK]
 have o:xH s<=s.length:=by
  grind [xH]
 have b:decide (200<xH s)=false->cT s (xH s)=false->wp 228 (N6 (rE s) (wH s) s (xH s:Int)) t λj i=>j=.p [.h (if tM s then []else s.take (xH s)),.e .i64 (if tM s then 112 else 0)]/\i=t:=by
  intro r a;have d:tM s=(sQ (rE s)||sQ (wH s)||decide (wH s=[48])):=by unfold tM;rw[r,a,Bool.false_or,Bool.false_or]
  unfold N6 uB uS;refine aA ?_;rw[q261,LG,xA];refine iC ?_
  cases p:sQ (rE s)with
  | true=>rw[d,p];exact tA rfl ⟨rfl,rfl⟩
  | false=>
   refine vB (by simp) (aA ?_);rw[q261,LG,xA];refine iC ?_
   cases q:sQ (wH s)with
   | true=>rw[d,p,q];exact tA rfl ⟨rfl,rfl⟩
   | false=>
    refine vB (by simp) ?_;rw[d,p,q]
    cases v:sF (wH s) [48]with
    | true=>
     rw[decide_eq_true ((bJ _ _).1 v)];exact tA rfl ⟨rfl,rfl⟩
    | false=>
     rw[decide_eq_false λe=>by grind [bJ]];exact vB (by simp) (uA (Gv o) (jC ⟨rfl,rfl⟩))
 have u:jp 228 17 [.h s,.h (rE s),.e .i64 (xH s:Int),.h (wH s)] t λj i=>j=.p [.h (if tM s then []else s.take (xH s)),.e .i64 (if tM s then 112 else 0)]/\i=t:=by
  refine zuv ?_;unfold zdu N6 uU uB;rw[nQ];by_cases h:xH s<s.length
  .have g:s[xH s]?=some s[xH s]:=C6 h;refine tA (by grind [zD]) (uA (qO g) (sB (aA ?_)));rw[q121];show pD (oB Y F 121 [.e .u8 (s[xH s]:Int)] t) _;rw[EN,xA];refine iC ?_;have m:cT s (xH s)=jL s[xH s]:=by unfold cT;rw[g]
   by_cases a:200<xH s
   .refine tA (by grind [zD]) ⟨?_,rfl⟩
    grind [tM]
   .refine vB (by grind [zD]) ?_
    cases d:jL s[xH s]with
    | true=>
     refine tA rfl ⟨?_,rfl⟩
     grind [tM]
    | false=>exact vB (by simp) (b (decide_eq_false a) (by rw[m,d]))
  .have m:cT s (xH s)=false:=by unfold cT;rw[List.getElem?_eq_none (by omega)]
   refine vB (by grind [zD]) ?_;by_cases a:200<xH s
   .refine tA (by grind [zD]) ⟨?_,rfl⟩
    grind [tM]
   .exact vB (by grind [zD]) (b (decide_eq_false a) m)
 have c:jp 228 13 [.h s,.h (rE s),.e .i64 ((rE s).length:Int),.h (wH s)] t λj i=>j=.p [.h (if tM s then []else s.take (xH s)),.e .i64 (if tM s then 112 else 0)]/\i=t:=by
  refine zuw ?_;unfold zdv;grind [bJ,vB,qC,xH,tA,nQ,A2]
 refine mC.2 (w228 ?_);unfold t228 uU uS;refine aA ?_;rw[q120,zez (by omega),xA];refine jC ?_;rw[nQ,nQ];show wp 228 (.a (bB ((rE s).length:Int) (s.length:Int)) _ (.j 13 [.h s,.h (rE s),V ((rE s).length:Int),.h []])) t _;by_cases h:(rE s).length<s.length
 .have g:s[(rE s).length]?=some s[(rE s).length]:=C6 h;refine tA (by grind [zD]) (uA (qO g) (sB ?_));by_cases l:s[(rE s).length]=47
  .have e:uW (((dE dD s).length:Int)+1)=(((rE s).length+1:Nat):Int):=by
    grind [rE,A2]
   have a:wH s=dE dD (s.drop ((rE s).length+1)):=by unfold wH;rw[A5 (by rw[g,l])]
   refine tA (by grind [wF]) ?_;rw[e];refine uA (Mx (by omega)) (jC (aA ?_));rw[q120,zez (by grind),xA,<- a];exact jC (qC c)
  .have a:wH s=[]:=by unfold wH;rw[A3 (by simp_all)]
   refine vB (by grind [wF]) (qC ?_);rw[a]at c;exact c
 grind [vB,zD,qC]
end
end
section
variable {b:Nat}
variable [fC]
theorem znd(c:Nat):∀s:List Nat,(lY c s).isSome=s.contains c:=by
 intro s;induction s with
 | nil=>rfl
 | cons x r b=>
  rw[List.contains_cons,<- b];have e:lY c (x::r)=bif Nat.beq x c then some 0 else ob (lY c r) λn=>some (n+1):=rfl;rw[e]
  cases h:Nat.beq x c with
  | true=>simp_all
  | false=>
   have:¬ c=x:=λe=>by simp_all
   have a:(c == x)=false:=by grind
   rw[cond_false,a,Bool.false_or];cases lY c r<;>rfl
abbrev sJ(c:Nat)(a:List Nat)(b cl off:Nat):oF:=oC c none [.e .i64 (b:Int),.e .i64 (cl:Int),.h a,.e .i64 (off:Int)]
section
variable {tf t:G vA}{A B:List oF}{Q:lB}{d c cl off:Nat}{a:List Nat}
def g0  : iB Y 239 0 (.j b 0)=some (.j b 0):=by kernel_rfl
def g1  : iB Y 239 1 (.j b 0)=some (.j b 2):=by kernel_rfl
def g2  : iB Y 239 2 (.j b 0)=some (.j b 3):=by kernel_rfl
def p0  : iB Y 39 0 (.j b 0)=some (.j b 0):=by kernel_rfl
def p1  : iB Y 39 1 (.j b 0)=some (.j b 1):=by kernel_rfl
def zps(h:xB Y.a tf t (A++sJ d a c cl off::B)):oA Y 9 ⟨0,t⟩ (.j d 2)=some (.h a):=(xB.d h).f iI rfl rfl
def Rg(h:xB Y.a tf t (A++sJ d a c cl off::B)):oA Y 3 ⟨0,t⟩ (.j d 3)=some (.e .i64 (off:Int)):=(xB.d h).f mL rfl rfl
def q9(h:xB Y.a tf t (A++sJ d a c cl off::B)):oA Y 3 ⟨0,t⟩ (.j d 0)=some (.e .i64 (c:Int)):=(xB.d h).f mL rfl rfl
def rf(h:xB Y.a tf t (A++sJ d a c cl off::B)):oA Y 3 ⟨0,t⟩ (.j d 1)=some (.e .i64 (cl:Int)):=(xB.d h).f mL rfl rfl
def Y8(h:xB Y.a tf t (A++sJ d a c cl off::B)):oA Y 39 ⟨0,t⟩ (.j d 0)=some (.i [.e .i64 (c:Int),.e .i64 (cl:Int)]):=by
 have:=(xB.d h).p.e (j:=0) (n:=2) qZ rfl rfl (by simp)
 simp_all
def Rf{ln' cl' off' j:Nat}{x:Nat}(h:xB Y.a tf t (A++sJ d a c cl off::B))(g:j<4)(f:lJ [.e .i64 (c:Int),.e .i64 (cl:Int),.h a,.e .i64 (off:Int)] j [.e .i64 (x:Int)]=[.e .i64 (ln':Int),.e .i64 (cl':Int),.h a,.e .i64 (off':Int)]) :
  ∃t',(∀q,nC Y 3 (.j d j) (.e .i64 (x:Int)) ⟨q,t⟩=some (aD,⟨q,t'⟩))/\xB Y.a tf t' (A++sJ d a ln' cl' off'::B):=by
 obtain⟨t',b,e⟩:=xB.a (j:=j) (v:=.e .i64 (x:Int)) h mL rfl (by show j+1<=4;omega) rfl;refine⟨t',b,?_⟩;have:(O.e .i64 (x:Int)).s=[.e .i64 (x:Int)]:=rfl
 simp_all
def Nb(h:xB Y.a tf t (A++sJ d a c cl off::B))(b:off<=a.length):oB Y F 174 [.j d 0] t=some (.h (a.drop off)):=by
 refine mC.2 (w174 ?_);unfold t174 uI uS sC;exact uA nl (uA g1 (fB (zps h) (jC (uA nl (uA g2 (fB (Rg h) (sB (uA (Mx b) (jC ⟨rfl,rfl⟩)))))))))
def zet{n:Nat}(h:xB Y.a tf t (A++sJ d a c cl off::B))(p:off+n<1000000)(q:cl+n<1000000)(i:∀t',xB Y.a tf t' (A++sJ d a c (cl+n) (off+n)::B)->Q (.p []) t'):Wc Y F 173 [.j d 0,.e .i64 (n:Int)] t Q:=by
 refine w173 ?_;unfold t173 uI sC;have f:uW ((off:Int)+(n:Int))=((off+n:Nat):Int):=by grind [A2]
 have g:uW ((cl:Int)+(n:Int))=((cl+n:Nat):Int):=by grind [A2]
 refine uA nl (uA g2 (fB (Rg h) (sB (uA nl (uA g2 (kC λb _ _=>?_))))));rw[f];obtain⟨r,k,e⟩:=Rf (j:=3) (x:=off+n) (ln':=c) (cl':=cl) (off':=off+n) h (by omega) rfl;refine⟨_,_,k b,uA nl (uA g0 (uA p1 (fB (rf e) (sB (uA nl (uA g0 (uA p1 (kC λb _ _=>?_))))))))⟩;rw[g];obtain⟨o,l,m⟩:=Rf (j:=1) (x:=cl+n) (ln':=c) (cl':=cl+n) (off':=off+n) e (by omega) rfl;exact⟨_,_,l b,i o m⟩
def zay(h:xB Y.a tf t (A++sJ d a c cl off::B))(g:off<900000)(i:c<900000)(k:∀t',xB Y.a tf t' (A++sJ d a (c+1) 1 (off+1)::B)->Q (.p []) t'):Wc Y F 172 [.j d 0] t Q:=by
 refine w172 ?_;unfold t172 uI sC;have e:∀n:Nat,n<900000->tC (n:Int)=.e .i64 ((n+1:Nat):Int):=λn s=>by
  grind [A2]
 refine uA nl (uA g2 (fB (Rg h) (sB (uA nl (uA g2 (kC λb _ _=>?_))))));rw[e off g];obtain⟨u,l,f⟩:=Rf (j:=3) (x:=off+1) (ln':=c) (cl':=cl) (off':=off+1) h (by omega) rfl;refine⟨_,_,l b,uA nl (uA g0 (uA p0 (fB (q9 f) (sB (uA nl (uA g0 (uA p0 (kC λb _ _=>?_))))))))⟩;rw[e c i];obtain⟨v,m,o⟩:=Rf (j:=0) (x:=c+1) (ln':=c+1) (cl':=cl) (off':=off+1) f (by omega) rfl;refine⟨_,_,m b,uA nl (uA g0 (uA p1 (kC λb _ _=>?_)))⟩
 obtain⟨r,p,q⟩:=Rf (j:=1) (x:=1) (ln':=c+1) (cl':=1) (off':=off+1) o (by omega) rfl;exact⟨_,_,p b,k r q⟩
def HW{s w:List Nat}{k:Nat}(h:jE s=.aa k w):w.length<=s.length/\w=s.take w.length:=by
 cases s with
 | nil=>cases h
 | cons b r=>
  grind [jE,ze3]
def zkm(R:bK tf)(h:xB Y.a tf t (A++sJ d a c cl off::B))(j:off<a.length)(E:a.length<=65536)(M:cl<200000)(r:∀b∈a,b<256)
  (D:∀t',match jE (a.drop off)with
   | .ac e=>xB Y.a tf t' (A++sJ d a c cl off::B)->Q (.p [.i [.e .u8 0,.h [],.e .i64 (c:Int),.e .i64 (cl:Int)],.e .i64 (e:Int)]) t'
   | .aa k w=>xB Y.a tf t' (A++sJ d a c (cl+w.length) (off+w.length)::B)->Q (.p [.i [.e .u8 (k:Int),.h w,.e .i64 (c:Int),.e .i64 (cl:Int)],.e .i64 0]) t'):Wc Y F 176 [.j d 0] t Q:=by
 have x:=R.a h.b;have T:a[off]?=some a[off]:=C6 j;have u:a.drop off=a[off]::a.drop (off+1):=G0 j;have l:=r a[off] (F2 _);have P:(a.drop off).length<=65536:=by grind
 have f:∀(k e:Nat) (w:List Nat),(e≠0->jE (a.drop off)=.ac e)->(e=0->jE (a.drop off)=.aa k w)->jp 176 37 [.j d 0,.e .u8 (k:Int),.h w,.e .i64 (e:Int),.e .u8 0,.h [],.e .i64 0,.e .i64 0,.e .i64 (c:Int),.e .i64 (cl:Int)] t Q:=by
  intro k e w J K;refine zu0 ?_;unfold zd7;by_cases q:e=0
  .have i:=K q;subst q;refine vB (by decide) (aA ?_);rw[q173,nQ];obtain⟨U,_⟩:=HW i;rw[m5]at U;refine zet h (by omega) (by omega) λt' I=>tA rfl (tA rfl ?_);have:=D t';rw[i]at this;exact this I
  .have i:=J q;refine tA (by grind [wF]) (tA rfl (tA rfl ?_));have:=D t;rw[i]at this;exact this h
 have p:rO a[off]=false->(dD a[off]=true->aJ (a.drop off)=false)->wp 176 (nf (a[off]:Int) (.j d 0) (AN [.e .i64 (c:Int),.e .i64 (cl:Int)])) t Q:=by
  intro z N;unfold nf uB uS uI;refine aA ?_;rw[q169];show pD (oB Y F 169 [.e .u8 (a[off]:Int)] t) _;rw[Ta,xA];refine iC ?_
  cases o:dD a[off]with
  | true=>
   have m:=N o;refine tA rfl (aA ?_);rw[q174,Nb h (by omega),xA];refine jC (aA ?_);rw[q228,zf0 (by omega),xA];have i:jE (a.drop off)=if tM (a.drop off)then .ac 112 else .aa 2 ((a.drop off).take (xH (a.drop off))):=by
    grind [jE]
   refine uA rfl (jC (uA rfl (sB (qC ?_))))
   cases L:tM (a.drop off)with
   | true=>exact f 2 112 [] (λ_=>by grind) (λe=>by cases e)
   | false=>exact f 2 0 _ (λe=>absurd rfl e) (λ_=>by grind)
  | false=>
   refine vB (by simp) (aA ?_);have v:Y.c.c 229=some (rN Rv):=by kernel_rfl
   have y:oB Y F 229 [.h [40,41,44,43,45,42,47,60,61],.e .u8 (a[off]:Int)] t=some (.e .i64 (match lY a[off] [40,41,44,43,45,42,47,60,61]with | some n=>.ofNat n | none=>.negSucc 0)):=by
    refine Ke v λH=>?_;show tB (Nat.blt a[off] 256) _=_;rw[gC.2 l];rfl
   rw[q229];show pD (oB Y F 229 [.h [40,41,44,43,45,42,47,60,61],.e .u8 (a[off]:Int)] t) _;rw[y,xA];refine sB ?_;have S:Hu a[off]=(lY a[off] [40,41,44,43,45,42,47,60,61]).isSome:=by rw[znd];rfl
   have i:jE (a.drop off)=if Hu a[off]then .aa 4 [a[off]]else .ac 110:=by
    grind [jE]
   cases W:lY a[off] [40,41,44,43,45,42,47,60,61]with
   | some n=>
    refine tA (by grind [eT]) (aA ?_);rw[q174,Nb h (by omega),xA];have C:=Gv (s:=a.drop off) (k:=1) (by grind);refine jC (uA C (jC (qC ?_)));have:(a.drop off).take 1=[a[off]]:=by grind
    rw[this];exact f 4 0 _ (λe=>absurd rfl e) (λ_=>by grind)
   | none=>
    refine vB (by decide) (qC ?_);exact f 0 110 _ (λ_=>by grind) (λe=>by cases e)
 refine w176 ?_;unfold t176 nf uI uU uB uS uG sC;refine uA nl (uA g0 (fB (Y8 h) (aC (X:=AN [.e .i64 (c:Int),.e .i64 (cl:Int)]) (kQ rfl) (tA rfl (uA nl (uA g1 (fB (zps h) (jC (uA nl (uA g2 (fB (Rg h) (sB (uA (qO T) (sB (aA ?_)))))))))))))));rw[q119];show pD (oB Y F 119 [.e .u8 (a[off]:Int)] t) _;rw[Xs,xA];refine iC ?_
 cases z:rO a[off]with
 | true=>
  refine tA rfl (aA ?_);rw[q174,Nb h (by omega),xA];refine jC (aA ?_);rw[q225,UH (by omega),xA];have i:jE (a.drop off)=if 24<(dE jL (a.drop off)).length then .ac 111 else .aa 1 (dE jL (a.drop off)):=by
   grind [jE]
  refine uA rfl (jC (uA rfl (sB (qC ?_))));by_cases g:24<(dE jL (a.drop off)).length
  .rw[A5 g,A5 g];exact f 1 111 [] (λ_=>by rw[i,A5 g]) (λe=>by cases e)
  .rw[A3 g,A3 g];exact f 1 0 _ (λe=>absurd rfl e) (λ_=>by rw[i,A3 g])
 | false=>
  refine vB (by simp) (aA ?_);rw[q169];show pD (oB Y F 169 [.e .u8 (a[off]:Int)] t) _;rw[Ta,xA];refine iC ?_
  cases o:dD a[off]with
  | false=>exact vB (by simp) (p z (λh=>by grind))
  | true=>
   refine tA rfl (aA ?_);rw[q174,Nb h (by omega),xA];refine jC (aA ?_);rw[q226,zn3,xA];refine iC ?_
   cases m:aJ (a.drop off)with
   | false=>exact vB (by simp) (p z (λ_=>m))
   | true=>
    refine tA rfl (aA ?_);rw[q174,Nb h (by omega),xA];refine jC (aA ?_);rw[q227,zbs x m,xA];have i:jE (a.drop off)=if iS (a.drop off)then .ac 113 else .aa 3 ((a.drop off).take 10):=by
     grind [jE]
    refine uA rfl (jC (uA rfl (sB (qC ?_))))
    cases L:iS (a.drop off)with
    | true=>exact f 3 113 [] (λ_=>by grind) (λe=>by cases e)
    | false=>exact f 3 0 _ (λe=>absurd rfl e) (λ_=>by grind)
end
end
section
variable {acc:List xD}{v:O}
variable [fC]
def nI (l:Nat)(r:iO):oF where
 aa:=[l]
 ok:=λ_ t=>t.c l=some (.ac r)
 ac:=λh _ k=>by simp_all
 ah:=λh k a=>by simp_all
def rh:eS Y 136 149 4:=⟨⟨_,qW,rfl,rfl⟩,⟨_,tu,rfl,rfl,by decide,by decide⟩,λy h=>by rw[tu]at h;cases h;rfl⟩
theorem km{t:G vA}(x:xD):RD t x.d x.f:=by
 simp_all [xD.d,xD.f,xK,kD,pG]
abbrev qR(a b c d:Nat)(pl pc e:Nat)(acc:List xD)(v:O):List oF:=
 [oC a none [.g],oC b none [.e .i64 (pl:Int),.e .i64 (pc:Int)],oC c none [.e .i64 (e:Int)],oC d none [v],iD Y.a 4 (acc.map xD.d) v]
section
variable {tf t:G vA}{Q:lB}{J u cl off D E H I l:Nat}{s:List Nat}{r:iO}{L:List oF}
def xB.p(h:xB Y.a tf t (L++[nI l r])):xB Y.a tf (t.q l) L:=by
 have b:=h.f l (by simp[nI]);have d:l∉L.flatMap oF.aa:=by
  have:=xB.x (A:=L) (B:=[]) (o:=nI l r) h (k:=l) (by simp[nI])
  rwa [C8]at this
 have a:=xB.i (A:=L) (B:=[]) (o:=nI l r) h;rw[C8]at a;exact a.aw d b.2 λc e=>by rw[G.e,A3 e]
def xB.y(h:xB Y.a tf t L)(b:t.c l=none)(c:Y.a<=l):xB Y.a tf (t.d l (.ac r)) (L++[nI l r]):=by
 have:=xB.ac (A:=L) (B:=[]) (o':=nI l r) (t':=t.d l (.ac r)) (by rwa [C8]) (λk a=>by rw[G.aa,A3 (λe=>a (by simp[nI,e]))]) (λk a=>by grind [nI]) (by show(t.d l (.ac r)).c l=_;rw[G.aa,A5 rfl]) (by simp[nI]) (h.b.d (bN b _).1);exact this
def T1 (l:Nat)(r:iO)(D E H I:Nat):Prop:=∀a c d,a.length=2->c.c l=some (.ac r)->Jq Y F 63 2 ([.j D 0,.j E 0,.j H 0,.j I 0]++a) (c.q l) (λv e=>e.c l=none->∃b,v=.d b/\d v (e.d l (.ac (pP b r))))->Wq Y F eC (yo+l) a c d
def zmk(j:r.e=.ready)(k:r.a=none):pP true r=r:=by
 obtain⟨a,b,c,d,e,f,g,h,i⟩:=r;have j:a=.ready:=j;have k:b=none:=k;subst j;subst k;rfl
def AF  {x:xD}(S:T1 l r D E H I)(m:r.e=.ready)(o:r.a=none)(u:acc.length<300000)
  (h:xB Y.a tf t (qR D E H I 0 0 0 acc v++L++[nI l r])) (J:∀f t' v',zB tf f->xB Y.a f t' (qR D E H I 0 0 0 (acc++[x]) v'++L++[nI l r])->Q (.d true) t') :
  Wq Y F eC (yo+l) [.i x.f,.e .i64 0] t Q:=by
 have P:t.c l=some (.ac r):=h.s (nI l r) (by simp);have k:=(h.f l (by simp[nI])).1;refine S _ _ _ rfl P ?_;have s:=xB.p h;refine j63_2 ?_;unfold xg;refine tA rfl (vB (by decide) ?_);have lv:oA Y 136 ⟨0,t.q l⟩ (.j I 0)=some v:=(xB.d (A:=[_,_,_]) s).f qW rfl rfl;refine fB lv (kC λb K _=>?_);have N:mN (λi=>some (i*4,4)) [(0,.i x.f)] (mJ [.e .u8 0,.h [],.e .i64 0,.e .i64 0] 1)=some [x.f].flatten:=by
  rw[Oh (sz:=4) (z:=[.e .u8 0,.h [],.e .i64 0,.e .i64 0]) (v:=.i x.f) rfl rfl];rfl
 obtain⟨p,t1,U,W,X,Z⟩:=oq (C:=Y) (T:=136) (el:=149) (sz:=4) (n:=1) (ds:=[x.d]) (cl:=[x.f]) (ps:=[(0,.i x.f)]) qW rfl tu rfl rfl (by decide) N (Kl rfl) rfl (kD.2 ⟨_,_,rfl,km x,pG.2 rfl⟩) s K;refine⟨_,_,U,kC λc M g=>?_⟩;obtain⟨t2,d,m1,w,m3⟩:=xB.q (A:=[oC D none [.g],oC E none [.e .i64 0,.e .i64 0],oC H none [.e .i64 0],oC I none [v]]) (B:=L) (cs:=[]) rh X Z (by grind) M g;refine⟨_,_,m1,kC λq _ _=>?_⟩
 have a:d.s=[d]:=by
  have:=w.s (iD Y.a 4 (acc.map xD.d++[x.d]) d) (by simp);rcases this with⟨e,_⟩ | ⟨b,cl,c,e,_⟩ <;> (subst e;rfl)
 obtain⟨t3,n1,y⟩:=xB.a (A:=[oC D none [.g],oC E none [.e .i64 0,.e .i64 0],oC H none [.e .i64 0]]) (j:=0) (v:=d) w qW (by simp_all) (by simp_all) (by grind [gI]);refine⟨_,_,n1 q,λR=>⟨true,rfl,?_⟩⟩;rw[zmk m o];have e:lJ [v] 0 d.s=[d]:=by rw[a];rfl
 rw[e]at y;refine J p _ d W ?_;have hs:=xB.y (r:=r) y R k
 simp_all
def zka  {e pl pc:Nat}(i:T1 l r D E H I)(u:e≠0)
  (h:xB Y.a tf t (qR D E H I 0 0 0 acc v++L++[nI l r])) (c:∀t',xB Y.a tf t' (qR D E H I pl pc e acc v++L++[nI l (pP false r)])->Q (.d false) t') :
  Wq Y F eC (yo+l) [.i [.e .u8 0,.h [],.e .i64 (pl:Int),.e .i64 (pc:Int)],.e .i64 (e:Int)] t Q:=by
 have d:t.c l=some (.ac r):=h.s (nI l r) (by simp);have a:=(h.f l (by simp[nI])).1;refine i _ _ _ rfl d ?_;have b:=xB.p h;refine j63_2 ?_;unfold xg;refine tA rfl (tA (by grind [wF]) (kC λq _ _=>?_));obtain⟨w,n,o⟩:=xB.a (A:=[]) (j:=0) (v:=.g) b qW rfl (by show 0+1<=1;omega) rfl;have g:A8 10 (.i [.e .i64 (pl:Int),.e .i64 (pc:Int)]) (.i [.e .i64 (pl:Int),.e .i64 (pc:Int)])=true:=by
  show(A8 9 (.e .i64 (pl:Int)) (.e .i64 (pl:Int))&&(A8 9 (.e .i64 (pc:Int)) (.e .i64 (pc:Int))&&true))=true
  grind [Gy]
 refine⟨_,_,n q,tA g (kC λq _ _=>?_)⟩;obtain⟨x,k,m⟩:=xB.a (A:=[_]) (j:=0) (v:=.i [.e .i64 (pl:Int),.e .i64 (pc:Int)]) o qZ rfl (by show 0+2<=2;omega) rfl;refine⟨_,_,k q,kC λq _ _=>?_⟩;obtain⟨y,p,s⟩:=xB.a (A:=[_,_]) (j:=0) (v:=.e .i64 (e:Int)) m bR rfl (by show 0+1<=1;omega) rfl;exact⟨_,_,p q,λf=>⟨false,rfl,c _ (xB.y s f a)⟩⟩
def Ux{args:List O}:mM (.q (.ac l) [] []) args=some (yo+l,args):=rfl
abbrev opB(op:Option (Nat × Nat)):Bool:=op.isSome
def zko{bx:Nat}(hy:T1 l r D E H I)(S:r.e=.ready)(T:r.a=none)(ad:s.length<=65536)(ah:∀b∈s,b<256) :
  ∀(k off u cl:Nat) (op:Option (Nat × Nat)) (U W:Int) (acc:List xD) (v:O) (tf t:G vA),s.length-off<k->off<=s.length->u<=off+1->cl<=off+1->acc.length<=2*off->(op.isSome=true->acc.length+1<=2*off)->(∀p,op=some p->U=(p.1:Int)/\W=(p.2:Int)) →
   bK tf->xC tf bx none [.h s]->xB Y.a tf t (qR D E H I 0 0 0 acc v++[sJ J s u cl off]++[nI l r]) →
   (match cO k (s.drop off) u cl op with
    | .ok m=>∀c t' v' ln' cl' off',zB tf c->xB Y.a c t' (qR D E H I 0 0 0 (acc++m) v'++[sJ J s ln' cl' off']++[nI l r])->Q (.p []) t'
    | .er e pl pc=>∀c t' v' d ln' cl' off',zB tf c->xB Y.a c t' (qR D E H I pl pc e d v'++[sJ J s ln' cl' off']++[nI l (pP false r)])->Q (.p []) t') →
   jp 171 2 [.q (.ac l) [] [],.j bx 0,.j J 0,.d op.isSome,.e .i64 U,.e .i64 W] t Q:=by
 intro k;induction k with
 | zero=>intro off;omega
 | succ k ih=>
  intro off u cl op U W acc v tf t hk am ap ao al o R hg z h g;have ho:=Rg (A:=qR D E H I 0 0 0 acc v) (B:=[nI l r]) (by simpa using h);have hA:xB Y.a tf t (qR D E H I 0 0 0 acc v++sJ J s u cl off::[nI l r]):=by simpa using h
  have a8:∀ {t},zB tf t->oA Y 9 ⟨0,t⟩ (.j bx 0)=some (.h s):=λhl=>(xC.d z hl).f iI rfl rfl;refine j171_2 ?_;unfold zpo uI uU uB uS uG S0;refine uA g2 (fB ho (sB (fB (a8 h.b) (jC ?_))));rw[nQ];by_cases P:off<s.length
  .have hx:s[off]?=some s[off]:=C6 P;have f:s.drop off=s[off]::s.drop (off+1):=G0 P;rw[f]at g;unfold cO at g;refine tA (by rw[zD];exact decide_eq_true (by omega)) (fB (a8 h.b) (jC (uA g2 (fB ho (sB (uA (qO hx) (sB ?_)))))));by_cases y:s[off]=10
   .rw[A5 y]at g;refine tA (by rw[wF,y];rfl) ?_;have ae:∀(d:List xD) (v':O) (i C:G vA),d.length<=2*(off+1)->zB tf i->xB Y.a i C (qR D E H I 0 0 0 d v'++[sJ J s u cl off]++[nI l r]) →
      (match cO k (s.drop (off+1)) (u+1) 1 none with
       | .ok m=>∀c t' v' ln' cl' off',zB i c->xB Y.a c t' (qR D E H I 0 0 0 (d++m) v'++[sJ J s ln' cl' off']++[nI l r])->Q (.p []) t'
       | .er e pl pc=>∀c t' v' d ln' cl' off',zB i c->xB Y.a c t' (qR D E H I pl pc e d v'++[sJ J s ln' cl' off']++[nI l (pP false r)])->Q (.p []) t') →
      wp 171 (.c 172 [.j J 0] λ_=>.j 2 [.q (.ac l) [] [],.j bx 0,.j J 0,.d false,V U,V W]) C Q:=by
     intro d v' i C ha ab h1 N;refine aA ?_;rw[q172];refine zay (A:=qR D E H I 0 0 0 d v') (B:=[nI l r]) (by simpa using h1) (by omega) (by omega) λF h2=>?_;exact qC (ih (off+1) (u+1) 1 none U W d v' i F (by omega) (by omega) (by omega) (by omega) ha (λh=>by cases h) (λp hp=>by cases hp) (hg.a ab) (xC.d z ab) (by simpa using h2) N)
    cases op with
    | some p=>
     obtain⟨e0,e1⟩:=R p rfl;subst e0 e1;refine tA rfl (tA rfl (nZ Ux ?_));refine AF (x:=O2 p) (L:=[sJ J s u cl off]) hy S T (by omega) h λi C v1 q k2=>?_;refine iC (vB (by simp) (ae (acc++[O2 p]) v1 i C (by have:=o rfl;simp;omega) q k2 ?_));unfold LR.c at g;revert g;generalize cO k (s.drop (off+1)) (u+1) 1 none=a7;intro g
     cases a7 with
     | ok m=>exact λc t' v' ln' cl' off' Z q2=>g c t' v' ln' cl' off' (q.d Z) (by simpa using q2)
     | er e pl pc=>exact λc t' v' d ln' cl' off' Z q2=>g c t' v' d ln' cl' off' (q.d Z) q2
    | none=>
     refine vB (by simp) (ae acc v tf t (by omega) (zB.f _) h ?_);exact g
   rw[A3 y]at g;refine vB (by rw[wF];simp;omega) ?_
   have j:∀n:Nat,off+n<=s.length->0<n->(match cO k (s.drop (off+n)) u (cl+n) op with
     | .ok m=>∀c t' v' ln' cl' off',zB tf c->xB Y.a c t' (qR D E H I 0 0 0 (acc++m) v'++[sJ J s ln' cl' off']++[nI l r])->Q (.p []) t'
     | .er e pl pc=>∀c t' v' d ln' cl' off',zB tf c->xB Y.a c t' (qR D E H I pl pc e d v'++[sJ J s ln' cl' off']++[nI l (pP false r)])->Q (.p []) t') →
     wp 171 (.c 173 [.j J 0,.e .i64 (n:Int)] λ_=>.j 2 [.q (.ac l) [] [],.j bx 0,.j J 0,.d op.isSome,V U,V W]) t Q:=by
    intro n hn aq N;refine aA ?_;rw[q173];refine zet hA (by omega) (by omega) λF h2=>?_;exact qC (ih (off+n) u (cl+n) op U W acc v tf F (by omega) hn (by omega) (by omega) (by omega) (λh=>by have:=o h;omega) R hg z (by simpa using h2) N)
   by_cases K:s[off]=32
   .rw[A5 (.inl K)]at g;exact tA (by rw[wF,K];rfl) (j 1 (by omega) (by omega) g)
   refine vB (by rw[wF];simp;omega) ?_;by_cases h9:s[off]=9
   .rw[A5 (.inr h9)]at g;exact tA (by rw[wF,h9];rfl) (j 1 (by omega) (by omega) g)
   rw[A3 (by simp[K,h9])]at g;refine vB (by rw[wF];simp;omega) ?_;by_cases M:s[off]=35
   .rw[A5 M]at g;have ak:=CK (λx=>decide (x≠10)) (s.drop off);rw[m5]at ak;have aj:0<(dE (λx=>decide (x≠10)) (s.drop off)).length:=by
     rw[f];unfold dE;rw[List.takeWhile_cons,A5 (by simp[y])];simp
    refine tA (by rw[wF,M];rfl) (aA ?_);rw[q174,Nb hA (by omega),xA];refine jC (aA ?_);rw[q120,zlk (by rw[m5];omega),xA];refine jC ?_;rw[nQ];rw[<- f]at g;rw[List.drop_drop]at g;exact j _ (by omega) aj g
   rw[A3 M]at g;refine vB (by rw[wF];simp;omega) (aA ?_);rw[<- f]at g;rw[q176];refine zkm hg hA P ad (by omega) ah λC=>?_
   cases a:jE (s.drop off)with
   | ac e=>
    rw[a]at g;intro h1;have he:e≠0:=by
     intro e0;subst e0;rw[f]at a;unfold jE at a;simp only at a
     repeat (split at a<;>try (cases a;done))
    refine uA rfl (aC (X:=AN [.e .u8 0,.h [],.e .i64 (u:Int),.e .i64 (cl:Int)]) (kQ rfl) (uA rfl (sB (tA rfl (nZ Ux ?_)))));refine zka (pl:=u) (pc:=cl) (L:=[sJ J s u cl off]) hy he (by simpa using h1) λF h2=>?_;exact iC (tA rfl (g tf F v acc u cl off (zB.f _) h2))
   | aa kd w=>
    rw[a]at g;intro h1;obtain⟨lw,_⟩:=HW a;rw[m5]at lw;have ar:0<w.length:=by
     rw[f]at a;unfold jE at a;simp only at a;split at a
     .rename_i hl;split at a
      .cases a
      .cases a;unfold dE;rw[List.takeWhile_cons,A5 (by unfold jL;rw[hl];rfl)];simp
     split at a
     .rename_i hd;split at a
      .cases a
      .cases a;rw[mz,Do];omega
     split at a
     .rename_i hd _;split at a
      .cases a
      .cases a;have:0<xH (s[off]::s.drop (off+1)):=by
        have:0<(rE (s[off]::s.drop (off+1))).length:=by
         unfold rE dE;rw[List.takeWhile_cons,A5 (by assumption)];simp
        unfold xH;split<;>omega
       rw[mz,Do];omega
     split at a
     .cases a;simp
     .cases a
    refine uA rfl (aC (X:=AN [.e .u8 (kd:Int),.h w,.e .i64 (u:Int),.e .i64 (cl:Int)]) (kQ rfl) (uA rfl (sB (tA rfl (nZ Ux ?_)))));refine AF (acc:=acc) (v:=v) (x:=⟨kd,w,u,cl⟩) (L:=[sJ J s u (cl+w.length) (off+w.length)]) hy S T (by omega) (by simpa using h1) λaf F v2 q k2=>?_;have ag:xB Y.a af F (qR D E H I 0 0 0 (acc++[⟨kd,w,u,cl⟩]) v2++sJ J s u (cl+w.length) (off+w.length)::[nI l r]):=by simpa using k2
    refine iC (vB (by simp) (vB (by decide) (uA g0 (fB (Y8 ag) (aC (X:=AN [.e .i64 (u:Int),.e .i64 ((cl+w.length:Nat):Int)]) (kQ rfl) (tA rfl (qC ?_)))))));refine ih (off+w.length) u (cl+w.length) (some (u,cl+w.length)) _ _ (acc++[⟨kd,w,u,cl⟩]) v2 af F (by omega) (by omega) (by omega) (by omega) (by simp;omega) (λ_=>by simp;omega) (λp hp=>by cases hp;exact⟨rfl,rfl⟩) (hg.a q) (xC.d z q) k2 ?_
    have ai:(s.drop off).drop w.length=s.drop (off+w.length):=by rw[List.drop_drop]
    simp only[ai]at g;unfold LR.d at g;revert g;generalize cO k (s.drop (off+w.length)) u (cl+w.length) (some (u,cl+w.length))=a7;intro g
    cases a7 with
    | ok m=>exact λc t' v' ln' cl' off' Z q2=>g c t' v' ln' cl' off' (q.d Z) (by simpa using q2)
    | er e pl pc=>exact λc t' v' d ln' cl' off' Z q2=>g c t' v' d ln' cl' off' (q.d Z) q2
  .have f:s.drop off=[]:=E3 (by omega);rw[f]at g;unfold cO at g;refine vB (by rw[zD];simp;omega) ?_
   cases op with
   | some p=>
    obtain⟨e0,e1⟩:=R p rfl;subst e0 e1;refine tA rfl (tA rfl (nZ Ux ?_));refine AF (x:=O2 p) (L:=[sJ J s u cl off]) hy S T (by omega) h λi C v1 q k2=>?_;exact iC (g i C v1 u cl off q k2)
   | none=>
    refine vB (by simp) ?_;have:=g tf t v u cl off (zB.f _) (by simpa using h);exact this
end
end
section
variable [fC]
def rP (s:List Nat):LR:=if 65536<s.length then .er 3 0 0 else Ho s
section
variable {t:G vA}{Q:lB}{s:List Nat}
def kn(hg:bK t)(a8:∀b∈s,b<256)
  (i:match rP s with
   | .ok m=>∀t' v,zB t t'->bA t' 4 (m.map xD.d) v->Q (.p [v,.i [.e .i64 0,.e .i64 0],.e .i64 0]) t'
   | .er e a b=>∀t',zB t t'->Q (.p [.g,.i [.e .i64 (a:Int),.e .i64 (b:Int)],.e .i64 (e:Int)]) t'):Wc Y F 63 [.h s] t Q:=by
 have ho:xB Y.a t t []:=⟨zB.f _,by simp,by simp,by simp⟩;refine w63 ?_;unfold t63;refine kC λy h0 b0=>?_;obtain⟨t1,e1,e2,e3,e4⟩:=gP (C:=Y) qW h0;have o1:=xB.c (A:=[]) (B:=[]) ho h0 b0 e2 e3 e4;refine⟨_,_,e1,kC λz h1 b1=>?_⟩;obtain⟨t2,f1,f2,f3,f4⟩:=gP (C:=Y) qZ h1;have o2:=xB.c (A:=[_]) (B:=[]) o1 h1 b1 f2 f3 f4;refine⟨_,_,f1,kC λD h2 b2=>?_⟩;obtain⟨t3,k1,k2,k3,k4⟩:=gP (C:=Y) bR h2;have o3:=xB.c (A:=[_,_]) (B:=[]) o2 h2 b2 k2 k3 k4
 refine⟨_,_,k1,?_⟩;rw[nQ];have d:∀ {tf t':G vA} {L:List oF} {v:O} {a b e:Nat},O.z v=true->xB Y.a tf t' ([oC y none [v],oC z none [.e .i64 (a:Int),.e .i64 (b:Int)],oC D none [.e .i64 (e:Int)]]++L) →
   oA Y 136 ⟨0,t'⟩ (.j y 0)=some v/\oA Y 39 ⟨0,t'⟩ (.j z 0)=some (.i [.e .i64 (a:Int),.e .i64 (b:Int)])/\oA Y 34 ⟨0,t'⟩ (.j D 0)=some (.e .i64 (e:Int)):=by
  intro tf t' L v a b e _ h;refine⟨(xB.d (A:=[]) h).f qW rfl rfl,?_,(xB.d (A:=[_,_]) h).f bR rfl rfl⟩;have:=(xB.d (A:=[_]) h).p.e (j:=0) (n:=2) qZ rfl rfl (by simp)
  simp_all
 by_cases hl:65536<s.length
 .have hx:rP s=.er 3 0 0:=by unfold rP;rw[A5 hl]
  rw[hx]at i;refine tA (by grind [zD]) (tA rfl (kC λq _ _=>?_));obtain⟨t4,n1,n2⟩:=xB.a (A:=[]) (j:=0) (v:=.g) o3 qW rfl (by show 0+1<=1;omega) rfl;refine⟨_,_,n1 q,kC λq _ _=>?_⟩;obtain⟨t5,m1,m2⟩:=xB.a (A:=[_]) (j:=0) (v:=.i [.e .i64 0,.e .i64 0]) n2 qZ rfl (by show 0+2<=2;omega) rfl;refine⟨_,_,m1 q,kC λq _ _=>?_⟩;obtain⟨t6,p1,w⟩:=xB.a (A:=[_,_]) (j:=0) (v:=.e .i64 3) m2 bR rfl (by show 0+1<=1;omega) rfl
  obtain⟨S,T,U⟩:=d (L:=[]) (a:=0) (b:=0) (e:=3) (v:=.g) rfl w;exact⟨_,_,p1 q,fB S (fB T (fB U (i t6 w.b)))⟩
 .have hx:rP s=Ho s:=by unfold rP;rw[A3 hl]
  rw[hx]at i;refine vB (by grind [zD]) (kC λJ h6 b6=>?_);obtain⟨t4,n1,n2,n3,n4⟩:=gP (C:=Y) qW h6;have o4:=xB.c (A:=[_,_,_]) (B:=[]) o3 h6 b6 n2 n3 n4;refine⟨_,_,n1,aA ?_⟩;rw[q125];refine w125 ?_;unfold t125;refine kC λE g al=>?_;obtain⟨t5,m1,⟨cc,m2,ai⟩,m3,m4⟩:=Zo (v:=.h s) g;have o5:=o4.z g m4;have aa:=o4.ak g;obtain⟨p1,w⟩:=o5.r (λhm=>o4.aa g hm) m2 aa;generalize ag:t.d E (vA.aa cc (O.h s).s.length none)=x at p1 w
  have N:xC x E none [.h s]:=⟨cc,by rw[<- ag,G.aa,A5 rfl];rfl,ai⟩;refine⟨_,_,m1,?_⟩;show lA _ _ _ (.p (qQ Y) (.q (.aa 171) [] [.j E 0]) 2 2 [.j y 0,.j z 0,.j D 0,.j J 0] _ _) _ _;refine⟨Nat.le_add_right _ _,λl r ab ac ad ae hy=>?_⟩;have af:Bs (qQ Y) (.q (.aa 171) [] [.j E 0]) l=some (171,[.q (.ac l) [] [],.j E 0]):=by
   unfold Bs;simp only[O.am,mA];have:qQ Y 171=true:=by kernel_rfl
   rw[this];rfl
  rw[af,xA];show Wq Y F eC 171 _ _ _;rw[q171];have o6:=xB.y (r:=r) p1 ab ac;have ah:T1 l r y z D J:=λK t1 Q1 h1 h2 h3=>hy K t1 Q1 h1 h2 h3;refine w171 ?_;unfold t171 uS;have lb:oA Y 9 ⟨0,t5.d l (.ac r)⟩ (.j E 0)=some (.h s):=(xC.d N o6.b).f iI rfl rfl;refine tA rfl (fB lb (jC (tA rfl (kC λsp R a7=>?_))));obtain⟨t7,r1,r2,r3,r4⟩:=gP (C:=Y) W3 R;have o7:=xB.c (A:=[_,_,_,_]) (B:=[nI l r]) o6 R a7 r2 r3 r4
  refine⟨_,_,r1,kC λq _ _=>?_⟩;obtain⟨t8,s1,s2⟩:=xB.a (A:=[_,_,_,_]) (j:=0) (v:=.i [.e .i64 1,.e .i64 1,.h s,.e .i64 0]) o7 W3 rfl (by show 0+4<=4;omega) rfl;refine⟨_,_,s1 q,qC ?_⟩;have o8:xB Y.a x t8 (qR y z D J 0 0 0 [] .g++[sJ sp s 1 1 0]++[nI l r]):=
   xB.ac (A:=[oC y none [.g],oC z none [.e .i64 0,.e .i64 0],oC D none [.e .i64 0],oC J none [.g]]) (B:=[sJ sp s 1 1 0,nI l r]) (o':=iD Y.a 4 (([]:List xD).map xD.d) .g) s2 (λ_ _=>rfl) (λk hk=>by simp[iD,zK]at hk) (.inl ⟨rfl,rfl⟩) (by simp[iD,zK]) s2.b
  refine zko ah ad ae (by omega) a8 (s.length+1) 0 1 1 none 0 0 [] .g x t8 (by omega) (by omega) (by omega) (by omega) (by simp) (λh=>by cases h) (λp hp=>by cases hp) (hg.a w) N o8 ?_;rw[G8];unfold Ho at i;revert i;generalize cO (s.length+1) s 1 1 none=aj;intro i
  cases aj with
  | ok m=>
   intro Z t' f W M o u1 H;rw[E8]at H;refine .inl ⟨H.s (nI l r) (by simp),?_⟩;have I:=xB.p H;have lv:oA Y 136 ⟨0,t'.q l⟩ (.j J 0)=some f:=(xB.d (A:=[_,_,_]) I).f qW rfl rfl;have hv:oU Y.a Z (t'.q l) 4 (m.map xD.d) f:=I.s (iD Y.a 4 (m.map xD.d) f) (by simp);have P:O.z f=true:=hv.s;have u:f.s=[f]:=by
    rcases hv with⟨e,_⟩ | ⟨b,cl,c,e,_⟩ <;> (subst e;rfl)
   refine fB lv (tA rfl (kC λq _ _=>?_));obtain⟨t9,x1,x2⟩:=xB.a (A:=[]) (j:=0) (v:=f) I qW (by simp_all) (by simp_all) (by grind [gI]);have e9:lJ [O.g] 0 f.s=[f]:=by rw[u];rfl
   rw[e9]at x2;refine⟨_,_,x1 q,kC λq _ _=>?_⟩;obtain⟨am,y1,y2⟩:=xB.a (A:=[_]) (j:=0) (v:=.i [.e .i64 0,.e .i64 0]) x2 qZ rfl (by show 0+2<=2;omega) rfl;refine⟨_,_,y1 q,kC λq _ _=>?_⟩;obtain⟨X,z1,z2⟩:=xB.a (A:=[_,_]) (j:=0) (v:=.e .i64 0) y2 bR rfl (by show 0+1<=1;omega) rfl;obtain⟨S,T,U⟩:=d (L:=[_,_,_]) (a:=0) (b:=0) (e:=0) P z2;refine⟨_,_,z1 q,fB S (fB T (fB U ?_))⟩;obtain⟨ao,w1,w2,w3⟩:=xB.g (A:=[_,_,_,_]) (B:=[sJ sp s W M o]) z2
   exact i X f (w.d (u1.d z2.b)) (w3.a w2.b)
  | er e pl pc=>
   intro Z t' f ak W M o u1 H;refine .inr ⟨H.s (nI l (pP false r)) (by simp),?_⟩;have I:=xB.p H;obtain⟨S,T,U⟩:=d (L:=[_,_,_]) (v:=.g) rfl I;exact fB S (fB T (fB U (i _ (w.d (u1.d I.b)))))
def cW(s:List Nat):Nat:=(s.reverse.takeWhile λb=>decide (b≠10)).length
def zuh(l:s.length<1000000):oB Y F 127 [.h s,.e .u8 10] t=some (.e .i64 ((s.length:Int)-1-(cW s:Int))):=by
 have e:∀(k:Nat),k<=s.length->cW s=(s.length-k)+cW (s.take k)->jp 180 2 [.h s,.e .u8 10,.e .i64 ((k:Int)-1)] t λv i=>v=.e .i64 ((s.length:Int)-1-(cW s:Int))/\i=t:=by
  intro k;induction k with
  | zero=>
   intro h c;refine zqy ?_;unfold xq;refine vB (by rw[eT];simp) ⟨?_,rfl⟩;rw[List.take_zero]at c;have:cW []=0:=rfl
   grind
  | succ k m=>
   intro h c;have d:s[k]?=some s[k]:=C6 (by omega);have f:((k+1:Nat):Int)-1=(k:Int):=by omega
   refine zqy ?_;unfold xq uU;rw[f];refine tA (by grind [eT]) (uA (qO d) (sB ?_));have g:cW (s.take (k+1))=if s[k]=10 then 0 else cW (s.take k)+1:=by
    unfold cW;rw[yT d,List.reverse_append,List.reverse_singleton,List.singleton_append,List.takeWhile_cons];grind
   by_cases a:s[k]=10
   .rw[A5 a]at g;refine tA (by grind [wF]) ⟨?_,rfl⟩
    grind
   grind [vB,wF,qC,A2]
 refine mC.2 (w127 ?_);unfold t127 uI;refine aA ?_;have b:oB Y F 180 [.h s,.e .u8 10] t=some (.e .i64 ((s.length:Int)-1-(cW s:Int))):=by
  refine mC.2 (w180 ?_);unfold t180;rw[nQ];have j:uW ((s.length:Int)-1)=(s.length:Int)-1:=A2 (by omega) (by omega)
  grind [qC]
 rw[q180,b,xA];exact sB ⟨rfl,rfl⟩
def mj (s:List Nat):Nat:=Av 10 s+1
def ff (s:List Nat):Nat:=cW s+1
theorem zn6(s:List Nat):Av 10 s<=s.length:=by
 induction s with
 | nil=>exact B3 _
 | cons b s a=>
  grind [Av]
def za4(s:List Nat):cW s<=s.length:=by
 unfold cW;have:=(List.takeWhile_sublist (λb=>decide (b≠10)) (l:=s.reverse)).length_le
 rwa [List.length_reverse]at this
def ri(j:s.length<900000){n:Nat}(g:n<=s.length):oB Y F 64 [.h s,.e .i64 (n:Int)] t=some (.i [.e .i64 (mj (s.take n):Int),.e .i64 (ff (s.take n):Int)]):=by
 refine mC.2 (w64 ?_);unfold t64 uI uS;have d:(bif bB (Int.ofNat (wB s)) (n:Int)then Int.ofNat (wB s)else(n:Int))=(n:Int):=by
  grind [nQ,zD]
 rw[d];have c:(s.take n).length=n:=by simp_all
 refine vB (by rw[zD];simp) (uA (Gv g) (jC (aA ?_)));have b:Y.c.c 126=some (rN Wu):=by kernel_rfl
 have a:oB Y F 126 [.h (s.take n),.h [10]] t=some (.e .i64 (Av 10 (s.take n):Int)):=Ke b λH=>rfl;rw[q126,a,xA];refine sB (aA ?_);rw[q127];show pD (oB Y F 127 [.h (s.take n),.e .u8 10] t) _;rw[zuh (by omega),xA];have h:=zn6 (s.take n);have i:=za4 (s.take n);have e:tC (Av 10 (s.take n):Int)=.e .i64 (mj (s.take n):Int):=by
  show O.e .i64 (cA .i64 ((Av 10 (s.take n):Int)+1))=_;rw[A2 (by omega) (by omega)];rfl
 have f:uW (Int.ofNat (wB (s.take n))-(((s.take n).length:Int)-1-(cW (s.take n):Int)))=(ff (s.take n):Int):=by
  grind [ff,nQ,A2]
 refine sB (tA rfl (tA rfl ?_));rw[e,f];exact⟨rfl,rfl⟩
end
end
section
variable {y:jD}{cs':List O}{e k':Int}
variable [fC]
def L3 (b0 c d:Nat)(z:List O)(a b k:Int):List oF:=[oC b0 none z,oC c none [.e .i64 a,.e .i64 b],oC d none [.e .i64 k]]
structure RT (T:Nat) (z:List O) (cf:zH->List O):Prop where
 b:∃y,Y.b.c T=some y/\y.a.h=true/\y.c=z/\y.b=z.length
 a:oD O.z z=true
 ag:nK z (.i z)=some (AN z)
 cf:cf (AN z)=z
section
variable {t tf:G vA}{Q:lB}{s:List Nat}{T:Nat}{z:List O}{f:zH->List O}{J:yG}{A B:List oF}{b0 d c:Nat}{cs:List O}{a b k:Int}{W:yG}
def uj (h:xB Y.a tf t (A++oC b0 none cs::B))(a:Y.b.c T=some y)(b:y.a.h=true)(c:y.b=cs.length):oA Y T ⟨0,t⟩ (.j b0 0)=some (.i cs):=by
 have:=h.d.p.e (j:=0) (n:=cs.length) a b c (by omega)
 simp_all
def stS  (h:xB Y.a tf t (A++oC b0 none cs::B))(e:Y.b.c T=some y)(g:y.b=cs.length)(f:cs'.length=cs.length)(a:oD O.z cs'=true):∃t',(∀q,nC Y T (.j b0 0) (.i cs') ⟨q,t⟩=some (aD,⟨q,t'⟩))/\xB Y.a tf t' (A++oC b0 none cs'::B):=by
 obtain⟨t',d,b⟩:=xB.a (j:=0) (v:=.i cs') h e (by show cs'.length=_;omega) (by show 0+cs'.length<=_;omega) a;refine⟨t',d,?_⟩;have c:lJ cs 0 cs'=cs':=by
  unfold lJ;rw[List.take_zero,E8,E3 (by omega),C8]
 have b:xB Y.a tf t' (A++oC b0 none (lJ cs 0 cs')::B):=b
 rwa [c]at b
def stI (h:xB Y.a tf t (A++oC b0 none [.e .i64 k]::B)):∃t',(∀q,nC Y 34 (.j b0 0) (.e .i64 k') ⟨q,t⟩=some (aD,⟨q,t'⟩))/\xB Y.a tf t' (A++oC b0 none [.e .i64 k']::B):=by
 obtain⟨t',a,b⟩:=xB.a (j:=0) (v:=.e .i64 k') h bR rfl (by show 0+1<=1;omega) rfl;exact⟨t',a,b⟩
def mm{a b:Int}:nK [.e .i64 0,.e .i64 0] (.i [.e .i64 a,.e .i64 b])=some (AN [.e .i64 a,.e .i64 b]):=kQ rfl
def zte(l:RT T z f)(o:cs.length=z.length)(h:xB Y.a tf t (A++L3 b0 d c cs a b k))(j:Q (.p [.i cs,.i [.e .i64 a,.e .i64 b],.e .i64 k]) t):lA Y.a W J (nj T (.j b0 0) (.j d 0) (.j c 0)) t Q:=by
 obtain⟨y,g,i,m,n⟩:=l.b;unfold nj;refine fB (uj h g i (by omega)) (fB (v:=.i [.e .i64 a,.e .i64 b]) ?_ (fB (v:=.e .i64 k) ?_ j))
 .exact uj (A:=A++[oC b0 none cs]) (B:=[oC c none [.e .i64 k]]) (by simpa[L3]using h) qZ rfl rfl
 .have e:xB Y.a tf t ((A++[oC b0 none cs,oC d none [.e .i64 a,.e .i64 b]])++oC c none [.e .i64 k]::[]):=by grind [L3]
  exact e.d.f bR rfl rfl
def gz(i:RT T z f) (o:cs.length=z.length)(j:cs'.length=z.length)(e:oD O.z cs'=true)(h:xB Y.a tf t (A++L3 b0 d c cs a b k)):∃t',(∀q,nC Y T (.j b0 0) (.i cs') ⟨q,t⟩=some (aD,⟨q,t'⟩))/\xB Y.a tf t' (A++L3 b0 d c cs' a b k):=by
 obtain⟨y,g,l,m,n⟩:=i.b;exact stS h g (by omega) (by omega) e
def O4{a' b':Int}(h:xB Y.a tf t (A++L3 b0 d c cs a b k)):∃t',(∀q,nC Y 39 (.j d 0) (.i [.e .i64 a',.e .i64 b']) ⟨q,t⟩=some (aD,⟨q,t'⟩))/\xB Y.a tf t' (A++L3 b0 d c cs a' b' k):=by
 obtain⟨t',e,f⟩:=stS (A:=A++[oC b0 none cs]) (B:=[oC c none [.e .i64 k]]) (cs:=[.e .i64 a,.e .i64 b]) (b0:=d) (cs':=[.e .i64 a',.e .i64 b']) (by simpa[L3]using h) qZ rfl rfl rfl
 grind [L3]
def J8 (h:xB Y.a tf t (A++L3 b0 d c cs a b k)):∃t',(∀q,nC Y 34 (.j c 0) (.e .i64 k') ⟨q,t⟩=some (aD,⟨q,t'⟩))/\xB Y.a tf t' (A++L3 b0 d c cs a b k'):=by
 obtain⟨t',e,f⟩:=stI (A:=A++[oC b0 none cs,oC d none [.e .i64 a,.e .i64 b]]) (B:=[]) (k':=k') (by simpa[L3]using h)
 grind [L3]
def ld1(h:xB Y.a tf t (A++L3 b0 d c cs a b k)):oA Y 39 ⟨0,t⟩ (.j d 0)=some (.i [.e .i64 a,.e .i64 b]):=
 uj (A:=A++[oC b0 none cs]) (B:=[oC c none [.e .i64 k]]) (by simpa[L3]using h) qZ rfl rfl
def nk(h:xB Y.a tf t (A++L3 b0 d c cs a b k)):oA Y 34 ⟨0,t⟩ (.j c 0)=some (.e .i64 k):=by
 have e:xB Y.a tf t ((A++[oC b0 none cs,oC d none [.e .i64 a,.e .i64 b]])++oC c none [.e .i64 k]::[]):=by grind [L3]
 exact e.d.f bR rfl rfl
def kp(g:RT T z f){x y:Int}(u:cs.length=z.length)(h:xB Y.a tf t (A++L3 b0 d c cs a b k))(s:∀t',xB Y.a tf t' (A++L3 b0 d c z x y e)->Q (.p []) t') :
  lA Y.a W J (ni T z (.j b0 0) (.j c 0) (.j d 0) (.aw 143 (.i [.e .i64 x,.e .i64 y,.e .i64 e]))) t Q:=by
 unfold ni;refine uA (v:=.d true) (by kernel_rfl) (iC (tA rfl ?_));obtain⟨w,i,j⟩:=gz g (cs':=z) u rfl g.a h;refine kC λq _ _=>⟨_,_,i q,?_⟩;obtain⟨B,l,m⟩:=J8 (k':=120) j;refine kC λq _ _=>⟨_,_,l q,?_⟩;refine uA (v:=.p [.i [.e .i64 x,.e .i64 y,.e .i64 e],.d true]) (by kernel_rfl) (uA (v:=.i [.e .i64 x,.e .i64 y,.e .i64 e]) rfl (aC (X:=AN [.e .i64 x,.e .i64 y,.e .i64 e]) (kQ rfl) (uA (v:=.d true) rfl (iC (tA rfl (tA rfl ?_))))))
 obtain⟨C,n,o⟩:=O4 (a':=x) (b':=y) m;refine kC λq _ _=>⟨_,_,n q,?_⟩;refine tA (by simp_all [A8,oP,wF]) ?_;obtain⟨D,p,r⟩:=J8 (k':=e) o;refine kC λq _ _=>⟨_,_,p q,?_⟩;exact s _ r
def zpt  : A8 10 (.e .i64 e) (.e .i64 e)=true:=by simp[A8,oP,wF]
def kr{a b:Int}:A8 10 (.i [.e .i64 a,.e .i64 b]) (.i [.e .i64 a,.e .i64 b])=true:=by simp[A8,A8.sames,oP,wF]
def ku{u:Type}{rd:G vA->u->O->Prop}{good:G vA->u->List O->Prop}{P:wK}{r:PR u}{g:Nat}(m:RT T z f)(y:P.L=L3 b0 d c z 0 0 0)(h:St P tf t 0 0)
  (A:match r with
   | .ok x _=>∀a t' cs,zB tf a->zB a t'->good a x cs->Q (.p [.i cs,.i [.e .i64 0,.e .i64 0],.e .i64 0]) t'
   | .er e i=>∀t',zB tf t'->Q (.p [.i z,.i [.e .i64 ((mH P i).c:Int),.e .i64 ((mH P i).e:Int)],.e .i64 (e:Int)]) t')
  (b:∀Q E,Ok P rd 0 tf r Q E->pF Y F eC aF E g [.j P.b 0] t Q) (M:Nat.blt g pn=true)
  (p:∀a x v,rd a x v->∃cs,v=.i cs/\cs.length=z.length/\nK z (.i cs)=some (AN cs)/\f (AN cs)=cs/\oD O.z cs=true/\good a x cs) :
  lA Y.a (pF Y F eC aF λv t'=>lA Y.a (Wq Y F eC) Q7 (ni T z (.j b0 0) (.j c 0) (.j d 0) v) t' λ_ s=>lA Y.a (Wq Y F eC) Q7 (nj T (.j b0 0) (.j d 0) (.j c 0)) s Q) Q7
   (T0 T z f (.q (.aa g) [] []) (.j b0 0) (.j d 0) (.j c 0) (.j P.b 0)) t Q:=by
 unfold T0;have L:mM (.q (.aa g) [] []) [.j P.b 0]=some (g,[.j P.b 0]):=by
  unfold mM;simp only[O.am,mA,M,xE];rfl
 refine nZ L (b _ _ ?_)
 cases r with
 | er e i=>
  intro a t' Z D j k;have o:xB Y.a a t' ([pH P Z D]++L3 b0 d c z 0 0 0):=by rw[<- y];exact k.g
  refine kp m rfl o λC l=>?_;refine zte m rfl l ?_;exact A C (j.d l.b)
 | ok x n=>
  intro a t' v j k N;obtain⟨cs,rfl,w,H,I,J,K⟩:=p _ _ _ N;have o:xB Y.a a t' ([pH P n 0]++L3 b0 d c z 0 0 0):=by rw[<- y];exact k.g
  refine aC H (tA rfl ?_);rw[I];obtain⟨t1,R,S⟩:=gz m (cs':=cs) rfl w J o;refine kC λq _ _=>⟨_,_,R q,?_⟩;obtain⟨C,U,W⟩:=O4 (a':=0) (b':=0) S;refine kC λq _ _=>⟨_,_,U q,?_⟩;obtain⟨t3,X,B⟩:=J8 (k':=0) W;refine kC λq _ _=>⟨_,_,X q,?_⟩;exact zte m w B (A a t3 cs j B.b K)
def zs3{p1:O}(l:RT T z f)(hg:bK t)(ab:∀b∈s,b<256)(i:∀m,rP s=.ok m->s.length<900000/\m.length<300000/\∀x∈m,Df x)
  (hE:∀e a b,rP s=.er e a b->e≠0/\∀t',zB t t'->Q (.p [.i z,.i [.e .i64 (a:Int),.e .i64 (b:Int)],.e .i64 (e:Int)]) t')
  (hT:∀m,rP s=.ok m->∀g t1 P b0 d c,P.a=m->P.e=mj s->P.f=ff s->P.L=L3 b0 d c z 0 0 0->zB t g->St P g t1 0 0->J 11 [p1,.j b0 0,.j d 0,.j c 0,.j P.b 0] t1 Q) :
  lA Y.a (Wq Y F eC) J (TO T z f s p1) t Q:=by
 obtain⟨y,y1,y2,y3,y4⟩:=l.b;unfold TO;refine kC λk r U=>?_;obtain⟨u0,a1,a2,a3,a4⟩:=gP (C:=Y) y1 r;refine⟨_,_,a1,?_⟩;have o0:xB Y.a t t []:=⟨zB.f _,by simp,by simp,by simp⟩;have o1:=xB.c (A:=[]) (B:=[]) o0 r U a2 a3 a4;refine kC λp u X=>?_;obtain⟨u1,a5,a6,a7,a8⟩:=gP (C:=Y) qZ u;refine⟨_,_,a5,?_⟩;have o2:=xB.c (A:=[oC k none y.c]) (B:=[]) o1 u X a6 a7 a8;refine kC λK w Z=>?_;obtain⟨u2,a9,M,N,S⟩:=gP (C:=Y) bR w
 refine⟨_,_,a9,?_⟩;have L:=xB.c (A:=[oC k none y.c,oC p none [.e .i64 0,.e .i64 0]]) (B:=[]) o2 w Z M N S;rw[y3]at L;have L:xB Y.a t u2 (L3 k p K z 0 0 0):=L;refine aA ?_
 rw[q63];refine Wc.c (R:=λv t'=>match rP s with
   | .ok m=>∃o,v=.p [o,.i [.e .i64 0,.e .i64 0],.e .i64 0]/\bA t' 4 (m.map xD.d) o
   | .er e a b=>v=.p [.g,.i [.e .i64 (a:Int),.e .i64 (b:Int)],.e .i64 (e:Int)]) (kn hg ab ?_) L λv g t1 j ho n=>?_
 .grind
 cases H:rP s with
 | er e a b=>
  rw[H]at n;have n:v=.p [.g,.i [.e .i64 (a:Int),.e .i64 (b:Int)],.e .i64 (e:Int)]:=n;subst n;obtain⟨ad,hQ⟩:=hE e a b H;refine uA (v:=.g) rfl (uA (v:=.i [.e .i64 (a:Int),.e .i64 (b:Int)]) rfl (aC mm (uA (v:=.e .i64 (e:Int)) rfl (sB ?_))));obtain⟨t2,k1,k2⟩:=O4 (A:=[]) (a':=(a:Int)) (b':=(b:Int)) ho;refine kC λq _ _=>⟨_,_,k1 q,?_⟩;obtain⟨t3,k3,h⟩:=J8 (k':=(e:Int)) k2;refine kC λq _ _=>⟨_,_,k3 q,?_⟩
  refine fB (nk h) (sB (tA (by grind [wF]) ?_));refine fB (uj (A:=[]) h y1 y2 y4) (aC l.ag (fB (ld1 h) (aC mm (fB (nk h) (sB ?_)))));rw[l.cf];obtain⟨t4,k5,k6⟩:=gz l (cs':=z) rfl rfl l.a h;refine kC λq _ _=>⟨_,_,k5 q,?_⟩;refine fB (ld1 k6) (tA kr (fB (nk k6) (tA zpt ?_)));obtain⟨t5,k7,k8⟩:=O4 (a':=(a:Int)) (b':=(b:Int)) k6;refine kC λq _ _=>⟨_,_,k7 q,?_⟩;refine fB (nk k8) (tA zpt ?_);obtain⟨t6,k9,I⟩:=J8 (k':=(e:Int)) k8
  refine kC λq _ _=>⟨_,_,k9 q,?_⟩;refine zte (W:=Wq Y F eC) (J:=J) l rfl I (hQ t6 (j.d I.b))
 | ok m=>
  rw[H]at n;obtain⟨o,rfl,E⟩:=n;obtain⟨g0,g1,g2⟩:=i m H;refine uA (v:=o) rfl (uA (v:=.i [.e .i64 0,.e .i64 0]) rfl (aC mm (uA (v:=.e .i64 0) rfl (sB ?_))));obtain⟨t2,k1,k2⟩:=O4 (A:=[]) (a':=0) (b':=0) ho;refine kC λq _ _=>⟨_,_,k1 q,?_⟩;obtain⟨t3,k3,h⟩:=J8 (k':=0) k2;refine kC λq _ _=>⟨_,_,k3 q,?_⟩;refine fB (nk h) (sB (vB (by simp[wF]) (aA ?_)));rw[q64,nQ,ri g0 (B3 _),xA,List.take_length];refine aC mm (tA (by
   obtain⟨cl,he,_⟩:=E;rcases he with⟨rfl,_⟩ | ⟨b,ae,ac,rfl,_⟩<;>rfl) ?_)
  refine kC λc8 D aa=>?_;obtain⟨u8,m1,m2,m3,m4⟩:=Zo (v:=.i [o,.e .i64 0,.e .i64 0,.e .i64 (mj s:Int),.e .i64 (ff s:Int)]) D;refine⟨_,_,m1,qC ?_⟩;have o8:=xB.c (A:=[]) (B:=L3 k p K z 0 0 0) h D aa m2 m3 m4;exact hT m H g u8 ⟨m,c8,o,mj s,ff s,L3 k p K z 0 0 0⟩ k p K rfl rfl rfl rfl j ⟨E,o8,g1,H4 _,g2,hg.a j⟩
end
end
section
variable {m:List xD}{a b e:Nat}{d:Type}
variable [fC]
def J9 (m:List xD)(s:List Nat)(i:Nat):xD:=(m[i]?).getD ⟨0,[],mj s,ff s⟩
theorem zt8{s:List Nat} (h:rP s=.ok m):s.length<900000/\m.length<300000/\∀x∈m,Df x:=by
 unfold rP at h;split at h
 .cases h
 .obtain⟨a,b⟩:=zmr _ _ _ _ _ _ h
  grind
theorem zms{s:List Nat} (h:rP s=.er e a b):e≠0:=by
 unfold rP at h;split at h
 .grind
 .exact zt7 _ _ _ _ _ _ _ _ h
inductive RP (d:Type) where
 | ok (x:d)
 | er (e l c:Nat)
def aN {d:Type}(c:List xD->PR d)(s:List Nat):RP d:=
 match rP s with
 | .er e a b=>.er e a b
 | .ok m=>match c m with
  | .ok x _=>.ok x
  | .er e i=>.er e (J9 m s i).c (J9 m s i).e
def ze2 {a:List xD->PR d}{s:List Nat} (h:rP s=.ok m):aN a s=match a m with | .ok x _=>.ok x | .er e i=>.er e (J9 m s i).c (J9 m s i).e:=by unfold aN;rw[h]
def zll {c:List xD->PR d}{s:List Nat} (h:rP s=.er e a b):aN c s=.er e a b:=by unfold aN;rw[h]
end
section
variable [fC]
def Y9(tf:G vA)(x:eE)(v:O):Prop:=∃a,v=.i a/\RD tf x.d a
def Z0(tf:G vA)(x:rG)(v:O):Prop:=∃a,v=.i a/\RD tf x.d a
def ib (tf:G vA)(x:nD)(v:O):Prop:=∃a,v=.i a/\RD tf x.d a
def kw{t:G vA}(x:eE):RD t x.d [.h x.a,.e .u8 (x.b:Int),.d x.c]:=
 xK.2 ⟨[[.h x.a],[.e .u8 (x.b:Int)],[.d x.c]],rfl,kD.2 ⟨_,_,rfl,xP.2 rfl,kD.2 ⟨_,_,rfl,wP.2 rfl,kD.2 ⟨_,_,rfl,Cy.2 rfl,pG.2 rfl⟩⟩⟩⟩
def zpx{t:G vA}{a b k:Int}{f:qF}{cs:List O}(h:RD t f.b cs):RD t (rG.d ⟨a,b,k,f⟩) ([.e .i64 a,.e .i64 b,.e .i64 k]++cs):=
 xK.2 ⟨[[.e .i64 a],[.e .i64 b],[.e .i64 k],cs],by simp,kD.2 ⟨_,_,rfl,wP.2 rfl,kD.2 ⟨_,_,rfl,wP.2 rfl,kD.2 ⟨_,_,rfl,wP.2 rfl,kD.2 ⟨_,_,rfl,h,pG.2 rfl⟩⟩⟩⟩⟩
def RY{t:G vA}{a b:List Nat}{f u k:Int}{o:Bool}{x y:iA}{c d:List O}(e:RD t x.d c)(g:RD t y.d d):RD t (nD.d ⟨a,b,f,u,k,o,x,y⟩) ([.h a,.h b,.e .i64 f,.e .i64 u,.e .i64 k,.d o]++(c++d)):=
 xK.2 ⟨[[.h a],[.h b],[.e .i64 f],[.e .i64 u],[.e .i64 k],[.d o],c,d],by simp,kD.2 ⟨_,_,rfl,xP.2 rfl,kD.2 ⟨_,_,rfl,xP.2 rfl,kD.2 ⟨_,_,rfl,wP.2 rfl,kD.2 ⟨_,_,rfl,wP.2 rfl,kD.2 ⟨_,_,rfl,wP.2 rfl,kD.2 ⟨_,_,rfl,Cy.2 rfl,kD.2 ⟨_,_,rfl,e,kD.2 ⟨_,_,rfl,g,pG.2 rfl⟩⟩⟩⟩⟩⟩⟩⟩⟩
def GZ{t:G vA}:RD t Mc.d zE:=Ns (op:=0) (name:=[]) (v:=oX) (args:=[]) wS wS wS
section
variable {P:wK}{tf t:G vA}{n d:Nat}{Q E:lB}{J:yG}{o:PM iA}
def kx{a:Bool}(h:St P tf t n d)(o:Ok P Y9 d tf (F9 P.a a n) Q E):cK Y F E 152 [.j P.b 0,.d a] t Q:=by
 refine w152 ?_;unfold t152 uU uS uY;refine aA ?_;rw[pE 96];unfold F9 at o;refine Ko h (o.c λw A x C v z s m l e=>?_);cases l;refine jC (aA ?_);rw[pE 201];refine SC (f:=oG) (g:=84) (most:=6) (λt q i r=>zg9 q r) (by kernel_rfl) (by kernel_rfl) (by omega) m (e.c λk B y D H u p c b j=>?_);cases b;exact sB (tA rfl (tA rfl (Ok.j j c ⟨_,rfl,kw ⟨w,k,a⟩⟩)))
def zp8(h:St P tf t n d)(a:Ok P Y0 d tf (El P.a n) Q E):cK Y F E 202 [.j P.b 0] t Q:=by
 refine w202 ?_;unfold t202 zi uB uG V uY;refine aA ?_;rw[pW 78];refine Ip h λo c=>iC (aA ?_);unfold El at a;generalize By P.a pL n=neg at a c;change St P tf o (if neg=true then n+1 else n) d at c;generalize (if neg=true then n+1 else n)=m at a c;rw[pQ 77,Nn c,xA];refine aC (H6 _) (tA rfl ?_);have g:kL P.a 2 m=decide ((mH P m).b=2):=Sv (by omega);have l:fN P.a m=(mH P m).a:=BA;dsimp only at a
 cases f:decide ((mH P m).b=2)with
 | false=>
  have p:¬ (mH P m).b=2:=of_decide_eq_false f;rw[g,f]at a;simp only[K4,Bool.true_or,if_true]at a;refine tA ?_ (aA (Ok.l c a));show(!kB ((mH P m).b:Int) 2)=true;rw[wF,decide_eq_false (by omega)];rfl
 | true=>
  have p:(mH P m).b=2:=of_decide_eq_true f;have k:Bx (mH P m).a:=by
   have:=c.ak (n:=m) (by rw[g,f])
   rwa [l]at this
  refine vB ?_ ?_
  .show ¬ (!kB ((mH P m).b:Int) 2)=true;rw[wF,decide_eq_true (by omega)];simp
  refine aA ?_;show pF Y F eC aF E 143 [.h (mH P m).a,.h [47]] o _;rw[pQ 143,GG (by have:=k.1;omega),xA,RO];refine iC ?_;rw[g,l,f]at a;simp only[Bool.not_true,Bool.false_or]at a
  cases q:sK (mH P m).a with
  | true=>
   rw[q,A5 rfl]at a;exact tA rfl (aA (Ok.l c a))
  | false=>
   rw[q,A3 (by simp)]at a;refine vB (by simp) (qC (zuy ?_));unfold zdy uI uB uX V;obtain⟨i,hi,w⟩:=Hm.ah (s:=(mH P m).a) (neg:=neg) (lo := -2147483648) (hi:=2147483647) (t:=o) k q (by omega) (by omega);refine aA ?_;show pF Y F eC aF E 144 [.h (mH P m).a,.d neg,.e .i64 (-2147483648),.e .i64 2147483647] o _;rw[pQ 144,hi,xA];refine uA rfl (sB (uA rfl (iC ?_)))
   cases r:nP (mH P m).a neg (-2147483648) 2147483647 with
   | none=>
    rw[r]at a;exact tA rfl (aA (Ok.l c a))
   | some j=>
    rw[r]at a;have:=w j r;subst this;refine vB (by simp) (qC (zux ?_));unfold zdx uI tC sC V;have y:m<P.a.length:=by
     rw[<- g]at f;unfold kL at f
     cases v:P.a[m]? with
     | none=>rw[v]at f;cases f
     | some x=>exact(F6.1 v).1
    have u:=c.f;refine uA nl (uA f1 (fB c.l1 (sB (uA nl (uA f1 (kC λb _ _=>?_))))));obtain⟨B,z,A⟩:=c.r (n':=m+1) (by omega);have e:cA .i64 ((m:Int)+1)=((m+1:Nat):Int):=by rw[A2 (by omega) (by omega)];rfl
    rw[e];exact⟨_,_,z b,Ok.j a A rfl⟩
def ky{o:Bool}(h:St P tf t n d)(U:Ok P Z0 d tf (fb P.a o n) Q E):cK Y F E 153 [.j P.b 0,.d o] t Q:=by
 refine w153 ?_;unfold t153 uI V;refine aA ?_;rw[pE 202];unfold fb at U;have i:∀(a b:Int) (z0 z1 z2:Int) (D:Nat) (c H:G vA),St P c H D d->Ok P Z0 d c ((gE P.a fR D).c λ_ n3=>(nR P.a n3).c λd n4=>(gE P.a mg n4).c λ_ m=>
   (fun(g:Bool)=>(wM P.a 2 (if g then m+1 else m)).c λs n6=>.ok ⟨a,b,d,kP s g⟩ n6) (By P.a pL m)) Q E →
   rI E 153 11 [.j P.b 0,.e .i64 z0,.e .i64 z1,.e .i64 z2,.d false,.g,.d false,.g,.e .i64 a,.e .i64 b,.e .i64 0,.d false,.g,.d false,.g] H Q:=by
  intro a b z0 z1 z2 D c H h2 j;refine zu2 ?_;unfold zeb uI uB uG aB V uY;refine Ez h2 j λn3 ab t3 X z K=>?_;refine aA ?_;rw[pE 79];refine Ud Hm z (K.c λdd n4 ac t4 v4 aa Z A q L=>?_);cases q;refine sB (tA rfl (Ez A L λm T t5 a1 B l=>?_));refine aA ?_;rw[pW 78];refine Ip B λt6 I=>iC (aA ?_);dsimp only at l;generalize By P.a pL m=g at l I;change St P T t6 (if g=true then m+1 else m) d at I
  rw[pE 68];refine Jw (k:=2) (by omega) I (l.c λs n7 ad t7 v7 N a6 C r M=>?_);obtain⟨x,_,e,rfl⟩:=r;obtain⟨g1,g2,_⟩:=Vr N;have hn:=I.ak g1;rw[<- g2]at hn;subst e;refine aC (H6 _) (ER Hm C hn λae t8 cs k1 k2 J=>?_);obtain⟨u,v,rfl,hz,_⟩:=ES J;refine aC hz (tA J.e (tA (zpx (a:=a) (b:=b) (k:=dd) J).e ?_));exact Ok.j (Ok.g M k1) k2 ⟨_,rfl,zpx J⟩
 refine zp8 h (U.c λa n1 S t1 v hr a7 w R f=>?_);cases R;refine sB (tA rfl ?_)
 cases o with
 | true=>
  rw[A5 rfl]at f;refine tA rfl (aA ?_);rw[pE 202];refine zp8 w (f.c λb D c H v2 a8 W y p j=>?_);cases p;exact sB (tA rfl (qC (i a b 0 0 0 D c H y j)))
 | false=>
  rw[A3 (by simp)]at f;exact vB (by simp) (qC (i a 0 0 0 0 n1 S t1 w f))
def zjc(h:St P tf t n 0)(hk:Ok P ib 0 tf (Ig P.a n) Q E):cK Y F E 154 [.j P.b 0] t Q:=by
 refine w154 ?_;unfold t154 uI uB uS V uY;refine tA rfl (tA rfl (aA ?_));rw[pE 96];unfold Ig at hk;refine Ko h (hk.c λa n1 bb t1 v1 b3 am S K ae=>?_);cases K;refine jC (tA rfl (aA ?_));rw[pE 96];refine Ko S (ae.c λb n2 bc t2 v2 b4 ao T L af=>?_);cases L;refine jC (tA rfl (Ez T af λn3 bd t3 ap U ag=>aA ?_));rw[pE 79];refine Ud Hm U (ag.c λf n4 be t4 v4 b5 aq W M ah=>?_);cases M;refine sB (tA rfl (Ez W ah λn5 al t5 ar X j=>aA ?_))
 rw[pW 78];have p:∀(u:Int) (n6:Nat) (i t6:G vA),St P i t6 n6 0->Ok P ib 0 i ((gE P.a fR n6).c λ_ n7=>(nR P.a n7).c λk n8=>
   if By P.a Jf n8 then .ok ⟨a,b,f,u,k,true,Mc,Mc⟩ (n8+1)else
   (gE P.a Mf n8).c λ_ n9=>(Ck P.a n9).c λx a8=>(gE P.a Je a8).c λ_ aa=>(Ck P.a aa).c λy ab=>.ok ⟨a,b,f,u,k,false,x,y⟩ ab) Q E →
   rI E 154 19 ([.j P.b 0]++([.h [],.h [],.e .i64 0,.e .i64 0,.e .i64 0,.d false]++(zE++zE))++([.h a,.h b,.e .i64 f,.e .i64 u,.e .i64 0,.d false]++(zE++zE))) t6 Q:=by
  intro u n6 i t6 D q;refine zu1 ?_;unfold zea uI uB uG aB V uY jH;refine Ez D q λn7 bf t7 av a1 ai=>aA ?_;rw[pE 79];refine Ud Hm a1 (ai.c λk n8 C t8 v8 b7 aw a6 R l=>?_);cases R;refine sB (tA rfl (lR a6 (λm t9 h9=>?_) λm t9 h9=>?_))
  .rw[m,A5 rfl]at l;have g:=RY (t:=C) (a:=a) (b:=b) (f:=f) (u:=u) (k:=k) (o:=true) (GZ (t:=C)) (GZ (t:=C));exact tA rfl (tA g.e (Ok.j l h9 ⟨_,rfl,g⟩))
  .rw[m,A3 (by simp)]at l;refine Ez h9 l λn9 bg ba ax a7 aj=>aA ?_;rw[pE 31];refine QM Hm _ _ _ _ _ a7 (aj.c λx a8 b1 b8 bh ay ak z v H=>?_);obtain⟨d,rfl,hx⟩:=v;refine aC (K9 hx) ?_;have ex:[O.e .u8 ((AN d).i 0),.h ((AN d).s 1),.e .u8 ((AN d).i 2),.d ((AN d).b 3),(AN d).v 4,.d ((AN d).b 5),(AN d).v 6,.e .i64 ((AN d).i 7),(AN d).v 8]=d:=Y3 hx;refine tA (by rw[ex];obtain⟨a,b,c,rfl,_⟩:=uJ hx;exact hx.e) ?_
   refine Ez z H λaa b2 b0 r A I=>aA ?_;rw[pE 31];refine QM Hm _ _ _ _ _ A (I.c λy ab ac b9 bi az s B w J=>?_);obtain⟨e,rfl,hy⟩:=w;refine aC (K9 hy) ?_;have ey:[O.e .u8 ((AN e).i 0),.h ((AN e).s 1),.e .u8 ((AN e).i 2),.d ((AN e).b 3),(AN e).v 4,.d ((AN e).b 5),(AN e).v 6,.e .i64 ((AN e).i 7),(AN e).v 8]=e:=Y3 hy;refine tA (by rw[ey];obtain⟨a,b,c,rfl,_⟩:=uJ hy;exact hy.e) ?_;have g:=RY (t:=ac) (a:=a) (b:=b) (f:=f) (u:=u) (k:=k) (o:=false) (hx.f (r.d s)) hy
   have ad:[O.h a,.h b,.e .i64 f,.e .i64 u,.e .i64 k,.d false,.e .u8 ((AN d).i 0),.h ((AN d).s 1),.e .u8 ((AN d).i 2),.d ((AN d).b 3),(AN d).v 4,.d ((AN d).b 5),(AN d).v 6,.e .i64 ((AN d).i 7),(AN d).v 8,.e .u8 ((AN e).i 0),.h ((AN e).s 1),.e .u8 ((AN e).i 2),.d ((AN e).b 3),(AN e).v 4,.d ((AN e).b 5),(AN e).v 6,.e .i64 ((AN e).i 7),(AN e).v 8]=[.h a,.h b,.e .i64 f,.e .i64 u,.e .i64 k,.d false]++(d++e):=by
    rw[<- ex,<- ey];rfl
   rw[ad];exact tA g.e (Ok.j J B ⟨_,rfl,g⟩)
 refine Ip X λt6 D=>iC ?_
 cases m:By P.a Ji n5 with
 | true=>
  rw[m,A5 rfl]at j;rw[m,A5 rfl]at D;exact vB (by simp) (qC (p 65536 (n5+1) al t6 D j))
 | false=>
  rw[m,A3 (by simp)]at j;rw[m,A3 (by simp)]at D;refine tA rfl (aA ?_);rw[pE 79];refine Ud Hm D (j.c λu n6 i t7 v6 b6 au Z N q=>?_);cases N;exact sB (tA rfl (qC (p u n6 i t7 Z q)))
end
end
end Go.Proofs
namespace Go.Am
open Go Go.RowKit
variable {sz:Nat}{cl:List (List O)}{v:O}{f:Lo}
section
variable {t tf:G vA}{C:fA}{base:Nat}
def LK (f:Lo)(base:Nat)(t:G vA)(sz:Nat)(cl:List (List O))(v:O):Prop:=
 (v=.g/\cl=[])\/∃b c,v=.m b 0 cl.length cl.length/\base<=b/\t.c b=some (.aa c (cl.length*sz) (some f)) ∧
  ∀(i:Nat) d,cl[i]?=some d->d.length=sz/\∀(j:Nat) a,d[j]?=some a->c.c (i*sz+j)=some a
def ZR{T el:Nat}(hT:eS C T el sz){cm:List (List O)}{x:O}(hv:LK (.b sz) C.a t sz cl v)(W:nO t sz x cm)(B:∀a∈cm.flatten,O.z a=true)(U:0<cm.length)(hl:cl.length+cm.length<400000){n:Nat}(S:t.c n=none)(g:C.a<=n) :
  ∃t',mG C T T v x ⟨n,t⟩=some (.m n 0 (cl.length+cm.length) (cl.length+cm.length),⟨n+1,t'⟩)/\LK (.b sz) C.a t' sz (cl++cm) (.m n 0 (cl.length+cm.length) (cl.length+cm.length))/\(∀c,c≠n->¬ oM v c->t'.c c=t.c c):=by
 obtain⟨⟨y,M,N,P⟩,⟨z,D,d,Q,R,aa⟩,L⟩:=hT;have h:lN el z=.b sz:=by rw[NB.a L D,d]
 have f:=W.e;obtain⟨hf,A⟩:=W.a (n:=n);have o:=Eu f;have w:wB cm.flatten=cm.length*sz:=by rw[eD];exact o
 have base:mG C T T v x ⟨n,t⟩=(match v.u with
  | some s=>bif Nat.ble (s.2.2.1+cm.length) s.2.2.2 then Cj C ⟨n,t⟩ z cm.length cm.flatten s else Ao C ⟨n,t⟩ el z cm.length cm.flatten s
  | none=>tB (Nat.beq v.aa 5) (zX ⟨n,t⟩ el z cm.length cm.flatten)):=by
  unfold mG Ba;rw[M,mA,mA,P];simp only[K4,xE];rw[N,mA,D,mA,A,mA,d,hf,mA];rfl
 have F:fY z cl.length cl.length cm.length cm.flatten=true:=by
  unfold fY;have h1:Nat.blt (cl.length+cm.length+cl.length) 1000000000=true:=gC.2 (by omega);have h2:Nat.blt ((cl.length+cm.length+cl.length)*z.d) 1000000000=true:=gC.2 (by
   have:=G5 (show cl.length+cm.length+cl.length<=800000 by omega) R;omega)
  have h3:Nat.blt z.d 1000000000=true:=gC.2 (by omega);have h4:(!Nat.beq z.b 0)=true:=by
   cases p:Nat.beq z.b 0 with
   | true=>have:=bC.1 p;omega
   | false=>rfl
  have h5:Nat.beq (wB cm.flatten) (cm.length*z.b)=true:=by rw[w,d];exact bC.2 rfl
  have h6:Nat.beq (wB z.c) z.b=true:=by rw[Q,d];exact bC.2 rfl
  rw[h1,h2,h3,h4,h5,h6];rfl
 rcases hv with⟨rfl,rfl⟩ | ⟨b,c,rfl,a1,m,H⟩
 .refine⟨t.d n (.aa (G.ac cm.flatten) (wB cm.flatten) (some (.b sz))),?_,.inr ⟨n,G.ac cm.flatten,by simp,g,?_,λi q l=>⟨f i q l,λj a r=>?_⟩⟩,λc hc _=>(bN S _).2 c hc⟩
  .rw[base];simp only[O.u];show tB true (zX ⟨n,t⟩ el z cm.length cm.flatten)=_;rw[xE];unfold zX;have:Nat.beq cm.length 0=false:=by
    cases p:Nat.beq cm.length 0 with
    | true=>have:=bC.1 p;omega
    | false=>rfl
   have F:fY z 0 0 cm.length cm.flatten=true:=F;rw[this,cond_false,F,xE,h];simp only[G1,D8];rfl
  .rw[G.aa,A5 rfl,w];simp
  .rw[G.o];exact eY f i j q a l r
 .have a6:b≠n:=by intro e;rw[e,S]at m;cases m
  refine⟨(t.q b).d n (.aa (c.am cm.flatten (cl.length*z.b)) ((cl.length+cm.length)*z.b) (some (.b sz))),?_,.inr ⟨n,c.am cm.flatten (cl.length*z.b),by simp,g,?_,λi q l=>?_⟩,λk I J=>?_⟩
  .rw[base];simp only[O.u];have:Nat.ble (cl.length+cm.length) cl.length=false:=by
    cases p:Nat.ble (cl.length+cm.length) cl.length with
    | true=>have:=rF.1 p;omega
    | false=>rfl
   rw[this,cond_false];unfold Ao;simp only[];rw[show ∀x,(!(Nat.beq 0 1&&x))=true from λ_=>rfl,xE,F,xE];unfold fD;rw[m,mA];simp only[vA.a,mA];unfold Ld;simp only[];have X:M2 (.b sz) (lN el z)=true:=by rw[h];exact DQ.2 rfl
   have Z:Nat.ble (cl.length*z.b) (cl.length*sz)=true:=rF.2 (by rw[d];exact B3 _);have g3:Nat.ble (cl.length*sz) ((cl.length+cm.length)*z.b)=true:=rF.2 (by rw[d];exact D3 _ (by omega));have g4:oD O.z cm.flatten=true:=by rw[gI];exact C9.2 B
   have g5:(!Nat.blt b C.a)=true:=by
    cases p:Nat.blt b C.a with
    | true=>have:=gC.1 p;omega
    | false=>rfl
   rw[X,Z,g3,g4,g5];simp only[d];rfl
  .rw[G.aa,A5 rfl,d,E1]
  .rw[List.getElem?_append]at l;split at l
   .rename_i K;obtain⟨E,k2⟩:=H i q l;refine⟨E,λj a r=>?_⟩;have a8:j<sz:=by rw[<- E];exact(F6.1 r).1
    have:i*sz+j<cl.length*sz:=by
     have:=D3 sz (show i+1<=cl.length by omega);rw[D5]at this;omega
    rw[G.ap,d,A3 (by omega)];exact k2 j a r
   .rename_i a7;have E:=f _ q l;refine⟨E,λj a r=>?_⟩;have u:=eY f _ j q a l r;have K:=(F6.1 u).1;have e:i*sz=cl.length*sz+(i-cl.length)*sz:=by rw[<- D5];congr 1;omega
    rw[G.ap,d,A5 (by omega),show i*sz+j-cl.length*sz=(i-cl.length)*sz+j by omega];exact u
  .rw[G.aa,A3 I,G.e,A3 (λe=>J (Cf.2 e))]
def LK.e    (h:LK f base t sz cl v){t':G vA}(g:∀k∈zK v,t'.c k=t.c k):LK f base t' sz cl v:=by
 rcases h with h | ⟨b,c,rfl,a,d,e⟩
 .exact .inl h
 .exact .inr ⟨b,c,rfl,a,by rw[g b (by simp[zK])];exact d,e⟩
def LK.d    (h:LK f base t sz cl v):∀k∈zK v,∃y,t.c k=some y:=by
 intro k a;rcases h with⟨rfl,_⟩ | ⟨b,c,rfl,e,d,g⟩
 .cases a
 .have:k=b:=by simpa[zK]using a
  subst this;exact⟨_,d⟩
end
end Go.Am
namespace Go.Proofs
open Go Go.Am
variable {b el j sz:Nat}{cl:List (List O)}{cs:List O}{v:O}
variable [fC]
def rJ (base sz:Nat)(cl:List (List O))(v:O):oF where
 aa:=zK v
 ok:=λ_ t=>LK (.b sz) base t sz cl v
 ac:=λh _ k=>h.e λb a=>(k b a).1
 ah:=λh k c=>h.d k c
section
variable {base:Nat}{tf t:G vA}{C:fA}{A B:List oF}
theorem xB.ap{T n:Nat}  {x:O}(q:eS C T el sz)(h:xB C.a tf t (A++rJ C.a sz cl v::B))(w:nO t sz x [cs])(c:∀a∈cs,O.z a=true)(r:cl.length+1<400000)(i:t.c n=none)(b:C.a<=n) :
  ∃t' v',mG C T T v x ⟨n,t⟩=some (v',⟨n+1,t'⟩)/\xB C.a tf t' (A++rJ C.a sz (cl++[cs]) v'::B)/\O.z v'=true/\v'.s=[v']:=by
 have s:LK (.b sz) C.a t sz cl v:=h.s (rJ C.a sz cl v) (by simp);obtain⟨t',y,z,j⟩:=ZR q s w (by simpa using c) (by simp) (by simpa using r) i b;refine⟨t',_,y,xB.aj (o:=rJ C.a sz cl v) h (λk p D=>j k ?_ (λe=>p (Ks.2 e))) (λk g=>?_) z (by simp[rJ,zK]) (λk u d=>?_),rfl,rfl⟩
 .grind [rJ,zK]
 .grind [rJ,zK]
 .have f:∀k∈zK v,tf.c k=none:=λk g=>(h.f k (by simp[rJ,g])).2;have l:k≠n:=λe=>by rw[e,h.ak i]at d;cases d
  have m:¬ oM v k:=λe=>by rw[f k (Ks.2 e)]at d;cases d
  rw[j k l m];exact h.b _ _ d
def LK.a{T i:Nat}{a:Bool}   (f:gG C T el sz a)(h:LK (.b sz) base t sz cl v)(hi:cl[i]?=some cs) :
  ∃b,v=.m b 0 cl.length cl.length/\zC C T v (.e .i64 (i:Int))=some (.j b (i*sz))/\At t b (i*sz) cs:=by
 rcases h with⟨rfl,rfl⟩ | ⟨b,c,rfl,g,d,e⟩
 .simp at hi
 .have:=Gk (off:=0) (n:=cl.length) (cap:=cl.length) (b:=b) f (F6.1 hi).1;rw[D8]at this;exact⟨b,rfl,this,_,_,_,d,(e i cs hi).2⟩
theorem xB.au{n:Nat} (h:xB base tf t (A++rJ base sz cl (.m b 0 n n)::B)) :
  n=cl.length/\(∀(i:Nat) cs,cl[i]?=some cs->cs.length=sz)/\xB base tf t (A++oC b (some (.b sz)) cl.flatten::B):=by
 have g:LK (.b sz) base t sz cl (.m b 0 n n):=h.s (rJ base sz cl (.m b 0 n n)) (by simp);rcases g with⟨g,_⟩ | ⟨w,c,g,x,u,q⟩
 .cases g
 .cases g;have d:∀(i:Nat) cs,cl[i]?=some cs->cs.length=sz:=λi cs l=>(q i cs l).1;refine⟨rfl,d,xB.aj (o:=rJ base sz cl (.m b 0 cl.length cl.length)) (o':=oC b (some (.b sz)) cl.flatten) h (λ_ _ _=>rfl) (λk y=>.inl ?_) ?_ (by simp[oC]) h.b⟩
  .grind [oC,rJ,zK]
  .refine⟨c,by rw[u,Eu d],λj a m=>?_⟩;have r:=Eu d;have p:=(F6.1 m).1;have f:0<sz:=by
    rcases Z7 sz with e | e
    .subst e;simp at r;simp[r]at p
    .exact e
   have l:j / sz<cl.length:=by rw[Nat.div_lt_iff_lt_mul f];omega
   obtain⟨C,v⟩:=q (j / sz) cl[j / sz] (C6 l);have z:=G2 j f;have s:=eY d (j / sz) (j%sz) cl[j / sz] cl[j / sz][j%sz] (C6 l) (C6 (by omega));have e:j / sz*sz+j%sz=j:=by rw[E7];exact P7 j sz
   rw[e]at s;rw[s]at m;cases m;have:=v (j%sz) _ (C6 (by omega))
   rwa [e]at this
theorem xB.ax  (d:∀(i:Nat) cs,cl[i]?=some cs->cs.length=sz)(h:xB base tf t (A++oC b (some (.b sz)) cl.flatten::B)) :
  xB base tf t (A++rJ base sz cl (.m b 0 cl.length cl.length)::B):=by
 obtain⟨c,g,l⟩:xC t b (some (.b sz)) cl.flatten:=h.s (oC b (some (.b sz)) cl.flatten) (by simp);have e:=h.f b (by simp[oC]);refine xB.aj (o:=oC b (some (.b sz)) cl.flatten) (o':=rJ base sz cl (.m b 0 cl.length cl.length)) h (λ_ _ _=>rfl) (λk n=>.inl ?_) (.inr ⟨b,c,rfl,e.1,by rw[g,Eu d],λi cs f=>⟨d i cs f,λj a m=>l _ _ (eY d i j cs a f m)⟩⟩) (by simp[rJ,zK]) h.b
 grind [oC,rJ,zK]
end
def el48:eS Y 48 89 3:=⟨⟨_,S4,rfl,rfl⟩,⟨_,gj,rfl,rfl,by decide,by decide⟩,λy h=>by rw[gj]at h;cases h;rfl⟩
def ox:eS Y 49 92 3:=⟨⟨_,Jt,rfl,rfl⟩,⟨_,gk,rfl,rfl,by decide,by decide⟩,λy h=>by rw[gk]at h;cases h;rfl⟩
def el50:eS Y 50 60 24:=⟨⟨_,S5,rfl,rfl⟩,⟨_,gi,rfl,rfl,by decide,by decide⟩,λy h=>by rw[gi]at h;cases h;rfl⟩
def el90:eS Y 90 94 7:=⟨⟨_,Js,rfl,rfl⟩,⟨_,gn,rfl,rfl,by decide,by decide⟩,λy h=>by rw[gn]at h;cases h;rfl⟩
section
variable {P:wK}{tf t:G vA}{n d:Nat}{Q E:lB}{J W:yG}
def St.u:∀ {X:List oF},St (P.c (X++P.L)) tf t n d->St P tf t n d:=by
 intro X h;refine⟨h.p,?_,h.f,h.m,h.a,h.e⟩;have:=h.g;change xB Y.a tf t (pH P n d::(X++P.L))at this;clear h
 induction X with
 | nil=>exact this
 | cons x X a=>exact a (xB.i (A:=[pH P n d]) (o:=x) this)
def Nl(S:Nat)(h:O)(g:O->Option O)(f v:O)(cs:List O):T:=
 .h (sD Y S 1 [(0,.i cs)]) λa=>.e (λm=>oA Y S ⟨0,m⟩ f) λb=>.a (A8 10 b v) (.h (mG Y S S v a) λc=>
  .d (zR h) λd=>.d (g d) λe=>.h (nC Y S e c) λ_=>.l (.p [])) .g
def LL   (h:j<cs.length):lJ cs j [v]=cs.set j v:=by
 refine List.ext_getElem? λk=>?_;rw[Kj (by show j+1<=cs.length;omega),ycw];show(if j<=k/\k<j+1 then [v][k-j]? else _)=_;split
 .have:k=j:=by omega
  subst this;simp[h]
 .rw[A3 (by omega)]
def LS{T:Nat} {t:G vA}(h:eS Y T el sz)(a:cs.length=sz)(j:sz<1000)(i:t.c b=none):∃t',sD Y T 1 [(0,.i cs)] ⟨b,t⟩=some (.m b 0 1 1,⟨b+1,t'⟩)/\nO t' sz (.m b 0 1 1) [cs]/\zB t t'/\nF b t t':=by
 obtain⟨⟨y,d,e,_⟩,⟨z,f,g,c,_⟩,_⟩:=h;exact Nw (n:=1) d e f g c (by omega) ((Oh (sz:=sz) (z:=z.c) (v:=.i cs) (by rw[<- eD,c]) a).trans (by show some cs=_;simp)) (Kl a) rfl i
def zfk{T c:Nat}{y:jD}{d A B:List oF}{l:List D}{dd:D}{pc:List O}{p:O}{g:O->Option O}{lo:Option Lo}(F:eS Y T el sz)(L:Y.b.c T=some y)(Z:y.a.h=false)(z:y.b=1)(u:cs.length=sz)(hs:sz<1000)
  (x:zR p=some p) (hg:g p=some (.j c j))
  (h:xB Y.a tf t (d++oC c lo pc::(A++iD Y.a sz l v::B))) (I:pc[j]?=some v) (f:RD tf dd cs) (hl:l.length+1<400000)
  (X:∀t' v',xB Y.a tf t' (d++oC c lo (pc.set j v')::(A++iD Y.a sz (l++[dd]) v'::B))->Q (.p []) t') :
  lA Y.a W J (Nl T p g (.j c j) v cs) t Q:=by
 refine kC λb H s=>?_;obtain⟨P,q,E,h3,U⟩:=LS F u hs H;have i:=h.z H U;have hc:xC P c lo pc:=i.d;have e:∀(o C:oF),d++o::(A++C::B)=(d++o::A)++C::B:=λo C=>by simp
 rw[e]at i;have K:oU Y.a tf P sz l v:=i.s (iD Y.a sz l v) (by simp);refine⟨_,_,q,fB (hc.f L Z I) (tA K.g (kC λn r a=>?_))⟩;obtain⟨t2,k1,k2,k3,k4⟩:=TG F (m:=[dd]) K E (kD.2 ⟨cs,[],rfl,f,pG.2 rfl⟩) (by
  have:=f.e;rw[gI,C9]at this;simpa using this) (by simp) (by simpa using hl) r a i.b
 refine⟨_,_,k1,uA x (uA hg (kC λR _ _=>?_))⟩;have N:xB Y.a tf t2 ((d++oC c lo pc::A)++iD Y.a sz (l++[dd]) (.m n 0 (l.length+[dd].length) (l.length+[dd].length))::B):=by
  refine xB.aj (o:=iD Y.a sz l v) i (λk q E=>k4 k ?_ (λe=>q (Ks.2 e))) (λk hk=>?_) k2 (by simp[iD,zK]) k3
  all_goals grind [iD,zK]
 rw[<- e]at N;have w:=(F6.1 I).1;obtain⟨t3,m1,M⟩:=xB.a (j:=j) (v:=.m n 0 (l.length+[dd].length) (l.length+[dd].length)) N L (by rw[z];rfl) (by
  show j+1<=pc.length;omega) rfl
 refine⟨_,_,m1 R,?_⟩;have S:lJ pc j (O.s (.m n 0 (l.length+[dd].length) (l.length+[dd].length)))=pc.set j (.m n 0 (l.length+[dd].length) (l.length+[dd].length)):=LL w;rw[S]at M;exact X t3 _ M
end
end Go.Proofs
