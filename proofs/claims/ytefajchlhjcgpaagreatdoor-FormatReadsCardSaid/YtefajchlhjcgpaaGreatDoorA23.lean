/- The parser: chains, the rules of expressions over operands. -/
import Derived.Test.YtefajchlhjcgpaaGreatDoorA22
set_option linter.all false
noncomputable section
set_option maxRecDepth 100000
namespace Go.Proofs
open Go Go.Am
variable {l:List (List Nat × Nat)}{v:zA}{b op op':Nat}{w w':List Nat}
variable [nC]
def PR.bind_ok{α β:Type}{r:PR α}{f:α->Nat->PR β}{b:β}{n:Nat}(h:r.bind f=.ok b n):∃a n1,r=.ok a n1/\f a n1=.ok b n:=by
 cases r with
 | ok a n1=>exact⟨a,n1,rfl,h⟩
 | er e i=>cases h
section
variable {tk:List bC}{o:PM lA}
theorem zfd(h:Up o)  : ∀(m:Nat) (x:lA) (n:Nat) (y:lA) (n':Nat),dT tk o l m x n=.ok y n'->n<=n':=by
 intro m;induction m with
 | zero=>intro x n y n' hh;cases hh;omega
 | succ m ih=>
  intro x n y n' hh;unfold dT at hh
  cases hop:aM tk l n with
  | none=>simp_all
  | some op=>
   rw[hop]at hh;obtain⟨a,n1,h1,h2⟩:=PR.bind_ok hh
   have:=h _ _ _ h1
   grind
def Qi(h:Up o)  : Up (zS tk o l):=by
 intro n a n' hh;obtain⟨x,n1,h1,h2⟩:=PR.bind_ok hh
 have:=h _ _ _ h1
 have:=zfd h _ _ _ _ _ h2
 omega
theorem zjv(h:Up o):Up (lW tk o):=by
 intro n a n' hh;obtain⟨x,n1,h1,h2⟩:=PR.bind_ok hh
 have hs:Up (Aq tk o):=Qi (Qi h)
 have:=hs _ _ _ h1
 cases hop:aM tk [([60],13),([61],14)] n1 with
 | none=>simp_all
 | some op=>
  rw[hop]at h2;obtain⟨y,n2,h3,h4⟩:=PR.bind_ok h2
  have:=hs _ _ _ h3
  grind
theorem JU(h:Up o):Up (lU tk o):=by
 intro n a n' hh;obtain⟨x,n1,h1,h2⟩:=PR.bind_ok hh
 have:=zjv h _ _ _ h1
 grind
def PE(h:Up o):Up (Qh tk o):=Qi (JU h)
def zjb(h:Up o):Up (iR tk o):=Qi (PE h)
end
section
variable {P:dM}{tf t:Tr tA}{n d:Nat}{Q E:mB}{J:eF}{o:PM lA}{g:Nat}
def Zl{W:eF}{x:lA} (hrd:cL tf x v)(k:Q v t):oA yA.base W J (.asG zE v fun X=>.ite (sD zA.one (cE X)) (.ret (.agg (cE X))) .fail) t Q:=by
 obtain⟨cs,rfl,hx⟩:=hrd
 obtain⟨a,b,c,rfl,_⟩:=nI hx
 exact dC (agE hx) (mA hx.all k)
theorem PN  (ho:fI P d o g)(hup:Up o)(hl:l.length<1000)(h:St P tf t n d)(hv:aA tf 2 (l.map OpD) v)(hk:Ok P cL d tf (zS P.tk o l n) Q E)
  (hg:Nat.blt g pn=true:=by kernel_rfl) (hp1:(jC g&&Nat.blt g yo)=false:=by kernel_rfl) (hp2:Nat.beq g pn=false:=by kernel_rfl) (hp3:(mG g&&Nat.blt g pn)=true:=by kernel_rfl):sM yA F E 66 [.ptr P.bp 0,.func (.func g) [.ptr P.bp 0] [],v] t Q:=by
 refine w66 ?_
 unfold t66 uG jB uZ uY lF;refine wX (zfh hg) ?_
 have e:∀a R,rG yA F jC mG E g a t R=sM yA F E g a t R:=fun a R=>by grind [rG]
 rw[e];refine ho _ _ _ _ _ h (hk.bind fun x n1 tf1 t1 vy hr hle hst hrd hk1=>?_)
 obtain⟨cs,rfl,hx⟩:=hrd
 have hx':=hx
 obtain⟨a,b,c,rfl,_⟩:=nI hx
 refine dC (agE hx) (mA hx.all (fC ?_))
 exact YP ho hup hg hp1 hp2 hp3 hl P.tk.length n1 x _ tf1 t1 Q E (Nat.sub_le _ _) hst (hv.mono hle) hx' hk1
def St.ops1   (h:St P tf t n d)(hb:t.get b=none) :
  ∃tf' t',tE yA 201 1 [(0,.agg [.str w,.int .u8 (op:Int)])] ⟨b,t⟩=some (.slice b 0 1 1,⟨b+1,t'⟩)/\zB tf tf'/\St P tf' t' n d/\aA tf' 2 ([(w,op)].map OpD) (.slice b 0 1 1):=by
 have hf:vM (fun i=>some (i*2,2)) [(0,.agg [.str w,.int .u8 (op:Int)])] (oI [.str [],.int .u8 0] 1)=some [[zA.str w,.int .u8 (op:Int)]].flatten:=by
  rw[Pq (sz:=2) (z:=[.str [],.int .u8 0]) (v:=.agg [.str w,.int .u8 (op:Int)]) rfl rfl];rfl
 exact h.lit (k:=1) (sz:=2) (ds:=[OpD (w,op)]) (cl:=[[.str w,.int .u8 (op:Int)]]) znn rfl zno rfl rfl (by omega) hf (Oc rfl) rfl (vH.2 ⟨_,_,rfl,zom (w,op),cH.2 rfl⟩) hb
def St.ops2   (h:St P tf t n d)(hb:t.get b=none) :
  ∃tf' t',tE yA 201 2 [(0,.agg [.str w,.int .u8 (op:Int)]),(1,.agg [.str w',.int .u8 (op':Int)])] ⟨b,t⟩=some (.slice b 0 2 2,⟨b+1,t'⟩)/\zB tf tf'/\St P tf' t' n d/\aA tf' 2 ([(w,op),(w',op')].map OpD) (.slice b 0 2 2):=
 h.lit (k:=2) (sz:=2) (ds:=[OpD (w,op),OpD (w',op')]) (cl:=[[.str w,.int .u8 (op:Int)],[.str w',.int .u8 (op':Int)]]) znn rfl zno rfl rfl (by omega) (NS rfl rfl rfl) (zkg rfl rfl) rfl (vH.2 ⟨_,_,rfl,zom (w,op),vH.2 ⟨_,_,rfl,zom (w',op'),cH.2 rfl⟩⟩) hb
def zmv  (ho:fI P d o g)(hup:Up o)(h:St P tf t n d)(hk:Ok P cL d tf (zS P.tk o [(w,op),(w',op')] n) Q E)
  (hg:Nat.blt g pn=true:=by kernel_rfl) (hp1:(jC g&&Nat.blt g yo)=false:=by kernel_rfl) (hp2:Nat.beq g pn=false:=by kernel_rfl) (hp3:(mG g&&Nat.blt g pn)=true:=by kernel_rfl) :
  oA yA.base (rG yA F jC mG E) J (.heavy (tE yA 201 2 [(0,.agg [.str w,.int .u8 (op:Int)]),(1,.agg [.str w',.int .u8 (op':Int)])]) fun a=>.call 66 [.ptr P.bp 0,.func (.func g) [.ptr P.bp 0] [],a] fun v=>.asG zE v fun X=>.ite (sD zA.one (cE X)) (.ret (.agg (cE X))) .fail) t Q:=by
 refine eC fun b hb _=>?_
 obtain⟨tf1,t1,h1,h2,h3,h4⟩:=h.ops2 (w:=w) (w':=w') (op:=op) (op':=op') hb
 refine⟨_,_,h1,wB ?_⟩
 rw[pE 66];refine PN ho hup (by simp) h3 h4 ?_ hg hp1 hp2 hp3
 have hk:=hk.mono h2
 revert hk
 generalize zS P.tk o [(w,op),(w',op')] n=r
 intro hk
 cases r with
 | ok x n1=>exact fun tf2 t2 v k1 k2 k3=>Zl k3 (hk tf2 t2 v k1 k2 k3)
 | er e i=>exact hk
def zmw  (ho:fI P d o g)(hup:Up o)(h:St P tf t n d)(hk:Ok P cL d tf (zS P.tk o [(w,op)] n) Q E)
  (hg:Nat.blt g pn=true:=by kernel_rfl) (hp1:(jC g&&Nat.blt g yo)=false:=by kernel_rfl) (hp2:Nat.beq g pn=false:=by kernel_rfl) (hp3:(mG g&&Nat.blt g pn)=true:=by kernel_rfl) :
  oA yA.base (rG yA F jC mG E) J (.heavy (tE yA 201 1 [(0,.agg [.str w,.int .u8 (op:Int)])]) fun a=>.call 66 [.ptr P.bp 0,.func (.func g) [.ptr P.bp 0] [],a] fun v=>.asG zE v fun X=>.ite (sD zA.one (cE X)) (.ret (.agg (cE X))) .fail) t Q:=by
 refine eC fun b hb _=>?_
 obtain⟨tf1,t1,h1,h2,h3,h4⟩:=h.ops1 (w:=w) (op:=op) hb
 refine⟨_,_,h1,wB ?_⟩
 rw[pE 66];refine PN ho hup (by simp) h3 h4 ?_ hg hp1 hp2 hp3
 have hk:=hk.mono h2
 revert hk
 generalize zS P.tk o [(w,op)] n=r
 intro hk
 cases r with
 | ok x n1=>exact fun tf2 t2 v k1 k2 k3=>Zl k3 (hk tf2 t2 v k1 k2 k3)
 | er e i=>exact hk
def zoh(ho:fI P d o 287)(hup:Up o):fI P d (zhj P.tk o) 266:=fun tf t n Q E h hk=>by
 refine w266 ?_
 unfold t266 uG jB uZ uY lF nE;exact mA rfl (mA rfl (zmv ho hup h hk))
def zk4(ho:fI P d o 287)(hup:Up o):fI P d (Aq P.tk o) 231:=fun tf t n Q E h hk=>by
 refine w231 ?_
 unfold t231 uG jB uZ uY lF nE;exact mA rfl (mA rfl (zmv (zoh ho hup) (Qi hup) h hk))
def zqk(ho:fI P d o 287)(hup:Up o):fI P d (lW P.tk o) 181:=fun tf t n Q E h hk=>by
 refine w181 ?_
 unfold t181 uU uB uG jB uX uZ uY lF nE;refine wB ?_
 rw[pE 231];refine zk4 ho hup _ _ _ _ _ h (hk.bind fun x n1 tf1 t1 v hr hle hst hrd hk1=>?_)
 obtain⟨cs,rfl,hx⟩:=hrd
 obtain⟨a,b,c,rfl,_⟩:=nI hx
 refine dC (agE hx) (mA hx.all (mA rfl (mA rfl (eC fun b hb _=>?_))))
 obtain⟨tf2,t2,k1,k2,k3,k4⟩:=hst.ops2 (w:=[60]) (op:=13) (w':=[61]) (op':=14) hb
 refine⟨_,_,k1,wB ?_⟩
 rw[pW 128];refine AB k4 (by simp) k3 fun t3=>?_
 cases hop:aM P.tk [([60],13),([61],14)] n1 with
 | none=>
  rw[hop]at hk1;intro h';have hx2:=RD.mono k2 _ _ hx
  exact rA rfl (qB (rA rfl (iD (mA rfl (mA hx.all (Ok.now (hk1.mono k2) h' ⟨_,rfl,hx2⟩))))))
 | some op=>
  rw[hop]at hk1;intro h';refine rA rfl (qB (rA rfl (iD (vB (by simp) (wB ?_)))))
  rw[pE 231];refine zk4 ho hup _ _ _ _ _ h' ((hk1.mono k2).bind fun y n2 tf3 t4 v hr2 hle2 hst2 hrd2 hk2=>?_)
  obtain⟨cs2,rfl,hy⟩:=hrd2
  obtain⟨a',b',c',rfl,_⟩:=nI hy
  refine dC (agE hy) (mA hy.all (eC fun b hb _=>?_))
  obtain⟨tf4,t5,m1,m2,m3,m4⟩:=hst2.pair (RD.mono (k2.trans hle2) _ _ hx) hy hb
  exact⟨_,_,m1,mA (zon rfl rfl) (mA (Vo m4).all (Ok.now (hk2.mono m2) m3 ⟨_,rfl,Vo m4⟩))⟩
theorem zac{k:Nat}{Q:mB}{P:dM}{n d:Nat}:∀(k:Nat) (x:lA) (cs:List zA) (tf t:Tr tA),k<1000000000->St P tf t n d->RD tf x.d cs->Ok P cL d tf (.ok (Gb k x) n) Q E->zK E 129 6 ([.int .i64 (k:Int)]++zE++cs) t Q:=by
 intro k;induction k with
 | zero=>
  intro x cs tf t _ h hx hk;obtain⟨a,b,c,rfl,_⟩:=nI hx
  refine zmd ?_
  unfold Yj jB uZ uY uW;exact vB (by simp[aC]) (mA hx.all (Ok.now hk h ⟨_,rfl,hx⟩))
 | succ k ih=>
  intro x cs tf t hkl h hx hk;obtain⟨a,b,c,rfl,_⟩:=nI hx
  refine zmd ?_
  unfold Yj jB uZ uY uW;refine mA (by grind [aC]) (eC fun b hb _=>?_)
  obtain⟨tf1,t1,h1,h2,h3,h4⟩:=h.sole hx hb
  have hu:=un_rd (op:=17) (w:=[]) h4
  refine⟨_,_,h1,mA (zon rfl rfl) (mA hu.all (fC ?_))⟩
  have e:fA .i64 (((k+1:Nat):Int)-1)=(k:Int):=by grind [wrap_i64]
  rw[e];exact ih (unX 17 [] x) _ tf1 t1 (by omega) h3 hu (hk.mono h2)
theorem AH{tk:List bC}:∀(m m' n:Nat),tk.length<=n+m->tk.length<=n+m'->kK tk m n=kK tk m' n:=by
 have z:∀m n,tk.length<=n->kK tk m n=0:=by
  intro m n h
  cases m with
  | zero=>rfl
  | succ m=>
   unfold kK;rw[yaa];intro ha;have:=Vx (P:=⟨tk,0,.nilptr,0,0,[]⟩) ha
   grind
 intro m;induction m with
 | zero=>intro m' n h1 h2;rw[z 0 n (by omega),z m' n (by omega)]
 | succ m ih=>
  intro m' n h1 h2
  cases m' with
  | zero=>rw[z (m+1) n (by omega),z 0 n (by omega)]
  | succ m'=>
   grind [kK]
theorem zos(ho:fI P d o 287)(hup:Up o):fI P d (lU P.tk o) 129:=fun tf t n Q E h hk=>by
 refine w129 ?_
 unfold t129 uZ uY;refine fC ?_
 have loop:∀(m i n:Nat) (t:Tr tA),kK P.tk P.tk.length n=m->i<=n->St P tf t n d->Ok P cL d tf ((lW P.tk o (n+m)).bind fun x n'=>.ok (Gb (i+m) x) n') Q E->zK E 129 2 ([.ptr P.bp 0,.int .i64 (i:Int)]++zE) t Q:=by
  intro m;induction m with
  | zero=>
   intro i n t hm hi h hk;refine zme ?_
   unfold Yk uB uG jB kC uZ uY lF;have hl:=h.len
   refine wS h (fun ha t' h'=>?_) fun ha t' h'=>?_
   ·have:n<P.tk.length:=Vx ha
    rw[AH _ (P.tk.length+1) _ (by omega) (by omega)]at hm
    grind [kK]
   ·refine wB ?_
    rw[pE 181];refine zqk ho hup _ _ _ _ _ h' (hk.bind fun x n1 tf1 t1 v hr hle hst hrd hk1=>?_)
    obtain⟨cs,rfl,hx⟩:=hrd
    have hx':=hx
    obtain⟨a,b,c,rfl,_⟩:=nI hx
    refine dC (agE hx) (mA hx.all (fC ?_))
    exact zac (k:=0) i x _ tf1 t1 (by have:=h.le;omega) hst hx' hk1
  | succ m ih=>
   intro i n t hm hi h hk;refine zme ?_
   unfold Yk uB uG jB kC uZ uY lF;have hl:=h.len
   refine wS h (fun ha t' h'=>?_) fun ha t' h'=>?_
   ·have hlt:n<P.tk.length:=Vx ha
    rw[AH _ (P.tk.length+1) _ (by omega) (by omega)]at hm
    unfold kK at hm;rw[yab ha]at hm;have e:fA .i64 ((i:Int)+1)=((i+1:Nat):Int):=by grind [wrap_i64]
    refine fC ?_
    rw[e];exact ih (i+1) (n+1) t' (by omega) (by omega) h' (by rwa [show n+1+m=n+(m+1) by omega,show i+1+m=i+(m+1) by omega])
   ·rw[AH _ (P.tk.length+1) _ (by omega) (by omega)]at hm
    grind [kK]
 exact loop _ 0 n t rfl (by omega) h (by rw[ybw];exact hk)
def zqh(ho:fI P d o 287)(hup:Up o):fI P d (Qh P.tk o) 67:=fun tf t n Q E h hk=>by
 refine w67 ?_
 unfold t67 uG jB uZ uY lF nE;exact mA rfl (zmw (zos ho hup) (JU hup) h hk)
def CT(ho:fI P d o 287)(hup:Up o):fI P d (iR P.tk o) 31:=fun tf t n Q E h hk=>by
 refine w31 ?_
 unfold t31 uG jB uZ uY lF nE;exact mA rfl (zmw (zqh ho hup) (PE hup) h hk)
end
end Go.Proofs
namespace Go.Proofs
open Go Go.Am
section
variable {i k:Nat}{f:Nat->List Nat}
variable [nC]
structure Ft:Prop where
 frac:∀ {s:List Nat} {neg:Bool} {tf t:Tr tA} {L:List iF} {Q:mB},Bf s->xB yA.base tf t L->(∀tf' t' cs,zB tf tf'->xB yA.base tf' t' L->RD tf' (mR s neg).dd cs->Q (.agg cs) t')->Wc yA F 80 [.str s,.bool neg] t Q
 int:∀ {s:List Nat} {neg:Bool} {lo hi:Int} {t:Tr tA},Bf s->gK s=false -> -4294967296<=lo->hi<=4294967296->∃i:Int,kB yA F 144 [.str s,.bool neg,.int .i64 lo,.int .i64 hi] t=some (.tup [.int .i64 i,.bool (mT s neg lo hi).isSome])/\∀j,mT s neg lo hi=some j->i=j
 date:∀ {s:List Nat} {t:Tr tA},dJ t->Ve s->kB yA F 138 [.str s] t=some (.tup [.int .i64 (((wV s).getD 0:Nat):Int),.int .i64 0])
theorem YG:∀s:List Nat,Cn [47] s=gK s:=by
 intro s;unfold gK;induction s with
 | nil=>rfl
 | cons b s ih=>
  unfold Cn;rw[ih,List.contains_cons];have e:vY [47] (b::s)=(47 == b):=by
   grind [vY,gC]
  rw[e]
  cases (47 == b)<;>rfl
theorem Wz{tk:List bC}{n n1:Nat}{a:List Nat}(h:lS tk k n=.ok a n1):jM tk k n=true/\a=aP tk n/\n1=n+1:=by
 grind [lS]
section
variable {P:dM}{tf t:Tr tA}{n d:Nat}{Q E:mB}{J:eF}{o:PM lA}
theorem St.at(h:St P tf t n d) (hk:jM P.tk k i=true):∃x∈P.tk,x.kind=k/\x.text=aP P.tk i:=by
 grind [jM,aP]
def St.num(h:St P tf t n d) (hk:jM P.tk 2 i=true):Bf (aP P.tk i):=by
 obtain⟨x,h1,h2,h3⟩:=h.at hk
 rw[<- h3];exact(h.good x h1).1 h2
def St.date(h:St P tf t n d) (hk:jM P.tk 3 i=true):Ve (aP P.tk i):=by
 obtain⟨x,h1,h2,h3⟩:=h.at hk
 rw[<- h3];exact(h.good x h1).2 h2
def zqf(hL:Ft)(h:St P tf t n d)(hk:Ok P rdInt d tf (Qg P.tk n) Q E):sM yA F E 79 [.ptr P.bp 0] t Q:=by
 refine w79 ?_
 unfold t79 uI uG uX uZ uY;refine wB ?_
 rw[pE 68];refine Nc (k:=3) (by omega) h (hk.bind fun a n1 tf1 t1 v hr hle hst hrd hk1=>?_)
 obtain⟨x,_,e,rfl⟩:=hrd
 obtain⟨h1,h2,_⟩:=Wz hr
 have hd:=h.date h1
 rw[<- h2]at hd;refine dC (agT _) (wB ?_)
 rw[pQ 138,cT1,e,hL.date (hst.glob.mono hst.ob.tle) hd,uA]
 exact rA rfl (qB (rA rfl (qB (Ok.now hk1 hst rfl))))
theorem zne{ty b:Nat} (hT:yA.tys.get ty=some ⟨.arr 7 9,7,112,[.str [],.str [],.str [],.str [],.str [],.str [],.str []],true⟩)(h:At t b 0 ((List.range 7).map fun i=>.str (f i))) (hi:i<7) :
  uC yA ty (.ptr b 0) (.int .u8 (i:Int))=some (.ptr b (0+i))/\cA yA 9 ⟨0,t⟩ (.ptr b (0+i))=some (.str (f i)):=by
 refine⟨?_,h.load1 gL rfl ?_⟩
 ·unfold uC
  rw[hT,pA];have e:(zA.int .u8 (i:Int)).asNat=some i:=rfl
  rw[e,pA];simp only[zA.asSlice];simp only[zA.asPtr,vE.asArr,pA];rw[gL,pA,qC.2 hi,cD,Nat.mul_one]
 simp_all
theorem zov(hg:dJ t) (hi:i<256):kB yA F 170 [.int .u8 (i:Int)] t=some (.str (lM i)):=by
 refine iC.2 (w170 ?_)
 unfold t170 uS;have hw:fA .i64 (i:Int)=(i:Int):=wrap_i64 (by omega) (by omega)
 by_cases h7:i<7
 ·obtain⟨h1,h2⟩:=zne ty223 hg.2.1 h7
  exact mA (by grind [aC]) (rA h1 (yC h2 (dD ⟨rfl,rfl⟩)))
 ·refine vB (by grind [aC]) ⟨?_,rfl⟩
  have:lM i=[]:=by
   match i,h7 with
   | i+7,_=>rfl
  rw[this]
theorem zfb {g most:Nat}(hf:∀(t:Tr tA),dJ t->∀i:Nat,i<256->kB yA F g [.int .u8 (i:Int)] t=some (.str (f i)))(hg:Nat.blt g pn=true)(hp:(jC g&&Nat.blt g yo)=true)(hm:most<200)(h:St P tf t n d)(hk:Ok P rdU8 d tf (aN P.tk f most most 1 n) Q E):sM yA F E 201 [.ptr P.bp 0,.int .u8 1,.int .u8 (most:Int),.func (.func g) [] []] t Q:=by
 refine w201 ?_
 unfold t201 uY;refine fC ?_
 have loop:∀(k i:Nat) (t:Tr tA),i+k=most+1->St P tf t n d->Ok P rdU8 d tf (aN P.tk f most k i n) Q E->zK E 201 2 [.ptr P.bp 0,.int .u8 (most:Int),.func (.func g) [] [],.int .u8 (i:Int)] t Q:=by
  intro k;induction k with
  | zero=>
   intro i t hi h hk;refine zl3 ?_
   unfold Xx uB uS uZ uY;exact vB (by grind [oR]) (wB (Ok.fail h hk))
  | succ k ih=>
   intro i t hi h hk;refine zl3 ?_
   unfold Xx uB uS uZ uY;unfold aN at hk;rw[yaa (by omega)]at hk
   have e:mL (.func (.func g) [] []) [.int .u8 (i:Int)]=some (g,[.int .u8 (i:Int)]):=by
    unfold mL;simp only[zA.asFunc,pA,hg,cD];rfl
   refine mA (by grind [oR]) (wX e ?_)
   unfold rG;rw[yab hp,hf t (h.glob.mono h.ob.tle) i (by omega),uA]
   refine dD (wS h (fun ha t' h'=>?_) fun ha t' h'=>?_)
   ·rw[ha]at hk
    exact Ok.now hk h' rfl
   grind [Iw,fC]
 grind
end
end
section
variable {neg:Bool}
variable [nC]
def Ms{t:Tr tA}{k:Nat}{i:Int}:RD t (eD.d ⟨k,mJ,i⟩) [.int .u8 (k:Int),.bool false,.nilslice,.bool false,.nilslice,.int .i64 i]:=He (x:=⟨k,mJ,i⟩) xQ xQ
def zd8{t:Tr tA}{f:zF}{cs:List zA}(h:RD t f.dd cs):∃u v,cs=[.bool f.n.neg,u,.bool f.d.neg,v]/\eK [.bool false,.nilslice,.bool false,.nilslice] (.agg cs)=some (cellsOf cs)/\∀(k:Nat) (i:Int),RD t (eD.d ⟨k,f,i⟩) [.int .u8 (k:Int),.bool f.n.neg,u,.bool f.d.neg,v,.int .i64 i]:=by
 obtain⟨u,v,rfl,h1,h2⟩:=Go.Am.rd_frac h
 exact⟨u,v,rfl,iW h (zF.zs _),fun k i=>He (x:=⟨k,f,i⟩) h1 h2⟩
section
variable {P:dM}{tf t:Tr tA}{n d:Nat}{Q E:mB}{J:eF}{o:PM lA}
def zd7{K:zA->T}{s:List Nat} (hL:Ft)(h:St P tf t n d)(hs:Bf s)(k:∀tf' t' cs,zB tf tf'->St P tf' t' n d->RD tf' (mR s neg).dd cs->oA yA.base (rG yA F jC mG E) J (K (.agg cs)) t' Q) :
  oA yA.base (rG yA F jC mG E) J (.call 80 [.str s,.bool neg] K) t Q:=by
 refine wB ?_
 rw[pW 80];exact hL.frac hs h.ob fun tf' t' cs k1 k2 k3=>k tf' t' cs k1 ⟨h.ts.mono k1,k2,h.len,h.le,h.good,h.glob.mono k1⟩ k3
theorem zhi(hL:Ft) (h:St P tf t n d)(hk:Ok P rdXV d tf (jV P.tk neg n) Q E):sM yA F E 81 [.ptr P.bp 0,.bool neg] t Q:=by
 refine w81 ?_
 unfold t81 uI uB uG jB sC uZ uY;refine rA nl (rA f1 (yC h.l1 (qB (wB ?_))))
 rw[pE 68];unfold jV at hk;refine Nc (k:=2) (by omega) h (hk.bind fun a n1 tf1 t1 v hr hle hst hrd hk1=>?_)
 obtain⟨x,_,e,rfl⟩:=hrd
 obtain⟨g1,g2,g3⟩:=Wz hr
 have hn:=h.num g1
 rw[<- g2]at hn;have hnl:=h.le
 subst e;refine dC (agT _) (mA rfl (rA nl (rA f1 (yC hst.l1 (qB ?_)))))
 have tail:∀(k:Nat) (t2:Tr tA),St P tf1 t2 (n1+1) d->Ok P rdXV d tf1 (if gK x.text then .er 120 n1 else match mT x.text neg (-1048576) 1048576 with
   | none=>.er 121 n
   | some i=>.ok ⟨k,mJ,i⟩ (n1+1)) Q E->zK E 81 21 [.ptr P.bp 0,.bool neg,.int .i64 (n:Int),.int .u8 (k:Int),.int .i64 (n1:Int),.int .u8 0,.bool false,.nilslice,.bool false,.nilslice,.int .i64 0,.int .u8 (x.kind:Int),.str x.text,.int .i64 (x.line:Int),.int .i64 (x.col:Int)] t2 Q:=by
  intro k t2 h2 hk2;refine j81_21 ?_
  unfold zkp uB sC uZ uY;refine wB ?_
  rw[pQ 143,OX (by have:=hn.1;omega),uA,YG]
  refine iD ?_
  cases hs:gK x.text with
  | true=>
   rw[hs,yab rfl]at hk2;refine mA rfl (rA nl (rA f1 (eC fun b _ _=>?_)))
   obtain⟨t3,k1,k2⟩:=h2.set1 (n':=n1) (by have:=h2.le;omega)
   exact⟨_,_,k1 b,wB (Ok.fail k2 hk2)⟩
  | false=>
   rw[hs,yaa (by simp)]at hk2
   refine vB (by simp) (fC (j81_27 ?_))
   unfold zko uR0 uI uB sC uX uZ uY;obtain⟨i,hi,hj⟩:=hL.int (s:=x.text) (neg:=neg) (lo := -1048576) (hi:=1048576) (t:=t2) hn hs (by omega) (by omega)
   refine wB ?_
   rw[pQ 144,hi,uA];refine rA rfl (qB (rA rfl (iD ?_)))
   cases hv:mT x.text neg (-1048576) 1048576 with
   | none=>
    rw[hv]at hk2;refine mA rfl (rA nl (rA f1 (eC fun b _ _=>?_)))
    obtain⟨t3,k1,k2⟩:=h2.set1 (n':=n) (by omega)
    exact⟨_,_,k1 b,wB (Ok.fail k2 hk2)⟩
   | some j=>
    rw[hv]at hk2;have:=hj j hv
    subst this;exact vB (by simp) (mA rfl (mA rfl (Ok.now hk2 h2 ⟨_,rfl,Ms⟩)))
 refine wS hst (fun ha t2 h2=>?_) fun ha t2 h2=>?_
 ·refine fC (tail 5 t2 h2 ?_)
  grind
 ·refine wS h2 (fun hb t3 h3=>?_) fun hb t3 h3=>?_
  ·refine fC (tail 6 t3 h3 ?_)
   grind
  ·rw[ha,hb]at hk1
   refine zd7 hL h3 hn fun tf4 t4 cs k1 k2 k3=>?_
   obtain⟨u,v,rfl,hz,hd⟩:=zd8 k3
   refine dC hz (mA rfl (mA (hd 2 0).all ?_))
   exact Ok.now (Ok.mono hk1 k1) k2 ⟨_,rfl,hd 2 0⟩
def rdOV (tf:Tr tA)(x:Option eD)(v:zA):Prop:=match x with
 | some x=>∃cs,v=.tup [.agg cs,.bool true]/\RD tf x.d cs
 | none=>v=.tup [.agg zV,.bool false]
theorem PC(hL:Ft)(h:St P tf t n d)(hk:Ok P rdOV d tf (eT P.tk n) Q E):sM yA F E 38 [.ptr P.bp 0] t Q:=by
 refine w38 ?_
 unfold t38 uI uB uG jB uZ uY dP uA9;refine wB ?_
 rw[pQ 77,Nw h,uA];unfold eT at hk;rw[Tq (by omega),Tq (by omega)]at hk
 refine dC (agT _) (mA rfl (wS h (fun ha t1 h1=>?_) fun ha t1 h1=>?_))
 ·rw[ha,yab rfl]at hk
  exact mA rfl (mA rfl (Ok.now hk h1 ⟨_,rfl,Ms⟩))
 rw[ha,yaa (by simp)]at hk
 refine wS h1 (fun ha t2 h2=>?_) fun ha t2 h2=>?_
 ·rw[ha,yab rfl]at hk
  exact mA rfl (mA rfl (Ok.now hk h2 ⟨_,rfl,Ms⟩))
 rw[ha,yaa (by simp)]at hk
 by_cases hd:(dI P n).kind=3
 ·rw[decide_eq_true hd,yab rfl]at hk
  refine mA (by rw[cT0,hd];rfl) (wB ?_)
  rw[pE 79];refine zqf hL h2 (hk.bind fun a n1 tf3 t3 v hr hle hst hrd hk1=>?_)
  subst hrd;exact qB (mA rfl (mA rfl (Ok.now hk1 hst ⟨_,rfl,Ms⟩)))
 rw[decide_eq_false hd,yaa (by simp)]at hk
 refine vB (by grind [cT0,fE]) (wS h2 (fun ha t3 h3=>?_) fun ha t3 h3=>?_)
 ·rw[ha,yab rfl]at hk
  refine wB ?_
  rw[pW 78];refine Vw h3 fun t4 h4=>iD (wB ?_)
  rw[pE 68];have e:(if acc P.tk zX (n+1)then n+2 else n+1)=(if acc P.tk zX (n+1)then n+1+1 else n+1):=by split<;>rfl
  simp only[e]at hk;refine Nc (k:=2) (by omega) h4 (hk.bind fun a n1 tf5 t5 v hr hle hst hrd hk1=>?_)
  obtain⟨x,_,e,rfl⟩:=hrd
  obtain⟨g1,g2,g3⟩:=Wz hr
  have hn:=h.num g1
  rw[<- g2,<- e]at hn;subst e;refine dC (agT _) (zd7 hL hst hn fun tf6 t6 cs k1 k2 k3=>?_)
  obtain⟨u,v,rfl,hz,hd⟩:=zd8 k3
  refine dC hz (mA rfl (mA (hd 3 0).all ?_))
  exact Ok.now (Ok.mono hk1 k1) k2 ⟨_,rfl,hd 3 0⟩
 rw[ha,yaa (by simp)]at hk
 have quant:∀(neg:Bool) (m:Nat) (t4:Tr tA),St P tf t4 m d->Ok P rdOV d tf ((jV P.tk neg m).bind fun v n1=>.ok (some v) n1) Q E →
   oA yA.base (rG yA F jC mG E) (JqE yA F E 38) (.call 81 [.ptr P.bp 0,.bool neg] fun a=>.asG zV a fun X=>.ite (sD zA.one (cV X)) (.ret (.tup [.agg (cV X),.bool true])) .fail) t4 Q:=by
  intro neg m t4 h4 hk4;refine wB ?_
  rw[pE 81];refine zhi hL h4 (hk4.bind fun a n1 tf5 t5 v hr hle hst hrd hk1=>?_)
  obtain⟨cs,rfl,hx⟩:=hrd
  have hx':=hx
  obtain⟨u,w,rfl,_⟩:=oX hx
  exact dC (agV hx) (mA hx.all (Ok.now hk1 hst ⟨_,rfl,hx'⟩))
 refine wS h3 (fun ha t4 h4=>?_) fun ha t4 h4=>?_
 ·grind
 rw[ha,yaa (by simp)]at hk
 by_cases hd:(dI P n).kind=2
 ·rw[decide_eq_true hd,yab rfl]at hk
  exact mA (by rw[cT0,hd];rfl) (quant false _ t4 h4 hk)
 rw[decide_eq_false hd,yaa (by simp)]at hk
 exact vB (by grind [cT0,fE]) (mA rfl (mA rfl (Ok.now hk h4 rfl)))
def zqv(ho:fI P d o 287){op:Nat}(h:St P tf t n d)(hk:Ok P cL d tf (atP P.tk o op n) Q E):sM yA F E 313 [.ptr P.bp 0,.int .u8 (op:Int)] t Q:=by
 refine w313 ?_
 unfold t313 uS uG jB uZ uY nE;refine wB ?_
 rw[pE 96];refine JX h (hk.bind fun w n1 tf1 t1 v hr hle hst hrd hk1=>?_)
 subst hrd;refine dD (zmn hst hk1 fun n2 tf2 t2 hle2 hst2 hk2=>?_)
 refine wB ?_
 rw[pE 287];refine ho _ _ _ _ _ hst2 (hk2.bind fun x n3 tf3 t3 v hr3 hle3 hst3 hrd3 hk3=>?_)
 obtain⟨cs,rfl,hx⟩:=hrd3
 have hx':=hx
 obtain⟨a,b,c,rfl,_⟩:=nI hx
 refine dC (agE hx) (eC fun b hb _=>?_)
 obtain⟨tf4,t4,k1,k2,k3,k4⟩:=hst3.sole hx' hb
 have hu:=un_rd (op:=op) (w:=w) k4
 exact⟨_,_,k1,mA (by rw[mI];rfl) (mA hu.all (Ok.now (hk3.mono k2) k3 ⟨_,rfl,hu⟩))⟩
def Ok.ret{W:eF}{r:PR lA}(hk:Ok P cL d tf r Q E):Ok P cL d tf r (fun v t'=>oA yA.base W J (.asG zE v fun X=>.ite (sD zA.one (cE X)) (.ret (.agg (cE X))) .fail) t' Q) E:=by
 cases r with
 | ok x n1=>exact fun tf2 t2 v k1 k2 k3=>Zl k3 (hk tf2 t2 v k1 k2 k3)
 | er e i=>exact hk
def zis(hL:Ft)(ho:fI P d o 287)(hup:Up o)(hc:fI P d (gZ P.tk (iR P.tk o)) 314):fI P d (fN P.tk o) 299:=fun tf t n Q E h hk=>by
 refine w299 ?_
 unfold t299 uB uG jB uX uZ uY lF nE dP;refine wB ?_
 rw[pE 38];unfold fN at hk;refine PC hL h (hk.bind fun v n1 tf1 t1 u hr hle h0 hrd hk1=>?_)
 cases v with
 | some v=>
  obtain⟨cs,rfl,hx⟩:=hrd
  have hx':=hx
  obtain⟨a,b,rfl,ha,hb⟩:=oX hx
  have hc:RD tf1 (DM v).d [.int .u8 1,.str [],.int .u8 v.kind,.bool v.f.n.neg,a,.bool v.f.d.neg,b,.int .i64 v.i,.nilslice]:=Kh (op:=1) (name:=[]) (v:=v) (args:=[]) ha hb xQ
  exact rA rfl (dC (agV hx) (rA rfl (iD (mA hx.all (mA rfl (mA rfl (mA hc.all (Ok.now hk1 h0 ⟨_,rfl,hc⟩))))))))
 | none=>
  have hrd:u=.tup [.agg zV,.bool false]:=hrd
  subst hrd;refine rA rfl (dC (agV (x:=nS) (Ms (t:=tf1))) (rA rfl (iD (mA rfl (vB (by simp) ?_)))))
  have hk1:Ok P cL d tf1 (if acc P.tk [40] n1 then(iR P.tk o (n1+1)).bind fun x n1=>(pH P.tk [41] n1).bind fun _ n2=>.ok x n2
   else if acc P.tk Iz n1 then .ok (.mk 2 [] nS []) (n1+1)
   else if acc P.tk Dj n1 then atP P.tk o 3 (n1+1)
   else if acc P.tk Di n1 then atP P.tk o 4 (n1+1)
   else if nT P.tk n1 then atP P.tk o 5 n1
   else gZ P.tk (iR P.tk o) n1) Q E:=hk1
  refine wS h0 (fun ha t2 h2=>?_) fun ha t2 h2=>?_
  ·rw[ha,yab rfl]at hk1
   refine wB ?_
   rw[pE 31];refine CT ho hup _ _ _ _ _ h2 (hk1.bind fun x n2 tf3 t3 v hr hle hst hrd hk2=>?_)
   obtain⟨cs,rfl,hx⟩:=hrd
   have hx':=hx
   obtain⟨a,b,c,rfl,_⟩:=nI hx
   refine dC (agE hx) (mA hx.all (zmn hst hk2 fun n3 tf4 t4 hle4 hst4 hk4=>?_))
   have hx4:=RD.mono hle4 _ _ hx'
   exact mA hx.all (Ok.now hk4 hst4 ⟨_,rfl,hx4⟩)
  rw[ha,yaa (by simp)]at hk1
  refine wS h2 (fun ha t2 h2=>?_) fun ha t2 h2=>?_
  ·rw[ha,yab rfl]at hk1
   exact mA rfl (mA rfl (Ok.now hk1 h2 ⟨_,rfl,Kh (op:=2) (name:=[]) (v:=nS) (args:=[]) xQ xQ xQ⟩))
  rw[ha,yaa (by simp)]at hk1
  refine wS h2 (fun ha t2 h2=>?_) fun ha t2 h2=>?_
  ·rw[ha,yab rfl]at hk1
   refine wB ?_
   rw[pE 313];exact zqv ho (op:=3) h2 hk1.ret
  rw[ha,yaa (by simp)]at hk1
  refine wS h2 (fun ha t2 h2=>?_) fun ha t2 h2=>?_
  ·rw[ha,yab rfl]at hk1
   refine wB ?_
   rw[pE 313];exact zqv ho (op:=4) h2 hk1.ret
  rw[ha,yaa (by simp)]at hk1
  refine wB ?_
  rw[pQ 151,MB h2,uA];refine iD ?_
  cases hb:nT P.tk n1 with
  | true=>
   rw[hb,yab rfl]at hk1;refine mA rfl (wB ?_)
   rw[pE 313];exact zqv ho (op:=5) h2 hk1.ret
  | false=>
   rw[hb,yaa (by simp)]at hk1
   refine vB (by simp) (wB ?_)
   rw[pE 314];exact hc _ _ _ _ _ h2 hk1.ret
end
end
section
variable {l:List lA}{v:zA}{b:Nat}{L:List iF}
variable [nC]
section
variable {base:Nat}{tf t:Tr tA}{C:iA}{A B:List iF}
theorem xB.append1{T el sz n:Nat}{l:List D}{dd:D}{x:zA}{cs:List zA}(hT:Iu C T el sz)(h:xB C.base tf t (A++nP C.base sz l v::B))(hx:aA tf sz [dd] x)(hl:l.length+1<400000)(hn:t.get n=none)(hbase:C.base<=n) :
  ∃t' v',sH C T T v x ⟨n,t⟩=some (v',⟨n+1,t'⟩)/\xB C.base tf t' (A++nP C.base sz (l++[dd]) v'::B)/\zA.one v'=true:=by
 obtain⟨cl,h1,h2⟩:=hx
 have hv:eW C.base tf t sz l v:=h.ok (nP C.base sz l v) (by simp)
 obtain⟨c,r,rfl,h3,h4⟩:=vH.1 h2
 rw[cH]at h4;subst h4;obtain⟨t',k1,k2,k3,k4⟩:=ZQ hT (m:=[dd]) hv (h1.mono h.tle) h2 (by
  have:=h3.all
  grind [mI]) (by simp) (by omega) hn hbase h.tle
 refine⟨t',_,k1,?_,rfl⟩
 grind [xB.upd,nP,Tf,Fh]
end
def el29:Iu yA 29 31 9:=⟨⟨_,ty29,rfl,rfl⟩,⟨_,ty31,rfl,rfl,by decide,by decide⟩,fun y h=>by rw[ty31]at h;cases h;rfl⟩
def dM.wL(P:dM)(L:List iF):dM:=⟨P.tk,P.bp,P.ts,P.el,P.ec,L⟩
def CF.cs(f:CF):List zA:=[.str f.word,.int .u8 (f.op:Int),.bool f.named,.int .i64 (f.least:Int),.int .i64 (f.most:Int)]
abbrev Po:List zA:=[.str [108,111,111,107],.int .u8 6,.bool true,.int .i64 1,.int .i64 2,.str [109,105,110],.int .u8 11,.bool false,.int .i64 2,.int .i64 2,.str [109,97,120],.int .u8 12,.bool false,.int .i64 2,.int .i64 2,.str [98,101,116,119,101,101,110],.int .u8 20,.bool false,.int .i64 2,.int .i64 2,.str [105,102],.int .u8 18,.bool false,.int .i64 3,.int .i64 3,.str [114,111,117,110,100],.int .u8 19,.bool false,.int .i64 2,.int .i64 2,.str [115,101,114,118,105,99,101],.int .u8 21,.bool true,.int .i64 2,.int .i64 2,.str [103,114,111,119],.int .u8 23,.bool true,.int .i64 2,.int .i64 2,.str [98,101,115,116],.int .u8 22,.bool true,.int .i64 3,.int .i64 3,.str [109,111,110,116,104,115],.int .u8 24,.bool false,.int .i64 1,.int .i64 1,.str [110,117,109,98,101,114],.int .u8 25,.bool false,.int .i64 1,.int .i64 1,.str [115,116,97,114,116],.int .u8 26,.bool false,.int .i64 1,.int .i64 1]
section
variable {P:dM}{tf t:Tr tA}{n d:Nat}{Q E:mB}{J:eF}{o:PM lA}
def St.box  (h:St P tf t n d)(hb:t.get b=none):∃tf' t',jL v ⟨b,t⟩=some (.ptr b 0,⟨b+1,t'⟩)/\zB tf tf'/\St P tf' t' n d/\lC tf' b none v.cells:=by
 obtain⟨t',h1,⟨c,h2,h2'⟩,h3,h4⟩:=Vl (v:=v) hb
 have ho:=h.ob.junk hb h4
 have hfb:=h.ob.tfn hb
 obtain⟨k1,k2⟩:=ho.froze (fun hm=>h.ob.fresh hb hm) h2 hfb
 exact⟨_,t',h1,k2,⟨h.ts.mono k2,k1,h.len,h.le,h.good,h.glob.mono k2⟩,c,by rw[Tr.get_set,yab rfl],h2'⟩
def St.fixed{T:Nat}{y:lD} (h:St P tf t n d)(hT:yA.tys.get T=some y)(hz:v.cells.length=y.size)(hz2:y.zero.length=y.size)(hone:sD zA.one v.cells=true)(hb:t.get b=none)(hbase:yA.base<=b) :
  ∃t1,iL yA T ⟨b,t⟩=some (.ptr b 0,⟨b+1,t1⟩)/\∃tf' t2,(∀q,mC yA T (.ptr b 0) v ⟨q,t1⟩=some (pD,⟨q,t2⟩))/\zB tf tf'/\St P tf' t2 n d/\lC tf' b none v.cells:=by
 obtain⟨t1,h1,h2,h3,h4⟩:=xS (C:=yA) hT hb
 refine⟨t1,h1,?_⟩
 have o1:=xB.newCel (A:=[pZ P n d]) (B:=P.L) h.ob hb hbase h2 h3 h4
 obtain⟨t2,k1,k2⟩:=xB.setCel (A:=[pZ P n d]) (j:=0) (v:=v) o1 hT hz (by omega) hone
 have hov:oM y.zero 0 v.cells=v.cells:=by
  unfold oM;rw[List.take_zero,yah,ybt (by omega),ycd]
 rw[hov]at k2;obtain⟨c,g1,g2⟩:=k2.cel
 have hni:=k2.notin (o:=wD b none v.cells) (k:=b) (by simp[wD])
 obtain⟨m1,m2⟩:=(xB.drop k2).froze hni g1 (k2.low b (by simp[wD])).2
 exact⟨_,t2,k1,m2,⟨h.ts.mono m2,m1,h.len,h.le,h.good,h.glob.mono m2⟩,c,by rw[Tr.get_set,yab rfl],g2⟩
def jX{a:Nat}{w:Nat}(h:lC tf a none [.ptr w 0])(hst:St P tf t n d):cA yA 76 ⟨0,t⟩ (.ptr a 0)=some (.ptr w 0):=(lC.le h hst.ob.tle).load1 ty76 rfl rfl
def zpw:∀i:Nat,i<12->∃f,fZ[i]?=some f/\rI yA 340 (.agg Po) (.int .i64 (i:Int))=some (.agg f.cs):=by
 intro i hi;have:i=0\/i=1\/i=2\/i=3\/i=4\/i=5\/i=6\/i=7\/i=8\/i=9\/i=10\/i=11:=by omega
 rcases this with rfl | rfl | rfl | rfl | rfl | rfl | rfl | rfl | rfl | rfl | rfl | rfl<;>exact⟨_,rfl,by kernel_rfl⟩
def zpy(tk:List bC):PM CF:=fun n=>match fZ.find? fun f=>acc tk f.word n with
 | none=>.er 120 n
 | some f=>.ok f (n+1)
def rdCF (_:Tr tA)(f:CF)(v:zA):Prop:=f∈fZ/\v=.agg f.cs
theorem zpx{a1 a0:Nat}(h1:lC tf a1 none Po)(h0:lC tf a0 none [.ptr P.bp 0])(h:St P tf t n d)(hk:Ok P rdCF d tf (zpy P.tk n) Q E):sM yA F E 319 [.ptr a1 0,.ptr a0 0] t Q:=by
 refine w319 ?_
 unfold t319 uZ uY;have hl1:cA yA 340 ⟨0,t⟩ (.ptr a1 0)=some (.agg Po):=by
  have:=(lC.le h1 h.ob.tle).at.load (j:=0) (n:=60) ty340 rfl rfl (by decide)
  simp_all
 refine yC hl1 (fC ?_)
 have loop:∀(k i:Nat) (t:Tr tA),i+k=12->St P tf t n d->Ok P rdCF d tf (match (fZ.drop i).find? fun f=>acc P.tk f.word n with | none=>.er 120 n | some f=>.ok f (n+1)) Q E →
   zK E 319 2 [.ptr a0 0,.agg Po,.int .i64 (i:Int),.str [],.int .u8 0,.bool false,.int .i64 0,.int .i64 0] t Q:=by
  intro k;induction k with
  | zero=>
   intro i t hi h hk;refine zll ?_
   unfold Xc uB uG kC uZ uY;have e:fZ.drop i=[]:=ybt (by simp_all)
   rw[e]at hk;exact vB (by grind [aC]) (yC (jX h0 h) (wB (Ok.fail h hk)))
  | succ k ih=>
   intro i t hi h hk;refine zll ?_
   unfold Xc uB uG kC uZ uY;obtain⟨f,hf,hv⟩:=zpw i (by omega)
   obtain⟨hlt,hfe⟩:=ybc.1 hf
   rw[ybl hlt,hfe,List.find?_cons]at hk;refine mA (by grind [aC]) (rA hv (dC (X:=cellsOf f.cs) (zO rfl) (mA rfl (yC (jX h0 h) (wS h (fun ha t' h'=>?_) fun ha t' h'=>?_)))))
   ·have ha:acc P.tk f.word n=true:=ha
    rw[ha]at hk;exact mA rfl (Ok.now hk h' ⟨ycv hf,rfl⟩)
   ·have ha:acc P.tk f.word n=false:=ha
    grind [wrap_i64,fC]
 exact loop 12 0 t rfl h hk
abbrev nO(l:List lA)(v:zA):iF:=nP yA.base 9 (l.map lA.d) v
def St.args   (h:St (P.wL (nO l v::L)) tf t n d):eW yA.base tf t 9 (l.map lA.d) v:=h.ob.ok (nO l v) (by simp[dM.wL])
theorem St.more {x:lA} {cx:List zA} (h:St (P.wL (nO l v::L)) tf t n d)(hx:RD tf x.d cx)(hl:l.length<1000) (hb:t.get b=none) :
  ∃t1 w,tE yA 29 1 [(0,.agg cx)] ⟨b,t⟩=some (w,⟨b+1,t1⟩)/\∀c,t1.get c=none->yA.base<=c->∃tf2 t2 v2,sH yA 29 29 v w ⟨c,t1⟩=some (v2,⟨c+1,t2⟩)/\zB tf tf2/\St (P.wL (nO (l++[x]) v2::L)) tf2 t2 n d/\sD zA.one [v2]=true:=by
 obtain⟨tf1,t1,h1,h2,h3,h4⟩:=h.sole hx hb
 refine⟨t1,_,h1,fun c hc hcb=>?_⟩
 have ho:=h3.ob
 obtain⟨t2,v2,k1,k2,k3⟩:=xB.append1 (A:=[pZ P n d]) (B:=L) (cs:=[]) el29 ho h4 (by grind) hc hcb
 refine⟨tf1,t2,v2,k1,h2,⟨h3.ts,?_,h3.len,h3.le,h3.good,h3.glob⟩,by grind [mI]⟩
 show xB yA.base tf1 t2 ([pZ P n d]++nP yA.base 9 ((l++[x]).map lA.d) v2::L)
 simp_all
end
end
section
variable {α β:Type}{w:List Nat}{f:CF}{a0 m:Nat}{e:PM lA}{K:zA->T}{l:List lA}{v:zA}
variable [nC]
def PR.bind_assoc{γ:Type}(r:PR α)(f:α->Nat->PR β)(g:β->Nat->PR γ):(r.bind f).bind g=r.bind fun a n=>(f a n).bind g:=by cases r<;>rfl
section
variable {tk:List bC}{o:PM lA}
theorem Hx  : Up (pH tk w):=by
 intro n a n' h;grind [pH]
theorem JZ:Up (kU tk):=by
 intro n a n' h;grind [kU]
theorem Wy{k:Nat}:Up (lS tk k):=by
 intro n a n' h;grind [lS]
def uM {r:PM α}{f:α->PM β}(h1:Up r)(h2:∀a,Up (f a)):Up fun n=>(r n).bind f:=by
 intro n b n' h;obtain⟨a,n1,e1,e2⟩:=PR.bind_ok h
 have:=h1 _ _ _ e1
 have:=h2 _ _ _ _ e2
 omega
theorem mU {a:α}:Up (fun n=>(.ok a n:PR α)):=by intro n b n' h;simp_all
def zjp:Up (Qg tk):=uM Wy fun _=>mU
theorem YL{f:Nat->List Nat}  : ∀(k i:Nat),Up (aN tk f m k i):=by
 intro k;induction k with
 | zero=>intro i n a n' h;cases h
 | succ k ih=>
  intro i n a n' h;unfold aN at h;split at h
  ·cases h
  ·split at h
   ·grind
   ·exact ih _ _ _ _ h
theorem IF{neg:Bool}:Up (jV tk neg):=by
 intro n b n' h;unfold jV at h;obtain⟨a,n1,e1,e2⟩:=PR.bind_ok h
 have:=Wy _ _ _ e1
 grind
theorem ze1:Up (eT tk):=by
 intro n b n' h;unfold eT at h;split at h
 ·grind
 split at h
 ·grind
 split at h
 ·exact uM zjp (fun _=>mU) _ _ _ h
 split at h
 ·obtain⟨a,n1,e1,e2⟩:=PR.bind_ok h
  have:=Wy _ _ _ e1
  cases e2
  split at this<;>omega
 split at h
 ·have:=uM IF (fun _=>mU) _ _ _ h
  omega
 split at h
 ·exact uM IF (fun _=>mU) _ _ _ h
 simp_all
def zhz (he:Up e):∀(k:Nat) (l:List lA),Up (Bi tk e k l):=by
 intro k;induction k with
 | zero=>intro l;exact mU
 | succ k ih=>intro l;exact uM Hx fun _=>uM he fun x=>ih (l++[x])
theorem zg6 (he:Up e):∀(k:Nat) (l:List lA),Up (kV tk e k l):=by
 intro k;induction k with
 | zero=>intro l;exact mU
 | succ k ih=>
  intro l n b n' h;unfold kV at h;split at h
  ·have:=uM he (fun x=>ih (l++[x])) _ _ _ h
   omega
  simp_all
def DT(ho:Up o){op:Nat}:Up (atP tk o op):=uM JZ fun _=>uM Hx fun _=>uM ho fun _=>mU
theorem zj0 (he:Up e):Up (gZ tk e):=by
 intro n b n' h;unfold gZ at h;split at h
 ·cases h
 ·rename_i f _
  have hw:Up (fun n1=>(if f.named then(kU tk n1).bind fun w n2=>(pH tk [44] n2).bind fun _ n3=>.ok w n3 else .ok [] n1:PR (List Nat))):=by
   cases f.named with
   | true=>simp_all [uM,JZ,Hx,mU]
   | false=>exact mU
  have hm:Up (fun n5=>(if f.op=19 then(pH tk [44] n5).bind fun _ n6=>aN tk lM 6 6 1 n6 else .ok 0 n5:PR Nat)):=by
   by_cases h19:f.op=19
   all_goals simp_all [uM,Hx,YL,mU]
  have:=uM Hx (fun _=>uM hw fun w=>uM he fun x=>uM (zhz he (f.least-1) [x]) fun l=>uM (zg6 he (f.most-f.least) l) fun l=>uM hm fun m=>uM Hx fun _=>mU (a:=lA.mk f.op w ⟨0,mJ,m⟩ l)) _ _ _ h
  omega
theorem zdu(ho:Up o):Up (fN tk o):=by
 have he:=zjb (tk:=tk) ho
 refine uM ze1 fun v=>?_
 cases v with
 | some v=>exact mU
 | none=>
  intro n b n' h;simp only at h
  split at h
  ·have:=uM he (fun x=>uM Hx fun _=>mU (a:=x)) _ _ _ h
   omega
  split at h
  ·grind
  split at h
  ·have:=DT ho _ _ _ h;omega
  split at h
  ·have:=DT ho _ _ _ h;omega
  split at h
  ·exact DT ho _ _ _ h
  ·exact zj0 he _ _ _ h
end
section
variable {P:dM}{tf t:Tr tA}{n d:Nat}{Q E:mB}{J:eF}{o:PM lA}{ob:iF}
def St.drop1(h:St (P.wL (ob::P.L)) tf t n d):St P tf t n d:=⟨h.ts,xB.drop (A:=[pZ P n d]) (o:=ob) h.ob,h.len,h.le,h.good,h.glob⟩
def Ok.bindL {rd1:Tr tA->α->zA->Prop}{rd:Tr tA->β->zA->Prop}{r:PR α}{f:α->Nat->PR β}{Q1:mB}(h:Ok P rd d tf (r.bind f) Q E)
  (k:∀a n1 tf1 t1 v,r=.ok a n1->zB tf tf1->St (P.wL (ob::P.L)) tf1 t1 n1 d->rd1 tf1 a v->Ok P rd d tf1 (f a n1) Q E->Q1 v t1):Ok (P.wL (ob::P.L)) rd1 d tf r Q1 E:=by
 cases r with
 | ok a n=>exact fun tf' t' v h1 h2 h3=>k a n tf' t' v rfl h1 h2 h3 (Ok.mono h h1)
 | er e i=>exact fun tf' t' n' d' h1 h2=>h tf' t' n' d' h1 h2.drop1
def Ps  (h:St P tf t n d)(hk:Ok P rdU d tf (pH P.tk w n) (fun v t'=>oA yA.base (rG yA F jC mG E) J (K v) t' Q) E) :
  oA yA.base (rG yA F jC mG E) J (.heavy (tE yA 62 1 [(0,.str w)]) fun a=>.call 95 [.ptr P.bp 0,a] K) t Q:=by
 refine eC fun b hb _=>?_
 obtain⟨tf1,t1,h1,h2,h3,h4⟩:=h.lit (k:=1) (sz:=1) (ds:=[D.str w]) (cl:=[[.str w]]) ty62 rfl gL rfl rfl (by omega) (Pq (sz:=1) (z:=[.str []]) (v:=.str w) rfl rfl) (Oc rfl) rfl (vH.2 ⟨_,_,rfl,Ag.2 rfl,cH.2 rfl⟩) hb
 refine⟨_,_,h1,wB ?_⟩
 rw[pE 95];exact OC h4 h3 (hk.mono h2)
def Xa(tk:List bC)(f:CF)(w:List Nat)(l:List lA)(m:Nat):PM lA:=fun n=>(pH tk [41] n).bind fun _ n7=>.ok (.mk f.op w ⟨0,mJ,m⟩ l) n7
def znv(tk:List bC)(f:CF)(w:List Nat)(l:List lA):PM lA:=fun n5=>(if f.op=19 then(pH tk [44] n5).bind fun _ n6=>aN tk lM 6 6 1 n6 else .ok 0 n5:PR Nat).bind fun m n6=>Xa tk f w l m n6
def znw(tk:List bC)(e:PM lA)(f:CF)(w:List Nat)(k:Nat)(l:List lA):PM lA:=fun n=>(kV tk e k l n).bind fun l n5=>znv tk f w l n5
def zgm(tk:List bC)(e:PM lA)(f:CF)(w:List Nat)(k:Nat)(l:List lA):PM lA:=fun n=>(Bi tk e k l n).bind fun l n4=>znw tk e f w (f.most-f.least) l n4
def zj1{tk:List bC}  : gZ tk e n=(zpy tk n).bind fun f n1=>(pH tk [40] n1).bind fun _ n1=>
  (if f.named then(kU tk n1).bind fun w n2=>(pH tk [44] n2).bind fun _ n3=>.ok w n3 else .ok [] n1:PR (List Nat)).bind fun w n2=>(e n2).bind fun x n3=>zgm tk e f w (f.least-1) [x] n3:=by
 unfold gZ zpy
 cases fZ.find? fun f=>acc tk f.word n with
 | none=>rfl
 | some f=>rfl
abbrev c6(f:CF)(w:List Nat)(m:Nat)(v:zA):List zA:=[.int .u8 (f.op:Int),.str w,.int .u8 0,.bool false,.nilslice,.bool false,.nilslice,.int .i64 (m:Int),v]
def zkq     (h0:lC tf a0 none [.ptr P.bp 0])(h:St (P.wL (nO l v::P.L)) tf t n d)(hk:Ok P cL d tf (Xa P.tk f w l m n) Q E):zK E 314 37 ([.ptr a0 0]++zE++c6 f w m v) t Q:=by
 refine zpd ?_
 unfold za0 jB uZ uY;unfold Xa at hk;refine yC (jX h0 h) (Ps (P:=P.wL (nO l v::P.L)) h (hk.bindL fun _ n1 tf1 t1 u hr hle hst hrd hk1=>?_))
 obtain⟨tf2,k1,k2,k3⟩:=xB.freezeL (A:=[pZ P n1 d]) (B:=P.L) hst.ob
 have hd:RD tf2 (lA.mk f.op w ⟨0,mJ,m⟩ l).d (c6 f w m v):=Kh (v:=⟨0,mJ,m⟩) xQ xQ k3
 refine mA hd.all (Ok.now (Ok.mono hk1 k1) (t:=t1) ⟨hst.ts.mono k1,k2,hst.len,hst.le,hst.good,hst.glob.mono k1⟩ ⟨_,rfl,hd⟩)
theorem tM_ok     (hop:f.op<256)(h0:lC tf a0 none [.ptr P.bp 0])(h:St (P.wL (nO l v::P.L)) tf t n d)(hk:Ok P cL d tf (znv P.tk f w l n) Q E) :
  oA yA.base (rG yA F jC mG E) (JqE yA F E 314) (.ite (lB (f.op:Int) 19)
 (.light (fun m=>cA yA 76 ⟨0,m⟩ (.ptr a0 0)) fun a10=>.heavy (tE yA 62 1 [(0,(.str [44]))]) fun a11=>
 .call 95 [a10,a11] fun a12=>
 .light (fun m=>cA yA 76 ⟨0,m⟩ (.ptr a0 0)) fun a13=>.call 201 [a13,(.int .u8 1),(.int .u8 6),(.func (.func 170) [] [])] fun a14=>
 .asI .u8 a14 fun n15=>.ite true (.jump 37 ([.ptr a0 0]++zE++[.int .u8 (f.op:Int),.str w,.int .u8 0,.bool false,.nilslice,.bool false,.nilslice,.int .i64 (fA .i64 n15),v])) .fail)
 (.jump 37 ([.ptr a0 0]++zE++c6 f w 0 v))) t Q:=by
 unfold znv at hk;by_cases h19:f.op=19
 ·rw[yab h19,PR.bind_assoc]at hk
  refine mA (by rw[h19];rfl) (yC (jX h0 h) (Ps (P:=P.wL (nO l v::P.L)) h (hk.bindL fun _ n1 tf1 t1 u hr hle hst hrd hk1=>?_)))
  refine yC (jX (lC.le h0 hle) hst) (wB ?_)
  rw[pE 201];refine zfb (P:=P.wL (nO l v::P.L)) (f:=lM) (most:=6) (fun t hg i hi=>zov hg hi) (by kernel_rfl) (by kernel_rfl) (by omega) hst (hk1.bindL fun m n2 tf2 t2 u hr2 hle2 hst2 hrd2 hk2=>?_)
  subst hrd2;refine qB (mA rfl (fC ?_))
  have hm:m<256:=by
   grind [aN]
  have hw:fA .i64 (m:Int)=(m:Int):=wrap_i64 (by omega) (by omega)
  rw[hw];exact zkq (lC.le h0 (hle.trans hle2)) hst2 hk2
 ·rw[yaa h19]at hk
  refine vB (by grind [fE]) (fC ?_)
  exact zkq h0 h hk
def AL    {f:lA->Nat->PR lA} (he:∀L,fI (P.wL L) d e 31)(h0:lC tf a0 none [.ptr P.bp 0])(hl:l.length<1000)(h:St (P.wL (nO l v::P.L)) tf t n d)(hk:Ok P cL d tf ((e n).bind f) Q E)
  (k:∀x n1 tf1 t1 v',zB tf tf1->St (P.wL (nO (l++[x]) v'::P.L)) tf1 t1 n1 d->Ok P cL d tf1 (f x n1) Q E->oA yA.base (rG yA F jC mG E) J (K v') t1 Q) :
  oA yA.base (rG yA F jC mG E) J (.light (fun m=>cA yA 76 ⟨0,m⟩ (.ptr a0 0)) fun a=>.call 31 [a] fun a6=>.asG zE a6 fun X=>.ite (same 10 v v) (.heavy (tE yA 29 1 [(0,.agg (cE X))]) fun a8=>.ite (same 10 v v) (.heavy (sH yA 29 29 v a8) fun a9=>.ite (sD zA.one [a9]) (K a9) .fail) .fail) .fail) t Q:=by
 refine yC (jX h0 h) (wB ?_)
 rw[pE 31];refine he (nO l v::P.L) _ _ _ _ _ h (hk.bindL fun x n1 tf1 t1 u hr hle hst hrd hk1=>?_)
 obtain⟨cs,rfl,hx⟩:=hrd
 have hx':=hx
 obtain⟨a,b,c,rfl,_⟩:=nI hx
 have hs:same 10 v v=true:=hst.args.same
 refine dC (agE hx) (mA hs (eC fun b hb _=>?_))
 obtain⟨t2,w,k1,k2⟩:=hst.more hx' hl hb
 refine⟨_,_,k1,mA hs (eC fun c hc hcb=>?_)⟩
 obtain⟨tf3,t3,v3,m1,m2,m3,m4⟩:=k2 c hc hcb
 exact⟨_,_,m1,mA m4 (k x n1 tf3 t3 v3 (hle.trans m2) m3 (Ok.mono hk1 m2))⟩
theorem t6_ok    (he:∀L,fI (P.wL L) d e 31)(hop:f.op<256)(hmost:f.most<900):∀(k:Nat) (l:List lA) (v:zA) (n:Nat) (tf t:Tr tA),l.length+k=f.most->lC tf a0 none [.ptr P.bp 0]->St (P.wL (nO l v::P.L)) tf t n d->Ok P cL d tf (znw P.tk e f w k l n) Q E →
  zK E 314 6 ([.ptr a0 0]++zE++f.cs++c6 f w 0 v) t Q:=by
 intro k;induction k with
 | zero=>
  intro l v n tf t hlen h0 h hk;refine zln ?_
  unfold Xe uI uU uB uG jB uZ uY uW nE;have hv:=h.args.len
  rw[ybf]at hv;exact rA hv (qB (vB (by grind [aC]) (tM_ok hop h0 h hk)))
 | succ k ih=>
  intro l v n tf t hlen h0 h hk;refine zln ?_
  unfold Xe uI uU uB uG jB uZ uY uW nE;have hv:=h.args.len
  rw[ybf]at hv;unfold znw kV at hk;refine rA hv (qB (mA (by grind [aC]) (yC (jX h0 h) (wS (P:=P.wL (nO l v::P.L)) h (fun ha t2 h2=>?_) fun ha t2 h2=>?_))))
  ·have ha:acc P.tk [44] n=true:=ha
   rw[ha,yab rfl,PR.bind_assoc]at hk;exact AL he h0 (by omega) h2 hk fun x n1 tf3 t3 v3 k1 k2 k3=>fC (ih (l++[x]) v3 n1 tf3 t3 (by grind) (lC.le h0 k1) k2 k3)
  ·have ha:acc P.tk [44] n=false:=ha
   rw[ha,yaa (by simp)]at hk
   exact tM_ok hop h0 h2 hk
theorem t2_ok    (he:∀L,fI (P.wL L) d e 31)(hop:f.op<256)(hmost:f.most<900)(hle:f.least<=f.most):∀(k:Nat) (l:List lA) (v:zA) (n:Nat) (tf t:Tr tA),l.length+k=f.least->lC tf a0 none [.ptr P.bp 0]->St (P.wL (nO l v::P.L)) tf t n d->Ok P cL d tf (zgm P.tk e f w k l n) Q E →
  zK E 314 2 ([.ptr a0 0]++zE++f.cs++c6 f w 0 v) t Q:=by
 intro k;induction k with
 | zero=>
  intro l v n tf t hlen h0 h hk;refine zlo ?_
  unfold Xf uI uG jB uZ uY nE;have hv:=h.args.len
  rw[ybf]at hv;exact rA hv (qB (vB (by grind [aC]) (fC (t6_ok he hop hmost _ l v n tf t (by omega) h0 h hk))))
 | succ k ih=>
  intro l v n tf t hlen h0 h hk;refine zlo ?_
  unfold Xf uI uG jB uZ uY nE;have hv:=h.args.len
  rw[ybf]at hv;unfold zgm Bi at hk;rw[PR.bind_assoc]at hk;refine rA hv (qB (mA (by grind [aC]) (yC (jX h0 h) (Ps (P:=P.wL (nO l v::P.L)) h (hk.bindL fun _ n1 tf1 t1 u hr hle1 hst hrd hk1=>?_)))))
  rw[PR.bind_assoc]at hk1;exact AL he (lC.le h0 hle1) (by omega) hst hk1 fun x n2 tf3 t3 v3 k1 k2 k3=>fC (ih (l++[x]) v3 n2 tf3 t3 (by grind) (lC.le h0 (hle1.trans k1)) k2 k3)
theorem zkz    (he:∀L,fI (P.wL L) d e 31)(hop:f.op<256)(hmost:f.most<900)(hle:f.least<=f.most)(h1:1<=f.least)(h0:lC tf a0 none [.ptr P.bp 0])(h:St P tf t n d)(hk:Ok P cL d tf ((e n).bind fun x n3=>zgm P.tk e f w (f.least-1) [x] n3) Q E) :
  zK E 314 19 ([.ptr a0 0]++zE++f.cs++c6 f w 0 .nilslice) t Q:=by
 refine zpe ?_
 unfold za1 uG jB uZ uY nE;have h':St (P.wL (nO [] .nilslice::P.L)) tf t n d:=⟨h.ts,xB.add (A:=[pZ P n d]) (B:=P.L) (o':=nO [] .nilslice) h.ob (fun _ _=>rfl) (fun k hk=>by simp[nP,Fh]at hk) (.inl ⟨rfl,rfl⟩) (by simp[nP,Fh]) h.ob.tle,h.len,h.le,h.good,h.glob⟩
 exact AL he h0 (by simp) h' hk fun x n1 tf1 t1 v1 k1 k2 k3=>fC (t2_ok he hop hmost hle (f.least-1) [x] v1 n1 tf1 t1 (by grind) (lC.le h0 k1) k2 k3)
def zi2:∀f∈fZ,f.op<256/\f.most<900/\f.least<=f.most/\1<=f.least:=by decide
def DN (he:∀L,fI (P.wL L) d e 31):fI P d (gZ P.tk e) 314:=fun tf t n Q E h hk=>by
 rw[zj1]at hk;refine w314 ?_
 unfold t314 uS uG uZ uY;refine eC fun a0 ha0 _=>?_
 obtain⟨tf1,t1,h1,h2,h3,h4⟩:=h.box (v:=.ptr P.bp 0) ha0
 refine⟨_,_,h1,?_⟩
 refine mA rfl (mA rfl (mA rfl (mA rfl (mA rfl (mA rfl (mA rfl (mA rfl (mA rfl (mA rfl (mA rfl (mA rfl (mA rfl (eC fun a1 ha1 hb1=>?_)))))))))))))
 obtain⟨t2,k1,tf3,t3,k2,k3,k4,k5⟩:=h3.fixed (v:=.agg Po) ty340 rfl rfl rfl ha1 hb1
 refine⟨_,_,k1,eC fun c _ _=>⟨_,_,k2 c,?_⟩⟩
 have g0:lC tf3 a0 none [.ptr P.bp 0]:=lC.le h4 k3
 refine wX (g:=319) (a:=[.ptr a1 0,.ptr a0 0]) rfl ?_
 rw[pE 319];refine zpx k5 g0 k4 ((hk.mono (h2.trans k3)).bind fun f n1 tf4 t4 u hr hle hst hrd hk1=>?_)
 obtain⟨hf,rfl⟩:=hrd
 obtain⟨f1,f2,f3,f4⟩:=zi2 f hf
 have g4:=lC.le g0 hle
 refine dC (X:=cellsOf f.cs) (zO rfl) (mA rfl (mA rfl (mA rfl (yC (jX g4 hst) (Ps hst (hk1.bind fun _ n2 tf5 t5 u2 hr2 hle2 hst2 hrd2 hk2=>?_))))))
 have g5:=lC.le g4 hle2
 cases hn:f.named with
 | true=>
  rw[hn,yab rfl,PR.bind_assoc]at hk2;refine mA hn (yC (jX g5 hst2) (wB ?_))
  rw[pE 96];refine JX hst2 (hk2.bind fun w n3 tf6 t6 u3 hr3 hle3 hst3 hrd3 hk3=>?_)
  subst hrd3;rw[PR.bind_assoc]at hk3;have g6:=lC.le g5 hle3
  refine dD (mA rfl (yC (jX g6 hst3) (Ps hst3 (hk3.bind fun _ n4 tf7 t7 u4 hr4 hle4 hst4 hrd4 hk4=>?_))))
  exact fC (zkz he f1 f2 f3 f4 (lC.le g6 hle4) hst4 hk4)
 | false=>
  rw[hn,yaa (by simp)]at hk2
  refine vB (by rw[show(cellsOf f.cs).b 2=f.named from rfl,hn];simp) (fC ?_)
  exact zkz he f1 f2 f3 f4 g5 hst2 hk2
theorem JD(hL:Ft){tk:List bC}:∀(k d:Nat),d+k=101->∀P:dM,P.tk=tk->Up (xI tk k)/\fI P d (xI tk k) 287:=by
 intro k;induction k with
 | zero=>
  intro d hd P hP;refine⟨fun n a n' h=>(by cases h),fun tf t n Q E h hk=>?_⟩
  refine w287 ?_
  unfold t287 uI sC uZ uY;exact rA nl (rA f2 (yC h.l2 (qB (mA (by grind [aC]) (wB (Ok.fail h hk))))))
 | succ k ih=>
  intro d hd P hP;have hup:Up (xI tk k):=(ih (d+1) (by omega) P hP).1
  have hi:∀L,fI (P.wL L) (d+1) (xI tk k) 287:=fun L=>(ih (d+1) (by omega) (P.wL L) hP).2
  subst hP;have hin:fI P (d+1) (fN P.tk (xI P.tk k)) 299:=zis hL (hi P.L) hup (DN fun L=>CT (hi L) hup)
  refine⟨?_,fun tf t n Q E h hk=>?_⟩
  ·exact zdu hup
  ·refine w287 ?_
   unfold t287 uI sC uZ uY;refine rA nl (rA f2 (yC h.l2 (qB (vB (by grind [aC]) (fC (j287_7 ?_))))))
   unfold zkv uI uG jB kC sC uZ uY uW lF nE;refine rA nl (rA f2 (yC h.l2 (qB (rA nl (rA f2 (eC fun b _ _=>?_))))))
   obtain⟨t1,h1,h2⟩:=h.set2 (d':=d+1)
   have e:fA .i64 ((d:Int)+1)=((d+1:Nat):Int):=by grind [wrap_i64]
   rw[e];refine⟨_,_,h1 b,wB ?_⟩
   rw[pE 299];refine hin _ _ _ _ _ h2 ?_
   have hk:Ok P cL d tf (fN P.tk (xI P.tk k) n) Q E:=hk
   revert hk
   generalize fN P.tk (xI P.tk k) n=r
   intro hk
   cases r with
   | er e i=>exact hk
   | ok x n1=>
    intro tf2 t2 v k1 k2 ⟨cs,hv,hx⟩
    subst hv;have hx':=hx
    obtain⟨a,b,c,rfl,_⟩:=nI hx
    refine dC (agE hx) (mA hx.all (rA nl (rA f2 (yC k2.l2 (qB (rA nl (rA f2 (eC fun b _ _=>?_))))))))
    obtain⟨t3,m1,m2⟩:=k2.set2 (d':=d)
    have e:fA .i64 (((d+1:Nat):Int)-1)=(d:Int):=by grind [wrap_i64]
    rw[e];exact⟨_,_,m1 b,mA hx.all (hk tf2 t3 _ k1 m2 ⟨_,rfl,hx'⟩)⟩
def zi8(hL:Ft):fI P 0 (zi9 P.tk) 31:=CT (JD hL 101 0 rfl P rfl).2 (JD hL 101 0 rfl P rfl).1
end
end
section
variable {b:Bool}{v:zA}{l:List Nat}
variable [nC]
section
variable {t:Tr tA}{Q:mB}
def qM  (h:zA.one v=true):sD zA.one [.bool b,v]=true:=by
 show(bif zA.one (.bool b)then(bif zA.one v then true else false)else false)=true
 rw[h];rfl
def iO   (h:aA t 1 (cC l) v):eK [.bool false,.nilslice] (.agg [.bool b,v])=some (cellsOf [.bool b,v]):=iW (Ek (w:=⟨b,l⟩) h) (iJ.zs _)
theorem zbu  {neg:Bool}(hv:aA t 1 (bB .u32 l) v)(hl:l.length<=500)(hlt:oB 4294967296 l)
  (hQ:∀t' u,zB t t'->aA t' 1 (cC (rC (val 4294967296 l))) u->Q (.tup [.agg [.bool (if lE l=[]then false else neg),u],.int .i64 0]) t'):Wc yA F 195 [.bool neg,v] t Q:=by
 refine w195 ?_
 unfold t195 uQ18 uG rH gH;refine wB ?_
 rw[q248];refine Wl hv (by omega) hlt fun t' u hle hu=>?_
 have hlt2:oB 65536 (lE (lH (lE l))):=zU (Vv (zU hlt))
 have hval:val 65536 (lE (lH (lE l)))=val 4294967296 l:=by rw[mS,Rk,mS]
 have e:lE (lH (lE l))=rC (val 4294967296 l):=Pc hlt2 (bV _) hval
 rw[e]at hu;have hlen:(rC (val 4294967296 l)).length<=1000:=by
  grind [Nh,Mx]
 have hul:=aA.len (l:=cC (rC (val 4294967296 l))) hu
 rw[dR]at hul;refine dC (iO hu) (mA (qM hu.one) (rA hul (qB (vB (by grind [aC]) (mA (qM hu.one) ?_)))))
 exact hQ t' u hle hu
theorem Zw{s:List Nat}(hs:∀b∈s,nD b=true)(h0:s≠[])(hp:oO s=false)(hl:s.length<=200)(hQ:∀t' u,zB t t'->aA t' 1 (cC (rC (wE s))) u->Q (.tup [.agg [.bool false,u],.int .i64 0]) t'):Wc yA F 140 [.str s] t Q:=by
 have dig:∀b∈s,48<=b/\b<=57:=fun b hb=>by grind [nD]
 have hlen:0<s.length:=List.length_pos_iff.2 h0
 obtain⟨x,hx⟩:∃x,s[0]?=some x:=⟨s[0],ybd hlen⟩
 have hxd:=dig x (ycv hx)
 have hx0:=tN hx
 rw[show((0:Nat):Int)=0 from rfl]at hx0
 have ll:∀s:List Nat,(Int.ofNat (yB s))=(s.length:Int):=fun s=>by rw[kD];rfl
 have words:∀(n:Nat) (r w:List Nat) (v:zA) (t1:Tr tA),r.length<=n->(∀b∈r,nD b=true)->r.length<=200->w.length+r.length<=300->zB t t1->aA t1 1 (bB .u32 w) v->oB 4294967296 w->val 4294967296 w*10^r.length+wE r=wE s →
   jp 140 6 [.str r,.bool false,v,.bool false,.nilslice] t1 Q:=by
  intro n;induction n with
  | zero=>
   intro r w v t1 hr hd hr2 hw hle hv hlt hval;have:r=[]:=ycc.1 (by omega)
   subst this;refine zma ?_
   unfold Yg uI uG rH gH;rw[ll];refine vB (by simp[aC]) (wB ?_)
   rw[q195];refine zbu hv (by omega) hlt fun t2 u k1 k2=>?_
   have:(if lE w=[]then false else false)=false:=by split<;>rfl
   rw[this];have hval:val 4294967296 w=wE s:=by grind [wE]
   rw[hval]at k2;exact rA rfl (dC (iO k2) (rA rfl (qB (mA (qM k2.one) (hQ t2 u (hle.trans k1) k2)))))
  | succ n ih=>
   intro r w v t1 hr hd hr2 hw hle hv hlt hval;by_cases hz:r.length=0
   ·grind
   refine zma ?_
   unfold Yg uI uG rH gH;have hc:(bif fB (Int.ofNat (yB r)) 9 then(Int.ofNat (yB r))else 9)=((min 9 r.length:Nat):Int):=by
    grind [aC]
   rw[hc,ll];refine mA (by grind [aC]) (fC ?_)
   have hcl:min 9 r.length<=r.length:=Nat.min_le_right _ _
   generalize hcd:min 9 r.length=c at *
   have hc9:c<=9:=by omega
   have hpc:∀i,i<=c->10^i<=1000000000:=fun i hi=>by
    have:10^i<=10^9:=yao (by omega) (by omega)
    omega
   have hdt:∀i,wE (r.take i)<10^i\/r.length<i:=fun i=>by
    grind [Ld,List.length_take]
   have inner:∀(k i:Nat),i+k=c->jp 140 10 [.str r,.bool false,v,.int .i64 (c:Int),.int .u32 ((10^i:Nat):Int),.int .u32 ((wE (r.take i):Nat):Int),.int .i64 (c:Int),.int .i64 (i:Int),.bool false,.nilslice] t1 Q:=by
    intro k;induction k with
    | zero=>
     intro i hi;have hi:i=c:=by omega
     subst hi;refine zdq ?_
     unfold Yi;refine vB (by simp[aC]) (wB ?_)
     rw[q194];have hp1:=hpc i (ybk _)
     have hp2:wE (r.take i)<10^i:=(hdt i).resolve_right (by omega)
     refine zgi hv (by omega) hlt (by omega) (by omega) fun t2 w2 v2 k1 k2 k3 k4 k5 k6=>?_
     refine rA (Jn (by omega)) (dD (fC ?_))
     refine ih (r.drop i) w2 v2 t2 (by grind) (fun b hb=>hd b (List.mem_of_mem_drop hb)) (by grind) (by grind) (hle.trans k1) k2 k3 ?_
     grind [DF,List.take_append_drop]
    | succ k ih2=>
     intro i hi;have hri:r[i]?=some r[i]:=ybd (by omega)
     have hrd:48<=r[i]/\r[i]<=57:=by have:=hd r[i] (ycj _);unfold nD at this;simpa using this
     refine zdq ?_
     unfold Yi uU;have hp1:=hpc (i+1) (by omega)
     have hp2:wE (r.take (i+1))<10^(i+1):=(hdt (i+1)).resolve_right (by omega)
     rw[fQ hri,Uz]at hp2;refine mA (by grind [aC]) (rA (tN hri) (qB (fC ?_)))
     rw[yag]at hp1 hp2;have e1:fA .u32 (((10^i:Nat):Int)*10)=((10^(i+1):Nat):Int):=by rw[qV (by omega) (by omega),yag];omega
     have e2:fA .u32 (fA .u32 (((wE (r.take i):Nat):Int)*10)+fA .u32 (fA .u8 ((r[i]:Int)-48)))=((wE (r.take (i+1)):Nat):Int):=by
      rw[Iw (by omega) (by omega),qV (n:=((wE (r.take i):Nat):Int)*10) (by omega) (by omega),qV (n:=(r[i]:Int)-48) (by omega) (by omega),qV (by omega) (by omega),fQ hri,Uz]
      omega
     have e3:kC (i:Int)=.int .i64 ((i+1:Nat):Int):=by
      show zA.int .i64 (fA .i64 ((i:Int)+1))=_
      rw[wrap_i64 (by omega) (by omega)];rfl
     grind
   exact inner c 0 (by omega)
 have check:∀(k i:Nat),i+k=s.length->jp 140 2 [.str s,.bool false,.int .i64 (s.length:Int),.int .i64 (i:Int),.bool false,.nilslice] t Q:=by
  intro k;induction k with
  | zero=>
   intro i hi;refine zmb ?_
   unfold Yh uQ5 uQ18;rw[ll];refine vB (by grind [aC]) (vB (by grind [aC]) (fC ?_))
   exact words s.length s [] .nilslice t (ybk _) hs hl (by grind) (zB.refl _) xQ (fun x hx=>by cases hx) (by simp[val])
  | succ k ih=>
   intro i hi;have hsi:s[i]?=some s[i]:=ybd (by omega)
   have hsd:=dig s[i] (ycj _)
   refine zmb ?_
   unfold Yh uQ5 uQ18 uU;have e3:kC (i:Int)=.int .i64 ((i+1:Nat):Int):=by
    grind [wrap_i64]
   refine mA (by grind [aC]) (rA (tN hsi) (qB (vB (by grind [aC]) (rA (tN hsi) (qB (vB (by grind [aC]) (fC ?_)))))))
   rw[e3];exact ih (i+1) (by omega)
 refine w140 ?_
 unfold t140 uU;rw[ll];refine mA (by grind [aC]) (rA hx0 (qB (vB (by grind [fE]) (fC ?_))))
 have e45:lB (x:Int) 45=false:=by grind [fE]
 rw[e45];refine zpp ?_
 unfold zbc uQ5 uU;rw[ll];refine vB (by grind [fE]) (rA hx0 (qB ?_))
 by_cases h48:x=48
 ·have hl1:s.length=1:=by
   unfold oO at hp;have:s.head?=some 48:=by
    cases s with
    | nil=>cases hx
    | cons a r=>simp_all
   grind
  refine mA (by grind [fE]) (vB (by simp) (vB (by grind [aC]) (fC ?_)))
  exact check s.length 0 (by omega)
 ·refine vB (by grind [fE]) (fC ?_)
  exact check s.length 0 (by omega)
end
end
section
variable {a b:Nat}{u v:zA}{l:List Nat}
variable [nC]
theorem Jc{n:Nat}(h:(rC n).length<=1024):rK false (rC n)=true:=by
 unfold rK;split
 ·rfl
 ·rename_i hne
  have hn:=Oh n hne
  grind
def el22:Iu yA 22 261 1:=⟨⟨_,ty22,rfl,rfl⟩,⟨_,Dm,rfl,rfl,by decide,by decide⟩,fun y h=>by rw[Dm]at h;cases h;rfl⟩
section
variable {t:Tr tA}{Q:mB}
theorem sameA{b:Bool}  (h:aA t 1 (cC l) v):same 10 (.agg [.bool b,v]) (.agg [.bool b,v])=true:=by
 have h1:=aA.same (d:=9) h
 have h2:same 9 (.bool b) (.bool b)=true:=HH
 show(same 9 (.bool b) (.bool b)&&(same 9 v v&&true))=true
 simp_all
def EW  (hv:aA t 1 (bB .u32 l) v)(hl:l.length<400000)(hlt:oB 4294967296 l)(hQ:∀t' u,zB t t'->aA t' 1 (cC (rC (val 4294967296 l))) u->Q (.agg [.bool false,u]) t'):Wc yA F 248 [.bool false,v] t Q:=by
 refine Wl hv hl hlt fun t' u hle hu=>?_
 have hlt2:oB 65536 (lE (lH (lE l))):=zU (Vv (zU hlt))
 have hval:val 65536 (lE (lH (lE l)))=val 4294967296 l:=by rw[mS,Rk,mS]
 rw[Pc hlt2 (bV _) hval]at hu
 have:(if lE l=[]then false else false)=false:=by split<;>rfl
 rw[this];exact hQ t' u hle hu
theorem zep  (hu:aA t 1 (cC (rC a)) u)(hv:aA t 1 (cC (rC b)) v)(ha:(rC a).length<=1000)(hb:(rC b).length<=1000)(hb0:0<b)
  (hQ:∀t' q r,zB t t'->aA t' 1 (cC (rC (a / b))) q->aA t' 1 (cC (rC (a%b))) r->Q (.tup [.agg [.bool false,q],.agg [.bool false,r],.int .i64 0]) t'):Wc yA F 277 [.agg [.bool false,u],.agg [.bool false,v]] t Q:=by
 have hBB:=aO
 refine w277 ?_
 unfold t277 uI uB;refine eC fun bb hbb hbase=>?_
 obtain⟨t1,g1,g2,g3,g4⟩:=Ou (C:=yA) (T:=323) (el:=24) (sz:=2) (n:=2) (cl:=[[.bool false,u],[.bool false,v]]) (ps:=[(0,.agg [.bool false,u]),(1,.agg [.bool false,v])]) znm rfl ty24 rfl rfl (by decide) rfl (fun i cs hi=>by
  match i,hi with
  | 0,hi=>grind
  | 1,hi=>grind) rfl hbb
 refine⟨_,_,g1,wB ?_⟩
 have hw:aA t1 2 ([(⟨false,rC a⟩:iJ),⟨false,rC b⟩].map iJ.d) (.slice bb 0 2 2):=⟨_,g2,vH.2 ⟨_,_,rfl,Ek (w:=⟨false,rC a⟩) (hu.mono g3),vH.2 ⟨_,_,rfl,Ek (w:=⟨false,rC b⟩) (hv.mono g3),cH.2 rfl⟩⟩⟩
 have hall:=QR hw (fun w hw=>by
  grind) (by simp)
 have hva:=Jc (n:=a) (by omega)
 have hvb:=Jc (n:=b) (by omega)
 rw[q288,hall,uA];refine iD (vB (by simp_all) ?_)
 have hvl:=aA.len (l:=cC (rC b)) hv
 rw[dR]at hvl;have hbne:rC b≠[]:=fun e=>by grind [Hj]
 have hbl:0<(rC b).length:=List.length_pos_iff.2 hbne
 refine rA hvl (qB (vB (by grind [fE]) (wB ?_)))
 rw[q235];refine Ny (hv.mono g3) (by omega) (jY b) fun t2 v2 k1 k2=>wB ?_
 rw[q235];refine Ny ((hu.mono g3).mono k1) (by omega) (jY a) fun t3 v3 m1 m2=>wB ?_
 rw[q295];have an:=Io (jY a)
 have ab:=Io (jY b)
 have vn:∀n,val BB (tG (rC n))=n:=fun n=>by rw[hBB,Rl,Dk]
 refine DB m2 (k2.mono m1) (by rw[dQ];omega) (by simp_all) (by simp_all) (Ke (Oh a)) (Ke (Oh b)) (fun e=>?_) fun t4 q r qv rv p1 p2 p3 p4 p5 p6 p7 p8 p9=>?_
 ·have:=vn b
  rw[e]at this;have:(0:Nat)=b:=this
  omega
 rw[vn,vn]at p8;rw[vn]at p9;have hq:val BB q=a / b/\val BB r=a%b:=by
  grind [Nat.mul_add_div,Nat.div_eq_of_lt,Nat.mul_add_mod,Nat.mod_eq_of_lt]
 have hB1:1<BB:=by omega
 have lenq:q.length<=1000:=by
  have h1:val BB q<=val BB (tG (rC a)):=by rw[vn,hq.1];exact Nat.div_le_self _ _
  have:=zT hB1 (by grind) p6 h1
  grind [dQ]
 have lenr:r.length<=1000:=by
  have h1:val BB r<=val BB (tG (rC b)):=by grind
  have:=zT hB1 (by grind) p7 h1
  grind [dQ]
 refine rA rfl (rA rfl (vB (by decide) (fC ?_)))
 refine zpj ?_
 unfold za6 uG rH gH;refine wB ?_
 rw[q248];show Wc yA F 248 [.bool false,qv] t4 _
 refine EW p2 (by omega) (by simp_all) fun t5 u5 s1 s2=>?_
 rw[<- hBB,hq.1]at s2;refine dC (iO s2) (mA rfl (wB ?_))
 rw[q248];refine EW (p3.mono s1) (by omega) (by grind) fun t6 u6 s3 s4=>?_
 rw[<- hBB,hq.2]at s4;refine dC (iO s4) (mA (qM s2.one) (mA (qM s4.one) ?_))
 exact hQ t6 u5 u6 (g3.trans (k1.trans (m1.trans (p1.trans (s1.trans s3))))) (s2.mono s3) s4
def zmp  (hu:aA t 1 (cC (rC a)) u)(hv:aA t 1 (cC (rC b)) v)(ha:(rC a).length<=1000)(hb:(rC b).length<=1000)(hb0:0<b)
  (hQ:∀t' q r,zB t t'->aA t' 1 (cC (rC (a / b))) q->aA t' 1 (cC (rC (a%b))) r->Q (.tup [.agg [.bool false,q],.agg [.bool false,r]]) t'):Wc yA F 249 [.agg [.bool false,u],.agg [.bool false,v]] t Q:=by
 refine w249 ?_
 unfold t249 uI uG rH gH;refine wB ?_
 rw[q277];refine zep hu hv ha hb hb0 fun t' q r h1 h2 h3=>?_
 refine rA rfl (dC (iO h2) (rA rfl (dC (iO h3) (rA rfl (qB (mA (qM h2.one) (mA (qM h3.one) (mA (qM h2.one) (mA (sameA h3) (mA (qM h3.one) ?_))))))))))
 exact hQ t' q r h1 h2 h3
def agF{f:zF} (hu:aA t 1 (cC f.n.limbs) u)(hv:aA t 1 (cC f.d.limbs) v):eK [.bool false,.nilslice,.bool false,.nilslice] (.agg [.bool f.n.neg,u,.bool f.d.neg,v])=some (cellsOf [.bool f.n.neg,u,.bool f.d.neg,v]):=iW (Kg hu hv) (zF.zs _)
theorem Pd (h:a<=b):(rC a).length<=(rC b).length:=
 zT (B:=65536) (by omega) (jY b) (Oh a) (by grind [Dk])
theorem zow  (hu:aA t 1 (cC (rC a)) u)(hv:aA t 1 (cC (rC b)) v)(ha:(rC a).length<=200)(hb:(rC b).length<=200)(hb0:0<b)
  (hQ:∀t' cs,zB t t'->RD t' (gM false a b).dd cs->Q (.tup [.agg cs,.int .i64 0]) t'):Wc yA F 141 [.agg [.bool false,u],.agg [.bool false,v]] t Q:=by
 have hva:=Jc (n:=a) (by omega)
 have hvb:=Jc (n:=b) (by omega)
 have hvl:=aA.len (l:=cC (rC b)) hv
 rw[dR]at hvl;have hbne:rC b≠[]:=fun e=>by grind [Hj]
 have hbl:0<(rC b).length:=List.length_pos_iff.2 hbne
 refine w141 ?_
 unfold t141 uQ10 uI uB uG uM2 uA2;refine wB ?_
 rw[q196,Gg (by omega) hu,uA,hva]
 refine iD (vB (by simp) (wB ?_))
 rw[q196,Gg (by omega) hv,uA,hvb]
 refine iD (vB (by simp) (rA hvl (qB (vB (by grind [fE]) (wB ?_)))))
 rw[q197];refine w197 ?_
 unfold t197 rH;refine vB (by simp) (fC (j197_7 ?_))
 unfold zk0 uG rH gH;refine wB ?_
 rw[q234];refine w234 ?_
 unfold t234 uI uG rH gH;refine wB ?_
 rw[q267];refine zml (n:=⟨false,rC a⟩) (d:=⟨false,rC b⟩) hu hv (by grind) (by grind) (jY a) (jY b) hva hvb fun t1 g gv h1 h2 h3 h4 h5=>?_
 have h5:val 65536 g=Nat.gcd a b:=by rw[h5,Dk,Dk]
 have hg:=Pc h3 h4 h5
 subst hg;have hgb:Nat.gcd a b<=b:=Nat.gcd_le_right _ hb0
 have hgl:=Pd hgb
 have hg0:0<Nat.gcd a b:=Nat.gcd_pos_of_pos_right _ hb0
 refine rA rfl (dC (iO h2) (rA rfl (qB (mA (qM h2.one) (mA (qM h2.one) ?_)))))
 refine dC (iO h2) (mA (qM h2.one) (wB ?_))
 rw[q249];refine zmp (hu.mono h1) h2 (by omega) (by omega) hg0 fun t2 q r k1 k2 k3=>?_
 refine rA rfl (dC (iO k2) (rA rfl (dC (iO k3) (mA (qM k2.one) (wB ?_)))))
 rw[q249];refine zmp ((hv.mono h1).mono k1) (h2.mono k1) (by omega) (by omega) hg0 fun t3 q2 r2 m1 m2 m3=>?_
 have kq:=k2.mono m1
 have hf:=Kg (f:=⟨⟨false,rC (a / Nat.gcd a b)⟩,⟨false,rC (b / Nat.gcd a b)⟩⟩) kq m2
 refine rA rfl (dC (iO m2) (rA rfl (dC (iO m3) (mA (qM m2.one) (mA rfl (mA rfl (mA hf.all ?_)))))))
 refine dC (agF (f:=⟨⟨false,rC (a / Nat.gcd a b)⟩,⟨false,rC (b / Nat.gcd a b)⟩⟩) kq m2) (wB ?_)
 have ql:=aA.len (l:=cC (rC (a / Nat.gcd a b))) kq
 rw[dR]at ql;have ql2:=aA.len (l:=cC (rC (b / Nat.gcd a b))) m2
 rw[dR]at ql2;have la:=Pd (Nat.div_le_self a (Nat.gcd a b))
 have lb:=Pd (Nat.div_le_self b (Nat.gcd a b))
 have long:kB yA F 232 [.agg [.bool false,q,.bool false,q2]] t3=some (.bool false):=by
  refine iC.2 (w232 ?_)
  unfold t232 uI yI;refine rA ql (qB (vB (by grind [aC]) (rA ql2 (qB ⟨?_,rfl⟩))))
  rw[aC,decide_eq_false (by omega)]
 have res:kB yA F 198 [.agg [.bool false,q,.bool false,q2]] t3=some (.tup [.agg [.bool false,q,.bool false,q2],.int .i64 0]):=by
  refine iC.2 (w198 ?_)
  unfold t198 uB;refine wB ?_
  rw[q232,long,uA];exact iD (vB (by simp) (mA hf.all ⟨rfl,rfl⟩))
 rw[q198];show oD (kB yA F 198 [.agg [.bool false,q,.bool false,q2]] t3) _
 rw[res,uA];refine rA rfl (dC (agF (f:=⟨⟨false,rC (a / Nat.gcd a b)⟩,⟨false,rC (b / Nat.gcd a b)⟩⟩) kq m2) (rA rfl (qB (mA hf.all ?_))))
 refine hQ t3 _ (h1.trans (k1.trans m1)) ?_
 unfold gM;exact hf
theorem PG  (hv:aA t 1 (cC l) v)(hl:l.length<1000000)(hQ:∀t' v',zB t t'->aA t' 1 (cC l) v'->Q v' t'):Wc yA F 250 [v] t Q:=by
 refine w250 ?_
 have e:(Cu .eql).f yA 22 (.tmp 3) (.const (.slice none 0 0)) v .nilslice=some (.bool (Nat.beq v.tag 5)):=by
  obtain⟨cl,h1,_⟩:=hv
  rcases h1 with⟨rfl,_⟩ | ⟨b,off,cap,rfl,_⟩
  ·kernel_rfl
  ·kernel_rfl
 simp only[uB,t250,oA,e,uA,Fk];split
 ·grind [xX,gC,zB.refl]
 ·intro b hb hbase
  obtain⟨H1,g1,⟨c,g2⟩,g3⟩:=lit0 (t:=t) ty22 rfl Dm rfl hb
  rw[g1];simp only[uA];intro n hn _;obtain⟨u,H',g4,g5,g6,_⟩:=QO el22 (hv.mono g3) (by grind [dR]) hn (.inr ⟨b,c,0,rfl,g2⟩)
  rw[g4];simp only[uA];exact hQ _ _ (g3.trans g6) g5
theorem AA {neg:Bool} (hv:aA t 1 (cC l) v)(hl:l.length<1000000)(hQ:∀t' v',zB t t'->aA t' 1 (cC l) v'->Q (.agg [.bool (!neg&&decide (0<l.length)),v']) t'):Wc yA F 199 [.agg [.bool neg,v]] t Q:=by
 have hvl:=aA.len (l:=cC l) hv
 rw[dR]at hvl;refine w199 ?_
 unfold t199 uI
 cases neg with
 | false=>
  refine mA rfl (rA hvl (qB (wB ?_)))
  rw[q250];refine PG hv hl fun t1 v1 h1 h2=>?_
  have e:fB 0 (l.length:Int)=decide (0<l.length):=by grind [aC]
  rw[e];have hs:same 10 (.int .i64 (l.length:Int)) (uZ (l.length:Int))=true:=by
   grind [Jp]
  refine mA hv.same (rA hvl (mA hs (mA (qM h2.one) (mA (qM h2.one) ?_))))
  have:=hQ t1 v1 h1 h2
  rw[ycl,ycn]at this;exact this
 | true=>
  refine vB (by simp) (wB ?_)
  rw[q250];refine PG hv hl fun t1 v1 h1 h2=>?_
  refine mA (qM h2.one) (mA (qM h2.one) ?_)
  exact hQ t1 v1 h1 h2
theorem neg_ok {cs:List zA}(hd:RD t (gM false a b).dd cs)(ha:(rC a).length<=200)(hb:(rC b).length<=200)(hb0:0<b)
  (hQ:∀t' cs,zB t t'->RD t' (gM true a b).dd cs->Q (.tup [.agg cs,.int .i64 0]) t'):Wc yA F 142 [.agg cs] t Q:=by
 have hg0:0<Nat.gcd a b:=Nat.gcd_pos_of_pos_right _ hb0
 have la:=Pd (Nat.div_le_self a (Nat.gcd a b))
 have lb:=Pd (Nat.div_le_self b (Nat.gcd a b))
 obtain⟨u,v,rfl,hu,hv⟩:=rd_frac hd
 have hu:aA t 1 (cC (rC (a / Nat.gcd a b))) u:=hu
 have hv:aA t 1 (cC (rC (b / Nat.gcd a b))) v:=hv
 have hd0:0<b / Nat.gcd a b:=Nat.div_pos (Nat.gcd_le_right _ hb0) hg0
 have hvalid:bM (gM false a b)=true:=by
  grind [bM,gM,Jc,Dk,Nat.gcd_div,Nat.gcd_dvd_left,Nat.gcd_dvd_right,Nat.div_self,Hj]
 have hfit:zF.fit (gM false a b):=⟨⟨by show(rC _).length<_;grind [fG],by show(rC _).length<_;grind [fG]⟩,jY _,jY _⟩
 refine w142 ?_
 unfold t142 uQ10 uB uG gH;refine wB ?_
 rw[q130];have:=Wi (f:=gM false a b) hu hv hfit
 show oD (kB yA F 130 [.agg [.bool (gM false a b).n.neg,u,.bool (gM false a b).d.neg,v]] t) _
 rw[this,uA,hvalid];refine iD (vB (by simp) (wB ?_))
 rw[q199];refine AA (neg:=false) hu (by omega) fun t1 u1 h1 h2=>?_
 have hv1:=hv.mono h1
 refine dC (iO h2) (mA (sameA hv1) (wB ?_))
 rw[q199];refine AA (neg:=false) hv1 (by omega) fun t2 v2 k1 k2=>?_
 refine dC (iO k2) (wB ?_)
 rw[q199];refine AA (neg:=(!false&&decide (0<(rC (b / Nat.gcd a b)).length))) k2 (by omega) fun t3 v3 m1 m2=>?_
 refine dC (iO m2) (mA rfl ?_)
 have hne:0<(rC (b / Nat.gcd a b)).length:=List.length_pos_iff.2 fun e=>by grind [Hj]
 have hn:(gM true a b).n=⟨!false&&decide (0<(rC (a / Nat.gcd a b)).length),rC (a / Nat.gcd a b)⟩:=by
  grind [gM,Hj,Nat.div_pos,Nat.gcd_le_left,List.length_pos_iff]
 have hdd:(gM true a b).d=⟨!(!false&&decide (0<(rC (b / Nat.gcd a b)).length))&&decide (0<(rC (b / Nat.gcd a b)).length),rC (b / Nat.gcd a b)⟩:=by
  grind [gM]
 have hf:=Kg (f:=⟨⟨!false&&decide (0<(rC (a / Nat.gcd a b)).length),rC (a / Nat.gcd a b)⟩,⟨!(!false&&decide (0<(rC (b / Nat.gcd a b)).length))&&decide (0<(rC (b / Nat.gcd a b)).length),rC (b / Nat.gcd a b)⟩⟩) ((h2.mono k1).mono m1) m2
 refine mA hf.all ?_
 refine hQ t3 _ (h1.trans (k1.trans m1)) ?_
 have:gM true a b=⟨(gM true a b).n,(gM true a b).d⟩:=rfl
 rw[this,hn,hdd];exact hf
end
end
section
variable {l s:List Nat}{v y:zA}{box x:Nat}{Q:mB}{I:Nat->Tr tA->Prop}{neg:Bool}
variable [nC]
section
variable {t tf:Tr tA}
theorem XT      (hl:l.length<1000000)
  (hr:∀k t,I k t->cA yA 22 ⟨0,t⟩ (.ptr box 0)=some v/\aA t 1 (bB .u16 l) v)
  (hy:∀k x t,l[k]?=some x->I (k+1) t->∀R:mB,(∀t',I k t'->R (.bool true) t')->oD (mL y [.int .u16 (x:Nat)]) fun p=>Wq yA F jC p.1 p.2 t R)
  (hQ:∀t,I 0 t->Q (.tup []) t):∀(k:Nat) (t:Tr tA),k<=l.length->I k t->jp 278 2 [y,.ptr box 0,.int .i64 ((k:Int)-1)] t Q:=by
 intro k;induction k with
 | zero=>
  intro t _ h;refine zlx ?_
  simp only[uH,uB,uZ,uW,Xq,oA,kI];simp_all
 | succ k ih=>
  intro t hk h;obtain⟨g0,hv⟩:=hr _ _ h
  obtain⟨x,hx⟩:=getElem?_of_lt (l:=l) (i:=k) (by omega)
  obtain⟨c,off,g1,g2⟩:=hv.idx Au hx
  have e1:((k+1:Nat):Int)-1=(k:Int):=by omega
  rw[e1];refine zlx ?_
  simp (disch:=omega) only[uH,uB,uZ,uW,Xq,oA,kI,g0,g1,g2,uA,aB,wrap_i64]
  rw[yab (by omega)]
  refine hy k x t hx h _ fun t' ht'=>?_
  grind [zA.asBool,uA]
def zen     {t:Tr tA} (hl:l.length<1000000)
  (hr:∀k t,I k t->cA yA 22 ⟨0,t⟩ (.ptr box 0)=some v/\aA t 1 (bB .u16 l) v)
  (hy:∀k x t,l[k]?=some x->I (k+1) t->∀R:mB,(∀t',I k t'->R (.bool true) t')->oD (mL y [.int .u16 (x:Nat)]) fun p=>Wq yA F jC p.1 p.2 t R)
  (hQ:∀t,I 0 t->Q (.tup []) t) (h:I l.length t):Wc yA F 278 [y,.ptr box 0] t Q:=by
 obtain⟨g0,hv⟩:=hr _ _ h
 refine w278 ?_
 simp (disch:=omega) only[uI,uZ,uW,t278,oA,g0,hv.len,vG,uA,aB,wrap_i64]
 exact XT hl hr hy hQ l.length t (ybk _) h
theorem UQ{f i:Nat}{v8 v4:zA}{K R:T}{ps:List Nat} {S:Nat->Tr tA->Tr tA->Prop}(hS:∀k,Vz (S k))(hp:aA tf 1 (bB .u16 ps) v4)(hl:ps.length<30000)(h:S ps.length tf t)
  (body:∀(k x:Nat) (tf t:Tr tA) (Q1:mB),ps[k]?=some x->S (k+1) tf t->(∀t',S k tf t'->Q1 (.bool true) t')->Jq yA F f i [v8,.int .u16 (x:Int)] t Q1)
  (jH:∀tf' t',zB tf tf'->S 0 tf' t'->oA yA.base (Wq yA F jC) (Jq yA F f) K t' Q) :
  oA yA.base (Wq yA F jC) (Jq yA F f) (.call 251 [v4] fun a0=>.range (bQ yA) a0 i 1 [v8] K R) t Q:=by
 simp only[oA];rw[q251];refine w251 ?_
 simp only[t251,oA];intro bb hbb hbase;have hc4:v4.cells=[v4]:=by
  obtain⟨cl,h1,_⟩:=hp
  rcases h1 with⟨rfl,_⟩ | ⟨_,_,_,rfl,_⟩<;>rfl
 have hone:jL v4 ⟨bb,t⟩=some (.ptr bb 0,⟨bb+1,t.set bb (.cells (Tr.ofList [v4]) 1 none)⟩):=by
  unfold jL;rw[hc4];rfl
 rw[hone,uA];simp only[];have h1:=(hS _).both h hbb (.cells (Tr.ofList [v4]) 1 none)
 have hfb:=Kf ((hS _).le h) hbb
 have htf1:zB tf (tf.set bb (.cells (Tr.ofList [v4]) 1 none)):=(rP hfb _).1
 generalize htf:tf.set bb (.cells (Tr.ofList [v4]) 1 none)=tf1 at h1 htf1
 have hg1:tf1.get bb=some (.cells (Tr.ofList [v4]) 1 none):=by rw[<- htf,Tr.get_set,yab rfl]
 generalize t.set bb (.cells (Tr.ofList [v4]) 1 none)=t1 at h1
 refine⟨Nat.le_add_right _ _,fun l r hl0 hlb hr1 hr2 hy=>?_⟩
 have hra:Eb (bQ yA) (.func (.func 278) [] [.ptr bb 0]) l=some (278,[.func (.yld l) [] [],.ptr bb 0]):=by
  unfold Eb;simp only[zA.asFunc,pA];have:bQ yA 278=true:=by kernel_rfl
  rw[this];rfl
 rw[hra,uA];have h2:=(hS _).both h1 hl0 (.loop r)
 have hfl:=Kf ((hS _).le h1) hl0
 have hlr:kP true r=r:=by
  obtain⟨a,b,c,d,e,f,g,h,i⟩:=r
  have hr1:a=.ready:=hr1
  have hr2:b=none:=hr2
  subst hr1;subst hr2;rfl
 have hle2:zB tf1 (tf1.set l (.loop r)):=(rP hfl _).1
 rw[show Wq yA F jC 278=Wc yA F 278 by funext a m R;rw[q278]]
 refine zen (l:=ps) (v:=v4) (I:=fun k t'=>S k (tf1.set l (.loop r)) t') (by omega) ?_ ?_ ?_ h2
 ·intro k t' hI
  have hle:=(hS _).le hI
  have hg:t'.get bb=some (.cells (Tr.ofList [v4]) 1 none):=hle _ _ (hle2 _ _ hg1)
  refine⟨?_,hp.mono (htf1.trans (hle2.trans hle))⟩
  exact(lC.load1 (cs:=[v4]) (lo:=none) ⟨Tr.ofList [v4],hg,fun j a hj=>by grind [Tr.get_ofList]⟩ ty22 rfl (j:=0) rfl)
 ·intro k x t' hx hI R hR
  show oD (some (yo+l,[zA.int .u16 (x:Int)])) _
  rw[uA];refine hy [.int .u16 (x:Int)] t' R rfl ((hS _).le hI _ _ (by rw[Tr.get_set,yab rfl])) ?_
  refine body k x tf1 _ _ hx ((hS _).out hfl hI) fun t2 h3 hn2=>⟨true,rfl,?_⟩
  rw[hlr];exact hR _ ((hS _).both h3 hn2 (.loop r))
 ·intro t' hI
  exact .inl ⟨(hS _).le hI _ _ (by rw[Tr.get_set,yab rfl]),jH tf1 _ htf1 ((hS _).out hfl hI)⟩
def or16{y:Nat}(hx:x<281474976710656)(hy:y<65536):jI Nat.lor .u64 ((x*65536:Nat):Int) (y:Int)=some (.int .u64 ((x*65536+y:Nat):Int)):=by
 have h:=Gp (a:=x) (b:=y) (n:=16) hy
 have e:(2:Nat)^16=65536:=by decide
 rw[e]at h;rw[rW (k:=.u64) (show x*65536<gG .u64 by show _<18446744073709551616;omega) (show y<gG .u64 by show _<18446744073709551616;omega),h]
def ziq{bx y:Nat}{Q1:mB}(h:cW bx (.int .u64 (y:Int)) tf t)(hy:y<281474976710656)(hx:x<65536)(hQ:∀t',cW bx (.int .u64 ((y*65536+x:Nat):Int)) tf t'->Q1 (.bool true) t'):jp 200 2 [.ptr bx 0,.int .u16 (x:Int)] t Q1:=by
 obtain⟨i1,i2,i3,i4⟩:=h
 have e5:(y:Int)*65536=((y*65536:Nat):Int):=by omega
 have e6:jI Nat.lor .u64 (fA .u64 ((y:Int)*65536)) (fA .u64 (x:Int))=some (.int .u64 ((y*65536+x:Nat):Int)):=by
  rw[e5,fF (by omega) (by omega),fF (by omega) (by omega),or16 hy hx]
 refine j200_2 ?_
 unfold zky uE;refine yC (i4.load1 gQ rfl (j:=0) rfl) (qB ?_)
 refine rA e6 (qB (eC fun b3 _ _=>?_))
 obtain⟨t3,k1,k2,k3⟩:=i4.store1 (v:=.int .u64 ((y*65536+x:Nat):Int)) i1 gQ rfl rfl rfl (j:=0) (by simp)
 exact⟨_,_,k1 b3,hQ _ ⟨i1,i2,i3.off i2 k3,k2⟩⟩
theorem int128{n:Nat} (hv:aA t 1 (cC (rC n)) v)(hl:(rC n).length<=1000):kB yA F 200 [.agg [.bool false,v]] t=some (.tup [.int .i64 (if n<9223372036854775808 then(n:Int)else 0),.int .i64 (if n<9223372036854775808 then 0 else 3)]):=by
 have hvl:=aA.len (l:=cC (rC n)) hv
 rw[dR]at hvl;have hlt:=jY n
 have hval:=Dk n
 refine iV (w200 ?_)
 unfold t200 uI uB;refine wB ?_
 rw[q196,Gg (by omega) hv,uA,Jc (by omega)]
 refine iD (vB (by simp) (rA hvl (qB ?_)))
 by_cases h4:4<(rC n).length
 ·have hbig:¬ n<9223372036854775808:=fun h=>by
   have:=zdl (n:=n) (k:=4) (by omega)
   omega
  refine mA (by grind [aC]) ⟨?_,zB.refl _⟩
  rw[yaa hbig,yaa hbig]
 ·have hn64:n<18446744073709551616:=by
   grind [rC]
  refine vB (by grind [aC]) (eC fun bx hbx hbase=>?_)
  obtain⟨t1,e1,e2,e3,e4⟩:=xS (C:=yA) gQ hbx
  refine⟨_,_,e1,eC fun b2 _ _=>?_⟩
  obtain⟨t2,g1,g2,g3⟩:=e2.store1 (v:=.int .u64 0) hbase gQ rfl rfl rfl (j:=0) (by simp)
  refine⟨_,_,g1 b2,?_⟩
  have hS0:cW bx (.int .u64 ((val 65536 ((rC n).drop (rC n).length):Nat):Int)) t t2:=by
   rw[List.drop_length];exact⟨hbase,hbx,(zB.refl t).off hbx e4 |>.off hbx g3,g2⟩
  refine UQ (S:=fun k tf t=>cW bx (.int .u64 ((val 65536 ((rC n).drop k):Nat):Int)) tf t) (fun k=>cW.framed) hv (by omega) hS0 (fun k x tf t Q1 hx hI hR=>?_) (fun tf' t' hle hI=>?_)
  ·have hk:=(ybc.1 hx).1
   have hdrop:(rC n).drop k=x::(rC n).drop (k+1):=fR hx
   have hd1:val 65536 ((rC n).drop (k+1))<281474976710656:=by
    have h1:=vP (B:=65536) (by omega) (DW hlt (k+1))
    grind [rC]
   have hx16:x<65536:=hlt x (ycv hx)
   refine ziq hI hd1 hx16 fun t' h'=>hR t' ?_
   have:val 65536 ((rC n).drop k)=val 65536 ((rC n).drop (k+1))*65536+x:=by grind [val]
   simp_all
  ·obtain⟨i1,i2,i3,i4⟩:=hI
   rw[ycr,hval]at i4;unfold uE;refine vB (by simp) (yC (i4.load1 gQ rfl (j:=0) rfl) (qB ?_))
   by_cases h63:n<9223372036854775808
   ·rw[yab h63,yab h63]
    refine vB (by grind [oR]) (yC (i4.load1 gQ rfl (j:=0) rfl) (qB ⟨?_,hle.trans i3⟩))
    have:uW (n:Int)=(n:Int):=wrap_i64 (by omega) (by omega)
    rw[this]
   ·rw[yaa h63,yaa h63]
    exact mA (by grind [oR]) ⟨rfl,hle.trans i3⟩
def zcl (h:gK s=false):cN s=s:=by
 unfold gK at h;unfold cN jE;induction s with
 | nil=>rfl
 | cons b s ih=>
  rw[List.contains_cons]at h;simp only[yal,beq_eq_false_iff_ne]at h;have hd:decide (b≠47)=true:=decide_eq_true fun e:b=47=>h.1 e.symm
  rw[List.takeWhile_cons,hd,yab rfl,ih h.2]
theorem zez:∀s:List Nat,Cm [47] s=if gK s=true then some (cN s,jP s)else none:=by
 intro s;induction s with
 | nil=>rfl
 | cons b s ih=>
  have e:vY [47] (b::s)=Nat.beq 47 b:=by
   show(bif Nat.beq 47 b then vY [] s else false)=_
   have:vY [] s=true:=by cases s<;>rfl
   rw[this]
   cases Nat.beq 47 b<;>rfl
  unfold Cm;rw[e,ih];unfold gK jP cN jE;rw[List.contains_cons]
  cases hb:Nat.beq 47 b with
  | true=>
   grind [gC,List.takeWhile_cons,vR,kD]
  | false=>
   have hne:¬ 47=b:=fun e=>by simp_all
   have hd:decide (b≠47)=true:=decide_eq_true fun e:b=47=>hne e.symm
   rw[cond_false,List.takeWhile_cons,hd,yab rfl];have:(47 == b)=false:=by simp[hne]
   rw[this,Bool.false_or];split
   ·simp
   ·rfl
def DE (h:∀b∈s,nD b=true)(hl:s.length<=200):(rC (wE s)).length<=200:=by
 have h1:=Ld h
 have h2:10^s.length<=65536^s.length:=Nat.pow_le_pow_left (by omega) _
 have:=zdl (n:=wE s) (k:=s.length) (by omega)
 omega
theorem intPv  {lo hi:Int}(h:Bf s)(hs:gK s=false)(hlo : -4294967296<=lo)(hhi:hi<=4294967296):∃i:Int,kB yA F 144 [.str s,.bool neg,.int .i64 lo,.int .i64 hi] t=some (.tup [.int .i64 i,.bool (mT s neg lo hi).isSome])/\∀j,mT s neg lo hi=some j->i=j:=by
 obtain⟨h1,h2,h3,h4,_⟩:=h
 rw[zcl hs]at h2 h3 h4;have hlen:=DE h2 h1
 generalize hn:wE s=n at hlen
 have core:∀R:mB,(∀t',zB t t'->n<9223372036854775808->jp 144 15 [.int .i64 lo,.int .i64 hi,.int .i64 (if neg then -(n:Int)else n)] t' R)->(∀t',zB t t'->¬ n<9223372036854775808->R (.tup [.int .i64 0,.bool false]) t')->Wc yA F 144 [.str s,.bool neg,.int .i64 lo,.int .i64 hi] t R:=by
  intro R k1 k2;refine w144 ?_
  unfold t144 uI uG rH gH;refine wB ?_
  rw[q140];refine Zw h2 h3 h4 h1 fun t' u hle hu=>?_
  rw[hn]at hu;refine rA rfl (dC (iO hu) (rA rfl (qB (mA (qM hu.one) (wB ?_)))))
  rw[q200];show oD (kB yA F 200 [.agg [.bool false,u]] t') _
  rw[int128 hu (by omega),uA]
  refine rA rfl (qB (rA rfl (qB ?_)))
  by_cases h63:n<9223372036854775808
  ·rw[yab h63,yab h63]
   refine vB (by decide) ?_
   grind [mA,fC,wrap_i64,vB]
  ·rw[yaa h63,yaa h63]
   exact mA (by decide) (k2 t' hle h63)
 by_cases h63:n<9223372036854775808
 ·refine⟨if neg then -(n:Int)else n,iV (core _ (fun t' hle _=>?_) fun t' _ hh=>absurd h63 hh),fun j hj=>?_⟩
  ·refine zpo ?_
   unfold zbb;unfold mT;rw[hn];generalize (if neg then -(n:Int)else n)=m
   show wp 144 _ t' _
   by_cases hl:lo<=m
   ·refine mA (by grind [oR]) ⟨?_,hle⟩
    grind [oR]
   ·refine vB (by grind [oR]) ⟨?_,hle⟩
    simp[hl]
  grind [mT]
 ·have hno:mT s neg lo hi=none:=by
   grind [mT]
  rw[hno];exact⟨0,iV (core _ (fun t' _ hh=>absurd hh h63) fun t' hle _=>⟨rfl,hle⟩),fun j hj=>by cases hj⟩
theorem fracPv   (h:Bf s)(hQ:∀t' cs,zB t t'->RD t' (mR s neg).dd cs->Q (.agg cs) t'):Wc yA F 80 [.str s,.bool neg] t Q:=by
 obtain⟨h1,h2,h3,h4,h5⟩:=h
 have la:(cN s).length<=s.length:=by grind [cN,jE,List.takeWhile_sublist]
 have main:∀b:List Nat,(∀x∈b,nD x=true)->b≠[]->oO b=false->b.length<=200->0<wE b->mR s neg=gM neg (wE (cN s)) (wE b)->jp 80 9 [.bool neg,.str (cN s),.str b,.bool false,.nilslice,.bool false,.nilslice] t Q:=by
  intro b b1 b2 b3 b4 b5 hf;refine j80_9 ?_
  unfold t80_9 uI uG rH gH uM2 uA2;refine wB ?_
  rw[q140];refine Zw h2 h3 h4 (by omega) fun t1 u k1 k2=>?_
  refine rA rfl (dC (iO k2) (rA rfl (qB (mA (qM k2.one) (wB ?_)))))
  rw[q140];refine Zw b1 b2 b3 b4 fun t2 v m1 m2=>?_
  refine rA rfl (dC (iO m2) (rA rfl (qB (mA (qM m2.one) (wB ?_)))))
  rw[q141];have l1:=DE h2 (by omega)
  have l2:=DE b1 b4
  refine zow (k2.mono m1) m2 l1 l2 b5 fun t3 cs p1 p2=>?_
  obtain⟨u3,v3,rfl,hu3,hv3⟩:=rd_frac p2
  refine rA rfl (dC (agF hu3 hv3) (rA rfl (qB (mA p2.all ?_))))
  cases neg with
  | true=>
   refine mA rfl (wB ?_)
   rw[q142];refine neg_ok p2 l1 l2 b5 fun t4 cs4 r1 r2=>?_
   obtain⟨u4,v4,rfl,hu4,hv4⟩:=rd_frac r2
   refine rA rfl (dC (agF hu4 hv4) (rA rfl (qB (mA r2.all (mA r2.all ?_)))))
   refine hQ t4 _ (k1.trans (m1.trans (p1.trans r1))) ?_
   rw[hf];exact r2
  | false=>
   refine vB (by simp) (mA p2.all ?_)
   refine hQ t3 _ (k1.trans (m1.trans p1)) ?_
   rw[hf];exact p2
 refine w80 ?_
 unfold t80 uB uS;refine wB ?_
 have hg:yA.prims.get 139=some (bL pCut):=by kernel_rfl
 have hcut:kB yA F 139 [.str s,.str [47]] t=some (.tup [.str (if gK s=true then cN s else s),.str (if gK s=true then jP s else []),.bool (gK s)]):=by
  refine Gw hg fun H=>?_
  show tB (Nat.blt (yB s) 4294967281) _=_
  rw[kD,qC.2 (by omega),cD,zez]
  cases gK s<;>rfl
 rw[q139,hcut,uA];refine rA rfl (dD (rA rfl (dD (rA rfl (iD ?_)))))
 cases hs:gK s with
 | true=>
  obtain⟨c1,c2,c3,c4⟩:=h5 hs
  refine vB (by simp) (fC ?_)
  simp only[if_true];have lb:(jP s).length<=s.length:=by grind [jP]
  refine main (jP s) c2 c1 c3 (by omega) (zjk c2 c1 fun e=>?_) (by grind [mR])
  unfold oO at c3;rw[e]at c3;simp at c3;have:(jP s).length=1:=by grind [List.length_pos_iff]
  match hb:jP s with
  | []=>grind
  | [x]=>simp_all
  | x::y::r=>simp_all
 | false=>
  refine mA rfl (fC ?_)
  simp only[ybq,if_false];have:=main [49] (by decide) (by simp) (by decide) (by simp) (by decide) (by unfold mR;rw[hs];rfl)
  rwa [zcl hs]at this
end
end
section
variable {a b i m y:Nat}{s:List Nat}
variable [nC]
section
variable {t:Tr tA}{Q:mB}
theorem zo7(y:Nat):kB yA F 271 [.int .i64 (y:Int)] t=some (.bool (Oz y)):=by
 have e:∀k:Nat,Int.tmod (y:Int) (k:Int)=((y%k:Nat):Int):=fun k=>by grind
 refine iC.2 (w271 ?_)
 unfold t271 wC yI;rw[show(4:Int)=((4:Nat):Int) from rfl,show(100:Int)=((100:Nat):Int) from rfl,show(400:Int)=((400:Nat):Int) from rfl,e,e,e]
 unfold Oz;by_cases h4:y%4=0
 ·refine mA (by grind [fE]) ?_
  by_cases h1:y%100=0
  ·refine vB (by grind [fE]) ⟨?_,rfl⟩
   rw[fE];congr 1
   grind
  ·refine mA (by grind [fE]) ⟨?_,rfl⟩
   grind
 ·refine vB (by grind [fE]) ⟨?_,rfl⟩
  simp[h4]
theorem KP (h:y<1000000):kB yA F 243 [.int .i64 (y:Int)] t=some (.int .i64 (wR y:Int)):=by
 have e:∀k:Nat,Int.tdiv (y:Int) (k:Int)=((y / k:Nat):Int):=fun k=>by simp_all
 refine iC.2 (w243 ?_)
 unfold t243 uW;rw[show(4:Int)=((4:Nat):Int) from rfl,show(100:Int)=((100:Nat):Int) from rfl,show(400:Int)=((400:Nat):Int) from rfl,e,e,e]
 have h1:y / 100<=y / 4:=Nat.div_le_div_left (by omega) (by omega)
 have h2:y / 4<=y:=Nat.div_le_self _ _
 have h3:y / 400<=y:=Nat.div_le_self _ _
 simp (disch:=omega) only[wrap_i64]
 refine⟨?_,rfl⟩
 grind [wR]
theorem zo6(hg:dJ t) (hi:i<12):uC yA 304 (.ptr 3 0) (.int .i64 (i:Int))=some (.ptr 3 (0+i))/\cA yA 3 ⟨0,t⟩ (.ptr 3 (0+i))=some (.int .i64 ((Ox.getD i 0:Nat):Int)):=by
 refine⟨?_,hg.2.2.load1 aJ rfl ?_⟩
 ·unfold uC
  rw[ty304,pA];have e:(zA.int .i64 (i:Int)).asNat=some i:=rfl
  rw[e,pA];simp only[zA.asSlice,zA.asPtr,vE.asArr,pA];rw[aJ,pA,qC.2 hi,cD,Nat.mul_one]
 ·have:Ox[i]?=some (Ox.getD i 0):=by
   rw[List.getD_eq_getElem?_getD,ybd (by show i<12;exact hi)];rfl
  grind
theorem zlh(hg:dJ t)(y m:Nat)(hm:m<1000000):kB yA F 244 [.int .i64 (y:Int),.int .i64 (m:Int)] t=some (.int .i64 (wN y m:Int)):=by
 refine iC.2 (w244 ?_)
 unfold t244 uQ16 uB;by_cases h1:m<1
 ·refine mA (by grind [aC]) ⟨?_,rfl⟩
  grind [wN]
 refine vB (by grind [aC]) ?_
 by_cases h2:12<m
 ·refine mA (by grind [aC]) ⟨?_,rfl⟩
  grind [wN]
 refine vB (by grind [aC]) ?_
 have tail:¬ (m=2/\Oz y=true)->wp 244 (uQ16 (m:Int)) t fun v' t'=>v'=.int .i64 (wN y m:Int)/\t'=t:=by
  intro hn;unfold uQ16 uI;have e:uW ((m:Int)-1)=((m-1:Nat):Int):=by
   grind [wrap_i64]
  obtain⟨k1,k2⟩:=zo6 hg (i:=m-1) (by omega)
  rw[e];refine rA k1 (yC k2 (qB ⟨?_,rfl⟩))
  unfold wN;rw[yaa (by omega),yaa hn]
 by_cases h3:m=2
 ·refine mA (by grind [fE]) (wB ?_)
  rw[q271,zo7,uA];refine iD ?_
  cases hl:Oz y with
  | true=>
   refine mA rfl ⟨?_,rfl⟩
   grind [wN]
  | false=>exact vB (by simp) (tail (by grind))
 ·exact vB (by grind [fE]) (tail fun h=>h3 h.1)
theorem AZ(y m:Nat):wN y m<=31:=by
 unfold wN;split
 ·omega
 split
 ·omega
 ·rename_i h1 _
  have:m-1<12:=by omega
  generalize m-1=k at this
  match k,this with
  | 0,_ | 1,_ | 2,_ | 3,_ | 4,_ | 5,_ | 6,_ | 7,_ | 8,_ | 9,_ | 10,_ | 11,_=>decide
theorem FV(y:Nat):∀k,Jl y k<=31*k:=by
 intro k;induction k with
 | zero=>exact ybk _
 | succ k ih=>grind [Jl,AZ]
theorem KQ(y:Nat):wR y<=y+y:=by grind [wR]
def WG (h:a<=b)(hb:b<10000):wR a<=wR b:=by unfold wR;omega
theorem Yv(hg:dJ t) (hm:m<50000):kB yA F 189 [.int .i64 (m:Int)] t=some (.int .i64 (yG m:Int)):=by
 have ed:Int.tdiv (m:Int) 12=((m / 12:Nat):Int):=by simp_all
 have em:Int.tmod (m:Int) 12=((m%12:Nat):Int):=by grind
 refine iC.2 (w189 ?_)
 unfold t189 uI uW;rw[ed];have hq:m / 12<5000:=by omega
 have e1:fA .i64 (fA .i64 (1900+fA .i64 ((m / 12:Nat):Int))-1)=((1899+m / 12:Nat):Int):=by
  grind [wrap_i64]
 have e2:fA .i64 (1900+fA .i64 ((m / 12:Nat):Int))=((1900+m / 12:Nat):Int):=by
  grind [wrap_i64]
 have hl1:=KQ (1899+m / 12)
 have hl2:=WG (a:=1899) (b:=1899+m / 12) (by omega) (by omega)
 refine wB ?_
 rw[e1,q243,KP (by omega),uA]
 refine qB (wB ?_)
 rw[q243,show(1899:Int)=((1899:Nat):Int) from rfl,KP (by omega),uA,e2]
 refine qB (fC ?_)
 have e3:fA .i64 (fA .i64 (fA .i64 (365*fA .i64 (((1900+m / 12:Nat):Int)-1900))+(wR (1899+m / 12):Int))-(wR 1899:Int))=((365*(m / 12)+wR (1899+m / 12)-wR 1899:Nat):Int):=by
  grind [wrap_i64]
 rw[e3];have loop:∀(k i a:Nat),i+k=m%12->a=365*(m / 12)+wR (1899+m / 12)-wR 1899+Jl (1900+m / 12) i->jp 189 2 [.int .i64 (m:Int),.int .i64 ((1900+m / 12:Nat):Int),.int .i64 (a:Int),.int .i64 ((i+1:Nat):Int)] t fun v' t'=>v'=.int .i64 (yG m:Int)/\t'=t:=by
  intro k;induction k with
  | zero=>
   intro i a hi ha;refine Pg ?_
   unfold Yb;rw[em];refine vB (by grind [oR]) ⟨?_,rfl⟩
   subst ha;unfold yG;rw[show i=m%12 by omega]
  | succ k ih=>
   intro i a hi ha;have hs:=FV (1900+m / 12) i
   have hle:=AZ (1900+m / 12) (i+1)
   refine Pg ?_
   unfold Yb uI;rw[em];refine mA (by grind [oR]) (wB ?_)
   rw[q244];show oD (kB yA F 244 [.int .i64 ((1900+m / 12:Nat):Int),.int .i64 ((i+1:Nat):Int)] t) _
   rw[zlh hg _ _ (by omega),uA]
   refine qB (fC ?_)
   have e4:kC ((i+1:Nat):Int)=.int .i64 ((i+1+1:Nat):Int):=by
    show zA.int .i64 (fA .i64 (((i+1:Nat):Int)+1))=_
    rw[wrap_i64 (by omega) (by omega)];rfl
   have e5:uW ((a:Int)+(wN (1900+m / 12) (i+1):Int))=((a+wN (1900+m / 12) (i+1):Nat):Int):=by
    show fA .i64 _=_
    rw[wrap_i64 (by omega) (by omega)];omega
   rw[e4,e5];exact ih (i+1) _ (by omega) (by grind [Jl])
 exact loop (m%12) 0 _ (by omega) rfl
theorem day_ok(hg:dJ t){d:Nat}(hy:y<10000)(hm:m<1000)(hd:d<1000):kB yA F 192 [.int .i64 (y:Int),.int .i64 (m:Int),.int .i64 (d:Int)] t=some (.tup [.int .i64 (((Cl y m d).getD 0:Nat):Int),.int .i64 (if (Cl y m d).isSome then 0 else 2)]):=by
 refine iC.2 (w192 ?_)
 unfold t192 uI uB;have bad:∀h:y<1900\/2079<y\/d<1\/wN y m<d,Cl y m d=none:=fun h=>by unfold Cl;rw[yab h]
 by_cases h1:y<1900
 ·rw[bad (.inl h1)]
  exact mA (by grind [aC]) ⟨rfl,rfl⟩
 refine vB (by grind [aC]) ?_
 by_cases h2:2079<y
 ·rw[bad (.inr (.inl h2))]
  exact mA (by grind [aC]) ⟨rfl,rfl⟩
 refine vB (by grind [aC]) ?_
 by_cases h3:d<1
 ·rw[bad (.inr (.inr (.inl h3)))]
  exact mA (by grind [aC]) ⟨rfl,rfl⟩
 refine vB (by grind [aC]) (wB ?_)
 rw[q244];show oD (kB yA F 244 [.int .i64 (y:Int),.int .i64 (m:Int)] t) _
 rw[zlh hg _ _ (by omega),uA]
 refine qB ?_
 by_cases h4:wN y m<d
 ·rw[bad (.inr (.inr (.inr h4)))]
  exact mA (by grind [aC]) ⟨rfl,rfl⟩
 refine vB (by grind [aC]) (wB ?_)
 have hm1:1<=m:=by
  grind [wN]
 have hs31:=AZ y m
 have e1:uW (uW (uW (12*uW ((y:Int)-1900))+(m:Int))-1)=((12*(y-1900)+m-1:Nat):Int):=by
  grind [wrap_i64]
 rw[q189];show oD (kB yA F 189 [.int .i64 (uW (uW (uW (12*uW ((y:Int)-1900))+(m:Int))-1))] t) _
 rw[e1,Yv hg (by omega),uA]
 refine qB (wB ?_)
 have hst:yG (12*(y-1900)+m-1)<1000000:=by
  grind [yG,FV,KQ]
 have e2:uW (uW ((yG (12*(y-1900)+m-1):Int)+(d:Int))-1)=((yG (12*(y-1900)+m-1)+d-1:Nat):Int):=by
  grind [wrap_i64]
 rw[e2];have hn:Cl y m d=if yG (12*(y-1900)+m-1)+d-1<65536 then some (yG (12*(y-1900)+m-1)+d-1)else none:=by
  unfold Cl;rw[yaa (by omega)]
 have hisd:kB yA F 187 [.int .i64 ((yG (12*(y-1900)+m-1)+d-1:Nat):Int)] t=some (.bool (decide (yG (12*(y-1900)+m-1)+d-1<65536))):=by
  refine iC.2 (w187 ?_)
  unfold t187;generalize yG (12*(y-1900)+m-1)+d-1=z
  refine mA (by grind [oR]) ⟨?_,rfl⟩
  have hz:fB (z:Int) 65536=decide (z<65536):=by
   grind [aC]
  rw[hz]
 rw[q187,hisd,uA,hn];refine iD ?_
 by_cases h5:yG (12*(y-1900)+m-1)+d-1<65536
 ·rw[yab h5,decide_eq_true h5]
  exact vB (by simp) ⟨rfl,rfl⟩
 ·rw[yaa h5,decide_eq_false h5]
  exact mA rfl ⟨rfl,rfl⟩
theorem VN{ls:List (List Nat)}{v:zA}(hv:aA t 1 (ls.map D.str) v)(hl:ls.length<100)(hd:∀s∈ls,s.length<=9/\∀b∈s,nD b=true)(hQ:∀t' b,zB t t'->zG t' b .i64 (ls.map wE)->Q (.tup [.slice b 0 ls.length ls.length,.bool true]) t'):Wc yA F 191 [v] t Q:=by
 have hlen:=hv.len
 rw[ybf]at hlen;refine w191 ?_
 unfold t191 uI;refine rA hlen (qB (eC fun b hb hbase=>?_))
 obtain⟨t1,e1,e2,e3,e4⟩:=Hg (C:=yA) (T:=249) (k:=.i64) (n:=ls.length) ty249 rfl aJ rfl rfl (by decide) (by omega) hb
 refine⟨_,_,e1,rA hlen (qB (fC ?_))⟩
 have loop:∀(k i:Nat) (row:List Nat) (t1:Tr tA),i+k=ls.length->row=(ls.take i).map wE++List.replicate k 0->zB t t1->zG t1 b .i64 row->jp 191 2 [.slice b 0 ls.length ls.length,v,.int .i64 (ls.length:Int),.int .i64 (i:Int)] t1 Q:=by
  intro k;induction k with
  | zero=>
   intro i row t1 hi hr hle ho;refine zl6 ?_
   unfold Ya;refine vB (by grind [aC]) ?_
   rw[show i=ls.length by omega,List.take_length,List.replicate_zero,ycd]at hr;subst hr;exact hQ t1 b hle ho
  | succ k ih=>
   intro i row t1 hi hr hle ho;refine zl6 ?_
   unfold Ya uS;have hx:ls[i]?=some ls[i]:=ybd (by omega)
   have hxd:(ls.map D.str)[i]?=some (D.str ls[i]):=by simp_all
   obtain⟨b',o',cs,h1,h2,_,_,h3⟩:=sl62.at (fun _=>rfl) (hv.mono hle) hxd
   have e:=Ag.1 h3
   subst e;refine mA (by grind [aC]) (rA h1 (yC h2 (dD (fC ?_))))
   have ll:(Int.ofNat (yB ls[i]))=(ls[i].length:Int):=by rw[kD];rfl
   rw[ll];obtain⟨hs9,hsd⟩:=hd ls[i] (ycj _)
   have inner:∀(q j:Nat) (t2:Tr tA),j+q=ls[i].length->zB t t2->zG t2 b .i64 ((ls.take i).map wE++wE (ls[i].take j)::List.replicate k 0)->jp 191 6 [.slice b 0 ls.length ls.length,.int .i64 (i:Int),.str ls[i],v,.int .i64 (ls.length:Int),.int .i64 (i:Int),.int .i64 (ls[i].length:Int),.int .i64 (j:Int)] t2 Q:=by
    intro q;induction q with
    | zero=>
     intro j t2 hj hle2 ho2;refine zl5 ?_
     unfold Xz;refine vB (by grind [aC]) (fC ?_)
     have e4:kC (i:Int)=.int .i64 ((i+1:Nat):Int):=by
      grind [wrap_i64]
     rw[e4];refine ih (i+1) _ t2 (by omega) ?_ hle2 ho2
     grind [List.take_add_one]
    | succ q ih2=>
     intro j t2 hj hle2 ho2;have hy:ls[i][j]?=some ls[i][j]:=ybd (by omega)
     have hyd:48<=ls[i][j]/\ls[i][j]<=57:=by grind [List.getElem_mem,nD]
     refine zl5 ?_
     unfold Xz uI uU;have hla:((ls.take i).map wE).length=i:=by grind
     have hget:((ls.take i).map wE++wE (ls[i].take j)::List.replicate k 0)[i]?=some (wE (ls[i].take j)):=by
      grind
     have ia:=Gi (C:=yA) (b:=b) sl249 (off:=0) (n:=ls.length) (cap:=ls.length) (i:=i) (by omega)
     rw[ybw,Nat.mul_one]at ia;have hb9:wE (ls[i].take j)<1000000000:=by
      have h1:=Ld (s:=ls[i].take j) fun x hx=>hsd x (List.mem_of_mem_take hx)
      have h2:10^(ls[i].take j).length<=10^9:=yao (by omega) (by grind)
      omega
     refine mA (by grind [aC]) (rA (tN hy) (qB (vB (by grind [aC]) (rA (tN hy) (qB (vB (by grind [aC]) (rA ia (yC (ho2.load hget aJ rfl) (qB (rA (tN hy) (qB (rA ia (eC fun n _ _=>?_)))))))))))))
     have ev:uW (uW (10*((wE (ls[i].take j):Nat):Int))+uW (fA .u8 ((ls[i][j]:Int)-48)))=((wE (ls[i].take (j+1)):Nat):Int):=by
      unfold uW;rw[Iw (by omega) (by omega),fQ hy,Uz]
      grind [wrap_i64]
     obtain⟨t3,g1,g2,g3⟩:=ho2.store hbase (j:=i) (by grind) (wE (ls[i].take (j+1))) aJ rfl
     rw[ev];refine⟨_,_,g1 n,fC ?_⟩
     have e4:kC (j:Int)=.int .i64 ((j+1:Nat):Int):=by
      grind [wrap_i64]
     rw[e4];refine ih2 (j+1) t3 (by omega) (hle2.off hb g3) ?_
     simp_all
   refine inner ls[i].length 0 t1 (by omega) hle ?_
   rw[hr,List.replicate_succ]at ho;exact ho
 grind
theorem zbi  (h:a<=b)(hb:b<=s.length):vF yA 9 kL (.str s) (some (.int .i64 (a:Int))) (some (.int .i64 (b:Int)))=some (.str ((s.take b).drop a)):=by
 unfold vF kN;rw[gL,pA];simp only[zA.asStr];rw[show vE.isString .string=true from rfl,cD];unfold Nj nQ Cr nY;have e:∀n:Nat,mM (n:Int)=some n:=fun _=>rfl
 grind [pA,zA.asNat,zA.asInt,kD,aE,cD,xT,vR]
theorem DI (h:cI s=true) (hi:i<10):∃b,s[i]?=some b/\wK i b=true:=by
 unfold cI at h;simp only[ybb,decide_eq_true_eq,ycb,List.mem_range]at h;grind
theorem DJ (h:cI s=true) (hb:b<=10)(h4:¬ (a<=4/\4<b))(h7:¬ (a<=7/\7<b)):∀x∈(s.take b).drop a,nD x=true:=by
 intro x hx;obtain⟨j,hj⟩:=List.getElem?_of_mem hx
 rw[yde,ydf]at hj;split at hj
 ·rename_i hlt
  obtain⟨y,h1,h2⟩:=DI h (i:=a+j) (by omega)
  grind [wK]
 grind
theorem zex(hg:dJ t) (hs:s.length=10)(hd:cI s=true):kB yA F 138 [.str s] t=some (.tup [.int .i64 (((wV s).getD 0:Nat):Int),.int .i64 (if (wV s).isSome then 0 else 2)]):=by
 refine iV (w138 ?_)
 unfold t138 uI uU uB uS;have ll:(Int.ofNat (yB s))=10:=by grind [kD]
 rw[ll];obtain⟨x4,g4,k4⟩:=DI hd (i:=4) (by omega)
 obtain⟨x7,g7,k7⟩:=DI hd (i:=7) (by omega)
 have k4:x4=45:=by grind [wK]
 have k7:x7=45:=by grind [wK]
 subst k4 k7
 have i4:=tN g4
 have i7:=tN g7
 have s0:=Dw (s:=s) (k:=4) (by omega)
 have s5:=zbi (s:=s) (a:=5) (b:=7) (by omega) (by omega)
 have s8:=Jn (s:=s) (k:=8) (by omega)
 refine vB (by decide) (rA i4 (qB (vB (by decide) (rA i7 (qB (vB (by decide) (rA s0 (dD (rA s5 (dD (rA s8 (dD (eC fun b hb hbase=>?_)))))))))))))
 obtain⟨t1,g1,g2,g3,g5⟩:=Ou (C:=yA) (T:=62) (el:=9) (sz:=1) (n:=3) (cl:=[[.str (s.take 4)],[.str ((s.take 7).drop 5)],[.str (s.drop 8)]]) (ps:=[(0,.str (s.take 4)),(1,.str ((s.take 7).drop 5)),(2,.str (s.drop 8))]) ty62 rfl gL rfl rfl (by decide) rfl (fun i cs hi=>by
  match i,hi with
  | 0,hi=>grind
  | 1,hi=>grind
  | 2,hi=>grind) rfl hb
 have hr:aA t1 1 ([s.take 4,(s.take 7).drop 5,s.drop 8].map D.str) (.slice b 0 3 3):=⟨_,g2,vH.2 ⟨_,_,rfl,Ag.2 rfl,vH.2 ⟨_,_,rfl,Ag.2 rfl,vH.2 ⟨_,_,rfl,Ag.2 rfl,cH.2 rfl⟩⟩⟩⟩
 have d1:∀x∈s.take 4,nD x=true:=by
  have:=DJ hd (a:=0) (b:=4) (by omega) (by omega) (by omega)
  simp_all
 have d2:∀x∈(s.take 7).drop 5,nD x=true:=DJ hd (by omega) (by omega) (by omega)
 have d3:∀x∈s.drop 8,nD x=true:=by
  have:=DJ hd (a:=8) (b:=10) (by omega) (by omega) (by omega)
  rwa [yca (by omega)]at this
 refine⟨_,_,g1,wB ?_⟩
 rw[q191];refine VN hr (by simp) (fun x hx=>?_) fun t2 b2 h1 h2=>?_
 ·grind
 have ia:∀i:Nat,i<3->uC yA 249 (.slice b2 0 3 3) (.int .i64 (i:Int))=some (.ptr b2 i):=fun i hi=>by
  have:=Gi (C:=yA) (b:=b2) sl249 (off:=0) (n:=3) (cap:=3) (i:=i) hi
  rwa [ybw,Nat.mul_one]at this
 have l0:=h2.load (j:=0) rfl aJ rfl (C:=yA)
 have l1:=h2.load (j:=1) rfl aJ rfl (C:=yA)
 have l2:=h2.load (j:=2) rfl aJ rfl (C:=yA)
 refine rA rfl (rA rfl (iD (vB (by simp) (rA (ia 0 (by omega)) (yC l0 (qB (rA (ia 1 (by omega)) (yC l1 (qB (rA (ia 2 (by omega)) (yC l2 (qB (wB ?_)))))))))))))
 have b1:=Ld d1
 have b2':=Ld d2
 have b3:=Ld d3
 have n1:(s.take 4).length=4:=by grind
 have n2:((s.take 7).drop 5).length=2:=by grind
 have n3:(s.drop 8).length=2:=by grind
 rw[n1]at b1;rw[n2]at b2'
 rw[n3]at b3;have hle:=g3.trans h1
 rw[q192];show oD (kB yA F 192 [.int .i64 ((wE (s.take 4):Nat):Int),.int .i64 ((wE ((s.take 7).drop 5):Nat):Int),.int .i64 ((wE (s.drop 8):Nat):Int)] t2) _
 rw[day_ok (hg.mono hle) (by omega) (by omega) (by omega),uA]
 exact rA rfl (qB (rA rfl (qB ⟨rfl,hle⟩)))
theorem lib30:Ft where
 frac:=fun {s neg tf t L Q} h ho hQ=>Wc.objs (R:=fun v tf'=>∃cs,v=.agg cs/\RD tf' (mR s neg).dd cs) (fracPv h fun t' cs h1 h2=>⟨h1,cs,rfl,h2⟩) ho fun v tf' t' h1 h2 ⟨cs,h3,h4⟩=>by grind
 int:=fun h1 h2 h3 h4=>intPv h1 h2 h3 h4
 date:=fun hg ⟨h1,h2,n,h3⟩=>by grind [zex]
end
end
section
variable [nC]
section
variable {P:dM}{tf t:Tr tA}{Q E:mB}
def zns(h:St P tf t 0 0)(hk:Ok P cL 0 tf (yL P.tk) Q E):sM yA F E 30 [.ptr P.bp 0] t Q:=by
 refine w30 ?_
 unfold t30 uG jB uZ uY lF nE;refine wB ?_
 rw[pE 31];unfold yL at hk;refine zi8 lib30 _ _ _ _ _ h (hk.bind fun x n1 tf1 t1 v hr hle hst hrd hk1=>?_)
 obtain⟨cs,rfl,hx⟩:=hrd
 refine dC (agE hx) ?_
 rw[show [zA.int .u8 ((cellsOf cs).i 0),.str ((cellsOf cs).s 1),.int .u8 ((cellsOf cs).i 2),.bool ((cellsOf cs).b 3),(cellsOf cs).v 4,.bool ((cellsOf cs).b 5),(cellsOf cs).v 6,.int .i64 ((cellsOf cs).i 7),(cellsOf cs).v 8]=cs from Ql hx]
 have hall:sD zA.one cs=true:=by
  obtain⟨a,b,c,rfl,_⟩:=nI hx
  exact hx.all
 refine mA hall (wB ?_)
 rw[pE 32];refine zcb hst (hk1.bind fun a n2 tf2 t2 v2 hr2 hl2 hst2 hrd2 hk2=>?_)
 exact mA hall (Ok.now hk2 hst2 ⟨cs,rfl,hx.mono hl2⟩)
def znr(h:St P tf t 0 0)(hk:Ok P rdXV 0 tf (zL P.tk) Q E):sM yA F E 37 [.ptr P.bp 0] t Q:=by
 refine w37 ?_
 unfold t37 uB uG jB uX uZ uY dP uA9;refine wB ?_
 rw[pE 38];unfold zL at hk;refine PC lib30 h (hk.bind fun x n1 tf1 t1 v hr hle hst hrd hk1=>?_)
 cases x with
 | none=>
  have hrd:v=.tup [.agg zV,.bool false]:=hrd
  subst hrd;refine rA (v:=.agg zV) rfl (dC (X:=cellsOf zV) (zO rfl) (rA (v:=.bool false) rfl (iD (mA (by kernel_rfl) (mA rfl (wB ?_))))))
  rw[pE 39];exact Ok.fail hst hk1
 | some x=>
  obtain⟨cs,rfl,hx⟩:=hrd
  refine rA (v:=.agg cs) rfl (dC (agV hx) (rA (v:=.bool true) rfl (iD ?_)))
  rw[show [zA.int .u8 ((cellsOf cs).i 0),.bool ((cellsOf cs).b 1),(cellsOf cs).v 2,.bool ((cellsOf cs).b 3),(cellsOf cs).v 4,.int .i64 ((cellsOf cs).i 5)]=cs from Qk hx]
  have hall:sD zA.one cs=true:=by
   obtain⟨a,b,rfl,_⟩:=oX hx
   exact hx.all
  refine mA hall (vB (by simp) (wB ?_))
  rw[pE 32];refine zcb hst (hk1.bind fun a n2 tf2 t2 v2 hr2 hl2 hst2 hrd2 hk2=>?_)
  exact mA hall (Ok.now hk2 hst2 ⟨cs,rfl,hx.mono hl2⟩)
end
end
end Go.Proofs
namespace Go.Am
open Go Go.RowKit
variable {args vals:List zA}{E:mB}{base:Nat}{J:eF}{X:Xt}{tm:Tm}{HA:xA}{p:PI}
structure Me (C:iA) (F:Tr xE) (f:Nat) (fn:Func) (kf:Nat) (A:xE) (l:List oC) (q:lQ) (fc:Func) (kc:Nat) (Ac:xE) (qc:ClQ):Prop where
 isF:F.get f=some A
 isFn:C.fns.get f=some fn
 isK:C.ks.get f=some kf
 prim:C.prims.get f=none
 lt:Nat.blt f yo=true
 body:rE fn.body=false
 split:tX A.code=some (l,q)
 isC:F.get q.cl=some Ac
 isFc:C.fns.get q.cl=some fc
 isKc:C.ks.get q.cl=some kc
 primC:C.prims.get q.cl=none
 bodyC:rE fc.body=false
 clo:Ic Ac.code=some qc
 ok:(Qj fn.results.toList q.o6.toList&&(Nat.ble kf q.d&&Nat.blt q.d fn.ntmps))=true
 okC:(Nat.ble (yB q.bs) kc&&Nat.ble (yB q.bs) fc.ntmps)=true
 okD:Nat.blt qc.d fc.ntmps=true
 rng:mK (mX l)=[]
 rngC:mK qc.c=[]
def defB (C:iA)(F:Tr xE)(f:Nat)(fn:Func)(kf:Nat)(A:xE)(l:List oC)(q:lQ)(fc:Func)(kc:Nat)(Ac:xE)(qc:ClQ):Bool:=
 rE (C.prims.get f)&&Nat.blt f yo && !rE fn.body&&rE (C.prims.get q.cl) && !rE fc.body&&(Qj fn.results.toList q.o6.toList&&(Nat.ble kf q.d&&Nat.blt q.d fn.ntmps)) &&
  (Nat.ble (yB q.bs) kc&&Nat.ble (yB q.bs) fc.ntmps)&&Nat.blt qc.d fc.ntmps&&(match mK (mX l)with | []=>true | _=>false)&&(match mK qc.c with | []=>true | _=>false)
section
variable {C:iA}{F:Tr xE}{f:Nat}{fn fc:Func}{kf kc:Nat}{A Ac:xE}{l:List oC}{q:lQ}{qc:ClQ}{pure pan:Nat->Bool}{t:Tr tA}{Q:mB}
theorem Me.of(h1:F.get f=some A)(h2:C.fns.get f=some fn)(h3:C.ks.get f=some kf)(h4:tX A.code=some (l,q))(h5:F.get q.cl=some Ac)(h6:C.fns.get q.cl=some fc)(h7:C.ks.get q.cl=some kc)(h8:Ic Ac.code=some qc)(h:defB C F f fn kf A l q fc kc Ac qc=true):Me C F f fn kf A l q fc kc Ac qc:=by
 unfold defB at h;simp only[ybb]at h;obtain⟨⟨⟨⟨⟨⟨⟨⟨⟨g1,g2⟩,g3⟩,g4⟩,g5⟩,g6⟩,g7⟩,g8⟩,g9⟩,g10⟩:=h
 have nn:∀ {α:Type} {x:Option α},rE x=true->x=none:=fun {α} {x} h=>by cases x with | none=>rfl | some _=>cases h
 refine⟨h1,h2,h3,nn g1,g2,by simp_all,h4,h5,h6,h7,nn g4,by simp_all,h8,by simp_all,by simp_all,g8,?_,?_⟩
 all_goals grind
theorem ze6(h:F.get f=some A):(sE F).get f=some A.code:=by grind [sE,Tr.get_mapT]
theorem OG {d:Bool}(h2:C.fns.get f=some fn)(h3:C.ks.get f=some kf)(hb:rE fn.body=false)(hl:(Nat.ble (yB args) kf&&Nat.ble (yB args) fn.ntmps)=true):∃g,yK C f args d=some g/\g.tm=⟨kf,Tr.ofList args,[]⟩:=by
 obtain⟨body,hb⟩:∃b,fn.body=some b:=by
  cases hx:fn.body with
  | none=>rw[hx]at hb;cases hb
  | some b=>simp_all
 refine⟨_,by unfold yK;rw[h2,pA,hb,pA,h3,pA,hl];rfl,rfl⟩
theorem xO.nil{A:Tr oC} {c:oC}(h:mK c=[]):xO A E f c:=fun q hq=>by simp_all
theorem JOk.nil   {L:List PtD}(h:L=[]):JOk base kf E J L:=fun d hd=>by simp_all
theorem st_of    (ho:Ov base t X HA)(hk:tm.k=kf):oF base X kf (fun i=>i) X ⟨tm,[],.leaf,[]⟩ tm HA t:=
 ⟨ho,iI.refl _,hk,hk,fun _ _ h=>h,fun _ _ h=>(by cases h),fun d l h=>(by grind [Tr.get_leaf]),fun d _ l _ h=>(by omega)⟩
def ze9(h:Me C F f fn kf A l q fc kc Ac qc) {cells:List zA}{v:zA}{W:eF} (hW:kQ C (sE F) E W)(hY:Cz C (sE F) W)(hpts:∀ κ,vL C (zD C (sE F)) q.cl fc.ntmps qc.c κ=[]) (hl:yB cells=yB q.bs)
  (hv:Gf p ⟨clTm fc.ntmps qc ⟨kc,Tr.ofList cells,[]⟩ v,[],.leaf,[]⟩=some vals) {R:mB} (hw:oA C.base W J (qK C Ac.la q.cl fc.ntmps qc.c (An C fc) (oK kc p vals)) t R):∀X HA,Ov C.base t X HA->zC C.base X E R (aR C (sE F) (zD C (sE F)) q.cl cells v HA):=by
 intro X HA ho;obtain⟨g,h1,h2⟩:=OG (args:=cells) (d:=true) h.isFc h.isKc h.bodyC (by rw[hl];exact h.okC)
 unfold aR;refine zC.ob h.isFc (zC.ob (ze6 h.isC) (zC.ob h.clo ?_))
 have hg:(rE (C.prims.get q.cl)&&Nat.blt qc.d fc.ntmps)=true:=by rw[h.primC,h.okD];rfl
 rw[hg];show zC C.base X E R (ob (yK C q.cl cells true) _)
 refine zC.ob h1 ?_
 rw[h2];have hst:oF C.base X kc (fun i=>i) X ⟨clTm fc.ntmps qc ⟨kc,Tr.ofList cells,[]⟩ v,[],.leaf,[]⟩ (clTm fc.ntmps qc ⟨kc,Tr.ofList cells,[]⟩ v) HA t:=st_of ho (by unfold clTm;rw[Gx,Gx];rfl)
 exact Dr hW hY qc.c (An C fc) (uP C fc) (xO.nil h.rngC) (fun _=>Wt) (JOk.nil (hpts _)) _ _ _ _ _ _ _ (hst.at hv) hw
def Iq(C:iA)(F:Tr xE)(pure pan:Nat->Bool)(f:Nat)(fn:Func)(kf:Nat)(A:xE)(q:lQ)(p:PI)(vals:List zA)(t:Tr tA)(Q:mB):Prop:=
 ∃cells,∃E:mB,kO q.bs (.now (oK kf p vals).tm.cut)=some cells/\(∀HA,aR C (sE F) (zD C (sE F)) q.cl cells .niliface HA=some (⟨.tup [],false⟩,HA)) ∧
  (∀v t',E v t'->∀X HA,Ov C.base t' X HA->zC C.base X qJ (fun _ t''=>oA C.base (Wq C F pure) (fun _ _ _ _=>False) (endT C fn (oK kf p vals).cut) t'' Q) (aR C (sE F) (zD C (sE F)) q.cl cells v HA)) ∧
  oA C.base (rG C F pure pan E) (fun _ _ _ _=>False) (qK C A.la f fn.ntmps (.region q.i6 q.o6 false) ⟨endT C fn,fun _ _=>.fail,fun _=>.fail⟩ (oK kf p vals)) t Q
theorem znu(h:Me C F f fn kf A l q fc kc Ac qc) (hp:p.ll=[]) (hpn:pure pn=false)(ht:Iq C F pure pan f fn kf A q p vals t Q){X0:Xt}  {ν:Nat->Nat}(hst:oF C.base X0 kf ν X (oK kf p vals) tm HA t) :
  zC C.base X0 qJ Q (kS C (sE F) (zD C (sE F)) fn q tm HA):=by
 obtain⟨cells,E,h1,h2,h3,h4⟩:=ht
 have hend:∀tm' H',rN C (sE F) (zD C (sE F)) fn q.cl cells .niliface tm' H'=mW C fn tm' H':=by
  intro tm' H';unfold rN;rw[h2];rfl
 unfold kS;rw[hst.kA,h.ok];show zC C.base X0 qJ Q (ob (kO q.bs (.now tm.cut)) _)
 refine zC.ob (CV (Og hst.cut).1 h1) ?_
 have hk:∀X0,SKt C (rG C F pure pan E) (fun _ _ _ _=>False) X0 kf E Q ⟨endT C fn,fun _ _=>.fail,fun _=>.fail⟩ ⟨fun tm' H'=>rN C (sE F) (zD C (sE F)) fn q.cl cells .niliface tm' H',fun _ _ _=>none,fun _ _=>none⟩:=by
  intro X0;refine⟨?_,fun _ _ _ _ _ _ _ _ h=>h.elim,fun _ _ _ _ _ _ _ h=>h.elim⟩
  intro st tm HA t X ν hst hw;simp only[hend];exact Px st tm HA t X ν hst hw
 have hr:=Dr (EC hpn) EA (.region q.i6 q.o6 false) ⟨endT C fn,fun _ _=>.fail,fun _=>.fail⟩ ⟨fun tm' H'=>rN C (sE F) (zD C (sE F)) fn q.cl cells .niliface tm' H',fun _ _ _=>none,fun _ _=>none⟩ (xO.nil rfl) hk (JOk.nil rfl) X0 _ _ _ _ _ _ hst h4
 obtain⟨o,t',HA',X',g1,g2,g3,g4⟩:=hr
 have g1:nM C (zD C (sE F)) q.o6 fn.ntmps (fun tm' H'=>rN C (sE F) (zD C (sE F)) fn q.cl cells .niliface tm' H') q.o6.toList tm.cut HA=some (o,HA'):=g1
 refine zC.ob g1 ?_
 cases ho:o.p with
 | false=>
  grind [zC]
 | true=>
  rw[ho,yab rfl]at g4;show zC C.base X0 qJ Q (rN C (sE F) (zD C (sE F)) fn q.cl cells o.v tm.cut HA')
  obtain⟨v,t'',HA'',X'',k1,k2,k3,k4⟩:=pP.1 (h3 _ _ g4 _ _ g2)
  unfold rN;refine zC.ob k1 ?_
  show zC C.base X0 qJ Q (mW C fn tm.cut HA'')
  have hs:=hst.cut
  have hlo:∀d,(oK kf p vals).cut.lo.get d=none:=by
   intro d;show(vX p.ll (uR vals (yB p.pl))).get d=none
   rw[hp];exact Tr.get_leaf _
  have hs2:oF C.base X0 kf ν X'' (oK kf p vals).cut tm.cut HA'' t'':=
   ⟨k2,g3.trans k3,hs.k,hs.kA,hs.tms,hs.ads,fun d l h=>(by simp_all),fun d _ l _ h=>(by simp_all)⟩
  exact Px _ _ _ _ _ _ hs2 k4
def zm3(h:Me C F f fn kf A l q fc kc Ac qc) (hp:p.ll=[])(hpn:pure pn=false) (hl:(Nat.ble (yB args) kf&&Nat.ble (yB args) fn.ntmps)=true)(hpts:∀ κ,vL C (zD C (sE F)) f fn.ntmps (mX l) κ=[])
  (hw:oA C.base (Wq C F pure) (fun i vals t Q=>i=p.id/\Iq C F pure pan f fn kf A q p vals t Q) (qK C A.la f fn.ntmps (mX l) ⟨wY p,fun _ _=>.fail,endT C fn⟩ ⟨⟨kf,Tr.ofList args,[]⟩,[],.leaf,[]⟩) t Q):Wc C F f args t Q:=by
 intro X HA ho;obtain⟨g,h1,h2⟩:=OG (args:=args) (d:=false) h.isFn h.isK h.body hl
 rw[Ie h.lt,h.prim];show zC C.base X qJ Q (zD C (sE F) (.func f) args HA)
 rw[CJ];show zC C.base X qJ Q (kT C (sE F) (zD C (sE F)) f args HA)
 unfold kT;refine zC.ob (ze6 h.isF) (zC.ob h.isFn (zC.ob h1 ?_))
 unfold mY;rw[h.split,h2];have hk:∀X0,SKt C (Wq C F pure) (fun i vals t Q=>i=p.id/\Iq C F pure pan f fn kf A q p vals t Q) X0 kf qJ Q ⟨wY p,fun _ _=>.fail,endT C fn⟩ (Dz C (sE F) (zD C (sE F)) fn q):=by
  intro X0;refine⟨fun st tm HA t X ν hst hw=>?_,fun _ _ _ _ _ _ _ _ h=>h.elim,Px⟩
  unfold wY at hw;rw[kE]at hw;obtain⟨vals,k1,_,k2⟩:=hw
  exact znu h hp hpn k2 (hst.at k1)
 exact Dr (Qu hpn) Qs (mX l) _ _ (xO.nil h.rng) hk (JOk.nil (hpts _)) _ _ _ _ _ _ _ (st_of ho rfl) hw
end
end Go.Am
namespace Go.Proofs
open Go Go.Am
variable {m:Tr tA}{Q:mB}
variable [nC]
def dq0:lQ:=⟨0,#[],0,0,[],0,#[]⟩
def cq0:ClQ:=⟨0,#[],0,0,.skip⟩
def pcs (f:Nat):List oC:=(gD ([],dq0) (tX (ao f).code)).1
def eR (f:Nat):lQ:=(gD ([],dq0) (tX (ao f).code)).2
def cqo (f:Nat):ClQ:=gD cq0 (Ic (ao f).code)
def dB (f cl:Nat):Bool := !rE (F.get f) && !rE (fns.get f) && !rE (ks.get f) && !rE (tX (ao f).code) && !rE (F.get cl) && !rE (fns.get cl) && !rE (ks.get cl) && !rE (Ic (ao cl).code)&&Nat.beq (eR f).cl cl&&defB yA F f (fo f) (ko f) (ao f) (pcs f) (eR f) (fo cl) (ko cl) (ao cl) (cqo cl)
def dA(f cl:Nat)(h:dB f cl=true:=by kernel_rfl):Me yA F f (fo f) (ko f) (ao f) (pcs f) (eR f) (fo cl) (ko cl) (ao cl) (cqo cl):=by
 unfold dB at h;simp only[ybb]at h;obtain⟨⟨⟨⟨⟨⟨⟨⟨⟨h1,h2⟩,h3⟩,h4⟩,h5⟩,h6⟩,h7⟩,h8⟩,h9⟩,h10⟩:=h
 have e:=gC.1 h9
 exact .of (gO h1) (gO h2) (gO h3) (gO h4) (by rw[e];exact gO h5) (by rw[e];exact gO h6) (by rw[e];exact gO h7) (gO h8) h10
abbrev aQ:eF:=fun _ _ _ _=>False
abbrev pR:PI:=⟨11,[1,4,5,6,8],[]⟩
abbrev pS:PI:=⟨3,[0,1,2,3],[]⟩
abbrev zP:List zA:=[.str [],.nilslice,.nilslice,.nilslice]
abbrev cP(X:sI):List zA:=[.str (X.s 0),X.v 1,X.v 2,X.v 3]
def tRun (ty:Nat)(z:List zA)(cf:sI->List zA)(p0:List Nat)(p1:zA):T:=
 .heavy (iL yA ty) fun a0=>
 .heavy (iL yA 39) fun a1=>
 .heavy (iL yA 34) fun a2=>
 .call 63 [(.str p0)] fun a3=>
 .opt (aI 0 a3) fun a4=>.opt (aI 1 a3) fun a5=>.asG [(.int .i64 0),(.int .i64 0)] a5 fun X6=>
 .opt (aI 2 a3) fun a7=>.asI .i64 a7 fun n8=>.heavy (mC yA 39 a1 (.agg [(.int .i64 (X6.i 0)),(.int .i64 (X6.i 1))])) fun _=>
 .heavy (mC yA 34 a2 (.int .i64 n8)) fun _=>
 .light (fun m=>cA yA 34 ⟨0,m⟩ a2) fun a9=>.asI .i64 a9 fun n10=>.ite (!lB n10 0)
 (.light (fun m=>cA yA ty ⟨0,m⟩ a0) fun a11=>.asG z a11 fun X12=>
 .light (fun m=>cA yA 39 ⟨0,m⟩ a1) fun a13=>.asG [(.int .i64 0),(.int .i64 0)] a13 fun X14=>
 .light (fun m=>cA yA 34 ⟨0,m⟩ a2) fun a15=>.asI .i64 a15 fun n16=>.heavy (mC yA ty a0 (.agg (cf X12))) fun _=>
 .light (fun m=>cA yA 39 ⟨0,m⟩ a1) fun a17=>.ite (same 10 a17 (.agg [(.int .i64 (X14.i 0)),(.int .i64 (X14.i 1))])) (.light (fun m=>cA yA 34 ⟨0,m⟩ a2) fun a18=>.ite (same 10 a18 (.int .i64 n16)) (.heavy (mC yA 39 a1 (.agg [(.int .i64 (X14.i 0)),(.int .i64 (X14.i 1))])) fun _=>
 .light (fun m=>cA yA 34 ⟨0,m⟩ a2) fun a19=>.ite (same 10 a19 (.int .i64 n16)) (.heavy (mC yA 34 a2 (.int .i64 n16)) fun _=>
 .light (fun m=>cA yA ty ⟨0,m⟩ a0) fun a20=>.light (fun m=>cA yA 39 ⟨0,m⟩ a1) fun a21=>.light (fun m=>cA yA 34 ⟨0,m⟩ a2) fun a22=>.ret (.tup [a20,a21,a22])) .fail) .fail) .fail)
 (.call 64 [(.str p0),(.int .i64 (Int.ofNat (yB p0)))] fun a23=>
 .asG [(.int .i64 0),(.int .i64 0)] a23 fun X24=>
 .ite (sD zA.one [a4]) (.heavy (jL (.agg [a4,(.int .i64 0),(.int .i64 0),(.int .i64 (X24.i 0)),(.int .i64 (X24.i 1))])) fun a25=>
 .jump 11 [p1,a0,a1,a2,a25]) .fail)
def tR13 (ty:Nat)(z:List zA)(cf:sI->List zA)(v1 v4 v5 v6 v8:zA):T:=
 .callv v1 [v8] fun a0=>
 .asG z a0 fun X1=>
 .ite true (.heavy (mC yA ty v4 (.agg (cf X1))) fun _=>
 .heavy (mC yA 39 v5 (.agg [(.int .i64 0),(.int .i64 0)])) fun _=>
 .heavy (mC yA 34 v6 (.int .i64 0)) fun _=>
 .light (fun m=>cA yA ty ⟨0,m⟩ v4) fun a2=>.light (fun m=>cA yA 39 ⟨0,m⟩ v5) fun a3=>.light (fun m=>cA yA 34 ⟨0,m⟩ v6) fun a4=>.ret (.tup [a2,a3,a4])) .fail
def tR3 (ty:Nat)(z:List zA)(v0 v1 v2 v3:zA):T:=
 .opt ((Cu .neq).f yA 20 (.tmp 8) (.const .nilIface) v3 .niliface) fun a0=>.asB a0 fun b1=>.ite b1
 (.heavy (mC yA ty v0 (.agg z)) fun _=>
 .heavy (mC yA 34 v1 (.int .i64 120)) fun _=>
 .opt (Rp yA 143 true v3) fun a2=>.opt (aI 0 a2) fun a3=>.asG [(.int .i64 0),(.int .i64 0),(.int .i64 0)] a3 fun X4=>
 .opt (aI 1 a2) fun a5=>.asB a5 fun b6=>.ite true (.ite b6
 (.heavy (mC yA 39 v2 (.agg [(.int .i64 (X4.i 0)),(.int .i64 (X4.i 1))])) fun _=>
 .ite (same 10 (.int .i64 (X4.i 2)) (.int .i64 (X4.i 2))) (.heavy (mC yA 34 v1 (.int .i64 (X4.i 2))) fun _=>
 .ret (.tup [])) .fail)
 (.ret (.tup []))) .fail)
 (.ret (.tup []))
def tRe (ty:Nat)(v4 v5 v6:zA):T:=.light (fun m=>cA yA ty ⟨0,m⟩ v4) fun a2=>.light (fun m=>cA yA 39 ⟨0,m⟩ v5) fun a3=>.light (fun m=>cA yA 34 ⟨0,m⟩ v6) fun a4=>.ret (.tup [a2,a3,a4])
def t29:List Nat->zA->T:=tRun 31 zE cE
def Xm:zA->zA->zA->zA->zA->T:=tR13 31 zE cE
def zgu:zA->zA->zA->zA->T:=tR3 31 zE
def zgy:zA->zA->zA->T:=tRe 31
def e29(p0:List Nat)(p1:zA):qK yA (ao 29).la 29 (fo 29).ntmps (mX (pcs 29)) ⟨wY pR,fun _ _=>.fail,Am.endT yA (fo 29)⟩ ⟨⟨ko 29,Tr.ofList [(.str p0),p1],[]⟩,[],.leaf,[]⟩=t29 p0 p1:=by kernel_rfl
def e29_13(v1 v4 v5 v6 v8:zA):qK yA (ao 29).la 29 (fo 29).ntmps (.region (eR 29).i6 (eR 29).o6 false) ⟨Am.endT yA (fo 29),fun _ _=>.fail,fun _=>.fail⟩ (oK (ko 29) pR [v1,v4,v5,v6,v8])=Xm v1 v4 v5 v6 v8:=by kernel_rfl
def e29_e(v1 v4 v5 v6 v8:zA):Am.endT yA (fo 29) (oK (ko 29) pR [v1,v4,v5,v6,v8]).cut=zgy v4 v5 v6:=by kernel_rfl
def e65_3(v0 v1 v2 v3:zA):qK yA (ao 65).la (eR 29).cl (fo 65).ntmps (cqo 65).c (An yA (fo 65)) (oK (ko 65) pS [v0,v1,v2,v3])=zgu v0 v1 v2 v3:=by kernel_rfl
def nil65(a b c:zA)(HA:xA):aR yA (sE F) (zD yA (sE F)) (eR 29).cl [a,b,c] .niliface HA=some (⟨.tup [],false⟩,HA):=by kernel_rfl
def tl29(v1 v4 v5 v6 v8:zA)  (h:oA yA.base (rG yA F jC mG fun v t'=>oA yA.base (Wq yA F jC) aQ (zgu v4 v6 v5 v) t' fun _ t''=>oA yA.base (Wq yA F jC) aQ (zgy v4 v5 v6) t'' Q) aQ (Xm v1 v4 v5 v6 v8) m Q) :
  Iq yA F jC mG 29 (fo 29) (ko 29) (ao 29) (eR 29) pR [v1,v4,v5,v6,v8] m Q:=by
 refine⟨[v4,v6,v5],(fun v t'=>oA yA.base (Wq yA F jC) aQ (zgu v4 v6 v5 v) t' fun _ t''=>oA yA.base (Wq yA F jC) aQ (zgy v4 v5 v6) t'' Q),by kernel_rfl,nil65 _ _ _,fun v t' hv=>?_,by rw[e29_13];exact h⟩
 refine ze9 (dA 29 65) (p:=pS) (W:=Wq yA F jC) (Qu (by kernel_rfl)) Qs (by intro κ;kernel_rfl) (by kernel_rfl) (vals:=[v4,v6,v5,v]) (by kernel_rfl) (J:=aQ) ?_
 rw[e65_3,e29_e];exact hv
def w29(p0:List Nat)(p1:zA)  (h:oA yA.base (Wq yA F jC) (fun i vals t Q=>i=11/\Iq yA F jC mG 29 (fo 29) (ko 29) (ao 29) (eR 29) pR vals t Q) (t29 p0 p1) m Q):Wf 29 [(.str p0),p1] m Q:=
 zm3 (pan:=mG) (dA 29 65) (p:=pR) rfl (by kernel_rfl) (by kernel_rfl) (by intro κ;kernel_rfl) (by rw[e29];exact h)
def t36:List Nat->zA->T:=tRun 28 zV cV
def Xb:zA->zA->zA->zA->zA->T:=tR13 28 zV cV
def zgr:zA->zA->zA->zA->T:=tR3 28 zV
def zgx:zA->zA->zA->T:=tRe 28
def e36(p0:List Nat)(p1:zA):qK yA (ao 36).la 36 (fo 36).ntmps (mX (pcs 36)) ⟨wY pR,fun _ _=>.fail,Am.endT yA (fo 36)⟩ ⟨⟨ko 36,Tr.ofList [(.str p0),p1],[]⟩,[],.leaf,[]⟩=t36 p0 p1:=by kernel_rfl
def e36_13(v1 v4 v5 v6 v8:zA):qK yA (ao 36).la 36 (fo 36).ntmps (.region (eR 36).i6 (eR 36).o6 false) ⟨Am.endT yA (fo 36),fun _ _=>.fail,fun _=>.fail⟩ (oK (ko 36) pR [v1,v4,v5,v6,v8])=Xb v1 v4 v5 v6 v8:=by kernel_rfl
def e36_e(v1 v4 v5 v6 v8:zA):Am.endT yA (fo 36) (oK (ko 36) pR [v1,v4,v5,v6,v8]).cut=zgx v4 v5 v6:=by kernel_rfl
def e76_3(v0 v1 v2 v3:zA):qK yA (ao 76).la (eR 36).cl (fo 76).ntmps (cqo 76).c (An yA (fo 76)) (oK (ko 76) pS [v0,v1,v2,v3])=zgr v0 v1 v2 v3:=by kernel_rfl
def nil76(a b c:zA)(HA:xA):aR yA (sE F) (zD yA (sE F)) (eR 36).cl [a,b,c] .niliface HA=some (⟨.tup [],false⟩,HA):=by kernel_rfl
def tl36(v1 v4 v5 v6 v8:zA)  (h:oA yA.base (rG yA F jC mG fun v t'=>oA yA.base (Wq yA F jC) aQ (zgr v4 v6 v5 v) t' fun _ t''=>oA yA.base (Wq yA F jC) aQ (zgx v4 v5 v6) t'' Q) aQ (Xb v1 v4 v5 v6 v8) m Q) :
  Iq yA F jC mG 36 (fo 36) (ko 36) (ao 36) (eR 36) pR [v1,v4,v5,v6,v8] m Q:=by
 refine⟨[v4,v6,v5],(fun v t'=>oA yA.base (Wq yA F jC) aQ (zgr v4 v6 v5 v) t' fun _ t''=>oA yA.base (Wq yA F jC) aQ (zgx v4 v5 v6) t'' Q),by kernel_rfl,nil76 _ _ _,fun v t' hv=>?_,by rw[e36_13];exact h⟩
 refine ze9 (dA 36 76) (p:=pS) (W:=Wq yA F jC) (Qu (by kernel_rfl)) Qs (by intro κ;kernel_rfl) (by kernel_rfl) (vals:=[v4,v6,v5,v]) (by kernel_rfl) (J:=aQ) ?_
 rw[e76_3,e36_e];exact hv
def w36(p0:List Nat)(p1:zA)  (h:oA yA.base (Wq yA F jC) (fun i vals t Q=>i=11/\Iq yA F jC mG 36 (fo 36) (ko 36) (ao 36) (eR 36) pR vals t Q) (t36 p0 p1) m Q):Wf 36 [(.str p0),p1] m Q:=
 zm3 (pan:=mG) (dA 36 76) (p:=pR) rfl (by kernel_rfl) (by kernel_rfl) (by intro κ;kernel_rfl) (by rw[e36];exact h)
end Go.Proofs
