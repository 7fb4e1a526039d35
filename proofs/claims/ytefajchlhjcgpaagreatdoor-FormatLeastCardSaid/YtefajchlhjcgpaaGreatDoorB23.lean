/- The parser: chains, the rules of expressions over operands. -/
import Derived.Test.YtefajchlhjcgpaaGreatDoorB22
set_option linter.all false
noncomputable section
set_option maxRecDepth 100000
namespace Go.Proofs
open Go Go.Am
variable {l:List (List Nat × Nat)}{v:zA}{b op op':Nat}{w w':List Nat}
variable [rC]
def PR.bind_ok{α β:Type}{r:PR α}{f:α->Nat->PR β}{b:β}{n:Nat}(h:r.bind f=.ok b n):∃a n1,r=.ok a n1/\f a n1=.ok b n:=by
 cases r with
 | ok a n1=>exact⟨a,n1,rfl,h⟩
 | er e i=>cases h
section
variable {tk:List eC}{o:PM mA}
theorem zc2(h:Up o)  : ∀(m:Nat) (x:mA) (n:Nat) (y:mA) (n':Nat),oY tk o l m x n=.ok y n'->n<=n':=by
 intro m;induction m with
 | zero=>intro x n y n' hh;cases hh;omega
 | succ m ih=>
  intro x n y n' hh;unfold oY at hh
  cases hop:lO tk l n with
  | none=>simp_all
  | some op=>
   rw[hop]at hh;obtain⟨a,n1,h1,h2⟩:=PR.bind_ok hh
   have:=h _ _ _ h1
   grind
def Ob(h:Up o)  : Up (aU tk o l):=by
 intro n a n' hh;obtain⟨x,n1,h1,h2⟩:=PR.bind_ok hh
 have:=h _ _ _ h1
 have:=zc2 h _ _ _ _ _ h2
 omega
theorem zgw(h:Up o):Up (Ji tk o):=by
 intro n a n' hh;obtain⟨x,n1,h1,h2⟩:=PR.bind_ok hh
 have hs:Up (sumP tk o):=Ob (Ob h)
 have:=hs _ _ _ h1
 cases hop:lO tk [([60],13),([61],14)] n1 with
 | none=>simp_all
 | some op=>
  rw[hop]at h2;obtain⟨y,n2,h3,h4⟩:=PR.bind_ok h2
  have:=hs _ _ _ h3
  grind
theorem IY(h:Up o):Up (Mj tk o):=by
 intro n a n' hh;obtain⟨x,n1,h1,h2⟩:=PR.bind_ok hh
 have:=zgw h _ _ _ h1
 grind
def PG(h:Up o):Up (znt tk o):=Ob (IY h)
def zgb(h:Up o):Up (Ax tk o):=Ob (PG h)
end
section
variable {P:rM}{tf t:Tr tA}{n d:Nat}{Q E:mB}{J:mF}{o:PM mA}{g:Nat}
def Xu{W:mF}{x:mA} (hrd:sL tf x v)(k:Q v t):oA yA.base W J (.asG zE v fun X=>.ite (fD zA.one (cE X)) (.ret (.agg (cE X))) .fail) t Q:=by
 obtain⟨cs,rfl,hx⟩:=hrd
 obtain⟨a,b,c,rfl,_⟩:=qH hx
 exact bC (dQ hx) (pA hx.all k)
theorem PQ  (ho:oI P d o g)(hup:Up o)(hl:l.length<1000)(h:St P tf t n d)(hv:cA tf 2 (l.map OpD) v)(hk:Ok P sL d tf (aU P.tk o l n) Q E)
  (hg:Nat.blt g pn=true:=by kernel_rfl) (hp1:(wD g&&Nat.blt g yo)=false:=by kernel_rfl) (hp2:Nat.beq g pn=false:=by kernel_rfl) (hp3:(yH g&&Nat.blt g pn)=true:=by kernel_rfl):tM yA F E 66 [.ptr P.bp 0,.func (.func g) [.ptr P.bp 0] [],v] t Q:=by
 refine w66 ?_
 unfold t66 uG yC uZ uY eF;refine nV (zc6 hg) ?_
 have e:∀a R,zG yA F wD yH E g a t R=tM yA F E g a t R:=fun a R=>by grind [zG]
 rw[e];refine ho _ _ _ _ _ h (hk.bind fun x n1 tf1 t1 vy hr hle hst hrd hk1=>?_)
 obtain⟨cs,rfl,hx⟩:=hrd
 have hx':=hx
 obtain⟨a,b,c,rfl,_⟩:=qH hx
 refine bC (dQ hx) (pA hx.all (jC ?_))
 exact YR ho hup hg hp1 hp2 hp3 hl P.tk.length n1 x _ tf1 t1 Q E (Nat.sub_le _ _) hst (hv.mono hle) hx' hk1
def St.ops1   (h:St P tf t n d)(hb:t.get b=none) :
  ∃tf' t',wE yA 201 1 [(0,.agg [.str w,.int .u8 (op:Int)])] ⟨b,t⟩=some (.slice b 0 1 1,⟨b+1,t'⟩)/\bA tf tf'/\St P tf' t' n d/\cA tf' 2 ([(w,op)].map OpD) (.slice b 0 1 1):=by
 have hf:kL (fun i=>some (i*2,2)) [(0,.agg [.str w,.int .u8 (op:Int)])] (xI [.str [],.int .u8 0] 1)=some [[zA.str w,.int .u8 (op:Int)]].flatten:=by
  rw[Nl (sz:=2) (z:=[.str [],.int .u8 0]) (v:=.agg [.str w,.int .u8 (op:Int)]) rfl rfl];rfl
 exact h.lit (k:=1) (sz:=2) (ds:=[OpD (w,op)]) (cl:=[[.str w,.int .u8 (op:Int)]]) zkk rfl zkl rfl rfl (by omega) hf (Md rfl) rfl (cG.2 ⟨_,_,rfl,zlk (w,op),cH.2 rfl⟩) hb
def St.ops2   (h:St P tf t n d)(hb:t.get b=none) :
  ∃tf' t',wE yA 201 2 [(0,.agg [.str w,.int .u8 (op:Int)]),(1,.agg [.str w',.int .u8 (op':Int)])] ⟨b,t⟩=some (.slice b 0 2 2,⟨b+1,t'⟩)/\bA tf tf'/\St P tf' t' n d/\cA tf' 2 ([(w,op),(w',op')].map OpD) (.slice b 0 2 2):=
 h.lit (k:=2) (sz:=2) (ds:=[OpD (w,op),OpD (w',op')]) (cl:=[[.str w,.int .u8 (op:Int)],[.str w',.int .u8 (op':Int)]]) zkk rfl zkl rfl rfl (by omega) (NV rfl rfl rfl) (zhk rfl rfl) rfl (cG.2 ⟨_,_,rfl,zlk (w,op),cG.2 ⟨_,_,rfl,zlk (w',op'),cH.2 rfl⟩⟩) hb
def zjx  (ho:oI P d o g)(hup:Up o)(h:St P tf t n d)(hk:Ok P sL d tf (aU P.tk o [(w,op),(w',op')] n) Q E)
  (hg:Nat.blt g pn=true:=by kernel_rfl) (hp1:(wD g&&Nat.blt g yo)=false:=by kernel_rfl) (hp2:Nat.beq g pn=false:=by kernel_rfl) (hp3:(yH g&&Nat.blt g pn)=true:=by kernel_rfl) :
  oA yA.base (zG yA F wD yH E) J (.heavy (wE yA 201 2 [(0,.agg [.str w,.int .u8 (op:Int)]),(1,.agg [.str w',.int .u8 (op':Int)])]) fun a=>.call 66 [.ptr P.bp 0,.func (.func g) [.ptr P.bp 0] [],a] fun v=>.asG zE v fun X=>.ite (fD zA.one (cE X)) (.ret (.agg (cE X))) .fail) t Q:=by
 refine gC fun b hb _=>?_
 obtain⟨tf1,t1,h1,h2,h3,h4⟩:=h.ops2 (w:=w) (w':=w') (op:=op) (op':=op') hb
 refine⟨_,_,h1,xB ?_⟩
 rw[pE 66];refine PQ ho hup (by simp) h3 h4 ?_ hg hp1 hp2 hp3
 have hk:=hk.mono h2
 revert hk
 generalize aU P.tk o [(w,op),(w',op')] n=r
 intro hk
 cases r with
 | ok x n1=>exact fun tf2 t2 v k1 k2 k3=>Xu k3 (hk tf2 t2 v k1 k2 k3)
 | er e i=>exact hk
def zjy  (ho:oI P d o g)(hup:Up o)(h:St P tf t n d)(hk:Ok P sL d tf (aU P.tk o [(w,op)] n) Q E)
  (hg:Nat.blt g pn=true:=by kernel_rfl) (hp1:(wD g&&Nat.blt g yo)=false:=by kernel_rfl) (hp2:Nat.beq g pn=false:=by kernel_rfl) (hp3:(yH g&&Nat.blt g pn)=true:=by kernel_rfl) :
  oA yA.base (zG yA F wD yH E) J (.heavy (wE yA 201 1 [(0,.agg [.str w,.int .u8 (op:Int)])]) fun a=>.call 66 [.ptr P.bp 0,.func (.func g) [.ptr P.bp 0] [],a] fun v=>.asG zE v fun X=>.ite (fD zA.one (cE X)) (.ret (.agg (cE X))) .fail) t Q:=by
 refine gC fun b hb _=>?_
 obtain⟨tf1,t1,h1,h2,h3,h4⟩:=h.ops1 (w:=w) (op:=op) hb
 refine⟨_,_,h1,xB ?_⟩
 rw[pE 66];refine PQ ho hup (by simp) h3 h4 ?_ hg hp1 hp2 hp3
 have hk:=hk.mono h2
 revert hk
 generalize aU P.tk o [(w,op)] n=r
 intro hk
 cases r with
 | ok x n1=>exact fun tf2 t2 v k1 k2 k3=>Xu k3 (hk tf2 t2 v k1 k2 k3)
 | er e i=>exact hk
def zle(ho:oI P d o 287)(hup:Up o):oI P d (prodP P.tk o) 266:=fun tf t n Q E h hk=>by
 refine w266 ?_
 unfold t266 uG yC uZ uY eF kD;exact pA rfl (pA rfl (zjx ho hup h hk))
def zh7(ho:oI P d o 287)(hup:Up o):oI P d (sumP P.tk o) 231:=fun tf t n Q E h hk=>by
 refine w231 ?_
 unfold t231 uG yC uZ uY eF kD;exact pA rfl (pA rfl (zjx (zle ho hup) (Ob hup) h hk))
def znw(ho:oI P d o 287)(hup:Up o):oI P d (Ji P.tk o) 181:=fun tf t n Q E h hk=>by
 refine w181 ?_
 unfold t181 uU uB uG yC uX uZ uY eF kD;refine xB ?_
 rw[pE 231];refine zh7 ho hup _ _ _ _ _ h (hk.bind fun x n1 tf1 t1 v hr hle hst hrd hk1=>?_)
 obtain⟨cs,rfl,hx⟩:=hrd
 obtain⟨a,b,c,rfl,_⟩:=qH hx
 refine bC (dQ hx) (pA hx.all (pA rfl (pA rfl (gC fun b hb _=>?_))))
 obtain⟨tf2,t2,k1,k2,k3,k4⟩:=hst.ops2 (w:=[60]) (op:=13) (w':=[61]) (op':=14) hb
 refine⟨_,_,k1,xB ?_⟩
 rw[pW 128];refine Yl k4 (by simp) k3 fun t3=>?_
 cases hop:lO P.tk [([60],13),([61],14)] n1 with
 | none=>
  rw[hop]at hk1;intro h';have hx2:=RD.mono k2 _ _ hx
  exact rA rfl (rB (rA rfl (sD (pA rfl (pA hx.all (Ok.now (hk1.mono k2) h' ⟨_,rfl,hx2⟩))))))
 | some op=>
  rw[hop]at hk1;intro h';refine rA rfl (rB (rA rfl (sD (zB (by simp) (xB ?_)))))
  rw[pE 231];refine zh7 ho hup _ _ _ _ _ h' ((hk1.mono k2).bind fun y n2 tf3 t4 v hr2 hle2 hst2 hrd2 hk2=>?_)
  obtain⟨cs2,rfl,hy⟩:=hrd2
  obtain⟨a',b',c',rfl,_⟩:=qH hy
  refine bC (dQ hy) (pA hy.all (gC fun b hb _=>?_))
  obtain⟨tf4,t5,m1,m2,m3,m4⟩:=hst2.pair (RD.mono (k2.trans hle2) _ _ hx) hy hb
  exact⟨_,_,m1,pA (zln rfl rfl) (pA (Tz m4).all (Ok.now (hk2.mono m2) m3 ⟨_,rfl,Tz m4⟩))⟩
theorem zab{k:Nat}{Q:mB}{P:rM}{n d:Nat}:∀(k:Nat) (x:mA) (cs:List zA) (tf t:Tr tA),k<1000000000->St P tf t n d->RD tf x.d cs->Ok P sL d tf (.ok (Km k x) n) Q E->fJ E 129 6 ([.int .i64 (k:Int)]++zE++cs) t Q:=by
 intro k;induction k with
 | zero=>
  intro x cs tf t _ h hx hk;obtain⟨a,b,c,rfl,_⟩:=qH hx
  refine zjg ?_
  unfold Wu yC uZ uY uW;exact zB (by simp[dC]) (pA hx.all (Ok.now hk h ⟨_,rfl,hx⟩))
 | succ k ih=>
  intro x cs tf t hkl h hx hk;obtain⟨a,b,c,rfl,_⟩:=qH hx
  refine zjg ?_
  unfold Wu yC uZ uY uW;refine pA (by grind [dC]) (gC fun b hb _=>?_)
  obtain⟨tf1,t1,h1,h2,h3,h4⟩:=h.sole hx hb
  have hu:=un_rd (op:=17) (w:=[]) h4
  refine⟨_,_,h1,pA (zln rfl rfl) (pA hu.all (jC ?_))⟩
  have e:fA .i64 (((k+1:Nat):Int)-1)=(k:Int):=by grind [wrap_i64]
  rw[e];exact ih (unX 17 [] x) _ tf1 t1 (by omega) h3 hu (hk.mono h2)
theorem Yr{tk:List eC}:∀(m m' n:Nat),tk.length<=n+m->tk.length<=n+m'->fR tk m n=fR tk m' n:=by
 have z:∀m n,tk.length<=n->fR tk m n=0:=by
  intro m n h
  cases m with
  | zero=>rfl
  | succ m=>
   unfold fR;rw[yaa];intro ha;have:=Ui (P:=⟨tk,0,.nilptr,0,0,[]⟩) ha
   grind
 intro m;induction m with
 | zero=>intro m' n h1 h2;rw[z 0 n (by omega),z m' n (by omega)]
 | succ m ih=>
  intro m' n h1 h2
  cases m' with
  | zero=>rw[z (m+1) n (by omega),z 0 n (by omega)]
  | succ m'=>
   grind [fR]
theorem zlu(ho:oI P d o 287)(hup:Up o):oI P d (Mj P.tk o) 129:=fun tf t n Q E h hk=>by
 refine w129 ?_
 unfold t129 uZ uY;refine jC ?_
 have loop:∀(m i n:Nat) (t:Tr tA),fR P.tk P.tk.length n=m->i<=n->St P tf t n d->Ok P sL d tf ((Ji P.tk o (n+m)).bind fun x n'=>.ok (Km (i+m) x) n') Q E->fJ E 129 2 ([.ptr P.bp 0,.int .i64 (i:Int)]++zE) t Q:=by
  intro m;induction m with
  | zero=>
   intro i n t hm hi h hk;refine zjh ?_
   unfold Wv uB uG yC vC uZ uY eF;have hl:=h.len
   refine cQ h (fun ha t' h'=>?_) fun ha t' h'=>?_
   ·have:n<P.tk.length:=Ui ha
    rw[Yr _ (P.tk.length+1) _ (by omega) (by omega)]at hm
    grind [fR]
   ·refine xB ?_
    rw[pE 181];refine znw ho hup _ _ _ _ _ h' (hk.bind fun x n1 tf1 t1 v hr hle hst hrd hk1=>?_)
    obtain⟨cs,rfl,hx⟩:=hrd
    have hx':=hx
    obtain⟨a,b,c,rfl,_⟩:=qH hx
    refine bC (dQ hx) (pA hx.all (jC ?_))
    exact zab (k:=0) i x _ tf1 t1 (by have:=h.le;omega) hst hx' hk1
  | succ m ih=>
   intro i n t hm hi h hk;refine zjh ?_
   unfold Wv uB uG yC vC uZ uY eF;have hl:=h.len
   refine cQ h (fun ha t' h'=>?_) fun ha t' h'=>?_
   ·have hlt:n<P.tk.length:=Ui ha
    rw[Yr _ (P.tk.length+1) _ (by omega) (by omega)]at hm
    unfold fR at hm;rw[yab ha]at hm;have e:fA .i64 ((i:Int)+1)=((i+1:Nat):Int):=by grind [wrap_i64]
    refine jC ?_
    rw[e];exact ih (i+1) (n+1) t' (by omega) (by omega) h' (by rwa [show n+1+m=n+(m+1) by omega,show i+1+m=i+(m+1) by omega])
   ·rw[Yr _ (P.tk.length+1) _ (by omega) (by omega)]at hm
    grind [fR]
 exact loop _ 0 n t rfl (by omega) h (by rw[ybw];exact hk)
def zns(ho:oI P d o 287)(hup:Up o):oI P d (znt P.tk o) 67:=fun tf t n Q E h hk=>by
 refine w67 ?_
 unfold t67 uG yC uZ uY eF kD;exact pA rfl (zjy (zlu ho hup) (IY hup) h hk)
def AW(ho:oI P d o 287)(hup:Up o):oI P d (Ax P.tk o) 31:=fun tf t n Q E h hk=>by
 refine w31 ?_
 unfold t31 uG yC uZ uY eF kD;exact pA rfl (zjy (zns ho hup) (PG hup) h hk)
end
end Go.Proofs
namespace Go.Proofs
open Go Go.Am
section
variable {i k:Nat}{f:Nat->List Nat}
variable [rC]
structure Dw:Prop where
 frac:∀ {s:List Nat} {neg:Bool} {tf t:Tr tA} {L:List pF} {Q:mB},dZ s->yB yA.base tf t L->(∀tf' t' cs,bA tf tf'->yB yA.base tf' t' L->RD tf' (tY s neg).dd cs->Q (.agg cs) t')->Wc yA F 80 [.str s,.bool neg] t Q
 int:∀ {s:List Nat} {neg:Bool} {lo hi:Int} {t:Tr tA},dZ s->wN s=false -> -4294967296<=lo->hi<=4294967296->∃i:Int,lB yA F 144 [.str s,.bool neg,.int .i64 lo,.int .i64 hi] t=some (.tup [.int .i64 i,.bool (nW s neg lo hi).isSome])/\∀j,nW s neg lo hi=some j->i=j
 date:∀ {s:List Nat} {t:Tr tA},bK t->Tk s->lB yA F 138 [.str s] t=some (.tup [.int .i64 (((Ba s).getD 0:Nat):Int),.int .i64 0])
theorem YJ:∀s:List Nat,Bc [47] s=wN s:=by
 intro s;unfold wN;induction s with
 | nil=>rfl
 | cons b s ih=>
  unfold Bc;rw[ih,List.contains_cons];have e:oW [47] (b::s)=(47 == b):=by
   grind [oW,fC]
  rw[e]
  cases (47 == b)<;>rfl
theorem Vj{tk:List eC}{n n1:Nat}{a:List Nat}(h:pV tk k n=.ok a n1):aM tk k n=true/\a=tR tk n/\n1=n+1:=by
 grind [pV]
section
variable {P:rM}{tf t:Tr tA}{n d:Nat}{Q E:mB}{J:mF}{o:PM mA}
theorem St.at(h:St P tf t n d) (hk:aM P.tk k i=true):∃x∈P.tk,x.kind=k/\x.text=tR P.tk i:=by
 grind [aM,tR]
def St.num(h:St P tf t n d) (hk:aM P.tk 2 i=true):dZ (tR P.tk i):=by
 obtain⟨x,h1,h2,h3⟩:=h.at hk
 rw[<- h3];exact(h.good x h1).1 h2
def St.date(h:St P tf t n d) (hk:aM P.tk 3 i=true):Tk (tR P.tk i):=by
 obtain⟨x,h1,h2,h3⟩:=h.at hk
 rw[<- h3];exact(h.good x h1).2 h2
def znm(hL:Dw)(h:St P tf t n d)(hk:Ok P rdInt d tf (znn P.tk n) Q E):tM yA F E 79 [.ptr P.bp 0] t Q:=by
 refine w79 ?_
 unfold t79 uI uG uX uZ uY;refine xB ?_
 rw[pE 68];refine Lb (k:=3) (by omega) h (hk.bind fun a n1 tf1 t1 v hr hle hst hrd hk1=>?_)
 obtain⟨x,_,e,rfl⟩:=hrd
 obtain⟨h1,h2,_⟩:=Vj hr
 have hd:=h.date h1
 rw[<- h2]at hd;refine bC (agT _) (xB ?_)
 rw[pQ 138,cT1,e,hL.date (hst.glob.mono hst.ob.tle) hd,vA]
 exact rA rfl (rB (rA rfl (rB (Ok.now hk1 hst rfl))))
theorem zkd{ty b:Nat} (hT:yA.tys.get ty=some ⟨.arr 7 9,7,112,[.str [],.str [],.str [],.str [],.str [],.str [],.str []],true⟩)(h:At t b 0 ((List.range 7).map fun i=>.str (f i))) (hi:i<7) :
  tC yA ty (.ptr b 0) (.int .u8 (i:Int))=some (.ptr b (0+i))/\iA yA 9 ⟨0,t⟩ (.ptr b (0+i))=some (.str (f i)):=by
 refine⟨?_,h.load1 yL rfl ?_⟩
 ·unfold tC
  rw[hT,qA];have e:(zA.int .u8 (i:Int)).asNat=some i:=rfl
  rw[e,qA];simp only[zA.asSlice];simp only[zA.asPtr,xE.asArr,qA];rw[yL,qA,nC.2 hi,cD,Nat.mul_one]
 simp_all
theorem zlv(hg:bK t) (hi:i<256):lB yA F 170 [.int .u8 (i:Int)] t=some (.str (Fk i)):=by
 refine kC.2 (w170 ?_)
 unfold t170 uS;have hw:fA .i64 (i:Int)=(i:Int):=wrap_i64 (by omega) (by omega)
 by_cases h7:i<7
 ·obtain⟨h1,h2⟩:=zkd ty223 hg.2.1 h7
  exact pA (by grind [dC]) (rA h1 (aB h2 (eD ⟨rfl,rfl⟩)))
 ·refine zB (by grind [dC]) ⟨?_,rfl⟩
  have:Fk i=[]:=by
   match i,h7 with
   | i+7,_=>rfl
  rw[this]
theorem zc0 {g most:Nat}(hf:∀(t:Tr tA),bK t->∀i:Nat,i<256->lB yA F g [.int .u8 (i:Int)] t=some (.str (f i)))(hg:Nat.blt g pn=true)(hp:(wD g&&Nat.blt g yo)=true)(hm:most<200)(h:St P tf t n d)(hk:Ok P rdU8 d tf (pY P.tk f most most 1 n) Q E):tM yA F E 201 [.ptr P.bp 0,.int .u8 1,.int .u8 (most:Int),.func (.func g) [] []] t Q:=by
 refine w201 ?_
 unfold t201 uY;refine jC ?_
 have loop:∀(k i:Nat) (t:Tr tA),i+k=most+1->St P tf t n d->Ok P rdU8 d tf (pY P.tk f most k i n) Q E->fJ E 201 2 [.ptr P.bp 0,.int .u8 (most:Int),.func (.func g) [] [],.int .u8 (i:Int)] t Q:=by
  intro k;induction k with
  | zero=>
   intro i t hi h hk;refine zi7 ?_
   unfold Wh uB uS uZ uY;exact zB (by grind [jQ]) (xB (Ok.fail h hk))
  | succ k ih=>
   intro i t hi h hk;refine zi7 ?_
   unfold Wh uB uS uZ uY;unfold pY at hk;rw[yaa (by omega)]at hk
   have e:eK (.func (.func g) [] []) [.int .u8 (i:Int)]=some (g,[.int .u8 (i:Int)]):=by
    unfold eK;simp only[zA.asFunc,qA,hg,cD];rfl
   refine pA (by grind [jQ]) (nV e ?_)
   unfold zG;rw[yab hp,hf t (h.glob.mono h.ob.tle) i (by omega),vA]
   refine eD (cQ h (fun ha t' h'=>?_) fun ha t' h'=>?_)
   ·rw[ha]at hk
    exact Ok.now hk h' rfl
   grind [Gy,jC]
 grind
end
end
section
variable {neg:Bool}
variable [rC]
def Ks{t:Tr tA}{k:Nat}{i:Int}:RD t (zF.d ⟨k,aK,i⟩) [.int .u8 (k:Int),.bool false,.nilslice,.bool false,.nilslice,.int .i64 i]:=Fl (x:=⟨k,aK,i⟩) sP sP
def MX{t:Tr tA}{f:eE}{cs:List zA}(h:RD t f.dd cs):∃u v,cs=[.bool f.n.neg,u,.bool f.d.neg,v]/\wK [.bool false,.nilslice,.bool false,.nilslice] (.agg cs)=some (cellsOf cs)/\∀(k:Nat) (i:Int),RD t (zF.d ⟨k,f,i⟩) [.int .u8 (k:Int),.bool f.n.neg,u,.bool f.d.neg,v,.int .i64 i]:=by
 obtain⟨u,v,rfl,h1,h2⟩:=Go.Am.rd_frac h
 exact⟨u,v,rfl,iS h (eE.zs _),fun k i=>Fl (x:=⟨k,f,i⟩) h1 h2⟩
section
variable {P:rM}{tf t:Tr tA}{n d:Nat}{Q E:mB}{J:mF}{o:PM mA}
def MW{K:zA->T}{s:List Nat} (hL:Dw)(h:St P tf t n d)(hs:dZ s)(k:∀tf' t' cs,bA tf tf'->St P tf' t' n d->RD tf' (tY s neg).dd cs->oA yA.base (zG yA F wD yH E) J (K (.agg cs)) t' Q) :
  oA yA.base (zG yA F wD yH E) J (.call 80 [.str s,.bool neg] K) t Q:=by
 refine xB ?_
 rw[pW 80];exact hL.frac hs h.ob fun tf' t' cs k1 k2 k3=>k tf' t' cs k1 ⟨h.ts.mono k1,k2,h.len,h.le,h.good,h.glob.mono k1⟩ k3
theorem zet(hL:Dw) (h:St P tf t n d)(hk:Ok P rdXV d tf (Fb P.tk neg n) Q E):tM yA F E 81 [.ptr P.bp 0,.bool neg] t Q:=by
 refine w81 ?_
 unfold t81 uI uB uG yC oC uZ uY;refine rA nl (rA f1 (aB h.l1 (rB (xB ?_))))
 rw[pE 68];unfold Fb at hk;refine Lb (k:=2) (by omega) h (hk.bind fun a n1 tf1 t1 v hr hle hst hrd hk1=>?_)
 obtain⟨x,_,e,rfl⟩:=hrd
 obtain⟨g1,g2,g3⟩:=Vj hr
 have hn:=h.num g1
 rw[<- g2]at hn;have hnl:=h.le
 subst e;refine bC (agT _) (pA rfl (rA nl (rA f1 (aB hst.l1 (rB ?_)))))
 have tail:∀(k:Nat) (t2:Tr tA),St P tf1 t2 (n1+1) d->Ok P rdXV d tf1 (if wN x.text then .er 120 n1 else match nW x.text neg (-1048576) 1048576 with
   | none=>.er 121 n
   | some i=>.ok ⟨k,aK,i⟩ (n1+1)) Q E->fJ E 81 21 [.ptr P.bp 0,.bool neg,.int .i64 (n:Int),.int .u8 (k:Int),.int .i64 (n1:Int),.int .u8 0,.bool false,.nilslice,.bool false,.nilslice,.int .i64 0,.int .u8 (x.kind:Int),.str x.text,.int .i64 (x.line:Int),.int .i64 (x.col:Int)] t2 Q:=by
  intro k t2 h2 hk2;refine j81_21 ?_
  unfold zhs uB oC uZ uY;refine xB ?_
  rw[pQ 143,OZ (by have:=hn.1;omega),vA,YJ]
  refine sD ?_
  cases hs:wN x.text with
  | true=>
   rw[hs,yab rfl]at hk2;refine pA rfl (rA nl (rA f1 (gC fun b _ _=>?_)))
   obtain⟨t3,k1,k2⟩:=h2.set1 (n':=n1) (by have:=h2.le;omega)
   exact⟨_,_,k1 b,xB (Ok.fail k2 hk2)⟩
  | false=>
   rw[hs,yaa (by simp)]at hk2
   refine zB (by simp) (jC (j81_27 ?_))
   unfold zhr uR0 uI uB oC uX uZ uY;obtain⟨i,hi,hj⟩:=hL.int (s:=x.text) (neg:=neg) (lo := -1048576) (hi:=1048576) (t:=t2) hn hs (by omega) (by omega)
   refine xB ?_
   rw[pQ 144,hi,vA];refine rA rfl (rB (rA rfl (sD ?_)))
   cases hv:nW x.text neg (-1048576) 1048576 with
   | none=>
    rw[hv]at hk2;refine pA rfl (rA nl (rA f1 (gC fun b _ _=>?_)))
    obtain⟨t3,k1,k2⟩:=h2.set1 (n':=n) (by omega)
    exact⟨_,_,k1 b,xB (Ok.fail k2 hk2)⟩
   | some j=>
    rw[hv]at hk2;have:=hj j hv
    subst this;exact zB (by simp) (pA rfl (pA rfl (Ok.now hk2 h2 ⟨_,rfl,Ks⟩)))
 refine cQ hst (fun ha t2 h2=>?_) fun ha t2 h2=>?_
 ·refine jC (tail 5 t2 h2 ?_)
  grind
 ·refine cQ h2 (fun hb t3 h3=>?_) fun hb t3 h3=>?_
  ·refine jC (tail 6 t3 h3 ?_)
   grind
  ·rw[ha,hb]at hk1
   refine MW hL h3 hn fun tf4 t4 cs k1 k2 k3=>?_
   obtain⟨u,v,rfl,hz,hd⟩:=MX k3
   refine bC hz (pA rfl (pA (hd 2 0).all ?_))
   exact Ok.now (Ok.mono hk1 k1) k2 ⟨_,rfl,hd 2 0⟩
def rdOV (tf:Tr tA)(x:Option zF)(v:zA):Prop:=match x with
 | some x=>∃cs,v=.tup [.agg cs,.bool true]/\RD tf x.d cs
 | none=>v=.tup [.agg zV,.bool false]
theorem zgu(hL:Dw)(h:St P tf t n d)(hk:Ok P rdOV d tf (Oa P.tk n) Q E):tM yA F E 38 [.ptr P.bp 0] t Q:=by
 refine w38 ?_
 unfold t38 uI uB uG yC uZ uY uM9 uA9;refine xB ?_
 rw[pQ 77,Lw h,vA];unfold Oa at hk;rw[Sc (by omega),Sc (by omega)]at hk
 refine bC (agT _) (pA rfl (cQ h (fun ha t1 h1=>?_) fun ha t1 h1=>?_))
 ·rw[ha,yab rfl]at hk
  exact pA rfl (pA rfl (Ok.now hk h1 ⟨_,rfl,Ks⟩))
 rw[ha,yaa (by simp)]at hk
 refine cQ h1 (fun ha t2 h2=>?_) fun ha t2 h2=>?_
 ·rw[ha,yab rfl]at hk
  exact pA rfl (pA rfl (Ok.now hk h2 ⟨_,rfl,Ks⟩))
 rw[ha,yaa (by simp)]at hk
 by_cases hd:(aI P n).kind=3
 ·rw[decide_eq_true hd,yab rfl]at hk
  refine pA (by rw[cT0,hd];rfl) (xB ?_)
  rw[pE 79];refine znm hL h2 (hk.bind fun a n1 tf3 t3 v hr hle hst hrd hk1=>?_)
  subst hrd;exact rB (pA rfl (pA rfl (Ok.now hk1 hst ⟨_,rfl,Ks⟩)))
 rw[decide_eq_false hd,yaa (by simp)]at hk
 refine zB (by grind [cT0,lE]) (cQ h2 (fun ha t3 h3=>?_) fun ha t3 h3=>?_)
 ·rw[ha,yab rfl]at hk
  refine xB ?_
  rw[pW 78];refine Uh h3 fun t4 h4=>sD (xB ?_)
  rw[pE 68];have e:(if acc P.tk Pd (n+1)then n+2 else n+1)=(if acc P.tk Pd (n+1)then n+1+1 else n+1):=by split<;>rfl
  simp only[e]at hk;refine Lb (k:=2) (by omega) h4 (hk.bind fun a n1 tf5 t5 v hr hle hst hrd hk1=>?_)
  obtain⟨x,_,e,rfl⟩:=hrd
  obtain⟨g1,g2,g3⟩:=Vj hr
  have hn:=h.num g1
  rw[<- g2,<- e]at hn;subst e;refine bC (agT _) (MW hL hst hn fun tf6 t6 cs k1 k2 k3=>?_)
  obtain⟨u,v,rfl,hz,hd⟩:=MX k3
  refine bC hz (pA rfl (pA (hd 3 0).all ?_))
  exact Ok.now (Ok.mono hk1 k1) k2 ⟨_,rfl,hd 3 0⟩
 rw[ha,yaa (by simp)]at hk
 have quant:∀(neg:Bool) (m:Nat) (t4:Tr tA),St P tf t4 m d->Ok P rdOV d tf ((Fb P.tk neg m).bind fun v n1=>.ok (some v) n1) Q E →
   oA yA.base (zG yA F wD yH E) (JqE yA F E 38) (.call 81 [.ptr P.bp 0,.bool neg] fun a=>.asG zV a fun X=>.ite (fD zA.one (cV X)) (.ret (.tup [.agg (cV X),.bool true])) .fail) t4 Q:=by
  intro neg m t4 h4 hk4;refine xB ?_
  rw[pE 81];refine zet hL h4 (hk4.bind fun a n1 tf5 t5 v hr hle hst hrd hk1=>?_)
  obtain⟨cs,rfl,hx⟩:=hrd
  have hx':=hx
  obtain⟨u,w,rfl,_⟩:=Ez hx
  exact bC (agV hx) (pA hx.all (Ok.now hk1 hst ⟨_,rfl,hx'⟩))
 refine cQ h3 (fun ha t4 h4=>?_) fun ha t4 h4=>?_
 ·grind
 rw[ha,yaa (by simp)]at hk
 by_cases hd:(aI P n).kind=2
 ·rw[decide_eq_true hd,yab rfl]at hk
  exact pA (by rw[cT0,hd];rfl) (quant false _ t4 h4 hk)
 rw[decide_eq_false hd,yaa (by simp)]at hk
 exact zB (by grind [cT0,lE]) (pA rfl (pA rfl (Ok.now hk h4 rfl)))
def zn6(ho:oI P d o 287){op:Nat}(h:St P tf t n d)(hk:Ok P sL d tf (atP P.tk o op n) Q E):tM yA F E 313 [.ptr P.bp 0,.int .u8 (op:Int)] t Q:=by
 refine w313 ?_
 unfold t313 uS uG yC uZ uY kD;refine xB ?_
 rw[pE 96];refine IZ h (hk.bind fun w n1 tf1 t1 v hr hle hst hrd hk1=>?_)
 subst hrd;refine eD (zjq hst hk1 fun n2 tf2 t2 hle2 hst2 hk2=>?_)
 refine xB ?_
 rw[pE 287];refine ho _ _ _ _ _ hst2 (hk2.bind fun x n3 tf3 t3 v hr3 hle3 hst3 hrd3 hk3=>?_)
 obtain⟨cs,rfl,hx⟩:=hrd3
 have hx':=hx
 obtain⟨a,b,c,rfl,_⟩:=qH hx
 refine bC (dQ hx) (gC fun b hb _=>?_)
 obtain⟨tf4,t4,k1,k2,k3,k4⟩:=hst3.sole hx' hb
 have hu:=un_rd (op:=op) (w:=w) k4
 exact⟨_,_,k1,pA (by rw[vI];rfl) (pA hu.all (Ok.now (hk3.mono k2) k3 ⟨_,rfl,hu⟩))⟩
def Ok.ret{W:mF}{r:PR mA}(hk:Ok P sL d tf r Q E):Ok P sL d tf r (fun v t'=>oA yA.base W J (.asG zE v fun X=>.ite (fD zA.one (cE X)) (.ret (.agg (cE X))) .fail) t' Q) E:=by
 cases r with
 | ok x n1=>exact fun tf2 t2 v k1 k2 k3=>Xu k3 (hk tf2 t2 v k1 k2 k3)
 | er e i=>exact hk
def zft(hL:Dw)(ho:oI P d o 287)(hup:Up o)(hc:oI P d (nY P.tk (Ax P.tk o)) 314):oI P d (Ai P.tk o) 299:=fun tf t n Q E h hk=>by
 refine w299 ?_
 unfold t299 uB uG yC uX uZ uY eF kD uM9;refine xB ?_
 rw[pE 38];unfold Ai at hk;refine zgu hL h (hk.bind fun v n1 tf1 t1 u hr hle h0 hrd hk1=>?_)
 cases v with
 | some v=>
  obtain⟨cs,rfl,hx⟩:=hrd
  have hx':=hx
  obtain⟨a,b,rfl,ha,hb⟩:=Ez hx
  have hc:RD tf1 (Jh v).d [.int .u8 1,.str [],.int .u8 v.kind,.bool v.f.n.neg,a,.bool v.f.d.neg,b,.int .i64 v.i,.nilslice]:=Ik (op:=1) (name:=[]) (v:=v) (args:=[]) ha hb sP
  exact rA rfl (bC (agV hx) (rA rfl (sD (pA hx.all (pA rfl (pA rfl (pA hc.all (Ok.now hk1 h0 ⟨_,rfl,hc⟩))))))))
 | none=>
  have hrd:u=.tup [.agg zV,.bool false]:=hrd
  subst hrd;refine rA rfl (bC (agV (x:=eS) (Ks (t:=tf1))) (rA rfl (sD (pA rfl (zB (by simp) ?_)))))
  have hk1:Ok P sL d tf1 (if acc P.tk [40] n1 then(Ax P.tk o (n1+1)).bind fun x n1=>(iK P.tk [41] n1).bind fun _ n2=>.ok x n2
   else if acc P.tk zhi n1 then .ok (.mk 2 [] eS []) (n1+1)
   else if acc P.tk wFact n1 then atP P.tk o 3 (n1+1)
   else if acc P.tk wHas n1 then atP P.tk o 4 (n1+1)
   else if xY P.tk n1 then atP P.tk o 5 n1
   else nY P.tk (Ax P.tk o) n1) Q E:=hk1
  refine cQ h0 (fun ha t2 h2=>?_) fun ha t2 h2=>?_
  ·rw[ha,yab rfl]at hk1
   refine xB ?_
   rw[pE 31];refine AW ho hup _ _ _ _ _ h2 (hk1.bind fun x n2 tf3 t3 v hr hle hst hrd hk2=>?_)
   obtain⟨cs,rfl,hx⟩:=hrd
   have hx':=hx
   obtain⟨a,b,c,rfl,_⟩:=qH hx
   refine bC (dQ hx) (pA hx.all (zjq hst hk2 fun n3 tf4 t4 hle4 hst4 hk4=>?_))
   have hx4:=RD.mono hle4 _ _ hx'
   exact pA hx.all (Ok.now hk4 hst4 ⟨_,rfl,hx4⟩)
  rw[ha,yaa (by simp)]at hk1
  refine cQ h2 (fun ha t2 h2=>?_) fun ha t2 h2=>?_
  ·rw[ha,yab rfl]at hk1
   exact pA rfl (pA rfl (Ok.now hk1 h2 ⟨_,rfl,Ik (op:=2) (name:=[]) (v:=eS) (args:=[]) sP sP sP⟩))
  rw[ha,yaa (by simp)]at hk1
  refine cQ h2 (fun ha t2 h2=>?_) fun ha t2 h2=>?_
  ·rw[ha,yab rfl]at hk1
   refine xB ?_
   rw[pE 313];exact zn6 ho (op:=3) h2 hk1.ret
  rw[ha,yaa (by simp)]at hk1
  refine cQ h2 (fun ha t2 h2=>?_) fun ha t2 h2=>?_
  ·rw[ha,yab rfl]at hk1
   refine xB ?_
   rw[pE 313];exact zn6 ho (op:=4) h2 hk1.ret
  rw[ha,yaa (by simp)]at hk1
  refine xB ?_
  rw[pQ 151,MA h2,vA];refine sD ?_
  cases hb:xY P.tk n1 with
  | true=>
   rw[hb,yab rfl]at hk1;refine pA rfl (xB ?_)
   rw[pE 313];exact zn6 ho (op:=5) h2 hk1.ret
  | false=>
   rw[hb,yaa (by simp)]at hk1
   refine zB (by simp) (xB ?_)
   rw[pE 314];exact hc _ _ _ _ _ h2 hk1.ret
end
end
section
variable {l:List mA}{v:zA}{b:Nat}{L:List pF}
variable [rC]
section
variable {base:Nat}{tf t:Tr tA}{C:lA}{A B:List pF}
theorem yB.append1{T el sz n:Nat}{l:List D}{dd:D}{x:zA}{cs:List zA}(hT:Gw C T el sz)(h:yB C.base tf t (A++jO C.base sz l v::B))(hx:cA tf sz [dd] x)(hl:l.length+1<400000)(hn:t.get n=none)(hbase:C.base<=n) :
  ∃t' v',aG C T T v x ⟨n,t⟩=some (v',⟨n+1,t'⟩)/\yB C.base tf t' (A++jO C.base sz (l++[dd]) v'::B)/\zA.one v'=true:=by
 obtain⟨cl,h1,h2⟩:=hx
 have hv:uV C.base tf t sz l v:=h.ok (jO C.base sz l v) (by simp)
 obtain⟨c,r,rfl,h3,h4⟩:=cG.1 h2
 rw[cH]at h4;subst h4;obtain⟨t',k1,k2,k3,k4⟩:=ZQ hT (m:=[dd]) hv (h1.mono h.tle) h2 (by
  have:=h3.all
  grind [vI]) (by simp) (by omega) hn hbase h.tle
 refine⟨t',_,k1,?_,rfl⟩
 grind [yB.upd,jO,Rn,Di]
end
def el29:Gw yA 29 31 9:=⟨⟨_,ty29,rfl,rfl⟩,⟨_,vZ,rfl,rfl,by decide,by decide⟩,fun y h=>by rw[vZ]at h;cases h;rfl⟩
def rM.wL(P:rM)(L:List pF):rM:=⟨P.tk,P.bp,P.ts,P.el,P.ec,L⟩
def CF.cs(f:CF):List zA:=[.str f.word,.int .u8 (f.op:Int),.bool f.named,.int .i64 (f.least:Int),.int .i64 (f.most:Int)]
abbrev Nj:List zA:=[.str [108,111,111,107],.int .u8 6,.bool true,.int .i64 1,.int .i64 2,.str [109,105,110],.int .u8 11,.bool false,.int .i64 2,.int .i64 2,.str [109,97,120],.int .u8 12,.bool false,.int .i64 2,.int .i64 2,.str [98,101,116,119,101,101,110],.int .u8 20,.bool false,.int .i64 2,.int .i64 2,.str [105,102],.int .u8 18,.bool false,.int .i64 3,.int .i64 3,.str [114,111,117,110,100],.int .u8 19,.bool false,.int .i64 2,.int .i64 2,.str [115,101,114,118,105,99,101],.int .u8 21,.bool true,.int .i64 2,.int .i64 2,.str [103,114,111,119],.int .u8 23,.bool true,.int .i64 2,.int .i64 2,.str [98,101,115,116],.int .u8 22,.bool true,.int .i64 3,.int .i64 3,.str [109,111,110,116,104,115],.int .u8 24,.bool false,.int .i64 1,.int .i64 1,.str [110,117,109,98,101,114],.int .u8 25,.bool false,.int .i64 1,.int .i64 1,.str [115,116,97,114,116],.int .u8 26,.bool false,.int .i64 1,.int .i64 1]
section
variable {P:rM}{tf t:Tr tA}{n d:Nat}{Q E:mB}{J:mF}{o:PM mA}
def St.box  (h:St P tf t n d)(hb:t.get b=none):∃tf' t',zL v ⟨b,t⟩=some (.ptr b 0,⟨b+1,t'⟩)/\bA tf tf'/\St P tf' t' n d/\iC tf' b none v.cells:=by
 obtain⟨t',h1,⟨c,h2,h2'⟩,h3,h4⟩:=Tv (v:=v) hb
 have ho:=h.ob.junk hb h4
 have hfb:=h.ob.tfn hb
 obtain⟨k1,k2⟩:=ho.froze (fun hm=>h.ob.fresh hb hm) h2 hfb
 exact⟨_,t',h1,k2,⟨h.ts.mono k2,k1,h.len,h.le,h.good,h.glob.mono k2⟩,c,by rw[Tr.get_set,yab rfl],h2'⟩
def St.fixed{T:Nat}{y:mD} (h:St P tf t n d)(hT:yA.tys.get T=some y)(hz:v.cells.length=y.size)(hz2:y.zero.length=y.size)(hone:fD zA.one v.cells=true)(hb:t.get b=none)(hbase:yA.base<=b) :
  ∃t1,yI yA T ⟨b,t⟩=some (.ptr b 0,⟨b+1,t1⟩)/\∃tf' t2,(∀q,sC yA T (.ptr b 0) v ⟨q,t1⟩=some (pD,⟨q,t2⟩))/\bA tf tf'/\St P tf' t2 n d/\iC tf' b none v.cells:=by
 obtain⟨t1,h1,h2,h3,h4⟩:=dO (C:=yA) hT hb
 refine⟨t1,h1,?_⟩
 have o1:=yB.newCel (A:=[dX P n d]) (B:=P.L) h.ob hb hbase h2 h3 h4
 obtain⟨t2,k1,k2⟩:=yB.setCel (A:=[dX P n d]) (j:=0) (v:=v) o1 hT hz (by omega) hone
 have hov:yM y.zero 0 v.cells=v.cells:=by
  unfold yM;rw[List.take_zero,yah,ybt (by omega),ycd]
 rw[hov]at k2;obtain⟨c,g1,g2⟩:=k2.cel
 have hni:=k2.notin (o:=aC b none v.cells) (k:=b) (by simp[aC])
 obtain⟨m1,m2⟩:=(yB.drop k2).froze hni g1 (k2.low b (by simp[aC])).2
 exact⟨_,t2,k1,m2,⟨h.ts.mono m2,m1,h.len,h.le,h.good,h.glob.mono m2⟩,c,by rw[Tr.get_set,yab rfl],g2⟩
def dV{a:Nat}{w:Nat}(h:iC tf a none [.ptr w 0])(hst:St P tf t n d):iA yA 76 ⟨0,t⟩ (.ptr a 0)=some (.ptr w 0):=(iC.le h hst.ob.tle).load1 ty76 rfl rfl
def zm2:∀i:Nat,i<12->∃f,Be[i]?=some f/\bG yA 340 (.agg Nj) (.int .i64 (i:Int))=some (.agg f.cs):=by
 intro i hi;have:i=0\/i=1\/i=2\/i=3\/i=4\/i=5\/i=6\/i=7\/i=8\/i=9\/i=10\/i=11:=by omega
 rcases this with rfl | rfl | rfl | rfl | rfl | rfl | rfl | rfl | rfl | rfl | rfl | rfl<;>exact⟨_,rfl,by kernel_rfl⟩
def zm5(tk:List eC):PM CF:=fun n=>match Be.find? fun f=>acc tk f.word n with
 | none=>.er 120 n
 | some f=>.ok f (n+1)
def rdCF (_:Tr tA)(f:CF)(v:zA):Prop:=f∈Be/\v=.agg f.cs
theorem zm4{a1 a0:Nat}(h1:iC tf a1 none Nj)(h0:iC tf a0 none [.ptr P.bp 0])(h:St P tf t n d)(hk:Ok P rdCF d tf (zm5 P.tk n) Q E):tM yA F E 319 [.ptr a1 0,.ptr a0 0] t Q:=by
 refine w319 ?_
 unfold t319 uZ uY;have hl1:iA yA 340 ⟨0,t⟩ (.ptr a1 0)=some (.agg Nj):=by
  have:=(iC.le h1 h.ob.tle).at.load (j:=0) (n:=60) ty340 rfl rfl (by decide)
  simp_all
 refine aB hl1 (jC ?_)
 have loop:∀(k i:Nat) (t:Tr tA),i+k=12->St P tf t n d->Ok P rdCF d tf (match (Be.drop i).find? fun f=>acc P.tk f.word n with | none=>.er 120 n | some f=>.ok f (n+1)) Q E →
   fJ E 319 2 [.ptr a0 0,.agg Nj,.int .i64 (i:Int),.str [],.int .u8 0,.bool false,.int .i64 0,.int .i64 0] t Q:=by
  intro k;induction k with
  | zero=>
   intro i t hi h hk;refine zio ?_
   unfold Vl uB uG vC uZ uY;have e:Be.drop i=[]:=ybt (by simp_all)
   rw[e]at hk;exact zB (by grind [dC]) (aB (dV h0 h) (xB (Ok.fail h hk)))
  | succ k ih=>
   intro i t hi h hk;refine zio ?_
   unfold Vl uB uG vC uZ uY;obtain⟨f,hf,hv⟩:=zm2 i (by omega)
   obtain⟨hlt,hfe⟩:=ybc.1 hf
   rw[ybl hlt,hfe,List.find?_cons]at hk;refine pA (by grind [dC]) (rA hv (bC (X:=cellsOf f.cs) (cO rfl) (pA rfl (aB (dV h0 h) (cQ h (fun ha t' h'=>?_) fun ha t' h'=>?_)))))
   ·have ha:acc P.tk f.word n=true:=ha
    rw[ha]at hk;exact pA rfl (Ok.now hk h' ⟨ycv hf,rfl⟩)
   ·have ha:acc P.tk f.word n=false:=ha
    grind [wrap_i64,jC]
 exact loop 12 0 t rfl h hk
abbrev jN(l:List mA)(v:zA):pF:=jO yA.base 9 (l.map mA.d) v
def St.args   (h:St (P.wL (jN l v::L)) tf t n d):uV yA.base tf t 9 (l.map mA.d) v:=h.ob.ok (jN l v) (by simp[rM.wL])
theorem St.more {x:mA} {cx:List zA} (h:St (P.wL (jN l v::L)) tf t n d)(hx:RD tf x.d cx)(hl:l.length<1000) (hb:t.get b=none) :
  ∃t1 w,wE yA 29 1 [(0,.agg cx)] ⟨b,t⟩=some (w,⟨b+1,t1⟩)/\∀c,t1.get c=none->yA.base<=c->∃tf2 t2 v2,aG yA 29 29 v w ⟨c,t1⟩=some (v2,⟨c+1,t2⟩)/\bA tf tf2/\St (P.wL (jN (l++[x]) v2::L)) tf2 t2 n d/\fD zA.one [v2]=true:=by
 obtain⟨tf1,t1,h1,h2,h3,h4⟩:=h.sole hx hb
 refine⟨t1,_,h1,fun c hc hcb=>?_⟩
 have ho:=h3.ob
 obtain⟨t2,v2,k1,k2,k3⟩:=yB.append1 (A:=[dX P n d]) (B:=L) (cs:=[]) el29 ho h4 (by grind) hc hcb
 refine⟨tf1,t2,v2,k1,h2,⟨h3.ts,?_,h3.len,h3.le,h3.good,h3.glob⟩,by grind [vI]⟩
 show yB yA.base tf1 t2 ([dX P n d]++jO yA.base 9 ((l++[x]).map mA.d) v2::L)
 simp_all
end
end
section
variable {α β:Type}{w:List Nat}{f:CF}{a0 m:Nat}{e:PM mA}{K:zA->T}{l:List mA}{v:zA}
variable [rC]
def PR.bind_assoc{γ:Type}(r:PR α)(f:α->Nat->PR β)(g:β->Nat->PR γ):(r.bind f).bind g=r.bind fun a n=>(f a n).bind g:=by cases r<;>rfl
section
variable {tk:List eC}{o:PM mA}
theorem Gd  : Up (iK tk w):=by
 intro n a n' h;grind [iK]
theorem JC:Up (cX tk):=by
 intro n a n' h;grind [cX]
theorem Vi{k:Nat}:Up (pV tk k):=by
 intro n a n' h;grind [pV]
def jL {r:PM α}{f:α->PM β}(h1:Up r)(h2:∀a,Up (f a)):Up fun n=>(r n).bind f:=by
 intro n b n' h;obtain⟨a,n1,e1,e2⟩:=PR.bind_ok h
 have:=h1 _ _ _ e1
 have:=h2 _ _ _ _ e2
 omega
theorem wT {a:α}:Up (fun n=>(.ok a n:PR α)):=by intro n b n' h;simp_all
def zgp:Up (znn tk):=jL Vi fun _=>wT
theorem PN{f:Nat->List Nat}  : ∀(k i:Nat),Up (pY tk f m k i):=by
 intro k;induction k with
 | zero=>intro i n a n' h;cases h
 | succ k ih=>
  intro i n a n' h;unfold pY at h;split at h
  ·cases h
  ·split at h
   ·grind
   ·exact ih _ _ _ _ h
theorem HI{neg:Bool}:Up (Fb tk neg):=by
 intro n b n' h;unfold Fb at h;obtain⟨a,n1,e1,e2⟩:=PR.bind_ok h
 have:=Vi _ _ _ e1
 grind
theorem PD:Up (Oa tk):=by
 intro n b n' h;unfold Oa at h;split at h
 ·grind
 split at h
 ·grind
 split at h
 ·exact jL zgp (fun _=>wT) _ _ _ h
 split at h
 ·obtain⟨a,n1,e1,e2⟩:=PR.bind_ok h
  have:=Vi _ _ _ e1
  cases e2
  split at this<;>omega
 split at h
 ·have:=jL HI (fun _=>wT) _ _ _ h
  omega
 split at h
 ·exact jL HI (fun _=>wT) _ _ _ h
 simp_all
def ze0 (he:Up e):∀(k:Nat) (l:List mA),Up (Ij tk e k l):=by
 intro k;induction k with
 | zero=>intro l;exact wT
 | succ k ih=>intro l;exact jL Gd fun _=>jL he fun x=>ih (l++[x])
theorem zeh (he:Up e):∀(k:Nat) (l:List mA),Up (Cf tk e k l):=by
 intro k;induction k with
 | zero=>intro l;exact wT
 | succ k ih=>
  intro l n b n' h;unfold Cf at h;split at h
  ·have:=jL he (fun x=>ih (l++[x])) _ _ _ h
   omega
  simp_all
def BZ(ho:Up o){op:Nat}:Up (atP tk o op):=jL JC fun _=>jL Gd fun _=>jL ho fun _=>wT
theorem zg0 (he:Up e):Up (nY tk e):=by
 intro n b n' h;unfold nY at h;split at h
 ·cases h
 ·rename_i f _
  have hw:Up (fun n1=>(if f.named then(cX tk n1).bind fun w n2=>(iK tk [44] n2).bind fun _ n3=>.ok w n3 else .ok [] n1:PR (List Nat))):=by
   cases f.named with
   | true=>simp_all [jL,JC,Gd,wT]
   | false=>exact wT
  have hm:Up (fun n5=>(if f.op=19 then(iK tk [44] n5).bind fun _ n6=>pY tk Fk 6 6 1 n6 else .ok 0 n5:PR Nat)):=by
   by_cases h19:f.op=19
   all_goals simp_all [jL,Gd,PN,wT]
  have:=jL Gd (fun _=>jL hw fun w=>jL he fun x=>jL (ze0 he (f.least-1) [x]) fun l=>jL (zeh he (f.most-f.least) l) fun l=>jL hm fun m=>jL Gd fun _=>wT (a:=mA.mk f.op w ⟨0,aK,m⟩ l)) _ _ _ h
  omega
theorem zbz(ho:Up o):Up (Ai tk o):=by
 have he:=zgb (tk:=tk) ho
 refine jL PD fun v=>?_
 cases v with
 | some v=>exact wT
 | none=>
  intro n b n' h;simp only at h
  split at h
  ·have:=jL he (fun x=>jL Gd fun _=>wT (a:=x)) _ _ _ h
   omega
  split at h
  ·grind
  split at h
  ·have:=BZ ho _ _ _ h;omega
  split at h
  ·have:=BZ ho _ _ _ h;omega
  split at h
  ·exact BZ ho _ _ _ h
  ·exact zg0 he _ _ _ h
end
section
variable {P:rM}{tf t:Tr tA}{n d:Nat}{Q E:mB}{J:mF}{o:PM mA}{ob:pF}
def St.drop1(h:St (P.wL (ob::P.L)) tf t n d):St P tf t n d:=⟨h.ts,yB.drop (A:=[dX P n d]) (o:=ob) h.ob,h.len,h.le,h.good,h.glob⟩
def Ok.bindL {rd1:Tr tA->α->zA->Prop}{rd:Tr tA->β->zA->Prop}{r:PR α}{f:α->Nat->PR β}{Q1:mB}(h:Ok P rd d tf (r.bind f) Q E)
  (k:∀a n1 tf1 t1 v,r=.ok a n1->bA tf tf1->St (P.wL (ob::P.L)) tf1 t1 n1 d->rd1 tf1 a v->Ok P rd d tf1 (f a n1) Q E->Q1 v t1):Ok (P.wL (ob::P.L)) rd1 d tf r Q1 E:=by
 cases r with
 | ok a n=>exact fun tf' t' v h1 h2 h3=>k a n tf' t' v rfl h1 h2 h3 (Ok.mono h h1)
 | er e i=>exact fun tf' t' n' d' h1 h2=>h tf' t' n' d' h1 h2.drop1
def Nm  (h:St P tf t n d)(hk:Ok P rdU d tf (iK P.tk w n) (fun v t'=>oA yA.base (zG yA F wD yH E) J (K v) t' Q) E) :
  oA yA.base (zG yA F wD yH E) J (.heavy (wE yA 62 1 [(0,.str w)]) fun a=>.call 95 [.ptr P.bp 0,a] K) t Q:=by
 refine gC fun b hb _=>?_
 obtain⟨tf1,t1,h1,h2,h3,h4⟩:=h.lit (k:=1) (sz:=1) (ds:=[D.str w]) (cl:=[[.str w]]) ty62 rfl yL rfl rfl (by omega) (Nl (sz:=1) (z:=[.str []]) (v:=.str w) rfl rfl) (Md rfl) rfl (cG.2 ⟨_,_,rfl,bY.2 rfl,cH.2 rfl⟩) hb
 refine⟨_,_,h1,xB ?_⟩
 rw[pE 95];exact OB h4 h3 (hk.mono h2)
def Vk(tk:List eC)(f:CF)(w:List Nat)(l:List mA)(m:Nat):PM mA:=fun n=>(iK tk [41] n).bind fun _ n7=>.ok (.mk f.op w ⟨0,aK,m⟩ l) n7
def zkt(tk:List eC)(f:CF)(w:List Nat)(l:List mA):PM mA:=fun n5=>(if f.op=19 then(iK tk [44] n5).bind fun _ n6=>pY tk Fk 6 6 1 n6 else .ok 0 n5:PR Nat).bind fun m n6=>Vk tk f w l m n6
def zku(tk:List eC)(e:PM mA)(f:CF)(w:List Nat)(k:Nat)(l:List mA):PM mA:=fun n=>(Cf tk e k l n).bind fun l n5=>zkt tk f w l n5
def Pw(tk:List eC)(e:PM mA)(f:CF)(w:List Nat)(k:Nat)(l:List mA):PM mA:=fun n=>(Ij tk e k l n).bind fun l n4=>zku tk e f w (f.most-f.least) l n4
def zg1{tk:List eC}  : nY tk e n=(zm5 tk n).bind fun f n1=>(iK tk [40] n1).bind fun _ n1=>
  (if f.named then(cX tk n1).bind fun w n2=>(iK tk [44] n2).bind fun _ n3=>.ok w n3 else .ok [] n1:PR (List Nat)).bind fun w n2=>(e n2).bind fun x n3=>Pw tk e f w (f.least-1) [x] n3:=by
 unfold nY zm5
 cases Be.find? fun f=>acc tk f.word n with
 | none=>rfl
 | some f=>rfl
abbrev c6(f:CF)(w:List Nat)(m:Nat)(v:zA):List zA:=[.int .u8 (f.op:Int),.str w,.int .u8 0,.bool false,.nilslice,.bool false,.nilslice,.int .i64 (m:Int),v]
def zht     (h0:iC tf a0 none [.ptr P.bp 0])(h:St (P.wL (jN l v::P.L)) tf t n d)(hk:Ok P sL d tf (Vk P.tk f w l m n) Q E):fJ E 314 37 ([.ptr a0 0]++zE++c6 f w m v) t Q:=by
 refine zmi ?_
 unfold EC yC uZ uY;unfold Vk at hk;refine aB (dV h0 h) (Nm (P:=P.wL (jN l v::P.L)) h (hk.bindL fun _ n1 tf1 t1 u hr hle hst hrd hk1=>?_))
 obtain⟨tf2,k1,k2,k3⟩:=yB.freezeL (A:=[dX P n1 d]) (B:=P.L) hst.ob
 have hd:RD tf2 (mA.mk f.op w ⟨0,aK,m⟩ l).d (c6 f w m v):=Ik (v:=⟨0,aK,m⟩) sP sP k3
 refine pA hd.all (Ok.now (Ok.mono hk1 k1) (t:=t1) ⟨hst.ts.mono k1,k2,hst.len,hst.le,hst.good,hst.glob.mono k1⟩ ⟨_,rfl,hd⟩)
theorem tM_ok     (hop:f.op<256)(h0:iC tf a0 none [.ptr P.bp 0])(h:St (P.wL (jN l v::P.L)) tf t n d)(hk:Ok P sL d tf (zkt P.tk f w l n) Q E) :
  oA yA.base (zG yA F wD yH E) (JqE yA F E 314) (.ite (kB (f.op:Int) 19)
 (.light (fun m=>iA yA 76 ⟨0,m⟩ (.ptr a0 0)) fun a10=>.heavy (wE yA 62 1 [(0,(.str [44]))]) fun a11=>
 .call 95 [a10,a11] fun a12=>
 .light (fun m=>iA yA 76 ⟨0,m⟩ (.ptr a0 0)) fun a13=>.call 201 [a13,(.int .u8 1),(.int .u8 6),(.func (.func 170) [] [])] fun a14=>
 .asI .u8 a14 fun n15=>.ite true (.jump 37 ([.ptr a0 0]++zE++[.int .u8 (f.op:Int),.str w,.int .u8 0,.bool false,.nilslice,.bool false,.nilslice,.int .i64 (fA .i64 n15),v])) .fail)
 (.jump 37 ([.ptr a0 0]++zE++c6 f w 0 v))) t Q:=by
 unfold zkt at hk;by_cases h19:f.op=19
 ·rw[yab h19,PR.bind_assoc]at hk
  refine pA (by rw[h19];rfl) (aB (dV h0 h) (Nm (P:=P.wL (jN l v::P.L)) h (hk.bindL fun _ n1 tf1 t1 u hr hle hst hrd hk1=>?_)))
  refine aB (dV (iC.le h0 hle) hst) (xB ?_)
  rw[pE 201];refine zc0 (P:=P.wL (jN l v::P.L)) (f:=Fk) (most:=6) (fun t hg i hi=>zlv hg hi) (by kernel_rfl) (by kernel_rfl) (by omega) hst (hk1.bindL fun m n2 tf2 t2 u hr2 hle2 hst2 hrd2 hk2=>?_)
  subst hrd2;refine rB (pA rfl (jC ?_))
  have hm:m<256:=by
   grind [pY]
  have hw:fA .i64 (m:Int)=(m:Int):=wrap_i64 (by omega) (by omega)
  rw[hw];exact zht (iC.le h0 (hle.trans hle2)) hst2 hk2
 ·rw[yaa h19]at hk
  refine zB (by grind [lE]) (jC ?_)
  exact zht h0 h hk
def Yu    {f:mA->Nat->PR mA} (he:∀L,oI (P.wL L) d e 31)(h0:iC tf a0 none [.ptr P.bp 0])(hl:l.length<1000)(h:St (P.wL (jN l v::P.L)) tf t n d)(hk:Ok P sL d tf ((e n).bind f) Q E)
  (k:∀x n1 tf1 t1 v',bA tf tf1->St (P.wL (jN (l++[x]) v'::P.L)) tf1 t1 n1 d->Ok P sL d tf1 (f x n1) Q E->oA yA.base (zG yA F wD yH E) J (K v') t1 Q) :
  oA yA.base (zG yA F wD yH E) J (.light (fun m=>iA yA 76 ⟨0,m⟩ (.ptr a0 0)) fun a=>.call 31 [a] fun a6=>.asG zE a6 fun X=>.ite (same 10 v v) (.heavy (wE yA 29 1 [(0,.agg (cE X))]) fun a8=>.ite (same 10 v v) (.heavy (aG yA 29 29 v a8) fun a9=>.ite (fD zA.one [a9]) (K a9) .fail) .fail) .fail) t Q:=by
 refine aB (dV h0 h) (xB ?_)
 rw[pE 31];refine he (jN l v::P.L) _ _ _ _ _ h (hk.bindL fun x n1 tf1 t1 u hr hle hst hrd hk1=>?_)
 obtain⟨cs,rfl,hx⟩:=hrd
 have hx':=hx
 obtain⟨a,b,c,rfl,_⟩:=qH hx
 have hs:same 10 v v=true:=hst.args.same
 refine bC (dQ hx) (pA hs (gC fun b hb _=>?_))
 obtain⟨t2,w,k1,k2⟩:=hst.more hx' hl hb
 refine⟨_,_,k1,pA hs (gC fun c hc hcb=>?_)⟩
 obtain⟨tf3,t3,v3,m1,m2,m3,m4⟩:=k2 c hc hcb
 exact⟨_,_,m1,pA m4 (k x n1 tf3 t3 v3 (hle.trans m2) m3 (Ok.mono hk1 m2))⟩
theorem t6_ok    (he:∀L,oI (P.wL L) d e 31)(hop:f.op<256)(hmost:f.most<900):∀(k:Nat) (l:List mA) (v:zA) (n:Nat) (tf t:Tr tA),l.length+k=f.most->iC tf a0 none [.ptr P.bp 0]->St (P.wL (jN l v::P.L)) tf t n d->Ok P sL d tf (zku P.tk e f w k l n) Q E →
  fJ E 314 6 ([.ptr a0 0]++zE++f.cs++c6 f w 0 v) t Q:=by
 intro k;induction k with
 | zero=>
  intro l v n tf t hlen h0 h hk;refine zir ?_
  unfold Vn uI uU uB uG yC uZ uY uW kD;have hv:=h.args.len
  rw[ybf]at hv;exact rA hv (rB (zB (by grind [dC]) (tM_ok hop h0 h hk)))
 | succ k ih=>
  intro l v n tf t hlen h0 h hk;refine zir ?_
  unfold Vn uI uU uB uG yC uZ uY uW kD;have hv:=h.args.len
  rw[ybf]at hv;unfold zku Cf at hk;refine rA hv (rB (pA (by grind [dC]) (aB (dV h0 h) (cQ (P:=P.wL (jN l v::P.L)) h (fun ha t2 h2=>?_) fun ha t2 h2=>?_))))
  ·have ha:acc P.tk [44] n=true:=ha
   rw[ha,yab rfl,PR.bind_assoc]at hk;exact Yu he h0 (by omega) h2 hk fun x n1 tf3 t3 v3 k1 k2 k3=>jC (ih (l++[x]) v3 n1 tf3 t3 (by grind) (iC.le h0 k1) k2 k3)
  ·have ha:acc P.tk [44] n=false:=ha
   rw[ha,yaa (by simp)]at hk
   exact tM_ok hop h0 h2 hk
theorem t2_ok    (he:∀L,oI (P.wL L) d e 31)(hop:f.op<256)(hmost:f.most<900)(hle:f.least<=f.most):∀(k:Nat) (l:List mA) (v:zA) (n:Nat) (tf t:Tr tA),l.length+k=f.least->iC tf a0 none [.ptr P.bp 0]->St (P.wL (jN l v::P.L)) tf t n d->Ok P sL d tf (Pw P.tk e f w k l n) Q E →
  fJ E 314 2 ([.ptr a0 0]++zE++f.cs++c6 f w 0 v) t Q:=by
 intro k;induction k with
 | zero=>
  intro l v n tf t hlen h0 h hk;refine zis ?_
  unfold Vo uI uG yC uZ uY kD;have hv:=h.args.len
  rw[ybf]at hv;exact rA hv (rB (zB (by grind [dC]) (jC (t6_ok he hop hmost _ l v n tf t (by omega) h0 h hk))))
 | succ k ih=>
  intro l v n tf t hlen h0 h hk;refine zis ?_
  unfold Vo uI uG yC uZ uY kD;have hv:=h.args.len
  rw[ybf]at hv;unfold Pw Ij at hk;rw[PR.bind_assoc]at hk;refine rA hv (rB (pA (by grind [dC]) (aB (dV h0 h) (Nm (P:=P.wL (jN l v::P.L)) h (hk.bindL fun _ n1 tf1 t1 u hr hle1 hst hrd hk1=>?_)))))
  rw[PR.bind_assoc]at hk1;exact Yu he (iC.le h0 hle1) (by omega) hst hk1 fun x n2 tf3 t3 v3 k1 k2 k3=>jC (ih (l++[x]) v3 n2 tf3 t3 (by grind) (iC.le h0 (hle1.trans k1)) k2 k3)
theorem zh2    (he:∀L,oI (P.wL L) d e 31)(hop:f.op<256)(hmost:f.most<900)(hle:f.least<=f.most)(h1:1<=f.least)(h0:iC tf a0 none [.ptr P.bp 0])(h:St P tf t n d)(hk:Ok P sL d tf ((e n).bind fun x n3=>Pw P.tk e f w (f.least-1) [x] n3) Q E) :
  fJ E 314 19 ([.ptr a0 0]++zE++f.cs++c6 f w 0 .nilslice) t Q:=by
 refine zmj ?_
 unfold ED uG yC uZ uY kD;have h':St (P.wL (jN [] .nilslice::P.L)) tf t n d:=⟨h.ts,yB.add (A:=[dX P n d]) (B:=P.L) (o':=jN [] .nilslice) h.ob (fun _ _=>rfl) (fun k hk=>by simp[jO,Di]at hk) (.inl ⟨rfl,rfl⟩) (by simp[jO,Di]) h.ob.tle,h.len,h.le,h.good,h.glob⟩
 exact Yu he h0 (by simp) h' hk fun x n1 tf1 t1 v1 k1 k2 k3=>jC (t2_ok he hop hmost hle (f.least-1) [x] v1 n1 tf1 t1 (by grind) (iC.le h0 k1) k2 k3)
def zf4:∀f∈Be,f.op<256/\f.most<900/\f.least<=f.most/\1<=f.least:=by decide
def BR (he:∀L,oI (P.wL L) d e 31):oI P d (nY P.tk e) 314:=fun tf t n Q E h hk=>by
 rw[zg1]at hk;refine w314 ?_
 unfold t314 uS uG uZ uY;refine gC fun a0 ha0 _=>?_
 obtain⟨tf1,t1,h1,h2,h3,h4⟩:=h.box (v:=.ptr P.bp 0) ha0
 refine⟨_,_,h1,?_⟩
 refine pA rfl (pA rfl (pA rfl (pA rfl (pA rfl (pA rfl (pA rfl (pA rfl (pA rfl (pA rfl (pA rfl (pA rfl (pA rfl (gC fun a1 ha1 hb1=>?_)))))))))))))
 obtain⟨t2,k1,tf3,t3,k2,k3,k4,k5⟩:=h3.fixed (v:=.agg Nj) ty340 rfl rfl rfl ha1 hb1
 refine⟨_,_,k1,gC fun c _ _=>⟨_,_,k2 c,?_⟩⟩
 have g0:iC tf3 a0 none [.ptr P.bp 0]:=iC.le h4 k3
 refine nV (g:=319) (a:=[.ptr a1 0,.ptr a0 0]) rfl ?_
 rw[pE 319];refine zm4 k5 g0 k4 ((hk.mono (h2.trans k3)).bind fun f n1 tf4 t4 u hr hle hst hrd hk1=>?_)
 obtain⟨hf,rfl⟩:=hrd
 obtain⟨f1,f2,f3,f4⟩:=zf4 f hf
 have g4:=iC.le g0 hle
 refine bC (X:=cellsOf f.cs) (cO rfl) (pA rfl (pA rfl (pA rfl (aB (dV g4 hst) (Nm hst (hk1.bind fun _ n2 tf5 t5 u2 hr2 hle2 hst2 hrd2 hk2=>?_))))))
 have g5:=iC.le g4 hle2
 cases hn:f.named with
 | true=>
  rw[hn,yab rfl,PR.bind_assoc]at hk2;refine pA hn (aB (dV g5 hst2) (xB ?_))
  rw[pE 96];refine IZ hst2 (hk2.bind fun w n3 tf6 t6 u3 hr3 hle3 hst3 hrd3 hk3=>?_)
  subst hrd3;rw[PR.bind_assoc]at hk3;have g6:=iC.le g5 hle3
  refine eD (pA rfl (aB (dV g6 hst3) (Nm hst3 (hk3.bind fun _ n4 tf7 t7 u4 hr4 hle4 hst4 hrd4 hk4=>?_))))
  exact jC (zh2 he f1 f2 f3 f4 (iC.le g6 hle4) hst4 hk4)
 | false=>
  rw[hn,yaa (by simp)]at hk2
  refine zB (by rw[show(cellsOf f.cs).b 2=f.named from rfl,hn];simp) (jC ?_)
  exact zh2 he f1 f2 f3 f4 g5 hst2 hk2
theorem IF(hL:Dw){tk:List eC}:∀(k d:Nat),d+k=101->∀P:rM,P.tk=tk->Up (vU tk k)/\oI P d (vU tk k) 287:=by
 intro k;induction k with
 | zero=>
  intro d hd P hP;refine⟨fun n a n' h=>(by cases h),fun tf t n Q E h hk=>?_⟩
  refine w287 ?_
  unfold t287 uI oC uZ uY;exact rA nl (rA f2 (aB h.l2 (rB (pA (by grind [dC]) (xB (Ok.fail h hk))))))
 | succ k ih=>
  intro d hd P hP;have hup:Up (vU tk k):=(ih (d+1) (by omega) P hP).1
  have hi:∀L,oI (P.wL L) (d+1) (vU tk k) 287:=fun L=>(ih (d+1) (by omega) (P.wL L) hP).2
  subst hP;have hin:oI P (d+1) (Ai P.tk (vU P.tk k)) 299:=zft hL (hi P.L) hup (BR fun L=>AW (hi L) hup)
  refine⟨?_,fun tf t n Q E h hk=>?_⟩
  ·exact zbz hup
  ·refine w287 ?_
   unfold t287 uI oC uZ uY;refine rA nl (rA f2 (aB h.l2 (rB (zB (by grind [dC]) (jC (j287_7 ?_))))))
   unfold zhy uI uG yC vC oC uZ uY uW eF kD;refine rA nl (rA f2 (aB h.l2 (rB (rA nl (rA f2 (gC fun b _ _=>?_))))))
   obtain⟨t1,h1,h2⟩:=h.set2 (d':=d+1)
   have e:fA .i64 ((d:Int)+1)=((d+1:Nat):Int):=by grind [wrap_i64]
   rw[e];refine⟨_,_,h1 b,xB ?_⟩
   rw[pE 299];refine hin _ _ _ _ _ h2 ?_
   have hk:Ok P sL d tf (Ai P.tk (vU P.tk k) n) Q E:=hk
   revert hk
   generalize Ai P.tk (vU P.tk k) n=r
   intro hk
   cases r with
   | er e i=>exact hk
   | ok x n1=>
    intro tf2 t2 v k1 k2 ⟨cs,hv,hx⟩
    subst hv;have hx':=hx
    obtain⟨a,b,c,rfl,_⟩:=qH hx
    refine bC (dQ hx) (pA hx.all (rA nl (rA f2 (aB k2.l2 (rB (rA nl (rA f2 (gC fun b _ _=>?_))))))))
    obtain⟨t3,m1,m2⟩:=k2.set2 (d':=d)
    have e:fA .i64 (((d+1:Nat):Int)-1)=(d:Int):=by grind [wrap_i64]
    rw[e];exact⟨_,_,m1 b,pA hx.all (hk tf2 t3 _ k1 m2 ⟨_,rfl,hx'⟩)⟩
def zga(hL:Dw):oI P 0 (znb P.tk) 31:=AW (IF hL 101 0 rfl P rfl).2 (IF hL 101 0 rfl P rfl).1
end
end
section
variable {b:Bool}{v:zA}{l:List Nat}
variable [rC]
section
variable {t:Tr tA}{Q:mB}
def dL  (h:zA.one v=true):fD zA.one [.bool b,v]=true:=by
 show(bif zA.one (.bool b)then(bif zA.one v then true else false)else false)=true
 rw[h];rfl
def bN   (h:cA t 1 (cC l) v):wK [.bool false,.nilslice] (.agg [.bool b,v])=some (cellsOf [.bool b,v]):=iS (qU (w:=⟨b,l⟩) h) (pJ.zs _)
theorem zay  {neg:Bool}(hv:cA t 1 (fB .u32 l) v)(hl:l.length<=500)(hlt:qB 4294967296 l)
  (hQ:∀t' u,bA t t'->cA t' 1 (cC (lC (val 4294967296 l))) u->Q (.tup [.agg [.bool (if oE l=[]then false else neg),u],.int .i64 0]) t'):Wc yA F 195 [.bool neg,v] t Q:=by
 refine w195 ?_
 unfold t195 uQ18 uG zH mH;refine xB ?_
 rw[q248];refine Uw hv (by omega) hlt fun t' u hle hu=>?_
 have hlt2:qB 65536 (oE (sH (oE l))):=jS (Ug (jS hlt))
 have hval:val 65536 (oE (sH (oE l)))=val 4294967296 l:=by rw[uR,Ph,uR]
 have e:oE (sH (oE l))=lC (val 4294967296 l):=Zn hlt2 (sU _) hval
 rw[e]at hu;have hlen:(lC (val 4294967296 l)).length<=1000:=by
  grind [Lg,Kx]
 have hul:=cA.len (l:=cC (lC (val 4294967296 l))) hu
 rw[eO]at hul;refine bC (bN hu) (pA (dL hu.one) (rA hul (rB (zB (by grind [dC]) (pA (dL hu.one) ?_)))))
 exact hQ t' u hle hu
theorem Yf{s:List Nat}(hs:∀b∈s,bE b=true)(h0:s≠[])(hp:kR s=false)(hl:s.length<=200)(hQ:∀t' u,bA t t'->cA t' 1 (cC (lC (vE s))) u->Q (.tup [.agg [.bool false,u],.int .i64 0]) t'):Wc yA F 140 [.str s] t Q:=by
 have dig:∀b∈s,48<=b/\b<=57:=fun b hb=>by grind [bE]
 have hlen:0<s.length:=List.length_pos_iff.2 h0
 obtain⟨x,hx⟩:∃x,s[0]?=some x:=⟨s[0],ybd hlen⟩
 have hxd:=dig x (ycv hx)
 have hx0:=lK hx
 rw[show((0:Nat):Int)=0 from rfl]at hx0
 have ll:∀s:List Nat,(Int.ofNat (aA s))=(s.length:Int):=fun s=>by rw[lD];rfl
 have words:∀(n:Nat) (r w:List Nat) (v:zA) (t1:Tr tA),r.length<=n->(∀b∈r,bE b=true)->r.length<=200->w.length+r.length<=300->bA t t1->cA t1 1 (fB .u32 w) v->qB 4294967296 w->val 4294967296 w*10^r.length+vE r=vE s →
   jp 140 6 [.str r,.bool false,v,.bool false,.nilslice] t1 Q:=by
  intro n;induction n with
  | zero=>
   intro r w v t1 hr hd hr2 hw hle hv hlt hval;have:r=[]:=ycc.1 (by omega)
   subst this;refine zjd ?_
   unfold Wp uI uG zH mH;rw[ll];refine zB (by simp[dC]) (xB ?_)
   rw[q195];refine zay hv (by omega) hlt fun t2 u k1 k2=>?_
   have:(if oE w=[]then false else false)=false:=by split<;>rfl
   rw[this];have hval:val 4294967296 w=vE s:=by grind [vE]
   rw[hval]at k2;exact rA rfl (bC (bN k2) (rA rfl (rB (pA (dL k2.one) (hQ t2 u (hle.trans k1) k2)))))
  | succ n ih=>
   intro r w v t1 hr hd hr2 hw hle hv hlt hval;by_cases hz:r.length=0
   ·grind
   refine zjd ?_
   unfold Wp uI uG zH mH;have hc:(bif jB (Int.ofNat (aA r)) 9 then(Int.ofNat (aA r))else 9)=((min 9 r.length:Nat):Int):=by
    grind [dC]
   rw[hc,ll];refine pA (by grind [dC]) (jC ?_)
   have hcl:min 9 r.length<=r.length:=Nat.min_le_right _ _
   generalize hcd:min 9 r.length=c at *
   have hc9:c<=9:=by omega
   have hpc:∀i,i<=c->10^i<=1000000000:=fun i hi=>by
    have:10^i<=10^9:=yao (by omega) (by omega)
    omega
   have hdt:∀i,vE (r.take i)<10^i\/r.length<i:=fun i=>by
    grind [Jg,List.length_take]
   have inner:∀(k i:Nat),i+k=c->jp 140 10 [.str r,.bool false,v,.int .i64 (c:Int),.int .u32 ((10^i:Nat):Int),.int .u32 ((vE (r.take i):Nat):Int),.int .i64 (c:Int),.int .i64 (i:Int),.bool false,.nilslice] t1 Q:=by
    intro k;induction k with
    | zero=>
     intro i hi;have hi:i=c:=by omega
     subst hi;refine LY ?_
     unfold Wt;refine zB (by simp[dC]) (xB ?_)
     rw[q194];have hp1:=hpc i (ybk _)
     have hp2:vE (r.take i)<10^i:=(hdt i).resolve_right (by omega)
     refine zd3 hv (by omega) hlt (by omega) (by omega) fun t2 w2 v2 k1 k2 k3 k4 k5 k6=>?_
     refine rA (Er (by omega)) (eD (jC ?_))
     refine ih (r.drop i) w2 v2 t2 (by grind) (fun b hb=>hd b (List.mem_of_mem_drop hb)) (by grind) (by grind) (hle.trans k1) k2 k3 ?_
     grind [BM,List.take_append_drop]
    | succ k ih2=>
     intro i hi;have hri:r[i]?=some r[i]:=ybd (by omega)
     have hrd:48<=r[i]/\r[i]<=57:=by have:=hd r[i] (ycj _);unfold bE at this;simpa using this
     refine LY ?_
     unfold Wt uU;have hp1:=hpc (i+1) (by omega)
     have hp2:vE (r.take (i+1))<10^(i+1):=(hdt (i+1)).resolve_right (by omega)
     rw[zQ hri,Tj]at hp2;refine pA (by grind [dC]) (rA (lK hri) (rB (jC ?_)))
     rw[yag]at hp1 hp2;have e1:fA .u32 (((10^i:Nat):Int)*10)=((10^(i+1):Nat):Int):=by rw[dT (by omega) (by omega),yag];omega
     have e2:fA .u32 (fA .u32 (((vE (r.take i):Nat):Int)*10)+fA .u32 (fA .u8 ((r[i]:Int)-48)))=((vE (r.take (i+1)):Nat):Int):=by
      rw[Gy (by omega) (by omega),dT (n:=((vE (r.take i):Nat):Int)*10) (by omega) (by omega),dT (n:=(r[i]:Int)-48) (by omega) (by omega),dT (by omega) (by omega),zQ hri,Tj]
      omega
     have e3:vC (i:Int)=.int .i64 ((i+1:Nat):Int):=by
      show zA.int .i64 (fA .i64 ((i:Int)+1))=_
      rw[wrap_i64 (by omega) (by omega)];rfl
     grind
   exact inner c 0 (by omega)
 have check:∀(k i:Nat),i+k=s.length->jp 140 2 [.str s,.bool false,.int .i64 (s.length:Int),.int .i64 (i:Int),.bool false,.nilslice] t Q:=by
  intro k;induction k with
  | zero=>
   intro i hi;refine zje ?_
   unfold Ws uQ5 uQ18;rw[ll];refine zB (by grind [dC]) (zB (by grind [dC]) (jC ?_))
   exact words s.length s [] .nilslice t (ybk _) hs hl (by grind) (bA.refl _) sP (fun x hx=>by cases hx) (by simp[val])
  | succ k ih=>
   intro i hi;have hsi:s[i]?=some s[i]:=ybd (by omega)
   have hsd:=dig s[i] (ycj _)
   refine zje ?_
   unfold Ws uQ5 uQ18 uU;have e3:vC (i:Int)=.int .i64 ((i+1:Nat):Int):=by
    grind [wrap_i64]
   refine pA (by grind [dC]) (rA (lK hsi) (rB (zB (by grind [dC]) (rA (lK hsi) (rB (zB (by grind [dC]) (jC ?_)))))))
   rw[e3];exact ih (i+1) (by omega)
 refine w140 ?_
 unfold t140 uU;rw[ll];refine pA (by grind [dC]) (rA hx0 (rB (zB (by grind [lE]) (jC ?_))))
 have e45:kB (x:Int) 45=false:=by grind [lE]
 rw[e45];refine zmu ?_
 unfold EO uQ5 uU;rw[ll];refine zB (by grind [lE]) (rA hx0 (rB ?_))
 by_cases h48:x=48
 ·have hl1:s.length=1:=by
   unfold kR at hp;have:s.head?=some 48:=by
    cases s with
    | nil=>cases hx
    | cons a r=>simp_all
   grind
  refine pA (by grind [lE]) (zB (by simp) (zB (by grind [dC]) (jC ?_)))
  exact check s.length 0 (by omega)
 ·refine zB (by grind [lE]) (jC ?_)
  exact check s.length 0 (by omega)
end
end
section
variable {a b:Nat}{u v:zA}{l:List Nat}
variable [rC]
theorem Hb{n:Nat}(h:(lC n).length<=1024):eL false (lC n)=true:=by
 unfold eL;split
 ·rfl
 ·rename_i hne
  have hn:=Mi n hne
  grind
def el22:Gw yA 22 261 1:=⟨⟨_,ty22,rfl,rfl⟩,⟨_,Bz,rfl,rfl,by decide,by decide⟩,fun y h=>by rw[Bz]at h;cases h;rfl⟩
section
variable {t:Tr tA}{Q:mB}
theorem sameA{b:Bool}  (h:cA t 1 (cC l) v):same 10 (.agg [.bool b,v]) (.agg [.bool b,v])=true:=by
 have h1:=cA.same (d:=9) h
 have h2:same 9 (.bool b) (.bool b)=true:=GF
 show(same 9 (.bool b) (.bool b)&&(same 9 v v&&true))=true
 simp_all
def CZ  (hv:cA t 1 (fB .u32 l) v)(hl:l.length<400000)(hlt:qB 4294967296 l)(hQ:∀t' u,bA t t'->cA t' 1 (cC (lC (val 4294967296 l))) u->Q (.agg [.bool false,u]) t'):Wc yA F 248 [.bool false,v] t Q:=by
 refine Uw hv hl hlt fun t' u hle hu=>?_
 have hlt2:qB 65536 (oE (sH (oE l))):=jS (Ug (jS hlt))
 have hval:val 65536 (oE (sH (oE l)))=val 4294967296 l:=by rw[uR,Ph,uR]
 rw[Zn hlt2 (sU _) hval]at hu
 have:(if oE l=[]then false else false)=false:=by split<;>rfl
 rw[this];exact hQ t' u hle hu
theorem zcj  (hu:cA t 1 (cC (lC a)) u)(hv:cA t 1 (cC (lC b)) v)(ha:(lC a).length<=1000)(hb:(lC b).length<=1000)(hb0:0<b)
  (hQ:∀t' q r,bA t t'->cA t' 1 (cC (lC (a / b))) q->cA t' 1 (cC (lC (a%b))) r->Q (.tup [.agg [.bool false,q],.agg [.bool false,r],.int .i64 0]) t'):Wc yA F 277 [.agg [.bool false,u],.agg [.bool false,v]] t Q:=by
 have hBB:=vO
 refine w277 ?_
 unfold t277 uI uB;refine gC fun bb hbb hbase=>?_
 obtain⟨t1,g1,g2,g3,g4⟩:=Mp (C:=yA) (T:=323) (el:=24) (sz:=2) (n:=2) (cl:=[[.bool false,u],[.bool false,v]]) (ps:=[(0,.agg [.bool false,u]),(1,.agg [.bool false,v])]) zkj rfl ty24 rfl rfl (by decide) rfl (fun i cs hi=>by
  match i,hi with
  | 0,hi=>grind
  | 1,hi=>grind) rfl hbb
 refine⟨_,_,g1,xB ?_⟩
 have hw:cA t1 2 ([(⟨false,lC a⟩:pJ),⟨false,lC b⟩].map pJ.d) (.slice bb 0 2 2):=⟨_,g2,cG.2 ⟨_,_,rfl,qU (w:=⟨false,lC a⟩) (hu.mono g3),cG.2 ⟨_,_,rfl,qU (w:=⟨false,lC b⟩) (hv.mono g3),cH.2 rfl⟩⟩⟩
 have hall:=QS hw (fun w hw=>by
  grind) (by simp)
 have hva:=Hb (n:=a) (by omega)
 have hvb:=Hb (n:=b) (by omega)
 rw[q288,hall,vA];refine sD (zB (by simp_all) ?_)
 have hvl:=cA.len (l:=cC (lC b)) hv
 rw[eO]at hvl;have hbne:lC b≠[]:=fun e=>by grind [Ip]
 have hbl:0<(lC b).length:=List.length_pos_iff.2 hbne
 refine rA hvl (rB (zB (by grind [lE]) (xB ?_)))
 rw[q235];refine Lz (hv.mono g3) (by omega) (yX b) fun t2 v2 k1 k2=>xB ?_
 rw[q235];refine Lz ((hu.mono g3).mono k1) (by omega) (yX a) fun t3 v3 m1 m2=>xB ?_
 rw[q295];have an:=Gs (yX a)
 have ab:=Gs (yX b)
 have vn:∀n,val BB (dF (lC n))=n:=fun n=>by rw[hBB,Pi,Bw]
 refine BG m2 (k2.mono m1) (by rw[wQ];omega) (by simp_all) (by simp_all) (Ih (Mi a)) (Ih (Mi b)) (fun e=>?_) fun t4 q r qv rv p1 p2 p3 p4 p5 p6 p7 p8 p9=>?_
 ·have:=vn b
  rw[e]at this;have:(0:Nat)=b:=this
  omega
 rw[vn,vn]at p8;rw[vn]at p9;have hq:val BB q=a / b/\val BB r=a%b:=by
  grind [Nat.mul_add_div,Nat.div_eq_of_lt,Nat.mul_add_mod,Nat.mod_eq_of_lt]
 have hB1:1<BB:=by omega
 have lenq:q.length<=1000:=by
  have h1:val BB q<=val BB (dF (lC a)):=by rw[vn,hq.1];exact Nat.div_le_self _ _
  have:=eR hB1 (by grind) p6 h1
  grind [wQ]
 have lenr:r.length<=1000:=by
  have h1:val BB r<=val BB (dF (lC b)):=by grind
  have:=eR hB1 (by grind) p7 h1
  grind [wQ]
 refine rA rfl (rA rfl (zB (by decide) (jC ?_)))
 refine zmo ?_
 unfold EI uG zH mH;refine xB ?_
 rw[q248];show Wc yA F 248 [.bool false,qv] t4 _
 refine CZ p2 (by omega) (by simp_all) fun t5 u5 s1 s2=>?_
 rw[<- hBB,hq.1]at s2;refine bC (bN s2) (pA rfl (xB ?_))
 rw[q248];refine CZ (p3.mono s1) (by omega) (by grind) fun t6 u6 s3 s4=>?_
 rw[<- hBB,hq.2]at s4;refine bC (bN s4) (pA (dL s2.one) (pA (dL s4.one) ?_))
 exact hQ t6 u5 u6 (g3.trans (k1.trans (m1.trans (p1.trans (s1.trans s3))))) (s2.mono s3) s4
def zjr  (hu:cA t 1 (cC (lC a)) u)(hv:cA t 1 (cC (lC b)) v)(ha:(lC a).length<=1000)(hb:(lC b).length<=1000)(hb0:0<b)
  (hQ:∀t' q r,bA t t'->cA t' 1 (cC (lC (a / b))) q->cA t' 1 (cC (lC (a%b))) r->Q (.tup [.agg [.bool false,q],.agg [.bool false,r]]) t'):Wc yA F 249 [.agg [.bool false,u],.agg [.bool false,v]] t Q:=by
 refine w249 ?_
 unfold t249 uI uG zH mH;refine xB ?_
 rw[q277];refine zcj hu hv ha hb hb0 fun t' q r h1 h2 h3=>?_
 refine rA rfl (bC (bN h2) (rA rfl (bC (bN h3) (rA rfl (rB (pA (dL h2.one) (pA (dL h3.one) (pA (dL h2.one) (pA (sameA h3) (pA (dL h3.one) ?_))))))))))
 exact hQ t' q r h1 h2 h3
def agF{f:eE} (hu:cA t 1 (cC f.n.limbs) u)(hv:cA t 1 (cC f.d.limbs) v):wK [.bool false,.nilslice,.bool false,.nilslice] (.agg [.bool f.n.neg,u,.bool f.d.neg,v])=some (cellsOf [.bool f.n.neg,u,.bool f.d.neg,v]):=iS (Cr hu hv) (eE.zs _)
theorem Mw (h:a<=b):(lC a).length<=(lC b).length:=
 eR (B:=65536) (by omega) (yX b) (Mi a) (by grind [Bw])
theorem zlw  (hu:cA t 1 (cC (lC a)) u)(hv:cA t 1 (cC (lC b)) v)(ha:(lC a).length<=200)(hb:(lC b).length<=200)(hb0:0<b)
  (hQ:∀t' cs,bA t t'->RD t' (vN false a b).dd cs->Q (.tup [.agg cs,.int .i64 0]) t'):Wc yA F 141 [.agg [.bool false,u],.agg [.bool false,v]] t Q:=by
 have hva:=Hb (n:=a) (by omega)
 have hvb:=Hb (n:=b) (by omega)
 have hvl:=cA.len (l:=cC (lC b)) hv
 rw[eO]at hvl;have hbne:lC b≠[]:=fun e=>by grind [Ip]
 have hbl:0<(lC b).length:=List.length_pos_iff.2 hbne
 refine w141 ?_
 unfold t141 uQ10 uI uB uG uM2 uA2;refine xB ?_
 rw[q196,Ei (by omega) hu,vA,hva]
 refine sD (zB (by simp) (xB ?_))
 rw[q196,Ei (by omega) hv,vA,hvb]
 refine sD (zB (by simp) (rA hvl (rB (zB (by grind [lE]) (xB ?_)))))
 rw[q197];refine w197 ?_
 unfold t197 zH;refine zB (by simp) (jC (j197_7 ?_))
 unfold zh3 uG zH mH;refine xB ?_
 rw[q234];refine w234 ?_
 unfold t234 uI uG zH mH;refine xB ?_
 rw[q267];refine zjo (n:=⟨false,lC a⟩) (d:=⟨false,lC b⟩) hu hv (by grind) (by grind) (yX a) (yX b) hva hvb fun t1 g gv h1 h2 h3 h4 h5=>?_
 have h5:val 65536 g=Nat.gcd a b:=by rw[h5,Bw,Bw]
 have hg:=Zn h3 h4 h5
 subst hg;have hgb:Nat.gcd a b<=b:=Nat.gcd_le_right _ hb0
 have hgl:=Mw hgb
 have hg0:0<Nat.gcd a b:=Nat.gcd_pos_of_pos_right _ hb0
 refine rA rfl (bC (bN h2) (rA rfl (rB (pA (dL h2.one) (pA (dL h2.one) ?_)))))
 refine bC (bN h2) (pA (dL h2.one) (xB ?_))
 rw[q249];refine zjr (hu.mono h1) h2 (by omega) (by omega) hg0 fun t2 q r k1 k2 k3=>?_
 refine rA rfl (bC (bN k2) (rA rfl (bC (bN k3) (pA (dL k2.one) (xB ?_)))))
 rw[q249];refine zjr ((hv.mono h1).mono k1) (h2.mono k1) (by omega) (by omega) hg0 fun t3 q2 r2 m1 m2 m3=>?_
 have kq:=k2.mono m1
 have hf:=Cr (f:=⟨⟨false,lC (a / Nat.gcd a b)⟩,⟨false,lC (b / Nat.gcd a b)⟩⟩) kq m2
 refine rA rfl (bC (bN m2) (rA rfl (bC (bN m3) (pA (dL m2.one) (pA rfl (pA rfl (pA hf.all ?_)))))))
 refine bC (agF (f:=⟨⟨false,lC (a / Nat.gcd a b)⟩,⟨false,lC (b / Nat.gcd a b)⟩⟩) kq m2) (xB ?_)
 have ql:=cA.len (l:=cC (lC (a / Nat.gcd a b))) kq
 rw[eO]at ql;have ql2:=cA.len (l:=cC (lC (b / Nat.gcd a b))) m2
 rw[eO]at ql2;have la:=Mw (Nat.div_le_self a (Nat.gcd a b))
 have lb:=Mw (Nat.div_le_self b (Nat.gcd a b))
 have long:lB yA F 232 [.agg [.bool false,q,.bool false,q2]] t3=some (.bool false):=by
  refine kC.2 (w232 ?_)
  unfold t232 uI gG;refine rA ql (rB (zB (by grind [dC]) (rA ql2 (rB ⟨?_,rfl⟩))))
  rw[dC,decide_eq_false (by omega)]
 have res:lB yA F 198 [.agg [.bool false,q,.bool false,q2]] t3=some (.tup [.agg [.bool false,q,.bool false,q2],.int .i64 0]):=by
  refine kC.2 (w198 ?_)
  unfold t198 uB;refine xB ?_
  rw[q232,long,vA];exact sD (zB (by simp) (pA hf.all ⟨rfl,rfl⟩))
 rw[q198];show oD (lB yA F 198 [.agg [.bool false,q,.bool false,q2]] t3) _
 rw[res,vA];refine rA rfl (bC (agF (f:=⟨⟨false,lC (a / Nat.gcd a b)⟩,⟨false,lC (b / Nat.gcd a b)⟩⟩) kq m2) (rA rfl (rB (pA hf.all ?_))))
 refine hQ t3 _ (h1.trans (k1.trans m1)) ?_
 unfold vN;exact hf
theorem PJ  (hv:cA t 1 (cC l) v)(hl:l.length<1000000)(hQ:∀t' v',bA t t'->cA t' 1 (cC l) v'->Q v' t'):Wc yA F 250 [v] t Q:=by
 refine w250 ?_
 have e:(Bk .eql).f yA 22 (.tmp 3) (.const (.slice none 0 0)) v .nilslice=some (.bool (Nat.beq v.tag 5)):=by
  obtain⟨cl,h1,_⟩:=hv
  rcases h1 with⟨rfl,_⟩ | ⟨b,off,cap,rfl,_⟩
  ·kernel_rfl
  ·kernel_rfl
 simp only[uB,t250,oA,e,vA,Dm];split
 ·grind [oV,fC,bA.refl]
 ·intro b hb hbase
  obtain⟨H1,g1,⟨c,g2⟩,g3⟩:=lit0 (t:=t) ty22 rfl Bz rfl hb
  rw[g1];simp only[vA];intro n hn _;obtain⟨u,H',g4,g5,g6,_⟩:=QP el22 (hv.mono g3) (by grind [eO]) hn (.inr ⟨b,c,0,rfl,g2⟩)
  rw[g4];simp only[vA];exact hQ _ _ (g3.trans g6) g5
theorem Yk {neg:Bool} (hv:cA t 1 (cC l) v)(hl:l.length<1000000)(hQ:∀t' v',bA t t'->cA t' 1 (cC l) v'->Q (.agg [.bool (!neg&&decide (0<l.length)),v']) t'):Wc yA F 199 [.agg [.bool neg,v]] t Q:=by
 have hvl:=cA.len (l:=cC l) hv
 rw[eO]at hvl;refine w199 ?_
 unfold t199 uI
 cases neg with
 | false=>
  refine pA rfl (rA hvl (rB (xB ?_)))
  rw[q250];refine PJ hv hl fun t1 v1 h1 h2=>?_
  have e:jB 0 (l.length:Int)=decide (0<l.length):=by grind [dC]
  rw[e];have hs:same 10 (.int .i64 (l.length:Int)) (uZ (l.length:Int))=true:=by
   grind [Ho]
  refine pA hv.same (rA hvl (pA hs (pA (dL h2.one) (pA (dL h2.one) ?_))))
  have:=hQ t1 v1 h1 h2
  rw[ycl,ycn]at this;exact this
 | true=>
  refine zB (by simp) (xB ?_)
  rw[q250];refine PJ hv hl fun t1 v1 h1 h2=>?_
  refine pA (dL h2.one) (pA (dL h2.one) ?_)
  exact hQ t1 v1 h1 h2
theorem neg_ok {cs:List zA}(hd:RD t (vN false a b).dd cs)(ha:(lC a).length<=200)(hb:(lC b).length<=200)(hb0:0<b)
  (hQ:∀t' cs,bA t t'->RD t' (vN true a b).dd cs->Q (.tup [.agg cs,.int .i64 0]) t'):Wc yA F 142 [.agg cs] t Q:=by
 have hg0:0<Nat.gcd a b:=Nat.gcd_pos_of_pos_right _ hb0
 have la:=Mw (Nat.div_le_self a (Nat.gcd a b))
 have lb:=Mw (Nat.div_le_self b (Nat.gcd a b))
 obtain⟨u,v,rfl,hu,hv⟩:=rd_frac hd
 have hu:cA t 1 (cC (lC (a / Nat.gcd a b))) u:=hu
 have hv:cA t 1 (cC (lC (b / Nat.gcd a b))) v:=hv
 have hd0:0<b / Nat.gcd a b:=Nat.div_pos (Nat.gcd_le_right _ hb0) hg0
 have hvalid:vR (vN false a b)=true:=by
  grind [vR,vN,Hb,Bw,Nat.gcd_div,Nat.gcd_dvd_left,Nat.gcd_dvd_right,Nat.div_self,Ip]
 have hfit:eE.fit (vN false a b):=⟨⟨by show(lC _).length<_;grind [nG],by show(lC _).length<_;grind [nG]⟩,yX _,yX _⟩
 refine w142 ?_
 unfold t142 uQ10 uB uG mH;refine xB ?_
 rw[q130];have:=Ut (f:=vN false a b) hu hv hfit
 show oD (lB yA F 130 [.agg [.bool (vN false a b).n.neg,u,.bool (vN false a b).d.neg,v]] t) _
 rw[this,vA,hvalid];refine sD (zB (by simp) (xB ?_))
 rw[q199];refine Yk (neg:=false) hu (by omega) fun t1 u1 h1 h2=>?_
 have hv1:=hv.mono h1
 refine bC (bN h2) (pA (sameA hv1) (xB ?_))
 rw[q199];refine Yk (neg:=false) hv1 (by omega) fun t2 v2 k1 k2=>?_
 refine bC (bN k2) (xB ?_)
 rw[q199];refine Yk (neg:=(!false&&decide (0<(lC (b / Nat.gcd a b)).length))) k2 (by omega) fun t3 v3 m1 m2=>?_
 refine bC (bN m2) (pA rfl ?_)
 have hne:0<(lC (b / Nat.gcd a b)).length:=List.length_pos_iff.2 fun e=>by grind [Ip]
 have hn:(vN true a b).n=⟨!false&&decide (0<(lC (a / Nat.gcd a b)).length),lC (a / Nat.gcd a b)⟩:=by
  grind [vN,Ip,Nat.div_pos,Nat.gcd_le_left,List.length_pos_iff]
 have hdd:(vN true a b).d=⟨!(!false&&decide (0<(lC (b / Nat.gcd a b)).length))&&decide (0<(lC (b / Nat.gcd a b)).length),lC (b / Nat.gcd a b)⟩:=by
  grind [vN]
 have hf:=Cr (f:=⟨⟨!false&&decide (0<(lC (a / Nat.gcd a b)).length),lC (a / Nat.gcd a b)⟩,⟨!(!false&&decide (0<(lC (b / Nat.gcd a b)).length))&&decide (0<(lC (b / Nat.gcd a b)).length),lC (b / Nat.gcd a b)⟩⟩) ((h2.mono k1).mono m1) m2
 refine pA hf.all ?_
 refine hQ t3 _ (h1.trans (k1.trans m1)) ?_
 have:vN true a b=⟨(vN true a b).n,(vN true a b).d⟩:=rfl
 rw[this,hn,hdd];exact hf
end
end
section
variable {l s:List Nat}{v y:zA}{box x:Nat}{Q:mB}{I:Nat->Tr tA->Prop}{neg:Bool}
variable [rC]
section
variable {t tf:Tr tA}
theorem XY      (hl:l.length<1000000)
  (hr:∀k t,I k t->iA yA 22 ⟨0,t⟩ (.ptr box 0)=some v/\cA t 1 (fB .u16 l) v)
  (hy:∀k x t,l[k]?=some x->I (k+1) t->∀R:mB,(∀t',I k t'->R (.bool true) t')->oD (eK y [.int .u16 (x:Nat)]) fun p=>Wq yA F wD p.1 p.2 t R)
  (hQ:∀t,I 0 t->Q (.tup []) t):∀(k:Nat) (t:Tr tA),k<=l.length->I k t->jp 278 2 [y,.ptr box 0,.int .i64 ((k:Int)-1)] t Q:=by
 intro k;induction k with
 | zero=>
  intro t _ h;refine zi1 ?_
  simp only[uH,uB,uZ,uW,Vz,oA,sI];simp_all
 | succ k ih=>
  intro t hk h;obtain⟨g0,hv⟩:=hr _ _ h
  obtain⟨x,hx⟩:=getElem?_of_lt (l:=l) (i:=k) (by omega)
  obtain⟨c,off,g1,g2⟩:=hv.idx kV hx
  have e1:((k+1:Nat):Int)-1=(k:Int):=by omega
  rw[e1];refine zi1 ?_
  simp (disch:=omega) only[uH,uB,uZ,uW,Vz,oA,sI,g0,g1,g2,vA,zC,wrap_i64]
  rw[yab (by omega)]
  refine hy k x t hx h _ fun t' ht'=>?_
  grind [zA.asBool,vA]
def zch     {t:Tr tA} (hl:l.length<1000000)
  (hr:∀k t,I k t->iA yA 22 ⟨0,t⟩ (.ptr box 0)=some v/\cA t 1 (fB .u16 l) v)
  (hy:∀k x t,l[k]?=some x->I (k+1) t->∀R:mB,(∀t',I k t'->R (.bool true) t')->oD (eK y [.int .u16 (x:Nat)]) fun p=>Wq yA F wD p.1 p.2 t R)
  (hQ:∀t,I 0 t->Q (.tup []) t) (h:I l.length t):Wc yA F 278 [y,.ptr box 0] t Q:=by
 obtain⟨g0,hv⟩:=hr _ _ h
 refine w278 ?_
 simp (disch:=omega) only[uI,uZ,uW,t278,oA,g0,hv.len,fF,vA,zC,wrap_i64]
 exact XY hl hr hy hQ l.length t (ybk _) h
theorem UT{f i:Nat}{v8 v4:zA}{K R:T}{ps:List Nat} {S:Nat->Tr tA->Tr tA->Prop}(hS:∀k,Ul (S k))(hp:cA tf 1 (fB .u16 ps) v4)(hl:ps.length<30000)(h:S ps.length tf t)
  (body:∀(k x:Nat) (tf t:Tr tA) (Q1:mB),ps[k]?=some x->S (k+1) tf t->(∀t',S k tf t'->Q1 (.bool true) t')->Jq yA F f i [v8,.int .u16 (x:Int)] t Q1)
  (oH:∀tf' t',bA tf tf'->S 0 tf' t'->oA yA.base (Wq yA F wD) (Jq yA F f) K t' Q) :
  oA yA.base (Wq yA F wD) (Jq yA F f) (.call 251 [v4] fun a0=>.range (uQ yA) a0 i 1 [v8] K R) t Q:=by
 simp only[oA];rw[q251];refine w251 ?_
 simp only[t251,oA];intro bb hbb hbase;have hc4:v4.cells=[v4]:=by
  obtain⟨cl,h1,_⟩:=hp
  rcases h1 with⟨rfl,_⟩ | ⟨_,_,_,rfl,_⟩<;>rfl
 have hone:zL v4 ⟨bb,t⟩=some (.ptr bb 0,⟨bb+1,t.set bb (.cells (Tr.ofList [v4]) 1 none)⟩):=by
  unfold zL;rw[hc4];rfl
 rw[hone,vA];simp only[];have h1:=(hS _).both h hbb (.cells (Tr.ofList [v4]) 1 none)
 have hfb:=Ii ((hS _).le h) hbb
 have htf1:bA tf (tf.set bb (.cells (Tr.ofList [v4]) 1 none)):=(nO hfb _).1
 generalize htf:tf.set bb (.cells (Tr.ofList [v4]) 1 none)=tf1 at h1 htf1
 have hg1:tf1.get bb=some (.cells (Tr.ofList [v4]) 1 none):=by rw[<- htf,Tr.get_set,yab rfl]
 generalize t.set bb (.cells (Tr.ofList [v4]) 1 none)=t1 at h1
 refine⟨Nat.le_add_right _ _,fun l r hl0 hlb hr1 hr2 hy=>?_⟩
 have hra:Cm (uQ yA) (.func (.func 278) [] [.ptr bb 0]) l=some (278,[.func (.yld l) [] [],.ptr bb 0]):=by
  unfold Cm;simp only[zA.asFunc,qA];have:uQ yA 278=true:=by kernel_rfl
  rw[this];rfl
 rw[hra,vA];have h2:=(hS _).both h1 hl0 (.loop r)
 have hfl:=Ii ((hS _).le h1) hl0
 have hlr:hO true r=r:=by
  obtain⟨a,b,c,d,e,f,g,h,i⟩:=r
  have hr1:a=.ready:=hr1
  have hr2:b=none:=hr2
  subst hr1;subst hr2;rfl
 have hle2:bA tf1 (tf1.set l (.loop r)):=(nO hfl _).1
 rw[show Wq yA F wD 278=Wc yA F 278 by funext a m R;rw[q278]]
 refine zch (l:=ps) (v:=v4) (I:=fun k t'=>S k (tf1.set l (.loop r)) t') (by omega) ?_ ?_ ?_ h2
 ·intro k t' hI
  have hle:=(hS _).le hI
  have hg:t'.get bb=some (.cells (Tr.ofList [v4]) 1 none):=hle _ _ (hle2 _ _ hg1)
  refine⟨?_,hp.mono (htf1.trans (hle2.trans hle))⟩
  exact(iC.load1 (cs:=[v4]) (lo:=none) ⟨Tr.ofList [v4],hg,fun j a hj=>by grind [Tr.get_ofList]⟩ ty22 rfl (j:=0) rfl)
 ·intro k x t' hx hI R hR
  show oD (some (yo+l,[zA.int .u16 (x:Int)])) _
  rw[vA];refine hy [.int .u16 (x:Int)] t' R rfl ((hS _).le hI _ _ (by rw[Tr.get_set,yab rfl])) ?_
  refine body k x tf1 _ _ hx ((hS _).out hfl hI) fun t2 h3 hn2=>⟨true,rfl,?_⟩
  rw[hlr];exact hR _ ((hS _).both h3 hn2 (.loop r))
 ·intro t' hI
  exact .inl ⟨(hS _).le hI _ _ (by rw[Tr.get_set,yab rfl]),oH tf1 _ htf1 ((hS _).out hfl hI)⟩
def or16{y:Nat}(hx:x<281474976710656)(hy:y<65536):rI Nat.lor .u64 ((x*65536:Nat):Int) (y:Int)=some (.int .u64 ((x*65536+y:Nat):Int)):=by
 have h:=Et (a:=x) (b:=y) (n:=16) hy
 have e:(2:Nat)^16=65536:=by decide
 rw[e]at h;rw[iU (k:=.u64) (show x*65536<pG .u64 by show _<18446744073709551616;omega) (show y<pG .u64 by show _<18446744073709551616;omega),h]
def zfr{bx y:Nat}{Q1:mB}(h:tV bx (.int .u64 (y:Int)) tf t)(hy:y<281474976710656)(hx:x<65536)(hQ:∀t',tV bx (.int .u64 ((y*65536+x:Nat):Int)) tf t'->Q1 (.bool true) t'):jp 200 2 [.ptr bx 0,.int .u16 (x:Int)] t Q1:=by
 obtain⟨i1,i2,i3,i4⟩:=h
 have e5:(y:Int)*65536=((y*65536:Nat):Int):=by omega
 have e6:rI Nat.lor .u64 (fA .u64 ((y:Int)*65536)) (fA .u64 (x:Int))=some (.int .u64 ((y*65536+x:Nat):Int)):=by
  rw[e5,nF (by omega) (by omega),nF (by omega) (by omega),or16 hy hx]
 refine j200_2 ?_
 unfold zh1 uE;refine aB (i4.load1 aP rfl (j:=0) rfl) (rB ?_)
 refine rA e6 (rB (gC fun b3 _ _=>?_))
 obtain⟨t3,k1,k2,k3⟩:=i4.store1 (v:=.int .u64 ((y*65536+x:Nat):Int)) i1 aP rfl rfl rfl (j:=0) (by simp)
 exact⟨_,_,k1 b3,hQ _ ⟨i1,i2,i3.off i2 k3,k2⟩⟩
theorem int128{n:Nat} (hv:cA t 1 (cC (lC n)) v)(hl:(lC n).length<=1000):lB yA F 200 [.agg [.bool false,v]] t=some (.tup [.int .i64 (if n<9223372036854775808 then(n:Int)else 0),.int .i64 (if n<9223372036854775808 then 0 else 3)]):=by
 have hvl:=cA.len (l:=cC (lC n)) hv
 rw[eO]at hvl;have hlt:=yX n
 have hval:=Bw n
 refine zU (w200 ?_)
 unfold t200 uI uB;refine xB ?_
 rw[q196,Ei (by omega) hv,vA,Hb (by omega)]
 refine sD (zB (by simp) (rA hvl (rB ?_)))
 by_cases h4:4<(lC n).length
 ·have hbig:¬ n<9223372036854775808:=fun h=>by
   have:=LJ (n:=n) (k:=4) (by omega)
   omega
  refine pA (by grind [dC]) ⟨?_,bA.refl _⟩
  rw[yaa hbig,yaa hbig]
 ·have hn64:n<18446744073709551616:=by
   grind [lC]
  refine zB (by grind [dC]) (gC fun bx hbx hbase=>?_)
  obtain⟨t1,e1,e2,e3,e4⟩:=dO (C:=yA) aP hbx
  refine⟨_,_,e1,gC fun b2 _ _=>?_⟩
  obtain⟨t2,g1,g2,g3⟩:=e2.store1 (v:=.int .u64 0) hbase aP rfl rfl rfl (j:=0) (by simp)
  refine⟨_,_,g1 b2,?_⟩
  have hS0:tV bx (.int .u64 ((val 65536 ((lC n).drop (lC n).length):Nat):Int)) t t2:=by
   rw[List.drop_length];exact⟨hbase,hbx,(bA.refl t).off hbx e4 |>.off hbx g3,g2⟩
  refine UT (S:=fun k tf t=>tV bx (.int .u64 ((val 65536 ((lC n).drop k):Nat):Int)) tf t) (fun k=>tV.framed) hv (by omega) hS0 (fun k x tf t Q1 hx hI hR=>?_) (fun tf' t' hle hI=>?_)
  ·have hk:=(ybc.1 hx).1
   have hdrop:(lC n).drop k=x::(lC n).drop (k+1):=fQ hx
   have hd1:val 65536 ((lC n).drop (k+1))<281474976710656:=by
    have h1:=sO (B:=65536) (by omega) (CC hlt (k+1))
    grind [lC]
   have hx16:x<65536:=hlt x (ycv hx)
   refine zfr hI hd1 hx16 fun t' h'=>hR t' ?_
   have:val 65536 ((lC n).drop k)=val 65536 ((lC n).drop (k+1))*65536+x:=by grind [val]
   simp_all
  ·obtain⟨i1,i2,i3,i4⟩:=hI
   rw[ycr,hval]at i4;unfold uE;refine zB (by simp) (aB (i4.load1 aP rfl (j:=0) rfl) (rB ?_))
   by_cases h63:n<9223372036854775808
   ·rw[yab h63,yab h63]
    refine zB (by grind [jQ]) (aB (i4.load1 aP rfl (j:=0) rfl) (rB ⟨?_,hle.trans i3⟩))
    have:uW (n:Int)=(n:Int):=wrap_i64 (by omega) (by omega)
    rw[this]
   ·rw[yaa h63,yaa h63]
    exact pA (by grind [jQ]) ⟨rfl,hle.trans i3⟩
def IW (h:wN s=false):kP s=s:=by
 unfold wN at h;unfold kP iE;induction s with
 | nil=>rfl
 | cons b s ih=>
  rw[List.contains_cons]at h;simp only[yal,beq_eq_false_iff_ne]at h;have hd:decide (b≠47)=true:=decide_eq_true fun e:b=47=>h.1 e.symm
  rw[List.takeWhile_cons,hd,yab rfl,ih h.2]
theorem zcr:∀s:List Nat,Bb [47] s=if wN s=true then some (kP s,eQ s)else none:=by
 intro s;induction s with
 | nil=>rfl
 | cons b s ih=>
  have e:oW [47] (b::s)=Nat.beq 47 b:=by
   show(bif Nat.beq 47 b then oW [] s else false)=_
   have:oW [] s=true:=by cases s<;>rfl
   rw[this]
   cases Nat.beq 47 b<;>rfl
  unfold Bb;rw[e,ih];unfold wN eQ kP iE;rw[List.contains_cons]
  cases hb:Nat.beq 47 b with
  | true=>
   grind [fC,List.takeWhile_cons,oQ,lD]
  | false=>
   have hne:¬ 47=b:=fun e=>by simp_all
   have hd:decide (b≠47)=true:=decide_eq_true fun e:b=47=>hne e.symm
   rw[cond_false,List.takeWhile_cons,hd,yab rfl];have:(47 == b)=false:=by simp[hne]
   rw[this,Bool.false_or];split
   ·simp
   ·rfl
def BK (h:∀b∈s,bE b=true)(hl:s.length<=200):(lC (vE s)).length<=200:=by
 have h1:=Jg h
 have h2:10^s.length<=65536^s.length:=Nat.pow_le_pow_left (by omega) _
 have:=LJ (n:=vE s) (k:=s.length) (by omega)
 omega
theorem intPv  {lo hi:Int}(h:dZ s)(hs:wN s=false)(hlo : -4294967296<=lo)(hhi:hi<=4294967296):∃i:Int,lB yA F 144 [.str s,.bool neg,.int .i64 lo,.int .i64 hi] t=some (.tup [.int .i64 i,.bool (nW s neg lo hi).isSome])/\∀j,nW s neg lo hi=some j->i=j:=by
 obtain⟨h1,h2,h3,h4,_⟩:=h
 rw[IW hs]at h2 h3 h4;have hlen:=BK h2 h1
 generalize hn:vE s=n at hlen
 have core:∀R:mB,(∀t',bA t t'->n<9223372036854775808->jp 144 15 [.int .i64 lo,.int .i64 hi,.int .i64 (if neg then -(n:Int)else n)] t' R)->(∀t',bA t t'->¬ n<9223372036854775808->R (.tup [.int .i64 0,.bool false]) t')->Wc yA F 144 [.str s,.bool neg,.int .i64 lo,.int .i64 hi] t R:=by
  intro R k1 k2;refine w144 ?_
  unfold t144 uI uG zH mH;refine xB ?_
  rw[q140];refine Yf h2 h3 h4 h1 fun t' u hle hu=>?_
  rw[hn]at hu;refine rA rfl (bC (bN hu) (rA rfl (rB (pA (dL hu.one) (xB ?_)))))
  rw[q200];show oD (lB yA F 200 [.agg [.bool false,u]] t') _
  rw[int128 hu (by omega),vA]
  refine rA rfl (rB (rA rfl (rB ?_)))
  by_cases h63:n<9223372036854775808
  ·rw[yab h63,yab h63]
   refine zB (by decide) ?_
   grind [pA,jC,wrap_i64,zB]
  ·rw[yaa h63,yaa h63]
   exact pA (by decide) (k2 t' hle h63)
 by_cases h63:n<9223372036854775808
 ·refine⟨if neg then -(n:Int)else n,zU (core _ (fun t' hle _=>?_) fun t' _ hh=>absurd h63 hh),fun j hj=>?_⟩
  ·refine zmt ?_
   unfold EN;unfold nW;rw[hn];generalize (if neg then -(n:Int)else n)=m
   show wp 144 _ t' _
   by_cases hl:lo<=m
   ·refine pA (by grind [jQ]) ⟨?_,hle⟩
    grind [jQ]
   ·refine zB (by grind [jQ]) ⟨?_,hle⟩
    simp[hl]
  grind [nW]
 ·have hno:nW s neg lo hi=none:=by
   grind [nW]
  rw[hno];exact⟨0,zU (core _ (fun t' _ hh=>absurd hh h63) fun t' hle _=>⟨rfl,hle⟩),fun j hj=>by cases hj⟩
theorem fracPv   (h:dZ s)(hQ:∀t' cs,bA t t'->RD t' (tY s neg).dd cs->Q (.agg cs) t'):Wc yA F 80 [.str s,.bool neg] t Q:=by
 obtain⟨h1,h2,h3,h4,h5⟩:=h
 have la:(kP s).length<=s.length:=by grind [kP,iE,List.takeWhile_sublist]
 have main:∀b:List Nat,(∀x∈b,bE x=true)->b≠[]->kR b=false->b.length<=200->0<vE b->tY s neg=vN neg (vE (kP s)) (vE b)->jp 80 9 [.bool neg,.str (kP s),.str b,.bool false,.nilslice,.bool false,.nilslice] t Q:=by
  intro b b1 b2 b3 b4 b5 hf;refine j80_9 ?_
  unfold t80_9 uI uG zH mH uM2 uA2;refine xB ?_
  rw[q140];refine Yf h2 h3 h4 (by omega) fun t1 u k1 k2=>?_
  refine rA rfl (bC (bN k2) (rA rfl (rB (pA (dL k2.one) (xB ?_)))))
  rw[q140];refine Yf b1 b2 b3 b4 fun t2 v m1 m2=>?_
  refine rA rfl (bC (bN m2) (rA rfl (rB (pA (dL m2.one) (xB ?_)))))
  rw[q141];have l1:=BK h2 (by omega)
  have l2:=BK b1 b4
  refine zlw (k2.mono m1) m2 l1 l2 b5 fun t3 cs p1 p2=>?_
  obtain⟨u3,v3,rfl,hu3,hv3⟩:=rd_frac p2
  refine rA rfl (bC (agF hu3 hv3) (rA rfl (rB (pA p2.all ?_))))
  cases neg with
  | true=>
   refine pA rfl (xB ?_)
   rw[q142];refine neg_ok p2 l1 l2 b5 fun t4 cs4 r1 r2=>?_
   obtain⟨u4,v4,rfl,hu4,hv4⟩:=rd_frac r2
   refine rA rfl (bC (agF hu4 hv4) (rA rfl (rB (pA r2.all (pA r2.all ?_)))))
   refine hQ t4 _ (k1.trans (m1.trans (p1.trans r1))) ?_
   rw[hf];exact r2
  | false=>
   refine zB (by simp) (pA p2.all ?_)
   refine hQ t3 _ (k1.trans (m1.trans p1)) ?_
   rw[hf];exact p2
 refine w80 ?_
 unfold t80 uB uS;refine xB ?_
 have hg:yA.prims.get 139=some (rL pCut):=by kernel_rfl
 have hcut:lB yA F 139 [.str s,.str [47]] t=some (.tup [.str (if wN s=true then kP s else s),.str (if wN s=true then eQ s else []),.bool (wN s)]):=by
  refine Fdzx hg fun H=>?_
  show wB (Nat.blt (aA s) 4294967281) _=_
  rw[lD,nC.2 (by omega),cD,zcr]
  cases wN s<;>rfl
 rw[q139,hcut,vA];refine rA rfl (eD (rA rfl (eD (rA rfl (sD ?_)))))
 cases hs:wN s with
 | true=>
  obtain⟨c1,c2,c3,c4⟩:=h5 hs
  refine zB (by simp) (jC ?_)
  simp only[if_true];have lb:(eQ s).length<=s.length:=by grind [eQ]
  refine main (eQ s) c2 c1 c3 (by omega) (zgm c2 c1 fun e=>?_) (by grind [tY])
  unfold kR at c3;rw[e]at c3;simp at c3;have:(eQ s).length=1:=by grind [List.length_pos_iff]
  match hb:eQ s with
  | []=>grind
  | [x]=>simp_all
  | x::y::r=>simp_all
 | false=>
  refine pA rfl (jC ?_)
  simp only[ybq,if_false];have:=main [49] (by decide) (by simp) (by decide) (by simp) (by decide) (by unfold tY;rw[hs];rfl)
  rwa [IW hs]at this
end
end
section
variable {a b i m y:Nat}{s:List Nat}
variable [rC]
section
variable {t:Tr tA}{Q:mB}
theorem zmc(y:Nat):lB yA F 271 [.int .i64 (y:Int)] t=some (.bool (Ms y)):=by
 have e:∀k:Nat,Int.tmod (y:Int) (k:Int)=((y%k:Nat):Int):=fun k=>by grind
 refine kC.2 (w271 ?_)
 unfold t271 bB gG;rw[show(4:Int)=((4:Nat):Int) from rfl,show(100:Int)=((100:Nat):Int) from rfl,show(400:Int)=((400:Nat):Int) from rfl,e,e,e]
 unfold Ms;by_cases h4:y%4=0
 ·refine pA (by grind [lE]) ?_
  by_cases h1:y%100=0
  ·refine zB (by grind [lE]) ⟨?_,rfl⟩
   rw[lE];congr 1
   grind
  ·refine pA (by grind [lE]) ⟨?_,rfl⟩
   grind
 ·refine zB (by grind [lE]) ⟨?_,rfl⟩
  simp[h4]
theorem KB (h:y<1000000):lB yA F 243 [.int .i64 (y:Int)] t=some (.int .i64 (qQ y:Int)):=by
 have e:∀k:Nat,Int.tdiv (y:Int) (k:Int)=((y / k:Nat):Int):=fun k=>by simp_all
 refine kC.2 (w243 ?_)
 unfold t243 uW;rw[show(4:Int)=((4:Nat):Int) from rfl,show(100:Int)=((100:Nat):Int) from rfl,show(400:Int)=((400:Nat):Int) from rfl,e,e,e]
 have h1:y / 100<=y / 4:=Nat.div_le_div_left (by omega) (by omega)
 have h2:y / 4<=y:=Nat.div_le_self _ _
 have h3:y / 400<=y:=Nat.div_le_self _ _
 simp (disch:=omega) only[wrap_i64]
 refine⟨?_,rfl⟩
 grind [qQ]
theorem zma(hg:bK t) (hi:i<12):tC yA 304 (.ptr 3 0) (.int .i64 (i:Int))=some (.ptr 3 (0+i))/\iA yA 3 ⟨0,t⟩ (.ptr 3 (0+i))=some (.int .i64 ((Mq.getD i 0:Nat):Int)):=by
 refine⟨?_,hg.2.2.load1 iJ rfl ?_⟩
 ·unfold tC
  rw[ty304,qA];have e:(zA.int .i64 (i:Int)).asNat=some i:=rfl
  rw[e,qA];simp only[zA.asSlice,zA.asPtr,xE.asArr,qA];rw[iJ,qA,nC.2 hi,cD,Nat.mul_one]
 ·have:Mq[i]?=some (Mq.getD i 0):=by
   rw[List.getD_eq_getElem?_getD,ybd (by show i<12;exact hi)];rfl
  grind
theorem zil(hg:bK t)(y m:Nat)(hm:m<1000000):lB yA F 244 [.int .i64 (y:Int),.int .i64 (m:Int)] t=some (.int .i64 (bM y m:Int)):=by
 refine kC.2 (w244 ?_)
 unfold t244 uQ16 uB;by_cases h1:m<1
 ·refine pA (by grind [dC]) ⟨?_,rfl⟩
  grind [bM]
 refine zB (by grind [dC]) ?_
 by_cases h2:12<m
 ·refine pA (by grind [dC]) ⟨?_,rfl⟩
  grind [bM]
 refine zB (by grind [dC]) ?_
 have tail:¬ (m=2/\Ms y=true)->wp 244 (uQ16 (m:Int)) t fun v' t'=>v'=.int .i64 (bM y m:Int)/\t'=t:=by
  intro hn;unfold uQ16 uI;have e:uW ((m:Int)-1)=((m-1:Nat):Int):=by
   grind [wrap_i64]
  obtain⟨k1,k2⟩:=zma hg (i:=m-1) (by omega)
  rw[e];refine rA k1 (aB k2 (rB ⟨?_,rfl⟩))
  unfold bM;rw[yaa (by omega),yaa hn]
 by_cases h3:m=2
 ·refine pA (by grind [lE]) (xB ?_)
  rw[q271,zmc,vA];refine sD ?_
  cases hl:Ms y with
  | true=>
   refine pA rfl ⟨?_,rfl⟩
   grind [bM]
  | false=>exact zB (by simp) (tail (by grind))
 ·exact zB (by grind [lE]) (tail fun h=>h3 h.1)
theorem Zh(y m:Nat):bM y m<=31:=by
 unfold bM;split
 ·omega
 split
 ·omega
 ·rename_i h1 _
  have:m-1<12:=by omega
  generalize m-1=k at this
  match k,this with
  | 0,_ | 1,_ | 2,_ | 3,_ | 4,_ | 5,_ | 6,_ | 7,_ | 8,_ | 9,_ | 10,_ | 11,_=>decide
theorem EP(y:Nat):∀k,Hk y k<=31*k:=by
 intro k;induction k with
 | zero=>exact ybk _
 | succ k ih=>grind [Hk,Zh]
theorem KC(y:Nat):qQ y<=y+y:=by grind [qQ]
def WL (h:a<=b)(hb:b<10000):qQ a<=qQ b:=by unfold qQ;omega
theorem Xe(hg:bK t) (hm:m<50000):lB yA F 189 [.int .i64 (m:Int)] t=some (.int .i64 (yG m:Int)):=by
 have ed:Int.tdiv (m:Int) 12=((m / 12:Nat):Int):=by simp_all
 have em:Int.tmod (m:Int) 12=((m%12:Nat):Int):=by grind
 refine kC.2 (w189 ?_)
 unfold t189 uI uW;rw[ed];have hq:m / 12<5000:=by omega
 have e1:fA .i64 (fA .i64 (1900+fA .i64 ((m / 12:Nat):Int))-1)=((1899+m / 12:Nat):Int):=by
  grind [wrap_i64]
 have e2:fA .i64 (1900+fA .i64 ((m / 12:Nat):Int))=((1900+m / 12:Nat):Int):=by
  grind [wrap_i64]
 have hl1:=KC (1899+m / 12)
 have hl2:=WL (a:=1899) (b:=1899+m / 12) (by omega) (by omega)
 refine xB ?_
 rw[e1,q243,KB (by omega),vA]
 refine rB (xB ?_)
 rw[q243,show(1899:Int)=((1899:Nat):Int) from rfl,KB (by omega),vA,e2]
 refine rB (jC ?_)
 have e3:fA .i64 (fA .i64 (fA .i64 (365*fA .i64 (((1900+m / 12:Nat):Int)-1900))+(qQ (1899+m / 12):Int))-(qQ 1899:Int))=((365*(m / 12)+qQ (1899+m / 12)-qQ 1899:Nat):Int):=by
  grind [wrap_i64]
 rw[e3];have loop:∀(k i a:Nat),i+k=m%12->a=365*(m / 12)+qQ (1899+m / 12)-qQ 1899+Hk (1900+m / 12) i->jp 189 2 [.int .i64 (m:Int),.int .i64 ((1900+m / 12:Nat):Int),.int .i64 (a:Int),.int .i64 ((i+1:Nat):Int)] t fun v' t'=>v'=.int .i64 (yG m:Int)/\t'=t:=by
  intro k;induction k with
  | zero=>
   intro i a hi ha;refine Mz ?_
   unfold Wl;rw[em];refine zB (by grind [jQ]) ⟨?_,rfl⟩
   subst ha;unfold yG;rw[show i=m%12 by omega]
  | succ k ih=>
   intro i a hi ha;have hs:=EP (1900+m / 12) i
   have hle:=Zh (1900+m / 12) (i+1)
   refine Mz ?_
   unfold Wl uI;rw[em];refine pA (by grind [jQ]) (xB ?_)
   rw[q244];show oD (lB yA F 244 [.int .i64 ((1900+m / 12:Nat):Int),.int .i64 ((i+1:Nat):Int)] t) _
   rw[zil hg _ _ (by omega),vA]
   refine rB (jC ?_)
   have e4:vC ((i+1:Nat):Int)=.int .i64 ((i+1+1:Nat):Int):=by
    show zA.int .i64 (fA .i64 (((i+1:Nat):Int)+1))=_
    rw[wrap_i64 (by omega) (by omega)];rfl
   have e5:uW ((a:Int)+(bM (1900+m / 12) (i+1):Int))=((a+bM (1900+m / 12) (i+1):Nat):Int):=by
    show fA .i64 _=_
    rw[wrap_i64 (by omega) (by omega)];omega
   rw[e4,e5];exact ih (i+1) _ (by omega) (by grind [Hk])
 exact loop (m%12) 0 _ (by omega) rfl
theorem day_ok(hg:bK t){d:Nat}(hy:y<10000)(hm:m<1000)(hd:d<1000):lB yA F 192 [.int .i64 (y:Int),.int .i64 (m:Int),.int .i64 (d:Int)] t=some (.tup [.int .i64 (((Gg y m d).getD 0:Nat):Int),.int .i64 (if (Gg y m d).isSome then 0 else 2)]):=by
 refine kC.2 (w192 ?_)
 unfold t192 uI uB;have bad:∀h:y<1900\/2079<y\/d<1\/bM y m<d,Gg y m d=none:=fun h=>by unfold Gg;rw[yab h]
 by_cases h1:y<1900
 ·rw[bad (.inl h1)]
  exact pA (by grind [dC]) ⟨rfl,rfl⟩
 refine zB (by grind [dC]) ?_
 by_cases h2:2079<y
 ·rw[bad (.inr (.inl h2))]
  exact pA (by grind [dC]) ⟨rfl,rfl⟩
 refine zB (by grind [dC]) ?_
 by_cases h3:d<1
 ·rw[bad (.inr (.inr (.inl h3)))]
  exact pA (by grind [dC]) ⟨rfl,rfl⟩
 refine zB (by grind [dC]) (xB ?_)
 rw[q244];show oD (lB yA F 244 [.int .i64 (y:Int),.int .i64 (m:Int)] t) _
 rw[zil hg _ _ (by omega),vA]
 refine rB ?_
 by_cases h4:bM y m<d
 ·rw[bad (.inr (.inr (.inr h4)))]
  exact pA (by grind [dC]) ⟨rfl,rfl⟩
 refine zB (by grind [dC]) (xB ?_)
 have hm1:1<=m:=by
  grind [bM]
 have hs31:=Zh y m
 have e1:uW (uW (uW (12*uW ((y:Int)-1900))+(m:Int))-1)=((12*(y-1900)+m-1:Nat):Int):=by
  grind [wrap_i64]
 rw[q189];show oD (lB yA F 189 [.int .i64 (uW (uW (uW (12*uW ((y:Int)-1900))+(m:Int))-1))] t) _
 rw[e1,Xe hg (by omega),vA]
 refine rB (xB ?_)
 have hst:yG (12*(y-1900)+m-1)<1000000:=by
  grind [yG,EP,KC]
 have e2:uW (uW ((yG (12*(y-1900)+m-1):Int)+(d:Int))-1)=((yG (12*(y-1900)+m-1)+d-1:Nat):Int):=by
  grind [wrap_i64]
 rw[e2];have hn:Gg y m d=if yG (12*(y-1900)+m-1)+d-1<65536 then some (yG (12*(y-1900)+m-1)+d-1)else none:=by
  unfold Gg;rw[yaa (by omega)]
 have hisd:lB yA F 187 [.int .i64 ((yG (12*(y-1900)+m-1)+d-1:Nat):Int)] t=some (.bool (decide (yG (12*(y-1900)+m-1)+d-1<65536))):=by
  refine kC.2 (w187 ?_)
  unfold t187;generalize yG (12*(y-1900)+m-1)+d-1=z
  refine pA (by grind [jQ]) ⟨?_,rfl⟩
  have hz:jB (z:Int) 65536=decide (z<65536):=by
   grind [dC]
  rw[hz]
 rw[q187,hisd,vA,hn];refine sD ?_
 by_cases h5:yG (12*(y-1900)+m-1)+d-1<65536
 ·rw[yab h5,decide_eq_true h5]
  exact zB (by simp) ⟨rfl,rfl⟩
 ·rw[yaa h5,decide_eq_false h5]
  exact pA rfl ⟨rfl,rfl⟩
theorem VT{ls:List (List Nat)}{v:zA}(hv:cA t 1 (ls.map D.str) v)(hl:ls.length<100)(hd:∀s∈ls,s.length<=9/\∀b∈s,bE b=true)(hQ:∀t' b,bA t t'->iF t' b .i64 (ls.map vE)->Q (.tup [.slice b 0 ls.length ls.length,.bool true]) t'):Wc yA F 191 [v] t Q:=by
 have hlen:=hv.len
 rw[ybf]at hlen;refine w191 ?_
 unfold t191 uI;refine rA hlen (rB (gC fun b hb hbase=>?_))
 obtain⟨t1,e1,e2,e3,e4⟩:=Fo (C:=yA) (T:=249) (k:=.i64) (n:=ls.length) ty249 rfl iJ rfl rfl (by decide) (by omega) hb
 refine⟨_,_,e1,rA hlen (rB (jC ?_))⟩
 have loop:∀(k i:Nat) (row:List Nat) (t1:Tr tA),i+k=ls.length->row=(ls.take i).map vE++List.replicate k 0->bA t t1->iF t1 b .i64 row->jp 191 2 [.slice b 0 ls.length ls.length,v,.int .i64 (ls.length:Int),.int .i64 (i:Int)] t1 Q:=by
  intro k;induction k with
  | zero=>
   intro i row t1 hi hr hle ho;refine zja ?_
   unfold Wk;refine zB (by grind [dC]) ?_
   rw[show i=ls.length by omega,List.take_length,List.replicate_zero,ycd]at hr;subst hr;exact hQ t1 b hle ho
  | succ k ih=>
   intro i row t1 hi hr hle ho;refine zja ?_
   unfold Wk uS;have hx:ls[i]?=some ls[i]:=ybd (by omega)
   have hxd:(ls.map D.str)[i]?=some (D.str ls[i]):=by simp_all
   obtain⟨b',o',cs,h1,h2,_,_,h3⟩:=sl62.at (fun _=>rfl) (hv.mono hle) hxd
   have e:=bY.1 h3
   subst e;refine pA (by grind [dC]) (rA h1 (aB h2 (eD (jC ?_))))
   have ll:(Int.ofNat (aA ls[i]))=(ls[i].length:Int):=by rw[lD];rfl
   rw[ll];obtain⟨hs9,hsd⟩:=hd ls[i] (ycj _)
   have inner:∀(q j:Nat) (t2:Tr tA),j+q=ls[i].length->bA t t2->iF t2 b .i64 ((ls.take i).map vE++vE (ls[i].take j)::List.replicate k 0)->jp 191 6 [.slice b 0 ls.length ls.length,.int .i64 (i:Int),.str ls[i],v,.int .i64 (ls.length:Int),.int .i64 (i:Int),.int .i64 (ls[i].length:Int),.int .i64 (j:Int)] t2 Q:=by
    intro q;induction q with
    | zero=>
     intro j t2 hj hle2 ho2;refine zi9 ?_
     unfold Wj;refine zB (by grind [dC]) (jC ?_)
     have e4:vC (i:Int)=.int .i64 ((i+1:Nat):Int):=by
      grind [wrap_i64]
     rw[e4];refine ih (i+1) _ t2 (by omega) ?_ hle2 ho2
     grind [List.take_add_one]
    | succ q ih2=>
     intro j t2 hj hle2 ho2;have hy:ls[i][j]?=some ls[i][j]:=ybd (by omega)
     have hyd:48<=ls[i][j]/\ls[i][j]<=57:=by grind [List.getElem_mem,bE]
     refine zi9 ?_
     unfold Wj uI uU;have hla:((ls.take i).map vE).length=i:=by grind
     have hget:((ls.take i).map vE++vE (ls[i].take j)::List.replicate k 0)[i]?=some (vE (ls[i].take j)):=by
      grind
     have ia:=Ek (C:=yA) (b:=b) sl249 (off:=0) (n:=ls.length) (cap:=ls.length) (i:=i) (by omega)
     rw[ybw,Nat.mul_one]at ia;have hb9:vE (ls[i].take j)<1000000000:=by
      have h1:=Jg (s:=ls[i].take j) fun x hx=>hsd x (List.mem_of_mem_take hx)
      have h2:10^(ls[i].take j).length<=10^9:=yao (by omega) (by grind)
      omega
     refine pA (by grind [dC]) (rA (lK hy) (rB (zB (by grind [dC]) (rA (lK hy) (rB (zB (by grind [dC]) (rA ia (aB (ho2.load hget iJ rfl) (rB (rA (lK hy) (rB (rA ia (gC fun n _ _=>?_)))))))))))))
     have ev:uW (uW (10*((vE (ls[i].take j):Nat):Int))+uW (fA .u8 ((ls[i][j]:Int)-48)))=((vE (ls[i].take (j+1)):Nat):Int):=by
      unfold uW;rw[Gy (by omega) (by omega),zQ hy,Tj]
      grind [wrap_i64]
     obtain⟨t3,g1,g2,g3⟩:=ho2.store hbase (j:=i) (by grind) (vE (ls[i].take (j+1))) iJ rfl
     rw[ev];refine⟨_,_,g1 n,jC ?_⟩
     have e4:vC (j:Int)=.int .i64 ((j+1:Nat):Int):=by
      grind [wrap_i64]
     rw[e4];refine ih2 (j+1) t3 (by omega) (hle2.off hb g3) ?_
     simp_all
   refine inner ls[i].length 0 t1 (by omega) hle ?_
   rw[hr,List.replicate_succ]at ho;exact ho
 grind
theorem FG  (h:a<=b)(hb:b<=s.length):iD yA 9 iG (.str s) (some (.int .i64 (a:Int))) (some (.int .i64 (b:Int)))=some (.str ((s.take b).drop a)):=by
 unfold iD dM;rw[yL,qA];simp only[zA.asStr];rw[show xE.isString .string=true from rfl,cD];unfold Li jP Bh cW;have e:∀n:Nat,wM (n:Int)=some n:=fun _=>rfl
 grind [qA,zA.asNat,zA.asInt,lD,fE,cD,bR,oQ]
theorem BN (h:mP s=true) (hi:i<10):∃b,s[i]?=some b/\lP i b=true:=by
 unfold mP at h;simp only[ybb,decide_eq_true_eq,ycb,List.mem_range]at h;grind
theorem BO (h:mP s=true) (hb:b<=10)(h4:¬ (a<=4/\4<b))(h7:¬ (a<=7/\7<b)):∀x∈(s.take b).drop a,bE x=true:=by
 intro x hx;obtain⟨j,hj⟩:=List.getElem?_of_mem hx
 rw[yde,ydf]at hj;split at hj
 ·rename_i hlt
  obtain⟨y,h1,h2⟩:=BN h (i:=a+j) (by omega)
  grind [lP]
 grind
theorem OQ(hg:bK t) (hs:s.length=10)(hd:mP s=true):lB yA F 138 [.str s] t=some (.tup [.int .i64 (((Ba s).getD 0:Nat):Int),.int .i64 (if (Ba s).isSome then 0 else 2)]):=by
 refine zU (w138 ?_)
 unfold t138 uI uU uB uS;have ll:(Int.ofNat (aA s))=10:=by grind [lD]
 rw[ll];obtain⟨x4,g4,k4⟩:=BN hd (i:=4) (by omega)
 obtain⟨x7,g7,k7⟩:=BN hd (i:=7) (by omega)
 have k4:x4=45:=by grind [lP]
 have k7:x7=45:=by grind [lP]
 subst k4 k7
 have i4:=lK g4
 have i7:=lK g7
 have s0:=pZ (s:=s) (k:=4) (by omega)
 have s5:=FG (s:=s) (a:=5) (b:=7) (by omega) (by omega)
 have s8:=Er (s:=s) (k:=8) (by omega)
 refine zB (by decide) (rA i4 (rB (zB (by decide) (rA i7 (rB (zB (by decide) (rA s0 (eD (rA s5 (eD (rA s8 (eD (gC fun b hb hbase=>?_)))))))))))))
 obtain⟨t1,g1,g2,g3,g5⟩:=Mp (C:=yA) (T:=62) (el:=9) (sz:=1) (n:=3) (cl:=[[.str (s.take 4)],[.str ((s.take 7).drop 5)],[.str (s.drop 8)]]) (ps:=[(0,.str (s.take 4)),(1,.str ((s.take 7).drop 5)),(2,.str (s.drop 8))]) ty62 rfl yL rfl rfl (by decide) rfl (fun i cs hi=>by
  match i,hi with
  | 0,hi=>grind
  | 1,hi=>grind
  | 2,hi=>grind) rfl hb
 have hr:cA t1 1 ([s.take 4,(s.take 7).drop 5,s.drop 8].map D.str) (.slice b 0 3 3):=⟨_,g2,cG.2 ⟨_,_,rfl,bY.2 rfl,cG.2 ⟨_,_,rfl,bY.2 rfl,cG.2 ⟨_,_,rfl,bY.2 rfl,cH.2 rfl⟩⟩⟩⟩
 have d1:∀x∈s.take 4,bE x=true:=by
  have:=BO hd (a:=0) (b:=4) (by omega) (by omega) (by omega)
  simp_all
 have d2:∀x∈(s.take 7).drop 5,bE x=true:=BO hd (by omega) (by omega) (by omega)
 have d3:∀x∈s.drop 8,bE x=true:=by
  have:=BO hd (a:=8) (b:=10) (by omega) (by omega) (by omega)
  rwa [yca (by omega)]at this
 refine⟨_,_,g1,xB ?_⟩
 rw[q191];refine VT hr (by simp) (fun x hx=>?_) fun t2 b2 h1 h2=>?_
 ·grind
 have ia:∀i:Nat,i<3->tC yA 249 (.slice b2 0 3 3) (.int .i64 (i:Int))=some (.ptr b2 i):=fun i hi=>by
  have:=Ek (C:=yA) (b:=b2) sl249 (off:=0) (n:=3) (cap:=3) (i:=i) hi
  rwa [ybw,Nat.mul_one]at this
 have l0:=h2.load (j:=0) rfl iJ rfl (C:=yA)
 have l1:=h2.load (j:=1) rfl iJ rfl (C:=yA)
 have l2:=h2.load (j:=2) rfl iJ rfl (C:=yA)
 refine rA rfl (rA rfl (sD (zB (by simp) (rA (ia 0 (by omega)) (aB l0 (rB (rA (ia 1 (by omega)) (aB l1 (rB (rA (ia 2 (by omega)) (aB l2 (rB (xB ?_)))))))))))))
 have b1:=Jg d1
 have b2':=Jg d2
 have b3:=Jg d3
 have n1:(s.take 4).length=4:=by grind
 have n2:((s.take 7).drop 5).length=2:=by grind
 have n3:(s.drop 8).length=2:=by grind
 rw[n1]at b1;rw[n2]at b2'
 rw[n3]at b3;have hle:=g3.trans h1
 rw[q192];show oD (lB yA F 192 [.int .i64 ((vE (s.take 4):Nat):Int),.int .i64 ((vE ((s.take 7).drop 5):Nat):Int),.int .i64 ((vE (s.drop 8):Nat):Int)] t2) _
 rw[day_ok (hg.mono hle) (by omega) (by omega) (by omega),vA]
 exact rA rfl (rB (rA rfl (rB ⟨rfl,hle⟩)))
theorem lib30:Dw where
 frac:=fun {s neg tf t L Q} h ho hQ=>Wc.objs (R:=fun v tf'=>∃cs,v=.agg cs/\RD tf' (tY s neg).dd cs) (fracPv h fun t' cs h1 h2=>⟨h1,cs,rfl,h2⟩) ho fun v tf' t' h1 h2 ⟨cs,h3,h4⟩=>by grind
 int:=fun h1 h2 h3 h4=>intPv h1 h2 h3 h4
 date:=fun hg ⟨h1,h2,n,h3⟩=>by grind [OQ]
end
end
section
variable [rC]
section
variable {P:rM}{tf t:Tr tA}{Q E:mB}
def zkp(h:St P tf t 0 0)(hk:Ok P sL 0 tf (pM P.tk) Q E):tM yA F E 30 [.ptr P.bp 0] t Q:=by
 refine w30 ?_
 unfold t30 uG yC uZ uY eF kD;refine xB ?_
 rw[pE 31];unfold pM at hk;refine zga lib30 _ _ _ _ _ h (hk.bind fun x n1 tf1 t1 v hr hle hst hrd hk1=>?_)
 obtain⟨cs,rfl,hx⟩:=hrd
 refine bC (dQ hx) ?_
 rw[show [zA.int .u8 ((cellsOf cs).i 0),.str ((cellsOf cs).s 1),.int .u8 ((cellsOf cs).i 2),.bool ((cellsOf cs).b 3),(cellsOf cs).v 4,.bool ((cellsOf cs).b 5),(cellsOf cs).v 6,.int .i64 ((cellsOf cs).i 7),(cellsOf cs).v 8]=cs from zg4 hx]
 have hall:fD zA.one cs=true:=by
  obtain⟨a,b,c,rfl,_⟩:=qH hx
  exact hx.all
 refine pA hall (xB ?_)
 rw[pE 32];refine zll hst (hk1.bind fun a n2 tf2 t2 v2 hr2 hl2 hst2 hrd2 hk2=>?_)
 exact pA hall (Ok.now hk2 hst2 ⟨cs,rfl,hx.mono hl2⟩)
end
end
end Go.Proofs
namespace Go.Am
open Go Go.RowKit
variable {args vals:List zA}{E:mB}{base:Nat}{J:mF}{X:Xt}{tm:Tm}{HA:xA}{p:PI}
structure Ke (C:lA) (F:Tr aD) (f:Nat) (fn:Func) (kf:Nat) (A:aD) (l:List mC) (q:gP) (fc:Func) (kc:Nat) (Ac:aD) (qc:ClQ):Prop where
 isF:F.get f=some A
 isFn:C.fns.get f=some fn
 isK:C.ks.get f=some kf
 prim:C.prims.get f=none
 lt:Nat.blt f yo=true
 body:tE fn.body=false
 split:lV A.code=some (l,q)
 isC:F.get q.cl=some Ac
 isFc:C.fns.get q.cl=some fc
 isKc:C.ks.get q.cl=some kc
 primC:C.prims.get q.cl=none
 bodyC:tE fc.body=false
 clo:Gi Ac.code=some qc
 ok:(Oc fn.results.toList q.o6.toList&&(Nat.ble kf q.d&&Nat.blt q.d fn.ntmps))=true
 okC:(Nat.ble (aA q.bs) kc&&Nat.ble (aA q.bs) fc.ntmps)=true
 okD:Nat.blt qc.d fc.ntmps=true
 rng:yK (jX l)=[]
 rngC:yK qc.c=[]
def defB (C:lA)(F:Tr aD)(f:Nat)(fn:Func)(kf:Nat)(A:aD)(l:List mC)(q:gP)(fc:Func)(kc:Nat)(Ac:aD)(qc:ClQ):Bool:=
 tE (C.prims.get f)&&Nat.blt f yo && !tE fn.body&&tE (C.prims.get q.cl) && !tE fc.body&&(Oc fn.results.toList q.o6.toList&&(Nat.ble kf q.d&&Nat.blt q.d fn.ntmps)) &&
  (Nat.ble (aA q.bs) kc&&Nat.ble (aA q.bs) fc.ntmps)&&Nat.blt qc.d fc.ntmps&&(match yK (jX l)with | []=>true | _=>false)&&(match yK qc.c with | []=>true | _=>false)
section
variable {C:lA}{F:Tr aD}{f:Nat}{fn fc:Func}{kf kc:Nat}{A Ac:aD}{l:List mC}{q:gP}{qc:ClQ}{pure pan:Nat->Bool}{t:Tr tA}{Q:mB}
theorem Ke.of(h1:F.get f=some A)(h2:C.fns.get f=some fn)(h3:C.ks.get f=some kf)(h4:lV A.code=some (l,q))(h5:F.get q.cl=some Ac)(h6:C.fns.get q.cl=some fc)(h7:C.ks.get q.cl=some kc)(h8:Gi Ac.code=some qc)(h:defB C F f fn kf A l q fc kc Ac qc=true):Ke C F f fn kf A l q fc kc Ac qc:=by
 unfold defB at h;simp only[ybb]at h;obtain⟨⟨⟨⟨⟨⟨⟨⟨⟨g1,g2⟩,g3⟩,g4⟩,g5⟩,g6⟩,g7⟩,g8⟩,g9⟩,g10⟩:=h
 have nn:∀ {α:Type} {x:Option α},tE x=true->x=none:=fun {α} {x} h=>by cases x with | none=>rfl | some _=>cases h
 refine⟨h1,h2,h3,nn g1,g2,by simp_all,h4,h5,h6,h7,nn g4,by simp_all,h8,by simp_all,by simp_all,g8,?_,?_⟩
 all_goals grind
theorem zcw(h:F.get f=some A):(rE F).get f=some A.code:=by grind [rE,Tr.get_mapT]
theorem OG {d:Bool}(h2:C.fns.get f=some fn)(h3:C.ks.get f=some kf)(hb:tE fn.body=false)(hl:(Nat.ble (aA args) kf&&Nat.ble (aA args) fn.ntmps)=true):∃g,eJ C f args d=some g/\g.tm=⟨kf,Tr.ofList args,[]⟩:=by
 obtain⟨body,hb⟩:∃b,fn.body=some b:=by
  cases hx:fn.body with
  | none=>rw[hx]at hb;cases hb
  | some b=>simp_all
 refine⟨_,by unfold eJ;rw[h2,qA,hb,qA,h3,qA,hl];rfl,rfl⟩
theorem sN.nil{A:Tr mC} {c:mC}(h:yK c=[]):sN A E f c:=fun q hq=>by simp_all
theorem JOk.nil   {L:List PtD}(h:L=[]):JOk base kf E J L:=fun d hd=>by simp_all
theorem st_of    (ho:Ov base t X HA)(hk:tm.k=kf):sF base X kf (fun i=>i) X ⟨tm,[],.leaf,[]⟩ tm HA t:=
 ⟨ho,pI.refl _,hk,hk,fun _ _ h=>h,fun _ _ h=>(by cases h),fun d l h=>(by grind [Tr.get_leaf]),fun d _ l _ h=>(by omega)⟩
def znz(h:Ke C F f fn kf A l q fc kc Ac qc) {cells:List zA}{v:zA}{W:mF} (hW:fP C (rE F) E W)(hY:Bp C (rE F) W)(hpts:∀ κ,qK C (zD C (rE F)) q.cl fc.ntmps qc.c κ=[]) (hl:aA cells=aA q.bs)
  (hv:Eh p ⟨clTm fc.ntmps qc ⟨kc,Tr.ofList cells,[]⟩ v,[],.leaf,[]⟩=some vals) {R:mB} (hw:oA C.base W J (cL C Ac.la q.cl fc.ntmps qc.c (Cc C fc) (bL kc p vals)) t R):∀X HA,Ov C.base t X HA->xC C.base X E R (nS C (rE F) (zD C (rE F)) q.cl cells v HA):=by
 intro X HA ho;obtain⟨g,h1,h2⟩:=OG (args:=cells) (d:=true) h.isFc h.isKc h.bodyC (by rw[hl];exact h.okC)
 unfold nS;refine xC.ob h.isFc (xC.ob (zcw h.isC) (xC.ob h.clo ?_))
 have hg:(tE (C.prims.get q.cl)&&Nat.blt qc.d fc.ntmps)=true:=by rw[h.primC,h.okD];rfl
 rw[hg];show xC C.base X E R (ob (eJ C q.cl cells true) _)
 refine xC.ob h1 ?_
 rw[h2];have hst:sF C.base X kc (fun i=>i) X ⟨clTm fc.ntmps qc ⟨kc,Tr.ofList cells,[]⟩ v,[],.leaf,[]⟩ (clTm fc.ntmps qc ⟨kc,Tr.ofList cells,[]⟩ v) HA t:=st_of ho (by unfold clTm;rw[Fe,Fe];rfl)
 exact Cd hW hY qc.c (Cc C fc) (rO C fc) (sN.nil h.rngC) (fun _=>Ve) (JOk.nil (hpts _)) _ _ _ _ _ _ _ (hst.at hv) hw
def Oj(C:lA)(F:Tr aD)(pure pan:Nat->Bool)(f:Nat)(fn:Func)(kf:Nat)(A:aD)(q:gP)(p:PI)(vals:List zA)(t:Tr tA)(Q:mB):Prop:=
 ∃cells,∃E:mB,dN q.bs (.now (bL kf p vals).tm.cut)=some cells/\(∀HA,nS C (rE F) (zD C (rE F)) q.cl cells .niliface HA=some (⟨.tup [],false⟩,HA)) ∧
  (∀v t',E v t'->∀X HA,Ov C.base t' X HA->xC C.base X vJ (fun _ t''=>oA C.base (Wq C F pure) (fun _ _ _ _=>False) (endT C fn (bL kf p vals).cut) t'' Q) (nS C (rE F) (zD C (rE F)) q.cl cells v HA)) ∧
  oA C.base (zG C F pure pan E) (fun _ _ _ _=>False) (cL C A.la f fn.ntmps (.region q.i6 q.o6 false) ⟨endT C fn,fun _ _=>.fail,fun _=>.fail⟩ (bL kf p vals)) t Q
theorem zks(h:Ke C F f fn kf A l q fc kc Ac qc) (hp:p.ll=[]) (hpn:pure pn=false)(ht:Oj C F pure pan f fn kf A q p vals t Q){X0:Xt}  {ν:Nat->Nat}(hst:sF C.base X0 kf ν X (bL kf p vals) tm HA t) :
  xC C.base X0 vJ Q (sR C (rE F) (zD C (rE F)) fn q tm HA):=by
 obtain⟨cells,E,h1,h2,h3,h4⟩:=ht
 have hend:∀tm' H',kM C (rE F) (zD C (rE F)) fn q.cl cells .niliface tm' H'=dU C fn tm' H':=by
  intro tm' H';unfold kM;rw[h2];rfl
 unfold sR;rw[hst.kA,h.ok];show xC C.base X0 vJ Q (ob (dN q.bs (.now tm.cut)) _)
 refine xC.ob (AY (Mh hst.cut).1 h1) ?_
 have hk:∀X0,SKt C (zG C F pure pan E) (fun _ _ _ _=>False) X0 kf E Q ⟨endT C fn,fun _ _=>.fail,fun _=>.fail⟩ ⟨fun tm' H'=>kM C (rE F) (zD C (rE F)) fn q.cl cells .niliface tm' H',fun _ _ _=>none,fun _ _=>none⟩:=by
  intro X0;refine⟨?_,fun _ _ _ _ _ _ _ _ h=>h.elim,fun _ _ _ _ _ _ _ h=>h.elim⟩
  intro st tm HA t X ν hst hw;simp only[hend];exact Ns st tm HA t X ν hst hw
 have hr:=Cd (CH hpn) CG (.region q.i6 q.o6 false) ⟨endT C fn,fun _ _=>.fail,fun _=>.fail⟩ ⟨fun tm' H'=>kM C (rE F) (zD C (rE F)) fn q.cl cells .niliface tm' H',fun _ _ _=>none,fun _ _=>none⟩ (sN.nil rfl) hk (JOk.nil rfl) X0 _ _ _ _ _ _ hst h4
 obtain⟨o,t',HA',X',g1,g2,g3,g4⟩:=hr
 have g1:xM C (zD C (rE F)) q.o6 fn.ntmps (fun tm' H'=>kM C (rE F) (zD C (rE F)) fn q.cl cells .niliface tm' H') q.o6.toList tm.cut HA=some (o,HA'):=g1
 refine xC.ob g1 ?_
 cases ho:o.p with
 | false=>
  grind [xC]
 | true=>
  rw[ho,yab rfl]at g4;show xC C.base X0 vJ Q (kM C (rE F) (zD C (rE F)) fn q.cl cells o.v tm.cut HA')
  obtain⟨v,t'',HA'',X'',k1,k2,k3,k4⟩:=mO.1 (h3 _ _ g4 _ _ g2)
  unfold kM;refine xC.ob k1 ?_
  show xC C.base X0 vJ Q (dU C fn tm.cut HA'')
  have hs:=hst.cut
  have hlo:∀d,(bL kf p vals).cut.lo.get d=none:=by
   intro d;show(mV p.ll (nQ vals (aA p.pl))).get d=none
   rw[hp];exact Tr.get_leaf _
  have hs2:sF C.base X0 kf ν X'' (bL kf p vals).cut tm.cut HA'' t'':=
   ⟨k2,g3.trans k3,hs.k,hs.kA,hs.tms,hs.ads,fun d l h=>(by simp_all),fun d _ l _ h=>(by simp_all)⟩
  exact Ns _ _ _ _ _ _ hs2 k4
def WcD_of(h:Ke C F f fn kf A l q fc kc Ac qc) (hp:p.ll=[])(hpn:pure pn=false) (hl:(Nat.ble (aA args) kf&&Nat.ble (aA args) fn.ntmps)=true)(hpts:∀ κ,qK C (zD C (rE F)) f fn.ntmps (jX l) κ=[])
  (hw:oA C.base (Wq C F pure) (fun i vals t Q=>i=p.id/\Oj C F pure pan f fn kf A q p vals t Q) (cL C A.la f fn.ntmps (jX l) ⟨yY p,fun _ _=>.fail,endT C fn⟩ ⟨⟨kf,Tr.ofList args,[]⟩,[],.leaf,[]⟩) t Q):Wc C F f args t Q:=by
 intro X HA ho;obtain⟨g,h1,h2⟩:=OG (args:=args) (d:=false) h.isFn h.isK h.body hl
 rw[Gj h.lt,h.prim];show xC C.base X vJ Q (zD C (rE F) (.func f) args HA)
 rw[AL];show xC C.base X vJ Q (sS C (rE F) (zD C (rE F)) f args HA)
 unfold sS;refine xC.ob (zcw h.isF) (xC.ob h.isFn (xC.ob h1 ?_))
 unfold bW;rw[h.split,h2];have hk:∀X0,SKt C (Wq C F pure) (fun i vals t Q=>i=p.id/\Oj C F pure pan f fn kf A q p vals t Q) X0 kf vJ Q ⟨yY p,fun _ _=>.fail,endT C fn⟩ (Ck C (rE F) (zD C (rE F)) fn q):=by
  intro X0;refine⟨fun st tm HA t X ν hst hw=>?_,fun _ _ _ _ _ _ _ _ h=>h.elim,Ns⟩
  unfold yY at hw;rw[nE]at hw;obtain⟨vals,k1,_,k2⟩:=hw
  exact zks h hp hpn k2 (hst.at k1)
 exact Cd (zhe hpn) Uj (jX l) _ _ (sN.nil h.rng) hk (JOk.nil (hpts _)) _ _ _ _ _ _ _ (st_of ho rfl) hw
end
end Go.Am
namespace Go.Proofs
open Go Go.Am
variable {m:Tr tA}{Q:mB}
variable [rC]
def dq0:gP:=⟨0,#[],0,0,[],0,#[]⟩
def cq0:ClQ:=⟨0,#[],0,0,.skip⟩
def pcs (f:Nat):List mC:=(gD ([],dq0) (lV (ao f).code)).1
def dqo (f:Nat):gP:=(gD ([],dq0) (lV (ao f).code)).2
def cqo (f:Nat):ClQ:=gD cq0 (Gi (ao f).code)
def dB (f cl:Nat):Bool := !tE (F.get f) && !tE (fns.get f) && !tE (ks.get f) && !tE (lV (ao f).code) && !tE (F.get cl) && !tE (fns.get cl) && !tE (ks.get cl) && !tE (Gi (ao cl).code)&&Nat.beq (dqo f).cl cl&&defB yA F f (fo f) (ko f) (ao f) (pcs f) (dqo f) (fo cl) (ko cl) (ao cl) (cqo cl)
def dA(f cl:Nat)(h:dB f cl=true:=by kernel_rfl):Ke yA F f (fo f) (ko f) (ao f) (pcs f) (dqo f) (fo cl) (ko cl) (ao cl) (cqo cl):=by
 unfold dB at h;simp only[ybb]at h;obtain⟨⟨⟨⟨⟨⟨⟨⟨⟨h1,h2⟩,h3⟩,h4⟩,h5⟩,h6⟩,h7⟩,h8⟩,h9⟩,h10⟩:=h
 have e:=fC.1 h9
 exact .of (gO h1) (gO h2) (gO h3) (gO h4) (by rw[e];exact gO h5) (by rw[e];exact gO h6) (by rw[e];exact gO h7) (gO h8) h10
abbrev noJ:mF:=fun _ _ _ _=>False
abbrev pR:PI:=⟨11,[1,4,5,6,8],[]⟩
abbrev pS:PI:=⟨3,[0,1,2,3],[]⟩
abbrev zP:List zA:=[.str [],.nilslice,.nilslice,.nilslice]
abbrev cP(X:jI):List zA:=[.str (X.s 0),X.v 1,X.v 2,X.v 3]
def tRun (ty:Nat)(z:List zA)(cf:jI->List zA)(p0:List Nat)(p1:zA):T:=
 .heavy (yI yA ty) fun a0=>
 .heavy (yI yA 39) fun a1=>
 .heavy (yI yA 34) fun a2=>
 .call 63 [(.str p0)] fun a3=>
 .opt (iI 0 a3) fun a4=>.opt (iI 1 a3) fun a5=>.asG [(.int .i64 0),(.int .i64 0)] a5 fun X6=>
 .opt (iI 2 a3) fun a7=>.asI .i64 a7 fun n8=>.heavy (sC yA 39 a1 (.agg [(.int .i64 (X6.i 0)),(.int .i64 (X6.i 1))])) fun _=>
 .heavy (sC yA 34 a2 (.int .i64 n8)) fun _=>
 .light (fun m=>iA yA 34 ⟨0,m⟩ a2) fun a9=>.asI .i64 a9 fun n10=>.ite (!kB n10 0)
 (.light (fun m=>iA yA ty ⟨0,m⟩ a0) fun a11=>.asG z a11 fun X12=>
 .light (fun m=>iA yA 39 ⟨0,m⟩ a1) fun a13=>.asG [(.int .i64 0),(.int .i64 0)] a13 fun X14=>
 .light (fun m=>iA yA 34 ⟨0,m⟩ a2) fun a15=>.asI .i64 a15 fun n16=>.heavy (sC yA ty a0 (.agg (cf X12))) fun _=>
 .light (fun m=>iA yA 39 ⟨0,m⟩ a1) fun a17=>.ite (same 10 a17 (.agg [(.int .i64 (X14.i 0)),(.int .i64 (X14.i 1))])) (.light (fun m=>iA yA 34 ⟨0,m⟩ a2) fun a18=>.ite (same 10 a18 (.int .i64 n16)) (.heavy (sC yA 39 a1 (.agg [(.int .i64 (X14.i 0)),(.int .i64 (X14.i 1))])) fun _=>
 .light (fun m=>iA yA 34 ⟨0,m⟩ a2) fun a19=>.ite (same 10 a19 (.int .i64 n16)) (.heavy (sC yA 34 a2 (.int .i64 n16)) fun _=>
 .light (fun m=>iA yA ty ⟨0,m⟩ a0) fun a20=>.light (fun m=>iA yA 39 ⟨0,m⟩ a1) fun a21=>.light (fun m=>iA yA 34 ⟨0,m⟩ a2) fun a22=>.ret (.tup [a20,a21,a22])) .fail) .fail) .fail)
 (.call 64 [(.str p0),(.int .i64 (Int.ofNat (aA p0)))] fun a23=>
 .asG [(.int .i64 0),(.int .i64 0)] a23 fun X24=>
 .ite (fD zA.one [a4]) (.heavy (zL (.agg [a4,(.int .i64 0),(.int .i64 0),(.int .i64 (X24.i 0)),(.int .i64 (X24.i 1))])) fun a25=>
 .jump 11 [p1,a0,a1,a2,a25]) .fail)
def tR13 (ty:Nat)(z:List zA)(cf:jI->List zA)(v1 v4 v5 v6 v8:zA):T:=
 .callv v1 [v8] fun a0=>
 .asG z a0 fun X1=>
 .ite true (.heavy (sC yA ty v4 (.agg (cf X1))) fun _=>
 .heavy (sC yA 39 v5 (.agg [(.int .i64 0),(.int .i64 0)])) fun _=>
 .heavy (sC yA 34 v6 (.int .i64 0)) fun _=>
 .light (fun m=>iA yA ty ⟨0,m⟩ v4) fun a2=>.light (fun m=>iA yA 39 ⟨0,m⟩ v5) fun a3=>.light (fun m=>iA yA 34 ⟨0,m⟩ v6) fun a4=>.ret (.tup [a2,a3,a4])) .fail
def tR3 (ty:Nat)(z:List zA)(v0 v1 v2 v3:zA):T:=
 .opt ((Bk .neq).f yA 20 (.tmp 8) (.const .nilIface) v3 .niliface) fun a0=>.asB a0 fun b1=>.ite b1
 (.heavy (sC yA ty v0 (.agg z)) fun _=>
 .heavy (sC yA 34 v1 (.int .i64 120)) fun _=>
 .opt (Pm yA 143 true v3) fun a2=>.opt (iI 0 a2) fun a3=>.asG [(.int .i64 0),(.int .i64 0),(.int .i64 0)] a3 fun X4=>
 .opt (iI 1 a2) fun a5=>.asB a5 fun b6=>.ite true (.ite b6
 (.heavy (sC yA 39 v2 (.agg [(.int .i64 (X4.i 0)),(.int .i64 (X4.i 1))])) fun _=>
 .ite (same 10 (.int .i64 (X4.i 2)) (.int .i64 (X4.i 2))) (.heavy (sC yA 34 v1 (.int .i64 (X4.i 2))) fun _=>
 .ret (.tup [])) .fail)
 (.ret (.tup []))) .fail)
 (.ret (.tup []))
def tRe (ty:Nat)(v4 v5 v6:zA):T:=.light (fun m=>iA yA ty ⟨0,m⟩ v4) fun a2=>.light (fun m=>iA yA 39 ⟨0,m⟩ v5) fun a3=>.light (fun m=>iA yA 34 ⟨0,m⟩ v6) fun a4=>.ret (.tup [a2,a3,a4])
def t29:List Nat->zA->T:=tRun 31 zE cE
def Vv:zA->zA->zA->zA->zA->T:=tR13 31 zE cE
def Qa:zA->zA->zA->zA->T:=tR3 31 zE
def Qb:zA->zA->zA->T:=tRe 31
def e29(p0:List Nat)(p1:zA):cL yA (ao 29).la 29 (fo 29).ntmps (jX (pcs 29)) ⟨yY pR,fun _ _=>.fail,Am.endT yA (fo 29)⟩ ⟨⟨ko 29,Tr.ofList [(.str p0),p1],[]⟩,[],.leaf,[]⟩=t29 p0 p1:=by kernel_rfl
def e29_13(v1 v4 v5 v6 v8:zA):cL yA (ao 29).la 29 (fo 29).ntmps (.region (dqo 29).i6 (dqo 29).o6 false) ⟨Am.endT yA (fo 29),fun _ _=>.fail,fun _=>.fail⟩ (bL (ko 29) pR [v1,v4,v5,v6,v8])=Vv v1 v4 v5 v6 v8:=by kernel_rfl
def e29_e(v1 v4 v5 v6 v8:zA):Am.endT yA (fo 29) (bL (ko 29) pR [v1,v4,v5,v6,v8]).cut=Qb v4 v5 v6:=by kernel_rfl
def e65_3(v0 v1 v2 v3:zA):cL yA (ao 65).la (dqo 29).cl (fo 65).ntmps (cqo 65).c (Cc yA (fo 65)) (bL (ko 65) pS [v0,v1,v2,v3])=Qa v0 v1 v2 v3:=by kernel_rfl
def nil65(a b c:zA)(HA:xA):nS yA (rE F) (zD yA (rE F)) (dqo 29).cl [a,b,c] .niliface HA=some (⟨.tup [],false⟩,HA):=by kernel_rfl
def tl29(v1 v4 v5 v6 v8:zA)  (h:oA yA.base (zG yA F wD yH fun v t'=>oA yA.base (Wq yA F wD) noJ (Qa v4 v6 v5 v) t' fun _ t''=>oA yA.base (Wq yA F wD) noJ (Qb v4 v5 v6) t'' Q) noJ (Vv v1 v4 v5 v6 v8) m Q) :
  Oj yA F wD yH 29 (fo 29) (ko 29) (ao 29) (dqo 29) pR [v1,v4,v5,v6,v8] m Q:=by
 refine⟨[v4,v6,v5],(fun v t'=>oA yA.base (Wq yA F wD) noJ (Qa v4 v6 v5 v) t' fun _ t''=>oA yA.base (Wq yA F wD) noJ (Qb v4 v5 v6) t'' Q),by kernel_rfl,nil65 _ _ _,fun v t' hv=>?_,by rw[e29_13];exact h⟩
 refine znz (dA 29 65) (p:=pS) (W:=Wq yA F wD) (zhe (by kernel_rfl)) Uj (by intro κ;kernel_rfl) (by kernel_rfl) (vals:=[v4,v6,v5,v]) (by kernel_rfl) (J:=noJ) ?_
 rw[e65_3,e29_e];exact hv
def w29(p0:List Nat)(p1:zA)  (h:oA yA.base (Wq yA F wD) (fun i vals t Q=>i=11/\Oj yA F wD yH 29 (fo 29) (ko 29) (ao 29) (dqo 29) pR vals t Q) (t29 p0 p1) m Q):Wf 29 [(.str p0),p1] m Q:=
 WcD_of (pan:=yH) (dA 29 65) (p:=pR) rfl (by kernel_rfl) (by kernel_rfl) (by intro κ;kernel_rfl) (by rw[e29];exact h)
end Go.Proofs
