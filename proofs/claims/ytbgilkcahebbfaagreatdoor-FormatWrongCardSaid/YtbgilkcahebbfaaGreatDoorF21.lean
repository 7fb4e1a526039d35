/- divideStep. -/
import Derived.Test.YtbgilkcahebbfaaGreatDoorF20
set_option linter.all false
noncomputable section
set_option maxRecDepth 100000
namespace Go.Proofs
open Go Go.Am
variable [jC]
variable {t:Tr qA}
def BB:Nat:=4294967296
def aJ:BB=4294967296:=rfl
def mG:0<BB:=by decide
def zhp{T el:Nat}(h:wG yA T el 1 false){b off n cap j:Nat}(hj:j<n):zC yA T (.slice b off n cap) (.int .i64 (j:Int))=some (.ptr b (off+j)):=by
 have:=mS (b:=b) (off:=off) (cap:=cap) h hj
 rw[Nat.mul_one]at this;exact this
def qU{A w Z:List Nat}{j x:Nat}(h:w[j]?=some x):(A++w++Z)[A.length+j]?=some x:=by
 rw[ybz,ybp (by omega),Nat.add_sub_cancel_left,yco (ybc.1 h).1];exact h
def zc8{A w Z:List Nat}{j x:Nat}(h:j<w.length):(A++w++Z).set (A.length+j) x=A++w.set j x++Z:=by
 rw[ybz,List.set_append_right _ _ (by omega),Nat.add_sub_cancel_left,List.set_append_left _ _ h,ybz]
def zk5{A Z lv:List Nat}{v:zA}{b cap d:Nat}{t0:Tr qA}{Q:bB}(hv:lA t0 1 (sB .u32 lv) v)(hl:lv.length<900000)(hlv:tB BB lv)(hbase:yA.base<=b)(hb:t0.get b=none)(hd:0<d)(hd2:d<=BB)(W:List Nat)(hWl:W.length=lv.length)(hWlt:tB BB W)(last:Nat)(hlast:last<BB)(hcap:lv.length+1<=cap)
  (hQ:∀t' r up,lD b t t'->yF t' b .u32 (A++(r++[(last+up)%BB])++Z)->r.length=lv.length->tB BB r->up<2->val BB r+BB^lv.length*up=val BB W+val BB lv->Q (.int .u32 ((d-1:Nat):Int)) t') :
  ∀(k i up:Nat) (t':Tr qA) (r:List Nat),i+k=lv.length->dA t0 t'->lD b t t'->yF t' b .u32 (A++(r++(W++[last]).drop i)++Z)->r.length=i->tB BB r->up<2->val BB r+BB^i*up=val BB (W.take i)+val BB (lv.take i) →
  jp 216 10 [.slice b A.length (lv.length+1) cap,.int .i64 lv.length,.int .u64 d,.int .u32 up,v,.int .i64 lv.length,.int .i64 i] t' Q:=by
 intro k;induction k with
 | zero=>
  intro i up t' r hi ht hoff ho hr hrl hup hval;have hi':i=lv.length:=by omega
  subst hi'
  have hdrop:(W++[last]).drop lv.length=[last]:=by rw[<- hWl];simp
  rw[hdrop]at ho;refine zw8 _ _ _ _ _ _ _ ?_
  have g1:=zhp qF (b:=b) (off:=A.length) (n:=lv.length+1) (cap:=cap) (j:=lv.length) (by omega)
  have hget:(r++[last])[lv.length]?=some last:=by rw[<- hr];simp
  have g2:=ho.load (qU (A:=A) (Z:=Z) hget) zG rfl
  obtain⟨t1,s1,s2,s3⟩:=ho.store (C:=yA) hbase (j:=A.length+lv.length) (by simp;omega) ((last+up)%BB) zG rfl
  rw[zc8 (by simp;omega)]at s2
  have hset:(r++[last]).set lv.length ((last+up)%BB)=r++[(last+up)%BB]:=by rw[<- hr,List.set_append_right _ _ (ybk _)];simp
  rw[hset]at s2;have e1:tA .u32 ((last:Int)+(up:Int))=(((last+up)%BB:Nat):Int):=by rw[yM];show _=(((last+up)%4294967296:Nat):Int);omega
  simp only[zlr,pA,iD,g1,g2,sA,qB,e1];rw[yaa (by omega)]
  intro _ _ _;rw[s1];simp only[sA];rw[yca (by omega),yca (by omega)]at hval
  have e2:tA .u32 (tA .u64 ((d:Int)-1))=((d-1:Nat):Int):=by
   have:d<=4294967296:=hd2
   rw[gE (by omega) (by omega),yQ (by omega) (by omega)];omega
  rw[e2];exact hQ t1 r up (hoff.trans s3) s2 hr hrl hup hval
 | succ k ih=>
  intro i up t' r hi ht hoff ho hr hrl hup hval;obtain⟨x,hx⟩:=getElem?_of_lt (l:=lv) (i:=i) (by omega)
  obtain⟨y,hy⟩:=getElem?_of_lt (l:=W) (i:=i) (by omega)
  have hxlt:x<BB:=aH hlv hx
  have hylt:y<BB:=aH hWlt hy
  obtain⟨c,off,g1,g2⟩:=(hv.mono ht).idx qF hx
  have hy':(W++[last])[i]?=some y:=by rw[yco (by omega)];exact hy
  have hdrop:(W++[last]).drop i=y::(W++[last]).drop (i+1):=iL hy'
  have g3:=zhp qF (b:=b) (off:=A.length) (n:=lv.length+1) (cap:=cap) (j:=i) (by omega)
  have hget:(r++(W++[last]).drop i)[i]?=some y:=by rw[ybp (by omega),hr,Nat.sub_self,hdrop];rfl
  have g4:=ho.load (qU (A:=A) (Z:=Z) hget) zG rfl
  have hlen:i<(r++(W++[last]).drop i).length:=by rw[hdrop];simp;omega
  obtain⟨t1,s1,s2,s3⟩:=ho.store (C:=yA) hbase (j:=A.length+i) (by rw[ybg,ybg];omega) ((y+x+up)%BB) zG rfl
  rw[zc8 hlen]at s2;have hset:(r++(W++[last]).drop i).set i ((y+x+up)%BB)=(r++[(y+x+up)%BB])++(W++[last]).drop (i+1):=by
   rw[hdrop,set_append_right hr];simp
  rw[hset]at s2;have hadd:=z23 (t:=t') (x:=y) (y:=x) (c:=up) hylt hxlt hup
  refine zw8 _ _ _ _ _ _ _ ?_
  simp (disch:=omega) only[zlr,pA,iD,g1,g2,g3,g4,sA,qB,q221,hadd,zD,zA.asTup,vA,oF,yaz,yba,wrap_i64]
  rw[yab (by omega)]
  intro _ _ _;have s1':∀n,sC yA 202 (.ptr b (A.length+i)) (.int .u32 (((y+x+up)%4294967296:Nat):Int)) ⟨n,t'⟩=some (tD,⟨n,t1⟩):=s1
  rw[s1'];simp only[sA];refine ih (i+1) ((y+x+up) / BB) t1 _ (by omega) (ht.off hb s3) (hoff.trans s3) s2 (by simp[hr]) (xS hrl (ycy _ (by decide))) ?_ ?_
  ·have h1:y<4294967296:=hylt
   have h2:x<4294967296:=hxlt
   show(y+x+up) / 4294967296<2
   omega
  ·rw[gK,hr,wR hx,wR hy,gK,gK]
   have l1:(W.take i).length=i:=by simp;omega
   have l2:(lv.take i).length=i:=by simp;omega
   rw[l1,l2,yag];have hd:=ych (y+x+up) BB
   have e4:BB^i*y+BB^i*x+BB^i*up=BB^i*(BB*((y+x+up) / BB)+(y+x+up)%BB):=by rw[hd,ybm,ybm]
   rw[ybm,<- ybj]at e4;omega
def zom{u low bo:Nat}(hu:u<BB)(hl:low<BB)(hb:bo<2):∃w b',w<BB/\b'<2/\u+BB*b'=w+low+bo ∧
  tA .u32 (tA .u64 (tA .u64 ((u:Int)-(low:Int))-(bo:Int)))=(w:Int)/\Int.fdiv (tA .u64 (tA .u64 ((u:Int)-(low:Int))-(bo:Int))) 9223372036854775808=(b':Int):=by
 have hu:u<4294967296:=hu
 have hl:low<4294967296:=hl
 rcases yau u (low+bo)with g | g
 ·refine⟨u+BB-low-bo,1,by show u+4294967296-low-bo<4294967296;omega,by omega,by show u+4294967296*1=u+4294967296-low-bo+low+bo;omega,?_,?_⟩
  ·rw[yM,yR,yR];show _=((u+4294967296-low-bo:Nat):Int);omega
  ·rw[yR,yR,Int.fdiv_eq_ediv_of_nonneg _ (by omega)];omega
 ·refine⟨u-low-bo,0,by show u-low-bo<4294967296;omega,by omega,by omega,?_,?_⟩
  ·rw[yM,yR,yR];omega
  ·rw[yR,yR,Int.fdiv_eq_ediv_of_nonneg _ (by omega)];omega
def zmo{A Z lu lv:List Nat}{v:zA}{b cap d:Nat}{t0:Tr qA}{Q:bB}(hv:lA t0 1 (sB .u32 lv) v)(hl:lv.length<900000)(hlv:tB BB lv)(hbase:yA.base<=b)(hb:t0.get b=none)(hd:d<BB)(hlul:lu.length=lv.length+1)(hlu:tB BB lu)(hcap:lv.length+1<=cap)
  (hQ:∀t' (W:List Nat) last bo,dA t0 t'->lD b t t'->yF t' b .u32 (A++(W++[last])++Z)->W.length=lv.length->tB BB W->last<BB->bo<2->val BB (W++[last])+d*val BB lv=val BB lu+BB^(lv.length+1)*bo →
   if bo=0 then Q (.int .u32 (d:Int)) t' else jp 216 10 [.slice b A.length (lv.length+1) cap,.int .i64 lv.length,.int .u64 d,.int .u32 0,v,.int .i64 lv.length,.int .i64 (0:Nat)] t' Q) :
  ∀(k i carry borrow:Nat) (t':Tr qA) (W:List Nat),i+k=lv.length->dA t0 t'->lD b t t'->yF t' b .u32 (A++(W++lu.drop i)++Z)->W.length=i->tB BB W->carry<BB->borrow<2->val BB W+d*val BB (lv.take i)=val BB (lu.take i)+BB^i*(carry+borrow) →
  jp 216 6 [.slice b A.length (lv.length+1) cap,v,.int .i64 lv.length,.int .u64 d,.int .u64 carry,.int .u64 borrow,v,.int .i64 lv.length,.int .i64 i] t' Q:=by
 intro k;induction k with
 | zero=>
  intro i carry borrow t' W hi ht hoff ho hW hWl hc hbo hval;have hi':i=lv.length:=by omega
  subst hi'
  obtain⟨x,hx⟩:=getElem?_of_lt (l:=lu) (i:=lv.length) (by omega)
  have hxlt:x<BB:=aH hlu hx
  have hdrop:lu.drop lv.length=[x]:=by rw[iL hx,List.drop_of_length_le (by omega)]
  rw[hdrop]at ho;obtain⟨w,bo,hw,hbo',hsum,e1,e2⟩:=zom hxlt hc hbo
  have g1:=zhp qF (b:=b) (off:=A.length) (n:=lv.length+1) (cap:=cap) (j:=lv.length) (by omega)
  have hget:(W++[x])[lv.length]?=some x:=by rw[<- hW];simp
  have g2:=ho.load (qU (A:=A) (Z:=Z) hget) zG rfl
  obtain⟨t1,s1,s2,s3⟩:=ho.store (C:=yA) hbase (j:=A.length+lv.length) (by simp;omega) w zG rfl
  rw[zc8 (by simp;omega)]at s2
  have hset:(W++[x]).set lv.length w=W++[w]:=by rw[<- hW,List.set_append_right _ _ (ybk _)];simp
  rw[hset]at s2;have hx32:x<4294967296:=hxlt
  have e0:tA .u64 (x:Int)=(x:Int):=gE (by omega) (by omega)
  refine z35 _ _ _ _ _ _ _ _ _ ?_
  simp only[zuk,pA,iD,g1,g2,sA,qB,e0,e1,e2,xI];rw[yaa (by omega)]
  intro _ _ _;rw[s1];simp only[sA];have hfin:=hQ t1 W w bo (ht.off hb s3) (hoff.trans s3) s2 hW hWl hw hbo' (by
   rw[gK,hW];rw[yca (by omega)]at hval
   have e5:val BB lu=val BB (lu.take lv.length)+BB^lv.length*x:=by
    have:=oS BB lu lv.length
    rw[hdrop]at this;rw[this];have:(lu.take lv.length).length=lv.length:=by simp;omega
    rw[this];simp[val]
   rw[e5,yag];have e6:BB^lv.length*(x+BB*bo)=BB^lv.length*(w+carry+borrow):=by rw[hsum]
   rw[ybm,ybm,ybm,<- ybj]at e6;rw[ybm]at hval;omega)
  by_cases hz:bo=0
  ·rw[yab (by omega)]
   rw[yab hz]at hfin;have hd32:d<4294967296:=hd
   rw[yQ (by omega) (by omega)]
   exact hfin
  ·rw[yaa (by omega)]
   rw[yaa hz]at hfin;simp only[(hv.mono (ht.off hb s3)).len,sA,qB,iE]
   exact hfin
 | succ k ih=>
  intro i carry borrow t' W hi ht hoff ho hW hWl hc hbo hval;obtain⟨x,hx⟩:=getElem?_of_lt (l:=lu) (i:=i) (by omega)
  obtain⟨y,hy⟩:=getElem?_of_lt (l:=lv) (i:=i) (by omega)
  have hxlt:x<BB:=aH hlu hx
  have hylt:y<BB:=aH hlv hy
  have hd32:d<4294967296:=hd
  have hx32:x<4294967296:=hxlt
  have hy32:y<4294967296:=hylt
  have hc32:carry<4294967296:=hc
  have hdrop:lu.drop i=x::lu.drop (i+1):=iL hx
  obtain⟨c,off,g1,g2⟩:=(hv.mono ht).idx qF hy
  have g3:=zhp qF (b:=b) (off:=A.length) (n:=lv.length+1) (cap:=cap) (j:=i) (by omega)
  have hget:(W++lu.drop i)[i]?=some x:=by rw[ybp (by omega),hW,Nat.sub_self,hdrop];rfl
  have g4:=ho.load (qU (A:=A) (Z:=Z) hget) zG rfl
  have hprod:d*y<=4294967295*4294967295:=ydb (by omega) (by omega)
  obtain⟨P,hP⟩:∃P,P=d*y+carry:=⟨_,rfl⟩
  have hPlt:P<18446744073709551616:=by omega
  have hPhi:P / 4294967296<4294967296:=by omega
  obtain⟨w,bo,hw,hbo',hsum,e1,e2⟩:=zom (u:=x) (low:=P%4294967296) (bo:=borrow) hxlt (ycy _ (by decide)) hbo
  obtain⟨t1,s1,s2,s3⟩:=ho.store (C:=yA) hbase (j:=A.length+i) (by rw[ybg,ybg,ybg,hdrop];simp;omega) w zG rfl
  rw[zc8 (by rw[hdrop];simp;omega)]at s2
  have hset:(W++lu.drop i).set i w=(W++[w])++lu.drop (i+1):=by rw[hdrop,set_append_right hW];simp
  rw[hset]at s2;have e0:tA .u64 (x:Int)=(x:Int):=gE (by omega) (by omega)
  have e0':tA .u64 (y:Int)=(y:Int):=gE (by omega) (by omega)
  have e3:(d:Int)*(y:Int)=((d*y:Nat):Int):=(Int.natCast_mul d y).symm
  have e4:tA .u64 ((d*y:Nat):Int)=((d*y:Nat):Int):=by
   generalize d*y=z at hprod ⊢
   exact gE (by omega) (by omega)
  have e5:tA .u64 (((d*y:Nat):Int)+(carry:Int))=(P:Int):=by
   rw[hP,<- Int.natCast_add];generalize d*y=z at hprod ⊢
   exact gE (by omega) (by omega)
  have e6:tA .u64 (tA .u32 (P:Int))=((P%4294967296:Nat):Int):=by
   rw[yM,gE (by omega) (by omega)];omega
  have e7:Int.fdiv (P:Int) 4294967296=((P / 4294967296:Nat):Int):=mO P 4294967296
  refine z35 _ _ _ _ _ _ _ _ _ ?_
  simp only[zuk,pA,iD,g1,g2,g3,g4,sA,qB,e0,e0',e3,e4,e5,e6,e7,e1,e2];rw[yab (by omega)]
  intro _ _ _;rw[s1];simp (disch:=omega) only[sA,wrap_i64]
  refine ih (i+1) (P / 4294967296) bo t1 _ (by omega) (ht.off hb s3) (hoff.trans s3) s2 (by simp[hW]) (xS hWl hw) hPhi hbo' ?_
  rw[gK,hW,wR hx,wR hy,gK,gK];have l1:(lu.take i).length=i:=by simp;omega
  have l2:(lv.take i).length=i:=by simp;omega
  rw[l1,l2,yag];have hd:=ych P BB
  have e8:BB^i*(x+BB*bo)=BB^i*(w+P%BB+borrow):=congrArg (fun z=>BB^i*z) hsum
  have e9:BB^i*(d*y+carry)=BB^i*(BB*(P / BB)+P%BB):=by rw[hd,hP]
  rw[ybm,ybm,ybm,<- ybj]at e8;rw[ybm,ybm,<- ybj (BB^i) BB]at e9
  rw[ybm]at hval ⊢
  have e10:d*(BB^i*y)=BB^i*(d*y):=by rw[<- ybj,ybh d,ybj]
  rw[e10,ybm (BB^i*BB)]
  show _=val BB (lu.take i)+BB^i*x+(BB^i*BB*(P / BB)+BB^i*BB*bo)
  omega
attribute [irreducible] BB
end Go.Proofs
namespace Go.Proofs
open Go Go.Am
section
variable [jC]
variable {t:Tr qA}
def or32{x y:Nat}(hx:x<4294967296)(hy:y<4294967296):zH Nat.lor .u64 ((x*4294967296:Nat):Int) (y:Int)=some (.int .u64 ((x*4294967296+y:Nat):Int)):=by
 have h:=zfc (a:=x) (b:=y) (n:=32) hy
 have e:(2:Nat)^32=4294967296:=by decide
 rw[e]at h;rw[oO (k:=.u64) (show x*4294967296<nF .u64 by show _<18446744073709551616;omega) (show y<nF .u64 by show _<18446744073709551616;omega),h]
def zsb{lu lv:List Nat}{u v:zA}{Q:bB}{m head top u2 v2 U V ur vr:Nat}(hu:lA t 1 (sB .u32 lu) u)(hv:lA t 1 (sB .u32 lv) v)(hl:m<900000)(hu2:lu[m]?=some u2)(hv2:lv[m]?=some v2)(hu2lt:u2<BB)(hv2lt:v2<BB)(htop:0<top)(htoplt:top<BB)
  (hU:U=(head*BB+u2)*BB^m+ur) (hur:ur<BB^m) (hV:V=(top*BB+v2)*BB^m+vr) (hvr:vr<BB^m) (hq:U / V<BB) (hhead:head<=top*BB+(BB-1))
  (hexit:∀d,U / V<=d->d<=U / V+1->d<BB->jp 216 19 [u,v,.int .i64 (m+2:Nat),.int .u64 d] t Q) :
  ∀(d rest:Nat),d*top+rest=head->U / V<=d->d<=BB+1->rest<BB->jp 216 2 [u,v,.int .i64 (m+2:Nat),.int .u64 top,.int .u64 d,.int .u64 rest] t Q:=by
 intro d;induction d with
 | zero=>
  intro rest hsum hge _ hrest;have hBB:=aJ
  have hr32:rest<4294967296:=by omega
  obtain⟨b,off,g1,g2⟩:=hv.idx qF hv2
  obtain⟨c,off',g3,g4⟩:=hu.idx qF hu2
  have hu32:u2<4294967296:=by omega
  have hv32:v2<4294967296:=by omega
  obtain⟨D,hD⟩:∃D:Int,((0:Nat):Int)=D:=⟨_,rfl⟩
  rw[hD];refine z36 _ _ _ _ _ _ ?_
  unfold zul;generalize hC:(4294967296:Int)=C
  generalize hG:zH Nat.lor .u64 (tA .u64 ((rest:Int)*C))=G
  have e4:D*(v2:Int)=0:=by rw[<- hD];simp
  have e1:((m+2:Nat):Int)-2=(m:Int):=by omega
  have e2:(rest:Int)*C=((rest*4294967296:Nat):Int):=by rw[<- hC];omega
  have e3:G (u2:Int)=some (.int .u64 ((rest*4294967296+u2:Nat):Int)):=by rw[<- hG,e2,gE (by omega) (by omega)];exact or32 hr32 hu32
  simp only[pA,jG];rw[yaa (by omega)]
  simp (disch:=omega) only[e1,wrap_i64,g1,sA]
  rw[g2];simp only[sA,qB,g3];rw[g4,sA,qB,sA,gE (n:=(u2:Int)) (by omega) (by omega),e3,sA,qB,sA,gE (n:=(v2:Int)) (by omega) (by omega),e4,gE (n:=0) (by decide) (by decide)]
  rw[yaa (fun h=>absurd (iD.1 h) (by omega)),<- hD]
  exact hexit 0 hge (yaw _) mG
 | succ d ih=>
  intro rest hsum hge hle hrest;have hBB:=aJ
  have hr32:rest<4294967296:=by omega
  have ht32:top<4294967296:=by omega
  have hle32:d+1<=4294967296+1:=by omega
  have hsum':d*top+(rest+top)=head:=by rw[ybo]at hsum;omega
  obtain⟨D,hD⟩:∃D:Int,((d+1:Nat):Int)=D:=⟨_,rfl⟩
  rw[hD];have e1:D-1=(d:Int):=by omega
  have e0:(rest:Int)+(top:Int)=((rest+top:Nat):Int):=by omega
  have less:U / V<=d->(if (4294967296:Int)<=((rest+top:Nat):Int)then jp 216 19 [u,v,.int .i64 (m+2:Nat),.int .u64 d] t Q else jp 216 2 [u,v,.int .i64 (m+2:Nat),.int .u64 top,.int .u64 d,.int .u64 ((rest+top:Nat):Int)] t Q):=by
   intro hge';split
   ·rename_i hb
    have hb':BB<=rest+top:=by omega
    have hdlt:d<BB:=by
     rcases yau d BB with g | g
     ·exact g
     ·exfalso
      have:=ybi top g
      rw[ybh BB top]at this;omega
    refine hexit d hge' ?_ hdlt
    refine kn_le mG hU hV hvr htop (Nat.le_of_lt hdlt) ?_
    have h1:d*v2<=BB*BB:=ydb (Nat.le_of_lt hdlt) (Nat.le_of_lt hv2lt)
    have h2:BB*BB<=(rest+top)*BB:=ybi _ hb'
    have h3:head*BB=d*top*BB+(rest+top)*BB:=by rw[<- hsum',ybo]
    rw[ybm,<- ybj,h3];omega
   ·rename_i hb
    exact ih (rest+top) hsum' hge' (by omega) (by omega)
  refine z36 _ _ _ _ _ _ ?_
  unfold zul;generalize hC:(4294967296:Int)=C
  generalize hG:zH Nat.lor .u64 (tA .u64 ((rest:Int)*C))=G
  by_cases hbig:4294967296<=d+1
  ·simp (disch:=omega) only[pA,jG,e0,e1,gE]
   rw[yab (by omega)]
   subst hC;exact less (by omega)
  ·obtain⟨b,off,g1,g2⟩:=hv.idx qF hv2
   obtain⟨c,off',g3,g4⟩:=hu.idx qF hu2
   have hu32:u2<4294967296:=by omega
   have hv32:v2<4294967296:=by omega
   have e5:((m+2:Nat):Int)-2=(m:Int):=by omega
   have e2:(rest:Int)*C=((rest*4294967296:Nat):Int):=by rw[<- hC];omega
   have e6:tA .u64 (D*(v2:Int))=(((d+1)*v2:Nat):Int):=by
    rw[<- hD,<- Int.natCast_mul];have:(d+1)*v2<=4294967295*4294967295:=ydb (by omega) (by omega)
    generalize (d+1)*v2=z at this ⊢
    exact gE (by omega) (by omega)
   have e3:G (u2:Int)=some (.int .u64 ((rest*4294967296+u2:Nat):Int)):=by rw[<- hG,e2,gE (by omega) (by omega)];exact or32 hr32 hu32
   simp only[pA,jG];rw[yaa (by omega)]
   simp (disch:=omega) only[e5,wrap_i64,g1,sA]
   rw[g2];simp only[sA,qB,g3];rw[g4,sA,qB,sA,gE (n:=(u2:Int)) (by omega) (by omega),e3,sA,qB,sA,gE (n:=(v2:Int)) (by omega) (by omega),e6]
   have e7:tA .u64 ((rest:Int)+(top:Int))=((rest+top:Nat):Int):=by rw[e0];exact gE (by omega) (by omega)
   have e8:tA .u64 (D-1)=(d:Int):=by rw[e1];exact gE (by omega) (by omega)
   rw[e7,e8];have key:(d+1)*(top*BB+v2)=(d+1)*top*BB+(d+1)*v2:=by rw[ybm,<- ybj]
   have key2:head*BB=(d+1)*top*BB+rest*BB:=by rw[<- hsum,ybo]
   by_cases htest:rest*4294967296+u2<(d+1)*v2
   ·rw[yab (iD.2 (by omega))]
    subst hC;refine less (Nat.lt_succ_iff.1 (kn_gt hU hur hV ?_))
    rw[key,key2];have:rest*BB=rest*4294967296:=by rw[hBB]
    generalize (d+1)*top*BB=P at this ⊢
    generalize (d+1)*v2=R at htest ⊢
    omega
   ·rw[yaa (fun h=>absurd (iD.1 h) (by omega))]
    rw[<- hD];refine hexit (d+1) hge (kn_le mG hU hV hvr htop (by omega) ?_) (by omega)
    rw[key,key2];have:rest*BB=rest*4294967296:=by rw[hBB]
    generalize (d+1)*top*BB=P at this ⊢
    generalize (d+1)*v2=R at htest ⊢
    omega
end
section
variable [jC]
variable {t tf:Tr qA}
def zor{n:Nat}{y:qA}(hn:t.get n=none)(h:dA tf t):dA (tf.set n y) (t.set n y):=by
 intro c u hc;rw[Tr.get_set]at hc ⊢
 split at hc
 ·rename_i e;rw[yab e];exact hc
 ·rename_i e;rw[yaa e];exact h _ _ hc
def zhi(h:dA tf t){n:Nat}(hn:t.get n=none):tf.get n=none:=by
 cases hx:tf.get n with
 | none=>rfl
 | some y=>rw[h _ _ hx]at hn;cases hn
structure zzg (S:Tr qA->Tr qA->Prop):Prop where
 le:∀ {tf t:Tr qA},S tf t->dA tf t
 both:∀ {tf t:Tr qA} {n:Nat},S tf t->t.get n=none->∀y,S (tf.set n y) (t.set n y)
 out:∀ {tf t:Tr qA} {n:Nat} {y:qA},tf.get n=none->S (tf.set n y) t->S tf (t.del n)
def zfl{f i:Nat}{v8 v4:zA}{K R:T}{ps:List Nat}{Q:bB}{S:Nat->Tr qA->Tr qA->Prop}(hS:∀k,zzg (S k))(hp:lA tf 1 (sB .u32 ps) v4)(hl:ps.length<30000)(h:S ps.length tf t)
  (body:∀(k x:Nat) (tf t:Tr qA) (Q1:bB),ps[k]?=some x->S (k+1) tf t->(∀t',S k tf t'->Q1 (.bool true) t')->Jq yA F f i [v8,.int .u32 (x:Int)] t Q1)
  (uE:∀tf' t',dA tf tf'->S 0 tf' t'->pA yA.base (Wq yA F lI) (Jq yA F f) K t' Q) :
  pA yA.base (Wq yA F lI) (Jq yA F f) (.call 153 [v4] fun a0=>.range (npC yA) a0 i 1 [v8] K R) t Q:=by
 simp only[pA];rw[q153];refine w153 _ ?_
 simp only[t153,pA];intro bb hbb hbase;have hc4:v4.cells=[v4]:=by
  obtain⟨cl,h1,_⟩:=hp
  rcases h1 with⟨rfl,_⟩ | ⟨_,_,_,rfl,_⟩<;>rfl
 have hone:zq0 v4 ⟨bb,t⟩=some (.ptr bb 0,⟨bb+1,t.set bb (.cells (Tr.ofList [v4]) 1 none)⟩):=by
  unfold zq0;rw[hc4];rfl
 rw[hone,sA];simp only[];have h1:=(hS _).both h hbb (.cells (Tr.ofList [v4]) 1 none)
 have hfb:=zhi ((hS _).le h) hbb
 have htf1:dA tf (tf.set bb (.cells (Tr.ofList [v4]) 1 none)):=(fI hfb _).1
 generalize htf:tf.set bb (.cells (Tr.ofList [v4]) 1 none)=tf1 at h1 htf1
 have hg1:tf1.get bb=some (.cells (Tr.ofList [v4]) 1 none):=by rw[<- htf,Tr.get_set,yab rfl]
 generalize t.set bb (.cells (Tr.ofList [v4]) 1 none)=t1 at h1
 refine⟨Nat.le_add_right _ _,fun l r hl0 hlb hr1 hr2 hy=>?_⟩
 have hra:qX (npC yA) (.func (.func 175) [] [.ptr bb 0]) l=some (175,[.func (.yld l) [] [],.ptr bb 0]):=by
  unfold qX;simp only[zA.asFunc,vA];have:npC yA 175=true:=by kernel_rfl
  rw[this];rfl
 rw[hra,sA];have h2:=(hS _).both h1 hl0 (.loop r)
 have hfl:=zhi ((hS _).le h1) hl0
 have hlr:zhj true r=r:=by
  obtain⟨a,b,c,d,e,f,g,h,i⟩:=r
  have hr1:a=.ready:=hr1
  have hr2:b=none:=hr2
  subst hr1;subst hr2;rfl
 have hle2:dA tf1 (tf1.set l (.loop r)):=(fI hfl _).1
 rw[show Wq yA F lI 175=Wc yA F 175 by funext a m R;rw[q175]]
 refine z6z (l:=ps) (v:=v4) (I:=fun k t'=>S k (tf1.set l (.loop r)) t') (by omega) ?_ ?_ ?_ h2
 ·intro k t' hI
  have hle:=(hS _).le hI
  have hg:t'.get bb=some (.cells (Tr.ofList [v4]) 1 none):=hle _ _ (hle2 _ _ hg1)
  refine⟨?_,hp.mono (htf1.trans (hle2.trans hle))⟩
  exact(vD.load1 (cs:=[v4]) (lo:=none) ⟨Tr.ofList [v4],hg,fun j a hj=>by rw[Tr.get_ofList];exact hj⟩ vL rfl (j:=0) rfl)
 ·intro k x t' hx hI R hR
  show cD (some (yo+l,[zA.int .u32 (x:Int)])) _
  rw[sA];refine hy [.int .u32 (x:Int)] t' R rfl ((hS _).le hI _ _ (by rw[Tr.get_set,yab rfl])) ?_
  refine body k x tf1 _ _ hx ((hS _).out hfl hI) fun t2 h3 hn2=>⟨true,rfl,?_⟩
  rw[hlr];exact hR _ ((hS _).both h3 hn2 (.loop r))
 ·intro t' hI
  exact .inl ⟨(hS _).le hI _ _ (by rw[Tr.get_set,yab rfl]),uE tf1 _ htf1 ((hS _).out hfl hI)⟩
def z7m (bx:Nat)(v:zA)(tf t:Tr qA):Prop:=yA.base<=bx/\tf.get bx=none/\dA tf t/\vD t bx none [v]
def z7m.framed{bx:Nat}{v:zA}:zzg (z7m bx v) where
 le:=fun h=>h.2.2.1
 both:=fun {tf t n} h hn y=>by
  obtain⟨h1,h2,h3,h4⟩:=h
  have hbx:bx≠n:=by intro e;obtain⟨c,h,_⟩:=h4;rw[e,hn]at h;cases h
  exact⟨h1,by rw[Tr.get_set,yaa hbx];exact h2,zor hn h3,h4.off (by rw[Tr.get_set,yaa hbx])⟩
 out:=fun {tf t n y} hn h=>by
  obtain⟨h1,h2,h3,h4⟩:=h
  have hbx:bx≠n:=by intro e;rw[e,Tr.get_set,yab rfl]at h2;cases h2
  have hle:dA tf (tf.set n y):=(fI hn y).1
  rw[Tr.get_set,yaa hbx]at h2;refine⟨h1,h2,fun c u hc=>?_,h4.off (by rw[Tr.get_del,yaa hbx])⟩
  have:c≠n:=fun e=>by rw[e,hn]at hc;cases hc
  rw[Tr.get_del,yaa this];exact h3 _ _ (hle _ _ hc)
def zwh{bx x y:Nat}{Q1:bB}(h:z7m bx (.int .u64 (y:Int)) tf t)(hy:y<4294967296)(hx:x<4294967296)(hQ:∀t',z7m bx (.int .u64 ((y*4294967296+x:Nat):Int)) tf t'->Q1 (.bool true) t'):jp 207 2 [.ptr bx 0,.int .u32 (x:Int)] t Q1:=by
 obtain⟨i1,i2,i3,i4⟩:=h
 have e5:(y:Int)*4294967296=((y*4294967296:Nat):Int):=by omega
 have e6:zH Nat.lor .u64 (tA .u64 ((y:Int)*4294967296)) (tA .u64 (x:Int))=some (.int .u64 ((y*4294967296+x:Nat):Int)):=by
  rw[e5,gE (by omega) (by omega),gE (by omega) (by omega),or32 hy hx]
 generalize y*4294967296+x=z at e6 hQ
 refine j207_2 _ _ ?_
 simp only[z3k,pA];rw[i4.load1 zt6 rfl (j:=0) rfl,sA,qB,sA,e6,sA,qB,sA]
 intro b3 _ _;obtain⟨t3,k1,k2,k3⟩:=i4.store1 (v:=.int .u64 (z:Int)) i1 zt6 rfl rfl rfl (j:=0) (by simp)
 rw[k1,sA];exact hQ _ ⟨i1,i2,i3.off i2 k3,k2⟩
def zr1{l:List Nat}{k x:Nat}(hl:l.length<=2)(hlt:tB 4294967296 l)(hx:l[k]?=some x):x<4294967296/\val 4294967296 (l.drop (k+1))<4294967296/\val 4294967296 (l.drop k)=val 4294967296 (l.drop (k+1))*4294967296+x:=by
 have hk:k<l.length:=(ybc.1 hx).1
 have hdrop:l.drop k=x::l.drop (k+1):=by
  rw[ybl hk];congr 1
  rw[ybd hk]at hx;exact yci hx
 refine⟨hlt x (ycv hx),?_,?_⟩
 ·have h1:=zgk hlt (k+1)
  have h2:(l.drop (k+1)).length<=1:=by rw[ydj];omega
  generalize l.drop (k+1)=m at h1 h2 ⊢
  match m,h1,h2 with
  | [],_,_=>exact Nat.zero_lt_succ _
  | [a],h1,_=>rw[val,val,yat,yct];exact h1 a (.head _)
 ·rw[hdrop,val,ybh,yap]
def z5z{l:List Nat}{v:zA}(hv:lA t 1 (sB .u32 l) v)(hl:l.length<=2)(hlt:tB 4294967296 l):wC yA F 207 [v] t=some (.int .u64 ((val 4294967296 l:Nat):Int)):=by
 refine zen (w207 _ ?_)
 have hlen0:l.length<30000:=by omega
 have hst:∀k x,l[k]?=some x->_:=fun k x=>zr1 (k:=k) (x:=x) hl hlt
 have h0:val 4294967296 (l.drop l.length)=0:=by rw[List.drop_length,val]
 generalize hg:(fun k=>val 4294967296 (l.drop k))=g
 have hst':∀k x,l[k]?=some x->x<4294967296/\g (k+1)<4294967296/\g k=g (k+1)*4294967296+x:=fun k x hx=>by rw[<- hg];exact hst k x hx
 have h0':g l.length=0:=by rw[<- hg];exact h0
 have hend:val 4294967296 l=g 0:=by rw[<- hg];rfl
 rw[hend];clear hg hst h0 hend
 unfold t207;show ∀b,t.get b=none->yA.base<=b->cD (uM yA 195 ⟨b,t⟩) _
 intro bx hbx hbase;obtain⟨t1,e1,e2,e3,e4⟩:=iT (C:=yA) zt6 hbx
 rw[e1,sA];show ∀b,t1.get b=none->yA.base<=b->cD (sC yA 195 (.ptr bx 0) (.int .u64 0) ⟨b,t1⟩) _
 intro b2 _ _;obtain⟨t2,g1,g2,g3⟩:=e2.store1 (v:=.int .u64 0) hbase zt6 rfl rfl rfl (j:=0) (by simp)
 rw[g1,sA];have hS0:z7m bx (.int .u64 ((g l.length:Nat):Int)) t t2:=by
  rw[h0'];exact⟨hbase,hbx,(dA.refl t).off hbx e4 |>.off hbx g3,g2⟩
 refine zfl (S:=fun k tf t=>z7m bx (.int .u64 ((g k:Nat):Int)) tf t) (fun k=>z7m.framed) hv hlen0 hS0 ?_ ?_
 ·intro k x tf t' Q1 hx hI hQ1
  obtain⟨s1,s2,s3⟩:=hst' k x hx
  refine zwh hI s2 s1 fun t2 h2=>hQ1 t2 ?_
  rw[s3];exact h2
 ·intro tf' t' hle hI
  obtain⟨i1,i2,i3,i4⟩:=hI
  simp only[pA];rw[i4.load1 zt6 rfl (j:=0) rfl,sA]
  simp only[qB,sA];exact⟨trivial,hle.trans i3⟩
end
end Go.Proofs
namespace Go.Am
open Go
def fF (u:Nat):List Nat:=(Lib.decDigits u).map UInt8.toNat
def xY{u:Nat}(h:u<10):fF u=[48+u]:=by
 unfold fF;rw[Lib.decDigits_one h];simp[UInt8.toNat_ofNat']
 omega
def zbz{u:Nat}(h:¬ u<10):fF u=fF (u / 10)++[48+u%10]:=by
 unfold fF;rw[Lib.decDigits,dif_neg h,List.map_append];simp[UInt8.toNat_ofNat']
 omega
def zdp(u:Nat):cI (u:Int)=fF u:=by
 unfold cI Lib.itoa fF;rw[yaa (by omega)];rfl
def zj6{u:Nat}(h:0<u):cI (-(u:Int))=45::fF u:=by
 unfold cI Lib.itoa fF;rw[yab (by omega)]
 simp
def z2g(u:Nat):(fF u).length=Lib.nDigits u:=by unfold fF;rw[ybf,Lib.decDigits_length]
def zby(u:Nat):0<(fF u).length:=by rw[z2g];exact Lib.nDigits_pos u
def wY(u:Nat):∀x∈fF u,48<=x/\x<58:=by
 induction u using Nat.strongRecOn with
 | _ u ih=>
  by_cases h:u<10
  ·rw[xY h];intro x hx;simp at hx;omega
  ·rw[zbz h]
   intro x hx;rcases yaf.1 hx with hx | hx
   ·exact ih (u / 10) (by omega) x hx
   ·simp at hx;omega
def zd2{u k:Nat}(hk:0<k)(h:u<10^k):(fF u).length<=k:=by
 induction k generalizing u with
 | zero=>omega
 | succ k ih=>
  by_cases h10:u<10
  ·rw[xY h10];simp
  ·rw[zbz h10,ybg]
   have:u / 10<10^k:=by rw[yag]at h;omega
   by_cases hk0:k=0
   ·subst hk0;simp at this;omega
   ·have:=ih (by omega) this
    simp;omega
def zo6:Nat->Nat->List Nat
 | 0,_=>[]
 | k+1,r=>zo6 k (r / 10)++[48+r%10]
def zhd:∀(k r:Nat),(zo6 k r).length=k
 | 0,_=>rfl
 | k+1,r=>by rw[zo6,ybg,zhd k];rfl
def zjk:∀k,zo6 k 0=List.replicate k 48
 | 0=>rfl
 | k+1=>by rw[zo6,zjk k,List.replicate_succ']
def z5p{k r:Nat}(hk:0<k)(h:r<10^k):zo6 k r=List.replicate (k-(fF r).length) 48++fF r:=by
 induction k generalizing r with
 | zero=>omega
 | succ k ih=>
  rw[zo6];by_cases h10:r<10
  ·rw[xY h10,Nat.div_eq_of_lt h10,zjk,Nat.mod_eq_of_lt h10]
   simp
  ·have h1:r / 10<10^k:=by rw[yag]at h;omega
   have hk0:0<k:=by
    rcases yav k with e | e
    ·subst e;simp at h1;omega
    ·exact e
   rw[ih hk0 h1,zbz h10,ybz];congr 2
   simp
def z2f{q:Nat}(hq:0<q):∀ {k r:Nat},r<10^k->fF (q*10^k+r)=fF q++zo6 k r:=by
 intro k;induction k with
 | zero=>intro r h;simp at h;subst h;simp[zo6]
 | succ k ih=>
  intro r h;have hp:0<10^k:=Nat.pow_pos (by decide)
  have hb:¬ q*10^(k+1)+r<10:=by
   have:10^(k+1)=10^k*10:=yag ..
   have h2:10<=q*10^(k+1):=by
    rw[this];calc 10=1*(1*10):=by omega
     _<=q*(10^k*10):=ydb hq (ydb hp (ybk _))
   omega
  have e1:(q*10^(k+1)+r) / 10=q*10^k+r / 10:=by
   rw[yag,<- ybj,yap,Nat.add_mul_div_right _ _ (by decide),yap]
  have e2:(q*10^(k+1)+r)%10=r%10:=by
   rw[yag,<- ybj,yap,Nat.add_mul_mod_self_right]
  rw[zbz hb,e1,e2,ih (by rw[yag]at h;omega),zo6,ybz]
def zfr:∀(k r:Nat),∀x∈zo6 k r,48<=x/\x<58
 | 0,_,x,hx=>by cases hx
 | k+1,r,x,hx=>by
  rw[zo6]at hx;rcases yaf.1 hx with hx | hx
  ·exact zfr k _ x hx
  ·simp at hx;omega
def uH:List Nat->List Nat
 | []=>[]
 | [p]=>fF p
 | p::q::l=>uH (q::l)++zo6 9 p
def zog:∀ {l:List Nat},l≠[]->(∀x∈l,x<1000000000)->l.getLast?≠some 0->uH l=fF (val 1000000000 l)/\0<val 1000000000 l
 | [],h,_,_=>absurd rfl h
 | [p],_,_,h=>by
  have hp:p≠0:=fun e=>h (by simp[e])
  simp[uH,val]
  omega
 | p::q::l,_,h1,h2=>by
  obtain⟨g1,g2⟩:=zog (l:=q::l) (by simp) (fun x hx=>h1 x (.tail _ hx)) (by rw[List.getLast?_cons_cons]at h2;exact h2)
  have hp:=h1 p (.head _)
  have e:val 1000000000 (p::q::l)=val 1000000000 (q::l)*10^9+p:=by
   rw[val];omega
  rw[e,z2f g2 (by simpa using hp),uH,g1]
  exact⟨rfl,by omega⟩
def eY:∀(l:List Nat),∀x∈uH l,48<=x/\x<58
 | [],x,hx=>by cases hx
 | [p],x,hx=>wY p x hx
 | p::q::l,x,hx=>by
  rw[uH]at hx;rcases yaf.1 hx with hx | hx
  ·exact eY _ x hx
  ·exact zfr _ _ x hx
def intN (neg:Bool)(n:Nat):List Nat:=(if neg then [45]else [])++fF n
end Go.Am
namespace Go.Am
open Go Go.RowKit
section
variable {base:Nat}{t t0:Tr qA}{X X0:Xt}{HA:xA}{n:Nat}{y:qA}{C:oA}{F:Tr xB}{Q:bB}
def Xt.put(X:Xt)(n:Nat)(y:qA):Xt:=fun b=>if b=n then some y else X b
def Xt.put_self{X:Xt}:X.put n y n=some y:=yab rfl
def Xt.put_ne{X:Xt}{b:Nat}(h:b≠n):X.put n y b=X b:=yaa h
def Ov.hide(h:Ov base t X HA)(hy:t.get n=some y)(h0:t0.get n=none)(ho:lD n t0 t):Ov base t0 (X.put n y) HA:=by
 refine⟨h.base,fun b hb=>?_,fun b z hb=>?_,fun b z hb=>?_⟩
 ·by_cases e:b=n
  ·subst e;rw[Xt.put_self]at hb;cases hb
  ·rw[Xt.put_ne e]at hb
   rw[h.same b hb,ho b e]
 ·by_cases e:b=n
  ·subst e
   rw[Xt.put_self]at hb;cases hb;exact⟨h.up hy,h0,h.lt _ _ hy⟩
  ·rw[Xt.put_ne e]at hb
   obtain⟨h1,h2,h3⟩:=h.ext b z hb
   exact⟨h1,by rw[<- ho b e];exact h2,h3⟩
 ·by_cases e:b=n
  ·subst e;rw[h0]at hb;cases hb
  ·exact h.lt b z (by rw[ho b e];exact hb)
def xC.unhide{Q:bB}{d:wB}(hX:X.put n y=X0)(hn:X n=none)(h:xC base X0 Q d):xC base X (fun v t'=>∃t0',Q v t0'/\t0'.get n=none/\t'.get n=some y/\lD n t0' t') d:=by
 obtain⟨v,t',HA',X',h1,h2,h3,h4⟩:=h
 subst hX;have hy:X' n=some y:=h3 n y Xt.put_self
 obtain⟨e1,e2,e3⟩:=h2.ext n y hy
 obtain⟨_,ho⟩:=fI (t:=t') e2 y
 have hs:(t'.set n y).get n=some y:=by rw[Tr.get_set,yab rfl]
 refine⟨v,t'.set n y,HA',fun b=>if b=n then none else X' b,h1,⟨h2.base,fun b hb=>?_,fun b z hb=>?_,fun b z hb=>?_⟩,fun b z hb=>?_,t',h4,e2,hs,ho⟩
 ·by_cases e:b=n
  ·subst e;rw[e1,hs]
  ·have hb:(if b=n then none else X' b)=none:=hb
   rw[yaa e]at hb;rw[h2.same b hb,ho b e]
 ·by_cases e:b=n
  ·have hb:(if b=n then none else X' b)=some z:=hb
   rw[yab e]at hb;cases hb
  ·have hb:(if b=n then none else X' b)=some z:=hb
   rw[yaa e]at hb;obtain⟨k1,k2,k3⟩:=h2.ext b z hb
   exact⟨k1,by rw[ho b e];exact k2,k3⟩
 ·by_cases e:b=n
  ·subst e;exact e3
  ·rw[ho b e]at hb;exact h2.lt b z hb
 ·show(if b=n then none else X' b)=some z
  have e:b≠n:=fun e=>by subst e;rw[hn]at hb;cases hb
  rw[yaa e];exact h3 b z (by rw[Xt.put_ne e];exact hb)
def Wc.frame{f:Nat}{args:List zA}(h:Wc C F f args t0 Q)(hy:t.get n=some y)(h0:t0.get n=none)(ho:lD n t0 t) :
  Wc C F f args t (fun v t'=>∃t0',Q v t0'/\t0'.get n=none/\t'.get n=some y/\lD n t0' t'):=
 fun X HA hv=>(h _ HA (hv.hide hy h0 ho)).unhide rfl (hv.notX hy)
end
def Tr.without(t:Tr qA):∀n:Nat,∃t0:Tr qA,t0.get n=none/\lD n t0 t:=by
 induction t with
 | leaf=>exact fun n=>⟨.leaf,Tr.get_leaf n,fun _ _=>rfl⟩
 | node l v r ihl ihr=>
  intro n;by_cases h0:n=0
  ·subst h0
   refine⟨.node l none r,by rw[Tr.get_node];rfl,fun k hk=>?_⟩
   rw[Tr.get_node,Tr.get_node,yaa hk,yaa hk]
  ·by_cases h1:n%2=1
   ·obtain⟨l0,g1,g2⟩:=ihl (n / 2)
    refine⟨.node l0 v r,by rw[Tr.get_node,yaa h0,yab h1];exact g1,fun k hk=>?_⟩
    rw[Tr.get_node,Tr.get_node];split
    ·rfl
    ·split
     ·exact g2 _ (by omega)
     ·rfl
   ·obtain⟨r0,g1,g2⟩:=ihr (n / 2-1)
    refine⟨.node l v r0,by rw[Tr.get_node,yaa h0,yaa h1];exact g1,fun k hk=>?_⟩
    rw[Tr.get_node,Tr.get_node];split
    ·rfl
    ·split
     ·rfl
     ·exact g2 _ (by omega)
end Go.Am
namespace Go.Proofs
open Go Go.Am
variable [jC]
variable {t tf:Tr qA}
def bF.call{cd:Lo}{base sz:Nat}{l:List D}{v:zA}(h:bF cd base tf t sz l v)(ht:dA tf t):∃t0,dA tf t0/\∀ {f:Nat} {args:List zA} {Q:bB},Wc yA F f args t0 Q->Wc yA F f args t (fun u t'=>∃t1,Q u t1/\(dA tf t1->dA t1 t'/\bF cd base t1 t' sz l v)):=by
 rcases h with⟨rfl,rfl⟩ | ⟨b,cl,c,rfl,h0,h1,h2,h3,h4⟩
 ·exact⟨t,ht,fun h=>h.mono fun u t' hq=>⟨t',hq,fun _=>⟨dA.refl _,.inl ⟨rfl,rfl⟩⟩⟩⟩
 ·obtain⟨t0,g1,g2⟩:=Tr.without t b
  refine⟨t0,fun k u hk=>?_,fun h=>(h.frame h2 g1 g2).mono fun u t' ⟨t1,k1,k2,k3,k4⟩=>⟨t1,k1,fun hle=>⟨fun k u hk=>?_,.inr ⟨b,cl,c,rfl,h0,k2,k3,h3,oC.mono hle _ _ h4⟩⟩⟩⟩
  ·have hkb:k≠b:=by intro e;rw[e,h1]at hk;cases hk
   rw[<- g2 k hkb];exact ht _ _ hk
  ·have hkb:k≠b:=by intro e;rw[e,k2]at hk;cases hk
   rw[k4 k hkb];exact hk
def el200:ztc yA 200 202 1:=⟨⟨_,vL,rfl,rfl⟩,⟨_,zG,rfl,rfl,by decide,by decide⟩⟩
def el32:ztc yA 32 5 1:=⟨⟨_,zt5,rfl,rfl⟩,⟨_,ty5,rfl,rfl,by decide,by decide⟩⟩
def co202:∀z,yA.tys.get 202=some z->qH 202 z=.sz 1:=fun z h=>by rw[zG]at h;cases h;rfl
def co5:∀z,yA.tys.get 5=some z->qH 5 z=.ty 5:=fun z h=>by rw[ty5]at h;cases h;rfl
def zr9{cd:Lo}{base sz:Nat}{l:List D}{v:zA}{b:Nat}(h:bF cd base tf t sz l v)(hb:pJ v b)(hn:t.get b=none):False:=by
 obtain⟨_,_,y,hy⟩:=h.none hb
 rw[hn]at hy;cases hy
def zrs{v2:List Nat}{v3:Int}{neg:Bool}{c1:zA}{N M:Nat}{Q:bB}{t0:Tr qA}(hM:M<400000)
  (hR:∀(tf t':Tr qA) (ps:List Nat) (v4 v5:zA),dA t0 tf->dA tf t'->bF (.sz 1) yA.base tf t' 1 (sB .u32 ps) v4->lA tf 1 (sB .u32 []) v5->tB 1000000000 ps->ps≠[]->ps.getLast?≠some 0->val 1000000000 ps=N->ps.length<=M->jp 117 2 [.str v2,.int .i64 v3,v4,v5,.bool neg,c1] t' Q) :
  ∀(k:Nat) (l ps:List Nat) (v4 v5:zA) (tf t':Tr qA),val 4294967296 l<1000000000^k->k+ps.length<=M->norm l->tB 4294967296 l->l.length<900000->tB 1000000000 ps->(l=[]->ps≠[]/\ps.getLast?≠some 0) →
   val 4294967296 l*1000000000^ps.length+val 1000000000 ps=N->dA t0 tf->dA tf t'->bF (.sz 1) yA.base tf t' 1 (sB .u32 ps) v4->lA tf 1 (sB .u32 l) v5->jp 117 2 [.str v2,.int .i64 v3,v4,v5,.bool neg,c1] t' Q:=by
 intro k;induction k with
 | zero=>
  intro l ps v4 v5 tf t' h1 h2 h3 h4 h5 h6 h7 h8 h9 h10 h11 h12;have hl:l=[]:=nX (B:=4294967296) (by decide) h3 (by simpa using h1)
  subst hl;exact hR tf t' ps v4 v5 h9 h10 h11 h12 h6 (h7 rfl).1 (h7 rfl).2 (by simpa[val]using h8) (by omega)
 | succ k ih=>
  intro l ps v4 v5 tf t' h1 h2 h3 h4 h5 h6 h7 h8 h9 h10 h11 h12;by_cases hl:l=[]
  ·subst hl
   exact hR tf t' ps v4 v5 h9 h10 h11 h12 h6 (h7 rfl).1 (h7 rfl).2 (by simpa[val]using h8) (by omega)
  have hpos:0<l.length:=List.length_pos_iff.2 hl
  have hv0:0<val 4294967296 l:=by
   rcases yav (val 4294967296 l)with e | e
   ·exact absurd (nX (B:=4294967296) (by decide) h3 e) hl
   ·exact e
  refine z4i _ _ _ _ _ _ ?_
  simp only[zu1,pA,(h12.mono h10).len,sA,qB,iE,iD]
  rw[yab (by omega),q152]
  obtain⟨t1,g1,g2⟩:=bF.call h11 h10
  refine(g2 (zkh (h12.mono g1) h5 h4 (d:=1000000000) (by decide) (by decide) (Q:=fun u t'=>∃v' q r,u=.tup [v',.int .u32 (r:Nat)]/\dA t1 t'/\lA t' 1 (sB .u32 (pE q)) v'/\tB 4294967296 q/\q.length=l.length/\r<1000000000/\val 4294967296 l=val 4294967296 q*1000000000+r) fun t' v' q r a b c d e f=>⟨v',q,r,rfl,a,b,c,d,e,f⟩)).mono ?_
  rintro u t2 ⟨tf2,⟨v',q,r,rfl,a1,a2,a3,a4,a5,a6⟩,hk⟩
  obtain⟨b1,b2⟩:=hk (g1.trans a1)
  have x0:zD 0 (.tup [v',.int .u32 (r:Nat)])=some v':=rfl
  have x1:zD 1 (.tup [v',.int .u32 (r:Nat)])=some (.int .u32 (r:Nat)):=rfl
  simp only[x0,x1,sA,qB];intro n hn hbase;obtain⟨H1,c1',c2,c3⟩:=zmv (k:=.u32) vL rfl zG rfl rfl r trivial hn
  rw[c1',sA];intro n2 hn2 hbase2;have b3:bF (.sz 1) yA.base tf2 H1.t 1 (sB .u32 ps) v4:=b2.keep' fun b hb=>by
   obtain⟨_,_,y,hy⟩:=b2.none hb
   rw[c3 _ _ hy,hy]
  obtain⟨t4,d1,d2,d3,d4⟩:=zeb el200 co202 b3 (c2.all (cap:=1) (ybk _)) (by simp) (by simp;omega) hn2 hbase2 (b1.trans c3)
  simp only[List.length_singleton]at d1 d2;simp only[];rw[d1,sA];refine ih (pE q) (ps++[r]) _ _ tf2 t4 ?_ ?_ (vP _) (eP a3) ?_ ?_ ?_ ?_ (h9.trans (g1.trans a1)) d3 ?_ a2
  ·rw[xM]
   rw[yag]at h1;exact Nat.lt_of_mul_lt_mul_right (a:=1000000000) (by omega)
  ·simp;omega
  ·have:=zcj q;omega
  ·exact zk3 h6 fun x hx=>by simp at hx;omega
  ·intro hs
   refine⟨by simp,?_⟩
   have hq:val 4294967296 q=0:=by rw[<- xM,hs];rfl
   have e0:(ps++[r]).getLast?=some r:=by simp
   rw[e0];intro e
   cases e
   omega
  ·rw[xM,nS,ybg]
   simp only[val,ybn,ybx,ybw,yat,yct];rw[<- h8,a6,yag,ybo,ybj,ybh (1000000000^ps.length) 1000000000,ybh (1000000000^ps.length) r]
   omega
  ·simpa using d2
end Go.Proofs
namespace Go.Proofs
open Go Go.Am
section
variable [jC]
variable {t tf:Tr qA}{bx:Nat}{s m:List Nat}
def TX (tf t:Tr qA)(bx:Nat)(s:List Nat):Prop:=yA.base<=bx/\tf.get bx=none/\dA tf t/\∃tv,vD t bx none [tv]/\bF (.ty 5) yA.base tf t 1 (sB .u8 s) tv/\¬ pJ tv bx
def TX.both(h:TX tf t bx s){n:Nat}(hn:t.get n=none)(y:qA):TX (tf.set n y) (t.set n y) bx s:=by
 obtain⟨h1,h2,h3,tv,h4,h5,h6⟩:=h
 have hbx:bx≠n:=by intro e;obtain⟨c,h,_⟩:=h4;rw[e,hn]at h;cases h
 refine⟨h1,by rw[Tr.get_set,yaa hbx];exact h2,zor hn h3,tv,h4.off (by rw[Tr.get_set,yaa hbx]),?_,h6⟩
 have hb:∀b,pJ tv b->b≠n:=fun b hb e=>zr9 h5 hb (e ▸ hn)
 rcases h5 with⟨rfl,h5⟩ | ⟨b,cl,c,rfl,k0,k1,k2,k3,k4⟩
 ·exact .inl ⟨rfl,h5⟩
 ·have hbn:=hb b (oP.2 rfl)
  exact .inr ⟨b,cl,c,rfl,k0,by rw[Tr.get_set,yaa hbn];exact k1,by rw[Tr.get_set,yaa hbn];exact k2,k3,oC.mono (fun c u hc=>by
   have:c≠n:=fun e=>by rw[e,zhi h3 hn]at hc;cases hc
   rw[Tr.get_set,yaa this];exact hc) _ _ k4⟩
def TX.out{n:Nat}{y:qA}(hn:tf.get n=none)(h:TX (tf.set n y) t bx s):TX tf (t.del n) bx s:=by
 obtain⟨h1,h2,h3,tv,h4,h5,h6⟩:=h
 have hbx:bx≠n:=by intro e;rw[e,Tr.get_set,yab rfl]at h2;cases h2
 have hle:dA tf (tf.set n y):=(fI hn y).1
 rw[Tr.get_set,yaa hbx]at h2;refine⟨h1,h2,fun c u hc=>?_,tv,h4.off (by rw[Tr.get_del,yaa hbx]),?_,h6⟩
 ·have:c≠n:=fun e=>by rw[e,hn]at hc;cases hc
  rw[Tr.get_del,yaa this];exact h3 _ _ (hle _ _ hc)
 ·rcases h5 with⟨rfl,h5⟩ | ⟨b,cl,c,rfl,k0,k1,k2,k3,k4⟩
  ·exact .inl ⟨rfl,h5⟩
  ·have hbn:b≠n:=by intro e;rw[e,Tr.get_set,yab rfl]at k1;cases k1
   refine .inr ⟨b,cl,c,rfl,k0,by rw[Tr.get_set,yaa hbn]at k1;exact k1,by rw[Tr.get_del,yaa hbn];exact k2,k3,?_⟩
   rw[tS]at k4 ⊢;exact k4
def TX.load(h:TX tf t bx s):∃tv,mA yA 32 ⟨0,t⟩ (.ptr bx 0)=some tv/\vD t bx none [tv]/\bF (.ty 5) yA.base tf t 1 (sB .u8 s) tv/\¬ pJ tv bx:=by
 obtain⟨h1,h2,h3,tv,h4,h5,h6⟩:=h
 exact⟨tv,h4.load1 zt5 rfl rfl,h4,h5,h6⟩
def TX.put{t1:Tr qA}{n k:Nat}{tv:zA}(hb:yA.base<=bx)(hf:tf.get bx=none)(hc:vD t1 bx none [tv])(hl:bF (.ty 5) yA.base tf t1 1 (sB .u8 s) (.slice n 0 k k))(hle:dA tf t1)(hn:n≠bx) :
  ∃t2,(∀n',sC yA 32 (.ptr bx 0) (.slice n 0 k k) ⟨n',t1⟩=some (tD,⟨n',t2⟩))/\TX tf t2 bx s:=by
 obtain⟨t2,g1,g2,g3⟩:=hc.store1 (v:=.slice n 0 k k) hb zt5 rfl rfl rfl (j:=0) (by simp)
 refine⟨t2,g1,hb,hf,hle.off hf g3,_,g2,hl.keep' fun b hb'=>g3 b fun e=>?_,fun e=>?_⟩
 ·rw[oP]at hb';exact hn (hb'.symm.trans e)
 ·rw[oP]at e;exact hn e.symm
def TX.add(h:TX tf t bx s)(hm:m≠[])(hl:s.length+m.length<400000):∃tv,mA yA 32 ⟨0,t⟩ (.ptr bx 0)=some tv/\∀n,t.get n=none->yA.base<=n →
  ∃w t1 t2,bE yA 32 9 tv (.str m) ⟨n,t⟩=some (w,⟨n+1,t1⟩)/\(∀n',sC yA 32 (.ptr bx 0) w ⟨n',t1⟩=some (tD,⟨n',t2⟩))/\TX tf t2 bx (s++m):=by
 obtain⟨tv,h1,h2,h3,h4⟩:=h.load
 refine⟨tv,h1,fun n hn hbase=>?_⟩
 have hbn:n≠bx:=by intro e;obtain⟨c,hh,_⟩:=h2;rw[<- e,hn]at hh;cases hh
 obtain⟨t1,g1,g2,g3,g4⟩:=zgh el32 ⟨_,ty9,rfl⟩ co5 h3 hm hl hn hbase h.2.2.1
 obtain⟨t2,g5,g6⟩:=TX.put h.1 h.2.1 (h2.off (g4 bx hbn.symm h4)) g2 g3 hbn
 exact⟨_,t1,t2,g1,g5,g6⟩
def TX.byte(h:TX tf t bx s)(x:Nat)(hl:s.length+1<400000):∃tv,mA yA 32 ⟨0,t⟩ (.ptr bx 0)=some tv/\∀n,t.get n=none->yA.base<=n →
  ∃H1,dG yA 32 1 [(0,.int .u8 (x:Int))] ⟨n,t⟩=some (.slice n 0 1 1,H1)/\∀n2,H1.t.get n2=none->yA.base<=n2 →
   ∃w t1 t2,bE yA 32 32 tv (.slice n 0 1 1) ⟨n2,H1.t⟩=some (w,⟨n2+1,t1⟩)/\(∀n',sC yA 32 (.ptr bx 0) w ⟨n',t1⟩=some (tD,⟨n',t2⟩))/\TX tf t2 bx (s++[x]):=by
 obtain⟨tv,h1,h2,h3,h4⟩:=h.load
 refine⟨tv,h1,fun n hn hbase=>?_⟩
 obtain⟨H1,c1,c2,c3⟩:=zmv (k:=.u8) zt5 rfl ty5 rfl rfl x trivial hn
 refine⟨H1,c1,fun n2 hn2 hbase2=>?_⟩
 have hcel:vD H1.t bx none [tv]:=h2.off (by
  obtain⟨c,hh,_⟩:=h2
  rw[c3 _ _ hh,hh])
 have hbn:n2≠bx:=by intro e;obtain⟨c,hh,_⟩:=hcel;rw[<- e,hn2]at hh;cases hh
 have h3':bF (.ty 5) yA.base tf H1.t 1 (sB .u8 s) tv:=h3.keep' fun b hb=>by
  obtain⟨_,_,y,hy⟩:=h3.none hb
  rw[c3 _ _ hy,hy]
 obtain⟨t1,g1,g2,g3,g4⟩:=zeb el32 co5 h3' (c2.all (cap:=1) (ybk _)) (by simp) (by simpa using hl) hn2 hbase2 (h.2.2.1.trans c3)
 simp only[List.length_singleton]at g1 g2;obtain⟨t2,g5,g6⟩:=TX.put h.1 h.2.1 (hcel.off (g4 bx hbn.symm h4)) g2 g3 hbn
 exact⟨_,t1,t2,g1,g5,g6⟩
def z0s{Q:bB}{c:Nat}(hm:m≠[])(hc:c<100)(hml:m.length<100):∀(k i:Nat) (s:List Nat) (t:Tr qA),i+k=c->s.length+k+m.length<400000->TX tf t bx s->(∀t',TX tf t' bx (s++(List.replicate k 48++m))->Q (.bool true) t') →
  jp 117 10 [.ptr bx 0,.str m,.int .i64 (c:Int),.int .i64 (i:Int)] t Q:=by
 intro k;induction k with
 | zero=>
  intro i s t hi hl h hQ;refine zxc _ _ _ _ ?_
  simp only[zls,pA,iD];rw[yaa (by omega)]
  obtain⟨tv,g1,g2⟩:=h.add hm (by omega)
  rw[g1,sA];intro n hn hbase;obtain⟨w,t1,t2,g3,g4,g5⟩:=g2 n hn hbase
  rw[g3,sA];intro n2 _ _;rw[g4,sA];exact hQ _ (by simpa using g5)
 | succ k ih=>
  intro i s t hi hl h hQ;refine zxc _ _ _ _ ?_
  simp only[zls,pA,iD];rw[yab (by omega)]
  obtain⟨tv,g1,g2⟩:=h.byte 48 (by omega)
  rw[g1,sA];intro n hn hbase;obtain⟨H1,g3,g4⟩:=g2 n hn hbase
  rw[show((48:Nat):Int)=48 from rfl]at g3
  rw[g3,sA];intro n2 hn2 hbase2;obtain⟨w,t1,t2,g5,g6,g7⟩:=g4 n2 hn2 hbase2
  simp only[];rw[g5,sA];intro n3 _ _;rw[g6,sA];rw[wrap_i64 (by omega) (by omega),show(i:Int)+1=((i+1:Nat):Int) by omega]
  refine ih (i+1) (s++[48]) t2 (by omega) (by simp;omega) g7 fun t' h'=>hQ t' ?_
  rw[ybz]at h'
  rw[List.replicate_succ];exact h'
def z44{u:Nat}(h:u<18446744073709551616):wC yA F 154 [.int .u64 (u:Int),.int .i64 10] t=some (.str (fF u)):=by
 have hg:yA.prims.get 154=some (tK zvv):=by kernel_rfl
 refine zha hg fun H=>?_
 show jA (sD 0 (u:Int)&&vC (u:Int) 18446744073709551616&&uB 10 10) (some (zA.str (cI (u:Int))))=_
 rw[zdp,jG.2 (by omega),iD.2 (by omega)]
 rfl
def zee(s:List Nat)(x:Nat):List Nat:=if s=[]\/s=[45]then s++fF x else s++zo6 9 x
def z7b{Q:bB}{x:Nat}(h:TX tf t bx s)(hx:x<1000000000)(hs:s.length<300000)(hlt:tB 256 s)(hQ:∀t',TX tf t' bx (zee s x)->Q (.bool true) t'):jp 117 6 [.ptr bx 0,.int .u32 (x:Int)] t Q:=by
 have hd:=zby x
 have hd9:(fF x).length<=9:=zd2 (by decide) (by omega)
 have hne:fF x≠[]:=fun e=>by rw[e]at hd;simp at hd
 have hpad:s≠[]->s≠[45]->jp 117 10 [.ptr bx 0,.str (fF x),.int .i64 (tA .i64 (9-Int.ofNat (aA (fF x)))),.int .i64 0] t Q:=by
  intro h1 h2;have e:tA .i64 (9-Int.ofNat (aA (fF x)))=((9-(fF x).length:Nat):Int):=by
   rw[gC,wrap_i64 (by simp;omega) (by simp;omega)]
   show 9-((fF x).length:Int)=_
   omega
  rw[e];refine z0s hne (by omega) (by omega) _ 0 s t (ybw _) (by omega) h fun t' h'=>hQ t' ?_
  unfold zee;rw[yaa (by rintro(h | h);exact h1 h;exact h2 h),z5p (by decide) (by simpa using hx)]
  exact h'
 have hadd:s=[]\/s=[45]->∃tv,mA yA 32 ⟨0,t⟩ (.ptr bx 0)=some tv/\∀b,t.get b=none->yA.base<=b->cD (bE yA 32 9 tv (.str (fF x)) ⟨b,t⟩) fun p=>∀b,p.2.t.get b=none->yA.base<=b->cD (sC yA 32 (.ptr bx 0) p.1 ⟨b,p.2.t⟩) fun p=>Q (.bool true) p.2.t:=by
  intro hs';obtain⟨tv,g1,g2⟩:=h.add hne (by omega)
  refine⟨tv,g1,fun n hn hbase=>?_⟩
  obtain⟨w,t1,t2,g3,g4,g5⟩:=g2 n hn hbase
  rw[g3,sA];intro n2 _ _;rw[g4,sA];refine hQ _ ?_
  unfold zee;rw[yab hs'];exact g5
 obtain⟨tv,l1,l2,l3,l4⟩:=h.load
 refine j117_6 _ _ ?_
 simp only[z3q,pA,q154];rw[gE (by omega) (by omega),z44 (by omega),sA]
 simp only[zA.asStr,sA,l1,l3.len,qB,iE,iD,xI];by_cases h1:1<s.length
 ·rw[yab (by omega)]
  exact hpad (by intro e;rw[e]at h1;simp at h1) (by intro e;rw[e]at h1;simp at h1)
 ·rw[yaa (by omega)]
  by_cases h2:s.length=1
  ·rw[yab (by omega)]
   obtain⟨y,rfl⟩:=List.length_eq_one_iff.1 h2
   have hr:=l3.read (by rfl) h.2.2.1
   obtain⟨b,off,k1,k2⟩:=hr.idx sl32 (i:=0) (x:=y) rfl
   rw[show((0:Nat):Int)=0 from rfl]at k1
   simp only[k1,sA,k2,qB];by_cases h3:y=45
   ·subst h3
    rw[yaa (by simp[lP])]
    obtain⟨tv',g1,g2⟩:=hadd (.inr rfl)
    rw[l1]at g1;cases g1
    exact g2
   ·rw[yab (by simp[lP];omega)]
    exact hpad (by simp) (by simpa using h3)
  ·rw[yaa (by omega)]
   have hs0:s=[]:=ycc.1 (by omega)
   obtain⟨tv',g1,g2⟩:=hadd (.inl hs0)
   rw[l1]at g1;cases g1
   exact g2
end
section
variable [jC]
variable {t tf:Tr qA}{bx:Nat}{s m:List Nat}
def zk6{sg:List Nat}(hsg:sg=[]\/sg=[45]){x:Nat}{l:List Nat}:zee (sg++uH l) x=sg++uH (x::l):=by
 unfold zee
 cases l with
 | nil=>
  rw[yab (by simpa[uH]using hsg)]
  simp[uH]
 | cons p l=>
  have hne:uH (p::l)≠[]:=by
   cases l with
   | nil=>intro e;have:=zby p;rw[show uH [p]=fF p from rfl]at e;rw[e]at this;simp at this
   | cons q l=>
    intro e;have:=congrArg List.length e
    rw[uH,ybg,zhd]at this;simp at this
  rw[yaa,uH,ybz];rintro(h | h)
  ·rw[List.append_eq_nil_iff]at h;exact hne h.2
  ·rcases hsg with rfl | rfl
   ·rw[yah]at h
    have:=eY (p::l) 45 (by rw[h];exact .head _)
    omega
   ·rw[List.append_eq_cons_iff]at h
    rcases h with⟨h,_⟩ | ⟨a,h,h2⟩
    ·cases h
    ·cases h
     have:uH (p::l)=[]:=by
      cases hx:uH (p::l)with
      | nil=>rfl
      | cons a b=>rw[hx]at h2;simp at h2
     exact hne this
def ziw:∀(l:List Nat),(∀x∈l,x<1000000000)->(uH l).length<=9*l.length
 | [],_=>by simp[uH]
 | [p],h=>by
  have:=zd2 (u:=p) (k:=9) (by decide) (by simpa using h p (.head _))
  simp[uH];omega
 | p::q::l,h=>by
  have:=ziw (q::l) fun x hx=>h x (.tail _ hx)
  rw[uH,ybg,zhd];simp at this ⊢;omega
def zgj{sg l:List Nat}(hsg:sg=[]\/sg=[45]):tB 256 (sg++uH l):=by
 intro x hx;rcases yaf.1 hx with hx | hx
 ·rcases hsg with rfl | rfl
  ·cases hx
  ·simp at hx;omega
 ·have:=eY _ x hx;omega
def TX.framed{bx:Nat}{s:List Nat}:zzg (fun tf t=>TX tf t bx s) where
 le:=fun h=>h.2.2.1
 both:=fun h hn y=>h.both hn y
 out:=fun hn h=>TX.out hn h
def z3e{Q:bB}{t0:Tr qA}{ps:List Nat}{v4:zA}{sg:List Nat}(hsg:sg=[]\/sg=[45])(h0:dA t0 tf)(hp:lA tf 1 (sB .u32 ps) v4)(hlt:tB 1000000000 ps)(hl:ps.length<30000)(h:TX tf t bx sg)
  (hQ:∀t',dA t0 t'->Q (.tup [.str (sg++uH ps),.int .i64 0]) t'):jp 117 29 [.str [],.int .i64 0,v4,.ptr bx 0] t Q:=by
 refine z6c _ _ _ _ ?_
 unfold zu0;refine zfl (S:=fun k tf t=>TX tf t bx (sg++uH (ps.drop k))) (fun k=>TX.framed) hp hl (by rw[List.drop_length];simpa[uH]using h) ?_ ?_
 ·intro k x tf t' Q1 hx hI hQ1
  have hk:k<ps.length:=(ybc.1 hx).1
  have hxl:x<1000000000:=hlt x (ycv hx)
  have hdrop:ps.drop k=x::ps.drop (k+1):=by
   rw[ybl hk];congr 1
   rw[ybd hk]at hx;exact yci hx
  have hlen:(sg++uH (ps.drop (k+1))).length<300000:=by
   have:=ziw (ps.drop (k+1)) fun y hy=>hlt y (List.mem_of_mem_drop hy)
   rw[ybg];rw[ydj]at this;have:sg.length<=1:=by rcases hsg with rfl | rfl<;>simp
   omega
  refine z7b hI hxl hlen (zgj hsg) fun t2 h3=>hQ1 _ ?_
  rw[zk6 hsg,<- hdrop]at h3;exact h3
 ·intro tf' t' hle h3
  rw[ycr]at h3;obtain⟨tv,g1,_,g3,_⟩:=h3.load
  show cD (mA yA 32 ⟨0,t'⟩ (.ptr bx 0)) _
  rw[g1,sA];show cD (xK yA 32 9 ⟨0,t'⟩ tv) _
  rw[z2n zt5 ty9 rfl rfl rfl ty5 rfl (g3.read (by rfl) h3.2.2.1) (zgj hsg),sA]
  exact hQ _ (h0.trans (hle.trans h3.2.2.1))
def zb8(neg:Bool)(l:List Nat):List Nat:=intN neg (val 65536 l)
set_option exponentiation.threshold 2000 in
def zue{neg:Bool}{l:List Nat}{v:zA}(hv:lA t 1 (sB .u16 l) v)(hlt:tB 65536 l)(hval:gI neg l=true):wC yA F 117 [.agg [.bool neg,v]] t=some (.tup [.str (zb8 neg l),.int .i64 0]):=by
 have hlen:l.length<=1024:=by
  unfold gI at hval;split at hval
  ·rename_i e;rw[e];simp
  ·simp at hval;exact hval.1
 refine zen (w117 _ _ ?_)
 simp only[t117,pA,q148];rw[zbh (by omega) hv,hval]
 simp only[zA.asBool,sA,Bool.not_true,ybq,if_false,hv.len,iE,qB,xI];by_cases h0:l=[]
 ·subst h0
  rw[yab (by simp)]
  have hn:neg=false:=by unfold gI at hval;simpa using hval
  subst hn;refine⟨?_,fun _ _ h=>h⟩
  unfold zb8 intN;simp[val,xY]
 ·have hpos:0<l.length:=List.length_pos_iff.2 h0
  rw[yaa (by omega),q151]
  refine zmf hv (by omega) hlt fun t1 v1 hle hv1=>?_
  have hlast:l.getLast?≠some 0:=by
   unfold gI at hval;rw[yaa h0]at hval;simp at hval;exact hval.2
  have hnorm:norm l:=fun hne e2=>hlast (by rw[List.getLast?_eq_some_getLast hne,e2])
  have hN:val 4294967296 (uF l)=val 65536 l:=zcb l
  have hvpos:0<val 65536 l:=by
   rcases yav (val 65536 l)with e | e
   ·exfalso
    exact h0 (nX (B:=65536) (by decide) hnorm e)
   ·exact e
  have hple:(uF l).length<=512:=by rw[wN];omega
  have hbnd:val 4294967296 (uF l)<1000000000^1100:=by
   have g1:=yK (B:=4294967296) (by decide) (jW hlt)
   have g2:4294967296^(uF l).length<=4294967296^512:=yao (by decide) hple
   have g3:(4294967296:Nat)^512<=1000000000^1100:=by
    have:(4294967296:Nat)<=1000000000^2:=by decide
    calc (4294967296:Nat)^512<=(1000000000^2)^512:=Nat.pow_le_pow_left this 512
     _=1000000000^1024:=by rw[<- Nat.pow_mul]
     _<=1000000000^1100:=yao (by decide) (by decide)
   omega
  refine zrs (t0:=t1) (N:=val 65536 l) (M:=1100) (by decide) ?_ 1100 (uF l) [] .nilslice v1 t1 t1 hbnd (by simp) (oX hnorm) (jW hlt) (by omega) (fun x hx=>by cases hx) ?_ (by simp[val,hN]) (dA.refl _) (dA.refl _) zjt hv1
  ·intro tf t' ps v4 v5 k1 k2 k3 k4 k5 k6 k7 k8 k9
   refine z4i _ _ _ _ _ _ ?_
   simp only[zu1,pA,(k4.mono k2).len,sA,qB,iE,iD,ybx]
   rw[yaa (by simp)]
   obtain⟨tf',f1,f2,f3,f4⟩:=k3.freeze rfl k2
   have hpl:ps.length<30000:=by omega
   intro bx hbx hbase;obtain⟨t2,e1,e2,e3,e4⟩:=iT (C:=yA) zt5 hbx
   rw[e1,sA];have hTX:TX tf' t2 bx []:=⟨hbase,zhi f2 hbx,f2.trans e3,.nilslice,e2,zjt,zdq⟩
   have ht:dA t tf':=hle.trans (k1.trans f1)
   have htext:uH ps=fF (val 65536 l):=by rw[<- k8];exact(zog k6 k5 k7).1
   cases neg with
   | false=>
    simp only[ybq,if_false];refine z3e (.inl rfl) ht f3 k5 hpl hTX fun t' ht'=>⟨?_,ht'⟩
    rw[htext];rfl
   | true=>
    simp only[if_true];obtain⟨tv,g1,g2⟩:=hTX.byte 45 (by simp)
    rw[g1,sA];intro n hn hbn;obtain⟨H1,g3,g4⟩:=g2 n hn hbn
    rw[show((45:Nat):Int)=45 from rfl]at g3
    rw[g3,sA];intro n2 hn2 hbn2;obtain⟨w,t3,t4,g5,g6,g7⟩:=g4 n2 hn2 hbn2
    simp only[];rw[g5,sA];intro n3 _ _;rw[g6,sA];refine z3e (.inr rfl) ht f3 k5 hpl g7 fun t' ht'=>⟨?_,ht'⟩
    rw[htext];rfl
  ·intro e
   exfalso
   have:=congrArg List.length e
   rw[wN]at this;simp at this;omega
end
section
variable [jC]
variable {t:Tr qA}
def z2c{A lu lv Z:List Nat}{v:zA}{b cap m:Nat}{t0 t':Tr qA}{Q:bB}(hv:lA t0 1 (sB .u32 lv) v)(hl:lv.length=m+2)(hm:m<800000)(hlv:tB BB lv)(hbase:yA.base<=b)(hb:t0.get b=none)(hlul:lu.length=m+3)(hlu:tB BB lu)(hcap:m+3<=cap)
  (htop:∀top,lv[m+1]?=some top->2147483648<=top) (hlt:val BB lu<BB*val BB lv) (ht:dA t0 t') (hoff:lD b t t') (ho:yF t' b .u32 (A++lu++Z))
  (hQ:∀t2 r,dA t0 t2->lD b t t2->yF t2 b .u32 (A++(r++[0])++Z)->r.length=m+2->tB BB r->val BB r=val BB lu%val BB lv->val BB lu / val BB lv<BB->Q (.int .u32 ((val BB lu / val BB lv:Nat):Int)) t2) :
  Wc yA F 216 [.slice b A.length (m+3) cap,v] t' Q:=by
 obtain⟨top,h1⟩:=getElem?_of_lt (l:=lv) (i:=m+1) (by omega)
 obtain⟨v2,h2⟩:=getElem?_of_lt (l:=lv) (i:=m) (by omega)
 obtain⟨un,h3⟩:=getElem?_of_lt (l:=lu) (i:=m+2) (by omega)
 obtain⟨u1,h4⟩:=getElem?_of_lt (l:=lu) (i:=m+1) (by omega)
 obtain⟨u2,h5⟩:=getElem?_of_lt (l:=lu) (i:=m) (by omega)
 have b1:top<BB:=aH hlv h1
 have b2:v2<BB:=aH hlv h2
 have b3:un<BB:=aH hlu h3
 have b4:u1<BB:=aH hlu h4
 have b5:u2<BB:=aH hlu h5
 have hBB:=aJ
 have c1:top<4294967296:=by omega
 have c3:un<4294967296:=by omega
 have c4:u1<4294967296:=by omega
 have htop2:=htop top h1
 obtain⟨hV,hvr⟩:=top2 (B:=BB) mG hlv hl h1 h2
 obtain⟨hU,hur⟩:=top3 (B:=BB) mG hlu hlul h3 h4 h5
 have hVpos:0<val BB lv:=by
  have:0<(top*BB+v2)*BB^m:=Nat.mul_pos (by have:0<top*BB:=Nat.mul_pos (by omega) mG;omega) (Nat.pow_pos mG)
  omega
 have hq:val BB lu / val BB lv<BB:=ycu (by rw[ybh];exact hlt)
 have hread:lA t' 1 (sB .u32 lu) (.slice b A.length (m+3) cap):=by
  have:=ho.slice (off:=A.length) (n:=m+3) (cap:=cap) (by simp;omega) hcap
  rw[ybz,List.drop_left,List.take_left' hlul]at this;exact this
 have hv':=hv.mono ht
 obtain⟨d1,o1,g1,g1'⟩:=hread.idx qF h3
 obtain⟨d2,o2,g2,g2'⟩:=hread.idx qF h4
 obtain⟨d3,o3,g3,g3'⟩:=hv'.idx qF h1
 have hun:un<=top:=by
  rcases yau top un with g | g
  ·exfalso
   have e1:(un*BB)*BB*BB^m<=val BB lu:=by rw[hU,ybo,ybo,ybo];omega
   have e2:val BB lv<(top+1)*BB*BB^m:=by
    have h:top*BB+v2+1<=(top+1)*BB:=by rw[ybo];omega
    have:=ybi (BB^m) h
    rw[ybo (top*BB+v2) 1,Nat.one_mul]at this
    omega
   have e3:BB*val BB lv<BB*((top+1)*BB*BB^m):=Nat.mul_lt_mul_of_pos_left e2 mG
   have e4:BB*((top+1)*BB*BB^m)<=un*BB*BB*BB^m:=by
    have:(top+1)*BB*BB^m<=un*BB*BB^m:=ybi _ (ybi _ g)
    have:=ybv BB this
    calc BB*((top+1)*BB*BB^m)<=BB*(un*BB*BB^m):=this
     _=un*BB*BB*BB^m:=by rw[<- ybj,ybh BB (un*BB)]
   omega
  ·exact g
 have hh:un*BB+u1<=top*BB+(BB-1):=by
  have:=ybi BB hun
  omega
 have hge:val BB lu / val BB lv<=(un*BB+u1) / top:=kn_ge hU hur b5 hV (by omega)
 have hdle:(un*BB+u1) / top<=BB+1:=by
  have:un*BB+u1<(BB+2)*top:=by
   rw[ybo,ybh BB top];generalize top*BB=P at hh ⊢
   generalize un*BB=R at hh ⊢
   omega
  have:=ycu (show un*BB+u1<top*(BB+2) by rw[ybh top];exact this)
  omega
 have hrest:(un*BB+u1)%top<BB:=Nat.lt_trans (ycy _ (by omega)) b1
 refine w216 _ _ ?_
 have e1:((lv.length:Nat):Int)=((m+2:Nat):Int):=by rw[hl]
 have e2:((m+2:Nat):Int)-1=((m+1:Nat):Int):=by omega
 have e3:(un:Int)*4294967296=((un*4294967296:Nat):Int):=by omega
 simp (disch:=omega) only[t216,pA,hv'.len,sA,qB,iE,e1,g1,g1',e2,wrap_i64,g2,g2',g3,g3',gE,e3]
 have e4:zH Nat.lor .u64 ((un*4294967296:Nat):Int) (u1:Int)=some (.int .u64 ((un*4294967296+u1:Nat):Int)):=by
  rw[oO (k:=.u64) (show un*4294967296<nF .u64 by show _<18446744073709551616;omega) (show u1<nF .u64 by show _<18446744073709551616;omega)]
  have:=zfc (a:=un) (b:=u1) (n:=32) c4
  rw[show un*4294967296=un*2^32 by rfl,this]
 rw[e4];simp only[sA,qB];have e5:z1r .u64 ((un*4294967296+u1:Nat):Int) (top:Int)=some (.int .u64 (((un*4294967296+u1) / top:Nat):Int)):=zhq (by omega) (by
  have h:(un*4294967296+u1) / top<=4294967296+1:=by rw[hBB]at hdle;exact hdle
  generalize (un*4294967296+u1) / top=z at h ⊢
  exact gE (by omega) (by omega))
 rw[e5];simp only[sA,qB];rw[tW (by omega)]
 simp only[sA,qB];refine zsb hread hv' (by omega) h5 h2 b5 b2 (by omega) b1 hU hur hV hvr hq hh (fun d q1 q2 q3=>?_) _ _ ?_ (by rw[hBB]at hge ⊢;exact hge) (by rw[hBB]at hdle ⊢;exact hdle) (by rw[hBB]at hrest ⊢;exact hrest)
 ·refine z58 _ _ _ _ ?_
  simp only[zum,pA,hv'.len,sA,qB,iE,e1];have hms:=zmo (t:=t) (A:=A) (Z:=Z) (lu:=lu) (lv:=lv) (v:=v) (b:=b) (cap:=cap) (d:=d) (t0:=t0) (Q:=Q) hv (by omega) hlv hbase hb q3 (by omega) hlu (by omega) ?_ lv.length 0 0 0 t' [] (by omega) ht hoff (by simpa using ho) rfl (fun x hx=>by cases hx) (by first | omega | decide) (by first | omega | decide) (by simp[val])
  ·rw[hl]at hms
   exact hms
  ·intro t2 W last bo k1 k2 k3 k4 k5 k6 k7 k8
   have hWall:val BB (W++[last])<BB^(lv.length+1):=by
    have:=yK (B:=BB) mG (xS k5 k6)
    simp only[ybg,ybn,ybx,k4]at this;exact this
   have hVlt:val BB lv<BB^lv.length:=yK mG hlv
   have hdm:=ych (val BB lu) (val BB lv)
   have hmod:val BB lu%val BB lv<val BB lv:=ycy _ hVpos
   have hWs:val BB (W++[last])=val BB W+BB^lv.length*last:=by rw[gK,k4]
   split
   ·rename_i hz
    subst hz;rw[yat,yct]at k8;have hd:d=val BB lu / val BB lv:=by
     refine Nat.le_antisymm ?_ q1
     rw[Nat.le_div_iff_mul_le hVpos];omega
    have hr:val BB (W++[last])=val BB lu%val BB lv:=by
     rw[hd,ybh]at k8;omega
    have hlast:last=0:=by
     rcases yav last with g | g
     ·exact g
     ·exfalso
      have:=ybv (BB^lv.length) g
      rw[Nat.mul_one]at this;omega
    subst hlast;rw[hd];exact hQ t2 W k1 k2 k3 (by omega) k5 (by rw[<- hr,hWs];simp) hq
   ·rename_i hz
    have hbo:bo=1:=by omega
    subst hbo;rw[Nat.mul_one]at k8;have hd:d=val BB lu / val BB lv+1:=by
     refine Nat.le_antisymm q2 ?_
     rcases yau (val BB lu / val BB lv) d with g | g
     ·exact g
     ·exfalso
      have:d*val BB lv<=val BB lu:=Nat.le_trans (ybi _ g) (Nat.div_mul_le_self _ _)
      omega
    have hk9:val BB (W++[last])+val BB lv=val BB lu%val BB lv+BB^(lv.length+1):=by
     rw[hd,ybo,Nat.one_mul,ybh (val BB lu / val BB lv)]at k8
     omega
    refine zk5 (t:=t) (A:=A) (Z:=Z) (t0:=t0) hv (by omega) hlv hbase hb (by rw[hd];exact Nat.succ_pos _) (by omega) W k4 k5 last k6 (by omega) (fun t3 r up n1 n2 n3 n4 n5 n6=>?_) lv.length 0 0 t2 [] (by omega) k1 k2 (by simpa using k3) rfl (fun x hx=>by cases hx) (by first | omega | decide) (by simp[val])
    have hrlt:val BB r<BB^lv.length:=by
     have:=yK (B:=BB) mG n4;rw[n3]at this;exact this
    rw[hWs,yag]at hk9;have hfin:val BB r+BB^lv.length*(up+last)=val BB lu%val BB lv+BB^lv.length*BB:=by
     rw[ybm];omega
    have hsplit:up+last=BB/\val BB r=val BB lu%val BB lv:=by
     have hmlt:val BB lu%val BB lv<BB^lv.length:=by omega
     have hB:0<BB^lv.length:=by omega
     have e1:(val BB r+BB^lv.length*(up+last)) / BB^lv.length=up+last:=by rw[Nat.add_mul_div_left _ _ hB,Nat.div_eq_of_lt hrlt];simp
     have e2:(val BB lu%val BB lv+BB^lv.length*BB) / BB^lv.length=BB:=by rw[Nat.add_mul_div_left _ _ hB,Nat.div_eq_of_lt hmlt];simp
     rw[hfin,e2]at e1;refine⟨e1.symm,?_⟩
     rw[<- e1]at hfin;omega
    have hl0:(last+up)%BB=0:=by rw[yap,hsplit.1];exact Nat.mod_self _
    rw[hl0]at n2;have hd1:d-1=val BB lu / val BB lv:=by rw[hd];exact Nat.add_sub_cancel _ _
    rw[hd1];exact hQ t3 r (k1.off hb (fun c hc=>by
     rw[n1 c hc,<- k2 c hc])) n1 n2 (by omega) n4 hsplit.2 hq
 ·rw[ybh,hBB];exact ych _ _
end
end Go.Proofs
namespace Go.Am
def zio{B p K:Nat}(hB:B=p*K)(hp:0<p)(hK:0<K){x y:Nat}{l:List Nat}(hx:x<B) :
  val B (x::y::l) / p=(y*B+x) / p%B+B*(val B (y::l) / p):=by
 have e1:val B (x::y::l)=x+p*(K*val B (y::l)):=by
  show x+B*val B (y::l)=_
  rw[hB,ybj]
 have e2:y*B+x=x+p*(K*y):=by rw[hB,yap,ybh y,ybj]
 have e3:val B (y::l)%p=y%p:=by
  show(y+B*val B l)%p=_
  rw[hB,ybj,Nat.add_mul_mod_self_left]
 have e4:K*y=K*(y%p)+B*(y / p):=by
  have:=ych y p
  calc K*y=K*(p*(y / p)+y%p):=by rw[this]
   _=_:=by rw[ybm,hB,ybh p K,ybj,yap]
 have e5:K*val B (y::l)=K*(y%p)+B*(val B (y::l) / p):=by
  have:=ych (val B (y::l)) p
  calc K*val B (y::l)=K*(p*(val B (y::l) / p)+val B (y::l)%p):=by rw[this]
   _=_:=by rw[ybm,e3,hB,ybh p K,ybj,yap]
 have e6:x / p<K:=ycu (by rw[<- hB];exact hx)
 have e7:x / p+K*(y%p)<B:=by
  have h1:y%p<p:=ycy _ hp
  have h2:K*(y%p+1)<=K*p:=ybv _ h1
  rw[hB,ybh p K];rw[ybm,Nat.mul_one]at h2;omega
 rw[e1,Nat.add_mul_div_left _ _ hp,e2,Nat.add_mul_div_left _ _ hp,e4,<- Nat.add_assoc,Nat.add_mul_mod_self_left,Nat.mod_eq_of_lt e7,e5,<- Nat.add_assoc]
end Go.Am
namespace Go.Proofs
open Go Go.Am
variable [jC]
variable {t:Tr qA}
def zu5{l:List Nat}{b L lo hi:Nat}(ho:yF t b .u32 l)(h1:lo<=hi)(h2:hi<=L)(h3:lo<L) :
  gF yA 200 ⟨0,t⟩ (.slice b 0 L L) (some (.int .i64 (lo:Int))) (some (.int .i64 (hi:Int)))=some (.slice b lo (hi-lo) (L-lo)):=by
 obtain⟨c,hg,_⟩:=ho
 obtain⟨⟨y,hy1,hy2⟩,⟨z,hz1,hz2,hz3⟩⟩:=qF
 unfold gF;rw[hy1,vA];have hb:∀y (k:Nat),iQ y (.int .i64 (k:Int))=jA (Nat.ble k y) (some k):=fun y k=>rfl
 unfold iJ;simp only[zA.asStr,zA.asSlice];rw[hy2,vA];unfold fK;rw[hz1,vA];unfold dL zd6;simp only[hb];rw[show Nat.ble hi L=true from vE.2 h2];simp only[qD,vA]
 rw[show Nat.ble lo hi=true from vE.2 h1];simp only[qD,vA];have he2:rI ⟨0,t⟩ b z.size L lo false=false:=by
  unfold rI fC;rw[hg,vA];rfl
 rw[he2,yay,cond_false];have hf:sH ⟨0,t⟩ b z.size L lo false=true:=by
  unfold sH fC;rw[hg,vA];rfl
 rw[show Nat.ble hi L=true from vE.2 h2,hf];simp only[Bool.and_self,qD];have hq:Nat.beq L lo=false:=by
  cases hq:Nat.beq L lo with
  | true=>have:=pB.1 hq;omega
  | false=>rfl
 rw[hq,cond_false,hz2,Nat.mul_one,ybw]
def ziq{qv:zA}{Z c:List Nat}{b n s L cn:Nat}{Q:bB}(hn:n<900000)(hc:c.length=n+1)(hcl:tB BB c)(hcn:c[n]?=some cn)(hbase:yA.base<=b)(hs:s<32)(hL:n+1<=L)
  (hexit:∀t' W,lD b t t'->yF t' b .u32 (W++[cn]++Z)->W.length=n->tB BB W->val BB W+BB^n*(cn / 2^s)=val BB c / 2^s->jp 205 6 [.int .i64 (n:Int),.int .i64 (s:Int),.slice b 0 L L,qv,.int .i64 (n:Int),.int .i64 (n:Int)] t' Q) :
  ∀(k i:Nat) (t':Tr qA) (W:List Nat),i+k=n->lD b t t'->yF t' b .u32 (W++c.drop i++Z)->W.length=i->tB BB W->val BB W+BB^i*(val BB (c.drop i) / 2^s)=val BB c / 2^s →
  jp 205 6 [.int .i64 (n:Int),.int .i64 (s:Int),.slice b 0 L L,qv,.int .i64 (n:Int),.int .i64 (i:Int)] t' Q:=by
 intro k;induction k with
 | zero=>
  intro i t' W hi hoff ho hW hWl hval;have hi':i=n:=by omega
  subst hi'
  have hd:c.drop i=[cn]:=by
   rw[iL hcn,ybt (by omega)]
  rw[hd]at ho hval;refine hexit t' W hoff ho hW hWl ?_
  rw[<- hval];simp[val]
 | succ k ih=>
  intro i t' W hi hoff ho hW hWl hval;have hBB:=aJ
  obtain⟨x,hx⟩:=getElem?_of_lt (l:=c) (i:=i) (by omega)
  obtain⟨y,hy⟩:=getElem?_of_lt (l:=c) (i:=i+1) (by omega)
  have hx32:x<4294967296:=by have:=aH hcl hx;omega
  have hy32:y<4294967296:=by have:=aH hcl hy;omega
  have hd1:c.drop (i+1)=y::c.drop (i+2):=iL hy
  have hd0:c.drop i=x::y::c.drop (i+2):=by rw[iL hx,hd1]
  have m0:=qU (A:=W) (w:=c.drop i) (Z:=Z) (j:=0) (x:=x) (by rw[hd0];rfl)
  have m1:=qU (A:=W) (w:=c.drop i) (Z:=Z) (j:=1) (x:=y) (by rw[hd0];rfl)
  rw[hW]at m0 m1;rw[yct]at m0;have g0:=cS qF (b:=b) (n:=L) (cap:=L) (j:=i) (by omega)
  have g1:=cS qF (b:=b) (n:=L) (cap:=L) (j:=i+1) (by omega)
  have l0:=ho.load (C:=yA) m0 zG rfl
  have l1:=ho.load (C:=yA) m1 zG rfl
  have ei:(i:Int)+1=((i+1:Nat):Int):=by omega
  have e2:(y:Int)*4294967296=((y*4294967296:Nat):Int):=by omega
  obtain⟨t1,s1,s2,s3⟩:=ho.store (C:=yA) hbase (j:=i) (by rw[hd0];simp;omega) ((y*4294967296+x) / 2^s%4294967296) zG rfl
  have hset:=zc8 (A:=W) (w:=c.drop i) (Z:=Z) (j:=0) (x:=(y*4294967296+x) / 2^s%4294967296) (by rw[hd0];simp)
  rw[yct,hW]at hset;rw[hset]at s2;refine z4a _ _ _ _ _ _ ?_
  simp only[zur,pA,iD];rw[yab (by omega)]
  simp (disch:=omega) only[ei,wrap_i64,g0,g1,sA,l0,l1,qB]
  rw[gE (n:=(y:Int)) (by omega) (by omega),e2,gE (n:=((y*4294967296:Nat):Int)) (by omega) (by omega),gE (n:=(x:Int)) (by omega) (by omega),or32 hy32 hx32,sA,qB,sA,zpv (by omega),sA,qB,sA]
  have e3:tA .u32 (((y*4294967296+x) / 2^s:Nat):Int)=(((y*4294967296+x) / 2^s%4294967296:Nat):Int):=by
   generalize (y*4294967296+x) / 2^s=z
   rw[yM];omega
  rw[e3];intro _ _ _;rw[s1,sA];have hw:(y*4294967296+x) / 2^s%4294967296<BB:=by rw[hBB];exact ycy _ (by decide)
  refine ih (i+1) t1 (W++[(y*4294967296+x) / 2^s%4294967296]) (by omega) (hoff.trans s3) ?_ (by simp[hW]) (xS hWl hw) ?_
  ·rw[hd0]at s2
   rw[hd1];simpa using s2
  ·have hst:=zio (B:=BB) (p:=2^s) (K:=2^(32-s)) (by rw[<- Nat.pow_add,show s+(32-s)=32 by omega,hBB]) (Nat.pow_pos (by decide)) (Nat.pow_pos (by decide)) (x:=x) (y:=y) (l:=c.drop (i+2)) (by omega)
   rw[<- hval,hd0,hst,gK,hW,hd1,yag,ybm,hBB];simp only[ybj,Nat.add_assoc]
end Go.Proofs
namespace Go.Proofs
open Go Go.Am
variable [jC]
variable {t:Tr qA}
def znj{lv:List Nat}{v:zA}{b bq m s L Lq U:Nat}{t0:Tr qA}{Q:bB}(hv:lA t0 1 (sB .u32 lv) v)(hl:lv.length=m+2)(hm:m<800000)(hlv:tB BB lv)(hbase:yA.base<=b)(hbaseq:yA.base<=bq)(hb:t0.get b=none)(hbq:t0.get bq=none)(hne:b≠bq)(hL:L<1000000)
  (htop:∀top,lv[m+1]?=some top->2147483648<=top) (hVpos:0<val BB lv)
  (hexit:∀t' q r Z,dA t0 t'->yF t' b .u32 (r++[0]++Z)->yF t' bq .u32 q->r.length=m+2->tB BB r->tB BB q->q.length=Lq->m+3+Z.length=L->val BB r<val BB lv->U=val BB lv*val BB q+val BB r->jp 205 6 [.int .i64 ((m+2:Nat):Int),.int .i64 (s:Int),.slice b 0 L L,.slice bq 0 Lq Lq,.int .i64 ((m+2:Nat):Int),.int .i64 0] t' Q) :
  ∀(j:Nat) (A c Z Qd:List Nat) (t':Tr qA),A.length=j->c.length=m+3->tB BB A->tB BB c->tB BB Qd->A.length+(m+3)+Z.length=L->j+1+Qd.length=Lq->val BB c<BB*val BB lv->dA t0 t'->yF t' b .u32 (A++c++Z)->yF t' bq .u32 (List.replicate (j+1) 0++Qd)->U=val BB lv*(BB^(j+1)*val BB Qd)+val BB (A++c) →
  jp 205 2 [.int .i64 ((m+2:Nat):Int),.int .i64 (s:Int),v,.slice b 0 L L,.slice bq 0 Lq Lq,.int .i64 (j:Int)] t' Q:=by
 intro j;induction j using Nat.strongRecOn with
 | ind j ih=>
  intro A c Z Qd t' hA hc hAl hcl hQl hLen hLq hlt ht ho hoq hU;have gs:=zu5 (b:=b) (L:=L) (lo:=j) (hi:=j+(m+2)+1) ho (by omega) (by omega) (by omega)
  rw[show j+(m+2)+1-j=m+3 by omega]at gs
  have e1:(j:Int)+((m+2:Nat):Int)=((j+(m+2):Nat):Int):=by omega
  have e2:((j+(m+2):Nat):Int)+1=((j+(m+2)+1:Nat):Int):=by omega
  refine z4b _ _ _ _ _ _ ?_
  simp only[zus,pA,jG];rw[yab (by omega)]
  simp (disch:=omega) only[e1,wrap_i64,e2,gs,sA,q216]
  subst hA;refine z2c (A:=A) (Z:=Z) (t:=t') (t0:=t0) hv hl hm hlv hbase hb hc hcl (by omega) htop hlt ht (lD.refl _ _) ho (fun t2 r k1 k2 k3 k4 k5 k6 k7=>?_)
  have hoq2:=hoq.off (fun e=>hne e.symm) k2
  have g1:=cS qF (b:=bq) (n:=Lq) (cap:=Lq) (j:=A.length) (by omega)
  obtain⟨t3,s1,s2,s3⟩:=hoq2.store (C:=yA) hbaseq (j:=A.length) (by simp;omega) (val BB c / val BB lv) zG rfl
  have hset:(List.replicate (A.length+1) 0++Qd).set A.length (val BB c / val BB lv)=List.replicate A.length 0++((val BB c / val BB lv)::Qd):=by
   rw[List.replicate_succ',ybz];rw[List.set_append_right _ _ (by simp)]
   simp
  rw[hset]at s2;rw[qB,sA,g1,sA];intro _ _ _;rw[s1,sA];have ho3:=k3.off hne s3
  have ht3:=k1.off hbq s3
  have hr:val BB r<val BB lv:=by rw[k6];exact ycy _ hVpos
  have hdm:=ych (val BB c) (val BB lv)
  have hU2:U=val BB lv*(BB^A.length*val BB ((val BB c / val BB lv)::Qd))+val BB (A++r):=by
   rw[hU,nS,nS];show _=val BB lv*(BB^A.length*((val BB c / val BB lv)+BB*val BB Qd))+_
   rw[k6];generalize val BB c / val BB lv=d at hdm ⊢
   generalize val BB c%val BB lv=z at hdm ⊢
   rw[<- hdm,yag];generalize BB^A.length=P
   rw[ybm P,ybm,ybm (val BB lv) (P*d),ybj P BB,<- ybj P (val BB lv),ybh P (val BB lv),ybj (val BB lv) P d]
   omega
  rcases hA:A.length with _ | j'
  ·have hnil:A=[]:=List.eq_nil_of_length_eq_zero hA
   subst hnil;refine z4b _ _ _ _ _ _ ?_
   have e3:((0:Nat):Int)-1 = -1:=by omega
   rw[e3];simp only[zus,pA,jG];rw[yaa (by omega)]
   refine hexit t3 _ r Z ht3 (by simpa using ho3) (by simpa using s2) k4 k5 (fun x hx=>?_) (by simp at hLq ⊢;omega) (by simp at hLen;omega) hr (by simpa using hU2)
   rcases ybs.1 hx with rfl | hx
   ·exact k7
   ·exact hQl x hx
  ·obtain⟨x,hx⟩:=getElem?_of_lt (l:=A) (i:=j') (by omega)
   have hAx:A=A.take j'++[x]:=by
    rw[<- wR hx,yca (by omega)]
   have hxB:x<BB:=aH hAl hx
   have e3:((j'+1:Nat):Int)-1=(j':Int):=by omega
   rw[e3];have hvx:val BB (x::r)=x+BB*val BB r:=rfl
   refine ih j' (by omega) (A.take j') (x::r) (0::Z) ((val BB c / val BB lv)::Qd) t3 (by simp;omega) (by simp[k4]) (cQ hAl _) (fun y hy=>?_) (fun y hy=>?_) (by simp;omega) (by simp;omega) ?_ ht3 ?_ ?_ ?_
   ·rcases ybs.1 hy with rfl | hy
    ·exact hxB
    ·exact k5 y hy
   ·rcases ybs.1 hy with rfl | hy
    ·exact k7
    ·exact hQl y hy
   ·rw[hvx]
    have:=ybv BB hr
    rw[Nat.mul_succ]at this;omega
   ·have:A.take j'++x::r++0::Z=A++(r++[0])++Z:=by
     conv=>rhs;rw[hAx]
     simp
    rw[this];exact ho3
   ·rw[<- hA];exact s2
   ·rw[hU2,hA]
    have:A++r=A.take j'++x::r:=by
     conv=>lhs;rw[hAx]
     simp
    rw[this]
end Go.Proofs
namespace Go.Am
def zyd{a b q R p:Nat}(hp:0<p)(h:a*p=b*p*q+R)(hR:R<b*p):a=b*q+R / p/\R / p<b:=by
 have h1:p ∣ R:=(Nat.dvd_add_right (⟨b*q,by rw[ybh b p,ybj]⟩:p ∣ b*p*q)).1 (h ▸ ⟨a,ybh a p⟩)
 obtain⟨R',rfl⟩:=h1
 rw[Nat.mul_div_cancel_left _ hp];refine⟨Nat.eq_of_mul_eq_mul_left hp ?_,Nat.lt_of_mul_lt_mul_left (a:=p) ?_⟩
 ·rw[ybh p a,h,ybm,ybh b p,ybj]
 ·rw[ybh p b];exact hR
def div_v{B p K n top:Nat}{b rb:List Nat}(hB:B=p*K)(hp:0<p)(hlt:tB B b)(hl:b.length=n+1)(htop:b[n]?=some top)(ht:top*p<B)(hbig:B<=2*(top*p))(hrl:tB B rb)(hrb:rb.length=n+2)(hv:val B rb=val B b*p) :
  val B (rb.take (n+1))=val B b*p/\∀x,(rb.take (n+1))[n]?=some x->B<=2*x:=by
 have hB0:0<B:=by omega
 have hbv:val B b=val B (b.take n)+B^n*top:=by
  have:=oS B b n
  rw[this,iL htop,ybt (by omega)]
  have:(b.take n).length=n:=by simp;omega
  rw[this];simp[val]
 have hlow:val B (b.take n)<B^n:=by
  have:=yK hB0 (cQ hlt n)
  have h:(b.take n).length=n:=by simp;omega
  rw[h]at this;exact this
 have hK:top<K:=by
  rw[hB,ybh p K]at ht;exact Nat.lt_of_mul_lt_mul_right ht
 have hup:val B b*p<B^(n+1):=by
  have h1:val B b<B^n*(top+1):=by rw[hbv,ybm];omega
  have h2:B^n*(top+1)<=B^n*K:=ybv _ hK
  have h3:val B b*p<B^n*K*p:=Nat.mul_lt_mul_of_pos_right (by omega) hp
  have h4:B^n*K*p=B^(n+1):=by rw[yag,ybj,ybh K p,<- hB]
  omega
 have hsplit:=oS B rb (n+1)
 have htl:(rb.take (n+1)).length=n+1:=by simp;omega
 rw[htl]at hsplit;have hz:val B (rb.drop (n+1))=0:=by
  rcases yav (val B (rb.drop (n+1)))with h | h
  ·exact h
  ·exfalso
   have:=ybv (B^(n+1)) h
   rw[Nat.mul_one]at this;omega
 have hval:val B (rb.take (n+1))=val B b*p:=by rw[hz]at hsplit;omega
 refine⟨hval,fun x hx=>?_⟩
 have h1:val B (rb.take (n+1))=val B ((rb.take (n+1)).take n)+B^n*x:=by
  have:=oS B (rb.take (n+1)) n
  rw[this,iL hx,ybt (by omega)]
  have h:((rb.take (n+1)).take n).length=n:=by simp;omega
  rw[h];simp[val]
 have h2:val B ((rb.take (n+1)).take n)<B^n:=by
  have:=yK hB0 (cQ (cQ hrl (n+1)) n)
  have h:((rb.take (n+1)).take n).length=n:=by simp;omega
  rw[h]at this;exact this
 have h3:B^n*(top*p)<=val B b*p:=by
  rw[hbv,ybo,ybj];omega
 have h4:B^n*(top*p)<B^n*(x+1):=by rw[ybm];omega
 have h5:top*p<x+1:=Nat.lt_of_mul_lt_mul_left h4
 omega
def div_u{B p n j:Nat}{a b ru:List Nat}(hB0:0<B)(hal:tB B a)(hb:B^n<=val B b)(hj:a.length=j+(n+1))(hru:ru.length=a.length+1)(hp:0<p)(hv:val B ru=val B a*p):val B (ru.drop j)<B*(val B b*p):=by
 have h1:=oS B ru j
 have htl:(ru.take j).length=j:=by simp;omega
 rw[htl]at h1;have h2:val B a<B^(j+(n+1)):=by rw[<- hj];exact yK hB0 hal
 have h3:val B a*p<B^(j+(n+1))*p:=Nat.mul_lt_mul_of_pos_right h2 hp
 have h4:B^(j+(n+1))*p=B^j*(B*(B^n*p)):=by
  rw[Nat.pow_add,yag,ybh (B^n) B,ybj,ybj]
 have h5:B^j*val B (ru.drop j)<B^j*(B*(B^n*p)):=by omega
 have h6:=Nat.lt_of_mul_lt_mul_left h5
 have h7:B*(B^n*p)<=B*(val B b*p):=ybv _ (ybi _ hb)
 omega
end Go.Am
namespace Go.Proofs
open Go Go.Am
variable [jC]
variable {t:Tr qA}
def zfa{l:List Nat}{b L hi:Nat}(ho:yF t b .u32 l)(h2:hi<=L)(h3:0<L) :
  gF yA 200 ⟨0,t⟩ (.slice b 0 L L) none (some (.int .i64 (hi:Int)))=some (.slice b 0 hi L):=by
 obtain⟨c,hg,_⟩:=ho
 obtain⟨⟨y,hy1,hy2⟩,⟨z,hz1,hz2,hz3⟩⟩:=qF
 unfold gF;rw[hy1,vA];have hb:∀y (k:Nat),iQ y (.int .i64 (k:Int))=jA (Nat.ble k y) (some k):=fun y k=>rfl
 unfold iJ;simp only[zA.asStr,zA.asSlice];rw[hy2,vA];unfold fK;rw[hz1,vA];unfold dL zd6;simp only[hb];rw[show Nat.ble hi L=true from vE.2 h2];simp only[qD,vA]
 have he2:rI ⟨0,t⟩ b z.size L 0 false=false:=by
  unfold rI fC;rw[hg,vA];rfl
 rw[he2,yay,cond_false];have hf:sH ⟨0,t⟩ b z.size L 0 false=true:=by
  unfold sH fC;rw[hg,vA];rfl
 rw[show Nat.ble hi L=true from vE.2 h2,hf];simp only[Bool.and_self,qD];have hq:Nat.beq L 0=false:=by
  cases hq:Nat.beq L 0 with
  | true=>have:=pB.1 hq;omega
  | false=>rfl
 rw[hq,cond_false,Nat.zero_mul];rfl
def zrh{b o n c:Nat}:same 10 (.slice b o n c) (.slice b o n c)=true:=by
 simp[same]
def zni{q W Z:List Nat}{b bq n s L Lq:Nat}{Q:bB}(ho:yF t b .u32 (W++[0]++Z))(hoq:yF t bq .u32 q)(hW:W.length=n)(hn:n<1000000)(hL:n+1+Z.length=L)(hq:q.length=Lq)(hLq:Lq<1000000)
  (hQ:∀qv rv,lA t 1 (sB .u32 (pE q)) qv->lA t 1 (sB .u32 (pE W)) rv->Q (.tup [qv,rv]) t) :
  jp 205 6 [.int .i64 (n:Int),.int .i64 (s:Int),.slice b 0 L L,.slice bq 0 Lq Lq,.int .i64 (n:Int),.int .i64 (n:Int)] t Q:=by
 have e1:=zfa (L:=L) (hi:=n) ho (by omega) (by omega)
 have e2:lA t 1 (sB .u32 W) (.slice b 0 n L):=by
  have:=ho.slice (off:=0) (n:=n) (cap:=L) (by simp;omega) (by omega)
  rw[ycr,ybz,List.take_left' hW]at this;exact this
 have e3:lA t 1 (sB .u32 q) (.slice bq 0 Lq Lq):=by
  have:=hoq.all (cap:=Lq) (by omega)
  rw[hq]at this;exact this
 obtain⟨qv,f1,f2⟩:=kS (by omega) e3
 obtain⟨rv,f3,f4⟩:=kS (by omega) e2
 refine z4a _ _ _ _ _ _ ?_
 simp only[zur,pA,iD];rw[yaa (by omega)]
 simp only[e1,sA,q174,f1,f3];rw[zrh];exact hQ qv rv f2 f4
def zkj{a b:List Nat}{u v:zA}{Q:bB}(hu:lA t 1 (sB .u32 a) u)(hv:lA t 1 (sB .u32 b) v)(ha:a.length<700000)(hal:tB BB a)(hbl:tB BB b)(han:norm a)(hbn:norm b)(hb0:b≠[])
  (hQ:∀t' q r qv rv,dA t t'->lA t' 1 (sB .u32 q) qv->lA t' 1 (sB .u32 r) rv->tB BB q->tB BB r->norm q->norm r->val BB a=val BB b*val BB q+val BB r->val BB r<val BB b->Q (.tup [qv,rv]) t') :
  Wc yA F 205 [u,v] t Q:=by
 have hBB:=aJ
 have hB1:1<BB:=by omega
 have hlt:=zyn hB1 hal hbl han hbn
 refine w205 _ _ ?_
 simp only[t205,pA,q203,z4p (by omega) hu hv,sA,qB,iD]
 by_cases hc:aI a b<0
 ·rw[yab hc]
  simp only[q214];refine z2q hu (by omega) fun t' v' h1 h2=>?_
  exact hQ t' [] a _ _ h1 ⟨[],.inl ⟨rfl,rfl⟩,by simp[sB,oC]⟩ h2 (fun x hx=>by cases hx) hal (fun h=>absurd rfl h) han (by simp[val]) (hlt.1 hc)
 ·rw[yaa hc]
  have hge:val BB b<=val BB a:=Nat.le_of_not_lt fun h=>hc (hlt.2 h)
  have hlen:b.length<=a.length:=bN hB1 hal hbn hge
  simp only[hv.len,sA,qB,iE,xI];by_cases h1:b.length=1
  ·rw[yab (by omega)]
   obtain⟨d,rfl⟩:∃d,b=[d]:=by
    match b,h1 with
    | [d],_=>exact⟨d,rfl⟩
   have hd:d<4294967296:=by have:=hbl d (by simp);omega
   have hd0:0<d:=by have:=hbn (by simp);simp at this;omega
   obtain⟨c,off,g1,g2⟩:=hv.idx qF (i:=0) (x:=d) rfl
   have g1':zC yA 200 v (.int .i64 0)=some (.ptr c off):=g1
   simp only[g1',g2,sA,qB,q152];refine zkh hu (by omega) (by rw[<- hBB];exact hal) hd hd0 fun t' v' q r k1 k2 k3 k4 k5 k6=>?_
   simp only[zD,zA.asTup,vA,oF,yaz,yba,sA,qB];intro b' hb' _;obtain⟨H',m1,m2,m3⟩:=zmv (k:=.u32) vL rfl zG rfl rfl r trivial hb'
   have hR:=m2.all (cap:=1) (by simp)
   obtain⟨rv,f1,f2⟩:=kS (by simp) hR
   have f1':wC yA F 174 [.slice b' 0 1 1] H'.t=some rv:=f1
   rw[m1];simp only[sA,q174,f1'];rw[<- hBB]at k3 k6;have hrl:tB BB [r]:=fun x hx=>by rw[ydd.1 hx];omega
   refine hQ H'.t (pE q) (pE [r]) v' rv (k1.trans m3) (k2.mono m3) f2 (eP k3) (eP hrl) (vP _) (vP _) ?_ ?_
   ·rw[xM,xM];simp only[val];rw[k6,ybh];simp
   ·rw[xM];simp only[val];omega
  ·rw[yaa (by omega)]
   have hbpos:0<b.length:=List.length_pos_iff.2 hb0
   obtain⟨m,hm⟩:∃m,b.length=m+2:=⟨b.length-2,by omega⟩
   obtain⟨j,hj⟩:∃j,a.length=j+(m+2):=⟨a.length-(m+2),by omega⟩
   obtain⟨top,htop⟩:=getElem?_of_lt (l:=b) (i:=m+1) (by omega)
   have htlt:top<4294967296:=by have:=aH hbl htop;omega
   have ht0:0<top:=by
    have:=hbn hb0
    have hlast:b.getLast hb0=top:=by
     rw[List.getLast_eq_getElem];have:b[b.length-1]?=some top:=by rw[hm];exact htop
     exact(ybc.1 this).2
    omega
   obtain⟨s,hs,hs1,hs2,hs3⟩:=zwd (t:=t) htlt ht0
   obtain⟨c,off,g1,g2⟩:=hv.idx qF htop
   have eb:((m+2:Nat):Int)-1=((m+1:Nat):Int):=by omega
   simp (disch:=omega) only[hm,eb,wrap_i64,g1,g2,sA,qB,q212,hs3,q215]
   refine zfd hv (by omega) (by rw[<- hBB];exact hbl) hs fun t1 b1 rb k1 k2 k3 k4 k5 k6 k7=>?_
   rw[<- hBB]at k6 k7;rw[hm]at k5 ⊢
   have hK:BB=2^s*2^(32-s):=by rw[<- Nat.pow_add,show s+(32-s)=32 by omega,hBB]
   have hp:0<2^s:=Nat.pow_pos (by decide)
   obtain⟨w1,w2⟩:=div_v (n:=m+1) hK hp hbl hm htop (by omega) (by omega) k6 k5 k7
   have e1:=zfa (L:=m+2+1) (hi:=m+2) k4 (by omega) (by omega)
   have hv1:lA t1 1 (sB .u32 (rb.take (m+2))) (.slice b1 0 (m+2) (m+2+1)):=by
    have:=k4.slice (off:=0) (n:=m+2) (cap:=m+2+1) (by omega) (by omega)
    rw[ycr]at this;exact this
   simp only[e1,sA];refine zfd (hu.mono k1) (by omega) (by rw[<- hBB];exact hal) hs fun t2 b2 ra n1 n2 n3 n4 n5 n6 n7=>?_
   rw[<- hBB]at n6 n7;rw[hj]at n5 ⊢
   have ea:((j+(m+2):Nat):Int)-((m+2:Nat):Int)=(j:Int):=by omega
   have ea2:(j:Int)+1=((j+1:Nat):Int):=by omega
   simp (disch:=omega) only[hu.len,iE,hj,sA,qB,ea,ea2,wrap_i64]
   intro bq hbq hbaseq;obtain⟨t3,p1,p2,p3,p4⟩:=oU (C:=yA) (k:=.u32) vL rfl zG rfl rfl (by decide) (n:=j+1) (by omega) hbq
   rw[p1];have el:yC (.slice bq 0 (j+1) (j+1))=some (.int .i64 ((j+1:Nat):Int)):=rfl
   have el2:((j+1:Nat):Int)-1=(j:Int):=by omega
   simp (disch:=omega) only[sA,el,qB,el2,wrap_i64]
   have hne:b2≠bq:=by
    intro e;obtain⟨c,hc1,_⟩:=n4
    rw[e,hbq]at hc1
    cases hc1
   have hbq1:t1.get bq=none:=by
    cases hg:t1.get bq with
    | none=>rfl
    | some x=>rw[n1 _ _ hg]at hbq;cases hbq
   have hVpos:0<val BB (rb.take (m+2)):=by
    rw[w1];refine Nat.mul_pos ?_ hp
    have:=ztq (B:=BB) hbn hb0
    have h2:0<BB^(b.length-1):=Nat.pow_pos mG
    omega
   have hbge:BB^(m+1)<=val BB b:=by
    have:=ztq (B:=BB) hbn hb0
    rw[hm]at this;exact this
   have hcl:=div_u (n:=m+1) (j:=j) (p:=2^s) mG hal hbge (by omega) (by omega) hp n7
   have hta:ra.take j++ra.drop j=ra:=List.take_append_drop _ _
   refine znj (U:=val BB ra) hv1 (by simp;omega) (by omega) (cQ k6 _) n3 hbaseq n2 hbq1 hne (by omega) (fun x hx=>by have:=w2 x hx;omega) hVpos (fun t4 q r Z z1 z2 z3 z4 z5 z6 z7 z8 z9 z10=>?_) j (ra.take j) (ra.drop j) [] [] t3 (by simp;omega) (by simp;omega) (cQ n6 _) (zgk n6 _) (fun x hx=>by cases hx) (by simp;omega) (by simp) ?_ (n1.trans p3) ?_ (by simpa using p2) ?_
   ·have hcl2:tB BB (r++[0]):=xS z5 mG
    refine ziq (t:=t4) (Z:=Z) (c:=r++[0]) (cn:=0) (by omega) (by simp[z4]) hcl2 (by rw[<- z4];simp) n3 hs (by omega) (fun t5 W y1 y2 y3 y4 y5=>?_) (m+2) 0 t4 [] (by omega) (lD.refl _ _) (by simpa using z2) rfl (fun x hx=>by cases hx) (by rw[ycr,Nat.pow_zero,Nat.one_mul];exact ybw _)
    have y6:val BB W=val BB r / 2^s:=by
     rw[gK,yat,yct,Nat.zero_div,yat,yct]at y5;exact y5
    rw[w1]at z9 z10;rw[n7]at z10;obtain⟨x1,x2⟩:=zyd hp z10 z9
    refine zni y2 (z3.off (fun e=>hne e.symm) y1) y3 (by omega) (by omega) z7 (by omega) fun qv rv x3 x4=>?_
    have ht5:dA t t5:=k1.trans (z1.off n2 y1)
    exact hQ t5 (pE q) (pE W) qv rv ht5 x3 x4 (eP z6) (eP y4) (vP _) (vP _) (by rw[xM,xM,y6];exact x1) (by rw[xM,y6];exact x2)
   ·rw[w1];exact hcl
   ·rw[hta,ycd];exact n4.tle p3
   ·have hv0:val BB ([]:List Nat)=0:=rfl
    rw[hta,hv0,yat,yat,ybw]
end Go.Proofs
namespace Go.Am
def wd (l:List Nat)(i:Nat):Nat:=(l[i]?).getD 0
def zli{B:Nat}(hB:0<B){l:List Nat}(h:tB B l)(i:Nat):wd l i<B:=by
 unfold wd
 cases hx:l[i]? with
 | none=>exact hB
 | some x=>exact aH h hx
def tV(B:Nat)(l:List Nat)(i:Nat):val B (l.take (i+1))=val B (l.take i)+B^i*wd l i:=by
 unfold wd
 cases hx:l[i]? with
 | none=>
  have:=List.getElem?_eq_none_iff.1 hx
  rw[yca (by omega),yca (by omega)]
  simp
 | some x=>
  have hi:=(ybc.1 hx).1
  rw[wR hx,gK];have:(l.take i).length=i:=by simp;omega
  rw[this];rfl
def zyf{B P u v Va Vb w x y bo ai bi x' y' lx ly bo' W:Nat}(h:W+P*x+v*Vb=u*Va+P*(y+bo))(hx:B*x'+lx=x+u*ai)(hy:B*y'+ly=y+v*bi)(hw:lx+B*bo'=w+ly+bo) :
  (W+P*w)+P*B*x'+v*(Vb+P*bi)=u*(Va+P*ai)+P*B*(y'+bo'):=by
 have e:P*(x+u*ai+B*y'+B*bo')=P*(w+B*x'+y+v*bi+bo):=congrArg (P * ·) (by omega)
 have e1:v*(P*bi)=P*(v*bi):=Nat.mul_left_comm _ _ _
 have e2:u*(P*ai)=P*(u*ai):=Nat.mul_left_comm _ _ _
 simp only[ybm,ybj]at e h ⊢
 rw[e1,e2];omega
def z2h{P W x z X Y:Nat}(h:W+P*x+Y=X+P*z)(hW:W<P)(hX:X<P)(hle:Y<=X):W=X-Y:=by
 rcases Nat.lt_trichotomy x z with g | g | g
 ·have:=ybv P g
  rw[Nat.mul_succ]at this;omega
 ·rw[g]at h;omega
 ·have:=ybv P g
  rw[Nat.mul_succ]at this;omega
def zqh{B u x a:Nat}(hx:x<=u)(ha:a<B):(x+u*a) / B<=u:=by
 have h:x+u*a<=u*B:=by
  have:=ybv u (Nat.succ_le_of_lt ha)
  rw[Nat.mul_succ]at this;omega
 exact Nat.div_le_of_le_mul (by rw[ybh B];exact h)
end Go.Am
namespace Go.Proofs
open Go Go.Am
variable [jC]
variable {t:Tr qA}
def zo2{x u a:Nat}(hx:x<=u)(hu:u<4294967296)(ha:a<4294967296):tA .u64 ((x:Int)+tA .u64 ((u:Int)*tA .u64 (a:Int)))=((x+u*a:Nat):Int):=by
 have h:u*a<=4294967295*4294967295:=ydb (by omega) (by omega)
 rw[gE (n:=(a:Int)) (by omega) (by omega),<- Int.natCast_mul]
 generalize u*a=z at h ⊢
 rw[gE (n:=(z:Int)) (by omega) (by omega),gE (by omega) (by omega)]
 omega
def zsr{la lb:List Nat}{pa pb w:zA}{u v x y bo n i:Nat}{Q:bB}(ha:lA t 1 (sB .u32 la) pa)(hb:lA t 1 (sB .u32 lb) pb)(hal:tB BB la)(hbl:tB BB lb)(hu:u<4294967296)(hv:v<4294967296)(hx:x<=u)(hy:y<=v)(hi:i<n)
  (h:jp 206 21 [.int .u64 (u:Int),pa,.int .u64 (v:Int),pb,w,.int .u64 ((x+u*wd la i:Nat):Int),.int .u64 ((y+v*wd lb i:Nat):Int),.int .u32 (bo:Int),.int .i64 (i:Int),.int .i64 (n:Int),.int .i64 (i:Int)] t Q) :
  jp 206 2 [.int .u64 (u:Int),pa,.int .u64 (v:Int),pb,w,.int .u64 (x:Int),.int .u64 (y:Int),.int .u32 (bo:Int),.int .i64 (n:Int),.int .i64 (i:Int)] t Q:=by
 have hBB:=aJ
 have second:jp 206 17 [.int .u64 (u:Int),pa,.int .u64 (v:Int),pb,w,.int .u64 ((x+u*wd la i:Nat):Int),.int .u64 (y:Int),.int .u32 (bo:Int),.int .i64 (i:Int),.int .i64 (n:Int),.int .i64 (i:Int)] t Q:=by
  refine z6a _ _ _ _ _ _ _ _ _ _ _ ?_
  simp only[zuq,pA,hb.len,sA,qB,iE,iD];by_cases hlen:i<lb.length
  ·obtain⟨z,hz⟩:=getElem?_of_lt hlen
   have hz32:z<4294967296:=by have:=aH hbl hz;omega
   obtain⟨c,off,g1,g2⟩:=hb.idx qF hz
   rw[yab (by omega)]
   simp only[g1,g2,sA,qB];rw[zo2 hy hv hz32];have:wd lb i=z:=by unfold wd;rw[hz];rfl
   rw[this]at h;exact h
  ·rw[yaa (by omega)]
   have:wd lb i=0:=by unfold wd;rw[List.getElem?_eq_none (by omega)];rfl
   rw[this,yat,yct]at h;exact h
 refine z39 _ _ _ _ _ _ _ _ _ _ ?_
 simp only[zup,pA,iD];rw[yab (by omega)]
 simp only[ha.len,sA,qB,iE];by_cases hlen:i<la.length
 ·obtain⟨z,hz⟩:=getElem?_of_lt hlen
  have hz32:z<4294967296:=by have:=aH hal hz;omega
  obtain⟨c,off,g1,g2⟩:=ha.idx qF hz
  rw[yab (by omega)]
  simp only[g1,g2,sA,qB];rw[zo2 hx hu hz32];have:wd la i=z:=by unfold wd;rw[hz];rfl
  rw[this]at second;exact second
 ·rw[yaa (by omega)]
  have:wd la i=0:=by unfold wd;rw[List.getElem?_eq_none (by omega)];rfl
  rw[this,yat,yct]at second;exact second
end Go.Proofs
namespace Go.Proofs
open Go Go.Am
section
variable [jC]
variable {t:Tr qA}
def zyg{la lb:List Nat}{pa pb:zA}{b u v n:Nat}{t0:Tr qA}{Q:bB}(ha:lA t0 1 (sB .u32 la) pa)(hb:lA t0 1 (sB .u32 lb) pb)(hal:tB BB la)(hbl:tB BB lb)(hu:u<4294967296)(hv:v<4294967296)(hn:n<1000000)(hbase:yA.base<=b)(hb0:t0.get b=none)
  (hQ:∀t' W rv x z,dA t0 t'->lA t' 1 (sB .u32 (pE W)) rv->W.length=n->tB BB W->val BB W+BB^n*x+v*val BB (lb.take n)=u*val BB (la.take n)+BB^n*z->Q rv t') :
  ∀(k i x y bo:Nat) (t':Tr qA) (W:List Nat),i+k=n->dA t0 t'->yF t' b .u32 (W++List.replicate k 0)->W.length=i->tB BB W->x<=u->y<=v->bo<2->val BB W+BB^i*x+v*val BB (lb.take i)=u*val BB (la.take i)+BB^i*(y+bo) →
  jp 206 2 [.int .u64 (u:Int),pa,.int .u64 (v:Int),pb,.slice b 0 n n,.int .u64 (x:Int),.int .u64 (y:Int),.int .u32 (bo:Int),.int .i64 (n:Int),.int .i64 (i:Int)] t' Q:=by
 intro k;have hBB:=aJ
 induction k with
 | zero=>
  intro i x y bo t' W hi ht ho hW hWl hx hy hbo hval;have hi':i=n:=by omega
  subst hi'
  have e3:lA t' 1 (sB .u32 W) (.slice b 0 i i):=by
   rw[List.replicate_zero,ycd]at ho;have:=ho.all (cap:=i) (by omega)
   rw[hW]at this;exact this
  obtain⟨rv,f1,f2⟩:=kS (by omega) e3
  refine z39 _ _ _ _ _ _ _ _ _ _ ?_
  simp only[zup,pA,iD];rw[yaa (by omega)]
  simp only[q174,f1,sA];exact hQ t' W rv x (y+bo) ht f2 hW hWl hval
 | succ k ih=>
  intro i x y bo t' W hi ht ho hW hWl hx hy hbo hval;refine zsr (ha.mono ht) (hb.mono ht) hal hbl hu hv hx hy (by omega) ?_
  have wa:=zli mG hal i
  have wb:=zli mG hbl i
  have cx:=zqh hx wa
  have cy:=zqh hy wb
  have va:=tV BB la i
  have vb:=tV BB lb i
  generalize wd la i=ai at *
  generalize wd lb i=bi at *
  generalize hX:x+u*ai=X at *
  generalize hY:y+v*bi=Y at *
  have ex:tA .u32 (X:Int)=((X%4294967296:Nat):Int):=by rw[yM];omega
  have ey:tA .u32 (Y:Int)=((Y%4294967296:Nat):Int):=by rw[yM];omega
  have fx:Int.fdiv (X:Int) 4294967296=((X / 4294967296:Nat):Int):=mO X 4294967296
  have fy:Int.fdiv (Y:Int) 4294967296=((Y / 4294967296:Nat):Int):=mO Y 4294967296
  have hs:=zz6 (t:=t') (x:=X%4294967296) (y:=Y%4294967296) (b:=bo) (ycy _ (by decide)) (ycy _ (by decide)) hbo
  obtain⟨w,hw⟩:∃w,w=(X%4294967296+8589934592-Y%4294967296-bo)%4294967296:=⟨_,rfl⟩
  obtain⟨bo',hbo'⟩:∃bo':Nat,bo'=if X%4294967296<Y%4294967296+bo then 1 else 0:=⟨_,rfl⟩
  rw[<- hw,<- hbo']at hs;have hwlt:w<BB:=by omega
  have hb2:bo'<2:=by rw[hbo'];split<;>omega
  have hsum:X%4294967296+4294967296*bo'=w+Y%4294967296+bo:=by
   rw[hw,hbo'];split<;>omega
  have g1:=cS qF (b:=b) (n:=n) (cap:=n) (j:=i) (by omega)
  obtain⟨t1,s1,s2,s3⟩:=ho.store (C:=yA) hbase (j:=i) (by simp;omega) w zG rfl
  have hset:=wX (p:=W) (n:=k) (x:=w)
  rw[hW]at hset;rw[hset]at s2;have ei:(i:Int)+1=((i+1:Nat):Int):=by omega
  refine z59 _ _ _ _ _ _ _ _ _ _ _ ?_
  simp only[zuo,pA,ex,ey,q217,hs,sA,zD,zA.asTup,vA,oF,yaz,yba,qB,g1,fx,fy,ei];intro _ _ _;rw[s1,sA,wrap_i64 (by omega) (by omega)]
  rw[hBB]at cx cy;refine ih (i+1) (X / 4294967296) (Y / 4294967296) bo' t1 (W++[w]) (by omega) (ht.off hb0 s3) s2 (by simp[hW]) (xS hWl hwlt) cx cy hb2 ?_
  have hst:=zyf (B:=BB) (P:=BB^i) (ai:=ai) (bi:=bi) (x':=X / 4294967296) (y':=Y / 4294967296) (lx:=X%4294967296) (ly:=Y%4294967296) (w:=w) (bo':=bo') hval (by rw[hX,hBB];exact ych _ _) (by rw[hY,hBB];exact ych _ _) (by rw[hBB];exact hsum)
  rw[va,vb,gK,hW,yag];exact hst
def vY{la lb:List Nat}{pa pb:zA}{u v:Nat}{Q:bB}(ha:lA t 1 (sB .u32 la) pa)(hb:lA t 1 (sB .u32 lb) pb)(hal:tB BB la)(hbl:tB BB lb)(hu:u<4294967296)(hv:v<4294967296)(hla:la.length<700000)(hlb:lb.length<700000)(hge:v*val BB lb<=u*val BB la)
  (hQ:∀t' r rv,dA t t'->lA t' 1 (sB .u32 r) rv->tB BB r->norm r->val BB r=u*val BB la-v*val BB lb->Q rv t') :
  Wc yA F 206 [.int .u64 (u:Int),pa,.int .u64 (v:Int),pb] t Q:=by
 have hBB:=aJ
 refine w206 _ _ _ _ ?_
 simp only[t206,pA,ha.len,hb.len,sA,qB,iE];obtain⟨n,hn1,hn2,hn3,hn4⟩:∃n:Nat,(bif vC (la.length:Int) (lb.length:Int)then(lb.length:Int)else(la.length:Int))+1=(n:Int)/\la.length<n/\lb.length<n/\n<700002:=by
  cases hc:vC (la.length:Int) (lb.length:Int)with
  | true=>have:=iD.1 hc;exact⟨lb.length+1,by simp,by omega,by omega,by omega⟩
  | false=>
   have:¬ ((la.length:Int)<(lb.length:Int)):=fun h=>by rw[iD.2 h]at hc;cases hc
   exact⟨la.length+1,by simp,by omega,by omega,by omega⟩
 rw[hn1,wrap_i64 (by omega) (by omega)]
 intro b hb0 hbase;obtain⟨t',g1,g2,g3,g4⟩:=oU (C:=yA) (k:=.u32) vL rfl zG rfl rfl (by decide) (n:=n) (by omega) hb0
 rw[g1];have el:yC (.slice b 0 n n)=some (.int .i64 (n:Int)):=rfl
 simp only[sA,el,qB];refine zyg ha hb hal hbl hu hv (by omega) hbase hb0 (fun t2 W rv x z k1 k2 k3 k4 k5=>?_) n 0 0 0 0 t' [] (by omega) g3 (by simpa using g2) rfl (fun x hx=>by cases hx) (by omega) (by omega) (by omega) (by simp[val])
 rw[yca (by omega),yca (by omega)]at k5
 have hP:u*val BB la<BB^n:=by
  have h1:=yK mG hal
  have h2:BB^(la.length+1)<=BB^n:=yao mG (by omega)
  have h3:u*val BB la<=u*BB^la.length:=ybv _ (Nat.le_of_lt h1)
  have h4:u*BB^la.length<BB*BB^la.length:=Nat.mul_lt_mul_of_pos_right (by omega) (Nat.pow_pos mG)
  rw[yag,ybh _ BB]at h2;omega
 have hWl:=yK mG k4
 rw[k3]at hWl;have:=z2h k5 hWl hP hge
 exact hQ t2 (pE W) rv k1 k2 (eP k4) (vP _) (by rw[xM];exact this)
end
section
variable [jC]
variable {t:Tr qA}
def z7a{v:zA}{l:List Nat}{b:Nat}(hv:lA t 1 (sB .u32 l) v)(hb:t.get b=none) :
  ∃H',zq0 v ⟨b,t⟩=some (.ptr b 0,H')/\dA t H'.t/\mA yA 200 ⟨0,H'.t⟩ (.ptr b 0)=some v:=by
 have hc:v.cells=[v]:=by
  obtain⟨cl,h1,_⟩:=hv
  rcases h1 with⟨rfl,_⟩ | ⟨_,_,_,rfl,_⟩<;>rfl
 refine⟨bD ⟨b,t⟩ [v] none,by unfold zq0;rw[hc],?_,?_⟩
 ·intro c u hg
  show(t.set b _).get c=_
  rw[Tr.get_set,yaa (by intro e;rw[e,hb]at hg;cases hg)];exact hg
 ·have hg:(bD ⟨b,t⟩ [v] none).t.get b=some (.cells (Tr.ofList [v]) 1 none):=by
   show(t.set b _).get b=_
   rw[Tr.get_set,yab rfl];rfl
  unfold mA;simp only[zA.asPtr,vA];rw[vL,vA];unfold fC;rw[hg,vA];simp only[qA.asCells,vA];unfold mM;first
   | rfl
   | (rw[cond_false,Tr.get_ofList];rfl)
def zlh{v:zA}{l:List Nat}{b i:Nat}(hv:lA t 1 (sB .u32 l) v)(hl:tB BB l)(hload:mA yA 200 ⟨0,t⟩ (.ptr b 0)=some v):wC yA F 220 [.int .i64 (i:Int),.ptr b 0] t=some (.int .u64 ((wd l i:Nat):Int)):=by
 have hBB:=aJ
 refine kC.2 (w220 _ _ ?_)
 simp only[t220,pA,hload,sA,hv.len,qB,iE,jG];by_cases h:i<l.length
 ·obtain⟨x,hx⟩:=getElem?_of_lt h
  have hx32:x<4294967296:=by have:=aH hl hx;omega
  obtain⟨c,off,g1,g2⟩:=hv.idx qF hx
  rw[yaa (by omega)]
  simp (disch:=omega) only[g1,g2,sA,qB,gE]
  have:wd l i=x:=by unfold wd;rw[hx];rfl
  rw[this];simp
 ·rw[yab (by omega)]
  have:wd l i=0:=by unfold wd;rw[List.getElem?_eq_none (by omega)];rfl
  rw[this];simp
def zxk{v:zA}{l:List Nat}{n s:Nat}(hv:lA t 1 (sB .u32 l) v)(hl:tB BB l)(hn:3<=n)(hn2:n<1000000)(hs:s<32)(hb:(wd l (n-1)*4294967296+wd l (n-2))*2^s<18446744073709551616) :
  wC yA F 213 [v,.int .i64 (n:Int),.int .i64 (s:Int)] t=some (.int .u64 (((wd l (n-1)*4294967296+wd l (n-2))*2^s+wd l (n-3) / 2^(32-s):Nat):Int)):=by
 have hBB:=aJ
 refine zen (w213 _ _ _ ?_)
 simp only[t213,pA];intro b hb0 _;obtain⟨H',g1,g2,g3⟩:=z7a hv hb0
 rw[g1,sA];have w1:=zli mG hl (n-1)
 have w2:=zli mG hl (n-2)
 have w3:=zli mG hl (n-3)
 have c1:=zlh (i:=n-1) (hv.mono g2) hl g3
 have c2:=zlh (i:=n-2) (hv.mono g2) hl g3
 have c3:=zlh (i:=n-3) (hv.mono g2) hl g3
 generalize wd l (n-1)=x1 at *
 generalize wd l (n-2)=x2 at *
 generalize wd l (n-3)=x3 at *
 have e1:(n:Int)-1=((n-1:Nat):Int):=by omega
 have e2:(n:Int)-2=((n-2:Nat):Int):=by omega
 have e3:(n:Int)-3=((n-3:Nat):Int):=by omega
 have e4:(32:Int)-(s:Int)=((32-s:Nat):Int):=by omega
 have f:∀a,mN (.func (.func 220) [] [.ptr b 0]) [a]=some (220,[a,.ptr b 0]):=fun _=>rfl
 have e5:(x1:Int)*4294967296=((x1*4294967296:Nat):Int):=by omega
 rw[f,sA,e1,wrap_i64 (by omega) (by omega),q220,c1,sA,qB,sA,f,sA,e2,wrap_i64 (by omega) (by omega),q220,c2,sA,qB,sA,e5,gE (by omega) (by omega),or32 (by omega) (by omega),sA,qB,sA,zpw (by omega) hb,sA,qB,sA,f,sA,e3,wrap_i64 (by omega) (by omega),q220,c3,sA,qB,sA,e4,wrap_i64 (by omega) (by omega),zpv (by omega),sA,qB,sA]
 have hz:x3 / 2^(32-s)<2^s:=ycu (by rw[<- Nat.pow_add,show 32-s+s=32 by omega];omega)
 have hz2:(2:Nat)^s<=2^31:=yao (by decide) (by omega)
 generalize x3 / 2^(32-s)=z at hz ⊢
 have ho:=zfc (a:=x1*4294967296+x2) (b:=z) (n:=s) hz
 generalize (x1*4294967296+x2)*2^s=h at hb ho ⊢
 have hz3:z<18446744073709551616:=by omega
 rw[oO (k:=.u64) (show h<nF .u64 from hb) (show z<nF .u64 from hz3),ho,sA,qB,sA]
 exact⟨rfl,g2⟩
end
section
variable [jC]
variable {t:Tr qA}
def zg4{A1 B1:Nat}{P:Nat->Nat->Nat->Nat->Nat->Nat->Nat->Nat->Bool->Prop}{Q:bB}(hA:A1<18446744073709551616)(hB:B1<18446744073709551616)
  (hstep:∀x y u0 u1 u2 v0 v1 v2 ev,P x y u0 u1 u2 v0 v1 v2 ev->0<y->v2<=y->v1+v2<=x-y->P y (x%y) u1 u2 (u1+x / y*u2) v1 v2 (v1+x / y*v2) (!ev))
  (hQ:∀x y u0 u1 u2 v0 v1 v2 ev,P x y u0 u1 u2 v0 v1 v2 ev->Q (.agg [.int .u64 (u0:Int),.int .u64 (u1:Int),.int .u64 (v0:Int),.int .u64 (v1:Int),.bool ev]) t) :
  ∀(y x u0 u1 u2 v0 v1 v2:Nat) (ev:Bool) (c0 c1 c2 c3:Int) (c4:Bool),P x y u0 u1 u2 v0 v1 v2 ev->A1=v2*x+v1*y->B1=u2*x+u1*y->y<=x->1<=v2->v1<=v2 →
  jp 204 2 [.int .u64 (x:Int),.int .u64 (y:Int),.int .u64 (u2:Int),.int .u64 (v2:Int),.int .u64 c0,.int .u64 c1,.int .u64 c2,.int .u64 c3,.bool c4,.int .u64 (u0:Int),.int .u64 (u1:Int),.int .u64 (v0:Int),.int .u64 (v1:Int),.bool ev] t Q:=by
 intro y;induction y using Nat.strongRecOn with
 | ind y ih=>
  intro x u0 u1 u2 v0 v1 v2 ev c0 c1 c2 c3 c4 hP hx hy hle h1 h12;refine j204_2 _ _ _ _ _ _ _ _ _ _ _ _ _ _ ?_
  simp only[z3l,pA,jG];by_cases g1:v2<=y
  ·rw[yab (by omega)]
   have hy0:0<y:=by omega
   have b1:v2*x<=A1:=by omega
   have b2:x<=A1:=Nat.le_trans (yan x (by omega)) b1
   have b3:v2<4294967296:=by
    rcases yau v2 4294967296 with h | h
    ·exact h
    ·exfalso
     have:4294967296*4294967296<=v2*x:=ydb h (by omega)
     omega
   have e1:tA .u64 ((v1:Int)+(v2:Int))=((v1+v2:Nat):Int):=by rw[gE (by omega) (by omega)];omega
   have e2:tA .u64 ((x:Int)-(y:Int))=((x-y:Nat):Int):=by rw[gE (by omega) (by omega)];omega
   rw[e1,e2];by_cases g2:v1+v2<=x-y
   ·rw[yab (by omega)]
    have hdm:=ych x y
    have hmod:x%y<y:=ycy _ hy0
    have hq1:1<=x / y:=by
     rw[Nat.le_div_iff_mul_le hy0];omega
    have hxq:x / y<=x:=Nat.div_le_self _ _
    have e3:z1r .u64 (x:Int) (y:Int)=some (.int .u64 ((x / y:Nat):Int)):=zhq hy0 (by
     generalize x / y=q at hxq ⊢
     exact gE (by omega) (by omega))
    have e4:zzo .u64 (x:Int) (y:Int)=some (.int .u64 ((x%y:Nat):Int)):=tW hy0
    have hst:=hstep x y u0 u1 u2 v0 v1 v2 ev hP hy0 g1 g2
    generalize x / y=q at *
    generalize x%y=r at *
    have nA:A1=(v1+q*v2)*y+v2*r:=by
     rw[hx,<- hdm,ybm,ybo,ybh y q,<- ybj v2 q,ybh v2 q];omega
    have nB:B1=(u1+q*u2)*y+u2*r:=by
     rw[hy,<- hdm,ybm,ybo,ybh y q,<- ybj u2 q,ybh u2 q];omega
    have bv:v1+q*v2<=A1:=Nat.le_trans (Nat.le_mul_of_pos_right _ hy0) (by omega)
    have bu:u1+q*u2<=B1:=Nat.le_trans (Nat.le_mul_of_pos_right _ hy0) (by omega)
    have bq:v2<=q*v2:=yan _ hq1
    have e5:tA .u64 ((v1:Int)+tA .u64 ((q:Int)*(v2:Int)))=((v1+q*v2:Nat):Int):=by
     rw[<- Int.natCast_mul];generalize q*v2=z at bv ⊢
     rw[gE (n:=(z:Int)) (by omega) (by omega),gE (by omega) (by omega)];omega
    have e6:tA .u64 ((u1:Int)+tA .u64 ((q:Int)*(u2:Int)))=((u1+q*u2:Nat):Int):=by
     rw[<- Int.natCast_mul];generalize q*u2=z at bu ⊢
     rw[gE (n:=(z:Int)) (by omega) (by omega),gE (by omega) (by omega)];omega
    rw[e3,sA,qB,sA,e4,sA,qB,sA,e5,e6];simp only[if_true];exact ih r hmod y u1 u2 (u1+q*u2) v1 v2 (v1+q*v2) (!ev) _ _ _ _ _ hst nA nB (by omega) (by omega) (by omega)
   ·rw[yaa (by omega)]
    simp only[if_true];exact hQ x y u0 u1 u2 v0 v1 v2 ev hP
  ·rw[yaa (by omega)]
   simp only[if_true];exact hQ x y u0 u1 u2 v0 v1 v2 ev hP
end
end Go.Proofs
namespace Go.Am
def Lrel (a b x y u1 u2 v1 v2:Nat)(ev:Bool):Prop:=
 match ev with
 | false=>u1*v2=u2*v1+1/\x+v1*b=u1*a/\y+u2*a=v2*b
 | true=>u2*v1=u1*v2+1/\x+u1*a=v1*b/\y+v2*b=u2*a
def Lst (u1 u2 v1 v2:Nat):Prop:=(u1=1/\v1=0/\u2=0)\/(u1<=v1/\u2<=v2/\1<=u2/\1<=v1)
def z29(a b u0 u1 v0 v1:Nat)(ev:Bool):Prop:=∃x y,Lrel a b x y u0 u1 v0 v1 (!ev)/\v1<=y/\v0+v1<=x-y/\u0<=v0/\u1<=v1/\1<=u1/\1<=v0/\v0<=v1
def Lsim (a b x y u0 u1 u2 v0 v1 v2:Nat)(ev:Bool):Prop:=Lrel a b x y u1 u2 v1 v2 ev/\1<=v2/\v1<=v2/\Lst u1 u2 v1 v2/\(v0=0\/z29 a b u0 u1 v0 v1 ev)
def zze(a b:Nat):Lsim a b a b 0 1 0 0 0 1 false:=⟨⟨by simp,by simp,by simp⟩,ybk _,by omega,.inl ⟨rfl,rfl,rfl⟩,.inl rfl⟩
def zzd{a b x y u0 u1 u2 v0 v1 v2:Nat}{ev:Bool}(h:Lsim a b x y u0 u1 u2 v0 v1 v2 ev)(hy:0<y)(h1:v2<=y)(h2:v1+v2<=x-y) :
  Lsim a b y (x%y) u1 u2 (u1+x / y*u2) v1 v2 (v1+x / y*v2) (!ev):=by
 obtain⟨k1,k2,k5,k3,k4⟩:=h
 have hq:1<=x / y:=by rw[Nat.le_div_iff_mul_le hy];omega
 have hdm:=ych x y
 generalize x / y=q at *
 generalize x%y=r at *
 have hv2:v2<=q*v2:=yan _ hq
 have hu2:u2<=q*u2:=yan _ hq
 refine⟨?_,by omega,by omega,?_,?_⟩
 ·cases ev with
  | false=>
   obtain⟨m1,m2,m3⟩:=k1
   refine⟨?_,m3,?_⟩
   ·rw[ybo,ybm,m1]
    have:q*u2*v2=u2*(q*v2):=by rw[ybh q u2,ybj]
    omega
   ·-- r+(v1+q v2) b=(u1+q u2) a
    show r+(v1+q*v2)*b=(u1+q*u2)*a
    have e:q*(y+u2*a)=q*(v2*b):=by rw[m3]
    rw[ybm,<- ybj,<- ybj,ybh q y]at e;rw[ybo,ybo];omega
  | true=>
   obtain⟨m1,m2,m3⟩:=k1
   refine⟨?_,m3,?_⟩
   ·show u2*(v1+q*v2)=(u1+q*u2)*v2+1
    rw[ybo,ybm,m1];have:q*u2*v2=u2*(q*v2):=by rw[ybh q u2,ybj]
    omega
   ·show r+(u1+q*u2)*a=(v1+q*v2)*b
    have e:q*(y+v2*b)=q*(u2*a):=by rw[m3]
    rw[ybm,<- ybj,<- ybj,ybh q y]at e;rw[ybo,ybo];omega
 ·right
  rcases k3 with⟨e1,e2,e3⟩ | ⟨g1,g2,g3,g4⟩
  ·subst e1 e2 e3
   refine⟨by omega,?_,by omega,by omega⟩
   simp only[yat,ybw,yct];omega
  ·have:=ybv q g2
   exact⟨g2,by omega,by omega,by omega⟩
 ·rcases k3 with⟨e1,e2,e3⟩ | ⟨g1,g2,g3,g4⟩
  ·exact .inl e2
  ·right
   exact⟨x,y,by rw[Bool.not_not];exact k1,h1,h2,g1,g2,g3,g4,k5⟩
end Go.Am
namespace Go.Am
def dX{p q r s A B X Y:Nat}(hdet:p*s=q*r+1)(hX:X+r*B=p*A)(hY:Y+q*A=s*B):A=s*X+r*Y/\B=q*X+p*Y:=by
 have a1:s*(X+r*B)=s*(p*A):=by rw[hX]
 have a2:r*(Y+q*A)=r*(s*B):=by rw[hY]
 have a3:q*(X+r*B)=q*(p*A):=by rw[hX]
 have a4:p*(Y+q*A)=p*(s*B):=by rw[hY]
 have d1:p*s*A=q*r*A+A:=by rw[hdet,ybo,Nat.one_mul]
 have d2:p*s*B=q*r*B+B:=by rw[hdet,ybo,Nat.one_mul]
 have e1:s*(p*A)=p*s*A:=by rw[<- ybj,ybh s p]
 have e2:r*(q*A)=q*r*A:=by rw[<- ybj,ybh r q]
 have e3:s*(r*B)=r*(s*B):=Nat.mul_left_comm _ _ _
 have e4:q*(p*A)=p*(q*A):=Nat.mul_left_comm _ _ _
 have e5:q*(r*B)=q*r*B:=(ybj _ _ _).symm
 have e6:p*(s*B)=p*s*B:=(ybj _ _ _).symm
 rw[ybm]at a1 a2 a3 a4;constructor<;>omega
def zjy{p q r s a b A B W α β x y:Nat}(hx:x+r*b=p*a)(hy:y+q*a=s*b)(hA:A=W*a+α)(hB:B=W*b+β)(ha:α<W)(hb:β<W)(hrs:r+s<=x-y)(h1:1<=r+s)(hq:q<=y) :
  ∃X Y,X+r*B=p*A/\Y+q*A=s*B/\Y<X:=by
 obtain⟨D,hD⟩:∃D,x=y+D:=⟨x-y,by omega⟩
 have w1:p*A=W*x+r*(W*b)+p*α:=by
  rw[hA,ybm,Nat.mul_left_comm p W,<- hx,ybm,Nat.mul_left_comm W r]
 have w2:r*B=r*(W*b)+r*β:=by rw[hB,ybm]
 have w3:s*B=W*y+q*(W*a)+s*β:=by
  rw[hB,ybm,Nat.mul_left_comm s W,<- hy,ybm,Nat.mul_left_comm W q]
 have w4:q*A=q*(W*a)+q*α:=by rw[hA,ybm]
 have i1:r*β<=W*D:=by
  rw[ybh W D];exact ydb (by omega) (by omega)
 have i2:q*α<=W*y:=by
  rw[ybh W y];exact ydb hq (by omega)
 have i3:(r+s)*β<W*D:=by
  have h2:(r+s)*β<(r+s)*W:=Nat.mul_lt_mul_of_pos_left hb (by omega)
  have h3:(r+s)*W<=D*W:=ybi _ (by omega)
  rw[ybh W D];omega
 have w5:W*x=W*y+W*D:=by rw[hD,ybm]
 rw[ybo]at i3;exact⟨p*A-r*B,s*B-q*A,by omega,by omega,by omega⟩
def lehmer{a b A B W α β u0 u1 v0 v1:Nat}{ev:Bool}(hA:A=W*a+α)(hB:B=W*b+β)(ha:α<W)(hb:β<W)(h:z29 a b u0 u1 v0 v1 ev) :
  ∃X Y,(ev=true->X+v0*B=u0*A/\Y+u1*A=v1*B)/\(ev=false->X+u0*A=v0*B/\Y+v1*B=u1*A)/\Y<X/\A=v1*X+v0*Y/\B=u1*X+u0*Y/\X+Y<A+B:=by
 obtain⟨x,y,k1,k2,k3,k4,k5,k6,k7,_⟩:=h
 have uE:∀X Y:Nat,Y<X->A=v1*X+v0*Y->B=u1*X+u0*Y->X+Y<A+B:=by
  intro X Y g1 g2 g3;have j1:X<=v1*X:=yan _ (by omega)
  have j2:X<=u1*X:=yan _ (by omega)
  omega
 cases ev with
 | true=>
  obtain⟨m1,m2,m3⟩:=k1
  obtain⟨X,Y,g1,g2,g3⟩:=zjy m2 m3 hA hB ha hb k3 (by omega) (by omega)
  obtain⟨d1,d2⟩:=dX m1 g1 g2
  exact⟨X,Y,fun _=>⟨g1,g2⟩,(fun h=>absurd h (by decide)),g3,d1,d2,uE X Y g3 d1 d2⟩
 | false=>
  obtain⟨m1,m2,m3⟩:=k1
  obtain⟨X,Y,g1,g2,g3⟩:=zjy m2 m3 hB hA hb ha (by omega) (by omega) k2
  have m1':v0*u1=v1*u0+1:=by rw[ybh v0 u1,ybh v1 u0];exact m1
  obtain⟨d1,d2⟩:=dX m1' g1 g2
  exact⟨X,Y,(fun h=>absurd h (by decide)),fun _=>⟨g1,g2⟩,g3,d2,d1,uE X Y g3 d2 d1⟩
def zn5{a b u0 u1 v0 v1:Nat}{ev:Bool}(ha:a<18446744073709551616)(hb:b<18446744073709551616)(h:z29 a b u0 u1 v0 v1 ev):u0<4294967296/\u1<4294967296/\v0<4294967296/\v1<4294967296:=by
 obtain⟨x,y,k1,k2,k3,k4,k5,k6,k7,k8⟩:=h
 have key:a=v1*x+v0*y:=by
  cases ev with
  | true=>
   obtain⟨m1,m2,m3⟩:=k1
   exact(dX m1 m2 m3).1
  | false=>
   obtain⟨m1,m2,m3⟩:=k1
   have m1':v0*u1=v1*u0+1:=by rw[ybh v0 u1,ybh v1 u0];exact m1
   exact(dX m1' m2 m3).2
 have:v1<4294967296:=by
  rcases yau v1 4294967296 with g | g
  ·exact g
  ·exfalso
   have:4294967296*4294967296<=v1*x:=ydb g (by omega)
   omega
 omega
end Go.Am
namespace Go.Am
def zzv{B:Nat}{l:List Nat}{m:Nat}(hl:l.length<=m+3):val B l=val B (l.take m)+B^m*(wd l m+B*(wd l (m+1)+B*wd l (m+2))):=by
 have h0:=tV B l m
 have h1:val B (l.take (m+2))=val B (l.take (m+1))+B^(m+1)*wd l (m+1):=tV B l (m+1)
 have h2:val B (l.take (m+3))=val B (l.take (m+2))+B^(m+2)*wd l (m+2):=tV B l (m+2)
 have p1:B^(m+1)=B^m*B:=yag _ _
 have p2:B^(m+2)=B^m*B*B:=by rw[yag,yag]
 rw[yca hl]at h2;rw[p1]at h1;rw[p2]at h2;rw[h2,h1,h0,ybm (B^m),ybm B,ybm (B^m)]
 simp only[ybj];omega
def zpy{B p K m:Nat}{l:List Nat}(hB:B=p*K)(hp:0<p)(hB0:0<B)(hlt:tB B l)(hl:l.length<=m+3) :
  (wd l (m+2)*B+wd l (m+1))*K+wd l m / p=val B l / (B^m*p):=by
 have h1:=zzv (B:=B) hl
 have h2:val B (l.take m)<B^m:=by
  have h:=yK hB0 (cQ hlt m)
  exact Nat.lt_of_lt_of_le h (yao hB0 (by simp;omega))
 have h3:val B l / B^m=wd l m+B*(wd l (m+1)+B*wd l (m+2)):=by
  rw[h1,Nat.add_mul_div_left _ _ (Nat.pow_pos hB0),Nat.div_eq_of_lt h2,ybw]
 rw[<- Nat.div_div_eq_div_mul,h3];generalize wd l m=x
 have e:B*(wd l (m+1)+B*wd l (m+2))=p*(K*(wd l (m+2)*B+wd l (m+1))):=by
  rw[<- ybj p,<- hB,ybh (wd l (m+2)),yap]
 rw[e,Nat.add_mul_div_left _ _ hp,ybh K,yap]
end Go.Am
namespace Go.Proofs
open Go Go.Am
variable [jC]
variable {t:Tr qA}
def zl2{la lb:List Nat}{pa pb:zA}{m top:Nat}{Q:bB}(ha:lA t 1 (sB .u32 la) pa)(hb:lA t 1 (sB .u32 lb) pb)(hal:tB BB la)(hbl:tB BB lb)(hla:la.length=m+3)(hm:m<700000)(hlb:lb.length<=m+3)(htop:la[m+2]?=some top)(ht0:0<top)(hle:val BB lb<=val BB la)
  (hQ:∀u0 u1 v0 v1 ev W,0<W->val BB la / W<18446744073709551616->val BB lb / W<18446744073709551616->(v0=0\/z29 (val BB la / W) (val BB lb / W) u0 u1 v0 v1 ev)->Q (.agg [.int .u64 (u0:Int),.int .u64 (u1:Int),.int .u64 (v0:Int),.int .u64 (v1:Int),.bool ev]) t) :
  Wc yA F 204 [pa,pb] t Q:=by
 have hBB:=aJ
 have htlt:top<4294967296:=by have:=aH hal htop;omega
 obtain⟨s,hs,hs1,hs2,hs3⟩:=zwd (t:=t) htlt ht0
 obtain⟨c,off,g1,g2⟩:=ha.idx qF htop
 have hK:BB=2^(32-s)*2^s:=by rw[<- Nat.pow_add,show 32-s+s=32 by omega,hBB]
 have hp:0<2^(32-s):=Nat.pow_pos (by decide)
 have va:=zpy hK hp mG hal (m:=m) (by omega)
 have vb:=zpy hK hp mG hbl hlb
 have hW:0<BB^m*2^(32-s):=Nat.mul_pos (Nat.pow_pos mG) hp
 have hdiv:val BB lb / (BB^m*2^(32-s))<=val BB la / (BB^m*2^(32-s)):=Nat.div_le_div_right hle
 have hwt:wd la (m+2)=top:=by unfold wd;rw[htop];rfl
 have wa1:=zli mG hal (m+1)
 have wa0:=zli mG hal m
 have hz:wd la m / 2^(32-s)<2^s:=ycu (by rw[<- hK];exact wa0)
 rw[hBB]at va vb;have bigA:(wd la (m+2)*4294967296+wd la (m+1))*2^s+wd la m / 2^(32-s)<18446744073709551616:=by
  rw[hwt];have q1:top+1<=2^(32-s):=by
   have:top*2^s<2^(32-s)*2^s:=by rw[<- hK,hBB];exact hs2
   exact Nat.lt_of_mul_lt_mul_right this
  have q2:(top*4294967296+wd la (m+1))+1<=2^(32-s)*4294967296:=by
   have:=ybi 4294967296 q1
   omega
  have q3:=ybi (2^s) q2
  have q4:2^(32-s)*4294967296*2^s=18446744073709551616:=by
   have:2^(32-s)*2^s=4294967296:=by rw[<- hK,hBB]
   rw[Nat.mul_right_comm,this]
  rw[ybo,Nat.one_mul]at q3;omega
 have hBB':∀l,val 4294967296 l=val BB l:=fun l=>by rw[hBB]
 have hPP:(4294967296:Nat)^m=BB^m:=by rw[hBB]
 rw[hBB',hPP]at va vb;have mD:(wd lb (m+2)*4294967296+wd lb (m+1))*2^s+wd lb m / 2^(32-s)<18446744073709551616:=by
  rw[va]at bigA;rw[vb];exact yam hdiv bigA
 have h1:=zxk (n:=m+3) (s:=s) ha hal (by omega) (by omega) hs (yam (Nat.le_add_right _ _) bigA)
 have h2:=zxk (n:=m+3) (s:=s) hb hbl (by omega) (by omega) hs (yam (Nat.le_add_right _ _) mD)
 rw[show m+3-1=m+2 by omega,show m+3-2=m+1 by omega,show m+3-3=m by omega]at h1 h2;rw[va]at h1 bigA;rw[vb]at h2 mD;generalize hw:BB^m*2^(32-s)=W at *
 have e1:((m+3:Nat):Int)-1=((m+2:Nat):Int):=by omega
 refine w204 _ _ ?_
 simp only[t204,pA,ha.len,sA,qB,iE,hla,e1];rw[wrap_i64 (by omega) (by omega),g1,sA,g2,sA,qB,sA,q212,hs3,sA,qB,sA,q213,h1,sA,qB,sA,q213,h2,sA,qB,sA]
 simp only[if_true];exact zg4 (P:=Lsim (val BB la / W) (val BB lb / W)) bigA mD (fun x y u0 u1 u2 v0 v1 v2 ev hP hy k1 k2=>zzd hP hy k1 k2) (fun x y u0 u1 u2 v0 v1 v2 ev hP=>hQ u0 u1 v0 v1 ev W hW bigA mD hP.2.2.2.2) _ _ 0 1 0 0 0 1 false 0 0 0 0 false (zze _ _) (by omega) (by omega) hdiv (by omega) (by omega)
end Go.Proofs
namespace Go.Am
def zxt{A B X Y u0 u1 v0 v1:Nat}{ev:Bool}(h1:ev=true->X+v0*B=u0*A/\Y+u1*A=v1*B)(h2:ev=false->X+u0*A=v0*B/\Y+v1*B=u1*A)(hA:A=v1*X+v0*Y)(hB:B=u1*X+u0*Y):Nat.gcd X Y=Nat.gcd A B:=by
 have gX:=Nat.gcd_dvd_left X Y
 have gY:=Nat.gcd_dvd_right X Y
 have gA:=Nat.gcd_dvd_left A B
 have gB:=Nat.gcd_dvd_right A B
 refine Nat.dvd_antisymm (Nat.dvd_gcd ?_ ?_) (Nat.dvd_gcd ?_ ?_)
 ·generalize Nat.gcd X Y=g at *
  rw[hA];exact Nat.dvd_add (yce gX _) (yce gY _)
 ·generalize Nat.gcd X Y=g at *
  rw[hB];exact Nat.dvd_add (yce gX _) (yce gY _)
 ·generalize Nat.gcd A B=g at *
  cases ev with
  | true=>
   have:=(h1 rfl).1
   exact(Nat.dvd_add_left (yce gB v0)).1 (this ▸ yce gA u0)
  | false=>
   have:=(h2 rfl).1
   exact(Nat.dvd_add_left (yce gA u0)).1 (this ▸ yce gB v0)
 ·generalize Nat.gcd A B=g at *
  cases ev with
  | true=>
   have:=(h1 rfl).2
   exact(Nat.dvd_add_left (yce gA u1)).1 (this ▸ yce gB v1)
  | false=>
   have:=(h2 rfl).2
   exact(Nat.dvd_add_left (yce gB v1)).1 (this ▸ yce gA u1)
def zxu{a b q r:Nat}(h:a=b*q+r):Nat.gcd b r=Nat.gcd a b:=by
 subst h;rw[Nat.gcd_comm (b*q+r) b,ybh,Nat.gcd_comm b (q*b+r),Nat.gcd_mul_right_add_left]
 exact Nat.gcd_comm _ _
def z6o{x y:Nat}:Nat.gcd y (x%y)=Nat.gcd x y:=by
 rw[Nat.gcd_comm y (x%y),<- Nat.gcd_rec,Nat.gcd_comm]
def ziv{B:Nat}{l:List Nat}(hB:0<B)(h:tB B l)(hl:l.length<=2):val B l<B*B:=by
 have h1:=yK hB h
 have h2:B^l.length<=B^2:=yao hB hl
 rw[Nat.pow_two]at h2;omega
end Go.Am
namespace Go.Proofs
open Go Go.Am
variable [jC]
variable {t:Tr qA}
def tN{c:Prop}{d:Decidable c}{P Q:Prop}(h:c)(k:P):@ite Prop c d P Q:=by rw[yab h];exact k
def ite_no{c:Prop}{d:Decidable c}{P Q:Prop}(h:¬ c)(k:Q):@ite Prop c d P Q:=by rw[yaa h];exact k
def znb{Q:bB}:∀(y x:Nat),x<18446744073709551616->y<18446744073709551616->(∀t' r rv,dA t t'->lA t' 1 (sB .u32 r) rv->tB BB r->norm r->val BB r=Nat.gcd x y->Q rv t')->jp 194 6 [.int .u64 (x:Int),.int .u64 (y:Int)] t Q:=by
 have hBB:=aJ
 intro y;induction y using Nat.strongRecOn with
 | ind y ih=>
  intro x hx hy hQ;refine j194_6 _ _ ?_
  simp only[z3m,pA,zhg];by_cases h0:y=0
  ·subst h0
   rw[yaa (by simp)]
   simp only[q208];refine z0e hx fun t' v' h1 h2=>?_
   have a1:=zk2 hx
   have a2:=zqw x
   rw[<- hBB]at a1 a2;exact hQ t' (zfb x) v' h1 h2 a1 (zmm x) (by rw[a2,Nat.gcd_zero_right])
  ·rw[yab (by omega),tW (by omega),sA,qB,sA]
   have hm:=ycy x (show 0<y by omega)
   have hg:=z6o (x:=x) (y:=y)
   generalize x%y=z at *
   exact ih z hm y hy (by omega) fun t' r rv k1 k2 k3 k4 k5=>hQ t' r rv k1 k2 k3 k4 (by rw[k5,hg])
def zwg{l:List Nat}{v:zA}(hv:lA t 1 (sB .u32 l) v)(hl:l.length<=2)(hlt:tB BB l):wC yA F 207 [v] t=some (.int .u64 ((val BB l:Nat):Int)):=by
 have hBB:=aJ
 rw[hBB]at hlt ⊢
 exact z5z hv hl hlt
def zyr{la lb:List Nat}{pa pb:zA}{Q:bB}(ha:lA t 1 (sB .u32 la) pa)(hb:lA t 1 (sB .u32 lb) pb)(hal:tB BB la)(hbl:tB BB lb)(hla:la.length<=2)(hlb:lb.length<=2)
  (hQ:∀t' r rv,dA t t'->lA t' 1 (sB .u32 r) rv->tB BB r->norm r->val BB r=Nat.gcd (val BB la) (val BB lb)->Q rv t'):jp 194 33 [pa,pb] t Q:=by
 have hBB:=aJ
 have b1:=ziv mG hal hla
 have b2:=ziv mG hbl hlb
 refine z6b _ _ ?_
 simp only[zuu,pA,q207,zwg ha hla hal,zwg hb hlb hbl,sA,qB];rw[hBB]at b1 b2;have hBB':∀l,val 4294967296 l=val BB l:=fun l=>by rw[hBB]
 rw[hBB']at b1 b2;exact znb _ _ b1 b2 hQ
def zys{Q:bB}{t0:Tr qA}{G:Nat}(hQ:∀t' r rv,dA t0 t'->lA t' 1 (sB .u32 r) rv->tB BB r->norm r->val BB r=G->Q rv t'):∀(n:Nat) (la lb:List Nat) (pa pb:zA) (t:Tr qA),val BB la+val BB lb=n->dA t0 t->lA t 1 (sB .u32 la) pa->lA t 1 (sB .u32 lb) pb->tB BB la->tB BB lb->norm la->norm lb->val BB lb<=val BB la->la.length<700000->Nat.gcd (val BB la) (val BB lb)=G->jp 194 2 [pa,pb] t Q:=by
 have hBB:=aJ
 have hB1:1<BB:=by omega
 intro n;induction n using Nat.strongRecOn with
 | ind n ih=>
  intro la lb pa pb t hn ht ha hb hal hbl han hbn hle hlen hg;have hlb:lb.length<=la.length:=bN hB1 hal hbn hle
  refine j194_2 _ _ ?_
  simp only[z3n,pA,hb.len,sA,qB,iE,iD];by_cases h2:2<lb.length
  ·rw[yab (by omega)]
   have hb0:lb≠[]:=by intro e;subst e;simp at h2
   have hbpos:0<val BB lb:=by
    rcases yav (val BB lb)with h | h
    ·exact absurd (nX mG hbn h) hb0
    ·exact h
   obtain⟨m,hm⟩:∃m,la.length=m+3:=⟨la.length-3,by omega⟩
   obtain⟨top,htop⟩:=getElem?_of_lt (l:=la) (i:=m+2) (by omega)
   have ha0:la≠[]:=by intro e;subst e;simp at hm
   have ht0:0<top:=by
    have:=han ha0
    have hlast:la.getLast ha0=top:=by
     rw[List.getLast_eq_getElem];have:la[la.length-1]?=some top:=by rw[hm];exact htop
     rw[ybd (by omega)]at this
     exact yci this
    rw[hlast]at this;omega
   rw[q204];refine zl2 ha hb hal hbl hm (by omega) (by omega) htop ht0 hle fun u0 u1 v0 v1 ev W hW hA hB hL=>?_
   have eG:zs7 [(.int .u64 0),(.int .u64 0),(.int .u64 0),(.int .u64 0),(.bool false)] (.agg [.int .u64 (u0:Int),.int .u64 (u1:Int),.int .u64 (v0:Int),.int .u64 (v1:Int),.bool ev])=some (cellsOf [.int .u64 (u0:Int),.int .u64 (u1:Int),.int .u64 (v0:Int),.int .u64 (v1:Int),.bool ev]):=aU rfl
   rw[eG];simp only[sA,cellsOf,z1p,zd7,yaz,yba,if_true,lV];by_cases hv0:v0=0
   ·refine tN (xI.2 (by omega)) ?_
    rw[q205];refine zkj ha hb hlen hal hbl han hbn hb0 fun t' q r qv rv k1 k2 k3 k4 k5 k6 k7 k8 k9=>?_
    simp only[zD,zA.asTup,vA,oF,yaz,yba,sA];refine ih (val BB lb+val BB r) (by omega) lb r pb rv t' rfl (ht.trans k1) (hb.mono k1) k3 hbl k5 hbn k7 (by omega) (by omega) ?_
    rw[zxu k8];exact hg
   ·refine ite_no (fun e=>absurd (xI.1 e) (by omega)) ?_
    rcases hL with h | hL
    ·exact absurd h hv0
    obtain⟨s1,s2,s3,s4⟩:=zn5 hA hB hL
    have eA:val BB la=W*(val BB la / W)+val BB la%W:=(ych _ _).symm
    have eB:val BB lb=W*(val BB lb / W)+val BB lb%W:=(ych _ _).symm
    obtain⟨X,Y,l1,l2,l3,l4,l5,l6⟩:=lehmer eA eB (ycy _ hW) (ycy _ hW) hL
    have hgg:=zxt l1 l2 l4 l5
    have hXA:X<=val BB la:=by
     have:X<=v1*X:=yan _ (by
      obtain⟨x,y,_,_,_,_,_,_,w2,w3⟩:=hL;omega)
     omega
    cases ev with
    | true=>
     obtain⟨m1,m2⟩:=l1 rfl
     simp only[if_true];rw[q206];refine vY ha hb hal hbl s1 s3 hlen (by omega) (by omega) fun t1 r1 rv1 k1 k2 k3 k4 k5=>?_
     rw[q206];refine vY (hb.mono k1) (ha.mono k1) hbl hal s4 s2 (by omega) hlen (by omega) fun t2 r2 rv2 j1 j2 j3 j4 j5=>?_
     have e1:val BB r1=X:=by omega
     have e2:val BB r2=Y:=by omega
     refine ih (val BB r1+val BB r2) (by omega) r1 r2 rv1 rv2 t2 rfl (ht.trans (k1.trans j1)) (k2.mono j1) j2 k3 j3 k4 j4 (by omega) ?_ (by rw[e1,e2,hgg];exact hg)
     have:=bN hB1 hal k4 (by rw[e1];exact hXA)
     omega
    | false=>
     obtain⟨m1,m2⟩:=l2 rfl
     simp only[if_true,ybq,if_false];rw[q206];refine vY hb ha hbl hal s3 s1 (by omega) hlen (by omega) fun t1 r1 rv1 k1 k2 k3 k4 k5=>?_
     rw[q206];refine vY (ha.mono k1) (hb.mono k1) hal hbl s2 s4 hlen (by omega) (by omega) fun t2 r2 rv2 j1 j2 j3 j4 j5=>?_
     have e1:val BB r1=X:=by omega
     have e2:val BB r2=Y:=by omega
     refine ih (val BB r1+val BB r2) (by omega) r1 r2 rv1 rv2 t2 rfl (ht.trans (k1.trans j1)) (k2.mono j1) j2 k3 j3 k4 j4 (by omega) ?_ (by rw[e1,e2,hgg];exact hg)
     have:=bN hB1 hal k4 (by rw[e1];exact hXA)
     omega
  ·rw[yaa (by omega)]
   simp only[xI];by_cases h0:lb.length=0
   ·rw[yab (by omega)]
    have:lb=[]:=ycc.1 h0
    subst this;refine hQ t la pa ht ha hal han ?_
    rw[<- hg];simp only[val];rw[Nat.gcd_zero_right]
   ·rw[yaa (by omega)]
    simp only[ha.len,sA,qB,iE,iD];have hb0:lb≠[]:=by intro e;subst e;simp at h0
    by_cases h3:2<la.length
    ·rw[yab (by omega),q205]
     refine zkj ha hb hlen hal hbl han hbn hb0 fun t' q r qv rv k1 k2 k3 k4 k5 k6 k7 k8 k9=>?_
     simp only[zD,zA.asTup,vA,oF,yaz,yba,sA];have:=bN hB1 hbl k7 (Nat.le_of_lt k9)
     refine zyr (hb.mono k1) k3 hbl k5 (by omega) (by omega) fun t2 r2 rv2 j1 j2 j3 j4 j5=>?_
     exact hQ t2 r2 rv2 (ht.trans (k1.trans j1)) j2 j3 j4 (by rw[j5,zxu k8];exact hg)
    ·rw[yaa (by omega)]
     refine zyr ha hb hal hbl (by omega) (by omega) fun t2 r2 rv2 j1 j2 j3 j4 j5=>?_
     exact hQ t2 r2 rv2 (ht.trans j1) j2 j3 j4 (by rw[j5];exact hg)
def cd_ok{la lb:List Nat}{pa pb:zA}{Q:bB}(ha:lA t 1 (sB .u32 la) pa)(hb:lA t 1 (sB .u32 lb) pb)(hal:tB BB la)(hbl:tB BB lb)(han:norm la)(hbn:norm lb)(hla:la.length<700000)(hlb:lb.length<700000)
  (hQ:∀t' r rv,dA t t'->lA t' 1 (sB .u32 r) rv->tB BB r->norm r->val BB r=Nat.gcd (val BB la) (val BB lb)->Q rv t'):Wc yA F 194 [pa,pb] t Q:=by
 have hBB:=aJ
 have hB1:1<BB:=by omega
 have hlt:=zyn hB1 hal hbl han hbn
 refine w194 _ _ ?_
 simp only[t194,pA,q203,z4p (by omega) ha hb,sA,qB,iD]
 by_cases hc:aI la lb<0
 ·rw[yab hc]
  have:=hlt.1 hc
  exact zys hQ _ lb la pb pa t rfl (dA.refl _) hb ha hbl hal hbn han (by omega) hlb (Nat.gcd_comm _ _)
 ·rw[yaa hc]
  have:val BB lb<=val BB la:=Nat.le_of_not_lt fun h=>hc (hlt.2 h)
  exact zys hQ _ la lb pa pb t rfl (dA.refl _) ha hb hal hbl han hbn this hla rfl
end Go.Proofs
