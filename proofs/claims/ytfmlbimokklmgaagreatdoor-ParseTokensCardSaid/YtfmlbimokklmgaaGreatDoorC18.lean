/- The calendar: a date's text as a day. -/
import Derived.Test.YtfmlbimokklmgaaGreatDoorC17
set_option linter.all false
noncomputable section
set_option maxRecDepth 100000
namespace Go.Proofs
open Go Go.Am
variable {a b i m y:Nat}{s:List Nat}
variable [fC]
section
variable {t:Tr vA}{Q:qB}
def zjh(y:Nat):uC yA F 152 [.int .i64 (y:Int)] t=some (.bool (Me y)):=by
 have e:∀k:Nat,Int.tmod (y:Int) (k:Int)=((y%k:Nat):Int):=fun k=>by rw[Int.tmod_eq_emod_of_nonneg (by omega)];omega
 refine fD.2 (w152 ?_)
 unfold t152 bJ rC;rw[show(4:Int)=((4:Nat):Int) from rfl,show(100:Int)=((100:Nat):Int) from rfl,show(400:Int)=((400:Nat):Int) from rfl,e,e,e]
 unfold Me;by_cases h4:y%4=0
 ·refine sA (by rw[tF];exact decide_eq_true (by omega)) ?_
  by_cases h1:y%100=0
  ·refine sB (by rw[tF];simp;omega) ⟨?_,rfl⟩
   rw[tF];congr 1
   by_cases h5:y%400=0
   ·simp[h4,h1,h5]
   ·simp[h4,h1,h5];omega
  ·refine sA (by rw[tF];simp;omega) ⟨?_,rfl⟩
   simp[h4,h1]
 ·refine sB (by rw[tF];simp;omega) ⟨?_,rfl⟩
  simp[h4]
def HS (h:y<1000000):uC yA F 153 [.int .i64 (y:Int)] t=some (.int .i64 (fQ y:Int)):=by
 have e:∀k:Nat,Int.tdiv (y:Int) (k:Int)=((y / k:Nat):Int):=fun k=>by rw[Int.tdiv_eq_ediv_of_nonneg (by omega)];omega
 refine fD.2 (w153 ?_)
 unfold t153 uW;rw[show(4:Int)=((4:Nat):Int) from rfl,show(100:Int)=((100:Nat):Int) from rfl,show(400:Int)=((400:Nat):Int) from rfl,e,e,e]
 have h1:y / 100<=y / 4:=Nat.div_le_div_left (by omega) (by omega)
 have h2:y / 4<=y:=Nat.div_le_self _ _
 have h3:y / 400<=y:=Nat.div_le_self _ _
 simp (disch:=omega) only[gC]
 refine⟨?_,rfl⟩
 unfold fQ;congr 1
 omega
def zjg(hg:bI t) (hi:i<12):sC yA 219 (.ptr 2 0) (.int .i64 (i:Int))=some (.ptr 2 (0+i))/\mA yA 3 ⟨0,t⟩ (.ptr 2 (0+i))=some (.int .i64 ((Mc.getD i 0:Nat):Int)):=by
 refine⟨?_,hg.2.2.load1 kO rfl ?_⟩
 ·unfold sC
  rw[ty219,oA];have e:(zA.int .i64 (i:Int)).asNat=some i:=rfl
  rw[e,oA];simp only[zA.asSlice,zA.asPtr,mE.asArr,oA];rw[kO,oA,qC.2 hi,rE,Nat.mul_one]
 ·have:Mc[i]?=some (Mc.getD i 0):=by
   rw[List.getD_eq_getElem?_getD,ybd (by show i<12;exact hi)];rfl
  rw[ybu,this];rfl
def zfq(hg:bI t)(y m:Nat)(hm:m<1000000):uC yA F 136 [.int .i64 (y:Int),.int .i64 (m:Int)] t=some (.int .i64 (bO y m:Int)):=by
 refine fD.2 (w136 ?_)
 unfold t136 uB;by_cases h1:m<1
 ·refine sA (by rw[lC];exact decide_eq_true (by omega)) ⟨?_,rfl⟩
  unfold bO;rw[yab (.inl h1)];rfl
 refine sB (by rw[lC];simp;omega) ?_
 by_cases h2:12<m
 ·refine sA (by rw[lC];exact decide_eq_true (by omega)) ⟨?_,rfl⟩
  unfold bO;rw[yab (.inr h2)];rfl
 refine sB (by rw[lC];simp;omega) ?_
 have tail:¬ (m=2/\Me y=true)->wp 136 (uQ13 (m:Int)) t fun v' t'=>v'=.int .i64 (bO y m:Int)/\t'=t:=by
  intro hn;unfold uQ13 uI;have e:uW ((m:Int)-1)=((m-1:Nat):Int):=by
   show iA .i64 ((m:Int)-1)=_
   rw[gC (by omega) (by omega)];omega
  obtain⟨k1,k2⟩:=zjg hg (i:=m-1) (by omega)
  rw[e];refine qA k1 (vC k2 (tB ⟨?_,rfl⟩))
  unfold bO;rw[yaa (by omega),yaa hn]
 by_cases h3:m=2
 ·refine sA (by rw[tF];exact decide_eq_true (by omega)) (yB ?_)
  rw[q152,zjh,pA];refine rD ?_
  cases hl:Me y with
  | true=>
   refine sA rfl ⟨?_,rfl⟩
   unfold bO;rw[yaa (by omega),yab ⟨h3,hl⟩];rfl
  | false=>exact sB (by simp) (tail (by rw[hl];simp))
 ·exact sB (by rw[tF];simp;omega) (tail fun h=>h3 h.1)
def Yf(y m:Nat):bO y m<=31:=by
 unfold bO;split
 ·omega
 split
 ·omega
 ·rename_i h1 _
  have:m-1<12:=by omega
  generalize m-1=k at this
  match k,this with
  | 0,_ | 1,_ | 2,_ | 3,_ | 4,_ | 5,_ | 6,_ | 7,_ | 8,_ | 9,_ | 10,_ | 11,_=>decide
def DD(y:Nat):∀k,Gx y k<=31*k:=by
 intro k;induction k with
 | zero=>exact ybk _
 | succ k ih=>unfold Gx;have:=Yf y (k+1);omega
def HT(y:Nat):fQ y<=y+y:=by unfold fQ;omega
def VR (h:a<=b)(hb:b<10000):fQ a<=fQ b:=by unfold fQ;omega
def Vv(hg:bI t) (hm:m<50000):uC yA F 137 [.int .i64 (m:Int)] t=some (.int .i64 (nQ m:Int)):=by
 have ed:Int.tdiv (m:Int) 12=((m / 12:Nat):Int):=by rw[Int.tdiv_eq_ediv_of_nonneg (by omega)];omega
 have em:Int.tmod (m:Int) 12=((m%12:Nat):Int):=by rw[Int.tmod_eq_emod_of_nonneg (by omega)];omega
 refine fD.2 (w137 ?_)
 unfold t137 uI uW;rw[ed];have hq:m / 12<5000:=by omega
 have e1:iA .i64 (iA .i64 (1900+iA .i64 ((m / 12:Nat):Int))-1)=((1899+m / 12:Nat):Int):=by
  simp (disch:=omega) only[gC];omega
 have e2:iA .i64 (1900+iA .i64 ((m / 12:Nat):Int))=((1900+m / 12:Nat):Int):=by
  simp (disch:=omega) only[gC];omega
 have hl1:=HT (1899+m / 12)
 have hl2:=VR (a:=1899) (b:=1899+m / 12) (by omega) (by omega)
 refine yB ?_
 rw[e1,q153,HS (by omega),pA]
 refine tB (yB ?_)
 rw[q153,show(1899:Int)=((1899:Nat):Int) from rfl,HS (by omega),pA,e2]
 refine tB (jC ?_)
 have e3:iA .i64 (iA .i64 (iA .i64 (365*iA .i64 (((1900+m / 12:Nat):Int)-1900))+(fQ (1899+m / 12):Int))-(fQ 1899:Int))=((365*(m / 12)+fQ (1899+m / 12)-fQ 1899:Nat):Int):=by
  simp (disch:=omega) only[gC];omega
 rw[e3];have loop:∀(k i a:Nat),i+k=m%12->a=365*(m / 12)+fQ (1899+m / 12)-fQ 1899+Gx (1900+m / 12) i->jp 137 2 [.int .i64 (m:Int),.int .i64 ((1900+m / 12:Nat):Int),.int .i64 (a:Int),.int .i64 ((i+1:Nat):Int)] t fun v' t'=>v'=.int .i64 (nQ m:Int)/\t'=t:=by
  intro k;induction k with
  | zero=>
   intro i a hi ha;refine zgc ?_
   unfold Vj;rw[em];refine sB (by rw[rS];simp;omega) ⟨?_,rfl⟩
   subst ha;unfold nQ;rw[show i=m%12 by omega]
  | succ k ih=>
   intro i a hi ha;have hs:=DD (1900+m / 12) i
   have hle:=Yf (1900+m / 12) (i+1)
   refine zgc ?_
   unfold Vj uI;rw[em];refine sA (by rw[rS];exact decide_eq_true (by omega)) (yB ?_)
   rw[q136];show sE (uC yA F 136 [.int .i64 ((1900+m / 12:Nat):Int),.int .i64 ((i+1:Nat):Int)] t) _
   rw[zfq hg _ _ (by omega),pA]
   refine tB (jC ?_)
   have e4:xD ((i+1:Nat):Int)=.int .i64 ((i+1+1:Nat):Int):=by
    show zA.int .i64 (iA .i64 (((i+1:Nat):Int)+1))=_
    rw[gC (by omega) (by omega)];rfl
   have e5:uW ((a:Int)+(bO (1900+m / 12) (i+1):Int))=((a+bO (1900+m / 12) (i+1):Nat):Int):=by
    show iA .i64 _=_
    rw[gC (by omega) (by omega)];omega
   rw[e4,e5];exact ih (i+1) _ (by omega) (by show a+bO (1900+m / 12) (i+1)=_+(Gx (1900+m / 12) i+bO (1900+m / 12) (i+1));omega)
 exact loop (m%12) 0 _ (by omega) rfl
def day_ok(hg:bI t){d:Nat}(hy:y<10000)(hm:m<1000)(hd:d<1000):uC yA F 119 [.int .i64 (y:Int),.int .i64 (m:Int),.int .i64 (d:Int)] t=some (.tup [.int .i64 (((Fw y m d).getD 0:Nat):Int),.int .i64 (if (Fw y m d).isSome then 0 else 2)]):=by
 refine fD.2 (w119 ?_)
 unfold t119 uI uB;have bad:∀h:y<1900\/2079<y\/d<1\/bO y m<d,Fw y m d=none:=fun h=>by unfold Fw;rw[yab h]
 by_cases h1:y<1900
 ·rw[bad (.inl h1)]
  exact sA (by rw[lC];exact decide_eq_true (by omega)) ⟨rfl,rfl⟩
 refine sB (by rw[lC];simp;omega) ?_
 by_cases h2:2079<y
 ·rw[bad (.inr (.inl h2))]
  exact sA (by rw[lC];exact decide_eq_true (by omega)) ⟨rfl,rfl⟩
 refine sB (by rw[lC];simp;omega) ?_
 by_cases h3:d<1
 ·rw[bad (.inr (.inr (.inl h3)))]
  exact sA (by rw[lC];exact decide_eq_true (by omega)) ⟨rfl,rfl⟩
 refine sB (by rw[lC];simp;omega) (yB ?_)
 rw[q136];show sE (uC yA F 136 [.int .i64 (y:Int),.int .i64 (m:Int)] t) _
 rw[zfq hg _ _ (by omega),pA]
 refine tB ?_
 by_cases h4:bO y m<d
 ·rw[bad (.inr (.inr (.inr h4)))]
  exact sA (by rw[lC];exact decide_eq_true (by omega)) ⟨rfl,rfl⟩
 refine sB (by rw[lC];simp;omega) (yB ?_)
 have hm1:1<=m:=by
  rcases yau m 1 with h | h
  ·exfalso;apply h4;unfold bO;rw[yab (.inl h)];omega
  ·exact h
 have hs31:=Yf y m
 have e1:uW (uW (uW (12*uW ((y:Int)-1900))+(m:Int))-1)=((12*(y-1900)+m-1:Nat):Int):=by
  unfold uW;simp (disch:=omega) only[gC];omega
 rw[q137];show sE (uC yA F 137 [.int .i64 (uW (uW (uW (12*uW ((y:Int)-1900))+(m:Int))-1))] t) _
 rw[e1,Vv hg (by omega),pA]
 refine tB (yB ?_)
 have hst:nQ (12*(y-1900)+m-1)<1000000:=by
  unfold nQ;have:=DD (1900+(12*(y-1900)+m-1) / 12) ((12*(y-1900)+m-1)%12)
  have:=HT (1899+(12*(y-1900)+m-1) / 12)
  omega
 have e2:uW (uW ((nQ (12*(y-1900)+m-1):Int)+(d:Int))-1)=((nQ (12*(y-1900)+m-1)+d-1:Nat):Int):=by
  unfold uW;simp (disch:=omega) only[gC];omega
 rw[e2];have hn:Fw y m d=if nQ (12*(y-1900)+m-1)+d-1<65536 then some (nQ (12*(y-1900)+m-1)+d-1)else none:=by
  unfold Fw;rw[yaa (by omega)]
 have hisd:uC yA F 138 [.int .i64 ((nQ (12*(y-1900)+m-1)+d-1:Nat):Int)] t=some (.bool (decide (nQ (12*(y-1900)+m-1)+d-1<65536))):=by
  refine fD.2 (w138 ?_)
  unfold t138;generalize nQ (12*(y-1900)+m-1)+d-1=z
  refine sA (by rw[rS];exact decide_eq_true (by omega)) ⟨?_,rfl⟩
  have hz:bB (z:Int) 65536=decide (z<65536):=by
   rw[lC];exact decide_eq_decide.2 (by omega)
  rw[hz]
 rw[q138,hisd,pA,hn];refine rD ?_
 by_cases h5:nQ (12*(y-1900)+m-1)+d-1<65536
 ·rw[yab h5,decide_eq_true h5]
  exact sB (by simp) ⟨rfl,rfl⟩
 ·rw[yaa h5,decide_eq_false h5]
  exact sA rfl ⟨rfl,rfl⟩
def UH{ls:List (List Nat)}{v:zA}(hv:aA t 1 (ls.map D.str) v)(hl:ls.length<100)(hd:∀s∈ls,s.length<=9/\∀b∈s,pD b=true)(hQ:∀t' b,bA t t'->sG t' b .i64 (ls.map tD)->Q (.tup [.slice b 0 ls.length ls.length,.bool true]) t'):Wc yA F 118 [v] t Q:=by
 have hlen:=hv.len
 rw[ybf]at hlen;refine w118 ?_
 unfold t118 uI;refine qA hlen (tB (iC fun b hb hbase=>?_))
 obtain⟨t1,e1,e2,e3,e4⟩:=Fa (C:=yA) (T:=94) (k:=.i64) (n:=ls.length) ty94 rfl kO rfl rfl (by decide) (by omega) hb
 refine⟨_,_,e1,qA hlen (tB (jC ?_))⟩
 have loop:∀(k i:Nat) (row:List Nat) (t1:Tr vA),i+k=ls.length->row=(ls.take i).map tD++List.replicate k 0->bA t t1->sG t1 b .i64 row->jp 118 2 [.slice b 0 ls.length ls.length,v,.int .i64 (ls.length:Int),.int .i64 (i:Int)] t1 Q:=by
  intro k;induction k with
  | zero=>
   intro i row t1 hi hr hle ho;refine zgf ?_
   unfold Vm;refine sB (by rw[lC];simp;omega) ?_
   rw[show i=ls.length by omega,List.take_length,List.replicate_zero,ycd]at hr;subst hr;exact hQ t1 b hle ho
  | succ k ih=>
   intro i row t1 hi hr hle ho;refine zgf ?_
   unfold Vm uS;have hx:ls[i]?=some ls[i]:=ybd (by omega)
   have hxd:(ls.map D.str)[i]?=some (D.str ls[i]):=by rw[ybu,hx];rfl
   obtain⟨b',o',cs,h1,h2,_,_,h3⟩:=sl93.at (fun _=>rfl) (hv.mono hle) hxd
   have e:=cK.1 h3
   subst e;refine sA (by rw[lC];exact decide_eq_true (by omega)) (qA h1 (vC h2 (iF (jC ?_))))
   have ll:(Int.ofNat (zB ls[i]))=(ls[i].length:Int):=by rw[qD];rfl
   rw[ll];obtain⟨hs9,hsd⟩:=hd ls[i] (ycj _)
   have inner:∀(q j:Nat) (t2:Tr vA),j+q=ls[i].length->bA t t2->sG t2 b .i64 ((ls.take i).map tD++tD (ls[i].take j)::List.replicate k 0)->jp 118 6 [.slice b 0 ls.length ls.length,.int .i64 (i:Int),.str ls[i],v,.int .i64 (ls.length:Int),.int .i64 (i:Int),.int .i64 (ls[i].length:Int),.int .i64 (j:Int)] t2 Q:=by
    intro q;induction q with
    | zero=>
     intro j t2 hj hle2 ho2;refine zge ?_
     unfold Vl;refine sB (by rw[lC];simp;omega) (jC ?_)
     have e4:xD (i:Int)=.int .i64 ((i+1:Nat):Int):=by
      show zA.int .i64 (iA .i64 ((i:Int)+1))=_
      rw[gC (by omega) (by omega)];rfl
     rw[e4];refine ih (i+1) _ t2 (by omega) ?_ hle2 ho2
     have htk:ls.take (i+1)=ls.take i++[ls[i]]:=by rw[ydg,hx];rfl
     rw[htk,List.map_append,show j=ls[i].length by omega,List.take_length];simp
    | succ q ih2=>
     intro j t2 hj hle2 ho2;have hy:ls[i][j]?=some ls[i][j]:=ybd (by omega)
     have hyd:48<=ls[i][j]/\ls[i][j]<=57:=by have:=hsd ls[i][j] (ycj _);unfold pD at this;simpa using this
     refine zge ?_
     unfold Vl uU uI;have hla:((ls.take i).map tD).length=i:=by simp;omega
     have hget:((ls.take i).map tD++tD (ls[i].take j)::List.replicate k 0)[i]?=some (tD (ls[i].take j)):=by
      rw[ybp (by omega),hla,Nat.sub_self];rfl
     have ia:=Bi (C:=yA) (b:=b) sl94 (off:=0) (n:=ls.length) (cap:=ls.length) (i:=i) (by omega)
     rw[ybw,Nat.mul_one]at ia;have hb9:tD (ls[i].take j)<1000000000:=by
      have h1:=Fv (s:=ls[i].take j) fun x hx=>hsd x (List.mem_of_mem_take hx)
      have h2:10^(ls[i].take j).length<=10^9:=yao (by omega) (by rw[yda];omega)
      have:(10:Nat)^9=1000000000:=by decide
      omega
     refine sA (by rw[lC];exact decide_eq_true (by omega)) (qA (eM hy) (tB (sB (by rw[lC];simp;omega) (qA (eM hy) (tB (sB (by rw[lC];simp;omega) (qA ia (vC (ho2.load hget kO rfl) (tB (qA (eM hy) (tB (qA ia (iC fun n _ _=>?_)))))))))))))
     have ev:uW (uW (10*((tD (ls[i].take j):Nat):Int))+uW (iA .u8 ((ls[i][j]:Int)-48)))=((tD (ls[i].take (j+1)):Nat):Int):=by
      unfold uW;rw[Of (by omega) (by omega),qQ hy,AD]
      simp (disch:=omega) only[gC]
      omega
     obtain⟨t3,g1,g2,g3⟩:=ho2.store hbase (j:=i) (by simp;omega) (tD (ls[i].take (j+1))) kO rfl
     rw[ev];refine⟨_,_,g1 n,jC ?_⟩
     have e4:xD (j:Int)=.int .i64 ((j+1:Nat):Int):=by
      show zA.int .i64 (iA .i64 ((j:Int)+1))=_
      rw[gC (by omega) (by omega)];rfl
     rw[e4];refine ih2 (j+1) t3 (by omega) (hle2.off hb g3) ?_
     have:((ls.take i).map tD++tD (ls[i].take j)::List.replicate k 0).set i (tD (ls[i].take (j+1)))=(ls.take i).map tD++tD (ls[i].take (j+1))::List.replicate k 0:=DW hla
     rw[this]at g2;exact g2
   refine inner ls[i].length 0 t1 (by omega) hle ?_
   rw[hr,List.replicate_succ]at ho;exact ho
 refine loop ls.length 0 _ t1 (by omega) ?_ e3 e2
 simp
def RF  (h:a<=b)(hb:b<=s.length):vG yA 9 wN (.str s) (some (.int .i64 (a:Int))) (some (.int .i64 (b:Int)))=some (.str ((s.take b).drop a)):=by
 unfold vG dN;rw[fN,oA];simp only[zA.asStr];rw[show mE.isString .string=true from rfl,rE];unfold Ks vR Ax aW;have e:∀n:Nat,uN (n:Int)=some n:=fun _=>rfl
 simp only[oA,zA.asNat,zA.asInt,e,qD,qE.2 hb,qE.2 h,rE,xS,eQ]
def AE (h:bG s=true) (hi:i<10):∃b,s[i]?=some b/\fK i b=true:=by
 unfold bG at h;simp only[ybb,decide_eq_true_eq,ycb,List.mem_range]at h;have h1:=h.2 i hi
 refine⟨s[i]'(by omega),ybd (by omega),?_⟩
 rw[List.getD_eq_getElem?_getD,ybd (by omega)]at h1
 exact h1
def AF (h:bG s=true) (hb:b<=10)(h4:¬ (a<=4/\4<b))(h7:¬ (a<=7/\7<b)):∀x∈(s.take b).drop a,pD x=true:=by
 intro x hx;obtain⟨j,hj⟩:=List.getElem?_of_mem hx
 rw[yde,ydf]at hj;split at hj
 ·rename_i hlt
  obtain⟨y,h1,h2⟩:=AE h (i:=a+j) (by omega)
  rw[h1]at hj
  cases hj;unfold fK at h2;rw[yaa (by omega)]at h2
  exact h2
 ·cases hj
def LY(hg:bI t) (hs:s.length=10)(hd:bG s=true):uC yA F 97 [.str s] t=some (.tup [.int .i64 (((Aq s).getD 0:Nat):Int),.int .i64 (if (Aq s).isSome then 0 else 2)]):=by
 refine Bx (w97 ?_)
 unfold t97 uU uS uB uI;have ll:(Int.ofNat (zB s))=10:=by rw[qD,hs];rfl
 rw[ll];obtain⟨x4,g4,k4⟩:=AE hd (i:=4) (by omega)
 obtain⟨x7,g7,k7⟩:=AE hd (i:=7) (by omega)
 have k4:x4=45:=by simpa[fK]using k4
 have k7:x7=45:=by simpa[fK]using k7
 subst k4 k7
 have i4:=eM g4
 have i7:=eM g7
 have s0:=Ef (s:=s) (k:=4) (by omega)
 have s5:=RF (s:=s) (a:=5) (b:=7) (by omega) (by omega)
 have s8:=Pm (s:=s) (k:=8) (by omega)
 refine sB (by decide) (qA i4 (tB (sB (by decide) (qA i7 (tB (sB (by decide) (qA s0 (iF (qA s5 (iF (qA s8 (iF (iC fun b hb hbase=>?_)))))))))))))
 obtain⟨t1,g1,g2,g3,g5⟩:=Fc (C:=yA) (T:=93) (el:=9) (sz:=1) (n:=3) (cl:=[[.str (s.take 4)],[.str ((s.take 7).drop 5)],[.str (s.drop 8)]]) (ps:=[(0,.str (s.take 4)),(1,.str ((s.take 7).drop 5)),(2,.str (s.drop 8))]) ty93 rfl fN rfl rfl (by decide) rfl (fun i cs hi=>by
  match i,hi with
  | 0,hi=>cases hi;rfl
  | 1,hi=>cases hi;rfl
  | 2,hi=>cases hi;rfl) rfl hb
 have hr:aA t1 1 ([s.take 4,(s.take 7).drop 5,s.drop 8].map D.str) (.slice b 0 3 3):=⟨_,g2,aC.2 ⟨_,_,rfl,cK.2 rfl,aC.2 ⟨_,_,rfl,cK.2 rfl,aC.2 ⟨_,_,rfl,cK.2 rfl,sF.2 rfl⟩⟩⟩⟩
 have d1:∀x∈s.take 4,pD x=true:=by
  have:=AF hd (a:=0) (b:=4) (by omega) (by omega) (by omega)
  simpa using this
 have d2:∀x∈(s.take 7).drop 5,pD x=true:=AF hd (by omega) (by omega) (by omega)
 have d3:∀x∈s.drop 8,pD x=true:=by
  have:=AF hd (a:=8) (b:=10) (by omega) (by omega) (by omega)
  rwa [yca (by omega)]at this
 refine⟨_,_,g1,yB ?_⟩
 rw[q118];refine UH hr (by simp) (fun x hx=>?_) fun t2 b2 h1 h2=>?_
 ·simp only[ybs,List.mem_nil_iff,or_false]at hx
  rcases hx with rfl | rfl | rfl
  ·exact⟨by simp;omega,d1⟩
  ·exact⟨by simp;omega,d2⟩
  ·exact⟨by simp;omega,d3⟩
 have ia:∀i:Nat,i<3->sC yA 94 (.slice b2 0 3 3) (.int .i64 (i:Int))=some (.ptr b2 i):=fun i hi=>by
  have:=Bi (C:=yA) (b:=b2) sl94 (off:=0) (n:=3) (cap:=3) (i:=i) hi
  rwa [ybw,Nat.mul_one]at this
 have l0:=h2.load (j:=0) rfl kO rfl (C:=yA)
 have l1:=h2.load (j:=1) rfl kO rfl (C:=yA)
 have l2:=h2.load (j:=2) rfl kO rfl (C:=yA)
 refine qA rfl (qA rfl (rD (sB (by simp) (qA (ia 0 (by omega)) (vC l0 (tB (qA (ia 1 (by omega)) (vC l1 (tB (qA (ia 2 (by omega)) (vC l2 (tB (yB ?_)))))))))))))
 have b1:=Fv d1
 have b2':=Fv d2
 have b3:=Fv d3
 have n1:(s.take 4).length=4:=by simp;omega
 have n2:((s.take 7).drop 5).length=2:=by simp;omega
 have n3:(s.drop 8).length=2:=by simp;omega
 rw[n1]at b1;rw[n2]at b2'
 rw[n3]at b3;have hle:=g3.trans h1
 rw[q119];show sE (uC yA F 119 [.int .i64 ((tD (s.take 4):Nat):Int),.int .i64 ((tD ((s.take 7).drop 5):Nat):Int),.int .i64 ((tD (s.drop 8):Nat):Int)] t2) _
 rw[day_ok (hg.mono hle) (by omega) (by omega) (by omega),pA]
 exact qA rfl (tB (qA rfl (tB ⟨rfl,hle⟩)))
def xY:Di where
 frac:=fun {s neg tf t L Q} h ho hQ=>Wc.objs (R:=fun v tf'=>∃cs,v=.agg cs/\RD tf' (tI s neg).dd cs) (fracPv h fun t' cs h1 h2=>⟨h1,cs,rfl,h2⟩) ho fun v tf' t' h1 h2 ⟨cs,h3,h4⟩=>by subst h3;exact hQ tf' t' cs h1 h2 h4
 int:=fun h1 h2 h3 h4=>intPv h1 h2 h3 h4
 date:=fun hg ⟨h1,h2,n,h3⟩=>by rw[LY hg h1 h2,h3];rfl
end
end Go.Proofs
namespace Go.Proofs
open Go Go.Am
variable [fC]
section
variable {P:eI}{tf t:Tr vA}{Q E:qB}
def zhp(h:St P tf t 0 0)(hk:Ok P lL 0 tf (oJ P.tk) Q E):gI yA F E 41 [.ptr P.bp 0] t Q:=by
 refine w41 _ ?_
 unfold t41;refine yB ?_
 rw[pE 42];unfold oJ at hk;refine Zq xY _ _ _ _ _ h (hk.bind fun x n1 tf1 t1 v hr hle hst hrd hk1=>?_)
 obtain⟨cs,rfl,hx⟩:=hrd
 refine nC (yQ hx) ?_
 rw[show [zA.int .u8 ((cellsOf cs).i 0),.str ((cellsOf cs).s 1),.int .u8 ((cellsOf cs).i 2),.bool ((cellsOf cs).b 3),(cellsOf cs).v 4,.bool ((cellsOf cs).b 5),(cellsOf cs).v 6,.int .i64 ((cellsOf cs).i 7),(cellsOf cs).v 8]=cs from Cy hx]
 have hall:kB zA.one cs=true:=by
  obtain⟨a,b,c,rfl,_⟩:=aJ hx
  exact hx.all
 refine sA hall (yB ?_)
 rw[pE 43];refine GD hst (hk1.bind fun a n2 tf2 t2 v2 hr2 hl2 hst2 hrd2 hk2=>?_)
 exact sA hall (Ok.now hk2 hst2 ⟨cs,rfl,hx.mono hl2⟩)
def zho(h:St P tf t 0 0)(hk:Ok P rdXV 0 tf (pJ P.tk) Q E):gI yA F E 46 [.ptr P.bp 0] t Q:=by
 refine w46 _ ?_
 unfold t46;refine yB ?_
 rw[pE 47];unfold pJ at hk;refine MF xY h (hk.bind fun x n1 tf1 t1 v hr hle hst hrd hk1=>?_)
 cases x with
 | none=>
  have hrd:v=.tup [.agg zV,.bool false]:=hrd
  subst hrd;refine qA (v:=.agg zV) rfl (nC (X:=cellsOf zV) (uO rfl) (qA (v:=.bool false) rfl (rD (sA (by kernel_rfl) (sA rfl (yB ?_))))))
  rw[pE 48];exact Ok.fail hst hk1
 | some x=>
  obtain⟨cs,rfl,hx⟩:=hrd
  refine qA (v:=.agg cs) rfl (nC (agV hx) (qA (v:=.bool true) rfl (rD ?_)))
  rw[show [zA.int .u8 ((cellsOf cs).i 0),.bool ((cellsOf cs).b 1),(cellsOf cs).v 2,.bool ((cellsOf cs).b 3),(cellsOf cs).v 4,.int .i64 ((cellsOf cs).i 5)]=cs from Iy hx]
  have hall:kB zA.one cs=true:=by
   obtain⟨a,b,rfl,_⟩:=bV hx
   exact hx.all
  refine sA hall (sB (by simp) (yB ?_))
  rw[pE 43];refine GD hst (hk1.bind fun a n2 tf2 t2 v2 hr2 hl2 hst2 hrd2 hk2=>?_)
  exact sA hall (Ok.now hk2 hst2 ⟨cs,rfl,hx.mono hl2⟩)
end
end Go.Proofs
namespace Go.Am
open Go Go.RowKit
variable {args vals:List zA}{E:qB}{base:Nat}{J:wF}{X:Xt}{tm:Tm}{HA:xA}{p:PI}
structure Jr (C:lA) (F:Tr cD) (f:Nat) (fn:Func) (kf:Nat) (A:cD) (l:List pC) (q:uQ) (fc:Func) (kc:Nat) (Ac:cD) (qc:ClQ):Prop where
 isF:F.get f=some A
 isFn:C.fns.get f=some fn
 isK:C.ks.get f=some kf
 prim:C.prims.get f=none
 lt:Nat.blt f yo=true
 body:tE fn.body=false
 split:gV A.code=some (l,q)
 isC:F.get q.cl=some Ac
 isFc:C.fns.get q.cl=some fc
 isKc:C.ks.get q.cl=some kc
 primC:C.prims.get q.cl=none
 bodyC:tE fc.body=false
 clo:Fx Ac.code=some qc
 ok:(Nk fn.results.toList q.o6.toList&&(Nat.ble kf q.d&&Nat.blt q.d fn.ntmps))=true
 okC:(Nat.ble (zB q.bs) kc&&Nat.ble (zB q.bs) fc.ntmps)=true
 okD:Nat.blt qc.d fc.ntmps=true
 rng:iK (sU l)=[]
 rngC:iK qc.c=[]
def defB (C:lA)(F:Tr cD)(f:Nat)(fn:Func)(kf:Nat)(A:cD)(l:List pC)(q:uQ)(fc:Func)(kc:Nat)(Ac:cD)(qc:ClQ):Bool:=
 tE (C.prims.get f)&&Nat.blt f yo && !tE fn.body&&tE (C.prims.get q.cl) && !tE fc.body&&(Nk fn.results.toList q.o6.toList&&(Nat.ble kf q.d&&Nat.blt q.d fn.ntmps)) &&
  (Nat.ble (zB q.bs) kc&&Nat.ble (zB q.bs) fc.ntmps)&&Nat.blt qc.d fc.ntmps&&(match iK (sU l)with | []=>true | _=>false)&&(match iK qc.c with | []=>true | _=>false)
section
variable {C:lA}{F:Tr cD}{f:Nat}{fn fc:Func}{kf kc:Nat}{A Ac:cD}{l:List pC}{q:uQ}{qc:ClQ}{pure pan:Nat->Bool}{t:Tr vA}{Q:qB}
def Jr.of(h1:F.get f=some A)(h2:C.fns.get f=some fn)(h3:C.ks.get f=some kf)(h4:gV A.code=some (l,q))(h5:F.get q.cl=some Ac)(h6:C.fns.get q.cl=some fc)(h7:C.ks.get q.cl=some kc)(h8:Fx Ac.code=some qc)(h:defB C F f fn kf A l q fc kc Ac qc=true):Jr C F f fn kf A l q fc kc Ac qc:=by
 unfold defB at h;simp only[ybb]at h;obtain⟨⟨⟨⟨⟨⟨⟨⟨⟨g1,g2⟩,g3⟩,g4⟩,g5⟩,g6⟩,g7⟩,g8⟩,g9⟩,g10⟩:=h
 have nn:∀ {α:Type} {x:Option α},tE x=true->x=none:=fun {α} {x} h=>by cases x with | none=>rfl | some _=>cases h
 refine⟨h1,h2,h3,nn g1,g2,by simpa using g3,h4,h5,h6,h7,nn g4,by simpa using g5,h8,by simp only[ybb];exact g6,by simp only[ybb];exact g7,g8,?_,?_⟩
 ·split at g9
  ·assumption
  ·cases g9
 ·split at g10
  ·assumption
  ·cases g10
def MM(h:F.get f=some A):(dD F).get f=some A.code:=by unfold dD;rw[Tr.get_mapT,h];rfl
def LO {d:Bool}(h2:C.fns.get f=some fn)(h3:C.ks.get f=some kf)(hb:tE fn.body=false)(hl:(Nat.ble (zB args) kf&&Nat.ble (zB args) fn.ntmps)=true):∃g,pK C f args d=some g/\g.tm=⟨kf,Tr.ofList args,[]⟩:=by
 obtain⟨body,hb⟩:∃b,fn.body=some b:=by
  cases hx:fn.body with
  | none=>rw[hx]at hb;cases hb
  | some b=>exact⟨b,rfl⟩
 refine⟨_,by unfold pK;rw[h2,oA,hb,oA,h3,oA,hl];rfl,rfl⟩
theorem lN.nil{A:Tr pC} {c:pC}(h:iK c=[]):lN A E f c:=fun q hq=>by rw[h]at hq;cases hq
theorem fS.nil   {L:List PtD}(h:L=[]):fS base kf E J L:=fun d hd=>by rw[h]at hd;cases hd
def st_of    (ho:Ov base t X HA)(hk:tm.k=kf):lF base X kf (fun i=>i) X ⟨tm,[],.leaf,[]⟩ tm HA t:=
 ⟨ho,jI.refl _,hk,hk,fun _ _ h=>h,fun _ _ h=>(by cases h),fun d l h=>(by rw[show(Tr.leaf:Tr (List zA)).get d=none from Tr.get_leaf _]at h;cases h),fun d _ l _ h=>(by rw[show(Tr.leaf:Tr (List zA)).get d=none from Tr.get_leaf _]at h;cases h)⟩
def AK(h:Jr C F f fn kf A l q fc kc Ac qc) {cells:List zA}{v:zA}{W:wF} (hW:tQ C (dD F) E W)(hY:Bd C (dD F) W)(hpts:∀ κ,yL C (dC C (dD F)) q.cl fc.ntmps qc.c κ=[]) (hl:zB cells=zB q.bs)
  (hv:Dt p ⟨clTm fc.ntmps qc ⟨kc,Tr.ofList cells,[]⟩ v,[],.leaf,[]⟩=some vals) {R:qB} (hw:rA C.base W J (nJ C Ac.la q.cl fc.ntmps qc.c (eX C fc) (kJ kc p vals)) t R):∀X HA,Ov C.base t X HA->fB C.base X E R (bP C (dD F) (dC C (dD F)) q.cl cells v HA):=by
 intro X HA ho;obtain⟨g,h1,h2⟩:=LO (args:=cells) (d:=true) h.isFc h.isKc h.bodyC (by rw[hl];exact h.okC)
 unfold bP;refine fB.ob h.isFc (fB.ob (MM h.isC) (fB.ob h.clo ?_))
 have hg:(tE (C.prims.get q.cl)&&Nat.blt qc.d fc.ntmps)=true:=by rw[h.primC,h.okD];rfl
 rw[hg];show fB C.base X E R (ob (pK C q.cl cells true) _)
 refine fB.ob h1 ?_
 rw[h2];have hst:lF C.base X kc (fun i=>i) X ⟨clTm fc.ntmps qc ⟨kc,Tr.ofList cells,[]⟩ v,[],.leaf,[]⟩ (clTm fc.ntmps qc ⟨kc,Tr.ofList cells,[]⟩ v) HA t:=st_of ho (by unfold clTm;rw[Bz,Bz];rfl)
 exact Bo hW hY qc.c (eX C fc) (jO C fc) (lN.nil h.rngC) (fun _=>Ud) (fS.nil (hpts _)) _ _ _ _ _ _ _ (hst.at hv) hw
def Be(C:lA)(F:Tr cD)(pure pan:Nat->Bool)(f:Nat)(fn:Func)(kf:Nat)(A:cD)(q:uQ)(p:PI)(vals:List zA)(t:Tr vA)(Q:qB):Prop:=
 ∃cells,∃E:qB,wO q.bs (.now (kJ kf p vals).tm.cut)=some cells/\(∀HA,bP C (dD F) (dC C (dD F)) q.cl cells .niliface HA=some (⟨.tup [],false⟩,HA)) ∧
  (∀v t',E v t'->∀X HA,Ov C.base t' X HA->fB C.base X xK (fun _ t''=>rA C.base (Wq C F pure) (fun _ _ _ _=>False) (endT C fn (kJ kf p vals).cut) t'' Q) (bP C (dD F) (dC C (dD F)) q.cl cells v HA)) ∧
  rA C.base (oE C F pure pan E) (fun _ _ _ _=>False) (nJ C A.la f fn.ntmps (.region q.i6 q.o6 false) ⟨endT C fn,fun _ _=>.fail,fun _=>.fail⟩ (kJ kf p vals)) t Q
def zhs(h:Jr C F f fn kf A l q fc kc Ac qc) (hp:p.ll=[]) (hpn:pure pn=false)(ht:Be C F pure pan f fn kf A q p vals t Q){X0:Xt}  {ν:Nat->Nat}(hst:lF C.base X0 kf ν X (kJ kf p vals) tm HA t) :
  fB C.base X0 xK Q (oQ C (dD F) (dC C (dD F)) fn q tm HA):=by
 obtain⟨cells,E,h1,h2,h3,h4⟩:=ht
 have hend:∀tm' H',pM C (dD F) (dC C (dD F)) fn q.cl cells .niliface tm' H'=aU C fn tm' H':=by
  intro tm' H';unfold pM;rw[h2];rfl
 unfold oQ;rw[hst.kA,h.ok];show fB C.base X0 xK Q (ob (wO q.bs (.now tm.cut)) _)
 refine fB.ob (Zs (Lu hst.cut).1 h1) ?_
 have hk:∀X0,SKt C (oE C F pure pan E) (fun _ _ _ _=>False) X0 kf E Q ⟨endT C fn,fun _ _=>.fail,fun _=>.fail⟩ ⟨fun tm' H'=>pM C (dD F) (dC C (dD F)) fn q.cl cells .niliface tm' H',fun _ _ _=>none,fun _ _=>none⟩:=by
  intro X0;refine⟨?_,fun _ _ _ _ _ _ _ _ h=>h.elim,fun _ _ _ _ _ _ _ h=>h.elim⟩
  intro st tm HA t X ν hst hw;simp only[hend];exact Na st tm HA t X ν hst hw
 have hr:=Bo (BC hpn) BA (.region q.i6 q.o6 false) ⟨endT C fn,fun _ _=>.fail,fun _=>.fail⟩ ⟨fun tm' H'=>pM C (dD F) (dC C (dD F)) fn q.cl cells .niliface tm' H',fun _ _ _=>none,fun _ _=>none⟩ (lN.nil rfl) hk (fS.nil rfl) X0 _ _ _ _ _ _ hst h4
 obtain⟨o,t',HA',X',g1,g2,g3,g4⟩:=hr
 have g1:tM C (dC C (dD F)) q.o6 fn.ntmps (fun tm' H'=>pM C (dD F) (dC C (dD F)) fn q.cl cells .niliface tm' H') q.o6.toList tm.cut HA=some (o,HA'):=g1
 refine fB.ob g1 ?_
 cases ho:o.p with
 | false=>
  rw[ho,yaa (by simp)]at g4
  show fB C.base X0 xK Q (some (o,HA'))
  exact⟨o,t',HA',X',rfl,g2,g3,by rw[ho,yaa (by simp)];exact g4⟩
 | true=>
  rw[ho,yab rfl]at g4;show fB C.base X0 xK Q (pM C (dD F) (dC C (dD F)) fn q.cl cells o.v tm.cut HA')
  obtain⟨v,t'',HA'',X'',k1,k2,k3,k4⟩:=kQ.1 (h3 _ _ g4 _ _ g2)
  unfold pM;refine fB.ob k1 ?_
  show fB C.base X0 xK Q (aU C fn tm.cut HA'')
  have hs:=hst.cut
  have hlo:∀d,(kJ kf p vals).cut.lo.get d=none:=by
   intro d;show(iV p.ll (dQ vals (zB p.pl))).get d=none
   rw[hp];exact Tr.get_leaf _
  have hs2:lF C.base X0 kf ν X'' (kJ kf p vals).cut tm.cut HA'' t'':=
   ⟨k2,g3.trans k3,hs.k,hs.kA,hs.tms,hs.ads,fun d l h=>(by rw[hlo]at h;cases h),fun d _ l _ h=>(by rw[hlo]at h;cases h)⟩
  exact Na _ _ _ _ _ _ hs2 k4
def BE(h:Jr C F f fn kf A l q fc kc Ac qc) (hp:p.ll=[])(hpn:pure pn=false) (hl:(Nat.ble (zB args) kf&&Nat.ble (zB args) fn.ntmps)=true)(hpts:∀ κ,yL C (dC C (dD F)) f fn.ntmps (sU l) κ=[])
  (hw:rA C.base (Wq C F pure) (fun i vals t Q=>i=p.id/\Be C F pure pan f fn kf A q p vals t Q) (nJ C A.la f fn.ntmps (sU l) ⟨mU p,fun _ _=>.fail,endT C fn⟩ ⟨⟨kf,Tr.ofList args,[]⟩,[],.leaf,[]⟩) t Q):Wc C F f args t Q:=by
 intro X HA ho;obtain⟨g,h1,h2⟩:=LO (args:=args) (d:=false) h.isFn h.isK h.body hl
 rw[Fy h.lt,h.prim];show fB C.base X xK Q (dC C (dD F) (.func f) args HA)
 rw[Zh];show fB C.base X xK Q (qS C (dD F) (dC C (dD F)) f args HA)
 unfold qS;refine fB.ob (MM h.isF) (fB.ob h.isFn (fB.ob h1 ?_))
 unfold zX;rw[h.split,h2];have hk:∀X0,SKt C (Wq C F pure) (fun i vals t Q=>i=p.id/\Be C F pure pan f fn kf A q p vals t Q) X0 kf xK Q ⟨mU p,fun _ _=>.fail,endT C fn⟩ (Bu C (dD F) (dC C (dD F)) fn q):=by
  intro X0;refine⟨fun st tm HA t X ν hst hw=>?_,fun _ _ _ _ _ _ _ _ h=>h.elim,Na⟩
  unfold mU at hw;rw[lE]at hw;obtain⟨vals,k1,_,k2⟩:=hw
  exact zhs h hp hpn k2 (hst.at k1)
 exact Bo (Jh hpn) Jg (sU l) _ _ (lN.nil h.rng) hk (fS.nil (hpts _)) _ _ _ _ _ _ _ (st_of ho rfl) hw
end
end Go.Am
namespace Go.Proofs
open Go Go.Am
variable {m:Tr vA}{Q:qB}
variable [fC]
def dq0:uQ:=⟨0,#[],0,0,[],0,#[]⟩
def cq0:ClQ:=⟨0,#[],0,0,.skip⟩
def pcs (f:Nat):List pC:=(gD ([],dq0) (gV (ao f).code)).1
def oM (f:Nat):uQ:=(gD ([],dq0) (gV (ao f).code)).2
def cqo (f:Nat):ClQ:=gD cq0 (Fx (ao f).code)
def dB (f cl:Nat):Bool := !tE (F.get f) && !tE (fns.get f) && !tE (ks.get f) && !tE (gV (ao f).code) && !tE (F.get cl) && !tE (fns.get cl) && !tE (ks.get cl) && !tE (Fx (ao cl).code)&&Nat.beq (oM f).cl cl&&defB yA F f (fo f) (ko f) (ao f) (pcs f) (oM f) (fo cl) (ko cl) (ao cl) (cqo cl)
def dA(f cl:Nat)(h:dB f cl=true:=by kernel_rfl):Jr yA F f (fo f) (ko f) (ao f) (pcs f) (oM f) (fo cl) (ko cl) (ao cl) (cqo cl):=by
 unfold dB at h;simp only[ybb]at h;obtain⟨⟨⟨⟨⟨⟨⟨⟨⟨h1,h2⟩,h3⟩,h4⟩,h5⟩,h6⟩,h7⟩,h8⟩,h9⟩,h10⟩:=h
 have e:=kC.1 h9
 exact .of (gO h1) (gO h2) (gO h3) (gO h4) (by rw[e];exact gO h5) (by rw[e];exact gO h6) (by rw[e];exact gO h7) (gO h8) h10
abbrev sM:wF:=fun _ _ _ _=>False
abbrev pR:PI:=⟨11,[1,4,5,6,8],[]⟩
abbrev pS:PI:=⟨3,[0,1,2,3],[]⟩
def t28 (p0:List Nat)(p1:zA):T:=
 .heavy (rI yA 27) fun a0=>
 .heavy (rI yA 29) fun a1=>
 .heavy (rI yA 30) fun a2=>
 .call 22 [(.str p0)] fun a3=>
 .opt (bF 0 a3) fun a4=>.opt (bF 1 a3) fun a5=>.asG [(.int .i64 0),(.int .i64 0)] a5 fun X6=>
 .opt (bF 2 a3) fun a7=>.asI .i64 a7 fun n8=>.heavy (lB yA 29 a1 (.agg [(.int .i64 (X6.i 0)),(.int .i64 (X6.i 1))])) fun _=>
 .heavy (lB yA 30 a2 (.int .i64 n8)) fun _=>
 .light (fun m=>mA yA 30 ⟨0,m⟩ a2) fun a9=>.asI .i64 a9 fun n10=>.ite (!aB n10 0)
 (.light (fun m=>mA yA 27 ⟨0,m⟩ a0) fun a11=>.asG [(.str []),.nilslice,.nilslice,.nilslice] a11 fun X12=>
 .light (fun m=>mA yA 29 ⟨0,m⟩ a1) fun a13=>.asG [(.int .i64 0),(.int .i64 0)] a13 fun X14=>
 .light (fun m=>mA yA 30 ⟨0,m⟩ a2) fun a15=>.asI .i64 a15 fun n16=>.heavy (lB yA 27 a0 (.agg [(.str (X12.s 0)),(X12.v 1),(X12.v 2),(X12.v 3)])) fun _=>
 .light (fun m=>mA yA 29 ⟨0,m⟩ a1) fun a17=>.ite (same 10 a17 (.agg [(.int .i64 (X14.i 0)),(.int .i64 (X14.i 1))])) (.light (fun m=>mA yA 30 ⟨0,m⟩ a2) fun a18=>.ite (same 10 a18 (.int .i64 n16)) (.heavy (lB yA 29 a1 (.agg [(.int .i64 (X14.i 0)),(.int .i64 (X14.i 1))])) fun _=>
 .light (fun m=>mA yA 30 ⟨0,m⟩ a2) fun a19=>.ite (same 10 a19 (.int .i64 n16)) (.heavy (lB yA 30 a2 (.int .i64 n16)) fun _=>
 .light (fun m=>mA yA 27 ⟨0,m⟩ a0) fun a20=>.light (fun m=>mA yA 29 ⟨0,m⟩ a1) fun a21=>.light (fun m=>mA yA 30 ⟨0,m⟩ a2) fun a22=>.ret (.tup [a20,a21,a22])) .fail) .fail) .fail)
 (.call 25 [(.str p0),(.int .i64 (Int.ofNat (zB p0)))] fun a23=>
 .asG [(.int .i64 0),(.int .i64 0)] a23 fun X24=>
 .ite (kB zA.one [a4]) (.heavy (xM (.agg [a4,(.int .i64 0),(.int .i64 0),(.int .i64 (X24.i 0)),(.int .i64 (X24.i 1))])) fun a25=>
 .jump 11 [p1,a0,a1,a2,a25]) .fail)
def Un(v1:zA)(v4:zA)(v5:zA)(v6:zA)(v8:zA):T:=
 .callv v1 [v8] fun a0=>
 .asG [(.str []),.nilslice,.nilslice,.nilslice] a0 fun X1=>
 .ite true (.heavy (lB yA 27 v4 (.agg [(.str (X1.s 0)),(X1.v 1),(X1.v 2),(X1.v 3)])) fun _=>
 .heavy (lB yA 29 v5 (.agg [(.int .i64 0),(.int .i64 0)])) fun _=>
 .heavy (lB yA 30 v6 (.int .i64 0)) fun _=>
 .light (fun m=>mA yA 27 ⟨0,m⟩ v4) fun a2=>.light (fun m=>mA yA 29 ⟨0,m⟩ v5) fun a3=>.light (fun m=>mA yA 30 ⟨0,m⟩ v6) fun a4=>.ret (.tup [a2,a3,a4])) .fail
def Pg(v0:zA)(v1:zA)(v2:zA)(v3:zA):T:=
 .opt ((aP .neq).f yA 20 (.tmp 8) (.const .nilIface) v3 .niliface) fun a0=>.asB a0 fun b1=>.ite b1
 (.heavy (lB yA 27 v0 (.agg [(.str []),.nilslice,.nilslice,.nilslice])) fun _=>
 .heavy (lB yA 30 v1 (.int .i64 120)) fun _=>
 .opt (Dx yA 123 true v3) fun a2=>.opt (bF 0 a2) fun a3=>.asG [(.int .i64 0),(.int .i64 0),(.int .i64 0)] a3 fun X4=>
 .opt (bF 1 a2) fun a5=>.asB a5 fun b6=>.ite true (.ite b6
 (.heavy (lB yA 29 v2 (.agg [(.int .i64 (X4.i 0)),(.int .i64 (X4.i 1))])) fun _=>
 .ite (same 10 (.int .i64 (X4.i 2)) (.int .i64 (X4.i 2))) (.heavy (lB yA 30 v1 (.int .i64 (X4.i 2))) fun _=>
 .ret (.tup [])) .fail)
 (.ret (.tup []))) .fail)
 (.ret (.tup []))
def Pk(v4 v5 v6:zA):T:=.light (fun m=>mA yA 27 ⟨0,m⟩ v4) fun a2=>.light (fun m=>mA yA 29 ⟨0,m⟩ v5) fun a3=>.light (fun m=>mA yA 30 ⟨0,m⟩ v6) fun a4=>.ret (.tup [a2,a3,a4])
def e28(p0:List Nat)(p1:zA):nJ yA (ao 28).la 28 (fo 28).ntmps (sU (pcs 28)) ⟨mU pR,fun _ _=>.fail,Am.endT yA (fo 28)⟩ ⟨⟨ko 28,Tr.ofList [(.str p0),p1],[]⟩,[],.leaf,[]⟩=t28 p0 p1:=by kernel_rfl
def e28_13(v1 v4 v5 v6 v8:zA):nJ yA (ao 28).la 28 (fo 28).ntmps (.region (oM 28).i6 (oM 28).o6 false) ⟨Am.endT yA (fo 28),fun _ _=>.fail,fun _=>.fail⟩ (kJ (ko 28) pR [v1,v4,v5,v6,v8])=Un v1 v4 v5 v6 v8:=by kernel_rfl
def e28_e(v1 v4 v5 v6 v8:zA):Am.endT yA (fo 28) (kJ (ko 28) pR [v1,v4,v5,v6,v8]).cut=Pk v4 v5 v6:=by kernel_rfl
def e56_3(v0 v1 v2 v3:zA):nJ yA (ao 56).la (oM 28).cl (fo 56).ntmps (cqo 56).c (eX yA (fo 56)) (kJ (ko 56) pS [v0,v1,v2,v3])=Pg v0 v1 v2 v3:=by kernel_rfl
def nil56(a b c:zA)(HA:xA):bP yA (dD F) (dC yA (dD F)) (oM 28).cl [a,b,c] .niliface HA=some (⟨.tup [],false⟩,HA):=by kernel_rfl
def tl28(v1 v4 v5 v6 v8:zA)  (h:rA yA.base (oE yA F mB vE fun v t'=>rA yA.base (Wq yA F mB) sM (Pg v4 v6 v5 v) t' fun _ t''=>rA yA.base (Wq yA F mB) sM (Pk v4 v5 v6) t'' Q) sM (Un v1 v4 v5 v6 v8) m Q) :
  Be yA F mB vE 28 (fo 28) (ko 28) (ao 28) (oM 28) pR [v1,v4,v5,v6,v8] m Q:=by
 refine⟨[v4,v6,v5],(fun v t'=>rA yA.base (Wq yA F mB) sM (Pg v4 v6 v5 v) t' fun _ t''=>rA yA.base (Wq yA F mB) sM (Pk v4 v5 v6) t'' Q),by kernel_rfl,nil56 _ _ _,fun v t' hv=>?_,by rw[e28_13];exact h⟩
 refine AK (dA 28 56) (p:=pS) (W:=Wq yA F mB) (Jh (by kernel_rfl)) Jg (by intro κ;kernel_rfl) (by kernel_rfl) (vals:=[v4,v6,v5,v]) (by kernel_rfl) (J:=sM) ?_
 rw[e56_3,e28_e];exact hv
def w28(p0:List Nat)(p1:zA)  (h:rA yA.base (Wq yA F mB) (fun i vals t Q=>i=11/\Be yA F mB vE 28 (fo 28) (ko 28) (ao 28) (oM 28) pR vals t Q) (t28 p0 p1) m Q):Wf 28 [(.str p0),p1] m Q:=
 BE (pan:=vE) (dA 28 56) (p:=pR) rfl (by kernel_rfl) (by kernel_rfl) (by intro κ;kernel_rfl) (by rw[e28];exact h)
def t40 (p0:List Nat)(p1:zA):T:=
 .heavy (rI yA 50) fun a0=>
 .heavy (rI yA 29) fun a1=>
 .heavy (rI yA 30) fun a2=>
 .call 22 [(.str p0)] fun a3=>
 .opt (bF 0 a3) fun a4=>.opt (bF 1 a3) fun a5=>.asG [(.int .i64 0),(.int .i64 0)] a5 fun X6=>
 .opt (bF 2 a3) fun a7=>.asI .i64 a7 fun n8=>.heavy (lB yA 29 a1 (.agg [(.int .i64 (X6.i 0)),(.int .i64 (X6.i 1))])) fun _=>
 .heavy (lB yA 30 a2 (.int .i64 n8)) fun _=>
 .light (fun m=>mA yA 30 ⟨0,m⟩ a2) fun a9=>.asI .i64 a9 fun n10=>.ite (!aB n10 0)
 (.light (fun m=>mA yA 50 ⟨0,m⟩ a0) fun a11=>.asG [(.int .u8 0),(.str []),(.int .u8 0),(.bool false),.nilslice,(.bool false),.nilslice,(.int .i64 0),.nilslice] a11 fun X12=>
 .light (fun m=>mA yA 29 ⟨0,m⟩ a1) fun a13=>.asG [(.int .i64 0),(.int .i64 0)] a13 fun X14=>
 .light (fun m=>mA yA 30 ⟨0,m⟩ a2) fun a15=>.asI .i64 a15 fun n16=>.heavy (lB yA 50 a0 (.agg [(.int .u8 (X12.i 0)),(.str (X12.s 1)),(.int .u8 (X12.i 2)),(.bool (X12.b 3)),(X12.v 4),(.bool (X12.b 5)),(X12.v 6),(.int .i64 (X12.i 7)),(X12.v 8)])) fun _=>
 .light (fun m=>mA yA 29 ⟨0,m⟩ a1) fun a17=>.ite (same 10 a17 (.agg [(.int .i64 (X14.i 0)),(.int .i64 (X14.i 1))])) (.light (fun m=>mA yA 30 ⟨0,m⟩ a2) fun a18=>.ite (same 10 a18 (.int .i64 n16)) (.heavy (lB yA 29 a1 (.agg [(.int .i64 (X14.i 0)),(.int .i64 (X14.i 1))])) fun _=>
 .light (fun m=>mA yA 30 ⟨0,m⟩ a2) fun a19=>.ite (same 10 a19 (.int .i64 n16)) (.heavy (lB yA 30 a2 (.int .i64 n16)) fun _=>
 .light (fun m=>mA yA 50 ⟨0,m⟩ a0) fun a20=>.light (fun m=>mA yA 29 ⟨0,m⟩ a1) fun a21=>.light (fun m=>mA yA 30 ⟨0,m⟩ a2) fun a22=>.ret (.tup [a20,a21,a22])) .fail) .fail) .fail)
 (.call 25 [(.str p0),(.int .i64 (Int.ofNat (zB p0)))] fun a23=>
 .asG [(.int .i64 0),(.int .i64 0)] a23 fun X24=>
 .ite (kB zA.one [a4]) (.heavy (xM (.agg [a4,(.int .i64 0),(.int .i64 0),(.int .i64 (X24.i 0)),(.int .i64 (X24.i 1))])) fun a25=>
 .jump 11 [p1,a0,a1,a2,a25]) .fail)
def Um(v1:zA)(v4:zA)(v5:zA)(v6:zA)(v8:zA):T:=
 .callv v1 [v8] fun a0=>
 .asG [(.int .u8 0),(.str []),(.int .u8 0),(.bool false),.nilslice,(.bool false),.nilslice,(.int .i64 0),.nilslice] a0 fun X1=>
 .ite true (.heavy (lB yA 50 v4 (.agg [(.int .u8 (X1.i 0)),(.str (X1.s 1)),(.int .u8 (X1.i 2)),(.bool (X1.b 3)),(X1.v 4),(.bool (X1.b 5)),(X1.v 6),(.int .i64 (X1.i 7)),(X1.v 8)])) fun _=>
 .heavy (lB yA 29 v5 (.agg [(.int .i64 0),(.int .i64 0)])) fun _=>
 .heavy (lB yA 30 v6 (.int .i64 0)) fun _=>
 .light (fun m=>mA yA 50 ⟨0,m⟩ v4) fun a2=>.light (fun m=>mA yA 29 ⟨0,m⟩ v5) fun a3=>.light (fun m=>mA yA 30 ⟨0,m⟩ v6) fun a4=>.ret (.tup [a2,a3,a4])) .fail
def Pf(v0:zA)(v1:zA)(v2:zA)(v3:zA):T:=
 .opt ((aP .neq).f yA 20 (.tmp 8) (.const .nilIface) v3 .niliface) fun a0=>.asB a0 fun b1=>.ite b1
 (.heavy (lB yA 50 v0 (.agg [(.int .u8 0),(.str []),(.int .u8 0),(.bool false),.nilslice,(.bool false),.nilslice,(.int .i64 0),.nilslice])) fun _=>
 .heavy (lB yA 30 v1 (.int .i64 120)) fun _=>
 .opt (Dx yA 123 true v3) fun a2=>.opt (bF 0 a2) fun a3=>.asG [(.int .i64 0),(.int .i64 0),(.int .i64 0)] a3 fun X4=>
 .opt (bF 1 a2) fun a5=>.asB a5 fun b6=>.ite true (.ite b6
 (.heavy (lB yA 29 v2 (.agg [(.int .i64 (X4.i 0)),(.int .i64 (X4.i 1))])) fun _=>
 .ite (same 10 (.int .i64 (X4.i 2)) (.int .i64 (X4.i 2))) (.heavy (lB yA 30 v1 (.int .i64 (X4.i 2))) fun _=>
 .ret (.tup [])) .fail)
 (.ret (.tup []))) .fail)
 (.ret (.tup []))
def Pi(v4 v5 v6:zA):T:=.light (fun m=>mA yA 50 ⟨0,m⟩ v4) fun a2=>.light (fun m=>mA yA 29 ⟨0,m⟩ v5) fun a3=>.light (fun m=>mA yA 30 ⟨0,m⟩ v6) fun a4=>.ret (.tup [a2,a3,a4])
def e40(p0:List Nat)(p1:zA):nJ yA (ao 40).la 40 (fo 40).ntmps (sU (pcs 40)) ⟨mU pR,fun _ _=>.fail,Am.endT yA (fo 40)⟩ ⟨⟨ko 40,Tr.ofList [(.str p0),p1],[]⟩,[],.leaf,[]⟩=t40 p0 p1:=by kernel_rfl
def e40_13(v1 v4 v5 v6 v8:zA):nJ yA (ao 40).la 40 (fo 40).ntmps (.region (oM 40).i6 (oM 40).o6 false) ⟨Am.endT yA (fo 40),fun _ _=>.fail,fun _=>.fail⟩ (kJ (ko 40) pR [v1,v4,v5,v6,v8])=Um v1 v4 v5 v6 v8:=by kernel_rfl
def e40_e(v1 v4 v5 v6 v8:zA):Am.endT yA (fo 40) (kJ (ko 40) pR [v1,v4,v5,v6,v8]).cut=Pi v4 v5 v6:=by kernel_rfl
def e67_3(v0 v1 v2 v3:zA):nJ yA (ao 67).la (oM 40).cl (fo 67).ntmps (cqo 67).c (eX yA (fo 67)) (kJ (ko 67) pS [v0,v1,v2,v3])=Pf v0 v1 v2 v3:=by kernel_rfl
def nil67(a b c:zA)(HA:xA):bP yA (dD F) (dC yA (dD F)) (oM 40).cl [a,b,c] .niliface HA=some (⟨.tup [],false⟩,HA):=by kernel_rfl
def tl40(v1 v4 v5 v6 v8:zA)  (h:rA yA.base (oE yA F mB vE fun v t'=>rA yA.base (Wq yA F mB) sM (Pf v4 v6 v5 v) t' fun _ t''=>rA yA.base (Wq yA F mB) sM (Pi v4 v5 v6) t'' Q) sM (Um v1 v4 v5 v6 v8) m Q) :
  Be yA F mB vE 40 (fo 40) (ko 40) (ao 40) (oM 40) pR [v1,v4,v5,v6,v8] m Q:=by
 refine⟨[v4,v6,v5],(fun v t'=>rA yA.base (Wq yA F mB) sM (Pf v4 v6 v5 v) t' fun _ t''=>rA yA.base (Wq yA F mB) sM (Pi v4 v5 v6) t'' Q),by kernel_rfl,nil67 _ _ _,fun v t' hv=>?_,by rw[e40_13];exact h⟩
 refine AK (dA 40 67) (p:=pS) (W:=Wq yA F mB) (Jh (by kernel_rfl)) Jg (by intro κ;kernel_rfl) (by kernel_rfl) (vals:=[v4,v6,v5,v]) (by kernel_rfl) (J:=sM) ?_
 rw[e67_3,e40_e];exact hv
def w40(p0:List Nat)(p1:zA)  (h:rA yA.base (Wq yA F mB) (fun i vals t Q=>i=11/\Be yA F mB vE 40 (fo 40) (ko 40) (ao 40) (oM 40) pR vals t Q) (t40 p0 p1) m Q):Wf 40 [(.str p0),p1] m Q:=
 BE (pan:=vE) (dA 40 67) (p:=pR) rfl (by kernel_rfl) (by kernel_rfl) (by intro κ;kernel_rfl) (by rw[e40];exact h)
def t45 (p0:List Nat)(p1:zA):T:=
 .heavy (rI yA 47) fun a0=>
 .heavy (rI yA 29) fun a1=>
 .heavy (rI yA 30) fun a2=>
 .call 22 [(.str p0)] fun a3=>
 .opt (bF 0 a3) fun a4=>.opt (bF 1 a3) fun a5=>.asG [(.int .i64 0),(.int .i64 0)] a5 fun X6=>
 .opt (bF 2 a3) fun a7=>.asI .i64 a7 fun n8=>.heavy (lB yA 29 a1 (.agg [(.int .i64 (X6.i 0)),(.int .i64 (X6.i 1))])) fun _=>
 .heavy (lB yA 30 a2 (.int .i64 n8)) fun _=>
 .light (fun m=>mA yA 30 ⟨0,m⟩ a2) fun a9=>.asI .i64 a9 fun n10=>.ite (!aB n10 0)
 (.light (fun m=>mA yA 47 ⟨0,m⟩ a0) fun a11=>.asG [(.int .u8 0),(.bool false),.nilslice,(.bool false),.nilslice,(.int .i64 0)] a11 fun X12=>
 .light (fun m=>mA yA 29 ⟨0,m⟩ a1) fun a13=>.asG [(.int .i64 0),(.int .i64 0)] a13 fun X14=>
 .light (fun m=>mA yA 30 ⟨0,m⟩ a2) fun a15=>.asI .i64 a15 fun n16=>.heavy (lB yA 47 a0 (.agg [(.int .u8 (X12.i 0)),(.bool (X12.b 1)),(X12.v 2),(.bool (X12.b 3)),(X12.v 4),(.int .i64 (X12.i 5))])) fun _=>
 .light (fun m=>mA yA 29 ⟨0,m⟩ a1) fun a17=>.ite (same 10 a17 (.agg [(.int .i64 (X14.i 0)),(.int .i64 (X14.i 1))])) (.light (fun m=>mA yA 30 ⟨0,m⟩ a2) fun a18=>.ite (same 10 a18 (.int .i64 n16)) (.heavy (lB yA 29 a1 (.agg [(.int .i64 (X14.i 0)),(.int .i64 (X14.i 1))])) fun _=>
 .light (fun m=>mA yA 30 ⟨0,m⟩ a2) fun a19=>.ite (same 10 a19 (.int .i64 n16)) (.heavy (lB yA 30 a2 (.int .i64 n16)) fun _=>
 .light (fun m=>mA yA 47 ⟨0,m⟩ a0) fun a20=>.light (fun m=>mA yA 29 ⟨0,m⟩ a1) fun a21=>.light (fun m=>mA yA 30 ⟨0,m⟩ a2) fun a22=>.ret (.tup [a20,a21,a22])) .fail) .fail) .fail)
 (.call 25 [(.str p0),(.int .i64 (Int.ofNat (zB p0)))] fun a23=>
 .asG [(.int .i64 0),(.int .i64 0)] a23 fun X24=>
 .ite (kB zA.one [a4]) (.heavy (xM (.agg [a4,(.int .i64 0),(.int .i64 0),(.int .i64 (X24.i 0)),(.int .i64 (X24.i 1))])) fun a25=>
 .jump 11 [p1,a0,a1,a2,a25]) .fail)
def Ul(v1:zA)(v4:zA)(v5:zA)(v6:zA)(v8:zA):T:=
 .callv v1 [v8] fun a0=>
 .asG [(.int .u8 0),(.bool false),.nilslice,(.bool false),.nilslice,(.int .i64 0)] a0 fun X1=>
 .ite true (.heavy (lB yA 47 v4 (.agg [(.int .u8 (X1.i 0)),(.bool (X1.b 1)),(X1.v 2),(.bool (X1.b 3)),(X1.v 4),(.int .i64 (X1.i 5))])) fun _=>
 .heavy (lB yA 29 v5 (.agg [(.int .i64 0),(.int .i64 0)])) fun _=>
 .heavy (lB yA 30 v6 (.int .i64 0)) fun _=>
 .light (fun m=>mA yA 47 ⟨0,m⟩ v4) fun a2=>.light (fun m=>mA yA 29 ⟨0,m⟩ v5) fun a3=>.light (fun m=>mA yA 30 ⟨0,m⟩ v6) fun a4=>.ret (.tup [a2,a3,a4])) .fail
def Pe(v0:zA)(v1:zA)(v2:zA)(v3:zA):T:=
 .opt ((aP .neq).f yA 20 (.tmp 8) (.const .nilIface) v3 .niliface) fun a0=>.asB a0 fun b1=>.ite b1
 (.heavy (lB yA 47 v0 (.agg [(.int .u8 0),(.bool false),.nilslice,(.bool false),.nilslice,(.int .i64 0)])) fun _=>
 .heavy (lB yA 30 v1 (.int .i64 120)) fun _=>
 .opt (Dx yA 123 true v3) fun a2=>.opt (bF 0 a2) fun a3=>.asG [(.int .i64 0),(.int .i64 0),(.int .i64 0)] a3 fun X4=>
 .opt (bF 1 a2) fun a5=>.asB a5 fun b6=>.ite true (.ite b6
 (.heavy (lB yA 29 v2 (.agg [(.int .i64 (X4.i 0)),(.int .i64 (X4.i 1))])) fun _=>
 .ite (same 10 (.int .i64 (X4.i 2)) (.int .i64 (X4.i 2))) (.heavy (lB yA 30 v1 (.int .i64 (X4.i 2))) fun _=>
 .ret (.tup [])) .fail)
 (.ret (.tup []))) .fail)
 (.ret (.tup []))
def Ph(v4 v5 v6:zA):T:=.light (fun m=>mA yA 47 ⟨0,m⟩ v4) fun a2=>.light (fun m=>mA yA 29 ⟨0,m⟩ v5) fun a3=>.light (fun m=>mA yA 30 ⟨0,m⟩ v6) fun a4=>.ret (.tup [a2,a3,a4])
def e45(p0:List Nat)(p1:zA):nJ yA (ao 45).la 45 (fo 45).ntmps (sU (pcs 45)) ⟨mU pR,fun _ _=>.fail,Am.endT yA (fo 45)⟩ ⟨⟨ko 45,Tr.ofList [(.str p0),p1],[]⟩,[],.leaf,[]⟩=t45 p0 p1:=by kernel_rfl
def e45_13(v1 v4 v5 v6 v8:zA):nJ yA (ao 45).la 45 (fo 45).ntmps (.region (oM 45).i6 (oM 45).o6 false) ⟨Am.endT yA (fo 45),fun _ _=>.fail,fun _=>.fail⟩ (kJ (ko 45) pR [v1,v4,v5,v6,v8])=Ul v1 v4 v5 v6 v8:=by kernel_rfl
def e45_e(v1 v4 v5 v6 v8:zA):Am.endT yA (fo 45) (kJ (ko 45) pR [v1,v4,v5,v6,v8]).cut=Ph v4 v5 v6:=by kernel_rfl
def e70_3(v0 v1 v2 v3:zA):nJ yA (ao 70).la (oM 45).cl (fo 70).ntmps (cqo 70).c (eX yA (fo 70)) (kJ (ko 70) pS [v0,v1,v2,v3])=Pe v0 v1 v2 v3:=by kernel_rfl
def nil70(a b c:zA)(HA:xA):bP yA (dD F) (dC yA (dD F)) (oM 45).cl [a,b,c] .niliface HA=some (⟨.tup [],false⟩,HA):=by kernel_rfl
def tl45(v1 v4 v5 v6 v8:zA)  (h:rA yA.base (oE yA F mB vE fun v t'=>rA yA.base (Wq yA F mB) sM (Pe v4 v6 v5 v) t' fun _ t''=>rA yA.base (Wq yA F mB) sM (Ph v4 v5 v6) t'' Q) sM (Ul v1 v4 v5 v6 v8) m Q) :
  Be yA F mB vE 45 (fo 45) (ko 45) (ao 45) (oM 45) pR [v1,v4,v5,v6,v8] m Q:=by
 refine⟨[v4,v6,v5],(fun v t'=>rA yA.base (Wq yA F mB) sM (Pe v4 v6 v5 v) t' fun _ t''=>rA yA.base (Wq yA F mB) sM (Ph v4 v5 v6) t'' Q),by kernel_rfl,nil70 _ _ _,fun v t' hv=>?_,by rw[e45_13];exact h⟩
 refine AK (dA 45 70) (p:=pS) (W:=Wq yA F mB) (Jh (by kernel_rfl)) Jg (by intro κ;kernel_rfl) (by kernel_rfl) (vals:=[v4,v6,v5,v]) (by kernel_rfl) (J:=sM) ?_
 rw[e70_3,e45_e];exact hv
def w45(p0:List Nat)(p1:zA)  (h:rA yA.base (Wq yA F mB) (fun i vals t Q=>i=11/\Be yA F mB vE 45 (fo 45) (ko 45) (ao 45) (oM 45) pR vals t Q) (t45 p0 p1) m Q):Wf 45 [(.str p0),p1] m Q:=
 BE (pan:=vE) (dA 45 70) (p:=pR) rfl (by kernel_rfl) (by kernel_rfl) (by intro κ;kernel_rfl) (by rw[e45];exact h)
end Go.Proofs
namespace Go.Proofs
open Go Go.Am
section
variable [fC]
section
variable {t:Tr vA}{Q:qB}{s:List Nat}
def iP(s:List Nat):(Int.ofNat (zB s))=(s.length:Int):=by rw[qD];rfl
def EN(hs:s.length<4000000000000000000):uC yA F 37 [.str s,.func (.func 65) [] []] t=some (.str (uD pD s)):=by
 refine fD.2 (w37 ?_)
 simp only[uZ,t37,rA];exact Pt (fun n=>Mn) (fun {a m R}=>by rw[q65]) rfl hs s.length 0 (by omega) (fun j x hj=>by omega)
def zcs{n:Nat}:uC yA F 80 [.int .u8 (n:Int)] t=some (.bool (decide (n≠10))):=by
 refine fD.2 (w80 ?_)
 unfold t80;refine⟨?_,rfl⟩
 rw[tF];congr 1
 by_cases h:n=10
 ·subst h;rfl
 ·simp[h];omega
def zcc(hs:s.length<4000000000000000000):uC yA F 37 [.str s,.func (.func 80) [] []] t=some (.str (uD (fun x=>decide (x≠10)) s)):=by
 refine fD.2 (w37 ?_)
 simp only[uZ,t37,rA];exact Pt (fun n=>zcs) (fun {a m R}=>by rw[q80]) rfl hs s.length 0 (by omega) (fun j x hj=>by omega)
def Hc(p:Nat->Bool)(s:List Nat):(uD p s).length<=s.length:=(List.takeWhile_sublist _).length_le
def RY(p:Nat->Bool)(s:List Nat):uD p s=s.take (uD p s).length:=by
 unfold uD;induction s with
 | nil=>rfl
 | cons a s ih=>
  rw[List.takeWhile_cons];split
  ·rw[ybn,List.take_succ_cons,<- ih]
  ·rfl
def OJ(hs:s.length<4000000000000000000):uC yA F 103 [.str s] t=some (.tup [.str (if 24<(uD yJ s).length then []else uD yJ s),.int .i64 (if 24<(uD yJ s).length then 111 else 0)]):=by
 refine fD.2 (w103 ?_)
 unfold t103 uS;refine yB ?_
 rw[q37,EK hs,pA];refine iF ?_
 rw[iP];by_cases h:24<(uD yJ s).length
 ·rw[yab h,yab h]
  exact sA (by rw[lC];exact decide_eq_true (by omega)) ⟨rfl,rfl⟩
 ·rw[yaa h,yaa h]
  exact sB (by rw[lC];simp;omega) ⟨rfl,rfl⟩
def FV:uC yA F 129 [.str s] t=some (.bool (eR s)):=by
 refine fD.2 (w129 ?_)
 unfold t129 uU rC;rw[iP];unfold eR;by_cases h:1<s.length
 ·cases s with
  | nil=>simp at h
  | cons x r=>
   have hx:=eM (s:=x::r) (i:=0) (x:=x) rfl
   refine sA (by rw[lC];exact decide_eq_true (by omega)) (qA hx (tB ⟨?_,rfl⟩))
   rw[tF,decide_eq_true h];congr 1
   by_cases h48:x=48
   ·subst h48;rfl
   ·simp[h48];omega
 ·refine sB (by rw[lC];simp;omega) ⟨?_,rfl⟩
  simp[h]
def zd2:uC yA F 104 [.str s] t=some (.bool (bG s)):=by
 have loop:10<=s.length->∀(k i:Nat),i+k=10->jp 104 2 [.str s,.int .i64 (i:Int)] t (fun v t'=>v=.bool (((List.range 10).drop i).all fun i=>fK i (s.getD i 0))/\t'=t):=by
  intro hl k;induction k with
  | zero=>
   intro i hi;refine zgh ?_
   unfold Vo bJ;refine sB (by rw[lC];simp;omega) ⟨?_,rfl⟩
   rw[ybt (by simp;omega)]
   rfl
  | succ k ih=>
   intro i hi;have hx:s[i]?=some s[i]:=ybd (by omega)
   have hd:s.getD i 0=s[i]:=by rw[List.getD_eq_getElem?_getD,hx];rfl
   have e:((List.range 10).drop i).all (fun i=>fK i (s.getD i 0))=(fK i s[i]&&((List.range 10).drop (i+1)).all fun i=>fK i (s.getD i 0)):=by
    rw[ybl (by simp;omega),ycg]
    simp only[List.getElem_range,hd]
   have e3:xD (i:Int)=.int .i64 ((i+1:Nat):Int):=by
    show zA.int .i64 (iA .i64 ((i:Int)+1))=_
    rw[gC (by omega) (by omega)];rfl
   have next:fK i s[i]=true->jp 104 2 [.str s,xD (i:Int)] t (fun v t'=>v=.bool (((List.range 10).drop i).all fun i=>fK i (s.getD i 0))/\t'=t):=fun h=>by
    rw[e,h,ycn,e3];exact ih (i+1) (by omega)
   have sep:(i=4\/i=7)->wp 104 (uQ15 s (i:Int)) t (fun v t'=>v=.bool (((List.range 10).drop i).all fun i=>fK i (s.getD i 0))/\t'=t):=fun h47=>by
    unfold uQ15 uU rC;refine qA (eM hx) (tB ?_)
    have hda:fK i s[i]=decide (s[i]=45):=by unfold fK;rw[yab h47]
    by_cases h45:s[i]=45
    ·refine sB (by rw[tF,h45];simp) (jC (next (by rw[hda];exact decide_eq_true h45)))
    ·refine sA (by rw[tF];simp;omega) ⟨?_,rfl⟩
     rw[e,hda,decide_eq_false h45];rfl
   refine zgh ?_
   unfold Vo uU uB rC;refine sA (by rw[lC];exact decide_eq_true (by omega)) ?_
   by_cases h4:i=4
   ·exact sA (by rw[tF];exact decide_eq_true (by omega)) (sep (.inl h4))
   refine sB (by rw[tF];simp;omega) ?_
   by_cases h7:i=7
   ·exact sA (by rw[tF];exact decide_eq_true (by omega)) (sep (.inr h7))
   refine sB (by rw[tF];simp;omega) (qA (eM hx) (tB (yB ?_)))
   rw[q65];show sE (uC yA F 65 [.int .u8 (s[i]:Int)] t) _
   rw[Mn,pA];have hda:fK i s[i]=pD s[i]:=by unfold fK;rw[yaa (by omega)]
   refine rD ?_
   cases hb:pD s[i]with
   | true=>exact sB (by simp) (jC (next (by rw[hda,hb])))
   | false=>
    refine sA rfl ⟨?_,rfl⟩
    rw[e,hda,hb];rfl
 refine fD.2 (w104 ?_)
 unfold t104 rC;rw[iP];unfold bG;by_cases h:10<=s.length
 ·refine sB (by rw[lC];simp;omega) (jC ?_)
  rw[decide_eq_true h,ycn];exact loop h 10 0 rfl
 ·refine sA (by rw[lC];exact decide_eq_true (by omega)) ⟨?_,rfl⟩
  rw[decide_eq_false h];rfl
def YF(h:bG s=true):bG (s.take 10)=true/\(s.take 10).length=10:=by
 have hl:10<=s.length:=by unfold bG at h;simp only[ybb,decide_eq_true_eq]at h;exact h.1
 refine⟨?_,by rw[yda];omega⟩
 unfold bG at h ⊢
 simp only[ybb,decide_eq_true_eq,ycb,List.mem_range]at h ⊢
 refine⟨by rw[yda];omega,fun i hi=>?_⟩
 have:=h.2 i hi
 rw[List.getD_eq_getElem?_getD]at this ⊢
 rw[ydf,yab hi];exact this
def YH(hg:bI t)(hd:bG s=true):uC yA F 105 [.str s] t=some (.tup [.str (if pN s then []else s.take 10),.int .i64 (if pN s then 113 else 0)]):=by
 obtain⟨h1,h2⟩:=YF hd
 have hl:10<=s.length:=by unfold bG at hd;simp only[ybb,decide_eq_true_eq]at hd;exact hd.1
 have tail:(decide (10<s.length)&&xP s 10)=false->wp 105 (uQ6 s) t fun v' t'=>v'=.tup [.str (if pN s then []else s.take 10),.int .i64 (if pN s then 113 else 0)]/\t'=t:=by
  intro hf;have hb:pN s=decide (Aq (s.take 10)=none):=by unfold pN;rw[hf,Bool.false_or]
  unfold uQ6 uS uI;have hs:=Ef (s:=s) (k:=10) (by omega)
  refine qA hs (iF (yB ?_))
  rw[q97,LY hg h2 h1,pA];refine qA rfl (tB (qA rfl (tB ?_)))
  rw[hb]
  cases hx:Aq (s.take 10)with
  | none=>exact sA (by decide) ⟨rfl,rfl⟩
  | some n=>exact sB (fun h=>by cases h) (qA hs (iF ⟨rfl,rfl⟩))
 refine fD.2 (w105 ?_)
 unfold t105 uU uB;rw[iP];by_cases h10:10<s.length
 ·have hx:s[10]?=some s[10]:=ybd h10
  refine sA (by rw[lC];exact decide_eq_true (by omega)) (qA (eM hx) (tB (yB ?_)))
  rw[q38];show sE (uC yA F 38 [.int .u8 (s[10]:Int)] t) _
  rw[Yy,pA];refine rD ?_
  have hf:xP s 10=yJ s[10]:=by unfold xP;rw[hx]
  cases hb:yJ s[10]with
  | true=>
   refine sA rfl ⟨?_,rfl⟩
   have:pN s=true:=by unfold pN;rw[hf,hb,decide_eq_true h10];rfl
   rw[this];rfl
  | false=>
   refine sB (by simp) (tail ?_)
   rw[hf,hb,yay]
 ·exact sB (by rw[lC];simp;omega) (tail (by rw[decide_eq_false h10];rfl))
def UI(hs:s.length<1000000):uC yA F 106 [.str s] t=some (.tup [.str (if wI s then []else s.take (dE s)),.int .i64 (if wI s then 112 else 0)]):=by
 have hfl:=Hc pD s
 have hfirst:(bC s).length<=s.length:=hfl
 have hsecond:(bC s).length+1+(eE s).length<=s.length\/eE s=[]:=by
  unfold eE;split
  ·rename_i h
   have h1:=(ybc.1 h).1
   left
   have:=Hc pD (s.drop ((bC s).length+1))
   rw[ydj]at this;omega
  ·right;rfl
 have hnl:dE s<=s.length:=by
  unfold dE;split
  ·exact hfirst
  ·rename_i h;exact hsecond.resolve_right h
 have tail:decide (200<dE s)=false->xP s (dE s)=false->wp 106 (uQ9 (bC s) (eE s) s (dE s:Int)) t fun v' t'=>v'=.tup [.str (if wI s then []else s.take (dE s)),.int .i64 (if wI s then 112 else 0)]/\t'=t:=by
  intro h1 h2;have hb:wI s=(eR (bC s)||eR (eE s)||decide (eE s=[48])):=by unfold wI;rw[h1,h2,Bool.false_or,Bool.false_or]
  unfold uQ9 uB uS;refine yB ?_
  rw[q129,FV,pA];refine rD ?_
  cases p1:eR (bC s)with
  | true=>rw[hb,p1];exact sA rfl ⟨rfl,rfl⟩
  | false=>
   refine sB (by simp) (yB ?_)
   rw[q129,FV,pA];refine rD ?_
   cases p2:eR (eE s)with
   | true=>rw[hb,p1,p2];exact sA rfl ⟨rfl,rfl⟩
   | false=>
    refine sB (by simp) ?_
    rw[hb,p1,p2]
    cases p3:oG (eE s) [48]with
    | true=>
     rw[decide_eq_true ((rN _ _).1 p3)]
     exact sA rfl ⟨rfl,rfl⟩
    | false=>
     rw[decide_eq_false fun e=>by rw[(rN _ _).2 e]at p3;cases p3]
     exact sB (by simp) (qA (Ef hnl) (iF ⟨rfl,rfl⟩))
 have p17:jp 106 17 [.str s,.str (bC s),.int .i64 (dE s:Int),.str (eE s)] t fun v' t'=>v'=.tup [.str (if wI s then []else s.take (dE s)),.int .i64 (if wI s then 112 else 0)]/\t'=t:=by
  refine zjw ?_
  unfold DA uU uB;rw[iP];by_cases h:dE s<s.length
  ·have hx:s[dE s]?=some s[dE s]:=ybd h
   refine sA (by rw[lC];exact decide_eq_true (by omega)) (qA (eM hx) (tB (yB ?_)))
   rw[q38];show sE (uC yA F 38 [.int .u8 (s[dE s]:Int)] t) _
   rw[Yy,pA];refine rD ?_
   have hf:xP s (dE s)=yJ s[dE s]:=by unfold xP;rw[hx]
   by_cases h2:200<dE s
   ·refine sA (by rw[lC];exact decide_eq_true (by omega)) ⟨?_,rfl⟩
    have:wI s=true:=by unfold wI;rw[decide_eq_true h2];simp
    rw[this];rfl
   ·refine sB (by rw[lC];simp;omega) ?_
    cases hb:yJ s[dE s]with
    | true=>
     refine sA rfl ⟨?_,rfl⟩
     have:wI s=true:=by unfold wI;rw[hf,hb];simp
     rw[this];rfl
    | false=>exact sB (by simp) (tail (decide_eq_false h2) (by rw[hf,hb]))
  ·have hf:xP s (dE s)=false:=by unfold xP;rw[List.getElem?_eq_none (by omega)]
   refine sB (by rw[lC];simp;omega) ?_
   by_cases h2:200<dE s
   ·refine sA (by rw[lC];exact decide_eq_true (by omega)) ⟨?_,rfl⟩
    have:wI s=true:=by unfold wI;rw[decide_eq_true h2];simp
    rw[this];rfl
   ·exact sB (by rw[lC];simp;omega) (tail (decide_eq_false h2) hf)
 have p13:jp 106 13 [.str s,.str (bC s),.int .i64 ((bC s).length:Int),.str (eE s)] t fun v' t'=>v'=.tup [.str (if wI s then []else s.take (dE s)),.int .i64 (if wI s then 112 else 0)]/\t'=t:=by
  refine zjx ?_
  unfold DB
  cases he:oG (eE s) []with
  | true=>
   have h0:=(rN _ _).1 he
   refine sB (by simp) (jC ?_)
   have:dE s=(bC s).length:=by unfold dE;rw[yab h0]
   have e:((dE s:Nat):Int)=((bC s).length:Int):=by rw[this]
   rw[e]at p17;exact p17
  | false=>
   have h0:eE s≠[]:=fun e=>by rw[(rN _ _).2 e]at he;cases he
   have hle:=hsecond.resolve_right h0
   refine sA rfl (jC ?_)
   have e:uW (((bC s).length:Int)+uW (1+Int.ofNat (zB (eE s))))=((dE s:Nat):Int):=by
    unfold uW dE;rw[iP,yaa h0,gC (n:=1+((eE s).length:Int)) (by omega) (by omega),gC (by omega) (by omega)]
    omega
   rw[e];exact p17
 refine fD.2 (w106 ?_)
 unfold t106 uS uU;refine yB ?_
 rw[q37,EN (by omega),pA]
 refine iF ?_
 rw[iP,iP];show wp 106 (.ite (bB ((bC s).length:Int) (s.length:Int)) _ (.jump 13 [.str s,.str (bC s),uZ ((bC s).length:Int),.str []])) t _
 by_cases h:(bC s).length<s.length
 ·have hx:s[(bC s).length]?=some s[(bC s).length]:=ybd h
  refine sA (by rw[lC];exact decide_eq_true (by omega)) (qA (eM hx) (tB ?_))
  by_cases h47:s[(bC s).length]=47
  ·have e:uW (((uD pD s).length:Int)+1)=(((bC s).length+1:Nat):Int):=by
    show iA .i64 (((bC s).length:Int)+1)=_
    rw[gC (by omega) (by omega)];rfl
   have h2:eE s=uD pD (s.drop ((bC s).length+1)):=by unfold eE;rw[yab (by rw[hx,h47])]
   refine sA (by rw[tF,h47];rfl) ?_
   rw[e];refine qA (Pm (by omega)) (iF (yB ?_))
   rw[q37,EN (by rw[ydj];omega),pA,<- h2]
   exact iF (jC p13)
  ·have h2:eE s=[]:=by unfold eE;rw[yaa (by rw[hx];simpa using h47)]
   refine sB (by rw[tF];simp;omega) (jC ?_)
   rw[h2]at p13;exact p13
 ·have h2:eE s=[]:=by unfold eE;rw[yaa (by rw[List.getElem?_eq_none (by omega)];simp)]
  refine sB (by rw[lC];simp;omega) (jC ?_)
  rw[h2]at p13;exact p13
end
end
section
variable {b:Nat}
variable [fC]
def zdj(c:Nat):∀s:List Nat,(gU c s).isSome=s.contains c:=by
 intro s;induction s with
 | nil=>rfl
 | cons x r ih=>
  rw[List.contains_cons,<- ih];have e:gU c (x::r)=bif Nat.beq x c then some 0 else ob (gU c r) fun n=>some (n+1):=rfl
  rw[e]
  cases h:Nat.beq x c with
  | true=>rw[kC.1 h];simp
  | false=>
   have:¬ c=x:=fun e=>by rw[e,Nat.beq_refl]at h;cases h
   have h2:(c == x)=false:=by simp[this]
   rw[cond_false,h2,Bool.false_or]
   cases gU c r<;>rfl
abbrev yI(sp:Nat)(src:List Nat)(ln cl off:Nat):jE:=cB sp none [.int .i64 (ln:Int),.int .i64 (cl:Int),.str src,.int .i64 (off:Int)]
section
variable {tf t:Tr vA}{A B:List jE}{Q:qB}{sp ln cl off:Nat}{src:List Nat}
def g0  : mC yA 145 0 (.ptr b 0)=some (.ptr b 0):=by kernel_rfl
def g1  : mC yA 145 1 (.ptr b 0)=some (.ptr b 2):=by kernel_rfl
def g2  : mC yA 145 2 (.ptr b 0)=some (.ptr b 3):=by kernel_rfl
def p0  : mC yA 29 0 (.ptr b 0)=some (.ptr b 0):=by kernel_rfl
def p1  : mC yA 29 1 (.ptr b 0)=some (.ptr b 1):=by kernel_rfl
def zff(h:cA yA.base tf t (A++yI sp src ln cl off::B)):mA yA 9 ⟨0,t⟩ (.ptr sp 2)=some (.str src):=(cA.cel h).load1 fN rfl rfl
def Kx(h:cA yA.base tf t (A++yI sp src ln cl off::B)):mA yA 3 ⟨0,t⟩ (.ptr sp 3)=some (.int .i64 (off:Int)):=(cA.cel h).load1 kO rfl rfl
def sc_ln(h:cA yA.base tf t (A++yI sp src ln cl off::B)):mA yA 3 ⟨0,t⟩ (.ptr sp 0)=some (.int .i64 (ln:Int)):=(cA.cel h).load1 kO rfl rfl
def sc_cl(h:cA yA.base tf t (A++yI sp src ln cl off::B)):mA yA 3 ⟨0,t⟩ (.ptr sp 1)=some (.int .i64 (cl:Int)):=(cA.cel h).load1 kO rfl rfl
def sc_pl(h:cA yA.base tf t (A++yI sp src ln cl off::B)):mA yA 29 ⟨0,t⟩ (.ptr sp 0)=some (.agg [.int .i64 (ln:Int),.int .i64 (cl:Int)]):=by
 have:=(cA.cel h).at.load (j:=0) (n:=2) lV rfl rfl (by simp)
 simpa using this
def Kw{ln' cl' off' j:Nat}{x:Nat}(h:cA yA.base tf t (A++yI sp src ln cl off::B))(hj:j<4)(he:jJ [.int .i64 (ln:Int),.int .i64 (cl:Int),.str src,.int .i64 (off:Int)] j [.int .i64 (x:Int)]=[.int .i64 (ln':Int),.int .i64 (cl':Int),.str src,.int .i64 (off':Int)]) :
  ∃t',(∀q,lB yA 3 (.ptr sp j) (.int .i64 (x:Int)) ⟨q,t⟩=some (jD,⟨q,t'⟩))/\cA yA.base tf t' (A++yI sp src ln' cl' off'::B):=by
 obtain⟨t',h1,h2⟩:=cA.setCel (j:=j) (v:=.int .i64 (x:Int)) h kO rfl (by show j+1<=4;omega) rfl
 refine⟨t',h1,?_⟩
 have:(zA.int .i64 (x:Int)).cells=[.int .i64 (x:Int)]:=rfl
 rw[this,he]at h2;exact h2
def He(h:cA yA.base tf t (A++yI sp src ln cl off::B))(ho:off<=src.length):uC yA F 79 [.ptr sp 0] t=some (.str (src.drop off)):=by
 refine fD.2 (w79 ?_)
 unfold t79 aH uI uS;exact qA nl (qA g1 (vC (zff h) (iF (qA nl (qA g2 (vC (Kx h) (tB (qA (Pm ho) (iF ⟨rfl,rfl⟩)))))))))
def DS{n:Nat}(h:cA yA.base tf t (A++yI sp src ln cl off::B))(h1:off+n<1000000)(h2:cl+n<1000000)(hQ:∀t',cA yA.base tf t' (A++yI sp src ln (cl+n) (off+n)::B)->Q (.tup []) t'):Wc yA F 78 [.ptr sp 0,.int .i64 (n:Int)] t Q:=by
 refine w78 ?_
 unfold t78 aH uI;have e1:uW ((off:Int)+(n:Int))=((off+n:Nat):Int):=by show iA .i64 _=_;rw[gC (by omega) (by omega)];rfl
 have e2:uW ((cl:Int)+(n:Int))=((cl+n:Nat):Int):=by show iA .i64 _=_;rw[gC (by omega) (by omega)];rfl
 refine qA nl (qA g2 (vC (Kx h) (tB (qA nl (qA g2 (iC fun b _ _=>?_))))))
 rw[e1];obtain⟨t1,k1,k2⟩:=Kw (j:=3) (x:=off+n) (ln':=ln) (cl':=cl) (off':=off+n) h (by omega) rfl
 refine⟨_,_,k1 b,qA nl (qA g0 (qA p1 (vC (sc_cl k2) (tB (qA nl (qA g0 (qA p1 (iC fun b _ _=>?_))))))))⟩
 rw[e2];obtain⟨t2,m1,m2⟩:=Kw (j:=1) (x:=cl+n) (ln':=ln) (cl':=cl+n) (off':=off+n) k2 (by omega) rfl
 exact⟨_,_,m1 b,hQ t2 m2⟩
def UQ(h:cA yA.base tf t (A++yI sp src ln cl off::B))(h1:off<900000)(h2:ln<900000)(hQ:∀t',cA yA.base tf t' (A++yI sp src (ln+1) 1 (off+1)::B)->Q (.tup []) t'):Wc yA F 77 [.ptr sp 0] t Q:=by
 refine w77 ?_
 unfold t77 aH uI;have e:∀n:Nat,n<900000->xD (n:Int)=.int .i64 ((n+1:Nat):Int):=fun n hn=>by
  show zA.int .i64 (iA .i64 ((n:Int)+1))=_
  rw[gC (by omega) (by omega)];rfl
 refine qA nl (qA g2 (vC (Kx h) (tB (qA nl (qA g2 (iC fun b _ _=>?_))))))
 rw[e off h1];obtain⟨t1,k1,k2⟩:=Kw (j:=3) (x:=off+1) (ln':=ln) (cl':=cl) (off':=off+1) h (by omega) rfl
 refine⟨_,_,k1 b,qA nl (qA g0 (qA p0 (vC (sc_ln k2) (tB (qA nl (qA g0 (qA p0 (iC fun b _ _=>?_))))))))⟩
 rw[e ln h2];obtain⟨t2,m1,m2⟩:=Kw (j:=0) (x:=ln+1) (ln':=ln+1) (cl':=cl) (off':=off+1) k2 (by omega) rfl
 refine⟨_,_,m1 b,qA nl (qA g0 (qA p1 (iC fun b _ _=>?_)))⟩
 obtain⟨t3,n1,n2⟩:=Kw (j:=1) (x:=1) (ln':=ln+1) (cl':=1) (off':=off+1) m2 (by omega) rfl
 exact⟨_,_,n1 b,hQ t3 n2⟩
def UK(s:List Nat):dE s<=s.length:=by
 have hfirst:(bC s).length<=s.length:=Hc pD s
 unfold dE;split
 ·exact hfirst
 ·rename_i h
  unfold eE at h ⊢
  by_cases hx:s[(bC s).length]?=some 47
  ·rw[yab hx]
   have h1:=(ybc.1 hx).1
   have:=Hc pD (s.drop ((bC s).length+1))
   rw[ydj]at this;omega
  ·rw[yaa hx]at h;exact absurd rfl h
def CD{s w:List Nat}{k:Nat}(h:vF s=.tok k w):w.length<=s.length/\w=s.take w.length:=by
 cases s with
 | nil=>cases h
 | cons b r=>
  unfold vF at h;simp only at h
  split at h
  ·split at h
   ·cases h
   ·cases h;exact⟨Hc _ _,RY _ _⟩
  split at h
  ·rename_i hd
   split at h
   ·cases h
   ·cases h
    have hl:10<=(b::r).length:=by
     simp only[ybb]at hd;have:=hd.2
     unfold bG at this;simp only[ybb,decide_eq_true_eq]at this;exact this.1
    rw[yda,Nat.min_eq_left hl];exact⟨hl,rfl⟩
  split at h
  ·split at h
   ·cases h
   ·cases h
    have hl:=UK (b::r)
    rw[yda,Nat.min_eq_left hl];exact⟨hl,rfl⟩
  split at h
  ·cases h;exact⟨by simp,rfl⟩
  ·cases h
def zbl(hg:bI tf)(h:cA yA.base tf t (A++yI sp src ln cl off::B))(hoff:off<src.length)(hlen:src.length<=65536)(hcl:cl<200000)(hby:∀b∈src,b<256)
  (hQ:∀t',match vF (src.drop off)with
   | .bad e=>cA yA.base tf t' (A++yI sp src ln cl off::B)->Q (.tup [.agg [.int .u8 0,.str [],.int .i64 (ln:Int),.int .i64 (cl:Int)],.int .i64 (e:Int)]) t'
   | .tok k w=>cA yA.base tf t' (A++yI sp src ln (cl+w.length) (off+w.length)::B)->Q (.tup [.agg [.int .u8 (k:Int),.str w,.int .i64 (ln:Int),.int .i64 (cl:Int)],.int .i64 0]) t'):Wc yA F 81 [.ptr sp 0] t Q:=by
 have hgt:=hg.mono h.tle
 have hx:src[off]?=some src[off]:=ybd hoff
 have hdrop:src.drop off=src[off]::src.drop (off+1):=ybl hoff
 have hb256:=hby src[off] (ycj _)
 have hdl:(src.drop off).length<=65536:=by rw[ydj];omega
 have j37:∀(k e:Nat) (w:List Nat),(e≠0->vF (src.drop off)=.bad e)->(e=0->vF (src.drop off)=.tok k w)->jp 81 37 [.ptr sp 0,.int .u8 (k:Int),.str w,.int .i64 (e:Int),.int .u8 0,.str [],.int .i64 0,.int .i64 0,.int .i64 (ln:Int),.int .i64 (cl:Int)] t Q:=by
  intro k e w h1 h2;refine j81_37 ?_
  unfold zez;by_cases h0:e=0
  ·have ht:=h2 h0
   subst h0;refine sB (by decide) (yB ?_)
   rw[q78,iP];obtain⟨l1,_⟩:=CD ht
   rw[ydj]at l1;refine DS h (by omega) (by omega) fun t' h'=>sA rfl (sA rfl ?_)
   have:=hQ t'
   rw[ht]at this;exact this h'
  ·have ht:=h1 h0
   refine sA (by rw[tF];simp;omega) (sA rfl (sA rfl ?_))
   have:=hQ t
   rw[ht]at this;exact this h
 have hq1:gM src[off]=false->(pD src[off]=true->bG (src.drop off)=false)->wp 81 (uQ1 (src[off]:Int) (.ptr sp 0) (cellsOf [.int .i64 (ln:Int),.int .i64 (cl:Int)])) t Q:=by
  intro hl hd;unfold uQ1 uB uS uI;refine yB ?_
  rw[q65];show sE (uC yA F 65 [.int .u8 (src[off]:Int)] t) _
  rw[Mn,pA];refine rD ?_
  cases hdg:pD src[off]with
  | true=>
   have hda:=hd hdg
   refine sA rfl (yB ?_)
   rw[q79,He h (by omega),pA]
   refine iF (yB ?_)
   rw[q106,UI (by omega),pA]
   have ht:vF (src.drop off)=if wI (src.drop off)then .bad 112 else .tok 2 ((src.drop off).take (dE (src.drop off))):=by
    rw[hdrop]at hda ⊢
    unfold vF;simp only[hl,hdg,hda,yay,ybq,if_false,if_true]
   refine qA rfl (iF (qA rfl (tB (jC ?_))))
   cases hb:wI (src.drop off)with
   | true=>exact j37 2 112 [] (fun _=>by rw[ht,hb];rfl) (fun e=>by cases e)
   | false=>exact j37 2 0 _ (fun e=>absurd rfl e) (fun _=>by rw[ht,hb];rfl)
  | false=>
   refine sB (by simp) (yB ?_)
   have hgp:yA.prims.get 107=some (eO Lm):=by kernel_rfl
   have hix:uC yA F 107 [.str [40,41,44,43,45,42,47,60,61],.int .u8 (src[off]:Int)] t=some (.int .i64 (match gU src[off] [40,41,44,43,45,42,47,60,61]with | some n=>.ofNat n | none=>.negSucc 0)):=by
    refine Lj hgp fun H=>?_
    show xB (Nat.blt src[off] 256) _=_
    rw[qC.2 hb256];rfl
   rw[q107];show sE (uC yA F 107 [.str [40,41,44,43,45,42,47,60,61],.int .u8 (src[off]:Int)] t) _
   rw[hix,pA];refine tB ?_
   have hsg:Ml src[off]=(gU src[off] [40,41,44,43,45,42,47,60,61]).isSome:=by rw[zdj];rfl
   have ht:vF (src.drop off)=if Ml src[off]then .tok 4 [src[off]]else .bad 110:=by
    rw[hdrop];unfold vF;simp only[hl,hdg,Bool.false_and,ybq,if_false]
   cases hi:gU src[off] [40,41,44,43,45,42,47,60,61]with
   | some n=>
    refine sA (by rw[rS];exact decide_eq_true (Int.natCast_nonneg n)) (yB ?_)
    rw[q79,He h (by omega),pA]
    have hs1:=Ef (s:=src.drop off) (k:=1) (by rw[ydj];omega)
    refine iF (qA hs1 (iF (jC ?_)))
    have:(src.drop off).take 1=[src[off]]:=by rw[hdrop];rfl
    rw[this];exact j37 4 0 _ (fun e=>absurd rfl e) (fun _=>by rw[ht,hsg,hi];rfl)
   | none=>
    refine sB (by decide) (jC ?_)
    exact j37 0 110 _ (fun _=>by rw[ht,hsg,hi];rfl) (fun e=>by cases e)
 refine w81 ?_
 unfold t81 aH uG uS uI uU uB;refine qA nl (qA g0 (vC (sc_pl h) (nC (X:=cellsOf [.int .i64 (ln:Int),.int .i64 (cl:Int)]) (uO rfl) (sA rfl (qA nl (qA g1 (vC (zff h) (iF (qA nl (qA g2 (vC (Kx h) (tB (qA (eM hx) (tB (yB ?_)))))))))))))))
 rw[q36];show sE (uC yA F 36 [.int .u8 (src[off]:Int)] t) _
 rw[Rl,pA];refine rD ?_
 cases hl:gM src[off]with
 | true=>
  refine sA rfl (yB ?_)
  rw[q79,He h (by omega),pA]
  refine iF (yB ?_)
  rw[q103,OJ (by omega),pA]
  have ht:vF (src.drop off)=if 24<(uD yJ (src.drop off)).length then .bad 111 else .tok 1 (uD yJ (src.drop off)):=by
   rw[hdrop];unfold vF;simp only[hl,if_true]
  refine qA rfl (iF (qA rfl (tB (jC ?_))))
  by_cases h24:24<(uD yJ (src.drop off)).length
  ·rw[yab h24,yab h24]
   exact j37 1 111 [] (fun _=>by rw[ht,yab h24]) (fun e=>by cases e)
  ·rw[yaa h24,yaa h24]
   exact j37 1 0 _ (fun e=>absurd rfl e) (fun _=>by rw[ht,yaa h24])
 | false=>
  refine sB (by simp) (yB ?_)
  rw[q65];show sE (uC yA F 65 [.int .u8 (src[off]:Int)] t) _
  rw[Mn,pA];refine rD ?_
  cases hdg:pD src[off]with
  | false=>exact sB (by simp) (hq1 hl (fun h=>by rw[hdg]at h;cases h))
  | true=>
   refine sA rfl (yB ?_)
   rw[q79,He h (by omega),pA]
   refine iF (yB ?_)
   rw[q104,zd2,pA];refine rD ?_
   cases hda:bG (src.drop off)with
   | false=>exact sB (by simp) (hq1 hl (fun _=>hda))
   | true=>
    refine sA rfl (yB ?_)
    rw[q79,He h (by omega),pA]
    refine iF (yB ?_)
    rw[q105,YH hgt hda,pA];have ht:vF (src.drop off)=if pN (src.drop off)then .bad 113 else .tok 3 ((src.drop off).take 10):=by
     rw[hdrop]at hda ⊢
     unfold vF;simp only[hl,hdg,hda,Bool.and_true,ybq,if_false,if_true]
    refine qA rfl (iF (qA rfl (tB (jC ?_))))
    cases hb:pN (src.drop off)with
    | true=>exact j37 3 113 [] (fun _=>by rw[ht,hb];rfl) (fun e=>by cases e)
    | false=>exact j37 3 0 _ (fun e=>absurd rfl e) (fun _=>by rw[ht,hb];rfl)
end
end
section
variable {acc:List wC}{v:zA}
variable [fC]
def pH (l:Nat)(r:vN):jE where
 blks:=[l]
 ok:=fun _ t=>t.get l=some (.loop r)
 keep:=fun h _ k=>by rw[(k l (by simp)).1];exact h
 live:=fun h k hk=>by rw[ydd]at hk;subst hk;exact⟨_,h⟩
def el66:vQ yA 66 75 4:=⟨⟨_,bS,rfl,rfl⟩,⟨_,ty75,rfl,rfl,by decide,by decide⟩,fun y h=>by rw[ty75]at h;cases h;rfl⟩
def tok_rd{t:Tr vA}(x:wC):RD t x.d x.cs:=by
 unfold wC.d wC.cs;exact dJ.2 ⟨[[_],[_],[_],[_]],rfl,aC.2 ⟨_,_,rfl,bK.2 rfl,aC.2 ⟨_,_,rfl,cK.2 rfl,aC.2 ⟨_,_,rfl,bK.2 rfl,aC.2 ⟨_,_,rfl,bK.2 rfl,sF.2 rfl⟩⟩⟩⟩⟩
abbrev cO(a0 a1 a2 a6:Nat)(pl pc e:Nat)(acc:List wC)(v:zA):List jE:=
 [cB a0 none [.nilslice],cB a1 none [.int .i64 (pl:Int),.int .i64 (pc:Int)],cB a2 none [.int .i64 (e:Int)],cB a6 none [v],wD yA.base 4 (acc.map wC.d) v]
section
variable {tf t:Tr vA}{Q:qB}{sp ln cl off a0 a1 a2 a6 l:Nat}{src:List Nat}{r:vN}{L:List jE}
def cA.delLp(h:cA yA.base tf t (L++[pH l r])):cA yA.base tf (t.del l) L:=by
 have h1:=h.low l (by simp[pH])
 have h2:l∉L.flatMap jE.blks:=by
  have:=cA.notin (A:=L) (B:=[]) (o:=pH l r) h (k:=l) (by simp[pH])
  rwa [ycd]at this
 have h3:=cA.drop (A:=L) (B:=[]) (o:=pH l r) h
 rw[ycd]at h3;exact h3.other h2 h1.2 fun c hc=>by rw[Tr.get_del,yaa hc]
def cA.setLp(h:cA yA.base tf t L)(hn:t.get l=none)(hb:yA.base<=l):cA yA.base tf (t.set l (.loop r)) (L++[pH l r]):=by
 have:=cA.add (A:=L) (B:=[]) (o':=pH l r) (t':=t.set l (.loop r)) (by rwa [ycd]) (fun k hk=>by rw[Tr.get_set,yaa (fun e=>hk (by simp[pH,e]))]) (fun k hk=>by simp[pH]at hk;subst hk;exact⟨hn,hb⟩) (by show(t.set l (.loop r)).get l=_;rw[Tr.get_set,yab rfl]) (by simp[pH]) (h.tle.trans (cN hn _).1)
 exact this
def YldR (l:Nat)(r:vN)(a0 a1 a2 a6:Nat):Prop:=∀args t1 Q1,args.length=2->t1.get l=some (.loop r)->Jq yA F 22 2 ([.ptr a0 0,.ptr a1 0,.ptr a2 0,.ptr a6 0]++args) (t1.del l) (fun v t2=>t2.get l=none->∃b,v=.bool b/\Q1 v (t2.set l (.loop (aO b r))))->Wq yA F mB (yo+l) args t1 Q1
def zcx(h1:r.state=.ready)(h2:r.pending=none):aO true r=r:=by
 obtain⟨a,b,c,d,e,f,g,h,i⟩:=r
 have h1:a=.ready:=h1
 have h2:b=none:=h2
 subst h1;subst h2;rfl
def Tk  {x:wC}(hy:YldR l r a0 a1 a2 a6)(hr1:r.state=.ready)(hr2:r.pending=none)(hlen:acc.length<300000)
  (h:cA yA.base tf t (cO a0 a1 a2 a6 0 0 0 acc v++L++[pH l r])) (hQ:∀tf' t' v',bA tf tf'->cA yA.base tf' t' (cO a0 a1 a2 a6 0 0 0 (acc++[x]) v'++L++[pH l r])->Q (.bool true) t') :
  Wq yA F mB (yo+l) [.agg x.cs,.int .i64 0] t Q:=by
 have hl:t.get l=some (.loop r):=h.ok (pH l r) (by simp)
 have hlb:=(h.low l (by simp[pH])).1
 refine hy _ _ _ rfl hl ?_
 have h1:=cA.delLp h
 refine j22_2 ?_
 unfold zib;refine sA rfl (sB (by decide) ?_)
 have lv:mA yA 66 ⟨0,t.del l⟩ (.ptr a6 0)=some v:=(cA.cel (A:=[_,_,_]) h1).load1 bS rfl rfl
 refine vC lv (iC fun b hb _=>?_)
 have hf:dL (fun i=>some (i*4,4)) [(0,.agg x.cs)] (pI [.int .u8 0,.str [],.int .i64 0,.int .i64 0] 1)=some [x.cs].flatten:=by
  rw[Fo (sz:=4) (z:=[.int .u8 0,.str [],.int .i64 0,.int .i64 0]) (v:=.agg x.cs) rfl rfl];rfl
 obtain⟨tf1,t1,k1,k2,k3,k4⟩:=litN (C:=yA) (T:=66) (el:=75) (sz:=4) (n:=1) (ds:=[x.d]) (cl:=[x.cs]) (ps:=[(0,.agg x.cs)]) bS rfl ty75 rfl rfl (by decide) hf (Eu rfl) rfl (aC.2 ⟨_,_,rfl,tok_rd x,sF.2 rfl⟩) h1 hb
 refine⟨_,_,k1,iC fun c hc hcb=>?_⟩
 obtain⟨t2,v2,m1,m2,m3⟩:=cA.append1 (A:=[cB a0 none [.nilslice],cB a1 none [.int .i64 0,.int .i64 0],cB a2 none [.int .i64 0],cB a6 none [v]]) (B:=L) (cs:=[]) el66 k3 k4 (by simp;omega) hc hcb
 refine⟨_,_,m1,iC fun q _ _=>?_⟩
 have hcell:v2.cells=[v2]:=by
  have:=m2.ok (wD yA.base 4 (acc.map wC.d++[x.d]) v2) (by simp)
  rcases this with⟨e,_⟩ | ⟨b,cl,c,e,_⟩ <;> (subst e;rfl)
 obtain⟨t3,n1,n2⟩:=cA.setCel (A:=[cB a0 none [.nilslice],cB a1 none [.int .i64 0,.int .i64 0],cB a2 none [.int .i64 0]]) (j:=0) (v:=v2) m2 bS (by rw[hcell];rfl) (by rw[hcell];show 0+1<=1;omega) (by rw[hcell,nI];simp[m3])
 refine⟨_,_,n1 q,fun hn=>⟨true,rfl,?_⟩⟩
 rw[zcx hr1 hr2];have e:jJ [v] 0 v2.cells=[v2]:=by rw[hcell];rfl
 rw[e]at n2;refine hQ tf1 _ v2 k2 ?_
 have hs:=cA.setLp (r:=r) n2 hn hlb
 rw[show acc.map wC.d++[x.d]=(acc++[x]).map wC.d by simp]at hs
 exact hs
def za9  {e pl pc:Nat}(hy:YldR l r a0 a1 a2 a6)(he:e≠0)
  (h:cA yA.base tf t (cO a0 a1 a2 a6 0 0 0 acc v++L++[pH l r])) (hQ:∀t',cA yA.base tf t' (cO a0 a1 a2 a6 pl pc e acc v++L++[pH l (aO false r)])->Q (.bool false) t') :
  Wq yA F mB (yo+l) [.agg [.int .u8 0,.str [],.int .i64 (pl:Int),.int .i64 (pc:Int)],.int .i64 (e:Int)] t Q:=by
 have hl:t.get l=some (.loop r):=h.ok (pH l r) (by simp)
 have hlb:=(h.low l (by simp[pH])).1
 refine hy _ _ _ rfl hl ?_
 have h1:=cA.delLp h
 refine j22_2 ?_
 unfold zib;refine sA rfl (sA (by rw[tF];simp;omega) (iC fun q _ _=>?_))
 obtain⟨t1,n1,n2⟩:=cA.setCel (A:=[]) (j:=0) (v:=.nilslice) h1 bS rfl (by show 0+1<=1;omega) rfl
 have hs:same 10 (.agg [.int .i64 (pl:Int),.int .i64 (pc:Int)]) (.agg [.int .i64 (pl:Int),.int .i64 (pc:Int)])=true:=by
  show(same 9 (.int .i64 (pl:Int)) (.int .i64 (pl:Int))&&(same 9 (.int .i64 (pc:Int)) (.int .i64 (pc:Int))&&true))=true
  rw[Pq,Pq];rfl
 refine⟨_,_,n1 q,sA hs (iC fun q _ _=>?_)⟩
 obtain⟨t2,m1,m2⟩:=cA.setCel (A:=[_]) (j:=0) (v:=.agg [.int .i64 (pl:Int),.int .i64 (pc:Int)]) n2 lV rfl (by show 0+2<=2;omega) rfl
 refine⟨_,_,m1 q,iC fun q _ _=>?_⟩
 obtain⟨t3,p1,p2⟩:=cA.setCel (A:=[_,_]) (j:=0) (v:=.int .i64 (e:Int)) m2 zZ rfl (by show 0+1<=1;omega) rfl
 exact⟨_,_,p1 q,fun hn=>⟨false,rfl,hQ _ (cA.setLp p2 hn hlb)⟩⟩
def Oa{args:List zA}:cL (.func (.yld l) [] []) args=some (yo+l,args):=rfl
abbrev opB(op:Option (Nat × Nat)):Bool:=op.isSome
def zbn{bx:Nat}(hy:YldR l r a0 a1 a2 a6)(hr1:r.state=.ready)(hr2:r.pending=none)(hlen:src.length<=65536)(hby:∀b∈src,b<256) :
  ∀(k off ln cl:Nat) (op:Option (Nat × Nat)) (i0 i1:Int) (acc:List wC) (v:zA) (tf t:Tr vA),src.length-off<k->off<=src.length->ln<=off+1->cl<=off+1->acc.length<=2*off->(op.isSome=true->acc.length+1<=2*off)->(∀p,op=some p->i0=(p.1:Int)/\i1=(p.2:Int)) →
   bI tf->cC tf bx none [.str src]->cA yA.base tf t (cO a0 a1 a2 a6 0 0 0 acc v++[yI sp src ln cl off]++[pH l r]) →
   (match iM k (src.drop off) ln cl op with
    | .ok m=>∀tf' t' v' ln' cl' off',bA tf tf'->cA yA.base tf' t' (cO a0 a1 a2 a6 0 0 0 (acc++m) v'++[yI sp src ln' cl' off']++[pH l r])->Q (.tup []) t'
    | .er e pl pc=>∀tf' t' v' acc' ln' cl' off',bA tf tf'->cA yA.base tf' t' (cO a0 a1 a2 a6 pl pc e acc' v'++[yI sp src ln' cl' off']++[pH l (aO false r)])->Q (.tup []) t') →
   jp 76 2 [.func (.yld l) [] [],.ptr bx 0,.ptr sp 0,.bool op.isSome,.int .i64 i0,.int .i64 i1] t Q:=by
 intro k;induction k with
 | zero=>intro off;omega
 | succ k ih=>
  intro off ln cl op i0 i1 acc v tf t hk hoff hln hcl hacc hacc2 hop hg hbx h hQ;have ho:=Kx (A:=cO a0 a1 a2 a6 0 0 0 acc v) (B:=[pH l r]) (by simpa using h)
  have hA:cA yA.base tf t (cO a0 a1 a2 a6 0 0 0 acc v++yI sp src ln cl off::[pH l r]):=by simpa using h
  have hlb:∀ {t},bA tf t->mA yA 9 ⟨0,t⟩ (.ptr bx 0)=some (.str src):=fun hl=>(cC.le hbx hl).load1 fN rfl rfl
  refine j76_2 ?_
  unfold t76_2 uI uS uU uB uG;refine qA g2 (vC ho (tB (vC (hlb h.tle) (iF ?_))))
  rw[iP];by_cases hlt:off<src.length
  ·have hx:src[off]?=some src[off]:=ybd hlt
   have hdrop:src.drop off=src[off]::src.drop (off+1):=ybl hlt
   rw[hdrop]at hQ;unfold iM at hQ;refine sA (by rw[lC];exact decide_eq_true (by omega)) (vC (hlb h.tle) (iF (qA g2 (vC ho (tB (qA (eM hx) (tB ?_)))))))
   by_cases h10:src[off]=10
   ·rw[yab h10]at hQ
    refine sA (by rw[tF,h10];rfl) ?_
    have nlg:∀(acc':List wC) (v':zA) (tf1 t1:Tr vA),acc'.length<=2*(off+1)->bA tf tf1->cA yA.base tf1 t1 (cO a0 a1 a2 a6 0 0 0 acc' v'++[yI sp src ln cl off]++[pH l r]) →
      (match iM k (src.drop (off+1)) (ln+1) 1 none with
       | .ok m=>∀tf' t' v' ln' cl' off',bA tf1 tf'->cA yA.base tf' t' (cO a0 a1 a2 a6 0 0 0 (acc'++m) v'++[yI sp src ln' cl' off']++[pH l r])->Q (.tup []) t'
       | .er e pl pc=>∀tf' t' v' acc' ln' cl' off',bA tf1 tf'->cA yA.base tf' t' (cO a0 a1 a2 a6 pl pc e acc' v'++[yI sp src ln' cl' off']++[pH l (aO false r)])->Q (.tup []) t') →
      wp 76 (.call 77 [.ptr sp 0] fun _=>.jump 2 [.func (.yld l) [] [],.ptr bx 0,.ptr sp 0,.bool false,uZ i0,uZ i1]) t1 Q:=by
     intro acc' v' tf1 t1 ha hle h1 hQ1;refine yB ?_
     rw[q77];refine UQ (A:=cO a0 a1 a2 a6 0 0 0 acc' v') (B:=[pH l r]) (by simpa using h1) (by omega) (by omega) fun t2 h2=>?_
     exact jC (ih (off+1) (ln+1) 1 none i0 i1 acc' v' tf1 t2 (by omega) (by omega) (by omega) (by omega) ha (fun h=>by cases h) (fun p hp=>by cases hp) (hg.mono hle) (cC.le hbx hle) (by simpa using h2) hQ1)
    cases op with
    | some p=>
     obtain⟨e0,e1⟩:=hop p rfl
     subst e0 e1
     refine sA rfl (sA rfl (wU Oa ?_))
     refine Tk (x:=endT p) (L:=[yI sp src ln cl off]) hy hr1 hr2 (by omega) h fun tf1 t1 v1 k1 k2=>?_
     refine rD (sB (by simp) (nlg (acc++[endT p]) v1 tf1 t1 (by have:=hacc2 rfl;simp;omega) k1 k2 ?_))
     unfold LR.close at hQ;revert hQ
     generalize iM k (src.drop (off+1)) (ln+1) 1 none=res
     intro hQ
     cases res with
     | ok m=>exact fun tf' t' v' ln' cl' off' q1 q2=>hQ tf' t' v' ln' cl' off' (k1.trans q1) (by simpa using q2)
     | er e pl pc=>exact fun tf' t' v' acc' ln' cl' off' q1 q2=>hQ tf' t' v' acc' ln' cl' off' (k1.trans q1) q2
    | none=>
     refine sB (by simp) (nlg acc v tf t (by omega) (bA.refl _) h ?_)
     exact hQ
   rw[yaa h10]at hQ;refine sB (by rw[tF];simp;omega) ?_
   have blank:∀n:Nat,off+n<=src.length->0<n->(match iM k (src.drop (off+n)) ln (cl+n) op with
     | .ok m=>∀tf' t' v' ln' cl' off',bA tf tf'->cA yA.base tf' t' (cO a0 a1 a2 a6 0 0 0 (acc++m) v'++[yI sp src ln' cl' off']++[pH l r])->Q (.tup []) t'
     | .er e pl pc=>∀tf' t' v' acc' ln' cl' off',bA tf tf'->cA yA.base tf' t' (cO a0 a1 a2 a6 pl pc e acc' v'++[yI sp src ln' cl' off']++[pH l (aO false r)])->Q (.tup []) t') →
     wp 76 (.call 78 [.ptr sp 0,.int .i64 (n:Int)] fun _=>.jump 2 [.func (.yld l) [] [],.ptr bx 0,.ptr sp 0,.bool op.isSome,uZ i0,uZ i1]) t Q:=by
    intro n hn hn0 hQ1;refine yB ?_
    rw[q78];refine DS hA (by omega) (by omega) fun t2 h2=>?_
    exact jC (ih (off+n) ln (cl+n) op i0 i1 acc v tf t2 (by omega) hn (by omega) (by omega) (by omega) (fun h=>by have:=hacc2 h;omega) hop hg hbx (by simpa using h2) hQ1)
   by_cases h32:src[off]=32
   ·rw[yab (.inl h32)]at hQ
    exact sA (by rw[tF,h32];rfl) (blank 1 (by omega) (by omega) hQ)
   refine sB (by rw[tF];simp;omega) ?_
   by_cases h9:src[off]=9
   ·rw[yab (.inr h9)]at hQ
    exact sA (by rw[tF,h9];rfl) (blank 1 (by omega) (by omega) hQ)
   rw[yaa (by simp[h32,h9])]at hQ
   refine sB (by rw[tF];simp;omega) ?_
   by_cases h35:src[off]=35
   ·rw[yab h35]at hQ
    have hrl:=Hc (fun x=>decide (x≠10)) (src.drop off)
    rw[ydj]at hrl;have hr0:0<(uD (fun x=>decide (x≠10)) (src.drop off)).length:=by
     rw[hdrop];unfold uD;rw[List.takeWhile_cons,yab (by simp[h10])];simp
    refine sA (by rw[tF,h35];rfl) (yB ?_)
    rw[q79,He hA (by omega),pA]
    refine iF (yB ?_)
    rw[q37,zcc (by rw[ydj];omega),pA]
    refine iF ?_
    rw[iP];rw[<- hdrop]at hQ;rw[List.drop_drop]at hQ;exact blank _ (by omega) hr0 hQ
   rw[yaa h35]at hQ;refine sB (by rw[tF];simp;omega) (yB ?_)
   rw[<- hdrop]at hQ;rw[q81];refine zbl hg hA hlt hlen (by omega) hby fun t1=>?_
   cases htk:vF (src.drop off)with
   | bad e=>
    rw[htk]at hQ;intro h1;have he:e≠0:=by
     intro e0;subst e0;rw[hdrop]at htk;unfold vF at htk;simp only at htk
     repeat (split at htk<;>try (cases htk;done))
    refine qA rfl (nC (X:=cellsOf [.int .u8 0,.str [],.int .i64 (ln:Int),.int .i64 (cl:Int)]) (uO rfl) (qA rfl (tB (sA rfl (wU Oa ?_)))))
    refine za9 (pl:=ln) (pc:=cl) (L:=[yI sp src ln cl off]) hy he (by simpa using h1) fun t2 h2=>?_
    exact rD (sA rfl (hQ tf t2 v acc ln cl off (bA.refl _) h2))
   | tok kd w=>
    rw[htk]at hQ;intro h1;obtain⟨lw,_⟩:=CD htk
    rw[ydj]at lw;have hw0:0<w.length:=by
     rw[hdrop]at htk;unfold vF at htk;simp only at htk
     split at htk
     ·rename_i hl
      split at htk
      ·cases htk
      ·cases htk
       unfold uD;rw[List.takeWhile_cons,yab (by unfold yJ;rw[hl];rfl)];simp
     split at htk
     ·rename_i hd
      split at htk
      ·cases htk
      ·cases htk;rw[yda,ybn];omega
     split at htk
     ·rename_i hd _
      split at htk
      ·cases htk
      ·cases htk
       have:0<dE (src[off]::src.drop (off+1)):=by
        have:0<(bC (src[off]::src.drop (off+1))).length:=by
         unfold bC uD;rw[List.takeWhile_cons,yab (by assumption)];simp
        unfold dE;split<;>omega
       rw[yda,ybn];omega
     split at htk
     ·cases htk;simp
     ·cases htk
    refine qA rfl (nC (X:=cellsOf [.int .u8 (kd:Int),.str w,.int .i64 (ln:Int),.int .i64 (cl:Int)]) (uO rfl) (qA rfl (tB (sA rfl (wU Oa ?_)))))
    refine Tk (acc:=acc) (v:=v) (x:=⟨kd,w,ln,cl⟩) (L:=[yI sp src ln (cl+w.length) (off+w.length)]) hy hr1 hr2 (by omega) (by simpa using h1) fun tf2 t2 v2 k1 k2=>?_
    have hA2:cA yA.base tf2 t2 (cO a0 a1 a2 a6 0 0 0 (acc++[⟨kd,w,ln,cl⟩]) v2++yI sp src ln (cl+w.length) (off+w.length)::[pH l r]):=by simpa using k2
    refine rD (sB (by simp) (sB (by decide) (qA g0 (vC (sc_pl hA2) (nC (X:=cellsOf [.int .i64 (ln:Int),.int .i64 ((cl+w.length:Nat):Int)]) (uO rfl) (sA rfl (jC ?_)))))))
    refine ih (off+w.length) ln (cl+w.length) (some (ln,cl+w.length)) _ _ (acc++[⟨kd,w,ln,cl⟩]) v2 tf2 t2 (by omega) (by omega) (by omega) (by omega) (by simp;omega) (fun _=>by simp;omega) (fun p hp=>by cases hp;exact⟨rfl,rfl⟩) (hg.mono k1) (cC.le hbx k1) k2 ?_
    have hdd:(src.drop off).drop w.length=src.drop (off+w.length):=by rw[List.drop_drop]
    simp only[hdd]at hQ;unfold LR.cons at hQ;revert hQ
    generalize iM k (src.drop (off+w.length)) ln (cl+w.length) (some (ln,cl+w.length))=res
    intro hQ
    cases res with
    | ok m=>exact fun tf' t' v' ln' cl' off' q1 q2=>hQ tf' t' v' ln' cl' off' (k1.trans q1) (by simpa using q2)
    | er e pl pc=>exact fun tf' t' v' acc' ln' cl' off' q1 q2=>hQ tf' t' v' acc' ln' cl' off' (k1.trans q1) q2
  ·have hdrop:src.drop off=[]:=ybt (by omega)
   rw[hdrop]at hQ;unfold iM at hQ;refine sB (by rw[lC];simp;omega) ?_
   cases op with
   | some p=>
    obtain⟨e0,e1⟩:=hop p rfl
    subst e0 e1
    refine sA rfl (sA rfl (wU Oa ?_))
    refine Tk (x:=endT p) (L:=[yI sp src ln cl off]) hy hr1 hr2 (by omega) h fun tf1 t1 v1 k1 k2=>?_
    exact rD (hQ tf1 t1 v1 ln cl off k1 k2)
   | none=>
    refine sB (by simp) ?_
    have:=hQ tf t v ln cl off (bA.refl _) (by simpa using h)
    exact this
end
end
section
variable [fC]
def oI (s:List Nat):LR:=if 65536<s.length then .er 3 0 0 else Cj s
section
variable {t:Tr vA}{Q:qB}{s:List Nat}
def zfp(hg:bI t)(hby:∀b∈s,b<256)
  (hQ:match oI s with
   | .ok m=>∀t' v,bA t t'->aA t' 4 (m.map wC.d) v->Q (.tup [v,.agg [.int .i64 0,.int .i64 0],.int .i64 0]) t'
   | .er e a b=>∀t',bA t t'->Q (.tup [.nilslice,.agg [.int .i64 (a:Int),.int .i64 (b:Int)],.int .i64 (e:Int)]) t'):Wc yA F 22 [.str s] t Q:=by
 have ho:cA yA.base t t []:=⟨bA.refl _,by simp,by simp,by simp⟩
 refine w22 ?_
 unfold t22;refine iC fun a0 h0 b0=>?_
 obtain⟨t1,e1,e2,e3,e4⟩:=iS (C:=yA) bS h0
 have o1:=cA.newCel (A:=[]) (B:=[]) ho h0 b0 e2 e3 e4
 refine⟨_,_,e1,iC fun a1 h1 b1=>?_⟩
 obtain⟨t2,f1,f2,f3,f4⟩:=iS (C:=yA) lV h1
 have o2:=cA.newCel (A:=[_]) (B:=[]) o1 h1 b1 f2 f3 f4
 refine⟨_,_,f1,iC fun a2 h2 b2=>?_⟩
 obtain⟨t3,k1,k2,k3,k4⟩:=iS (C:=yA) zZ h2
 have o3:=cA.newCel (A:=[_,_]) (B:=[]) o2 h2 b2 k2 k3 k4
 refine⟨_,_,k1,?_⟩
 rw[iP];have ends:∀ {tf t':Tr vA} {L:List jE} {v:zA} {a b e:Nat},zA.one v=true->cA yA.base tf t' ([cB a0 none [v],cB a1 none [.int .i64 (a:Int),.int .i64 (b:Int)],cB a2 none [.int .i64 (e:Int)]]++L) →
   mA yA 66 ⟨0,t'⟩ (.ptr a0 0)=some v/\mA yA 29 ⟨0,t'⟩ (.ptr a1 0)=some (.agg [.int .i64 (a:Int),.int .i64 (b:Int)])/\mA yA 30 ⟨0,t'⟩ (.ptr a2 0)=some (.int .i64 (e:Int)):=by
  intro tf t' L v a b e _ h;refine⟨(cA.cel (A:=[]) h).load1 bS rfl rfl,?_,(cA.cel (A:=[_,_]) h).load1 zZ rfl rfl⟩
  have:=(cA.cel (A:=[_]) h).at.load (j:=0) (n:=2) lV rfl rfl (by simp)
  simpa using this
 by_cases hl:65536<s.length
 ·have hx:oI s=.er 3 0 0:=by unfold oI;rw[yab hl]
  rw[hx]at hQ;refine sA (by rw[lC];exact decide_eq_true (by omega)) (sA rfl (iC fun q _ _=>?_))
  obtain⟨t4,n1,n2⟩:=cA.setCel (A:=[]) (j:=0) (v:=.nilslice) o3 bS rfl (by show 0+1<=1;omega) rfl
  refine⟨_,_,n1 q,iC fun q _ _=>?_⟩
  obtain⟨t5,m1,m2⟩:=cA.setCel (A:=[_]) (j:=0) (v:=.agg [.int .i64 0,.int .i64 0]) n2 lV rfl (by show 0+2<=2;omega) rfl
  refine⟨_,_,m1 q,iC fun q _ _=>?_⟩
  obtain⟨t6,p1,p2⟩:=cA.setCel (A:=[_,_]) (j:=0) (v:=.int .i64 3) m2 zZ rfl (by show 0+1<=1;omega) rfl
  obtain⟨l1,l2,l3⟩:=ends (L:=[]) (a:=0) (b:=0) (e:=3) (v:=.nilslice) rfl p2
  exact⟨_,_,p1 q,vC l1 (vC l2 (vC l3 (hQ t6 p2.tle)))⟩
 ·have hx:oI s=Cj s:=by unfold oI;rw[yaa hl]
  rw[hx]at hQ;refine sB (by rw[lC];simp;omega) (iC fun a6 h6 b6=>?_)
  obtain⟨t4,n1,n2,n3,n4⟩:=iS (C:=yA) bS h6
  have o4:=cA.newCel (A:=[_,_,_]) (B:=[]) o3 h6 b6 n2 n3 n4
  refine⟨_,_,n1,yB ?_⟩
  rw[q49];refine w49 ?_
  unfold t49;refine iC fun bx hbx bbx=>?_
  obtain⟨t5,m1,⟨cc,m2,m2'⟩,m3,m4⟩:=Su (v:=.str s) hbx
  have o5:=o4.junk hbx m4
  have hfb:=o4.tfn hbx
  obtain⟨p1,p2⟩:=o5.froze (fun hm=>o4.fresh hbx hm) m2 hfb
  generalize htf:t.set bx (vA.cells cc (zA.str s).cells.length none)=tf1 at p1 p2
  have hcb:cC tf1 bx none [.str s]:=⟨cc,by rw[<- htf,Tr.get_set,yab rfl];rfl,m2'⟩
  refine⟨_,_,m1,?_⟩
  show rA _ _ _ (.range (aR yA) (.func (.func 76) [] [.ptr bx 0]) 2 2 [.ptr a0 0,.ptr a1 0,.ptr a2 0,.ptr a6 0] _ _) _ _
  refine⟨Nat.le_add_right _ _,fun l r hl0 hlb hr1 hr2 hy=>?_⟩
  have hra:Bw (aR yA) (.func (.func 76) [] [.ptr bx 0]) l=some (76,[.func (.yld l) [] [],.ptr bx 0]):=by
   unfold Bw;simp only[zA.asFunc,oA];have:aR yA 76=true:=by kernel_rfl
   rw[this];rfl
  rw[hra,pA];show Wq yA F mB 76 _ _ _
  rw[q76];have o6:=cA.setLp (r:=r) p1 hl0 hlb
  have hyr:YldR l r a0 a1 a2 a6:=fun args t1 Q1 h1 h2 h3=>hy args t1 Q1 h1 h2 h3
  refine w76 ?_
  unfold t76 uS;have lb:mA yA 9 ⟨0,t5.set l (.loop r)⟩ (.ptr bx 0)=some (.str s):=(cC.le hcb o6.tle).load1 fN rfl rfl
  refine sA rfl (vC lb (iF (sA rfl (iC fun sp hsp bsp=>?_))))
  obtain⟨t7,r1,r2,r3,r4⟩:=iS (C:=yA) ty145 hsp
  have o7:=cA.newCel (A:=[_,_,_,_]) (B:=[pH l r]) o6 hsp bsp r2 r3 r4
  refine⟨_,_,r1,iC fun q _ _=>?_⟩
  obtain⟨t8,s1,s2⟩:=cA.setCel (A:=[_,_,_,_]) (j:=0) (v:=.agg [.int .i64 1,.int .i64 1,.str s,.int .i64 0]) o7 ty145 rfl (by show 0+4<=4;omega) rfl
  refine⟨_,_,s1 q,jC ?_⟩
  have o8:cA yA.base tf1 t8 (cO a0 a1 a2 a6 0 0 0 [] .nilslice++[yI sp s 1 1 0]++[pH l r]):=
   cA.add (A:=[cB a0 none [.nilslice],cB a1 none [.int .i64 0,.int .i64 0],cB a2 none [.int .i64 0],cB a6 none [.nilslice]]) (B:=[yI sp s 1 1 0,pH l r]) (o':=wD yA.base 4 (([]:List wC).map wC.d) .nilslice) s2 (fun _ _=>rfl) (fun k hk=>by simp[wD,kI]at hk) (.inl ⟨rfl,rfl⟩) (by simp[wD,kI]) s2.tle
  refine zbn hyr hr1 hr2 (by omega) hby (s.length+1) 0 1 1 none 0 0 [] .nilslice tf1 t8 (by omega) (by omega) (by omega) (by omega) (by simp) (fun h=>by cases h) (fun p hp=>by cases hp) (hg.mono p2) hcb o8 ?_
  rw[ycr];unfold Cj at hQ;revert hQ
  generalize iM (s.length+1) s 1 1 none=res
  intro hQ
  cases res with
  | ok m=>
   intro tf' t' v' ln' cl' off' u1 u2;rw[yah]at u2;refine .inl ⟨u2.ok (pH l r) (by simp),?_⟩
   have u3:=cA.delLp u2
   have lv:mA yA 66 ⟨0,t'.del l⟩ (.ptr a6 0)=some v':=(cA.cel (A:=[_,_,_]) u3).load1 bS rfl rfl
   have hv:tR yA.base tf' (t'.del l) 4 (m.map wC.d) v':=u3.ok (wD yA.base 4 (m.map wC.d) v') (by simp)
   have hone:zA.one v'=true:=hv.one
   have hcell:v'.cells=[v']:=by
    rcases hv with⟨e,_⟩ | ⟨b,cl,c,e,_⟩ <;> (subst e;rfl)
   refine vC lv (sA rfl (iC fun q _ _=>?_))
   obtain⟨t9,x1,x2⟩:=cA.setCel (A:=[]) (j:=0) (v:=v') u3 bS (by rw[hcell];rfl) (by rw[hcell];show 0+1<=1;omega) (by rw[hcell,nI];simp[hone])
   have e9:jJ [zA.nilslice] 0 v'.cells=[v']:=by rw[hcell];rfl
   rw[e9]at x2;refine⟨_,_,x1 q,iC fun q _ _=>?_⟩
   obtain⟨t10,y1,y2⟩:=cA.setCel (A:=[_]) (j:=0) (v:=.agg [.int .i64 0,.int .i64 0]) x2 lV rfl (by show 0+2<=2;omega) rfl
   refine⟨_,_,y1 q,iC fun q _ _=>?_⟩
   obtain⟨t11,z1,z2⟩:=cA.setCel (A:=[_,_]) (j:=0) (v:=.int .i64 0) y2 zZ rfl (by show 0+1<=1;omega) rfl
   obtain⟨l1,l2,l3⟩:=ends (L:=[_,_,_]) (a:=0) (b:=0) (e:=0) hone z2
   refine⟨_,_,z1 q,vC l1 (vC l2 (vC l3 ?_))⟩
   obtain⟨tf2,w1,w2,w3⟩:=cA.freezeL (A:=[_,_,_,_]) (B:=[yI sp s ln' cl' off']) z2
   exact hQ t11 v' (p2.trans (u1.trans z2.tle)) (w3.mono w2.tle)
  | er e pl pc=>
   intro tf' t' v' acc' ln' cl' off' u1 u2;refine .inr ⟨u2.ok (pH l (aO false r)) (by simp),?_⟩
   have u3:=cA.delLp u2
   obtain⟨l1,l2,l3⟩:=ends (L:=[_,_,_]) (v:=.nilslice) rfl u3
   exact vC l1 (vC l2 (vC l3 (hQ _ (p2.trans (u1.trans u3.tle)))))
def qT(s:List Nat):Nat:=(s.reverse.takeWhile fun b=>decide (b≠10)).length
def zji(hl:s.length<1000000):uC yA F 55 [.str s,.int .u8 10] t=some (.int .i64 ((s.length:Int)-1-(qT s:Int))):=by
 have loop:∀(k:Nat),k<=s.length->qT s=(s.length-k)+qT (s.take k)->jp 87 2 [.str s,.int .u8 10,.int .i64 ((k:Int)-1)] t fun v t'=>v=.int .i64 ((s.length:Int)-1-(qT s:Int))/\t'=t:=by
  intro k;induction k with
  | zero=>
   intro hk he;refine j87_2 ?_
   unfold zh4;refine sB (by rw[rS];simp) ⟨?_,rfl⟩
   rw[List.take_zero]at he;have:qT []=0:=rfl
   congr 1
   omega
  | succ k ih=>
   intro hk he;have hx:s[k]?=some s[k]:=ybd (by omega)
   have e1:((k+1:Nat):Int)-1=(k:Int):=by omega
   refine j87_2 ?_
   unfold zh4 uU;rw[e1];refine sA (by rw[rS];exact decide_eq_true (by omega)) (qA (eM hx) (tB ?_))
   have hc:qT (s.take (k+1))=if s[k]=10 then 0 else qT (s.take k)+1:=by
    unfold qT;rw[qQ hx,List.reverse_append,List.reverse_singleton,List.singleton_append,List.takeWhile_cons];by_cases h10:s[k]=10
    ·simp[h10]
    ·simp[h10]
   by_cases h10:s[k]=10
   ·rw[yab h10]at hc
    refine sA (by rw[tF,h10];rfl) ⟨?_,rfl⟩
    congr 1
    omega
   ·rw[yaa h10]at hc
    refine sB (by rw[tF];simp;omega) (jC ?_)
    have e2:uW ((k:Int)-1)=(k:Int)-1:=gC (by omega) (by omega)
    rw[e2];exact ih (by omega) (by omega)
 refine fD.2 (w55 ?_)
 unfold t55 uI;refine yB ?_
 have h87:uC yA F 87 [.str s,.int .u8 10] t=some (.int .i64 ((s.length:Int)-1-(qT s:Int))):=by
  refine fD.2 (w87 ?_)
  unfold t87;rw[iP];have e2:uW ((s.length:Int)-1)=(s.length:Int)-1:=gC (by omega) (by omega)
  rw[e2];exact jC (loop s.length (ybk _) (by rw[List.take_length];omega))
 rw[q87,h87,pA];exact tB ⟨rfl,rfl⟩
def atL (s:List Nat):Nat:=iT 10 s+1
def atC (s:List Nat):Nat:=qT s+1
def zd3(s:List Nat):iT 10 s<=s.length:=by
 induction s with
 | nil=>exact ybk _
 | cons b s ih=>
  have e:iT 10 (b::s)=bif Nat.beq b 10 then iT 10 s+1 else iT 10 s:=rfl
  rw[e,ybn]
  cases Nat.beq b 10 with
  | true=>rw[cond_true];omega
  | false=>rw[cond_false];omega
def VS(s:List Nat):qT s<=s.length:=by
 unfold qT;have:=(List.takeWhile_sublist (fun b=>decide (b≠10)) (l:=s.reverse)).length_le
 rwa [List.length_reverse]at this
def at_pv(hl:s.length<900000){n:Nat}(hn:n<=s.length):uC yA F 25 [.str s,.int .i64 (n:Int)] t=some (.agg [.int .i64 (atL (s.take n):Int),.int .i64 (atC (s.take n):Int)]):=by
 refine fD.2 (w25 ?_)
 unfold t25 uS uI;have e0:(bif bB (Int.ofNat (zB s)) (n:Int)then Int.ofNat (zB s)else(n:Int))=(n:Int):=by
  rw[iP,lC,decide_eq_false (by omega)];rfl
 rw[e0];have hlen:(s.take n).length=n:=by rw[yda];omega
 refine sB (by rw[lC];simp) (qA (Ef hn) (iF (yB ?_)))
 have hgp:yA.prims.get 54=some (eO Ln):=by kernel_rfl
 have hcn:uC yA F 54 [.str (s.take n),.str [10]] t=some (.int .i64 (iT 10 (s.take n):Int)):=Lj hgp fun H=>rfl
 rw[q54,hcn,pA];refine tB (yB ?_)
 rw[q55];show sE (uC yA F 55 [.str (s.take n),.int .u8 10] t) _
 rw[zji (by omega),pA]
 have h1:=zd3 (s.take n)
 have h2:=VS (s.take n)
 have e1:xD (iT 10 (s.take n):Int)=.int .i64 (atL (s.take n):Int):=by
  show zA.int .i64 (iA .i64 ((iT 10 (s.take n):Int)+1))=_
  rw[gC (by omega) (by omega)];rfl
 have e2:uW (Int.ofNat (zB (s.take n))-(((s.take n).length:Int)-1-(qT (s.take n):Int)))=(atC (s.take n):Int):=by
  unfold uW atC;rw[iP,gC (by omega) (by omega)];omega
 refine tB (sA rfl (sA rfl ?_))
 rw[e1,e2];exact⟨rfl,rfl⟩
end
end
section
variable {y:nD}{cs':List zA}{e k':Int}
variable [fC]
def tRun (ty:Nat)(z:List zA)(cf:zH->List zA)(p0:List Nat)(p1:zA):T:=
 .heavy (rI yA ty) fun a0=>
 .heavy (rI yA 29) fun a1=>
 .heavy (rI yA 30) fun a2=>
 .call 22 [(.str p0)] fun a3=>
 .opt (bF 0 a3) fun a4=>.opt (bF 1 a3) fun a5=>.asG [(.int .i64 0),(.int .i64 0)] a5 fun X6=>
 .opt (bF 2 a3) fun a7=>.asI .i64 a7 fun n8=>.heavy (lB yA 29 a1 (.agg [(.int .i64 (X6.i 0)),(.int .i64 (X6.i 1))])) fun _=>
 .heavy (lB yA 30 a2 (.int .i64 n8)) fun _=>
 .light (fun m=>mA yA 30 ⟨0,m⟩ a2) fun a9=>.asI .i64 a9 fun n10=>.ite (!aB n10 0)
 (.light (fun m=>mA yA ty ⟨0,m⟩ a0) fun a11=>.asG z a11 fun X12=>
 .light (fun m=>mA yA 29 ⟨0,m⟩ a1) fun a13=>.asG [(.int .i64 0),(.int .i64 0)] a13 fun X14=>
 .light (fun m=>mA yA 30 ⟨0,m⟩ a2) fun a15=>.asI .i64 a15 fun n16=>.heavy (lB yA ty a0 (.agg (cf X12))) fun _=>
 .light (fun m=>mA yA 29 ⟨0,m⟩ a1) fun a17=>.ite (same 10 a17 (.agg [(.int .i64 (X14.i 0)),(.int .i64 (X14.i 1))])) (.light (fun m=>mA yA 30 ⟨0,m⟩ a2) fun a18=>.ite (same 10 a18 (.int .i64 n16)) (.heavy (lB yA 29 a1 (.agg [(.int .i64 (X14.i 0)),(.int .i64 (X14.i 1))])) fun _=>
 .light (fun m=>mA yA 30 ⟨0,m⟩ a2) fun a19=>.ite (same 10 a19 (.int .i64 n16)) (.heavy (lB yA 30 a2 (.int .i64 n16)) fun _=>
 .light (fun m=>mA yA ty ⟨0,m⟩ a0) fun a20=>.light (fun m=>mA yA 29 ⟨0,m⟩ a1) fun a21=>.light (fun m=>mA yA 30 ⟨0,m⟩ a2) fun a22=>.ret (.tup [a20,a21,a22])) .fail) .fail) .fail)
 (.call 25 [(.str p0),(.int .i64 (Int.ofNat (zB p0)))] fun a23=>
 .asG [(.int .i64 0),(.int .i64 0)] a23 fun X24=>
 .ite (kB zA.one [a4]) (.heavy (xM (.agg [a4,(.int .i64 0),(.int .i64 0),(.int .i64 (X24.i 0)),(.int .i64 (X24.i 1))])) fun a25=>
 .jump 11 [p1,a0,a1,a2,a25]) .fail)
def tR13 (ty:Nat)(z:List zA)(cf:zH->List zA)(v1 v4 v5 v6 v8:zA):T:=
 .callv v1 [v8] fun a0=>
 .asG z a0 fun X1=>
 .ite true (.heavy (lB yA ty v4 (.agg (cf X1))) fun _=>
 .heavy (lB yA 29 v5 (.agg [(.int .i64 0),(.int .i64 0)])) fun _=>
 .heavy (lB yA 30 v6 (.int .i64 0)) fun _=>
 .light (fun m=>mA yA ty ⟨0,m⟩ v4) fun a2=>.light (fun m=>mA yA 29 ⟨0,m⟩ v5) fun a3=>.light (fun m=>mA yA 30 ⟨0,m⟩ v6) fun a4=>.ret (.tup [a2,a3,a4])) .fail
def tR3 (ty:Nat)(z:List zA)(v0 v1 v2 v3:zA):T:=
 .opt ((aP .neq).f yA 20 (.tmp 8) (.const .nilIface) v3 .niliface) fun a0=>.asB a0 fun b1=>.ite b1
 (.heavy (lB yA ty v0 (.agg z)) fun _=>
 .heavy (lB yA 30 v1 (.int .i64 120)) fun _=>
 .opt (Dx yA 123 true v3) fun a2=>.opt (bF 0 a2) fun a3=>.asG [(.int .i64 0),(.int .i64 0),(.int .i64 0)] a3 fun X4=>
 .opt (bF 1 a2) fun a5=>.asB a5 fun b6=>.ite true (.ite b6
 (.heavy (lB yA 29 v2 (.agg [(.int .i64 (X4.i 0)),(.int .i64 (X4.i 1))])) fun _=>
 .ite (same 10 (.int .i64 (X4.i 2)) (.int .i64 (X4.i 2))) (.heavy (lB yA 30 v1 (.int .i64 (X4.i 2))) fun _=>
 .ret (.tup [])) .fail)
 (.ret (.tup []))) .fail)
 (.ret (.tup []))
def tRe (ty:Nat)(v4 v5 v6:zA):T:=.light (fun m=>mA yA ty ⟨0,m⟩ v4) fun a2=>.light (fun m=>mA yA 29 ⟨0,m⟩ v5) fun a3=>.light (fun m=>mA yA 30 ⟨0,m⟩ v6) fun a4=>.ret (.tup [a2,a3,a4])
def L3 (b0 b1 b2:Nat)(z:List zA)(a b k:Int):List jE:=[cB b0 none z,cB b1 none [.int .i64 a,.int .i64 b],cB b2 none [.int .i64 k]]
structure RT (T:Nat) (z:List zA) (cf:zH->List zA):Prop where
 ty:∃y,yA.tys.get T=some y/\y.desc.isAgg=true/\y.zero=z/\y.size=z.length
 one:kB zA.one z=true
 ag:nK z (.agg z)=some (cellsOf z)
 cf:cf (cellsOf z)=z
section
variable {t tf:Tr vA}{Q:qB}{s:List Nat}{T:Nat}{z:List zA}{cf:zH->List zA}{J:wF}{A B:List jE}{b0 b1 b2:Nat}{cs:List zA}{a b k:Int}{W:wF}
def ldS (h:cA yA.base tf t (A++cB b0 none cs::B))(hT:yA.tys.get T=some y)(ha:y.desc.isAgg=true)(hs:y.size=cs.length):mA yA T ⟨0,t⟩ (.ptr b0 0)=some (.agg cs):=by
 have:=h.cel.at.load (j:=0) (n:=cs.length) hT ha hs (by omega)
 simpa using this
def stS  (h:cA yA.base tf t (A++cB b0 none cs::B))(hT:yA.tys.get T=some y)(hs:y.size=cs.length)(hl:cs'.length=cs.length)(hone:kB zA.one cs'=true):∃t',(∀q,lB yA T (.ptr b0 0) (.agg cs') ⟨q,t⟩=some (jD,⟨q,t'⟩))/\cA yA.base tf t' (A++cB b0 none cs'::B):=by
 obtain⟨t',h1,h2⟩:=cA.setCel (j:=0) (v:=.agg cs') h hT (by show cs'.length=_;omega) (by show 0+cs'.length<=_;omega) hone
 refine⟨t',h1,?_⟩
 have hov:jJ cs 0 cs'=cs':=by
  unfold jJ;rw[List.take_zero,yah,ybt (by omega),ycd]
 have h2:cA yA.base tf t' (A++cB b0 none (jJ cs 0 cs')::B):=h2
 rwa [hov]at h2
def stI (h:cA yA.base tf t (A++cB b0 none [.int .i64 k]::B)):∃t',(∀q,lB yA 30 (.ptr b0 0) (.int .i64 k') ⟨q,t⟩=some (jD,⟨q,t'⟩))/\cA yA.base tf t' (A++cB b0 none [.int .i64 k']::B):=by
 obtain⟨t',h1,h2⟩:=cA.setCel (j:=0) (v:=.int .i64 k') h zZ rfl (by show 0+1<=1;omega) rfl
 exact⟨t',h1,h2⟩
def ag2{a b:Int}:nK [.int .i64 0,.int .i64 0] (.agg [.int .i64 a,.int .i64 b])=some (cellsOf [.int .i64 a,.int .i64 b]):=uO rfl
def zik(hR:RT T z cf)(hl:cs.length=z.length)(h:cA yA.base tf t (A++L3 b0 b1 b2 cs a b k))(hQ:Q (.tup [.agg cs,.agg [.int .i64 a,.int .i64 b],.int .i64 k]) t):rA yA.base W J (tRe T (.ptr b0 0) (.ptr b1 0) (.ptr b2 0)) t Q:=by
 obtain⟨y,h1,h2,h3,h4⟩:=hR.ty
 unfold tRe;refine vC (ldS h h1 h2 (by omega)) (vC (v:=.agg [.int .i64 a,.int .i64 b]) ?_ (vC (v:=.int .i64 k) ?_ hQ))
 ·exact ldS (A:=A++[cB b0 none cs]) (B:=[cB b2 none [.int .i64 k]]) (by simpa[L3]using h) lV rfl rfl
 ·have h':cA yA.base tf t ((A++[cB b0 none cs,cB b1 none [.int .i64 a,.int .i64 b]])++cB b2 none [.int .i64 k]::[]):=by simpa[L3]using h
  exact h'.cel.load1 zZ rfl rfl
def set0(hR:RT T z cf) (hl:cs.length=z.length)(hl':cs'.length=z.length)(hone:kB zA.one cs'=true)(h:cA yA.base tf t (A++L3 b0 b1 b2 cs a b k)):∃t',(∀q,lB yA T (.ptr b0 0) (.agg cs') ⟨q,t⟩=some (jD,⟨q,t'⟩))/\cA yA.base tf t' (A++L3 b0 b1 b2 cs' a b k):=by
 obtain⟨y,h1,h2,h3,h4⟩:=hR.ty
 exact stS h h1 (by omega) (by omega) hone
def set1{a' b':Int}(h:cA yA.base tf t (A++L3 b0 b1 b2 cs a b k)):∃t',(∀q,lB yA 29 (.ptr b1 0) (.agg [.int .i64 a',.int .i64 b']) ⟨q,t⟩=some (jD,⟨q,t'⟩))/\cA yA.base tf t' (A++L3 b0 b1 b2 cs a' b' k):=by
 obtain⟨t',h1,h2⟩:=stS (A:=A++[cB b0 none cs]) (B:=[cB b2 none [.int .i64 k]]) (cs:=[.int .i64 a,.int .i64 b]) (b0:=b1) (cs':=[.int .i64 a',.int .i64 b']) (by simpa[L3]using h) lV rfl rfl rfl
 exact⟨t',h1,by simpa[L3]using h2⟩
def set2 (h:cA yA.base tf t (A++L3 b0 b1 b2 cs a b k)):∃t',(∀q,lB yA 30 (.ptr b2 0) (.int .i64 k') ⟨q,t⟩=some (jD,⟨q,t'⟩))/\cA yA.base tf t' (A++L3 b0 b1 b2 cs a b k'):=by
 obtain⟨t',h1,h2⟩:=stI (A:=A++[cB b0 none cs,cB b1 none [.int .i64 a,.int .i64 b]]) (B:=[]) (k':=k') (by simpa[L3]using h)
 exact⟨t',h1,by simpa[L3]using h2⟩
def ld1(h:cA yA.base tf t (A++L3 b0 b1 b2 cs a b k)):mA yA 29 ⟨0,t⟩ (.ptr b1 0)=some (.agg [.int .i64 a,.int .i64 b]):=
 ldS (A:=A++[cB b0 none cs]) (B:=[cB b2 none [.int .i64 k]]) (by simpa[L3]using h) lV rfl rfl
def ld2(h:cA yA.base tf t (A++L3 b0 b1 b2 cs a b k)):mA yA 30 ⟨0,t⟩ (.ptr b2 0)=some (.int .i64 k):=by
 have h':cA yA.base tf t ((A++[cB b0 none cs,cB b1 none [.int .i64 a,.int .i64 b]])++cB b2 none [.int .i64 k]::[]):=by simpa[L3]using h
 exact h'.cel.load1 zZ rfl rfl
def clo_ok(hR:RT T z cf){x y:Int}(hl:cs.length=z.length)(h:cA yA.base tf t (A++L3 b0 b1 b2 cs a b k))(hQ:∀t',cA yA.base tf t' (A++L3 b0 b1 b2 z x y e)->Q (.tup []) t') :
  rA yA.base W J (tR3 T z (.ptr b0 0) (.ptr b2 0) (.ptr b1 0) (.iface 123 (.agg [.int .i64 x,.int .i64 y,.int .i64 e]))) t Q:=by
 unfold tR3;refine qA (v:=.bool true) (by kernel_rfl) (rD (sA rfl ?_))
 obtain⟨t1,h1,h2⟩:=set0 hR (cs':=z) hl rfl hR.one h
 refine iC fun q _ _=>⟨_,_,h1 q,?_⟩
 obtain⟨t2,h3,h4⟩:=set2 (k':=120) h2
 refine iC fun q _ _=>⟨_,_,h3 q,?_⟩
 refine qA (v:=.tup [.agg [.int .i64 x,.int .i64 y,.int .i64 e],.bool true]) (by kernel_rfl) (qA (v:=.agg [.int .i64 x,.int .i64 y,.int .i64 e]) rfl (nC (X:=cellsOf [.int .i64 x,.int .i64 y,.int .i64 e]) (uO rfl) (qA (v:=.bool true) rfl (rD (sA rfl (sA rfl ?_))))))
 obtain⟨t3,h5,h6⟩:=set1 (a':=x) (b':=y) h4
 refine iC fun q _ _=>⟨_,_,h5 q,?_⟩
 refine sA (by show same 10 (.int .i64 e) (.int .i64 e)=true;simp[same,tN,tF]) ?_
 obtain⟨t4,h7,h8⟩:=set2 (k':=e) h6
 refine iC fun q _ _=>⟨_,_,h7 q,?_⟩
 exact hQ _ h8
def zfg  : same 10 (.int .i64 e) (.int .i64 e)=true:=by simp[same,tN,tF]
def same_2{a b:Int}:same 10 (.agg [.int .i64 a,.int .i64 b]) (.agg [.int .i64 a,.int .i64 b])=true:=by simp[same,same.sames,tN,tF]
def Uj{α:Type}{rd:Tr vA->α->zA->Prop}{good:Tr vA->α->List zA->Prop}{P:eI}{r:PR α}{g:Nat}(hR:RT T z cf)(hL:P.L=L3 b0 b1 b2 z 0 0 0)(h:St P tf t 0 0)
  (hQ:match r with
   | .ok x _=>∀tf' t' cs,bA tf tf'->bA tf' t'->good tf' x cs->Q (.tup [.agg cs,.agg [.int .i64 0,.int .i64 0],.int .i64 0]) t'
   | .er e i=>∀t',bA tf t'->Q (.tup [.agg z,.agg [.int .i64 ((qF P i).line:Int),.int .i64 ((qF P i).col:Int)],.int .i64 (e:Int)]) t')
  (hcall:∀Q E,Ok P rd 0 tf r Q E->oE yA F mB vE E g [.ptr P.bp 0] t Q) (hg:Nat.blt g pn=true)
  (hrd:∀tf' x v,rd tf' x v->∃cs,v=.agg cs/\cs.length=z.length/\nK z (.agg cs)=some (cellsOf cs)/\cf (cellsOf cs)=cs/\kB zA.one cs=true/\good tf' x cs) :
  rA yA.base (oE yA F mB vE fun v t'=>rA yA.base (Wq yA F mB) sM (tR3 T z (.ptr b0 0) (.ptr b2 0) (.ptr b1 0) v) t' fun _ t''=>rA yA.base (Wq yA F mB) sM (tRe T (.ptr b0 0) (.ptr b1 0) (.ptr b2 0)) t'' Q) sM
   (tR13 T z cf (.func (.func g) [] []) (.ptr b0 0) (.ptr b1 0) (.ptr b2 0) (.ptr P.bp 0)) t Q:=by
 unfold tR13;have hf:cL (.func (.func g) [] []) [.ptr P.bp 0]=some (g,[.ptr P.bp 0]):=by
  unfold cL;simp only[zA.asFunc,oA,hg,rE];rfl
 refine wU hf (hcall _ _ ?_)
 cases r with
 | er e i=>
  intro tf' t' n' d' hle hst;have ho:cA yA.base tf' t' ([qG P n' d']++L3 b0 b1 b2 z 0 0 0):=by rw[<- hL];exact hst.ob
  refine clo_ok hR rfl ho fun t2 ho2=>?_
  refine zik hR rfl ho2 ?_
  exact hQ t2 (hle.trans ho2.tle)
 | ok x n=>
  intro tf' t' v hle hst hv;obtain⟨cs,rfl,h1,h2,h3,h4,h5⟩:=hrd _ _ _ hv
  have ho:cA yA.base tf' t' ([qG P n 0]++L3 b0 b1 b2 z 0 0 0):=by rw[<- hL];exact hst.ob
  refine nC h2 (sA rfl ?_)
  rw[h3];obtain⟨t1,k1,k2⟩:=set0 hR (cs':=cs) rfl h1 h4 ho
  refine iC fun q _ _=>⟨_,_,k1 q,?_⟩
  obtain⟨t2,k3,k4⟩:=set1 (a':=0) (b':=0) k2
  refine iC fun q _ _=>⟨_,_,k3 q,?_⟩
  obtain⟨t3,k5,k6⟩:=set2 (k':=0) k4
  refine iC fun q _ _=>⟨_,_,k5 q,?_⟩
  exact zik hR h1 k6 (hQ tf' t3 cs hle k6.tle h5)
def Wh{p1:zA}(hR:RT T z cf)(hg:bI t)(hby:∀b∈s,b<256)(hgood:∀m,oI s=.ok m->s.length<900000/\m.length<300000/\∀x∈m,dX x)
  (hE:∀e a b,oI s=.er e a b->e≠0/\∀t',bA t t'->Q (.tup [.agg z,.agg [.int .i64 (a:Int),.int .i64 (b:Int)],.int .i64 (e:Int)]) t')
  (hT:∀m,oI s=.ok m->∀tf1 t1 P b0 b1 b2,P.tk=m->P.el=atL s->P.ec=atC s->P.L=L3 b0 b1 b2 z 0 0 0->bA t tf1->St P tf1 t1 0 0->J 11 [p1,.ptr b0 0,.ptr b1 0,.ptr b2 0,.ptr P.bp 0] t1 Q) :
  rA yA.base (Wq yA F mB) J (tRun T z cf s p1) t Q:=by
 obtain⟨y,y1,y2,y3,y4⟩:=hR.ty
 unfold tRun;refine iC fun c0 hc0 hb0=>?_
 obtain⟨u0,a1,a2,a3,a4⟩:=iS (C:=yA) y1 hc0
 refine⟨_,_,a1,?_⟩
 have o0:cA yA.base t t []:=⟨bA.refl _,by simp,by simp,by simp⟩
 have o1:=cA.newCel (A:=[]) (B:=[]) o0 hc0 hb0 a2 a3 a4
 refine iC fun c1 hc1 hb1=>?_
 obtain⟨u1,a5,a6,a7,a8⟩:=iS (C:=yA) lV hc1
 refine⟨_,_,a5,?_⟩
 have o2:=cA.newCel (A:=[cB c0 none y.zero]) (B:=[]) o1 hc1 hb1 a6 a7 a8
 refine iC fun c2 hc2 hb2=>?_
 obtain⟨u2,a9,a10,a11,a12⟩:=iS (C:=yA) zZ hc2
 refine⟨_,_,a9,?_⟩
 have o3:=cA.newCel (A:=[cB c0 none y.zero,cB c1 none [.int .i64 0,.int .i64 0]]) (B:=[]) o2 hc2 hb2 a10 a11 a12
 rw[y3]at o3;have o3:cA yA.base t u2 (L3 c0 c1 c2 z 0 0 0):=o3
 refine yB ?_
 rw[q22];refine Wc.objs (R:=fun v t'=>match oI s with
   | .ok m=>∃v',v=.tup [v',.agg [.int .i64 0,.int .i64 0],.int .i64 0]/\aA t' 4 (m.map wC.d) v'
   | .er e a b=>v=.tup [.nilslice,.agg [.int .i64 (a:Int),.int .i64 (b:Int)],.int .i64 (e:Int)]) (zfp hg hby ?_) o3 fun v tf1 t1 hle ho hv=>?_
 ·cases hx:oI s with
  | ok m=>exact fun t' v k1 k2=>⟨k1,v,rfl,k2⟩
  | er e a b=>exact fun t' k1=>⟨k1,rfl⟩
 cases hx:oI s with
 | er e a b=>
  rw[hx]at hv;have hv:v=.tup [.nilslice,.agg [.int .i64 (a:Int),.int .i64 (b:Int)],.int .i64 (e:Int)]:=hv
  subst hv;obtain⟨hne,hQ⟩:=hE e a b hx
  refine qA (v:=.nilslice) rfl (qA (v:=.agg [.int .i64 (a:Int),.int .i64 (b:Int)]) rfl (nC ag2 (qA (v:=.int .i64 (e:Int)) rfl (tB ?_))))
  obtain⟨t2,k1,k2⟩:=set1 (A:=[]) (a':=(a:Int)) (b':=(b:Int)) ho
  refine iC fun q _ _=>⟨_,_,k1 q,?_⟩
  obtain⟨t3,k3,k4⟩:=set2 (k':=(e:Int)) k2
  refine iC fun q _ _=>⟨_,_,k3 q,?_⟩
  refine vC (ld2 k4) (tB (sA (by rw[tF];simp;omega) ?_))
  refine vC (ldS (A:=[]) k4 y1 y2 y4) (nC hR.ag (vC (ld1 k4) (nC ag2 (vC (ld2 k4) (tB ?_)))))
  rw[hR.cf];obtain⟨t4,k5,k6⟩:=set0 hR (cs':=z) rfl rfl hR.one k4
  refine iC fun q _ _=>⟨_,_,k5 q,?_⟩
  refine vC (ld1 k6) (sA same_2 (vC (ld2 k6) (sA zfg ?_)))
  obtain⟨t5,k7,k8⟩:=set1 (a':=(a:Int)) (b':=(b:Int)) k6
  refine iC fun q _ _=>⟨_,_,k7 q,?_⟩
  refine vC (ld2 k8) (sA zfg ?_)
  obtain⟨t6,k9,k10⟩:=set2 (k':=(e:Int)) k8
  refine iC fun q _ _=>⟨_,_,k9 q,?_⟩
  refine zik (W:=Wq yA F mB) (J:=J) hR rfl k10 (hQ t6 (hle.trans k10.tle))
 | ok m=>
  rw[hx]at hv;obtain⟨v',rfl,hv'⟩:=hv
  obtain⟨g0,g1,g2⟩:=hgood m hx
  refine qA (v:=v') rfl (qA (v:=.agg [.int .i64 0,.int .i64 0]) rfl (nC ag2 (qA (v:=.int .i64 0) rfl (tB ?_))))
  obtain⟨t2,k1,k2⟩:=set1 (A:=[]) (a':=0) (b':=0) ho
  refine iC fun q _ _=>⟨_,_,k1 q,?_⟩
  obtain⟨t3,k3,k4⟩:=set2 (k':=0) k2
  refine iC fun q _ _=>⟨_,_,k3 q,?_⟩
  refine vC (ld2 k4) (tB (sB (by simp[tF]) (yB ?_)))
  rw[q25,iP,at_pv g0 (ybk _),pA,List.take_length]
  refine nC ag2 (sA (by
   obtain⟨cl,he,_⟩:=hv'
   rcases he with⟨rfl,_⟩ | ⟨b,off,cap,rfl,_⟩<;>rfl) ?_)
  refine iC fun c8 hc8 hb8=>?_
  obtain⟨u8,m1,m2,m3,m4⟩:=Su (v:=.agg [v',.int .i64 0,.int .i64 0,.int .i64 (atL s:Int),.int .i64 (atC s:Int)]) hc8
  refine⟨_,_,m1,jC ?_⟩
  have o8:=cA.newCel (A:=[]) (B:=L3 c0 c1 c2 z 0 0 0) k4 hc8 hb8 m2 m3 m4
  exact hT m hx tf1 u8 ⟨m,c8,v',atL s,atC s,L3 c0 c1 c2 z 0 0 0⟩ c0 c1 c2 rfl rfl rfl rfl hle ⟨hv',o8,g1,yaw _,g2,hg.mono hle⟩
end
end
end Go.Proofs
