/- The calendar: a date's text as a day. -/
import Derived.Test.YtfmlbimokklmgaaGreatDoorF17
set_option linter.all false
noncomputable section
set_option maxRecDepth 100000
namespace Go.Proofs
open Go Go.Am
variable {a b i m y:Nat}{s:List Nat}
variable [eC]
section
variable {t:Tr vA}{Q:sB}
def zia(y:Nat):wC yA F 152 [.int .i64 (y:Int)] t=some (.bool (Lr y)):=by
 have e:∀k:Nat,Int.tmod (y:Int) (k:Int)=((y%k:Nat):Int):=fun k=>by rw[Int.tmod_eq_emod_of_nonneg (by omega)];omega
 refine bD.2 (w152 ?_)
 unfold t152 gI oC;rw[show(4:Int)=((4:Nat):Int) from rfl,show(100:Int)=((100:Nat):Int) from rfl,show(400:Int)=((400:Nat):Int) from rfl,e,e,e]
 unfold Lr;by_cases h4:y%4=0
 ·refine rA (by rw[sF];exact decide_eq_true (by omega)) ?_
  by_cases h1:y%100=0
  ·refine qB (by rw[sF];simp;omega) ⟨?_,rfl⟩
   rw[sF];congr 1
   by_cases h5:y%400=0
   ·simp[h4,h1,h5]
   ·simp[h4,h1,h5];omega
  ·refine rA (by rw[sF];simp;omega) ⟨?_,rfl⟩
   simp[h4,h1]
 ·refine qB (by rw[sF];simp;omega) ⟨?_,rfl⟩
  simp[h4]
def HK (h:y<1000000):wC yA F 153 [.int .i64 (y:Int)] t=some (.int .i64 (mQ y:Int)):=by
 have e:∀k:Nat,Int.tdiv (y:Int) (k:Int)=((y / k:Nat):Int):=fun k=>by rw[Int.tdiv_eq_ediv_of_nonneg (by omega)];omega
 refine bD.2 (w153 ?_)
 unfold t153 uW;rw[show(4:Int)=((4:Nat):Int) from rfl,show(100:Int)=((100:Nat):Int) from rfl,show(400:Int)=((400:Nat):Int) from rfl,e,e,e]
 have h1:y / 100<=y / 4:=Nat.div_le_div_left (by omega) (by omega)
 have h2:y / 4<=y:=Nat.div_le_self _ _
 have h3:y / 400<=y:=Nat.div_le_self _ _
 simp (disch:=omega) only[iC]
 refine⟨?_,rfl⟩
 unfold mQ;congr 1
 omega
def zh9(hg:rL t) (hi:i<12):xC yA 219 (.ptr 2 0) (.int .i64 (i:Int))=some (.ptr 2 (0+i))/\mA yA 3 ⟨0,t⟩ (.ptr 2 (0+i))=some (.int .i64 ((Ln.getD i 0:Nat):Int)):=by
 refine⟨?_,hg.2.2.load1 qO rfl ?_⟩
 ·unfold xC
  rw[ty219,qA];have e:(zA.int .i64 (i:Int)).asNat=some i:=rfl
  rw[e,qA];simp only[zA.asSlice,zA.asPtr,jE.asArr,qA];rw[qO,qA,qC.2 hi,yE,Nat.mul_one]
 ·have:Ln[i]?=some (Ln.getD i 0):=by
   rw[List.getD_eq_getElem?_getD,ybd (by show i<12;exact hi)];rfl
  rw[ybu,this];rfl
def zet(hg:rL t)(y m:Nat)(hm:m<1000000):wC yA F 136 [.int .i64 (y:Int),.int .i64 (m:Int)] t=some (.int .i64 (hO y m:Int)):=by
 refine bD.2 (w136 ?_)
 unfold t136 uB;by_cases h1:m<1
 ·refine rA (by rw[fC];exact decide_eq_true (by omega)) ⟨?_,rfl⟩
  unfold hO;rw[yab (.inl h1)];rfl
 refine qB (by rw[fC];simp;omega) ?_
 by_cases h2:12<m
 ·refine rA (by rw[fC];exact decide_eq_true (by omega)) ⟨?_,rfl⟩
  unfold hO;rw[yab (.inr h2)];rfl
 refine qB (by rw[fC];simp;omega) ?_
 have tail:¬ (m=2/\Lr y=true)->wp 136 (uQ13 (m:Int)) t fun v' t'=>v'=.int .i64 (hO y m:Int)/\t'=t:=by
  intro hn;unfold uQ13 uI;have e:uW ((m:Int)-1)=((m-1:Nat):Int):=by
   show cA .i64 ((m:Int)-1)=_
   rw[iC (by omega) (by omega)];omega
  obtain⟨k1,k2⟩:=zh9 hg (i:=m-1) (by omega)
  rw[e];refine iA k1 (sC k2 (pB ⟨?_,rfl⟩))
  unfold hO;rw[yaa (by omega),yaa hn]
 by_cases h3:m=2
 ·refine rA (by rw[sF];exact decide_eq_true (by omega)) (yB ?_)
  rw[q152,zia,sA];refine cD ?_
  cases hl:Lr y with
  | true=>
   refine rA rfl ⟨?_,rfl⟩
   unfold hO;rw[yaa (by omega),yab ⟨h3,hl⟩];rfl
  | false=>exact qB (by simp) (tail (by rw[hl];simp))
 ·exact qB (by rw[sF];simp;omega) (tail fun h=>h3 h.1)
def Ym(y m:Nat):hO y m<=31:=by
 unfold hO;split
 ·omega
 split
 ·omega
 ·rename_i h1 _
  have:m-1<12:=by omega
  generalize m-1=k at this
  match k,this with
  | 0,_ | 1,_ | 2,_ | 3,_ | 4,_ | 5,_ | 6,_ | 7,_ | 8,_ | 9,_ | 10,_ | 11,_=>decide
def DF(y:Nat):∀k,Gp y k<=31*k:=by
 intro k;induction k with
 | zero=>exact ybk _
 | succ k ih=>unfold Gp;have:=Ym y (k+1);omega
def HL(y:Nat):mQ y<=y+y:=by unfold mQ;omega
def UT (h:a<=b)(hb:b<10000):mQ a<=mQ b:=by unfold mQ;omega
def Vx(hg:rL t) (hm:m<50000):wC yA F 137 [.int .i64 (m:Int)] t=some (.int .i64 (vQ m:Int)):=by
 have ed:Int.tdiv (m:Int) 12=((m / 12:Nat):Int):=by rw[Int.tdiv_eq_ediv_of_nonneg (by omega)];omega
 have em:Int.tmod (m:Int) 12=((m%12:Nat):Int):=by rw[Int.tmod_eq_emod_of_nonneg (by omega)];omega
 refine bD.2 (w137 ?_)
 unfold t137 uI uW;rw[ed];have hq:m / 12<5000:=by omega
 have e1:cA .i64 (cA .i64 (1900+cA .i64 ((m / 12:Nat):Int))-1)=((1899+m / 12:Nat):Int):=by
  simp (disch:=omega) only[iC];omega
 have e2:cA .i64 (1900+cA .i64 ((m / 12:Nat):Int))=((1900+m / 12:Nat):Int):=by
  simp (disch:=omega) only[iC];omega
 have hl1:=HL (1899+m / 12)
 have hl2:=UT (a:=1899) (b:=1899+m / 12) (by omega) (by omega)
 refine yB ?_
 rw[e1,q153,HK (by omega),sA]
 refine pB (yB ?_)
 rw[q153,show(1899:Int)=((1899:Nat):Int) from rfl,HK (by omega),sA,e2]
 refine pB (jC ?_)
 have e3:cA .i64 (cA .i64 (cA .i64 (365*cA .i64 (((1900+m / 12:Nat):Int)-1900))+(mQ (1899+m / 12):Int))-(mQ 1899:Int))=((365*(m / 12)+mQ (1899+m / 12)-mQ 1899:Nat):Int):=by
  simp (disch:=omega) only[iC];omega
 rw[e3];have loop:∀(k i a:Nat),i+k=m%12->a=365*(m / 12)+mQ (1899+m / 12)-mQ 1899+Gp (1900+m / 12) i->jp 137 2 [.int .i64 (m:Int),.int .i64 ((1900+m / 12:Nat):Int),.int .i64 (a:Int),.int .i64 ((i+1:Nat):Int)] t fun v' t'=>v'=.int .i64 (vQ m:Int)/\t'=t:=by
  intro k;induction k with
  | zero=>
   intro i a hi ha;refine zff ?_
   unfold Vl;rw[em];refine qB (by rw[bR];simp;omega) ⟨?_,rfl⟩
   subst ha;unfold vQ;rw[show i=m%12 by omega]
  | succ k ih=>
   intro i a hi ha;have hs:=DF (1900+m / 12) i
   have hle:=Ym (1900+m / 12) (i+1)
   refine zff ?_
   unfold Vl uI;rw[em];refine rA (by rw[bR];exact decide_eq_true (by omega)) (yB ?_)
   rw[q136];show vE (wC yA F 136 [.int .i64 ((1900+m / 12:Nat):Int),.int .i64 ((i+1:Nat):Int)] t) _
   rw[zet hg _ _ (by omega),sA]
   refine pB (jC ?_)
   have e4:tD ((i+1:Nat):Int)=.int .i64 ((i+1+1:Nat):Int):=by
    show zA.int .i64 (cA .i64 (((i+1:Nat):Int)+1))=_
    rw[iC (by omega) (by omega)];rfl
   have e5:uW ((a:Int)+(hO (1900+m / 12) (i+1):Int))=((a+hO (1900+m / 12) (i+1):Nat):Int):=by
    show cA .i64 _=_
    rw[iC (by omega) (by omega)];omega
   rw[e4,e5];exact ih (i+1) _ (by omega) (by show a+hO (1900+m / 12) (i+1)=_+(Gp (1900+m / 12) i+hO (1900+m / 12) (i+1));omega)
 exact loop (m%12) 0 _ (by omega) rfl
def day_ok(hg:rL t){d:Nat}(hy:y<10000)(hm:m<1000)(hd:d<1000):wC yA F 119 [.int .i64 (y:Int),.int .i64 (m:Int),.int .i64 (d:Int)] t=some (.tup [.int .i64 (((Fj y m d).getD 0:Nat):Int),.int .i64 (if (Fj y m d).isSome then 0 else 2)]):=by
 refine bD.2 (w119 ?_)
 unfold t119 uI uB;have bad:∀h:y<1900\/2079<y\/d<1\/hO y m<d,Fj y m d=none:=fun h=>by unfold Fj;rw[yab h]
 by_cases h1:y<1900
 ·rw[bad (.inl h1)]
  exact rA (by rw[fC];exact decide_eq_true (by omega)) ⟨rfl,rfl⟩
 refine qB (by rw[fC];simp;omega) ?_
 by_cases h2:2079<y
 ·rw[bad (.inr (.inl h2))]
  exact rA (by rw[fC];exact decide_eq_true (by omega)) ⟨rfl,rfl⟩
 refine qB (by rw[fC];simp;omega) ?_
 by_cases h3:d<1
 ·rw[bad (.inr (.inr (.inl h3)))]
  exact rA (by rw[fC];exact decide_eq_true (by omega)) ⟨rfl,rfl⟩
 refine qB (by rw[fC];simp;omega) (yB ?_)
 rw[q136];show vE (wC yA F 136 [.int .i64 (y:Int),.int .i64 (m:Int)] t) _
 rw[zet hg _ _ (by omega),sA]
 refine pB ?_
 by_cases h4:hO y m<d
 ·rw[bad (.inr (.inr (.inr h4)))]
  exact rA (by rw[fC];exact decide_eq_true (by omega)) ⟨rfl,rfl⟩
 refine qB (by rw[fC];simp;omega) (yB ?_)
 have hm1:1<=m:=by
  rcases yau m 1 with h | h
  ·exfalso;apply h4;unfold hO;rw[yab (.inl h)];omega
  ·exact h
 have hs31:=Ym y m
 have e1:uW (uW (uW (12*uW ((y:Int)-1900))+(m:Int))-1)=((12*(y-1900)+m-1:Nat):Int):=by
  unfold uW;simp (disch:=omega) only[iC];omega
 rw[q137];show vE (wC yA F 137 [.int .i64 (uW (uW (uW (12*uW ((y:Int)-1900))+(m:Int))-1))] t) _
 rw[e1,Vx hg (by omega),sA]
 refine pB (yB ?_)
 have hst:vQ (12*(y-1900)+m-1)<1000000:=by
  unfold vQ;have:=DF (1900+(12*(y-1900)+m-1) / 12) ((12*(y-1900)+m-1)%12)
  have:=HL (1899+(12*(y-1900)+m-1) / 12)
  omega
 have e2:uW (uW ((vQ (12*(y-1900)+m-1):Int)+(d:Int))-1)=((vQ (12*(y-1900)+m-1)+d-1:Nat):Int):=by
  unfold uW;simp (disch:=omega) only[iC];omega
 rw[e2];have hn:Fj y m d=if vQ (12*(y-1900)+m-1)+d-1<65536 then some (vQ (12*(y-1900)+m-1)+d-1)else none:=by
  unfold Fj;rw[yaa (by omega)]
 have hisd:wC yA F 138 [.int .i64 ((vQ (12*(y-1900)+m-1)+d-1:Nat):Int)] t=some (.bool (decide (vQ (12*(y-1900)+m-1)+d-1<65536))):=by
  refine bD.2 (w138 ?_)
  unfold t138;generalize vQ (12*(y-1900)+m-1)+d-1=z
  refine rA (by rw[bR];exact decide_eq_true (by omega)) ⟨?_,rfl⟩
  have hz:iB (z:Int) 65536=decide (z<65536):=by
   rw[fC];exact decide_eq_decide.2 (by omega)
  rw[hz]
 rw[q138,hisd,sA,hn];refine cD ?_
 by_cases h5:vQ (12*(y-1900)+m-1)+d-1<65536
 ·rw[yab h5,decide_eq_true h5]
  exact qB (by simp) ⟨rfl,rfl⟩
 ·rw[yaa h5,decide_eq_false h5]
  exact rA rfl ⟨rfl,rfl⟩
def TI{ls:List (List Nat)}{v:zA}(hv:bA t 1 (ls.map D.str) v)(hl:ls.length<100)(hd:∀s∈ls,s.length<=9/\∀b∈s,nD b=true)(hQ:∀t' b,aA t t'->rG t' b .i64 (ls.map rD)->Q (.tup [.slice b 0 ls.length ls.length,.bool true]) t'):Wc yA F 118 [v] t Q:=by
 have hlen:=hv.len
 rw[ybf]at hlen;refine w118 ?_
 unfold t118 uI;refine iA hlen (pB (lC fun b hb hbase=>?_))
 obtain⟨t1,e1,e2,e3,e4⟩:=En (C:=yA) (T:=94) (k:=.i64) (n:=ls.length) ty94 rfl qO rfl rfl (by decide) (by omega) hb
 refine⟨_,_,e1,iA hlen (pB (jC ?_))⟩
 have loop:∀(k i:Nat) (row:List Nat) (t1:Tr vA),i+k=ls.length->row=(ls.take i).map rD++List.replicate k 0->aA t t1->rG t1 b .i64 row->jp 118 2 [.slice b 0 ls.length ls.length,v,.int .i64 (ls.length:Int),.int .i64 (i:Int)] t1 Q:=by
  intro k;induction k with
  | zero=>
   intro i row t1 hi hr hle ho;refine zfi ?_
   unfold Vo;refine qB (by rw[fC];simp;omega) ?_
   rw[show i=ls.length by omega,List.take_length,List.replicate_zero,ycd]at hr;subst hr;exact hQ t1 b hle ho
  | succ k ih=>
   intro i row t1 hi hr hle ho;refine zfi ?_
   unfold Vo uS;have hx:ls[i]?=some ls[i]:=ybd (by omega)
   have hxd:(ls.map D.str)[i]?=some (D.str ls[i]):=by rw[ybu,hx];rfl
   obtain⟨b',o',cs,h1,h2,_,_,h3⟩:=sl93.at (fun _=>rfl) (hv.mono hle) hxd
   have e:=pK.1 h3
   subst e;refine rA (by rw[fC];exact decide_eq_true (by omega)) (iA h1 (sC h2 (dF (jC ?_))))
   have ll:(Int.ofNat (zB ls[i]))=(ls[i].length:Int):=by rw[oD];rfl
   rw[ll];obtain⟨hs9,hsd⟩:=hd ls[i] (ycj _)
   have inner:∀(q j:Nat) (t2:Tr vA),j+q=ls[i].length->aA t t2->rG t2 b .i64 ((ls.take i).map rD++rD (ls[i].take j)::List.replicate k 0)->jp 118 6 [.slice b 0 ls.length ls.length,.int .i64 (i:Int),.str ls[i],v,.int .i64 (ls.length:Int),.int .i64 (i:Int),.int .i64 (ls[i].length:Int),.int .i64 (j:Int)] t2 Q:=by
    intro q;induction q with
    | zero=>
     intro j t2 hj hle2 ho2;refine zfh ?_
     unfold Vn;refine qB (by rw[fC];simp;omega) (jC ?_)
     have e4:tD (i:Int)=.int .i64 ((i+1:Nat):Int):=by
      show zA.int .i64 (cA .i64 ((i:Int)+1))=_
      rw[iC (by omega) (by omega)];rfl
     rw[e4];refine ih (i+1) _ t2 (by omega) ?_ hle2 ho2
     have htk:ls.take (i+1)=ls.take i++[ls[i]]:=by rw[ydg,hx];rfl
     rw[htk,List.map_append,show j=ls[i].length by omega,List.take_length];simp
    | succ q ih2=>
     intro j t2 hj hle2 ho2;have hy:ls[i][j]?=some ls[i][j]:=ybd (by omega)
     have hyd:48<=ls[i][j]/\ls[i][j]<=57:=by have:=hsd ls[i][j] (ycj _);unfold nD at this;simpa using this
     refine zfh ?_
     unfold Vn uU uI;have hla:((ls.take i).map rD).length=i:=by simp;omega
     have hget:((ls.take i).map rD++rD (ls[i].take j)::List.replicate k 0)[i]?=some (rD (ls[i].take j)):=by
      rw[ybp (by omega),hla,Nat.sub_self];rfl
     have ia:=Aw (C:=yA) (b:=b) sl94 (off:=0) (n:=ls.length) (cap:=ls.length) (i:=i) (by omega)
     rw[ybw,Nat.mul_one]at ia;have hb9:rD (ls[i].take j)<1000000000:=by
      have h1:=Fi (s:=ls[i].take j) fun x hx=>hsd x (List.mem_of_mem_take hx)
      have h2:10^(ls[i].take j).length<=10^9:=yao (by omega) (by rw[yda];omega)
      have:(10:Nat)^9=1000000000:=by decide
      omega
     refine rA (by rw[fC];exact decide_eq_true (by omega)) (iA (fM hy) (pB (qB (by rw[fC];simp;omega) (iA (fM hy) (pB (qB (by rw[fC];simp;omega) (iA ia (sC (ho2.load hget qO rfl) (pB (iA (fM hy) (pB (iA ia (lC fun n _ _=>?_)))))))))))))
     have ev:uW (uW (10*((rD (ls[i].take j):Nat):Int))+uW (cA .u8 ((ls[i][j]:Int)-48)))=((rD (ls[i].take (j+1)):Nat):Int):=by
      unfold uW;rw[Nv (by omega) (by omega),xQ hy,AF]
      simp (disch:=omega) only[iC]
      omega
     obtain⟨t3,g1,g2,g3⟩:=ho2.store hbase (j:=i) (by simp;omega) (rD (ls[i].take (j+1))) qO rfl
     rw[ev];refine⟨_,_,g1 n,jC ?_⟩
     have e4:tD (j:Int)=.int .i64 ((j+1:Nat):Int):=by
      show zA.int .i64 (cA .i64 ((j:Int)+1))=_
      rw[iC (by omega) (by omega)];rfl
     rw[e4];refine ih2 (j+1) t3 (by omega) (hle2.off hb g3) ?_
     have:((ls.take i).map rD++rD (ls[i].take j)::List.replicate k 0).set i (rD (ls[i].take (j+1)))=(ls.take i).map rD++rD (ls[i].take (j+1))::List.replicate k 0:=DY hla
     rw[this]at g2;exact g2
   refine inner ls[i].length 0 t1 (by omega) hle ?_
   rw[hr,List.replicate_succ]at ho;exact ho
 refine loop ls.length 0 _ t1 (by omega) ?_ e3 e2
 simp
def QG  (h:a<=b)(hb:b<=s.length):vG yA 9 yN (.str s) (some (.int .i64 (a:Int))) (some (.int .i64 (b:Int)))=some (.str ((s.take b).drop a)):=by
 unfold vG gN;rw[sP,qA];simp only[zA.asStr];rw[show jE.isString .string=true from rfl,yE];unfold Kg dQ Aj jW;have e:∀n:Nat,vN (n:Int)=some n:=fun _=>rfl
 simp only[qA,zA.asNat,zA.asInt,e,oD,oE.2 hb,oE.2 h,yE,iR,mP]
def AG (h:wH s=true) (hi:i<10):∃b,s[i]?=some b/\jK i b=true:=by
 unfold wH at h;simp only[ybb,decide_eq_true_eq,ycb,List.mem_range]at h;have h1:=h.2 i hi
 refine⟨s[i]'(by omega),ybd (by omega),?_⟩
 rw[List.getD_eq_getElem?_getD,ybd (by omega)]at h1
 exact h1
def AH (h:wH s=true) (hb:b<=10)(h4:¬ (a<=4/\4<b))(h7:¬ (a<=7/\7<b)):∀x∈(s.take b).drop a,nD x=true:=by
 intro x hx;obtain⟨j,hj⟩:=List.getElem?_of_mem hx
 rw[yde,ydf]at hj;split at hj
 ·rename_i hlt
  obtain⟨y,h1,h2⟩:=AG h (i:=a+j) (by omega)
  rw[h1]at hj
  cases hj;unfold jK at h2;rw[yaa (by omega)]at h2
  exact h2
 ·cases hj
def LD(hg:rL t) (hs:s.length=10)(hd:wH s=true):wC yA F 97 [.str s] t=some (.tup [.int .i64 (((Ae s).getD 0:Nat):Int),.int .i64 (if (Ae s).isSome then 0 else 2)]):=by
 refine Bk (w97 ?_)
 unfold t97 uU uS uB uI;have ll:(Int.ofNat (zB s))=10:=by rw[oD,hs];rfl
 rw[ll];obtain⟨x4,g4,k4⟩:=AG hd (i:=4) (by omega)
 obtain⟨x7,g7,k7⟩:=AG hd (i:=7) (by omega)
 have k4:x4=45:=by simpa[jK]using k4
 have k7:x7=45:=by simpa[jK]using k7
 subst k4 k7
 have i4:=fM g4
 have i7:=fM g7
 have s0:=Dq (s:=s) (k:=4) (by omega)
 have s5:=QG (s:=s) (a:=5) (b:=7) (by omega) (by omega)
 have s8:=Oz (s:=s) (k:=8) (by omega)
 refine qB (by decide) (iA i4 (pB (qB (by decide) (iA i7 (pB (qB (by decide) (iA s0 (dF (iA s5 (dF (iA s8 (dF (lC fun b hb hbase=>?_)))))))))))))
 obtain⟨t1,g1,g2,g3,g5⟩:=Ep (C:=yA) (T:=93) (el:=9) (sz:=1) (n:=3) (cl:=[[.str (s.take 4)],[.str ((s.take 7).drop 5)],[.str (s.drop 8)]]) (ps:=[(0,.str (s.take 4)),(1,.str ((s.take 7).drop 5)),(2,.str (s.drop 8))]) ty93 rfl sP rfl rfl (by decide) rfl (fun i cs hi=>by
  match i,hi with
  | 0,hi=>cases hi;rfl
  | 1,hi=>cases hi;rfl
  | 2,hi=>cases hi;rfl) rfl hb
 have hr:bA t1 1 ([s.take 4,(s.take 7).drop 5,s.drop 8].map D.str) (.slice b 0 3 3):=⟨_,g2,dC.2 ⟨_,_,rfl,pK.2 rfl,dC.2 ⟨_,_,rfl,pK.2 rfl,dC.2 ⟨_,_,rfl,pK.2 rfl,wF.2 rfl⟩⟩⟩⟩
 have d1:∀x∈s.take 4,nD x=true:=by
  have:=AH hd (a:=0) (b:=4) (by omega) (by omega) (by omega)
  simpa using this
 have d2:∀x∈(s.take 7).drop 5,nD x=true:=AH hd (by omega) (by omega) (by omega)
 have d3:∀x∈s.drop 8,nD x=true:=by
  have:=AH hd (a:=8) (b:=10) (by omega) (by omega) (by omega)
  rwa [yca (by omega)]at this
 refine⟨_,_,g1,yB ?_⟩
 rw[q118];refine TI hr (by simp) (fun x hx=>?_) fun t2 b2 h1 h2=>?_
 ·simp only[ybs,List.mem_nil_iff,or_false]at hx
  rcases hx with rfl | rfl | rfl
  ·exact⟨by simp;omega,d1⟩
  ·exact⟨by simp;omega,d2⟩
  ·exact⟨by simp;omega,d3⟩
 have ia:∀i:Nat,i<3->xC yA 94 (.slice b2 0 3 3) (.int .i64 (i:Int))=some (.ptr b2 i):=fun i hi=>by
  have:=Aw (C:=yA) (b:=b2) sl94 (off:=0) (n:=3) (cap:=3) (i:=i) hi
  rwa [ybw,Nat.mul_one]at this
 have l0:=h2.load (j:=0) rfl qO rfl (C:=yA)
 have l1:=h2.load (j:=1) rfl qO rfl (C:=yA)
 have l2:=h2.load (j:=2) rfl qO rfl (C:=yA)
 refine iA rfl (iA rfl (cD (qB (by simp) (iA (ia 0 (by omega)) (sC l0 (pB (iA (ia 1 (by omega)) (sC l1 (pB (iA (ia 2 (by omega)) (sC l2 (pB (yB ?_)))))))))))))
 have b1:=Fi d1
 have b2':=Fi d2
 have b3:=Fi d3
 have n1:(s.take 4).length=4:=by simp;omega
 have n2:((s.take 7).drop 5).length=2:=by simp;omega
 have n3:(s.drop 8).length=2:=by simp;omega
 rw[n1]at b1;rw[n2]at b2'
 rw[n3]at b3;have hle:=g3.trans h1
 rw[q119];show vE (wC yA F 119 [.int .i64 ((rD (s.take 4):Nat):Int),.int .i64 ((rD ((s.take 7).drop 5):Nat):Int),.int .i64 ((rD (s.drop 8):Nat):Int)] t2) _
 rw[day_ok (hg.mono hle) (by omega) (by omega) (by omega),sA]
 exact iA rfl (pB (iA rfl (pB ⟨rfl,hle⟩)))
def Bu:Cv where
 frac:=fun {s neg tf t L Q} h ho hQ=>Wc.objs (R:=fun v tf'=>∃cs,v=.agg cs/\RD tf' (vI s neg).dd cs) (fracPv h fun t' cs h1 h2=>⟨h1,cs,rfl,h2⟩) ho fun v tf' t' h1 h2 ⟨cs,h3,h4⟩=>by subst h3;exact hQ tf' t' cs h1 h2 h4
 int:=fun h1 h2 h3 h4=>intPv h1 h2 h3 h4
 date:=fun hg ⟨h1,h2,n,h3⟩=>by rw[LD hg h1 h2,h3];rfl
end
end Go.Proofs
namespace Go.Am
open Go Go.RowKit
variable {args vals:List zA}{E:sB}{base:Nat}{J:kE}{X:Xt}{tm:Tm}{HA:xA}{p:PI}
structure Ja (C:oA) (F:Tr wE) (f:Nat) (fn:Func) (kf:Nat) (A:wE) (l:List nC) (q:bP) (fc:Func) (kc:Nat) (Ac:wE) (qc:ClQ):Prop where
 isF:F.get f=some A
 isFn:C.fns.get f=some fn
 isK:C.ks.get f=some kf
 prim:C.prims.get f=none
 lt:Nat.blt f yo=true
 body:sE fn.body=false
 split:rV A.code=some (l,q)
 isC:F.get q.cl=some Ac
 isFc:C.fns.get q.cl=some fc
 isKc:C.ks.get q.cl=some kc
 primC:C.prims.get q.cl=none
 bodyC:sE fc.body=false
 clo:Fm Ac.code=some qc
 ok:(Mz fn.results.toList q.o6.toList&&(Nat.ble kf q.d&&Nat.blt q.d fn.ntmps))=true
 okC:(Nat.ble (zB q.bs) kc&&Nat.ble (zB q.bs) fc.ntmps)=true
 okD:Nat.blt qc.d fc.ntmps=true
 rng:mK (jX l)=[]
 rngC:mK qc.c=[]
def defB (C:oA)(F:Tr wE)(f:Nat)(fn:Func)(kf:Nat)(A:wE)(l:List nC)(q:bP)(fc:Func)(kc:Nat)(Ac:wE)(qc:ClQ):Bool:=
 sE (C.prims.get f)&&Nat.blt f yo && !sE fn.body&&sE (C.prims.get q.cl) && !sE fc.body&&(Mz fn.results.toList q.o6.toList&&(Nat.ble kf q.d&&Nat.blt q.d fn.ntmps)) &&
  (Nat.ble (zB q.bs) kc&&Nat.ble (zB q.bs) fc.ntmps)&&Nat.blt qc.d fc.ntmps&&(match mK (jX l)with | []=>true | _=>false)&&(match mK qc.c with | []=>true | _=>false)
section
variable {C:oA}{F:Tr wE}{f:Nat}{fn fc:Func}{kf kc:Nat}{A Ac:wE}{l:List nC}{q:bP}{qc:ClQ}{pure pan:Nat->Bool}{t:Tr vA}{Q:sB}
def Ja.of(h1:F.get f=some A)(h2:C.fns.get f=some fn)(h3:C.ks.get f=some kf)(h4:rV A.code=some (l,q))(h5:F.get q.cl=some Ac)(h6:C.fns.get q.cl=some fc)(h7:C.ks.get q.cl=some kc)(h8:Fm Ac.code=some qc)(h:defB C F f fn kf A l q fc kc Ac qc=true):Ja C F f fn kf A l q fc kc Ac qc:=by
 unfold defB at h;simp only[ybb]at h;obtain⟨⟨⟨⟨⟨⟨⟨⟨⟨g1,g2⟩,g3⟩,g4⟩,g5⟩,g6⟩,g7⟩,g8⟩,g9⟩,g10⟩:=h
 have nn:∀ {α:Type} {x:Option α},sE x=true->x=none:=fun {α} {x} h=>by cases x with | none=>rfl | some _=>cases h
 refine⟨h1,h2,h3,nn g1,g2,by simpa using g3,h4,h5,h6,h7,nn g4,by simpa using g5,h8,by simp only[ybb];exact g6,by simp only[ybb];exact g7,g8,?_,?_⟩
 ·split at g9
  ·assumption
  ·cases g9
 ·split at g10
  ·assumption
  ·cases g10
def LX(h:F.get f=some A):(nE F).get f=some A.code:=by unfold nE;rw[Tr.get_mapT,h];rfl
def KW {d:Bool}(h2:C.fns.get f=some fn)(h3:C.ks.get f=some kf)(hb:sE fn.body=false)(hl:(Nat.ble (zB args) kf&&Nat.ble (zB args) fn.ntmps)=true):∃g,rK C f args d=some g/\g.tm=⟨kf,Tr.ofList args,[]⟩:=by
 obtain⟨body,hb⟩:∃b,fn.body=some b:=by
  cases hx:fn.body with
  | none=>rw[hx]at hb;cases hb
  | some b=>exact⟨b,rfl⟩
 refine⟨_,by unfold rK;rw[h2,qA,hb,qA,h3,qA,hl];rfl,rfl⟩
theorem nN.nil{A:Tr nC} {c:nC}(h:mK c=[]):nN A E f c:=fun q hq=>by rw[h]at hq;cases hq
theorem nS.nil   {L:List PtD}(h:L=[]):nS base kf E J L:=fun d hd=>by rw[h]at hd;cases hd
def st_of    (ho:Ov base t X HA)(hk:tm.k=kf):lF base X kf (fun i=>i) X ⟨tm,[],.leaf,[]⟩ tm HA t:=
 ⟨ho,dI.refl _,hk,hk,fun _ _ h=>h,fun _ _ h=>(by cases h),fun d l h=>(by rw[show(Tr.leaf:Tr (List zA)).get d=none from Tr.get_leaf _]at h;cases h),fun d _ l _ h=>(by rw[show(Tr.leaf:Tr (List zA)).get d=none from Tr.get_leaf _]at h;cases h)⟩
def zjs(h:Ja C F f fn kf A l q fc kc Ac qc) {cells:List zA}{v:zA}{W:kE} (hW:aP C (nE F) E W)(hY:Aq C (nE F) W)(hpts:∀ κ,bK C (bC C (nE F)) q.cl fc.ntmps qc.c κ=[]) (hl:zB cells=zB q.bs)
  (hv:Dd p ⟨clTm fc.ntmps qc ⟨kc,Tr.ofList cells,[]⟩ v,[],.leaf,[]⟩=some vals) {R:sB} (hw:pA C.base W J (bL C Ac.la q.cl fc.ntmps qc.c (Bc C fc) (zM kc p vals)) t R):∀X HA,Ov C.base t X HA->kB C.base X E R (vS C (nE F) (bC C (nE F)) q.cl cells v HA):=by
 intro X HA ho;obtain⟨g,h1,h2⟩:=KW (args:=cells) (d:=true) h.isFc h.isKc h.bodyC (by rw[hl];exact h.okC)
 unfold vS;refine kB.ob h.isFc (kB.ob (LX h.isC) (kB.ob h.clo ?_))
 have hg:(sE (C.prims.get q.cl)&&Nat.blt qc.d fc.ntmps)=true:=by rw[h.primC,h.okD];rfl
 rw[hg];show kB C.base X E R (ob (rK C q.cl cells true) _)
 refine kB.ob h1 ?_
 rw[h2];have hst:lF C.base X kc (fun i=>i) X ⟨clTm fc.ntmps qc ⟨kc,Tr.ofList cells,[]⟩ v,[],.leaf,[]⟩ (clTm fc.ntmps qc ⟨kc,Tr.ofList cells,[]⟩ v) HA t:=st_of ho (by unfold clTm;rw[Bl,Bl];rfl)
 exact Bd hW hY qc.c (Bc C fc) (oO C fc) (nN.nil h.rngC) (fun _=>Ug) (nS.nil (hpts _)) _ _ _ _ _ _ _ (hst.at hv) hw
def Nh(C:oA)(F:Tr wE)(pure pan:Nat->Bool)(f:Nat)(fn:Func)(kf:Nat)(A:wE)(q:bP)(p:PI)(vals:List zA)(t:Tr vA)(Q:sB):Prop:=
 ∃cells,∃E:sB,aN q.bs (.now (zM kf p vals).tm.cut)=some cells/\(∀HA,vS C (nE F) (bC C (nE F)) q.cl cells .niliface HA=some (⟨.tup [],false⟩,HA)) ∧
  (∀v t',E v t'->∀X HA,Ov C.base t' X HA->kB C.base X bJ (fun _ t''=>pA C.base (Wq C F pure) (fun _ _ _ _=>False) (endT C fn (zM kf p vals).cut) t'' Q) (vS C (nE F) (bC C (nE F)) q.cl cells v HA)) ∧
  pA C.base (dE C F pure pan E) (fun _ _ _ _=>False) (bL C A.la f fn.ntmps (.region q.i6 q.o6 false) ⟨endT C fn,fun _ _=>.fail,fun _=>.fail⟩ (zM kf p vals)) t Q
def zgs(h:Ja C F f fn kf A l q fc kc Ac qc) (hp:p.ll=[]) (hpn:pure pn=false)(ht:Nh C F pure pan f fn kf A q p vals t Q){X0:Xt}  {ν:Nat->Nat}(hst:lF C.base X0 kf ν X (zM kf p vals) tm HA t) :
  kB C.base X0 bJ Q (wQ C (nE F) (bC C (nE F)) fn q tm HA):=by
 obtain⟨cells,E,h1,h2,h3,h4⟩:=ht
 have hend:∀tm' H',tM C (nE F) (bC C (nE F)) fn q.cl cells .niliface tm' H'=jU C fn tm' H':=by
  intro tm' H';unfold tM;rw[h2];rfl
 unfold wQ;rw[hst.kA,h.ok];show kB C.base X0 bJ Q (ob (aN q.bs (.now tm.cut)) _)
 refine kB.ob (Zv (Lf hst.cut).1 h1) ?_
 have hk:∀X0,SKt C (dE C F pure pan E) (fun _ _ _ _=>False) X0 kf E Q ⟨endT C fn,fun _ _=>.fail,fun _=>.fail⟩ ⟨fun tm' H'=>tM C (nE F) (bC C (nE F)) fn q.cl cells .niliface tm' H',fun _ _ _=>none,fun _ _=>none⟩:=by
  intro X0;refine⟨?_,fun _ _ _ _ _ _ _ _ h=>h.elim,fun _ _ _ _ _ _ _ h=>h.elim⟩
  intro st tm HA t X ν hst hw;simp only[hend];exact Mn st tm HA t X ν hst hw
 have hr:=Bd (BD hpn) BC (.region q.i6 q.o6 false) ⟨endT C fn,fun _ _=>.fail,fun _=>.fail⟩ ⟨fun tm' H'=>tM C (nE F) (bC C (nE F)) fn q.cl cells .niliface tm' H',fun _ _ _=>none,fun _ _=>none⟩ (nN.nil rfl) hk (nS.nil rfl) X0 _ _ _ _ _ _ hst h4
 obtain⟨o,t',HA',X',g1,g2,g3,g4⟩:=hr
 have g1:wM C (bC C (nE F)) q.o6 fn.ntmps (fun tm' H'=>tM C (nE F) (bC C (nE F)) fn q.cl cells .niliface tm' H') q.o6.toList tm.cut HA=some (o,HA'):=g1
 refine kB.ob g1 ?_
 cases ho:o.p with
 | false=>
  rw[ho,yaa (by simp)]at g4
  show kB C.base X0 bJ Q (some (o,HA'))
  exact⟨o,t',HA',X',rfl,g2,g3,by rw[ho,yaa (by simp)];exact g4⟩
 | true=>
  rw[ho,yab rfl]at g4;show kB C.base X0 bJ Q (tM C (nE F) (bC C (nE F)) fn q.cl cells o.v tm.cut HA')
  obtain⟨v,t'',HA'',X'',k1,k2,k3,k4⟩:=tQ.1 (h3 _ _ g4 _ _ g2)
  unfold tM;refine kB.ob k1 ?_
  show kB C.base X0 bJ Q (jU C fn tm.cut HA'')
  have hs:=hst.cut
  have hlo:∀d,(zM kf p vals).cut.lo.get d=none:=by
   intro d;show(sV p.ll (lQ vals (zB p.pl))).get d=none
   rw[hp];exact Tr.get_leaf _
  have hs2:lF C.base X0 kf ν X'' (zM kf p vals).cut tm.cut HA'' t'':=
   ⟨k2,g3.trans k3,hs.k,hs.kA,hs.tms,hs.ads,fun d l h=>(by rw[hlo]at h;cases h),fun d _ l _ h=>(by rw[hlo]at h;cases h)⟩
  exact Mn _ _ _ _ _ _ hs2 k4
def WcD_of(h:Ja C F f fn kf A l q fc kc Ac qc) (hp:p.ll=[])(hpn:pure pn=false) (hl:(Nat.ble (zB args) kf&&Nat.ble (zB args) fn.ntmps)=true)(hpts:∀ κ,bK C (bC C (nE F)) f fn.ntmps (jX l) κ=[])
  (hw:pA C.base (Wq C F pure) (fun i vals t Q=>i=p.id/\Nh C F pure pan f fn kf A q p vals t Q) (bL C A.la f fn.ntmps (jX l) ⟨dX p,fun _ _=>.fail,endT C fn⟩ ⟨⟨kf,Tr.ofList args,[]⟩,[],.leaf,[]⟩) t Q):Wc C F f args t Q:=by
 intro X HA ho;obtain⟨g,h1,h2⟩:=KW (args:=args) (d:=false) h.isFn h.isK h.body hl
 rw[Ij h.lt,h.prim];show kB C.base X bJ Q (bC C (nE F) (.func f) args HA)
 rw[Zl];show kB C.base X bJ Q (zS C (nE F) (bC C (nE F)) f args HA)
 unfold zS;refine kB.ob (LX h.isF) (kB.ob h.isFn (kB.ob h1 ?_))
 unfold iW;rw[h.split,h2];have hk:∀X0,SKt C (Wq C F pure) (fun i vals t Q=>i=p.id/\Nh C F pure pan f fn kf A q p vals t Q) X0 kf bJ Q ⟨dX p,fun _ _=>.fail,endT C fn⟩ (Bh C (nE F) (bC C (nE F)) fn q):=by
  intro X0;refine⟨fun st tm HA t X ν hst hw=>?_,fun _ _ _ _ _ _ _ _ h=>h.elim,Mn⟩
  unfold dX at hw;rw[iE]at hw;obtain⟨vals,k1,_,k2⟩:=hw
  exact zgs h hp hpn k2 (hst.at k1)
 exact Bd (Ti hpn) Th (jX l) _ _ (nN.nil h.rng) hk (nS.nil (hpts _)) _ _ _ _ _ _ _ (st_of ho rfl) hw
end
end Go.Am
namespace Go.Proofs
open Go Go.Am
variable {m:Tr vA}{Q:sB}
variable [eC]
def dq0:bP:=⟨0,#[],0,0,[],0,#[]⟩
def cq0:ClQ:=⟨0,#[],0,0,.skip⟩
def pcs (f:Nat):List nC:=(gD ([],dq0) (rV (ao f).code)).1
def dqo (f:Nat):bP:=(gD ([],dq0) (rV (ao f).code)).2
def cqo (f:Nat):ClQ:=gD cq0 (Fm (ao f).code)
def dB (f cl:Nat):Bool := !sE (F.get f) && !sE (fns.get f) && !sE (ks.get f) && !sE (rV (ao f).code) && !sE (F.get cl) && !sE (fns.get cl) && !sE (ks.get cl) && !sE (Fm (ao cl).code)&&Nat.beq (dqo f).cl cl&&defB yA F f (fo f) (ko f) (ao f) (pcs f) (dqo f) (fo cl) (ko cl) (ao cl) (cqo cl)
def dA(f cl:Nat)(h:dB f cl=true:=by kernel_rfl):Ja yA F f (fo f) (ko f) (ao f) (pcs f) (dqo f) (fo cl) (ko cl) (ao cl) (cqo cl):=by
 unfold dB at h;simp only[ybb]at h;obtain⟨⟨⟨⟨⟨⟨⟨⟨⟨h1,h2⟩,h3⟩,h4⟩,h5⟩,h6⟩,h7⟩,h8⟩,h9⟩,h10⟩:=h
 have e:=mC.1 h9
 exact .of (gO h1) (gO h2) (gO h3) (gO h4) (by rw[e];exact gO h5) (by rw[e];exact gO h6) (by rw[e];exact gO h7) (gO h8) h10
abbrev noJ:kE:=fun _ _ _ _=>False
abbrev pR:PI:=⟨11,[1,4,5,6,8],[]⟩
abbrev pS:PI:=⟨3,[0,1,2,3],[]⟩
def t28 (p0:List Nat)(p1:zA):T:=
 .heavy (nK yA 27) fun a0=>
 .heavy (nK yA 29) fun a1=>
 .heavy (nK yA 30) fun a2=>
 .call 22 [(.str p0)] fun a3=>
 .opt (yH 0 a3) fun a4=>.opt (yH 1 a3) fun a5=>.asG [(.int .i64 0),(.int .i64 0)] a5 fun X6=>
 .opt (yH 2 a3) fun a7=>.asI .i64 a7 fun n8=>.heavy (zC yA 29 a1 (.agg [(.int .i64 (X6.i 0)),(.int .i64 (X6.i 1))])) fun _=>
 .heavy (zC yA 30 a2 (.int .i64 n8)) fun _=>
 .light (fun m=>mA yA 30 ⟨0,m⟩ a2) fun a9=>.asI .i64 a9 fun n10=>.ite (!tC n10 0)
 (.light (fun m=>mA yA 27 ⟨0,m⟩ a0) fun a11=>.asG [(.str []),.nilslice,.nilslice,.nilslice] a11 fun X12=>
 .light (fun m=>mA yA 29 ⟨0,m⟩ a1) fun a13=>.asG [(.int .i64 0),(.int .i64 0)] a13 fun X14=>
 .light (fun m=>mA yA 30 ⟨0,m⟩ a2) fun a15=>.asI .i64 a15 fun n16=>.heavy (zC yA 27 a0 (.agg [(.str (X12.s 0)),(X12.v 1),(X12.v 2),(X12.v 3)])) fun _=>
 .light (fun m=>mA yA 29 ⟨0,m⟩ a1) fun a17=>.ite (same 10 a17 (.agg [(.int .i64 (X14.i 0)),(.int .i64 (X14.i 1))])) (.light (fun m=>mA yA 30 ⟨0,m⟩ a2) fun a18=>.ite (same 10 a18 (.int .i64 n16)) (.heavy (zC yA 29 a1 (.agg [(.int .i64 (X14.i 0)),(.int .i64 (X14.i 1))])) fun _=>
 .light (fun m=>mA yA 30 ⟨0,m⟩ a2) fun a19=>.ite (same 10 a19 (.int .i64 n16)) (.heavy (zC yA 30 a2 (.int .i64 n16)) fun _=>
 .light (fun m=>mA yA 27 ⟨0,m⟩ a0) fun a20=>.light (fun m=>mA yA 29 ⟨0,m⟩ a1) fun a21=>.light (fun m=>mA yA 30 ⟨0,m⟩ a2) fun a22=>.ret (.tup [a20,a21,a22])) .fail) .fail) .fail)
 (.call 25 [(.str p0),(.int .i64 (Int.ofNat (zB p0)))] fun a23=>
 .asG [(.int .i64 0),(.int .i64 0)] a23 fun X24=>
 .ite (fB zA.one [a4]) (.heavy (wN (.agg [a4,(.int .i64 0),(.int .i64 0),(.int .i64 (X24.i 0)),(.int .i64 (X24.i 1))])) fun a25=>
 .jump 11 [p1,a0,a1,a2,a25]) .fail)
def Uq(v1:zA)(v4:zA)(v5:zA)(v6:zA)(v8:zA):T:=
 .callv v1 [v8] fun a0=>
 .asG [(.str []),.nilslice,.nilslice,.nilslice] a0 fun X1=>
 .ite true (.heavy (zC yA 27 v4 (.agg [(.str (X1.s 0)),(X1.v 1),(X1.v 2),(X1.v 3)])) fun _=>
 .heavy (zC yA 29 v5 (.agg [(.int .i64 0),(.int .i64 0)])) fun _=>
 .heavy (zC yA 30 v6 (.int .i64 0)) fun _=>
 .light (fun m=>mA yA 27 ⟨0,m⟩ v4) fun a2=>.light (fun m=>mA yA 29 ⟨0,m⟩ v5) fun a3=>.light (fun m=>mA yA 30 ⟨0,m⟩ v6) fun a4=>.ret (.tup [a2,a3,a4])) .fail
def Ou(v0:zA)(v1:zA)(v2:zA)(v3:zA):T:=
 .opt ((gP .neq).f yA 20 (.tmp 8) (.const .nilIface) v3 .niliface) fun a0=>.asB a0 fun b1=>.ite b1
 (.heavy (zC yA 27 v0 (.agg [(.str []),.nilslice,.nilslice,.nilslice])) fun _=>
 .heavy (zC yA 30 v1 (.int .i64 120)) fun _=>
 .opt (Dg yA 123 true v3) fun a2=>.opt (yH 0 a2) fun a3=>.asG [(.int .i64 0),(.int .i64 0),(.int .i64 0)] a3 fun X4=>
 .opt (yH 1 a2) fun a5=>.asB a5 fun b6=>.ite true (.ite b6
 (.heavy (zC yA 29 v2 (.agg [(.int .i64 (X4.i 0)),(.int .i64 (X4.i 1))])) fun _=>
 .ite (same 10 (.int .i64 (X4.i 2)) (.int .i64 (X4.i 2))) (.heavy (zC yA 30 v1 (.int .i64 (X4.i 2))) fun _=>
 .ret (.tup [])) .fail)
 (.ret (.tup []))) .fail)
 (.ret (.tup []))
def Ox(v4 v5 v6:zA):T:=.light (fun m=>mA yA 27 ⟨0,m⟩ v4) fun a2=>.light (fun m=>mA yA 29 ⟨0,m⟩ v5) fun a3=>.light (fun m=>mA yA 30 ⟨0,m⟩ v6) fun a4=>.ret (.tup [a2,a3,a4])
def e28(p0:List Nat)(p1:zA):bL yA (ao 28).la 28 (fo 28).ntmps (jX (pcs 28)) ⟨dX pR,fun _ _=>.fail,Am.endT yA (fo 28)⟩ ⟨⟨ko 28,Tr.ofList [(.str p0),p1],[]⟩,[],.leaf,[]⟩=t28 p0 p1:=by kernel_rfl
def e28_13(v1 v4 v5 v6 v8:zA):bL yA (ao 28).la 28 (fo 28).ntmps (.region (dqo 28).i6 (dqo 28).o6 false) ⟨Am.endT yA (fo 28),fun _ _=>.fail,fun _=>.fail⟩ (zM (ko 28) pR [v1,v4,v5,v6,v8])=Uq v1 v4 v5 v6 v8:=by kernel_rfl
def e28_e(v1 v4 v5 v6 v8:zA):Am.endT yA (fo 28) (zM (ko 28) pR [v1,v4,v5,v6,v8]).cut=Ox v4 v5 v6:=by kernel_rfl
def e56_3(v0 v1 v2 v3:zA):bL yA (ao 56).la (dqo 28).cl (fo 56).ntmps (cqo 56).c (Bc yA (fo 56)) (zM (ko 56) pS [v0,v1,v2,v3])=Ou v0 v1 v2 v3:=by kernel_rfl
def nil56(a b c:zA)(HA:xA):vS yA (nE F) (bC yA (nE F)) (dqo 28).cl [a,b,c] .niliface HA=some (⟨.tup [],false⟩,HA):=by kernel_rfl
def tl28(v1 v4 v5 v6 v8:zA)  (h:pA yA.base (dE yA F vC tF fun v t'=>pA yA.base (Wq yA F vC) noJ (Ou v4 v6 v5 v) t' fun _ t''=>pA yA.base (Wq yA F vC) noJ (Ox v4 v5 v6) t'' Q) noJ (Uq v1 v4 v5 v6 v8) m Q) :
  Nh yA F vC tF 28 (fo 28) (ko 28) (ao 28) (dqo 28) pR [v1,v4,v5,v6,v8] m Q:=by
 refine⟨[v4,v6,v5],(fun v t'=>pA yA.base (Wq yA F vC) noJ (Ou v4 v6 v5 v) t' fun _ t''=>pA yA.base (Wq yA F vC) noJ (Ox v4 v5 v6) t'' Q),by kernel_rfl,nil56 _ _ _,fun v t' hv=>?_,by rw[e28_13];exact h⟩
 refine zjs (dA 28 56) (p:=pS) (W:=Wq yA F vC) (Ti (by kernel_rfl)) Th (by intro κ;kernel_rfl) (by kernel_rfl) (vals:=[v4,v6,v5,v]) (by kernel_rfl) (J:=noJ) ?_
 rw[e56_3,e28_e];exact hv
def w28(p0:List Nat)(p1:zA)  (h:pA yA.base (Wq yA F vC) (fun i vals t Q=>i=11/\Nh yA F vC tF 28 (fo 28) (ko 28) (ao 28) (dqo 28) pR vals t Q) (t28 p0 p1) m Q):Wf 28 [(.str p0),p1] m Q:=
 WcD_of (pan:=tF) (dA 28 56) (p:=pR) rfl (by kernel_rfl) (by kernel_rfl) (by intro κ;kernel_rfl) (by rw[e28];exact h)
def t67_3(v0:zA)(v1:zA)(v2:zA)(v3:zA):T:=
 .opt ((gP .neq).f yA 20 (.tmp 8) (.const .nilIface) v3 .niliface) fun a0=>.asB a0 fun b1=>.ite b1
 (.heavy (zC yA 50 v0 (.agg [(.int .u8 0),(.str []),(.int .u8 0),(.bool false),.nilslice,(.bool false),.nilslice,(.int .i64 0),.nilslice])) fun _=>
 .heavy (zC yA 30 v1 (.int .i64 120)) fun _=>
 .opt (Dg yA 123 true v3) fun a2=>.opt (yH 0 a2) fun a3=>.asG [(.int .i64 0),(.int .i64 0),(.int .i64 0)] a3 fun X4=>
 .opt (yH 1 a2) fun a5=>.asB a5 fun b6=>.ite true (.ite b6
 (.heavy (zC yA 29 v2 (.agg [(.int .i64 (X4.i 0)),(.int .i64 (X4.i 1))])) fun _=>
 .ite (same 10 (.int .i64 (X4.i 2)) (.int .i64 (X4.i 2))) (.heavy (zC yA 30 v1 (.int .i64 (X4.i 2))) fun _=>
 .ret (.tup [])) .fail)
 (.ret (.tup []))) .fail)
 (.ret (.tup []))
def t40_e(v4 v5 v6:zA):T:=.light (fun m=>mA yA 50 ⟨0,m⟩ v4) fun a2=>.light (fun m=>mA yA 29 ⟨0,m⟩ v5) fun a3=>.light (fun m=>mA yA 30 ⟨0,m⟩ v6) fun a4=>.ret (.tup [a2,a3,a4])
def t70_3(v0:zA)(v1:zA)(v2:zA)(v3:zA):T:=
 .opt ((gP .neq).f yA 20 (.tmp 8) (.const .nilIface) v3 .niliface) fun a0=>.asB a0 fun b1=>.ite b1
 (.heavy (zC yA 47 v0 (.agg [(.int .u8 0),(.bool false),.nilslice,(.bool false),.nilslice,(.int .i64 0)])) fun _=>
 .heavy (zC yA 30 v1 (.int .i64 120)) fun _=>
 .opt (Dg yA 123 true v3) fun a2=>.opt (yH 0 a2) fun a3=>.asG [(.int .i64 0),(.int .i64 0),(.int .i64 0)] a3 fun X4=>
 .opt (yH 1 a2) fun a5=>.asB a5 fun b6=>.ite true (.ite b6
 (.heavy (zC yA 29 v2 (.agg [(.int .i64 (X4.i 0)),(.int .i64 (X4.i 1))])) fun _=>
 .ite (same 10 (.int .i64 (X4.i 2)) (.int .i64 (X4.i 2))) (.heavy (zC yA 30 v1 (.int .i64 (X4.i 2))) fun _=>
 .ret (.tup [])) .fail)
 (.ret (.tup []))) .fail)
 (.ret (.tup []))
def t45_e(v4 v5 v6:zA):T:=.light (fun m=>mA yA 47 ⟨0,m⟩ v4) fun a2=>.light (fun m=>mA yA 29 ⟨0,m⟩ v5) fun a3=>.light (fun m=>mA yA 30 ⟨0,m⟩ v6) fun a4=>.ret (.tup [a2,a3,a4])
end Go.Proofs
namespace Go.Proofs
open Go Go.Am
section
variable [eC]
section
variable {t:Tr vA}{Q:sB}{s:List Nat}
def nP(s:List Nat):(Int.ofNat (zB s))=(s.length:Int):=by rw[oD];rfl
def EM(hs:s.length<4000000000000000000):wC yA F 37 [.str s,.func (.func 65) [] []] t=some (.str (uD nD s)):=by
 refine bD.2 (w37 ?_)
 simp only[uZ,t37,pA];exact Pg (fun n=>Ma) (fun {a m R}=>by rw[q65]) rfl hs s.length 0 (by omega) (fun j x hj=>by omega)
def zb1{n:Nat}:wC yA F 80 [.int .u8 (n:Int)] t=some (.bool (decide (n≠10))):=by
 refine bD.2 (w80 ?_)
 unfold t80;refine⟨?_,rfl⟩
 rw[sF];congr 1
 by_cases h:n=10
 ·subst h;rfl
 ·simp[h];omega
def zbo(hs:s.length<4000000000000000000):wC yA F 37 [.str s,.func (.func 80) [] []] t=some (.str (uD (fun x=>decide (x≠10)) s)):=by
 refine bD.2 (w37 ?_)
 simp only[uZ,t37,pA];exact Pg (fun n=>zb1) (fun {a m R}=>by rw[q80]) rfl hs s.length 0 (by omega) (fun j x hj=>by omega)
def Gt(p:Nat->Bool)(s:List Nat):(uD p s).length<=s.length:=(List.takeWhile_sublist _).length_le
def QW(p:Nat->Bool)(s:List Nat):uD p s=s.take (uD p s).length:=by
 unfold uD;induction s with
 | nil=>rfl
 | cons a s ih=>
  rw[List.takeWhile_cons];split
  ·rw[ybn,List.take_succ_cons,<- ih]
  ·rfl
def NS(hs:s.length<4000000000000000000):wC yA F 103 [.str s] t=some (.tup [.str (if 24<(uD eI s).length then []else uD eI s),.int .i64 (if 24<(uD eI s).length then 111 else 0)]):=by
 refine bD.2 (w103 ?_)
 unfold t103 uS;refine yB ?_
 rw[q37,EJ hs,sA];refine dF ?_
 rw[nP];by_cases h:24<(uD eI s).length
 ·rw[yab h,yab h]
  exact rA (by rw[fC];exact decide_eq_true (by omega)) ⟨rfl,rfl⟩
 ·rw[yaa h,yaa h]
  exact qB (by rw[fC];simp;omega) ⟨rfl,rfl⟩
def FS:wC yA F 129 [.str s] t=some (.bool (oR s)):=by
 refine bD.2 (w129 ?_)
 unfold t129 uU oC;rw[nP];unfold oR;by_cases h:1<s.length
 ·cases s with
  | nil=>simp at h
  | cons x r=>
   have hx:=fM (s:=x::r) (i:=0) (x:=x) rfl
   refine rA (by rw[fC];exact decide_eq_true (by omega)) (iA hx (pB ⟨?_,rfl⟩))
   rw[sF,decide_eq_true h];congr 1
   by_cases h48:x=48
   ·subst h48;rfl
   ·simp[h48];omega
 ·refine qB (by rw[fC];simp;omega) ⟨?_,rfl⟩
  simp[h]
def zc5:wC yA F 104 [.str s] t=some (.bool (wH s)):=by
 have loop:10<=s.length->∀(k i:Nat),i+k=10->jp 104 2 [.str s,.int .i64 (i:Int)] t (fun v t'=>v=.bool (((List.range 10).drop i).all fun i=>jK i (s.getD i 0))/\t'=t):=by
  intro hl k;induction k with
  | zero=>
   intro i hi;refine zfk ?_
   unfold Vq gI;refine qB (by rw[fC];simp;omega) ⟨?_,rfl⟩
   rw[ybt (by simp;omega)]
   rfl
  | succ k ih=>
   intro i hi;have hx:s[i]?=some s[i]:=ybd (by omega)
   have hd:s.getD i 0=s[i]:=by rw[List.getD_eq_getElem?_getD,hx];rfl
   have e:((List.range 10).drop i).all (fun i=>jK i (s.getD i 0))=(jK i s[i]&&((List.range 10).drop (i+1)).all fun i=>jK i (s.getD i 0)):=by
    rw[ybl (by simp;omega),ycg]
    simp only[List.getElem_range,hd]
   have e3:tD (i:Int)=.int .i64 ((i+1:Nat):Int):=by
    show zA.int .i64 (cA .i64 ((i:Int)+1))=_
    rw[iC (by omega) (by omega)];rfl
   have next:jK i s[i]=true->jp 104 2 [.str s,tD (i:Int)] t (fun v t'=>v=.bool (((List.range 10).drop i).all fun i=>jK i (s.getD i 0))/\t'=t):=fun h=>by
    rw[e,h,ycn,e3];exact ih (i+1) (by omega)
   have sep:(i=4\/i=7)->wp 104 (uQ15 s (i:Int)) t (fun v t'=>v=.bool (((List.range 10).drop i).all fun i=>jK i (s.getD i 0))/\t'=t):=fun h47=>by
    unfold uQ15 uU oC;refine iA (fM hx) (pB ?_)
    have hda:jK i s[i]=decide (s[i]=45):=by unfold jK;rw[yab h47]
    by_cases h45:s[i]=45
    ·refine qB (by rw[sF,h45];simp) (jC (next (by rw[hda];exact decide_eq_true h45)))
    ·refine rA (by rw[sF];simp;omega) ⟨?_,rfl⟩
     rw[e,hda,decide_eq_false h45];rfl
   refine zfk ?_
   unfold Vq uU uB oC;refine rA (by rw[fC];exact decide_eq_true (by omega)) ?_
   by_cases h4:i=4
   ·exact rA (by rw[sF];exact decide_eq_true (by omega)) (sep (.inl h4))
   refine qB (by rw[sF];simp;omega) ?_
   by_cases h7:i=7
   ·exact rA (by rw[sF];exact decide_eq_true (by omega)) (sep (.inr h7))
   refine qB (by rw[sF];simp;omega) (iA (fM hx) (pB (yB ?_)))
   rw[q65];show vE (wC yA F 65 [.int .u8 (s[i]:Int)] t) _
   rw[Ma,sA];have hda:jK i s[i]=nD s[i]:=by unfold jK;rw[yaa (by omega)]
   refine cD ?_
   cases hb:nD s[i]with
   | true=>exact qB (by simp) (jC (next (by rw[hda,hb])))
   | false=>
    refine rA rfl ⟨?_,rfl⟩
    rw[e,hda,hb];rfl
 refine bD.2 (w104 ?_)
 unfold t104 oC;rw[nP];unfold wH;by_cases h:10<=s.length
 ·refine qB (by rw[fC];simp;omega) (jC ?_)
  rw[decide_eq_true h,ycn];exact loop h 10 0 rfl
 ·refine rA (by rw[fC];exact decide_eq_true (by omega)) ⟨?_,rfl⟩
  rw[decide_eq_false h];rfl
def XW(h:wH s=true):wH (s.take 10)=true/\(s.take 10).length=10:=by
 have hl:10<=s.length:=by unfold wH at h;simp only[ybb,decide_eq_true_eq]at h;exact h.1
 refine⟨?_,by rw[yda];omega⟩
 unfold wH at h ⊢
 simp only[ybb,decide_eq_true_eq,ycb,List.mem_range]at h ⊢
 refine⟨by rw[yda];omega,fun i hi=>?_⟩
 have:=h.2 i hi
 rw[List.getD_eq_getElem?_getD]at this ⊢
 rw[ydf,yab hi];exact this
def XY(hg:rL t)(hd:wH s=true):wC yA F 105 [.str s] t=some (.tup [.str (if rN s then []else s.take 10),.int .i64 (if rN s then 113 else 0)]):=by
 obtain⟨h1,h2⟩:=XW hd
 have hl:10<=s.length:=by unfold wH at hd;simp only[ybb,decide_eq_true_eq]at hd;exact hd.1
 have tail:(decide (10<s.length)&&cO s 10)=false->wp 105 (uQ6 s) t fun v' t'=>v'=.tup [.str (if rN s then []else s.take 10),.int .i64 (if rN s then 113 else 0)]/\t'=t:=by
  intro hf;have hb:rN s=decide (Ae (s.take 10)=none):=by unfold rN;rw[hf,Bool.false_or]
  unfold uQ6 uS uI;have hs:=Dq (s:=s) (k:=10) (by omega)
  refine iA hs (dF (yB ?_))
  rw[q97,LD hg h2 h1,sA];refine iA rfl (pB (iA rfl (pB ?_)))
  rw[hb]
  cases hx:Ae (s.take 10)with
  | none=>exact rA (by decide) ⟨rfl,rfl⟩
  | some n=>exact qB (fun h=>by cases h) (iA hs (dF ⟨rfl,rfl⟩))
 refine bD.2 (w105 ?_)
 unfold t105 uU uB;rw[nP];by_cases h10:10<s.length
 ·have hx:s[10]?=some s[10]:=ybd h10
  refine rA (by rw[fC];exact decide_eq_true (by omega)) (iA (fM hx) (pB (yB ?_)))
  rw[q38];show vE (wC yA F 38 [.int .u8 (s[10]:Int)] t) _
  rw[Zd,sA];refine cD ?_
  have hf:cO s 10=eI s[10]:=by unfold cO;rw[hx]
  cases hb:eI s[10]with
  | true=>
   refine rA rfl ⟨?_,rfl⟩
   have:rN s=true:=by unfold rN;rw[hf,hb,decide_eq_true h10];rfl
   rw[this];rfl
  | false=>
   refine qB (by simp) (tail ?_)
   rw[hf,hb,yay]
 ·exact qB (by rw[fC];simp;omega) (tail (by rw[decide_eq_false h10];rfl))
def TJ(hs:s.length<1000000):wC yA F 106 [.str s] t=some (.tup [.str (if sI s then []else s.take (yF s)),.int .i64 (if sI s then 112 else 0)]):=by
 have hfl:=Gt nD s
 have hfirst:(xD s).length<=s.length:=hfl
 have hsecond:(xD s).length+1+(zF s).length<=s.length\/zF s=[]:=by
  unfold zF;split
  ·rename_i h
   have h1:=(ybc.1 h).1
   left
   have:=Gt nD (s.drop ((xD s).length+1))
   rw[ydj]at this;omega
  ·right;rfl
 have hnl:yF s<=s.length:=by
  unfold yF;split
  ·exact hfirst
  ·rename_i h;exact hsecond.resolve_right h
 have tail:decide (200<yF s)=false->cO s (yF s)=false->wp 106 (uQ9 (xD s) (zF s) s (yF s:Int)) t fun v' t'=>v'=.tup [.str (if sI s then []else s.take (yF s)),.int .i64 (if sI s then 112 else 0)]/\t'=t:=by
  intro h1 h2;have hb:sI s=(oR (xD s)||oR (zF s)||decide (zF s=[48])):=by unfold sI;rw[h1,h2,Bool.false_or,Bool.false_or]
  unfold uQ9 uB uS;refine yB ?_
  rw[q129,FS,sA];refine cD ?_
  cases p1:oR (xD s)with
  | true=>rw[hb,p1];exact rA rfl ⟨rfl,rfl⟩
  | false=>
   refine qB (by simp) (yB ?_)
   rw[q129,FS,sA];refine cD ?_
   cases p2:oR (zF s)with
   | true=>rw[hb,p1,p2];exact rA rfl ⟨rfl,rfl⟩
   | false=>
    refine qB (by simp) ?_
    rw[hb,p1,p2]
    cases p3:qG (zF s) [48]with
    | true=>
     rw[decide_eq_true ((uM _ _).1 p3)]
     exact rA rfl ⟨rfl,rfl⟩
    | false=>
     rw[decide_eq_false fun e=>by rw[(uM _ _).2 e]at p3;cases p3]
     exact qB (by simp) (iA (Dq hnl) (dF ⟨rfl,rfl⟩))
 have p17:jp 106 17 [.str s,.str (xD s),.int .i64 (yF s:Int),.str (zF s)] t fun v' t'=>v'=.tup [.str (if sI s then []else s.take (yF s)),.int .i64 (if sI s then 112 else 0)]/\t'=t:=by
  refine ziq ?_
  unfold DC uU uB;rw[nP];by_cases h:yF s<s.length
  ·have hx:s[yF s]?=some s[yF s]:=ybd h
   refine rA (by rw[fC];exact decide_eq_true (by omega)) (iA (fM hx) (pB (yB ?_)))
   rw[q38];show vE (wC yA F 38 [.int .u8 (s[yF s]:Int)] t) _
   rw[Zd,sA];refine cD ?_
   have hf:cO s (yF s)=eI s[yF s]:=by unfold cO;rw[hx]
   by_cases h2:200<yF s
   ·refine rA (by rw[fC];exact decide_eq_true (by omega)) ⟨?_,rfl⟩
    have:sI s=true:=by unfold sI;rw[decide_eq_true h2];simp
    rw[this];rfl
   ·refine qB (by rw[fC];simp;omega) ?_
    cases hb:eI s[yF s]with
    | true=>
     refine rA rfl ⟨?_,rfl⟩
     have:sI s=true:=by unfold sI;rw[hf,hb];simp
     rw[this];rfl
    | false=>exact qB (by simp) (tail (decide_eq_false h2) (by rw[hf,hb]))
  ·have hf:cO s (yF s)=false:=by unfold cO;rw[List.getElem?_eq_none (by omega)]
   refine qB (by rw[fC];simp;omega) ?_
   by_cases h2:200<yF s
   ·refine rA (by rw[fC];exact decide_eq_true (by omega)) ⟨?_,rfl⟩
    have:sI s=true:=by unfold sI;rw[decide_eq_true h2];simp
    rw[this];rfl
   ·exact qB (by rw[fC];simp;omega) (tail (decide_eq_false h2) hf)
 have p13:jp 106 13 [.str s,.str (xD s),.int .i64 ((xD s).length:Int),.str (zF s)] t fun v' t'=>v'=.tup [.str (if sI s then []else s.take (yF s)),.int .i64 (if sI s then 112 else 0)]/\t'=t:=by
  refine zir ?_
  unfold DD
  cases he:qG (zF s) []with
  | true=>
   have h0:=(uM _ _).1 he
   refine qB (by simp) (jC ?_)
   have:yF s=(xD s).length:=by unfold yF;rw[yab h0]
   have e:((yF s:Nat):Int)=((xD s).length:Int):=by rw[this]
   rw[e]at p17;exact p17
  | false=>
   have h0:zF s≠[]:=fun e=>by rw[(uM _ _).2 e]at he;cases he
   have hle:=hsecond.resolve_right h0
   refine rA rfl (jC ?_)
   have e:uW (((xD s).length:Int)+uW (1+Int.ofNat (zB (zF s))))=((yF s:Nat):Int):=by
    unfold uW yF;rw[nP,yaa h0,iC (n:=1+((zF s).length:Int)) (by omega) (by omega),iC (by omega) (by omega)]
    omega
   rw[e];exact p17
 refine bD.2 (w106 ?_)
 unfold t106 uS uU;refine yB ?_
 rw[q37,EM (by omega),sA]
 refine dF ?_
 rw[nP,nP];show wp 106 (.ite (iB ((xD s).length:Int) (s.length:Int)) _ (.jump 13 [.str s,.str (xD s),uZ ((xD s).length:Int),.str []])) t _
 by_cases h:(xD s).length<s.length
 ·have hx:s[(xD s).length]?=some s[(xD s).length]:=ybd h
  refine rA (by rw[fC];exact decide_eq_true (by omega)) (iA (fM hx) (pB ?_))
  by_cases h47:s[(xD s).length]=47
  ·have e:uW (((uD nD s).length:Int)+1)=(((xD s).length+1:Nat):Int):=by
    show cA .i64 (((xD s).length:Int)+1)=_
    rw[iC (by omega) (by omega)];rfl
   have h2:zF s=uD nD (s.drop ((xD s).length+1)):=by unfold zF;rw[yab (by rw[hx,h47])]
   refine rA (by rw[sF,h47];rfl) ?_
   rw[e];refine iA (Oz (by omega)) (dF (yB ?_))
   rw[q37,EM (by rw[ydj];omega),sA,<- h2]
   exact dF (jC p13)
  ·have h2:zF s=[]:=by unfold zF;rw[yaa (by rw[hx];simpa using h47)]
   refine qB (by rw[sF];simp;omega) (jC ?_)
   rw[h2]at p13;exact p13
 ·have h2:zF s=[]:=by unfold zF;rw[yaa (by rw[List.getElem?_eq_none (by omega)];simp)]
  refine qB (by rw[fC];simp;omega) (jC ?_)
  rw[h2]at p13;exact p13
end
end
section
variable {b:Nat}
variable [eC]
def zcn(c:Nat):∀s:List Nat,(nU c s).isSome=s.contains c:=by
 intro s;induction s with
 | nil=>rfl
 | cons x r ih=>
  rw[List.contains_cons,<- ih];have e:nU c (x::r)=bif Nat.beq x c then some 0 else ob (nU c r) fun n=>some (n+1):=rfl
  rw[e]
  cases h:Nat.beq x c with
  | true=>rw[mC.1 h];simp
  | false=>
   have:¬ c=x:=fun e=>by rw[e,Nat.beq_refl]at h;cases h
   have h2:(c == x)=false:=by simp[this]
   rw[cond_false,h2,Bool.false_or]
   cases nU c r<;>rfl
abbrev xI(sp:Nat)(src:List Nat)(ln cl off:Nat):kD:=jB sp none [.int .i64 (ln:Int),.int .i64 (cl:Int),.str src,.int .i64 (off:Int)]
section
variable {tf t:Tr vA}{A B:List kD}{Q:sB}{sp ln cl off:Nat}{src:List Nat}
def g0  : kC yA 145 0 (.ptr b 0)=some (.ptr b 0):=by kernel_rfl
def g1  : kC yA 145 1 (.ptr b 0)=some (.ptr b 2):=by kernel_rfl
def g2  : kC yA 145 2 (.ptr b 0)=some (.ptr b 3):=by kernel_rfl
def p0  : kC yA 29 0 (.ptr b 0)=some (.ptr b 0):=by kernel_rfl
def p1  : kC yA 29 1 (.ptr b 0)=some (.ptr b 1):=by kernel_rfl
def zej(h:lA yA.base tf t (A++xI sp src ln cl off::B)):mA yA 9 ⟨0,t⟩ (.ptr sp 2)=some (.str src):=(lA.cel h).load1 sP rfl rfl
def Kk(h:lA yA.base tf t (A++xI sp src ln cl off::B)):mA yA 3 ⟨0,t⟩ (.ptr sp 3)=some (.int .i64 (off:Int)):=(lA.cel h).load1 qO rfl rfl
def sc_ln(h:lA yA.base tf t (A++xI sp src ln cl off::B)):mA yA 3 ⟨0,t⟩ (.ptr sp 0)=some (.int .i64 (ln:Int)):=(lA.cel h).load1 qO rfl rfl
def sc_cl(h:lA yA.base tf t (A++xI sp src ln cl off::B)):mA yA 3 ⟨0,t⟩ (.ptr sp 1)=some (.int .i64 (cl:Int)):=(lA.cel h).load1 qO rfl rfl
def sc_pl(h:lA yA.base tf t (A++xI sp src ln cl off::B)):mA yA 29 ⟨0,t⟩ (.ptr sp 0)=some (.agg [.int .i64 (ln:Int),.int .i64 (cl:Int)]):=by
 have:=(lA.cel h).at.load (j:=0) (n:=2) vV rfl rfl (by simp)
 simpa using this
def Kj{ln' cl' off' j:Nat}{x:Nat}(h:lA yA.base tf t (A++xI sp src ln cl off::B))(hj:j<4)(he:pJ [.int .i64 (ln:Int),.int .i64 (cl:Int),.str src,.int .i64 (off:Int)] j [.int .i64 (x:Int)]=[.int .i64 (ln':Int),.int .i64 (cl':Int),.str src,.int .i64 (off':Int)]) :
  ∃t',(∀q,zC yA 3 (.ptr sp j) (.int .i64 (x:Int)) ⟨q,t⟩=some (dD,⟨q,t'⟩))/\lA yA.base tf t' (A++xI sp src ln' cl' off'::B):=by
 obtain⟨t',h1,h2⟩:=lA.setCel (j:=j) (v:=.int .i64 (x:Int)) h qO rfl (by show j+1<=4;omega) rfl
 refine⟨t',h1,?_⟩
 have:(zA.int .i64 (x:Int)).cells=[.int .i64 (x:Int)]:=rfl
 rw[this,he]at h2;exact h2
def Gv(h:lA yA.base tf t (A++xI sp src ln cl off::B))(ho:off<=src.length):wC yA F 79 [.ptr sp 0] t=some (.str (src.drop off)):=by
 refine bD.2 (w79 ?_)
 unfold t79 fI uI uS;exact iA nl (iA g1 (sC (zej h) (dF (iA nl (iA g2 (sC (Kk h) (pB (iA (Oz ho) (dF ⟨rfl,rfl⟩)))))))))
def DU{n:Nat}(h:lA yA.base tf t (A++xI sp src ln cl off::B))(h1:off+n<1000000)(h2:cl+n<1000000)(hQ:∀t',lA yA.base tf t' (A++xI sp src ln (cl+n) (off+n)::B)->Q (.tup []) t'):Wc yA F 78 [.ptr sp 0,.int .i64 (n:Int)] t Q:=by
 refine w78 ?_
 unfold t78 fI uI;have e1:uW ((off:Int)+(n:Int))=((off+n:Nat):Int):=by show cA .i64 _=_;rw[iC (by omega) (by omega)];rfl
 have e2:uW ((cl:Int)+(n:Int))=((cl+n:Nat):Int):=by show cA .i64 _=_;rw[iC (by omega) (by omega)];rfl
 refine iA nl (iA g2 (sC (Kk h) (pB (iA nl (iA g2 (lC fun b _ _=>?_))))))
 rw[e1];obtain⟨t1,k1,k2⟩:=Kj (j:=3) (x:=off+n) (ln':=ln) (cl':=cl) (off':=off+n) h (by omega) rfl
 refine⟨_,_,k1 b,iA nl (iA g0 (iA p1 (sC (sc_cl k2) (pB (iA nl (iA g0 (iA p1 (lC fun b _ _=>?_))))))))⟩
 rw[e2];obtain⟨t2,m1,m2⟩:=Kj (j:=1) (x:=cl+n) (ln':=ln) (cl':=cl+n) (off':=off+n) k2 (by omega) rfl
 exact⟨_,_,m1 b,hQ t2 m2⟩
def TS(h:lA yA.base tf t (A++xI sp src ln cl off::B))(h1:off<900000)(h2:ln<900000)(hQ:∀t',lA yA.base tf t' (A++xI sp src (ln+1) 1 (off+1)::B)->Q (.tup []) t'):Wc yA F 77 [.ptr sp 0] t Q:=by
 refine w77 ?_
 unfold t77 fI uI;have e:∀n:Nat,n<900000->tD (n:Int)=.int .i64 ((n+1:Nat):Int):=fun n hn=>by
  show zA.int .i64 (cA .i64 ((n:Int)+1))=_
  rw[iC (by omega) (by omega)];rfl
 refine iA nl (iA g2 (sC (Kk h) (pB (iA nl (iA g2 (lC fun b _ _=>?_))))))
 rw[e off h1];obtain⟨t1,k1,k2⟩:=Kj (j:=3) (x:=off+1) (ln':=ln) (cl':=cl) (off':=off+1) h (by omega) rfl
 refine⟨_,_,k1 b,iA nl (iA g0 (iA p0 (sC (sc_ln k2) (pB (iA nl (iA g0 (iA p0 (lC fun b _ _=>?_))))))))⟩
 rw[e ln h2];obtain⟨t2,m1,m2⟩:=Kj (j:=0) (x:=ln+1) (ln':=ln+1) (cl':=cl) (off':=off+1) k2 (by omega) rfl
 refine⟨_,_,m1 b,iA nl (iA g0 (iA p1 (lC fun b _ _=>?_)))⟩
 obtain⟨t3,n1,n2⟩:=Kj (j:=1) (x:=1) (ln':=ln+1) (cl':=1) (off':=off+1) m2 (by omega) rfl
 exact⟨_,_,n1 b,hQ t3 n2⟩
def TL(s:List Nat):yF s<=s.length:=by
 have hfirst:(xD s).length<=s.length:=Gt nD s
 unfold yF;split
 ·exact hfirst
 ·rename_i h
  unfold zF at h ⊢
  by_cases hx:s[(xD s).length]?=some 47
  ·rw[yab hx]
   have h1:=(ybc.1 hx).1
   have:=Gt nD (s.drop ((xD s).length+1))
   rw[ydj]at this;omega
  ·rw[yaa hx]at h;exact absurd rfl h
def CG{s w:List Nat}{k:Nat}(h:kF s=.tok k w):w.length<=s.length/\w=s.take w.length:=by
 cases s with
 | nil=>cases h
 | cons b r=>
  unfold kF at h;simp only at h
  split at h
  ·split at h
   ·cases h
   ·cases h;exact⟨Gt _ _,QW _ _⟩
  split at h
  ·rename_i hd
   split at h
   ·cases h
   ·cases h
    have hl:10<=(b::r).length:=by
     simp only[ybb]at hd;have:=hd.2
     unfold wH at this;simp only[ybb,decide_eq_true_eq]at this;exact this.1
    rw[yda,Nat.min_eq_left hl];exact⟨hl,rfl⟩
  split at h
  ·split at h
   ·cases h
   ·cases h
    have hl:=TL (b::r)
    rw[yda,Nat.min_eq_left hl];exact⟨hl,rfl⟩
  split at h
  ·cases h;exact⟨by simp,rfl⟩
  ·cases h
def za1(hg:rL tf)(h:lA yA.base tf t (A++xI sp src ln cl off::B))(hoff:off<src.length)(hlen:src.length<=65536)(hcl:cl<200000)(hby:∀b∈src,b<256)
  (hQ:∀t',match kF (src.drop off)with
   | .bad e=>lA yA.base tf t' (A++xI sp src ln cl off::B)->Q (.tup [.agg [.int .u8 0,.str [],.int .i64 (ln:Int),.int .i64 (cl:Int)],.int .i64 (e:Int)]) t'
   | .tok k w=>lA yA.base tf t' (A++xI sp src ln (cl+w.length) (off+w.length)::B)->Q (.tup [.agg [.int .u8 (k:Int),.str w,.int .i64 (ln:Int),.int .i64 (cl:Int)],.int .i64 0]) t'):Wc yA F 81 [.ptr sp 0] t Q:=by
 have hgt:=hg.mono h.tle
 have hx:src[off]?=some src[off]:=ybd hoff
 have hdrop:src.drop off=src[off]::src.drop (off+1):=ybl hoff
 have hb256:=hby src[off] (ycj _)
 have hdl:(src.drop off).length<=65536:=by rw[ydj];omega
 have j37:∀(k e:Nat) (w:List Nat),(e≠0->kF (src.drop off)=.bad e)->(e=0->kF (src.drop off)=.tok k w)->jp 81 37 [.ptr sp 0,.int .u8 (k:Int),.str w,.int .i64 (e:Int),.int .u8 0,.str [],.int .i64 0,.int .i64 0,.int .i64 (ln:Int),.int .i64 (cl:Int)] t Q:=by
  intro k e w h1 h2;refine j81_37 ?_
  unfold zd3;by_cases h0:e=0
  ·have ht:=h2 h0
   subst h0;refine qB (by decide) (yB ?_)
   rw[q78,nP];obtain⟨l1,_⟩:=CG ht
   rw[ydj]at l1;refine DU h (by omega) (by omega) fun t' h'=>rA rfl (rA rfl ?_)
   have:=hQ t'
   rw[ht]at this;exact this h'
  ·have ht:=h1 h0
   refine rA (by rw[sF];simp;omega) (rA rfl (rA rfl ?_))
   have:=hQ t
   rw[ht]at this;exact this h
 have hq1:gM src[off]=false->(nD src[off]=true->wH (src.drop off)=false)->wp 81 (uQ1 (src[off]:Int) (.ptr sp 0) (cellsOf [.int .i64 (ln:Int),.int .i64 (cl:Int)])) t Q:=by
  intro hl hd;unfold uQ1 uB uS uI;refine yB ?_
  rw[q65];show vE (wC yA F 65 [.int .u8 (src[off]:Int)] t) _
  rw[Ma,sA];refine cD ?_
  cases hdg:nD src[off]with
  | true=>
   have hda:=hd hdg
   refine rA rfl (yB ?_)
   rw[q79,Gv h (by omega),sA]
   refine dF (yB ?_)
   rw[q106,TJ (by omega),sA]
   have ht:kF (src.drop off)=if sI (src.drop off)then .bad 112 else .tok 2 ((src.drop off).take (yF (src.drop off))):=by
    rw[hdrop]at hda ⊢
    unfold kF;simp only[hl,hdg,hda,yay,ybq,if_false,if_true]
   refine iA rfl (dF (iA rfl (pB (jC ?_))))
   cases hb:sI (src.drop off)with
   | true=>exact j37 2 112 [] (fun _=>by rw[ht,hb];rfl) (fun e=>by cases e)
   | false=>exact j37 2 0 _ (fun e=>absurd rfl e) (fun _=>by rw[ht,hb];rfl)
  | false=>
   refine qB (by simp) (yB ?_)
   have hgp:yA.prims.get 107=some (lO Kz):=by kernel_rfl
   have hix:wC yA F 107 [.str [40,41,44,43,45,42,47,60,61],.int .u8 (src[off]:Int)] t=some (.int .i64 (match nU src[off] [40,41,44,43,45,42,47,60,61]with | some n=>.ofNat n | none=>.negSucc 0)):=by
    refine Kx hgp fun H=>?_
    show xB (Nat.blt src[off] 256) _=_
    rw[qC.2 hb256];rfl
   rw[q107];show vE (wC yA F 107 [.str [40,41,44,43,45,42,47,60,61],.int .u8 (src[off]:Int)] t) _
   rw[hix,sA];refine pB ?_
   have hsg:Ly src[off]=(nU src[off] [40,41,44,43,45,42,47,60,61]).isSome:=by rw[zcn];rfl
   have ht:kF (src.drop off)=if Ly src[off]then .tok 4 [src[off]]else .bad 110:=by
    rw[hdrop];unfold kF;simp only[hl,hdg,Bool.false_and,ybq,if_false]
   cases hi:nU src[off] [40,41,44,43,45,42,47,60,61]with
   | some n=>
    refine rA (by rw[bR];exact decide_eq_true (Int.natCast_nonneg n)) (yB ?_)
    rw[q79,Gv h (by omega),sA]
    have hs1:=Dq (s:=src.drop off) (k:=1) (by rw[ydj];omega)
    refine dF (iA hs1 (dF (jC ?_)))
    have:(src.drop off).take 1=[src[off]]:=by rw[hdrop];rfl
    rw[this];exact j37 4 0 _ (fun e=>absurd rfl e) (fun _=>by rw[ht,hsg,hi];rfl)
   | none=>
    refine qB (by decide) (jC ?_)
    exact j37 0 110 _ (fun _=>by rw[ht,hsg,hi];rfl) (fun e=>by cases e)
 refine w81 ?_
 unfold t81 fI uG uS uI uU uB;refine iA nl (iA g0 (sC (sc_pl h) (aC (X:=cellsOf [.int .i64 (ln:Int),.int .i64 (cl:Int)]) (cQ rfl) (rA rfl (iA nl (iA g1 (sC (zej h) (dF (iA nl (iA g2 (sC (Kk h) (pB (iA (fM hx) (pB (yB ?_)))))))))))))))
 rw[q36];show vE (wC yA F 36 [.int .u8 (src[off]:Int)] t) _
 rw[Ri,sA];refine cD ?_
 cases hl:gM src[off]with
 | true=>
  refine rA rfl (yB ?_)
  rw[q79,Gv h (by omega),sA]
  refine dF (yB ?_)
  rw[q103,NS (by omega),sA]
  have ht:kF (src.drop off)=if 24<(uD eI (src.drop off)).length then .bad 111 else .tok 1 (uD eI (src.drop off)):=by
   rw[hdrop];unfold kF;simp only[hl,if_true]
  refine iA rfl (dF (iA rfl (pB (jC ?_))))
  by_cases h24:24<(uD eI (src.drop off)).length
  ·rw[yab h24,yab h24]
   exact j37 1 111 [] (fun _=>by rw[ht,yab h24]) (fun e=>by cases e)
  ·rw[yaa h24,yaa h24]
   exact j37 1 0 _ (fun e=>absurd rfl e) (fun _=>by rw[ht,yaa h24])
 | false=>
  refine qB (by simp) (yB ?_)
  rw[q65];show vE (wC yA F 65 [.int .u8 (src[off]:Int)] t) _
  rw[Ma,sA];refine cD ?_
  cases hdg:nD src[off]with
  | false=>exact qB (by simp) (hq1 hl (fun h=>by rw[hdg]at h;cases h))
  | true=>
   refine rA rfl (yB ?_)
   rw[q79,Gv h (by omega),sA]
   refine dF (yB ?_)
   rw[q104,zc5,sA];refine cD ?_
   cases hda:wH (src.drop off)with
   | false=>exact qB (by simp) (hq1 hl (fun _=>hda))
   | true=>
    refine rA rfl (yB ?_)
    rw[q79,Gv h (by omega),sA]
    refine dF (yB ?_)
    rw[q105,XY hgt hda,sA];have ht:kF (src.drop off)=if rN (src.drop off)then .bad 113 else .tok 3 ((src.drop off).take 10):=by
     rw[hdrop]at hda ⊢
     unfold kF;simp only[hl,hdg,hda,Bool.and_true,ybq,if_false,if_true]
    refine iA rfl (dF (iA rfl (pB (jC ?_))))
    cases hb:rN (src.drop off)with
    | true=>exact j37 3 113 [] (fun _=>by rw[ht,hb];rfl) (fun e=>by cases e)
    | false=>exact j37 3 0 _ (fun e=>absurd rfl e) (fun _=>by rw[ht,hb];rfl)
end
end
section
variable {acc:List uC}{v:zA}
variable [eC]
def lH (l:Nat)(r:xN):kD where
 blks:=[l]
 ok:=fun _ t=>t.get l=some (.loop r)
 keep:=fun h _ k=>by rw[(k l (by simp)).1];exact h
 live:=fun h k hk=>by rw[ydd]at hk;subst hk;exact⟨_,h⟩
def el66:eJ yA 66 75 4:=⟨⟨_,jS,rfl,rfl⟩,⟨_,ty75,rfl,rfl,by decide,by decide⟩,fun y h=>by rw[ty75]at h;cases h;rfl⟩
def tok_rd{t:Tr vA}(x:uC):RD t x.d x.cs:=by
 unfold uC.d uC.cs;exact oI.2 ⟨[[_],[_],[_],[_]],rfl,dC.2 ⟨_,_,rfl,aJ.2 rfl,dC.2 ⟨_,_,rfl,pK.2 rfl,dC.2 ⟨_,_,rfl,aJ.2 rfl,dC.2 ⟨_,_,rfl,aJ.2 rfl,wF.2 rfl⟩⟩⟩⟩⟩
abbrev iO(a0 a1 a2 a6:Nat)(pl pc e:Nat)(acc:List uC)(v:zA):List kD:=
 [jB a0 none [.nilslice],jB a1 none [.int .i64 (pl:Int),.int .i64 (pc:Int)],jB a2 none [.int .i64 (e:Int)],jB a6 none [v],bB yA.base 4 (acc.map uC.d) v]
section
variable {tf t:Tr vA}{Q:sB}{sp ln cl off a0 a1 a2 a6 l:Nat}{src:List Nat}{r:xN}{L:List kD}
def lA.delLp(h:lA yA.base tf t (L++[lH l r])):lA yA.base tf (t.del l) L:=by
 have h1:=h.low l (by simp[lH])
 have h2:l∉L.flatMap kD.blks:=by
  have:=lA.notin (A:=L) (B:=[]) (o:=lH l r) h (k:=l) (by simp[lH])
  rwa [ycd]at this
 have h3:=lA.drop (A:=L) (B:=[]) (o:=lH l r) h
 rw[ycd]at h3;exact h3.other h2 h1.2 fun c hc=>by rw[Tr.get_del,yaa hc]
def lA.setLp(h:lA yA.base tf t L)(hn:t.get l=none)(hb:yA.base<=l):lA yA.base tf (t.set l (.loop r)) (L++[lH l r]):=by
 have:=lA.add (A:=L) (B:=[]) (o':=lH l r) (t':=t.set l (.loop r)) (by rwa [ycd]) (fun k hk=>by rw[Tr.get_set,yaa (fun e=>hk (by simp[lH,e]))]) (fun k hk=>by simp[lH]at hk;subst hk;exact⟨hn,hb⟩) (by show(t.set l (.loop r)).get l=_;rw[Tr.get_set,yab rfl]) (by simp[lH]) (h.tle.trans (qL hn _).1)
 exact this
def YldR (l:Nat)(r:xN)(a0 a1 a2 a6:Nat):Prop:=∀args t1 Q1,args.length=2->t1.get l=some (.loop r)->Jq yA F 22 2 ([.ptr a0 0,.ptr a1 0,.ptr a2 0,.ptr a6 0]++args) (t1.del l) (fun v t2=>t2.get l=none->∃b,v=.bool b/\Q1 v (t2.set l (.loop (eO b r))))->Wq yA F vC (yo+l) args t1 Q1
def zb6(h1:r.state=.ready)(h2:r.pending=none):eO true r=r:=by
 obtain⟨a,b,c,d,e,f,g,h,i⟩:=r
 have h1:a=.ready:=h1
 have h2:b=none:=h2
 subst h1;subst h2;rfl
def Tp  {x:uC}(hy:YldR l r a0 a1 a2 a6)(hr1:r.state=.ready)(hr2:r.pending=none)(hlen:acc.length<300000)
  (h:lA yA.base tf t (iO a0 a1 a2 a6 0 0 0 acc v++L++[lH l r])) (hQ:∀tf' t' v',aA tf tf'->lA yA.base tf' t' (iO a0 a1 a2 a6 0 0 0 (acc++[x]) v'++L++[lH l r])->Q (.bool true) t') :
  Wq yA F vC (yo+l) [.agg x.cs,.int .i64 0] t Q:=by
 have hl:t.get l=some (.loop r):=h.ok (lH l r) (by simp)
 have hlb:=(h.low l (by simp[lH])).1
 refine hy _ _ _ rfl hl ?_
 have h1:=lA.delLp h
 refine j22_2 ?_
 unfold zg9;refine rA rfl (qB (by decide) ?_)
 have lv:mA yA 66 ⟨0,t.del l⟩ (.ptr a6 0)=some v:=(lA.cel (A:=[_,_,_]) h1).load1 jS rfl rfl
 refine sC lv (lC fun b hb _=>?_)
 have hf:kK (fun i=>some (i*4,4)) [(0,.agg x.cs)] (tI [.int .u8 0,.str [],.int .i64 0,.int .i64 0] 1)=some [x.cs].flatten:=by
  rw[Hx (sz:=4) (z:=[.int .u8 0,.str [],.int .i64 0,.int .i64 0]) (v:=.agg x.cs) rfl rfl];rfl
 obtain⟨tf1,t1,k1,k2,k3,k4⟩:=litN (C:=yA) (T:=66) (el:=75) (sz:=4) (n:=1) (ds:=[x.d]) (cl:=[x.cs]) (ps:=[(0,.agg x.cs)]) jS rfl ty75 rfl rfl (by decide) hf (Ee rfl) rfl (dC.2 ⟨_,_,rfl,tok_rd x,wF.2 rfl⟩) h1 hb
 refine⟨_,_,k1,lC fun c hc hcb=>?_⟩
 obtain⟨t2,v2,m1,m2,m3⟩:=lA.append1 (A:=[jB a0 none [.nilslice],jB a1 none [.int .i64 0,.int .i64 0],jB a2 none [.int .i64 0],jB a6 none [v]]) (B:=L) (cs:=[]) el66 k3 k4 (by simp;omega) hc hcb
 refine⟨_,_,m1,lC fun q _ _=>?_⟩
 have hcell:v2.cells=[v2]:=by
  have:=m2.ok (bB yA.base 4 (acc.map uC.d++[x.d]) v2) (by simp)
  rcases this with⟨e,_⟩ | ⟨b,cl,c,e,_⟩ <;> (subst e;rfl)
 obtain⟨t3,n1,n2⟩:=lA.setCel (A:=[jB a0 none [.nilslice],jB a1 none [.int .i64 0,.int .i64 0],jB a2 none [.int .i64 0]]) (j:=0) (v:=v2) m2 jS (by rw[hcell];rfl) (by rw[hcell];show 0+1<=1;omega) (by rw[hcell,jH];simp[m3])
 refine⟨_,_,n1 q,fun hn=>⟨true,rfl,?_⟩⟩
 rw[zb6 hr1 hr2];have e:pJ [v] 0 v2.cells=[v2]:=by rw[hcell];rfl
 rw[e]at n2;refine hQ tf1 _ v2 k2 ?_
 have hs:=lA.setLp (r:=r) n2 hn hlb
 rw[show acc.map uC.d++[x.d]=(acc++[x]).map uC.d by simp]at hs
 exact hs
def zas  {e pl pc:Nat}(hy:YldR l r a0 a1 a2 a6)(he:e≠0)
  (h:lA yA.base tf t (iO a0 a1 a2 a6 0 0 0 acc v++L++[lH l r])) (hQ:∀t',lA yA.base tf t' (iO a0 a1 a2 a6 pl pc e acc v++L++[lH l (eO false r)])->Q (.bool false) t') :
  Wq yA F vC (yo+l) [.agg [.int .u8 0,.str [],.int .i64 (pl:Int),.int .i64 (pc:Int)],.int .i64 (e:Int)] t Q:=by
 have hl:t.get l=some (.loop r):=h.ok (lH l r) (by simp)
 have hlb:=(h.low l (by simp[lH])).1
 refine hy _ _ _ rfl hl ?_
 have h1:=lA.delLp h
 refine j22_2 ?_
 unfold zg9;refine rA rfl (rA (by rw[sF];simp;omega) (lC fun q _ _=>?_))
 obtain⟨t1,n1,n2⟩:=lA.setCel (A:=[]) (j:=0) (v:=.nilslice) h1 jS rfl (by show 0+1<=1;omega) rfl
 have hs:same 10 (.agg [.int .i64 (pl:Int),.int .i64 (pc:Int)]) (.agg [.int .i64 (pl:Int),.int .i64 (pc:Int)])=true:=by
  show(same 9 (.int .i64 (pl:Int)) (.int .i64 (pl:Int))&&(same 9 (.int .i64 (pc:Int)) (.int .i64 (pc:Int))&&true))=true
  rw[Pd,Pd];rfl
 refine⟨_,_,n1 q,rA hs (lC fun q _ _=>?_)⟩
 obtain⟨t2,m1,m2⟩:=lA.setCel (A:=[_]) (j:=0) (v:=.agg [.int .i64 (pl:Int),.int .i64 (pc:Int)]) n2 vV rfl (by show 0+2<=2;omega) rfl
 refine⟨_,_,m1 q,lC fun q _ _=>?_⟩
 obtain⟨t3,p1,p2⟩:=lA.setCel (A:=[_,_]) (j:=0) (v:=.int .i64 (e:Int)) m2 lY rfl (by show 0+1<=1;omega) rfl
 exact⟨_,_,p1 q,fun hn=>⟨false,rfl,hQ _ (lA.setLp p2 hn hlb)⟩⟩
def Nq{args:List zA}:gL (.func (.yld l) [] []) args=some (yo+l,args):=rfl
abbrev opB(op:Option (Nat × Nat)):Bool:=op.isSome
def za3{bx:Nat}(hy:YldR l r a0 a1 a2 a6)(hr1:r.state=.ready)(hr2:r.pending=none)(hlen:src.length<=65536)(hby:∀b∈src,b<256) :
  ∀(k off ln cl:Nat) (op:Option (Nat × Nat)) (i0 i1:Int) (acc:List uC) (v:zA) (tf t:Tr vA),src.length-off<k->off<=src.length->ln<=off+1->cl<=off+1->acc.length<=2*off->(op.isSome=true->acc.length+1<=2*off)->(∀p,op=some p->i0=(p.1:Int)/\i1=(p.2:Int)) →
   rL tf->yD tf bx none [.str src]->lA yA.base tf t (iO a0 a1 a2 a6 0 0 0 acc v++[xI sp src ln cl off]++[lH l r]) →
   (match iM k (src.drop off) ln cl op with
    | .ok m=>∀tf' t' v' ln' cl' off',aA tf tf'->lA yA.base tf' t' (iO a0 a1 a2 a6 0 0 0 (acc++m) v'++[xI sp src ln' cl' off']++[lH l r])->Q (.tup []) t'
    | .er e pl pc=>∀tf' t' v' acc' ln' cl' off',aA tf tf'->lA yA.base tf' t' (iO a0 a1 a2 a6 pl pc e acc' v'++[xI sp src ln' cl' off']++[lH l (eO false r)])->Q (.tup []) t') →
   jp 76 2 [.func (.yld l) [] [],.ptr bx 0,.ptr sp 0,.bool op.isSome,.int .i64 i0,.int .i64 i1] t Q:=by
 intro k;induction k with
 | zero=>intro off;omega
 | succ k ih=>
  intro off ln cl op i0 i1 acc v tf t hk hoff hln hcl hacc hacc2 hop hg hbx h hQ;have ho:=Kk (A:=iO a0 a1 a2 a6 0 0 0 acc v) (B:=[lH l r]) (by simpa using h)
  have hA:lA yA.base tf t (iO a0 a1 a2 a6 0 0 0 acc v++xI sp src ln cl off::[lH l r]):=by simpa using h
  have hlb:∀ {t},aA tf t->mA yA 9 ⟨0,t⟩ (.ptr bx 0)=some (.str src):=fun hl=>(yD.le hbx hl).load1 sP rfl rfl
  refine j76_2 ?_
  unfold t76_2 uI uS uU uB uG;refine iA g2 (sC ho (pB (sC (hlb h.tle) (dF ?_))))
  rw[nP];by_cases hlt:off<src.length
  ·have hx:src[off]?=some src[off]:=ybd hlt
   have hdrop:src.drop off=src[off]::src.drop (off+1):=ybl hlt
   rw[hdrop]at hQ;unfold iM at hQ;refine rA (by rw[fC];exact decide_eq_true (by omega)) (sC (hlb h.tle) (dF (iA g2 (sC ho (pB (iA (fM hx) (pB ?_)))))))
   by_cases h10:src[off]=10
   ·rw[yab h10]at hQ
    refine rA (by rw[sF,h10];rfl) ?_
    have nlg:∀(acc':List uC) (v':zA) (tf1 t1:Tr vA),acc'.length<=2*(off+1)->aA tf tf1->lA yA.base tf1 t1 (iO a0 a1 a2 a6 0 0 0 acc' v'++[xI sp src ln cl off]++[lH l r]) →
      (match iM k (src.drop (off+1)) (ln+1) 1 none with
       | .ok m=>∀tf' t' v' ln' cl' off',aA tf1 tf'->lA yA.base tf' t' (iO a0 a1 a2 a6 0 0 0 (acc'++m) v'++[xI sp src ln' cl' off']++[lH l r])->Q (.tup []) t'
       | .er e pl pc=>∀tf' t' v' acc' ln' cl' off',aA tf1 tf'->lA yA.base tf' t' (iO a0 a1 a2 a6 pl pc e acc' v'++[xI sp src ln' cl' off']++[lH l (eO false r)])->Q (.tup []) t') →
      wp 76 (.call 77 [.ptr sp 0] fun _=>.jump 2 [.func (.yld l) [] [],.ptr bx 0,.ptr sp 0,.bool false,uZ i0,uZ i1]) t1 Q:=by
     intro acc' v' tf1 t1 ha hle h1 hQ1;refine yB ?_
     rw[q77];refine TS (A:=iO a0 a1 a2 a6 0 0 0 acc' v') (B:=[lH l r]) (by simpa using h1) (by omega) (by omega) fun t2 h2=>?_
     exact jC (ih (off+1) (ln+1) 1 none i0 i1 acc' v' tf1 t2 (by omega) (by omega) (by omega) (by omega) ha (fun h=>by cases h) (fun p hp=>by cases hp) (hg.mono hle) (yD.le hbx hle) (by simpa using h2) hQ1)
    cases op with
    | some p=>
     obtain⟨e0,e1⟩:=hop p rfl
     subst e0 e1
     refine rA rfl (rA rfl (tV Nq ?_))
     refine Tp (x:=endT p) (L:=[xI sp src ln cl off]) hy hr1 hr2 (by omega) h fun tf1 t1 v1 k1 k2=>?_
     refine cD (qB (by simp) (nlg (acc++[endT p]) v1 tf1 t1 (by have:=hacc2 rfl;simp;omega) k1 k2 ?_))
     unfold LR.close at hQ;revert hQ
     generalize iM k (src.drop (off+1)) (ln+1) 1 none=res
     intro hQ
     cases res with
     | ok m=>exact fun tf' t' v' ln' cl' off' q1 q2=>hQ tf' t' v' ln' cl' off' (k1.trans q1) (by simpa using q2)
     | er e pl pc=>exact fun tf' t' v' acc' ln' cl' off' q1 q2=>hQ tf' t' v' acc' ln' cl' off' (k1.trans q1) q2
    | none=>
     refine qB (by simp) (nlg acc v tf t (by omega) (aA.refl _) h ?_)
     exact hQ
   rw[yaa h10]at hQ;refine qB (by rw[sF];simp;omega) ?_
   have blank:∀n:Nat,off+n<=src.length->0<n->(match iM k (src.drop (off+n)) ln (cl+n) op with
     | .ok m=>∀tf' t' v' ln' cl' off',aA tf tf'->lA yA.base tf' t' (iO a0 a1 a2 a6 0 0 0 (acc++m) v'++[xI sp src ln' cl' off']++[lH l r])->Q (.tup []) t'
     | .er e pl pc=>∀tf' t' v' acc' ln' cl' off',aA tf tf'->lA yA.base tf' t' (iO a0 a1 a2 a6 pl pc e acc' v'++[xI sp src ln' cl' off']++[lH l (eO false r)])->Q (.tup []) t') →
     wp 76 (.call 78 [.ptr sp 0,.int .i64 (n:Int)] fun _=>.jump 2 [.func (.yld l) [] [],.ptr bx 0,.ptr sp 0,.bool op.isSome,uZ i0,uZ i1]) t Q:=by
    intro n hn hn0 hQ1;refine yB ?_
    rw[q78];refine DU hA (by omega) (by omega) fun t2 h2=>?_
    exact jC (ih (off+n) ln (cl+n) op i0 i1 acc v tf t2 (by omega) hn (by omega) (by omega) (by omega) (fun h=>by have:=hacc2 h;omega) hop hg hbx (by simpa using h2) hQ1)
   by_cases h32:src[off]=32
   ·rw[yab (.inl h32)]at hQ
    exact rA (by rw[sF,h32];rfl) (blank 1 (by omega) (by omega) hQ)
   refine qB (by rw[sF];simp;omega) ?_
   by_cases h9:src[off]=9
   ·rw[yab (.inr h9)]at hQ
    exact rA (by rw[sF,h9];rfl) (blank 1 (by omega) (by omega) hQ)
   rw[yaa (by simp[h32,h9])]at hQ
   refine qB (by rw[sF];simp;omega) ?_
   by_cases h35:src[off]=35
   ·rw[yab h35]at hQ
    have hrl:=Gt (fun x=>decide (x≠10)) (src.drop off)
    rw[ydj]at hrl;have hr0:0<(uD (fun x=>decide (x≠10)) (src.drop off)).length:=by
     rw[hdrop];unfold uD;rw[List.takeWhile_cons,yab (by simp[h10])];simp
    refine rA (by rw[sF,h35];rfl) (yB ?_)
    rw[q79,Gv hA (by omega),sA]
    refine dF (yB ?_)
    rw[q37,zbo (by rw[ydj];omega),sA]
    refine dF ?_
    rw[nP];rw[<- hdrop]at hQ;rw[List.drop_drop]at hQ;exact blank _ (by omega) hr0 hQ
   rw[yaa h35]at hQ;refine qB (by rw[sF];simp;omega) (yB ?_)
   rw[<- hdrop]at hQ;rw[q81];refine za1 hg hA hlt hlen (by omega) hby fun t1=>?_
   cases htk:kF (src.drop off)with
   | bad e=>
    rw[htk]at hQ;intro h1;have he:e≠0:=by
     intro e0;subst e0;rw[hdrop]at htk;unfold kF at htk;simp only at htk
     repeat (split at htk<;>try (cases htk;done))
    refine iA rfl (aC (X:=cellsOf [.int .u8 0,.str [],.int .i64 (ln:Int),.int .i64 (cl:Int)]) (cQ rfl) (iA rfl (pB (rA rfl (tV Nq ?_)))))
    refine zas (pl:=ln) (pc:=cl) (L:=[xI sp src ln cl off]) hy he (by simpa using h1) fun t2 h2=>?_
    exact cD (rA rfl (hQ tf t2 v acc ln cl off (aA.refl _) h2))
   | tok kd w=>
    rw[htk]at hQ;intro h1;obtain⟨lw,_⟩:=CG htk
    rw[ydj]at lw;have hw0:0<w.length:=by
     rw[hdrop]at htk;unfold kF at htk;simp only at htk
     split at htk
     ·rename_i hl
      split at htk
      ·cases htk
      ·cases htk
       unfold uD;rw[List.takeWhile_cons,yab (by unfold eI;rw[hl];rfl)];simp
     split at htk
     ·rename_i hd
      split at htk
      ·cases htk
      ·cases htk;rw[yda,ybn];omega
     split at htk
     ·rename_i hd _
      split at htk
      ·cases htk
      ·cases htk
       have:0<yF (src[off]::src.drop (off+1)):=by
        have:0<(xD (src[off]::src.drop (off+1))).length:=by
         unfold xD uD;rw[List.takeWhile_cons,yab (by assumption)];simp
        unfold yF;split<;>omega
       rw[yda,ybn];omega
     split at htk
     ·cases htk;simp
     ·cases htk
    refine iA rfl (aC (X:=cellsOf [.int .u8 (kd:Int),.str w,.int .i64 (ln:Int),.int .i64 (cl:Int)]) (cQ rfl) (iA rfl (pB (rA rfl (tV Nq ?_)))))
    refine Tp (acc:=acc) (v:=v) (x:=⟨kd,w,ln,cl⟩) (L:=[xI sp src ln (cl+w.length) (off+w.length)]) hy hr1 hr2 (by omega) (by simpa using h1) fun tf2 t2 v2 k1 k2=>?_
    have hA2:lA yA.base tf2 t2 (iO a0 a1 a2 a6 0 0 0 (acc++[⟨kd,w,ln,cl⟩]) v2++xI sp src ln (cl+w.length) (off+w.length)::[lH l r]):=by simpa using k2
    refine cD (qB (by simp) (qB (by decide) (iA g0 (sC (sc_pl hA2) (aC (X:=cellsOf [.int .i64 (ln:Int),.int .i64 ((cl+w.length:Nat):Int)]) (cQ rfl) (rA rfl (jC ?_)))))))
    refine ih (off+w.length) ln (cl+w.length) (some (ln,cl+w.length)) _ _ (acc++[⟨kd,w,ln,cl⟩]) v2 tf2 t2 (by omega) (by omega) (by omega) (by omega) (by simp;omega) (fun _=>by simp;omega) (fun p hp=>by cases hp;exact⟨rfl,rfl⟩) (hg.mono k1) (yD.le hbx k1) k2 ?_
    have hdd:(src.drop off).drop w.length=src.drop (off+w.length):=by rw[List.drop_drop]
    simp only[hdd]at hQ;unfold LR.cons at hQ;revert hQ
    generalize iM k (src.drop (off+w.length)) ln (cl+w.length) (some (ln,cl+w.length))=res
    intro hQ
    cases res with
    | ok m=>exact fun tf' t' v' ln' cl' off' q1 q2=>hQ tf' t' v' ln' cl' off' (k1.trans q1) (by simpa using q2)
    | er e pl pc=>exact fun tf' t' v' acc' ln' cl' off' q1 q2=>hQ tf' t' v' acc' ln' cl' off' (k1.trans q1) q2
  ·have hdrop:src.drop off=[]:=ybt (by omega)
   rw[hdrop]at hQ;unfold iM at hQ;refine qB (by rw[fC];simp;omega) ?_
   cases op with
   | some p=>
    obtain⟨e0,e1⟩:=hop p rfl
    subst e0 e1
    refine rA rfl (rA rfl (tV Nq ?_))
    refine Tp (x:=endT p) (L:=[xI sp src ln cl off]) hy hr1 hr2 (by omega) h fun tf1 t1 v1 k1 k2=>?_
    exact cD (hQ tf1 t1 v1 ln cl off k1 k2)
   | none=>
    refine qB (by simp) ?_
    have:=hQ tf t v ln cl off (aA.refl _) (by simpa using h)
    exact this
end
end
section
variable [eC]
def tK (s:List Nat):LR:=if 65536<s.length then .er 3 0 0 else jV s
section
variable {t:Tr vA}{Q:sB}{s:List Nat}
def lex_ok(hg:rL t)(hby:∀b∈s,b<256)
  (hQ:match tK s with
   | .ok m=>∀t' v,aA t t'->bA t' 4 (m.map uC.d) v->Q (.tup [v,.agg [.int .i64 0,.int .i64 0],.int .i64 0]) t'
   | .er e a b=>∀t',aA t t'->Q (.tup [.nilslice,.agg [.int .i64 (a:Int),.int .i64 (b:Int)],.int .i64 (e:Int)]) t'):Wc yA F 22 [.str s] t Q:=by
 have ho:lA yA.base t t []:=⟨aA.refl _,by simp,by simp,by simp⟩
 refine w22 ?_
 unfold t22;refine lC fun a0 h0 b0=>?_
 obtain⟨t1,e1,e2,e3,e4⟩:=rS (C:=yA) jS h0
 have o1:=lA.newCel (A:=[]) (B:=[]) ho h0 b0 e2 e3 e4
 refine⟨_,_,e1,lC fun a1 h1 b1=>?_⟩
 obtain⟨t2,f1,f2,f3,f4⟩:=rS (C:=yA) vV h1
 have o2:=lA.newCel (A:=[_]) (B:=[]) o1 h1 b1 f2 f3 f4
 refine⟨_,_,f1,lC fun a2 h2 b2=>?_⟩
 obtain⟨t3,k1,k2,k3,k4⟩:=rS (C:=yA) lY h2
 have o3:=lA.newCel (A:=[_,_]) (B:=[]) o2 h2 b2 k2 k3 k4
 refine⟨_,_,k1,?_⟩
 rw[nP];have ends:∀ {tf t':Tr vA} {L:List kD} {v:zA} {a b e:Nat},zA.one v=true->lA yA.base tf t' ([jB a0 none [v],jB a1 none [.int .i64 (a:Int),.int .i64 (b:Int)],jB a2 none [.int .i64 (e:Int)]]++L) →
   mA yA 66 ⟨0,t'⟩ (.ptr a0 0)=some v/\mA yA 29 ⟨0,t'⟩ (.ptr a1 0)=some (.agg [.int .i64 (a:Int),.int .i64 (b:Int)])/\mA yA 30 ⟨0,t'⟩ (.ptr a2 0)=some (.int .i64 (e:Int)):=by
  intro tf t' L v a b e _ h;refine⟨(lA.cel (A:=[]) h).load1 jS rfl rfl,?_,(lA.cel (A:=[_,_]) h).load1 lY rfl rfl⟩
  have:=(lA.cel (A:=[_]) h).at.load (j:=0) (n:=2) vV rfl rfl (by simp)
  simpa using this
 by_cases hl:65536<s.length
 ·have hx:tK s=.er 3 0 0:=by unfold tK;rw[yab hl]
  rw[hx]at hQ;refine rA (by rw[fC];exact decide_eq_true (by omega)) (rA rfl (lC fun q _ _=>?_))
  obtain⟨t4,n1,n2⟩:=lA.setCel (A:=[]) (j:=0) (v:=.nilslice) o3 jS rfl (by show 0+1<=1;omega) rfl
  refine⟨_,_,n1 q,lC fun q _ _=>?_⟩
  obtain⟨t5,m1,m2⟩:=lA.setCel (A:=[_]) (j:=0) (v:=.agg [.int .i64 0,.int .i64 0]) n2 vV rfl (by show 0+2<=2;omega) rfl
  refine⟨_,_,m1 q,lC fun q _ _=>?_⟩
  obtain⟨t6,p1,p2⟩:=lA.setCel (A:=[_,_]) (j:=0) (v:=.int .i64 3) m2 lY rfl (by show 0+1<=1;omega) rfl
  obtain⟨l1,l2,l3⟩:=ends (L:=[]) (a:=0) (b:=0) (e:=3) (v:=.nilslice) rfl p2
  exact⟨_,_,p1 q,sC l1 (sC l2 (sC l3 (hQ t6 p2.tle)))⟩
 ·have hx:tK s=jV s:=by unfold tK;rw[yaa hl]
  rw[hx]at hQ;refine qB (by rw[fC];simp;omega) (lC fun a6 h6 b6=>?_)
  obtain⟨t4,n1,n2,n3,n4⟩:=rS (C:=yA) jS h6
  have o4:=lA.newCel (A:=[_,_,_]) (B:=[]) o3 h6 b6 n2 n3 n4
  refine⟨_,_,n1,yB ?_⟩
  rw[q49];refine w49 ?_
  unfold t49;refine lC fun bx hbx bbx=>?_
  obtain⟨t5,m1,⟨cc,m2,m2'⟩,m3,m4⟩:=Su (v:=.str s) hbx
  have o5:=o4.junk hbx m4
  have hfb:=o4.tfn hbx
  obtain⟨p1,p2⟩:=o5.froze (fun hm=>o4.fresh hbx hm) m2 hfb
  generalize htf:t.set bx (vA.cells cc (zA.str s).cells.length none)=tf1 at p1 p2
  have hcb:yD tf1 bx none [.str s]:=⟨cc,by rw[<- htf,Tr.get_set,yab rfl];rfl,m2'⟩
  refine⟨_,_,m1,?_⟩
  show pA _ _ _ (.range (kR yA) (.func (.func 76) [] [.ptr bx 0]) 2 2 [.ptr a0 0,.ptr a1 0,.ptr a2 0,.ptr a6 0] _ _) _ _
  refine⟨Nat.le_add_right _ _,fun l r hl0 hlb hr1 hr2 hy=>?_⟩
  have hra:Bj (kR yA) (.func (.func 76) [] [.ptr bx 0]) l=some (76,[.func (.yld l) [] [],.ptr bx 0]):=by
   unfold Bj;simp only[zA.asFunc,qA];have:kR yA 76=true:=by kernel_rfl
   rw[this];rfl
  rw[hra,sA];show Wq yA F vC 76 _ _ _
  rw[q76];have o6:=lA.setLp (r:=r) p1 hl0 hlb
  have hyr:YldR l r a0 a1 a2 a6:=fun args t1 Q1 h1 h2 h3=>hy args t1 Q1 h1 h2 h3
  refine w76 ?_
  unfold t76 uS;have lb:mA yA 9 ⟨0,t5.set l (.loop r)⟩ (.ptr bx 0)=some (.str s):=(yD.le hcb o6.tle).load1 sP rfl rfl
  refine rA rfl (sC lb (dF (rA rfl (lC fun sp hsp bsp=>?_))))
  obtain⟨t7,r1,r2,r3,r4⟩:=rS (C:=yA) ty145 hsp
  have o7:=lA.newCel (A:=[_,_,_,_]) (B:=[lH l r]) o6 hsp bsp r2 r3 r4
  refine⟨_,_,r1,lC fun q _ _=>?_⟩
  obtain⟨t8,s1,s2⟩:=lA.setCel (A:=[_,_,_,_]) (j:=0) (v:=.agg [.int .i64 1,.int .i64 1,.str s,.int .i64 0]) o7 ty145 rfl (by show 0+4<=4;omega) rfl
  refine⟨_,_,s1 q,jC ?_⟩
  have o8:lA yA.base tf1 t8 (iO a0 a1 a2 a6 0 0 0 [] .nilslice++[xI sp s 1 1 0]++[lH l r]):=
   lA.add (A:=[jB a0 none [.nilslice],jB a1 none [.int .i64 0,.int .i64 0],jB a2 none [.int .i64 0],jB a6 none [.nilslice]]) (B:=[xI sp s 1 1 0,lH l r]) (o':=bB yA.base 4 (([]:List uC).map uC.d) .nilslice) s2 (fun _ _=>rfl) (fun k hk=>by simp[bB,aG]at hk) (.inl ⟨rfl,rfl⟩) (by simp[bB,aG]) s2.tle
  refine za3 hyr hr1 hr2 (by omega) hby (s.length+1) 0 1 1 none 0 0 [] .nilslice tf1 t8 (by omega) (by omega) (by omega) (by omega) (by simp) (fun h=>by cases h) (fun p hp=>by cases hp) (hg.mono p2) hcb o8 ?_
  rw[ycr];unfold jV at hQ;revert hQ
  generalize iM (s.length+1) s 1 1 none=res
  intro hQ
  cases res with
  | ok m=>
   intro tf' t' v' ln' cl' off' u1 u2;rw[yah]at u2;refine .inl ⟨u2.ok (lH l r) (by simp),?_⟩
   have u3:=lA.delLp u2
   have lv:mA yA 66 ⟨0,t'.del l⟩ (.ptr a6 0)=some v':=(lA.cel (A:=[_,_,_]) u3).load1 jS rfl rfl
   have hv:eL yA.base tf' (t'.del l) 4 (m.map uC.d) v':=u3.ok (bB yA.base 4 (m.map uC.d) v') (by simp)
   have hone:zA.one v'=true:=hv.one
   have hcell:v'.cells=[v']:=by
    rcases hv with⟨e,_⟩ | ⟨b,cl,c,e,_⟩ <;> (subst e;rfl)
   refine sC lv (rA rfl (lC fun q _ _=>?_))
   obtain⟨t9,x1,x2⟩:=lA.setCel (A:=[]) (j:=0) (v:=v') u3 jS (by rw[hcell];rfl) (by rw[hcell];show 0+1<=1;omega) (by rw[hcell,jH];simp[hone])
   have e9:pJ [zA.nilslice] 0 v'.cells=[v']:=by rw[hcell];rfl
   rw[e9]at x2;refine⟨_,_,x1 q,lC fun q _ _=>?_⟩
   obtain⟨t10,y1,y2⟩:=lA.setCel (A:=[_]) (j:=0) (v:=.agg [.int .i64 0,.int .i64 0]) x2 vV rfl (by show 0+2<=2;omega) rfl
   refine⟨_,_,y1 q,lC fun q _ _=>?_⟩
   obtain⟨t11,z1,z2⟩:=lA.setCel (A:=[_,_]) (j:=0) (v:=.int .i64 0) y2 lY rfl (by show 0+1<=1;omega) rfl
   obtain⟨l1,l2,l3⟩:=ends (L:=[_,_,_]) (a:=0) (b:=0) (e:=0) hone z2
   refine⟨_,_,z1 q,sC l1 (sC l2 (sC l3 ?_))⟩
   obtain⟨tf2,w1,w2,w3⟩:=lA.freezeL (A:=[_,_,_,_]) (B:=[xI sp s ln' cl' off']) z2
   exact hQ t11 v' (p2.trans (u1.trans z2.tle)) (w3.mono w2.tle)
  | er e pl pc=>
   intro tf' t' v' acc' ln' cl' off' u1 u2;refine .inr ⟨u2.ok (lH l (eO false r)) (by simp),?_⟩
   have u3:=lA.delLp u2
   obtain⟨l1,l2,l3⟩:=ends (L:=[_,_,_]) (v:=.nilslice) rfl u3
   exact sC l1 (sC l2 (sC l3 (hQ _ (p2.trans (u1.trans u3.tle)))))
def aS(s:List Nat):Nat:=(s.reverse.takeWhile fun b=>decide (b≠10)).length
def zib(hl:s.length<1000000):wC yA F 55 [.str s,.int .u8 10] t=some (.int .i64 ((s.length:Int)-1-(aS s:Int))):=by
 have loop:∀(k:Nat),k<=s.length->aS s=(s.length-k)+aS (s.take k)->jp 87 2 [.str s,.int .u8 10,.int .i64 ((k:Int)-1)] t fun v t'=>v=.int .i64 ((s.length:Int)-1-(aS s:Int))/\t'=t:=by
  intro k;induction k with
  | zero=>
   intro hk he;refine j87_2 ?_
   unfold zg4;refine qB (by rw[bR];simp) ⟨?_,rfl⟩
   rw[List.take_zero]at he;have:aS []=0:=rfl
   congr 1
   omega
  | succ k ih=>
   intro hk he;have hx:s[k]?=some s[k]:=ybd (by omega)
   have e1:((k+1:Nat):Int)-1=(k:Int):=by omega
   refine j87_2 ?_
   unfold zg4 uU;rw[e1];refine rA (by rw[bR];exact decide_eq_true (by omega)) (iA (fM hx) (pB ?_))
   have hc:aS (s.take (k+1))=if s[k]=10 then 0 else aS (s.take k)+1:=by
    unfold aS;rw[xQ hx,List.reverse_append,List.reverse_singleton,List.singleton_append,List.takeWhile_cons];by_cases h10:s[k]=10
    ·simp[h10]
    ·simp[h10]
   by_cases h10:s[k]=10
   ·rw[yab h10]at hc
    refine rA (by rw[sF,h10];rfl) ⟨?_,rfl⟩
    congr 1
    omega
   ·rw[yaa h10]at hc
    refine qB (by rw[sF];simp;omega) (jC ?_)
    have e2:uW ((k:Int)-1)=(k:Int)-1:=iC (by omega) (by omega)
    rw[e2];exact ih (by omega) (by omega)
 refine bD.2 (w55 ?_)
 unfold t55 uI;refine yB ?_
 have h87:wC yA F 87 [.str s,.int .u8 10] t=some (.int .i64 ((s.length:Int)-1-(aS s:Int))):=by
  refine bD.2 (w87 ?_)
  unfold t87;rw[nP];have e2:uW ((s.length:Int)-1)=(s.length:Int)-1:=iC (by omega) (by omega)
  rw[e2];exact jC (loop s.length (ybk _) (by rw[List.take_length];omega))
 rw[q87,h87,sA];exact pB ⟨rfl,rfl⟩
def atL (s:List Nat):Nat:=oT 10 s+1
def atC (s:List Nat):Nat:=aS s+1
def zc6(s:List Nat):oT 10 s<=s.length:=by
 induction s with
 | nil=>exact ybk _
 | cons b s ih=>
  have e:oT 10 (b::s)=bif Nat.beq b 10 then oT 10 s+1 else oT 10 s:=rfl
  rw[e,ybn]
  cases Nat.beq b 10 with
  | true=>rw[cond_true];omega
  | false=>rw[cond_false];omega
def UU(s:List Nat):aS s<=s.length:=by
 unfold aS;have:=(List.takeWhile_sublist (fun b=>decide (b≠10)) (l:=s.reverse)).length_le
 rwa [List.length_reverse]at this
def at_pv(hl:s.length<900000){n:Nat}(hn:n<=s.length):wC yA F 25 [.str s,.int .i64 (n:Int)] t=some (.agg [.int .i64 (atL (s.take n):Int),.int .i64 (atC (s.take n):Int)]):=by
 refine bD.2 (w25 ?_)
 unfold t25 uS uI;have e0:(bif iB (Int.ofNat (zB s)) (n:Int)then Int.ofNat (zB s)else(n:Int))=(n:Int):=by
  rw[nP,fC,decide_eq_false (by omega)];rfl
 rw[e0];have hlen:(s.take n).length=n:=by rw[yda];omega
 refine qB (by rw[fC];simp) (iA (Dq hn) (dF (yB ?_)))
 have hgp:yA.prims.get 54=some (lO La):=by kernel_rfl
 have hcn:wC yA F 54 [.str (s.take n),.str [10]] t=some (.int .i64 (oT 10 (s.take n):Int)):=Kx hgp fun H=>rfl
 rw[q54,hcn,sA];refine pB (yB ?_)
 rw[q55];show vE (wC yA F 55 [.str (s.take n),.int .u8 10] t) _
 rw[zib (by omega),sA]
 have h1:=zc6 (s.take n)
 have h2:=UU (s.take n)
 have e1:tD (oT 10 (s.take n):Int)=.int .i64 (atL (s.take n):Int):=by
  show zA.int .i64 (cA .i64 ((oT 10 (s.take n):Int)+1))=_
  rw[iC (by omega) (by omega)];rfl
 have e2:uW (Int.ofNat (zB (s.take n))-(((s.take n).length:Int)-1-(aS (s.take n):Int)))=(atC (s.take n):Int):=by
  unfold uW atC;rw[nP,iC (by omega) (by omega)];omega
 refine pB (rA rfl (rA rfl ?_))
 rw[e1,e2];exact⟨rfl,rfl⟩
end
end
section
variable {y:lD}{cs':List zA}{e k':Int}
variable [eC]
def tRun (ty:Nat)(z:List zA)(cf:kG->List zA)(p0:List Nat)(p1:zA):T:=
 .heavy (nK yA ty) fun a0=>
 .heavy (nK yA 29) fun a1=>
 .heavy (nK yA 30) fun a2=>
 .call 22 [(.str p0)] fun a3=>
 .opt (yH 0 a3) fun a4=>.opt (yH 1 a3) fun a5=>.asG [(.int .i64 0),(.int .i64 0)] a5 fun X6=>
 .opt (yH 2 a3) fun a7=>.asI .i64 a7 fun n8=>.heavy (zC yA 29 a1 (.agg [(.int .i64 (X6.i 0)),(.int .i64 (X6.i 1))])) fun _=>
 .heavy (zC yA 30 a2 (.int .i64 n8)) fun _=>
 .light (fun m=>mA yA 30 ⟨0,m⟩ a2) fun a9=>.asI .i64 a9 fun n10=>.ite (!tC n10 0)
 (.light (fun m=>mA yA ty ⟨0,m⟩ a0) fun a11=>.asG z a11 fun X12=>
 .light (fun m=>mA yA 29 ⟨0,m⟩ a1) fun a13=>.asG [(.int .i64 0),(.int .i64 0)] a13 fun X14=>
 .light (fun m=>mA yA 30 ⟨0,m⟩ a2) fun a15=>.asI .i64 a15 fun n16=>.heavy (zC yA ty a0 (.agg (cf X12))) fun _=>
 .light (fun m=>mA yA 29 ⟨0,m⟩ a1) fun a17=>.ite (same 10 a17 (.agg [(.int .i64 (X14.i 0)),(.int .i64 (X14.i 1))])) (.light (fun m=>mA yA 30 ⟨0,m⟩ a2) fun a18=>.ite (same 10 a18 (.int .i64 n16)) (.heavy (zC yA 29 a1 (.agg [(.int .i64 (X14.i 0)),(.int .i64 (X14.i 1))])) fun _=>
 .light (fun m=>mA yA 30 ⟨0,m⟩ a2) fun a19=>.ite (same 10 a19 (.int .i64 n16)) (.heavy (zC yA 30 a2 (.int .i64 n16)) fun _=>
 .light (fun m=>mA yA ty ⟨0,m⟩ a0) fun a20=>.light (fun m=>mA yA 29 ⟨0,m⟩ a1) fun a21=>.light (fun m=>mA yA 30 ⟨0,m⟩ a2) fun a22=>.ret (.tup [a20,a21,a22])) .fail) .fail) .fail)
 (.call 25 [(.str p0),(.int .i64 (Int.ofNat (zB p0)))] fun a23=>
 .asG [(.int .i64 0),(.int .i64 0)] a23 fun X24=>
 .ite (fB zA.one [a4]) (.heavy (wN (.agg [a4,(.int .i64 0),(.int .i64 0),(.int .i64 (X24.i 0)),(.int .i64 (X24.i 1))])) fun a25=>
 .jump 11 [p1,a0,a1,a2,a25]) .fail)
def tR13 (ty:Nat)(z:List zA)(cf:kG->List zA)(v1 v4 v5 v6 v8:zA):T:=
 .callv v1 [v8] fun a0=>
 .asG z a0 fun X1=>
 .ite true (.heavy (zC yA ty v4 (.agg (cf X1))) fun _=>
 .heavy (zC yA 29 v5 (.agg [(.int .i64 0),(.int .i64 0)])) fun _=>
 .heavy (zC yA 30 v6 (.int .i64 0)) fun _=>
 .light (fun m=>mA yA ty ⟨0,m⟩ v4) fun a2=>.light (fun m=>mA yA 29 ⟨0,m⟩ v5) fun a3=>.light (fun m=>mA yA 30 ⟨0,m⟩ v6) fun a4=>.ret (.tup [a2,a3,a4])) .fail
def tR3 (ty:Nat)(z:List zA)(v0 v1 v2 v3:zA):T:=
 .opt ((gP .neq).f yA 20 (.tmp 8) (.const .nilIface) v3 .niliface) fun a0=>.asB a0 fun b1=>.ite b1
 (.heavy (zC yA ty v0 (.agg z)) fun _=>
 .heavy (zC yA 30 v1 (.int .i64 120)) fun _=>
 .opt (Dg yA 123 true v3) fun a2=>.opt (yH 0 a2) fun a3=>.asG [(.int .i64 0),(.int .i64 0),(.int .i64 0)] a3 fun X4=>
 .opt (yH 1 a2) fun a5=>.asB a5 fun b6=>.ite true (.ite b6
 (.heavy (zC yA 29 v2 (.agg [(.int .i64 (X4.i 0)),(.int .i64 (X4.i 1))])) fun _=>
 .ite (same 10 (.int .i64 (X4.i 2)) (.int .i64 (X4.i 2))) (.heavy (zC yA 30 v1 (.int .i64 (X4.i 2))) fun _=>
 .ret (.tup [])) .fail)
 (.ret (.tup []))) .fail)
 (.ret (.tup []))
def tRe (ty:Nat)(v4 v5 v6:zA):T:=.light (fun m=>mA yA ty ⟨0,m⟩ v4) fun a2=>.light (fun m=>mA yA 29 ⟨0,m⟩ v5) fun a3=>.light (fun m=>mA yA 30 ⟨0,m⟩ v6) fun a4=>.ret (.tup [a2,a3,a4])
def L3 (b0 b1 b2:Nat)(z:List zA)(a b k:Int):List kD:=[jB b0 none z,jB b1 none [.int .i64 a,.int .i64 b],jB b2 none [.int .i64 k]]
structure RT (T:Nat) (z:List zA) (cf:kG->List zA):Prop where
 ty:∃y,yA.tys.get T=some y/\y.desc.isAgg=true/\y.zero=z/\y.size=z.length
 one:fB zA.one z=true
 ag:jJ z (.agg z)=some (cellsOf z)
 cf:cf (cellsOf z)=z
section
variable {t tf:Tr vA}{Q:sB}{s:List Nat}{T:Nat}{z:List zA}{cf:kG->List zA}{J:kE}{A B:List kD}{b0 b1 b2:Nat}{cs:List zA}{a b k:Int}{W:kE}
def ldS (h:lA yA.base tf t (A++jB b0 none cs::B))(hT:yA.tys.get T=some y)(ha:y.desc.isAgg=true)(hs:y.size=cs.length):mA yA T ⟨0,t⟩ (.ptr b0 0)=some (.agg cs):=by
 have:=h.cel.at.load (j:=0) (n:=cs.length) hT ha hs (by omega)
 simpa using this
def stS  (h:lA yA.base tf t (A++jB b0 none cs::B))(hT:yA.tys.get T=some y)(hs:y.size=cs.length)(hl:cs'.length=cs.length)(hone:fB zA.one cs'=true):∃t',(∀q,zC yA T (.ptr b0 0) (.agg cs') ⟨q,t⟩=some (dD,⟨q,t'⟩))/\lA yA.base tf t' (A++jB b0 none cs'::B):=by
 obtain⟨t',h1,h2⟩:=lA.setCel (j:=0) (v:=.agg cs') h hT (by show cs'.length=_;omega) (by show 0+cs'.length<=_;omega) hone
 refine⟨t',h1,?_⟩
 have hov:pJ cs 0 cs'=cs':=by
  unfold pJ;rw[List.take_zero,yah,ybt (by omega),ycd]
 have h2:lA yA.base tf t' (A++jB b0 none (pJ cs 0 cs')::B):=h2
 rwa [hov]at h2
def stI (h:lA yA.base tf t (A++jB b0 none [.int .i64 k]::B)):∃t',(∀q,zC yA 30 (.ptr b0 0) (.int .i64 k') ⟨q,t⟩=some (dD,⟨q,t'⟩))/\lA yA.base tf t' (A++jB b0 none [.int .i64 k']::B):=by
 obtain⟨t',h1,h2⟩:=lA.setCel (j:=0) (v:=.int .i64 k') h lY rfl (by show 0+1<=1;omega) rfl
 exact⟨t',h1,h2⟩
def ag2{a b:Int}:jJ [.int .i64 0,.int .i64 0] (.agg [.int .i64 a,.int .i64 b])=some (cellsOf [.int .i64 a,.int .i64 b]):=cQ rfl
def zhi(hR:RT T z cf)(hl:cs.length=z.length)(h:lA yA.base tf t (A++L3 b0 b1 b2 cs a b k))(hQ:Q (.tup [.agg cs,.agg [.int .i64 a,.int .i64 b],.int .i64 k]) t):pA yA.base W J (tRe T (.ptr b0 0) (.ptr b1 0) (.ptr b2 0)) t Q:=by
 obtain⟨y,h1,h2,h3,h4⟩:=hR.ty
 unfold tRe;refine sC (ldS h h1 h2 (by omega)) (sC (v:=.agg [.int .i64 a,.int .i64 b]) ?_ (sC (v:=.int .i64 k) ?_ hQ))
 ·exact ldS (A:=A++[jB b0 none cs]) (B:=[jB b2 none [.int .i64 k]]) (by simpa[L3]using h) vV rfl rfl
 ·have h':lA yA.base tf t ((A++[jB b0 none cs,jB b1 none [.int .i64 a,.int .i64 b]])++jB b2 none [.int .i64 k]::[]):=by simpa[L3]using h
  exact h'.cel.load1 lY rfl rfl
def set0(hR:RT T z cf) (hl:cs.length=z.length)(hl':cs'.length=z.length)(hone:fB zA.one cs'=true)(h:lA yA.base tf t (A++L3 b0 b1 b2 cs a b k)):∃t',(∀q,zC yA T (.ptr b0 0) (.agg cs') ⟨q,t⟩=some (dD,⟨q,t'⟩))/\lA yA.base tf t' (A++L3 b0 b1 b2 cs' a b k):=by
 obtain⟨y,h1,h2,h3,h4⟩:=hR.ty
 exact stS h h1 (by omega) (by omega) hone
def set1{a' b':Int}(h:lA yA.base tf t (A++L3 b0 b1 b2 cs a b k)):∃t',(∀q,zC yA 29 (.ptr b1 0) (.agg [.int .i64 a',.int .i64 b']) ⟨q,t⟩=some (dD,⟨q,t'⟩))/\lA yA.base tf t' (A++L3 b0 b1 b2 cs a' b' k):=by
 obtain⟨t',h1,h2⟩:=stS (A:=A++[jB b0 none cs]) (B:=[jB b2 none [.int .i64 k]]) (cs:=[.int .i64 a,.int .i64 b]) (b0:=b1) (cs':=[.int .i64 a',.int .i64 b']) (by simpa[L3]using h) vV rfl rfl rfl
 exact⟨t',h1,by simpa[L3]using h2⟩
def set2 (h:lA yA.base tf t (A++L3 b0 b1 b2 cs a b k)):∃t',(∀q,zC yA 30 (.ptr b2 0) (.int .i64 k') ⟨q,t⟩=some (dD,⟨q,t'⟩))/\lA yA.base tf t' (A++L3 b0 b1 b2 cs a b k'):=by
 obtain⟨t',h1,h2⟩:=stI (A:=A++[jB b0 none cs,jB b1 none [.int .i64 a,.int .i64 b]]) (B:=[]) (k':=k') (by simpa[L3]using h)
 exact⟨t',h1,by simpa[L3]using h2⟩
def ld1(h:lA yA.base tf t (A++L3 b0 b1 b2 cs a b k)):mA yA 29 ⟨0,t⟩ (.ptr b1 0)=some (.agg [.int .i64 a,.int .i64 b]):=
 ldS (A:=A++[jB b0 none cs]) (B:=[jB b2 none [.int .i64 k]]) (by simpa[L3]using h) vV rfl rfl
def ld2(h:lA yA.base tf t (A++L3 b0 b1 b2 cs a b k)):mA yA 30 ⟨0,t⟩ (.ptr b2 0)=some (.int .i64 k):=by
 have h':lA yA.base tf t ((A++[jB b0 none cs,jB b1 none [.int .i64 a,.int .i64 b]])++jB b2 none [.int .i64 k]::[]):=by simpa[L3]using h
 exact h'.cel.load1 lY rfl rfl
def clo_ok(hR:RT T z cf){x y:Int}(hl:cs.length=z.length)(h:lA yA.base tf t (A++L3 b0 b1 b2 cs a b k))(hQ:∀t',lA yA.base tf t' (A++L3 b0 b1 b2 z x y e)->Q (.tup []) t') :
  pA yA.base W J (tR3 T z (.ptr b0 0) (.ptr b2 0) (.ptr b1 0) (.iface 123 (.agg [.int .i64 x,.int .i64 y,.int .i64 e]))) t Q:=by
 unfold tR3;refine iA (v:=.bool true) (by kernel_rfl) (cD (rA rfl ?_))
 obtain⟨t1,h1,h2⟩:=set0 hR (cs':=z) hl rfl hR.one h
 refine lC fun q _ _=>⟨_,_,h1 q,?_⟩
 obtain⟨t2,h3,h4⟩:=set2 (k':=120) h2
 refine lC fun q _ _=>⟨_,_,h3 q,?_⟩
 refine iA (v:=.tup [.agg [.int .i64 x,.int .i64 y,.int .i64 e],.bool true]) (by kernel_rfl) (iA (v:=.agg [.int .i64 x,.int .i64 y,.int .i64 e]) rfl (aC (X:=cellsOf [.int .i64 x,.int .i64 y,.int .i64 e]) (cQ rfl) (iA (v:=.bool true) rfl (cD (rA rfl (rA rfl ?_))))))
 obtain⟨t3,h5,h6⟩:=set1 (a':=x) (b':=y) h4
 refine lC fun q _ _=>⟨_,_,h5 q,?_⟩
 refine rA (by show same 10 (.int .i64 e) (.int .i64 e)=true;simp[same,uN,sF]) ?_
 obtain⟨t4,h7,h8⟩:=set2 (k':=e) h6
 refine lC fun q _ _=>⟨_,_,h7 q,?_⟩
 exact hQ _ h8
def zek  : same 10 (.int .i64 e) (.int .i64 e)=true:=by simp[same,uN,sF]
def same_2{a b:Int}:same 10 (.agg [.int .i64 a,.int .i64 b]) (.agg [.int .i64 a,.int .i64 b])=true:=by simp[same,same.sames,uN,sF]
def tail13{α:Type}{rd:Tr vA->α->zA->Prop}{good:Tr vA->α->List zA->Prop}{P:cI}{r:PR α}{g:Nat}(hR:RT T z cf)(hL:P.L=L3 b0 b1 b2 z 0 0 0)(h:St P tf t 0 0)
  (hQ:match r with
   | .ok x _=>∀tf' t' cs,aA tf tf'->aA tf' t'->good tf' x cs->Q (.tup [.agg cs,.agg [.int .i64 0,.int .i64 0],.int .i64 0]) t'
   | .er e i=>∀t',aA tf t'->Q (.tup [.agg z,.agg [.int .i64 ((tG P i).line:Int),.int .i64 ((tG P i).col:Int)],.int .i64 (e:Int)]) t')
  (hcall:∀Q E,Ok P rd 0 tf r Q E->dE yA F vC tF E g [.ptr P.bp 0] t Q) (hg:Nat.blt g pn=true)
  (hrd:∀tf' x v,rd tf' x v->∃cs,v=.agg cs/\cs.length=z.length/\jJ z (.agg cs)=some (cellsOf cs)/\cf (cellsOf cs)=cs/\fB zA.one cs=true/\good tf' x cs) :
  pA yA.base (dE yA F vC tF fun v t'=>pA yA.base (Wq yA F vC) noJ (tR3 T z (.ptr b0 0) (.ptr b2 0) (.ptr b1 0) v) t' fun _ t''=>pA yA.base (Wq yA F vC) noJ (tRe T (.ptr b0 0) (.ptr b1 0) (.ptr b2 0)) t'' Q) noJ
   (tR13 T z cf (.func (.func g) [] []) (.ptr b0 0) (.ptr b1 0) (.ptr b2 0) (.ptr P.bp 0)) t Q:=by
 unfold tR13;have hf:gL (.func (.func g) [] []) [.ptr P.bp 0]=some (g,[.ptr P.bp 0]):=by
  unfold gL;simp only[zA.asFunc,qA,hg,yE];rfl
 refine tV hf (hcall _ _ ?_)
 cases r with
 | er e i=>
  intro tf' t' n' d' hle hst;have ho:lA yA.base tf' t' ([nG P n' d']++L3 b0 b1 b2 z 0 0 0):=by rw[<- hL];exact hst.ob
  refine clo_ok hR rfl ho fun t2 ho2=>?_
  refine zhi hR rfl ho2 ?_
  exact hQ t2 (hle.trans ho2.tle)
 | ok x n=>
  intro tf' t' v hle hst hv;obtain⟨cs,rfl,h1,h2,h3,h4,h5⟩:=hrd _ _ _ hv
  have ho:lA yA.base tf' t' ([nG P n 0]++L3 b0 b1 b2 z 0 0 0):=by rw[<- hL];exact hst.ob
  refine aC h2 (rA rfl ?_)
  rw[h3];obtain⟨t1,k1,k2⟩:=set0 hR (cs':=cs) rfl h1 h4 ho
  refine lC fun q _ _=>⟨_,_,k1 q,?_⟩
  obtain⟨t2,k3,k4⟩:=set1 (a':=0) (b':=0) k2
  refine lC fun q _ _=>⟨_,_,k3 q,?_⟩
  obtain⟨t3,k5,k6⟩:=set2 (k':=0) k4
  refine lC fun q _ _=>⟨_,_,k5 q,?_⟩
  exact zhi hR h1 k6 (hQ tf' t3 cs hle k6.tle h5)
def zhd{p1:zA}(hR:RT T z cf)(hg:rL t)(hby:∀b∈s,b<256)(hgood:∀m,tK s=.ok m->s.length<900000/\m.length<300000/\∀x∈m,rP x)
  (hE:∀e a b,tK s=.er e a b->e≠0/\∀t',aA t t'->Q (.tup [.agg z,.agg [.int .i64 (a:Int),.int .i64 (b:Int)],.int .i64 (e:Int)]) t')
  (hT:∀m,tK s=.ok m->∀tf1 t1 P b0 b1 b2,P.tk=m->P.el=atL s->P.ec=atC s->P.L=L3 b0 b1 b2 z 0 0 0->aA t tf1->St P tf1 t1 0 0->J 11 [p1,.ptr b0 0,.ptr b1 0,.ptr b2 0,.ptr P.bp 0] t1 Q) :
  pA yA.base (Wq yA F vC) J (tRun T z cf s p1) t Q:=by
 obtain⟨y,y1,y2,y3,y4⟩:=hR.ty
 unfold tRun;refine lC fun c0 hc0 hb0=>?_
 obtain⟨u0,a1,a2,a3,a4⟩:=rS (C:=yA) y1 hc0
 refine⟨_,_,a1,?_⟩
 have o0:lA yA.base t t []:=⟨aA.refl _,by simp,by simp,by simp⟩
 have o1:=lA.newCel (A:=[]) (B:=[]) o0 hc0 hb0 a2 a3 a4
 refine lC fun c1 hc1 hb1=>?_
 obtain⟨u1,a5,a6,a7,a8⟩:=rS (C:=yA) vV hc1
 refine⟨_,_,a5,?_⟩
 have o2:=lA.newCel (A:=[jB c0 none y.zero]) (B:=[]) o1 hc1 hb1 a6 a7 a8
 refine lC fun c2 hc2 hb2=>?_
 obtain⟨u2,a9,a10,a11,a12⟩:=rS (C:=yA) lY hc2
 refine⟨_,_,a9,?_⟩
 have o3:=lA.newCel (A:=[jB c0 none y.zero,jB c1 none [.int .i64 0,.int .i64 0]]) (B:=[]) o2 hc2 hb2 a10 a11 a12
 rw[y3]at o3;have o3:lA yA.base t u2 (L3 c0 c1 c2 z 0 0 0):=o3
 refine yB ?_
 rw[q22];refine Wc.objs (R:=fun v t'=>match tK s with
   | .ok m=>∃v',v=.tup [v',.agg [.int .i64 0,.int .i64 0],.int .i64 0]/\bA t' 4 (m.map uC.d) v'
   | .er e a b=>v=.tup [.nilslice,.agg [.int .i64 (a:Int),.int .i64 (b:Int)],.int .i64 (e:Int)]) (lex_ok hg hby ?_) o3 fun v tf1 t1 hle ho hv=>?_
 ·cases hx:tK s with
  | ok m=>exact fun t' v k1 k2=>⟨k1,v,rfl,k2⟩
  | er e a b=>exact fun t' k1=>⟨k1,rfl⟩
 cases hx:tK s with
 | er e a b=>
  rw[hx]at hv;have hv:v=.tup [.nilslice,.agg [.int .i64 (a:Int),.int .i64 (b:Int)],.int .i64 (e:Int)]:=hv
  subst hv;obtain⟨hne,hQ⟩:=hE e a b hx
  refine iA (v:=.nilslice) rfl (iA (v:=.agg [.int .i64 (a:Int),.int .i64 (b:Int)]) rfl (aC ag2 (iA (v:=.int .i64 (e:Int)) rfl (pB ?_))))
  obtain⟨t2,k1,k2⟩:=set1 (A:=[]) (a':=(a:Int)) (b':=(b:Int)) ho
  refine lC fun q _ _=>⟨_,_,k1 q,?_⟩
  obtain⟨t3,k3,k4⟩:=set2 (k':=(e:Int)) k2
  refine lC fun q _ _=>⟨_,_,k3 q,?_⟩
  refine sC (ld2 k4) (pB (rA (by rw[sF];simp;omega) ?_))
  refine sC (ldS (A:=[]) k4 y1 y2 y4) (aC hR.ag (sC (ld1 k4) (aC ag2 (sC (ld2 k4) (pB ?_)))))
  rw[hR.cf];obtain⟨t4,k5,k6⟩:=set0 hR (cs':=z) rfl rfl hR.one k4
  refine lC fun q _ _=>⟨_,_,k5 q,?_⟩
  refine sC (ld1 k6) (rA same_2 (sC (ld2 k6) (rA zek ?_)))
  obtain⟨t5,k7,k8⟩:=set1 (a':=(a:Int)) (b':=(b:Int)) k6
  refine lC fun q _ _=>⟨_,_,k7 q,?_⟩
  refine sC (ld2 k8) (rA zek ?_)
  obtain⟨t6,k9,k10⟩:=set2 (k':=(e:Int)) k8
  refine lC fun q _ _=>⟨_,_,k9 q,?_⟩
  refine zhi (W:=Wq yA F vC) (J:=J) hR rfl k10 (hQ t6 (hle.trans k10.tle))
 | ok m=>
  rw[hx]at hv;obtain⟨v',rfl,hv'⟩:=hv
  obtain⟨g0,g1,g2⟩:=hgood m hx
  refine iA (v:=v') rfl (iA (v:=.agg [.int .i64 0,.int .i64 0]) rfl (aC ag2 (iA (v:=.int .i64 0) rfl (pB ?_))))
  obtain⟨t2,k1,k2⟩:=set1 (A:=[]) (a':=0) (b':=0) ho
  refine lC fun q _ _=>⟨_,_,k1 q,?_⟩
  obtain⟨t3,k3,k4⟩:=set2 (k':=0) k2
  refine lC fun q _ _=>⟨_,_,k3 q,?_⟩
  refine sC (ld2 k4) (pB (qB (by simp[sF]) (yB ?_)))
  rw[q25,nP,at_pv g0 (ybk _),sA,List.take_length]
  refine aC ag2 (rA (by
   obtain⟨cl,he,_⟩:=hv'
   rcases he with⟨rfl,_⟩ | ⟨b,off,cap,rfl,_⟩<;>rfl) ?_)
  refine lC fun c8 hc8 hb8=>?_
  obtain⟨u8,m1,m2,m3,m4⟩:=Su (v:=.agg [v',.int .i64 0,.int .i64 0,.int .i64 (atL s:Int),.int .i64 (atC s:Int)]) hc8
  refine⟨_,_,m1,jC ?_⟩
  have o8:=lA.newCel (A:=[]) (B:=L3 c0 c1 c2 z 0 0 0) k4 hc8 hb8 m2 m3 m4
  exact hT m hx tf1 u8 ⟨m,c8,v',atL s,atC s,L3 c0 c1 c2 z 0 0 0⟩ c0 c1 c2 rfl rfl rfl rfl hle ⟨hv',o8,g1,yaw _,g2,hg.mono hle⟩
end
end
section
variable {p:Nat->Bool}{r s:List Nat}{b:Nat}{m:List uC}
def Kq   : ∀b∈uD p s,p b=true:=by
 intro b hb;unfold uD at hb;induction s with
 | nil=>cases hb
 | cons x s ih=>
  rw[List.takeWhile_cons]at hb;split at hb
  ·rcases ybs.1 hb with rfl | h
   ·assumption
   ·exact ih h
  ·cases hb
def Kp   : ∃r,s=uD p s++r/\∀b r',r=b::r'->p b=false:=by
 refine⟨s.dropWhile p,(List.takeWhile_append_dropWhile).symm,fun b r' h=>?_⟩
 have:=List.head?_dropWhile_not p s
 rw[h]at this;simpa using this
def lX {a:List Nat}(h:∀b∈a,p b=true)(hr:∀b r',r=b::r'->p b=false):uD p (a++r)=a:=by
 unfold uD;induction a with
 | nil=>
  cases r with
  | nil=>rfl
  | cons b r'=>rw[yah,List.takeWhile_cons,hr b r' rfl];rfl
 | cons x a ih=>
  rw[List.cons_append,List.takeWhile_cons,h x yby,yab rfl,ih fun b hb=>h b (ybr _ hb)]
def AC (h:nD b=true):decide (b≠47)=true:=by
 unfold nD at h;simp only[ybb,decide_eq_true_eq]at h ⊢
 omega
def Rt(f q:List Nat):(f++q)[f.length]?=q.head?:=by
 rw[ybp (ybk _),Nat.sub_self]
 cases q<;>rfl
def Og(f q:List Nat):(f++q).take f.length=f:=by simp
def Sf(f q:List Nat)(b:Nat):(f++b::q).drop (f.length+1)=q:=by
 rw[List.drop_append,ybt (by omega),show f.length+1-f.length=1 from by omega];rfl
def zhr   (he:s=b::r)(hd:nD b=true)(h:sI s=false):lR (s.take (yF s))/\0<(s.take (yF s)).length:=by
 unfold sI at h;simp only[yal,decide_eq_false_iff_not]at h;obtain⟨⟨⟨⟨h1,h2⟩,h3⟩,h4⟩,h5⟩:=h
 have hf:xD s≠[]:=by
  intro e;unfold xD uD at e;rw[he,List.takeWhile_cons,hd,yab rfl]at e
  cases e
 obtain⟨q,hq1,hq2⟩:=Kp (p:=nD) (s:=s)
 have hq1:s=xD s++q:=hq1
 have hall:∀x∈xD s,nD x=true:=Kq
 have hpos:0<(xD s).length:=List.length_pos_iff.2 hf
 have hgd:s[(xD s).length]?=q.head?:=by
  have:=Rt (xD s) q
  rwa [<- hq1]at this
 by_cases hs:zF s=[]
 ·have hl:yF s=(xD s).length:=yab hs
  have ht:s.take (yF s)=xD s:=by rw[hl];have:=Og (xD s) q;rwa [<- hq1]at this
  rw[ht];have hc:qN (xD s)=xD s:=by
   have:=lX (p:=fun b=>decide (b≠47)) (a:=xD s) (r:=[]) (fun b hb=>AC (hall b hb)) (fun _ _ e=>by cases e)
   rwa [ycd]at this
  refine⟨⟨by rw[hl]at h1;omega,by rw[hc];exact hall,by rw[hc];exact hf,by rw[hc];exact h3,fun hh=>?_⟩,hpos⟩
  unfold oH at hh;have:=AC (hall 47 (by simpa using hh))
  simp at this
 ·have hl:yF s=(xD s).length+1+(zF s).length:=yaa hs
  have hsl:s[(xD s).length]?=some 47:=by
   cases Decidable.em (s[(xD s).length]?=some 47)with
   | inl h=>exact h
   | inr h=>exact absurd (yaa h) hs
  rw[hgd]at hsl;obtain⟨u,rfl⟩:∃u,q=47::u:=by
   cases q with
   | nil=>cases hsl
   | cons x u=>rw[List.head?_cons]at hsl;cases hsl;exact⟨u,rfl⟩
  have hsec:zF s=uD nD u:=by
   unfold zF;rw[yab (by rw[hgd];exact hsl)]
   congr 1
   have:=Sf (xD s) u 47
   rwa [<- hq1]at this
  obtain⟨w,hw1,_⟩:=Kp (p:=nD) (s:=u)
  rw[<- hsec]at hw1;have hall2:∀x∈zF s,nD x=true:=by rw[hsec];exact Kq
  have ht:s.take (yF s)=xD s++47::zF s:=by
   have e:s=(xD s++47::zF s)++w:=by rw[ybz,List.cons_append,<- hw1];exact hq1
   rw[hl];have:=Og (xD s++47::zF s) w
   rw[<- e]at this;rw[ybg,ybn,show(xD s).length+((zF s).length+1)=(xD s).length+1+(zF s).length from by omega]at this
   exact this
  rw[ht];have hc:qN (xD s++47::zF s)=xD s:=lX (fun b hb=>AC (hall b hb)) (fun b r' e=>by cases e;rfl)
  have hcb:zO (xD s++47::zF s)=zF s:=by
   unfold zO;rw[hc];exact Sf _ _ _
  refine⟨⟨?_,by rw[hc];exact hall,by rw[hc];exact hf,by rw[hc];exact h3,fun _=>?_⟩,by rw[ybg];omega⟩
  ·rw[hl]at h1;simp only[ybg,ybn];omega
  ·rw[hcb]
   exact⟨hs,hall2,h4,h5⟩
def Jy {k:Nat}{w:List Nat}(h:kF s=.tok k w):0<w.length/\(k=2->lR w)/\(k=3->Sl w)/\k≠5:=by
 unfold kF at h;split at h
 ·cases h
 ·rename_i b r
  split at h
  ·rename_i hb
   split at h
   ·cases h
   ·cases h
    refine⟨?_,fun e=>by omega,fun e=>by omega,by omega⟩
    unfold uD;rw[List.takeWhile_cons,yab (by unfold eI;rw[hb];rfl)]
    simp
  ·split at h
   ·rename_i hb
    simp only[ybb]at hb;split at h
    ·cases h
    ·rename_i hd
     cases h;have hl:10<=(b::r).length:=by
      have:=hb.2
      unfold wH at this;simp only[ybb,decide_eq_true_eq]at this;exact this.1
     have hlt:((b::r).take 10).length=10:=by rw[yda];omega
     refine⟨by omega,fun e=>by omega,fun _=>⟨hlt,?_,?_⟩,by omega⟩
     ·have:=hb.2
      unfold wH at this ⊢
      simp only[ybb,decide_eq_true_eq]at this ⊢
      refine⟨by omega,?_⟩
      have h2:=this.2
      rw[ycb]at h2 ⊢
      intro i hi;have hi':=List.mem_range.1 hi
      have:=h2 i hi
      rw[List.getD_eq_getElem?_getD,List.getElem?_take_of_lt hi',<- List.getD_eq_getElem?_getD];exact this
     ·have hd:rN (b::r)=false:=by simpa using hd
      unfold rN at hd;simp only[yal,decide_eq_false_iff_not]at hd
      cases hx:Ae ((b::r).take 10)with
      | none=>exact absurd hx hd.2
      | some n=>exact⟨n,rfl⟩
   ·split at h
    ·rename_i hb
     split at h
     ·cases h
     ·rename_i hn
      cases h;have hn:sI (b::r)=false:=by simpa using hn
      obtain⟨h1,h2⟩:=zhr rfl hb hn
      exact⟨h2,fun _=>h1,fun e=>by omega,by omega⟩
    ·split at h
     ·cases h
      exact⟨by simp,fun e=>by omega,fun e=>by omega,by omega⟩
     ·cases h
def bad_ne {e:Nat}(h:kF s=.bad e):e≠0:=by
 unfold kF at h;repeat' split at h
 all_goals first | (cases h;decide) | cases h
def Zz(p:Nat × Nat):rP (endT p):=⟨fun e=>(by cases e),fun e=>(by cases e)⟩
def LU{t:uC}{r:LR} (h:r.cons t=.ok m):∃m',r=.ok m'/\m=t::m':=by
 cases r with
 | ok l=>cases h;exact⟨l,rfl,rfl⟩
 | er _ _ _=>cases h
def MA{op:Option (Nat × Nat)}{r:LR} (h:LR.close op r=.ok m):∃m',r=.ok m'/\m.length<=m'.length+1/\∀x∈m,x∈m'\/rP x:=by
 cases op with
 | none=>exact⟨m,h,by omega,fun x hx=>.inl hx⟩
 | some p=>
  obtain⟨m',h1,rfl⟩:=LU h
  refine⟨m',h1,by simp,fun x hx=>?_⟩
  rcases ybs.1 hx with rfl | hx
  ·exact .inr (Zz p)
  ·exact .inl hx
def zcd:∀(k:Nat) (s:List Nat) (ln cl:Nat) (op:Option (Nat × Nat)) (m:List uC),iM k s ln cl op=.ok m->m.length<=s.length+1/\∀x∈m,rP x:=by
 intro k;induction k with
 | zero=>intro s ln cl op m h;cases h;exact⟨by simp,by simp⟩
 | succ k ih=>
  intro s ln cl op m h;unfold iM at h;split at h
  ·cases ‹_+1=0›
  ·obtain⟨m',h1,h2,h3⟩:=MA h
   cases h1;exact⟨h2,fun x hx=>(h3 x hx).elim (fun h=>by cases h) id⟩
  ·rename_i b r heq
   cases heq;split at h
   ·obtain⟨m',h1,h2,h3⟩:=MA h
    obtain⟨g1,g2⟩:=ih _ _ _ _ _ h1
    exact⟨by rw[ybn];omega,fun x hx=>(h3 x hx).elim (g2 x) id⟩
   ·split at h
    ·obtain⟨g1,g2⟩:=ih _ _ _ _ _ h
     exact⟨by rw[ybn];omega,g2⟩
    ·split at h
     ·obtain⟨g1,g2⟩:=ih _ _ _ _ _ h
      refine⟨Nat.le_trans g1 ?_,g2⟩
      rw[ydj];omega
     ·split at h
      ·cases h
      ·rename_i kd w ht
       obtain⟨m',h1,rfl⟩:=LU h
       obtain⟨g1,g2⟩:=ih _ _ _ _ _ h1
       obtain⟨f1,f2,f3,_⟩:=Jy ht
       rw[ydj]at g1;refine⟨by simp only[ybn]at g1 ⊢;omega,fun x hx=>?_⟩
       rcases ybs.1 hx with rfl | hx
       ·exact⟨f2,f3⟩
       ·exact g2 x hx
def zh6:∀(k:Nat) (s:List Nat) (ln cl:Nat) (op:Option (Nat × Nat)) (e a b:Nat),iM k s ln cl op=.er e a b->e≠0:=by
 have hcons:∀(t:uC) (r:LR) (e a b:Nat),r.cons t=.er e a b->r=.er e a b:=by
  intro t r e a b h
  cases r with
  | ok l=>cases h
  | er _ _ _=>cases h;rfl
 have hclose:∀(op:Option (Nat × Nat)) (r:LR) (e a b:Nat),LR.close op r=.er e a b->r=.er e a b:=by
  intro op r e a b h
  cases op with
  | none=>exact h
  | some p=>exact hcons _ _ _ _ _ h
 intro k;induction k with
 | zero=>intro s ln cl op e a b h;cases h
 | succ k ih=>
  intro s ln cl op e a b h;unfold iM at h;split at h
  ·cases ‹_+1=0›
  ·have:=hclose _ _ _ _ _ h;cases this
  ·rename_i x r heq
   cases heq;split at h
   ·exact ih _ _ _ _ _ _ _ (hclose _ _ _ _ _ h)
   ·split at h
    ·exact ih _ _ _ _ _ _ _ h
    ·split at h
     ·exact ih _ _ _ _ _ _ _ h
     ·split at h
      ·rename_i ht
       cases h;exact bad_ne ht
      ·exact ih _ _ _ _ _ _ _ (hcons _ _ _ _ _ h)
end
section
variable {m:List uC}{a b e:Nat}{α:Type}
variable [eC]
def t67_3_eq(v0 v1 v2 v3:zA):t67_3 v0 v1 v2 v3=tR3 50 zE v0 v1 v2 v3:=rfl
def t40_e_eq(v4 v5 v6:zA):t40_e v4 v5 v6=tRe 50 v4 v5 v6:=rfl
def t70_3_eq(v0 v1 v2 v3:zA):t70_3 v0 v1 v2 v3=tR3 47 zV v0 v1 v2 v3:=rfl
def t45_e_eq(v4 v5 v6:zA):t45_e v4 v5 v6=tRe 47 v4 v5 v6:=rfl
def Gl (m:List uC)(s:List Nat)(i:Nat):uC:=(m[i]?).getD ⟨0,[],atL s,atC s⟩
def Lm{s:List Nat} (h:tK s=.ok m):s.length<900000/\m.length<300000/\∀x∈m,rP x:=by
 unfold tK at h;split at h
 ·cases h
 ·obtain⟨h1,h2⟩:=zcd _ _ _ _ _ _ h
  exact⟨by omega,by omega,h2⟩
def HC{s:List Nat} (h:tK s=.er e a b):e≠0:=by
 unfold tK at h;split at h
 ·cases h;decide
 ·exact zh6 _ _ _ _ _ _ _ _ h
inductive RP (α:Type) where
 | ok (x:α)
 | er (e l c:Nat)
def mI {α:Type}(top:List uC->PR α)(s:List Nat):RP α:=
 match tK s with
 | .er e a b=>.er e a b
 | .ok m=>match top m with
  | .ok x _=>.ok x
  | .er e i=>.er e (Gl m s i).line (Gl m s i).col
def Pl {top:List uC->PR α}{s:List Nat} (h:tK s=.ok m):mI top s=match top m with | .ok x _=>.ok x | .er e i=>.er e (Gl m s i).line (Gl m s i).col:=by unfold mI;rw[h]
def Wj {top:List uC->PR α}{s:List Nat} (h:tK s=.er e a b):mI top s=.er e a b:=by unfold mI;rw[h]
end
end Go.Proofs
