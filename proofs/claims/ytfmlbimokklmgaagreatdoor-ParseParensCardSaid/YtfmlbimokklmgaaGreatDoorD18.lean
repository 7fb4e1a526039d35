/- The calendar: a date's text as a day. -/
import Derived.Test.YtfmlbimokklmgaaGreatDoorD17
set_option linter.all false
noncomputable section
set_option maxRecDepth 100000
namespace Go.Proofs
open Go Go.Am
variable {a b i m y:Nat}{s:List Nat}
variable [yD]
section
variable {t:Tr uA}{Q:jB}
def zji(y:Nat):iC yA F 152 [.int .i64 (y:Int)] t=some (.bool (Mj y)):=by
 have e:∀k:Nat,Int.tmod (y:Int) (k:Int)=((y%k:Nat):Int):=fun k=>by rw[Int.tmod_eq_emod_of_nonneg (by omega)];omega
 refine bE.2 (w152 ?_)
 unfold t152 qL uD;rw[show(4:Int)=((4:Nat):Int) from rfl,show(100:Int)=((100:Nat):Int) from rfl,show(400:Int)=((400:Nat):Int) from rfl,e,e,e]
 unfold Mj;by_cases h4:y%4=0
 ·refine rA (by rw[oF];exact decide_eq_true (by omega)) ?_
  by_cases h1:y%100=0
  ·refine oB (by rw[oF];simp;omega) ⟨?_,rfl⟩
   rw[oF];congr 1
   by_cases h5:y%400=0
   ·simp[h4,h1,h5]
   ·simp[h4,h1,h5];omega
  ·refine rA (by rw[oF];simp;omega) ⟨?_,rfl⟩
   simp[h4,h1]
 ·refine oB (by rw[oF];simp;omega) ⟨?_,rfl⟩
  simp[h4]
def IJ (h:y<1000000):iC yA F 153 [.int .i64 (y:Int)] t=some (.int .i64 (sR y:Int)):=by
 have e:∀k:Nat,Int.tdiv (y:Int) (k:Int)=((y / k:Nat):Int):=fun k=>by rw[Int.tdiv_eq_ediv_of_nonneg (by omega)];omega
 refine bE.2 (w153 ?_)
 unfold t153 uW;rw[show(4:Int)=((4:Nat):Int) from rfl,show(100:Int)=((100:Nat):Int) from rfl,show(400:Int)=((400:Nat):Int) from rfl,e,e,e]
 have h1:y / 100<=y / 4:=Nat.div_le_div_left (by omega) (by omega)
 have h2:y / 4<=y:=Nat.div_le_self _ _
 have h3:y / 400<=y:=Nat.div_le_self _ _
 simp (disch:=omega) only[aC]
 refine⟨?_,rfl⟩
 unfold sR;congr 1
 omega
def zjh(hg:aJ t) (hi:i<12):mC yA 219 (.ptr 2 0) (.int .i64 (i:Int))=some (.ptr 2 (0+i))/\fA yA 3 ⟨0,t⟩ (.ptr 2 (0+i))=some (.int .i64 ((Mh.getD i 0:Nat):Int)):=by
 refine⟨?_,hg.2.2.load1 wP rfl ?_⟩
 ·unfold mC
  rw[ty219,oA];have e:(zA.int .i64 (i:Int)).asNat=some i:=rfl
  rw[e,oA];simp only[zA.asSlice,zA.asPtr,fE.asArr,oA];rw[wP,oA,kC.2 hi,lE,Nat.mul_one]
 ·have:Mh[i]?=some (Mh.getD i 0):=by
   rw[List.getD_eq_getElem?_getD,ybd (by show i<12;exact hi)];rfl
  rw[ybu,this];rfl
def zfz(hg:aJ t)(y m:Nat)(hm:m<1000000):iC yA F 136 [.int .i64 (y:Int),.int .i64 (m:Int)] t=some (.int .i64 (oP y m:Int)):=by
 refine bE.2 (w136 ?_)
 unfold t136 uB;by_cases h1:m<1
 ·refine rA (by rw[fC];exact decide_eq_true (by omega)) ⟨?_,rfl⟩
  unfold oP;rw[yab (.inl h1)];rfl
 refine oB (by rw[fC];simp;omega) ?_
 by_cases h2:12<m
 ·refine rA (by rw[fC];exact decide_eq_true (by omega)) ⟨?_,rfl⟩
  unfold oP;rw[yab (.inr h2)];rfl
 refine oB (by rw[fC];simp;omega) ?_
 have tail:¬ (m=2/\Mj y=true)->wp 136 (uQ13 (m:Int)) t fun v' t'=>v'=.int .i64 (oP y m:Int)/\t'=t:=by
  intro hn;unfold uQ13 uI;have e:uW ((m:Int)-1)=((m-1:Nat):Int):=by
   show bA .i64 ((m:Int)-1)=_
   rw[aC (by omega) (by omega)];omega
  obtain⟨k1,k2⟩:=zjh hg (i:=m-1) (by omega)
  rw[e];refine mA k1 (vC k2 (kB ⟨?_,rfl⟩))
  unfold oP;rw[yaa (by omega),yaa hn]
 by_cases h3:m=2
 ·refine rA (by rw[oF];exact decide_eq_true (by omega)) (tB ?_)
  rw[q152,zji,iA];refine vE ?_
  cases hl:Mj y with
  | true=>
   refine rA rfl ⟨?_,rfl⟩
   unfold oP;rw[yaa (by omega),yab ⟨h3,hl⟩];rfl
  | false=>exact oB (by simp) (tail (by rw[hl];simp))
 ·exact oB (by rw[oF];simp;omega) (tail fun h=>h3 h.1)
def Yq(y m:Nat):oP y m<=31:=by
 unfold oP;split
 ·omega
 split
 ·omega
 ·rename_i h1 _
  have:m-1<12:=by omega
  generalize m-1=k at this
  match k,this with
  | 0,_ | 1,_ | 2,_ | 3,_ | 4,_ | 5,_ | 6,_ | 7,_ | 8,_ | 9,_ | 10,_ | 11,_=>decide
def DQ(y:Nat):∀k,Ha y k<=31*k:=by
 intro k;induction k with
 | zero=>exact ybk _
 | succ k ih=>unfold Ha;have:=Yq y (k+1);omega
def IK(y:Nat):sR y<=y+y:=by unfold sR;omega
def WF (h:a<=b)(hb:b<10000):sR a<=sR b:=by unfold sR;omega
def Wh(hg:aJ t) (hm:m<50000):iC yA F 137 [.int .i64 (m:Int)] t=some (.int .i64 (zR m:Int)):=by
 have ed:Int.tdiv (m:Int) 12=((m / 12:Nat):Int):=by rw[Int.tdiv_eq_ediv_of_nonneg (by omega)];omega
 have em:Int.tmod (m:Int) 12=((m%12:Nat):Int):=by rw[Int.tmod_eq_emod_of_nonneg (by omega)];omega
 refine bE.2 (w137 ?_)
 unfold t137 uI uW;rw[ed];have hq:m / 12<5000:=by omega
 have e1:bA .i64 (bA .i64 (1900+bA .i64 ((m / 12:Nat):Int))-1)=((1899+m / 12:Nat):Int):=by
  simp (disch:=omega) only[aC];omega
 have e2:bA .i64 (1900+bA .i64 ((m / 12:Nat):Int))=((1900+m / 12:Nat):Int):=by
  simp (disch:=omega) only[aC];omega
 have hl1:=IK (1899+m / 12)
 have hl2:=WF (a:=1899) (b:=1899+m / 12) (by omega) (by omega)
 refine tB ?_
 rw[e1,q153,IJ (by omega),iA]
 refine kB (tB ?_)
 rw[q153,show(1899:Int)=((1899:Nat):Int) from rfl,IJ (by omega),iA,e2]
 refine kB (zD ?_)
 have e3:bA .i64 (bA .i64 (bA .i64 (365*bA .i64 (((1900+m / 12:Nat):Int)-1900))+(sR (1899+m / 12):Int))-(sR 1899:Int))=((365*(m / 12)+sR (1899+m / 12)-sR 1899:Nat):Int):=by
  simp (disch:=omega) only[aC];omega
 rw[e3];have loop:∀(k i a:Nat),i+k=m%12->a=365*(m / 12)+sR (1899+m / 12)-sR 1899+Ha (1900+m / 12) i->jp 137 2 [.int .i64 (m:Int),.int .i64 ((1900+m / 12:Nat):Int),.int .i64 (a:Int),.int .i64 ((i+1:Nat):Int)] t fun v' t'=>v'=.int .i64 (zR m:Int)/\t'=t:=by
  intro k;induction k with
  | zero=>
   intro i a hi ha;refine zgl ?_
   unfold Vt;rw[em];refine oB (by rw[fS];simp;omega) ⟨?_,rfl⟩
   subst ha;unfold zR;rw[show i=m%12 by omega]
  | succ k ih=>
   intro i a hi ha;have hs:=DQ (1900+m / 12) i
   have hle:=Yq (1900+m / 12) (i+1)
   refine zgl ?_
   unfold Vt uI;rw[em];refine rA (by rw[fS];exact decide_eq_true (by omega)) (tB ?_)
   rw[q136];show qE (iC yA F 136 [.int .i64 ((1900+m / 12:Nat):Int),.int .i64 ((i+1:Nat):Int)] t) _
   rw[zfz hg _ _ (by omega),iA]
   refine kB (zD ?_)
   have e4:kD ((i+1:Nat):Int)=.int .i64 ((i+1+1:Nat):Int):=by
    show zA.int .i64 (bA .i64 (((i+1:Nat):Int)+1))=_
    rw[aC (by omega) (by omega)];rfl
   have e5:uW ((a:Int)+(oP (1900+m / 12) (i+1):Int))=((a+oP (1900+m / 12) (i+1):Nat):Int):=by
    show bA .i64 _=_
    rw[aC (by omega) (by omega)];omega
   rw[e4,e5];exact ih (i+1) _ (by omega) (by show a+oP (1900+m / 12) (i+1)=_+(Ha (1900+m / 12) i+oP (1900+m / 12) (i+1));omega)
 exact loop (m%12) 0 _ (by omega) rfl
def day_ok(hg:aJ t){d:Nat}(hy:y<10000)(hm:m<1000)(hd:d<1000):iC yA F 119 [.int .i64 (y:Int),.int .i64 (m:Int),.int .i64 (d:Int)] t=some (.tup [.int .i64 (((Fy y m d).getD 0:Nat):Int),.int .i64 (if (Fy y m d).isSome then 0 else 2)]):=by
 refine bE.2 (w119 ?_)
 unfold t119 uI uB;have bad:∀h:y<1900\/2079<y\/d<1\/oP y m<d,Fy y m d=none:=fun h=>by unfold Fy;rw[yab h]
 by_cases h1:y<1900
 ·rw[bad (.inl h1)]
  exact rA (by rw[fC];exact decide_eq_true (by omega)) ⟨rfl,rfl⟩
 refine oB (by rw[fC];simp;omega) ?_
 by_cases h2:2079<y
 ·rw[bad (.inr (.inl h2))]
  exact rA (by rw[fC];exact decide_eq_true (by omega)) ⟨rfl,rfl⟩
 refine oB (by rw[fC];simp;omega) ?_
 by_cases h3:d<1
 ·rw[bad (.inr (.inr (.inl h3)))]
  exact rA (by rw[fC];exact decide_eq_true (by omega)) ⟨rfl,rfl⟩
 refine oB (by rw[fC];simp;omega) (tB ?_)
 rw[q136];show qE (iC yA F 136 [.int .i64 (y:Int),.int .i64 (m:Int)] t) _
 rw[zfz hg _ _ (by omega),iA]
 refine kB ?_
 by_cases h4:oP y m<d
 ·rw[bad (.inr (.inr (.inr h4)))]
  exact rA (by rw[fC];exact decide_eq_true (by omega)) ⟨rfl,rfl⟩
 refine oB (by rw[fC];simp;omega) (tB ?_)
 have hm1:1<=m:=by
  rcases yau m 1 with h | h
  ·exfalso;apply h4;unfold oP;rw[yab (.inl h)];omega
  ·exact h
 have hs31:=Yq y m
 have e1:uW (uW (uW (12*uW ((y:Int)-1900))+(m:Int))-1)=((12*(y-1900)+m-1:Nat):Int):=by
  unfold uW;simp (disch:=omega) only[aC];omega
 rw[q137];show qE (iC yA F 137 [.int .i64 (uW (uW (uW (12*uW ((y:Int)-1900))+(m:Int))-1))] t) _
 rw[e1,Wh hg (by omega),iA]
 refine kB (tB ?_)
 have hst:zR (12*(y-1900)+m-1)<1000000:=by
  unfold zR;have:=DQ (1900+(12*(y-1900)+m-1) / 12) ((12*(y-1900)+m-1)%12)
  have:=IK (1899+(12*(y-1900)+m-1) / 12)
  omega
 have e2:uW (uW ((zR (12*(y-1900)+m-1):Int)+(d:Int))-1)=((zR (12*(y-1900)+m-1)+d-1:Nat):Int):=by
  unfold uW;simp (disch:=omega) only[aC];omega
 rw[e2];have hn:Fy y m d=if zR (12*(y-1900)+m-1)+d-1<65536 then some (zR (12*(y-1900)+m-1)+d-1)else none:=by
  unfold Fy;rw[yaa (by omega)]
 have hisd:iC yA F 138 [.int .i64 ((zR (12*(y-1900)+m-1)+d-1:Nat):Int)] t=some (.bool (decide (zR (12*(y-1900)+m-1)+d-1<65536))):=by
  refine bE.2 (w138 ?_)
  unfold t138;generalize zR (12*(y-1900)+m-1)+d-1=z
  refine rA (by rw[fS];exact decide_eq_true (by omega)) ⟨?_,rfl⟩
  have hz:oC (z:Int) 65536=decide (z<65536):=by
   rw[fC];exact decide_eq_decide.2 (by omega)
  rw[hz]
 rw[q138,hisd,iA,hn];refine vE ?_
 by_cases h5:zR (12*(y-1900)+m-1)+d-1<65536
 ·rw[yab h5,decide_eq_true h5]
  exact oB (by simp) ⟨rfl,rfl⟩
 ·rw[yaa h5,decide_eq_false h5]
  exact rA rfl ⟨rfl,rfl⟩
def UW{ls:List (List Nat)}{v:zA}(hv:xB t 1 (ls.map D.str) v)(hl:ls.length<100)(hd:∀s∈ls,s.length<=9/\∀b∈s,iD b=true)(hQ:∀t' b,yB t t'->nG t' b .i64 (ls.map mD)->Q (.tup [.slice b 0 ls.length ls.length,.bool true]) t'):Wc yA F 118 [v] t Q:=by
 have hlen:=hv.len
 rw[ybf]at hlen;refine w118 ?_
 unfold t118 uI;refine mA hlen (kB (bC fun b hb hbase=>?_))
 obtain⟨t1,e1,e2,e3,e4⟩:=Fdzx (C:=yA) (T:=94) (k:=.i64) (n:=ls.length) ty94 rfl wP rfl rfl (by decide) (by omega) hb
 refine⟨_,_,e1,mA hlen (kB (zD ?_))⟩
 have loop:∀(k i:Nat) (row:List Nat) (t1:Tr uA),i+k=ls.length->row=(ls.take i).map mD++List.replicate k 0->yB t t1->nG t1 b .i64 row->jp 118 2 [.slice b 0 ls.length ls.length,v,.int .i64 (ls.length:Int),.int .i64 (i:Int)] t1 Q:=by
  intro k;induction k with
  | zero=>
   intro i row t1 hi hr hle ho;refine zgo ?_
   unfold Vw;refine oB (by rw[fC];simp;omega) ?_
   rw[show i=ls.length by omega,List.take_length,List.replicate_zero,ycd]at hr;subst hr;exact hQ t1 b hle ho
  | succ k ih=>
   intro i row t1 hi hr hle ho;refine zgo ?_
   unfold Vw uS;have hx:ls[i]?=some ls[i]:=ybd (by omega)
   have hxd:(ls.map D.str)[i]?=some (D.str ls[i]):=by rw[ybu,hx];rfl
   obtain⟨b',o',cs,h1,h2,_,_,h3⟩:=sl93.at (fun _=>rfl) (hv.mono hle) hxd
   have e:=eL.1 h3
   subst e;refine rA (by rw[fC];exact decide_eq_true (by omega)) (mA h1 (vC h2 (vF (zD ?_))))
   have ll:(Int.ofNat (wB ls[i]))=(ls[i].length:Int):=by rw[jD];rfl
   rw[ll];obtain⟨hs9,hsd⟩:=hd ls[i] (ycj _)
   have inner:∀(q j:Nat) (t2:Tr uA),j+q=ls[i].length->yB t t2->nG t2 b .i64 ((ls.take i).map mD++mD (ls[i].take j)::List.replicate k 0)->jp 118 6 [.slice b 0 ls.length ls.length,.int .i64 (i:Int),.str ls[i],v,.int .i64 (ls.length:Int),.int .i64 (i:Int),.int .i64 (ls[i].length:Int),.int .i64 (j:Int)] t2 Q:=by
    intro q;induction q with
    | zero=>
     intro j t2 hj hle2 ho2;refine zgn ?_
     unfold Vv;refine oB (by rw[fC];simp;omega) (zD ?_)
     have e4:kD (i:Int)=.int .i64 ((i+1:Nat):Int):=by
      show zA.int .i64 (bA .i64 ((i:Int)+1))=_
      rw[aC (by omega) (by omega)];rfl
     rw[e4];refine ih (i+1) _ t2 (by omega) ?_ hle2 ho2
     have htk:ls.take (i+1)=ls.take i++[ls[i]]:=by rw[ydg,hx];rfl
     rw[htk,List.map_append,show j=ls[i].length by omega,List.take_length];simp
    | succ q ih2=>
     intro j t2 hj hle2 ho2;have hy:ls[i][j]?=some ls[i][j]:=ybd (by omega)
     have hyd:48<=ls[i][j]/\ls[i][j]<=57:=by have:=hsd ls[i][j] (ycj _);unfold iD at this;simpa using this
     refine zgn ?_
     unfold Vv uU uI;have hla:((ls.take i).map mD).length=i:=by simp;omega
     have hget:((ls.take i).map mD++mD (ls[i].take j)::List.replicate k 0)[i]?=some (mD (ls[i].take j)):=by
      rw[ybp (by omega),hla,Nat.sub_self];rfl
     have ia:=Bn (C:=yA) (b:=b) sl94 (off:=0) (n:=ls.length) (cap:=ls.length) (i:=i) (by omega)
     rw[ybw,Nat.mul_one]at ia;have hb9:mD (ls[i].take j)<1000000000:=by
      have h1:=Fx (s:=ls[i].take j) fun x hx=>hsd x (List.mem_of_mem_take hx)
      have h2:10^(ls[i].take j).length<=10^9:=yao (by omega) (by rw[yda];omega)
      have:(10:Nat)^9=1000000000:=by decide
      omega
     refine rA (by rw[fC];exact decide_eq_true (by omega)) (mA (vN hy) (kB (oB (by rw[fC];simp;omega) (mA (vN hy) (kB (oB (by rw[fC];simp;omega) (mA ia (vC (ho2.load hget wP rfl) (kB (mA (vN hy) (kB (mA ia (bC fun n _ _=>?_)))))))))))))
     have ev:uW (uW (10*((mD (ls[i].take j):Nat):Int))+uW (bA .u8 ((ls[i][j]:Int)-48)))=((mD (ls[i].take (j+1)):Nat):Int):=by
      unfold uW;rw[Ow (by omega) (by omega),bQ hy,AT]
      simp (disch:=omega) only[aC]
      omega
     obtain⟨t3,g1,g2,g3⟩:=ho2.store hbase (j:=i) (by simp;omega) (mD (ls[i].take (j+1))) wP rfl
     rw[ev];refine⟨_,_,g1 n,zD ?_⟩
     have e4:kD (j:Int)=.int .i64 ((j+1:Nat):Int):=by
      show zA.int .i64 (bA .i64 ((j:Int)+1))=_
      rw[aC (by omega) (by omega)];rfl
     rw[e4];refine ih2 (j+1) t3 (by omega) (hle2.off hb g3) ?_
     have:((ls.take i).map mD++mD (ls[i].take j)::List.replicate k 0).set i (mD (ls[i].take (j+1)))=(ls.take i).map mD++mD (ls[i].take (j+1))::List.replicate k 0:=EJ hla
     rw[this]at g2;exact g2
   refine inner ls[i].length 0 t1 (by omega) hle ?_
   rw[hr,List.replicate_succ]at ho;exact ho
 refine loop ls.length 0 _ t1 (by omega) ?_ e3 e2
 simp
def RQ  (h:a<=b)(hb:b<=s.length):bF yA 9 lN (.str s) (some (.int .i64 (a:Int))) (some (.int .i64 (b:Int)))=some (.str ((s.take b).drop a)):=by
 unfold bF qO;rw[jN,oA];simp only[zA.asStr];rw[show fE.isString .string=true from rfl,lE];unfold Kz jR Bc rX;have e:∀n:Nat,iN (n:Int)=some n:=fun _=>rfl
 simp only[oA,zA.asNat,zA.asInt,e,jD,kE.2 hb,kE.2 h,lE,kS,rR]
def AU (h:qH s=true) (hi:i<10):∃b,s[i]?=some b/\yL i b=true:=by
 unfold qH at h;simp only[ybb,decide_eq_true_eq,ycb,List.mem_range]at h;have h1:=h.2 i hi
 refine⟨s[i]'(by omega),ybd (by omega),?_⟩
 rw[List.getD_eq_getElem?_getD,ybd (by omega)]at h1
 exact h1
def AV (h:qH s=true) (hb:b<=10)(h4:¬ (a<=4/\4<b))(h7:¬ (a<=7/\7<b)):∀x∈(s.take b).drop a,iD x=true:=by
 intro x hx;obtain⟨j,hj⟩:=List.getElem?_of_mem hx
 rw[yde,ydf]at hj;split at hj
 ·rename_i hlt
  obtain⟨y,h1,h2⟩:=AU h (i:=a+j) (by omega)
  rw[h1]at hj
  cases hj;unfold yL at h2;rw[yaa (by omega)]at h2
  exact h2
 ·cases hj
def MM(hg:aJ t) (hs:s.length=10)(hd:qH s=true):iC yA F 97 [.str s] t=some (.tup [.int .i64 (((tX s).getD 0:Nat):Int),.int .i64 (if (tX s).isSome then 0 else 2)]):=by
 refine Ce (w97 ?_)
 unfold t97 uU uS uB uI;have ll:(Int.ofNat (wB s))=10:=by rw[jD,hs];rfl
 rw[ll];obtain⟨x4,g4,k4⟩:=AU hd (i:=4) (by omega)
 obtain⟨x7,g7,k7⟩:=AU hd (i:=7) (by omega)
 have k4:x4=45:=by simpa[yL]using k4
 have k7:x7=45:=by simpa[yL]using k7
 subst k4 k7
 have i4:=vN g4
 have i7:=vN g7
 have s0:=Ek (s:=s) (k:=4) (by omega)
 have s5:=RQ (s:=s) (a:=5) (b:=7) (by omega) (by omega)
 have s8:=Px (s:=s) (k:=8) (by omega)
 refine oB (by decide) (mA i4 (kB (oB (by decide) (mA i7 (kB (oB (by decide) (mA s0 (vF (mA s5 (vF (mA s8 (vF (bC fun b hb hbase=>?_)))))))))))))
 obtain⟨t1,g1,g2,g3,g5⟩:=Ff (C:=yA) (T:=93) (el:=9) (sz:=1) (n:=3) (cl:=[[.str (s.take 4)],[.str ((s.take 7).drop 5)],[.str (s.drop 8)]]) (ps:=[(0,.str (s.take 4)),(1,.str ((s.take 7).drop 5)),(2,.str (s.drop 8))]) ty93 rfl jN rfl rfl (by decide) rfl (fun i cs hi=>by
  match i,hi with
  | 0,hi=>cases hi;rfl
  | 1,hi=>cases hi;rfl
  | 2,hi=>cases hi;rfl) rfl hb
 have hr:xB t1 1 ([s.take 4,(s.take 7).drop 5,s.drop 8].map D.str) (.slice b 0 3 3):=⟨_,g2,rD.2 ⟨_,_,rfl,eL.2 rfl,rD.2 ⟨_,_,rfl,eL.2 rfl,rD.2 ⟨_,_,rfl,eL.2 rfl,cF.2 rfl⟩⟩⟩⟩
 have d1:∀x∈s.take 4,iD x=true:=by
  have:=AV hd (a:=0) (b:=4) (by omega) (by omega) (by omega)
  simpa using this
 have d2:∀x∈(s.take 7).drop 5,iD x=true:=AV hd (by omega) (by omega) (by omega)
 have d3:∀x∈s.drop 8,iD x=true:=by
  have:=AV hd (a:=8) (b:=10) (by omega) (by omega) (by omega)
  rwa [yca (by omega)]at this
 refine⟨_,_,g1,tB ?_⟩
 rw[q118];refine UW hr (by simp) (fun x hx=>?_) fun t2 b2 h1 h2=>?_
 ·simp only[ybs,List.mem_nil_iff,or_false]at hx
  rcases hx with rfl | rfl | rfl
  ·exact⟨by simp;omega,d1⟩
  ·exact⟨by simp;omega,d2⟩
  ·exact⟨by simp;omega,d3⟩
 have ia:∀i:Nat,i<3->mC yA 94 (.slice b2 0 3 3) (.int .i64 (i:Int))=some (.ptr b2 i):=fun i hi=>by
  have:=Bn (C:=yA) (b:=b2) sl94 (off:=0) (n:=3) (cap:=3) (i:=i) hi
  rwa [ybw,Nat.mul_one]at this
 have l0:=h2.load (j:=0) rfl wP rfl (C:=yA)
 have l1:=h2.load (j:=1) rfl wP rfl (C:=yA)
 have l2:=h2.load (j:=2) rfl wP rfl (C:=yA)
 refine mA rfl (mA rfl (vE (oB (by simp) (mA (ia 0 (by omega)) (vC l0 (kB (mA (ia 1 (by omega)) (vC l1 (kB (mA (ia 2 (by omega)) (vC l2 (kB (tB ?_)))))))))))))
 have b1:=Fx d1
 have b2':=Fx d2
 have b3:=Fx d3
 have n1:(s.take 4).length=4:=by simp;omega
 have n2:((s.take 7).drop 5).length=2:=by simp;omega
 have n3:(s.drop 8).length=2:=by simp;omega
 rw[n1]at b1;rw[n2]at b2'
 rw[n3]at b3;have hle:=g3.trans h1
 rw[q119];show qE (iC yA F 119 [.int .i64 ((mD (s.take 4):Nat):Int),.int .i64 ((mD ((s.take 7).drop 5):Nat):Int),.int .i64 ((mD (s.drop 8):Nat):Int)] t2) _
 rw[day_ok (hg.mono hle) (by omega) (by omega) (by omega),iA]
 exact mA rfl (kB (mA rfl (kB ⟨rfl,hle⟩)))
def Aa:Dq where
 frac:=fun {s neg tf t L Q} h ho hQ=>Wc.objs (R:=fun v tf'=>∃cs,v=.agg cs/\RD tf' (tJ s neg).dd cs) (fracPv h fun t' cs h1 h2=>⟨h1,cs,rfl,h2⟩) ho fun v tf' t' h1 h2 ⟨cs,h3,h4⟩=>by subst h3;exact hQ tf' t' cs h1 h2 h4
 int:=fun h1 h2 h3 h4=>intPv h1 h2 h3 h4
 date:=fun hg ⟨h1,h2,n,h3⟩=>by rw[MM hg h1 h2,h3];rfl
end
end Go.Proofs
namespace Go.Proofs
open Go Go.Am
variable [yD]
section
variable {P:aI}{tf t:Tr uA}{Q E:jB}
def zhx(h:St P tf t 0 0)(hk:Ok P zM 0 tf (jF P.tk) Q E):rJ yA F E 41 [.ptr P.bp 0] t Q:=by
 refine w41 _ ?_
 unfold t41;refine tB ?_
 rw[pE 42];unfold jF at hk;refine AD Aa _ _ _ _ _ h (hk.bind fun x n1 tf1 t1 v hr hle hst hrd hk1=>?_)
 obtain⟨cs,rfl,hx⟩:=hrd
 refine dC (oN hx) ?_
 rw[show [zA.int .u8 ((cellsOf cs).i 0),.str ((cellsOf cs).s 1),.int .u8 ((cellsOf cs).i 2),.bool ((cellsOf cs).b 3),(cellsOf cs).v 4,.bool ((cellsOf cs).b 5),(cellsOf cs).v 6,.int .i64 ((cellsOf cs).i 7),(cellsOf cs).v 8]=cs from Gb hx]
 have hall:zC zA.one cs=true:=by
  obtain⟨a,b,c,rfl,_⟩:=wJ hx
  exact hx.all
 refine rA hall (tB ?_)
 rw[pE 43];refine ziy hst (hk1.bind fun a n2 tf2 t2 v2 hr2 hl2 hst2 hrd2 hk2=>?_)
 exact rA hall (Ok.now hk2 hst2 ⟨cs,rfl,hx.mono hl2⟩)
end
end Go.Proofs
namespace Go.Am
open Go Go.RowKit
variable {args vals:List zA}{E:jB}{base:Nat}{J:qF}{X:Xt}{tm:Tm}{HA:xA}{p:PI}
structure Jt (C:cA) (F:Tr tE) (f:Nat) (fn:Func) (kf:Nat) (A:tE) (l:List gC) (q:fQ) (fc:Func) (kc:Nat) (Ac:tE) (qc:ClQ):Prop where
 isF:F.get f=some A
 isFn:C.fns.get f=some fn
 isK:C.ks.get f=some kf
 prim:C.prims.get f=none
 lt:Nat.blt f yo=true
 body:nE fn.body=false
 split:bV A.code=some (l,q)
 isC:F.get q.cl=some Ac
 isFc:C.fns.get q.cl=some fc
 isKc:C.ks.get q.cl=some kc
 primC:C.prims.get q.cl=none
 bodyC:nE fc.body=false
 clo:Fz Ac.code=some qc
 ok:(Nt fn.results.toList q.o6.toList&&(Nat.ble kf q.d&&Nat.blt q.d fn.ntmps))=true
 okC:(Nat.ble (wB q.bs) kc&&Nat.ble (wB q.bs) fc.ntmps)=true
 okD:Nat.blt qc.d fc.ntmps=true
 rng:cK (tW l)=[]
 rngC:cK qc.c=[]
def defB (C:cA)(F:Tr tE)(f:Nat)(fn:Func)(kf:Nat)(A:tE)(l:List gC)(q:fQ)(fc:Func)(kc:Nat)(Ac:tE)(qc:ClQ):Bool:=
 nE (C.prims.get f)&&Nat.blt f yo && !nE fn.body&&nE (C.prims.get q.cl) && !nE fc.body&&(Nt fn.results.toList q.o6.toList&&(Nat.ble kf q.d&&Nat.blt q.d fn.ntmps)) &&
  (Nat.ble (wB q.bs) kc&&Nat.ble (wB q.bs) fc.ntmps)&&Nat.blt qc.d fc.ntmps&&(match cK (tW l)with | []=>true | _=>false)&&(match cK qc.c with | []=>true | _=>false)
section
variable {C:cA}{F:Tr tE}{f:Nat}{fn fc:Func}{kf kc:Nat}{A Ac:tE}{l:List gC}{q:fQ}{qc:ClQ}{pure pan:Nat->Bool}{t:Tr uA}{Q:jB}
def Jt.of(h1:F.get f=some A)(h2:C.fns.get f=some fn)(h3:C.ks.get f=some kf)(h4:bV A.code=some (l,q))(h5:F.get q.cl=some Ac)(h6:C.fns.get q.cl=some fc)(h7:C.ks.get q.cl=some kc)(h8:Fz Ac.code=some qc)(h:defB C F f fn kf A l q fc kc Ac qc=true):Jt C F f fn kf A l q fc kc Ac qc:=by
 unfold defB at h;simp only[ybb]at h;obtain⟨⟨⟨⟨⟨⟨⟨⟨⟨g1,g2⟩,g3⟩,g4⟩,g5⟩,g6⟩,g7⟩,g8⟩,g9⟩,g10⟩:=h
 have nn:∀ {α:Type} {x:Option α},nE x=true->x=none:=fun {α} {x} h=>by cases x with | none=>rfl | some _=>cases h
 refine⟨h1,h2,h3,nn g1,g2,by simpa using g3,h4,h5,h6,h7,nn g4,by simpa using g5,h8,by simp only[ybb];exact g6,by simp only[ybb];exact g7,g8,?_,?_⟩
 ·split at g9
  ·assumption
  ·cases g9
 ·split at g10
  ·assumption
  ·cases g10
def MZ(h:F.get f=some A):(oE F).get f=some A.code:=by unfold oE;rw[Tr.get_mapT,h];rfl
def MC {d:Bool}(h2:C.fns.get f=some fn)(h3:C.ks.get f=some kf)(hb:nE fn.body=false)(hl:(Nat.ble (wB args) kf&&Nat.ble (wB args) fn.ntmps)=true):∃g,oK C f args d=some g/\g.tm=⟨kf,Tr.ofList args,[]⟩:=by
 obtain⟨body,hb⟩:∃b,fn.body=some b:=by
  cases hx:fn.body with
  | none=>rw[hx]at hb;cases hb
  | some b=>exact⟨b,rfl⟩
 refine⟨_,by unfold oK;rw[h2,oA,hb,oA,h3,oA,hl];rfl,rfl⟩
theorem xO.nil{A:Tr gC} {c:gC}(h:cK c=[]):xO A E f c:=fun q hq=>by rw[h]at hq;cases hq
theorem yT.nil   {L:List PtD}(h:L=[]):yT base kf E J L:=fun d hd=>by rw[h]at hd;cases hd
def st_of    (ho:Ov base t X HA)(hk:tm.k=kf):dF base X kf (fun i=>i) X ⟨tm,[],.leaf,[]⟩ tm HA t:=
 ⟨ho,bI.refl _,hk,hk,fun _ _ h=>h,fun _ _ h=>(by cases h),fun d l h=>(by rw[show(Tr.leaf:Tr (List zA)).get d=none from Tr.get_leaf _]at h;cases h),fun d _ l _ h=>(by rw[show(Tr.leaf:Tr (List zA)).get d=none from Tr.get_leaf _]at h;cases h)⟩
def NF(h:Jt C F f fn kf A l q fc kc Ac qc) {cells:List zA}{v:zA}{W:qF} (hW:eQ C (oE F) E W)(hY:Bi C (oE F) W)(hpts:∀ κ,nL C (wD C (oE F)) q.cl fc.ntmps qc.c κ=[]) (hl:wB cells=wB q.bs)
  (hv:Dz p ⟨clTm fc.ntmps qc ⟨kc,Tr.ofList cells,[]⟩ v,[],.leaf,[]⟩=some vals) {R:jB} (hw:qA C.base W J (fK C Ac.la q.cl fc.ntmps qc.c (sZ C fc) (dK kc p vals)) t R):∀X HA,Ov C.base t X HA->yC C.base X E R (kR C (oE F) (wD C (oE F)) q.cl cells v HA):=by
 intro X HA ho;obtain⟨g,h1,h2⟩:=MC (args:=cells) (d:=true) h.isFc h.isKc h.bodyC (by rw[hl];exact h.okC)
 unfold kR;refine yC.ob h.isFc (yC.ob (MZ h.isC) (yC.ob h.clo ?_))
 have hg:(nE (C.prims.get q.cl)&&Nat.blt qc.d fc.ntmps)=true:=by rw[h.primC,h.okD];rfl
 rw[hg];show yC C.base X E R (ob (oK C q.cl cells true) _)
 refine yC.ob h1 ?_
 rw[h2];have hst:dF C.base X kc (fun i=>i) X ⟨clTm fc.ntmps qc ⟨kc,Tr.ofList cells,[]⟩ v,[],.leaf,[]⟩ (clTm fc.ntmps qc ⟨kc,Tr.ofList cells,[]⟩ v) HA t:=st_of ho (by unfold clTm;rw[Cf,Cf];rfl)
 exact Bv hW hY qc.c (sZ C fc) (vP C fc) (xO.nil h.rngC) (fun _=>Uo) (yT.nil (hpts _)) _ _ _ _ _ _ _ (hst.at hv) hw
def Gm(C:cA)(F:Tr tE)(pure pan:Nat->Bool)(f:Nat)(fn:Func)(kf:Nat)(A:tE)(q:fQ)(p:PI)(vals:List zA)(t:Tr uA)(Q:jB):Prop:=
 ∃cells,∃E:jB,jO q.bs (.now (dK kf p vals).tm.cut)=some cells/\(∀HA,kR C (oE F) (wD C (oE F)) q.cl cells .niliface HA=some (⟨.tup [],false⟩,HA)) ∧
  (∀v t',E v t'->∀X HA,Ov C.base t' X HA->yC C.base X yK (fun _ t''=>qA C.base (Wq C F pure) (fun _ _ _ _=>False) (endT C fn (dK kf p vals).cut) t'' Q) (kR C (oE F) (wD C (oE F)) q.cl cells v HA)) ∧
  qA C.base (gE C F pure pan E) (fun _ _ _ _=>False) (fK C A.la f fn.ntmps (.region q.i6 q.o6 false) ⟨endT C fn,fun _ _=>.fail,fun _=>.fail⟩ (dK kf p vals)) t Q
def zh0(h:Jt C F f fn kf A l q fc kc Ac qc) (hp:p.ll=[]) (hpn:pure pn=false)(ht:Gm C F pure pan f fn kf A q p vals t Q){X0:Xt}  {ν:Nat->Nat}(hst:dF C.base X0 kf ν X (dK kf p vals) tm HA t) :
  yC C.base X0 yK Q (aQ C (oE F) (wD C (oE F)) fn q tm HA):=by
 obtain⟨cells,E,h1,h2,h3,h4⟩:=ht
 have hend:∀tm' H',fM C (oE F) (wD C (oE F)) fn q.cl cells .niliface tm' H'=rV C fn tm' H':=by
  intro tm' H';unfold fM;rw[h2];rfl
 unfold aQ;rw[hst.kA,h.ok];show yC C.base X0 yK Q (ob (jO q.bs (.now tm.cut)) _)
 refine yC.ob (AH (Lz hst.cut).1 h1) ?_
 have hk:∀X0,SKt C (gE C F pure pan E) (fun _ _ _ _=>False) X0 kf E Q ⟨endT C fn,fun _ _=>.fail,fun _=>.fail⟩ ⟨fun tm' H'=>fM C (oE F) (wD C (oE F)) fn q.cl cells .niliface tm' H',fun _ _ _=>none,fun _ _=>none⟩:=by
  intro X0;refine⟨?_,fun _ _ _ _ _ _ _ _ h=>h.elim,fun _ _ _ _ _ _ _ h=>h.elim⟩
  intro st tm HA t X ν hst hw;simp only[hend];exact Ni st tm HA t X ν hst hw
 have hr:=Bv (BR hpn) BQ (.region q.i6 q.o6 false) ⟨endT C fn,fun _ _=>.fail,fun _=>.fail⟩ ⟨fun tm' H'=>fM C (oE F) (wD C (oE F)) fn q.cl cells .niliface tm' H',fun _ _ _=>none,fun _ _=>none⟩ (xO.nil rfl) hk (yT.nil rfl) X0 _ _ _ _ _ _ hst h4
 obtain⟨o,t',HA',X',g1,g2,g3,g4⟩:=hr
 have g1:iM C (wD C (oE F)) q.o6 fn.ntmps (fun tm' H'=>fM C (oE F) (wD C (oE F)) fn q.cl cells .niliface tm' H') q.o6.toList tm.cut HA=some (o,HA'):=g1
 refine yC.ob g1 ?_
 cases ho:o.p with
 | false=>
  rw[ho,yaa (by simp)]at g4
  show yC C.base X0 yK Q (some (o,HA'))
  exact⟨o,t',HA',X',rfl,g2,g3,by rw[ho,yaa (by simp)];exact g4⟩
 | true=>
  rw[ho,yab rfl]at g4;show yC C.base X0 yK Q (fM C (oE F) (wD C (oE F)) fn q.cl cells o.v tm.cut HA')
  obtain⟨v,t'',HA'',X'',k1,k2,k3,k4⟩:=xR.1 (h3 _ _ g4 _ _ g2)
  unfold fM;refine yC.ob k1 ?_
  show yC C.base X0 yK Q (rV C fn tm.cut HA'')
  have hs:=hst.cut
  have hlo:∀d,(dK kf p vals).cut.lo.get d=none:=by
   intro d;show(dV p.ll (qR vals (wB p.pl))).get d=none
   rw[hp];exact Tr.get_leaf _
  have hs2:dF C.base X0 kf ν X'' (dK kf p vals).cut tm.cut HA'' t'':=
   ⟨k2,g3.trans k3,hs.k,hs.kA,hs.tms,hs.ads,fun d l h=>(by rw[hlo]at h;cases h),fun d _ l _ h=>(by rw[hlo]at h;cases h)⟩
  exact Ni _ _ _ _ _ _ hs2 k4
def zg8(h:Jt C F f fn kf A l q fc kc Ac qc) (hp:p.ll=[])(hpn:pure pn=false) (hl:(Nat.ble (wB args) kf&&Nat.ble (wB args) fn.ntmps)=true)(hpts:∀ κ,nL C (wD C (oE F)) f fn.ntmps (tW l) κ=[])
  (hw:qA C.base (Wq C F pure) (fun i vals t Q=>i=p.id/\Gm C F pure pan f fn kf A q p vals t Q) (fK C A.la f fn.ntmps (tW l) ⟨aW p,fun _ _=>.fail,endT C fn⟩ ⟨⟨kf,Tr.ofList args,[]⟩,[],.leaf,[]⟩) t Q):Wc C F f args t Q:=by
 intro X HA ho;obtain⟨g,h1,h2⟩:=MC (args:=args) (d:=false) h.isFn h.isK h.body hl
 rw[Ga h.lt,h.prim];show yC C.base X yK Q (wD C (oE F) (.func f) args HA)
 rw[Zu];show yC C.base X yK Q (eS C (oE F) (wD C (oE F)) f args HA)
 unfold eS;refine yC.ob (MZ h.isF) (yC.ob h.isFn (yC.ob h1 ?_))
 unfold qX;rw[h.split,h2];have hk:∀X0,SKt C (Wq C F pure) (fun i vals t Q=>i=p.id/\Gm C F pure pan f fn kf A q p vals t Q) X0 kf yK Q ⟨aW p,fun _ _=>.fail,endT C fn⟩ (Ca C (oE F) (wD C (oE F)) fn q):=by
  intro X0;refine⟨fun st tm HA t X ν hst hw=>?_,fun _ _ _ _ _ _ _ _ h=>h.elim,Ni⟩
  unfold aW at hw;rw[eE]at hw;obtain⟨vals,k1,_,k2⟩:=hw
  exact zh0 h hp hpn k2 (hst.at k1)
 exact Bv (Od hpn) Oc (tW l) _ _ (xO.nil h.rng) hk (yT.nil (hpts _)) _ _ _ _ _ _ _ (st_of ho rfl) hw
end
end Go.Am
namespace Go.Proofs
open Go Go.Am
variable {m:Tr uA}{Q:jB}
variable [yD]
def dq0:fQ:=⟨0,#[],0,0,[],0,#[]⟩
def cq0:ClQ:=⟨0,#[],0,0,.skip⟩
def pcs (f:Nat):List gC:=(gD ([],dq0) (bV (ao f).code)).1
def lR (f:Nat):fQ:=(gD ([],dq0) (bV (ao f).code)).2
def cqo (f:Nat):ClQ:=gD cq0 (Fz (ao f).code)
def dB (f cl:Nat):Bool := !nE (F.get f) && !nE (fns.get f) && !nE (ks.get f) && !nE (bV (ao f).code) && !nE (F.get cl) && !nE (fns.get cl) && !nE (ks.get cl) && !nE (Fz (ao cl).code)&&Nat.beq (lR f).cl cl&&defB yA F f (fo f) (ko f) (ao f) (pcs f) (lR f) (fo cl) (ko cl) (ao cl) (cqo cl)
def dA(f cl:Nat)(h:dB f cl=true:=by kernel_rfl):Jt yA F f (fo f) (ko f) (ao f) (pcs f) (lR f) (fo cl) (ko cl) (ao cl) (cqo cl):=by
 unfold dB at h;simp only[ybb]at h;obtain⟨⟨⟨⟨⟨⟨⟨⟨⟨h1,h2⟩,h3⟩,h4⟩,h5⟩,h6⟩,h7⟩,h8⟩,h9⟩,h10⟩:=h
 have e:=eC.1 h9
 exact .of (gO h1) (gO h2) (gO h3) (gO h4) (by rw[e];exact gO h5) (by rw[e];exact gO h6) (by rw[e];exact gO h7) (gO h8) h10
abbrev uR:qF:=fun _ _ _ _=>False
abbrev pR:PI:=⟨11,[1,4,5,6,8],[]⟩
abbrev pS:PI:=⟨3,[0,1,2,3],[]⟩
def t28 (p0:List Nat)(p1:zA):T:=
 .heavy (kJ yA 27) fun a0=>
 .heavy (kJ yA 29) fun a1=>
 .heavy (kJ yA 30) fun a2=>
 .call 22 [(.str p0)] fun a3=>
 .opt (gG 0 a3) fun a4=>.opt (gG 1 a3) fun a5=>.asG [(.int .i64 0),(.int .i64 0)] a5 fun X6=>
 .opt (gG 2 a3) fun a7=>.asI .i64 a7 fun n8=>.heavy (bB yA 29 a1 (.agg [(.int .i64 (X6.i 0)),(.int .i64 (X6.i 1))])) fun _=>
 .heavy (bB yA 30 a2 (.int .i64 n8)) fun _=>
 .light (fun m=>fA yA 30 ⟨0,m⟩ a2) fun a9=>.asI .i64 a9 fun n10=>.ite (!wC n10 0)
 (.light (fun m=>fA yA 27 ⟨0,m⟩ a0) fun a11=>.asG [(.str []),.nilslice,.nilslice,.nilslice] a11 fun X12=>
 .light (fun m=>fA yA 29 ⟨0,m⟩ a1) fun a13=>.asG [(.int .i64 0),(.int .i64 0)] a13 fun X14=>
 .light (fun m=>fA yA 30 ⟨0,m⟩ a2) fun a15=>.asI .i64 a15 fun n16=>.heavy (bB yA 27 a0 (.agg [(.str (X12.s 0)),(X12.v 1),(X12.v 2),(X12.v 3)])) fun _=>
 .light (fun m=>fA yA 29 ⟨0,m⟩ a1) fun a17=>.ite (same 10 a17 (.agg [(.int .i64 (X14.i 0)),(.int .i64 (X14.i 1))])) (.light (fun m=>fA yA 30 ⟨0,m⟩ a2) fun a18=>.ite (same 10 a18 (.int .i64 n16)) (.heavy (bB yA 29 a1 (.agg [(.int .i64 (X14.i 0)),(.int .i64 (X14.i 1))])) fun _=>
 .light (fun m=>fA yA 30 ⟨0,m⟩ a2) fun a19=>.ite (same 10 a19 (.int .i64 n16)) (.heavy (bB yA 30 a2 (.int .i64 n16)) fun _=>
 .light (fun m=>fA yA 27 ⟨0,m⟩ a0) fun a20=>.light (fun m=>fA yA 29 ⟨0,m⟩ a1) fun a21=>.light (fun m=>fA yA 30 ⟨0,m⟩ a2) fun a22=>.ret (.tup [a20,a21,a22])) .fail) .fail) .fail)
 (.call 25 [(.str p0),(.int .i64 (Int.ofNat (wB p0)))] fun a23=>
 .asG [(.int .i64 0),(.int .i64 0)] a23 fun X24=>
 .ite (zC zA.one [a4]) (.heavy (bM (.agg [a4,(.int .i64 0),(.int .i64 0),(.int .i64 (X24.i 0)),(.int .i64 (X24.i 1))])) fun a25=>
 .jump 11 [p1,a0,a1,a2,a25]) .fail)
def Uy(v1:zA)(v4:zA)(v5:zA)(v6:zA)(v8:zA):T:=
 .callv v1 [v8] fun a0=>
 .asG [(.str []),.nilslice,.nilslice,.nilslice] a0 fun X1=>
 .ite true (.heavy (bB yA 27 v4 (.agg [(.str (X1.s 0)),(X1.v 1),(X1.v 2),(X1.v 3)])) fun _=>
 .heavy (bB yA 29 v5 (.agg [(.int .i64 0),(.int .i64 0)])) fun _=>
 .heavy (bB yA 30 v6 (.int .i64 0)) fun _=>
 .light (fun m=>fA yA 27 ⟨0,m⟩ v4) fun a2=>.light (fun m=>fA yA 29 ⟨0,m⟩ v5) fun a3=>.light (fun m=>fA yA 30 ⟨0,m⟩ v6) fun a4=>.ret (.tup [a2,a3,a4])) .fail
def Ps(v0:zA)(v1:zA)(v2:zA)(v3:zA):T:=
 .opt ((oV .neq).f yA 20 (.tmp 8) (.const .nilIface) v3 .niliface) fun a0=>.asB a0 fun b1=>.ite b1
 (.heavy (bB yA 27 v0 (.agg [(.str []),.nilslice,.nilslice,.nilslice])) fun _=>
 .heavy (bB yA 30 v1 (.int .i64 120)) fun _=>
 .opt (Ec yA 123 true v3) fun a2=>.opt (gG 0 a2) fun a3=>.asG [(.int .i64 0),(.int .i64 0),(.int .i64 0)] a3 fun X4=>
 .opt (gG 1 a2) fun a5=>.asB a5 fun b6=>.ite true (.ite b6
 (.heavy (bB yA 29 v2 (.agg [(.int .i64 (X4.i 0)),(.int .i64 (X4.i 1))])) fun _=>
 .ite (same 10 (.int .i64 (X4.i 2)) (.int .i64 (X4.i 2))) (.heavy (bB yA 30 v1 (.int .i64 (X4.i 2))) fun _=>
 .ret (.tup [])) .fail)
 (.ret (.tup []))) .fail)
 (.ret (.tup []))
def Pv(v4 v5 v6:zA):T:=.light (fun m=>fA yA 27 ⟨0,m⟩ v4) fun a2=>.light (fun m=>fA yA 29 ⟨0,m⟩ v5) fun a3=>.light (fun m=>fA yA 30 ⟨0,m⟩ v6) fun a4=>.ret (.tup [a2,a3,a4])
def e28(p0:List Nat)(p1:zA):fK yA (ao 28).la 28 (fo 28).ntmps (tW (pcs 28)) ⟨aW pR,fun _ _=>.fail,Am.endT yA (fo 28)⟩ ⟨⟨ko 28,Tr.ofList [(.str p0),p1],[]⟩,[],.leaf,[]⟩=t28 p0 p1:=by kernel_rfl
def e28_13(v1 v4 v5 v6 v8:zA):fK yA (ao 28).la 28 (fo 28).ntmps (.region (lR 28).i6 (lR 28).o6 false) ⟨Am.endT yA (fo 28),fun _ _=>.fail,fun _=>.fail⟩ (dK (ko 28) pR [v1,v4,v5,v6,v8])=Uy v1 v4 v5 v6 v8:=by kernel_rfl
def e28_e(v1 v4 v5 v6 v8:zA):Am.endT yA (fo 28) (dK (ko 28) pR [v1,v4,v5,v6,v8]).cut=Pv v4 v5 v6:=by kernel_rfl
def e56_3(v0 v1 v2 v3:zA):fK yA (ao 56).la (lR 28).cl (fo 56).ntmps (cqo 56).c (sZ yA (fo 56)) (dK (ko 56) pS [v0,v1,v2,v3])=Ps v0 v1 v2 v3:=by kernel_rfl
def nil56(a b c:zA)(HA:xA):kR yA (oE F) (wD yA (oE F)) (lR 28).cl [a,b,c] .niliface HA=some (⟨.tup [],false⟩,HA):=by kernel_rfl
def tl28(v1 v4 v5 v6 v8:zA)  (h:qA yA.base (gE yA F rC zF fun v t'=>qA yA.base (Wq yA F rC) uR (Ps v4 v6 v5 v) t' fun _ t''=>qA yA.base (Wq yA F rC) uR (Pv v4 v5 v6) t'' Q) uR (Uy v1 v4 v5 v6 v8) m Q) :
  Gm yA F rC zF 28 (fo 28) (ko 28) (ao 28) (lR 28) pR [v1,v4,v5,v6,v8] m Q:=by
 refine⟨[v4,v6,v5],(fun v t'=>qA yA.base (Wq yA F rC) uR (Ps v4 v6 v5 v) t' fun _ t''=>qA yA.base (Wq yA F rC) uR (Pv v4 v5 v6) t'' Q),by kernel_rfl,nil56 _ _ _,fun v t' hv=>?_,by rw[e28_13];exact h⟩
 refine NF (dA 28 56) (p:=pS) (W:=Wq yA F rC) (Od (by kernel_rfl)) Oc (by intro κ;kernel_rfl) (by kernel_rfl) (vals:=[v4,v6,v5,v]) (by kernel_rfl) (J:=uR) ?_
 rw[e56_3,e28_e];exact hv
def w28(p0:List Nat)(p1:zA)  (h:qA yA.base (Wq yA F rC) (fun i vals t Q=>i=11/\Gm yA F rC zF 28 (fo 28) (ko 28) (ao 28) (lR 28) pR vals t Q) (t28 p0 p1) m Q):Wf 28 [(.str p0),p1] m Q:=
 zg8 (pan:=zF) (dA 28 56) (p:=pR) rfl (by kernel_rfl) (by kernel_rfl) (by intro κ;kernel_rfl) (by rw[e28];exact h)
def t40 (p0:List Nat)(p1:zA):T:=
 .heavy (kJ yA 50) fun a0=>
 .heavy (kJ yA 29) fun a1=>
 .heavy (kJ yA 30) fun a2=>
 .call 22 [(.str p0)] fun a3=>
 .opt (gG 0 a3) fun a4=>.opt (gG 1 a3) fun a5=>.asG [(.int .i64 0),(.int .i64 0)] a5 fun X6=>
 .opt (gG 2 a3) fun a7=>.asI .i64 a7 fun n8=>.heavy (bB yA 29 a1 (.agg [(.int .i64 (X6.i 0)),(.int .i64 (X6.i 1))])) fun _=>
 .heavy (bB yA 30 a2 (.int .i64 n8)) fun _=>
 .light (fun m=>fA yA 30 ⟨0,m⟩ a2) fun a9=>.asI .i64 a9 fun n10=>.ite (!wC n10 0)
 (.light (fun m=>fA yA 50 ⟨0,m⟩ a0) fun a11=>.asG [(.int .u8 0),(.str []),(.int .u8 0),(.bool false),.nilslice,(.bool false),.nilslice,(.int .i64 0),.nilslice] a11 fun X12=>
 .light (fun m=>fA yA 29 ⟨0,m⟩ a1) fun a13=>.asG [(.int .i64 0),(.int .i64 0)] a13 fun X14=>
 .light (fun m=>fA yA 30 ⟨0,m⟩ a2) fun a15=>.asI .i64 a15 fun n16=>.heavy (bB yA 50 a0 (.agg [(.int .u8 (X12.i 0)),(.str (X12.s 1)),(.int .u8 (X12.i 2)),(.bool (X12.b 3)),(X12.v 4),(.bool (X12.b 5)),(X12.v 6),(.int .i64 (X12.i 7)),(X12.v 8)])) fun _=>
 .light (fun m=>fA yA 29 ⟨0,m⟩ a1) fun a17=>.ite (same 10 a17 (.agg [(.int .i64 (X14.i 0)),(.int .i64 (X14.i 1))])) (.light (fun m=>fA yA 30 ⟨0,m⟩ a2) fun a18=>.ite (same 10 a18 (.int .i64 n16)) (.heavy (bB yA 29 a1 (.agg [(.int .i64 (X14.i 0)),(.int .i64 (X14.i 1))])) fun _=>
 .light (fun m=>fA yA 30 ⟨0,m⟩ a2) fun a19=>.ite (same 10 a19 (.int .i64 n16)) (.heavy (bB yA 30 a2 (.int .i64 n16)) fun _=>
 .light (fun m=>fA yA 50 ⟨0,m⟩ a0) fun a20=>.light (fun m=>fA yA 29 ⟨0,m⟩ a1) fun a21=>.light (fun m=>fA yA 30 ⟨0,m⟩ a2) fun a22=>.ret (.tup [a20,a21,a22])) .fail) .fail) .fail)
 (.call 25 [(.str p0),(.int .i64 (Int.ofNat (wB p0)))] fun a23=>
 .asG [(.int .i64 0),(.int .i64 0)] a23 fun X24=>
 .ite (zC zA.one [a4]) (.heavy (bM (.agg [a4,(.int .i64 0),(.int .i64 0),(.int .i64 (X24.i 0)),(.int .i64 (X24.i 1))])) fun a25=>
 .jump 11 [p1,a0,a1,a2,a25]) .fail)
def Ux(v1:zA)(v4:zA)(v5:zA)(v6:zA)(v8:zA):T:=
 .callv v1 [v8] fun a0=>
 .asG [(.int .u8 0),(.str []),(.int .u8 0),(.bool false),.nilslice,(.bool false),.nilslice,(.int .i64 0),.nilslice] a0 fun X1=>
 .ite true (.heavy (bB yA 50 v4 (.agg [(.int .u8 (X1.i 0)),(.str (X1.s 1)),(.int .u8 (X1.i 2)),(.bool (X1.b 3)),(X1.v 4),(.bool (X1.b 5)),(X1.v 6),(.int .i64 (X1.i 7)),(X1.v 8)])) fun _=>
 .heavy (bB yA 29 v5 (.agg [(.int .i64 0),(.int .i64 0)])) fun _=>
 .heavy (bB yA 30 v6 (.int .i64 0)) fun _=>
 .light (fun m=>fA yA 50 ⟨0,m⟩ v4) fun a2=>.light (fun m=>fA yA 29 ⟨0,m⟩ v5) fun a3=>.light (fun m=>fA yA 30 ⟨0,m⟩ v6) fun a4=>.ret (.tup [a2,a3,a4])) .fail
def Pr(v0:zA)(v1:zA)(v2:zA)(v3:zA):T:=
 .opt ((oV .neq).f yA 20 (.tmp 8) (.const .nilIface) v3 .niliface) fun a0=>.asB a0 fun b1=>.ite b1
 (.heavy (bB yA 50 v0 (.agg [(.int .u8 0),(.str []),(.int .u8 0),(.bool false),.nilslice,(.bool false),.nilslice,(.int .i64 0),.nilslice])) fun _=>
 .heavy (bB yA 30 v1 (.int .i64 120)) fun _=>
 .opt (Ec yA 123 true v3) fun a2=>.opt (gG 0 a2) fun a3=>.asG [(.int .i64 0),(.int .i64 0),(.int .i64 0)] a3 fun X4=>
 .opt (gG 1 a2) fun a5=>.asB a5 fun b6=>.ite true (.ite b6
 (.heavy (bB yA 29 v2 (.agg [(.int .i64 (X4.i 0)),(.int .i64 (X4.i 1))])) fun _=>
 .ite (same 10 (.int .i64 (X4.i 2)) (.int .i64 (X4.i 2))) (.heavy (bB yA 30 v1 (.int .i64 (X4.i 2))) fun _=>
 .ret (.tup [])) .fail)
 (.ret (.tup []))) .fail)
 (.ret (.tup []))
def Pt(v4 v5 v6:zA):T:=.light (fun m=>fA yA 50 ⟨0,m⟩ v4) fun a2=>.light (fun m=>fA yA 29 ⟨0,m⟩ v5) fun a3=>.light (fun m=>fA yA 30 ⟨0,m⟩ v6) fun a4=>.ret (.tup [a2,a3,a4])
def e40(p0:List Nat)(p1:zA):fK yA (ao 40).la 40 (fo 40).ntmps (tW (pcs 40)) ⟨aW pR,fun _ _=>.fail,Am.endT yA (fo 40)⟩ ⟨⟨ko 40,Tr.ofList [(.str p0),p1],[]⟩,[],.leaf,[]⟩=t40 p0 p1:=by kernel_rfl
def e40_13(v1 v4 v5 v6 v8:zA):fK yA (ao 40).la 40 (fo 40).ntmps (.region (lR 40).i6 (lR 40).o6 false) ⟨Am.endT yA (fo 40),fun _ _=>.fail,fun _=>.fail⟩ (dK (ko 40) pR [v1,v4,v5,v6,v8])=Ux v1 v4 v5 v6 v8:=by kernel_rfl
def e40_e(v1 v4 v5 v6 v8:zA):Am.endT yA (fo 40) (dK (ko 40) pR [v1,v4,v5,v6,v8]).cut=Pt v4 v5 v6:=by kernel_rfl
def e67_3(v0 v1 v2 v3:zA):fK yA (ao 67).la (lR 40).cl (fo 67).ntmps (cqo 67).c (sZ yA (fo 67)) (dK (ko 67) pS [v0,v1,v2,v3])=Pr v0 v1 v2 v3:=by kernel_rfl
def nil67(a b c:zA)(HA:xA):kR yA (oE F) (wD yA (oE F)) (lR 40).cl [a,b,c] .niliface HA=some (⟨.tup [],false⟩,HA):=by kernel_rfl
def tl40(v1 v4 v5 v6 v8:zA)  (h:qA yA.base (gE yA F rC zF fun v t'=>qA yA.base (Wq yA F rC) uR (Pr v4 v6 v5 v) t' fun _ t''=>qA yA.base (Wq yA F rC) uR (Pt v4 v5 v6) t'' Q) uR (Ux v1 v4 v5 v6 v8) m Q) :
  Gm yA F rC zF 40 (fo 40) (ko 40) (ao 40) (lR 40) pR [v1,v4,v5,v6,v8] m Q:=by
 refine⟨[v4,v6,v5],(fun v t'=>qA yA.base (Wq yA F rC) uR (Pr v4 v6 v5 v) t' fun _ t''=>qA yA.base (Wq yA F rC) uR (Pt v4 v5 v6) t'' Q),by kernel_rfl,nil67 _ _ _,fun v t' hv=>?_,by rw[e40_13];exact h⟩
 refine NF (dA 40 67) (p:=pS) (W:=Wq yA F rC) (Od (by kernel_rfl)) Oc (by intro κ;kernel_rfl) (by kernel_rfl) (vals:=[v4,v6,v5,v]) (by kernel_rfl) (J:=uR) ?_
 rw[e67_3,e40_e];exact hv
def w40(p0:List Nat)(p1:zA)  (h:qA yA.base (Wq yA F rC) (fun i vals t Q=>i=11/\Gm yA F rC zF 40 (fo 40) (ko 40) (ao 40) (lR 40) pR vals t Q) (t40 p0 p1) m Q):Wf 40 [(.str p0),p1] m Q:=
 zg8 (pan:=zF) (dA 40 67) (p:=pR) rfl (by kernel_rfl) (by kernel_rfl) (by intro κ;kernel_rfl) (by rw[e40];exact h)
def t70_3(v0:zA)(v1:zA)(v2:zA)(v3:zA):T:=
 .opt ((oV .neq).f yA 20 (.tmp 8) (.const .nilIface) v3 .niliface) fun a0=>.asB a0 fun b1=>.ite b1
 (.heavy (bB yA 47 v0 (.agg [(.int .u8 0),(.bool false),.nilslice,(.bool false),.nilslice,(.int .i64 0)])) fun _=>
 .heavy (bB yA 30 v1 (.int .i64 120)) fun _=>
 .opt (Ec yA 123 true v3) fun a2=>.opt (gG 0 a2) fun a3=>.asG [(.int .i64 0),(.int .i64 0),(.int .i64 0)] a3 fun X4=>
 .opt (gG 1 a2) fun a5=>.asB a5 fun b6=>.ite true (.ite b6
 (.heavy (bB yA 29 v2 (.agg [(.int .i64 (X4.i 0)),(.int .i64 (X4.i 1))])) fun _=>
 .ite (same 10 (.int .i64 (X4.i 2)) (.int .i64 (X4.i 2))) (.heavy (bB yA 30 v1 (.int .i64 (X4.i 2))) fun _=>
 .ret (.tup [])) .fail)
 (.ret (.tup []))) .fail)
 (.ret (.tup []))
def t45_e(v4 v5 v6:zA):T:=.light (fun m=>fA yA 47 ⟨0,m⟩ v4) fun a2=>.light (fun m=>fA yA 29 ⟨0,m⟩ v5) fun a3=>.light (fun m=>fA yA 30 ⟨0,m⟩ v6) fun a4=>.ret (.tup [a2,a3,a4])
end Go.Proofs
namespace Go.Proofs
open Go Go.Am
section
variable [yD]
section
variable {t:Tr uA}{Q:jB}{s:List Nat}
def sQ(s:List Nat):(Int.ofNat (wB s))=(s.length:Int):=by rw[jD];rfl
def EY(hs:s.length<4000000000000000000):iC yA F 37 [.str s,.func (.func 65) [] []] t=some (.str (nD iD s)):=by
 refine bE.2 (w37 ?_)
 simp only[uZ,t37,qA];exact Qf (fun n=>Mt) (fun {a m R}=>by rw[q65]) rfl hs s.length 0 (by omega) (fun j x hj=>by omega)
def zc1{n:Nat}:iC yA F 80 [.int .u8 (n:Int)] t=some (.bool (decide (n≠10))):=by
 refine bE.2 (w80 ?_)
 unfold t80;refine⟨?_,rfl⟩
 rw[oF];congr 1
 by_cases h:n=10
 ·subst h;rfl
 ·simp[h];omega
def zco(hs:s.length<4000000000000000000):iC yA F 37 [.str s,.func (.func 80) [] []] t=some (.str (nD (fun x=>decide (x≠10)) s)):=by
 refine bE.2 (w37 ?_)
 simp only[uZ,t37,qA];exact Qf (fun n=>zc1) (fun {a m R}=>by rw[q80]) rfl hs s.length 0 (by omega) (fun j x hj=>by omega)
def Hf(p:Nat->Bool)(s:List Nat):(nD p s).length<=s.length:=(List.takeWhile_sublist _).length_le
def SL(p:Nat->Bool)(s:List Nat):nD p s=s.take (nD p s).length:=by
 unfold nD;induction s with
 | nil=>rfl
 | cons a s ih=>
  rw[List.takeWhile_cons];split
  ·rw[ybn,List.take_succ_cons,<- ih]
  ·rfl
def OV(hs:s.length<4000000000000000000):iC yA F 103 [.str s] t=some (.tup [.str (if 24<(nD uJ s).length then []else nD uJ s),.int .i64 (if 24<(nD uJ s).length then 111 else 0)]):=by
 refine bE.2 (w103 ?_)
 unfold t103 uS;refine tB ?_
 rw[q37,EU hs,iA];refine vF ?_
 rw[sQ];by_cases h:24<(nD uJ s).length
 ·rw[yab h,yab h]
  exact rA (by rw[fC];exact decide_eq_true (by omega)) ⟨rfl,rfl⟩
 ·rw[yaa h,yaa h]
  exact oB (by rw[fC];simp;omega) ⟨rfl,rfl⟩
def GK:iC yA F 129 [.str s] t=some (.bool (qS s)):=by
 refine bE.2 (w129 ?_)
 unfold t129 uU uD;rw[sQ];unfold qS;by_cases h:1<s.length
 ·cases s with
  | nil=>simp at h
  | cons x r=>
   have hx:=vN (s:=x::r) (i:=0) (x:=x) rfl
   refine rA (by rw[fC];exact decide_eq_true (by omega)) (mA hx (kB ⟨?_,rfl⟩))
   rw[oF,decide_eq_true h];congr 1
   by_cases h48:x=48
   ·subst h48;rfl
   ·simp[h48];omega
 ·refine oB (by rw[fC];simp;omega) ⟨?_,rfl⟩
  simp[h]
def zec:iC yA F 104 [.str s] t=some (.bool (qH s)):=by
 have loop:10<=s.length->∀(k i:Nat),i+k=10->jp 104 2 [.str s,.int .i64 (i:Int)] t (fun v t'=>v=.bool (((List.range 10).drop i).all fun i=>yL i (s.getD i 0))/\t'=t):=by
  intro hl k;induction k with
  | zero=>
   intro i hi;refine zgq ?_
   unfold Vy qL;refine oB (by rw[fC];simp;omega) ⟨?_,rfl⟩
   rw[ybt (by simp;omega)]
   rfl
  | succ k ih=>
   intro i hi;have hx:s[i]?=some s[i]:=ybd (by omega)
   have hd:s.getD i 0=s[i]:=by rw[List.getD_eq_getElem?_getD,hx];rfl
   have e:((List.range 10).drop i).all (fun i=>yL i (s.getD i 0))=(yL i s[i]&&((List.range 10).drop (i+1)).all fun i=>yL i (s.getD i 0)):=by
    rw[ybl (by simp;omega),ycg]
    simp only[List.getElem_range,hd]
   have e3:kD (i:Int)=.int .i64 ((i+1:Nat):Int):=by
    show zA.int .i64 (bA .i64 ((i:Int)+1))=_
    rw[aC (by omega) (by omega)];rfl
   have next:yL i s[i]=true->jp 104 2 [.str s,kD (i:Int)] t (fun v t'=>v=.bool (((List.range 10).drop i).all fun i=>yL i (s.getD i 0))/\t'=t):=fun h=>by
    rw[e,h,ycn,e3];exact ih (i+1) (by omega)
   have sep:(i=4\/i=7)->wp 104 (uQ15 s (i:Int)) t (fun v t'=>v=.bool (((List.range 10).drop i).all fun i=>yL i (s.getD i 0))/\t'=t):=fun h47=>by
    unfold uQ15 uU uD;refine mA (vN hx) (kB ?_)
    have hda:yL i s[i]=decide (s[i]=45):=by unfold yL;rw[yab h47]
    by_cases h45:s[i]=45
    ·refine oB (by rw[oF,h45];simp) (zD (next (by rw[hda];exact decide_eq_true h45)))
    ·refine rA (by rw[oF];simp;omega) ⟨?_,rfl⟩
     rw[e,hda,decide_eq_false h45];rfl
   refine zgq ?_
   unfold Vy uU uB uD;refine rA (by rw[fC];exact decide_eq_true (by omega)) ?_
   by_cases h4:i=4
   ·exact rA (by rw[oF];exact decide_eq_true (by omega)) (sep (.inl h4))
   refine oB (by rw[oF];simp;omega) ?_
   by_cases h7:i=7
   ·exact rA (by rw[oF];exact decide_eq_true (by omega)) (sep (.inr h7))
   refine oB (by rw[oF];simp;omega) (mA (vN hx) (kB (tB ?_)))
   rw[q65];show qE (iC yA F 65 [.int .u8 (s[i]:Int)] t) _
   rw[Mt,iA];have hda:yL i s[i]=iD s[i]:=by unfold yL;rw[yaa (by omega)]
   refine vE ?_
   cases hb:iD s[i]with
   | true=>exact oB (by simp) (zD (next (by rw[hda,hb])))
   | false=>
    refine rA rfl ⟨?_,rfl⟩
    rw[e,hda,hb];rfl
 refine bE.2 (w104 ?_)
 unfold t104 uD;rw[sQ];unfold qH;by_cases h:10<=s.length
 ·refine oB (by rw[fC];simp;omega) (zD ?_)
  rw[decide_eq_true h,ycn];exact loop h 10 0 rfl
 ·refine rA (by rw[fC];exact decide_eq_true (by omega)) ⟨?_,rfl⟩
  rw[decide_eq_false h];rfl
def YC(h:qH s=true):qH (s.take 10)=true/\(s.take 10).length=10:=by
 have hl:10<=s.length:=by unfold qH at h;simp only[ybb,decide_eq_true_eq]at h;exact h.1
 refine⟨?_,by rw[yda];omega⟩
 unfold qH at h ⊢
 simp only[ybb,decide_eq_true_eq,ycb,List.mem_range]at h ⊢
 refine⟨by rw[yda];omega,fun i hi=>?_⟩
 have:=h.2 i hi
 rw[List.getD_eq_getElem?_getD]at this ⊢
 rw[ydf,yab hi];exact this
def YE(hg:aJ t)(hd:qH s=true):iC yA F 105 [.str s] t=some (.tup [.str (if dN s then []else s.take 10),.int .i64 (if dN s then 113 else 0)]):=by
 obtain⟨h1,h2⟩:=YC hd
 have hl:10<=s.length:=by unfold qH at hd;simp only[ybb,decide_eq_true_eq]at hd;exact hd.1
 have tail:(decide (10<s.length)&&jP s 10)=false->wp 105 (uQ6 s) t fun v' t'=>v'=.tup [.str (if dN s then []else s.take 10),.int .i64 (if dN s then 113 else 0)]/\t'=t:=by
  intro hf;have hb:dN s=decide (tX (s.take 10)=none):=by unfold dN;rw[hf,Bool.false_or]
  unfold uQ6 uS uI;have hs:=Ek (s:=s) (k:=10) (by omega)
  refine mA hs (vF (tB ?_))
  rw[q97,MM hg h2 h1,iA];refine mA rfl (kB (mA rfl (kB ?_)))
  rw[hb]
  cases hx:tX (s.take 10)with
  | none=>exact rA (by decide) ⟨rfl,rfl⟩
  | some n=>exact oB (fun h=>by cases h) (mA hs (vF ⟨rfl,rfl⟩))
 refine bE.2 (w105 ?_)
 unfold t105 uU uB;rw[sQ];by_cases h10:10<s.length
 ·have hx:s[10]?=some s[10]:=ybd h10
  refine rA (by rw[fC];exact decide_eq_true (by omega)) (mA (vN hx) (kB (tB ?_)))
  rw[q38];show qE (iC yA F 38 [.int .u8 (s[10]:Int)] t) _
  rw[Zm,iA];refine vE ?_
  have hf:jP s 10=uJ s[10]:=by unfold jP;rw[hx]
  cases hb:uJ s[10]with
  | true=>
   refine rA rfl ⟨?_,rfl⟩
   have:dN s=true:=by unfold dN;rw[hf,hb,decide_eq_true h10];rfl
   rw[this];rfl
  | false=>
   refine oB (by simp) (tail ?_)
   rw[hf,hb,yay]
 ·exact oB (by rw[fC];simp;omega) (tail (by rw[decide_eq_false h10];rfl))
def UX(hs:s.length<1000000):iC yA F 106 [.str s] t=some (.tup [.str (if lI s then []else s.take (tF s)),.int .i64 (if lI s then 112 else 0)]):=by
 have hfl:=Hf iD s
 have hfirst:(tD s).length<=s.length:=hfl
 have hsecond:(tD s).length+1+(uF s).length<=s.length\/uF s=[]:=by
  unfold uF;split
  ·rename_i h
   have h1:=(ybc.1 h).1
   left
   have:=Hf iD (s.drop ((tD s).length+1))
   rw[ydj]at this;omega
  ·right;rfl
 have hnl:tF s<=s.length:=by
  unfold tF;split
  ·exact hfirst
  ·rename_i h;exact hsecond.resolve_right h
 have tail:decide (200<tF s)=false->jP s (tF s)=false->wp 106 (uQ9 (tD s) (uF s) s (tF s:Int)) t fun v' t'=>v'=.tup [.str (if lI s then []else s.take (tF s)),.int .i64 (if lI s then 112 else 0)]/\t'=t:=by
  intro h1 h2;have hb:lI s=(qS (tD s)||qS (uF s)||decide (uF s=[48])):=by unfold lI;rw[h1,h2,Bool.false_or,Bool.false_or]
  unfold uQ9 uB uS;refine tB ?_
  rw[q129,GK,iA];refine vE ?_
  cases p1:qS (tD s)with
  | true=>rw[hb,p1];exact rA rfl ⟨rfl,rfl⟩
  | false=>
   refine oB (by simp) (tB ?_)
   rw[q129,GK,iA];refine vE ?_
   cases p2:qS (uF s)with
   | true=>rw[hb,p1,p2];exact rA rfl ⟨rfl,rfl⟩
   | false=>
    refine oB (by simp) ?_
    rw[hb,p1,p2]
    cases p3:sG (uF s) [48]with
    | true=>
     rw[decide_eq_true ((sN _ _).1 p3)]
     exact rA rfl ⟨rfl,rfl⟩
    | false=>
     rw[decide_eq_false fun e=>by rw[(sN _ _).2 e]at p3;cases p3]
     exact oB (by simp) (mA (Ek hnl) (vF ⟨rfl,rfl⟩))
 have p17:jp 106 17 [.str s,.str (tD s),.int .i64 (tF s:Int),.str (uF s)] t fun v' t'=>v'=.tup [.str (if lI s then []else s.take (tF s)),.int .i64 (if lI s then 112 else 0)]/\t'=t:=by
  refine zjx ?_
  unfold DN uU uB;rw[sQ];by_cases h:tF s<s.length
  ·have hx:s[tF s]?=some s[tF s]:=ybd h
   refine rA (by rw[fC];exact decide_eq_true (by omega)) (mA (vN hx) (kB (tB ?_)))
   rw[q38];show qE (iC yA F 38 [.int .u8 (s[tF s]:Int)] t) _
   rw[Zm,iA];refine vE ?_
   have hf:jP s (tF s)=uJ s[tF s]:=by unfold jP;rw[hx]
   by_cases h2:200<tF s
   ·refine rA (by rw[fC];exact decide_eq_true (by omega)) ⟨?_,rfl⟩
    have:lI s=true:=by unfold lI;rw[decide_eq_true h2];simp
    rw[this];rfl
   ·refine oB (by rw[fC];simp;omega) ?_
    cases hb:uJ s[tF s]with
    | true=>
     refine rA rfl ⟨?_,rfl⟩
     have:lI s=true:=by unfold lI;rw[hf,hb];simp
     rw[this];rfl
    | false=>exact oB (by simp) (tail (decide_eq_false h2) (by rw[hf,hb]))
  ·have hf:jP s (tF s)=false:=by unfold jP;rw[List.getElem?_eq_none (by omega)]
   refine oB (by rw[fC];simp;omega) ?_
   by_cases h2:200<tF s
   ·refine rA (by rw[fC];exact decide_eq_true (by omega)) ⟨?_,rfl⟩
    have:lI s=true:=by unfold lI;rw[decide_eq_true h2];simp
    rw[this];rfl
   ·exact oB (by rw[fC];simp;omega) (tail (decide_eq_false h2) hf)
 have p13:jp 106 13 [.str s,.str (tD s),.int .i64 ((tD s).length:Int),.str (uF s)] t fun v' t'=>v'=.tup [.str (if lI s then []else s.take (tF s)),.int .i64 (if lI s then 112 else 0)]/\t'=t:=by
  refine zjy ?_
  unfold DO
  cases he:sG (uF s) []with
  | true=>
   have h0:=(sN _ _).1 he
   refine oB (by simp) (zD ?_)
   have:tF s=(tD s).length:=by unfold tF;rw[yab h0]
   have e:((tF s:Nat):Int)=((tD s).length:Int):=by rw[this]
   rw[e]at p17;exact p17
  | false=>
   have h0:uF s≠[]:=fun e=>by rw[(sN _ _).2 e]at he;cases he
   have hle:=hsecond.resolve_right h0
   refine rA rfl (zD ?_)
   have e:uW (((tD s).length:Int)+uW (1+Int.ofNat (wB (uF s))))=((tF s:Nat):Int):=by
    unfold uW tF;rw[sQ,yaa h0,aC (n:=1+((uF s).length:Int)) (by omega) (by omega),aC (by omega) (by omega)]
    omega
   rw[e];exact p17
 refine bE.2 (w106 ?_)
 unfold t106 uS uU;refine tB ?_
 rw[q37,EY (by omega),iA]
 refine vF ?_
 rw[sQ,sQ];show wp 106 (.ite (oC ((tD s).length:Int) (s.length:Int)) _ (.jump 13 [.str s,.str (tD s),uZ ((tD s).length:Int),.str []])) t _
 by_cases h:(tD s).length<s.length
 ·have hx:s[(tD s).length]?=some s[(tD s).length]:=ybd h
  refine rA (by rw[fC];exact decide_eq_true (by omega)) (mA (vN hx) (kB ?_))
  by_cases h47:s[(tD s).length]=47
  ·have e:uW (((nD iD s).length:Int)+1)=(((tD s).length+1:Nat):Int):=by
    show bA .i64 (((tD s).length:Int)+1)=_
    rw[aC (by omega) (by omega)];rfl
   have h2:uF s=nD iD (s.drop ((tD s).length+1)):=by unfold uF;rw[yab (by rw[hx,h47])]
   refine rA (by rw[oF,h47];rfl) ?_
   rw[e];refine mA (Px (by omega)) (vF (tB ?_))
   rw[q37,EY (by rw[ydj];omega),iA,<- h2]
   exact vF (zD p13)
  ·have h2:uF s=[]:=by unfold uF;rw[yaa (by rw[hx];simpa using h47)]
   refine oB (by rw[oF];simp;omega) (zD ?_)
   rw[h2]at p13;exact p13
 ·have h2:uF s=[]:=by unfold uF;rw[yaa (by rw[List.getElem?_eq_none (by omega)];simp)]
  refine oB (by rw[fC];simp;omega) (zD ?_)
  rw[h2]at p13;exact p13
end
end
section
variable {b:Nat}
variable [yD]
def zdr(c:Nat):∀s:List Nat,(xV c s).isSome=s.contains c:=by
 intro s;induction s with
 | nil=>rfl
 | cons x r ih=>
  rw[List.contains_cons,<- ih];have e:xV c (x::r)=bif Nat.beq x c then some 0 else ob (xV c r) fun n=>some (n+1):=rfl
  rw[e]
  cases h:Nat.beq x c with
  | true=>rw[eC.1 h];simp
  | false=>
   have:¬ c=x:=fun e=>by rw[e,Nat.beq_refl]at h;cases h
   have h2:(c == x)=false:=by simp[this]
   rw[cond_false,h2,Bool.false_or]
   cases xV c r<;>rfl
abbrev pI(sp:Nat)(src:List Nat)(ln cl off:Nat):aE:=xC sp none [.int .i64 (ln:Int),.int .i64 (cl:Int),.str src,.int .i64 (off:Int)]
section
variable {tf t:Tr uA}{A B:List aE}{Q:jB}{sp ln cl off:Nat}{src:List Nat}
def g0  : jC yA 145 0 (.ptr b 0)=some (.ptr b 0):=by kernel_rfl
def g1  : jC yA 145 1 (.ptr b 0)=some (.ptr b 2):=by kernel_rfl
def g2  : jC yA 145 2 (.ptr b 0)=some (.ptr b 3):=by kernel_rfl
def p0  : jC yA 29 0 (.ptr b 0)=some (.ptr b 0):=by kernel_rfl
def p1  : jC yA 29 1 (.ptr b 0)=some (.ptr b 1):=by kernel_rfl
def zfp(h:zB yA.base tf t (A++pI sp src ln cl off::B)):fA yA 9 ⟨0,t⟩ (.ptr sp 2)=some (.str src):=(zB.cel h).load1 jN rfl rfl
def Ld(h:zB yA.base tf t (A++pI sp src ln cl off::B)):fA yA 3 ⟨0,t⟩ (.ptr sp 3)=some (.int .i64 (off:Int)):=(zB.cel h).load1 wP rfl rfl
def sc_ln(h:zB yA.base tf t (A++pI sp src ln cl off::B)):fA yA 3 ⟨0,t⟩ (.ptr sp 0)=some (.int .i64 (ln:Int)):=(zB.cel h).load1 wP rfl rfl
def sc_cl(h:zB yA.base tf t (A++pI sp src ln cl off::B)):fA yA 3 ⟨0,t⟩ (.ptr sp 1)=some (.int .i64 (cl:Int)):=(zB.cel h).load1 wP rfl rfl
def sc_pl(h:zB yA.base tf t (A++pI sp src ln cl off::B)):fA yA 29 ⟨0,t⟩ (.ptr sp 0)=some (.agg [.int .i64 (ln:Int),.int .i64 (cl:Int)]):=by
 have:=(zB.cel h).at.load (j:=0) (n:=2) gV rfl rfl (by simp)
 simpa using this
def Lc{ln' cl' off' j:Nat}{x:Nat}(h:zB yA.base tf t (A++pI sp src ln cl off::B))(hj:j<4)(he:fJ [.int .i64 (ln:Int),.int .i64 (cl:Int),.str src,.int .i64 (off:Int)] j [.int .i64 (x:Int)]=[.int .i64 (ln':Int),.int .i64 (cl':Int),.str src,.int .i64 (off':Int)]) :
  ∃t',(∀q,bB yA 3 (.ptr sp j) (.int .i64 (x:Int)) ⟨q,t⟩=some (aD,⟨q,t'⟩))/\zB yA.base tf t' (A++pI sp src ln' cl' off'::B):=by
 obtain⟨t',h1,h2⟩:=zB.setCel (j:=j) (v:=.int .i64 (x:Int)) h wP rfl (by show j+1<=4;omega) rfl
 refine⟨t',h1,?_⟩
 have:(zA.int .i64 (x:Int)).cells=[.int .i64 (x:Int)]:=rfl
 rw[this,he]at h2;exact h2
def Hi(h:zB yA.base tf t (A++pI sp src ln cl off::B))(ho:off<=src.length):iC yA F 79 [.ptr sp 0] t=some (.str (src.drop off)):=by
 refine bE.2 (w79 ?_)
 unfold t79 sI uI uS;exact mA nl (mA g1 (vC (zfp h) (vF (mA nl (mA g2 (vC (Ld h) (kB (mA (Px ho) (vF ⟨rfl,rfl⟩)))))))))
def EF{n:Nat}(h:zB yA.base tf t (A++pI sp src ln cl off::B))(h1:off+n<1000000)(h2:cl+n<1000000)(hQ:∀t',zB yA.base tf t' (A++pI sp src ln (cl+n) (off+n)::B)->Q (.tup []) t'):Wc yA F 78 [.ptr sp 0,.int .i64 (n:Int)] t Q:=by
 refine w78 ?_
 unfold t78 sI uI;have e1:uW ((off:Int)+(n:Int))=((off+n:Nat):Int):=by show bA .i64 _=_;rw[aC (by omega) (by omega)];rfl
 have e2:uW ((cl:Int)+(n:Int))=((cl+n:Nat):Int):=by show bA .i64 _=_;rw[aC (by omega) (by omega)];rfl
 refine mA nl (mA g2 (vC (Ld h) (kB (mA nl (mA g2 (bC fun b _ _=>?_))))))
 rw[e1];obtain⟨t1,k1,k2⟩:=Lc (j:=3) (x:=off+n) (ln':=ln) (cl':=cl) (off':=off+n) h (by omega) rfl
 refine⟨_,_,k1 b,mA nl (mA g0 (mA p1 (vC (sc_cl k2) (kB (mA nl (mA g0 (mA p1 (bC fun b _ _=>?_))))))))⟩
 rw[e2];obtain⟨t2,m1,m2⟩:=Lc (j:=1) (x:=cl+n) (ln':=ln) (cl':=cl+n) (off':=off+n) k2 (by omega) rfl
 exact⟨_,_,m1 b,hQ t2 m2⟩
def VF(h:zB yA.base tf t (A++pI sp src ln cl off::B))(h1:off<900000)(h2:ln<900000)(hQ:∀t',zB yA.base tf t' (A++pI sp src (ln+1) 1 (off+1)::B)->Q (.tup []) t'):Wc yA F 77 [.ptr sp 0] t Q:=by
 refine w77 ?_
 unfold t77 sI uI;have e:∀n:Nat,n<900000->kD (n:Int)=.int .i64 ((n+1:Nat):Int):=fun n hn=>by
  show zA.int .i64 (bA .i64 ((n:Int)+1))=_
  rw[aC (by omega) (by omega)];rfl
 refine mA nl (mA g2 (vC (Ld h) (kB (mA nl (mA g2 (bC fun b _ _=>?_))))))
 rw[e off h1];obtain⟨t1,k1,k2⟩:=Lc (j:=3) (x:=off+1) (ln':=ln) (cl':=cl) (off':=off+1) h (by omega) rfl
 refine⟨_,_,k1 b,mA nl (mA g0 (mA p0 (vC (sc_ln k2) (kB (mA nl (mA g0 (mA p0 (bC fun b _ _=>?_))))))))⟩
 rw[e ln h2];obtain⟨t2,m1,m2⟩:=Lc (j:=0) (x:=ln+1) (ln':=ln+1) (cl':=cl) (off':=off+1) k2 (by omega) rfl
 refine⟨_,_,m1 b,mA nl (mA g0 (mA p1 (bC fun b _ _=>?_)))⟩
 obtain⟨t3,n1,n2⟩:=Lc (j:=1) (x:=1) (ln':=ln+1) (cl':=1) (off':=off+1) m2 (by omega) rfl
 exact⟨_,_,n1 b,hQ t3 n2⟩
def UZ(s:List Nat):tF s<=s.length:=by
 have hfirst:(tD s).length<=s.length:=Hf iD s
 unfold tF;split
 ·exact hfirst
 ·rename_i h
  unfold uF at h ⊢
  by_cases hx:s[(tD s).length]?=some 47
  ·rw[yab hx]
   have h1:=(ybc.1 hx).1
   have:=Hf iD (s.drop ((tD s).length+1))
   rw[ydj]at this;omega
  ·rw[yaa hx]at h;exact absurd rfl h
def CQ{s w:List Nat}{k:Nat}(h:mE s=.tok k w):w.length<=s.length/\w=s.take w.length:=by
 cases s with
 | nil=>cases h
 | cons b r=>
  unfold mE at h;simp only at h
  split at h
  ·split at h
   ·cases h
   ·cases h;exact⟨Hf _ _,SL _ _⟩
  split at h
  ·rename_i hd
   split at h
   ·cases h
   ·cases h
    have hl:10<=(b::r).length:=by
     simp only[ybb]at hd;have:=hd.2
     unfold qH at this;simp only[ybb,decide_eq_true_eq]at this;exact this.1
    rw[yda,Nat.min_eq_left hl];exact⟨hl,rfl⟩
  split at h
  ·split at h
   ·cases h
   ·cases h
    have hl:=UZ (b::r)
    rw[yda,Nat.min_eq_left hl];exact⟨hl,rfl⟩
  split at h
  ·cases h;exact⟨by simp,rfl⟩
  ·cases h
def zbz(hg:aJ tf)(h:zB yA.base tf t (A++pI sp src ln cl off::B))(hoff:off<src.length)(hlen:src.length<=65536)(hcl:cl<200000)(hby:∀b∈src,b<256)
  (hQ:∀t',match mE (src.drop off)with
   | .bad e=>zB yA.base tf t' (A++pI sp src ln cl off::B)->Q (.tup [.agg [.int .u8 0,.str [],.int .i64 (ln:Int),.int .i64 (cl:Int)],.int .i64 (e:Int)]) t'
   | .tok k w=>zB yA.base tf t' (A++pI sp src ln (cl+w.length) (off+w.length)::B)->Q (.tup [.agg [.int .u8 (k:Int),.str w,.int .i64 (ln:Int),.int .i64 (cl:Int)],.int .i64 0]) t'):Wc yA F 81 [.ptr sp 0] t Q:=by
 have hgt:=hg.mono h.tle
 have hx:src[off]?=some src[off]:=ybd hoff
 have hdrop:src.drop off=src[off]::src.drop (off+1):=ybl hoff
 have hb256:=hby src[off] (ycj _)
 have hdl:(src.drop off).length<=65536:=by rw[ydj];omega
 have j37:∀(k e:Nat) (w:List Nat),(e≠0->mE (src.drop off)=.bad e)->(e=0->mE (src.drop off)=.tok k w)->jp 81 37 [.ptr sp 0,.int .u8 (k:Int),.str w,.int .i64 (e:Int),.int .u8 0,.str [],.int .i64 0,.int .i64 0,.int .i64 (ln:Int),.int .i64 (cl:Int)] t Q:=by
  intro k e w h1 h2;refine j81_37 ?_
  unfold ze9;by_cases h0:e=0
  ·have ht:=h2 h0
   subst h0;refine oB (by decide) (tB ?_)
   rw[q78,sQ];obtain⟨l1,_⟩:=CQ ht
   rw[ydj]at l1;refine EF h (by omega) (by omega) fun t' h'=>rA rfl (rA rfl ?_)
   have:=hQ t'
   rw[ht]at this;exact this h'
  ·have ht:=h1 h0
   refine rA (by rw[oF];simp;omega) (rA rfl (rA rfl ?_))
   have:=hQ t
   rw[ht]at this;exact this h
 have hq1:xN src[off]=false->(iD src[off]=true->qH (src.drop off)=false)->wp 81 (uQ1 (src[off]:Int) (.ptr sp 0) (cellsOf [.int .i64 (ln:Int),.int .i64 (cl:Int)])) t Q:=by
  intro hl hd;unfold uQ1 uB uS uI;refine tB ?_
  rw[q65];show qE (iC yA F 65 [.int .u8 (src[off]:Int)] t) _
  rw[Mt,iA];refine vE ?_
  cases hdg:iD src[off]with
  | true=>
   have hda:=hd hdg
   refine rA rfl (tB ?_)
   rw[q79,Hi h (by omega),iA]
   refine vF (tB ?_)
   rw[q106,UX (by omega),iA]
   have ht:mE (src.drop off)=if lI (src.drop off)then .bad 112 else .tok 2 ((src.drop off).take (tF (src.drop off))):=by
    rw[hdrop]at hda ⊢
    unfold mE;simp only[hl,hdg,hda,yay,ybq,if_false,if_true]
   refine mA rfl (vF (mA rfl (kB (zD ?_))))
   cases hb:lI (src.drop off)with
   | true=>exact j37 2 112 [] (fun _=>by rw[ht,hb];rfl) (fun e=>by cases e)
   | false=>exact j37 2 0 _ (fun e=>absurd rfl e) (fun _=>by rw[ht,hb];rfl)
  | false=>
   refine oB (by simp) (tB ?_)
   have hgp:yA.prims.get 107=some (sP Lt):=by kernel_rfl
   have hix:iC yA F 107 [.str [40,41,44,43,45,42,47,60,61],.int .u8 (src[off]:Int)] t=some (.int .i64 (match xV src[off] [40,41,44,43,45,42,47,60,61]with | some n=>.ofNat n | none=>.negSucc 0)):=by
    refine Lr hgp fun H=>?_
    show sB (Nat.blt src[off] 256) _=_
    rw[kC.2 hb256];rfl
   rw[q107];show qE (iC yA F 107 [.str [40,41,44,43,45,42,47,60,61],.int .u8 (src[off]:Int)] t) _
   rw[hix,iA];refine kB ?_
   have hsg:Mr src[off]=(xV src[off] [40,41,44,43,45,42,47,60,61]).isSome:=by rw[zdr];rfl
   have ht:mE (src.drop off)=if Mr src[off]then .tok 4 [src[off]]else .bad 110:=by
    rw[hdrop];unfold mE;simp only[hl,hdg,Bool.false_and,ybq,if_false]
   cases hi:xV src[off] [40,41,44,43,45,42,47,60,61]with
   | some n=>
    refine rA (by rw[fS];exact decide_eq_true (Int.natCast_nonneg n)) (tB ?_)
    rw[q79,Hi h (by omega),iA]
    have hs1:=Ek (s:=src.drop off) (k:=1) (by rw[ydj];omega)
    refine vF (mA hs1 (vF (zD ?_)))
    have:(src.drop off).take 1=[src[off]]:=by rw[hdrop];rfl
    rw[this];exact j37 4 0 _ (fun e=>absurd rfl e) (fun _=>by rw[ht,hsg,hi];rfl)
   | none=>
    refine oB (by decide) (zD ?_)
    exact j37 0 110 _ (fun _=>by rw[ht,hsg,hi];rfl) (fun e=>by cases e)
 refine w81 ?_
 unfold t81 sI uG uS uI uU uB;refine mA nl (mA g0 (vC (sc_pl h) (dC (X:=cellsOf [.int .i64 (ln:Int),.int .i64 (cl:Int)]) (nQ rfl) (rA rfl (mA nl (mA g1 (vC (zfp h) (vF (mA nl (mA g2 (vC (Ld h) (kB (mA (vN hx) (kB (tB ?_)))))))))))))))
 rw[q36];show qE (iC yA F 36 [.int .u8 (src[off]:Int)] t) _
 rw[Ru,iA];refine vE ?_
 cases hl:xN src[off]with
 | true=>
  refine rA rfl (tB ?_)
  rw[q79,Hi h (by omega),iA]
  refine vF (tB ?_)
  rw[q103,OV (by omega),iA]
  have ht:mE (src.drop off)=if 24<(nD uJ (src.drop off)).length then .bad 111 else .tok 1 (nD uJ (src.drop off)):=by
   rw[hdrop];unfold mE;simp only[hl,if_true]
  refine mA rfl (vF (mA rfl (kB (zD ?_))))
  by_cases h24:24<(nD uJ (src.drop off)).length
  ·rw[yab h24,yab h24]
   exact j37 1 111 [] (fun _=>by rw[ht,yab h24]) (fun e=>by cases e)
  ·rw[yaa h24,yaa h24]
   exact j37 1 0 _ (fun e=>absurd rfl e) (fun _=>by rw[ht,yaa h24])
 | false=>
  refine oB (by simp) (tB ?_)
  rw[q65];show qE (iC yA F 65 [.int .u8 (src[off]:Int)] t) _
  rw[Mt,iA];refine vE ?_
  cases hdg:iD src[off]with
  | false=>exact oB (by simp) (hq1 hl (fun h=>by rw[hdg]at h;cases h))
  | true=>
   refine rA rfl (tB ?_)
   rw[q79,Hi h (by omega),iA]
   refine vF (tB ?_)
   rw[q104,zec,iA];refine vE ?_
   cases hda:qH (src.drop off)with
   | false=>exact oB (by simp) (hq1 hl (fun _=>hda))
   | true=>
    refine rA rfl (tB ?_)
    rw[q79,Hi h (by omega),iA]
    refine vF (tB ?_)
    rw[q105,YE hgt hda,iA];have ht:mE (src.drop off)=if dN (src.drop off)then .bad 113 else .tok 3 ((src.drop off).take 10):=by
     rw[hdrop]at hda ⊢
     unfold mE;simp only[hl,hdg,hda,Bool.and_true,ybq,if_false,if_true]
    refine mA rfl (vF (mA rfl (kB (zD ?_))))
    cases hb:dN (src.drop off)with
    | true=>exact j37 3 113 [] (fun _=>by rw[ht,hb];rfl) (fun e=>by cases e)
    | false=>exact j37 3 0 _ (fun e=>absurd rfl e) (fun _=>by rw[ht,hb];rfl)
end
end
section
variable {acc:List cB}{v:zA}
variable [yD]
def gH (l:Nat)(r:kN):aE where
 blks:=[l]
 ok:=fun _ t=>t.get l=some (.loop r)
 keep:=fun h _ k=>by rw[(k l (by simp)).1];exact h
 live:=fun h k hk=>by rw[ydd]at hk;subst hk;exact⟨_,h⟩
def el66:gQ yA 66 75 4:=⟨⟨_,rT,rfl,rfl⟩,⟨_,ty75,rfl,rfl,by decide,by decide⟩,fun y h=>by rw[ty75]at h;cases h;rfl⟩
def tok_rd{t:Tr uA}(x:cB):RD t x.d x.cs:=by
 unfold cB.d cB.cs;exact vK.2 ⟨[[_],[_],[_],[_]],rfl,rD.2 ⟨_,_,rfl,sL.2 rfl,rD.2 ⟨_,_,rfl,eL.2 rfl,rD.2 ⟨_,_,rfl,sL.2 rfl,rD.2 ⟨_,_,rfl,sL.2 rfl,cF.2 rfl⟩⟩⟩⟩⟩
abbrev pP(a0 a1 a2 a6:Nat)(pl pc e:Nat)(acc:List cB)(v:zA):List aE:=
 [xC a0 none [.nilslice],xC a1 none [.int .i64 (pl:Int),.int .i64 (pc:Int)],xC a2 none [.int .i64 (e:Int)],xC a6 none [v],pD yA.base 4 (acc.map cB.d) v]
section
variable {tf t:Tr uA}{Q:jB}{sp ln cl off a0 a1 a2 a6 l:Nat}{src:List Nat}{r:kN}{L:List aE}
def zB.delLp(h:zB yA.base tf t (L++[gH l r])):zB yA.base tf (t.del l) L:=by
 have h1:=h.low l (by simp[gH])
 have h2:l∉L.flatMap aE.blks:=by
  have:=zB.notin (A:=L) (B:=[]) (o:=gH l r) h (k:=l) (by simp[gH])
  rwa [ycd]at this
 have h3:=zB.drop (A:=L) (B:=[]) (o:=gH l r) h
 rw[ycd]at h3;exact h3.other h2 h1.2 fun c hc=>by rw[Tr.get_del,yaa hc]
def zB.setLp(h:zB yA.base tf t L)(hn:t.get l=none)(hb:yA.base<=l):zB yA.base tf (t.set l (.loop r)) (L++[gH l r]):=by
 have:=zB.add (A:=L) (B:=[]) (o':=gH l r) (t':=t.set l (.loop r)) (by rwa [ycd]) (fun k hk=>by rw[Tr.get_set,yaa (fun e=>hk (by simp[gH,e]))]) (fun k hk=>by simp[gH]at hk;subst hk;exact⟨hn,hb⟩) (by show(t.set l (.loop r)).get l=_;rw[Tr.get_set,yab rfl]) (by simp[gH]) (h.tle.trans (oO hn _).1)
 exact this
def YldR (l:Nat)(r:kN)(a0 a1 a2 a6:Nat):Prop:=∀args t1 Q1,args.length=2->t1.get l=some (.loop r)->Jq yA F 22 2 ([.ptr a0 0,.ptr a1 0,.ptr a2 0,.ptr a6 0]++args) (t1.del l) (fun v t2=>t2.get l=none->∃b,v=.bool b/\Q1 v (t2.set l (.loop (nP b r))))->Wq yA F rC (yo+l) args t1 Q1
def zc6(h1:r.state=.ready)(h2:r.pending=none):nP true r=r:=by
 obtain⟨a,b,c,d,e,f,g,h,i⟩:=r
 have h1:a=.ready:=h1
 have h2:b=none:=h2
 subst h1;subst h2;rfl
def Ua  {x:cB}(hy:YldR l r a0 a1 a2 a6)(hr1:r.state=.ready)(hr2:r.pending=none)(hlen:acc.length<300000)
  (h:zB yA.base tf t (pP a0 a1 a2 a6 0 0 0 acc v++L++[gH l r])) (hQ:∀tf' t' v',yB tf tf'->zB yA.base tf' t' (pP a0 a1 a2 a6 0 0 0 (acc++[x]) v'++L++[gH l r])->Q (.bool true) t') :
  Wq yA F rC (yo+l) [.agg x.cs,.int .i64 0] t Q:=by
 have hl:t.get l=some (.loop r):=h.ok (gH l r) (by simp)
 have hlb:=(h.low l (by simp[gH])).1
 refine hy _ _ _ rfl hl ?_
 have h1:=zB.delLp h
 refine j22_2 ?_
 unfold zij;refine rA rfl (oB (by decide) ?_)
 have lv:fA yA 66 ⟨0,t.del l⟩ (.ptr a6 0)=some v:=(zB.cel (A:=[_,_,_]) h1).load1 rT rfl rfl
 refine vC lv (bC fun b hb _=>?_)
 have hf:tM (fun i=>some (i*4,4)) [(0,.agg x.cs)] (gI [.int .u8 0,.str [],.int .i64 0,.int .i64 0] 1)=some [x.cs].flatten:=by
  rw[Fq (sz:=4) (z:=[.int .u8 0,.str [],.int .i64 0,.int .i64 0]) (v:=.agg x.cs) rfl rfl];rfl
 obtain⟨tf1,t1,k1,k2,k3,k4⟩:=litN (C:=yA) (T:=66) (el:=75) (sz:=4) (n:=1) (ds:=[x.d]) (cl:=[x.cs]) (ps:=[(0,.agg x.cs)]) rT rfl ty75 rfl rfl (by decide) hf (Ew rfl) rfl (rD.2 ⟨_,_,rfl,tok_rd x,cF.2 rfl⟩) h1 hb
 refine⟨_,_,k1,bC fun c hc hcb=>?_⟩
 obtain⟨t2,v2,m1,m2,m3⟩:=zB.append1 (A:=[xC a0 none [.nilslice],xC a1 none [.int .i64 0,.int .i64 0],xC a2 none [.int .i64 0],xC a6 none [v]]) (B:=L) (cs:=[]) el66 k3 k4 (by simp;omega) hc hcb
 refine⟨_,_,m1,bC fun q _ _=>?_⟩
 have hcell:v2.cells=[v2]:=by
  have:=m2.ok (pD yA.base 4 (acc.map cB.d++[x.d]) v2) (by simp)
  rcases this with⟨e,_⟩ | ⟨b,cl,c,e,_⟩ <;> (subst e;rfl)
 obtain⟨t3,n1,n2⟩:=zB.setCel (A:=[xC a0 none [.nilslice],xC a1 none [.int .i64 0,.int .i64 0],xC a2 none [.int .i64 0]]) (j:=0) (v:=v2) m2 rT (by rw[hcell];rfl) (by rw[hcell];show 0+1<=1;omega) (by rw[hcell,fI];simp[m3])
 refine⟨_,_,n1 q,fun hn=>⟨true,rfl,?_⟩⟩
 rw[zc6 hr1 hr2];have e:fJ [v] 0 v2.cells=[v2]:=by rw[hcell];rfl
 rw[e]at n2;refine hQ tf1 _ v2 k2 ?_
 have hs:=zB.setLp (r:=r) n2 hn hlb
 rw[show acc.map cB.d++[x.d]=(acc++[x]).map cB.d by simp]at hs
 exact hs
def zbp  {e pl pc:Nat}(hy:YldR l r a0 a1 a2 a6)(he:e≠0)
  (h:zB yA.base tf t (pP a0 a1 a2 a6 0 0 0 acc v++L++[gH l r])) (hQ:∀t',zB yA.base tf t' (pP a0 a1 a2 a6 pl pc e acc v++L++[gH l (nP false r)])->Q (.bool false) t') :
  Wq yA F rC (yo+l) [.agg [.int .u8 0,.str [],.int .i64 (pl:Int),.int .i64 (pc:Int)],.int .i64 (e:Int)] t Q:=by
 have hl:t.get l=some (.loop r):=h.ok (gH l r) (by simp)
 have hlb:=(h.low l (by simp[gH])).1
 refine hy _ _ _ rfl hl ?_
 have h1:=zB.delLp h
 refine j22_2 ?_
 unfold zij;refine rA rfl (rA (by rw[oF];simp;omega) (bC fun q _ _=>?_))
 obtain⟨t1,n1,n2⟩:=zB.setCel (A:=[]) (j:=0) (v:=.nilslice) h1 rT rfl (by show 0+1<=1;omega) rfl
 have hs:same 10 (.agg [.int .i64 (pl:Int),.int .i64 (pc:Int)]) (.agg [.int .i64 (pl:Int),.int .i64 (pc:Int)])=true:=by
  show(same 9 (.int .i64 (pl:Int)) (.int .i64 (pl:Int))&&(same 9 (.int .i64 (pc:Int)) (.int .i64 (pc:Int))&&true))=true
  rw[Qb,Qb];rfl
 refine⟨_,_,n1 q,rA hs (bC fun q _ _=>?_)⟩
 obtain⟨t2,m1,m2⟩:=zB.setCel (A:=[_]) (j:=0) (v:=.agg [.int .i64 (pl:Int),.int .i64 (pc:Int)]) n2 gV rfl (by show 0+2<=2;omega) rfl
 refine⟨_,_,m1 q,bC fun q _ _=>?_⟩
 obtain⟨t3,p1,p2⟩:=zB.setCel (A:=[_,_]) (j:=0) (v:=.int .i64 (e:Int)) m2 vZ rfl (by show 0+1<=1;omega) rfl
 exact⟨_,_,p1 q,fun hn=>⟨false,rfl,hQ _ (zB.setLp p2 hn hlb)⟩⟩
def Om{args:List zA}:qM (.func (.yld l) [] []) args=some (yo+l,args):=rfl
abbrev opB(op:Option (Nat × Nat)):Bool:=op.isSome
def zb1{bx:Nat}(hy:YldR l r a0 a1 a2 a6)(hr1:r.state=.ready)(hr2:r.pending=none)(hlen:src.length<=65536)(hby:∀b∈src,b<256) :
  ∀(k off ln cl:Nat) (op:Option (Nat × Nat)) (i0 i1:Int) (acc:List cB) (v:zA) (tf t:Tr uA),src.length-off<k->off<=src.length->ln<=off+1->cl<=off+1->acc.length<=2*off->(op.isSome=true->acc.length+1<=2*off)->(∀p,op=some p->i0=(p.1:Int)/\i1=(p.2:Int)) →
   aJ tf->vD tf bx none [.str src]->zB yA.base tf t (pP a0 a1 a2 a6 0 0 0 acc v++[pI sp src ln cl off]++[gH l r]) →
   (match yN k (src.drop off) ln cl op with
    | .ok m=>∀tf' t' v' ln' cl' off',yB tf tf'->zB yA.base tf' t' (pP a0 a1 a2 a6 0 0 0 (acc++m) v'++[pI sp src ln' cl' off']++[gH l r])->Q (.tup []) t'
    | .er e pl pc=>∀tf' t' v' acc' ln' cl' off',yB tf tf'->zB yA.base tf' t' (pP a0 a1 a2 a6 pl pc e acc' v'++[pI sp src ln' cl' off']++[gH l (nP false r)])->Q (.tup []) t') →
   jp 76 2 [.func (.yld l) [] [],.ptr bx 0,.ptr sp 0,.bool op.isSome,.int .i64 i0,.int .i64 i1] t Q:=by
 intro k;induction k with
 | zero=>intro off;omega
 | succ k ih=>
  intro off ln cl op i0 i1 acc v tf t hk hoff hln hcl hacc hacc2 hop hg hbx h hQ;have ho:=Ld (A:=pP a0 a1 a2 a6 0 0 0 acc v) (B:=[gH l r]) (by simpa using h)
  have hA:zB yA.base tf t (pP a0 a1 a2 a6 0 0 0 acc v++pI sp src ln cl off::[gH l r]):=by simpa using h
  have hlb:∀ {t},yB tf t->fA yA 9 ⟨0,t⟩ (.ptr bx 0)=some (.str src):=fun hl=>(vD.le hbx hl).load1 jN rfl rfl
  refine j76_2 ?_
  unfold t76_2 uI uS uU uB uG;refine mA g2 (vC ho (kB (vC (hlb h.tle) (vF ?_))))
  rw[sQ];by_cases hlt:off<src.length
  ·have hx:src[off]?=some src[off]:=ybd hlt
   have hdrop:src.drop off=src[off]::src.drop (off+1):=ybl hlt
   rw[hdrop]at hQ;unfold yN at hQ;refine rA (by rw[fC];exact decide_eq_true (by omega)) (vC (hlb h.tle) (vF (mA g2 (vC ho (kB (mA (vN hx) (kB ?_)))))))
   by_cases h10:src[off]=10
   ·rw[yab h10]at hQ
    refine rA (by rw[oF,h10];rfl) ?_
    have nlg:∀(acc':List cB) (v':zA) (tf1 t1:Tr uA),acc'.length<=2*(off+1)->yB tf tf1->zB yA.base tf1 t1 (pP a0 a1 a2 a6 0 0 0 acc' v'++[pI sp src ln cl off]++[gH l r]) →
      (match yN k (src.drop (off+1)) (ln+1) 1 none with
       | .ok m=>∀tf' t' v' ln' cl' off',yB tf1 tf'->zB yA.base tf' t' (pP a0 a1 a2 a6 0 0 0 (acc'++m) v'++[pI sp src ln' cl' off']++[gH l r])->Q (.tup []) t'
       | .er e pl pc=>∀tf' t' v' acc' ln' cl' off',yB tf1 tf'->zB yA.base tf' t' (pP a0 a1 a2 a6 pl pc e acc' v'++[pI sp src ln' cl' off']++[gH l (nP false r)])->Q (.tup []) t') →
      wp 76 (.call 77 [.ptr sp 0] fun _=>.jump 2 [.func (.yld l) [] [],.ptr bx 0,.ptr sp 0,.bool false,uZ i0,uZ i1]) t1 Q:=by
     intro acc' v' tf1 t1 ha hle h1 hQ1;refine tB ?_
     rw[q77];refine VF (A:=pP a0 a1 a2 a6 0 0 0 acc' v') (B:=[gH l r]) (by simpa using h1) (by omega) (by omega) fun t2 h2=>?_
     exact zD (ih (off+1) (ln+1) 1 none i0 i1 acc' v' tf1 t2 (by omega) (by omega) (by omega) (by omega) ha (fun h=>by cases h) (fun p hp=>by cases hp) (hg.mono hle) (vD.le hbx hle) (by simpa using h2) hQ1)
    cases op with
    | some p=>
     obtain⟨e0,e1⟩:=hop p rfl
     subst e0 e1
     refine rA rfl (rA rfl (mU Om ?_))
     refine Ua (x:=endT p) (L:=[pI sp src ln cl off]) hy hr1 hr2 (by omega) h fun tf1 t1 v1 k1 k2=>?_
     refine vE (oB (by simp) (nlg (acc++[endT p]) v1 tf1 t1 (by have:=hacc2 rfl;simp;omega) k1 k2 ?_))
     unfold LR.close at hQ;revert hQ
     generalize yN k (src.drop (off+1)) (ln+1) 1 none=res
     intro hQ
     cases res with
     | ok m=>exact fun tf' t' v' ln' cl' off' q1 q2=>hQ tf' t' v' ln' cl' off' (k1.trans q1) (by simpa using q2)
     | er e pl pc=>exact fun tf' t' v' acc' ln' cl' off' q1 q2=>hQ tf' t' v' acc' ln' cl' off' (k1.trans q1) q2
    | none=>
     refine oB (by simp) (nlg acc v tf t (by omega) (yB.refl _) h ?_)
     exact hQ
   rw[yaa h10]at hQ;refine oB (by rw[oF];simp;omega) ?_
   have blank:∀n:Nat,off+n<=src.length->0<n->(match yN k (src.drop (off+n)) ln (cl+n) op with
     | .ok m=>∀tf' t' v' ln' cl' off',yB tf tf'->zB yA.base tf' t' (pP a0 a1 a2 a6 0 0 0 (acc++m) v'++[pI sp src ln' cl' off']++[gH l r])->Q (.tup []) t'
     | .er e pl pc=>∀tf' t' v' acc' ln' cl' off',yB tf tf'->zB yA.base tf' t' (pP a0 a1 a2 a6 pl pc e acc' v'++[pI sp src ln' cl' off']++[gH l (nP false r)])->Q (.tup []) t') →
     wp 76 (.call 78 [.ptr sp 0,.int .i64 (n:Int)] fun _=>.jump 2 [.func (.yld l) [] [],.ptr bx 0,.ptr sp 0,.bool op.isSome,uZ i0,uZ i1]) t Q:=by
    intro n hn hn0 hQ1;refine tB ?_
    rw[q78];refine EF hA (by omega) (by omega) fun t2 h2=>?_
    exact zD (ih (off+n) ln (cl+n) op i0 i1 acc v tf t2 (by omega) hn (by omega) (by omega) (by omega) (fun h=>by have:=hacc2 h;omega) hop hg hbx (by simpa using h2) hQ1)
   by_cases h32:src[off]=32
   ·rw[yab (.inl h32)]at hQ
    exact rA (by rw[oF,h32];rfl) (blank 1 (by omega) (by omega) hQ)
   refine oB (by rw[oF];simp;omega) ?_
   by_cases h9:src[off]=9
   ·rw[yab (.inr h9)]at hQ
    exact rA (by rw[oF,h9];rfl) (blank 1 (by omega) (by omega) hQ)
   rw[yaa (by simp[h32,h9])]at hQ
   refine oB (by rw[oF];simp;omega) ?_
   by_cases h35:src[off]=35
   ·rw[yab h35]at hQ
    have hrl:=Hf (fun x=>decide (x≠10)) (src.drop off)
    rw[ydj]at hrl;have hr0:0<(nD (fun x=>decide (x≠10)) (src.drop off)).length:=by
     rw[hdrop];unfold nD;rw[List.takeWhile_cons,yab (by simp[h10])];simp
    refine rA (by rw[oF,h35];rfl) (tB ?_)
    rw[q79,Hi hA (by omega),iA]
    refine vF (tB ?_)
    rw[q37,zco (by rw[ydj];omega),iA]
    refine vF ?_
    rw[sQ];rw[<- hdrop]at hQ;rw[List.drop_drop]at hQ;exact blank _ (by omega) hr0 hQ
   rw[yaa h35]at hQ;refine oB (by rw[oF];simp;omega) (tB ?_)
   rw[<- hdrop]at hQ;rw[q81];refine zbz hg hA hlt hlen (by omega) hby fun t1=>?_
   cases htk:mE (src.drop off)with
   | bad e=>
    rw[htk]at hQ;intro h1;have he:e≠0:=by
     intro e0;subst e0;rw[hdrop]at htk;unfold mE at htk;simp only at htk
     repeat (split at htk<;>try (cases htk;done))
    refine mA rfl (dC (X:=cellsOf [.int .u8 0,.str [],.int .i64 (ln:Int),.int .i64 (cl:Int)]) (nQ rfl) (mA rfl (kB (rA rfl (mU Om ?_)))))
    refine zbp (pl:=ln) (pc:=cl) (L:=[pI sp src ln cl off]) hy he (by simpa using h1) fun t2 h2=>?_
    exact vE (rA rfl (hQ tf t2 v acc ln cl off (yB.refl _) h2))
   | tok kd w=>
    rw[htk]at hQ;intro h1;obtain⟨lw,_⟩:=CQ htk
    rw[ydj]at lw;have hw0:0<w.length:=by
     rw[hdrop]at htk;unfold mE at htk;simp only at htk
     split at htk
     ·rename_i hl
      split at htk
      ·cases htk
      ·cases htk
       unfold nD;rw[List.takeWhile_cons,yab (by unfold uJ;rw[hl];rfl)];simp
     split at htk
     ·rename_i hd
      split at htk
      ·cases htk
      ·cases htk;rw[yda,ybn];omega
     split at htk
     ·rename_i hd _
      split at htk
      ·cases htk
      ·cases htk
       have:0<tF (src[off]::src.drop (off+1)):=by
        have:0<(tD (src[off]::src.drop (off+1))).length:=by
         unfold tD nD;rw[List.takeWhile_cons,yab (by assumption)];simp
        unfold tF;split<;>omega
       rw[yda,ybn];omega
     split at htk
     ·cases htk;simp
     ·cases htk
    refine mA rfl (dC (X:=cellsOf [.int .u8 (kd:Int),.str w,.int .i64 (ln:Int),.int .i64 (cl:Int)]) (nQ rfl) (mA rfl (kB (rA rfl (mU Om ?_)))))
    refine Ua (acc:=acc) (v:=v) (x:=⟨kd,w,ln,cl⟩) (L:=[pI sp src ln (cl+w.length) (off+w.length)]) hy hr1 hr2 (by omega) (by simpa using h1) fun tf2 t2 v2 k1 k2=>?_
    have hA2:zB yA.base tf2 t2 (pP a0 a1 a2 a6 0 0 0 (acc++[⟨kd,w,ln,cl⟩]) v2++pI sp src ln (cl+w.length) (off+w.length)::[gH l r]):=by simpa using k2
    refine vE (oB (by simp) (oB (by decide) (mA g0 (vC (sc_pl hA2) (dC (X:=cellsOf [.int .i64 (ln:Int),.int .i64 ((cl+w.length:Nat):Int)]) (nQ rfl) (rA rfl (zD ?_)))))))
    refine ih (off+w.length) ln (cl+w.length) (some (ln,cl+w.length)) _ _ (acc++[⟨kd,w,ln,cl⟩]) v2 tf2 t2 (by omega) (by omega) (by omega) (by omega) (by simp;omega) (fun _=>by simp;omega) (fun p hp=>by cases hp;exact⟨rfl,rfl⟩) (hg.mono k1) (vD.le hbx k1) k2 ?_
    have hdd:(src.drop off).drop w.length=src.drop (off+w.length):=by rw[List.drop_drop]
    simp only[hdd]at hQ;unfold LR.cons at hQ;revert hQ
    generalize yN k (src.drop (off+w.length)) ln (cl+w.length) (some (ln,cl+w.length))=res
    intro hQ
    cases res with
    | ok m=>exact fun tf' t' v' ln' cl' off' q1 q2=>hQ tf' t' v' ln' cl' off' (k1.trans q1) (by simpa using q2)
    | er e pl pc=>exact fun tf' t' v' acc' ln' cl' off' q1 q2=>hQ tf' t' v' acc' ln' cl' off' (k1.trans q1) q2
  ·have hdrop:src.drop off=[]:=ybt (by omega)
   rw[hdrop]at hQ;unfold yN at hQ;refine oB (by rw[fC];simp;omega) ?_
   cases op with
   | some p=>
    obtain⟨e0,e1⟩:=hop p rfl
    subst e0 e1
    refine rA rfl (rA rfl (mU Om ?_))
    refine Ua (x:=endT p) (L:=[pI sp src ln cl off]) hy hr1 hr2 (by omega) h fun tf1 t1 v1 k1 k2=>?_
    exact vE (hQ tf1 t1 v1 ln cl off k1 k2)
   | none=>
    refine oB (by simp) ?_
    have:=hQ tf t v ln cl off (yB.refl _) (by simpa using h)
    exact this
end
end
section
variable [yD]
def xK (s:List Nat):LR:=if 65536<s.length then .er 3 0 0 else fU s
section
variable {t:Tr uA}{Q:jB}{s:List Nat}
def zfy(hg:aJ t)(hby:∀b∈s,b<256)
  (hQ:match xK s with
   | .ok m=>∀t' v,yB t t'->xB t' 4 (m.map cB.d) v->Q (.tup [v,.agg [.int .i64 0,.int .i64 0],.int .i64 0]) t'
   | .er e a b=>∀t',yB t t'->Q (.tup [.nilslice,.agg [.int .i64 (a:Int),.int .i64 (b:Int)],.int .i64 (e:Int)]) t'):Wc yA F 22 [.str s] t Q:=by
 have ho:zB yA.base t t []:=⟨yB.refl _,by simp,by simp,by simp⟩
 refine w22 ?_
 unfold t22;refine bC fun a0 h0 b0=>?_
 obtain⟨t1,e1,e2,e3,e4⟩:=aS (C:=yA) rT h0
 have o1:=zB.newCel (A:=[]) (B:=[]) ho h0 b0 e2 e3 e4
 refine⟨_,_,e1,bC fun a1 h1 b1=>?_⟩
 obtain⟨t2,f1,f2,f3,f4⟩:=aS (C:=yA) gV h1
 have o2:=zB.newCel (A:=[_]) (B:=[]) o1 h1 b1 f2 f3 f4
 refine⟨_,_,f1,bC fun a2 h2 b2=>?_⟩
 obtain⟨t3,k1,k2,k3,k4⟩:=aS (C:=yA) vZ h2
 have o3:=zB.newCel (A:=[_,_]) (B:=[]) o2 h2 b2 k2 k3 k4
 refine⟨_,_,k1,?_⟩
 rw[sQ];have ends:∀ {tf t':Tr uA} {L:List aE} {v:zA} {a b e:Nat},zA.one v=true->zB yA.base tf t' ([xC a0 none [v],xC a1 none [.int .i64 (a:Int),.int .i64 (b:Int)],xC a2 none [.int .i64 (e:Int)]]++L) →
   fA yA 66 ⟨0,t'⟩ (.ptr a0 0)=some v/\fA yA 29 ⟨0,t'⟩ (.ptr a1 0)=some (.agg [.int .i64 (a:Int),.int .i64 (b:Int)])/\fA yA 30 ⟨0,t'⟩ (.ptr a2 0)=some (.int .i64 (e:Int)):=by
  intro tf t' L v a b e _ h;refine⟨(zB.cel (A:=[]) h).load1 rT rfl rfl,?_,(zB.cel (A:=[_,_]) h).load1 vZ rfl rfl⟩
  have:=(zB.cel (A:=[_]) h).at.load (j:=0) (n:=2) gV rfl rfl (by simp)
  simpa using this
 by_cases hl:65536<s.length
 ·have hx:xK s=.er 3 0 0:=by unfold xK;rw[yab hl]
  rw[hx]at hQ;refine rA (by rw[fC];exact decide_eq_true (by omega)) (rA rfl (bC fun q _ _=>?_))
  obtain⟨t4,n1,n2⟩:=zB.setCel (A:=[]) (j:=0) (v:=.nilslice) o3 rT rfl (by show 0+1<=1;omega) rfl
  refine⟨_,_,n1 q,bC fun q _ _=>?_⟩
  obtain⟨t5,m1,m2⟩:=zB.setCel (A:=[_]) (j:=0) (v:=.agg [.int .i64 0,.int .i64 0]) n2 gV rfl (by show 0+2<=2;omega) rfl
  refine⟨_,_,m1 q,bC fun q _ _=>?_⟩
  obtain⟨t6,p1,p2⟩:=zB.setCel (A:=[_,_]) (j:=0) (v:=.int .i64 3) m2 vZ rfl (by show 0+1<=1;omega) rfl
  obtain⟨l1,l2,l3⟩:=ends (L:=[]) (a:=0) (b:=0) (e:=3) (v:=.nilslice) rfl p2
  exact⟨_,_,p1 q,vC l1 (vC l2 (vC l3 (hQ t6 p2.tle)))⟩
 ·have hx:xK s=fU s:=by unfold xK;rw[yaa hl]
  rw[hx]at hQ;refine oB (by rw[fC];simp;omega) (bC fun a6 h6 b6=>?_)
  obtain⟨t4,n1,n2,n3,n4⟩:=aS (C:=yA) rT h6
  have o4:=zB.newCel (A:=[_,_,_]) (B:=[]) o3 h6 b6 n2 n3 n4
  refine⟨_,_,n1,tB ?_⟩
  rw[q49];refine w49 ?_
  unfold t49;refine bC fun bx hbx bbx=>?_
  obtain⟨t5,m1,⟨cc,m2,m2'⟩,m3,m4⟩:=Tf (v:=.str s) hbx
  have o5:=o4.junk hbx m4
  have hfb:=o4.tfn hbx
  obtain⟨p1,p2⟩:=o5.froze (fun hm=>o4.fresh hbx hm) m2 hfb
  generalize htf:t.set bx (uA.cells cc (zA.str s).cells.length none)=tf1 at p1 p2
  have hcb:vD tf1 bx none [.str s]:=⟨cc,by rw[<- htf,Tr.get_set,yab rfl];rfl,m2'⟩
  refine⟨_,_,m1,?_⟩
  show qA _ _ _ (.range (mS yA) (.func (.func 76) [] [.ptr bx 0]) 2 2 [.ptr a0 0,.ptr a1 0,.ptr a2 0,.ptr a6 0] _ _) _ _
  refine⟨Nat.le_add_right _ _,fun l r hl0 hlb hr1 hr2 hy=>?_⟩
  have hra:Cd (mS yA) (.func (.func 76) [] [.ptr bx 0]) l=some (76,[.func (.yld l) [] [],.ptr bx 0]):=by
   unfold Cd;simp only[zA.asFunc,oA];have:mS yA 76=true:=by kernel_rfl
   rw[this];rfl
  rw[hra,iA];show Wq yA F rC 76 _ _ _
  rw[q76];have o6:=zB.setLp (r:=r) p1 hl0 hlb
  have hyr:YldR l r a0 a1 a2 a6:=fun args t1 Q1 h1 h2 h3=>hy args t1 Q1 h1 h2 h3
  refine w76 ?_
  unfold t76 uS;have lb:fA yA 9 ⟨0,t5.set l (.loop r)⟩ (.ptr bx 0)=some (.str s):=(vD.le hcb o6.tle).load1 jN rfl rfl
  refine rA rfl (vC lb (vF (rA rfl (bC fun sp hsp bsp=>?_))))
  obtain⟨t7,r1,r2,r3,r4⟩:=aS (C:=yA) ty145 hsp
  have o7:=zB.newCel (A:=[_,_,_,_]) (B:=[gH l r]) o6 hsp bsp r2 r3 r4
  refine⟨_,_,r1,bC fun q _ _=>?_⟩
  obtain⟨t8,s1,s2⟩:=zB.setCel (A:=[_,_,_,_]) (j:=0) (v:=.agg [.int .i64 1,.int .i64 1,.str s,.int .i64 0]) o7 ty145 rfl (by show 0+4<=4;omega) rfl
  refine⟨_,_,s1 q,zD ?_⟩
  have o8:zB yA.base tf1 t8 (pP a0 a1 a2 a6 0 0 0 [] .nilslice++[pI sp s 1 1 0]++[gH l r]):=
   zB.add (A:=[xC a0 none [.nilslice],xC a1 none [.int .i64 0,.int .i64 0],xC a2 none [.int .i64 0],xC a6 none [.nilslice]]) (B:=[pI sp s 1 1 0,gH l r]) (o':=pD yA.base 4 (([]:List cB).map cB.d) .nilslice) s2 (fun _ _=>rfl) (fun k hk=>by simp[pD,cI]at hk) (.inl ⟨rfl,rfl⟩) (by simp[pD,cI]) s2.tle
  refine zb1 hyr hr1 hr2 (by omega) hby (s.length+1) 0 1 1 none 0 0 [] .nilslice tf1 t8 (by omega) (by omega) (by omega) (by omega) (by simp) (fun h=>by cases h) (fun p hp=>by cases hp) (hg.mono p2) hcb o8 ?_
  rw[ycr];unfold fU at hQ;revert hQ
  generalize yN (s.length+1) s 1 1 none=res
  intro hQ
  cases res with
  | ok m=>
   intro tf' t' v' ln' cl' off' u1 u2;rw[yah]at u2;refine .inl ⟨u2.ok (gH l r) (by simp),?_⟩
   have u3:=zB.delLp u2
   have lv:fA yA 66 ⟨0,t'.del l⟩ (.ptr a6 0)=some v':=(zB.cel (A:=[_,_,_]) u3).load1 rT rfl rfl
   have hv:fR yA.base tf' (t'.del l) 4 (m.map cB.d) v':=u3.ok (pD yA.base 4 (m.map cB.d) v') (by simp)
   have hone:zA.one v'=true:=hv.one
   have hcell:v'.cells=[v']:=by
    rcases hv with⟨e,_⟩ | ⟨b,cl,c,e,_⟩ <;> (subst e;rfl)
   refine vC lv (rA rfl (bC fun q _ _=>?_))
   obtain⟨t9,x1,x2⟩:=zB.setCel (A:=[]) (j:=0) (v:=v') u3 rT (by rw[hcell];rfl) (by rw[hcell];show 0+1<=1;omega) (by rw[hcell,fI];simp[hone])
   have e9:fJ [zA.nilslice] 0 v'.cells=[v']:=by rw[hcell];rfl
   rw[e9]at x2;refine⟨_,_,x1 q,bC fun q _ _=>?_⟩
   obtain⟨t10,y1,y2⟩:=zB.setCel (A:=[_]) (j:=0) (v:=.agg [.int .i64 0,.int .i64 0]) x2 gV rfl (by show 0+2<=2;omega) rfl
   refine⟨_,_,y1 q,bC fun q _ _=>?_⟩
   obtain⟨t11,z1,z2⟩:=zB.setCel (A:=[_,_]) (j:=0) (v:=.int .i64 0) y2 vZ rfl (by show 0+1<=1;omega) rfl
   obtain⟨l1,l2,l3⟩:=ends (L:=[_,_,_]) (a:=0) (b:=0) (e:=0) hone z2
   refine⟨_,_,z1 q,vC l1 (vC l2 (vC l3 ?_))⟩
   obtain⟨tf2,w1,w2,w3⟩:=zB.freezeL (A:=[_,_,_,_]) (B:=[pI sp s ln' cl' off']) z2
   exact hQ t11 v' (p2.trans (u1.trans z2.tle)) (w3.mono w2.tle)
  | er e pl pc=>
   intro tf' t' v' acc' ln' cl' off' u1 u2;refine .inr ⟨u2.ok (gH l (nP false r)) (by simp),?_⟩
   have u3:=zB.delLp u2
   obtain⟨l1,l2,l3⟩:=ends (L:=[_,_,_]) (v:=.nilslice) rfl u3
   exact vC l1 (vC l2 (vC l3 (hQ _ (p2.trans (u1.trans u3.tle)))))
def eT(s:List Nat):Nat:=(s.reverse.takeWhile fun b=>decide (b≠10)).length
def zjj(hl:s.length<1000000):iC yA F 55 [.str s,.int .u8 10] t=some (.int .i64 ((s.length:Int)-1-(eT s:Int))):=by
 have loop:∀(k:Nat),k<=s.length->eT s=(s.length-k)+eT (s.take k)->jp 87 2 [.str s,.int .u8 10,.int .i64 ((k:Int)-1)] t fun v t'=>v=.int .i64 ((s.length:Int)-1-(eT s:Int))/\t'=t:=by
  intro k;induction k with
  | zero=>
   intro hk he;refine j87_2 ?_
   unfold zic;refine oB (by rw[fS];simp) ⟨?_,rfl⟩
   rw[List.take_zero]at he;have:eT []=0:=rfl
   congr 1
   omega
  | succ k ih=>
   intro hk he;have hx:s[k]?=some s[k]:=ybd (by omega)
   have e1:((k+1:Nat):Int)-1=(k:Int):=by omega
   refine j87_2 ?_
   unfold zic uU;rw[e1];refine rA (by rw[fS];exact decide_eq_true (by omega)) (mA (vN hx) (kB ?_))
   have hc:eT (s.take (k+1))=if s[k]=10 then 0 else eT (s.take k)+1:=by
    unfold eT;rw[bQ hx,List.reverse_append,List.reverse_singleton,List.singleton_append,List.takeWhile_cons];by_cases h10:s[k]=10
    ·simp[h10]
    ·simp[h10]
   by_cases h10:s[k]=10
   ·rw[yab h10]at hc
    refine rA (by rw[oF,h10];rfl) ⟨?_,rfl⟩
    congr 1
    omega
   ·rw[yaa h10]at hc
    refine oB (by rw[oF];simp;omega) (zD ?_)
    have e2:uW ((k:Int)-1)=(k:Int)-1:=aC (by omega) (by omega)
    rw[e2];exact ih (by omega) (by omega)
 refine bE.2 (w55 ?_)
 unfold t55 uI;refine tB ?_
 have h87:iC yA F 87 [.str s,.int .u8 10] t=some (.int .i64 ((s.length:Int)-1-(eT s:Int))):=by
  refine bE.2 (w87 ?_)
  unfold t87;rw[sQ];have e2:uW ((s.length:Int)-1)=(s.length:Int)-1:=aC (by omega) (by omega)
  rw[e2];exact zD (loop s.length (ybk _) (by rw[List.take_length];omega))
 rw[q87,h87,iA];exact kB ⟨rfl,rfl⟩
def atL (s:List Nat):Nat:=zU 10 s+1
def atC (s:List Nat):Nat:=eT s+1
def zed(s:List Nat):zU 10 s<=s.length:=by
 induction s with
 | nil=>exact ybk _
 | cons b s ih=>
  have e:zU 10 (b::s)=bif Nat.beq b 10 then zU 10 s+1 else zU 10 s:=rfl
  rw[e,ybn]
  cases Nat.beq b 10 with
  | true=>rw[cond_true];omega
  | false=>rw[cond_false];omega
def WG(s:List Nat):eT s<=s.length:=by
 unfold eT;have:=(List.takeWhile_sublist (fun b=>decide (b≠10)) (l:=s.reverse)).length_le
 rwa [List.length_reverse]at this
def at_pv(hl:s.length<900000){n:Nat}(hn:n<=s.length):iC yA F 25 [.str s,.int .i64 (n:Int)] t=some (.agg [.int .i64 (atL (s.take n):Int),.int .i64 (atC (s.take n):Int)]):=by
 refine bE.2 (w25 ?_)
 unfold t25 uS uI;have e0:(bif oC (Int.ofNat (wB s)) (n:Int)then Int.ofNat (wB s)else(n:Int))=(n:Int):=by
  rw[sQ,fC,decide_eq_false (by omega)];rfl
 rw[e0];have hlen:(s.take n).length=n:=by rw[yda];omega
 refine oB (by rw[fC];simp) (mA (Ek hn) (vF (tB ?_)))
 have hgp:yA.prims.get 54=some (sP Lu):=by kernel_rfl
 have hcn:iC yA F 54 [.str (s.take n),.str [10]] t=some (.int .i64 (zU 10 (s.take n):Int)):=Lr hgp fun H=>rfl
 rw[q54,hcn,iA];refine kB (tB ?_)
 rw[q55];show qE (iC yA F 55 [.str (s.take n),.int .u8 10] t) _
 rw[zjj (by omega),iA]
 have h1:=zed (s.take n)
 have h2:=WG (s.take n)
 have e1:kD (zU 10 (s.take n):Int)=.int .i64 (atL (s.take n):Int):=by
  show zA.int .i64 (bA .i64 ((zU 10 (s.take n):Int)+1))=_
  rw[aC (by omega) (by omega)];rfl
 have e2:uW (Int.ofNat (wB (s.take n))-(((s.take n).length:Int)-1-(eT (s.take n):Int)))=(atC (s.take n):Int):=by
  unfold uW atC;rw[sQ,aC (by omega) (by omega)];omega
 refine kB (rA rfl (rA rfl ?_))
 rw[e1,e2];exact⟨rfl,rfl⟩
end
end
section
variable {y:eD}{cs':List zA}{e k':Int}
variable [yD]
def tRun (ty:Nat)(z:List zA)(cf:jI->List zA)(p0:List Nat)(p1:zA):T:=
 .heavy (kJ yA ty) fun a0=>
 .heavy (kJ yA 29) fun a1=>
 .heavy (kJ yA 30) fun a2=>
 .call 22 [(.str p0)] fun a3=>
 .opt (gG 0 a3) fun a4=>.opt (gG 1 a3) fun a5=>.asG [(.int .i64 0),(.int .i64 0)] a5 fun X6=>
 .opt (gG 2 a3) fun a7=>.asI .i64 a7 fun n8=>.heavy (bB yA 29 a1 (.agg [(.int .i64 (X6.i 0)),(.int .i64 (X6.i 1))])) fun _=>
 .heavy (bB yA 30 a2 (.int .i64 n8)) fun _=>
 .light (fun m=>fA yA 30 ⟨0,m⟩ a2) fun a9=>.asI .i64 a9 fun n10=>.ite (!wC n10 0)
 (.light (fun m=>fA yA ty ⟨0,m⟩ a0) fun a11=>.asG z a11 fun X12=>
 .light (fun m=>fA yA 29 ⟨0,m⟩ a1) fun a13=>.asG [(.int .i64 0),(.int .i64 0)] a13 fun X14=>
 .light (fun m=>fA yA 30 ⟨0,m⟩ a2) fun a15=>.asI .i64 a15 fun n16=>.heavy (bB yA ty a0 (.agg (cf X12))) fun _=>
 .light (fun m=>fA yA 29 ⟨0,m⟩ a1) fun a17=>.ite (same 10 a17 (.agg [(.int .i64 (X14.i 0)),(.int .i64 (X14.i 1))])) (.light (fun m=>fA yA 30 ⟨0,m⟩ a2) fun a18=>.ite (same 10 a18 (.int .i64 n16)) (.heavy (bB yA 29 a1 (.agg [(.int .i64 (X14.i 0)),(.int .i64 (X14.i 1))])) fun _=>
 .light (fun m=>fA yA 30 ⟨0,m⟩ a2) fun a19=>.ite (same 10 a19 (.int .i64 n16)) (.heavy (bB yA 30 a2 (.int .i64 n16)) fun _=>
 .light (fun m=>fA yA ty ⟨0,m⟩ a0) fun a20=>.light (fun m=>fA yA 29 ⟨0,m⟩ a1) fun a21=>.light (fun m=>fA yA 30 ⟨0,m⟩ a2) fun a22=>.ret (.tup [a20,a21,a22])) .fail) .fail) .fail)
 (.call 25 [(.str p0),(.int .i64 (Int.ofNat (wB p0)))] fun a23=>
 .asG [(.int .i64 0),(.int .i64 0)] a23 fun X24=>
 .ite (zC zA.one [a4]) (.heavy (bM (.agg [a4,(.int .i64 0),(.int .i64 0),(.int .i64 (X24.i 0)),(.int .i64 (X24.i 1))])) fun a25=>
 .jump 11 [p1,a0,a1,a2,a25]) .fail)
def tR13 (ty:Nat)(z:List zA)(cf:jI->List zA)(v1 v4 v5 v6 v8:zA):T:=
 .callv v1 [v8] fun a0=>
 .asG z a0 fun X1=>
 .ite true (.heavy (bB yA ty v4 (.agg (cf X1))) fun _=>
 .heavy (bB yA 29 v5 (.agg [(.int .i64 0),(.int .i64 0)])) fun _=>
 .heavy (bB yA 30 v6 (.int .i64 0)) fun _=>
 .light (fun m=>fA yA ty ⟨0,m⟩ v4) fun a2=>.light (fun m=>fA yA 29 ⟨0,m⟩ v5) fun a3=>.light (fun m=>fA yA 30 ⟨0,m⟩ v6) fun a4=>.ret (.tup [a2,a3,a4])) .fail
def tR3 (ty:Nat)(z:List zA)(v0 v1 v2 v3:zA):T:=
 .opt ((oV .neq).f yA 20 (.tmp 8) (.const .nilIface) v3 .niliface) fun a0=>.asB a0 fun b1=>.ite b1
 (.heavy (bB yA ty v0 (.agg z)) fun _=>
 .heavy (bB yA 30 v1 (.int .i64 120)) fun _=>
 .opt (Ec yA 123 true v3) fun a2=>.opt (gG 0 a2) fun a3=>.asG [(.int .i64 0),(.int .i64 0),(.int .i64 0)] a3 fun X4=>
 .opt (gG 1 a2) fun a5=>.asB a5 fun b6=>.ite true (.ite b6
 (.heavy (bB yA 29 v2 (.agg [(.int .i64 (X4.i 0)),(.int .i64 (X4.i 1))])) fun _=>
 .ite (same 10 (.int .i64 (X4.i 2)) (.int .i64 (X4.i 2))) (.heavy (bB yA 30 v1 (.int .i64 (X4.i 2))) fun _=>
 .ret (.tup [])) .fail)
 (.ret (.tup []))) .fail)
 (.ret (.tup []))
def tRe (ty:Nat)(v4 v5 v6:zA):T:=.light (fun m=>fA yA ty ⟨0,m⟩ v4) fun a2=>.light (fun m=>fA yA 29 ⟨0,m⟩ v5) fun a3=>.light (fun m=>fA yA 30 ⟨0,m⟩ v6) fun a4=>.ret (.tup [a2,a3,a4])
def L3 (b0 b1 b2:Nat)(z:List zA)(a b k:Int):List aE:=[xC b0 none z,xC b1 none [.int .i64 a,.int .i64 b],xC b2 none [.int .i64 k]]
structure RT (T:Nat) (z:List zA) (cf:jI->List zA):Prop where
 ty:∃y,yA.tys.get T=some y/\y.desc.isAgg=true/\y.zero=z/\y.size=z.length
 one:zC zA.one z=true
 ag:mK z (.agg z)=some (cellsOf z)
 cf:cf (cellsOf z)=z
section
variable {t tf:Tr uA}{Q:jB}{s:List Nat}{T:Nat}{z:List zA}{cf:jI->List zA}{J:qF}{A B:List aE}{b0 b1 b2:Nat}{cs:List zA}{a b k:Int}{W:qF}
def ldS (h:zB yA.base tf t (A++xC b0 none cs::B))(hT:yA.tys.get T=some y)(ha:y.desc.isAgg=true)(hs:y.size=cs.length):fA yA T ⟨0,t⟩ (.ptr b0 0)=some (.agg cs):=by
 have:=h.cel.at.load (j:=0) (n:=cs.length) hT ha hs (by omega)
 simpa using this
def stS  (h:zB yA.base tf t (A++xC b0 none cs::B))(hT:yA.tys.get T=some y)(hs:y.size=cs.length)(hl:cs'.length=cs.length)(hone:zC zA.one cs'=true):∃t',(∀q,bB yA T (.ptr b0 0) (.agg cs') ⟨q,t⟩=some (aD,⟨q,t'⟩))/\zB yA.base tf t' (A++xC b0 none cs'::B):=by
 obtain⟨t',h1,h2⟩:=zB.setCel (j:=0) (v:=.agg cs') h hT (by show cs'.length=_;omega) (by show 0+cs'.length<=_;omega) hone
 refine⟨t',h1,?_⟩
 have hov:fJ cs 0 cs'=cs':=by
  unfold fJ;rw[List.take_zero,yah,ybt (by omega),ycd]
 have h2:zB yA.base tf t' (A++xC b0 none (fJ cs 0 cs')::B):=h2
 rwa [hov]at h2
def stI (h:zB yA.base tf t (A++xC b0 none [.int .i64 k]::B)):∃t',(∀q,bB yA 30 (.ptr b0 0) (.int .i64 k') ⟨q,t⟩=some (aD,⟨q,t'⟩))/\zB yA.base tf t' (A++xC b0 none [.int .i64 k']::B):=by
 obtain⟨t',h1,h2⟩:=zB.setCel (j:=0) (v:=.int .i64 k') h vZ rfl (by show 0+1<=1;omega) rfl
 exact⟨t',h1,h2⟩
def ag2{a b:Int}:mK [.int .i64 0,.int .i64 0] (.agg [.int .i64 a,.int .i64 b])=some (cellsOf [.int .i64 a,.int .i64 b]):=nQ rfl
def ziq(hR:RT T z cf)(hl:cs.length=z.length)(h:zB yA.base tf t (A++L3 b0 b1 b2 cs a b k))(hQ:Q (.tup [.agg cs,.agg [.int .i64 a,.int .i64 b],.int .i64 k]) t):qA yA.base W J (tRe T (.ptr b0 0) (.ptr b1 0) (.ptr b2 0)) t Q:=by
 obtain⟨y,h1,h2,h3,h4⟩:=hR.ty
 unfold tRe;refine vC (ldS h h1 h2 (by omega)) (vC (v:=.agg [.int .i64 a,.int .i64 b]) ?_ (vC (v:=.int .i64 k) ?_ hQ))
 ·exact ldS (A:=A++[xC b0 none cs]) (B:=[xC b2 none [.int .i64 k]]) (by simpa[L3]using h) gV rfl rfl
 ·have h':zB yA.base tf t ((A++[xC b0 none cs,xC b1 none [.int .i64 a,.int .i64 b]])++xC b2 none [.int .i64 k]::[]):=by simpa[L3]using h
  exact h'.cel.load1 vZ rfl rfl
def set0(hR:RT T z cf) (hl:cs.length=z.length)(hl':cs'.length=z.length)(hone:zC zA.one cs'=true)(h:zB yA.base tf t (A++L3 b0 b1 b2 cs a b k)):∃t',(∀q,bB yA T (.ptr b0 0) (.agg cs') ⟨q,t⟩=some (aD,⟨q,t'⟩))/\zB yA.base tf t' (A++L3 b0 b1 b2 cs' a b k):=by
 obtain⟨y,h1,h2,h3,h4⟩:=hR.ty
 exact stS h h1 (by omega) (by omega) hone
def set1{a' b':Int}(h:zB yA.base tf t (A++L3 b0 b1 b2 cs a b k)):∃t',(∀q,bB yA 29 (.ptr b1 0) (.agg [.int .i64 a',.int .i64 b']) ⟨q,t⟩=some (aD,⟨q,t'⟩))/\zB yA.base tf t' (A++L3 b0 b1 b2 cs a' b' k):=by
 obtain⟨t',h1,h2⟩:=stS (A:=A++[xC b0 none cs]) (B:=[xC b2 none [.int .i64 k]]) (cs:=[.int .i64 a,.int .i64 b]) (b0:=b1) (cs':=[.int .i64 a',.int .i64 b']) (by simpa[L3]using h) gV rfl rfl rfl
 exact⟨t',h1,by simpa[L3]using h2⟩
def set2 (h:zB yA.base tf t (A++L3 b0 b1 b2 cs a b k)):∃t',(∀q,bB yA 30 (.ptr b2 0) (.int .i64 k') ⟨q,t⟩=some (aD,⟨q,t'⟩))/\zB yA.base tf t' (A++L3 b0 b1 b2 cs a b k'):=by
 obtain⟨t',h1,h2⟩:=stI (A:=A++[xC b0 none cs,xC b1 none [.int .i64 a,.int .i64 b]]) (B:=[]) (k':=k') (by simpa[L3]using h)
 exact⟨t',h1,by simpa[L3]using h2⟩
def ld1(h:zB yA.base tf t (A++L3 b0 b1 b2 cs a b k)):fA yA 29 ⟨0,t⟩ (.ptr b1 0)=some (.agg [.int .i64 a,.int .i64 b]):=
 ldS (A:=A++[xC b0 none cs]) (B:=[xC b2 none [.int .i64 k]]) (by simpa[L3]using h) gV rfl rfl
def ld2(h:zB yA.base tf t (A++L3 b0 b1 b2 cs a b k)):fA yA 30 ⟨0,t⟩ (.ptr b2 0)=some (.int .i64 k):=by
 have h':zB yA.base tf t ((A++[xC b0 none cs,xC b1 none [.int .i64 a,.int .i64 b]])++xC b2 none [.int .i64 k]::[]):=by simpa[L3]using h
 exact h'.cel.load1 vZ rfl rfl
def clo_ok(hR:RT T z cf){x y:Int}(hl:cs.length=z.length)(h:zB yA.base tf t (A++L3 b0 b1 b2 cs a b k))(hQ:∀t',zB yA.base tf t' (A++L3 b0 b1 b2 z x y e)->Q (.tup []) t') :
  qA yA.base W J (tR3 T z (.ptr b0 0) (.ptr b2 0) (.ptr b1 0) (.iface 123 (.agg [.int .i64 x,.int .i64 y,.int .i64 e]))) t Q:=by
 unfold tR3;refine mA (v:=.bool true) (by kernel_rfl) (vE (rA rfl ?_))
 obtain⟨t1,h1,h2⟩:=set0 hR (cs':=z) hl rfl hR.one h
 refine bC fun q _ _=>⟨_,_,h1 q,?_⟩
 obtain⟨t2,h3,h4⟩:=set2 (k':=120) h2
 refine bC fun q _ _=>⟨_,_,h3 q,?_⟩
 refine mA (v:=.tup [.agg [.int .i64 x,.int .i64 y,.int .i64 e],.bool true]) (by kernel_rfl) (mA (v:=.agg [.int .i64 x,.int .i64 y,.int .i64 e]) rfl (dC (X:=cellsOf [.int .i64 x,.int .i64 y,.int .i64 e]) (nQ rfl) (mA (v:=.bool true) rfl (vE (rA rfl (rA rfl ?_))))))
 obtain⟨t3,h5,h6⟩:=set1 (a':=x) (b':=y) h4
 refine bC fun q _ _=>⟨_,_,h5 q,?_⟩
 refine rA (by show same 10 (.int .i64 e) (.int .i64 e)=true;simp[same,gN,oF]) ?_
 obtain⟨t4,h7,h8⟩:=set2 (k':=e) h6
 refine bC fun q _ _=>⟨_,_,h7 q,?_⟩
 exact hQ _ h8
def zfq  : same 10 (.int .i64 e) (.int .i64 e)=true:=by simp[same,gN,oF]
def same_2{a b:Int}:same 10 (.agg [.int .i64 a,.int .i64 b]) (.agg [.int .i64 a,.int .i64 b])=true:=by simp[same,same.sames,gN,oF]
def ze1{α:Type}{rd:Tr uA->α->zA->Prop}{good:Tr uA->α->List zA->Prop}{P:aI}{r:PR α}{g:Nat}(hR:RT T z cf)(hL:P.L=L3 b0 b1 b2 z 0 0 0)(h:St P tf t 0 0)
  (hQ:match r with
   | .ok x _=>∀tf' t' cs,yB tf tf'->yB tf' t'->good tf' x cs->Q (.tup [.agg cs,.agg [.int .i64 0,.int .i64 0],.int .i64 0]) t'
   | .er e i=>∀t',yB tf t'->Q (.tup [.agg z,.agg [.int .i64 ((yG P i).line:Int),.int .i64 ((yG P i).col:Int)],.int .i64 (e:Int)]) t')
  (hcall:∀Q E,Ok P rd 0 tf r Q E->gE yA F rC zF E g [.ptr P.bp 0] t Q) (hg:Nat.blt g pn=true)
  (hrd:∀tf' x v,rd tf' x v->∃cs,v=.agg cs/\cs.length=z.length/\mK z (.agg cs)=some (cellsOf cs)/\cf (cellsOf cs)=cs/\zC zA.one cs=true/\good tf' x cs) :
  qA yA.base (gE yA F rC zF fun v t'=>qA yA.base (Wq yA F rC) uR (tR3 T z (.ptr b0 0) (.ptr b2 0) (.ptr b1 0) v) t' fun _ t''=>qA yA.base (Wq yA F rC) uR (tRe T (.ptr b0 0) (.ptr b1 0) (.ptr b2 0)) t'' Q) uR
   (tR13 T z cf (.func (.func g) [] []) (.ptr b0 0) (.ptr b1 0) (.ptr b2 0) (.ptr P.bp 0)) t Q:=by
 unfold tR13;have hf:qM (.func (.func g) [] []) [.ptr P.bp 0]=some (g,[.ptr P.bp 0]):=by
  unfold qM;simp only[zA.asFunc,oA,hg,lE];rfl
 refine mU hf (hcall _ _ ?_)
 cases r with
 | er e i=>
  intro tf' t' n' d' hle hst;have ho:zB yA.base tf' t' ([jG P n' d']++L3 b0 b1 b2 z 0 0 0):=by rw[<- hL];exact hst.ob
  refine clo_ok hR rfl ho fun t2 ho2=>?_
  refine ziq hR rfl ho2 ?_
  exact hQ t2 (hle.trans ho2.tle)
 | ok x n=>
  intro tf' t' v hle hst hv;obtain⟨cs,rfl,h1,h2,h3,h4,h5⟩:=hrd _ _ _ hv
  have ho:zB yA.base tf' t' ([jG P n 0]++L3 b0 b1 b2 z 0 0 0):=by rw[<- hL];exact hst.ob
  refine dC h2 (rA rfl ?_)
  rw[h3];obtain⟨t1,k1,k2⟩:=set0 hR (cs':=cs) rfl h1 h4 ho
  refine bC fun q _ _=>⟨_,_,k1 q,?_⟩
  obtain⟨t2,k3,k4⟩:=set1 (a':=0) (b':=0) k2
  refine bC fun q _ _=>⟨_,_,k3 q,?_⟩
  obtain⟨t3,k5,k6⟩:=set2 (k':=0) k4
  refine bC fun q _ _=>⟨_,_,k5 q,?_⟩
  exact ziq hR h1 k6 (hQ tf' t3 cs hle k6.tle h5)
def EW{p1:zA}(hR:RT T z cf)(hg:aJ t)(hby:∀b∈s,b<256)(hgood:∀m,xK s=.ok m->s.length<900000/\m.length<300000/\∀x∈m,oU x)
  (hE:∀e a b,xK s=.er e a b->e≠0/\∀t',yB t t'->Q (.tup [.agg z,.agg [.int .i64 (a:Int),.int .i64 (b:Int)],.int .i64 (e:Int)]) t')
  (hT:∀m,xK s=.ok m->∀tf1 t1 P b0 b1 b2,P.tk=m->P.el=atL s->P.ec=atC s->P.L=L3 b0 b1 b2 z 0 0 0->yB t tf1->St P tf1 t1 0 0->J 11 [p1,.ptr b0 0,.ptr b1 0,.ptr b2 0,.ptr P.bp 0] t1 Q) :
  qA yA.base (Wq yA F rC) J (tRun T z cf s p1) t Q:=by
 obtain⟨y,y1,y2,y3,y4⟩:=hR.ty
 unfold tRun;refine bC fun c0 hc0 hb0=>?_
 obtain⟨u0,a1,a2,a3,a4⟩:=aS (C:=yA) y1 hc0
 refine⟨_,_,a1,?_⟩
 have o0:zB yA.base t t []:=⟨yB.refl _,by simp,by simp,by simp⟩
 have o1:=zB.newCel (A:=[]) (B:=[]) o0 hc0 hb0 a2 a3 a4
 refine bC fun c1 hc1 hb1=>?_
 obtain⟨u1,a5,a6,a7,a8⟩:=aS (C:=yA) gV hc1
 refine⟨_,_,a5,?_⟩
 have o2:=zB.newCel (A:=[xC c0 none y.zero]) (B:=[]) o1 hc1 hb1 a6 a7 a8
 refine bC fun c2 hc2 hb2=>?_
 obtain⟨u2,a9,a10,a11,a12⟩:=aS (C:=yA) vZ hc2
 refine⟨_,_,a9,?_⟩
 have o3:=zB.newCel (A:=[xC c0 none y.zero,xC c1 none [.int .i64 0,.int .i64 0]]) (B:=[]) o2 hc2 hb2 a10 a11 a12
 rw[y3]at o3;have o3:zB yA.base t u2 (L3 c0 c1 c2 z 0 0 0):=o3
 refine tB ?_
 rw[q22];refine Wc.objs (R:=fun v t'=>match xK s with
   | .ok m=>∃v',v=.tup [v',.agg [.int .i64 0,.int .i64 0],.int .i64 0]/\xB t' 4 (m.map cB.d) v'
   | .er e a b=>v=.tup [.nilslice,.agg [.int .i64 (a:Int),.int .i64 (b:Int)],.int .i64 (e:Int)]) (zfy hg hby ?_) o3 fun v tf1 t1 hle ho hv=>?_
 ·cases hx:xK s with
  | ok m=>exact fun t' v k1 k2=>⟨k1,v,rfl,k2⟩
  | er e a b=>exact fun t' k1=>⟨k1,rfl⟩
 cases hx:xK s with
 | er e a b=>
  rw[hx]at hv;have hv:v=.tup [.nilslice,.agg [.int .i64 (a:Int),.int .i64 (b:Int)],.int .i64 (e:Int)]:=hv
  subst hv;obtain⟨hne,hQ⟩:=hE e a b hx
  refine mA (v:=.nilslice) rfl (mA (v:=.agg [.int .i64 (a:Int),.int .i64 (b:Int)]) rfl (dC ag2 (mA (v:=.int .i64 (e:Int)) rfl (kB ?_))))
  obtain⟨t2,k1,k2⟩:=set1 (A:=[]) (a':=(a:Int)) (b':=(b:Int)) ho
  refine bC fun q _ _=>⟨_,_,k1 q,?_⟩
  obtain⟨t3,k3,k4⟩:=set2 (k':=(e:Int)) k2
  refine bC fun q _ _=>⟨_,_,k3 q,?_⟩
  refine vC (ld2 k4) (kB (rA (by rw[oF];simp;omega) ?_))
  refine vC (ldS (A:=[]) k4 y1 y2 y4) (dC hR.ag (vC (ld1 k4) (dC ag2 (vC (ld2 k4) (kB ?_)))))
  rw[hR.cf];obtain⟨t4,k5,k6⟩:=set0 hR (cs':=z) rfl rfl hR.one k4
  refine bC fun q _ _=>⟨_,_,k5 q,?_⟩
  refine vC (ld1 k6) (rA same_2 (vC (ld2 k6) (rA zfq ?_)))
  obtain⟨t5,k7,k8⟩:=set1 (a':=(a:Int)) (b':=(b:Int)) k6
  refine bC fun q _ _=>⟨_,_,k7 q,?_⟩
  refine vC (ld2 k8) (rA zfq ?_)
  obtain⟨t6,k9,k10⟩:=set2 (k':=(e:Int)) k8
  refine bC fun q _ _=>⟨_,_,k9 q,?_⟩
  refine ziq (W:=Wq yA F rC) (J:=J) hR rfl k10 (hQ t6 (hle.trans k10.tle))
 | ok m=>
  rw[hx]at hv;obtain⟨v',rfl,hv'⟩:=hv
  obtain⟨g0,g1,g2⟩:=hgood m hx
  refine mA (v:=v') rfl (mA (v:=.agg [.int .i64 0,.int .i64 0]) rfl (dC ag2 (mA (v:=.int .i64 0) rfl (kB ?_))))
  obtain⟨t2,k1,k2⟩:=set1 (A:=[]) (a':=0) (b':=0) ho
  refine bC fun q _ _=>⟨_,_,k1 q,?_⟩
  obtain⟨t3,k3,k4⟩:=set2 (k':=0) k2
  refine bC fun q _ _=>⟨_,_,k3 q,?_⟩
  refine vC (ld2 k4) (kB (oB (by simp[oF]) (tB ?_)))
  rw[q25,sQ,at_pv g0 (ybk _),iA,List.take_length]
  refine dC ag2 (rA (by
   obtain⟨cl,he,_⟩:=hv'
   rcases he with⟨rfl,_⟩ | ⟨b,off,cap,rfl,_⟩<;>rfl) ?_)
  refine bC fun c8 hc8 hb8=>?_
  obtain⟨u8,m1,m2,m3,m4⟩:=Tf (v:=.agg [v',.int .i64 0,.int .i64 0,.int .i64 (atL s:Int),.int .i64 (atC s:Int)]) hc8
  refine⟨_,_,m1,zD ?_⟩
  have o8:=zB.newCel (A:=[]) (B:=L3 c0 c1 c2 z 0 0 0) k4 hc8 hb8 m2 m3 m4
  exact hT m hx tf1 u8 ⟨m,c8,v',atL s,atC s,L3 c0 c1 c2 z 0 0 0⟩ c0 c1 c2 rfl rfl rfl rfl hle ⟨hv',o8,g1,yaw _,g2,hg.mono hle⟩
end
end
section
variable {p:Nat->Bool}{r s:List Nat}{b:Nat}{m:List cB}
def Li   : ∀b∈nD p s,p b=true:=by
 intro b hb;unfold nD at hb;induction s with
 | nil=>cases hb
 | cons x s ih=>
  rw[List.takeWhile_cons]at hb;split at hb
  ·rcases ybs.1 hb with rfl | h
   ·assumption
   ·exact ih h
  ·cases hb
def Lh   : ∃r,s=nD p s++r/\∀b r',r=b::r'->p b=false:=by
 refine⟨s.dropWhile p,(List.takeWhile_append_dropWhile).symm,fun b r' h=>?_⟩
 have:=List.head?_dropWhile_not p s
 rw[h]at this;simpa using this
def tY {a:List Nat}(h:∀b∈a,p b=true)(hr:∀b r',r=b::r'->p b=false):nD p (a++r)=a:=by
 unfold nD;induction a with
 | nil=>
  cases r with
  | nil=>rfl
  | cons b r'=>rw[yah,List.takeWhile_cons,hr b r' rfl];rfl
 | cons x a ih=>
  rw[List.cons_append,List.takeWhile_cons,h x yby,yab rfl,ih fun b hb=>h b (ybr _ hb)]
def AQ (h:iD b=true):decide (b≠47)=true:=by
 unfold iD at h;simp only[ybb,decide_eq_true_eq]at h ⊢
 omega
def Sf(f q:List Nat):(f++q)[f.length]?=q.head?:=by
 rw[ybp (ybk _),Nat.sub_self]
 cases q<;>rfl
def Pj(f q:List Nat):(f++q).take f.length=f:=by simp
def Sr(f q:List Nat)(b:Nat):(f++b::q).drop (f.length+1)=q:=by
 rw[List.drop_append,ybt (by omega),show f.length+1-f.length=1 from by omega];rfl
def zi1   (he:s=b::r)(hd:iD b=true)(h:lI s=false):nS (s.take (tF s))/\0<(s.take (tF s)).length:=by
 unfold lI at h;simp only[yal,decide_eq_false_iff_not]at h;obtain⟨⟨⟨⟨h1,h2⟩,h3⟩,h4⟩,h5⟩:=h
 have hf:tD s≠[]:=by
  intro e;unfold tD nD at e;rw[he,List.takeWhile_cons,hd,yab rfl]at e
  cases e
 obtain⟨q,hq1,hq2⟩:=Lh (p:=iD) (s:=s)
 have hq1:s=tD s++q:=hq1
 have hall:∀x∈tD s,iD x=true:=Li
 have hpos:0<(tD s).length:=List.length_pos_iff.2 hf
 have hgd:s[(tD s).length]?=q.head?:=by
  have:=Sf (tD s) q
  rwa [<- hq1]at this
 by_cases hs:uF s=[]
 ·have hl:tF s=(tD s).length:=yab hs
  have ht:s.take (tF s)=tD s:=by rw[hl];have:=Pj (tD s) q;rwa [<- hq1]at this
  rw[ht];have hc:cN (tD s)=tD s:=by
   have:=tY (p:=fun b=>decide (b≠47)) (a:=tD s) (r:=[]) (fun b hb=>AQ (hall b hb)) (fun _ _ e=>by cases e)
   rwa [ycd]at this
  refine⟨⟨by rw[hl]at h1;omega,by rw[hc];exact hall,by rw[hc];exact hf,by rw[hc];exact h3,fun hh=>?_⟩,hpos⟩
  unfold eJ at hh;have:=AQ (hall 47 (by simpa using hh))
  simp at this
 ·have hl:tF s=(tD s).length+1+(uF s).length:=yaa hs
  have hsl:s[(tD s).length]?=some 47:=by
   cases Decidable.em (s[(tD s).length]?=some 47)with
   | inl h=>exact h
   | inr h=>exact absurd (yaa h) hs
  rw[hgd]at hsl;obtain⟨u,rfl⟩:∃u,q=47::u:=by
   cases q with
   | nil=>cases hsl
   | cons x u=>rw[List.head?_cons]at hsl;cases hsl;exact⟨u,rfl⟩
  have hsec:uF s=nD iD u:=by
   unfold uF;rw[yab (by rw[hgd];exact hsl)]
   congr 1
   have:=Sr (tD s) u 47
   rwa [<- hq1]at this
  obtain⟨w,hw1,_⟩:=Lh (p:=iD) (s:=u)
  rw[<- hsec]at hw1;have hall2:∀x∈uF s,iD x=true:=by rw[hsec];exact Li
  have ht:s.take (tF s)=tD s++47::uF s:=by
   have e:s=(tD s++47::uF s)++w:=by rw[ybz,List.cons_append,<- hw1];exact hq1
   rw[hl];have:=Pj (tD s++47::uF s) w
   rw[<- e]at this;rw[ybg,ybn,show(tD s).length+((uF s).length+1)=(tD s).length+1+(uF s).length from by omega]at this
   exact this
  rw[ht];have hc:cN (tD s++47::uF s)=tD s:=tY (fun b hb=>AQ (hall b hb)) (fun b r' e=>by cases e;rfl)
  have hcb:iO (tD s++47::uF s)=uF s:=by
   unfold iO;rw[hc];exact Sr _ _ _
  refine⟨⟨?_,by rw[hc];exact hall,by rw[hc];exact hf,by rw[hc];exact h3,fun _=>?_⟩,by rw[ybg];omega⟩
  ·rw[hl]at h1;simp only[ybg,ybn];omega
  ·rw[hcb]
   exact⟨hs,hall2,h4,h5⟩
def Bt {k:Nat}{w:List Nat}(h:mE s=.tok k w):0<w.length/\(k=2->nS w)/\(k=3->Sy w)/\k≠5:=by
 unfold mE at h;split at h
 ·cases h
 ·rename_i b r
  split at h
  ·rename_i hb
   split at h
   ·cases h
   ·cases h
    refine⟨?_,fun e=>by omega,fun e=>by omega,by omega⟩
    unfold nD;rw[List.takeWhile_cons,yab (by unfold uJ;rw[hb];rfl)]
    simp
  ·split at h
   ·rename_i hb
    simp only[ybb]at hb;split at h
    ·cases h
    ·rename_i hd
     cases h;have hl:10<=(b::r).length:=by
      have:=hb.2
      unfold qH at this;simp only[ybb,decide_eq_true_eq]at this;exact this.1
     have hlt:((b::r).take 10).length=10:=by rw[yda];omega
     refine⟨by omega,fun e=>by omega,fun _=>⟨hlt,?_,?_⟩,by omega⟩
     ·have:=hb.2
      unfold qH at this ⊢
      simp only[ybb,decide_eq_true_eq]at this ⊢
      refine⟨by omega,?_⟩
      have h2:=this.2
      rw[ycb]at h2 ⊢
      intro i hi;have hi':=List.mem_range.1 hi
      have:=h2 i hi
      rw[List.getD_eq_getElem?_getD,List.getElem?_take_of_lt hi',<- List.getD_eq_getElem?_getD];exact this
     ·have hd:dN (b::r)=false:=by simpa using hd
      unfold dN at hd;simp only[yal,decide_eq_false_iff_not]at hd
      cases hx:tX ((b::r).take 10)with
      | none=>exact absurd hx hd.2
      | some n=>exact⟨n,rfl⟩
   ·split at h
    ·rename_i hb
     split at h
     ·cases h
     ·rename_i hn
      cases h;have hn:lI (b::r)=false:=by simpa using hn
      obtain⟨h1,h2⟩:=zi1 rfl hb hn
      exact⟨h2,fun _=>h1,fun e=>by omega,by omega⟩
    ·split at h
     ·cases h
      exact⟨by simp,fun e=>by omega,fun e=>by omega,by omega⟩
     ·cases h
def bad_ne {e:Nat}(h:mE s=.bad e):e≠0:=by
 unfold mE at h;repeat' split at h
 all_goals first | (cases h;decide) | cases h
def AL(p:Nat × Nat):oU (endT p):=⟨fun e=>(by cases e),fun e=>(by cases e)⟩
def MW{t:cB}{r:LR} (h:r.cons t=.ok m):∃m',r=.ok m'/\m=t::m':=by
 cases r with
 | ok l=>cases h;exact⟨l,rfl,rfl⟩
 | er _ _ _=>cases h
def ND{op:Option (Nat × Nat)}{r:LR} (h:LR.close op r=.ok m):∃m',r=.ok m'/\m.length<=m'.length+1/\∀x∈m,x∈m'\/oU x:=by
 cases op with
 | none=>exact⟨m,h,by omega,fun x hx=>.inl hx⟩
 | some p=>
  obtain⟨m',h1,rfl⟩:=MW h
  refine⟨m',h1,by simp,fun x hx=>?_⟩
  rcases ybs.1 hx with rfl | hx
  ·exact .inr (AL p)
  ·exact .inl hx
def zdc:∀(k:Nat) (s:List Nat) (ln cl:Nat) (op:Option (Nat × Nat)) (m:List cB),yN k s ln cl op=.ok m->m.length<=s.length+1/\∀x∈m,oU x:=by
 intro k;induction k with
 | zero=>intro s ln cl op m h;cases h;exact⟨by simp,by simp⟩
 | succ k ih=>
  intro s ln cl op m h;unfold yN at h;split at h
  ·cases ‹_+1=0›
  ·obtain⟨m',h1,h2,h3⟩:=ND h
   cases h1;exact⟨h2,fun x hx=>(h3 x hx).elim (fun h=>by cases h) id⟩
  ·rename_i b r heq
   cases heq;split at h
   ·obtain⟨m',h1,h2,h3⟩:=ND h
    obtain⟨g1,g2⟩:=ih _ _ _ _ _ h1
    exact⟨by rw[ybn];omega,fun x hx=>(h3 x hx).elim (g2 x) id⟩
   ·split at h
    ·obtain⟨g1,g2⟩:=ih _ _ _ _ _ h
     exact⟨by rw[ybn];omega,g2⟩
    ·split at h
     ·obtain⟨g1,g2⟩:=ih _ _ _ _ _ h
      refine⟨Nat.le_trans g1 ?_,g2⟩
      rw[ydj];omega
     ·split at h
      ·cases h
      ·rename_i kd w ht
       obtain⟨m',h1,rfl⟩:=MW h
       obtain⟨g1,g2⟩:=ih _ _ _ _ _ h1
       obtain⟨f1,f2,f3,_⟩:=Bt ht
       rw[ydj]at g1;refine⟨by simp only[ybn]at g1 ⊢;omega,fun x hx=>?_⟩
       rcases ybs.1 hx with rfl | hx
       ·exact⟨f2,f3⟩
       ·exact g2 x hx
def zje:∀(k:Nat) (s:List Nat) (ln cl:Nat) (op:Option (Nat × Nat)) (e a b:Nat),yN k s ln cl op=.er e a b->e≠0:=by
 have hcons:∀(t:cB) (r:LR) (e a b:Nat),r.cons t=.er e a b->r=.er e a b:=by
  intro t r e a b h
  cases r with
  | ok l=>cases h
  | er _ _ _=>cases h;rfl
 have hclose:∀(op:Option (Nat × Nat)) (r:LR) (e a b:Nat),LR.close op r=.er e a b->r=.er e a b:=by
  intro op r e a b h
  cases op with
  | none=>exact h
  | some p=>exact hcons _ _ _ _ _ h
 intro k;induction k with
 | zero=>intro s ln cl op e a b h;cases h
 | succ k ih=>
  intro s ln cl op e a b h;unfold yN at h;split at h
  ·cases ‹_+1=0›
  ·have:=hclose _ _ _ _ _ h;cases this
  ·rename_i x r heq
   cases heq;split at h
   ·exact ih _ _ _ _ _ _ _ (hclose _ _ _ _ _ h)
   ·split at h
    ·exact ih _ _ _ _ _ _ _ h
    ·split at h
     ·exact ih _ _ _ _ _ _ _ h
     ·split at h
      ·rename_i ht
       cases h;exact bad_ne ht
      ·exact ih _ _ _ _ _ _ _ (hcons _ _ _ _ _ h)
end
section
variable {m:List cB}{a b e:Nat}{α:Type}
variable [yD]
def t40_eq(s:List Nat)(p1:zA):t40 s p1=tRun 50 zE cE s p1:=rfl
def QP(v1 v4 v5 v6 v8:zA):Ux v1 v4 v5 v6 v8=tR13 50 zE cE v1 v4 v5 v6 v8:=rfl
def zb9(v0 v1 v2 v3:zA):Pr v0 v1 v2 v3=tR3 50 zE v0 v1 v2 v3:=rfl
def zcb(v4 v5 v6:zA):Pt v4 v5 v6=tRe 50 v4 v5 v6:=rfl
def t70_3_eq(v0 v1 v2 v3:zA):t70_3 v0 v1 v2 v3=tR3 47 zV v0 v1 v2 v3:=rfl
def t45_e_eq(v4 v5 v6:zA):t45_e v4 v5 v6=tRe 47 v4 v5 v6:=rfl
def rt50:RT 50 zE cE:=⟨⟨_,Bq,rfl,rfl,rfl⟩,rfl,nQ rfl,rfl⟩
def Bu (m:List cB)(s:List Nat)(i:Nat):cB:=(m[i]?).getD ⟨0,[],atL s,atC s⟩
def Ro{s:List Nat} (h:xK s=.ok m):s.length<900000/\m.length<300000/\∀x∈m,oU x:=by
 unfold xK at h;split at h
 ·cases h
 ·obtain⟨h1,h2⟩:=zdc _ _ _ _ _ _ h
  exact⟨by omega,by omega,h2⟩
def Yn{s:List Nat} (h:xK s=.er e a b):e≠0:=by
 unfold xK at h;split at h
 ·cases h;decide
 ·exact zje _ _ _ _ _ _ _ _ h
inductive RP (α:Type) where
 | ok (x:α)
 | er (e l c:Nat)
def mG {α:Type}(top:List cB->PR α)(s:List Nat):RP α:=
 match xK s with
 | .er e a b=>.er e a b
 | .ok m=>match top m with
  | .ok x _=>.ok x
  | .er e i=>.er e (Bu m s i).line (Bu m s i).col
def He {top:List cB->PR α}{s:List Nat} (h:xK s=.ok m):mG top s=match top m with | .ok x _=>.ok x | .er e i=>.er e (Bu m s i).line (Bu m s i).col:=by unfold mG;rw[h]
def Wu {top:List cB->PR α}{s:List Nat} (h:xK s=.er e a b):mG top s=.er e a b:=by unfold mG;rw[h]
section
variable {t:Tr uA}{Q:jB}{s:List Nat}
def run40(hg:aJ t)(hby:∀b∈s,b<256)(hQ:match mG jF s with
  | .ok x=>∀t' cs,yB t t'->RD t' x.d cs->Q (.tup [.agg cs,.agg [.int .i64 0,.int .i64 0],.int .i64 0]) t'
  | .er e a b=>∀t',yB t t'->Q (.tup [.agg zE,.agg [.int .i64 (a:Int),.int .i64 (b:Int)],.int .i64 (e:Int)]) t'):Wc yA F 40 [.str s,.func (.func 41) [] []] t Q:=by
 refine w40 _ _ ?_
 rw[t40_eq];refine EW rt50 hg hby (fun m hm=>Ro hm) (fun e a b h=>⟨Yn h,?_⟩) (fun m hm tf1 t1 P b0 b1 b2 e1 e2 e3 e4 hle hst=>⟨rfl,tl40 _ _ _ _ _ ?_⟩)
 ·rw[Wu h]at hQ;exact hQ
 ·rw[QP]
  simp only[zb9,zcb];refine ze1 (rd:=zM) (good:=fun tf' x cs=>RD tf' x.d cs) (r:=jF P.tk) rt50 e4 hst ?_ (fun Q E hk=>by rw[pE 41];exact zhx hst hk) (by kernel_rfl) (fun tf' x v ⟨cs,h1,h2⟩=>⟨cs,h1,Fr h2,oN h2,Gb h2,by obtain⟨a,b,c,rfl,_⟩:=wJ h2;exact h2.all,h2⟩)
  rw[He hm]at hQ;rw[e1]
  cases hr:jF m with
  | ok x n=>
   rw[hr]at hQ;exact fun tf' t' cs k1 k2 k3=>hQ t' cs (hle.trans (k1.trans k2)) (k3.mono k2)
  | er e i=>
   rw[hr]at hQ;have ht:yG P i=Bu m s i:=by unfold yG Bu;rw[e1,e2,e3]
   intro t' k1;rw[ht];exact hQ t' (hle.trans k1)
def expr15(hg:aJ t)(hby:∀b∈s,b<256)(hQ:match mG jF s with
  | .ok x=>∀t' cs,yB t t'->RD t' x.d cs->Q (.tup [.agg cs,.agg [.int .i64 0,.int .i64 0],.int .i64 0]) t'
  | .er e a b=>∀t',yB t t'->Q (.tup [.agg zE,.agg [.int .i64 (a:Int),.int .i64 (b:Int)],.int .i64 (e:Int)]) t'):Wc yA F 15 [.str s] t Q:=by
 refine w15 ?_
 unfold t15;refine tB ?_
 rw[q40];refine run40 hg hby ?_
 cases hr:mG jF s with
 | ok x=>
  rw[hr]at hQ;intro t' cs k1 k2;refine mA (v:=.agg cs) rfl (dC (oN k2) (mA (v:=.agg [.int .i64 0,.int .i64 0]) rfl (dC ag2 (mA (v:=.int .i64 0) rfl (kB ?_)))))
  show qA _ _ _ (.ite (zC zA.one (cE (cellsOf cs))) (.ite true (.ret (.tup [.agg (cE (cellsOf cs)),_,_])) .fail) .fail) _ _
  rw[Gb k2];refine rA (by obtain⟨a,b,c,rfl,_⟩:=wJ k2;exact k2.all) (rA rfl (hQ t' cs k1 k2))
 | er e a b=>
  rw[hr]at hQ;intro t' k1;exact mA (v:=.agg zE) rfl (dC rt50.ag (mA (v:=.agg [.int .i64 (a:Int),.int .i64 (b:Int)]) rfl (dC ag2 (mA (v:=.int .i64 (e:Int)) rfl (kB (rA rfl (rA rfl (hQ t' k1))))))))
end
end
end Go.Proofs
