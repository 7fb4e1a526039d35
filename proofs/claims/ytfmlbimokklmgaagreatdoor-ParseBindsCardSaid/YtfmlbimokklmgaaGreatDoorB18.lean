/- The calendar: a date's text as a day. -/
import Derived.Test.YtfmlbimokklmgaaGreatDoorB17
set_option linter.all false
noncomputable section
set_option maxRecDepth 100000
namespace Go.Proofs
open Go Go.Am
variable [jC]
section
variable {t:Tr vA}{Q:fA}
theorem zcr(y:Nat):fB yA F 152 [.int .i64 (y:Int)] t=some (.bool (Jo y)):=by
 have e:∀k:Nat,Int.tmod (y:Int) (k:Int)=((y%k:Nat):Int):=fun k=>by rw[Int.tmod_eq_emod_of_nonneg (by omega)];omega
 refine tE.2 (w152 ?_)
 unfold t152 oK zD;rw[show(4:Int)=((4:Nat):Int) from rfl,show(100:Int)=((100:Nat):Int) from rfl,show(400:Int)=((400:Nat):Int) from rfl,e,e,e]
 unfold Jo;by_cases h4:y%4=0
 ·refine pA (by rw[sE];exact decide_eq_true (by omega)) ?_
  by_cases h1:y%100=0
  ·refine qB (by rw[sE];simp;omega) ⟨?_,rfl⟩
   rw[sE];congr 1
   by_cases h5:y%400=0
   ·simp[h4,h1,h5]
   ·simp[h4,h1,h5];omega
  ·refine pA (by rw[sE];simp;omega) ⟨?_,rfl⟩
   simp[h4,h1]
 ·refine qB (by rw[sE];simp;omega) ⟨?_,rfl⟩
  simp[h4]
theorem FI{y:Nat}(h:y<1000000):fB yA F 153 [.int .i64 (y:Int)] t=some (.int .i64 (yP y:Int)):=by
 have e:∀k:Nat,Int.tdiv (y:Int) (k:Int)=((y / k:Nat):Int):=fun k=>by rw[Int.tdiv_eq_ediv_of_nonneg (by omega)];omega
 refine tE.2 (w153 ?_)
 unfold t153 uW;rw[show(4:Int)=((4:Nat):Int) from rfl,show(100:Int)=((100:Nat):Int) from rfl,show(400:Int)=((400:Nat):Int) from rfl,e,e,e]
 have h1:y / 100<=y / 4:=Nat.div_le_div_left (by omega) (by omega)
 have h2:y / 4<=y:=Nat.div_le_self _ _
 have h3:y / 400<=y:=Nat.div_le_self _ _
 simp (disch:=omega) only[oC]
 refine⟨?_,rfl⟩
 unfold yP;congr 1
 omega
theorem zcq(hg:rK t){i:Nat}(hi:i<12):aB yA 219 (.ptr 2 0) (.int .i64 (i:Int))=some (.ptr 2 (0+i))/\iA yA 3 ⟨0,t⟩ (.ptr 2 (0+i))=some (.int .i64 ((Jm.getD i 0:Nat):Int)):=by
 refine⟨?_,hg.2.2.load1 tM rfl ?_⟩
 ·unfold aB
  rw[ty219,qA];have e:(zA.int .i64 (i:Int)).asNat=some i:=rfl
  rw[e,qA];simp only[zA.asSlice,zA.asPtr,yE.asArr,qA];rw[tM,qA,vC.2 hi,mE,Nat.mul_one]
 ·have:Jm[i]?=some (Jm.getD i 0):=by
   rw[List.getD_eq_getElem?_getD,ybd (by show i<12;exact hi)];rfl
  rw[ybu,this];rfl
theorem FD(hg:rK t)(y m:Nat)(hm:m<1000000):fB yA F 136 [.int .i64 (y:Int),.int .i64 (m:Int)] t=some (.int .i64 (sN y m:Int)):=by
 refine tE.2 (w136 ?_)
 unfold t136 uB;by_cases h1:m<1
 ·refine pA (by rw[qC];exact decide_eq_true (by omega)) ⟨?_,rfl⟩
  unfold sN;rw[yab (.inl h1)];rfl
 refine qB (by rw[qC];simp;omega) ?_
 by_cases h2:12<m
 ·refine pA (by rw[qC];exact decide_eq_true (by omega)) ⟨?_,rfl⟩
  unfold sN;rw[yab (.inr h2)];rfl
 refine qB (by rw[qC];simp;omega) ?_
 have tail:¬ (m=2/\Jo y=true)->wp 136 (uQ13 (m:Int)) t fun v' t'=>v'=.int .i64 (sN y m:Int)/\t'=t:=by
  intro hn;unfold uQ13 uI;have e:uW ((m:Int)-1)=((m-1:Nat):Int):=by
   show lA .i64 ((m:Int)-1)=_
   rw[oC (by omega) (by omega)];omega
  obtain⟨k1,k2⟩:=zcq hg (i:=m-1) (by omega)
  rw[e];refine mA k1 (wC k2 (oB ⟨?_,rfl⟩))
  unfold sN;rw[yaa (by omega),yaa hn]
 by_cases h3:m=2
 ·refine pA (by rw[sE];exact decide_eq_true (by omega)) (tB ?_)
  rw[q152,zcr,sA];refine vE ?_
  cases hl:Jo y with
  | true=>
   refine pA rfl ⟨?_,rfl⟩
   unfold sN;rw[yaa (by omega),yab ⟨h3,hl⟩];rfl
  | false=>exact qB (by simp) (tail (by rw[hl];simp))
 ·exact qB (by rw[sE];simp;omega) (tail fun h=>h3 h.1)
theorem Wm(y m:Nat):sN y m<=31:=by
 unfold sN;split
 ·omega
 split
 ·omega
 ·rename_i h1 _
  have:m-1<12:=by omega
  generalize m-1=k at this
  match k,this with
  | 0,_ | 1,_ | 2,_ | 3,_ | 4,_ | 5,_ | 6,_ | 7,_ | 8,_ | 9,_ | 10,_ | 11,_=>decide
theorem BD(y:Nat):∀k,Dx y k<=31*k:=by
 intro k;induction k with
 | zero=>exact ybk _
 | succ k ih=>unfold Dx;have:=Wm y (k+1);omega
theorem FJ(y:Nat):yP y<=y+y:=by unfold yP;omega
theorem UH{a b:Nat}(h:a<=b)(hb:b<10000):yP a<=yP b:=by unfold yP;omega
theorem Uf(hg:rK t){m:Nat}(hm:m<50000):fB yA F 137 [.int .i64 (m:Int)] t=some (.int .i64 (kO m:Int)):=by
 have ed:Int.tdiv (m:Int) 12=((m / 12:Nat):Int):=by rw[Int.tdiv_eq_ediv_of_nonneg (by omega)];omega
 have em:Int.tmod (m:Int) 12=((m%12:Nat):Int):=by rw[Int.tmod_eq_emod_of_nonneg (by omega)];omega
 refine tE.2 (w137 ?_)
 unfold t137 uI uW;rw[ed];have hq:m / 12<5000:=by omega
 have e1:lA .i64 (lA .i64 (1900+lA .i64 ((m / 12:Nat):Int))-1)=((1899+m / 12:Nat):Int):=by
  simp (disch:=omega) only[oC];omega
 have e2:lA .i64 (1900+lA .i64 ((m / 12:Nat):Int))=((1900+m / 12:Nat):Int):=by
  simp (disch:=omega) only[oC];omega
 have hl1:=FJ (1899+m / 12)
 have hl2:=UH (a:=1899) (b:=1899+m / 12) (by omega) (by omega)
 refine tB ?_
 rw[e1,q153,FI (by omega),sA]
 refine oB (tB ?_)
 rw[q153,show(1899:Int)=((1899:Nat):Int) from rfl,FI (by omega),sA,e2]
 refine oB (iC ?_)
 have e3:lA .i64 (lA .i64 (lA .i64 (365*lA .i64 (((1900+m / 12:Nat):Int)-1900))+(yP (1899+m / 12):Int))-(yP 1899:Int))=((365*(m / 12)+yP (1899+m / 12)-yP 1899:Nat):Int):=by
  simp (disch:=omega) only[oC];omega
 rw[e3];have loop:∀(k i a:Nat),i+k=m%12->a=365*(m / 12)+yP (1899+m / 12)-yP 1899+Dx (1900+m / 12) i->jp 137 2 [.int .i64 (m:Int),.int .i64 ((1900+m / 12:Nat):Int),.int .i64 (a:Int),.int .i64 ((i+1:Nat):Int)] t fun v' t'=>v'=.int .i64 (kO m:Int)/\t'=t:=by
  intro k;induction k with
  | zero=>
   intro i a hi ha;refine HX ?_
   unfold Tu;rw[em];refine qB (by rw[oQ];simp;omega) ⟨?_,rfl⟩
   subst ha;unfold kO;rw[show i=m%12 by omega]
  | succ k ih=>
   intro i a hi ha;have hs:=BD (1900+m / 12) i
   have hle:=Wm (1900+m / 12) (i+1)
   refine HX ?_
   unfold Tu uI;rw[em];refine pA (by rw[oQ];exact decide_eq_true (by omega)) (tB ?_)
   rw[q136];show xD (fB yA F 136 [.int .i64 ((1900+m / 12:Nat):Int),.int .i64 ((i+1:Nat):Int)] t) _
   rw[FD hg _ _ (by omega),sA]
   refine oB (iC ?_)
   have e4:nD ((i+1:Nat):Int)=.int .i64 ((i+1+1:Nat):Int):=by
    show zA.int .i64 (lA .i64 (((i+1:Nat):Int)+1))=_
    rw[oC (by omega) (by omega)];rfl
   have e5:uW ((a:Int)+(sN (1900+m / 12) (i+1):Int))=((a+sN (1900+m / 12) (i+1):Nat):Int):=by
    show lA .i64 _=_
    rw[oC (by omega) (by omega)];omega
   rw[e4,e5];exact ih (i+1) _ (by omega) (by show a+sN (1900+m / 12) (i+1)=_+(Dx (1900+m / 12) i+sN (1900+m / 12) (i+1));omega)
 exact loop (m%12) 0 _ (by omega) rfl
theorem day_ok(hg:rK t){y m d:Nat}(hy:y<10000)(hm:m<1000)(hd:d<1000):fB yA F 119 [.int .i64 (y:Int),.int .i64 (m:Int),.int .i64 (d:Int)] t=some (.tup [.int .i64 (((Cy y m d).getD 0:Nat):Int),.int .i64 (if (Cy y m d).isSome then 0 else 2)]):=by
 refine tE.2 (w119 ?_)
 unfold t119 uI uB;have bad:∀h:y<1900\/2079<y\/d<1\/sN y m<d,Cy y m d=none:=fun h=>by unfold Cy;rw[yab h]
 by_cases h1:y<1900
 ·rw[bad (.inl h1)]
  exact pA (by rw[qC];exact decide_eq_true (by omega)) ⟨rfl,rfl⟩
 refine qB (by rw[qC];simp;omega) ?_
 by_cases h2:2079<y
 ·rw[bad (.inr (.inl h2))]
  exact pA (by rw[qC];exact decide_eq_true (by omega)) ⟨rfl,rfl⟩
 refine qB (by rw[qC];simp;omega) ?_
 by_cases h3:d<1
 ·rw[bad (.inr (.inr (.inl h3)))]
  exact pA (by rw[qC];exact decide_eq_true (by omega)) ⟨rfl,rfl⟩
 refine qB (by rw[qC];simp;omega) (tB ?_)
 rw[q136];show xD (fB yA F 136 [.int .i64 (y:Int),.int .i64 (m:Int)] t) _
 rw[FD hg _ _ (by omega),sA]
 refine oB ?_
 by_cases h4:sN y m<d
 ·rw[bad (.inr (.inr (.inr h4)))]
  exact pA (by rw[qC];exact decide_eq_true (by omega)) ⟨rfl,rfl⟩
 refine qB (by rw[qC];simp;omega) (tB ?_)
 have hm1:1<=m:=by
  rcases yau m 1 with h | h
  ·exfalso;apply h4;unfold sN;rw[yab (.inl h)];omega
  ·exact h
 have hs31:=Wm y m
 have e1:uW (uW (uW (12*uW ((y:Int)-1900))+(m:Int))-1)=((12*(y-1900)+m-1:Nat):Int):=by
  unfold uW;simp (disch:=omega) only[oC];omega
 rw[q137];show xD (fB yA F 137 [.int .i64 (uW (uW (uW (12*uW ((y:Int)-1900))+(m:Int))-1))] t) _
 rw[e1,Uf hg (by omega),sA]
 refine oB (tB ?_)
 have hst:kO (12*(y-1900)+m-1)<1000000:=by
  unfold kO;have:=BD (1900+(12*(y-1900)+m-1) / 12) ((12*(y-1900)+m-1)%12)
  have:=FJ (1899+(12*(y-1900)+m-1) / 12)
  omega
 have e2:uW (uW ((kO (12*(y-1900)+m-1):Int)+(d:Int))-1)=((kO (12*(y-1900)+m-1)+d-1:Nat):Int):=by
  unfold uW;simp (disch:=omega) only[oC];omega
 rw[e2];have hn:Cy y m d=if kO (12*(y-1900)+m-1)+d-1<65536 then some (kO (12*(y-1900)+m-1)+d-1)else none:=by
  unfold Cy;rw[yaa (by omega)]
 have hisd:fB yA F 138 [.int .i64 ((kO (12*(y-1900)+m-1)+d-1:Nat):Int)] t=some (.bool (decide (kO (12*(y-1900)+m-1)+d-1<65536))):=by
  refine tE.2 (w138 ?_)
  unfold t138;generalize kO (12*(y-1900)+m-1)+d-1=z
  refine pA (by rw[oQ];exact decide_eq_true (by omega)) ⟨?_,rfl⟩
  have hz:yC (z:Int) 65536=decide (z<65536):=by
   rw[qC];exact decide_eq_decide.2 (by omega)
  rw[hz]
 rw[q138,hisd,sA,hn];refine vE ?_
 by_cases h5:kO (12*(y-1900)+m-1)+d-1<65536
 ·rw[yab h5,decide_eq_true h5]
  exact qB (by simp) ⟨rfl,rfl⟩
 ·rw[yaa h5,decide_eq_false h5]
  exact pA rfl ⟨rfl,rfl⟩
theorem SW{ls:List (List Nat)}{v:zA}(hv:aA t 1 (ls.map D.str) v)(hl:ls.length<100)(hd:∀s∈ls,s.length<=9/\∀b∈s,fD b=true)(hQ:∀t' b,zB t t'->qF t' b .i64 (ls.map yD)->Q (.tup [.slice b 0 ls.length ls.length,.bool true]) t'):Wc yA F 118 [v] t Q:=by
 have hlen:=hv.len
 rw[ybf]at hlen;refine w118 ?_
 unfold t118 uI;refine mA hlen (oB (pC fun b hb hbase=>?_))
 obtain⟨t1,e1,e2,e3,e4⟩:=Cj (C:=yA) (T:=94) (k:=.i64) (n:=ls.length) ty94 rfl tM rfl rfl (by decide) (by omega) hb
 refine⟨_,_,e1,mA hlen (oB (iC ?_))⟩
 have loop:∀(k i:Nat) (row:List Nat) (t1:Tr vA),i+k=ls.length->row=(ls.take i).map yD++List.replicate k 0->zB t t1->qF t1 b .i64 row->jp 118 2 [.slice b 0 ls.length ls.length,v,.int .i64 (ls.length:Int),.int .i64 (i:Int)] t1 Q:=by
  intro k;induction k with
  | zero=>
   intro i row t1 hi hr hle ho;refine IA ?_
   unfold Tx;refine qB (by rw[qC];simp;omega) ?_
   rw[show i=ls.length by omega,List.take_length,List.replicate_zero,ycd]at hr;subst hr;exact hQ t1 b hle ho
  | succ k ih=>
   intro i row t1 hi hr hle ho;refine IA ?_
   unfold Tx uS;have hx:ls[i]?=some ls[i]:=ybd (by omega)
   have hxd:(ls.map D.str)[i]?=some (D.str ls[i]):=by rw[ybu,hx];rfl
   obtain⟨b',o',cs,h1,h2,_,_,h3⟩:=sl93.at (fun _=>rfl) (hv.mono hle) hxd
   have e:=wT.1 h3
   subst e;refine pA (by rw[qC];exact decide_eq_true (by omega)) (mA h1 (wC h2 (oE (iC ?_))))
   have ll:(Int.ofNat (bA ls[i]))=(ls[i].length:Int):=by rw[sD];rfl
   rw[ll];obtain⟨hs9,hsd⟩:=hd ls[i] (ycj _)
   have inner:∀(q j:Nat) (t2:Tr vA),j+q=ls[i].length->zB t t2->qF t2 b .i64 ((ls.take i).map yD++yD (ls[i].take j)::List.replicate k 0)->jp 118 6 [.slice b 0 ls.length ls.length,.int .i64 (i:Int),.str ls[i],v,.int .i64 (ls.length:Int),.int .i64 (i:Int),.int .i64 (ls[i].length:Int),.int .i64 (j:Int)] t2 Q:=by
    intro q;induction q with
    | zero=>
     intro j t2 hj hle2 ho2;refine HZ ?_
     unfold Tw;refine qB (by rw[qC];simp;omega) (iC ?_)
     have e4:nD (i:Int)=.int .i64 ((i+1:Nat):Int):=by
      show zA.int .i64 (lA .i64 ((i:Int)+1))=_
      rw[oC (by omega) (by omega)];rfl
     rw[e4];refine ih (i+1) _ t2 (by omega) ?_ hle2 ho2
     have htk:ls.take (i+1)=ls.take i++[ls[i]]:=by rw[ydg,hx];rfl
     rw[htk,List.map_append,show j=ls[i].length by omega,List.take_length];simp
    | succ q ih2=>
     intro j t2 hj hle2 ho2;have hy:ls[i][j]?=some ls[i][j]:=ybd (by omega)
     have hyd:48<=ls[i][j]/\ls[i][j]<=57:=by have:=hsd ls[i][j] (ycj _);unfold fD at this;simpa using this
     refine HZ ?_
     unfold Tw uU uI;have hla:((ls.take i).map yD).length=i:=by simp;omega
     have hget:((ls.take i).map yD++yD (ls[i].take j)::List.replicate k 0)[i]?=some (yD (ls[i].take j)):=by
      rw[ybp (by omega),hla,Nat.sub_self];rfl
     have ia:=Bp (C:=yA) (b:=b) sl94 (off:=0) (n:=ls.length) (cap:=ls.length) (i:=i) (by omega)
     rw[ybw,Nat.mul_one]at ia;have hb9:yD (ls[i].take j)<1000000000:=by
      have h1:=Fo (s:=ls[i].take j) fun x hx=>hsd x (List.mem_of_mem_take hx)
      have h2:10^(ls[i].take j).length<=10^9:=yao (by omega) (by rw[yda];omega)
      have:(10:Nat)^9=1000000000:=by decide
      omega
     refine pA (by rw[qC];exact decide_eq_true (by omega)) (mA (xL hy) (oB (qB (by rw[qC];simp;omega) (mA (xL hy) (oB (qB (by rw[qC];simp;omega) (mA ia (wC (ho2.load hget tM rfl) (oB (mA (xL hy) (oB (mA ia (pC fun n _ _=>?_)))))))))))))
     have ev:uW (uW (10*((yD (ls[i].take j):Nat):Int))+uW (lA .u8 ((ls[i][j]:Int)-48)))=((yD (ls[i].take (j+1)):Nat):Int):=by
      unfold uW;rw[Lr (by omega) (by omega),mO hy,Yh]
      simp (disch:=omega) only[oC]
      omega
     obtain⟨t3,g1,g2,g3⟩:=ho2.store hbase (j:=i) (by simp;omega) (yD (ls[i].take (j+1))) tM rfl
     rw[ev];refine⟨_,_,g1 n,iC ?_⟩
     have e4:nD (j:Int)=.int .i64 ((j+1:Nat):Int):=by
      show zA.int .i64 (lA .i64 ((j:Int)+1))=_
      rw[oC (by omega) (by omega)];rfl
     rw[e4];refine ih2 (j+1) t3 (by omega) (hle2.off hb g3) ?_
     have:((ls.take i).map yD++yD (ls[i].take j)::List.replicate k 0).set i (yD (ls[i].take (j+1)))=(ls.take i).map yD++yD (ls[i].take (j+1))::List.replicate k 0:=PS hla
     rw[this]at g2;exact g2
   refine inner ls[i].length 0 t1 (by omega) hle ?_
   rw[hr,List.replicate_succ]at ho;exact ho
 refine loop ls.length 0 _ t1 (by omega) ?_ e3 e2
 simp
theorem PJ{s:List Nat}{a b:Nat}(h:a<=b)(hb:b<=s.length):sF yA 9 nL (.str s) (some (.int .i64 (a:Int))) (some (.int .i64 (b:Int)))=some (.str ((s.take b).drop a)):=by
 unfold sF rM;rw[zN,qA];simp only[zA.asStr];rw[show yE.isString .string=true from rfl,mE];unfold Hx pP dY eU;have e:∀n:Nat,gL (n:Int)=some n:=fun _=>rfl
 simp only[qA,zA.asNat,zA.asInt,e,sD,qE.2 hb,qE.2 h,mE,rR,xP]
theorem Yi{s:List Nat}(h:cI s=true){i:Nat}(hi:i<10):∃b,s[i]?=some b/\nN i b=true:=by
 unfold cI at h;simp only[ybb,decide_eq_true_eq,ycb,List.mem_range]at h;have h1:=h.2 i hi
 refine⟨s[i]'(by omega),ybd (by omega),?_⟩
 rw[List.getD_eq_getElem?_getD,ybd (by omega)]at h1
 exact h1
theorem Yj{s:List Nat}(h:cI s=true){a b:Nat}(hb:b<=10)(h4:¬ (a<=4/\4<b))(h7:¬ (a<=7/\7<b)):∀x∈(s.take b).drop a,fD x=true:=by
 intro x hx;obtain⟨j,hj⟩:=List.getElem?_of_mem hx
 rw[yde,ydf]at hj;split at hj
 ·rename_i hlt
  obtain⟨y,h1,h2⟩:=Yi h (i:=a+j) (by omega)
  rw[h1]at hj
  cases hj;unfold nN at h2;rw[yaa (by omega)]at h2
  exact h2
 ·cases hj
theorem KC(hg:rK t){s:List Nat}(hs:s.length=10)(hd:cI s=true):fB yA F 97 [.str s] t=some (.tup [.int .i64 (((lY s).getD 0:Nat):Int),.int .i64 (if (lY s).isSome then 0 else 2)]):=by
 refine vX (w97 ?_)
 unfold t97 uU uS uB uI;have ll:(Int.ofNat (bA s))=10:=by rw[sD,hs];rfl
 rw[ll];obtain⟨x4,g4,k4⟩:=Yi hd (i:=4) (by omega)
 obtain⟨x7,g7,k7⟩:=Yi hd (i:=7) (by omega)
 have k4:x4=45:=by simpa[nN]using k4
 have k7:x7=45:=by simpa[nN]using k7
 subst k4 k7
 have i4:=xL g4
 have i7:=xL g7
 have s0:=Bv (s:=s) (k:=4) (by omega)
 have s5:=PJ (s:=s) (a:=5) (b:=7) (by omega) (by omega)
 have s8:=Na (s:=s) (k:=8) (by omega)
 refine qB (by decide) (mA i4 (oB (qB (by decide) (mA i7 (oB (qB (by decide) (mA s0 (oE (mA s5 (oE (mA s8 (oE (pC fun b hb hbase=>?_)))))))))))))
 obtain⟨t1,g1,g2,g3,g5⟩:=Jl (C:=yA) (T:=93) (el:=9) (sz:=1) (n:=3) (cl:=[[.str (s.take 4)],[.str ((s.take 7).drop 5)],[.str (s.drop 8)]]) (ps:=[(0,.str (s.take 4)),(1,.str ((s.take 7).drop 5)),(2,.str (s.drop 8))]) ty93 rfl zN rfl rfl (by decide) rfl (fun i cs hi=>by
  match i,hi with
  | 0,hi=>cases hi;rfl
  | 1,hi=>cases hi;rfl
  | 2,hi=>cases hi;rfl) rfl hb
 have hr:aA t1 1 ([s.take 4,(s.take 7).drop 5,s.drop 8].map D.str) (.slice b 0 3 3):=⟨_,g2,iF.2 ⟨_,_,rfl,wT.2 rfl,iF.2 ⟨_,_,rfl,wT.2 rfl,iF.2 ⟨_,_,rfl,wT.2 rfl,rH.2 rfl⟩⟩⟩⟩
 have d1:∀x∈s.take 4,fD x=true:=by
  have:=Yj hd (a:=0) (b:=4) (by omega) (by omega) (by omega)
  simpa using this
 have d2:∀x∈(s.take 7).drop 5,fD x=true:=Yj hd (by omega) (by omega) (by omega)
 have d3:∀x∈s.drop 8,fD x=true:=by
  have:=Yj hd (a:=8) (b:=10) (by omega) (by omega) (by omega)
  rwa [yca (by omega)]at this
 refine⟨_,_,g1,tB ?_⟩
 rw[q118];refine SW hr (by simp) (fun x hx=>?_) fun t2 b2 h1 h2=>?_
 ·simp only[ybs,List.mem_nil_iff,or_false]at hx
  rcases hx with rfl | rfl | rfl
  ·exact⟨by simp;omega,d1⟩
  ·exact⟨by simp;omega,d2⟩
  ·exact⟨by simp;omega,d3⟩
 have ia:∀i:Nat,i<3->aB yA 94 (.slice b2 0 3 3) (.int .i64 (i:Int))=some (.ptr b2 i):=fun i hi=>by
  have:=Bp (C:=yA) (b:=b2) sl94 (off:=0) (n:=3) (cap:=3) (i:=i) hi
  rwa [ybw,Nat.mul_one]at this
 have l0:=h2.load (j:=0) rfl tM rfl (C:=yA)
 have l1:=h2.load (j:=1) rfl tM rfl (C:=yA)
 have l2:=h2.load (j:=2) rfl tM rfl (C:=yA)
 refine mA rfl (mA rfl (vE (qB (by simp) (mA (ia 0 (by omega)) (wC l0 (oB (mA (ia 1 (by omega)) (wC l1 (oB (mA (ia 2 (by omega)) (wC l2 (oB (tB ?_)))))))))))))
 have b1:=Fo d1
 have b2':=Fo d2
 have b3:=Fo d3
 have n1:(s.take 4).length=4:=by simp;omega
 have n2:((s.take 7).drop 5).length=2:=by simp;omega
 have n3:(s.drop 8).length=2:=by simp;omega
 rw[n1]at b1;rw[n2]at b2'
 rw[n3]at b3;have hle:=g3.trans h1
 rw[q119];show xD (fB yA F 119 [.int .i64 ((yD (s.take 4):Nat):Int),.int .i64 ((yD ((s.take 7).drop 5):Nat):Int),.int .i64 ((yD (s.drop 8):Nat):Int)] t2) _
 rw[day_ok (hg.mono hle) (by omega) (by omega) (by omega),sA]
 exact mA rfl (oB (mA rfl (oB ⟨rfl,hle⟩)))
theorem lib30:Bd where
 frac:=fun {s neg tf t L Q} h ho hQ=>Wc.objs (R:=fun v tf'=>∃cs,v=.agg cs/\RD tf' (yW s neg).dd cs) (fracPv h fun t' cs h1 h2=>⟨h1,cs,rfl,h2⟩) ho fun v tf' t' h1 h2 ⟨cs,h3,h4⟩=>by subst h3;exact hQ tf' t' cs h1 h2 h4
 int:=fun h1 h2 h3 h4=>intPv h1 h2 h3 h4
 date:=fun hg ⟨h1,h2,n,h3⟩=>by rw[KC hg h1 h2,h3];rfl
end
end Go.Proofs
namespace Go.Proofs
open Go Go.Am
variable [jC]
section
variable {P:bK}{tf t:Tr vA}{Q E:fA}
theorem zb1(h:St P tf t 0 0)(hk:Ok P eJ 0 tf (gP P.tk) Q E):dK yA F E 41 [.ptr P.bp 0] t Q:=by
 refine w41 _ ?_
 unfold t41;refine tB ?_
 rw[pE 42];unfold gP at hk;refine zai lib30 _ _ _ _ _ h (hk.bind fun x n1 tf1 t1 v hr hle hst hrd hk1=>?_)
 obtain⟨cs,rfl,hx⟩:=hrd
 refine eC (wO hx) ?_
 rw[show [zA.int .u8 ((cellsOf cs).i 0),.str ((cellsOf cs).s 1),.int .u8 ((cellsOf cs).i 2),.bool ((cellsOf cs).b 3),(cellsOf cs).v 4,.bool ((cellsOf cs).b 5),(cellsOf cs).v 6,.int .i64 ((cellsOf cs).i 7),(cellsOf cs).v 8]=cs from Ft hx]
 have hall:cB zA.one cs=true:=by
  obtain⟨a,b,c,rfl,_⟩:=pJ hx
  exact hx.all
 refine pA hall (tB ?_)
 rw[pE 43];refine zcc hst (hk1.bind fun a n2 tf2 t2 v2 hr2 hl2 hst2 hrd2 hk2=>?_)
 exact pA hall (Ok.now hk2 hst2 ⟨cs,rfl,hx.mono hl2⟩)
end
end Go.Proofs
namespace Go.Am
open Go Go.RowKit
structure Gp (C:rA) (F:Tr kD) (f:Nat) (fn:Func) (kf:Nat) (A:kD) (l:List zC) (q:sO) (fc:Func) (kc:Nat) (Ac:kD) (qc:ClQ):Prop where
 isF:F.get f=some A
 isFn:C.fns.get f=some fn
 isK:C.ks.get f=some kf
 prim:C.prims.get f=none
 lt:Nat.blt f yo=true
 body:jD fn.body=false
 split:eT A.code=some (l,q)
 isC:F.get q.cl=some Ac
 isFc:C.fns.get q.cl=some fc
 isKc:C.ks.get q.cl=some kc
 primC:C.prims.get q.cl=none
 bodyC:jD fc.body=false
 clo:Cz Ac.code=some qc
 ok:(Kw fn.results.toList q.o6.toList&&(Nat.ble kf q.d&&Nat.blt q.d fn.ntmps))=true
 okC:(Nat.ble (bA q.bs) kc&&Nat.ble (bA q.bs) fc.ntmps)=true
 okD:Nat.blt qc.d fc.ntmps=true
 rng:dJ (mV l)=[]
 rngC:dJ qc.c=[]
def defB (C:rA)(F:Tr kD)(f:Nat)(fn:Func)(kf:Nat)(A:kD)(l:List zC)(q:sO)(fc:Func)(kc:Nat)(Ac:kD)(qc:ClQ):Bool:=
 jD (C.prims.get f)&&Nat.blt f yo && !jD fn.body&&jD (C.prims.get q.cl) && !jD fc.body&&(Kw fn.results.toList q.o6.toList&&(Nat.ble kf q.d&&Nat.blt q.d fn.ntmps)) &&
  (Nat.ble (bA q.bs) kc&&Nat.ble (bA q.bs) fc.ntmps)&&Nat.blt qc.d fc.ntmps&&(match dJ (mV l)with | []=>true | _=>false)&&(match dJ qc.c with | []=>true | _=>false)
section
variable {C:rA}{F:Tr kD}{f:Nat}{fn fc:Func}{kf kc:Nat}{A Ac:kD}{l:List zC}{q:sO}{qc:ClQ}{pure pan:Nat->Bool}{t:Tr vA}{Q:fA}
theorem Gp.of(h1:F.get f=some A)(h2:C.fns.get f=some fn)(h3:C.ks.get f=some kf)(h4:eT A.code=some (l,q))(h5:F.get q.cl=some Ac)(h6:C.fns.get q.cl=some fc)(h7:C.ks.get q.cl=some kc)(h8:Cz Ac.code=some qc)(h:defB C F f fn kf A l q fc kc Ac qc=true):Gp C F f fn kf A l q fc kc Ac qc:=by
 unfold defB at h;simp only[ybb]at h;obtain⟨⟨⟨⟨⟨⟨⟨⟨⟨g1,g2⟩,g3⟩,g4⟩,g5⟩,g6⟩,g7⟩,g8⟩,g9⟩,g10⟩:=h
 have nn:∀ {α:Type} {x:Option α},jD x=true->x=none:=fun {α} {x} h=>by cases x with | none=>rfl | some _=>cases h
 refine⟨h1,h2,h3,nn g1,g2,by simpa using g3,h4,h5,h6,h7,nn g4,by simpa using g5,h8,by simp only[ybb];exact g6,by simp only[ybb];exact g7,g8,?_,?_⟩
 ·split at g9
  ·assumption
  ·cases g9
 ·split at g10
  ·assumption
  ·cases g10
theorem KM(h:F.get f=some A):(eD F).get f=some A.code:=by unfold eD;rw[Tr.get_mapT,h];rfl
theorem JU{args:List zA}{d:Bool}(h2:C.fns.get f=some fn)(h3:C.ks.get f=some kf)(hb:jD fn.body=false)(hl:(Nat.ble (bA args) kf&&Nat.ble (bA args) fn.ntmps)=true):∃g,eI C f args d=some g/\g.tm=⟨kf,Tr.ofList args,[]⟩:=by
 obtain⟨body,hb⟩:∃b,fn.body=some b:=by
  cases hx:fn.body with
  | none=>rw[hx]at hb;cases hb
  | some b=>exact⟨b,rfl⟩
 refine⟨_,by unfold eI;rw[h2,qA,hb,qA,h3,qA,hl];rfl,rfl⟩
theorem zM.nil{A:Tr zC}{E:fA}{c:zC}(h:dJ c=[]):zM A E f c:=fun q hq=>by rw[h]at hq;cases hq
theorem fQ.nil{base:Nat}{E:fA}{J:pF}{L:List PtD}(h:L=[]):fQ base kf E J L:=fun d hd=>by rw[h]at hd;cases hd
theorem st_of{base:Nat}{X:Xt}{tm:Tm}{HA:xA}(ho:Ov base t X HA)(hk:tm.k=kf):bE base X kf (fun i=>i) X ⟨tm,[],.leaf,[]⟩ tm HA t:=
 ⟨ho,gH.refl _,hk,hk,fun _ _ h=>h,fun _ _ h=>(by cases h),fun d l h=>(by rw[show(Tr.leaf:Tr (List zA)).get d=none from Tr.get_leaf _]at h;cases h),fun d _ l _ h=>(by rw[show(Tr.leaf:Tr (List zA)).get d=none from Tr.get_leaf _]at h;cases h)⟩
theorem zd4(h:Gp C F f fn kf A l q fc kc Ac qc){p:PI}{cells:List zA}{v:zA}{W J:pF}{E:fA}(hW:rO C (eD F) E W)(hY:wZ C (eD F) W)(hpts:∀ κ,oJ C (nC C (eD F)) q.cl fc.ntmps qc.c κ=[]){vals:List zA}(hl:bA cells=bA q.bs)
  (hv:Bm p ⟨clTm fc.ntmps qc ⟨kc,Tr.ofList cells,[]⟩ v,[],.leaf,[]⟩=some vals) {R:fA} (hw:oA C.base W J (nK C Ac.la q.cl fc.ntmps qc.c (oZ C fc) (mK kc p vals)) t R):∀X HA,Ov C.base t X HA->lB C.base X E R (kQ C (eD F) (nC C (eD F)) q.cl cells v HA):=by
 intro X HA ho;obtain⟨g,h1,h2⟩:=JU (args:=cells) (d:=true) h.isFc h.isKc h.bodyC (by rw[hl];exact h.okC)
 unfold kQ;refine lB.ob h.isFc (lB.ob (KM h.isC) (lB.ob h.clo ?_))
 have hg:(jD (C.prims.get q.cl)&&Nat.blt qc.d fc.ntmps)=true:=by rw[h.primC,h.okD];rfl
 rw[hg];show lB C.base X E R (ob (eI C q.cl cells true) _)
 refine lB.ob h1 ?_
 rw[h2];have hst:bE C.base X kc (fun i=>i) X ⟨clTm fc.ntmps qc ⟨kc,Tr.ofList cells,[]⟩ v,[],.leaf,[]⟩ (clTm fc.ntmps qc ⟨kc,Tr.ofList cells,[]⟩ v) HA t:=st_of ho (by unfold clTm;rw[fZ,fZ];rfl)
 exact nZ hW hY qc.c (oZ C fc) (yN C fc) (zM.nil h.rngC) (fun _=>Sa) (fQ.nil (hpts _)) _ _ _ _ _ _ _ (hst.at hv) hw
def Lc(C:rA)(F:Tr kD)(pure pan:Nat->Bool)(f:Nat)(fn:Func)(kf:Nat)(A:kD)(q:sO)(p:PI)(vals:List zA)(t:Tr vA)(Q:fA):Prop:=
 ∃cells,∃E:fA,lM q.bs (.now (mK kf p vals).tm.cut)=some cells/\(∀HA,kQ C (eD F) (nC C (eD F)) q.cl cells .niliface HA=some (⟨.tup [],false⟩,HA)) ∧
  (∀v t',E v t'->∀X HA,Ov C.base t' X HA->lB C.base X oI (fun _ t''=>oA C.base (Wq C F pure) (fun _ _ _ _=>False) (endT C fn (mK kf p vals).cut) t'' Q) (kQ C (eD F) (nC C (eD F)) q.cl cells v HA)) ∧
  oA C.base (kF C F pure pan E) (fun _ _ _ _=>False) (nK C A.la f fn.ntmps (.region q.i6 q.o6 false) ⟨endT C fn,fun _ _=>.fail,fun _=>.fail⟩ (mK kf p vals)) t Q
theorem zb2(h:Gp C F f fn kf A l q fc kc Ac qc){p:PI}(hp:p.ll=[]){vals:List zA}(hpn:pure pn=false)(ht:Lc C F pure pan f fn kf A q p vals t Q){X0 X:Xt}{HA:xA}{tm:Tm}{ν:Nat->Nat}(hst:bE C.base X0 kf ν X (mK kf p vals) tm HA t) :
  lB C.base X0 oI Q (lO C (eD F) (nC C (eD F)) fn q tm HA):=by
 obtain⟨cells,E,h1,h2,h3,h4⟩:=ht
 have hend:∀tm' H',fK C (eD F) (nC C (eD F)) fn q.cl cells .niliface tm' H'=zT C fn tm' H':=by
  intro tm' H';unfold fK;rw[h2];rfl
 unfold lO;rw[hst.kA,h.ok];show lB C.base X0 oI Q (ob (lM q.bs (.now tm.cut)) _)
 refine lB.ob (Xx (Jd hst.cut).1 h1) ?_
 have hk:∀X0,SKt C (kF C F pure pan E) (fun _ _ _ _=>False) X0 kf E Q ⟨endT C fn,fun _ _=>.fail,fun _=>.fail⟩ ⟨fun tm' H'=>fK C (eD F) (nC C (eD F)) fn q.cl cells .niliface tm' H',fun _ _ _=>none,fun _ _=>none⟩:=by
  intro X0;refine⟨?_,fun _ _ _ _ _ _ _ _ h=>h.elim,fun _ _ _ _ _ _ _ h=>h.elim⟩
  intro st tm HA t X ν hst hw;simp only[hend];exact Kp st tm HA t X ν hst hw
 have hr:=nZ (vG hpn) wG (.region q.i6 q.o6 false) ⟨endT C fn,fun _ _=>.fail,fun _=>.fail⟩ ⟨fun tm' H'=>fK C (eD F) (nC C (eD F)) fn q.cl cells .niliface tm' H',fun _ _ _=>none,fun _ _=>none⟩ (zM.nil rfl) hk (fQ.nil rfl) X0 _ _ _ _ _ _ hst h4
 obtain⟨o,t',HA',X',g1,g2,g3,g4⟩:=hr
 have g1:kK C (nC C (eD F)) q.o6 fn.ntmps (fun tm' H'=>fK C (eD F) (nC C (eD F)) fn q.cl cells .niliface tm' H') q.o6.toList tm.cut HA=some (o,HA'):=g1
 refine lB.ob g1 ?_
 cases ho:o.p with
 | false=>
  rw[ho,yaa (by simp)]at g4
  show lB C.base X0 oI Q (some (o,HA'))
  exact⟨o,t',HA',X',rfl,g2,g3,by rw[ho,yaa (by simp)];exact g4⟩
 | true=>
  rw[ho,yab rfl]at g4;show lB C.base X0 oI Q (fK C (eD F) (nC C (eD F)) fn q.cl cells o.v tm.cut HA')
  obtain⟨v,t'',HA'',X'',k1,k2,k3,k4⟩:=hO.1 (h3 _ _ g4 _ _ g2)
  unfold fK;refine lB.ob k1 ?_
  show lB C.base X0 oI Q (zT C fn tm.cut HA'')
  have hs:=hst.cut
  have hlo:∀d,(mK kf p vals).cut.lo.get d=none:=by
   intro d;show(gT p.ll (wP vals (bA p.pl))).get d=none
   rw[hp];exact Tr.get_leaf _
  have hs2:bE C.base X0 kf ν X'' (mK kf p vals).cut tm.cut HA'' t'':=
   ⟨k2,g3.trans k3,hs.k,hs.kA,hs.tms,hs.ads,fun d l h=>(by rw[hlo]at h;cases h),fun d _ l _ h=>(by rw[hlo]at h;cases h)⟩
  exact Kp _ _ _ _ _ _ hs2 k4
theorem WcD_of(h:Gp C F f fn kf A l q fc kc Ac qc){p:PI}(hp:p.ll=[])(hpn:pure pn=false){args:List zA}(hl:(Nat.ble (bA args) kf&&Nat.ble (bA args) fn.ntmps)=true)(hpts:∀ κ,oJ C (nC C (eD F)) f fn.ntmps (mV l) κ=[])
  (hw:oA C.base (Wq C F pure) (fun i vals t Q=>i=p.id/\Lc C F pure pan f fn kf A q p vals t Q) (nK C A.la f fn.ntmps (mV l) ⟨fV p,fun _ _=>.fail,endT C fn⟩ ⟨⟨kf,Tr.ofList args,[]⟩,[],.leaf,[]⟩) t Q):Wc C F f args t Q:=by
 intro X HA ho;obtain⟨g,h1,h2⟩:=JU (args:=args) (d:=false) h.isFn h.isK h.body hl
 rw[Fr h.lt,h.prim];show lB C.base X oI Q (nC C (eD F) (.func f) args HA)
 rw[Xm];show lB C.base X oI Q (nQ C (eD F) (nC C (eD F)) f args HA)
 unfold nQ;refine lB.ob (KM h.isF) (lB.ob h.isFn (lB.ob h1 ?_))
 unfold dU;rw[h.split,h2];have hk:∀X0,SKt C (Wq C F pure) (fun i vals t Q=>i=p.id/\Lc C F pure pan f fn kf A q p vals t Q) X0 kf oI Q ⟨fV p,fun _ _=>.fail,endT C fn⟩ (jZ C (eD F) (nC C (eD F)) fn q):=by
  intro X0;refine⟨fun st tm HA t X ν hst hw=>?_,fun _ _ _ _ _ _ _ _ h=>h.elim,Kp⟩
  unfold fV at hw;rw[xE]at hw;obtain⟨vals,k1,_,k2⟩:=hw
  exact zb2 h hp hpn k2 (hst.at k1)
 exact nZ (Rb hpn) Ra (mV l) _ _ (zM.nil h.rng) hk (fQ.nil (hpts _)) _ _ _ _ _ _ _ (st_of ho rfl) hw
end
end Go.Am
namespace Go.Proofs
open Go Go.Am
variable [jC]
def dq0:sO:=⟨0,#[],0,0,[],0,#[]⟩
def cq0:ClQ:=⟨0,#[],0,0,.skip⟩
def pcs (f:Nat):List zC:=(gD ([],dq0) (eT (ao f).code)).1
def dqo (f:Nat):sO:=(gD ([],dq0) (eT (ao f).code)).2
def cqo (f:Nat):ClQ:=gD cq0 (Cz (ao f).code)
def dB (f cl:Nat):Bool := !jD (F.get f) && !jD (fns.get f) && !jD (ks.get f) && !jD (eT (ao f).code) && !jD (F.get cl) && !jD (fns.get cl) && !jD (ks.get cl) && !jD (Cz (ao cl).code)&&Nat.beq (dqo f).cl cl&&defB yA F f (fo f) (ko f) (ao f) (pcs f) (dqo f) (fo cl) (ko cl) (ao cl) (cqo cl)
theorem dA(f cl:Nat)(h:dB f cl=true:=by kernel_rfl):Gp yA F f (fo f) (ko f) (ao f) (pcs f) (dqo f) (fo cl) (ko cl) (ao cl) (cqo cl):=by
 unfold dB at h;simp only[ybb]at h;obtain⟨⟨⟨⟨⟨⟨⟨⟨⟨h1,h2⟩,h3⟩,h4⟩,h5⟩,h6⟩,h7⟩,h8⟩,h9⟩,h10⟩:=h
 have e:=sC.1 h9
 exact .of (gO h1) (gO h2) (gO h3) (gO h4) (by rw[e];exact gO h5) (by rw[e];exact gO h6) (by rw[e];exact gO h7) (gO h8) h10
abbrev noJ:pF:=fun _ _ _ _=>False
abbrev pR:PI:=⟨11,[1,4,5,6,8],[]⟩
abbrev pS:PI:=⟨3,[0,1,2,3],[]⟩
def t40 (p0:List Nat)(p1:zA):T:=
 .heavy (sJ yA 50) fun a0=>
 .heavy (sJ yA 29) fun a1=>
 .heavy (sJ yA 30) fun a2=>
 .call 22 [(.str p0)] fun a3=>
 .opt (wH 0 a3) fun a4=>.opt (wH 1 a3) fun a5=>.asG [(.int .i64 0),(.int .i64 0)] a5 fun X6=>
 .opt (wH 2 a3) fun a7=>.asI .i64 a7 fun n8=>.heavy (uC yA 29 a1 (.agg [(.int .i64 (X6.i 0)),(.int .i64 (X6.i 1))])) fun _=>
 .heavy (uC yA 30 a2 (.int .i64 n8)) fun _=>
 .light (fun m=>iA yA 30 ⟨0,m⟩ a2) fun a9=>.asI .i64 a9 fun n10=>.ite (!tC n10 0)
 (.light (fun m=>iA yA 50 ⟨0,m⟩ a0) fun a11=>.asG [(.int .u8 0),(.str []),(.int .u8 0),(.bool false),.nilslice,(.bool false),.nilslice,(.int .i64 0),.nilslice] a11 fun X12=>
 .light (fun m=>iA yA 29 ⟨0,m⟩ a1) fun a13=>.asG [(.int .i64 0),(.int .i64 0)] a13 fun X14=>
 .light (fun m=>iA yA 30 ⟨0,m⟩ a2) fun a15=>.asI .i64 a15 fun n16=>.heavy (uC yA 50 a0 (.agg [(.int .u8 (X12.i 0)),(.str (X12.s 1)),(.int .u8 (X12.i 2)),(.bool (X12.b 3)),(X12.v 4),(.bool (X12.b 5)),(X12.v 6),(.int .i64 (X12.i 7)),(X12.v 8)])) fun _=>
 .light (fun m=>iA yA 29 ⟨0,m⟩ a1) fun a17=>.ite (same 10 a17 (.agg [(.int .i64 (X14.i 0)),(.int .i64 (X14.i 1))])) (.light (fun m=>iA yA 30 ⟨0,m⟩ a2) fun a18=>.ite (same 10 a18 (.int .i64 n16)) (.heavy (uC yA 29 a1 (.agg [(.int .i64 (X14.i 0)),(.int .i64 (X14.i 1))])) fun _=>
 .light (fun m=>iA yA 30 ⟨0,m⟩ a2) fun a19=>.ite (same 10 a19 (.int .i64 n16)) (.heavy (uC yA 30 a2 (.int .i64 n16)) fun _=>
 .light (fun m=>iA yA 50 ⟨0,m⟩ a0) fun a20=>.light (fun m=>iA yA 29 ⟨0,m⟩ a1) fun a21=>.light (fun m=>iA yA 30 ⟨0,m⟩ a2) fun a22=>.ret (.tup [a20,a21,a22])) .fail) .fail) .fail)
 (.call 25 [(.str p0),(.int .i64 (Int.ofNat (bA p0)))] fun a23=>
 .asG [(.int .i64 0),(.int .i64 0)] a23 fun X24=>
 .ite (cB zA.one [a4]) (.heavy (jL (.agg [a4,(.int .i64 0),(.int .i64 0),(.int .i64 (X24.i 0)),(.int .i64 (X24.i 1))])) fun a25=>
 .jump 11 [p1,a0,a1,a2,a25]) .fail)
def Sw(v1:zA)(v4:zA)(v5:zA)(v6:zA)(v8:zA):T:=
 .callv v1 [v8] fun a0=>
 .asG [(.int .u8 0),(.str []),(.int .u8 0),(.bool false),.nilslice,(.bool false),.nilslice,(.int .i64 0),.nilslice] a0 fun X1=>
 .ite true (.heavy (uC yA 50 v4 (.agg [(.int .u8 (X1.i 0)),(.str (X1.s 1)),(.int .u8 (X1.i 2)),(.bool (X1.b 3)),(X1.v 4),(.bool (X1.b 5)),(X1.v 6),(.int .i64 (X1.i 7)),(X1.v 8)])) fun _=>
 .heavy (uC yA 29 v5 (.agg [(.int .i64 0),(.int .i64 0)])) fun _=>
 .heavy (uC yA 30 v6 (.int .i64 0)) fun _=>
 .light (fun m=>iA yA 50 ⟨0,m⟩ v4) fun a2=>.light (fun m=>iA yA 29 ⟨0,m⟩ v5) fun a3=>.light (fun m=>iA yA 30 ⟨0,m⟩ v6) fun a4=>.ret (.tup [a2,a3,a4])) .fail
def Mr(v0:zA)(v1:zA)(v2:zA)(v3:zA):T:=
 .opt ((rW .neq).f yA 20 (.tmp 8) (.const .nilIface) v3 .niliface) fun a0=>.asB a0 fun b1=>.ite b1
 (.heavy (uC yA 50 v0 (.agg [(.int .u8 0),(.str []),(.int .u8 0),(.bool false),.nilslice,(.bool false),.nilslice,(.int .i64 0),.nilslice])) fun _=>
 .heavy (uC yA 30 v1 (.int .i64 120)) fun _=>
 .opt (Hg yA 123 true v3) fun a2=>.opt (wH 0 a2) fun a3=>.asG [(.int .i64 0),(.int .i64 0),(.int .i64 0)] a3 fun X4=>
 .opt (wH 1 a2) fun a5=>.asB a5 fun b6=>.ite true (.ite b6
 (.heavy (uC yA 29 v2 (.agg [(.int .i64 (X4.i 0)),(.int .i64 (X4.i 1))])) fun _=>
 .ite (same 10 (.int .i64 (X4.i 2)) (.int .i64 (X4.i 2))) (.heavy (uC yA 30 v1 (.int .i64 (X4.i 2))) fun _=>
 .ret (.tup [])) .fail)
 (.ret (.tup []))) .fail)
 (.ret (.tup []))
def Mt(v4 v5 v6:zA):T:=.light (fun m=>iA yA 50 ⟨0,m⟩ v4) fun a2=>.light (fun m=>iA yA 29 ⟨0,m⟩ v5) fun a3=>.light (fun m=>iA yA 30 ⟨0,m⟩ v6) fun a4=>.ret (.tup [a2,a3,a4])
theorem e40(p0:List Nat)(p1:zA):nK yA (ao 40).la 40 (fo 40).ntmps (mV (pcs 40)) ⟨fV pR,fun _ _=>.fail,Am.endT yA (fo 40)⟩ ⟨⟨ko 40,Tr.ofList [(.str p0),p1],[]⟩,[],.leaf,[]⟩=t40 p0 p1:=by kernel_rfl
theorem e40_13(v1 v4 v5 v6 v8:zA):nK yA (ao 40).la 40 (fo 40).ntmps (.region (dqo 40).i6 (dqo 40).o6 false) ⟨Am.endT yA (fo 40),fun _ _=>.fail,fun _=>.fail⟩ (mK (ko 40) pR [v1,v4,v5,v6,v8])=Sw v1 v4 v5 v6 v8:=by kernel_rfl
theorem e40_e(v1 v4 v5 v6 v8:zA):Am.endT yA (fo 40) (mK (ko 40) pR [v1,v4,v5,v6,v8]).cut=Mt v4 v5 v6:=by kernel_rfl
theorem e67_3(v0 v1 v2 v3:zA):nK yA (ao 67).la (dqo 40).cl (fo 67).ntmps (cqo 67).c (oZ yA (fo 67)) (mK (ko 67) pS [v0,v1,v2,v3])=Mr v0 v1 v2 v3:=by kernel_rfl
theorem nil67(a b c:zA)(HA:xA):kQ yA (eD F) (nC yA (eD F)) (dqo 40).cl [a,b,c] .niliface HA=some (⟨.tup [],false⟩,HA):=by kernel_rfl
theorem tl40(v1 v4 v5 v6 v8:zA){m:Tr vA}{Q:fA}(h:oA yA.base (kF yA F gC nG fun v t'=>oA yA.base (Wq yA F gC) noJ (Mr v4 v6 v5 v) t' fun _ t''=>oA yA.base (Wq yA F gC) noJ (Mt v4 v5 v6) t'' Q) noJ (Sw v1 v4 v5 v6 v8) m Q) :
  Lc yA F gC nG 40 (fo 40) (ko 40) (ao 40) (dqo 40) pR [v1,v4,v5,v6,v8] m Q:=by
 refine⟨[v4,v6,v5],(fun v t'=>oA yA.base (Wq yA F gC) noJ (Mr v4 v6 v5 v) t' fun _ t''=>oA yA.base (Wq yA F gC) noJ (Mt v4 v5 v6) t'' Q),by kernel_rfl,nil67 _ _ _,fun v t' hv=>?_,by rw[e40_13];exact h⟩
 refine zd4 (dA 40 67) (p:=pS) (W:=Wq yA F gC) (Rb (by kernel_rfl)) Ra (by intro κ;kernel_rfl) (by kernel_rfl) (vals:=[v4,v6,v5,v]) (by kernel_rfl) (J:=noJ) ?_
 rw[e67_3,e40_e];exact hv
theorem w40(p0:List Nat)(p1:zA){m:Tr vA}{Q:fA}(h:oA yA.base (Wq yA F gC) (fun i vals t Q=>i=11/\Lc yA F gC nG 40 (fo 40) (ko 40) (ao 40) (dqo 40) pR vals t Q) (t40 p0 p1) m Q):Wf 40 [(.str p0),p1] m Q:=
 WcD_of (pan:=nG) (dA 40 67) (p:=pR) rfl (by kernel_rfl) (by kernel_rfl) (by intro κ;kernel_rfl) (by rw[e40];exact h)
end Go.Proofs
namespace Go.Proofs
open Go Go.Am
variable [jC]
section
variable {t:Tr vA}{Q:fA}{s:List Nat}
theorem dN(s:List Nat):(Int.ofNat (bA s))=(s.length:Int):=by rw[sD];rfl
theorem CO(hs:s.length<4000000000000000000):fB yA F 37 [.str s,.func (.func 65) [] []] t=some (.str (fE fD s)):=by
 refine tE.2 (w37 ?_)
 simp only[uZ,t37,oA];exact Nh (fun n=>Jy) (fun {a m R}=>by rw[q65]) rfl hs s.length 0 (by omega) (fun j x hj=>by omega)
theorem SZ{n:Nat}:fB yA F 80 [.int .u8 (n:Int)] t=some (.bool (decide (n≠10))):=by
 refine tE.2 (w80 ?_)
 unfold t80;refine⟨?_,rfl⟩
 rw[sE];congr 1
 by_cases h:n=10
 ·subst h;rfl
 ·simp[h];omega
theorem QG(hs:s.length<4000000000000000000):fB yA F 37 [.str s,.func (.func 80) [] []] t=some (.str (fE (fun x=>decide (x≠10)) s)):=by
 refine tE.2 (w37 ?_)
 simp only[uZ,t37,oA];exact Nh (fun n=>SZ) (fun {a m R}=>by rw[q80]) rfl hs s.length 0 (by omega) (fun j x hj=>by omega)
theorem Ec(p:Nat->Bool)(s:List Nat):(fE p s).length<=s.length:=(List.takeWhile_sublist _).length_le
theorem QI(p:Nat->Bool)(s:List Nat):fE p s=s.take (fE p s).length:=by
 unfold fE;induction s with
 | nil=>rfl
 | cons a s ih=>
  rw[List.takeWhile_cons];split
  ·rw[ybn,List.take_succ_cons,<- ih]
  ·rfl
theorem MC(hs:s.length<4000000000000000000):fB yA F 103 [.str s] t=some (.tup [.str (if 24<(fE aG s).length then []else fE aG s),.int .i64 (if 24<(fE aG s).length then 111 else 0)]):=by
 refine tE.2 (w103 ?_)
 unfold t103 uS;refine tB ?_
 rw[q37,CL hs,sA];refine oE ?_
 rw[dN];by_cases h:24<(fE aG s).length
 ·rw[yab h,yab h]
  exact pA (by rw[qC];exact decide_eq_true (by omega)) ⟨rfl,rfl⟩
 ·rw[yaa h,yaa h]
  exact qB (by rw[qC];simp;omega) ⟨rfl,rfl⟩
theorem DW:fB yA F 129 [.str s] t=some (.bool (dO s)):=by
 refine tE.2 (w129 ?_)
 unfold t129 uU zD;rw[dN];unfold dO;by_cases h:1<s.length
 ·cases s with
  | nil=>simp at h
  | cons x r=>
   have hx:=xL (s:=x::r) (i:=0) (x:=x) rfl
   refine pA (by rw[qC];exact decide_eq_true (by omega)) (mA hx (oB ⟨?_,rfl⟩))
   rw[sE,decide_eq_true h];congr 1
   by_cases h48:x=48
   ·subst h48;rfl
   ·simp[h48];omega
 ·refine qB (by rw[qC];simp;omega) ⟨?_,rfl⟩
  simp[h]
theorem zar:fB yA F 104 [.str s] t=some (.bool (cI s)):=by
 have loop:10<=s.length->∀(k i:Nat),i+k=10->jp 104 2 [.str s,.int .i64 (i:Int)] t (fun v t'=>v=.bool (((List.range 10).drop i).all fun i=>nN i (s.getD i 0))/\t'=t):=by
  intro hl k;induction k with
  | zero=>
   intro i hi;refine ID ?_
   unfold Tz oK;refine qB (by rw[qC];simp;omega) ⟨?_,rfl⟩
   rw[ybt (by simp;omega)]
   rfl
  | succ k ih=>
   intro i hi;have hx:s[i]?=some s[i]:=ybd (by omega)
   have hd:s.getD i 0=s[i]:=by rw[List.getD_eq_getElem?_getD,hx];rfl
   have e:((List.range 10).drop i).all (fun i=>nN i (s.getD i 0))=(nN i s[i]&&((List.range 10).drop (i+1)).all fun i=>nN i (s.getD i 0)):=by
    rw[ybl (by simp;omega),ycg]
    simp only[List.getElem_range,hd]
   have e3:nD (i:Int)=.int .i64 ((i+1:Nat):Int):=by
    show zA.int .i64 (lA .i64 ((i:Int)+1))=_
    rw[oC (by omega) (by omega)];rfl
   have next:nN i s[i]=true->jp 104 2 [.str s,nD (i:Int)] t (fun v t'=>v=.bool (((List.range 10).drop i).all fun i=>nN i (s.getD i 0))/\t'=t):=fun h=>by
    rw[e,h,ycn,e3];exact ih (i+1) (by omega)
   have sep:(i=4\/i=7)->wp 104 (uQ15 s (i:Int)) t (fun v t'=>v=.bool (((List.range 10).drop i).all fun i=>nN i (s.getD i 0))/\t'=t):=fun h47=>by
    unfold uQ15 uU zD;refine mA (xL hx) (oB ?_)
    have hda:nN i s[i]=decide (s[i]=45):=by unfold nN;rw[yab h47]
    by_cases h45:s[i]=45
    ·refine qB (by rw[sE,h45];simp) (iC (next (by rw[hda];exact decide_eq_true h45)))
    ·refine pA (by rw[sE];simp;omega) ⟨?_,rfl⟩
     rw[e,hda,decide_eq_false h45];rfl
   refine ID ?_
   unfold Tz uU uB zD;refine pA (by rw[qC];exact decide_eq_true (by omega)) ?_
   by_cases h4:i=4
   ·exact pA (by rw[sE];exact decide_eq_true (by omega)) (sep (.inl h4))
   refine qB (by rw[sE];simp;omega) ?_
   by_cases h7:i=7
   ·exact pA (by rw[sE];exact decide_eq_true (by omega)) (sep (.inr h7))
   refine qB (by rw[sE];simp;omega) (mA (xL hx) (oB (tB ?_)))
   rw[q65];show xD (fB yA F 65 [.int .u8 (s[i]:Int)] t) _
   rw[Jy,sA];have hda:nN i s[i]=fD s[i]:=by unfold nN;rw[yaa (by omega)]
   refine vE ?_
   cases hb:fD s[i]with
   | true=>exact qB (by simp) (iC (next (by rw[hda,hb])))
   | false=>
    refine pA rfl ⟨?_,rfl⟩
    rw[e,hda,hb];rfl
 refine tE.2 (w104 ?_)
 unfold t104 zD;rw[dN];unfold cI;by_cases h:10<=s.length
 ·refine qB (by rw[qC];simp;omega) (iC ?_)
  rw[decide_eq_true h,ycn];exact loop h 10 0 rfl
 ·refine pA (by rw[qC];exact decide_eq_true (by omega)) ⟨?_,rfl⟩
  rw[decide_eq_false h];rfl
theorem XL(h:cI s=true):cI (s.take 10)=true/\(s.take 10).length=10:=by
 have hl:10<=s.length:=by unfold cI at h;simp only[ybb,decide_eq_true_eq]at h;exact h.1
 refine⟨?_,by rw[yda];omega⟩
 unfold cI at h ⊢
 simp only[ybb,decide_eq_true_eq,ycb,List.mem_range]at h ⊢
 refine⟨by rw[yda];omega,fun i hi=>?_⟩
 have:=h.2 i hi
 rw[List.getD_eq_getElem?_getD]at this ⊢
 rw[ydf,yab hi];exact this
theorem XM(hg:rK t)(hd:cI s=true):fB yA F 105 [.str s] t=some (.tup [.str (if fR s then []else s.take 10),.int .i64 (if fR s then 113 else 0)]):=by
 obtain⟨h1,h2⟩:=XL hd
 have hl:10<=s.length:=by unfold cI at hd;simp only[ybb,decide_eq_true_eq]at hd;exact hd.1
 have tail:(decide (10<s.length)&&bS s 10)=false->wp 105 (uQ6 s) t fun v' t'=>v'=.tup [.str (if fR s then []else s.take 10),.int .i64 (if fR s then 113 else 0)]/\t'=t:=by
  intro hf;have hb:fR s=decide (lY (s.take 10)=none):=by unfold fR;rw[hf,Bool.false_or]
  unfold uQ6 uS uI;have hs:=Bv (s:=s) (k:=10) (by omega)
  refine mA hs (oE (tB ?_))
  rw[q97,KC hg h2 h1,sA];refine mA rfl (oB (mA rfl (oB ?_)))
  rw[hb]
  cases hx:lY (s.take 10)with
  | none=>exact pA (by decide) ⟨rfl,rfl⟩
  | some n=>exact qB (fun h=>by cases h) (mA hs (oE ⟨rfl,rfl⟩))
 refine tE.2 (w105 ?_)
 unfold t105 uU uB;rw[dN];by_cases h10:10<s.length
 ·have hx:s[10]?=some s[10]:=ybd h10
  refine pA (by rw[qC];exact decide_eq_true (by omega)) (mA (xL hx) (oB (tB ?_)))
  rw[q38];show xD (fB yA F 38 [.int .u8 (s[10]:Int)] t) _
  rw[Xf,sA];refine vE ?_
  have hf:bS s 10=aG s[10]:=by unfold bS;rw[hx]
  cases hb:aG s[10]with
  | true=>
   refine pA rfl ⟨?_,rfl⟩
   have:fR s=true:=by unfold fR;rw[hf,hb,decide_eq_true h10];rfl
   rw[this];rfl
  | false=>
   refine qB (by simp) (tail ?_)
   rw[hf,hb,yay]
 ·exact qB (by rw[qC];simp;omega) (tail (by rw[decide_eq_false h10];rfl))
theorem SX(hs:s.length<1000000):fB yA F 106 [.str s] t=some (.tup [.str (if fI s then []else s.take (oF s)),.int .i64 (if fI s then 112 else 0)]):=by
 have hfl:=Ec fD s
 have hfirst:(iD s).length<=s.length:=hfl
 have hsecond:(iD s).length+1+(lF s).length<=s.length\/lF s=[]:=by
  unfold lF;split
  ·rename_i h
   have h1:=(ybc.1 h).1
   left
   have:=Ec fD (s.drop ((iD s).length+1))
   rw[ydj]at this;omega
  ·right;rfl
 have hnl:oF s<=s.length:=by
  unfold oF;split
  ·exact hfirst
  ·rename_i h;exact hsecond.resolve_right h
 have tail:decide (200<oF s)=false->bS s (oF s)=false->wp 106 (uQ9 (iD s) (lF s) s (oF s:Int)) t fun v' t'=>v'=.tup [.str (if fI s then []else s.take (oF s)),.int .i64 (if fI s then 112 else 0)]/\t'=t:=by
  intro h1 h2;have hb:fI s=(dO (iD s)||dO (lF s)||decide (lF s=[48])):=by unfold fI;rw[h1,h2,Bool.false_or,Bool.false_or]
  unfold uQ9 uB uS;refine tB ?_
  rw[q129,DW,sA];refine vE ?_
  cases p1:dO (iD s)with
  | true=>rw[hb,p1];exact pA rfl ⟨rfl,rfl⟩
  | false=>
   refine qB (by simp) (tB ?_)
   rw[q129,DW,sA];refine vE ?_
   cases p2:dO (lF s)with
   | true=>rw[hb,p1,p2];exact pA rfl ⟨rfl,rfl⟩
   | false=>
    refine qB (by simp) ?_
    rw[hb,p1,p2]
    cases p3:bC (lF s) [48]with
    | true=>
     rw[decide_eq_true ((bN _ _).1 p3)]
     exact pA rfl ⟨rfl,rfl⟩
    | false=>
     rw[decide_eq_false fun e=>by rw[(bN _ _).2 e]at p3;cases p3]
     exact qB (by simp) (mA (Bv hnl) (oE ⟨rfl,rfl⟩))
 have p17:jp 106 17 [.str s,.str (iD s),.int .i64 (oF s:Int),.str (lF s)] t fun v' t'=>v'=.tup [.str (if fI s then []else s.take (oF s)),.int .i64 (if fI s then 112 else 0)]/\t'=t:=by
  refine zc1 ?_
  unfold AY uU uB;rw[dN];by_cases h:oF s<s.length
  ·have hx:s[oF s]?=some s[oF s]:=ybd h
   refine pA (by rw[qC];exact decide_eq_true (by omega)) (mA (xL hx) (oB (tB ?_)))
   rw[q38];show xD (fB yA F 38 [.int .u8 (s[oF s]:Int)] t) _
   rw[Xf,sA];refine vE ?_
   have hf:bS s (oF s)=aG s[oF s]:=by unfold bS;rw[hx]
   by_cases h2:200<oF s
   ·refine pA (by rw[qC];exact decide_eq_true (by omega)) ⟨?_,rfl⟩
    have:fI s=true:=by unfold fI;rw[decide_eq_true h2];simp
    rw[this];rfl
   ·refine qB (by rw[qC];simp;omega) ?_
    cases hb:aG s[oF s]with
    | true=>
     refine pA rfl ⟨?_,rfl⟩
     have:fI s=true:=by unfold fI;rw[hf,hb];simp
     rw[this];rfl
    | false=>exact qB (by simp) (tail (decide_eq_false h2) (by rw[hf,hb]))
  ·have hf:bS s (oF s)=false:=by unfold bS;rw[List.getElem?_eq_none (by omega)]
   refine qB (by rw[qC];simp;omega) ?_
   by_cases h2:200<oF s
   ·refine pA (by rw[qC];exact decide_eq_true (by omega)) ⟨?_,rfl⟩
    have:fI s=true:=by unfold fI;rw[decide_eq_true h2];simp
    rw[this];rfl
   ·exact qB (by rw[qC];simp;omega) (tail (decide_eq_false h2) hf)
 have p13:jp 106 13 [.str s,.str (iD s),.int .i64 ((iD s).length:Int),.str (lF s)] t fun v' t'=>v'=.tup [.str (if fI s then []else s.take (oF s)),.int .i64 (if fI s then 112 else 0)]/\t'=t:=by
  refine zc2 ?_
  unfold AZ
  cases he:bC (lF s) []with
  | true=>
   have h0:=(bN _ _).1 he
   refine qB (by simp) (iC ?_)
   have:oF s=(iD s).length:=by unfold oF;rw[yab h0]
   have e:((oF s:Nat):Int)=((iD s).length:Int):=by rw[this]
   rw[e]at p17;exact p17
  | false=>
   have h0:lF s≠[]:=fun e=>by rw[(bN _ _).2 e]at he;cases he
   have hle:=hsecond.resolve_right h0
   refine pA rfl (iC ?_)
   have e:uW (((iD s).length:Int)+uW (1+Int.ofNat (bA (lF s))))=((oF s:Nat):Int):=by
    unfold uW oF;rw[dN,yaa h0,oC (n:=1+((lF s).length:Int)) (by omega) (by omega),oC (by omega) (by omega)]
    omega
   rw[e];exact p17
 refine tE.2 (w106 ?_)
 unfold t106 uS uU;refine tB ?_
 rw[q37,CO (by omega),sA]
 refine oE ?_
 rw[dN,dN];show wp 106 (.ite (yC ((iD s).length:Int) (s.length:Int)) _ (.jump 13 [.str s,.str (iD s),uZ ((iD s).length:Int),.str []])) t _
 by_cases h:(iD s).length<s.length
 ·have hx:s[(iD s).length]?=some s[(iD s).length]:=ybd h
  refine pA (by rw[qC];exact decide_eq_true (by omega)) (mA (xL hx) (oB ?_))
  by_cases h47:s[(iD s).length]=47
  ·have e:uW (((fE fD s).length:Int)+1)=(((iD s).length+1:Nat):Int):=by
    show lA .i64 (((iD s).length:Int)+1)=_
    rw[oC (by omega) (by omega)];rfl
   have h2:lF s=fE fD (s.drop ((iD s).length+1)):=by unfold lF;rw[yab (by rw[hx,h47])]
   refine pA (by rw[sE,h47];rfl) ?_
   rw[e];refine mA (Na (by omega)) (oE (tB ?_))
   rw[q37,CO (by rw[ydj];omega),sA,<- h2]
   exact oE (iC p13)
  ·have h2:lF s=[]:=by unfold lF;rw[yaa (by rw[hx];simpa using h47)]
   refine qB (by rw[sE];simp;omega) (iC ?_)
   rw[h2]at p13;exact p13
 ·have h2:lF s=[]:=by unfold lF;rw[yaa (by rw[List.getElem?_eq_none (by omega)];simp)]
  refine qB (by rw[qC];simp;omega) (iC ?_)
  rw[h2]at p13;exact p13
end
end Go.Proofs
namespace Go.Proofs
open Go Go.Am
variable [jC]
theorem VA(c:Nat):∀s:List Nat,(eS c s).isSome=s.contains c:=by
 intro s;induction s with
 | nil=>rfl
 | cons x r ih=>
  rw[List.contains_cons,<- ih];have e:eS c (x::r)=bif Nat.beq x c then some 0 else ob (eS c r) fun n=>some (n+1):=rfl
  rw[e]
  cases h:Nat.beq x c with
  | true=>rw[sC.1 h];simp
  | false=>
   have:¬ c=x:=fun e=>by rw[e,Nat.beq_refl]at h;cases h
   have h2:(c == x)=false:=by simp[this]
   rw[cond_false,h2,Bool.false_or]
   cases eS c r<;>rfl
abbrev xH(sp:Nat)(src:List Nat)(ln cl off:Nat):jE:=lC sp none [.int .i64 (ln:Int),.int .i64 (cl:Int),.str src,.int .i64 (off:Int)]
section
variable {tf t:Tr vA}{A B:List jE}{Q:fA}{sp ln cl off:Nat}{src:List Nat}
theorem g0{b:Nat}:tD yA 145 0 (.ptr b 0)=some (.ptr b 0):=by kernel_rfl
theorem g1{b:Nat}:tD yA 145 1 (.ptr b 0)=some (.ptr b 2):=by kernel_rfl
theorem g2{b:Nat}:tD yA 145 2 (.ptr b 0)=some (.ptr b 3):=by kernel_rfl
theorem p0{b:Nat}:tD yA 29 0 (.ptr b 0)=some (.ptr b 0):=by kernel_rfl
theorem p1{b:Nat}:tD yA 29 1 (.ptr b 0)=some (.ptr b 1):=by kernel_rfl
theorem CE(h:cA yA.base tf t (A++xH sp src ln cl off::B)):iA yA 9 ⟨0,t⟩ (.ptr sp 2)=some (.str src):=(cA.cel h).load1 zN rfl rfl
theorem Ib(h:cA yA.base tf t (A++xH sp src ln cl off::B)):iA yA 3 ⟨0,t⟩ (.ptr sp 3)=some (.int .i64 (off:Int)):=(cA.cel h).load1 tM rfl rfl
theorem sc_ln(h:cA yA.base tf t (A++xH sp src ln cl off::B)):iA yA 3 ⟨0,t⟩ (.ptr sp 0)=some (.int .i64 (ln:Int)):=(cA.cel h).load1 tM rfl rfl
theorem sc_cl(h:cA yA.base tf t (A++xH sp src ln cl off::B)):iA yA 3 ⟨0,t⟩ (.ptr sp 1)=some (.int .i64 (cl:Int)):=(cA.cel h).load1 tM rfl rfl
theorem sc_pl(h:cA yA.base tf t (A++xH sp src ln cl off::B)):iA yA 29 ⟨0,t⟩ (.ptr sp 0)=some (.agg [.int .i64 (ln:Int),.int .i64 (cl:Int)]):=by
 have:=(cA.cel h).at.load (j:=0) (n:=2) kT rfl rfl (by simp)
 simpa using this
theorem Ia{ln' cl' off' j:Nat}{x:Nat}(h:cA yA.base tf t (A++xH sp src ln cl off::B))(hj:j<4)(he:oM [.int .i64 (ln:Int),.int .i64 (cl:Int),.str src,.int .i64 (off:Int)] j [.int .i64 (x:Int)]=[.int .i64 (ln':Int),.int .i64 (cl':Int),.str src,.int .i64 (off':Int)]) :
  ∃t',(∀q,uC yA 3 (.ptr sp j) (.int .i64 (x:Int)) ⟨q,t⟩=some (rD,⟨q,t'⟩))/\cA yA.base tf t' (A++xH sp src ln' cl' off'::B):=by
 obtain⟨t',h1,h2⟩:=cA.setCel (j:=j) (v:=.int .i64 (x:Int)) h tM rfl (by show j+1<=4;omega) rfl
 refine⟨t',h1,?_⟩
 have:(zA.int .i64 (x:Int)).cells=[.int .i64 (x:Int)]:=rfl
 rw[this,he]at h2;exact h2
theorem Ee(h:cA yA.base tf t (A++xH sp src ln cl off::B))(ho:off<=src.length):fB yA F 79 [.ptr sp 0] t=some (.str (src.drop off)):=by
 refine tE.2 (w79 ?_)
 unfold t79 jH uI uS;exact mA nl (mA g1 (wC (CE h) (oE (mA nl (mA g2 (wC (Ib h) (oB (mA (Na ho) (oE ⟨rfl,rfl⟩)))))))))
theorem BU{n:Nat}(h:cA yA.base tf t (A++xH sp src ln cl off::B))(h1:off+n<1000000)(h2:cl+n<1000000)(hQ:∀t',cA yA.base tf t' (A++xH sp src ln (cl+n) (off+n)::B)->Q (.tup []) t'):Wc yA F 78 [.ptr sp 0,.int .i64 (n:Int)] t Q:=by
 refine w78 ?_
 unfold t78 jH uI;have e1:uW ((off:Int)+(n:Int))=((off+n:Nat):Int):=by show lA .i64 _=_;rw[oC (by omega) (by omega)];rfl
 have e2:uW ((cl:Int)+(n:Int))=((cl+n:Nat):Int):=by show lA .i64 _=_;rw[oC (by omega) (by omega)];rfl
 refine mA nl (mA g2 (wC (Ib h) (oB (mA nl (mA g2 (pC fun b _ _=>?_))))))
 rw[e1];obtain⟨t1,k1,k2⟩:=Ia (j:=3) (x:=off+n) (ln':=ln) (cl':=cl) (off':=off+n) h (by omega) rfl
 refine⟨_,_,k1 b,mA nl (mA g0 (mA p1 (wC (sc_cl k2) (oB (mA nl (mA g0 (mA p1 (pC fun b _ _=>?_))))))))⟩
 rw[e2];obtain⟨t2,m1,m2⟩:=Ia (j:=1) (x:=cl+n) (ln':=ln) (cl':=cl+n) (off':=off+n) k2 (by omega) rfl
 exact⟨_,_,m1 b,hQ t2 m2⟩
theorem TG(h:cA yA.base tf t (A++xH sp src ln cl off::B))(h1:off<900000)(h2:ln<900000)(hQ:∀t',cA yA.base tf t' (A++xH sp src (ln+1) 1 (off+1)::B)->Q (.tup []) t'):Wc yA F 77 [.ptr sp 0] t Q:=by
 refine w77 ?_
 unfold t77 jH uI;have e:∀n:Nat,n<900000->nD (n:Int)=.int .i64 ((n+1:Nat):Int):=fun n hn=>by
  show zA.int .i64 (lA .i64 ((n:Int)+1))=_
  rw[oC (by omega) (by omega)];rfl
 refine mA nl (mA g2 (wC (Ib h) (oB (mA nl (mA g2 (pC fun b _ _=>?_))))))
 rw[e off h1];obtain⟨t1,k1,k2⟩:=Ia (j:=3) (x:=off+1) (ln':=ln) (cl':=cl) (off':=off+1) h (by omega) rfl
 refine⟨_,_,k1 b,mA nl (mA g0 (mA p0 (wC (sc_ln k2) (oB (mA nl (mA g0 (mA p0 (pC fun b _ _=>?_))))))))⟩
 rw[e ln h2];obtain⟨t2,m1,m2⟩:=Ia (j:=0) (x:=ln+1) (ln':=ln+1) (cl':=cl) (off':=off+1) k2 (by omega) rfl
 refine⟨_,_,m1 b,mA nl (mA g0 (mA p1 (pC fun b _ _=>?_)))⟩
 obtain⟨t3,n1,n2⟩:=Ia (j:=1) (x:=1) (ln':=ln+1) (cl':=1) (off':=off+1) m2 (by omega) rfl
 exact⟨_,_,n1 b,hQ t3 n2⟩
theorem SY(s:List Nat):oF s<=s.length:=by
 have hfirst:(iD s).length<=s.length:=Ec fD s
 unfold oF;split
 ·exact hfirst
 ·rename_i h
  unfold lF at h ⊢
  by_cases hx:s[(iD s).length]?=some 47
  ·rw[yab hx]
   have h1:=(ybc.1 hx).1
   have:=Ec fD (s.drop ((iD s).length+1))
   rw[ydj]at this;omega
  ·rw[yaa hx]at h;exact absurd rfl h
theorem Zv{s w:List Nat}{k:Nat}(h:iH s=.tok k w):w.length<=s.length/\w=s.take w.length:=by
 cases s with
 | nil=>cases h
 | cons b r=>
  unfold iH at h;simp only at h
  split at h
  ·split at h
   ·cases h
   ·cases h;exact⟨Ec _ _,QI _ _⟩
  split at h
  ·rename_i hd
   split at h
   ·cases h
   ·cases h
    have hl:10<=(b::r).length:=by
     simp only[ybb]at hd;have:=hd.2
     unfold cI at this;simp only[ybb,decide_eq_true_eq]at this;exact this.1
    rw[yda,Nat.min_eq_left hl];exact⟨hl,rfl⟩
  split at h
  ·split at h
   ·cases h
   ·cases h
    have hl:=SY (b::r)
    rw[yda,Nat.min_eq_left hl];exact⟨hl,rfl⟩
  split at h
  ·cases h;exact⟨by simp,rfl⟩
  ·cases h
theorem NQ(hg:rK tf)(h:cA yA.base tf t (A++xH sp src ln cl off::B))(hoff:off<src.length)(hlen:src.length<=65536)(hcl:cl<200000)(hby:∀b∈src,b<256)
  (hQ:∀t',match iH (src.drop off)with
   | .bad e=>cA yA.base tf t' (A++xH sp src ln cl off::B)->Q (.tup [.agg [.int .u8 0,.str [],.int .i64 (ln:Int),.int .i64 (cl:Int)],.int .i64 (e:Int)]) t'
   | .tok k w=>cA yA.base tf t' (A++xH sp src ln (cl+w.length) (off+w.length)::B)->Q (.tup [.agg [.int .u8 (k:Int),.str w,.int .i64 (ln:Int),.int .i64 (cl:Int)],.int .i64 0]) t'):Wc yA F 81 [.ptr sp 0] t Q:=by
 have hgt:=hg.mono h.tle
 have hx:src[off]?=some src[off]:=ybd hoff
 have hdrop:src.drop off=src[off]::src.drop (off+1):=ybl hoff
 have hb256:=hby src[off] (ycj _)
 have hdl:(src.drop off).length<=65536:=by rw[ydj];omega
 have j37:∀(k e:Nat) (w:List Nat),(e≠0->iH (src.drop off)=.bad e)->(e=0->iH (src.drop off)=.tok k w)->jp 81 37 [.ptr sp 0,.int .u8 (k:Int),.str w,.int .i64 (e:Int),.int .u8 0,.str [],.int .i64 0,.int .i64 0,.int .i64 (ln:Int),.int .i64 (cl:Int)] t Q:=by
  intro k e w h1 h2;refine j81_37 ?_
  unfold AI;by_cases h0:e=0
  ·have ht:=h2 h0
   subst h0;refine qB (by decide) (tB ?_)
   rw[q78,dN];obtain⟨l1,_⟩:=Zv ht
   rw[ydj]at l1;refine BU h (by omega) (by omega) fun t' h'=>pA rfl (pA rfl ?_)
   have:=hQ t'
   rw[ht]at this;exact this h'
  ·have ht:=h1 h0
   refine pA (by rw[sE];simp;omega) (pA rfl (pA rfl ?_))
   have:=hQ t
   rw[ht]at this;exact this h
 have hq1:gK src[off]=false->(fD src[off]=true->cI (src.drop off)=false)->wp 81 (uQ1 (src[off]:Int) (.ptr sp 0) (cellsOf [.int .i64 (ln:Int),.int .i64 (cl:Int)])) t Q:=by
  intro hl hd;unfold uQ1 uB uS uI;refine tB ?_
  rw[q65];show xD (fB yA F 65 [.int .u8 (src[off]:Int)] t) _
  rw[Jy,sA];refine vE ?_
  cases hdg:fD src[off]with
  | true=>
   have hda:=hd hdg
   refine pA rfl (tB ?_)
   rw[q79,Ee h (by omega),sA]
   refine oE (tB ?_)
   rw[q106,SX (by omega),sA]
   have ht:iH (src.drop off)=if fI (src.drop off)then .bad 112 else .tok 2 ((src.drop off).take (oF (src.drop off))):=by
    rw[hdrop]at hda ⊢
    unfold iH;simp only[hl,hdg,hda,yay,ybq,if_false,if_true]
   refine mA rfl (oE (mA rfl (oB (iC ?_))))
   cases hb:fI (src.drop off)with
   | true=>exact j37 2 112 [] (fun _=>by rw[ht,hb];rfl) (fun e=>by cases e)
   | false=>exact j37 2 0 _ (fun e=>absurd rfl e) (fun _=>by rw[ht,hb];rfl)
  | false=>
   refine qB (by simp) (tB ?_)
   have hgp:yA.prims.get 107=some (vN Iu):=by kernel_rfl
   have hix:fB yA F 107 [.str [40,41,44,43,45,42,47,60,61],.int .u8 (src[off]:Int)] t=some (.int .i64 (match eS src[off] [40,41,44,43,45,42,47,60,61]with | some n=>.ofNat n | none=>.negSucc 0)):=by
    refine Iq hgp fun H=>?_
    show yB (Nat.blt src[off] 256) _=_
    rw[vC.2 hb256];rfl
   rw[q107];show xD (fB yA F 107 [.str [40,41,44,43,45,42,47,60,61],.int .u8 (src[off]:Int)] t) _
   rw[hix,sA];refine oB ?_
   have hsg:Jw src[off]=(eS src[off] [40,41,44,43,45,42,47,60,61]).isSome:=by rw[VA];rfl
   have ht:iH (src.drop off)=if Jw src[off]then .tok 4 [src[off]]else .bad 110:=by
    rw[hdrop];unfold iH;simp only[hl,hdg,Bool.false_and,ybq,if_false]
   cases hi:eS src[off] [40,41,44,43,45,42,47,60,61]with
   | some n=>
    refine pA (by rw[oQ];exact decide_eq_true (Int.natCast_nonneg n)) (tB ?_)
    rw[q79,Ee h (by omega),sA]
    have hs1:=Bv (s:=src.drop off) (k:=1) (by rw[ydj];omega)
    refine oE (mA hs1 (oE (iC ?_)))
    have:(src.drop off).take 1=[src[off]]:=by rw[hdrop];rfl
    rw[this];exact j37 4 0 _ (fun e=>absurd rfl e) (fun _=>by rw[ht,hsg,hi];rfl)
   | none=>
    refine qB (by decide) (iC ?_)
    exact j37 0 110 _ (fun _=>by rw[ht,hsg,hi];rfl) (fun e=>by cases e)
 refine w81 ?_
 unfold t81 jH uG uS uI uU uB;refine mA nl (mA g0 (wC (sc_pl h) (eC (X:=cellsOf [.int .i64 (ln:Int),.int .i64 (cl:Int)]) (iQ rfl) (pA rfl (mA nl (mA g1 (wC (CE h) (oE (mA nl (mA g2 (wC (Ib h) (oB (mA (xL hx) (oB (tB ?_)))))))))))))))
 rw[q36];show xD (fB yA F 36 [.int .u8 (src[off]:Int)] t) _
 rw[Pg,sA];refine vE ?_
 cases hl:gK src[off]with
 | true=>
  refine pA rfl (tB ?_)
  rw[q79,Ee h (by omega),sA]
  refine oE (tB ?_)
  rw[q103,MC (by omega),sA]
  have ht:iH (src.drop off)=if 24<(fE aG (src.drop off)).length then .bad 111 else .tok 1 (fE aG (src.drop off)):=by
   rw[hdrop];unfold iH;simp only[hl,if_true]
  refine mA rfl (oE (mA rfl (oB (iC ?_))))
  by_cases h24:24<(fE aG (src.drop off)).length
  ·rw[yab h24,yab h24]
   exact j37 1 111 [] (fun _=>by rw[ht,yab h24]) (fun e=>by cases e)
  ·rw[yaa h24,yaa h24]
   exact j37 1 0 _ (fun e=>absurd rfl e) (fun _=>by rw[ht,yaa h24])
 | false=>
  refine qB (by simp) (tB ?_)
  rw[q65];show xD (fB yA F 65 [.int .u8 (src[off]:Int)] t) _
  rw[Jy,sA];refine vE ?_
  cases hdg:fD src[off]with
  | false=>exact qB (by simp) (hq1 hl (fun h=>by rw[hdg]at h;cases h))
  | true=>
   refine pA rfl (tB ?_)
   rw[q79,Ee h (by omega),sA]
   refine oE (tB ?_)
   rw[q104,zar,sA];refine vE ?_
   cases hda:cI (src.drop off)with
   | false=>exact qB (by simp) (hq1 hl (fun _=>hda))
   | true=>
    refine pA rfl (tB ?_)
    rw[q79,Ee h (by omega),sA]
    refine oE (tB ?_)
    rw[q105,XM hgt hda,sA];have ht:iH (src.drop off)=if fR (src.drop off)then .bad 113 else .tok 3 ((src.drop off).take 10):=by
     rw[hdrop]at hda ⊢
     unfold iH;simp only[hl,hdg,hda,Bool.and_true,ybq,if_false,if_true]
    refine mA rfl (oE (mA rfl (oB (iC ?_))))
    cases hb:fR (src.drop off)with
    | true=>exact j37 3 113 [] (fun _=>by rw[ht,hb];rfl) (fun e=>by cases e)
    | false=>exact j37 3 0 _ (fun e=>absurd rfl e) (fun _=>by rw[ht,hb];rfl)
end
end Go.Proofs
namespace Go.Proofs
open Go Go.Am
variable [jC]
def mG (l:Nat)(r:lL):jE where
 blks:=[l]
 ok:=fun _ t=>t.get l=some (.loop r)
 keep:=fun h _ k=>by rw[(k l (by simp)).1];exact h
 live:=fun h k hk=>by rw[ydd]at hk;subst hk;exact⟨_,h⟩
theorem el66:Di yA 66 75 4:=⟨⟨_,aQ,rfl,rfl⟩,⟨_,ty75,rfl,rfl,by decide,by decide⟩,fun y h=>by rw[ty75]at h;cases h;rfl⟩
theorem tok_rd{t:Tr vA}(x:cC):RD t x.d x.cs:=by
 unfold cC.d cC.cs;exact uO.2 ⟨[[_],[_],[_],[_]],rfl,iF.2 ⟨_,_,rfl,vT.2 rfl,iF.2 ⟨_,_,rfl,wT.2 rfl,iF.2 ⟨_,_,rfl,vT.2 rfl,iF.2 ⟨_,_,rfl,vT.2 rfl,rH.2 rfl⟩⟩⟩⟩⟩
abbrev tN(a0 a1 a2 a6:Nat)(pl pc e:Nat)(jB:List cC)(v:zA):List jE:=
 [lC a0 none [.nilslice],lC a1 none [.int .i64 (pl:Int),.int .i64 (pc:Int)],lC a2 none [.int .i64 (e:Int)],lC a6 none [v],iL yA.base 4 (jB.map cC.d) v]
section
variable {tf t:Tr vA}{Q:fA}{sp ln cl off a0 a1 a2 a6 l:Nat}{src:List Nat}{r:lL}{L:List jE}
theorem cA.delLp(h:cA yA.base tf t (L++[mG l r])):cA yA.base tf (t.del l) L:=by
 have h1:=h.low l (by simp[mG])
 have h2:l∉L.flatMap jE.blks:=by
  have:=cA.notin (A:=L) (B:=[]) (o:=mG l r) h (k:=l) (by simp[mG])
  rwa [ycd]at this
 have h3:=cA.drop (A:=L) (B:=[]) (o:=mG l r) h
 rw[ycd]at h3;exact h3.other h2 h1.2 fun c hc=>by rw[Tr.get_del,yaa hc]
theorem cA.setLp(h:cA yA.base tf t L)(hn:t.get l=none)(hb:yA.base<=l):cA yA.base tf (t.set l (.loop r)) (L++[mG l r]):=by
 have:=cA.add (A:=L) (B:=[]) (o':=mG l r) (t':=t.set l (.loop r)) (by rwa [ycd]) (fun k hk=>by rw[Tr.get_set,yaa (fun e=>hk (by simp[mG,e]))]) (fun k hk=>by simp[mG]at hk;subst hk;exact⟨hn,hb⟩) (by show(t.set l (.loop r)).get l=_;rw[Tr.get_set,yab rfl]) (by simp[mG]) (h.tle.trans (iO hn _).1)
 exact this
def YldR (l:Nat)(r:lL)(a0 a1 a2 a6:Nat):Prop:=∀args t1 Q1,args.length=2->t1.get l=some (.loop r)->Jq yA F 22 2 ([.ptr a0 0,.ptr a1 0,.ptr a2 0,.ptr a6 0]++args) (t1.del l) (fun v t2=>t2.get l=none->∃b,v=.bool b/\Q1 v (t2.set l (.loop (rN b r))))->Wq yA F gC (yo+l) args t1 Q1
theorem TP(h1:r.state=.ready)(h2:r.pending=none):rN true r=r:=by
 obtain⟨a,b,c,d,e,f,g,h,i⟩:=r
 have h1:a=.ready:=h1
 have h2:b=none:=h2
 subst h1;subst h2;rfl
theorem Rg{jB:List cC}{v:zA}{x:cC}(hy:YldR l r a0 a1 a2 a6)(hr1:r.state=.ready)(hr2:r.pending=none)(hlen:jB.length<300000)
  (h:cA yA.base tf t (tN a0 a1 a2 a6 0 0 0 jB v++L++[mG l r])) (hQ:∀tf' t' v',zB tf tf'->cA yA.base tf' t' (tN a0 a1 a2 a6 0 0 0 (jB++[x]) v'++L++[mG l r])->Q (.bool true) t') :
  Wq yA F gC (yo+l) [.agg x.cs,.int .i64 0] t Q:=by
 have hl:t.get l=some (.loop r):=h.ok (mG l r) (by simp)
 have hlb:=(h.low l (by simp[mG])).1
 refine hy _ _ _ rfl hl ?_
 have h1:=cA.delLp h
 refine j22_2 ?_
 unfold Sy;refine pA rfl (qB (by decide) ?_)
 have lv:iA yA 66 ⟨0,t.del l⟩ (.ptr a6 0)=some v:=(cA.cel (A:=[_,_,_]) h1).load1 aQ rfl rfl
 refine wC lv (pC fun b hb _=>?_)
 have hf:yK (fun i=>some (i*4,4)) [(0,.agg x.cs)] (pH [.int .u8 0,.str [],.int .i64 0,.int .i64 0] 1)=some [x.cs].flatten:=by
  rw[Kj (sz:=4) (z:=[.int .u8 0,.str [],.int .i64 0,.int .i64 0]) (v:=.agg x.cs) rfl rfl];rfl
 obtain⟨tf1,t1,k1,k2,k3,k4⟩:=litN (C:=yA) (T:=66) (el:=75) (sz:=4) (n:=1) (ds:=[x.d]) (cl:=[x.cs]) (ps:=[(0,.agg x.cs)]) aQ rfl ty75 rfl rfl (by decide) hf (Iz rfl) rfl (iF.2 ⟨_,_,rfl,tok_rd x,rH.2 rfl⟩) h1 hb
 refine⟨_,_,k1,pC fun c hc hcb=>?_⟩
 obtain⟨t2,v2,m1,m2,m3⟩:=cA.append1 (A:=[lC a0 none [.nilslice],lC a1 none [.int .i64 0,.int .i64 0],lC a2 none [.int .i64 0],lC a6 none [v]]) (B:=L) (cs:=[]) el66 k3 k4 (by simp;omega) hc hcb
 refine⟨_,_,m1,pC fun q _ _=>?_⟩
 have hcell:v2.cells=[v2]:=by
  have:=m2.ok (iL yA.base 4 (jB.map cC.d++[x.d]) v2) (by simp)
  rcases this with⟨e,_⟩ | ⟨b,cl,c,e,_⟩ <;> (subst e;rfl)
 obtain⟨t3,n1,n2⟩:=cA.setCel (A:=[lC a0 none [.nilslice],lC a1 none [.int .i64 0,.int .i64 0],lC a2 none [.int .i64 0]]) (j:=0) (v:=v2) m2 aQ (by rw[hcell];rfl) (by rw[hcell];show 0+1<=1;omega) (by rw[hcell,dH];simp[m3])
 refine⟨_,_,n1 q,fun hn=>⟨true,rfl,?_⟩⟩
 rw[TP hr1 hr2];have e:oM [v] 0 v2.cells=[v2]:=by rw[hcell];rfl
 rw[e]at n2;refine hQ tf1 _ v2 k2 ?_
 have hs:=cA.setLp (r:=r) n2 hn hlb
 rw[show jB.map cC.d++[x.d]=(jB++[x]).map cC.d by simp]at hs
 exact hs
theorem LY{jB:List cC}{v:zA}{e pl pc:Nat}(hy:YldR l r a0 a1 a2 a6)(he:e≠0)
  (h:cA yA.base tf t (tN a0 a1 a2 a6 0 0 0 jB v++L++[mG l r])) (hQ:∀t',cA yA.base tf t' (tN a0 a1 a2 a6 pl pc e jB v++L++[mG l (rN false r)])->Q (.bool false) t') :
  Wq yA F gC (yo+l) [.agg [.int .u8 0,.str [],.int .i64 (pl:Int),.int .i64 (pc:Int)],.int .i64 (e:Int)] t Q:=by
 have hl:t.get l=some (.loop r):=h.ok (mG l r) (by simp)
 have hlb:=(h.low l (by simp[mG])).1
 refine hy _ _ _ rfl hl ?_
 have h1:=cA.delLp h
 refine j22_2 ?_
 unfold Sy;refine pA rfl (pA (by rw[sE];simp;omega) (pC fun q _ _=>?_))
 obtain⟨t1,n1,n2⟩:=cA.setCel (A:=[]) (j:=0) (v:=.nilslice) h1 aQ rfl (by show 0+1<=1;omega) rfl
 have hs:same 10 (.agg [.int .i64 (pl:Int),.int .i64 (pc:Int)]) (.agg [.int .i64 (pl:Int),.int .i64 (pc:Int)])=true:=by
  show(same 9 (.int .i64 (pl:Int)) (.int .i64 (pl:Int))&&(same 9 (.int .i64 (pc:Int)) (.int .i64 (pc:Int))&&true))=true
  rw[Nf,Nf];rfl
 refine⟨_,_,n1 q,pA hs (pC fun q _ _=>?_)⟩
 obtain⟨t2,m1,m2⟩:=cA.setCel (A:=[_]) (j:=0) (v:=.agg [.int .i64 (pl:Int),.int .i64 (pc:Int)]) n2 kT rfl (by show 0+2<=2;omega) rfl
 refine⟨_,_,m1 q,pC fun q _ _=>?_⟩
 obtain⟨t3,p1,p2⟩:=cA.setCel (A:=[_,_]) (j:=0) (v:=.int .i64 (e:Int)) m2 dW rfl (by show 0+1<=1;omega) rfl
 exact⟨_,_,p1 q,fun hn=>⟨false,rfl,hQ _ (cA.setLp p2 hn hlb)⟩⟩
theorem Lk{args:List zA}:wK (.func (.yld l) [] []) args=some (yo+l,args):=rfl
abbrev opB(op:Option (Nat × Nat)):Bool:=op.isSome
theorem NR{bx:Nat}(hy:YldR l r a0 a1 a2 a6)(hr1:r.state=.ready)(hr2:r.pending=none)(hlen:src.length<=65536)(hby:∀b∈src,b<256) :
  ∀(k off ln cl:Nat) (op:Option (Nat × Nat)) (i0 i1:Int) (jB:List cC) (v:zA) (tf t:Tr vA),src.length-off<k->off<=src.length->ln<=off+1->cl<=off+1->jB.length<=2*off->(op.isSome=true->jB.length+1<=2*off)->(∀p,op=some p->i0=(p.1:Int)/\i1=(p.2:Int)) →
   rK tf->vD tf bx none [.str src]->cA yA.base tf t (tN a0 a1 a2 a6 0 0 0 jB v++[xH sp src ln cl off]++[mG l r]) →
   (match yG k (src.drop off) ln cl op with
    | .ok m=>∀tf' t' v' ln' cl' off',zB tf tf'->cA yA.base tf' t' (tN a0 a1 a2 a6 0 0 0 (jB++m) v'++[xH sp src ln' cl' off']++[mG l r])->Q (.tup []) t'
    | .er e pl pc=>∀tf' t' v' acc' ln' cl' off',zB tf tf'->cA yA.base tf' t' (tN a0 a1 a2 a6 pl pc e acc' v'++[xH sp src ln' cl' off']++[mG l (rN false r)])->Q (.tup []) t') →
   jp 76 2 [.func (.yld l) [] [],.ptr bx 0,.ptr sp 0,.bool op.isSome,.int .i64 i0,.int .i64 i1] t Q:=by
 intro k;induction k with
 | zero=>intro off;omega
 | succ k ih=>
  intro off ln cl op i0 i1 jB v tf t hk hoff hln hcl hacc hacc2 hop hg hbx h hQ;have ho:=Ib (A:=tN a0 a1 a2 a6 0 0 0 jB v) (B:=[mG l r]) (by simpa using h)
  have hA:cA yA.base tf t (tN a0 a1 a2 a6 0 0 0 jB v++xH sp src ln cl off::[mG l r]):=by simpa using h
  have hlb:∀ {t},zB tf t->iA yA 9 ⟨0,t⟩ (.ptr bx 0)=some (.str src):=fun hl=>(vD.le hbx hl).load1 zN rfl rfl
  refine j76_2 ?_
  unfold t76_2 uI uS uU uB uG;refine mA g2 (wC ho (oB (wC (hlb h.tle) (oE ?_))))
  rw[dN];by_cases hlt:off<src.length
  ·have hx:src[off]?=some src[off]:=ybd hlt
   have hdrop:src.drop off=src[off]::src.drop (off+1):=ybl hlt
   rw[hdrop]at hQ;unfold yG at hQ;refine pA (by rw[qC];exact decide_eq_true (by omega)) (wC (hlb h.tle) (oE (mA g2 (wC ho (oB (mA (xL hx) (oB ?_)))))))
   by_cases h10:src[off]=10
   ·rw[yab h10]at hQ
    refine pA (by rw[sE,h10];rfl) ?_
    have nlg:∀(acc':List cC) (v':zA) (tf1 t1:Tr vA),acc'.length<=2*(off+1)->zB tf tf1->cA yA.base tf1 t1 (tN a0 a1 a2 a6 0 0 0 acc' v'++[xH sp src ln cl off]++[mG l r]) →
      (match yG k (src.drop (off+1)) (ln+1) 1 none with
       | .ok m=>∀tf' t' v' ln' cl' off',zB tf1 tf'->cA yA.base tf' t' (tN a0 a1 a2 a6 0 0 0 (acc'++m) v'++[xH sp src ln' cl' off']++[mG l r])->Q (.tup []) t'
       | .er e pl pc=>∀tf' t' v' acc' ln' cl' off',zB tf1 tf'->cA yA.base tf' t' (tN a0 a1 a2 a6 pl pc e acc' v'++[xH sp src ln' cl' off']++[mG l (rN false r)])->Q (.tup []) t') →
      wp 76 (.call 77 [.ptr sp 0] fun _=>.jump 2 [.func (.yld l) [] [],.ptr bx 0,.ptr sp 0,.bool false,uZ i0,uZ i1]) t1 Q:=by
     intro acc' v' tf1 t1 ha hle h1 hQ1;refine tB ?_
     rw[q77];refine TG (A:=tN a0 a1 a2 a6 0 0 0 acc' v') (B:=[mG l r]) (by simpa using h1) (by omega) (by omega) fun t2 h2=>?_
     exact iC (ih (off+1) (ln+1) 1 none i0 i1 acc' v' tf1 t2 (by omega) (by omega) (by omega) (by omega) ha (fun h=>by cases h) (fun p hp=>by cases hp) (hg.mono hle) (vD.le hbx hle) (by simpa using h2) hQ1)
    cases op with
    | some p=>
     obtain⟨e0,e1⟩:=hop p rfl
     subst e0 e1
     refine pA rfl (pA rfl (iT Lk ?_))
     refine Rg (x:=endT p) (L:=[xH sp src ln cl off]) hy hr1 hr2 (by omega) h fun tf1 t1 v1 k1 k2=>?_
     refine vE (qB (by simp) (nlg (jB++[endT p]) v1 tf1 t1 (by have:=hacc2 rfl;simp;omega) k1 k2 ?_))
     unfold LR.close at hQ;revert hQ
     generalize yG k (src.drop (off+1)) (ln+1) 1 none=res
     intro hQ
     cases res with
     | ok m=>exact fun tf' t' v' ln' cl' off' q1 q2=>hQ tf' t' v' ln' cl' off' (k1.trans q1) (by simpa using q2)
     | er e pl pc=>exact fun tf' t' v' acc' ln' cl' off' q1 q2=>hQ tf' t' v' acc' ln' cl' off' (k1.trans q1) q2
    | none=>
     refine qB (by simp) (nlg jB v tf t (by omega) (zB.refl _) h ?_)
     exact hQ
   rw[yaa h10]at hQ;refine qB (by rw[sE];simp;omega) ?_
   have blank:∀n:Nat,off+n<=src.length->0<n->(match yG k (src.drop (off+n)) ln (cl+n) op with
     | .ok m=>∀tf' t' v' ln' cl' off',zB tf tf'->cA yA.base tf' t' (tN a0 a1 a2 a6 0 0 0 (jB++m) v'++[xH sp src ln' cl' off']++[mG l r])->Q (.tup []) t'
     | .er e pl pc=>∀tf' t' v' acc' ln' cl' off',zB tf tf'->cA yA.base tf' t' (tN a0 a1 a2 a6 pl pc e acc' v'++[xH sp src ln' cl' off']++[mG l (rN false r)])->Q (.tup []) t') →
     wp 76 (.call 78 [.ptr sp 0,.int .i64 (n:Int)] fun _=>.jump 2 [.func (.yld l) [] [],.ptr bx 0,.ptr sp 0,.bool op.isSome,uZ i0,uZ i1]) t Q:=by
    intro n hn hn0 hQ1;refine tB ?_
    rw[q78];refine BU hA (by omega) (by omega) fun t2 h2=>?_
    exact iC (ih (off+n) ln (cl+n) op i0 i1 jB v tf t2 (by omega) hn (by omega) (by omega) (by omega) (fun h=>by have:=hacc2 h;omega) hop hg hbx (by simpa using h2) hQ1)
   by_cases h32:src[off]=32
   ·rw[yab (.inl h32)]at hQ
    exact pA (by rw[sE,h32];rfl) (blank 1 (by omega) (by omega) hQ)
   refine qB (by rw[sE];simp;omega) ?_
   by_cases h9:src[off]=9
   ·rw[yab (.inr h9)]at hQ
    exact pA (by rw[sE,h9];rfl) (blank 1 (by omega) (by omega) hQ)
   rw[yaa (by simp[h32,h9])]at hQ
   refine qB (by rw[sE];simp;omega) ?_
   by_cases h35:src[off]=35
   ·rw[yab h35]at hQ
    have hrl:=Ec (fun x=>decide (x≠10)) (src.drop off)
    rw[ydj]at hrl;have hr0:0<(fE (fun x=>decide (x≠10)) (src.drop off)).length:=by
     rw[hdrop];unfold fE;rw[List.takeWhile_cons,yab (by simp[h10])];simp
    refine pA (by rw[sE,h35];rfl) (tB ?_)
    rw[q79,Ee hA (by omega),sA]
    refine oE (tB ?_)
    rw[q37,QG (by rw[ydj];omega),sA]
    refine oE ?_
    rw[dN];rw[<- hdrop]at hQ;rw[List.drop_drop]at hQ;exact blank _ (by omega) hr0 hQ
   rw[yaa h35]at hQ;refine qB (by rw[sE];simp;omega) (tB ?_)
   rw[<- hdrop]at hQ;rw[q81];refine NQ hg hA hlt hlen (by omega) hby fun t1=>?_
   cases htk:iH (src.drop off)with
   | bad e=>
    rw[htk]at hQ;intro h1;have he:e≠0:=by
     intro e0;subst e0;rw[hdrop]at htk;unfold iH at htk;simp only at htk
     repeat (split at htk<;>try (cases htk;done))
    refine mA rfl (eC (X:=cellsOf [.int .u8 0,.str [],.int .i64 (ln:Int),.int .i64 (cl:Int)]) (iQ rfl) (mA rfl (oB (pA rfl (iT Lk ?_)))))
    refine LY (pl:=ln) (pc:=cl) (L:=[xH sp src ln cl off]) hy he (by simpa using h1) fun t2 h2=>?_
    exact vE (pA rfl (hQ tf t2 v jB ln cl off (zB.refl _) h2))
   | tok kd w=>
    rw[htk]at hQ;intro h1;obtain⟨lw,_⟩:=Zv htk
    rw[ydj]at lw;have hw0:0<w.length:=by
     rw[hdrop]at htk;unfold iH at htk;simp only at htk
     split at htk
     ·rename_i hl
      split at htk
      ·cases htk
      ·cases htk
       unfold fE;rw[List.takeWhile_cons,yab (by unfold aG;rw[hl];rfl)];simp
     split at htk
     ·rename_i hd
      split at htk
      ·cases htk
      ·cases htk;rw[yda,ybn];omega
     split at htk
     ·rename_i hd _
      split at htk
      ·cases htk
      ·cases htk
       have:0<oF (src[off]::src.drop (off+1)):=by
        have:0<(iD (src[off]::src.drop (off+1))).length:=by
         unfold iD fE;rw[List.takeWhile_cons,yab (by assumption)];simp
        unfold oF;split<;>omega
       rw[yda,ybn];omega
     split at htk
     ·cases htk;simp
     ·cases htk
    refine mA rfl (eC (X:=cellsOf [.int .u8 (kd:Int),.str w,.int .i64 (ln:Int),.int .i64 (cl:Int)]) (iQ rfl) (mA rfl (oB (pA rfl (iT Lk ?_)))))
    refine Rg (jB:=jB) (v:=v) (x:=⟨kd,w,ln,cl⟩) (L:=[xH sp src ln (cl+w.length) (off+w.length)]) hy hr1 hr2 (by omega) (by simpa using h1) fun tf2 t2 v2 k1 k2=>?_
    have hA2:cA yA.base tf2 t2 (tN a0 a1 a2 a6 0 0 0 (jB++[⟨kd,w,ln,cl⟩]) v2++xH sp src ln (cl+w.length) (off+w.length)::[mG l r]):=by simpa using k2
    refine vE (qB (by simp) (qB (by decide) (mA g0 (wC (sc_pl hA2) (eC (X:=cellsOf [.int .i64 (ln:Int),.int .i64 ((cl+w.length:Nat):Int)]) (iQ rfl) (pA rfl (iC ?_)))))))
    refine ih (off+w.length) ln (cl+w.length) (some (ln,cl+w.length)) _ _ (jB++[⟨kd,w,ln,cl⟩]) v2 tf2 t2 (by omega) (by omega) (by omega) (by omega) (by simp;omega) (fun _=>by simp;omega) (fun p hp=>by cases hp;exact⟨rfl,rfl⟩) (hg.mono k1) (vD.le hbx k1) k2 ?_
    have hdd:(src.drop off).drop w.length=src.drop (off+w.length):=by rw[List.drop_drop]
    simp only[hdd]at hQ;unfold LR.cons at hQ;revert hQ
    generalize yG k (src.drop (off+w.length)) ln (cl+w.length) (some (ln,cl+w.length))=res
    intro hQ
    cases res with
    | ok m=>exact fun tf' t' v' ln' cl' off' q1 q2=>hQ tf' t' v' ln' cl' off' (k1.trans q1) (by simpa using q2)
    | er e pl pc=>exact fun tf' t' v' acc' ln' cl' off' q1 q2=>hQ tf' t' v' acc' ln' cl' off' (k1.trans q1) q2
  ·have hdrop:src.drop off=[]:=ybt (by omega)
   rw[hdrop]at hQ;unfold yG at hQ;refine qB (by rw[qC];simp;omega) ?_
   cases op with
   | some p=>
    obtain⟨e0,e1⟩:=hop p rfl
    subst e0 e1
    refine pA rfl (pA rfl (iT Lk ?_))
    refine Rg (x:=endT p) (L:=[xH sp src ln cl off]) hy hr1 hr2 (by omega) h fun tf1 t1 v1 k1 k2=>?_
    exact vE (hQ tf1 t1 v1 ln cl off k1 k2)
   | none=>
    refine qB (by simp) ?_
    have:=hQ tf t v ln cl off (zB.refl _) (by simpa using h)
    exact this
end
end Go.Proofs
namespace Go.Proofs
open Go Go.Am
variable [jC]
def iK (s:List Nat):LR:=if 65536<s.length then .er 3 0 0 else lexN s
section
variable {t:Tr vA}{Q:fA}{s:List Nat}
theorem lex_ok(hg:rK t)(hby:∀b∈s,b<256)
  (hQ:match iK s with
   | .ok m=>∀t' v,zB t t'->aA t' 4 (m.map cC.d) v->Q (.tup [v,.agg [.int .i64 0,.int .i64 0],.int .i64 0]) t'
   | .er e a b=>∀t',zB t t'->Q (.tup [.nilslice,.agg [.int .i64 (a:Int),.int .i64 (b:Int)],.int .i64 (e:Int)]) t'):Wc yA F 22 [.str s] t Q:=by
 have ho:cA yA.base t t []:=⟨zB.refl _,by simp,by simp,by simp⟩
 refine w22 ?_
 unfold t22;refine pC fun a0 h0 b0=>?_
 obtain⟨t1,e1,e2,e3,e4⟩:=bR (C:=yA) aQ h0
 have o1:=cA.newCel (A:=[]) (B:=[]) ho h0 b0 e2 e3 e4
 refine⟨_,_,e1,pC fun a1 h1 b1=>?_⟩
 obtain⟨t2,f1,f2,f3,f4⟩:=bR (C:=yA) kT h1
 have o2:=cA.newCel (A:=[_]) (B:=[]) o1 h1 b1 f2 f3 f4
 refine⟨_,_,f1,pC fun a2 h2 b2=>?_⟩
 obtain⟨t3,k1,k2,k3,k4⟩:=bR (C:=yA) dW h2
 have o3:=cA.newCel (A:=[_,_]) (B:=[]) o2 h2 b2 k2 k3 k4
 refine⟨_,_,k1,?_⟩
 rw[dN];have ends:∀ {tf t':Tr vA} {L:List jE} {v:zA} {a b e:Nat},zA.one v=true->cA yA.base tf t' ([lC a0 none [v],lC a1 none [.int .i64 (a:Int),.int .i64 (b:Int)],lC a2 none [.int .i64 (e:Int)]]++L) →
   iA yA 66 ⟨0,t'⟩ (.ptr a0 0)=some v/\iA yA 29 ⟨0,t'⟩ (.ptr a1 0)=some (.agg [.int .i64 (a:Int),.int .i64 (b:Int)])/\iA yA 30 ⟨0,t'⟩ (.ptr a2 0)=some (.int .i64 (e:Int)):=by
  intro tf t' L v a b e _ h;refine⟨(cA.cel (A:=[]) h).load1 aQ rfl rfl,?_,(cA.cel (A:=[_,_]) h).load1 dW rfl rfl⟩
  have:=(cA.cel (A:=[_]) h).at.load (j:=0) (n:=2) kT rfl rfl (by simp)
  simpa using this
 by_cases hl:65536<s.length
 ·have hx:iK s=.er 3 0 0:=by unfold iK;rw[yab hl]
  rw[hx]at hQ;refine pA (by rw[qC];exact decide_eq_true (by omega)) (pA rfl (pC fun q _ _=>?_))
  obtain⟨t4,n1,n2⟩:=cA.setCel (A:=[]) (j:=0) (v:=.nilslice) o3 aQ rfl (by show 0+1<=1;omega) rfl
  refine⟨_,_,n1 q,pC fun q _ _=>?_⟩
  obtain⟨t5,m1,m2⟩:=cA.setCel (A:=[_]) (j:=0) (v:=.agg [.int .i64 0,.int .i64 0]) n2 kT rfl (by show 0+2<=2;omega) rfl
  refine⟨_,_,m1 q,pC fun q _ _=>?_⟩
  obtain⟨t6,p1,p2⟩:=cA.setCel (A:=[_,_]) (j:=0) (v:=.int .i64 3) m2 dW rfl (by show 0+1<=1;omega) rfl
  obtain⟨l1,l2,l3⟩:=ends (L:=[]) (a:=0) (b:=0) (e:=3) (v:=.nilslice) rfl p2
  exact⟨_,_,p1 q,wC l1 (wC l2 (wC l3 (hQ t6 p2.tle)))⟩
 ·have hx:iK s=lexN s:=by unfold iK;rw[yaa hl]
  rw[hx]at hQ;refine qB (by rw[qC];simp;omega) (pC fun a6 h6 b6=>?_)
  obtain⟨t4,n1,n2,n3,n4⟩:=bR (C:=yA) aQ h6
  have o4:=cA.newCel (A:=[_,_,_]) (B:=[]) o3 h6 b6 n2 n3 n4
  refine⟨_,_,n1,tB ?_⟩
  rw[q49];refine w49 ?_
  unfold t49;refine pC fun bx hbx bbx=>?_
  obtain⟨t5,m1,⟨cc,m2,m2'⟩,m3,m4⟩:=Qm (v:=.str s) hbx
  have o5:=o4.junk hbx m4
  have hfb:=o4.tfn hbx
  obtain⟨p1,p2⟩:=o5.froze (fun hm=>o4.fresh hbx hm) m2 hfb
  generalize htf:t.set bx (vA.cells cc (zA.str s).cells.length none)=tf1 at p1 p2
  have hcb:vD tf1 bx none [.str s]:=⟨cc,by rw[<- htf,Tr.get_set,yab rfl];rfl,m2'⟩
  refine⟨_,_,m1,?_⟩
  show oA _ _ _ (.range (uQ yA) (.func (.func 76) [] [.ptr bx 0]) 2 2 [.ptr a0 0,.ptr a1 0,.ptr a2 0,.ptr a6 0] _ _) _ _
  refine⟨Nat.le_add_right _ _,fun l r hl0 hlb hr1 hr2 hy=>?_⟩
  have hra:hZ (uQ yA) (.func (.func 76) [] [.ptr bx 0]) l=some (76,[.func (.yld l) [] [],.ptr bx 0]):=by
   unfold hZ;simp only[zA.asFunc,qA];have:uQ yA 76=true:=by kernel_rfl
   rw[this];rfl
  rw[hra,sA];show Wq yA F gC 76 _ _ _
  rw[q76];have o6:=cA.setLp (r:=r) p1 hl0 hlb
  have hyr:YldR l r a0 a1 a2 a6:=fun args t1 Q1 h1 h2 h3=>hy args t1 Q1 h1 h2 h3
  refine w76 ?_
  unfold t76 uS;have lb:iA yA 9 ⟨0,t5.set l (.loop r)⟩ (.ptr bx 0)=some (.str s):=(vD.le hcb o6.tle).load1 zN rfl rfl
  refine pA rfl (wC lb (oE (pA rfl (pC fun sp hsp bsp=>?_))))
  obtain⟨t7,r1,r2,r3,r4⟩:=bR (C:=yA) ty145 hsp
  have o7:=cA.newCel (A:=[_,_,_,_]) (B:=[mG l r]) o6 hsp bsp r2 r3 r4
  refine⟨_,_,r1,pC fun q _ _=>?_⟩
  obtain⟨t8,s1,s2⟩:=cA.setCel (A:=[_,_,_,_]) (j:=0) (v:=.agg [.int .i64 1,.int .i64 1,.str s,.int .i64 0]) o7 ty145 rfl (by show 0+4<=4;omega) rfl
  refine⟨_,_,s1 q,iC ?_⟩
  have o8:cA yA.base tf1 t8 (tN a0 a1 a2 a6 0 0 0 [] .nilslice++[xH sp s 1 1 0]++[mG l r]):=
   cA.add (A:=[lC a0 none [.nilslice],lC a1 none [.int .i64 0,.int .i64 0],lC a2 none [.int .i64 0],lC a6 none [.nilslice]]) (B:=[xH sp s 1 1 0,mG l r]) (o':=iL yA.base 4 (([]:List cC).map cC.d) .nilslice) s2 (fun _ _=>rfl) (fun k hk=>by simp[iL,cY]at hk) (.inl ⟨rfl,rfl⟩) (by simp[iL,cY]) s2.tle
  refine NR hyr hr1 hr2 (by omega) hby (s.length+1) 0 1 1 none 0 0 [] .nilslice tf1 t8 (by omega) (by omega) (by omega) (by omega) (by simp) (fun h=>by cases h) (fun p hp=>by cases hp) (hg.mono p2) hcb o8 ?_
  rw[ycr];unfold lexN at hQ;revert hQ
  generalize yG (s.length+1) s 1 1 none=res
  intro hQ
  cases res with
  | ok m=>
   intro tf' t' v' ln' cl' off' u1 u2;rw[yah]at u2;refine .inl ⟨u2.ok (mG l r) (by simp),?_⟩
   have u3:=cA.delLp u2
   have lv:iA yA 66 ⟨0,t'.del l⟩ (.ptr a6 0)=some v':=(cA.cel (A:=[_,_,_]) u3).load1 aQ rfl rfl
   have hv:uT yA.base tf' (t'.del l) 4 (m.map cC.d) v':=u3.ok (iL yA.base 4 (m.map cC.d) v') (by simp)
   have hone:zA.one v'=true:=hv.one
   have hcell:v'.cells=[v']:=by
    rcases hv with⟨e,_⟩ | ⟨b,cl,c,e,_⟩ <;> (subst e;rfl)
   refine wC lv (pA rfl (pC fun q _ _=>?_))
   obtain⟨t9,x1,x2⟩:=cA.setCel (A:=[]) (j:=0) (v:=v') u3 aQ (by rw[hcell];rfl) (by rw[hcell];show 0+1<=1;omega) (by rw[hcell,dH];simp[hone])
   have e9:oM [zA.nilslice] 0 v'.cells=[v']:=by rw[hcell];rfl
   rw[e9]at x2;refine⟨_,_,x1 q,pC fun q _ _=>?_⟩
   obtain⟨t10,y1,y2⟩:=cA.setCel (A:=[_]) (j:=0) (v:=.agg [.int .i64 0,.int .i64 0]) x2 kT rfl (by show 0+2<=2;omega) rfl
   refine⟨_,_,y1 q,pC fun q _ _=>?_⟩
   obtain⟨t11,z1,z2⟩:=cA.setCel (A:=[_,_]) (j:=0) (v:=.int .i64 0) y2 dW rfl (by show 0+1<=1;omega) rfl
   obtain⟨l1,l2,l3⟩:=ends (L:=[_,_,_]) (a:=0) (b:=0) (e:=0) hone z2
   refine⟨_,_,z1 q,wC l1 (wC l2 (wC l3 ?_))⟩
   obtain⟨tf2,w1,w2,w3⟩:=cA.freezeL (A:=[_,_,_,_]) (B:=[xH sp s ln' cl' off']) z2
   exact hQ t11 v' (p2.trans (u1.trans z2.tle)) (w3.mono w2.tle)
  | er e pl pc=>
   intro tf' t' v' acc' ln' cl' off' u1 u2;refine .inr ⟨u2.ok (mG l (rN false r)) (by simp),?_⟩
   have u3:=cA.delLp u2
   obtain⟨l1,l2,l3⟩:=ends (L:=[_,_,_]) (v:=.nilslice) rfl u3
   exact wC l1 (wC l2 (wC l3 (hQ _ (p2.trans (u1.trans u3.tle)))))
def nR(s:List Nat):Nat:=(s.reverse.takeWhile fun b=>decide (b≠10)).length
theorem zcs(hl:s.length<1000000):fB yA F 55 [.str s,.int .u8 10] t=some (.int .i64 ((s.length:Int)-1-(nR s:Int))):=by
 have loop:∀(k:Nat),k<=s.length->nR s=(s.length-k)+nR (s.take k)->jp 87 2 [.str s,.int .u8 10,.int .i64 ((k:Int)-1)] t fun v t'=>v=.int .i64 ((s.length:Int)-1-(nR s:Int))/\t'=t:=by
  intro k;induction k with
  | zero=>
   intro hk he;refine j87_2 ?_
   unfold Sr;refine qB (by rw[oQ];simp) ⟨?_,rfl⟩
   rw[List.take_zero]at he;have:nR []=0:=rfl
   congr 1
   omega
  | succ k ih=>
   intro hk he;have hx:s[k]?=some s[k]:=ybd (by omega)
   have e1:((k+1:Nat):Int)-1=(k:Int):=by omega
   refine j87_2 ?_
   unfold Sr uU;rw[e1];refine pA (by rw[oQ];exact decide_eq_true (by omega)) (mA (xL hx) (oB ?_))
   have hc:nR (s.take (k+1))=if s[k]=10 then 0 else nR (s.take k)+1:=by
    unfold nR;rw[mO hx,List.reverse_append,List.reverse_singleton,List.singleton_append,List.takeWhile_cons];by_cases h10:s[k]=10
    ·simp[h10]
    ·simp[h10]
   by_cases h10:s[k]=10
   ·rw[yab h10]at hc
    refine pA (by rw[sE,h10];rfl) ⟨?_,rfl⟩
    congr 1
    omega
   ·rw[yaa h10]at hc
    refine qB (by rw[sE];simp;omega) (iC ?_)
    have e2:uW ((k:Int)-1)=(k:Int)-1:=oC (by omega) (by omega)
    rw[e2];exact ih (by omega) (by omega)
 refine tE.2 (w55 ?_)
 unfold t55 uI;refine tB ?_
 have h87:fB yA F 87 [.str s,.int .u8 10] t=some (.int .i64 ((s.length:Int)-1-(nR s:Int))):=by
  refine tE.2 (w87 ?_)
  unfold t87;rw[dN];have e2:uW ((s.length:Int)-1)=(s.length:Int)-1:=oC (by omega) (by omega)
  rw[e2];exact iC (loop s.length (ybk _) (by rw[List.take_length];omega))
 rw[q87,h87,sA];exact oB ⟨rfl,rfl⟩
def atL (s:List Nat):Nat:=eR 10 s+1
def atC (s:List Nat):Nat:=nR s+1
theorem zat(s:List Nat):eR 10 s<=s.length:=by
 induction s with
 | nil=>exact ybk _
 | cons b s ih=>
  have e:eR 10 (b::s)=bif Nat.beq b 10 then eR 10 s+1 else eR 10 s:=rfl
  rw[e,ybn]
  cases Nat.beq b 10 with
  | true=>rw[cond_true];omega
  | false=>rw[cond_false];omega
theorem UI(s:List Nat):nR s<=s.length:=by
 unfold nR;have:=(List.takeWhile_sublist (fun b=>decide (b≠10)) (l:=s.reverse)).length_le
 rwa [List.length_reverse]at this
theorem at_pv(hl:s.length<900000){n:Nat}(hn:n<=s.length):fB yA F 25 [.str s,.int .i64 (n:Int)] t=some (.agg [.int .i64 (atL (s.take n):Int),.int .i64 (atC (s.take n):Int)]):=by
 refine tE.2 (w25 ?_)
 unfold t25 uS uI;have e0:(bif yC (Int.ofNat (bA s)) (n:Int)then Int.ofNat (bA s)else(n:Int))=(n:Int):=by
  rw[dN,qC,decide_eq_false (by omega)];rfl
 rw[e0];have hlen:(s.take n).length=n:=by rw[yda];omega
 refine qB (by rw[qC];simp) (mA (Bv hn) (oE (tB ?_)))
 have hgp:yA.prims.get 54=some (vN Iw):=by kernel_rfl
 have hcn:fB yA F 54 [.str (s.take n),.str [10]] t=some (.int .i64 (eR 10 (s.take n):Int)):=Iq hgp fun H=>rfl
 rw[q54,hcn,sA];refine oB (tB ?_)
 rw[q55];show xD (fB yA F 55 [.str (s.take n),.int .u8 10] t) _
 rw[zcs (by omega),sA]
 have h1:=zat (s.take n)
 have h2:=UI (s.take n)
 have e1:nD (eR 10 (s.take n):Int)=.int .i64 (atL (s.take n):Int):=by
  show zA.int .i64 (lA .i64 ((eR 10 (s.take n):Int)+1))=_
  rw[oC (by omega) (by omega)];rfl
 have e2:uW (Int.ofNat (bA (s.take n))-(((s.take n).length:Int)-1-(nR (s.take n):Int)))=(atC (s.take n):Int):=by
  unfold uW atC;rw[dN,oC (by omega) (by omega)];omega
 refine oB (pA rfl (pA rfl ?_))
 rw[e1,e2];exact⟨rfl,rfl⟩
end
end Go.Proofs
namespace Go.Proofs
open Go Go.Am
variable [jC]
def tRun (ty:Nat)(z:List zA)(cf:jI->List zA)(p0:List Nat)(p1:zA):T:=
 .heavy (sJ yA ty) fun a0=>
 .heavy (sJ yA 29) fun a1=>
 .heavy (sJ yA 30) fun a2=>
 .call 22 [(.str p0)] fun a3=>
 .opt (wH 0 a3) fun a4=>.opt (wH 1 a3) fun a5=>.asG [(.int .i64 0),(.int .i64 0)] a5 fun X6=>
 .opt (wH 2 a3) fun a7=>.asI .i64 a7 fun n8=>.heavy (uC yA 29 a1 (.agg [(.int .i64 (X6.i 0)),(.int .i64 (X6.i 1))])) fun _=>
 .heavy (uC yA 30 a2 (.int .i64 n8)) fun _=>
 .light (fun m=>iA yA 30 ⟨0,m⟩ a2) fun a9=>.asI .i64 a9 fun n10=>.ite (!tC n10 0)
 (.light (fun m=>iA yA ty ⟨0,m⟩ a0) fun a11=>.asG z a11 fun X12=>
 .light (fun m=>iA yA 29 ⟨0,m⟩ a1) fun a13=>.asG [(.int .i64 0),(.int .i64 0)] a13 fun X14=>
 .light (fun m=>iA yA 30 ⟨0,m⟩ a2) fun a15=>.asI .i64 a15 fun n16=>.heavy (uC yA ty a0 (.agg (cf X12))) fun _=>
 .light (fun m=>iA yA 29 ⟨0,m⟩ a1) fun a17=>.ite (same 10 a17 (.agg [(.int .i64 (X14.i 0)),(.int .i64 (X14.i 1))])) (.light (fun m=>iA yA 30 ⟨0,m⟩ a2) fun a18=>.ite (same 10 a18 (.int .i64 n16)) (.heavy (uC yA 29 a1 (.agg [(.int .i64 (X14.i 0)),(.int .i64 (X14.i 1))])) fun _=>
 .light (fun m=>iA yA 30 ⟨0,m⟩ a2) fun a19=>.ite (same 10 a19 (.int .i64 n16)) (.heavy (uC yA 30 a2 (.int .i64 n16)) fun _=>
 .light (fun m=>iA yA ty ⟨0,m⟩ a0) fun a20=>.light (fun m=>iA yA 29 ⟨0,m⟩ a1) fun a21=>.light (fun m=>iA yA 30 ⟨0,m⟩ a2) fun a22=>.ret (.tup [a20,a21,a22])) .fail) .fail) .fail)
 (.call 25 [(.str p0),(.int .i64 (Int.ofNat (bA p0)))] fun a23=>
 .asG [(.int .i64 0),(.int .i64 0)] a23 fun X24=>
 .ite (cB zA.one [a4]) (.heavy (jL (.agg [a4,(.int .i64 0),(.int .i64 0),(.int .i64 (X24.i 0)),(.int .i64 (X24.i 1))])) fun a25=>
 .jump 11 [p1,a0,a1,a2,a25]) .fail)
def tR13 (ty:Nat)(z:List zA)(cf:jI->List zA)(v1 v4 v5 v6 v8:zA):T:=
 .callv v1 [v8] fun a0=>
 .asG z a0 fun X1=>
 .ite true (.heavy (uC yA ty v4 (.agg (cf X1))) fun _=>
 .heavy (uC yA 29 v5 (.agg [(.int .i64 0),(.int .i64 0)])) fun _=>
 .heavy (uC yA 30 v6 (.int .i64 0)) fun _=>
 .light (fun m=>iA yA ty ⟨0,m⟩ v4) fun a2=>.light (fun m=>iA yA 29 ⟨0,m⟩ v5) fun a3=>.light (fun m=>iA yA 30 ⟨0,m⟩ v6) fun a4=>.ret (.tup [a2,a3,a4])) .fail
def tR3 (ty:Nat)(z:List zA)(v0 v1 v2 v3:zA):T:=
 .opt ((rW .neq).f yA 20 (.tmp 8) (.const .nilIface) v3 .niliface) fun a0=>.asB a0 fun b1=>.ite b1
 (.heavy (uC yA ty v0 (.agg z)) fun _=>
 .heavy (uC yA 30 v1 (.int .i64 120)) fun _=>
 .opt (Hg yA 123 true v3) fun a2=>.opt (wH 0 a2) fun a3=>.asG [(.int .i64 0),(.int .i64 0),(.int .i64 0)] a3 fun X4=>
 .opt (wH 1 a2) fun a5=>.asB a5 fun b6=>.ite true (.ite b6
 (.heavy (uC yA 29 v2 (.agg [(.int .i64 (X4.i 0)),(.int .i64 (X4.i 1))])) fun _=>
 .ite (same 10 (.int .i64 (X4.i 2)) (.int .i64 (X4.i 2))) (.heavy (uC yA 30 v1 (.int .i64 (X4.i 2))) fun _=>
 .ret (.tup [])) .fail)
 (.ret (.tup []))) .fail)
 (.ret (.tup []))
def tRe (ty:Nat)(v4 v5 v6:zA):T:=.light (fun m=>iA yA ty ⟨0,m⟩ v4) fun a2=>.light (fun m=>iA yA 29 ⟨0,m⟩ v5) fun a3=>.light (fun m=>iA yA 30 ⟨0,m⟩ v6) fun a4=>.ret (.tup [a2,a3,a4])
def L3 (b0 b1 b2:Nat)(z:List zA)(a b k:Int):List jE:=[lC b0 none z,lC b1 none [.int .i64 a,.int .i64 b],lC b2 none [.int .i64 k]]
structure RT (T:Nat) (z:List zA) (cf:jI->List zA):Prop where
 ty:∃y,yA.tys.get T=some y/\y.desc.isAgg=true/\y.zero=z/\y.size=z.length
 one:cB zA.one z=true
 ag:vK z (.agg z)=some (cellsOf z)
 cf:cf (cellsOf z)=z
section
variable {t tf:Tr vA}{Q:fA}{s:List Nat}{T:Nat}{z:List zA}{cf:jI->List zA}{J:pF}{A B:List jE}{b0 b1 b2:Nat}{cs:List zA}{a b k:Int}{W:pF}
theorem ldS{y:rC}(h:cA yA.base tf t (A++lC b0 none cs::B))(hT:yA.tys.get T=some y)(ha:y.desc.isAgg=true)(hs:y.size=cs.length):iA yA T ⟨0,t⟩ (.ptr b0 0)=some (.agg cs):=by
 have:=h.cel.at.load (j:=0) (n:=cs.length) hT ha hs (by omega)
 simpa using this
theorem stS{y:rC}{cs':List zA}(h:cA yA.base tf t (A++lC b0 none cs::B))(hT:yA.tys.get T=some y)(hs:y.size=cs.length)(hl:cs'.length=cs.length)(hone:cB zA.one cs'=true):∃t',(∀q,uC yA T (.ptr b0 0) (.agg cs') ⟨q,t⟩=some (rD,⟨q,t'⟩))/\cA yA.base tf t' (A++lC b0 none cs'::B):=by
 obtain⟨t',h1,h2⟩:=cA.setCel (j:=0) (v:=.agg cs') h hT (by show cs'.length=_;omega) (by show 0+cs'.length<=_;omega) hone
 refine⟨t',h1,?_⟩
 have hov:oM cs 0 cs'=cs':=by
  unfold oM;rw[List.take_zero,yah,ybt (by omega),ycd]
 have h2:cA yA.base tf t' (A++lC b0 none (oM cs 0 cs')::B):=h2
 rwa [hov]at h2
theorem stI{k':Int}(h:cA yA.base tf t (A++lC b0 none [.int .i64 k]::B)):∃t',(∀q,uC yA 30 (.ptr b0 0) (.int .i64 k') ⟨q,t⟩=some (rD,⟨q,t'⟩))/\cA yA.base tf t' (A++lC b0 none [.int .i64 k']::B):=by
 obtain⟨t',h1,h2⟩:=cA.setCel (j:=0) (v:=.int .i64 k') h dW rfl (by show 0+1<=1;omega) rfl
 exact⟨t',h1,h2⟩
theorem ag2{a b:Int}:vK [.int .i64 0,.int .i64 0] (.agg [.int .i64 a,.int .i64 b])=some (cellsOf [.int .i64 a,.int .i64 b]):=iQ rfl
theorem Uy(hR:RT T z cf)(hl:cs.length=z.length)(h:cA yA.base tf t (A++L3 b0 b1 b2 cs a b k))(hQ:Q (.tup [.agg cs,.agg [.int .i64 a,.int .i64 b],.int .i64 k]) t):oA yA.base W J (tRe T (.ptr b0 0) (.ptr b1 0) (.ptr b2 0)) t Q:=by
 obtain⟨y,h1,h2,h3,h4⟩:=hR.ty
 unfold tRe;refine wC (ldS h h1 h2 (by omega)) (wC (v:=.agg [.int .i64 a,.int .i64 b]) ?_ (wC (v:=.int .i64 k) ?_ hQ))
 ·exact ldS (A:=A++[lC b0 none cs]) (B:=[lC b2 none [.int .i64 k]]) (by simpa[L3]using h) kT rfl rfl
 ·have h':cA yA.base tf t ((A++[lC b0 none cs,lC b1 none [.int .i64 a,.int .i64 b]])++lC b2 none [.int .i64 k]::[]):=by simpa[L3]using h
  exact h'.cel.load1 dW rfl rfl
theorem set0(hR:RT T z cf){cs':List zA}(hl:cs.length=z.length)(hl':cs'.length=z.length)(hone:cB zA.one cs'=true)(h:cA yA.base tf t (A++L3 b0 b1 b2 cs a b k)):∃t',(∀q,uC yA T (.ptr b0 0) (.agg cs') ⟨q,t⟩=some (rD,⟨q,t'⟩))/\cA yA.base tf t' (A++L3 b0 b1 b2 cs' a b k):=by
 obtain⟨y,h1,h2,h3,h4⟩:=hR.ty
 exact stS h h1 (by omega) (by omega) hone
theorem set1{a' b':Int}(h:cA yA.base tf t (A++L3 b0 b1 b2 cs a b k)):∃t',(∀q,uC yA 29 (.ptr b1 0) (.agg [.int .i64 a',.int .i64 b']) ⟨q,t⟩=some (rD,⟨q,t'⟩))/\cA yA.base tf t' (A++L3 b0 b1 b2 cs a' b' k):=by
 obtain⟨t',h1,h2⟩:=stS (A:=A++[lC b0 none cs]) (B:=[lC b2 none [.int .i64 k]]) (cs:=[.int .i64 a,.int .i64 b]) (b0:=b1) (cs':=[.int .i64 a',.int .i64 b']) (by simpa[L3]using h) kT rfl rfl rfl
 exact⟨t',h1,by simpa[L3]using h2⟩
theorem set2{k':Int}(h:cA yA.base tf t (A++L3 b0 b1 b2 cs a b k)):∃t',(∀q,uC yA 30 (.ptr b2 0) (.int .i64 k') ⟨q,t⟩=some (rD,⟨q,t'⟩))/\cA yA.base tf t' (A++L3 b0 b1 b2 cs a b k'):=by
 obtain⟨t',h1,h2⟩:=stI (A:=A++[lC b0 none cs,lC b1 none [.int .i64 a,.int .i64 b]]) (B:=[]) (k':=k') (by simpa[L3]using h)
 exact⟨t',h1,by simpa[L3]using h2⟩
theorem ld1(h:cA yA.base tf t (A++L3 b0 b1 b2 cs a b k)):iA yA 29 ⟨0,t⟩ (.ptr b1 0)=some (.agg [.int .i64 a,.int .i64 b]):=
 ldS (A:=A++[lC b0 none cs]) (B:=[lC b2 none [.int .i64 k]]) (by simpa[L3]using h) kT rfl rfl
theorem ld2(h:cA yA.base tf t (A++L3 b0 b1 b2 cs a b k)):iA yA 30 ⟨0,t⟩ (.ptr b2 0)=some (.int .i64 k):=by
 have h':cA yA.base tf t ((A++[lC b0 none cs,lC b1 none [.int .i64 a,.int .i64 b]])++lC b2 none [.int .i64 k]::[]):=by simpa[L3]using h
 exact h'.cel.load1 dW rfl rfl
theorem clo_ok(hR:RT T z cf){x y e:Int}(hl:cs.length=z.length)(h:cA yA.base tf t (A++L3 b0 b1 b2 cs a b k))(hQ:∀t',cA yA.base tf t' (A++L3 b0 b1 b2 z x y e)->Q (.tup []) t') :
  oA yA.base W J (tR3 T z (.ptr b0 0) (.ptr b2 0) (.ptr b1 0) (.iface 123 (.agg [.int .i64 x,.int .i64 y,.int .i64 e]))) t Q:=by
 unfold tR3;refine mA (v:=.bool true) (by kernel_rfl) (vE (pA rfl ?_))
 obtain⟨t1,h1,h2⟩:=set0 hR (cs':=z) hl rfl hR.one h
 refine pC fun q _ _=>⟨_,_,h1 q,?_⟩
 obtain⟨t2,h3,h4⟩:=set2 (k':=120) h2
 refine pC fun q _ _=>⟨_,_,h3 q,?_⟩
 refine mA (v:=.tup [.agg [.int .i64 x,.int .i64 y,.int .i64 e],.bool true]) (by kernel_rfl) (mA (v:=.agg [.int .i64 x,.int .i64 y,.int .i64 e]) rfl (eC (X:=cellsOf [.int .i64 x,.int .i64 y,.int .i64 e]) (iQ rfl) (mA (v:=.bool true) rfl (vE (pA rfl (pA rfl ?_))))))
 obtain⟨t3,h5,h6⟩:=set1 (a':=x) (b':=y) h4
 refine pC fun q _ _=>⟨_,_,h5 q,?_⟩
 refine pA (by show same 10 (.int .i64 e) (.int .i64 e)=true;simp[same,eL,sE]) ?_
 obtain⟨t4,h7,h8⟩:=set2 (k':=e) h6
 refine pC fun q _ _=>⟨_,_,h7 q,?_⟩
 exact hQ _ h8
theorem CH{e:Int}:same 10 (.int .i64 e) (.int .i64 e)=true:=by simp[same,eL,sE]
theorem same_2{a b:Int}:same 10 (.agg [.int .i64 a,.int .i64 b]) (.agg [.int .i64 a,.int .i64 b])=true:=by simp[same,same.sames,eL,sE]
theorem tail13{α:Type}{rd:Tr vA->α->zA->Prop}{good:Tr vA->α->List zA->Prop}{P:bK}{r:PR α}{g:Nat}(hR:RT T z cf)(hL:P.L=L3 b0 b1 b2 z 0 0 0)(h:St P tf t 0 0)
  (hQ:match r with
   | .ok x _=>∀tf' t' cs,zB tf tf'->zB tf' t'->good tf' x cs->Q (.tup [.agg cs,.agg [.int .i64 0,.int .i64 0],.int .i64 0]) t'
   | .er e i=>∀t',zB tf t'->Q (.tup [.agg z,.agg [.int .i64 ((vH P i).line:Int),.int .i64 ((vH P i).col:Int)],.int .i64 (e:Int)]) t')
  (hcall:∀Q E,Ok P rd 0 tf r Q E->kF yA F gC nG E g [.ptr P.bp 0] t Q) (hg:Nat.blt g pn=true)
  (hrd:∀tf' x v,rd tf' x v->∃cs,v=.agg cs/\cs.length=z.length/\vK z (.agg cs)=some (cellsOf cs)/\cf (cellsOf cs)=cs/\cB zA.one cs=true/\good tf' x cs) :
  oA yA.base (kF yA F gC nG fun v t'=>oA yA.base (Wq yA F gC) noJ (tR3 T z (.ptr b0 0) (.ptr b2 0) (.ptr b1 0) v) t' fun _ t''=>oA yA.base (Wq yA F gC) noJ (tRe T (.ptr b0 0) (.ptr b1 0) (.ptr b2 0)) t'' Q) noJ
   (tR13 T z cf (.func (.func g) [] []) (.ptr b0 0) (.ptr b1 0) (.ptr b2 0) (.ptr P.bp 0)) t Q:=by
 unfold tR13;have hf:wK (.func (.func g) [] []) [.ptr P.bp 0]=some (g,[.ptr P.bp 0]):=by
  unfold wK;simp only[zA.asFunc,qA,hg,mE];rfl
 refine iT hf (hcall _ _ ?_)
 cases r with
 | er e i=>
  intro tf' t' n' d' hle hst;have ho:cA yA.base tf' t' ([kV P n' d']++L3 b0 b1 b2 z 0 0 0):=by rw[<- hL];exact hst.ob
  refine clo_ok hR rfl ho fun t2 ho2=>?_
  refine Uy hR rfl ho2 ?_
  exact hQ t2 (hle.trans ho2.tle)
 | ok x n=>
  intro tf' t' v hle hst hv;obtain⟨cs,rfl,h1,h2,h3,h4,h5⟩:=hrd _ _ _ hv
  have ho:cA yA.base tf' t' ([kV P n 0]++L3 b0 b1 b2 z 0 0 0):=by rw[<- hL];exact hst.ob
  refine eC h2 (pA rfl ?_)
  rw[h3];obtain⟨t1,k1,k2⟩:=set0 hR (cs':=cs) rfl h1 h4 ho
  refine pC fun q _ _=>⟨_,_,k1 q,?_⟩
  obtain⟨t2,k3,k4⟩:=set1 (a':=0) (b':=0) k2
  refine pC fun q _ _=>⟨_,_,k3 q,?_⟩
  obtain⟨t3,k5,k6⟩:=set2 (k':=0) k4
  refine pC fun q _ _=>⟨_,_,k5 q,?_⟩
  exact Uy hR h1 k6 (hQ tf' t3 cs hle k6.tle h5)
theorem zb4{p1:zA}(hR:RT T z cf)(hg:rK t)(hby:∀b∈s,b<256)(hgood:∀m,iK s=.ok m->s.length<900000/\m.length<1000000/\∀x∈m,Dt x)
  (hE:∀e a b,iK s=.er e a b->e≠0/\∀t',zB t t'->Q (.tup [.agg z,.agg [.int .i64 (a:Int),.int .i64 (b:Int)],.int .i64 (e:Int)]) t')
  (hT:∀m,iK s=.ok m->∀tf1 t1 P b0 b1 b2,P.tk=m->P.el=atL s->P.ec=atC s->P.L=L3 b0 b1 b2 z 0 0 0->zB t tf1->St P tf1 t1 0 0->J 11 [p1,.ptr b0 0,.ptr b1 0,.ptr b2 0,.ptr P.bp 0] t1 Q) :
  oA yA.base (Wq yA F gC) J (tRun T z cf s p1) t Q:=by
 obtain⟨y,y1,y2,y3,y4⟩:=hR.ty
 unfold tRun;refine pC fun c0 hc0 hb0=>?_
 obtain⟨u0,a1,a2,a3,a4⟩:=bR (C:=yA) y1 hc0
 refine⟨_,_,a1,?_⟩
 have o0:cA yA.base t t []:=⟨zB.refl _,by simp,by simp,by simp⟩
 have o1:=cA.newCel (A:=[]) (B:=[]) o0 hc0 hb0 a2 a3 a4
 refine pC fun c1 hc1 hb1=>?_
 obtain⟨u1,a5,a6,a7,a8⟩:=bR (C:=yA) kT hc1
 refine⟨_,_,a5,?_⟩
 have o2:=cA.newCel (A:=[lC c0 none y.zero]) (B:=[]) o1 hc1 hb1 a6 a7 a8
 refine pC fun c2 hc2 hb2=>?_
 obtain⟨u2,a9,a10,a11,a12⟩:=bR (C:=yA) dW hc2
 refine⟨_,_,a9,?_⟩
 have o3:=cA.newCel (A:=[lC c0 none y.zero,lC c1 none [.int .i64 0,.int .i64 0]]) (B:=[]) o2 hc2 hb2 a10 a11 a12
 rw[y3]at o3;have o3:cA yA.base t u2 (L3 c0 c1 c2 z 0 0 0):=o3
 refine tB ?_
 rw[q22];refine Wc.objs (R:=fun v t'=>match iK s with
   | .ok m=>∃v',v=.tup [v',.agg [.int .i64 0,.int .i64 0],.int .i64 0]/\aA t' 4 (m.map cC.d) v'
   | .er e a b=>v=.tup [.nilslice,.agg [.int .i64 (a:Int),.int .i64 (b:Int)],.int .i64 (e:Int)]) (lex_ok hg hby ?_) o3 fun v tf1 t1 hle ho hv=>?_
 ·cases hx:iK s with
  | ok m=>exact fun t' v k1 k2=>⟨k1,v,rfl,k2⟩
  | er e a b=>exact fun t' k1=>⟨k1,rfl⟩
 cases hx:iK s with
 | er e a b=>
  rw[hx]at hv;have hv:v=.tup [.nilslice,.agg [.int .i64 (a:Int),.int .i64 (b:Int)],.int .i64 (e:Int)]:=hv
  subst hv;obtain⟨hne,hQ⟩:=hE e a b hx
  refine mA (v:=.nilslice) rfl (mA (v:=.agg [.int .i64 (a:Int),.int .i64 (b:Int)]) rfl (eC ag2 (mA (v:=.int .i64 (e:Int)) rfl (oB ?_))))
  obtain⟨t2,k1,k2⟩:=set1 (A:=[]) (a':=(a:Int)) (b':=(b:Int)) ho
  refine pC fun q _ _=>⟨_,_,k1 q,?_⟩
  obtain⟨t3,k3,k4⟩:=set2 (k':=(e:Int)) k2
  refine pC fun q _ _=>⟨_,_,k3 q,?_⟩
  refine wC (ld2 k4) (oB (pA (by rw[sE];simp;omega) ?_))
  refine wC (ldS (A:=[]) k4 y1 y2 y4) (eC hR.ag (wC (ld1 k4) (eC ag2 (wC (ld2 k4) (oB ?_)))))
  rw[hR.cf];obtain⟨t4,k5,k6⟩:=set0 hR (cs':=z) rfl rfl hR.one k4
  refine pC fun q _ _=>⟨_,_,k5 q,?_⟩
  refine wC (ld1 k6) (pA same_2 (wC (ld2 k6) (pA CH ?_)))
  obtain⟨t5,k7,k8⟩:=set1 (a':=(a:Int)) (b':=(b:Int)) k6
  refine pC fun q _ _=>⟨_,_,k7 q,?_⟩
  refine wC (ld2 k8) (pA CH ?_)
  obtain⟨t6,k9,k10⟩:=set2 (k':=(e:Int)) k8
  refine pC fun q _ _=>⟨_,_,k9 q,?_⟩
  refine Uy (W:=Wq yA F gC) (J:=J) hR rfl k10 (hQ t6 (hle.trans k10.tle))
 | ok m=>
  rw[hx]at hv;obtain⟨v',rfl,hv'⟩:=hv
  obtain⟨g0,g1,g2⟩:=hgood m hx
  refine mA (v:=v') rfl (mA (v:=.agg [.int .i64 0,.int .i64 0]) rfl (eC ag2 (mA (v:=.int .i64 0) rfl (oB ?_))))
  obtain⟨t2,k1,k2⟩:=set1 (A:=[]) (a':=0) (b':=0) ho
  refine pC fun q _ _=>⟨_,_,k1 q,?_⟩
  obtain⟨t3,k3,k4⟩:=set2 (k':=0) k2
  refine pC fun q _ _=>⟨_,_,k3 q,?_⟩
  refine wC (ld2 k4) (oB (qB (by simp[sE]) (tB ?_)))
  rw[q25,dN,at_pv g0 (ybk _),sA,List.take_length]
  refine eC ag2 (pA (by
   obtain⟨cl,he,_⟩:=hv'
   rcases he with⟨rfl,_⟩ | ⟨b,off,cap,rfl,_⟩<;>rfl) ?_)
  refine pC fun c8 hc8 hb8=>?_
  obtain⟨u8,m1,m2,m3,m4⟩:=Qm (v:=.agg [v',.int .i64 0,.int .i64 0,.int .i64 (atL s:Int),.int .i64 (atC s:Int)]) hc8
  refine⟨_,_,m1,iC ?_⟩
  have o8:=cA.newCel (A:=[]) (B:=L3 c0 c1 c2 z 0 0 0) k4 hc8 hb8 m2 m3 m4
  exact hT m hx tf1 u8 ⟨m,c8,v',atL s,atC s,L3 c0 c1 c2 z 0 0 0⟩ c0 c1 c2 rfl rfl rfl rfl hle ⟨hv',o8,g1,yaw _,g2,hg.mono hle⟩
end
end Go.Proofs
namespace Go.Proofs
open Go Go.Am
theorem Uo{p:Nat->Bool}{s:List Nat}:∀b∈fE p s,p b=true:=by
 intro b hb;unfold fE at hb;induction s with
 | nil=>cases hb
 | cons x s ih=>
  rw[List.takeWhile_cons]at hb;split at hb
  ·rcases ybs.1 hb with rfl | h
   ·assumption
   ·exact ih h
  ·cases hb
theorem CQ{p:Nat->Bool}{s:List Nat}:∃r,s=fE p s++r/\∀b r',r=b::r'->p b=false:=by
 refine⟨s.dropWhile p,(List.takeWhile_append_dropWhile).symm,fun b r' h=>?_⟩
 have:=List.head?_dropWhile_not p s
 rw[h]at this;simpa using this
theorem lZ{p:Nat->Bool}{a r:List Nat}(h:∀b∈a,p b=true)(hr:∀b r',r=b::r'->p b=false):fE p (a++r)=a:=by
 unfold fE;induction a with
 | nil=>
  cases r with
  | nil=>rfl
  | cons b r'=>rw[yah,List.takeWhile_cons,hr b r' rfl];rfl
 | cons x a ih=>
  rw[List.cons_append,List.takeWhile_cons,h x yby,yab rfl,ih fun b hb=>h b (ybr _ hb)]
theorem Ye{b:Nat}(h:fD b=true):decide (b≠47)=true:=by
 unfold fD at h;simp only[ybb,decide_eq_true_eq]at h ⊢
 omega
theorem Xk(f q:List Nat):(f++q)[f.length]?=q.head?:=by
 rw[ybp (ybk _),Nat.sub_self]
 cases q<;>rfl
theorem Se(f q:List Nat):(f++q).take f.length=f:=by simp
theorem JX(f q:List Nat)(b:Nat):(f++b::q).drop (f.length+1)=q:=by
 rw[List.drop_append,ybt (by omega),show f.length+1-f.length=1 from by omega];rfl
theorem zce{s:List Nat}{b:Nat}{r:List Nat}(he:s=b::r)(hd:fD b=true)(h:fI s=false):qX (s.take (oF s))/\0<(s.take (oF s)).length:=by
 unfold fI at h;simp only[yal,decide_eq_false_iff_not]at h;obtain⟨⟨⟨⟨h1,h2⟩,h3⟩,h4⟩,h5⟩:=h
 have hf:iD s≠[]:=by
  intro e;unfold iD fE at e;rw[he,List.takeWhile_cons,hd,yab rfl]at e
  cases e
 obtain⟨q,hq1,hq2⟩:=CQ (p:=fD) (s:=s)
 have hq1:s=iD s++q:=hq1
 have hall:∀x∈iD s,fD x=true:=Uo
 have hpos:0<(iD s).length:=List.length_pos_iff.2 hf
 have hgd:s[(iD s).length]?=q.head?:=by
  have:=Xk (iD s) q
  rwa [<- hq1]at this
 by_cases hs:lF s=[]
 ·have hl:oF s=(iD s).length:=yab hs
  have ht:s.take (oF s)=iD s:=by rw[hl];have:=Se (iD s) q;rwa [<- hq1]at this
  rw[ht];have hc:zO (iD s)=iD s:=by
   have:=lZ (p:=fun b=>decide (b≠47)) (a:=iD s) (r:=[]) (fun b hb=>Ye (hall b hb)) (fun _ _ e=>by cases e)
   rwa [ycd]at this
  refine⟨⟨by rw[hl]at h1;omega,by rw[hc];exact hall,by rw[hc];exact hf,by rw[hc];exact h3,fun hh=>?_⟩,hpos⟩
  unfold vL at hh;have:=Ye (hall 47 (by simpa using hh))
  simp at this
 ·have hl:oF s=(iD s).length+1+(lF s).length:=yaa hs
  have hsl:s[(iD s).length]?=some 47:=by
   cases Decidable.em (s[(iD s).length]?=some 47)with
   | inl h=>exact h
   | inr h=>exact absurd (yaa h) hs
  rw[hgd]at hsl;obtain⟨u,rfl⟩:∃u,q=47::u:=by
   cases q with
   | nil=>cases hsl
   | cons x u=>rw[List.head?_cons]at hsl;cases hsl;exact⟨u,rfl⟩
  have hsec:lF s=fE fD u:=by
   unfold lF;rw[yab (by rw[hgd];exact hsl)]
   congr 1
   have:=JX (iD s) u 47
   rwa [<- hq1]at this
  obtain⟨w,hw1,_⟩:=CQ (p:=fD) (s:=u)
  rw[<- hsec]at hw1;have hall2:∀x∈lF s,fD x=true:=by rw[hsec];exact Uo
  have ht:s.take (oF s)=iD s++47::lF s:=by
   have e:s=(iD s++47::lF s)++w:=by rw[ybz,List.cons_append,<- hw1];exact hq1
   rw[hl];have:=Se (iD s++47::lF s) w
   rw[<- e]at this;rw[ybg,ybn,show(iD s).length+((lF s).length+1)=(iD s).length+1+(lF s).length from by omega]at this
   exact this
  rw[ht];have hc:zO (iD s++47::lF s)=iD s:=lZ (fun b hb=>Ye (hall b hb)) (fun b r' e=>by cases e;rfl)
  have hcb:rP (iD s++47::lF s)=lF s:=by
   unfold rP;rw[hc];exact JX _ _ _
  refine⟨⟨?_,by rw[hc];exact hall,by rw[hc];exact hf,by rw[hc];exact h3,fun _=>?_⟩,by rw[ybg];omega⟩
  ·rw[hl]at h1;simp only[ybg,ybn];omega
  ·rw[hcb]
   exact⟨hs,hall2,h4,h5⟩
theorem NS{s:List Nat}{k:Nat}{w:List Nat}(h:iH s=.tok k w):0<w.length/\(k=2->qX w)/\(k=3->Qh w)/\k≠5:=by
 unfold iH at h;split at h
 ·cases h
 ·rename_i b r
  split at h
  ·rename_i hb
   split at h
   ·cases h
   ·cases h
    refine⟨?_,fun e=>by omega,fun e=>by omega,by omega⟩
    unfold fE;rw[List.takeWhile_cons,yab (by unfold aG;rw[hb];rfl)]
    simp
  ·split at h
   ·rename_i hb
    simp only[ybb]at hb;split at h
    ·cases h
    ·rename_i hd
     cases h;have hl:10<=(b::r).length:=by
      have:=hb.2
      unfold cI at this;simp only[ybb,decide_eq_true_eq]at this;exact this.1
     have hlt:((b::r).take 10).length=10:=by rw[yda];omega
     refine⟨by omega,fun e=>by omega,fun _=>⟨hlt,?_,?_⟩,by omega⟩
     ·have:=hb.2
      unfold cI at this ⊢
      simp only[ybb,decide_eq_true_eq]at this ⊢
      refine⟨by omega,?_⟩
      have h2:=this.2
      rw[ycb]at h2 ⊢
      intro i hi;have hi':=List.mem_range.1 hi
      have:=h2 i hi
      rw[List.getD_eq_getElem?_getD,List.getElem?_take_of_lt hi',<- List.getD_eq_getElem?_getD];exact this
     ·have hd:fR (b::r)=false:=by simpa using hd
      unfold fR at hd;simp only[yal,decide_eq_false_iff_not]at hd
      cases hx:lY ((b::r).take 10)with
      | none=>exact absurd hx hd.2
      | some n=>exact⟨n,rfl⟩
   ·split at h
    ·rename_i hb
     split at h
     ·cases h
     ·rename_i hn
      cases h;have hn:fI (b::r)=false:=by simpa using hn
      obtain⟨h1,h2⟩:=zce rfl hb hn
      exact⟨h2,fun _=>h1,fun e=>by omega,by omega⟩
    ·split at h
     ·cases h
      exact⟨by simp,fun e=>by omega,fun e=>by omega,by omega⟩
     ·cases h
theorem bad_ne{s:List Nat}{e:Nat}(h:iH s=.bad e):e≠0:=by
 unfold iH at h;repeat' split at h
 all_goals first | (cases h;decide) | cases h
theorem Yb(p:Nat × Nat):Dt (endT p):=⟨fun e=>(by cases e),fun e=>(by cases e)⟩
theorem KJ{t:cC}{r:LR}{m:List cC}(h:r.cons t=.ok m):∃m',r=.ok m'/\m=t::m':=by
 cases r with
 | ok l=>cases h;exact⟨l,rfl,rfl⟩
 | er _ _ _=>cases h
theorem KP{op:Option (Nat × Nat)}{r:LR}{m:List cC}(h:LR.close op r=.ok m):∃m',r=.ok m'/\m.length<=m'.length+1/\∀x∈m,x∈m'\/Dt x:=by
 cases op with
 | none=>exact⟨m,h,by omega,fun x hx=>.inl hx⟩
 | some p=>
  obtain⟨m',h1,rfl⟩:=KJ h
  refine⟨m',h1,by simp,fun x hx=>?_⟩
  rcases ybs.1 hx with rfl | hx
  ·exact .inr (Yb p)
  ·exact .inl hx
theorem TY:∀(k:Nat) (s:List Nat) (ln cl:Nat) (op:Option (Nat × Nat)) (m:List cC),yG k s ln cl op=.ok m->m.length<=s.length+1/\∀x∈m,Dt x:=by
 intro k;induction k with
 | zero=>intro s ln cl op m h;cases h;exact⟨by simp,by simp⟩
 | succ k ih=>
  intro s ln cl op m h;unfold yG at h;split at h
  ·cases ‹_+1=0›
  ·obtain⟨m',h1,h2,h3⟩:=KP h
   cases h1;exact⟨h2,fun x hx=>(h3 x hx).elim (fun h=>by cases h) id⟩
  ·rename_i b r heq
   cases heq;split at h
   ·obtain⟨m',h1,h2,h3⟩:=KP h
    obtain⟨g1,g2⟩:=ih _ _ _ _ _ h1
    exact⟨by rw[ybn];omega,fun x hx=>(h3 x hx).elim (g2 x) id⟩
   ·split at h
    ·obtain⟨g1,g2⟩:=ih _ _ _ _ _ h
     exact⟨by rw[ybn];omega,g2⟩
    ·split at h
     ·obtain⟨g1,g2⟩:=ih _ _ _ _ _ h
      refine⟨Nat.le_trans g1 ?_,g2⟩
      rw[ydj];omega
     ·split at h
      ·cases h
      ·rename_i kd w ht
       obtain⟨m',h1,rfl⟩:=KJ h
       obtain⟨g1,g2⟩:=ih _ _ _ _ _ h1
       obtain⟨f1,f2,f3,_⟩:=NS ht
       rw[ydj]at g1;refine⟨by simp only[ybn]at g1 ⊢;omega,fun x hx=>?_⟩
       rcases ybs.1 hx with rfl | hx
       ·exact⟨f2,f3⟩
       ·exact g2 x hx
theorem zco:∀(k:Nat) (s:List Nat) (ln cl:Nat) (op:Option (Nat × Nat)) (e a b:Nat),yG k s ln cl op=.er e a b->e≠0:=by
 have hcons:∀(t:cC) (r:LR) (e a b:Nat),r.cons t=.er e a b->r=.er e a b:=by
  intro t r e a b h
  cases r with
  | ok l=>cases h
  | er _ _ _=>cases h;rfl
 have hclose:∀(op:Option (Nat × Nat)) (r:LR) (e a b:Nat),LR.close op r=.er e a b->r=.er e a b:=by
  intro op r e a b h
  cases op with
  | none=>exact h
  | some p=>exact hcons _ _ _ _ _ h
 intro k;induction k with
 | zero=>intro s ln cl op e a b h;cases h
 | succ k ih=>
  intro s ln cl op e a b h;unfold yG at h;split at h
  ·cases ‹_+1=0›
  ·have:=hclose _ _ _ _ _ h;cases this
  ·rename_i x r heq
   cases heq;split at h
   ·exact ih _ _ _ _ _ _ _ (hclose _ _ _ _ _ h)
   ·split at h
    ·exact ih _ _ _ _ _ _ _ h
    ·split at h
     ·exact ih _ _ _ _ _ _ _ h
     ·split at h
      ·rename_i ht
       cases h;exact bad_ne ht
      ·exact ih _ _ _ _ _ _ _ (hcons _ _ _ _ _ h)
end Go.Proofs
namespace Go.Proofs
open Go Go.Am
variable [jC]
theorem t40_eq(s:List Nat)(p1:zA):t40 s p1=tRun 50 zE cE s p1:=rfl
theorem OF(v1 v4 v5 v6 v8:zA):Sw v1 v4 v5 v6 v8=tR13 50 zE cE v1 v4 v5 v6 v8:=rfl
theorem OD(v0 v1 v2 v3:zA):Mr v0 v1 v2 v3=tR3 50 zE v0 v1 v2 v3:=rfl
theorem OE(v4 v5 v6:zA):Mt v4 v5 v6=tRe 50 v4 v5 v6:=rfl
theorem rt50:RT 50 zE cE:=⟨⟨_,Dr,rfl,rfl,rfl⟩,rfl,iQ rfl,rfl⟩
def Du (m:List cC)(s:List Nat)(i:Nat):cC:=(m[i]?).getD ⟨0,[],atL s,atC s⟩
theorem zcp{s:List Nat}{m:List cC}(h:iK s=.ok m):s.length<900000/\m.length<1000000/\∀x∈m,Dt x:=by
 unfold iK at h;split at h
 ·cases h
 ·obtain⟨h1,h2⟩:=TY _ _ _ _ _ _ h
  exact⟨by omega,by omega,h2⟩
theorem UA{s:List Nat}{e a b:Nat}(h:iK s=.er e a b):e≠0:=by
 unfold iK at h;split at h
 ·cases h;decide
 ·exact zco _ _ _ _ _ _ _ _ h
inductive RP (α:Type) where
 | ok (x:α)
 | er (e l c:Nat)
def sS {α:Type}(top:List cC->PR α)(s:List Nat):RP α:=
 match iK s with
 | .er e a b=>.er e a b
 | .ok m=>match top m with
  | .ok x _=>.ok x
  | .er e i=>.er e (Du m s i).line (Du m s i).col
theorem CR{α:Type}{top:List cC->PR α}{s:List Nat}{m:List cC}(h:iK s=.ok m):sS top s=match top m with | .ok x _=>.ok x | .er e i=>.er e (Du m s i).line (Du m s i).col:=by unfold sS;rw[h]
theorem QH{α:Type}{top:List cC->PR α}{s:List Nat}{e a b:Nat}(h:iK s=.er e a b):sS top s=.er e a b:=by unfold sS;rw[h]
section
variable {t:Tr vA}{Q:fA}{s:List Nat}
theorem run40(hg:rK t)(hby:∀b∈s,b<256)(hQ:match sS gP s with
  | .ok x=>∀t' cs,zB t t'->RD t' x.d cs->Q (.tup [.agg cs,.agg [.int .i64 0,.int .i64 0],.int .i64 0]) t'
  | .er e a b=>∀t',zB t t'->Q (.tup [.agg zE,.agg [.int .i64 (a:Int),.int .i64 (b:Int)],.int .i64 (e:Int)]) t'):Wc yA F 40 [.str s,.func (.func 41) [] []] t Q:=by
 refine w40 _ _ ?_
 rw[t40_eq];refine zb4 rt50 hg hby (fun m hm=>zcp hm) (fun e a b h=>⟨UA h,?_⟩) (fun m hm tf1 t1 P b0 b1 b2 e1 e2 e3 e4 hle hst=>⟨rfl,tl40 _ _ _ _ _ ?_⟩)
 ·rw[QH h]at hQ;exact hQ
 ·rw[OF]
  simp only[OD,OE];refine tail13 (rd:=eJ) (good:=fun tf' x cs=>RD tf' x.d cs) (r:=gP P.tk) rt50 e4 hst ?_ (fun Q E hk=>by rw[pE 41];exact zb1 hst hk) (by kernel_rfl) (fun tf' x v ⟨cs,h1,h2⟩=>⟨cs,h1,Ct h2,wO h2,Ft h2,by obtain⟨a,b,c,rfl,_⟩:=pJ h2;exact h2.all,h2⟩)
  rw[CR hm]at hQ;rw[e1]
  cases hr:gP m with
  | ok x n=>
   rw[hr]at hQ;exact fun tf' t' cs k1 k2 k3=>hQ t' cs (hle.trans (k1.trans k2)) (k3.mono k2)
  | er e i=>
   rw[hr]at hQ;have ht:vH P i=Du m s i:=by unfold vH Du;rw[e1,e2,e3]
   intro t' k1;rw[ht];exact hQ t' (hle.trans k1)
theorem expr15(hg:rK t)(hby:∀b∈s,b<256)(hQ:match sS gP s with
  | .ok x=>∀t' cs,zB t t'->RD t' x.d cs->Q (.tup [.agg cs,.agg [.int .i64 0,.int .i64 0],.int .i64 0]) t'
  | .er e a b=>∀t',zB t t'->Q (.tup [.agg zE,.agg [.int .i64 (a:Int),.int .i64 (b:Int)],.int .i64 (e:Int)]) t'):Wc yA F 15 [.str s] t Q:=by
 refine w15 ?_
 unfold t15;refine tB ?_
 rw[q40];refine run40 hg hby ?_
 cases hr:sS gP s with
 | ok x=>
  rw[hr]at hQ;intro t' cs k1 k2;refine mA (v:=.agg cs) rfl (eC (wO k2) (mA (v:=.agg [.int .i64 0,.int .i64 0]) rfl (eC ag2 (mA (v:=.int .i64 0) rfl (oB ?_)))))
  show oA _ _ _ (.ite (cB zA.one (cE (cellsOf cs))) (.ite true (.ret (.tup [.agg (cE (cellsOf cs)),_,_])) .fail) .fail) _ _
  rw[Ft k2];refine pA (by obtain⟨a,b,c,rfl,_⟩:=pJ k2;exact k2.all) (pA rfl (hQ t' cs k1 k2))
 | er e a b=>
  rw[hr]at hQ;intro t' k1;exact mA (v:=.agg zE) rfl (eC rt50.ag (mA (v:=.agg [.int .i64 (a:Int),.int .i64 (b:Int)]) rfl (eC ag2 (mA (v:=.int .i64 (e:Int)) rfl (oB (pA rfl (pA rfl (hQ t' k1))))))))
end
end Go.Proofs
namespace Go.Proofs
open Go Go.Am
section
variable {k ln cl:Nat}{op:Option (Nat × Nat)}{r:List Nat}
theorem Ff:yG (k+1) (32::r) ln cl op=yG k r ln (cl+1) op:=by
 rw[yG,yaa (by decide),yab (.inl rfl)]
theorem go_end:yG (k+1) [] ln cl op=LR.close op (.ok []):=rfl
theorem Xj{b:Nat}{kd:Nat}{w:List Nat}(h1:b≠10)(h2:b≠32)(h3:b≠9)(h4:b≠35)(ht:iH (b::r)=.tok kd w) :
  yG (k+1) (b::r) ln cl op=LR.cons ⟨kd,w,ln,cl⟩ (yG k ((b::r).drop w.length) ln (cl+w.length) (some (ln,cl+w.length))):=by
 rw[yG,yaa h1,yaa (by omega),yaa h4,ht]
theorem let_ne{b:Nat}(h:gK b=true):b≠10/\b≠32/\b≠9/\b≠35/\b≠45/\b≠47/\fD b=false/\b≠0:=by
 unfold gK at h;unfold fD;simp only[ycq,ybb,decide_eq_true_eq]at h;refine⟨by omega,by omega,by omega,by omega,by omega,by omega,?_,by omega⟩
 simp only[Bool.and_eq_false_iff,decide_eq_false_iff_not];omega
theorem zdu{b:Nat}(h:fD b=true):b≠10/\b≠32/\b≠9/\b≠35/\b≠45/\b≠47/\gK b=false:=by
 unfold fD at h;unfold gK;simp only[ybb,decide_eq_true_eq]at h;refine⟨by omega,by omega,by omega,by omega,by omega,by omega,?_⟩
 simp only[yal,Bool.and_eq_false_iff,decide_eq_false_iff_not];omega
theorem JY(a b:List Nat):(a++b).drop a.length=b:=by simp
theorem Kg{x:Nat}{w:List Nat}(hx:gK x=true)(hw:∀b∈x::w,aG b=true)(hl:(x::w).length<=24)(hr:∀b r',r=b::r'->aG b=false) :
  yG (k+1) (x::(w++r)) ln cl op=LR.cons ⟨1,x::w,ln,cl⟩ (yG k r ln (cl+(x::w).length) (some (ln,cl+(x::w).length))):=by
 obtain⟨h1,h2,h3,h4,_⟩:=let_ne hx
 have hrun:fE aG (x::(w++r))=x::w:=lZ (a:=x::w) hw hr
 have ht:iH (x::(w++r))=.tok 1 (x::w):=by
  unfold iH;simp only[hx,if_true,hrun];rw[yaa (by omega)]
 rw[Xj h1 h2 h3 h4 ht,<- List.cons_append,JY]
theorem zc8{c:Nat}(hs:Jw c=true):yG (k+1) (c::r) ln cl op=LR.cons ⟨4,[c],ln,cl⟩ (yG k r ln (cl+1) (some (ln,cl+1))):=by
 have hc:c=40\/c=41\/c=44\/c=43\/c=45\/c=42\/c=47\/c=60\/c=61:=by
  unfold Jw at hs;simpa using hs
 have h1:gK c=false:=by rcases hc with rfl | rfl | rfl | rfl | rfl | rfl | rfl | rfl | rfl<;>rfl
 have h2:fD c=false:=by rcases hc with rfl | rfl | rfl | rfl | rfl | rfl | rfl | rfl | rfl<;>rfl
 have ht:iH (c::r)=.tok 4 [c]:=by
  unfold iH;simp[h1,h2,hs]
 rw[Xj (by omega) (by omega) (by omega) (by omega) ht]
 rfl
theorem TA{s:List Nat}{i:Nat}(hi:i<10)(h:nN i (s.getD i 0)=false):cI s=false:=by
 cases hd:cI s with
 | false=>rfl
 | true=>
  unfold cI at hd;simp only[ybb]at hd;rw[ycb.1 hd.2 i (List.mem_range.2 hi)]at h
  cases h
theorem VD{ds:List Nat}(h0:ds≠[])(h:∀b∈ds,fD b=true):∃x r',ds=x::r'/\fD x=true:=by
 cases ds with
 | nil=>exact absurd rfl h0
 | cons x r'=>exact⟨x,r',rfl,h x yby⟩
theorem go_num{ds:List Nat}(h0:ds≠[])(hd:∀b∈ds,fD b=true)(hp:dO ds=false)(hl:ds.length<=200)(hdt:cI (ds++r)=false)(hr:∀b r',r=b::r'->aG b=false/\fD b=false/\b≠47) :
  yG (k+1) (ds++r) ln cl op=LR.cons ⟨2,ds,ln,cl⟩ (yG k r ln (cl+ds.length) (some (ln,cl+ds.length))):=by
 obtain⟨x,r',rfl,hx⟩:=VD h0 hd
 obtain⟨h1,h2,h3,h4,_,_,h7⟩:=zdu hx
 have hf:iD (x::r'++r)=x::r':=lZ hd fun b r2 e=>(hr b r2 e).2.1
 have hs:lF (x::r'++r)=[]:=by
  unfold lF;rw[hf,Xk,yaa];intro e
  cases r with
  | nil=>cases e
  | cons b r2=>cases e;exact(hr 47 r2 rfl).2.2 rfl
 have hn:oF (x::r'++r)=(x::r').length:=by unfold oF;rw[hs,hf,yab rfl]
 have hfo:bS (x::r'++r) (x::r').length=false:=by
  unfold bS;rw[Xk]
  cases r with
  | nil=>rfl
  | cons b r2=>exact(hr b r2 rfl).1
 have hb:fI (x::r'++r)=false:=by
  unfold fI;rw[hn,hf,hs,hfo,hp,decide_eq_false (by omega)];rfl
 have ht:iH (x::(r'++r))=.tok 2 (x::r'):=by
  have:iH (x::r'++r)=.tok 2 (x::r'):=by
   unfold iH;simp only[List.cons_append];rw[h7,hx,show cI (x::(r'++r))=false from hdt,show fI (x::(r'++r))=false from hb]
   simp only[ybq,if_false,if_true,yay];rw[show oF (x::(r'++r))=(x::r').length from hn,<- List.cons_append,Se]
  exact this
 rw[List.cons_append,Xj h1 h2 h3 h4 ht,<- List.cons_append,JY]
end
end Go.Proofs
namespace Go.Proofs
open Go Go.Am
variable [jC]
theorem Qq{r:List Nat}:∀b r',(32::r:List Nat)=b::r'->aG b=false/\fD b=false/\b≠47:=fun b r' e=>by cases e;exact⟨rfl,rfl,by decide⟩
theorem nil_no:∀(b:Nat) (r':List Nat),([]:List Nat)=b::r'->aG b=false:=fun b r' e=>by cases e
theorem eqS{a b:List Nat}(h:a=b):bC a b=true:=(bN a b).2 h
theorem neS{a b:List Nat}(h:a≠b):bC a b=false:=by
 cases hx:bC a b with
 | false=>rfl
 | true=>exact absurd ((bN a b).1 hx) h
end Go.Proofs
