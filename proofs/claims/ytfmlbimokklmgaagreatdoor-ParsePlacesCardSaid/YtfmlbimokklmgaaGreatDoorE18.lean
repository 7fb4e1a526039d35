/- The calendar: a date's text as a day. -/
import Derived.Test.YtfmlbimokklmgaaGreatDoorE17
set_option linter.all false
noncomputable section
set_option maxRecDepth 100000
namespace Go.Proofs
open Go Go.Am
variable {a b i m y:Nat}{s:List Nat}
variable [gC]
section
variable {t:Tr vA}{Q:pB}
def zib(y:Nat):sC yA F 152 [.int .i64 (y:Int)] t=some (.bool (Lk y)):=by
 have e:∀k:Nat,Int.tmod (y:Int) (k:Int)=((y%k:Nat):Int):=fun k=>by rw[Int.tmod_eq_emod_of_nonneg (by omega)];omega
 refine dD.2 (w152 ?_)
 unfold t152 sI tC;rw[show(4:Int)=((4:Nat):Int) from rfl,show(100:Int)=((100:Nat):Int) from rfl,show(400:Int)=((400:Nat):Int) from rfl,e,e,e]
 unfold Lk;by_cases h4:y%4=0
 ·refine sA (by rw[aE];exact decide_eq_true (by omega)) ?_
  by_cases h1:y%100=0
  ·refine tB (by rw[aE];simp;omega) ⟨?_,rfl⟩
   rw[aE];congr 1
   by_cases h5:y%400=0
   ·simp[h4,h1,h5]
   ·simp[h4,h1,h5];omega
  ·refine sA (by rw[aE];simp;omega) ⟨?_,rfl⟩
   simp[h4,h1]
 ·refine tB (by rw[aE];simp;omega) ⟨?_,rfl⟩
  simp[h4]
def HE (h:y<1000000):sC yA F 153 [.int .i64 (y:Int)] t=some (.int .i64 (mQ y:Int)):=by
 have e:∀k:Nat,Int.tdiv (y:Int) (k:Int)=((y / k:Nat):Int):=fun k=>by rw[Int.tdiv_eq_ediv_of_nonneg (by omega)];omega
 refine dD.2 (w153 ?_)
 unfold t153 uW;rw[show(4:Int)=((4:Nat):Int) from rfl,show(100:Int)=((100:Nat):Int) from rfl,show(400:Int)=((400:Nat):Int) from rfl,e,e,e]
 have h1:y / 100<=y / 4:=Nat.div_le_div_left (by omega) (by omega)
 have h2:y / 4<=y:=Nat.div_le_self _ _
 have h3:y / 400<=y:=Nat.div_le_self _ _
 simp (disch:=omega) only[iC]
 refine⟨?_,rfl⟩
 unfold mQ;congr 1
 omega
def zia(hg:kK t) (hi:i<12):wC yA 219 (.ptr 2 0) (.int .i64 (i:Int))=some (.ptr 2 (0+i))/\lA yA 3 ⟨0,t⟩ (.ptr 2 (0+i))=some (.int .i64 ((Li.getD i 0:Nat):Int)):=by
 refine⟨?_,hg.2.2.load1 nO rfl ?_⟩
 ·unfold wC
  rw[ty219,rA];have e:(zA.int .i64 (i:Int)).asNat=some i:=rfl
  rw[e,rA];simp only[zA.asSlice,zA.asPtr,nE.asArr,rA];rw[nO,rA,pC.2 hi,sE,Nat.mul_one]
 ·have:Li[i]?=some (Li.getD i 0):=by
   rw[List.getD_eq_getElem?_getD,ybd (by show i<12;exact hi)];rfl
  rw[ybu,this];rfl
def zer(hg:kK t)(y m:Nat)(hm:m<1000000):sC yA F 136 [.int .i64 (y:Int),.int .i64 (m:Int)] t=some (.int .i64 (eO y m:Int)):=by
 refine dD.2 (w136 ?_)
 unfold t136 uB;by_cases h1:m<1
 ·refine sA (by rw[mC];exact decide_eq_true (by omega)) ⟨?_,rfl⟩
  unfold eO;rw[yab (.inl h1)];rfl
 refine tB (by rw[mC];simp;omega) ?_
 by_cases h2:12<m
 ·refine sA (by rw[mC];exact decide_eq_true (by omega)) ⟨?_,rfl⟩
  unfold eO;rw[yab (.inr h2)];rfl
 refine tB (by rw[mC];simp;omega) ?_
 have tail:¬ (m=2/\Lk y=true)->wp 136 (uQ13 (m:Int)) t fun v' t'=>v'=.int .i64 (eO y m:Int)/\t'=t:=by
  intro hn;unfold uQ13 uI;have e:uW ((m:Int)-1)=((m-1:Nat):Int):=by
   show iA .i64 ((m:Int)-1)=_
   rw[iC (by omega) (by omega)];omega
  obtain⟨k1,k2⟩:=zia hg (i:=m-1) (by omega)
  rw[e];refine oA k1 (vC k2 (sB ⟨?_,rfl⟩))
  unfold eO;rw[yaa (by omega),yaa hn]
 by_cases h3:m=2
 ·refine sA (by rw[aE];exact decide_eq_true (by omega)) (yB ?_)
  rw[q152,zib,qA];refine pD ?_
  cases hl:Lk y with
  | true=>
   refine sA rfl ⟨?_,rfl⟩
   unfold eO;rw[yaa (by omega),yab ⟨h3,hl⟩];rfl
  | false=>exact tB (by simp) (tail (by rw[hl];simp))
 ·exact tB (by rw[aE];simp;omega) (tail fun h=>h3 h.1)
def Xr(y m:Nat):eO y m<=31:=by
 unfold eO;split
 ·omega
 split
 ·omega
 ·rename_i h1 _
  have:m-1<12:=by omega
  generalize m-1=k at this
  match k,this with
  | 0,_ | 1,_ | 2,_ | 3,_ | 4,_ | 5,_ | 6,_ | 7,_ | 8,_ | 9,_ | 10,_ | 11,_=>decide
def CP(y:Nat):∀k,Gg y k<=31*k:=by
 intro k;induction k with
 | zero=>exact ybk _
 | succ k ih=>unfold Gg;have:=Xr y (k+1);omega
def HF(y:Nat):mQ y<=y+y:=by unfold mQ;omega
def UN (h:a<=b)(hb:b<10000):mQ a<=mQ b:=by unfold mQ;omega
def Vg(hg:kK t) (hm:m<50000):sC yA F 137 [.int .i64 (m:Int)] t=some (.int .i64 (tQ m:Int)):=by
 have ed:Int.tdiv (m:Int) 12=((m / 12:Nat):Int):=by rw[Int.tdiv_eq_ediv_of_nonneg (by omega)];omega
 have em:Int.tmod (m:Int) 12=((m%12:Nat):Int):=by rw[Int.tmod_eq_emod_of_nonneg (by omega)];omega
 refine dD.2 (w137 ?_)
 unfold t137 uI uW;rw[ed];have hq:m / 12<5000:=by omega
 have e1:iA .i64 (iA .i64 (1900+iA .i64 ((m / 12:Nat):Int))-1)=((1899+m / 12:Nat):Int):=by
  simp (disch:=omega) only[iC];omega
 have e2:iA .i64 (1900+iA .i64 ((m / 12:Nat):Int))=((1900+m / 12:Nat):Int):=by
  simp (disch:=omega) only[iC];omega
 have hl1:=HF (1899+m / 12)
 have hl2:=UN (a:=1899) (b:=1899+m / 12) (by omega) (by omega)
 refine yB ?_
 rw[e1,q153,HE (by omega),qA]
 refine sB (yB ?_)
 rw[q153,show(1899:Int)=((1899:Nat):Int) from rfl,HE (by omega),qA,e2]
 refine sB (kC ?_)
 have e3:iA .i64 (iA .i64 (iA .i64 (365*iA .i64 (((1900+m / 12:Nat):Int)-1900))+(mQ (1899+m / 12):Int))-(mQ 1899:Int))=((365*(m / 12)+mQ (1899+m / 12)-mQ 1899:Nat):Int):=by
  simp (disch:=omega) only[iC];omega
 rw[e3];have loop:∀(k i a:Nat),i+k=m%12->a=365*(m / 12)+mQ (1899+m / 12)-mQ 1899+Gg (1900+m / 12) i->jp 137 2 [.int .i64 (m:Int),.int .i64 ((1900+m / 12:Nat):Int),.int .i64 (a:Int),.int .i64 ((i+1:Nat):Int)] t fun v' t'=>v'=.int .i64 (tQ m:Int)/\t'=t:=by
  intro k;induction k with
  | zero=>
   intro i a hi ha;refine zff ?_
   unfold Us;rw[em];refine tB (by rw[zS];simp;omega) ⟨?_,rfl⟩
   subst ha;unfold tQ;rw[show i=m%12 by omega]
  | succ k ih=>
   intro i a hi ha;have hs:=CP (1900+m / 12) i
   have hle:=Xr (1900+m / 12) (i+1)
   refine zff ?_
   unfold Us uI;rw[em];refine sA (by rw[zS];exact decide_eq_true (by omega)) (yB ?_)
   rw[q136];show vE (sC yA F 136 [.int .i64 ((1900+m / 12:Nat):Int),.int .i64 ((i+1:Nat):Int)] t) _
   rw[zer hg _ _ (by omega),qA]
   refine sB (kC ?_)
   have e4:wD ((i+1:Nat):Int)=.int .i64 ((i+1+1:Nat):Int):=by
    show zA.int .i64 (iA .i64 (((i+1:Nat):Int)+1))=_
    rw[iC (by omega) (by omega)];rfl
   have e5:uW ((a:Int)+(eO (1900+m / 12) (i+1):Int))=((a+eO (1900+m / 12) (i+1):Nat):Int):=by
    show iA .i64 _=_
    rw[iC (by omega) (by omega)];omega
   rw[e4,e5];exact ih (i+1) _ (by omega) (by show a+eO (1900+m / 12) (i+1)=_+(Gg (1900+m / 12) i+eO (1900+m / 12) (i+1));omega)
 exact loop (m%12) 0 _ (by omega) rfl
def day_ok(hg:kK t){d:Nat}(hy:y<10000)(hm:m<1000)(hd:d<1000):sC yA F 119 [.int .i64 (y:Int),.int .i64 (m:Int),.int .i64 (d:Int)] t=some (.tup [.int .i64 (((Ff y m d).getD 0:Nat):Int),.int .i64 (if (Ff y m d).isSome then 0 else 2)]):=by
 refine dD.2 (w119 ?_)
 unfold t119 uI uB;have bad:∀h:y<1900\/2079<y\/d<1\/eO y m<d,Ff y m d=none:=fun h=>by unfold Ff;rw[yab h]
 by_cases h1:y<1900
 ·rw[bad (.inl h1)]
  exact sA (by rw[mC];exact decide_eq_true (by omega)) ⟨rfl,rfl⟩
 refine tB (by rw[mC];simp;omega) ?_
 by_cases h2:2079<y
 ·rw[bad (.inr (.inl h2))]
  exact sA (by rw[mC];exact decide_eq_true (by omega)) ⟨rfl,rfl⟩
 refine tB (by rw[mC];simp;omega) ?_
 by_cases h3:d<1
 ·rw[bad (.inr (.inr (.inl h3)))]
  exact sA (by rw[mC];exact decide_eq_true (by omega)) ⟨rfl,rfl⟩
 refine tB (by rw[mC];simp;omega) (yB ?_)
 rw[q136];show vE (sC yA F 136 [.int .i64 (y:Int),.int .i64 (m:Int)] t) _
 rw[zer hg _ _ (by omega),qA]
 refine sB ?_
 by_cases h4:eO y m<d
 ·rw[bad (.inr (.inr (.inr h4)))]
  exact sA (by rw[mC];exact decide_eq_true (by omega)) ⟨rfl,rfl⟩
 refine tB (by rw[mC];simp;omega) (yB ?_)
 have hm1:1<=m:=by
  rcases yau m 1 with h | h
  ·exfalso;apply h4;unfold eO;rw[yab (.inl h)];omega
  ·exact h
 have hs31:=Xr y m
 have e1:uW (uW (uW (12*uW ((y:Int)-1900))+(m:Int))-1)=((12*(y-1900)+m-1:Nat):Int):=by
  unfold uW;simp (disch:=omega) only[iC];omega
 rw[q137];show vE (sC yA F 137 [.int .i64 (uW (uW (uW (12*uW ((y:Int)-1900))+(m:Int))-1))] t) _
 rw[e1,Vg hg (by omega),qA]
 refine sB (yB ?_)
 have hst:tQ (12*(y-1900)+m-1)<1000000:=by
  unfold tQ;have:=CP (1900+(12*(y-1900)+m-1) / 12) ((12*(y-1900)+m-1)%12)
  have:=HF (1899+(12*(y-1900)+m-1) / 12)
  omega
 have e2:uW (uW ((tQ (12*(y-1900)+m-1):Int)+(d:Int))-1)=((tQ (12*(y-1900)+m-1)+d-1:Nat):Int):=by
  unfold uW;simp (disch:=omega) only[iC];omega
 rw[e2];have hn:Ff y m d=if tQ (12*(y-1900)+m-1)+d-1<65536 then some (tQ (12*(y-1900)+m-1)+d-1)else none:=by
  unfold Ff;rw[yaa (by omega)]
 have hisd:sC yA F 138 [.int .i64 ((tQ (12*(y-1900)+m-1)+d-1:Nat):Int)] t=some (.bool (decide (tQ (12*(y-1900)+m-1)+d-1<65536))):=by
  refine dD.2 (w138 ?_)
  unfold t138;generalize tQ (12*(y-1900)+m-1)+d-1=z
  refine sA (by rw[zS];exact decide_eq_true (by omega)) ⟨?_,rfl⟩
  have hz:cB (z:Int) 65536=decide (z<65536):=by
   rw[mC];exact decide_eq_decide.2 (by omega)
  rw[hz]
 rw[q138,hisd,qA,hn];refine pD ?_
 by_cases h5:tQ (12*(y-1900)+m-1)+d-1<65536
 ·rw[yab h5,decide_eq_true h5]
  exact tB (by simp) ⟨rfl,rfl⟩
 ·rw[yaa h5,decide_eq_false h5]
  exact sA rfl ⟨rfl,rfl⟩
def TE{ls:List (List Nat)}{v:zA}(hv:bA t 1 (ls.map D.str) v)(hl:ls.length<100)(hd:∀s∈ls,s.length<=9/\∀b∈s,nD b=true)(hQ:∀t' b,aA t t'->wG t' b .i64 (ls.map rD)->Q (.tup [.slice b 0 ls.length ls.length,.bool true]) t'):Wc yA F 118 [v] t Q:=by
 have hlen:=hv.len
 rw[ybf]at hlen;refine w118 ?_
 unfold t118 uI;refine oA hlen (sB (jC fun b hb hbase=>?_))
 obtain⟨t1,e1,e2,e3,e4⟩:=Ek (C:=yA) (T:=94) (k:=.i64) (n:=ls.length) ty94 rfl nO rfl rfl (by decide) (by omega) hb
 refine⟨_,_,e1,oA hlen (sB (kC ?_))⟩
 have loop:∀(k i:Nat) (row:List Nat) (t1:Tr vA),i+k=ls.length->row=(ls.take i).map rD++List.replicate k 0->aA t t1->wG t1 b .i64 row->jp 118 2 [.slice b 0 ls.length ls.length,v,.int .i64 (ls.length:Int),.int .i64 (i:Int)] t1 Q:=by
  intro k;induction k with
  | zero=>
   intro i row t1 hi hr hle ho;refine zfi ?_
   unfold Uv;refine tB (by rw[mC];simp;omega) ?_
   rw[show i=ls.length by omega,List.take_length,List.replicate_zero,ycd]at hr;subst hr;exact hQ t1 b hle ho
  | succ k ih=>
   intro i row t1 hi hr hle ho;refine zfi ?_
   unfold Uv uS;have hx:ls[i]?=some ls[i]:=ybd (by omega)
   have hxd:(ls.map D.str)[i]?=some (D.str ls[i]):=by rw[ybu,hx];rfl
   obtain⟨b',o',cs,h1,h2,_,_,h3⟩:=sl93.at (fun _=>rfl) (hv.mono hle) hxd
   have e:=mK.1 h3
   subst e;refine sA (by rw[mC];exact decide_eq_true (by omega)) (oA h1 (vC h2 (lF (kC ?_))))
   have ll:(Int.ofNat (zB ls[i]))=(ls[i].length:Int):=by rw[oD];rfl
   rw[ll];obtain⟨hs9,hsd⟩:=hd ls[i] (ycj _)
   have inner:∀(q j:Nat) (t2:Tr vA),j+q=ls[i].length->aA t t2->wG t2 b .i64 ((ls.take i).map rD++rD (ls[i].take j)::List.replicate k 0)->jp 118 6 [.slice b 0 ls.length ls.length,.int .i64 (i:Int),.str ls[i],v,.int .i64 (ls.length:Int),.int .i64 (i:Int),.int .i64 (ls[i].length:Int),.int .i64 (j:Int)] t2 Q:=by
    intro q;induction q with
    | zero=>
     intro j t2 hj hle2 ho2;refine zfh ?_
     unfold Uu;refine tB (by rw[mC];simp;omega) (kC ?_)
     have e4:wD (i:Int)=.int .i64 ((i+1:Nat):Int):=by
      show zA.int .i64 (iA .i64 ((i:Int)+1))=_
      rw[iC (by omega) (by omega)];rfl
     rw[e4];refine ih (i+1) _ t2 (by omega) ?_ hle2 ho2
     have htk:ls.take (i+1)=ls.take i++[ls[i]]:=by rw[ydg,hx];rfl
     rw[htk,List.map_append,show j=ls[i].length by omega,List.take_length];simp
    | succ q ih2=>
     intro j t2 hj hle2 ho2;have hy:ls[i][j]?=some ls[i][j]:=ybd (by omega)
     have hyd:48<=ls[i][j]/\ls[i][j]<=57:=by have:=hsd ls[i][j] (ycj _);unfold nD at this;simpa using this
     refine zfh ?_
     unfold Uu uU uI;have hla:((ls.take i).map rD).length=i:=by simp;omega
     have hget:((ls.take i).map rD++rD (ls[i].take j)::List.replicate k 0)[i]?=some (rD (ls[i].take j)):=by
      rw[ybp (by omega),hla,Nat.sub_self];rfl
     have ia:=Av (C:=yA) (b:=b) sl94 (off:=0) (n:=ls.length) (cap:=ls.length) (i:=i) (by omega)
     rw[ybw,Nat.mul_one]at ia;have hb9:rD (ls[i].take j)<1000000000:=by
      have h1:=Fe (s:=ls[i].take j) fun x hx=>hsd x (List.mem_of_mem_take hx)
      have h2:10^(ls[i].take j).length<=10^9:=yao (by omega) (by rw[yda];omega)
      have:(10:Nat)^9=1000000000:=by decide
      omega
     refine sA (by rw[mC];exact decide_eq_true (by omega)) (oA (kM hy) (sB (tB (by rw[mC];simp;omega) (oA (kM hy) (sB (tB (by rw[mC];simp;omega) (oA ia (vC (ho2.load hget nO rfl) (sB (oA (kM hy) (sB (oA ia (jC fun n _ _=>?_)))))))))))))
     have ev:uW (uW (10*((rD (ls[i].take j):Nat):Int))+uW (iA .u8 ((ls[i][j]:Int)-48)))=((rD (ls[i].take (j+1)):Nat):Int):=by
      unfold uW;rw[Nq (by omega) (by omega),vQ hy,Zr]
      simp (disch:=omega) only[iC]
      omega
     obtain⟨t3,g1,g2,g3⟩:=ho2.store hbase (j:=i) (by simp;omega) (rD (ls[i].take (j+1))) nO rfl
     rw[ev];refine⟨_,_,g1 n,kC ?_⟩
     have e4:wD (j:Int)=.int .i64 ((j+1:Nat):Int):=by
      show zA.int .i64 (iA .i64 ((j:Int)+1))=_
      rw[iC (by omega) (by omega)];rfl
     rw[e4];refine ih2 (j+1) t3 (by omega) (hle2.off hb g3) ?_
     have:((ls.take i).map rD++rD (ls[i].take j)::List.replicate k 0).set i (rD (ls[i].take (j+1)))=(ls.take i).map rD++rD (ls[i].take (j+1))::List.replicate k 0:=DH hla
     rw[this]at g2;exact g2
   refine inner ls[i].length 0 t1 (by omega) hle ?_
   rw[hr,List.replicate_succ]at ho;exact ho
 refine loop ls.length 0 _ t1 (by omega) ?_ e3 e2
 simp
def QB  (h:a<=b)(hb:b<=s.length):uF yA 9 dM (.str s) (some (.int .i64 (a:Int))) (some (.int .i64 (b:Int)))=some (.str ((s.take b).drop a)):=by
 unfold uF iN;rw[kN,rA];simp only[zA.asStr];rw[show nE.isString .string=true from rfl,sE];unfold Jy dQ Aj mW;have e:∀n:Nat,zN (n:Int)=some n:=fun _=>rfl
 simp only[rA,zA.asNat,zA.asInt,e,oD,qE.2 hb,qE.2 h,sE,eR,lQ]
def Zs (h:zH s=true) (hi:i<10):∃b,s[i]?=some b/\pK i b=true:=by
 unfold zH at h;simp only[ybb,decide_eq_true_eq,ycb,List.mem_range]at h;have h1:=h.2 i hi
 refine⟨s[i]'(by omega),ybd (by omega),?_⟩
 rw[List.getD_eq_getElem?_getD,ybd (by omega)]at h1
 exact h1
def Zt (h:zH s=true) (hb:b<=10)(h4:¬ (a<=4/\4<b))(h7:¬ (a<=7/\7<b)):∀x∈(s.take b).drop a,nD x=true:=by
 intro x hx;obtain⟨j,hj⟩:=List.getElem?_of_mem hx
 rw[yde,ydf]at hj;split at hj
 ·rename_i hlt
  obtain⟨y,h1,h2⟩:=Zs h (i:=a+j) (by omega)
  rw[h1]at hj
  cases hj;unfold pK at h2;rw[yaa (by omega)]at h2
  exact h2
 ·cases hj
def LA(hg:kK t) (hs:s.length=10)(hd:zH s=true):sC yA F 97 [.str s] t=some (.tup [.int .i64 (((Ae s).getD 0:Nat):Int),.int .i64 (if (Ae s).isSome then 0 else 2)]):=by
 refine Bi (w97 ?_)
 unfold t97 uU uS uB uI;have ll:(Int.ofNat (zB s))=10:=by rw[oD,hs];rfl
 rw[ll];obtain⟨x4,g4,k4⟩:=Zs hd (i:=4) (by omega)
 obtain⟨x7,g7,k7⟩:=Zs hd (i:=7) (by omega)
 have k4:x4=45:=by simpa[pK]using k4
 have k7:x7=45:=by simpa[pK]using k7
 subst k4 k7
 have i4:=kM g4
 have i7:=kM g7
 have s0:=Dq (s:=s) (k:=4) (by omega)
 have s5:=QB (s:=s) (a:=5) (b:=7) (by omega) (by omega)
 have s8:=Oq (s:=s) (k:=8) (by omega)
 refine tB (by decide) (oA i4 (sB (tB (by decide) (oA i7 (sB (tB (by decide) (oA s0 (lF (oA s5 (lF (oA s8 (lF (jC fun b hb hbase=>?_)))))))))))))
 obtain⟨t1,g1,g2,g3,g5⟩:=Em (C:=yA) (T:=93) (el:=9) (sz:=1) (n:=3) (cl:=[[.str (s.take 4)],[.str ((s.take 7).drop 5)],[.str (s.drop 8)]]) (ps:=[(0,.str (s.take 4)),(1,.str ((s.take 7).drop 5)),(2,.str (s.drop 8))]) ty93 rfl kN rfl rfl (by decide) rfl (fun i cs hi=>by
  match i,hi with
  | 0,hi=>cases hi;rfl
  | 1,hi=>cases hi;rfl
  | 2,hi=>cases hi;rfl) rfl hb
 have hr:bA t1 1 ([s.take 4,(s.take 7).drop 5,s.drop 8].map D.str) (.slice b 0 3 3):=⟨_,g2,yD.2 ⟨_,_,rfl,mK.2 rfl,yD.2 ⟨_,_,rfl,mK.2 rfl,yD.2 ⟨_,_,rfl,mK.2 rfl,sF.2 rfl⟩⟩⟩⟩
 have d1:∀x∈s.take 4,nD x=true:=by
  have:=Zt hd (a:=0) (b:=4) (by omega) (by omega) (by omega)
  simpa using this
 have d2:∀x∈(s.take 7).drop 5,nD x=true:=Zt hd (by omega) (by omega) (by omega)
 have d3:∀x∈s.drop 8,nD x=true:=by
  have:=Zt hd (a:=8) (b:=10) (by omega) (by omega) (by omega)
  rwa [yca (by omega)]at this
 refine⟨_,_,g1,yB ?_⟩
 rw[q118];refine TE hr (by simp) (fun x hx=>?_) fun t2 b2 h1 h2=>?_
 ·simp only[ybs,List.mem_nil_iff,or_false]at hx
  rcases hx with rfl | rfl | rfl
  ·exact⟨by simp;omega,d1⟩
  ·exact⟨by simp;omega,d2⟩
  ·exact⟨by simp;omega,d3⟩
 have ia:∀i:Nat,i<3->wC yA 94 (.slice b2 0 3 3) (.int .i64 (i:Int))=some (.ptr b2 i):=fun i hi=>by
  have:=Av (C:=yA) (b:=b2) sl94 (off:=0) (n:=3) (cap:=3) (i:=i) hi
  rwa [ybw,Nat.mul_one]at this
 have l0:=h2.load (j:=0) rfl nO rfl (C:=yA)
 have l1:=h2.load (j:=1) rfl nO rfl (C:=yA)
 have l2:=h2.load (j:=2) rfl nO rfl (C:=yA)
 refine oA rfl (oA rfl (pD (tB (by simp) (oA (ia 0 (by omega)) (vC l0 (sB (oA (ia 1 (by omega)) (vC l1 (sB (oA (ia 2 (by omega)) (vC l2 (sB (yB ?_)))))))))))))
 have b1:=Fe d1
 have b2':=Fe d2
 have b3:=Fe d3
 have n1:(s.take 4).length=4:=by simp;omega
 have n2:((s.take 7).drop 5).length=2:=by simp;omega
 have n3:(s.drop 8).length=2:=by simp;omega
 rw[n1]at b1;rw[n2]at b2'
 rw[n3]at b3;have hle:=g3.trans h1
 rw[q119];show vE (sC yA F 119 [.int .i64 ((rD (s.take 4):Nat):Int),.int .i64 ((rD ((s.take 7).drop 5):Nat):Int),.int .i64 ((rD (s.drop 8):Nat):Int)] t2) _
 rw[day_ok (hg.mono hle) (by omega) (by omega) (by omega),qA]
 exact oA rfl (sB (oA rfl (sB ⟨rfl,hle⟩)))
def Bu:Cv where
 frac:=fun {s neg tf t L Q} h ho hQ=>Wc.objs (R:=fun v tf'=>∃cs,v=.agg cs/\RD tf' (tI s neg).dd cs) (fracPv h fun t' cs h1 h2=>⟨h1,cs,rfl,h2⟩) ho fun v tf' t' h1 h2 ⟨cs,h3,h4⟩=>by subst h3;exact hQ tf' t' cs h1 h2 h4
 int:=fun h1 h2 h3 h4=>intPv h1 h2 h3 h4
 date:=fun hg ⟨h1,h2,n,h3⟩=>by rw[LA hg h1 h2,h3];rfl
end
end Go.Proofs
namespace Go.Am
open Go Go.RowKit
variable {args vals:List zA}{E:pB}{base:Nat}{J:eE}{X:Xt}{tm:Tm}{HA:xA}{p:PI}
structure Iv (C:mA) (F:Tr bD) (f:Nat) (fn:Func) (kf:Nat) (A:bD) (l:List oC) (q:zQ) (fc:Func) (kc:Nat) (Ac:bD) (qc:ClQ):Prop where
 isF:F.get f=some A
 isFn:C.fns.get f=some fn
 isK:C.ks.get f=some kf
 prim:C.prims.get f=none
 lt:Nat.blt f yo=true
 body:tE fn.body=false
 split:rV A.code=some (l,q)
 isC:F.get q.cl=some Ac
 isFc:C.fns.get q.cl=some fc
 isKc:C.ks.get q.cl=some kc
 primC:C.prims.get q.cl=none
 bodyC:tE fc.body=false
 clo:Fh Ac.code=some qc
 ok:(Mt fn.results.toList q.o6.toList&&(Nat.ble kf q.d&&Nat.blt q.d fn.ntmps))=true
 okC:(Nat.ble (zB q.bs) kc&&Nat.ble (zB q.bs) fc.ntmps)=true
 okD:Nat.blt qc.d fc.ntmps=true
 rng:rK (mX l)=[]
 rngC:rK qc.c=[]
def defB (C:mA)(F:Tr bD)(f:Nat)(fn:Func)(kf:Nat)(A:bD)(l:List oC)(q:zQ)(fc:Func)(kc:Nat)(Ac:bD)(qc:ClQ):Bool:=
 tE (C.prims.get f)&&Nat.blt f yo && !tE fn.body&&tE (C.prims.get q.cl) && !tE fc.body&&(Mt fn.results.toList q.o6.toList&&(Nat.ble kf q.d&&Nat.blt q.d fn.ntmps)) &&
  (Nat.ble (zB q.bs) kc&&Nat.ble (zB q.bs) fc.ntmps)&&Nat.blt qc.d fc.ntmps&&(match rK (mX l)with | []=>true | _=>false)&&(match rK qc.c with | []=>true | _=>false)
section
variable {C:mA}{F:Tr bD}{f:Nat}{fn fc:Func}{kf kc:Nat}{A Ac:bD}{l:List oC}{q:zQ}{qc:ClQ}{pure pan:Nat->Bool}{t:Tr vA}{Q:pB}
def Iv.of(h1:F.get f=some A)(h2:C.fns.get f=some fn)(h3:C.ks.get f=some kf)(h4:rV A.code=some (l,q))(h5:F.get q.cl=some Ac)(h6:C.fns.get q.cl=some fc)(h7:C.ks.get q.cl=some kc)(h8:Fh Ac.code=some qc)(h:defB C F f fn kf A l q fc kc Ac qc=true):Iv C F f fn kf A l q fc kc Ac qc:=by
 unfold defB at h;simp only[ybb]at h;obtain⟨⟨⟨⟨⟨⟨⟨⟨⟨g1,g2⟩,g3⟩,g4⟩,g5⟩,g6⟩,g7⟩,g8⟩,g9⟩,g10⟩:=h
 have nn:∀ {α:Type} {x:Option α},tE x=true->x=none:=fun {α} {x} h=>by cases x with | none=>rfl | some _=>cases h
 refine⟨h1,h2,h3,nn g1,g2,by simpa using g3,h4,h5,h6,h7,nn g4,by simpa using g5,h8,by simp only[ybb];exact g6,by simp only[ybb];exact g7,g8,?_,?_⟩
 ·split at g9
  ·assumption
  ·cases g9
 ·split at g10
  ·assumption
  ·cases g10
def LN(h:F.get f=some A):(rE F).get f=some A.code:=by unfold rE;rw[Tr.get_mapT,h];rfl
def KU {d:Bool}(h2:C.fns.get f=some fn)(h3:C.ks.get f=some kf)(hb:tE fn.body=false)(hl:(Nat.ble (zB args) kf&&Nat.ble (zB args) fn.ntmps)=true):∃g,zK C f args d=some g/\g.tm=⟨kf,Tr.ofList args,[]⟩:=by
 obtain⟨body,hb⟩:∃b,fn.body=some b:=by
  cases hx:fn.body with
  | none=>rw[hx]at hb;cases hb
  | some b=>exact⟨b,rfl⟩
 refine⟨_,by unfold zK;rw[h2,rA,hb,rA,h3,rA,hl];rfl,rfl⟩
theorem qN.nil{A:Tr oC} {c:oC}(h:rK c=[]):qN A E f c:=fun q hq=>by rw[h]at hq;cases hq
theorem oS.nil   {L:List PtD}(h:L=[]):oS base kf E J L:=fun d hd=>by rw[h]at hd;cases hd
def st_of    (ho:Ov base t X HA)(hk:tm.k=kf):mF base X kf (fun i=>i) X ⟨tm,[],.leaf,[]⟩ tm HA t:=
 ⟨ho,iI.refl _,hk,hk,fun _ _ h=>h,fun _ _ h=>(by cases h),fun d l h=>(by rw[show(Tr.leaf:Tr (List zA)).get d=none from Tr.get_leaf _]at h;cases h),fun d _ l _ h=>(by rw[show(Tr.leaf:Tr (List zA)).get d=none from Tr.get_leaf _]at h;cases h)⟩
def zjo(h:Iv C F f fn kf A l q fc kc Ac qc) {cells:List zA}{v:zA}{W:eE} (hW:yQ C (rE F) E W)(hY:Aq C (rE F) W)(hpts:∀ κ,fK C (cC C (rE F)) q.cl fc.ntmps qc.c κ=[]) (hl:zB cells=zB q.bs)
  (hv:Dd p ⟨clTm fc.ntmps qc ⟨kc,Tr.ofList cells,[]⟩ v,[],.leaf,[]⟩=some vals) {R:pB} (hw:pA C.base W J (dL C Ac.la q.cl fc.ntmps qc.c (Ba C fc) (cL kc p vals)) t R):∀X HA,Ov C.base t X HA->iB C.base X E R (tS C (rE F) (cC C (rE F)) q.cl cells v HA):=by
 intro X HA ho;obtain⟨g,h1,h2⟩:=KU (args:=cells) (d:=true) h.isFc h.isKc h.bodyC (by rw[hl];exact h.okC)
 unfold tS;refine iB.ob h.isFc (iB.ob (LN h.isC) (iB.ob h.clo ?_))
 have hg:(tE (C.prims.get q.cl)&&Nat.blt qc.d fc.ntmps)=true:=by rw[h.primC,h.okD];rfl
 rw[hg];show iB C.base X E R (ob (zK C q.cl cells true) _)
 refine iB.ob h1 ?_
 rw[h2];have hst:mF C.base X kc (fun i=>i) X ⟨clTm fc.ntmps qc ⟨kc,Tr.ofList cells,[]⟩ v,[],.leaf,[]⟩ (clTm fc.ntmps qc ⟨kc,Tr.ofList cells,[]⟩ v) HA t:=st_of ho (by unfold clTm;rw[Bj,Bj];rfl)
 exact Bb hW hY qc.c (Ba C fc) (mO C fc) (qN.nil h.rngC) (fun _=>Tn) (oS.nil (hpts _)) _ _ _ _ _ _ _ (hst.at hv) hw
def Nb(C:mA)(F:Tr bD)(pure pan:Nat->Bool)(f:Nat)(fn:Func)(kf:Nat)(A:bD)(q:zQ)(p:PI)(vals:List zA)(t:Tr vA)(Q:pB):Prop:=
 ∃cells,∃E:pB,aN q.bs (.now (cL kf p vals).tm.cut)=some cells/\(∀HA,tS C (rE F) (cC C (rE F)) q.cl cells .niliface HA=some (⟨.tup [],false⟩,HA)) ∧
  (∀v t',E v t'->∀X HA,Ov C.base t' X HA->iB C.base X fJ (fun _ t''=>pA C.base (Wq C F pure) (fun _ _ _ _=>False) (endT C fn (cL kf p vals).cut) t'' Q) (tS C (rE F) (cC C (rE F)) q.cl cells v HA)) ∧
  pA C.base (jE C F pure pan E) (fun _ _ _ _=>False) (dL C A.la f fn.ntmps (.region q.i6 q.o6 false) ⟨endT C fn,fun _ _=>.fail,fun _=>.fail⟩ (cL kf p vals)) t Q
def zgs(h:Iv C F f fn kf A l q fc kc Ac qc) (hp:p.ll=[]) (hpn:pure pn=false)(ht:Nb C F pure pan f fn kf A q p vals t Q){X0:Xt}  {ν:Nat->Nat}(hst:mF C.base X0 kf ν X (cL kf p vals) tm HA t) :
  iB C.base X0 fJ Q (uQ C (rE F) (cC C (rE F)) fn q tm HA):=by
 obtain⟨cells,E,h1,h2,h3,h4⟩:=ht
 have hend:∀tm' H',uM C (rE F) (cC C (rE F)) fn q.cl cells .niliface tm' H'=gU C fn tm' H':=by
  intro tm' H';unfold uM;rw[h2];rfl
 unfold uQ;rw[hst.kA,h.ok];show iB C.base X0 fJ Q (ob (aN q.bs (.now tm.cut)) _)
 refine iB.ob (Ze (Kz hst.cut).1 h1) ?_
 have hk:∀X0,SKt C (jE C F pure pan E) (fun _ _ _ _=>False) X0 kf E Q ⟨endT C fn,fun _ _=>.fail,fun _=>.fail⟩ ⟨fun tm' H'=>uM C (rE F) (cC C (rE F)) fn q.cl cells .niliface tm' H',fun _ _ _=>none,fun _ _=>none⟩:=by
  intro X0;refine⟨?_,fun _ _ _ _ _ _ _ _ h=>h.elim,fun _ _ _ _ _ _ _ h=>h.elim⟩
  intro st tm HA t X ν hst hw;simp only[hend];exact Mj st tm HA t X ν hst hw
 have hr:=Bb (AM hpn) AL (.region q.i6 q.o6 false) ⟨endT C fn,fun _ _=>.fail,fun _=>.fail⟩ ⟨fun tm' H'=>uM C (rE F) (cC C (rE F)) fn q.cl cells .niliface tm' H',fun _ _ _=>none,fun _ _=>none⟩ (qN.nil rfl) hk (oS.nil rfl) X0 _ _ _ _ _ _ hst h4
 obtain⟨o,t',HA',X',g1,g2,g3,g4⟩:=hr
 have g1:xM C (cC C (rE F)) q.o6 fn.ntmps (fun tm' H'=>uM C (rE F) (cC C (rE F)) fn q.cl cells .niliface tm' H') q.o6.toList tm.cut HA=some (o,HA'):=g1
 refine iB.ob g1 ?_
 cases ho:o.p with
 | false=>
  rw[ho,yaa (by simp)]at g4
  show iB C.base X0 fJ Q (some (o,HA'))
  exact⟨o,t',HA',X',rfl,g2,g3,by rw[ho,yaa (by simp)];exact g4⟩
 | true=>
  rw[ho,yab rfl]at g4;show iB C.base X0 fJ Q (uM C (rE F) (cC C (rE F)) fn q.cl cells o.v tm.cut HA')
  obtain⟨v,t'',HA'',X'',k1,k2,k3,k4⟩:=rQ.1 (h3 _ _ g4 _ _ g2)
  unfold uM;refine iB.ob k1 ?_
  show iB C.base X0 fJ Q (gU C fn tm.cut HA'')
  have hs:=hst.cut
  have hlo:∀d,(cL kf p vals).cut.lo.get d=none:=by
   intro d;show(sV p.ll (kQ vals (zB p.pl))).get d=none
   rw[hp];exact Tr.get_leaf _
  have hs2:mF C.base X0 kf ν X'' (cL kf p vals).cut tm.cut HA'' t'':=
   ⟨k2,g3.trans k3,hs.k,hs.kA,hs.tms,hs.ads,fun d l h=>(by rw[hlo]at h;cases h),fun d _ l _ h=>(by rw[hlo]at h;cases h)⟩
  exact Mj _ _ _ _ _ _ hs2 k4
def WcD_of(h:Iv C F f fn kf A l q fc kc Ac qc) (hp:p.ll=[])(hpn:pure pn=false) (hl:(Nat.ble (zB args) kf&&Nat.ble (zB args) fn.ntmps)=true)(hpts:∀ κ,fK C (cC C (rE F)) f fn.ntmps (mX l) κ=[])
  (hw:pA C.base (Wq C F pure) (fun i vals t Q=>i=p.id/\Nb C F pure pan f fn kf A q p vals t Q) (dL C A.la f fn.ntmps (mX l) ⟨iX p,fun _ _=>.fail,endT C fn⟩ ⟨⟨kf,Tr.ofList args,[]⟩,[],.leaf,[]⟩) t Q):Wc C F f args t Q:=by
 intro X HA ho;obtain⟨g,h1,h2⟩:=KU (args:=args) (d:=false) h.isFn h.isK h.body hl
 rw[Fi h.lt,h.prim];show iB C.base X fJ Q (cC C (rE F) (.func f) args HA)
 rw[Yu];show iB C.base X fJ Q (yS C (rE F) (cC C (rE F)) f args HA)
 unfold yS;refine iB.ob (LN h.isF) (iB.ob h.isFn (iB.ob h1 ?_))
 unfold lW;rw[h.split,h2];have hk:∀X0,SKt C (Wq C F pure) (fun i vals t Q=>i=p.id/\Nb C F pure pan f fn kf A q p vals t Q) X0 kf fJ Q ⟨iX p,fun _ _=>.fail,endT C fn⟩ (Bf C (rE F) (cC C (rE F)) fn q):=by
  intro X0;refine⟨fun st tm HA t X ν hst hw=>?_,fun _ _ _ _ _ _ _ _ h=>h.elim,Mj⟩
  unfold iX at hw;rw[mE]at hw;obtain⟨vals,k1,_,k2⟩:=hw
  exact zgs h hp hpn k2 (hst.at k1)
 exact Bb (Su hpn) Ss (mX l) _ _ (qN.nil h.rng) hk (oS.nil (hpts _)) _ _ _ _ _ _ _ (st_of ho rfl) hw
end
end Go.Am
namespace Go.Proofs
open Go Go.Am
variable {m:Tr vA}{Q:pB}
variable [gC]
def dq0:zQ:=⟨0,#[],0,0,[],0,#[]⟩
def cq0:ClQ:=⟨0,#[],0,0,.skip⟩
def pcs (f:Nat):List oC:=(gD ([],dq0) (rV (ao f).code)).1
def dqo (f:Nat):zQ:=(gD ([],dq0) (rV (ao f).code)).2
def cqo (f:Nat):ClQ:=gD cq0 (Fh (ao f).code)
def dB (f cl:Nat):Bool := !tE (F.get f) && !tE (fns.get f) && !tE (ks.get f) && !tE (rV (ao f).code) && !tE (F.get cl) && !tE (fns.get cl) && !tE (ks.get cl) && !tE (Fh (ao cl).code)&&Nat.beq (dqo f).cl cl&&defB yA F f (fo f) (ko f) (ao f) (pcs f) (dqo f) (fo cl) (ko cl) (ao cl) (cqo cl)
def dA(f cl:Nat)(h:dB f cl=true:=by kernel_rfl):Iv yA F f (fo f) (ko f) (ao f) (pcs f) (dqo f) (fo cl) (ko cl) (ao cl) (cqo cl):=by
 unfold dB at h;simp only[ybb]at h;obtain⟨⟨⟨⟨⟨⟨⟨⟨⟨h1,h2⟩,h3⟩,h4⟩,h5⟩,h6⟩,h7⟩,h8⟩,h9⟩,h10⟩:=h
 have e:=lC.1 h9
 exact .of (gO h1) (gO h2) (gO h3) (gO h4) (by rw[e];exact gO h5) (by rw[e];exact gO h6) (by rw[e];exact gO h7) (gO h8) h10
abbrev noJ:eE:=fun _ _ _ _=>False
abbrev pR:PI:=⟨11,[1,4,5,6,8],[]⟩
abbrev pS:PI:=⟨3,[0,1,2,3],[]⟩
def t28 (p0:List Nat)(p1:zA):T:=
 .heavy (tK yA 27) fun a0=>
 .heavy (tK yA 29) fun a1=>
 .heavy (tK yA 30) fun a2=>
 .call 22 [(.str p0)] fun a3=>
 .opt (dG 0 a3) fun a4=>.opt (dG 1 a3) fun a5=>.asG [(.int .i64 0),(.int .i64 0)] a5 fun X6=>
 .opt (dG 2 a3) fun a7=>.asI .i64 a7 fun n8=>.heavy (zC yA 29 a1 (.agg [(.int .i64 (X6.i 0)),(.int .i64 (X6.i 1))])) fun _=>
 .heavy (zC yA 30 a2 (.int .i64 n8)) fun _=>
 .light (fun m=>lA yA 30 ⟨0,m⟩ a2) fun a9=>.asI .i64 a9 fun n10=>.ite (!oB n10 0)
 (.light (fun m=>lA yA 27 ⟨0,m⟩ a0) fun a11=>.asG [(.str []),.nilslice,.nilslice,.nilslice] a11 fun X12=>
 .light (fun m=>lA yA 29 ⟨0,m⟩ a1) fun a13=>.asG [(.int .i64 0),(.int .i64 0)] a13 fun X14=>
 .light (fun m=>lA yA 30 ⟨0,m⟩ a2) fun a15=>.asI .i64 a15 fun n16=>.heavy (zC yA 27 a0 (.agg [(.str (X12.s 0)),(X12.v 1),(X12.v 2),(X12.v 3)])) fun _=>
 .light (fun m=>lA yA 29 ⟨0,m⟩ a1) fun a17=>.ite (same 10 a17 (.agg [(.int .i64 (X14.i 0)),(.int .i64 (X14.i 1))])) (.light (fun m=>lA yA 30 ⟨0,m⟩ a2) fun a18=>.ite (same 10 a18 (.int .i64 n16)) (.heavy (zC yA 29 a1 (.agg [(.int .i64 (X14.i 0)),(.int .i64 (X14.i 1))])) fun _=>
 .light (fun m=>lA yA 30 ⟨0,m⟩ a2) fun a19=>.ite (same 10 a19 (.int .i64 n16)) (.heavy (zC yA 30 a2 (.int .i64 n16)) fun _=>
 .light (fun m=>lA yA 27 ⟨0,m⟩ a0) fun a20=>.light (fun m=>lA yA 29 ⟨0,m⟩ a1) fun a21=>.light (fun m=>lA yA 30 ⟨0,m⟩ a2) fun a22=>.ret (.tup [a20,a21,a22])) .fail) .fail) .fail)
 (.call 25 [(.str p0),(.int .i64 (Int.ofNat (zB p0)))] fun a23=>
 .asG [(.int .i64 0),(.int .i64 0)] a23 fun X24=>
 .ite (aB zA.one [a4]) (.heavy (aM (.agg [a4,(.int .i64 0),(.int .i64 0),(.int .i64 (X24.i 0)),(.int .i64 (X24.i 1))])) fun a25=>
 .jump 11 [p1,a0,a1,a2,a25]) .fail)
def Tx(v1:zA)(v4:zA)(v5:zA)(v6:zA)(v8:zA):T:=
 .callv v1 [v8] fun a0=>
 .asG [(.str []),.nilslice,.nilslice,.nilslice] a0 fun X1=>
 .ite true (.heavy (zC yA 27 v4 (.agg [(.str (X1.s 0)),(X1.v 1),(X1.v 2),(X1.v 3)])) fun _=>
 .heavy (zC yA 29 v5 (.agg [(.int .i64 0),(.int .i64 0)])) fun _=>
 .heavy (zC yA 30 v6 (.int .i64 0)) fun _=>
 .light (fun m=>lA yA 27 ⟨0,m⟩ v4) fun a2=>.light (fun m=>lA yA 29 ⟨0,m⟩ v5) fun a3=>.light (fun m=>lA yA 30 ⟨0,m⟩ v6) fun a4=>.ret (.tup [a2,a3,a4])) .fail
def Oj(v0:zA)(v1:zA)(v2:zA)(v3:zA):T:=
 .opt ((nJ .neq).f yA 20 (.tmp 8) (.const .nilIface) v3 .niliface) fun a0=>.asB a0 fun b1=>.ite b1
 (.heavy (zC yA 27 v0 (.agg [(.str []),.nilslice,.nilslice,.nilslice])) fun _=>
 .heavy (zC yA 30 v1 (.int .i64 120)) fun _=>
 .opt (Dg yA 123 true v3) fun a2=>.opt (dG 0 a2) fun a3=>.asG [(.int .i64 0),(.int .i64 0),(.int .i64 0)] a3 fun X4=>
 .opt (dG 1 a2) fun a5=>.asB a5 fun b6=>.ite true (.ite b6
 (.heavy (zC yA 29 v2 (.agg [(.int .i64 (X4.i 0)),(.int .i64 (X4.i 1))])) fun _=>
 .ite (same 10 (.int .i64 (X4.i 2)) (.int .i64 (X4.i 2))) (.heavy (zC yA 30 v1 (.int .i64 (X4.i 2))) fun _=>
 .ret (.tup [])) .fail)
 (.ret (.tup []))) .fail)
 (.ret (.tup []))
def Om(v4 v5 v6:zA):T:=.light (fun m=>lA yA 27 ⟨0,m⟩ v4) fun a2=>.light (fun m=>lA yA 29 ⟨0,m⟩ v5) fun a3=>.light (fun m=>lA yA 30 ⟨0,m⟩ v6) fun a4=>.ret (.tup [a2,a3,a4])
def e28(p0:List Nat)(p1:zA):dL yA (ao 28).la 28 (fo 28).ntmps (mX (pcs 28)) ⟨iX pR,fun _ _=>.fail,Am.endT yA (fo 28)⟩ ⟨⟨ko 28,Tr.ofList [(.str p0),p1],[]⟩,[],.leaf,[]⟩=t28 p0 p1:=by kernel_rfl
def e28_13(v1 v4 v5 v6 v8:zA):dL yA (ao 28).la 28 (fo 28).ntmps (.region (dqo 28).i6 (dqo 28).o6 false) ⟨Am.endT yA (fo 28),fun _ _=>.fail,fun _=>.fail⟩ (cL (ko 28) pR [v1,v4,v5,v6,v8])=Tx v1 v4 v5 v6 v8:=by kernel_rfl
def e28_e(v1 v4 v5 v6 v8:zA):Am.endT yA (fo 28) (cL (ko 28) pR [v1,v4,v5,v6,v8]).cut=Om v4 v5 v6:=by kernel_rfl
def e56_3(v0 v1 v2 v3:zA):dL yA (ao 56).la (dqo 28).cl (fo 56).ntmps (cqo 56).c (Ba yA (fo 56)) (cL (ko 56) pS [v0,v1,v2,v3])=Oj v0 v1 v2 v3:=by kernel_rfl
def nil56(a b c:zA)(HA:xA):tS yA (rE F) (cC yA (rE F)) (dqo 28).cl [a,b,c] .niliface HA=some (⟨.tup [],false⟩,HA):=by kernel_rfl
def tl28(v1 v4 v5 v6 v8:zA)  (h:pA yA.base (jE yA F qC vF fun v t'=>pA yA.base (Wq yA F qC) noJ (Oj v4 v6 v5 v) t' fun _ t''=>pA yA.base (Wq yA F qC) noJ (Om v4 v5 v6) t'' Q) noJ (Tx v1 v4 v5 v6 v8) m Q) :
  Nb yA F qC vF 28 (fo 28) (ko 28) (ao 28) (dqo 28) pR [v1,v4,v5,v6,v8] m Q:=by
 refine⟨[v4,v6,v5],(fun v t'=>pA yA.base (Wq yA F qC) noJ (Oj v4 v6 v5 v) t' fun _ t''=>pA yA.base (Wq yA F qC) noJ (Om v4 v5 v6) t'' Q),by kernel_rfl,nil56 _ _ _,fun v t' hv=>?_,by rw[e28_13];exact h⟩
 refine zjo (dA 28 56) (p:=pS) (W:=Wq yA F qC) (Su (by kernel_rfl)) Ss (by intro κ;kernel_rfl) (by kernel_rfl) (vals:=[v4,v6,v5,v]) (by kernel_rfl) (J:=noJ) ?_
 rw[e56_3,e28_e];exact hv
def w28(p0:List Nat)(p1:zA)  (h:pA yA.base (Wq yA F qC) (fun i vals t Q=>i=11/\Nb yA F qC vF 28 (fo 28) (ko 28) (ao 28) (dqo 28) pR vals t Q) (t28 p0 p1) m Q):Wf 28 [(.str p0),p1] m Q:=
 WcD_of (pan:=vF) (dA 28 56) (p:=pR) rfl (by kernel_rfl) (by kernel_rfl) (by intro κ;kernel_rfl) (by rw[e28];exact h)
def t67_3(v0:zA)(v1:zA)(v2:zA)(v3:zA):T:=
 .opt ((nJ .neq).f yA 20 (.tmp 8) (.const .nilIface) v3 .niliface) fun a0=>.asB a0 fun b1=>.ite b1
 (.heavy (zC yA 50 v0 (.agg [(.int .u8 0),(.str []),(.int .u8 0),(.bool false),.nilslice,(.bool false),.nilslice,(.int .i64 0),.nilslice])) fun _=>
 .heavy (zC yA 30 v1 (.int .i64 120)) fun _=>
 .opt (Dg yA 123 true v3) fun a2=>.opt (dG 0 a2) fun a3=>.asG [(.int .i64 0),(.int .i64 0),(.int .i64 0)] a3 fun X4=>
 .opt (dG 1 a2) fun a5=>.asB a5 fun b6=>.ite true (.ite b6
 (.heavy (zC yA 29 v2 (.agg [(.int .i64 (X4.i 0)),(.int .i64 (X4.i 1))])) fun _=>
 .ite (same 10 (.int .i64 (X4.i 2)) (.int .i64 (X4.i 2))) (.heavy (zC yA 30 v1 (.int .i64 (X4.i 2))) fun _=>
 .ret (.tup [])) .fail)
 (.ret (.tup []))) .fail)
 (.ret (.tup []))
def t40_e(v4 v5 v6:zA):T:=.light (fun m=>lA yA 50 ⟨0,m⟩ v4) fun a2=>.light (fun m=>lA yA 29 ⟨0,m⟩ v5) fun a3=>.light (fun m=>lA yA 30 ⟨0,m⟩ v6) fun a4=>.ret (.tup [a2,a3,a4])
def t70_3(v0:zA)(v1:zA)(v2:zA)(v3:zA):T:=
 .opt ((nJ .neq).f yA 20 (.tmp 8) (.const .nilIface) v3 .niliface) fun a0=>.asB a0 fun b1=>.ite b1
 (.heavy (zC yA 47 v0 (.agg [(.int .u8 0),(.bool false),.nilslice,(.bool false),.nilslice,(.int .i64 0)])) fun _=>
 .heavy (zC yA 30 v1 (.int .i64 120)) fun _=>
 .opt (Dg yA 123 true v3) fun a2=>.opt (dG 0 a2) fun a3=>.asG [(.int .i64 0),(.int .i64 0),(.int .i64 0)] a3 fun X4=>
 .opt (dG 1 a2) fun a5=>.asB a5 fun b6=>.ite true (.ite b6
 (.heavy (zC yA 29 v2 (.agg [(.int .i64 (X4.i 0)),(.int .i64 (X4.i 1))])) fun _=>
 .ite (same 10 (.int .i64 (X4.i 2)) (.int .i64 (X4.i 2))) (.heavy (zC yA 30 v1 (.int .i64 (X4.i 2))) fun _=>
 .ret (.tup [])) .fail)
 (.ret (.tup []))) .fail)
 (.ret (.tup []))
def t45_e(v4 v5 v6:zA):T:=.light (fun m=>lA yA 47 ⟨0,m⟩ v4) fun a2=>.light (fun m=>lA yA 29 ⟨0,m⟩ v5) fun a3=>.light (fun m=>lA yA 30 ⟨0,m⟩ v6) fun a4=>.ret (.tup [a2,a3,a4])
end Go.Proofs
namespace Go.Proofs
open Go Go.Am
section
variable [gC]
section
variable {t:Tr vA}{Q:pB}{s:List Nat}
def kP(s:List Nat):(Int.ofNat (zB s))=(s.length:Int):=by rw[oD];rfl
def DY(hs:s.length<4000000000000000000):sC yA F 37 [.str s,.func (.func 65) [] []] t=some (.str (sD nD s)):=by
 refine dD.2 (w37 ?_)
 simp only[uZ,t37,pA];exact Oz (fun n=>Lx) (fun {a m R}=>by rw[q65]) rfl hs s.length 0 (by omega) (fun j x hj=>by omega)
def zbs{n:Nat}:sC yA F 80 [.int .u8 (n:Int)] t=some (.bool (decide (n≠10))):=by
 refine dD.2 (w80 ?_)
 unfold t80;refine⟨?_,rfl⟩
 rw[aE];congr 1
 by_cases h:n=10
 ·subst h;rfl
 ·simp[h];omega
def zbf(hs:s.length<4000000000000000000):sC yA F 37 [.str s,.func (.func 80) [] []] t=some (.str (sD (fun x=>decide (x≠10)) s)):=by
 refine dD.2 (w37 ?_)
 simp only[uZ,t37,pA];exact Oz (fun n=>zbs) (fun {a m R}=>by rw[q80]) rfl hs s.length 0 (by omega) (fun j x hj=>by omega)
def Gl(p:Nat->Bool)(s:List Nat):(sD p s).length<=s.length:=(List.takeWhile_sublist _).length_le
def QR(p:Nat->Bool)(s:List Nat):sD p s=s.take (sD p s).length:=by
 unfold sD;induction s with
 | nil=>rfl
 | cons a s ih=>
  rw[List.takeWhile_cons];split
  ·rw[ybn,List.take_succ_cons,<- ih]
  ·rfl
def NM(hs:s.length<4000000000000000000):sC yA F 103 [.str s] t=some (.tup [.str (if 24<(sD dI s).length then []else sD dI s),.int .i64 (if 24<(sD dI s).length then 111 else 0)]):=by
 refine dD.2 (w103 ?_)
 unfold t103 uS;refine yB ?_
 rw[q37,DV hs,qA];refine lF ?_
 rw[kP];by_cases h:24<(sD dI s).length
 ·rw[yab h,yab h]
  exact sA (by rw[mC];exact decide_eq_true (by omega)) ⟨rfl,rfl⟩
 ·rw[yaa h,yaa h]
  exact tB (by rw[mC];simp;omega) ⟨rfl,rfl⟩
def FG:sC yA F 129 [.str s] t=some (.bool (nR s)):=by
 refine dD.2 (w129 ?_)
 unfold t129 uU tC;rw[kP];unfold nR;by_cases h:1<s.length
 ·cases s with
  | nil=>simp at h
  | cons x r=>
   have hx:=kM (s:=x::r) (i:=0) (x:=x) rfl
   refine sA (by rw[mC];exact decide_eq_true (by omega)) (oA hx (sB ⟨?_,rfl⟩))
   rw[aE,decide_eq_true h];congr 1
   by_cases h48:x=48
   ·subst h48;rfl
   ·simp[h48];omega
 ·refine tB (by rw[mC];simp;omega) ⟨?_,rfl⟩
  simp[h]
def zc0:sC yA F 104 [.str s] t=some (.bool (zH s)):=by
 have loop:10<=s.length->∀(k i:Nat),i+k=10->jp 104 2 [.str s,.int .i64 (i:Int)] t (fun v t'=>v=.bool (((List.range 10).drop i).all fun i=>pK i (s.getD i 0))/\t'=t):=by
  intro hl k;induction k with
  | zero=>
   intro i hi;refine zfk ?_
   unfold Ux sI;refine tB (by rw[mC];simp;omega) ⟨?_,rfl⟩
   rw[ybt (by simp;omega)]
   rfl
  | succ k ih=>
   intro i hi;have hx:s[i]?=some s[i]:=ybd (by omega)
   have hd:s.getD i 0=s[i]:=by rw[List.getD_eq_getElem?_getD,hx];rfl
   have e:((List.range 10).drop i).all (fun i=>pK i (s.getD i 0))=(pK i s[i]&&((List.range 10).drop (i+1)).all fun i=>pK i (s.getD i 0)):=by
    rw[ybl (by simp;omega),ycg]
    simp only[List.getElem_range,hd]
   have e3:wD (i:Int)=.int .i64 ((i+1:Nat):Int):=by
    show zA.int .i64 (iA .i64 ((i:Int)+1))=_
    rw[iC (by omega) (by omega)];rfl
   have next:pK i s[i]=true->jp 104 2 [.str s,wD (i:Int)] t (fun v t'=>v=.bool (((List.range 10).drop i).all fun i=>pK i (s.getD i 0))/\t'=t):=fun h=>by
    rw[e,h,ycn,e3];exact ih (i+1) (by omega)
   have sep:(i=4\/i=7)->wp 104 (uQ15 s (i:Int)) t (fun v t'=>v=.bool (((List.range 10).drop i).all fun i=>pK i (s.getD i 0))/\t'=t):=fun h47=>by
    unfold uQ15 uU tC;refine oA (kM hx) (sB ?_)
    have hda:pK i s[i]=decide (s[i]=45):=by unfold pK;rw[yab h47]
    by_cases h45:s[i]=45
    ·refine tB (by rw[aE,h45];simp) (kC (next (by rw[hda];exact decide_eq_true h45)))
    ·refine sA (by rw[aE];simp;omega) ⟨?_,rfl⟩
     rw[e,hda,decide_eq_false h45];rfl
   refine zfk ?_
   unfold Ux uU uB tC;refine sA (by rw[mC];exact decide_eq_true (by omega)) ?_
   by_cases h4:i=4
   ·exact sA (by rw[aE];exact decide_eq_true (by omega)) (sep (.inl h4))
   refine tB (by rw[aE];simp;omega) ?_
   by_cases h7:i=7
   ·exact sA (by rw[aE];exact decide_eq_true (by omega)) (sep (.inr h7))
   refine tB (by rw[aE];simp;omega) (oA (kM hx) (sB (yB ?_)))
   rw[q65];show vE (sC yA F 65 [.int .u8 (s[i]:Int)] t) _
   rw[Lx,qA];have hda:pK i s[i]=nD s[i]:=by unfold pK;rw[yaa (by omega)]
   refine pD ?_
   cases hb:nD s[i]with
   | true=>exact tB (by simp) (kC (next (by rw[hda,hb])))
   | false=>
    refine sA rfl ⟨?_,rfl⟩
    rw[e,hda,hb];rfl
 refine dD.2 (w104 ?_)
 unfold t104 tC;rw[kP];unfold zH;by_cases h:10<=s.length
 ·refine tB (by rw[mC];simp;omega) (kC ?_)
  rw[decide_eq_true h,ycn];exact loop h 10 0 rfl
 ·refine sA (by rw[mC];exact decide_eq_true (by omega)) ⟨?_,rfl⟩
  rw[decide_eq_false h];rfl
def XP(h:zH s=true):zH (s.take 10)=true/\(s.take 10).length=10:=by
 have hl:10<=s.length:=by unfold zH at h;simp only[ybb,decide_eq_true_eq]at h;exact h.1
 refine⟨?_,by rw[yda];omega⟩
 unfold zH at h ⊢
 simp only[ybb,decide_eq_true_eq,ycb,List.mem_range]at h ⊢
 refine⟨by rw[yda];omega,fun i hi=>?_⟩
 have:=h.2 i hi
 rw[List.getD_eq_getElem?_getD]at this ⊢
 rw[ydf,yab hi];exact this
def XR(hg:kK t)(hd:zH s=true):sC yA F 105 [.str s] t=some (.tup [.str (if uN s then []else s.take 10),.int .i64 (if uN s then 113 else 0)]):=by
 obtain⟨h1,h2⟩:=XP hd
 have hl:10<=s.length:=by unfold zH at hd;simp only[ybb,decide_eq_true_eq]at hd;exact hd.1
 have tail:(decide (10<s.length)&&bO s 10)=false->wp 105 (uQ6 s) t fun v' t'=>v'=.tup [.str (if uN s then []else s.take 10),.int .i64 (if uN s then 113 else 0)]/\t'=t:=by
  intro hf;have hb:uN s=decide (Ae (s.take 10)=none):=by unfold uN;rw[hf,Bool.false_or]
  unfold uQ6 uS uI;have hs:=Dq (s:=s) (k:=10) (by omega)
  refine oA hs (lF (yB ?_))
  rw[q97,LA hg h2 h1,qA];refine oA rfl (sB (oA rfl (sB ?_)))
  rw[hb]
  cases hx:Ae (s.take 10)with
  | none=>exact sA (by decide) ⟨rfl,rfl⟩
  | some n=>exact tB (fun h=>by cases h) (oA hs (lF ⟨rfl,rfl⟩))
 refine dD.2 (w105 ?_)
 unfold t105 uU uB;rw[kP];by_cases h10:10<s.length
 ·have hx:s[10]?=some s[10]:=ybd h10
  refine sA (by rw[mC];exact decide_eq_true (by omega)) (oA (kM hx) (sB (yB ?_)))
  rw[q38];show vE (sC yA F 38 [.int .u8 (s[10]:Int)] t) _
  rw[Yl,qA];refine pD ?_
  have hf:bO s 10=dI s[10]:=by unfold bO;rw[hx]
  cases hb:dI s[10]with
  | true=>
   refine sA rfl ⟨?_,rfl⟩
   have:uN s=true:=by unfold uN;rw[hf,hb,decide_eq_true h10];rfl
   rw[this];rfl
  | false=>
   refine tB (by simp) (tail ?_)
   rw[hf,hb,yay]
 ·exact tB (by rw[mC];simp;omega) (tail (by rw[decide_eq_false h10];rfl))
def TF(hs:s.length<1000000):sC yA F 106 [.str s] t=some (.tup [.str (if rI s then []else s.take (bE s)),.int .i64 (if rI s then 112 else 0)]):=by
 have hfl:=Gl nD s
 have hfirst:(zD s).length<=s.length:=hfl
 have hsecond:(zD s).length+1+(dE s).length<=s.length\/dE s=[]:=by
  unfold dE;split
  ·rename_i h
   have h1:=(ybc.1 h).1
   left
   have:=Gl nD (s.drop ((zD s).length+1))
   rw[ydj]at this;omega
  ·right;rfl
 have hnl:bE s<=s.length:=by
  unfold bE;split
  ·exact hfirst
  ·rename_i h;exact hsecond.resolve_right h
 have tail:decide (200<bE s)=false->bO s (bE s)=false->wp 106 (uQ9 (zD s) (dE s) s (bE s:Int)) t fun v' t'=>v'=.tup [.str (if rI s then []else s.take (bE s)),.int .i64 (if rI s then 112 else 0)]/\t'=t:=by
  intro h1 h2;have hb:rI s=(nR (zD s)||nR (dE s)||decide (dE s=[48])):=by unfold rI;rw[h1,h2,Bool.false_or,Bool.false_or]
  unfold uQ9 uB uS;refine yB ?_
  rw[q129,FG,qA];refine pD ?_
  cases p1:nR (zD s)with
  | true=>rw[hb,p1];exact sA rfl ⟨rfl,rfl⟩
  | false=>
   refine tB (by simp) (yB ?_)
   rw[q129,FG,qA];refine pD ?_
   cases p2:nR (dE s)with
   | true=>rw[hb,p1,p2];exact sA rfl ⟨rfl,rfl⟩
   | false=>
    refine tB (by simp) ?_
    rw[hb,p1,p2]
    cases p3:qG (dE s) [48]with
    | true=>
     rw[decide_eq_true ((wN _ _).1 p3)]
     exact sA rfl ⟨rfl,rfl⟩
    | false=>
     rw[decide_eq_false fun e=>by rw[(wN _ _).2 e]at p3;cases p3]
     exact tB (by simp) (oA (Dq hnl) (lF ⟨rfl,rfl⟩))
 have p17:jp 106 17 [.str s,.str (zD s),.int .i64 (bE s:Int),.str (dE s)] t fun v' t'=>v'=.tup [.str (if rI s then []else s.take (bE s)),.int .i64 (if rI s then 112 else 0)]/\t'=t:=by
  refine zir ?_
  unfold CM uU uB;rw[kP];by_cases h:bE s<s.length
  ·have hx:s[bE s]?=some s[bE s]:=ybd h
   refine sA (by rw[mC];exact decide_eq_true (by omega)) (oA (kM hx) (sB (yB ?_)))
   rw[q38];show vE (sC yA F 38 [.int .u8 (s[bE s]:Int)] t) _
   rw[Yl,qA];refine pD ?_
   have hf:bO s (bE s)=dI s[bE s]:=by unfold bO;rw[hx]
   by_cases h2:200<bE s
   ·refine sA (by rw[mC];exact decide_eq_true (by omega)) ⟨?_,rfl⟩
    have:rI s=true:=by unfold rI;rw[decide_eq_true h2];simp
    rw[this];rfl
   ·refine tB (by rw[mC];simp;omega) ?_
    cases hb:dI s[bE s]with
    | true=>
     refine sA rfl ⟨?_,rfl⟩
     have:rI s=true:=by unfold rI;rw[hf,hb];simp
     rw[this];rfl
    | false=>exact tB (by simp) (tail (decide_eq_false h2) (by rw[hf,hb]))
  ·have hf:bO s (bE s)=false:=by unfold bO;rw[List.getElem?_eq_none (by omega)]
   refine tB (by rw[mC];simp;omega) ?_
   by_cases h2:200<bE s
   ·refine sA (by rw[mC];exact decide_eq_true (by omega)) ⟨?_,rfl⟩
    have:rI s=true:=by unfold rI;rw[decide_eq_true h2];simp
    rw[this];rfl
   ·exact tB (by rw[mC];simp;omega) (tail (decide_eq_false h2) hf)
 have p13:jp 106 13 [.str s,.str (zD s),.int .i64 ((zD s).length:Int),.str (dE s)] t fun v' t'=>v'=.tup [.str (if rI s then []else s.take (bE s)),.int .i64 (if rI s then 112 else 0)]/\t'=t:=by
  refine zis ?_
  unfold CN
  cases he:qG (dE s) []with
  | true=>
   have h0:=(wN _ _).1 he
   refine tB (by simp) (kC ?_)
   have:bE s=(zD s).length:=by unfold bE;rw[yab h0]
   have e:((bE s:Nat):Int)=((zD s).length:Int):=by rw[this]
   rw[e]at p17;exact p17
  | false=>
   have h0:dE s≠[]:=fun e=>by rw[(wN _ _).2 e]at he;cases he
   have hle:=hsecond.resolve_right h0
   refine sA rfl (kC ?_)
   have e:uW (((zD s).length:Int)+uW (1+Int.ofNat (zB (dE s))))=((bE s:Nat):Int):=by
    unfold uW bE;rw[kP,yaa h0,iC (n:=1+((dE s).length:Int)) (by omega) (by omega),iC (by omega) (by omega)]
    omega
   rw[e];exact p17
 refine dD.2 (w106 ?_)
 unfold t106 uS uU;refine yB ?_
 rw[q37,DY (by omega),qA]
 refine lF ?_
 rw[kP,kP];show wp 106 (.ite (cB ((zD s).length:Int) (s.length:Int)) _ (.jump 13 [.str s,.str (zD s),uZ ((zD s).length:Int),.str []])) t _
 by_cases h:(zD s).length<s.length
 ·have hx:s[(zD s).length]?=some s[(zD s).length]:=ybd h
  refine sA (by rw[mC];exact decide_eq_true (by omega)) (oA (kM hx) (sB ?_))
  by_cases h47:s[(zD s).length]=47
  ·have e:uW (((sD nD s).length:Int)+1)=(((zD s).length+1:Nat):Int):=by
    show iA .i64 (((zD s).length:Int)+1)=_
    rw[iC (by omega) (by omega)];rfl
   have h2:dE s=sD nD (s.drop ((zD s).length+1)):=by unfold dE;rw[yab (by rw[hx,h47])]
   refine sA (by rw[aE,h47];rfl) ?_
   rw[e];refine oA (Oq (by omega)) (lF (yB ?_))
   rw[q37,DY (by rw[ydj];omega),qA,<- h2]
   exact lF (kC p13)
  ·have h2:dE s=[]:=by unfold dE;rw[yaa (by rw[hx];simpa using h47)]
   refine tB (by rw[aE];simp;omega) (kC ?_)
   rw[h2]at p13;exact p13
 ·have h2:dE s=[]:=by unfold dE;rw[yaa (by rw[List.getElem?_eq_none (by omega)];simp)]
  refine tB (by rw[mC];simp;omega) (kC ?_)
  rw[h2]at p13;exact p13
end
end
section
variable {b:Nat}
variable [gC]
def zch(c:Nat):∀s:List Nat,(nU c s).isSome=s.contains c:=by
 intro s;induction s with
 | nil=>rfl
 | cons x r ih=>
  rw[List.contains_cons,<- ih];have e:nU c (x::r)=bif Nat.beq x c then some 0 else ob (nU c r) fun n=>some (n+1):=rfl
  rw[e]
  cases h:Nat.beq x c with
  | true=>rw[lC.1 h];simp
  | false=>
   have:¬ c=x:=fun e=>by rw[e,Nat.beq_refl]at h;cases h
   have h2:(c == x)=false:=by simp[this]
   rw[cond_false,h2,Bool.false_or]
   cases nU c r<;>rfl
abbrev wI(sp:Nat)(src:List Nat)(ln cl off:Nat):iE:=fB sp none [.int .i64 (ln:Int),.int .i64 (cl:Int),.str src,.int .i64 (off:Int)]
section
variable {tf t:Tr vA}{A B:List iE}{Q:pB}{sp ln cl off:Nat}{src:List Nat}
def g0  : nC yA 145 0 (.ptr b 0)=some (.ptr b 0):=by kernel_rfl
def g1  : nC yA 145 1 (.ptr b 0)=some (.ptr b 2):=by kernel_rfl
def g2  : nC yA 145 2 (.ptr b 0)=some (.ptr b 3):=by kernel_rfl
def p0  : nC yA 29 0 (.ptr b 0)=some (.ptr b 0):=by kernel_rfl
def p1  : nC yA 29 1 (.ptr b 0)=some (.ptr b 1):=by kernel_rfl
def zef(h:fA yA.base tf t (A++wI sp src ln cl off::B)):lA yA 9 ⟨0,t⟩ (.ptr sp 2)=some (.str src):=(fA.cel h).load1 kN rfl rfl
def Kc(h:fA yA.base tf t (A++wI sp src ln cl off::B)):lA yA 3 ⟨0,t⟩ (.ptr sp 3)=some (.int .i64 (off:Int)):=(fA.cel h).load1 nO rfl rfl
def sc_ln(h:fA yA.base tf t (A++wI sp src ln cl off::B)):lA yA 3 ⟨0,t⟩ (.ptr sp 0)=some (.int .i64 (ln:Int)):=(fA.cel h).load1 nO rfl rfl
def sc_cl(h:fA yA.base tf t (A++wI sp src ln cl off::B)):lA yA 3 ⟨0,t⟩ (.ptr sp 1)=some (.int .i64 (cl:Int)):=(fA.cel h).load1 nO rfl rfl
def sc_pl(h:fA yA.base tf t (A++wI sp src ln cl off::B)):lA yA 29 ⟨0,t⟩ (.ptr sp 0)=some (.agg [.int .i64 (ln:Int),.int .i64 (cl:Int)]):=by
 have:=(fA.cel h).at.load (j:=0) (n:=2) eT rfl rfl (by simp)
 simpa using this
def Kb{ln' cl' off' j:Nat}{x:Nat}(h:fA yA.base tf t (A++wI sp src ln cl off::B))(hj:j<4)(he:rJ [.int .i64 (ln:Int),.int .i64 (cl:Int),.str src,.int .i64 (off:Int)] j [.int .i64 (x:Int)]=[.int .i64 (ln':Int),.int .i64 (cl':Int),.str src,.int .i64 (off':Int)]) :
  ∃t',(∀q,zC yA 3 (.ptr sp j) (.int .i64 (x:Int)) ⟨q,t⟩=some (fD,⟨q,t'⟩))/\fA yA.base tf t' (A++wI sp src ln' cl' off'::B):=by
 obtain⟨t',h1,h2⟩:=fA.setCel (j:=j) (v:=.int .i64 (x:Int)) h nO rfl (by show j+1<=4;omega) rfl
 refine⟨t',h1,?_⟩
 have:(zA.int .i64 (x:Int)).cells=[.int .i64 (x:Int)]:=rfl
 rw[this,he]at h2;exact h2
def Gn(h:fA yA.base tf t (A++wI sp src ln cl off::B))(ho:off<=src.length):sC yA F 79 [.ptr sp 0] t=some (.str (src.drop off)):=by
 refine dD.2 (w79 ?_)
 unfold t79 yI uI uS;exact oA nl (oA g1 (vC (zef h) (lF (oA nl (oA g2 (vC (Kc h) (sB (oA (Oq ho) (lF ⟨rfl,rfl⟩)))))))))
def DD{n:Nat}(h:fA yA.base tf t (A++wI sp src ln cl off::B))(h1:off+n<1000000)(h2:cl+n<1000000)(hQ:∀t',fA yA.base tf t' (A++wI sp src ln (cl+n) (off+n)::B)->Q (.tup []) t'):Wc yA F 78 [.ptr sp 0,.int .i64 (n:Int)] t Q:=by
 refine w78 ?_
 unfold t78 yI uI;have e1:uW ((off:Int)+(n:Int))=((off+n:Nat):Int):=by show iA .i64 _=_;rw[iC (by omega) (by omega)];rfl
 have e2:uW ((cl:Int)+(n:Int))=((cl+n:Nat):Int):=by show iA .i64 _=_;rw[iC (by omega) (by omega)];rfl
 refine oA nl (oA g2 (vC (Kc h) (sB (oA nl (oA g2 (jC fun b _ _=>?_))))))
 rw[e1];obtain⟨t1,k1,k2⟩:=Kb (j:=3) (x:=off+n) (ln':=ln) (cl':=cl) (off':=off+n) h (by omega) rfl
 refine⟨_,_,k1 b,oA nl (oA g0 (oA p1 (vC (sc_cl k2) (sB (oA nl (oA g0 (oA p1 (jC fun b _ _=>?_))))))))⟩
 rw[e2];obtain⟨t2,m1,m2⟩:=Kb (j:=1) (x:=cl+n) (ln':=ln) (cl':=cl+n) (off':=off+n) k2 (by omega) rfl
 exact⟨_,_,m1 b,hQ t2 m2⟩
def TN(h:fA yA.base tf t (A++wI sp src ln cl off::B))(h1:off<900000)(h2:ln<900000)(hQ:∀t',fA yA.base tf t' (A++wI sp src (ln+1) 1 (off+1)::B)->Q (.tup []) t'):Wc yA F 77 [.ptr sp 0] t Q:=by
 refine w77 ?_
 unfold t77 yI uI;have e:∀n:Nat,n<900000->wD (n:Int)=.int .i64 ((n+1:Nat):Int):=fun n hn=>by
  show zA.int .i64 (iA .i64 ((n:Int)+1))=_
  rw[iC (by omega) (by omega)];rfl
 refine oA nl (oA g2 (vC (Kc h) (sB (oA nl (oA g2 (jC fun b _ _=>?_))))))
 rw[e off h1];obtain⟨t1,k1,k2⟩:=Kb (j:=3) (x:=off+1) (ln':=ln) (cl':=cl) (off':=off+1) h (by omega) rfl
 refine⟨_,_,k1 b,oA nl (oA g0 (oA p0 (vC (sc_ln k2) (sB (oA nl (oA g0 (oA p0 (jC fun b _ _=>?_))))))))⟩
 rw[e ln h2];obtain⟨t2,m1,m2⟩:=Kb (j:=0) (x:=ln+1) (ln':=ln+1) (cl':=cl) (off':=off+1) k2 (by omega) rfl
 refine⟨_,_,m1 b,oA nl (oA g0 (oA p1 (jC fun b _ _=>?_)))⟩
 obtain⟨t3,n1,n2⟩:=Kb (j:=1) (x:=1) (ln':=ln+1) (cl':=1) (off':=off+1) m2 (by omega) rfl
 exact⟨_,_,n1 b,hQ t3 n2⟩
def TH(s:List Nat):bE s<=s.length:=by
 have hfirst:(zD s).length<=s.length:=Gl nD s
 unfold bE;split
 ·exact hfirst
 ·rename_i h
  unfold dE at h ⊢
  by_cases hx:s[(zD s).length]?=some 47
  ·rw[yab hx]
   have h1:=(ybc.1 hx).1
   have:=Gl nD (s.drop ((zD s).length+1))
   rw[ydj]at this;omega
  ·rw[yaa hx]at h;exact absurd rfl h
def BO{s w:List Nat}{k:Nat}(h:xF s=.tok k w):w.length<=s.length/\w=s.take w.length:=by
 cases s with
 | nil=>cases h
 | cons b r=>
  unfold xF at h;simp only at h
  split at h
  ·split at h
   ·cases h
   ·cases h;exact⟨Gl _ _,QR _ _⟩
  split at h
  ·rename_i hd
   split at h
   ·cases h
   ·cases h
    have hl:10<=(b::r).length:=by
     simp only[ybb]at hd;have:=hd.2
     unfold zH at this;simp only[ybb,decide_eq_true_eq]at this;exact this.1
    rw[yda,Nat.min_eq_left hl];exact⟨hl,rfl⟩
  split at h
  ·split at h
   ·cases h
   ·cases h
    have hl:=TH (b::r)
    rw[yda,Nat.min_eq_left hl];exact⟨hl,rfl⟩
  split at h
  ·cases h;exact⟨by simp,rfl⟩
  ·cases h
def zat(hg:kK tf)(h:fA yA.base tf t (A++wI sp src ln cl off::B))(hoff:off<src.length)(hlen:src.length<=65536)(hcl:cl<200000)(hby:∀b∈src,b<256)
  (hQ:∀t',match xF (src.drop off)with
   | .bad e=>fA yA.base tf t' (A++wI sp src ln cl off::B)->Q (.tup [.agg [.int .u8 0,.str [],.int .i64 (ln:Int),.int .i64 (cl:Int)],.int .i64 (e:Int)]) t'
   | .tok k w=>fA yA.base tf t' (A++wI sp src ln (cl+w.length) (off+w.length)::B)->Q (.tup [.agg [.int .u8 (k:Int),.str w,.int .i64 (ln:Int),.int .i64 (cl:Int)],.int .i64 0]) t'):Wc yA F 81 [.ptr sp 0] t Q:=by
 have hgt:=hg.mono h.tle
 have hx:src[off]?=some src[off]:=ybd hoff
 have hdrop:src.drop off=src[off]::src.drop (off+1):=ybl hoff
 have hb256:=hby src[off] (ycj _)
 have hdl:(src.drop off).length<=65536:=by rw[ydj];omega
 have j37:∀(k e:Nat) (w:List Nat),(e≠0->xF (src.drop off)=.bad e)->(e=0->xF (src.drop off)=.tok k w)->jp 81 37 [.ptr sp 0,.int .u8 (k:Int),.str w,.int .i64 (e:Int),.int .u8 0,.str [],.int .i64 0,.int .i64 0,.int .i64 (ln:Int),.int .i64 (cl:Int)] t Q:=by
  intro k e w h1 h2;refine j81_37 ?_
  unfold zdz;by_cases h0:e=0
  ·have ht:=h2 h0
   subst h0;refine tB (by decide) (yB ?_)
   rw[q78,kP];obtain⟨l1,_⟩:=BO ht
   rw[ydj]at l1;refine DD h (by omega) (by omega) fun t' h'=>sA rfl (sA rfl ?_)
   have:=hQ t'
   rw[ht]at this;exact this h'
  ·have ht:=h1 h0
   refine sA (by rw[aE];simp;omega) (sA rfl (sA rfl ?_))
   have:=hQ t
   rw[ht]at this;exact this h
 have hq1:mM src[off]=false->(nD src[off]=true->zH (src.drop off)=false)->wp 81 (uQ1 (src[off]:Int) (.ptr sp 0) (cellsOf [.int .i64 (ln:Int),.int .i64 (cl:Int)])) t Q:=by
  intro hl hd;unfold uQ1 uB uS uI;refine yB ?_
  rw[q65];show vE (sC yA F 65 [.int .u8 (src[off]:Int)] t) _
  rw[Lx,qA];refine pD ?_
  cases hdg:nD src[off]with
  | true=>
   have hda:=hd hdg
   refine sA rfl (yB ?_)
   rw[q79,Gn h (by omega),qA]
   refine lF (yB ?_)
   rw[q106,TF (by omega),qA]
   have ht:xF (src.drop off)=if rI (src.drop off)then .bad 112 else .tok 2 ((src.drop off).take (bE (src.drop off))):=by
    rw[hdrop]at hda ⊢
    unfold xF;simp only[hl,hdg,hda,yay,ybq,if_false,if_true]
   refine oA rfl (lF (oA rfl (sB (kC ?_))))
   cases hb:rI (src.drop off)with
   | true=>exact j37 2 112 [] (fun _=>by rw[ht,hb];rfl) (fun e=>by cases e)
   | false=>exact j37 2 0 _ (fun e=>absurd rfl e) (fun _=>by rw[ht,hb];rfl)
  | false=>
   refine tB (by simp) (yB ?_)
   have hgp:yA.prims.get 107=some (jO Ks):=by kernel_rfl
   have hix:sC yA F 107 [.str [40,41,44,43,45,42,47,60,61],.int .u8 (src[off]:Int)] t=some (.int .i64 (match nU src[off] [40,41,44,43,45,42,47,60,61]with | some n=>.ofNat n | none=>.negSucc 0)):=by
    refine Kq hgp fun H=>?_
    show xB (Nat.blt src[off] 256) _=_
    rw[pC.2 hb256];rfl
   rw[q107];show vE (sC yA F 107 [.str [40,41,44,43,45,42,47,60,61],.int .u8 (src[off]:Int)] t) _
   rw[hix,qA];refine sB ?_
   have hsg:Lv src[off]=(nU src[off] [40,41,44,43,45,42,47,60,61]).isSome:=by rw[zch];rfl
   have ht:xF (src.drop off)=if Lv src[off]then .tok 4 [src[off]]else .bad 110:=by
    rw[hdrop];unfold xF;simp only[hl,hdg,Bool.false_and,ybq,if_false]
   cases hi:nU src[off] [40,41,44,43,45,42,47,60,61]with
   | some n=>
    refine sA (by rw[zS];exact decide_eq_true (Int.natCast_nonneg n)) (yB ?_)
    rw[q79,Gn h (by omega),qA]
    have hs1:=Dq (s:=src.drop off) (k:=1) (by rw[ydj];omega)
    refine lF (oA hs1 (lF (kC ?_)))
    have:(src.drop off).take 1=[src[off]]:=by rw[hdrop];rfl
    rw[this];exact j37 4 0 _ (fun e=>absurd rfl e) (fun _=>by rw[ht,hsg,hi];rfl)
   | none=>
    refine tB (by decide) (kC ?_)
    exact j37 0 110 _ (fun _=>by rw[ht,hsg,hi];rfl) (fun e=>by cases e)
 refine w81 ?_
 unfold t81 yI uG uS uI uU uB;refine oA nl (oA g0 (vC (sc_pl h) (fC (X:=cellsOf [.int .i64 (ln:Int),.int .i64 (cl:Int)]) (cQ rfl) (sA rfl (oA nl (oA g1 (vC (zef h) (lF (oA nl (oA g2 (vC (Kc h) (sB (oA (kM hx) (sB (yB ?_)))))))))))))))
 rw[q36];show vE (sC yA F 36 [.int .u8 (src[off]:Int)] t) _
 rw[Qw,qA];refine pD ?_
 cases hl:mM src[off]with
 | true=>
  refine sA rfl (yB ?_)
  rw[q79,Gn h (by omega),qA]
  refine lF (yB ?_)
  rw[q103,NM (by omega),qA]
  have ht:xF (src.drop off)=if 24<(sD dI (src.drop off)).length then .bad 111 else .tok 1 (sD dI (src.drop off)):=by
   rw[hdrop];unfold xF;simp only[hl,if_true]
  refine oA rfl (lF (oA rfl (sB (kC ?_))))
  by_cases h24:24<(sD dI (src.drop off)).length
  ·rw[yab h24,yab h24]
   exact j37 1 111 [] (fun _=>by rw[ht,yab h24]) (fun e=>by cases e)
  ·rw[yaa h24,yaa h24]
   exact j37 1 0 _ (fun e=>absurd rfl e) (fun _=>by rw[ht,yaa h24])
 | false=>
  refine tB (by simp) (yB ?_)
  rw[q65];show vE (sC yA F 65 [.int .u8 (src[off]:Int)] t) _
  rw[Lx,qA];refine pD ?_
  cases hdg:nD src[off]with
  | false=>exact tB (by simp) (hq1 hl (fun h=>by rw[hdg]at h;cases h))
  | true=>
   refine sA rfl (yB ?_)
   rw[q79,Gn h (by omega),qA]
   refine lF (yB ?_)
   rw[q104,zc0,qA];refine pD ?_
   cases hda:zH (src.drop off)with
   | false=>exact tB (by simp) (hq1 hl (fun _=>hda))
   | true=>
    refine sA rfl (yB ?_)
    rw[q79,Gn h (by omega),qA]
    refine lF (yB ?_)
    rw[q105,XR hgt hda,qA];have ht:xF (src.drop off)=if uN (src.drop off)then .bad 113 else .tok 3 ((src.drop off).take 10):=by
     rw[hdrop]at hda ⊢
     unfold xF;simp only[hl,hdg,hda,Bool.and_true,ybq,if_false,if_true]
    refine oA rfl (lF (oA rfl (sB (kC ?_))))
    cases hb:uN (src.drop off)with
    | true=>exact j37 3 113 [] (fun _=>by rw[ht,hb];rfl) (fun e=>by cases e)
    | false=>exact j37 3 0 _ (fun e=>absurd rfl e) (fun _=>by rw[ht,hb];rfl)
end
end
section
variable {acc:List lB}{v:zA}
variable [gC]
def oH (l:Nat)(r:cM):iE where
 blks:=[l]
 ok:=fun _ t=>t.get l=some (.loop r)
 keep:=fun h _ k=>by rw[(k l (by simp)).1];exact h
 live:=fun h k hk=>by rw[ydd]at hk;subst hk;exact⟨_,h⟩
def el66:aP yA 66 75 4:=⟨⟨_,kS,rfl,rfl⟩,⟨_,ty75,rfl,rfl,by decide,by decide⟩,fun y h=>by rw[ty75]at h;cases h;rfl⟩
def tok_rd{t:Tr vA}(x:lB):RD t x.d x.cs:=by
 unfold lB.d lB.cs;exact kJ.2 ⟨[[_],[_],[_],[_]],rfl,yD.2 ⟨_,_,rfl,lK.2 rfl,yD.2 ⟨_,_,rfl,mK.2 rfl,yD.2 ⟨_,_,rfl,lK.2 rfl,yD.2 ⟨_,_,rfl,lK.2 rfl,sF.2 rfl⟩⟩⟩⟩⟩
abbrev hO(a0 a1 a2 a6:Nat)(pl pc e:Nat)(acc:List lB)(v:zA):List iE:=
 [fB a0 none [.nilslice],fB a1 none [.int .i64 (pl:Int),.int .i64 (pc:Int)],fB a2 none [.int .i64 (e:Int)],fB a6 none [v],uD yA.base 4 (acc.map lB.d) v]
section
variable {tf t:Tr vA}{Q:pB}{sp ln cl off a0 a1 a2 a6 l:Nat}{src:List Nat}{r:cM}{L:List iE}
def fA.delLp(h:fA yA.base tf t (L++[oH l r])):fA yA.base tf (t.del l) L:=by
 have h1:=h.low l (by simp[oH])
 have h2:l∉L.flatMap iE.blks:=by
  have:=fA.notin (A:=L) (B:=[]) (o:=oH l r) h (k:=l) (by simp[oH])
  rwa [ycd]at this
 have h3:=fA.drop (A:=L) (B:=[]) (o:=oH l r) h
 rw[ycd]at h3;exact h3.other h2 h1.2 fun c hc=>by rw[Tr.get_del,yaa hc]
def fA.setLp(h:fA yA.base tf t L)(hn:t.get l=none)(hb:yA.base<=l):fA yA.base tf (t.set l (.loop r)) (L++[oH l r]):=by
 have:=fA.add (A:=L) (B:=[]) (o':=oH l r) (t':=t.set l (.loop r)) (by rwa [ycd]) (fun k hk=>by rw[Tr.get_set,yaa (fun e=>hk (by simp[oH,e]))]) (fun k hk=>by simp[oH]at hk;subst hk;exact⟨hn,hb⟩) (by show(t.set l (.loop r)).get l=_;rw[Tr.get_set,yab rfl]) (by simp[oH]) (h.tle.trans (gN hn _).1)
 exact this
def YldR (l:Nat)(r:cM)(a0 a1 a2 a6:Nat):Prop:=∀args t1 Q1,args.length=2->t1.get l=some (.loop r)->Jq yA F 22 2 ([.ptr a0 0,.ptr a1 0,.ptr a2 0,.ptr a6 0]++args) (t1.del l) (fun v t2=>t2.get l=none->∃b,v=.bool b/\Q1 v (t2.set l (.loop (dO b r))))->Wq yA F qC (yo+l) args t1 Q1
def zbx(h1:r.state=.ready)(h2:r.pending=none):dO true r=r:=by
 obtain⟨a,b,c,d,e,f,g,h,i⟩:=r
 have h1:a=.ready:=h1
 have h2:b=none:=h2
 subst h1;subst h2;rfl
def Sy  {x:lB}(hy:YldR l r a0 a1 a2 a6)(hr1:r.state=.ready)(hr2:r.pending=none)(hlen:acc.length<300000)
  (h:fA yA.base tf t (hO a0 a1 a2 a6 0 0 0 acc v++L++[oH l r])) (hQ:∀tf' t' v',aA tf tf'->fA yA.base tf' t' (hO a0 a1 a2 a6 0 0 0 (acc++[x]) v'++L++[oH l r])->Q (.bool true) t') :
  Wq yA F qC (yo+l) [.agg x.cs,.int .i64 0] t Q:=by
 have hl:t.get l=some (.loop r):=h.ok (oH l r) (by simp)
 have hlb:=(h.low l (by simp[oH])).1
 refine hy _ _ _ rfl hl ?_
 have h1:=fA.delLp h
 refine j22_2 ?_
 unfold zhb;refine sA rfl (tB (by decide) ?_)
 have lv:lA yA 66 ⟨0,t.del l⟩ (.ptr a6 0)=some v:=(fA.cel (A:=[_,_,_]) h1).load1 kS rfl rfl
 refine vC lv (jC fun b hb _=>?_)
 have hf:kL (fun i=>some (i*4,4)) [(0,.agg x.cs)] (nI [.int .u8 0,.str [],.int .i64 0,.int .i64 0] 1)=some [x.cs].flatten:=by
  rw[Ez (sz:=4) (z:=[.int .u8 0,.str [],.int .i64 0,.int .i64 0]) (v:=.agg x.cs) rfl rfl];rfl
 obtain⟨tf1,t1,k1,k2,k3,k4⟩:=litN (C:=yA) (T:=66) (el:=75) (sz:=4) (n:=1) (ds:=[x.d]) (cl:=[x.cs]) (ps:=[(0,.agg x.cs)]) kS rfl ty75 rfl rfl (by decide) hf (Ed rfl) rfl (yD.2 ⟨_,_,rfl,tok_rd x,sF.2 rfl⟩) h1 hb
 refine⟨_,_,k1,jC fun c hc hcb=>?_⟩
 obtain⟨t2,v2,m1,m2,m3⟩:=fA.append1 (A:=[fB a0 none [.nilslice],fB a1 none [.int .i64 0,.int .i64 0],fB a2 none [.int .i64 0],fB a6 none [v]]) (B:=L) (cs:=[]) el66 k3 k4 (by simp;omega) hc hcb
 refine⟨_,_,m1,jC fun q _ _=>?_⟩
 have hcell:v2.cells=[v2]:=by
  have:=m2.ok (uD yA.base 4 (acc.map lB.d++[x.d]) v2) (by simp)
  rcases this with⟨e,_⟩ | ⟨b,cl,c,e,_⟩ <;> (subst e;rfl)
 obtain⟨t3,n1,n2⟩:=fA.setCel (A:=[fB a0 none [.nilslice],fB a1 none [.int .i64 0,.int .i64 0],fB a2 none [.int .i64 0]]) (j:=0) (v:=v2) m2 kS (by rw[hcell];rfl) (by rw[hcell];show 0+1<=1;omega) (by rw[hcell,mI];simp[m3])
 refine⟨_,_,n1 q,fun hn=>⟨true,rfl,?_⟩⟩
 rw[zbx hr1 hr2];have e:rJ [v] 0 v2.cells=[v2]:=by rw[hcell];rfl
 rw[e]at n2;refine hQ tf1 _ v2 k2 ?_
 have hs:=fA.setLp (r:=r) n2 hn hlb
 rw[show acc.map lB.d++[x.d]=(acc++[x]).map lB.d by simp]at hs
 exact hs
def zaj  {e pl pc:Nat}(hy:YldR l r a0 a1 a2 a6)(he:e≠0)
  (h:fA yA.base tf t (hO a0 a1 a2 a6 0 0 0 acc v++L++[oH l r])) (hQ:∀t',fA yA.base tf t' (hO a0 a1 a2 a6 pl pc e acc v++L++[oH l (dO false r)])->Q (.bool false) t') :
  Wq yA F qC (yo+l) [.agg [.int .u8 0,.str [],.int .i64 (pl:Int),.int .i64 (pc:Int)],.int .i64 (e:Int)] t Q:=by
 have hl:t.get l=some (.loop r):=h.ok (oH l r) (by simp)
 have hlb:=(h.low l (by simp[oH])).1
 refine hy _ _ _ rfl hl ?_
 have h1:=fA.delLp h
 refine j22_2 ?_
 unfold zhb;refine sA rfl (sA (by rw[aE];simp;omega) (jC fun q _ _=>?_))
 obtain⟨t1,n1,n2⟩:=fA.setCel (A:=[]) (j:=0) (v:=.nilslice) h1 kS rfl (by show 0+1<=1;omega) rfl
 have hs:same 10 (.agg [.int .i64 (pl:Int),.int .i64 (pc:Int)]) (.agg [.int .i64 (pl:Int),.int .i64 (pc:Int)])=true:=by
  show(same 9 (.int .i64 (pl:Int)) (.int .i64 (pl:Int))&&(same 9 (.int .i64 (pc:Int)) (.int .i64 (pc:Int))&&true))=true
  rw[Ox,Ox];rfl
 refine⟨_,_,n1 q,sA hs (jC fun q _ _=>?_)⟩
 obtain⟨t2,m1,m2⟩:=fA.setCel (A:=[_]) (j:=0) (v:=.agg [.int .i64 (pl:Int),.int .i64 (pc:Int)]) n2 eT rfl (by show 0+2<=2;omega) rfl
 refine⟨_,_,m1 q,jC fun q _ _=>?_⟩
 obtain⟨t3,p1,p2⟩:=fA.setCel (A:=[_,_]) (j:=0) (v:=.int .i64 (e:Int)) m2 nY rfl (by show 0+1<=1;omega) rfl
 exact⟨_,_,p1 q,fun hn=>⟨false,rfl,hQ _ (fA.setLp p2 hn hlb)⟩⟩
def Nk{args:List zA}:iL (.func (.yld l) [] []) args=some (yo+l,args):=rfl
abbrev opB(op:Option (Nat × Nat)):Bool:=op.isSome
def zav{bx:Nat}(hy:YldR l r a0 a1 a2 a6)(hr1:r.state=.ready)(hr2:r.pending=none)(hlen:src.length<=65536)(hby:∀b∈src,b<256) :
  ∀(k off ln cl:Nat) (op:Option (Nat × Nat)) (i0 i1:Int) (acc:List lB) (v:zA) (tf t:Tr vA),src.length-off<k->off<=src.length->ln<=off+1->cl<=off+1->acc.length<=2*off->(op.isSome=true->acc.length+1<=2*off)->(∀p,op=some p->i0=(p.1:Int)/\i1=(p.2:Int)) →
   kK tf->dC tf bx none [.str src]->fA yA.base tf t (hO a0 a1 a2 a6 0 0 0 acc v++[wI sp src ln cl off]++[oH l r]) →
   (match cK k (src.drop off) ln cl op with
    | .ok m=>∀tf' t' v' ln' cl' off',aA tf tf'->fA yA.base tf' t' (hO a0 a1 a2 a6 0 0 0 (acc++m) v'++[wI sp src ln' cl' off']++[oH l r])->Q (.tup []) t'
    | .er e pl pc=>∀tf' t' v' acc' ln' cl' off',aA tf tf'->fA yA.base tf' t' (hO a0 a1 a2 a6 pl pc e acc' v'++[wI sp src ln' cl' off']++[oH l (dO false r)])->Q (.tup []) t') →
   jp 76 2 [.func (.yld l) [] [],.ptr bx 0,.ptr sp 0,.bool op.isSome,.int .i64 i0,.int .i64 i1] t Q:=by
 intro k;induction k with
 | zero=>intro off;omega
 | succ k ih=>
  intro off ln cl op i0 i1 acc v tf t hk hoff hln hcl hacc hacc2 hop hg hbx h hQ;have ho:=Kc (A:=hO a0 a1 a2 a6 0 0 0 acc v) (B:=[oH l r]) (by simpa using h)
  have hA:fA yA.base tf t (hO a0 a1 a2 a6 0 0 0 acc v++wI sp src ln cl off::[oH l r]):=by simpa using h
  have hlb:∀ {t},aA tf t->lA yA 9 ⟨0,t⟩ (.ptr bx 0)=some (.str src):=fun hl=>(dC.le hbx hl).load1 kN rfl rfl
  refine j76_2 ?_
  unfold t76_2 uI uS uU uB uG;refine oA g2 (vC ho (sB (vC (hlb h.tle) (lF ?_))))
  rw[kP];by_cases hlt:off<src.length
  ·have hx:src[off]?=some src[off]:=ybd hlt
   have hdrop:src.drop off=src[off]::src.drop (off+1):=ybl hlt
   rw[hdrop]at hQ;unfold cK at hQ;refine sA (by rw[mC];exact decide_eq_true (by omega)) (vC (hlb h.tle) (lF (oA g2 (vC ho (sB (oA (kM hx) (sB ?_)))))))
   by_cases h10:src[off]=10
   ·rw[yab h10]at hQ
    refine sA (by rw[aE,h10];rfl) ?_
    have nlg:∀(acc':List lB) (v':zA) (tf1 t1:Tr vA),acc'.length<=2*(off+1)->aA tf tf1->fA yA.base tf1 t1 (hO a0 a1 a2 a6 0 0 0 acc' v'++[wI sp src ln cl off]++[oH l r]) →
      (match cK k (src.drop (off+1)) (ln+1) 1 none with
       | .ok m=>∀tf' t' v' ln' cl' off',aA tf1 tf'->fA yA.base tf' t' (hO a0 a1 a2 a6 0 0 0 (acc'++m) v'++[wI sp src ln' cl' off']++[oH l r])->Q (.tup []) t'
       | .er e pl pc=>∀tf' t' v' acc' ln' cl' off',aA tf1 tf'->fA yA.base tf' t' (hO a0 a1 a2 a6 pl pc e acc' v'++[wI sp src ln' cl' off']++[oH l (dO false r)])->Q (.tup []) t') →
      wp 76 (.call 77 [.ptr sp 0] fun _=>.jump 2 [.func (.yld l) [] [],.ptr bx 0,.ptr sp 0,.bool false,uZ i0,uZ i1]) t1 Q:=by
     intro acc' v' tf1 t1 ha hle h1 hQ1;refine yB ?_
     rw[q77];refine TN (A:=hO a0 a1 a2 a6 0 0 0 acc' v') (B:=[oH l r]) (by simpa using h1) (by omega) (by omega) fun t2 h2=>?_
     exact kC (ih (off+1) (ln+1) 1 none i0 i1 acc' v' tf1 t2 (by omega) (by omega) (by omega) (by omega) ha (fun h=>by cases h) (fun p hp=>by cases hp) (hg.mono hle) (dC.le hbx hle) (by simpa using h2) hQ1)
    cases op with
    | some p=>
     obtain⟨e0,e1⟩:=hop p rfl
     subst e0 e1
     refine sA rfl (sA rfl (aT Nk ?_))
     refine Sy (x:=endT p) (L:=[wI sp src ln cl off]) hy hr1 hr2 (by omega) h fun tf1 t1 v1 k1 k2=>?_
     refine pD (tB (by simp) (nlg (acc++[endT p]) v1 tf1 t1 (by have:=hacc2 rfl;simp;omega) k1 k2 ?_))
     unfold LR.close at hQ;revert hQ
     generalize cK k (src.drop (off+1)) (ln+1) 1 none=res
     intro hQ
     cases res with
     | ok m=>exact fun tf' t' v' ln' cl' off' q1 q2=>hQ tf' t' v' ln' cl' off' (k1.trans q1) (by simpa using q2)
     | er e pl pc=>exact fun tf' t' v' acc' ln' cl' off' q1 q2=>hQ tf' t' v' acc' ln' cl' off' (k1.trans q1) q2
    | none=>
     refine tB (by simp) (nlg acc v tf t (by omega) (aA.refl _) h ?_)
     exact hQ
   rw[yaa h10]at hQ;refine tB (by rw[aE];simp;omega) ?_
   have blank:∀n:Nat,off+n<=src.length->0<n->(match cK k (src.drop (off+n)) ln (cl+n) op with
     | .ok m=>∀tf' t' v' ln' cl' off',aA tf tf'->fA yA.base tf' t' (hO a0 a1 a2 a6 0 0 0 (acc++m) v'++[wI sp src ln' cl' off']++[oH l r])->Q (.tup []) t'
     | .er e pl pc=>∀tf' t' v' acc' ln' cl' off',aA tf tf'->fA yA.base tf' t' (hO a0 a1 a2 a6 pl pc e acc' v'++[wI sp src ln' cl' off']++[oH l (dO false r)])->Q (.tup []) t') →
     wp 76 (.call 78 [.ptr sp 0,.int .i64 (n:Int)] fun _=>.jump 2 [.func (.yld l) [] [],.ptr bx 0,.ptr sp 0,.bool op.isSome,uZ i0,uZ i1]) t Q:=by
    intro n hn hn0 hQ1;refine yB ?_
    rw[q78];refine DD hA (by omega) (by omega) fun t2 h2=>?_
    exact kC (ih (off+n) ln (cl+n) op i0 i1 acc v tf t2 (by omega) hn (by omega) (by omega) (by omega) (fun h=>by have:=hacc2 h;omega) hop hg hbx (by simpa using h2) hQ1)
   by_cases h32:src[off]=32
   ·rw[yab (.inl h32)]at hQ
    exact sA (by rw[aE,h32];rfl) (blank 1 (by omega) (by omega) hQ)
   refine tB (by rw[aE];simp;omega) ?_
   by_cases h9:src[off]=9
   ·rw[yab (.inr h9)]at hQ
    exact sA (by rw[aE,h9];rfl) (blank 1 (by omega) (by omega) hQ)
   rw[yaa (by simp[h32,h9])]at hQ
   refine tB (by rw[aE];simp;omega) ?_
   by_cases h35:src[off]=35
   ·rw[yab h35]at hQ
    have hrl:=Gl (fun x=>decide (x≠10)) (src.drop off)
    rw[ydj]at hrl;have hr0:0<(sD (fun x=>decide (x≠10)) (src.drop off)).length:=by
     rw[hdrop];unfold sD;rw[List.takeWhile_cons,yab (by simp[h10])];simp
    refine sA (by rw[aE,h35];rfl) (yB ?_)
    rw[q79,Gn hA (by omega),qA]
    refine lF (yB ?_)
    rw[q37,zbf (by rw[ydj];omega),qA]
    refine lF ?_
    rw[kP];rw[<- hdrop]at hQ;rw[List.drop_drop]at hQ;exact blank _ (by omega) hr0 hQ
   rw[yaa h35]at hQ;refine tB (by rw[aE];simp;omega) (yB ?_)
   rw[<- hdrop]at hQ;rw[q81];refine zat hg hA hlt hlen (by omega) hby fun t1=>?_
   cases htk:xF (src.drop off)with
   | bad e=>
    rw[htk]at hQ;intro h1;have he:e≠0:=by
     intro e0;subst e0;rw[hdrop]at htk;unfold xF at htk;simp only at htk
     repeat (split at htk<;>try (cases htk;done))
    refine oA rfl (fC (X:=cellsOf [.int .u8 0,.str [],.int .i64 (ln:Int),.int .i64 (cl:Int)]) (cQ rfl) (oA rfl (sB (sA rfl (aT Nk ?_)))))
    refine zaj (pl:=ln) (pc:=cl) (L:=[wI sp src ln cl off]) hy he (by simpa using h1) fun t2 h2=>?_
    exact pD (sA rfl (hQ tf t2 v acc ln cl off (aA.refl _) h2))
   | tok kd w=>
    rw[htk]at hQ;intro h1;obtain⟨lw,_⟩:=BO htk
    rw[ydj]at lw;have hw0:0<w.length:=by
     rw[hdrop]at htk;unfold xF at htk;simp only at htk
     split at htk
     ·rename_i hl
      split at htk
      ·cases htk
      ·cases htk
       unfold sD;rw[List.takeWhile_cons,yab (by unfold dI;rw[hl];rfl)];simp
     split at htk
     ·rename_i hd
      split at htk
      ·cases htk
      ·cases htk;rw[yda,ybn];omega
     split at htk
     ·rename_i hd _
      split at htk
      ·cases htk
      ·cases htk
       have:0<bE (src[off]::src.drop (off+1)):=by
        have:0<(zD (src[off]::src.drop (off+1))).length:=by
         unfold zD sD;rw[List.takeWhile_cons,yab (by assumption)];simp
        unfold bE;split<;>omega
       rw[yda,ybn];omega
     split at htk
     ·cases htk;simp
     ·cases htk
    refine oA rfl (fC (X:=cellsOf [.int .u8 (kd:Int),.str w,.int .i64 (ln:Int),.int .i64 (cl:Int)]) (cQ rfl) (oA rfl (sB (sA rfl (aT Nk ?_)))))
    refine Sy (acc:=acc) (v:=v) (x:=⟨kd,w,ln,cl⟩) (L:=[wI sp src ln (cl+w.length) (off+w.length)]) hy hr1 hr2 (by omega) (by simpa using h1) fun tf2 t2 v2 k1 k2=>?_
    have hA2:fA yA.base tf2 t2 (hO a0 a1 a2 a6 0 0 0 (acc++[⟨kd,w,ln,cl⟩]) v2++wI sp src ln (cl+w.length) (off+w.length)::[oH l r]):=by simpa using k2
    refine pD (tB (by simp) (tB (by decide) (oA g0 (vC (sc_pl hA2) (fC (X:=cellsOf [.int .i64 (ln:Int),.int .i64 ((cl+w.length:Nat):Int)]) (cQ rfl) (sA rfl (kC ?_)))))))
    refine ih (off+w.length) ln (cl+w.length) (some (ln,cl+w.length)) _ _ (acc++[⟨kd,w,ln,cl⟩]) v2 tf2 t2 (by omega) (by omega) (by omega) (by omega) (by simp;omega) (fun _=>by simp;omega) (fun p hp=>by cases hp;exact⟨rfl,rfl⟩) (hg.mono k1) (dC.le hbx k1) k2 ?_
    have hdd:(src.drop off).drop w.length=src.drop (off+w.length):=by rw[List.drop_drop]
    simp only[hdd]at hQ;unfold LR.cons at hQ;revert hQ
    generalize cK k (src.drop (off+w.length)) ln (cl+w.length) (some (ln,cl+w.length))=res
    intro hQ
    cases res with
    | ok m=>exact fun tf' t' v' ln' cl' off' q1 q2=>hQ tf' t' v' ln' cl' off' (k1.trans q1) (by simpa using q2)
    | er e pl pc=>exact fun tf' t' v' acc' ln' cl' off' q1 q2=>hQ tf' t' v' acc' ln' cl' off' (k1.trans q1) q2
  ·have hdrop:src.drop off=[]:=ybt (by omega)
   rw[hdrop]at hQ;unfold cK at hQ;refine tB (by rw[mC];simp;omega) ?_
   cases op with
   | some p=>
    obtain⟨e0,e1⟩:=hop p rfl
    subst e0 e1
    refine sA rfl (sA rfl (aT Nk ?_))
    refine Sy (x:=endT p) (L:=[wI sp src ln cl off]) hy hr1 hr2 (by omega) h fun tf1 t1 v1 k1 k2=>?_
    exact pD (hQ tf1 t1 v1 ln cl off k1 k2)
   | none=>
    refine tB (by simp) ?_
    have:=hQ tf t v ln cl off (aA.refl _) (by simpa using h)
    exact this
end
end
section
variable [gC]
def xJ (s:List Nat):LR:=if 65536<s.length then .er 3 0 0 else Bv s
section
variable {t:Tr vA}{Q:pB}{s:List Nat}
def zeq(hg:kK t)(hby:∀b∈s,b<256)
  (hQ:match xJ s with
   | .ok m=>∀t' v,aA t t'->bA t' 4 (m.map lB.d) v->Q (.tup [v,.agg [.int .i64 0,.int .i64 0],.int .i64 0]) t'
   | .er e a b=>∀t',aA t t'->Q (.tup [.nilslice,.agg [.int .i64 (a:Int),.int .i64 (b:Int)],.int .i64 (e:Int)]) t'):Wc yA F 22 [.str s] t Q:=by
 have ho:fA yA.base t t []:=⟨aA.refl _,by simp,by simp,by simp⟩
 refine w22 ?_
 unfold t22;refine jC fun a0 h0 b0=>?_
 obtain⟨t1,e1,e2,e3,e4⟩:=rS (C:=yA) kS h0
 have o1:=fA.newCel (A:=[]) (B:=[]) ho h0 b0 e2 e3 e4
 refine⟨_,_,e1,jC fun a1 h1 b1=>?_⟩
 obtain⟨t2,f1,f2,f3,f4⟩:=rS (C:=yA) eT h1
 have o2:=fA.newCel (A:=[_]) (B:=[]) o1 h1 b1 f2 f3 f4
 refine⟨_,_,f1,jC fun a2 h2 b2=>?_⟩
 obtain⟨t3,k1,k2,k3,k4⟩:=rS (C:=yA) nY h2
 have o3:=fA.newCel (A:=[_,_]) (B:=[]) o2 h2 b2 k2 k3 k4
 refine⟨_,_,k1,?_⟩
 rw[kP];have ends:∀ {tf t':Tr vA} {L:List iE} {v:zA} {a b e:Nat},zA.one v=true->fA yA.base tf t' ([fB a0 none [v],fB a1 none [.int .i64 (a:Int),.int .i64 (b:Int)],fB a2 none [.int .i64 (e:Int)]]++L) →
   lA yA 66 ⟨0,t'⟩ (.ptr a0 0)=some v/\lA yA 29 ⟨0,t'⟩ (.ptr a1 0)=some (.agg [.int .i64 (a:Int),.int .i64 (b:Int)])/\lA yA 30 ⟨0,t'⟩ (.ptr a2 0)=some (.int .i64 (e:Int)):=by
  intro tf t' L v a b e _ h;refine⟨(fA.cel (A:=[]) h).load1 kS rfl rfl,?_,(fA.cel (A:=[_,_]) h).load1 nY rfl rfl⟩
  have:=(fA.cel (A:=[_]) h).at.load (j:=0) (n:=2) eT rfl rfl (by simp)
  simpa using this
 by_cases hl:65536<s.length
 ·have hx:xJ s=.er 3 0 0:=by unfold xJ;rw[yab hl]
  rw[hx]at hQ;refine sA (by rw[mC];exact decide_eq_true (by omega)) (sA rfl (jC fun q _ _=>?_))
  obtain⟨t4,n1,n2⟩:=fA.setCel (A:=[]) (j:=0) (v:=.nilslice) o3 kS rfl (by show 0+1<=1;omega) rfl
  refine⟨_,_,n1 q,jC fun q _ _=>?_⟩
  obtain⟨t5,m1,m2⟩:=fA.setCel (A:=[_]) (j:=0) (v:=.agg [.int .i64 0,.int .i64 0]) n2 eT rfl (by show 0+2<=2;omega) rfl
  refine⟨_,_,m1 q,jC fun q _ _=>?_⟩
  obtain⟨t6,p1,p2⟩:=fA.setCel (A:=[_,_]) (j:=0) (v:=.int .i64 3) m2 nY rfl (by show 0+1<=1;omega) rfl
  obtain⟨l1,l2,l3⟩:=ends (L:=[]) (a:=0) (b:=0) (e:=3) (v:=.nilslice) rfl p2
  exact⟨_,_,p1 q,vC l1 (vC l2 (vC l3 (hQ t6 p2.tle)))⟩
 ·have hx:xJ s=Bv s:=by unfold xJ;rw[yaa hl]
  rw[hx]at hQ;refine tB (by rw[mC];simp;omega) (jC fun a6 h6 b6=>?_)
  obtain⟨t4,n1,n2,n3,n4⟩:=rS (C:=yA) kS h6
  have o4:=fA.newCel (A:=[_,_,_]) (B:=[]) o3 h6 b6 n2 n3 n4
  refine⟨_,_,n1,yB ?_⟩
  rw[q49];refine w49 ?_
  unfold t49;refine jC fun bx hbx bbx=>?_
  obtain⟨t5,m1,⟨cc,m2,m2'⟩,m3,m4⟩:=Sg (v:=.str s) hbx
  have o5:=o4.junk hbx m4
  have hfb:=o4.tfn hbx
  obtain⟨p1,p2⟩:=o5.froze (fun hm=>o4.fresh hbx hm) m2 hfb
  generalize htf:t.set bx (vA.cells cc (zA.str s).cells.length none)=tf1 at p1 p2
  have hcb:dC tf1 bx none [.str s]:=⟨cc,by rw[<- htf,Tr.get_set,yab rfl];rfl,m2'⟩
  refine⟨_,_,m1,?_⟩
  show pA _ _ _ (.range (jR yA) (.func (.func 76) [] [.ptr bx 0]) 2 2 [.ptr a0 0,.ptr a1 0,.ptr a2 0,.ptr a6 0] _ _) _ _
  refine⟨Nat.le_add_right _ _,fun l r hl0 hlb hr1 hr2 hy=>?_⟩
  have hra:Bh (jR yA) (.func (.func 76) [] [.ptr bx 0]) l=some (76,[.func (.yld l) [] [],.ptr bx 0]):=by
   unfold Bh;simp only[zA.asFunc,rA];have:jR yA 76=true:=by kernel_rfl
   rw[this];rfl
  rw[hra,qA];show Wq yA F qC 76 _ _ _
  rw[q76];have o6:=fA.setLp (r:=r) p1 hl0 hlb
  have hyr:YldR l r a0 a1 a2 a6:=fun args t1 Q1 h1 h2 h3=>hy args t1 Q1 h1 h2 h3
  refine w76 ?_
  unfold t76 uS;have lb:lA yA 9 ⟨0,t5.set l (.loop r)⟩ (.ptr bx 0)=some (.str s):=(dC.le hcb o6.tle).load1 kN rfl rfl
  refine sA rfl (vC lb (lF (sA rfl (jC fun sp hsp bsp=>?_))))
  obtain⟨t7,r1,r2,r3,r4⟩:=rS (C:=yA) ty145 hsp
  have o7:=fA.newCel (A:=[_,_,_,_]) (B:=[oH l r]) o6 hsp bsp r2 r3 r4
  refine⟨_,_,r1,jC fun q _ _=>?_⟩
  obtain⟨t8,s1,s2⟩:=fA.setCel (A:=[_,_,_,_]) (j:=0) (v:=.agg [.int .i64 1,.int .i64 1,.str s,.int .i64 0]) o7 ty145 rfl (by show 0+4<=4;omega) rfl
  refine⟨_,_,s1 q,kC ?_⟩
  have o8:fA yA.base tf1 t8 (hO a0 a1 a2 a6 0 0 0 [] .nilslice++[wI sp s 1 1 0]++[oH l r]):=
   fA.add (A:=[fB a0 none [.nilslice],fB a1 none [.int .i64 0,.int .i64 0],fB a2 none [.int .i64 0],fB a6 none [.nilslice]]) (B:=[wI sp s 1 1 0,oH l r]) (o':=uD yA.base 4 (([]:List lB).map lB.d) .nilslice) s2 (fun _ _=>rfl) (fun k hk=>by simp[uD,jI]at hk) (.inl ⟨rfl,rfl⟩) (by simp[uD,jI]) s2.tle
  refine zav hyr hr1 hr2 (by omega) hby (s.length+1) 0 1 1 none 0 0 [] .nilslice tf1 t8 (by omega) (by omega) (by omega) (by omega) (by simp) (fun h=>by cases h) (fun p hp=>by cases hp) (hg.mono p2) hcb o8 ?_
  rw[ycr];unfold Bv at hQ;revert hQ
  generalize cK (s.length+1) s 1 1 none=res
  intro hQ
  cases res with
  | ok m=>
   intro tf' t' v' ln' cl' off' u1 u2;rw[yah]at u2;refine .inl ⟨u2.ok (oH l r) (by simp),?_⟩
   have u3:=fA.delLp u2
   have lv:lA yA 66 ⟨0,t'.del l⟩ (.ptr a6 0)=some v':=(fA.cel (A:=[_,_,_]) u3).load1 kS rfl rfl
   have hv:zR yA.base tf' (t'.del l) 4 (m.map lB.d) v':=u3.ok (uD yA.base 4 (m.map lB.d) v') (by simp)
   have hone:zA.one v'=true:=hv.one
   have hcell:v'.cells=[v']:=by
    rcases hv with⟨e,_⟩ | ⟨b,cl,c,e,_⟩ <;> (subst e;rfl)
   refine vC lv (sA rfl (jC fun q _ _=>?_))
   obtain⟨t9,x1,x2⟩:=fA.setCel (A:=[]) (j:=0) (v:=v') u3 kS (by rw[hcell];rfl) (by rw[hcell];show 0+1<=1;omega) (by rw[hcell,mI];simp[hone])
   have e9:rJ [zA.nilslice] 0 v'.cells=[v']:=by rw[hcell];rfl
   rw[e9]at x2;refine⟨_,_,x1 q,jC fun q _ _=>?_⟩
   obtain⟨t10,y1,y2⟩:=fA.setCel (A:=[_]) (j:=0) (v:=.agg [.int .i64 0,.int .i64 0]) x2 eT rfl (by show 0+2<=2;omega) rfl
   refine⟨_,_,y1 q,jC fun q _ _=>?_⟩
   obtain⟨t11,z1,z2⟩:=fA.setCel (A:=[_,_]) (j:=0) (v:=.int .i64 0) y2 nY rfl (by show 0+1<=1;omega) rfl
   obtain⟨l1,l2,l3⟩:=ends (L:=[_,_,_]) (a:=0) (b:=0) (e:=0) hone z2
   refine⟨_,_,z1 q,vC l1 (vC l2 (vC l3 ?_))⟩
   obtain⟨tf2,w1,w2,w3⟩:=fA.freezeL (A:=[_,_,_,_]) (B:=[wI sp s ln' cl' off']) z2
   exact hQ t11 v' (p2.trans (u1.trans z2.tle)) (w3.mono w2.tle)
  | er e pl pc=>
   intro tf' t' v' acc' ln' cl' off' u1 u2;refine .inr ⟨u2.ok (oH l (dO false r)) (by simp),?_⟩
   have u3:=fA.delLp u2
   obtain⟨l1,l2,l3⟩:=ends (L:=[_,_,_]) (v:=.nilslice) rfl u3
   exact vC l1 (vC l2 (vC l3 (hQ _ (p2.trans (u1.trans u3.tle)))))
def bS(s:List Nat):Nat:=(s.reverse.takeWhile fun b=>decide (b≠10)).length
def zic(hl:s.length<1000000):sC yA F 55 [.str s,.int .u8 10] t=some (.int .i64 ((s.length:Int)-1-(bS s:Int))):=by
 have loop:∀(k:Nat),k<=s.length->bS s=(s.length-k)+bS (s.take k)->jp 87 2 [.str s,.int .u8 10,.int .i64 ((k:Int)-1)] t fun v t'=>v=.int .i64 ((s.length:Int)-1-(bS s:Int))/\t'=t:=by
  intro k;induction k with
  | zero=>
   intro hk he;refine j87_2 ?_
   unfold zg4;refine tB (by rw[zS];simp) ⟨?_,rfl⟩
   rw[List.take_zero]at he;have:bS []=0:=rfl
   congr 1
   omega
  | succ k ih=>
   intro hk he;have hx:s[k]?=some s[k]:=ybd (by omega)
   have e1:((k+1:Nat):Int)-1=(k:Int):=by omega
   refine j87_2 ?_
   unfold zg4 uU;rw[e1];refine sA (by rw[zS];exact decide_eq_true (by omega)) (oA (kM hx) (sB ?_))
   have hc:bS (s.take (k+1))=if s[k]=10 then 0 else bS (s.take k)+1:=by
    unfold bS;rw[vQ hx,List.reverse_append,List.reverse_singleton,List.singleton_append,List.takeWhile_cons];by_cases h10:s[k]=10
    ·simp[h10]
    ·simp[h10]
   by_cases h10:s[k]=10
   ·rw[yab h10]at hc
    refine sA (by rw[aE,h10];rfl) ⟨?_,rfl⟩
    congr 1
    omega
   ·rw[yaa h10]at hc
    refine tB (by rw[aE];simp;omega) (kC ?_)
    have e2:uW ((k:Int)-1)=(k:Int)-1:=iC (by omega) (by omega)
    rw[e2];exact ih (by omega) (by omega)
 refine dD.2 (w55 ?_)
 unfold t55 uI;refine yB ?_
 have h87:sC yA F 87 [.str s,.int .u8 10] t=some (.int .i64 ((s.length:Int)-1-(bS s:Int))):=by
  refine dD.2 (w87 ?_)
  unfold t87;rw[kP];have e2:uW ((s.length:Int)-1)=(s.length:Int)-1:=iC (by omega) (by omega)
  rw[e2];exact kC (loop s.length (ybk _) (by rw[List.take_length];omega))
 rw[q87,h87,qA];exact sB ⟨rfl,rfl⟩
def atL (s:List Nat):Nat:=rT 10 s+1
def atC (s:List Nat):Nat:=bS s+1
def zc2(s:List Nat):rT 10 s<=s.length:=by
 induction s with
 | nil=>exact ybk _
 | cons b s ih=>
  have e:rT 10 (b::s)=bif Nat.beq b 10 then rT 10 s+1 else rT 10 s:=rfl
  rw[e,ybn]
  cases Nat.beq b 10 with
  | true=>rw[cond_true];omega
  | false=>rw[cond_false];omega
def UO(s:List Nat):bS s<=s.length:=by
 unfold bS;have:=(List.takeWhile_sublist (fun b=>decide (b≠10)) (l:=s.reverse)).length_le
 rwa [List.length_reverse]at this
def at_pv(hl:s.length<900000){n:Nat}(hn:n<=s.length):sC yA F 25 [.str s,.int .i64 (n:Int)] t=some (.agg [.int .i64 (atL (s.take n):Int),.int .i64 (atC (s.take n):Int)]):=by
 refine dD.2 (w25 ?_)
 unfold t25 uS uI;have e0:(bif cB (Int.ofNat (zB s)) (n:Int)then Int.ofNat (zB s)else(n:Int))=(n:Int):=by
  rw[kP,mC,decide_eq_false (by omega)];rfl
 rw[e0];have hlen:(s.take n).length=n:=by rw[yda];omega
 refine tB (by rw[mC];simp) (oA (Dq hn) (lF (yB ?_)))
 have hgp:yA.prims.get 54=some (jO Ku):=by kernel_rfl
 have hcn:sC yA F 54 [.str (s.take n),.str [10]] t=some (.int .i64 (rT 10 (s.take n):Int)):=Kq hgp fun H=>rfl
 rw[q54,hcn,qA];refine sB (yB ?_)
 rw[q55];show vE (sC yA F 55 [.str (s.take n),.int .u8 10] t) _
 rw[zic (by omega),qA]
 have h1:=zc2 (s.take n)
 have h2:=UO (s.take n)
 have e1:wD (rT 10 (s.take n):Int)=.int .i64 (atL (s.take n):Int):=by
  show zA.int .i64 (iA .i64 ((rT 10 (s.take n):Int)+1))=_
  rw[iC (by omega) (by omega)];rfl
 have e2:uW (Int.ofNat (zB (s.take n))-(((s.take n).length:Int)-1-(bS (s.take n):Int)))=(atC (s.take n):Int):=by
  unfold uW atC;rw[kP,iC (by omega) (by omega)];omega
 refine sB (sA rfl (sA rfl ?_))
 rw[e1,e2];exact⟨rfl,rfl⟩
end
end
section
variable {y:lD}{cs':List zA}{e k':Int}
variable [gC]
def tRun (ty:Nat)(z:List zA)(cf:jG->List zA)(p0:List Nat)(p1:zA):T:=
 .heavy (tK yA ty) fun a0=>
 .heavy (tK yA 29) fun a1=>
 .heavy (tK yA 30) fun a2=>
 .call 22 [(.str p0)] fun a3=>
 .opt (dG 0 a3) fun a4=>.opt (dG 1 a3) fun a5=>.asG [(.int .i64 0),(.int .i64 0)] a5 fun X6=>
 .opt (dG 2 a3) fun a7=>.asI .i64 a7 fun n8=>.heavy (zC yA 29 a1 (.agg [(.int .i64 (X6.i 0)),(.int .i64 (X6.i 1))])) fun _=>
 .heavy (zC yA 30 a2 (.int .i64 n8)) fun _=>
 .light (fun m=>lA yA 30 ⟨0,m⟩ a2) fun a9=>.asI .i64 a9 fun n10=>.ite (!oB n10 0)
 (.light (fun m=>lA yA ty ⟨0,m⟩ a0) fun a11=>.asG z a11 fun X12=>
 .light (fun m=>lA yA 29 ⟨0,m⟩ a1) fun a13=>.asG [(.int .i64 0),(.int .i64 0)] a13 fun X14=>
 .light (fun m=>lA yA 30 ⟨0,m⟩ a2) fun a15=>.asI .i64 a15 fun n16=>.heavy (zC yA ty a0 (.agg (cf X12))) fun _=>
 .light (fun m=>lA yA 29 ⟨0,m⟩ a1) fun a17=>.ite (same 10 a17 (.agg [(.int .i64 (X14.i 0)),(.int .i64 (X14.i 1))])) (.light (fun m=>lA yA 30 ⟨0,m⟩ a2) fun a18=>.ite (same 10 a18 (.int .i64 n16)) (.heavy (zC yA 29 a1 (.agg [(.int .i64 (X14.i 0)),(.int .i64 (X14.i 1))])) fun _=>
 .light (fun m=>lA yA 30 ⟨0,m⟩ a2) fun a19=>.ite (same 10 a19 (.int .i64 n16)) (.heavy (zC yA 30 a2 (.int .i64 n16)) fun _=>
 .light (fun m=>lA yA ty ⟨0,m⟩ a0) fun a20=>.light (fun m=>lA yA 29 ⟨0,m⟩ a1) fun a21=>.light (fun m=>lA yA 30 ⟨0,m⟩ a2) fun a22=>.ret (.tup [a20,a21,a22])) .fail) .fail) .fail)
 (.call 25 [(.str p0),(.int .i64 (Int.ofNat (zB p0)))] fun a23=>
 .asG [(.int .i64 0),(.int .i64 0)] a23 fun X24=>
 .ite (aB zA.one [a4]) (.heavy (aM (.agg [a4,(.int .i64 0),(.int .i64 0),(.int .i64 (X24.i 0)),(.int .i64 (X24.i 1))])) fun a25=>
 .jump 11 [p1,a0,a1,a2,a25]) .fail)
def tR13 (ty:Nat)(z:List zA)(cf:jG->List zA)(v1 v4 v5 v6 v8:zA):T:=
 .callv v1 [v8] fun a0=>
 .asG z a0 fun X1=>
 .ite true (.heavy (zC yA ty v4 (.agg (cf X1))) fun _=>
 .heavy (zC yA 29 v5 (.agg [(.int .i64 0),(.int .i64 0)])) fun _=>
 .heavy (zC yA 30 v6 (.int .i64 0)) fun _=>
 .light (fun m=>lA yA ty ⟨0,m⟩ v4) fun a2=>.light (fun m=>lA yA 29 ⟨0,m⟩ v5) fun a3=>.light (fun m=>lA yA 30 ⟨0,m⟩ v6) fun a4=>.ret (.tup [a2,a3,a4])) .fail
def tR3 (ty:Nat)(z:List zA)(v0 v1 v2 v3:zA):T:=
 .opt ((nJ .neq).f yA 20 (.tmp 8) (.const .nilIface) v3 .niliface) fun a0=>.asB a0 fun b1=>.ite b1
 (.heavy (zC yA ty v0 (.agg z)) fun _=>
 .heavy (zC yA 30 v1 (.int .i64 120)) fun _=>
 .opt (Dg yA 123 true v3) fun a2=>.opt (dG 0 a2) fun a3=>.asG [(.int .i64 0),(.int .i64 0),(.int .i64 0)] a3 fun X4=>
 .opt (dG 1 a2) fun a5=>.asB a5 fun b6=>.ite true (.ite b6
 (.heavy (zC yA 29 v2 (.agg [(.int .i64 (X4.i 0)),(.int .i64 (X4.i 1))])) fun _=>
 .ite (same 10 (.int .i64 (X4.i 2)) (.int .i64 (X4.i 2))) (.heavy (zC yA 30 v1 (.int .i64 (X4.i 2))) fun _=>
 .ret (.tup [])) .fail)
 (.ret (.tup []))) .fail)
 (.ret (.tup []))
def tRe (ty:Nat)(v4 v5 v6:zA):T:=.light (fun m=>lA yA ty ⟨0,m⟩ v4) fun a2=>.light (fun m=>lA yA 29 ⟨0,m⟩ v5) fun a3=>.light (fun m=>lA yA 30 ⟨0,m⟩ v6) fun a4=>.ret (.tup [a2,a3,a4])
def L3 (b0 b1 b2:Nat)(z:List zA)(a b k:Int):List iE:=[fB b0 none z,fB b1 none [.int .i64 a,.int .i64 b],fB b2 none [.int .i64 k]]
structure RT (T:Nat) (z:List zA) (cf:jG->List zA):Prop where
 ty:∃y,yA.tys.get T=some y/\y.desc.isAgg=true/\y.zero=z/\y.size=z.length
 one:aB zA.one z=true
 ag:xK z (.agg z)=some (cellsOf z)
 cf:cf (cellsOf z)=z
section
variable {t tf:Tr vA}{Q:pB}{s:List Nat}{T:Nat}{z:List zA}{cf:jG->List zA}{J:eE}{A B:List iE}{b0 b1 b2:Nat}{cs:List zA}{a b k:Int}{W:eE}
def ldS (h:fA yA.base tf t (A++fB b0 none cs::B))(hT:yA.tys.get T=some y)(ha:y.desc.isAgg=true)(hs:y.size=cs.length):lA yA T ⟨0,t⟩ (.ptr b0 0)=some (.agg cs):=by
 have:=h.cel.at.load (j:=0) (n:=cs.length) hT ha hs (by omega)
 simpa using this
def stS  (h:fA yA.base tf t (A++fB b0 none cs::B))(hT:yA.tys.get T=some y)(hs:y.size=cs.length)(hl:cs'.length=cs.length)(hone:aB zA.one cs'=true):∃t',(∀q,zC yA T (.ptr b0 0) (.agg cs') ⟨q,t⟩=some (fD,⟨q,t'⟩))/\fA yA.base tf t' (A++fB b0 none cs'::B):=by
 obtain⟨t',h1,h2⟩:=fA.setCel (j:=0) (v:=.agg cs') h hT (by show cs'.length=_;omega) (by show 0+cs'.length<=_;omega) hone
 refine⟨t',h1,?_⟩
 have hov:rJ cs 0 cs'=cs':=by
  unfold rJ;rw[List.take_zero,yah,ybt (by omega),ycd]
 have h2:fA yA.base tf t' (A++fB b0 none (rJ cs 0 cs')::B):=h2
 rwa [hov]at h2
def stI (h:fA yA.base tf t (A++fB b0 none [.int .i64 k]::B)):∃t',(∀q,zC yA 30 (.ptr b0 0) (.int .i64 k') ⟨q,t⟩=some (fD,⟨q,t'⟩))/\fA yA.base tf t' (A++fB b0 none [.int .i64 k']::B):=by
 obtain⟨t',h1,h2⟩:=fA.setCel (j:=0) (v:=.int .i64 k') h nY rfl (by show 0+1<=1;omega) rfl
 exact⟨t',h1,h2⟩
def ag2{a b:Int}:xK [.int .i64 0,.int .i64 0] (.agg [.int .i64 a,.int .i64 b])=some (cellsOf [.int .i64 a,.int .i64 b]):=cQ rfl
def zhk(hR:RT T z cf)(hl:cs.length=z.length)(h:fA yA.base tf t (A++L3 b0 b1 b2 cs a b k))(hQ:Q (.tup [.agg cs,.agg [.int .i64 a,.int .i64 b],.int .i64 k]) t):pA yA.base W J (tRe T (.ptr b0 0) (.ptr b1 0) (.ptr b2 0)) t Q:=by
 obtain⟨y,h1,h2,h3,h4⟩:=hR.ty
 unfold tRe;refine vC (ldS h h1 h2 (by omega)) (vC (v:=.agg [.int .i64 a,.int .i64 b]) ?_ (vC (v:=.int .i64 k) ?_ hQ))
 ·exact ldS (A:=A++[fB b0 none cs]) (B:=[fB b2 none [.int .i64 k]]) (by simpa[L3]using h) eT rfl rfl
 ·have h':fA yA.base tf t ((A++[fB b0 none cs,fB b1 none [.int .i64 a,.int .i64 b]])++fB b2 none [.int .i64 k]::[]):=by simpa[L3]using h
  exact h'.cel.load1 nY rfl rfl
def set0(hR:RT T z cf) (hl:cs.length=z.length)(hl':cs'.length=z.length)(hone:aB zA.one cs'=true)(h:fA yA.base tf t (A++L3 b0 b1 b2 cs a b k)):∃t',(∀q,zC yA T (.ptr b0 0) (.agg cs') ⟨q,t⟩=some (fD,⟨q,t'⟩))/\fA yA.base tf t' (A++L3 b0 b1 b2 cs' a b k):=by
 obtain⟨y,h1,h2,h3,h4⟩:=hR.ty
 exact stS h h1 (by omega) (by omega) hone
def set1{a' b':Int}(h:fA yA.base tf t (A++L3 b0 b1 b2 cs a b k)):∃t',(∀q,zC yA 29 (.ptr b1 0) (.agg [.int .i64 a',.int .i64 b']) ⟨q,t⟩=some (fD,⟨q,t'⟩))/\fA yA.base tf t' (A++L3 b0 b1 b2 cs a' b' k):=by
 obtain⟨t',h1,h2⟩:=stS (A:=A++[fB b0 none cs]) (B:=[fB b2 none [.int .i64 k]]) (cs:=[.int .i64 a,.int .i64 b]) (b0:=b1) (cs':=[.int .i64 a',.int .i64 b']) (by simpa[L3]using h) eT rfl rfl rfl
 exact⟨t',h1,by simpa[L3]using h2⟩
def set2 (h:fA yA.base tf t (A++L3 b0 b1 b2 cs a b k)):∃t',(∀q,zC yA 30 (.ptr b2 0) (.int .i64 k') ⟨q,t⟩=some (fD,⟨q,t'⟩))/\fA yA.base tf t' (A++L3 b0 b1 b2 cs a b k'):=by
 obtain⟨t',h1,h2⟩:=stI (A:=A++[fB b0 none cs,fB b1 none [.int .i64 a,.int .i64 b]]) (B:=[]) (k':=k') (by simpa[L3]using h)
 exact⟨t',h1,by simpa[L3]using h2⟩
def ld1(h:fA yA.base tf t (A++L3 b0 b1 b2 cs a b k)):lA yA 29 ⟨0,t⟩ (.ptr b1 0)=some (.agg [.int .i64 a,.int .i64 b]):=
 ldS (A:=A++[fB b0 none cs]) (B:=[fB b2 none [.int .i64 k]]) (by simpa[L3]using h) eT rfl rfl
def ld2(h:fA yA.base tf t (A++L3 b0 b1 b2 cs a b k)):lA yA 30 ⟨0,t⟩ (.ptr b2 0)=some (.int .i64 k):=by
 have h':fA yA.base tf t ((A++[fB b0 none cs,fB b1 none [.int .i64 a,.int .i64 b]])++fB b2 none [.int .i64 k]::[]):=by simpa[L3]using h
 exact h'.cel.load1 nY rfl rfl
def clo_ok(hR:RT T z cf){x y:Int}(hl:cs.length=z.length)(h:fA yA.base tf t (A++L3 b0 b1 b2 cs a b k))(hQ:∀t',fA yA.base tf t' (A++L3 b0 b1 b2 z x y e)->Q (.tup []) t') :
  pA yA.base W J (tR3 T z (.ptr b0 0) (.ptr b2 0) (.ptr b1 0) (.iface 123 (.agg [.int .i64 x,.int .i64 y,.int .i64 e]))) t Q:=by
 unfold tR3;refine oA (v:=.bool true) (by kernel_rfl) (pD (sA rfl ?_))
 obtain⟨t1,h1,h2⟩:=set0 hR (cs':=z) hl rfl hR.one h
 refine jC fun q _ _=>⟨_,_,h1 q,?_⟩
 obtain⟨t2,h3,h4⟩:=set2 (k':=120) h2
 refine jC fun q _ _=>⟨_,_,h3 q,?_⟩
 refine oA (v:=.tup [.agg [.int .i64 x,.int .i64 y,.int .i64 e],.bool true]) (by kernel_rfl) (oA (v:=.agg [.int .i64 x,.int .i64 y,.int .i64 e]) rfl (fC (X:=cellsOf [.int .i64 x,.int .i64 y,.int .i64 e]) (cQ rfl) (oA (v:=.bool true) rfl (pD (sA rfl (sA rfl ?_))))))
 obtain⟨t3,h5,h6⟩:=set1 (a':=x) (b':=y) h4
 refine jC fun q _ _=>⟨_,_,h5 q,?_⟩
 refine sA (by show same 10 (.int .i64 e) (.int .i64 e)=true;simp[same,yN,aE]) ?_
 obtain⟨t4,h7,h8⟩:=set2 (k':=e) h6
 refine jC fun q _ _=>⟨_,_,h7 q,?_⟩
 exact hQ _ h8
def zeg  : same 10 (.int .i64 e) (.int .i64 e)=true:=by simp[same,yN,aE]
def same_2{a b:Int}:same 10 (.agg [.int .i64 a,.int .i64 b]) (.agg [.int .i64 a,.int .i64 b])=true:=by simp[same,same.sames,yN,aE]
def tail13{α:Type}{rd:Tr vA->α->zA->Prop}{good:Tr vA->α->List zA->Prop}{P:cI}{r:PR α}{g:Nat}(hR:RT T z cf)(hL:P.L=L3 b0 b1 b2 z 0 0 0)(h:St P tf t 0 0)
  (hQ:match r with
   | .ok x _=>∀tf' t' cs,aA tf tf'->aA tf' t'->good tf' x cs->Q (.tup [.agg cs,.agg [.int .i64 0,.int .i64 0],.int .i64 0]) t'
   | .er e i=>∀t',aA tf t'->Q (.tup [.agg z,.agg [.int .i64 ((yG P i).line:Int),.int .i64 ((yG P i).col:Int)],.int .i64 (e:Int)]) t')
  (hcall:∀Q E,Ok P rd 0 tf r Q E->jE yA F qC vF E g [.ptr P.bp 0] t Q) (hg:Nat.blt g pn=true)
  (hrd:∀tf' x v,rd tf' x v->∃cs,v=.agg cs/\cs.length=z.length/\xK z (.agg cs)=some (cellsOf cs)/\cf (cellsOf cs)=cs/\aB zA.one cs=true/\good tf' x cs) :
  pA yA.base (jE yA F qC vF fun v t'=>pA yA.base (Wq yA F qC) noJ (tR3 T z (.ptr b0 0) (.ptr b2 0) (.ptr b1 0) v) t' fun _ t''=>pA yA.base (Wq yA F qC) noJ (tRe T (.ptr b0 0) (.ptr b1 0) (.ptr b2 0)) t'' Q) noJ
   (tR13 T z cf (.func (.func g) [] []) (.ptr b0 0) (.ptr b1 0) (.ptr b2 0) (.ptr P.bp 0)) t Q:=by
 unfold tR13;have hf:iL (.func (.func g) [] []) [.ptr P.bp 0]=some (g,[.ptr P.bp 0]):=by
  unfold iL;simp only[zA.asFunc,rA,hg,sE];rfl
 refine aT hf (hcall _ _ ?_)
 cases r with
 | er e i=>
  intro tf' t' n' d' hle hst;have ho:fA yA.base tf' t' ([tG P n' d']++L3 b0 b1 b2 z 0 0 0):=by rw[<- hL];exact hst.ob
  refine clo_ok hR rfl ho fun t2 ho2=>?_
  refine zhk hR rfl ho2 ?_
  exact hQ t2 (hle.trans ho2.tle)
 | ok x n=>
  intro tf' t' v hle hst hv;obtain⟨cs,rfl,h1,h2,h3,h4,h5⟩:=hrd _ _ _ hv
  have ho:fA yA.base tf' t' ([tG P n 0]++L3 b0 b1 b2 z 0 0 0):=by rw[<- hL];exact hst.ob
  refine fC h2 (sA rfl ?_)
  rw[h3];obtain⟨t1,k1,k2⟩:=set0 hR (cs':=cs) rfl h1 h4 ho
  refine jC fun q _ _=>⟨_,_,k1 q,?_⟩
  obtain⟨t2,k3,k4⟩:=set1 (a':=0) (b':=0) k2
  refine jC fun q _ _=>⟨_,_,k3 q,?_⟩
  obtain⟨t3,k5,k6⟩:=set2 (k':=0) k4
  refine jC fun q _ _=>⟨_,_,k5 q,?_⟩
  exact zhk hR h1 k6 (hQ tf' t3 cs hle k6.tle h5)
def zhf{p1:zA}(hR:RT T z cf)(hg:kK t)(hby:∀b∈s,b<256)(hgood:∀m,xJ s=.ok m->s.length<900000/\m.length<300000/\∀x∈m,dT x)
  (hE:∀e a b,xJ s=.er e a b->e≠0/\∀t',aA t t'->Q (.tup [.agg z,.agg [.int .i64 (a:Int),.int .i64 (b:Int)],.int .i64 (e:Int)]) t')
  (hT:∀m,xJ s=.ok m->∀tf1 t1 P b0 b1 b2,P.tk=m->P.el=atL s->P.ec=atC s->P.L=L3 b0 b1 b2 z 0 0 0->aA t tf1->St P tf1 t1 0 0->J 11 [p1,.ptr b0 0,.ptr b1 0,.ptr b2 0,.ptr P.bp 0] t1 Q) :
  pA yA.base (Wq yA F qC) J (tRun T z cf s p1) t Q:=by
 obtain⟨y,y1,y2,y3,y4⟩:=hR.ty
 unfold tRun;refine jC fun c0 hc0 hb0=>?_
 obtain⟨u0,a1,a2,a3,a4⟩:=rS (C:=yA) y1 hc0
 refine⟨_,_,a1,?_⟩
 have o0:fA yA.base t t []:=⟨aA.refl _,by simp,by simp,by simp⟩
 have o1:=fA.newCel (A:=[]) (B:=[]) o0 hc0 hb0 a2 a3 a4
 refine jC fun c1 hc1 hb1=>?_
 obtain⟨u1,a5,a6,a7,a8⟩:=rS (C:=yA) eT hc1
 refine⟨_,_,a5,?_⟩
 have o2:=fA.newCel (A:=[fB c0 none y.zero]) (B:=[]) o1 hc1 hb1 a6 a7 a8
 refine jC fun c2 hc2 hb2=>?_
 obtain⟨u2,a9,a10,a11,a12⟩:=rS (C:=yA) nY hc2
 refine⟨_,_,a9,?_⟩
 have o3:=fA.newCel (A:=[fB c0 none y.zero,fB c1 none [.int .i64 0,.int .i64 0]]) (B:=[]) o2 hc2 hb2 a10 a11 a12
 rw[y3]at o3;have o3:fA yA.base t u2 (L3 c0 c1 c2 z 0 0 0):=o3
 refine yB ?_
 rw[q22];refine Wc.objs (R:=fun v t'=>match xJ s with
   | .ok m=>∃v',v=.tup [v',.agg [.int .i64 0,.int .i64 0],.int .i64 0]/\bA t' 4 (m.map lB.d) v'
   | .er e a b=>v=.tup [.nilslice,.agg [.int .i64 (a:Int),.int .i64 (b:Int)],.int .i64 (e:Int)]) (zeq hg hby ?_) o3 fun v tf1 t1 hle ho hv=>?_
 ·cases hx:xJ s with
  | ok m=>exact fun t' v k1 k2=>⟨k1,v,rfl,k2⟩
  | er e a b=>exact fun t' k1=>⟨k1,rfl⟩
 cases hx:xJ s with
 | er e a b=>
  rw[hx]at hv;have hv:v=.tup [.nilslice,.agg [.int .i64 (a:Int),.int .i64 (b:Int)],.int .i64 (e:Int)]:=hv
  subst hv;obtain⟨hne,hQ⟩:=hE e a b hx
  refine oA (v:=.nilslice) rfl (oA (v:=.agg [.int .i64 (a:Int),.int .i64 (b:Int)]) rfl (fC ag2 (oA (v:=.int .i64 (e:Int)) rfl (sB ?_))))
  obtain⟨t2,k1,k2⟩:=set1 (A:=[]) (a':=(a:Int)) (b':=(b:Int)) ho
  refine jC fun q _ _=>⟨_,_,k1 q,?_⟩
  obtain⟨t3,k3,k4⟩:=set2 (k':=(e:Int)) k2
  refine jC fun q _ _=>⟨_,_,k3 q,?_⟩
  refine vC (ld2 k4) (sB (sA (by rw[aE];simp;omega) ?_))
  refine vC (ldS (A:=[]) k4 y1 y2 y4) (fC hR.ag (vC (ld1 k4) (fC ag2 (vC (ld2 k4) (sB ?_)))))
  rw[hR.cf];obtain⟨t4,k5,k6⟩:=set0 hR (cs':=z) rfl rfl hR.one k4
  refine jC fun q _ _=>⟨_,_,k5 q,?_⟩
  refine vC (ld1 k6) (sA same_2 (vC (ld2 k6) (sA zeg ?_)))
  obtain⟨t5,k7,k8⟩:=set1 (a':=(a:Int)) (b':=(b:Int)) k6
  refine jC fun q _ _=>⟨_,_,k7 q,?_⟩
  refine vC (ld2 k8) (sA zeg ?_)
  obtain⟨t6,k9,k10⟩:=set2 (k':=(e:Int)) k8
  refine jC fun q _ _=>⟨_,_,k9 q,?_⟩
  refine zhk (W:=Wq yA F qC) (J:=J) hR rfl k10 (hQ t6 (hle.trans k10.tle))
 | ok m=>
  rw[hx]at hv;obtain⟨v',rfl,hv'⟩:=hv
  obtain⟨g0,g1,g2⟩:=hgood m hx
  refine oA (v:=v') rfl (oA (v:=.agg [.int .i64 0,.int .i64 0]) rfl (fC ag2 (oA (v:=.int .i64 0) rfl (sB ?_))))
  obtain⟨t2,k1,k2⟩:=set1 (A:=[]) (a':=0) (b':=0) ho
  refine jC fun q _ _=>⟨_,_,k1 q,?_⟩
  obtain⟨t3,k3,k4⟩:=set2 (k':=0) k2
  refine jC fun q _ _=>⟨_,_,k3 q,?_⟩
  refine vC (ld2 k4) (sB (tB (by simp[aE]) (yB ?_)))
  rw[q25,kP,at_pv g0 (ybk _),qA,List.take_length]
  refine fC ag2 (sA (by
   obtain⟨cl,he,_⟩:=hv'
   rcases he with⟨rfl,_⟩ | ⟨b,off,cap,rfl,_⟩<;>rfl) ?_)
  refine jC fun c8 hc8 hb8=>?_
  obtain⟨u8,m1,m2,m3,m4⟩:=Sg (v:=.agg [v',.int .i64 0,.int .i64 0,.int .i64 (atL s:Int),.int .i64 (atC s:Int)]) hc8
  refine⟨_,_,m1,kC ?_⟩
  have o8:=fA.newCel (A:=[]) (B:=L3 c0 c1 c2 z 0 0 0) k4 hc8 hb8 m2 m3 m4
  exact hT m hx tf1 u8 ⟨m,c8,v',atL s,atC s,L3 c0 c1 c2 z 0 0 0⟩ c0 c1 c2 rfl rfl rfl rfl hle ⟨hv',o8,g1,yaw _,g2,hg.mono hle⟩
end
end
section
variable {p:Nat->Bool}{r s:List Nat}{b:Nat}{m:List lB}
def Kj   : ∀b∈sD p s,p b=true:=by
 intro b hb;unfold sD at hb;induction s with
 | nil=>cases hb
 | cons x s ih=>
  rw[List.takeWhile_cons]at hb;split at hb
  ·rcases ybs.1 hb with rfl | h
   ·assumption
   ·exact ih h
  ·cases hb
def Ki   : ∃r,s=sD p s++r/\∀b r',r=b::r'->p b=false:=by
 refine⟨s.dropWhile p,(List.takeWhile_append_dropWhile).symm,fun b r' h=>?_⟩
 have:=List.head?_dropWhile_not p s
 rw[h]at this;simpa using this
def oX {a:List Nat}(h:∀b∈a,p b=true)(hr:∀b r',r=b::r'->p b=false):sD p (a++r)=a:=by
 unfold sD;induction a with
 | nil=>
  cases r with
  | nil=>rfl
  | cons b r'=>rw[yah,List.takeWhile_cons,hr b r' rfl];rfl
 | cons x a ih=>
  rw[List.cons_append,List.takeWhile_cons,h x yby,yab rfl,ih fun b hb=>h b (ybr _ hb)]
def Zo (h:nD b=true):decide (b≠47)=true:=by
 unfold nD at h;simp only[ybb,decide_eq_true_eq]at h ⊢
 omega
def Rg(f q:List Nat):(f++q)[f.length]?=q.head?:=by
 rw[ybp (ybk _),Nat.sub_self]
 cases q<;>rfl
def Ob(f q:List Nat):(f++q).take f.length=f:=by simp
def Rr(f q:List Nat)(b:Nat):(f++b::q).drop (f.length+1)=q:=by
 rw[List.drop_append,ybt (by omega),show f.length+1-f.length=1 from by omega];rfl
def zht   (he:s=b::r)(hd:nD b=true)(h:rI s=false):kR (s.take (bE s))/\0<(s.take (bE s)).length:=by
 unfold rI at h;simp only[yal,decide_eq_false_iff_not]at h;obtain⟨⟨⟨⟨h1,h2⟩,h3⟩,h4⟩,h5⟩:=h
 have hf:zD s≠[]:=by
  intro e;unfold zD sD at e;rw[he,List.takeWhile_cons,hd,yab rfl]at e
  cases e
 obtain⟨q,hq1,hq2⟩:=Ki (p:=nD) (s:=s)
 have hq1:s=zD s++q:=hq1
 have hall:∀x∈zD s,nD x=true:=Kj
 have hpos:0<(zD s).length:=List.length_pos_iff.2 hf
 have hgd:s[(zD s).length]?=q.head?:=by
  have:=Rg (zD s) q
  rwa [<- hq1]at this
 by_cases hs:dE s=[]
 ·have hl:bE s=(zD s).length:=yab hs
  have ht:s.take (bE s)=zD s:=by rw[hl];have:=Ob (zD s) q;rwa [<- hq1]at this
  rw[ht];have hc:tN (zD s)=zD s:=by
   have:=oX (p:=fun b=>decide (b≠47)) (a:=zD s) (r:=[]) (fun b hb=>Zo (hall b hb)) (fun _ _ e=>by cases e)
   rwa [ycd]at this
  refine⟨⟨by rw[hl]at h1;omega,by rw[hc];exact hall,by rw[hc];exact hf,by rw[hc];exact h3,fun hh=>?_⟩,hpos⟩
  unfold rH at hh;have:=Zo (hall 47 (by simpa using hh))
  simp at this
 ·have hl:bE s=(zD s).length+1+(dE s).length:=yaa hs
  have hsl:s[(zD s).length]?=some 47:=by
   cases Decidable.em (s[(zD s).length]?=some 47)with
   | inl h=>exact h
   | inr h=>exact absurd (yaa h) hs
  rw[hgd]at hsl;obtain⟨u,rfl⟩:∃u,q=47::u:=by
   cases q with
   | nil=>cases hsl
   | cons x u=>rw[List.head?_cons]at hsl;cases hsl;exact⟨u,rfl⟩
  have hsec:dE s=sD nD u:=by
   unfold dE;rw[yab (by rw[hgd];exact hsl)]
   congr 1
   have:=Rr (zD s) u 47
   rwa [<- hq1]at this
  obtain⟨w,hw1,_⟩:=Ki (p:=nD) (s:=u)
  rw[<- hsec]at hw1;have hall2:∀x∈dE s,nD x=true:=by rw[hsec];exact Kj
  have ht:s.take (bE s)=zD s++47::dE s:=by
   have e:s=(zD s++47::dE s)++w:=by rw[ybz,List.cons_append,<- hw1];exact hq1
   rw[hl];have:=Ob (zD s++47::dE s) w
   rw[<- e]at this;rw[ybg,ybn,show(zD s).length+((dE s).length+1)=(zD s).length+1+(dE s).length from by omega]at this
   exact this
  rw[ht];have hc:tN (zD s++47::dE s)=zD s:=oX (fun b hb=>Zo (hall b hb)) (fun b r' e=>by cases e;rfl)
  have hcb:yO (zD s++47::dE s)=dE s:=by
   unfold yO;rw[hc];exact Rr _ _ _
  refine⟨⟨?_,by rw[hc];exact hall,by rw[hc];exact hf,by rw[hc];exact h3,fun _=>?_⟩,by rw[ybg];omega⟩
  ·rw[hl]at h1;simp only[ybg,ybn];omega
  ·rw[hcb]
   exact⟨hs,hall2,h4,h5⟩
def lY {k:Nat}{w:List Nat}(h:xF s=.tok k w):0<w.length/\(k=2->kR w)/\(k=3->Ry w)/\k≠5:=by
 unfold xF at h;split at h
 ·cases h
 ·rename_i b r
  split at h
  ·rename_i hb
   split at h
   ·cases h
   ·cases h
    refine⟨?_,fun e=>by omega,fun e=>by omega,by omega⟩
    unfold sD;rw[List.takeWhile_cons,yab (by unfold dI;rw[hb];rfl)]
    simp
  ·split at h
   ·rename_i hb
    simp only[ybb]at hb;split at h
    ·cases h
    ·rename_i hd
     cases h;have hl:10<=(b::r).length:=by
      have:=hb.2
      unfold zH at this;simp only[ybb,decide_eq_true_eq]at this;exact this.1
     have hlt:((b::r).take 10).length=10:=by rw[yda];omega
     refine⟨by omega,fun e=>by omega,fun _=>⟨hlt,?_,?_⟩,by omega⟩
     ·have:=hb.2
      unfold zH at this ⊢
      simp only[ybb,decide_eq_true_eq]at this ⊢
      refine⟨by omega,?_⟩
      have h2:=this.2
      rw[ycb]at h2 ⊢
      intro i hi;have hi':=List.mem_range.1 hi
      have:=h2 i hi
      rw[List.getD_eq_getElem?_getD,List.getElem?_take_of_lt hi',<- List.getD_eq_getElem?_getD];exact this
     ·have hd:uN (b::r)=false:=by simpa using hd
      unfold uN at hd;simp only[yal,decide_eq_false_iff_not]at hd
      cases hx:Ae ((b::r).take 10)with
      | none=>exact absurd hx hd.2
      | some n=>exact⟨n,rfl⟩
   ·split at h
    ·rename_i hb
     split at h
     ·cases h
     ·rename_i hn
      cases h;have hn:rI (b::r)=false:=by simpa using hn
      obtain⟨h1,h2⟩:=zht rfl hb hn
      exact⟨h2,fun _=>h1,fun e=>by omega,by omega⟩
    ·split at h
     ·cases h
      exact⟨by simp,fun e=>by omega,fun e=>by omega,by omega⟩
     ·cases h
def bad_ne {e:Nat}(h:xF s=.bad e):e≠0:=by
 unfold xF at h;repeat' split at h
 all_goals first | (cases h;decide) | cases h
def Zj(p:Nat × Nat):dT (endT p):=⟨fun e=>(by cases e),fun e=>(by cases e)⟩
def Sa{t:lB}{r:LR} (h:r.cons t=.ok m):∃m',r=.ok m'/\m=t::m':=by
 cases r with
 | ok l=>cases h;exact⟨l,rfl,rfl⟩
 | er _ _ _=>cases h
def LQ{op:Option (Nat × Nat)}{r:LR} (h:LR.close op r=.ok m):∃m',r=.ok m'/\m.length<=m'.length+1/\∀x∈m,x∈m'\/dT x:=by
 cases op with
 | none=>exact⟨m,h,by omega,fun x hx=>.inl hx⟩
 | some p=>
  obtain⟨m',h1,rfl⟩:=Sa h
  refine⟨m',h1,by simp,fun x hx=>?_⟩
  rcases ybs.1 hx with rfl | hx
  ·exact .inr (Zj p)
  ·exact .inl hx
def zb4:∀(k:Nat) (s:List Nat) (ln cl:Nat) (op:Option (Nat × Nat)) (m:List lB),cK k s ln cl op=.ok m->m.length<=s.length+1/\∀x∈m,dT x:=by
 intro k;induction k with
 | zero=>intro s ln cl op m h;cases h;exact⟨by simp,by simp⟩
 | succ k ih=>
  intro s ln cl op m h;unfold cK at h;split at h
  ·cases ‹_+1=0›
  ·obtain⟨m',h1,h2,h3⟩:=LQ h
   cases h1;exact⟨h2,fun x hx=>(h3 x hx).elim (fun h=>by cases h) id⟩
  ·rename_i b r heq
   cases heq;split at h
   ·obtain⟨m',h1,h2,h3⟩:=LQ h
    obtain⟨g1,g2⟩:=ih _ _ _ _ _ h1
    exact⟨by rw[ybn];omega,fun x hx=>(h3 x hx).elim (g2 x) id⟩
   ·split at h
    ·obtain⟨g1,g2⟩:=ih _ _ _ _ _ h
     exact⟨by rw[ybn];omega,g2⟩
    ·split at h
     ·obtain⟨g1,g2⟩:=ih _ _ _ _ _ h
      refine⟨Nat.le_trans g1 ?_,g2⟩
      rw[ydj];omega
     ·split at h
      ·cases h
      ·rename_i kd w ht
       obtain⟨m',h1,rfl⟩:=Sa h
       obtain⟨g1,g2⟩:=ih _ _ _ _ _ h1
       obtain⟨f1,f2,f3,_⟩:=lY ht
       rw[ydj]at g1;refine⟨by simp only[ybn]at g1 ⊢;omega,fun x hx=>?_⟩
       rcases ybs.1 hx with rfl | hx
       ·exact⟨f2,f3⟩
       ·exact g2 x hx
def zh7:∀(k:Nat) (s:List Nat) (ln cl:Nat) (op:Option (Nat × Nat)) (e a b:Nat),cK k s ln cl op=.er e a b->e≠0:=by
 have hcons:∀(t:lB) (r:LR) (e a b:Nat),r.cons t=.er e a b->r=.er e a b:=by
  intro t r e a b h
  cases r with
  | ok l=>cases h
  | er _ _ _=>cases h;rfl
 have hclose:∀(op:Option (Nat × Nat)) (r:LR) (e a b:Nat),LR.close op r=.er e a b->r=.er e a b:=by
  intro op r e a b h
  cases op with
  | none=>exact h
  | some p=>exact hcons _ _ _ _ _ h
 intro k;induction k with
 | zero=>intro s ln cl op e a b h;cases h
 | succ k ih=>
  intro s ln cl op e a b h;unfold cK at h;split at h
  ·cases ‹_+1=0›
  ·have:=hclose _ _ _ _ _ h;cases this
  ·rename_i x r heq
   cases heq;split at h
   ·exact ih _ _ _ _ _ _ _ (hclose _ _ _ _ _ h)
   ·split at h
    ·exact ih _ _ _ _ _ _ _ h
    ·split at h
     ·exact ih _ _ _ _ _ _ _ h
     ·split at h
      ·rename_i ht
       cases h;exact bad_ne ht
      ·exact ih _ _ _ _ _ _ _ (hcons _ _ _ _ _ h)
end
section
variable {m:List lB}{a b e:Nat}{α:Type}
variable [gC]
def t67_3_eq(v0 v1 v2 v3:zA):t67_3 v0 v1 v2 v3=tR3 50 zE v0 v1 v2 v3:=rfl
def t40_e_eq(v4 v5 v6:zA):t40_e v4 v5 v6=tRe 50 v4 v5 v6:=rfl
def t70_3_eq(v0 v1 v2 v3:zA):t70_3 v0 v1 v2 v3=tR3 47 zV v0 v1 v2 v3:=rfl
def t45_e_eq(v4 v5 v6:zA):t45_e v4 v5 v6=tRe 47 v4 v5 v6:=rfl
def rP (m:List lB)(s:List Nat)(i:Nat):lB:=(m[i]?).getD ⟨0,[],atL s,atC s⟩
def Qp{s:List Nat} (h:xJ s=.ok m):s.length<900000/\m.length<300000/\∀x∈m,dT x:=by
 unfold xJ at h;split at h
 ·cases h
 ·obtain⟨h1,h2⟩:=zb4 _ _ _ _ _ _ h
  exact⟨by omega,by omega,h2⟩
def GP{s:List Nat} (h:xJ s=.er e a b):e≠0:=by
 unfold xJ at h;split at h
 ·cases h;decide
 ·exact zh7 _ _ _ _ _ _ _ _ h
inductive RP (α:Type) where
 | ok (x:α)
 | er (e l c:Nat)
def bL {α:Type}(top:List lB->PR α)(s:List Nat):RP α:=
 match xJ s with
 | .er e a b=>.er e a b
 | .ok m=>match top m with
  | .ok x _=>.ok x
  | .er e i=>.er e (rP m s i).line (rP m s i).col
def Pd {top:List lB->PR α}{s:List Nat} (h:xJ s=.ok m):bL top s=match top m with | .ok x _=>.ok x | .er e i=>.er e (rP m s i).line (rP m s i).col:=by unfold bL;rw[h]
def Vr {top:List lB->PR α}{s:List Nat} (h:xJ s=.er e a b):bL top s=.er e a b:=by unfold bL;rw[h]
end
end Go.Proofs
