/- When a code is sound: the whole. -/
import Derived.Lib.ItoaMem
import Derived.Test.YthmbkdkibhffbaaGreatDoorG16
set_option linter.all false
noncomputable section
set_option maxRecDepth 100000
namespace Go.Proofs
open Go Go.Am
variable [dC]
variable {t t0 tf:Tr jA}
theorem zoc{d:List Nat}{nb box k v:Nat}{Q:cB}(hown:tF t nb .i64 d)(hcel:xD t box none [.slice nb 0 d.length d.length])(hnb:yA.base<=nb)(hne:box≠nb)(hk:k<d.length)(hv:v<1000000)
  (hS:∀d' t',oM d k (v+1)=some d'->kD nb t t'->tF t' nb .i64 d'->Q (.bool true) t') (hN:oM d k (v+1)=none->Q (.bool false) t):Wc yA F 109 [.int .i64 (k:Int),.int .i64 (v:Int),.ptr box 0] t Q:=by
 have l0:mA yA 105 ⟨0,t⟩ (.ptr box 0)=some (.slice nb 0 d.length d.length):=hcel.load1 zeh rfl rfl
 have ia:zB yA 105 (.slice nb 0 d.length d.length) (.int .i64 (k:Int))=some (.ptr nb (0+k*1)):=dL zt8 hk
 have e0:0+k*1=k:=by omega
 rw[e0]at ia;have hx:d[k]?=some d[k]:=yae hk
 have l1:=hown.load (C:=yA) hx ty3 rfl
 have ev:vA .i64 ((v:Int)+1)=((v+1:Nat):Int):=by rw[fB (by omega) (by omega)];omega
 refine w109 _ _ _ ?_
 simp only[t109,pA];rw[l0,xA,ia,xA,l1,xA,yB,xA,ev];by_cases h0:d[k]=0
 ·rw[h0]
  refine xB (by decide) ?_
  rw[xA,ia,xA];intro n _ _;obtain⟨t',s1,s2,s3⟩:=hown.store (C:=yA) hnb hk (v+1) ty3 rfl
  rw[s1 n,xA];have hc':xD t' box none [.slice nb 0 d.length d.length]:=hcel.off (s3 box hne)
  have l0':mA yA 105 ⟨0,t'⟩ (.ptr box 0)=some (.slice nb 0 d.length d.length):=hc'.load1 zeh rfl rfl
  have hx':(d.set k (v+1))[k]?=some (v+1):=by rw[ybx,if_pos rfl,if_pos hk]
  have l1':=s2.load (C:=yA) hx' ty3 rfl
  refine z3v _ _ _ ?_
  simp only[zty,pA];rw[l0',xA,ia,xA,l1',xA,yB,xA,ev,cD.2 rfl];refine hS _ t' ?_ s3 s2
  unfold oM;rw[hx,h0]
 ·obtain⟨w,hw⟩:∃w,d[k]=w+1:=⟨d[k]-1,by omega⟩
  refine pC (gE (by omega)) ?_
  refine z3v _ _ _ ?_
  simp only[zty,pA];rw[l0,xA,ia,xA,l1,xA,yB,xA,ev];rw[hw]at hx;by_cases he:w=v
  ·subst he
   rw[hw,cD.2 rfl];refine hS d t ?_ (kD.refl _ _) hown
   unfold oM;rw[hx];exact if_pos rfl
  ·rw[zhe,decide_eq_false (by omega)]
   refine hN ?_
   unfold oM;rw[hx];exact if_neg (by omega)
theorem zio{nN nC i len:Nat}{x:XIns}(h:aF nN nC x i len=true):x.op<14:=by
 unfold aF at h;repeat' split at h
 all_goals (first | omega | cases h)
theorem cX{nN nC i len:Nat}{x:XIns}(h:aF nN nC x i len=true)(hj:x.op=9\/x.op=10\/x.op=11):(i:Int)<x.a/\x.a<=len:=by
 unfold aF at h;rw[if_neg (by omega),if_neg (by omega),if_neg (by omega),if_neg (by omega),if_neg (by omega),if_pos hj]at h
 simp only[yac,decide_eq_true_eq]at h;exact h.1
theorem zpp(op:Nat):0<=(nG op).1:=by
 unfold nG;repeat' split
 all_goals decide
theorem zpq(op:Nat):(nG op).1<=3:=by
 unfold nG;repeat' split
 all_goals decide
theorem zfi{nN nC i len:Nat}{x:XIns}(h:aF nN nC x i len=true):0<=dF x/\dF x<=3:=by
 have h1:=zpp (x.a%256).toNat
 have h2:=zpq (x.a%256).toNat
 have h3:=zpp (x.b%256).toNat
 have h4:=zpq (x.b%256).toNat
 unfold dF;by_cases h6:x.op=6
 ·rw[if_pos h6]
  unfold aF at h;rw[if_neg (by omega),if_neg (by omega),if_pos h6]at h
  simp only[yac,ybr,decide_eq_true_eq]at h;omega
 ·rw[if_neg h6]
  repeat' split
  all_goals omega
theorem z5e(x:XIns):rN x<=1:=by unfold rN;split<;>omega
section
variable {nm:List Nat}{a b c vn vc vw vt v1:zA}{names:List (List Nat)}{consts:List aA}{code:List XIns}{nb box:Nat}
def zin(len:Nat):Option (List Nat)->Bool
 | some d=>decide (d[len]?=some 2)
 | none=>false
theorem zqb(hv:oA t0 3 (code.map XIns.d) v1)(hn:oA t0 1 (names.map D.str) vn)(hc:oA t0 6 (consts.map aA.d) vc)(hg:sK t0)(hlen:code.length<=1000)(hnb:yA.base<=nb)(hne:box≠nb)(hb0:t0.get nb=none) :
  ∀(l:List XIns) (i:Nat) (d:List Nat) (t:Tr jA),code.drop i=l->d.length=code.length+1->(∀x∈d,x<=66)->tF t nb .i64 d->xD t box none [.slice nb 0 (code.length+1) (code.length+1)]->cA t0 t →
   jp 58 2 [v1,.ptr box 0,.func (.func 109) [] [.ptr box 0],v1,.int .i64 (code.length:Int),.int .i64 (i:Int),.str nm,a,b,c,vn,vc,vw,vt] t (fun v t'=>v=.bool (zin code.length (yO names.length consts.length code.length l i d))/\cA t0 t'):=by
 intro l;induction l with
 | nil=>
  intro i d t hd hdl hsm hown hcel hle;have hi:code.length<=i:=by
   rcases Nat.lt_or_ge i code.length with h | h
   ·rw[yam h]at hd;cases hd
   ·exact h
  have hk:code.length<d.length:=by omega
  have hx:d[code.length]?=some d[code.length]:=yae hk
  have l0:mA yA 105 ⟨0,t⟩ (.ptr box 0)=some (.slice nb 0 (code.length+1) (code.length+1)):=hcel.load1 zeh rfl rfl
  have ia:zB yA 105 (.slice nb 0 (code.length+1) (code.length+1)) (.int .i64 (code.length:Int))=some (.ptr nb (0+code.length*1)):=dL zt8 (by omega)
  rw[show 0+code.length*1=code.length by omega]at ia;refine j58_2 _ _ _ _ _ _ _ _ _ _ _ _ _ _ ?_
  simp only[z4u,pA];refine pC (fun e=>absurd (mB.1 e) (by omega)) ?_
  rw[l0,xA,(hv.mono hle).len,xA,yag,yB,xA,ia,xA,hown.load hx ty3 rfl,xA,yB,xA]
  refine⟨congrArg zA.bool ?_,hle⟩
  rw[zhe];show _=decide (d[code.length]?=some 2)
  rw[hx];simp only[Option.some.injEq];exact decide_eq_decide.2 ⟨fun h=>by omega,fun h=>by omega⟩
 | cons x l ih=>
  intro i d t hd hdl hsm hown hcel hle;have hi:i<code.length:=by
   rcases Nat.lt_or_ge i code.length with h | h
   ·exact h
   ·rw[yau h]at hd;cases hd
  rw[yam hi]at hd;injection hd with hd1 hd2
  have hxc:code[i]?=some x:=by rw[yae hi,hd1]
  obtain⟨q,off,g1,g2,_⟩:=rQ (hv.mono hle) hxc
  have hk:i<d.length:=by omega
  have hx:d[i]?=some d[i]:=yae hk
  have hsmi:=hsm _ (ybk hk)
  have l0:mA yA 105 ⟨0,t⟩ (.ptr box 0)=some (.slice nb 0 (code.length+1) (code.length+1)):=hcel.load1 zeh rfl rfl
  have ia:zB yA 105 (.slice nb 0 (code.length+1) (code.length+1)) (.int .i64 (i:Int))=some (.ptr nb (0+i*1)):=dL zt8 (by omega)
  rw[show 0+i*1=i by omega]at ia;have hz:qG [(.int .u8 0),(.int .i64 0),(.int .i64 0)] (.agg x.cells)=some (cellsOf x.cells):=iL rfl
  refine j58_2 _ _ _ _ _ _ _ _ _ _ _ _ _ _ ?_
  simp only[z4u,pA];refine xB (mB.2 (by omega)) ?_
  rw[g1,xA,g2,xA,hz,xA];simp only[XIns.cells,cellsOf,yG,yaa,yab];refine xB (by trivial) ?_
  rw[l0,xA,ia,xA,hown.load hx ty3 rfl,xA,yB,xA];have hL:yO names.length consts.length code.length (x::l) i d=(rM names.length consts.length code.length x i d).bind (yO names.length consts.length code.length l (i+1)):=rfl
  rw[hL];by_cases h0:d[i]=0
  ·have hst:rM names.length consts.length code.length x i d=none:=by
    unfold rM;rw[hx,h0]
   rw[hst];exact xB (cD.2 (by omega)) ⟨rfl,hle⟩
  ·obtain⟨e,he⟩:∃e,d[i]=e+1:=⟨d[i]-1,by omega⟩
   refine pC (gE (by omega)) ?_
   have hsi:=zlh (nm:=nm) (a:=a) (b:=b) (c:=c) (vw:=vw) (vt:=vt) (hn.mono hle) (hc.mono hle) (x:=x) (i:=i) (len:=code.length)
   rw[(hv.mono hle).len,xA,yag,yB,xA,q110,hsi,xA,mD,xA]
   rw[he]at hx
   cases hs:aF names.length consts.length x i code.length with
   | false=>
    have hst:rM names.length consts.length code.length x i d=none:=by
     unfold rM;rw[hx];simp only[];rw[if_pos hs]
    rw[hst];exact xB (by simp) ⟨rfl,hle⟩
   | true=>
    refine pC (by simp) ?_
    have hop:=zio hs
    obtain⟨hp1,hp2⟩:=zfi hs
    have hpu:=z5e x
    have hst111:=znw (hg.mono hle) hop
    rw[q111,hst111,xA];simp only[vC,zA.asTup,sA,vE,yaa,yab,xA,yB];have hx2:=hx
    rw[l0,xA,ia,xA,hown.load (C:=yA) hx ty3 rfl,xA,yB,xA]
    have w1:vA .i64 (((e+1:Nat):Int)-1)=(e:Int):=by rw[fB (by omega) (by omega)];omega
    have w2:vA .i64 ((e:Int)-dF x)=(e:Int)-dF x:=fB (by omega) (by omega)
    have w3:vA .i64 ((e:Int)-dF x+(rN x:Nat))=(e:Int)-dF x+(rN x:Nat):=fB (by omega) (by omega)
    rw[w1,w2,w3];by_cases hneg:(e:Int)-dF x<0
    ·have hst:rM names.length consts.length code.length x i d=none:=by
      unfold rM;rw[hx];simp only[];rw[if_neg (by simp[hs]),if_pos (.inl hneg)]
     rw[hst];exact xB (mB.2 hneg) ⟨rfl,hle⟩
    refine pC (fun h=>hneg (mB.1 h)) ?_
    by_cases hbig:64<(e:Int)-dF x+(rN x:Nat)
    ·have hst:rM names.length consts.length code.length x i d=none:=by
      unfold rM;rw[hx];simp only[];rw[if_neg (by simp[hs]),if_pos (.inr hbig)]
     rw[hst];exact xB (mB.2 hbig) ⟨rfl,hle⟩
    refine pC (fun h=>hbig (mB.1 h)) ?_
    obtain⟨v,hv'⟩:∃v:Nat,(e:Int)-dF x+(rN x:Nat)=(v:Int):=⟨((e:Int)-dF x+(rN x:Nat)).toNat,by omega⟩
    have hst:rM names.length consts.length code.length x i d=(if x.op=9\/x.op=10\/x.op=11 then oM d x.a.toNat (v+1)else some d).bind fun d'=>if x.op=9 then some d' else oM d' (i+1) (v+1):=by
     unfold rM;rw[hx];simp only[];rw[if_neg (by simp[hs]),if_neg (by omega),hv',show((v:Nat):Int).toNat=v by omega]
    rw[hst,hv',q112,zax,xA,mD,xA];have f:∀p q,wM (.func (.func 109) [] [.ptr box 0]) [p,q]=some (109,[p,q,.ptr box 0]):=fun _ _=>rfl
    have wi:vA .i64 ((i:Int)+1)=((i+1:Nat):Int):=by rw[fB (by omega) (by omega)];omega
    have small:∀ {d d':List Nat} {k:Nat},(∀x∈d,x<=66)->oM d k (v+1)=some d'->(∀x∈d',x<=66)/\d'.length=d.length:=by
     intro d d' k hsm h;unfold oM at h
     cases hdk:d[k]? with
     | none=>rw[hdk]at h;cases h
     | some w=>
      rw[hdk]at h
      cases w with
      | zero=>
       cases h;refine⟨fun y hy=>?_,by simp⟩
       rcases List.mem_or_eq_of_mem_set hy with hy | rfl
       ·exact hsm y hy
       ·omega
      | succ w=>
       simp only[]at h;split at h
       ·cases h;exact⟨hsm,rfl⟩
       ·cases h
    have second:∀(d1:List Nat) (t1:Tr jA),d1.length=code.length+1->(∀x∈d1,x<=66)->tF t1 nb .i64 d1->xD t1 box none [.slice nb 0 (code.length+1) (code.length+1)]->cA t0 t1 →
      (if (!wA (x.op:Int) 9)=true then iG (wM (.func (.func 109) [] [.ptr box 0]) [.int .i64 ((i+1:Nat):Int),.int .i64 (v:Int)]) (fun p=>Wq yA F pI p.1 p.2 t1 fun v' t'=>iG v'.asBool fun n=>if (!n)=true then(.bool false:zA)=.bool (zin code.length ((if x.op=9 then some d1 else oM d1 (i+1) (v+1)).bind (yO names.length consts.length code.length l (i+1))))/\cA t0 t' else jp 58 2 [v1,.ptr box 0,.func (.func 109) [] [.ptr box 0],v1,.int .i64 (code.length:Int),.int .i64 ((i+1:Nat):Int),.str nm,a,b,c,vn,vc,vw,vt] t' (fun v' t'=>v'=.bool (zin code.length ((if x.op=9 then some d1 else oM d1 (i+1) (v+1)).bind (yO names.length consts.length code.length l (i+1))))/\cA t0 t'))
      else jp 58 2 [v1,.ptr box 0,.func (.func 109) [] [.ptr box 0],v1,.int .i64 (code.length:Int),.int .i64 ((i+1:Nat):Int),.str nm,a,b,c,vn,vc,vw,vt] t1 (fun v' t'=>v'=.bool (zin code.length ((if x.op=9 then some d1 else oM d1 (i+1) (v+1)).bind (yO names.length consts.length code.length l (i+1))))/\cA t0 t')):=by
     intro d1 t1 hdl1 hsm1 hown1 hcel1 hle1;by_cases h9:x.op=9
     ·rw[if_pos h9]
      refine pC (fun h=>absurd (show(x.op:Int)=9 by omega) (zI.1 h)) ?_
      exact ih (i+1) d1 t1 hd2 hdl1 hsm1 hown1 hcel1 hle1
     ·rw[if_neg h9]
      refine xB (zI.2 (by omega)) ?_
      rw[f,xA];show Wq yA F pI 109 _ _ _
      rw[q109];refine zoc (v:=v) hown1 (by rw[hdl1];exact hcel1) hnb hne (by omega) (by omega) (fun d2 t2 hr ho hw=>?_) (fun hr=>?_)
      ·rw[mD,xA,hr]
       obtain⟨s1,s2⟩:=small hsm1 hr
       exact pC (by simp) (ih (i+1) d2 t2 hd2 (by omega) s1 hw (hcel1.off (ho box hne)) (hle1.off hb0 ho))
      ·rw[mD,xA,hr]
       exact xB (by simp) ⟨rfl,hle1⟩
    by_cases hj:x.op=9\/x.op=10\/x.op=11
    ·rw[if_pos hj,decide_eq_true hj]
     refine xB (by trivial) ?_
     obtain⟨hj1,hj2⟩:=cX hs hj
     obtain⟨T,hT⟩:∃T:Nat,x.a=(T:Int):=⟨x.a.toNat,by omega⟩
     rw[hT,show((T:Nat):Int).toNat=T by omega,f,xA]
     show Wq yA F pI 109 _ _ _
     rw[q109];refine zoc (v:=v) hown (by rw[hdl];exact hcel) hnb hne (by omega) (by omega) (fun d1 t1 hr ho hw=>?_) (fun hr=>?_)
     ·rw[mD,xA,hr]
      obtain⟨s1,s2⟩:=small hsm hr
      refine pC (by simp) ?_
      rw[wi];exact second d1 t1 (by omega) s1 hw (hcel.off (ho box hne)) (hle.off hb0 ho)
     ·rw[mD,xA,hr]
      exact xB (by simp) ⟨rfl,hle⟩
    ·rw[if_neg hj,decide_eq_false hj]
     refine pC (by simp) ?_
     rw[wi];exact second d t hdl hsm hown hcel hle
theorem ziq(hv:oA t 3 (code.map XIns.d) v1)(hn:oA t 1 (names.map D.str) vn)(hc:oA t 6 (consts.map aA.d) vc)(hg:sK t)(hsz:code.length<1125899906842624) :
  rD yA F 58 [.agg [.str nm,a,b,c,vn,vc,vw,vt],v1] t=some (.bool (rS names.length consts.length code)):=by
 have hlen:uB v1=some (.int .i64 (code.length:Int)):=by rw[hv.len,yag]
 refine zi3 (w58 _ _ _ _ _ _ _ _ _ ?_)
 simp only[t58,pA,hlen,xA,yB];unfold rS;by_cases hbig:1000<code.length
 ·rw[decide_eq_false (by omega),Bool.false_and]
  exact xB (mB.2 (by omega)) ⟨rfl,fun _ _ h=>h⟩
 ·rw[decide_eq_true (by omega),ybo]
  refine pC (fun h=>absurd (mB.1 h) (by omega)) ?_
  rw[fB (n:=(code.length:Int)+1) (by omega) (by omega),show(code.length:Int)+1=((code.length+1:Nat):Int) by omega]
  intro n hn1 hnb;obtain⟨t1,m1,m2,m3,m4⟩:=uU (C:=yA) zeh rfl ty3 rfl rfl (by decide) (n:=code.length+1) (by omega) hn1
  rw[m1,xA];intro w hw hwb;obtain⟨t2,a1,a2,a3,a4⟩:=uT (C:=yA) zeh hw
  have hwn:w≠n:=by
   intro e;subst e;obtain⟨cc,hcc,_⟩:=m2
   rw[show(zA.slice w 0 (code.length+1) (code.length+1),(⟨w+1,t1⟩:qA)).2.t=t1 from rfl,hcc]at hw
   cases hw
  rw[a1,xA];intro w2 _ _;obtain⟨t3,b1,b2,b3⟩:=a2.store1 (C:=yA) hwb (j:=0) (v:=.slice n 0 (code.length+1) (code.length+1)) zeh rfl rfl rfl (by show 0<1;decide)
  have b2:xD t3 w none [.slice n 0 (code.length+1) (code.length+1)]:=b2
  have b1:=b1 w2
  rw[b1,xA];have o3:tF t3 n .i64 (List.replicate (code.length+1) 0):=(m2.tle a3).off (Ne.symm hwn) b3
  have l0:mA yA 105 ⟨0,t3⟩ (.ptr w 0)=some (.slice n 0 (code.length+1) (code.length+1)):=b2.load1 zeh rfl rfl
  have ia:zB yA 105 (.slice n 0 (code.length+1) (code.length+1)) (.int .i64 0)=some (.ptr n (0+0*1)):=dL zt8 (i:=0) (by omega)
  rw[l0,xA,ia,xA];intro w3 _ _;obtain⟨t4,c1,c2,c3⟩:=o3.store (C:=yA) hnb (j:=0) (by simp) 1 ty3 rfl
  have c1:=c1 w3
  have c1':xE yA 3 (.ptr n (0+0*1)) (.int .i64 1) ⟨w3,t3⟩=some (rE,⟨w3,t4⟩):=c1
  rw[c1',xA];have ht1:cA t t1:=m3
  have htw:t.get w=none:=by
   cases hq:t.get w with
   | none=>rfl
   | some y=>
    have:=m3 _ _ hq
    have hw':t1.get w=none:=hw
    rw[this]at hw';cases hw'
  have ht3:cA t t3:=(ht1.trans a3).off htw b3
  have ht4:cA t t4:=ht3.off hn1 c3
  have hset:(List.replicate (code.length+1) 0).set 0 1=1::List.replicate code.length 0:=by rw[List.replicate_succ];rfl
  rw[hset]at c2;refine Jq.mono (zqb (nm:=nm) (a:=a) (b:=b) (c:=c) (vw:=vw) (vt:=vt) (nb:=n) (box:=w) hv hn hc hg (by omega) hnb hwn hn1 code 0 (1::List.replicate code.length 0) t4 rfl (by simp) (fun x hx=>?_) c2 (b2.off (c3 w hwn)) ht4) fun v u hh=>⟨hh.1.trans ?_,hh.2⟩
  ·rcases yat.1 hx with rfl | hx
   ·omega
   ·have:=List.eq_of_mem_replicate hx;omega
  ·unfold zin
   cases yO names.length consts.length code.length code 0 (1::List.replicate code.length 0)<;>rfl
end
end Go.Proofs
namespace Go.Am
def zpw:gF:=⟨⟨false,[]⟩,⟨false,[]⟩⟩
def eF:aA:=⟨0,zpw,0⟩
section
variable (names:List (List Nat))(consts:List aA)(code:List XIns)(same:aA->aA->Bool)
def zG(x:XIns)(args:List uA):uA:=
 if x.op=1 then .mk 1 [] (consts.getD x.a.toNat eF) args
 else if x.op=3\/x.op=4\/x.op=5\/x.op=6 then .mk x.op (names.getD x.a.toNat []) eF args
 else if x.op=8 then .mk (x.b%256).toNat (names.getD x.a.toNat []) eF args
 else if x.op=7 then .mk (x.a%256).toNat [] ⟨0,zpw,x.b⟩ args
 else .mk 2 [] eF args
def fQ(rd:Nat->Nat->Option uA)(first:uA)(at_ to:Nat):Option (uA × Nat):=
 match code[at_]? with
 | none=>none
 | some x=>
  if x.op=9 then none
  else if x.a<at_+2 then none
  else if (to:Int)<=x.a then none
  else match code[x.a.toNat-1]?,code[x.a.toNat-2]?,code[x.a.toNat]? with
   | some j,some k,some last=>
    if j.op≠9 then none
    else if (to:Int)<j.a then none
    else if k.op=12 then
     match rd (at_+1) (x.a.toNat-2)with
     | none=>none
     | some y=>if j.a=x.a+1/\last.op=1/\same (consts.getD last.a.toNat eF) (rF (if x.op=11 then 1 else 0))=true then some (.mk (if x.op=11 then 16 else 15) [] eF [first,y],j.a.toNat)else none
    else
     match rd (at_+1) (x.a.toNat-1)with
     | none=>none
     | some y=>if x.op≠10 then none else
      match rd x.a.toNat j.a.toNat with
      | none=>none
      | some z=>some (.mk 18 [] eF [first,y,z],j.a.toNat)
   | _,_,_=>none
def bK:Option (List uA)->Option uA
 | some [x]=>some x
 | _=>none
def gH:Nat->Nat->Nat->List uA->Option (List uA)
 | 0,_,_,_=>none
 | f+1,i,to,st=>
  if to<=i then some st
  else match code[i]? with
   | none=>none
   | some x=>
    if x.op=9\/x.op=10\/x.op=11 then
     match st.getLast? with
     | none=>none
     | some top=>
      match fQ consts code same (fun a b=>bK (gH f a b [])) top i to with
      | none=>none
      | some (y,next)=>gH f next to (st.dropLast++[y])
    else if x.op=12\/(st.length:Int)<dF x then none
    else gH f (i+1) to (st.take (st.length-(dF x).toNat)++[zG names consts x (st.drop (st.length-(dF x).toNat))])
end
end Go.Am
namespace Go.Am
open Go Go.RowKit
section
variable {t tf:Tr jA}{C:iA}
def Buf (base:Nat)(tf t:Tr jA)(sz:Nat)(l:List D)(v:zA):Prop:=
 (v=.nilslice/\l=[])\/∃b cl c cap,v=.slice b 0 l.length cap/\l.length<=cap/\0<cap/\cap<400000/\base<=b/\tf.get b=none/\t.get b=some (.cells c (cap*sz) (some sz)) ∧
  (∀(i:Nat) cs,cl[i]?=some cs->cs.length=sz/\∀(j:Nat) a,cs[j]?=some a->c.get (i*sz+j)=some a)/\kC tf l cl
theorem kC.take'{l:List D}{cl:List (List zA)}{k:Nat}(h:kC t l cl):kC t (l.take k) (cl.take k):=by
 have hl:=h.length
 refine kC.mk (by rw[ycb,ycb,hl]) fun i d cs h1 h2=>?_
 rw[ycg]at h1 h2;split at h1
 ·rename_i e
  rw[if_pos e]at h2;obtain⟨cs',h3,h4⟩:=h.get h1
  rw[h3]at h2;cases h2;exact h4
 ·cases h1
theorem kC.drop'{l:List D}{cl:List (List zA)}{k:Nat}(h:kC t l cl):kC t (l.drop k) (cl.drop k):=by
 have hl:=h.length
 refine kC.mk (by rw[yck,yck,hl]) fun i d cs h1 h2=>?_
 rw[ycf]at h1 h2;obtain⟨cs',h3,h4⟩:=h.get h1
 rw[h3]at h2;cases h2;exact h4
theorem kC.app:∀ {l m:List D} {cl cm:List (List zA)},kC tf l cl->kC tf m cm->kC tf (l++m) (cl++cm):=by
 intro l;induction l with
 | nil=>intro m cl cm h k;rw[oE]at h;subst h;exact k
 | cons d l ih=>
  intro m cl cm h k;rw[zE]at h;obtain⟨c,r,rfl,h1,h2⟩:=h
  exact zE.2 ⟨c,r++cm,rfl,h1,ih h2 k⟩
variable {base sz:Nat}{l:List D}{v:zA}
theorem Buf.read(h:Buf base tf t sz l v)(ht:cA tf t):oA t sz l v:=by
 rcases h with⟨rfl,rfl⟩ | ⟨b,cl,c,cap,rfl,h0,_,_,_,_,h1,h2,h3⟩
 ·exact⟨[],.inl ⟨rfl,rfl⟩,oE.2 rfl⟩
 ·have hlen:=h3.length
  refine⟨cl,.inr ⟨b,0,cap,by rw[hlen],by omega,⟨c,_,_,h1,.inr rfl⟩,fun i cs hi=>⟨(h2 i cs hi).1,c,_,_,h1,fun j a hj=>?_⟩⟩,kC.mono ht _ _ h3⟩
  rw[yax];exact(h2 i cs hi).2 j a hj
theorem Buf.keep{t' tf':Tr jA}(h:Buf base tf t sz l v)(hf:cA tf tf')(hk:∀b,nJ v b->t'.get b=t.get b/\tf'.get b=Option.none):Buf base tf' t' sz l v:=by
 rcases h with⟨rfl,rfl⟩ | ⟨b,cl,c,cap,rfl,g1,g2,g3,h0,h1,h2,h3,h4⟩
 ·exact .inl ⟨rfl,rfl⟩
 ·obtain⟨k1,k2⟩:=hk b (lN.2 rfl)
  exact .inr ⟨b,cl,c,cap,rfl,g1,g2,g3,h0,k2,by rw[k1];exact h2,h3,kC.mono hf _ _ h4⟩
theorem Buf.live(h:Buf base tf t sz l v){b:Nat}(hb:nJ v b):∃y,t.get b=some y:=by
 rcases h with⟨rfl,rfl⟩ | ⟨c,cl,x,cap,rfl,_,_,_,h1,h2,h3,_⟩
 ·exact absurd hb zdn
 ·rw[lN]at hb;subst hb;exact⟨_,h3⟩
def iI (base sz:Nat)(l:List D)(v:zA):lD where
 blks:=lE v
 ok:=fun tf t=>Buf base tf t sz l v
 keep:=fun h hf k=>h.keep hf fun b hb=>k b (pL.2 hb)
 live:=fun h k hk=>h.live (pL.1 hk)
theorem Buf.elem{T el:Nat}(hT:jE C T el sz true)(h:Buf base tf t sz l v){i:Nat}{d:D}(hi:l[i]?=some d) :
  ∃p o cs,zB C T v (.int .i64 (i:Int))=some (.ptr p o)/\mA C el ⟨0,t⟩ (.ptr p o)=some (.agg cs)/\RD tf d cs/\cs.length=sz:=by
 rcases h with⟨rfl,rfl⟩ | ⟨b,cl,c,cap,rfl,h0,hp,hc4,hbb,h1,h2,h3,h4⟩
 ·simp at hi
 ·have hlen:=h4.length
  have hlt:i<l.length:=(yad.1 hi).1
  obtain⟨cs,g1,g2⟩:=h4.get hi
  obtain⟨g3,g4⟩:=h3 i cs g1
  refine⟨b,0+i*sz,cs,dL hT hlt,?_,g2,g3⟩
  obtain⟨_,⟨z,hz1,hz2,hz3⟩⟩:=hT
  have ha:At t b (0+i*sz) cs:=⟨c,_,_,h2,fun j a hj=>by rw[yax];exact g4 j a hj⟩
  have:=ha.load (j:=0) hz1 hz3 hz2 (by omega)
  rw[ybu,ybs,show cs.take sz=cs from by rw[<- g3,List.take_length]]at this;exact this
theorem zmo{n k sz:Nat}{y:jA}{cl:List (List zA)}(h:sH t sz (.slice n 0 k k) cl)(hy:t.get n=some y):sH (tf.set n y) sz (.slice n 0 k k) cl:=by
 rcases h with⟨h,_⟩ | ⟨b,off,cap,e,h1,⟨c,m,lo,h2,h3⟩,h4⟩
 ·cases h
 ·have eb:n=b:=by injection e
  have eo:0=off:=by injection e
  subst eb eo
  refine .inr ⟨n,0,cap,e,h1,⟨c,m,lo,by rw[Tr.get_set,if_pos rfl,<- hy,h2],h3⟩,fun i cs hi=>?_⟩
  obtain⟨k1,c',m',lo',k2,k3⟩:=h4 i cs hi
  exact⟨k1,c',m',lo',by rw[Tr.get_set,if_pos rfl,<- hy,k2],k3⟩
theorem Buf.front{T el:Nat}{agg:Bool}(hT:jE C T el sz agg)(h:Buf base tf t sz l v){k:Nat}(hk:k<=l.length) :
  ∃v',yH C T ⟨0,t⟩ v none (some (.int .i64 (k:Int)))=some v'/\Buf base tf t sz (l.take k) v'/\lE v'=lE v:=by
 obtain⟨⟨y,hy1,hy2⟩,⟨z,hz1,hz2,hz3⟩⟩:=hT
 have hb:∀y,fR y (.int .i64 (k:Int))=sB (Nat.ble k y) (some k):=fun y=>rfl
 rcases h with⟨rfl,rfl⟩ | ⟨b,cl,c,cap,rfl,h0,hp,hc4,hbb,h1,h2,h3,h4⟩
 ·have:k=0:=by simp at hk;omega
  subst this;refine⟨.nilslice,?_,.inl ⟨rfl,rfl⟩,rfl⟩
  unfold yH;rw[hy1,sA];unfold pK;simp only[zA.asStr,zA.asSlice,zA.asPtr];rw[hy2,sA,hz1,sA];rfl
 ·refine⟨.slice b 0 k cap,?_,.inr ⟨b,cl.take k,c,cap,?_,?_,hp,hc4,hbb,h1,h2,fun i cs hi=>?_,h4.take'⟩,rfl⟩
  ·unfold yH
   rw[hy1,sA];unfold pK;simp only[zA.asStr,zA.asSlice];rw[hy2,sA];unfold rL;rw[hz1,sA];unfold fN zd6;simp only[hb];rw[show Nat.ble k cap=true from cE.2 (by omega)]
   simp only[qF,sA];have he2:aH ⟨0,t⟩ b z.size cap 0 false=false:=by
    unfold aH nD;rw[h2,sA];simp[jA.asCells]
   have hf:lH ⟨0,t⟩ b z.size cap 0 false=true:=by
    unfold lH nD;rw[h2,sA];simp[jA.asCells,hz2]
   rw[he2,Bool.and_false,cond_false,show Nat.ble k cap=true from cE.2 (by omega),hf]
   simp only[Bool.and_self,qF];congr 1
   cases hq:Nat.beq cap 0<;>simp
  ·rw[ycb];congr 1;omega
  ·rw[ycb];omega
  ·rw[ycg]at hi
   split at hi
   ·exact h3 i cs hi
   ·cases hi
theorem Buf.back{T el:Nat}{agg:Bool}(hT:jE C T el sz agg)(h:Buf base tf t sz l v)(hz0:∃c n,t.get 0=some (.cells c n none)){k:Nat}(hk:k<=l.length) :
  ∃v' cl',yH C T ⟨0,t⟩ v (some (.int .i64 (k:Int))) none=some v'/\sH t sz v' cl'/\kC tf (l.drop k) cl':=by
 obtain⟨⟨y,hy1,hy2⟩,⟨z,hz1,hz2,hz3⟩⟩:=hT
 have hb:∀y,fR y (.int .i64 (k:Int))=sB (Nat.ble k y) (some k):=fun y=>rfl
 rcases h with⟨rfl,rfl⟩ | ⟨b,cl,c,cap,rfl,h0,hp,hc4,hbb,h1,h2,h3,h4⟩
 ·have:k=0:=by simp at hk;omega
  subst this;refine⟨.nilslice,[],?_,.inl ⟨rfl,rfl⟩,by simp[kC]⟩
  unfold yH;rw[hy1,sA];unfold pK;simp only[zA.asStr,zA.asSlice,zA.asPtr];rw[hy2,sA,hz1,sA];rfl
 ·have hlen:=h4.length
  have pre:yH C T ⟨0,t⟩ (.slice b 0 l.length cap) (some (.int .i64 (k:Int))) none=(bif Nat.ble l.length cap&&Nat.ble k l.length&&aH ⟨0,t⟩ b z.size cap k false then some (.slice 0 1 0 0)else sB (Nat.ble l.length cap&&lH ⟨0,t⟩ b z.size cap k false) (some (.slice b (bif Nat.beq cap k then 0 else 0+k*z.size) (l.length-k) (cap-k)))):=by
   unfold yH;rw[hy1,sA];unfold pK;simp only[zA.asStr,zA.asSlice];rw[hy2,sA];unfold rL;rw[hz1,sA];unfold fN zd6;simp only[hb];rw[sA,show Nat.ble k l.length=true from cE.2 hk]
   simp only[qF,sA];rw[show Nat.ble k l.length=true from cE.2 hk]
  rw[pre,show Nat.ble l.length cap=true from cE.2 h0,show Nat.ble k l.length=true from cE.2 hk];by_cases hend:k=cap
  ·have he2:aH ⟨0,t⟩ b z.size cap k false=true:=by
    have b0:Nat.beq sz z.size=true:=zC.2 hz2.symm
    have b1:Nat.beq cap k=true:=zC.2 hend.symm
    have b2:Nat.beq k 0=false:=by
     cases hq:Nat.beq k 0 with
     | true=>have:=zC.1 hq;omega
     | false=>rfl
    unfold aH nD;rw[h2,sA];simp only[jA.asCells,sA,b0,b1,b2];rfl
   rw[he2];obtain⟨cz,nz,hcz⟩:=hz0
   refine⟨.slice 0 1 0 0,[],rfl,.inr ⟨0,1,0,rfl,yal _,⟨cz,nz,none,hcz,.inl rfl⟩,fun i cs hi=>by simp at hi⟩,?_⟩
   rw[yau (by omega)]
   exact oE.2 rfl
  ·have he2:aH ⟨0,t⟩ b z.size cap k false=false:=by
    unfold aH nD;rw[h2,sA];simp[jA.asCells]
    intro _ e;exact absurd e.symm hend
   have hf:lH ⟨0,t⟩ b z.size cap k false=true:=by
    unfold lH nD;rw[h2,sA];have:Nat.beq cap k=false:=by
     cases hq:Nat.beq cap k with
     | true=>exact absurd (zC.1 hq).symm hend
     | false=>rfl
    simp[jA.asCells,hz2,this]
   have hq:Nat.beq cap k=false:=by
    cases hq:Nat.beq cap k with
    | true=>exact absurd (zC.1 hq).symm hend
    | false=>rfl
   rw[he2,hf,hq,cond_false,hz2];refine⟨_,cl.drop k,rfl,.inr ⟨b,0+k*sz,cap-k,by rw[yck,hlen],by rw[yck];omega,⟨c,_,_,h2,.inr rfl⟩,fun i cs hi=>?_⟩,h4.drop'⟩
   rw[ycf]at hi;obtain⟨g1,g2⟩:=h3 _ cs hi
   refine⟨g1,c,_,_,h2,fun j a hj=>?_⟩
   have:=g2 j a hj
   rw[yap]at this;rw[show 0+k*sz+i*sz+j=k*sz+i*sz+j by omega];exact this
theorem Buf.push{T el:Nat}(hT:zK C T el sz)(h:Buf C.base tf t sz l v){x:zA}{d:D}{cs:List zA}(hx:sH t sz x [cs])(hd:RD tf d cs)(hone:∀a∈cs,zA.one a=true)(hl:l.length<300000){n:Nat}(hn:t.get n=none)(hbase:C.base<=n)(ht:cA tf t) :
  ∃v' t' n',eE C T T v x ⟨n,t⟩=some (v',⟨n',t'⟩)/\Buf C.base tf t' sz (l++[d]) v'/\cA tf t'/\(∀c,¬ nJ v c->¬ nJ v' c->t'.get c=t.get c)/\(∀c,nJ v' c->nJ v c\/c=n):=by
 have asLoose:∀ {w:zA},Loose C.base tf t sz l w->w=v->(v=.nilslice\/∃b,v=.slice b 0 l.length l.length)->∃v' t' n',eE C T T v x ⟨n,t⟩=some (v',⟨n',t'⟩)/\Buf C.base tf t' sz (l++[d]) v'/\cA tf t'/\(∀c,¬ nJ v c->¬ nJ v' c->t'.get c=t.get c)/\(∀c,nJ v' c->nJ v c\/c=n):=by
  intro w hw e _;subst e;obtain⟨t',g1,g2,g3,g4⟩:=fU (C:=C) hT hw hx (m:=[d]) (zE.2 ⟨cs,[],rfl,hd,oE.2 rfl⟩) (by simpa using hone) (by simp) (by simp;omega) hn hbase ht
  refine⟨_,t',_,g1,?_,g3,fun c k1 k2=>g4 c (fun e=>k2 (lN.2 e)) k1,fun c hc=>.inr (lN.1 hc)⟩
  rcases g2 with⟨g2,_⟩ | ⟨b,cl,c,e,q1,q2,q3,q4,q5⟩
  ·cases g2
  ·have eb:n=b:=by injection e
   subst eb;exact .inr ⟨_,cl,c,l.length+1,by simp,by simp,by omega,by omega,q1,q2,by simpa using q3,q4,q5⟩
 rcases h with⟨rfl,rfl⟩ | ⟨b,cl,c,cap,rfl,h0,hp,hc4,hbb,h1,h2,h3,h4⟩
 ·exact asLoose (w:=.nilslice) (.inl ⟨rfl,rfl⟩) rfl (.inl rfl)
 ·by_cases hfull:l.length=cap
  ·subst hfull
   exact asLoose (w:=.slice b 0 l.length l.length) (.inr ⟨b,cl,c,rfl,hbb,h1,h2,h3,h4⟩) rfl (.inr ⟨b,rfl⟩)
  ·obtain⟨⟨y,hy1,hy2,hy3⟩,⟨z,hz1,hz2,hz3,hz4,hz5⟩⟩:=hT
   obtain⟨hf,hlen⟩:=hx.first (n:=n)
   have hcl:=h4.length
   have hcs:cs.length=sz:=(hx.len 0 cs (by simp))
   have e1:List.flatten [cs]=cs:=by simp
   rw[e1]at hf;have hne:cs≠[]:=by
    intro e;rw[e]at hcs;simp at hcs;omega
   have key:eE C T T (.slice b 0 l.length cap) x ⟨n,t⟩=some (.slice b 0 (l.length+1) cap,⟨n,t.set b (.cells (c.setMany cs (l.length*sz)) (cap*sz) (some sz))⟩):=by
    unfold eE bM;rw[hy1,sA,sA,hy3];simp only[ybm,qF];rw[hy2,sA,hz1,sA,hlen,sA,hz2,hf,sA];simp only[zA.asSlice];have g1:Nat.ble (l.length+[cs].length) cap=true:=cE.2 (by simp;omega)
    rw[g1,cond_true];unfold oP;obtain⟨a0,r0,hcs0⟩:∃a r,cs=a::r:=by
     cases cs with
     | nil=>exact absurd rfl hne
     | cons a r=>exact⟨a,r,rfl⟩
    have g2:fK C ⟨n,t⟩ b (0+l.length*z.size) cs=some (setBlk ⟨n,t⟩ b (.cells (c.setMany cs (l.length*sz)) (cap*sz) (some sz))):=by
     unfold fK;have q1:(!Nat.blt b C.base)=true:=by
      cases hq:Nat.blt b C.base with
      | true=>have:=lC.1 hq;omega
      | false=>rfl
     rw[q1,qF];unfold nD;rw[h2,sA];simp only[jA.asCells,sA];have q2:Nat.ble (0+l.length*z.size+wB cs) (cap*sz)=true:=cE.2 (by
      rw[bD,hcs,hz2];have:=yaj sz (show l.length+1<=cap by omega)
      rw[yap]at this;omega)
     have q3:bB zA.one cs=true:=by rw[oG];exact ybc.2 hone
     rw[q2,q3,hz2,yax];rfl
    rw[hcs0]at g2 ⊢
    simp only[];rw[g2,sA];rfl
   refine⟨_,_,_,key,.inr ⟨b,cl++[cs],c.setMany cs (l.length*sz),cap,by simp,by simp;omega,hp,hc4,hbb,h1,by rw[Tr.get_set,if_pos rfl],fun i cs' hi=>?_,kC.app h4 (zE.2 ⟨cs,[],rfl,hd,oE.2 rfl⟩)⟩,fun k u hk=>?_,fun k k1 k2=>?_,fun k hk=>.inl (lN.2 (lN.1 hk))⟩
   ·rw[List.getElem?_append]at hi
    split at hi
    ·rename_i hlt
     obtain⟨k1,k2⟩:=h3 i cs' hi
     refine⟨k1,fun j a hj=>?_⟩
     have hjl:j<sz:=by rw[<- k1];exact(yad.1 hj).1
     have:i*sz+j<l.length*sz:=by
      have:=yaj sz (show i+1<=l.length by omega)
      rw[yap]at this;omega
     rw[Tr.get_setMany,if_neg (by omega)]
     exact k2 j a hj
    ·rename_i hge
     have hi0:i-cl.length=0:=by
      cases hz:i-cl.length with
      | zero=>rfl
      | succ m=>rw[hz]at hi;simp at hi
     rw[hi0]at hi;have hi:cs=cs':=by simpa using hi
     subst hi;refine⟨hcs,fun j a hj=>?_⟩
     have hjl:j<sz:=by rw[<- hcs];exact(yad.1 hj).1
     have:i=l.length:=by omega
     subst this;rw[Tr.get_setMany,if_pos (by omega),show l.length*sz+j-l.length*sz=j by omega]
     exact hj
   ·have h5:k≠b:=by intro e;rw[e,h1]at hk;cases hk
    rw[Tr.get_set,if_neg h5];exact ht _ _ hk
   ·rw[Tr.get_set,if_neg (fun e=>k1 (lN.2 e))]
theorem Buf.set{T el S:Nat}{agg:Bool}{y:vD}(hT:jE C T el sz agg)(hS:C.tys.get S=some y)(h:Buf C.base tf t sz l v){i:Nat}(hi:i<l.length){w:zA}{d:D}(hw:w.cells.length=sz)(hy:y.size=sz)(hone:bB zA.one w.cells=true)(hd:RD tf d w.cells)(ht:cA tf t) :
  ∃p o t',zB C T v (.int .i64 (i:Int))=some (.ptr p o)/\(∀n,xE C S (.ptr p o) w ⟨n,t⟩=some (rE,⟨n,t'⟩))/\Buf C.base tf t' sz (l.set i d) v/\cA tf t'/\(∀c,¬ nJ v c->t'.get c=t.get c):=by
 rcases h with⟨rfl,rfl⟩ | ⟨b,cl,c,cap,rfl,h0,hp,hc4,hbb,h1,h2,h3,h4⟩
 ·simp at hi
 ·have hcl:=h4.length
  refine⟨b,0+i*sz,t.set b (.cells (c.setMany w.cells (i*sz)) (cap*sz) (some sz)),dL hT hi,fun n=>?_,.inr ⟨b,cl.set i w.cells,c.setMany w.cells (i*sz),cap,by simp,by simpa using h0,hp,hc4,hbb,h1,by rw[Tr.get_set,if_pos rfl],fun j cs hj=>?_,h4.set hd⟩,fun k u hk=>?_,fun k hk=>?_⟩
  ·unfold xE
   rw[hS,sA];simp only[zA.asPtr,sA];have q0:Nat.beq (wB w.cells) y.size=true:=by rw[bD,hw,hy];exact zC.2 rfl
   rw[q0,qF];unfold fK;have q1:(!Nat.blt b C.base)=true:=by
    cases hq:Nat.blt b C.base with
    | true=>have:=lC.1 hq;omega
    | false=>rfl
   rw[q1,qF];unfold nD;rw[h2,sA];simp only[jA.asCells,sA];have q2:Nat.ble (0+i*sz+wB w.cells) (cap*sz)=true:=cE.2 (by
    rw[bD,hw];have:=yaj sz (show i+1<=cap by omega)
    rw[yap]at this;omega)
   rw[q2,hone,yax];rfl
  ·rw[ybx]at hj
   split at hj
   ·rename_i e
    subst e;split at hj
    ·cases hj
     refine⟨hw,fun k a hk=>?_⟩
     have hkl:k<sz:=by rw[<- hw];exact(yad.1 hk).1
     rw[Tr.get_setMany,if_pos (by omega),show i*sz+k-i*sz=k by omega]
     exact hk
    ·cases hj
   ·rename_i hne
    obtain⟨k1,k2⟩:=h3 j cs hj
    refine⟨k1,fun k a hk=>?_⟩
    have hkl:k<sz:=by rw[<- k1];exact(yad.1 hk).1
    have:¬ (i*sz<=j*sz+k/\j*sz+k<i*sz+w.cells.length):=by
     rw[hw];rcases Nat.lt_or_gt_of_ne hne with hlt | hlt
     ·have:=yaj sz (show i+1<=j by omega)
      rw[yap]at this;omega
     ·have:=yaj sz (show j+1<=i by omega)
      rw[yap]at this;omega
    rw[Tr.get_setMany,if_neg this];exact k2 k a hk
  ·have h5:k≠b:=by intro e;rw[e,h1]at hk;cases hk
   rw[Tr.get_set,if_neg h5];exact ht _ _ hk
  ·rw[Tr.get_set,if_neg (fun e=>hk (lN.2 e))]
theorem zm5{T el:Nat}(hT:zK C T el sz){x:zA}(hx:sH t sz x []){n:Nat}:eE C T T .nilslice x ⟨n,t⟩=some (.nilslice,⟨n,t⟩):=by
 obtain⟨⟨y,hy1,hy2,hy3⟩,⟨z,hz1,hz2,hz3,hz4,hz5⟩⟩:=hT
 obtain⟨hf,hlen⟩:=hx.first (n:=n)
 unfold eE bM;rw[hy1,sA,sA,hy3];simp only[ybm,qF];rw[hy2,sA,hz1,sA,hlen,sA,hz2,hf,sA];rfl
end
end Go.Am
namespace Go.Proofs
open Go Go.Am
variable [dC]
variable {t tf:Tr jA}
theorem zg4{op:Nat}{name:List Nat}{v:aA}{args:List uA}{a b c:zA}(ha:oA t 1 (jC v.f.n.limbs) a)(hb:oA t 1 (jC v.f.d.limbs) b)(hc:oA t 9 (args.map uA.d) c):RD t (uA.mk op name v args).d (mC (.mk op name v args) a b c):=by
 unfold uA.d mC;rw[kI,uA.ds_eq];refine⟨[[.int .u8 op],[.str name],[.int .u8 v.kind,.bool v.f.n.neg,a,.bool v.f.d.neg,b,.int .i64 v.i],[c]],rfl,?_⟩
 rw[zE];refine⟨_,_,rfl,rfl,?_⟩
 rw[zE];refine⟨_,_,rfl,rfl,?_⟩
 rw[zE];refine⟨_,_,rfl,zfm ha hb,?_⟩
 rw[zE];exact⟨_,_,rfl,aJ.2 ⟨_,rfl,hc⟩,oE.2 rfl⟩
theorem nU{b:Nat}:pB yA 118 0 (.ptr b 0)=some (.ptr b 0):=by kernel_rfl
theorem zhm{b:Nat}:pB yA 118 1 (.ptr b 0)=some (.ptr b 8):=by kernel_rfl
structure Rdr (tf:Tr jA) (rb:Nat) (names:List (List Nat)) (consts:List aA) (code:List XIns):Prop where
 box:∃nm a b c vn vc vw vt v1,xD tf rb none [.str nm,a,b,c,vn,vc,vw,vt,v1]/\oA tf 1 (names.map D.str) vn/\oA tf 6 (consts.map aA.d) vc/\oA tf 3 (code.map XIns.d) v1
 short:∀v∈consts,aA.mid v
 sound:∀i x,code[i]?=some x->aF names.length consts.length x i code.length=true
 len:code.length<=1000
 glob:sK tf
 zero:∃c n,tf.get 0=some (.cells c n none)
section
variable {rb:Nat}{names:List (List Nat)}{consts:List aA}{code:List XIns}{L:List lD}{Q:cB}
theorem xD.mono{b:Nat}{lo:Option Nat}{cs:List zA}(h:xD tf b lo cs)(ht:cA tf t):xD t b lo cs:=by
 obtain⟨c,h1,h2⟩:=h;exact⟨c,ht _ _ h1,h2⟩
theorem Rdr.mono{tf':Tr jA}(h:Rdr tf rb names consts code)(ht:cA tf tf'):Rdr tf' rb names consts code:=by
 obtain⟨nm,a,b,c,vn,vc,vw,vt,v1,h1,h2,h3,h4⟩:=h.box
 obtain⟨cz,nz,hz⟩:=h.zero
 exact⟨⟨nm,a,b,c,vn,vc,vw,vt,v1,xD.mono h1 ht,h2.mono ht,h3.mono ht,h4.mono ht⟩,h.short,h.sound,h.len,h.glob.mono ht,⟨cz,nz,ht _ _ hz⟩⟩
theorem zct(h:Rdr tf rb names consts code)(ho:Objs yA.base tf t L){i:Nat}{x:XIns}(hx:code[i]?=some x)(hj:¬ (x.op=9\/x.op=10\/x.op=11))(h12:x.op≠12)
  (hQ:∀tf' t' a b,cA tf tf'->Objs yA.base tf' t' L->oA tf' 1 (jC (zG names consts x []).v.f.n.limbs) a->oA tf' 1 (jC (zG names consts x []).v.f.d.limbs) b->Q (.agg (mC (zG names consts x []) a b .nilslice)) t') :
  Wc yA F 114 [.ptr rb 0,.agg [.int .u8 (x.op:Int),.int .i64 x.a,.int .i64 x.b]] t Q:=by
 obtain⟨nm,a,b,c,vn,vc,vw,vt,v1,h1,h2,h3,h4⟩:=h.box
 have h1t:=xD.mono h1 ho.tle
 have hs:=h.sound i x hx
 have ldc:mA yA 31 ⟨0,t⟩ (.ptr rb 5)=some vc:=h1t.load1 z2e rfl rfl
 have ldn:mA yA 30 ⟨0,t⟩ (.ptr rb 4)=some vn:=h1t.load1 z4l rfl rfl
 obtain⟨op,xa,xb⟩:=x
 have named:∀ {k:Nat},(0<=xa/\xa<(names.length:Int))->∃p o s,zB yA 30 vn (.int .i64 xa)=some (.ptr p o)/\mA yA 9 ⟨0,t⟩ (.ptr p o)=some (.str s)/\names.getD xa.toNat []=s:=by
  intro _ hr;obtain⟨j,rfl⟩:∃j:Nat,xa=(j:Int):=⟨xa.toNat,by omega⟩
  have hj:j<names.length:=by omega
  obtain⟨p,o,cs,g1,g2,_,_,g5⟩:=jE.at sl30 (fun _=>rfl) (h2.mono ho.tle) (i:=j) (d:=.str names[j]) (by simp[hj])
  rw[zN]at g5;subst g5;exact⟨p,o,names[j],g1,g2,by simp[List.getD,hj]⟩
 have zn:∀ {tf:Tr jA},oA tf 1 (jC eF.f.n.limbs) .nilslice:=fun {tf}=>zM
 refine w114 _ _ _ _ ?_
 simp only[t114,pA];rw[xJ];by_cases e1:op=1
 ·subst e1
  unfold aF at hs;simp only[if_true,yac,decide_eq_true_eq]at hs;obtain⟨⟨hs1,hs2⟩,hs3⟩:=hs
  obtain⟨j,rfl⟩:∃j:Nat,xa=(j:Int):=⟨xa.toNat,by omega⟩
  have hjl:j<consts.length:=by omega
  have hcj:consts[j]?=some consts[j]:=yae hjl
  obtain⟨p,o,u,w,g1,g2,g3,g4,g5⟩:=znh (h3.mono ho.tle) hcj
  obtain⟨p',o',u',w',k1,k2,_,k4,k5⟩:=znh h3 hcj
  have e:p=p'/\o=o':=by rw[g1]at k1;cases k1;exact⟨rfl,rfl⟩
  obtain⟨rfl,rfl⟩:=e
  have e2:=wN (H:=⟨0,tf⟩) (HA:=⟨0,t⟩) (fun _ _ k=>ho.tle _ _ k) k2
  rw[g2]at e2;have e3:u=u'/\w=w':=by cases e2;exact⟨rfl,rfl⟩
  obtain⟨rfl,rfl⟩:=e3
  refine xB (by decide) ?_
  rw[xA,nU,xA,zdv,xA,ldc,xA,g1,xA,g2,xA,g3,xA];simp only[cellsOf,yG,lF,sF,dG,yaa,yab];rw[q102];refine zmt ho (h.short _ (ybk hjl)) k4 k5 fun tf' t' a' b' m1 m2 m3 m4=>?_
  have hz:qG [(.int .u8 0),(.bool false),.nilslice,(.bool false),.nilslice,(.int .i64 0)] (.agg [.int .u8 consts[j].kind,.bool consts[j].f.n.neg,a',.bool consts[j].f.d.neg,b',.int .i64 consts[j].i])=some (cellsOf [.int .u8 consts[j].kind,.bool consts[j].f.n.neg,a',.bool consts[j].f.d.neg,b',.int .i64 consts[j].i]):=jL (zfm m3 m4) (aA.zs _)
  rw[hz,xA];simp only[cellsOf,yG,lF,sF,dG,yaa,yab];have hone:bB zA.one [(.int .u8 1),(.str []),(.int .u8 consts[j].kind),(.bool consts[j].f.n.neg),a',(.bool consts[j].f.d.neg),b',(.int .i64 consts[j].i),.nilslice]=true:=by
   rw[oG];simp only[ybh,ybl,m3.one,m4.one];rfl
  refine xB (by trivial) (xB hone ?_)
  have es:zG names consts ⟨1,(j:Int),xb⟩ []=.mk 1 [] consts[j] []:=by
   unfold zG;simp[List.getD,hjl]
  rw[es]at hQ;exact hQ tf' t' a' b' m1 m2 m3 m4
 refine pC (gE (by omega)) ?_
 by_cases e3:op=3\/op=4\/op=5
 ·have hr:0<=xa/\xa<(names.length:Int):=by
   unfold aF at hs;rw[if_neg e1,if_pos e3]at hs;simp only[yac,decide_eq_true_eq]at hs;exact hs.1
  obtain⟨p,o,s,g1,g2,g3⟩:=named (k:=0) hr
  have es:zG names consts ⟨op,xa,xb⟩ []=.mk op s eF []:=by
   unfold zG;simp only[];rw[if_neg e1,if_pos (by omega),g3]
  rw[es]at hQ;have aC:=hQ tf t .nilslice .nilslice (cA.refl _) ho zn zn
  rcases e3 with e3 | e3 | e3<;>subst e3
  ·refine xB (by decide) ?_
   rw[xA,nU,xA,zdw,xA,ldn,xA,g1,xA,g2,xA,lI,xA];exact xB (by trivial) (xB (by trivial) aC)
  ·refine pC (by decide) (xB (by decide) ?_)
   rw[xA,nU,xA,zdw,xA,ldn,xA,g1,xA,g2,xA,lI,xA];exact xB (by trivial) (xB (by trivial) aC)
  ·refine pC (by decide) (pC (by decide) (xB (by decide) ?_))
   rw[xA,nU,xA,zdw,xA,ldn,xA,g1,xA,g2,xA,lI,xA];exact xB (by trivial) (xB (by trivial) aC)
 refine pC (gE (by omega)) (pC (gE (by omega)) (pC (gE (by omega)) ?_))
 by_cases e6:op=6
 ·subst e6
  have hr:0<=xa/\xa<(names.length:Int):=by
   unfold aF at hs;rw[if_neg e1,if_neg (by show ¬ ((6:Nat)=3\/(6:Nat)=4\/(6:Nat)=5);decide),if_pos rfl]at hs
   simp only[yac,decide_eq_true_eq]at hs;exact hs.1
  obtain⟨p,o,s,g1,g2,g3⟩:=named (k:=0) hr
  have es:zG names consts ⟨6,xa,xb⟩ []=.mk 6 s eF []:=by
   unfold zG;simp only[];rw[if_neg e1,if_pos (by decide),g3]
  rw[es]at hQ;refine xB (by decide) ?_
  rw[xA,nU,xA,zdw,xA,ldn,xA,g1,xA,g2,xA,lI,xA];exact xB (by trivial) (xB (by trivial) (hQ tf t .nilslice .nilslice (cA.refl _) ho zn zn))
 refine pC (gE (by omega)) ?_
 by_cases e8:op=8
 ·subst e8
  have hr:0<=xa/\xa<(names.length:Int):=by
   unfold aF at hs;rw[if_neg e1,if_neg (by show ¬ ((8:Nat)=3\/(8:Nat)=4\/(8:Nat)=5);decide),if_neg (by show ¬ ((8:Nat)=6);decide),if_pos rfl]at hs
   simp only[yac,decide_eq_true_eq]at hs;exact hs.1
  obtain⟨p,o,s,g1,g2,g3⟩:=named (k:=0) hr
  have es:zG names consts ⟨8,xa,xb⟩ []=.mk (xb%256).toNat s eF []:=by
   unfold zG;simp only[];rw[if_neg e1,if_neg (by omega),if_pos trivial,g3]
  rw[es]at hQ;refine xB (by decide) ?_
  rw[xA,nU,xA,zdw,xA,ldn,xA,g1,xA,g2,xA,lI,xA,zbn];exact xB (by trivial) (xB (by trivial) (hQ tf t .nilslice .nilslice (cA.refl _) ho zn zn))
 refine pC (gE (by omega)) ?_
 by_cases e7:op=7
 ·subst e7
  have es:zG names consts ⟨7,xa,xb⟩ []=.mk (xa%256).toNat [] ⟨0,zpw,xb⟩ []:=by
   unfold zG;simp only[];rw[if_neg e1,if_neg (by omega),if_neg e8,if_pos trivial]
  rw[es]at hQ;rw[zbn];exact xB (by decide) (xB (by trivial) (xB (by trivial) (xB (by trivial) (hQ tf t .nilslice .nilslice (cA.refl _) ho zM zM))))
 have es:zG names consts ⟨op,xa,xb⟩ []=.mk 2 [] eF []:=by
  unfold zG;simp only[];rw[if_neg e1,if_neg (by omega),if_neg e8,if_neg e7]
 rw[es]at hQ;exact pC (gE (by omega)) (xB (by trivial) (xB (by trivial) (hQ tf t .nilslice .nilslice (cA.refl _) ho zn zn)))
end
end Go.Proofs
namespace Go.Proofs
open Go Go.Am
variable [dC]
variable {t tf:Tr jA}
theorem el48:zK yA 48 50 9:=⟨⟨_,ty48,rfl,rfl⟩,⟨_,z2d,rfl,rfl,by decide,by decide⟩⟩
theorem zvw{n:Nat}{x:uA}{a b c:zA}(hn:t.get n=none):∃t',oF yA 48 1 [(0,.agg (mC x a b c))] ⟨n,t⟩=some (.slice n 0 1 1,⟨n+1,t'⟩)/\sH t' 9 (.slice n 0 1 1) [mC x a b c]/\cA t t'/\kD n t t':=
 vP (C:=yA) (T:=48) (el:=50) (sz:=9) (n:=1) (cl:=[mC x a b c]) ty48 rfl z2d rfl rfl (by decide) rfl (fun k cs hk=>by
  match k,hk with
  | 0,hk=>simp at hk;subst hk;rfl
  | k+1,hk=>simp at hk) rfl hn
theorem zvv{n:Nat}{x y:uA}{a b c a' b' c':zA}(hn:t.get n=none):∃t',oF yA 48 2 [(0,.agg (mC x a b c)),(1,.agg (mC y a' b' c'))] ⟨n,t⟩=some (.slice n 0 2 2,⟨n+1,t'⟩)/\sH t' 9 (.slice n 0 2 2) [mC x a b c,mC y a' b' c']/\cA t t'/\kD n t t':=
 vP (C:=yA) (T:=48) (el:=50) (sz:=9) (n:=2) (cl:=[mC x a b c,mC y a' b' c']) ty48 rfl z2d rfl rfl (by decide) rfl (fun k cs hk=>by
  match k,hk with
  | 0,hk=>simp at hk;subst hk;rfl
  | 1,hk=>simp at hk;subst hk;rfl
  | k+2,hk=>simp at hk) rfl hn
theorem zvu{n:Nat}{x y z:uA}{a b c a' b' c' a'' b'' c'':zA}(hn:t.get n=none):∃t',oF yA 48 3 [(0,.agg (mC x a b c)),(1,.agg (mC y a' b' c')),(2,.agg (mC z a'' b'' c''))] ⟨n,t⟩=some (.slice n 0 3 3,⟨n+1,t'⟩)/\sH t' 9 (.slice n 0 3 3) [mC x a b c,mC y a' b' c',mC z a'' b'' c'']/\cA t t'/\kD n t t':=
 vP (C:=yA) (T:=48) (el:=50) (sz:=9) (n:=3) (cl:=[mC x a b c,mC y a' b' c',mC z a'' b'' c'']) ty48 rfl z2d rfl rfl (by decide) rfl (fun k cs hk=>by
  match k,hk with
  | 0,hk=>simp at hk;subst hk;rfl
  | 1,hk=>simp at hk;subst hk;rfl
  | 2,hk=>simp at hk;subst hk;rfl
  | k+3,hk=>simp at hk) rfl hn
theorem zjy{L:List lD}{n k:Nat}{t':Tr jA}{l:List uA}{cl:List (List zA)}(ho:Objs yA.base tf t L)(hn:t.get n=none)(he:sH t' 9 (.slice n 0 k k) cl)(hof:kD n t t')(hd:kC tf (l.map uA.d) cl) :
  ∃tf',cA tf tf'/\Objs yA.base tf' t' L/\oA tf' 9 (l.map uA.d) (.slice n 0 k k):=by
 have h1:=ho.junk hn hof
 obtain⟨y,hy⟩:∃y,t'.get n=some y:=by
  rcases he with⟨e,_⟩ | ⟨b,off,cap,e,_,⟨c,m,lo,h2,_⟩,_⟩
  ·cases e
  ·have eb:n=b:=by injection e
   subst eb;exact⟨_,h2⟩
 obtain⟨k1,k2⟩:=h1.froze (ho.fresh hn) hy (ho.tfn hn)
 exact⟨_,k2,k1,_,zmo he hy,kC.mono k2 _ _ hd⟩
section
variable {rb:Nat}{names:List (List Nat)}{consts:List aA}{code:List XIns}{L:List lD}{Q:cB}
def zyo(L:List lD)(tf:Tr jA)(r:Option uA)(Q:cB):Prop:=
 (∀x tf' t' cs,r=some x->cA tf tf'->Objs yA.base tf' t' L->RD tf' x.d cs->Q (.tup [.agg cs,.bool true]) t') ∧
 (r=none->∀tf' t',cA tf tf'->Objs yA.base tf' t' L->Q (.tup [.agg sG,.bool false]) t')
theorem zyo.mono{r:Option uA}{tf':Tr jA}(h:zyo L tf r Q)(ht:cA tf tf'):zyo L tf' r Q:=
 ⟨fun x a b cs e k1 k2 k3=>h.1 x a b cs e (ht.trans k1) k2 k3,fun e a b k1 k2=>h.2 e a b (ht.trans k1) k2⟩
def z7r(L:List lD)(tf:Tr jA)(r:Option (uA × Nat))(Q:cB):Prop:=
 (∀x (n:Nat) tf' t' cs,r=some (x,n)->cA tf tf'->Objs yA.base tf' t' L->RD tf' x.d cs->Q (.tup [.agg cs,.int .i64 (n:Int),.bool true]) t') ∧
 (r=none->∀x (n:Int) tf' t' cs,cA tf tf'->Objs yA.base tf' t' L->RD tf' (uA.d x) cs->Q (.tup [.agg cs,.int .i64 n,.bool false]) t')
def znc(rb:Nat)(names:List (List Nat))(consts:List aA)(code:List XIns)(f:Nat):Prop:=
 ∀(L:List lD) (tf t:Tr jA) (i to:Nat) (Q:cB),Rdr tf rb names consts code->Objs yA.base tf t L->to<=code.length->to-i<f->zyo L tf (bK (gH names consts code kJ f i to [])) Q->Wc yA F 59 [.ptr rb 0,.int .i64 (i:Int),.int .i64 (to:Int)] t Q
theorem nL{x:uA}{cs:List zA}(h:RD t x.d cs):∃a b c,cs=mC x a b c/\qG sG (.agg cs)=some (cellsOf cs)/\bB zA.one cs=true:=zra h
theorem z35{f:Nat}(hP:znc rb names consts code f)(hr:Rdr tf rb names consts code)(ho:Objs yA.base tf t L){x0:uA}{a0 b0 c0:zA}(hx0:RD tf x0.d (mC x0 a0 b0 c0)){at_ T to opn:Nat}{E tr:Int}{last:XIns}(hT:code[T]?=some last)(hT2:at_+2<=T)(hTt:T<to)(hto:to<=code.length)(hf:to-at_<f+1)(htr:tr=0\/tr=1)
  (hE0:0<=E)
  (hQ:z7r L tf (match bK (gH names consts code kJ f (at_+1) (T-2) [])with
   | none=>none
   | some y=>if E=(T:Int)+1/\last.op=1/\kJ (consts.getD last.a.toNat eF) (rF tr)=true then some (.mk opn [] eF [x0,y],E.toNat)else none) Q) :
  jp 113 29 [.ptr rb 0,.int .i64 (at_:Int),.int .i64 (T:Int),.int .i64 E,.int .u8 (opn:Int),.int .u8 x0.op,.str x0.name,.int .u8 x0.v.kind,.bool x0.v.f.n.neg,a0,.bool x0.v.f.d.neg,b0,.int .i64 x0.v.i,c0,
   .int .u8 0,.str [],.int .u8 0,.bool false,.nilslice,.bool false,.nilslice,.int .i64 0,.nilslice,.int .u8 1,.bool false,.nilslice,.bool false,.nilslice,.int .i64 tr] t Q:=by
 obtain⟨nm,a,b,c,vn,vc,vw,vt,v1,h1,h2,h3,h4⟩:=hr.box
 have hTl:T<code.length:=(yad.1 hT).1
 have hlen:=hr.len
 have h1t:=xD.mono h1 ho.tle
 have ld1:mA yA 37 ⟨0,t⟩ (.ptr rb 8)=some v1:=h1t.load1 zrw rfl rfl
 obtain⟨p,off,g1,g2,_⟩:=rQ (h4.mono ho.tle) hT
 have hz:qG [(.int .u8 0),(.int .i64 0),(.int .i64 0)] (.agg last.cells)=some (cellsOf last.cells):=iL rfl
 refine z6h _ _ _ _ _ _ _ _ _ _ _ _ _ _ _ _ _ _ _ _ _ _ _ _ _ _ _ _ _ ?_
 simp only[ztv,pA];rw[xJ,xA,zhm,xA,ld1,xA,g1,xA,g2,xA,hz,xA];simp only[XIns.cells,cellsOf,yG,yaa,yab];refine xB (by trivial) ?_
 rw[fB (n:=(at_:Int)+1) (by omega) (by omega),fB (n:=(T:Int)-2) (by omega) (by omega),show(at_:Int)+1=((at_+1:Nat):Int) by omega,show(T:Int)-2=((T-2:Nat):Int) by omega,q59]
 have aC:∀ {tf1 t1:Tr jA} {y:uA} {a1 b1 c1:zA} {ok:Bool},cA tf tf1->Objs yA.base tf1 t1 L->RD tf1 y.d (mC y a1 b1 c1) →
   (∀tf' t' v,cA tf tf'->Objs yA.base tf' t' L->RD tf' (uA.mk opn [] eF [x0,y]).d [.int .u8 opn,.str [],.int .u8 0,.bool false,.nilslice,.bool false,.nilslice,.int .i64 0,v]->Q (.tup [.agg [.int .u8 opn,.str [],.int .u8 0,.bool false,.nilslice,.bool false,.nilslice,.int .i64 0,v],.int .i64 E,.bool ok]) t') →
   ∀n,t1.get n=none->yA.base<=n->iG (oF yA 48 2 [(0,.agg [.int .u8 x0.op,.str x0.name,.int .u8 x0.v.kind,.bool x0.v.f.n.neg,a0,.bool x0.v.f.d.neg,b0,.int .i64 x0.v.i,c0]),(1,.agg [.int .u8 y.op,.str y.name,.int .u8 y.v.kind,.bool y.v.f.n.neg,a1,.bool y.v.f.d.neg,b1,.int .i64 y.v.i,c1])] ⟨n,t1⟩) fun p=>if bB zA.one [.int .u8 opn,p.1]=true then(if bB zA.one [.int .u8 opn,.str [],.int .u8 0,.bool false,.nilslice,.bool false,.nilslice,.int .i64 0,p.1]=true then Q (.tup [.agg [.int .u8 opn,.str [],.int .u8 0,.bool false,.nilslice,.bool false,.nilslice,.int .i64 0,p.1],.int .i64 E,.bool ok]) p.2.t else False)else False:=by
  intro tf1 t1 y a1 b1 c1 ok k1 k2 k3 kQ n hn hnb;obtain⟨t2,m1,m2,m3,m4⟩:=zvv (x:=x0) (y:=y) (a:=a0) (b:=b0) (c:=c0) (a':=a1) (b':=b1) (c':=c1) hn
  unfold mC at m1;rw[m1,xA];refine xB rfl (xB rfl ?_)
  obtain⟨tf2,w1,w2,w3⟩:=zjy (l:=[x0,y]) k2 hn m2 m4 (by
   rw[ybn,ybn,List.map_nil,zE];exact⟨_,_,rfl,RD.mono k1 _ _ hx0,zE.2 ⟨_,_,rfl,k3,oE.2 rfl⟩⟩)
  exact kQ tf2 t2 _ (k1.trans w1) w2 (zg4 (v:=eF) zM zM w3)
 refine hP L tf t (at_+1) (T-2) _ hr ho (by omega) (by omega) ⟨fun y tf1 t1 cs e k1 k2 k3=>?_,fun e tf1 t1 k1 k2=>?_⟩
 ·rw[e]at hQ
  obtain⟨a1,b1,c1,rfl,hz1,hone1⟩:=nL k3
  simp only[vC,zA.asTup,sA,vE,yaa,yab,xA,mD];unfold sG at hz1;rw[hz1,xA];simp only[mC,cellsOf,yG,lF,sF,dG,yaa,yab];refine xB hone1 (xB (by trivial) ?_)
  have bad:(¬ (E=(T:Int)+1/\last.op=1/\kJ (consts.getD last.a.toNat eF) (rF tr)=true))->∀tf' t' v,cA tf tf'->Objs yA.base tf' t' L->RD tf' (uA.mk opn [] eF [x0,y]).d [.int .u8 opn,.str [],.int .u8 0,.bool false,.nilslice,.bool false,.nilslice,.int .i64 0,v]->Q (.tup [.agg [.int .u8 opn,.str [],.int .u8 0,.bool false,.nilslice,.bool false,.nilslice,.int .i64 0,v],.int .i64 E,.bool false]) t':=by
   intro hb tf' t' v w1 w2 w3;exact hQ.2 (by simp only[];rw[if_neg hb]) _ _ tf' t' _ w1 w2 w3
  rw[fB (n:=(T:Int)+1) (by omega) (by omega)]
  by_cases hEE:E=(T:Int)+1
  ·refine xB (cD.2 hEE) ?_
   by_cases hl1:last.op=1
   ·refine xB (cD.2 (by omega)) ?_
    have hs:=hr.sound T last hT
    unfold aF at hs;rw[if_pos hl1]at hs;simp only[yac,decide_eq_true_eq]at hs;obtain⟨j,hj⟩:∃j:Nat,last.a=(j:Int):=⟨last.a.toNat,by omega⟩
    have hjl:j<consts.length:=by omega
    have hcj:consts[j]?=some consts[j]:=yae hjl
    have ld5:mA yA 31 ⟨0,t1⟩ (.ptr rb 5)=some vc:=(xD.mono h1 (k1.trans k2.tle)).load1 z2e rfl rfl
    obtain⟨q,o,u,w,d1,d2,d3,d4,d5⟩:=znh (h3.mono (k1.trans k2.tle)) hcj
    have hz2:oA t1 1 (jC (rF tr).f.n.limbs) .nilslice:=zM
    have hok:gF.ok consts[j].f:=by
     have:=hr.short _ (ybk hjl)
     unfold aA.mid at this;unfold gF.ok qC;omega
    have hsv:=zn3 (b:=rF tr) d4 d5 hz2 hz2 hok
    rw[hj]at hQ bad ⊢
    rw[nU,xA,zdv,xA,ld5,xA,d1,xA,d2,xA,d3,xA];simp only[cellsOf,yG,lF,sF,dG,yaa,yab];have hsv':rD yA F 24 [.agg [.int .u8 consts[j].kind,.bool consts[j].f.n.neg,u,.bool consts[j].f.d.neg,w,.int .i64 consts[j].i],.agg [.int .u8 1,.bool false,.nilslice,.bool false,.nilslice,.int .i64 tr]] t1=some (.bool (kJ consts[j] (rF tr))):=hsv
    rw[q24,hsv',xA,mD,xA];have hget:consts.getD ((j:Nat):Int).toNat eF=consts[j]:=by simp[List.getD,hjl]
    rw[hget]at hQ bad;refine aC k1 k2 k3 fun tf' t' v w1 w2 w3=>?_
    cases hsame:kJ consts[j] (rF tr)with
    | true=>
     have:=hQ.1 (.mk opn [] eF [x0,y]) E.toNat tf' t' _ (by simp only[];rw[if_pos ⟨hEE,hl1,hsame⟩]) w1 w2 w3
     rw[show((E.toNat:Nat):Int)=E by omega]at this
     exact this
    | false=>exact bad (fun h=>by rw[hsame]at h;cases h.2.2) tf' t' v w1 w2 w3
   ·refine pC (gE (by omega)) ?_
    exact aC k1 k2 k3 (bad fun h=>hl1 h.2.1)
  ·refine pC (gE hEE) ?_
   exact aC k1 k2 k3 (bad fun h=>hEE h.1)
 ·rw[e]at hQ
  simp only[vC,zA.asTup,sA,vE,yaa,yab,xA,mD];have k3:RD tf1 mH.d (mC mH .nilslice .nilslice .nilslice):=pN
  obtain⟨a1,b1,c1,e1,hz1,hone1⟩:=nL k3
  have hz1:qG [(.int .u8 0),(.str []),(.int .u8 0),(.bool false),.nilslice,(.bool false),.nilslice,(.int .i64 0),.nilslice] (.agg sG)=some (cellsOf sG):=hz1
  rw[hz1,xA];unfold sG;simp only[cellsOf,yG,lF,sF,dG,yaa,yab];refine xB rfl (pC (by simp) ?_)
  exact aC (y:=mH) (a1:=.nilslice) (b1:=.nilslice) (c1:=.nilslice) k1 k2 k3 fun tf' t' v w1 w2 w3=>hQ.2 rfl _ _ tf' t' _ w1 w2 w3
end
end Go.Proofs
namespace Go.Proofs
open Go Go.Am
variable [dC]
variable {t tf:Tr jA}
section
variable {rb:Nat}{names:List (List Nat)}{consts:List aA}{code:List XIns}{L:List lD}{Q:cB}
theorem zx2{f:Nat}(hP:znc rb names consts code f)(hr:Rdr tf rb names consts code)(ho:Objs yA.base tf t L){x0:uA}{cs0:List zA}(hx0:RD tf x0.d cs0){at_ to:Nat}{x:XIns}(hx:code[at_]?=some x)(hj:x.op=9\/x.op=10\/x.op=11)(hlt:at_<to)(hto:to<=code.length)(hf:to-at_<f+1)
  (hQ:z7r L tf (fQ consts code kJ (fun a b=>bK (gH names consts code kJ f a b [])) x0 at_ to) Q) :
  Wc yA F 113 [.ptr rb 0,.agg cs0,.int .i64 (at_:Int),.int .i64 (to:Int)] t Q:=by
 obtain⟨nm,a,b,c,vn,vc,vw,vt,v1,h1,h2,h3,h4⟩:=hr.box
 obtain⟨a0,b0,c0,rfl⟩:∃a b c,cs0=mC x0 a b c:=by obtain⟨a,b,c,h,_⟩:=nL hx0;exact⟨a,b,c,h⟩
 have hlen:=hr.len
 have h1t:=xD.mono h1 ho.tle
 have h4t:=h4.mono ho.tle
 have ld1:mA yA 37 ⟨0,t⟩ (.ptr rb 8)=some v1:=h1t.load1 zrw rfl rfl
 obtain⟨p,off,g1,g2,_⟩:=rQ h4t hx
 have hz:qG [(.int .u8 0),(.int .i64 0),(.int .i64 0)] (.agg x.cells)=some (cellsOf x.cells):=iL rfl
 have hs:=hr.sound at_ x hx
 obtain⟨hs1,hs2⟩:=cX hs hj
 obtain⟨T,hT⟩:∃T:Nat,x.a=(T:Int):=⟨x.a.toNat,by omega⟩
 have hTn:x.a.toNat=T:=by omega
 unfold fQ at hQ;rw[hx]at hQ;simp only[]at hQ;refine w113 _ _ _ _ _ _ _ _ _ _ _ _ ?_
 simp only[t113,pA];rw[xJ,xA,zhm,xA,ld1,xA,g1,xA,g2,xA,hz,xA];simp only[XIns.cells,cellsOf,yG,yaa,yab];refine xB (by trivial) ?_
 have none':∀ {R:Option (uA × Nat)},R=none->z7r L tf R Q->Q (.tup [.agg [(.int .u8 0),(.str []),(.int .u8 0),(.bool false),.nilslice,(.bool false),.nilslice,(.int .i64 0),.nilslice],.int .i64 0,.bool false]) t:=fun e h=>h.2 e mH 0 tf t sG (cA.refl _) ho pN
 by_cases h9:x.op=9
 ·rw[if_pos h9]at hQ
  exact xB (cD.2 (by omega)) (xB (by trivial) (xB (by trivial) (none' rfl hQ)))
 rw[if_neg h9]at hQ;refine pC (gE (by omega)) ?_
 rw[fB (n:=(at_:Int)+2) (by omega) (by omega)]
 by_cases ha:x.a<(at_:Int)+2
 ·rw[if_pos ha]at hQ
  exact xB (mB.2 ha) (xB (by trivial) (xB (by trivial) (none' rfl hQ)))
 rw[if_neg ha]at hQ;refine pC (fun e=>ha (mB.1 e)) ?_
 by_cases hb:(to:Int)<=x.a
 ·rw[if_pos hb]at hQ
  exact xB (xF.2 hb) (xB (by trivial) (xB (by trivial) (none' rfl hQ)))
 rw[if_neg hb]at hQ;refine pC (fun e=>hb (xF.1 e)) ?_
 have hT1:T-1<code.length:=by omega
 have hT2:T-2<code.length:=by omega
 have hT0:T<code.length:=by omega
 have e1:code[T-1]?=some code[T-1]:=yae hT1
 have e2:code[T-2]?=some code[T-2]:=yae hT2
 have e0:code[T]?=some code[T]:=yae hT0
 rw[hTn,e1,e2,e0]at hQ;simp only[]at hQ;obtain⟨q1,o1,r1,_,r3,r4,_,r6,r7,_⟩:=rQ h4t e1
 obtain⟨q2,o2,u1,_,u3,_,_,u6,_,_⟩:=rQ h4t e2
 rw[hT]at hQ ⊢
 rw[fB (n:=(T:Int)-1) (by omega) (by omega),show(T:Int)-1=((T-1:Nat):Int) by omega,fB (n:=(T:Int)-2) (by omega) (by omega),show(T:Int)-2=((T-2:Nat):Int) by omega]
 simp only[xJ,zhm,ld1,r1,r3,r6,r4,r7,u1,u3,u6,xA,yB,if_true];by_cases hj9:code[T-1].op=9
 case neg=>
  rw[if_pos hj9]at hQ;exact xB (zI.2 (by omega)) (none' rfl hQ)
 rw[if_neg (by simp[hj9])]at hQ
 refine pC (fun e=>absurd (show((code[T-1].op:Nat):Int)=9 by omega) (zI.1 e)) ?_
 by_cases hE:(to:Int)<code[T-1].a
 ·rw[if_pos hE]at hQ
  exact xB (mB.2 hE) (none' rfl hQ)
 rw[if_neg hE]at hQ;refine pC (fun e=>hE (mB.1 e)) ?_
 have hsE:=cX (hr.sound (T-1) _ e1) (.inl hj9)
 obtain⟨E,hEn⟩:∃E:Nat,code[T-1].a=(E:Int):=⟨code[T-1].a.toNat,by omega⟩
 have hEt:code[T-1].a.toNat=E:=by omega
 rw[hEt,hEn]at hQ;rw[hEn];by_cases h12:code[T-2].op=12
 ·rw[if_pos h12]at hQ
  refine xB (cD.2 (by omega)) ?_
  by_cases h11:x.op=11
  ·simp only[if_pos h11]at hQ
   refine xB (cD.2 (by omega)) ?_
   refine z35 hP hr ho hx0 (at_:=at_) (T:=T) (to:=to) (opn:=16) (E:=(E:Int)) (tr:=1) e0 (by omega) (by omega) hto hf (.inr rfl) (by omega) ?_
   rw[show((E:Nat):Int).toNat=E by omega]
   exact hQ
  ·simp only[if_neg h11]at hQ
   refine pC (gE (by omega)) ?_
   refine z35 hP hr ho hx0 (at_:=at_) (T:=T) (to:=to) (opn:=15) (E:=(E:Int)) (tr:=0) e0 (by omega) (by omega) hto hf (.inl rfl) (by omega) ?_
   rw[show((E:Nat):Int).toNat=E by omega]
   exact hQ
 rw[if_neg h12]at hQ;refine pC (gE (by omega)) ?_
 rw[fB (n:=(at_:Int)+1) (by omega) (by omega),show(at_:Int)+1=((at_+1:Nat):Int) by omega,q59]
 refine hP L tf t (at_+1) (T-1) _ hr ho (by omega) (by omega) ⟨fun y tf1 t1 cs e k1 k2 k3=>?_,fun e tf1 t1 k1 k2=>?_⟩
 ·rw[e]at hQ
  simp only[]at hQ;obtain⟨a1,b1,c1,rfl,hz1,hone1⟩:=nL k3
  simp only[vC,zA.asTup,sA,vE,yaa,yab,xA,mD];unfold sG at hz1;rw[hz1,xA];simp only[mC,cellsOf,yG,lF,sF,dG,yaa,yab];refine xB hone1 (pC (by simp) ?_)
  by_cases h10:x.op=10
  case neg=>
   rw[if_pos h10]at hQ;exact xB (zI.2 (by omega)) (hQ.2 rfl mH 0 tf1 t1 sG k1 k2 pN)
  rw[if_neg (by simp[h10])]at hQ
  refine pC (fun e=>absurd (show(x.op:Int)=10 by omega) (zI.1 e)) ?_
  rw[q59];have aC:∀ {tf2 t2:Tr jA} {z:uA} {a2 b2 c2:zA} {ok:Bool},cA tf1 tf2->Objs yA.base tf2 t2 L->RD tf2 z.d (mC z a2 b2 c2) →
    (∀tf' t' v,cA tf tf'->Objs yA.base tf' t' L->RD tf' (uA.mk 18 [] eF [x0,y,z]).d [.int .u8 18,.str [],.int .u8 0,.bool false,.nilslice,.bool false,.nilslice,.int .i64 0,v]->Q (.tup [.agg [.int .u8 18,.str [],.int .u8 0,.bool false,.nilslice,.bool false,.nilslice,.int .i64 0,v],.int .i64 (E:Int),.bool ok]) t') →
    ∀n,t2.get n=none->yA.base<=n->iG (oF yA 48 3 [(0,.agg [.int .u8 x0.op,.str x0.name,.int .u8 x0.v.kind,.bool x0.v.f.n.neg,a0,.bool x0.v.f.d.neg,b0,.int .i64 x0.v.i,c0]),(1,.agg [.int .u8 y.op,.str y.name,.int .u8 y.v.kind,.bool y.v.f.n.neg,a1,.bool y.v.f.d.neg,b1,.int .i64 y.v.i,c1]),(2,.agg [.int .u8 z.op,.str z.name,.int .u8 z.v.kind,.bool z.v.f.n.neg,a2,.bool z.v.f.d.neg,b2,.int .i64 z.v.i,c2])] ⟨n,t2⟩) fun p=>if bB zA.one [.int .u8 18,p.1]=true then(if bB zA.one [.int .u8 18,.str [],.int .u8 0,.bool false,.nilslice,.bool false,.nilslice,.int .i64 0,p.1]=true then Q (.tup [.agg [.int .u8 18,.str [],.int .u8 0,.bool false,.nilslice,.bool false,.nilslice,.int .i64 0,p.1],.int .i64 (E:Int),.bool ok]) p.2.t else False)else False:=by
   intro tf2 t2 z a2 b2 c2 ok w1 w2 w3 kQ n hn hnb;obtain⟨t3,m1,m2,m3,m4⟩:=zvu (x:=x0) (y:=y) (z:=z) (a:=a0) (b:=b0) (c:=c0) (a':=a1) (b':=b1) (c':=c1) (a'':=a2) (b'':=b2) (c'':=c2) hn
   unfold mC at m1;rw[m1,xA];refine xB rfl (xB rfl ?_)
   obtain⟨tf3,d1,d2,d3⟩:=zjy (l:=[x0,y,z]) w2 hn m2 m4 (by
    rw[ybn,ybn,ybn,List.map_nil,zE];exact⟨_,_,rfl,RD.mono (k1.trans w1) _ _ hx0,zE.2 ⟨_,_,rfl,RD.mono w1 _ _ k3,zE.2 ⟨_,_,rfl,w3,oE.2 rfl⟩⟩⟩)
   exact kQ tf3 t3 _ (k1.trans (w1.trans d1)) d2 (zg4 (v:=eF) zM zM d3)
  refine hP L tf1 t1 T E _ (hr.mono k1) k2 (by omega) (by omega) ⟨fun z tf2 t2 cs e w1 w2 w3=>?_,fun e tf2 t2 w1 w2=>?_⟩
  ·rw[e]at hQ
   simp only[]at hQ;obtain⟨a2,b2,c2,rfl,hz2,hone2⟩:=nL w3
   simp only[vC,zA.asTup,sA,vE,yaa,yab,xA,mD];unfold sG at hz2;rw[hz2,xA];simp only[mC,cellsOf,yG,lF,sF,dG,yaa,yab];refine xB hone2 ?_
   exact aC w1 w2 w3 fun tf' t' v d1 d2 d3=>hQ.1 _ E tf' t' _ rfl d1 d2 d3
  ·rw[e]at hQ
   simp only[]at hQ;simp only[vC,zA.asTup,sA,vE,yaa,yab,xA,mD];have k3':RD tf2 mH.d (mC mH .nilslice .nilslice .nilslice):=pN
   obtain⟨a2,b2,c2,e1,hz2,hone2⟩:=nL k3'
   have hz2:qG [(.int .u8 0),(.str []),(.int .u8 0),(.bool false),.nilslice,(.bool false),.nilslice,(.int .i64 0),.nilslice] (.agg sG)=some (cellsOf sG):=hz2
   rw[hz2,xA];unfold sG;simp only[cellsOf,yG,lF,sF,dG,yaa,yab];refine xB rfl ?_
   exact aC (z:=mH) (a2:=.nilslice) (b2:=.nilslice) (c2:=.nilslice) w1 w2 k3' fun tf' t' v d1 d2 d3=>hQ.2 rfl _ _ tf' t' _ d1 d2 d3
 ·rw[e]at hQ
  simp only[]at hQ;simp only[vC,zA.asTup,sA,vE,yaa,yab,xA,mD];have k3':RD tf1 mH.d (mC mH .nilslice .nilslice .nilslice):=pN
  obtain⟨a2,b2,c2,e1,hz2,hone2⟩:=nL k3'
  have hz2:qG [(.int .u8 0),(.str []),(.int .u8 0),(.bool false),.nilslice,(.bool false),.nilslice,(.int .i64 0),.nilslice] (.agg sG)=some (cellsOf sG):=hz2
  rw[hz2,xA];unfold sG;simp only[cellsOf,yG,lF,sF,dG,yaa,yab];exact xB rfl (xB (by trivial) (hQ.2 rfl mH 0 tf1 t1 sG k1 k2 pN))
end
end Go.Proofs
namespace Go.Proofs
open Go Go.Am
variable [dC]
variable {t tf:Tr jA}
section
variable {rb:Nat}{names:List (List Nat)}{consts:List aA}{code:List XIns}
def z18(rb:Nat)(names:List (List Nat))(consts:List aA)(code:List XIns)(f:Nat):Prop:=
 ∀(L:List lD) (tf t:Tr jA) (i to:Nat) (st:List uA) (v8:zA) (Q:cB),Rdr tf rb names consts code->Objs yA.base tf t (iI yA.base 9 (st.map uA.d) v8::L)->to<=code.length->to-i<f->st.length<=i->i<=code.length →
  zyo L tf (bK (gH names consts code kJ f i to st)) Q →
  jp 59 2 [.ptr rb 0,.int .i64 (to:Int),v8,.int .i64 (i:Int),.int .u8 0,.str [],.int .u8 0,.bool false,.nilslice,.bool false,.nilslice,.int .i64 0,.nilslice] t Q
theorem zbh{f:Nat}(h:z18 rb names consts code f):znc rb names consts code f:=by
 intro L tf t i to Q hr ho hto hf hQ;refine w59 _ _ _ ?_
 simp only[t59,pA];by_cases hi:i<=code.length
 ·exact h L tf t i to [] .nilslice Q hr (Objs.add (A:=[]) (B:=L) (o':=iI yA.base 9 ([]:List D) .nilslice) ho (fun _ _=>rfl) (fun k hk=>by simp[iI,lE]at hk) (.inl ⟨rfl,rfl⟩) (by simp[iI,lE]) ho.tle) hto hf (Nat.zero_le _) hi hQ
 ·refine j59_2 _ _ _ _ _ _ _ _ _ _ _ _ _ ?_
  simp only[z4t,pA];have hr0:gH names consts code kJ f i to []=some []:=by
   cases f with
   | zero=>omega
   | succ f=>unfold gH;rw[if_pos (by omega)]
  rw[hr0]at hQ;refine pC (fun e=>absurd (mB.1 e) (by omega)) ?_
  rw[show uB .nilslice=some (.int .i64 0) from rfl,xA,yB,xA]
  exact xB (by decide) (xB (by trivial) (xB (by trivial) (hQ.2 rfl tf t (cA.refl _) ho)))
theorem zmz{f:Nat->Nat->Option uA}{x0 y:uA}{at_ to n:Nat}(hs:∀i x,code[i]?=some x->aF names.length consts.length x i code.length=true)(h:fQ consts code kJ f x0 at_ to=some (y,n)):at_<n/\n<=to:=by
 unfold fQ at h;split at h
 ·cases h
 ·rename_i x hx
  split at h
  ·cases h
  ·split at h
   ·cases h
   ·split at h
    ·cases h
    ·rename_i h9 ha hb
     split at h
     ·rename_i j k last e1 e2 e3
      split at h
      ·cases h
      ·rename_i hj9
       have hj9:j.op=9:=by simpa using hj9
       have hsj:=cX (hs _ _ e1) (.inl hj9)
       split at h
       ·cases h
       ·rename_i hE
        have aC:n=j.a.toNat->at_<n/\n<=to:=fun e=>by omega
        split at h
        ·split at h
         ·cases h
         ·rw[Option.ite_none_right_eq_some]at h
          obtain⟨_,h⟩:=h
          injection h with h;injection h with _ h2;exact aC h2.symm
        ·split at h
         ·cases h
         ·split at h
          ·cases h
          ·split at h
           ·cases h
           ·injection h with h;injection h with _ h2;exact aC h2.symm
     ·cases h
theorem uZ{x:XIns}{args:List uA}:zG names consts x args=.mk (zG names consts x []).op (zG names consts x []).name (zG names consts x []).v args:=by
 unfold zG;repeat' split
 all_goals rfl
theorem jW{l:List uA}{cl:List (List zA)}(h:kC tf (l.map uA.d) cl):∀a∈cl.flatten,zA.one a=true:=by
 induction l generalizing cl with
 | nil=>rw[List.map_nil,oE]at h;subst h;intro a ha;simp at ha
 | cons x l ih=>
  rw[ybn,zE]at h;obtain⟨c,r,rfl,h1,h2⟩:=h
  obtain⟨_,_,_,_,_,ho⟩:=nL h1
  rw[oG]at ho;intro a ha;rw[List.flatten_cons,List.mem_append]at ha;rcases ha with ha | ha
  ·exact ybc.1 ho a ha
  ·exact ih h2 a ha
theorem zzt{α:Type}{l:List α}{y:α}(h:l≠[]):l.set (l.length-1) y=l.dropLast++[y]:=by
 induction l with
 | nil=>exact absurd rfl h
 | cons a l ih=>
  cases l with
  | nil=>rfl
  | cons b l=>
   have:=ih (by simp)
   simp only[yao,Nat.add_sub_cancel]at this ⊢
   rw[List.set_cons_succ,this];rfl
theorem zvn{f:Nat}(hL:z18 rb names consts code f):z18 rb names consts code (f+1):=by
 have hP:=zbh hL
 intro L tf t i to st v8 Q hr ho hto hf hst hil hQ;have hbuf:Buf yA.base tf t 9 (st.map uA.d) v8:=ho.ok (iI yA.base 9 (st.map uA.d) v8) (by simp)
 have hod:Objs yA.base tf t L:=Objs.drop (A:=[]) ho
 have hrd:=hbuf.read ho.tle
 have hlenv:uB v8=some (.int .i64 (st.length:Int)):=by rw[hrd.len,yag]
 have hclen:=hr.len
 refine j59_2 _ _ _ _ _ _ _ _ _ _ _ _ _ ?_
 simp only[z4t,pA];by_cases hi:i<to
 case neg=>
  have hr0:gH names consts code kJ (f+1) i to st=some st:=by unfold gH;rw[if_pos (by omega)]
  rw[hr0]at hQ;refine pC (fun e=>absurd (mB.1 e) (by omega)) ?_
  rw[hlenv,xA,yB,xA];by_cases h1:st.length=1
  ·refine pC (fun e=>absurd (show((st.length:Nat):Int)=1 by omega) (zI.1 e)) ?_
   obtain⟨x,rfl⟩:∃x,st=[x]:=by
    match st,h1 with
    | [x],_=>exact⟨x,rfl⟩
   obtain⟨p,o,cs,g1,g2,g3,_⟩:=hbuf.elem z2q (i:=0) (d:=x.d) (by simp)
   obtain⟨a,b,c,rfl,hz,hone⟩:=nL g3
   have g1:zB yA 48 v8 (.int .i64 0)=some (.ptr p o):=g1
   unfold sG at hz;rw[g1,xA,g2,xA,hz,xA];simp only[mC,cellsOf,yG,lF,sF,dG,yaa,yab];exact xB hone (hQ.1 x tf t _ rfl (cA.refl _) hod g3)
  ·refine xB (zI.2 (by omega)) (xB (by trivial) (xB (by trivial) (hQ.2 ?_ tf t (cA.refl _) hod)))
   match st,h1 with
   | [],_=>rfl
   | _::_::_,_=>rfl
 have hxl:i<code.length:=by omega
 have hx:code[i]?=some code[i]:=yae hxl
 generalize code[i]=x at hx
 obtain⟨nm,a,b,c,vn,vc,vw,vt,v1,h1,h2,h3,h4⟩:=hr.box
 have h1t:=xD.mono h1 ho.tle
 have ld1:mA yA 37 ⟨0,t⟩ (.ptr rb 8)=some v1:=h1t.load1 zrw rfl rfl
 obtain⟨p,off,g1,g2,_⟩:=rQ (h4.mono ho.tle) hx
 have hz:qG [(.int .u8 0),(.int .i64 0),(.int .i64 0)] (.agg x.cells)=some (cellsOf x.cells):=iL rfl
 have hs:=hr.sound i x hx
 unfold gH at hQ;rw[if_neg (by omega),hx]at hQ
 simp only[]at hQ;refine xB (mB.2 (by omega)) ?_
 rw[xJ,xA,zhm,xA,ld1,xA,g1,xA,g2,xA,hz,xA];simp only[XIns.cells,cellsOf,yG,yaa,yab];refine xB (by trivial) ?_
 rw[q112,zax,xA,mD,xA];by_cases hj:x.op=9\/x.op=10\/x.op=11
 ·rw[if_pos hj]at hQ
  rw[decide_eq_true hj];refine xB (by trivial) ?_
  rw[hlenv,xA,yB,xA];by_cases he:st=[]
  ·subst he
   exact xB (by decide) (xB (by trivial) (xB (by trivial) (hQ.2 rfl tf t (cA.refl _) hod)))
  have hpos:0<st.length:=List.length_pos_iff.2 he
  refine pC (gE (by omega)) ?_
  have htop:st.getLast?=some st[st.length-1]:=by
   rw[List.getLast?_eq_getElem?,yae (by omega)]
  rw[htop]at hQ;simp only[]at hQ;obtain⟨q,o,cs,k1,k2,k3,_⟩:=hbuf.elem z2q (i:=st.length-1) (d:=st[st.length-1].d) (by rw[yav,yae (by omega)];rfl)
  obtain⟨a1,b1,c1,rfl,hz1,hone1⟩:=nL k3
  unfold sG at hz1;rw[xA,yB,xA,fB (n:=(st.length:Int)-1) (by omega) (by omega),show(st.length:Int)-1=((st.length-1:Nat):Int) by omega,k1,xA,k2,xA,hz1,xA]
  simp only[mC,cellsOf,yG,lF,sF,dG,yaa,yab];rw[q113];refine zx2 hP hr ho k3 hx hj hi hto hf ⟨fun y n tf1 t1 ds e m1 m2 m3=>?_,fun e y n tf1 t1 ds m1 m2 m3=>?_⟩
  ·obtain⟨hn1,hn2⟩:=zmz hr.sound e
   rw[e]at hQ;simp only[]at hQ;obtain⟨a2,b2,c2,rfl,hz2,hone2⟩:=nL m3
   simp only[vC,zA.asTup,sA,vE,yaa,yab,xA,yB,mD];unfold sG at hz2;rw[hz2,xA];simp only[mC,cellsOf,yG,lF,sF,dG,yaa,yab]
   refine xB hone2 (pC (by simp) ?_)
   have hbuf1:Buf yA.base tf1 t1 9 (st.map uA.d) v8:=m2.ok (iI yA.base 9 (st.map uA.d) v8) (by simp)
   obtain⟨q2,o2,t2,d1,d2,d3,d4,d5⟩:=hbuf1.set z2q (S:=50) z2d (i:=st.length-1) (by rw[yag];omega) (w:=.agg (mC y a2 b2 c2)) (d:=y.d) rfl rfl hone2 m3 m2.tle
   rw[d1]at k1
   cases k1
   intro n2 _ _;have d2:=d2 n2
   unfold mC at d2;rw[d2,xA];have hset:(st.map uA.d).set (st.length-1) y.d=(st.dropLast++[y]).map uA.d:=by
    rw[<- zzt he,List.map_set]
   rw[hset]at d3;have o2':Objs yA.base tf1 t2 (iI yA.base 9 ((st.dropLast++[y]).map uA.d) v8::L):=
    Objs.upd (A:=[]) (o:=iI yA.base 9 (st.map uA.d) v8) (o':=iI yA.base 9 ((st.dropLast++[y]).map uA.d) v8) m2 (fun k k1 _=>d5 k (fun e=>k1 (pL.2 e))) (fun k hk=>.inl hk) d3 (by cases v8<;>simp[iI,lE]) d4
   exact hL L tf1 t2 n to (st.dropLast++[y]) v8 Q (hr.mono m1) o2' hto (by omega) (by simp;omega) (by omega) (hQ.mono m1)
  ·rw[e]at hQ
   obtain⟨a2,b2,c2,rfl,hz2,hone2⟩:=nL m3
   simp only[vC,zA.asTup,sA,vE,yaa,yab,xA,yB,mD];unfold sG at hz2;rw[hz2,xA];simp only[mC,cellsOf,yG,lF,sF,dG,yaa,yab]
   exact xB hone2 (xB (by trivial) (xB (by trivial) (xB (by trivial) (hQ.2 rfl tf1 t1 m1 (Objs.drop (A:=[]) m2)))))
 rw[if_neg hj]at hQ;rw[decide_eq_false hj];refine pC (by simp) ?_
 obtain⟨hp1,hp2⟩:=zfi hs
 rw[q111,znw (hr.glob.mono ho.tle) (zio hs),xA]
 simp only[vC,zA.asTup,sA,vE,yaa,yab,xA,yB];by_cases h12:x.op=12
 ·rw[if_pos (.inl h12)]at hQ
  exact xB (cD.2 (by omega)) (xB (by trivial) (xB (by trivial) (hQ.2 rfl tf t (cA.refl _) hod)))
 refine pC (gE (by omega)) ?_
 rw[hlenv,xA,yB,xA];by_cases hfew:(st.length:Int)<dF x
 ·rw[if_pos (.inr hfew)]at hQ
  exact xB (mB.2 hfew) (xB (by trivial) (xB (by trivial) (hQ.2 rfl tf t (cA.refl _) hod)))
 rw[if_neg (fun h=>h.elim h12 hfew)]at hQ
 refine pC (fun e=>hfew (mB.1 e)) ?_
 rw[xA,yB,xA,q114];obtain⟨k,hk⟩:∃k,k=st.length-(dF x).toNat:=⟨_,rfl⟩
 have hkl:k<=st.length:=by omega
 rw[<- hk]at hQ;have hw:vA .i64 ((st.length:Int)-dF x)=(k:Int):=by rw[fB (by omega) (by omega)];omega
 refine zct hr ho hx hj h12 fun tf1 t1 a1 b1 m1 m2 m3 m4=>?_
 have hr1:=hr.mono m1
 have hy0:RD tf1 (zG names consts x []).d (mC (zG names consts x []) a1 b1 .nilslice):=by
  rw[uZ];exact zg4 m3 m4 zM
 obtain⟨_,_,_,_,hz1,hone1⟩:=nL hy0
 unfold sG at hz1;rw[hz1,xA];simp only[mC,cellsOf,yG,lF,sF,dG,yaa,yab];refine xB hone1 ?_
 rw[hw];have hbuf1:Buf yA.base tf1 t1 9 (st.map uA.d) v8:=m2.ok (iI yA.base 9 (st.map uA.d) v8) (by simp)
 obtain⟨va,ca,s1,s2,s3⟩:=hbuf1.back z2q (k:=k) (by obtain⟨cz,nz,hz⟩:=hr1.zero;exact⟨cz,nz,m2.tle _ _ hz⟩) (by rw[yag];exact hkl)
 rw[<- List.map_drop]at s3;rw[s1,xA];intro n1 hn1 hb1;have hargs:∃va' t2 tf2 n',eE yA 48 48 .nilslice va ⟨n1,t1⟩=some (va',⟨n',t2⟩)/\cA tf1 tf2/\Objs yA.base tf2 t2 (iI yA.base 9 (st.map uA.d) v8::L)/\oA tf2 9 ((st.drop k).map uA.d) va'/\cA t1 t2:=by
  by_cases hd0:st.drop k=[]
  ·have:ca=[]:=by rw[hd0,List.map_nil,oE]at s3;exact s3
   subst this;exact⟨.nilslice,t1,tf1,n1,zm5 el48 s2,cA.refl _,m2,by rw[hd0];exact zM,cA.refl _⟩
  ·obtain⟨t2,g1,g2,g3,g4⟩:=fU (C:=yA) el48 (l:=[]) (m:=(st.drop k).map uA.d) (v:=.nilslice) (.inl ⟨rfl,rfl⟩) s2 s3 (jW s3) (by rw[yag];exact List.length_pos_iff.2 hd0) (by simp;omega) hn1 hb1 m2.tle
   simp only[yay,yax,List.nil_append]at g1 g2;have hoff:kD n1 t1 t2:=fun c hc=>g4 c hc zdn
   have o1:=m2.junk hn1 hoff
   have o2:Objs yA.base tf1 t2 ([]++aB yA.base 9 ((st.drop k).map uA.d) (.slice n1 0 ((st.drop k).map uA.d).length ((st.drop k).map uA.d).length)::(iI yA.base 9 (st.map uA.d) v8::L)):=by
    refine Objs.add (A:=[]) (o':=aB yA.base 9 ((st.drop k).map uA.d) _) m2 (fun c hc=>hoff c (fun e=>hc (by simp[aB,lE,e]))) (fun c hc=>?_) ?_ (by simp[aB,lE]) g3
    ·have:c=n1:=by simpa[aB,lE]using hc
     subst this;exact⟨hn1,hb1⟩
    ·exact g2
   obtain⟨tf2,z1,z2,z3⟩:=Objs.freezeL (A:=[]) o2
   refine⟨_,t2,tf2,_,g1,z1,z2,z3,fun c y hc=>?_⟩
   rw[hoff c (by intro e;subst e;rw[hn1]at hc;cases hc)];exact hc
 obtain⟨va',t2,tf2,n',e1,e2,e3,e4,e5⟩:=hargs
 rw[e1,xA];have honea:bB zA.one [va']=true:=by rw[oG];simp only[ybh,ybl,e4.one];rfl
 refine xB honea ?_
 have hbuf2:Buf yA.base tf2 t2 9 (st.map uA.d) v8:=e3.ok (iI yA.base 9 (st.map uA.d) v8) (by simp)
 obtain⟨vf,f1,f2,f3⟩:=hbuf2.front z2q (k:=k) (by rw[yag];exact hkl)
 rw[f1,xA];intro n2 hn2 hb2;have hy1:RD tf2 (zG names consts x (st.drop k)).d (mC (zG names consts x (st.drop k)) a1 b1 va'):=by
  rw[uZ];exact zg4 (m3.mono e2) (m4.mono e2) e4
 have ec:mC (zG names consts x (st.drop k)) a1 b1 va'=[.int .u8 (zG names consts x []).op,.str (zG names consts x []).name,.int .u8 (zG names consts x []).v.kind,.bool (zG names consts x []).v.f.n.neg,a1,.bool (zG names consts x []).v.f.d.neg,b1,.int .i64 (zG names consts x []).v.i,va']:=by
  rw[uZ];rfl
 obtain⟨t3,u1,u2,u3,u4⟩:=zvw (x:=zG names consts x (st.drop k)) (a:=a1) (b:=b1) (c:=va') hn2
 rw[ec]at u1;rw[u1,xA];have f1':yH yA 48 ⟨0,t3⟩ v8 none (some (.int .i64 (k:Int)))=some vf:=zcc (H:=⟨0,t2⟩) (HA:=⟨0,t3⟩) (fun _ _ h=>u3 _ _ h) f1
 rw[f1',xA];have o3:Objs yA.base tf2 t3 (iI yA.base 9 (st.map uA.d) v8::L):=e3.junk hn2 u4
 have hbuf3:Buf yA.base tf2 t3 9 (st.map uA.d) v8:=o3.ok (iI yA.base 9 (st.map uA.d) v8) (by simp)
 obtain⟨vf',f1'',f2',f3'⟩:=hbuf3.front z2q (k:=k) (by rw[yag];exact hkl)
 rw[f1'']at f1'
 cases f1'
 refine xB (f2'.read o3.tle).same ?_
 have o4:Objs yA.base tf2 t3 (iI yA.base 9 ((st.map uA.d).take k) vf::L):=
  Objs.upd (A:=[]) (o:=iI yA.base 9 (st.map uA.d) v8) (o':=iI yA.base 9 ((st.map uA.d).take k) vf) o3 (fun _ _ _=>rfl) (fun c hc=>.inl (by
   have:c∈lE vf:=hc
   rw[f3']at this;exact this)) f2' (by cases vf<;>simp[iI,lE]) o3.tle
 intro n3 hn3 hb3;obtain⟨_,_,_,_,_,honey⟩:=nL hy1
 rw[oG]at honey;obtain⟨v9,t4,n4,p1,p2,p3,p4,p5⟩:=f2'.push el48 u2 hy1 (fun a ha=>ybc.1 honey a ha) (by rw[ycb,yag];omega) hn3 hb3 o3.tle
 rw[p1,xA];have hmap:(st.map uA.d).take k++[(zG names consts x (st.drop k)).d]=(st.take k++[zG names consts x (st.drop k)]).map uA.d:=by
  rw[List.map_append,List.map_take];rfl
 rw[hmap]at p2;have o5:Objs yA.base tf2 t4 (iI yA.base 9 ((st.take k++[zG names consts x (st.drop k)]).map uA.d) v9::L):=
  Objs.upd (A:=[]) (o:=iI yA.base 9 ((st.map uA.d).take k) vf) (o':=iI yA.base 9 ((st.take k++[zG names consts x (st.drop k)]).map uA.d) v9) o4 (fun c h1 h2=>p4 c (fun e=>h1 (pL.2 e)) (fun e=>h2 (pL.2 e))) (fun c hc=>by
   rcases p5 c (pL.1 hc)with h | rfl
   ·exact .inl (pL.2 h)
   ·exact .inr ⟨hn3,hb3⟩) p2 (by cases v9<;>simp[iI,lE]) p3
 rw[fB (n:=(i:Int)+1) (by omega) (by omega),show(i:Int)+1=((i+1:Nat):Int) by omega]
 exact hL L tf2 t4 (i+1) to _ v9 Q (hr1.mono e2) o5 hto (by omega) (by rw[yah,ycb,List.length_singleton];omega) (by omega) (hQ.mono (m1.trans e2))
theorem z0k:∀f,z18 rb names consts code f:=by
 intro f;induction f with
 | zero=>intro L tf t i to st v8 Q _ _ _ hf;omega
 | succ f ih=>exact zvn ih
end
end Go.Proofs
namespace Go.Proofs
open Go Go.Am
variable [dC]
variable {t tf:Tr jA}
section
variable {names:List (List Nat)}{consts:List aA}{code:List XIns}{L:List lD}{Q:cB}
def zro (consts:List aA)(x:XIns):Bool:=decide (x.op=13)||(decide (x.op=1) && !rB (consts.getD x.a.toNat eF))
def zrc(names:List (List Nat))(consts:List aA)(code:List XIns):Option uA:=
 if rS names.length consts.length code=false then none
 else if code.any (zro consts)=true then none
 else bK (gH names consts code kJ (code.length+1) 0 code.length [])
def ExpQ (L:List lD)(tf:Tr jA)(r:Option uA)(Q:cB):Prop:=
 (∀x tf' t' cs,r=some x->cA tf tf'->Objs yA.base tf' t' L->RD tf' (uA.d x) cs->Q (.tup [.agg cs,.int .i64 0]) t') ∧
 (r=none->∀tf' t',cA tf tf'->Objs yA.base tf' t' L->Q (.tup [.agg sG,.int .i64 190]) t')
theorem ze5{nN nC len:Nat}:∀ {l:List XIns} {i:Nat} {d d':List Nat},yO nN nC len l i d=some d'->∀(k:Nat) x,l[k]?=some x->aF nN nC x (i+k) len=true
 | [],_,_,_,_,k,x,h=>by simp at h
 | y::l,i,d,d',h,k,x,hx=>by
  have h:(rM nN nC len y i d).bind (yO nN nC len l (i+1))=some d':=h
  rw[Option.bind_eq_some_iff]at h;obtain⟨d1,h1,h2⟩:=h
  cases k with
  | zero=>
   obtain rfl:y=x:=by simpa using hx
   unfold rM at h1;split at h1
   ·split at h1
    ·cases h1
    ·rename_i h3;simpa using h3
   ·cases h1
  | succ k=>
   have:=ze5 h2 k x (by simpa using hx)
   rw[show i+(k+1)=i+1+k by omega];exact this
theorem zao{nN nC:Nat}(h:rS nN nC code=true):code.length<=1000/\∀i x,code[i]?=some x->aF nN nC x i code.length=true:=by
 unfold rS at h;rw[yac,decide_eq_true_eq]at h;refine⟨h.1,fun i x hx=>?_⟩
 cases hl:yO nN nC code.length code 0 (1::List.replicate code.length 0)with
 | none=>rw[hl]at h;cases h.2
 | some d=>
  have:=ze5 hl i x hx
  rwa [yax]at this
theorem zxd{nm:List Nat}{a b c vn vc vw vt v1:zA}(ho:Objs yA.base tf t L)(hn:oA tf 1 (names.map D.str) vn)(hc:oA tf 6 (consts.map aA.d) vc)(hv:oA tf 3 (code.map XIns.d) v1)(hsz:code.length<1125899906842624)
  (hsh:∀v∈consts,aA.mid v) (hfit:∀v∈consts,gF.fit v.f) (hg:sK tf) (hz0:∃c n,tf.get 0=some (.cells c n none)) (h1a:zA.one a=true) (h1b:zA.one b=true) (h1c:zA.one c=true) (h1w:zA.one vw=true) (h1t:zA.one vt=true)
  (hQ:ExpQ L tf (zrc names consts code) Q):Wc yA F 28 [.agg [.str nm,a,b,c,vn,vc,vw,vt],v1] t Q:=by
 have hvt:=hv.mono ho.tle
 have hct:=hc.mono ho.tle
 have hlen:uB v1=some (.int .i64 (code.length:Int)):=by rw[hvt.len,yag]
 have hso:=ziq (nm:=nm) (a:=a) (b:=b) (c:=c) (vw:=vw) (vt:=vt) hvt (hn.mono ho.tle) hct (hg.mono ho.tle) hsz
 refine w28 _ _ _ _ _ _ _ _ _ ?_
 simp only[t28,pA];rw[q58,hso,xA,mD,xA];unfold zrc at hQ
 cases hs:rS names.length consts.length code with
 | false=>
  rw[hs,if_pos rfl]at hQ;exact xB (by simp) (xB (by trivial) (xB (by trivial) (hQ.2 rfl tf t (cA.refl _) ho)))
 | true=>
  rw[hs,if_neg (by simp)]at hQ
  refine pC (by simp) ?_
  rw[hlen,xA,yB,xA];obtain⟨hl1,hall⟩:=zao hs
  have loop:∀(m i:Nat),i+m=code.length->(code.take i).any (zro consts)=false->jp 28 2 [v1,v1,.int .i64 (code.length:Int),.int .i64 (i:Int),.str nm,a,b,c,vn,vc,vw,vt,.int .u8 0,.str [],.int .u8 0,.bool false,.nilslice,.bool false,.nilslice,.int .i64 0,.nilslice] t Q:=by
   intro m;induction m with
   | zero=>
    intro i hi hb;have hb:code.any (zro consts)=false:=by rw[ybb (by omega)]at hb;exact hb
    rw[hb,if_neg (by simp)]at hQ
    refine j28_2 _ _ _ _ _ _ _ _ _ _ _ _ _ _ _ _ _ _ _ _ _ ?_
    simp only[z42,pA];refine pC (fun e=>absurd (mB.1 e) (by omega)) ?_
    have hone1:bB zA.one [v1]=true:=by rw[oG];simp only[ybh,ybl,hv.one];rfl
    refine xB hone1 ?_
    intro n hn1 hnb;obtain⟨t1,a1,a2,a3,a4⟩:=uT (C:=yA) ty118 hn1
    rw[a1,xA];intro n2 _ _;obtain⟨t2,b1,b2,b3⟩:=a2.store (C:=yA) hnb (j:=0) (v:=.agg [.str nm,a,b,c,vn,vc,vw,vt,v1]) ty118 rfl (by show 0+9<=9;decide) (by
     rw[oG];simp only[zA.cells,zA.asAgg,ybh,ybl,h1a,h1b,h1c,h1w,h1t,hn.one,hc.one,hv.one];rfl)
    have b1:=b1 n2
    have b2:xD t2 n none [.str nm,a,b,c,vn,vc,vw,vt,v1]:=b2
    rw[b1,xA,hlen,xA,yB,xA,q59];have o1:=ho.junk hn1 (a4.trans b3)
    obtain⟨cb,hcb,hcb2⟩:=b2
    obtain⟨o2,z1⟩:=o1.froze (ho.fresh hn1) hcb (ho.tfn hn1)
    have hrd:Rdr (tf.set n (.cells cb [.str nm,a,b,c,vn,vc,vw,vt,v1].length none)) n names consts code:=by
     obtain⟨cz,nz,hz⟩:=hz0
     exact⟨⟨nm,a,b,c,vn,vc,vw,vt,v1,⟨cb,by rw[Tr.get_set,if_pos rfl],hcb2⟩,hn.mono z1,hc.mono z1,hv.mono z1⟩,hsh,hall,hl1,hg.mono z1,⟨cz,nz,z1 _ _ hz⟩⟩
    refine zbh (z0k (code.length+1)) L _ t2 0 code.length _ hrd o2 (yal _) (by omega) ⟨fun x tf' t' cs e k1 k2 k3=>?_,fun e tf' t' k1 k2=>?_⟩
    ·obtain⟨a5,b5,c5,rfl,hz5,hone5⟩:=nL k3
     simp only[vC,zA.asTup,sA,vE,yaa,yab,xA,mD];unfold sG at hz5;rw[hz5,xA];simp only[mC,cellsOf,yG,lF,sF,dG,yaa,yab]
     exact xB hone5 (pC (by simp) (xB hone5 (hQ.1 x tf' t' _ e (z1.trans k1) k2 k3)))
    ·have k3':RD tf' mH.d (mC mH .nilslice .nilslice .nilslice):=pN
     obtain⟨_,_,_,_,hz5,_⟩:=nL k3'
     have hz5:qG [(.int .u8 0),(.str []),(.int .u8 0),(.bool false),.nilslice,(.bool false),.nilslice,(.int .i64 0),.nilslice] (.agg sG)=some (cellsOf sG):=hz5
     simp only[vC,zA.asTup,sA,vE,yaa,yab,xA,mD];rw[hz5,xA];unfold sG;simp only[cellsOf,yG,lF,sF,dG,yaa,yab];exact xB rfl (xB (by trivial) (xB (by trivial) (xB (by trivial) (hQ.2 e tf' t' (z1.trans k1) k2))))
   | succ m ih=>
    intro i hi hb;have hxl:i<code.length:=by omega
    have hx:code[i]?=some code[i]:=yae hxl
    obtain⟨p,off,g1,g2,_⟩:=rQ hvt hx
    have hz:qG [(.int .u8 0),(.int .i64 0),(.int .i64 0)] (.agg code[i].cells)=some (cellsOf code[i].cells):=iL rfl
    have htake:code.take (i+1)=code.take i++[code[i]]:=by rw[ych,hx];rfl
    have hany:zro consts code[i]=true->code.any (zro consts)=true:=fun h=>List.any_eq_true.2 ⟨_,ybk hxl,h⟩
    have next:zro consts code[i]=false->jp 28 2 [v1,v1,.int .i64 (code.length:Int),.int .i64 ((i+1:Nat):Int),.str nm,a,b,c,vn,vc,vw,vt,.int .u8 0,.str [],.int .u8 0,.bool false,.nilslice,.bool false,.nilslice,.int .i64 0,.nilslice] t Q:=fun h=>
     ih (i+1) (by omega) (by rw[htake,List.any_append,hb,Bool.false_or];simp[h])
    refine j28_2 _ _ _ _ _ _ _ _ _ _ _ _ _ _ _ _ _ _ _ _ _ ?_
    simp only[z42,pA];refine xB (mB.2 (by omega)) ?_
    rw[g1,xA,g2,xA,hz,xA];simp only[XIns.cells,cellsOf,yG,yaa,yab];refine xB (by trivial) ?_
    rw[fB (n:=(i:Int)+1) (by omega) (by omega),show(i:Int)+1=((i+1:Nat):Int) by omega]
    by_cases h13:code[i].op=13
    ·rw[hany (by unfold zro;simp[h13]),if_pos rfl]at hQ
     exact xB (cD.2 (by omega)) (xB (by trivial) (xB (by trivial) (hQ.2 rfl tf t (cA.refl _) ho)))
    refine pC (gE (by omega)) ?_
    by_cases h1:code[i].op=1
    ·refine xB (cD.2 (by omega)) ?_
     have hsi:=hall i _ hx
     unfold aF at hsi;rw[if_pos h1]at hsi;simp only[yac,decide_eq_true_eq]at hsi;obtain⟨j,hj⟩:∃j:Nat,code[i].a=(j:Int):=⟨code[i].a.toNat,by omega⟩
     have hjl:j<consts.length:=by omega
     have hcj:consts[j]?=some consts[j]:=yae hjl
     obtain⟨q,o,u,w,d1,d2,d3,d4,d5⟩:=znh hct hcj
     rw[hj,d1,xA,d2,xA,d3,xA];simp only[cellsOf,yG,lF,sF,dG,yaa,yab];rw[q25,zh6 d4 d5 (hfit _ (ybk hjl)),xA,mD,xA]
     have hbad:zro consts code[i] = !rB consts[j]:=by
      unfold zro;rw[hj,decide_eq_false h13,decide_eq_true h1];simp[List.getD,hjl]
     cases hval:rB consts[j]with
     | false=>
      rw[hval]at hbad;rw[hany hbad,if_pos rfl]at hQ;exact xB (by simp) (xB (by trivial) (xB (by trivial) (hQ.2 rfl tf t (cA.refl _) ho)))
     | true=>
      rw[hval]at hbad;exact pC (by simp) (next hbad)
    ·refine pC (gE (by omega)) (next ?_)
     unfold zro;rw[decide_eq_false h13,decide_eq_false h1];rfl
  exact loop code.length 0 (by omega) rfl
end
end Go.Proofs
namespace Go.Proofs
open Go Go.Am
variable [dC]
variable {t tf:Tr jA}
theorem z5t{p:cH}{a b c:zA}(ha:oA t 3 (p.defs.map dJ.d) a)(hb:oA t 3 (p.tables.map vF.d) b)(hc:oA t 24 (p.clauses.map jD.d) c):RD t p.d [.str p.name,a,b,c]:=by
 unfold cH.d;simp only[kI,zE,oE,zN,aJ];exact⟨[[.str p.name],[a],[b],[c]],rfl,_,_,rfl,rfl,_,_,rfl,⟨a,rfl,ha⟩,_,_,rfl,⟨b,rfl,hb⟩,_,_,rfl,⟨c,rfl,hc⟩,rfl⟩
section
variable {p:cH}{names:List (List Nat)}{consts:List aA}{whens thens:List (List XIns)}{code:List XIns}{k:Nat}{p2:Int}{v10 a b c vn vc vw vt:zA}
end
end Go.Proofs
namespace Go.Proofs
open Go Go.Am
variable [dC]
variable {t tf:Tr jA}
theorem z5f{n:Int}{m:Nat}{Q:cB}(hm:0<m)(hb:m<1000000)(hQ:∀k:Nat,k<m->Q (.int .i64 (k:Int)) t):Wc yA F 26 [.int .i64 n,.int .i64 (m:Int)] t Q:=by
 have h1:n.tmod (m:Int)<m:=Int.tmod_lt_of_pos n (by omega)
 have h2 : -(m:Int)<n.tmod (m:Int):=by
  rcases Int.lt_or_le n 0 with h | h
  ·have h3:(-n).tmod (m:Int)<m:=Int.tmod_lt_of_pos (-n) (by omega)
   rw[Int.neg_tmod]at h3;omega
  ·have:=Int.tmod_nonneg (m:Int) h;omega
 have e:zrz .i64 n (m:Int)=some (.int .i64 (n.tmod (m:Int))):=by
  unfold zrz;have:wA (m:Int) 0=false:=by
   cases hq:wA (m:Int) 0 with
   | false=>rfl
   | true=>have:=(qQ _ _).1 hq;omega
  rw[this,cond_false]
 refine w26 _ _ ?_
 simp only[t26,pA];refine pC (fun h=>absurd (mB.1 h) (by omega)) ?_
 rw[e,xA,yB,xA];generalize n.tmod (m:Int)=r at h1 h2
 by_cases h:r<0
 ·refine xB (mB.2 h) ?_
  rw[fB (by omega) (by omega)]
  obtain⟨k,hk⟩:∃k:Nat,r+m=(k:Int):=⟨(r+m).toNat,by omega⟩
  rw[hk];exact hQ k (by omega)
 ·refine pC (fun h'=>h (mB.1 h')) ?_
  obtain⟨k,hk⟩:∃k:Nat,r=(k:Int):=⟨r.toNat,by omega⟩
  rw[hk];exact hQ k (by omega)
section
variable {p:cH}{names:List (List Nat)}{consts:List aA}{whens thens:List (List XIns)}{cl:List jD}{code:List XIns}{k:Nat}{p2:Int}{v10 a b c vn vc vw vt:zA}
end
end Go.Proofs
namespace Go.Am
open Go Go.RowKit Go.Proofs
theorem block0{w:World}(h:aI w):∃c n,(rI w).get 0=some (.cells c n none):=by
 obtain⟨t,h⟩:=h.kinds
 have hb:=(yaf.1 h).1
 have e:(rI w).get 0=some (.cells (zg3 (fun j=>((zrx xL).toArray[j]?).bind (zr0 w.heap.size)) (zrx xL).toArray.size) (zrx xL).toArray.size none):=by
  unfold rI;rw[nQ,if_pos (by omega),if_pos (by omega),h]
  rfl
 exact⟨_,_,e⟩
end Go.Am
namespace Go.Am
open Go Go.RowKit
section
variable {t tf tf0:Tr jA}{C:iA}
mutual
theorem RD.ones:∀(d:D) (cs:List zA),RD t d cs->∀a∈cs,zA.one a=true
 | .int _ _,cs,h,a,ha=>by rw[RD]at h;subst h;simp at ha;subst ha;rfl
 | .bool _,cs,h,a,ha=>by rw[RD]at h;subst h;simp at ha;subst ha;rfl
 | .str _,cs,h,a,ha=>by rw[RD]at h;subst h;simp at ha;subst ha;rfl
 | .sl sz l,cs,h,a,ha=>by
  rw[aJ]at h;obtain⟨v,rfl,h⟩:=h
  simp at ha;subst ha;exact h.one
 | .st l,cs,h,a,ha=>by
  rw[kI]at h;obtain⟨cl,rfl,h⟩:=h
  exact kC.ones l cl h a ha
theorem kC.ones:∀(l:List D) (cl:List (List zA)),kC t l cl->∀a∈cl.flatten,zA.one a=true
 | [],cl,h,a,ha=>by rw[kC]at h;subst h;cases ha
 | d::l,cl,h,a,ha=>by
  rw[kC]at h;obtain⟨c,r,rfl,h1,h2⟩:=h
  rw[List.flatten_cons,List.mem_append]at ha;rcases ha with ha | ha
  ·exact RD.ones d c h1 a ha
  ·exact kC.ones l r h2 a ha
end
theorem RD.all{d:D}{cs:List zA}(h:RD t d cs):bB zA.one cs=true:=by
 rw[oG,ybc];exact RD.ones d cs h
theorem lit1{S el sz b:Nat}{cs:List zA}(hT:zK C S el sz)(hc:cs.length=sz)(hs:sz<1000000)(hb:t.get b=none) :
  ∃t',oF C S 1 [(0,.agg cs)] ⟨b,t⟩=some (.slice b 0 1 1,⟨b+1,t'⟩)/\sH t' sz (.slice b 0 1 1) [cs]/\cA t t'/\kD b t t':=by
 obtain⟨⟨y,hy1,hy2,_⟩,⟨z,hz1,hz2,hz3,_,_⟩⟩:=hT
 refine vP (n:=1) (cl:=[cs]) hy1 hy2 hz1 hz2 hz3 (by omega) ?_ (fun i q hq=>?_) rfl hb
 ·have e:rJ z.zero 1=z.zero:=by show cF z.zero []=z.zero;rw[eH,ybe]
  rw[e];unfold iM oU;have e1:(zA.agg cs).cells=cs:=rfl
  rw[bD]at hz3;simp only[sA,e1,bD,hc,hz3,Nat.zero_mul,yax,jS,rO,eH,List.take_zero,List.nil_append];rw[zC.2 rfl,cE.2 (yal sz)]
  simp only[Bool.and_self,qF,sA,iM];rw[yau (by omega)]
  simp
 ·rcases i with _ | i
  ·simp at hq;subst hq;exact hc
  ·simp at hq
end
end Go.Am
namespace Go.Proofs
open Go Go.Am
variable [dC]
variable {t tf:Tr jA}
mutual
def uA.cpy:uA->Prop
 | .mk _ _ v args=>(v.f.n.limbs.length<1000000/\v.f.d.limbs.length<1000000)/\args.length<300000/\uA.cpys args
def uA.cpys:List uA->Prop
 | []=>True
 | x::l=>uA.cpy x/\uA.cpys l
end
structure cH.cpy (p:cH):Prop where
 defs:p.defs.length<300000
 tables:p.tables.length<300000
 clauses:p.clauses.length<300000
 rows:∀x∈p.tables,x.rows.length<300000/\∀r∈x.rows,r.f.n.limbs.length<1000000/\r.f.d.limbs.length<1000000
 exprs:∀x∈p.clauses,uA.cpy x.when_/\uA.cpy x.then_
theorem zuf{l:List Nat}{u v:zA}{Q:cB}(hu:oA t 1 (jC l) u)(hv:oA t 1 (jC l) v)(hl:l.length<1000000)(hQ:Q (.bool true) t):Wc yA F 239 [u,v] t Q:=by
 refine w239 _ _ ?_
 simp only[t239,pA,hu.len,hv.len,xA,yB,gQ];refine pC (fun e=>absurd rfl (zI.1 e)) ?_
 have loop:∀(m i:Nat),i+m=l.length->jp 239 2 [u,v,.int .i64 (i:Int)] t Q:=by
  intro m;induction m with
  | zero=>
   intro i hi;refine z3o _ _ _ ?_
   simp only[zto,pA,hu.len,xA,yB,gQ];exact pC (fun e=>by have:=mB.1 e;omega) hQ
  | succ m ih=>
   intro i hi;obtain⟨x,hx⟩:=getElem?_of_lt (show i<l.length by omega)
   obtain⟨p,o,g1,g2⟩:=oA.idx (C:=yA) zt7 hu hx
   obtain⟨p',o',g3,g4⟩:=oA.idx (C:=yA) zt7 hv hx
   refine z3o _ _ _ ?_
   simp only[zto,pA,hu.len,xA,yB,gQ];refine xB (mB.2 (by omega)) ?_
   rw[g1,xA,g2,xA,yB,xA,g3,xA,g4,xA,yB,xA,fB (by omega) (by omega)]
   exact pC (fun e=>absurd rfl (zI.1 e)) (ih (i+1) (by omega))
 exact loop l.length 0 (by omega)
theorem same60{x:aA}{cs ds:List zA}{Q:cB}(h:RD t x.d cs)(k:RD t x.d ds)(hl:x.f.n.limbs.length<1000000/\x.f.d.limbs.length<1000000)(hQ:Q (.bool true) t):Wc yA F 60 [.agg cs,.agg ds] t Q:=by
 obtain⟨a,b,rfl,ha,hb⟩:=zc1 h
 obtain⟨a',b',rfl,ha',hb'⟩:=zc1 k
 refine w60 _ _ _ _ _ _ _ _ _ _ _ _ ?_
 simp only[t60,pA];refine xB (cD.2 rfl) ?_
 rw[q115];refine w115 _ _ _ _ _ _ _ _ ?_
 simp only[t115,pA];rw[q182];refine w182 _ _ _ _ ?_
 simp only[t182,pA];refine xB (by rw[eQ];simp) ?_
 rw[q239];refine zuf ha ha' hl.1 ?_
 rw[mD,xA,mD,xA,if_pos rfl,q182];refine w182 _ _ _ _ ?_
 simp only[t182,pA];refine xB (by rw[eQ];simp) ?_
 rw[q239];refine zuf hb hb' hl.2 ?_
 rw[mD,xA,mD,xA,mD,xA,if_pos rfl,cD.2 rfl];exact hQ
mutual
theorem z2u:∀(x:uA) (cs ds:List zA) (t:Tr jA) (Q:cB),uA.cpy x->RD t x.d cs->RD t x.d ds->Q (.bool true) t->Wc yA F 29 [.agg cs,.agg ds] t Q
 | .mk op name v args,cs,ds,t,Q,h,hc,hd,hQ=>by
  obtain⟨a,b,c,rfl,ha,hb,he⟩:=cK hc
  obtain⟨a',b',c',rfl,ha',hb',he'⟩:=cK hd
  simp only[uA.op,uA.name,uA.v,uA.args]at ha hb he ha' hb' he' ⊢
  unfold uA.cpy at h;refine w29 _ _ _ _ _ _ _ _ _ _ _ _ _ _ _ _ _ _ ?_
  simp only[t29,pA];refine xB (cD.2 rfl) (xB ((lO _ _).2 rfl) ?_)
  rw[q60];refine same60 (zfm (x:=v) ha hb) (zfm (x:=v) ha' hb') h.1 ?_
  rw[mD,xA,if_pos rfl,q61];refine w61 _ _ ?_
  simp only[t61,pA,he.len,he'.len,xA,yB,yag];refine pC (fun e=>absurd rfl (zI.1 e)) ?_
  exact zud args args c c' 0 t _ he he' rfl h.2.2 h.2.1 (by rw[mD,xA];exact hQ)
theorem zud:∀(l args:List uA) (u v:zA) (i:Nat) (t:Tr jA) (Q:cB),oA t 9 (args.map uA.d) u->oA t 9 (args.map uA.d) v->args.drop i=l->uA.cpys l->args.length<300000->Q (.bool true) t->jp 61 2 [u,v,.int .i64 (i:Int)] t Q
 | [],args,u,v,i,t,Q,hu,hv,hl,_,hsz,hQ=>by
  have:=lU hl
  refine j61_2 _ _ _ ?_
  simp only[z4s,pA,hu.len,xA,yB,yag];exact pC (fun e=>by have:=mB.1 e;omega) hQ
 | x::l,args,u,v,i,t,Q,hu,hv,hl,hc,hsz,hQ=>by
  obtain⟨h1,h2,h3⟩:=kU hl
  unfold uA.cpys at hc;obtain⟨b,off,a1,b1,c1,g1,g2,g3,g4,_⟩:=mU hu h1
  obtain⟨b',off',a1',b1',c1',g1',g2',g3',g4',_⟩:=mU hv h1
  refine j61_2 _ _ _ ?_
  simp only[z4s,pA,hu.len,xA,yB,yag];refine xB (mB.2 (by omega)) ?_
  rw[g1,xA,g2,xA,g4,xA,g1',xA,g2',xA,g4',xA,q29];refine z2u x _ _ t _ hc.1 g3 g3' ?_
  rw[mD,xA,fB (by omega) (by omega)]
  exact pC (by simp) (zud l args u v (i+1) t Q hu hv h2 hc.2 hsz hQ)
end
end Go.Proofs
namespace Go.Am
structure z4a (N N':List (List Nat)) (K K':List aA) (i j:XIns):Prop where
 op:j.op=i.op
 b:j.b=i.b
 a:i.op≠1->¬ sD i.op->j.a=i.a
 const:i.op=1->∃(k k':Nat) (v:aA),i.a=(k:Int)/\j.a=(k':Int)/\K[k]?=some v/\K'[k']?=some v
 name:sD i.op->∃(k k':Nat) (n:List Nat),i.a=(k:Int)/\j.a=(k':Int)/\N[k]?=some n/\N'[k']?=some n
inductive zer (N N':List (List Nat)) (K K':List aA):List XIns->List XIns->Prop
 | nil:zer N N' K K' [] []
 | cons {i j:XIns} {l m:List XIns}:z4a N N' K K' i j->zer N N' K K' l m->zer N N' K K' (i::l) (j::m)
section
variable {N N':List (List Nat)}{K K':List aA}{l m:List XIns}
theorem zer.length(h:zer N N' K K' l m):m.length=l.length:=by
 induction h with
 | nil=>rfl
 | cons _ _ ih=>simp[ih]
theorem zer.append{l' m':List XIns}(h:zer N N' K K' l m)(k:zer N N' K K' l' m'):zer N N' K K' (l++l') (m++m'):=by
 induction h with
 | nil=>exact k
 | cons a _ ih=>exact .cons a ih
theorem qU{α:Type}{l:List α}{k:Nat}{a d:α}(h:l[k]?=some a):l.getD k d=a:=by simp[List.getD,h]
end
structure Ext (s r:Nt):Prop where
 names:∃u,r.names=s.names++u
 consts:∃u,r.consts=s.consts++u
theorem Ext.refl(s:Nt):Ext s s:=⟨⟨[],by simp⟩,⟨[],by simp⟩⟩
theorem Ext.trans{a b c:Nt}(h:Ext a b)(k:Ext b c):Ext a c:=by
 obtain⟨⟨u,h1⟩,⟨v,h2⟩⟩:=h
 obtain⟨⟨u',k1⟩,⟨v',k2⟩⟩:=k
 exact⟨⟨u++u',by rw[k1,h1,yba]⟩,⟨v++v',by rw[k2,h2,yba]⟩⟩
theorem Ext.nameAt{s r:Nt}(h:Ext s r){k:Nat}{n:List Nat}(hk:s.names[k]?=some n):r.names[k]?=some n:=by
 obtain⟨⟨u,e⟩,_⟩:=h
 rw[e,ybp (yad.1 hk).1];exact hk
theorem Ext.constAt{s r:Nt}(h:Ext s r){k:Nat}{v:aA}(hk:s.consts[k]?=some v):r.consts[k]?=some v:=by
 obtain⟨_,⟨u,e⟩⟩:=h
 rw[e,ybp (yad.1 hk).1];exact hk
section
variable {key:aA->List Nat}{valid:aA->Bool}{P:aA->Prop}
theorem zhn(s:Nt)(n:List Nat):Ext s (s.name n):=by
 unfold Nt.name;split
 ·exact .refl s
 ·exact⟨⟨[n],rfl⟩,⟨[],by simp⟩⟩
theorem tX(s:Nt)(v:aA):Ext s (s.const key v):=by
 unfold Nt.const;split
 ·exact .refl s
 ·exact⟨⟨[],by simp⟩,⟨[v],rfl⟩⟩
theorem zdd(s:Nt)(n:List Nat):(s.name n).names[s.nameI n]?=some n:=by
 unfold Nt.name Nt.nameI;by_cases h:n∈s.names
 ·rw[if_pos h];exact zbw h
 ·rw[if_neg h,tU h];simp
theorem zb6(hinj:∀u v,P u->P v->key u=key v->u=v){s:Nt}{v:aA}(hs:tK key P s)(hv:P v):(s.const key v).consts[s.constI key v]?=some v:=by
 unfold Nt.const Nt.constI;by_cases h:key v∈s.consts.map key
 ·rw[if_pos h]
  have:=zbw h
  rw[yav]at this
  cases hc:s.consts[gI (key v) (s.consts.map key)]? with
  | none=>rw[hc]at this;cases this
  | some u=>
   rw[hc]at this;rw[hinj u v (hs.all u (ybw hc)) hv (ybj this)]
 ·rw[if_neg h,tU h];simp
structure TrR (key:aA->List Nat) (P:aA->Prop) (f:Tr1):Prop where
 ext:∀s p,Ext s (f s p).1
 rel:∀s s' p,tK key P s->tK key P s'->∀r r',Ext (f s p).1 r->Ext (f s' p).1 r'->zer r.names r'.names r.consts r'.consts (f s p).2 (f s' p).2
theorem kR{N N':List (List Nat)}{K K':List aA}{op:Nat}{a b:Int}(h1:op≠1)(h2:¬ sD op):z4a N N' K K' ⟨op,a,b⟩ ⟨op,a,b⟩:=
 ⟨rfl,rfl,fun _ _=>rfl,fun h=>absurd h h1,fun h=>absurd h h2⟩
theorem zjw(hinj:∀u v,P u->P v->key u=key v->u=v){s s' r r':Nt}{v:aA}{b:Int}(hs:tK key P s)(hs':tK key P s')(hv:P v)(h:Ext (s.const key v) r)(h':Ext (s'.const key v) r') :
  z4a r.names r'.names r.consts r'.consts ⟨1,s.constI key v,b⟩ ⟨1,s'.constI key v,b⟩:=
 ⟨rfl,rfl,fun h=>absurd rfl h,fun _=>⟨_,_,v,rfl,rfl,h.constAt (zb6 hinj hs hv),h'.constAt (zb6 hinj hs' hv)⟩,fun h=>absurd h (by show ¬ sD 1;unfold sD;omega)⟩
theorem zha{s s' r r':Nt}{n:List Nat}{op:Nat}{b:Int}(hop:sD op)(h:Ext (s.name n) r)(h':Ext (s'.name n) r') :
  z4a r.names r'.names r.consts r'.consts ⟨op,s.nameI n,b⟩ ⟨op,s'.nameI n,b⟩:=
 ⟨rfl,rfl,fun _ hn=>absurd hop hn,fun h=>absurd hop (by show ¬ sD op;have h:op=1:=h;unfold sD;omega),fun _=>⟨_,_,n,rfl,rfl,h.nameAt (zdd s n),h'.nameAt (zdd s' n)⟩⟩
section
variable (hinj:∀u v,P u->P v->key u=key v->u=v)
include hinj
theorem zob{f g:Tr1}{skip:Nat}{truth:Int}(of:cJ key P f)(og:cJ key P g)(hf:TrR key P f)(hg:TrR key P g)(hs:skip=10\/skip=11)(hv:P (rF truth)):TrR key P (kK key f g skip truth):=by
 refine⟨fun s p=>((hf.ext s p).trans (hg.ext _ _)).trans (tX _ _),fun s s' p h h' r r' e e'=>?_⟩
 have n1:=(of s p h).1
 have n1':=(of s' p h').1
 have n2:=(og _ (p+(f s p).2.length+1) n1).1
 have x1:=(tX (key:=key) (g (f s p).1 (p+(f s p).2.length+1)).1 (rF truth)).trans e
 have x2:=(hg.ext (f s p).1 (p+(f s p).2.length+1)).trans x1
 unfold kK at e';have y1:=(tX (key:=key) (g (f s' p).1 (p+(f s' p).2.length+1)).1 (rF truth)).trans e'
 have y2:=(hg.ext (f s' p).1 (p+(f s' p).2.length+1)).trans y1
 have c1:=hf.rel s s' p h h' r r' x2 y2
 have l1:=c1.length
 have n2':=(og _ (p+(f s' p).2.length+1) n1').1
 unfold kK;simp only[];rw[l1]at y1 e' n2' ⊢
 have c2:=hg.rel _ _ _ n1 n1' r r' x1 y1
 rw[c2.length];exact c1.append (.cons (kR (by omega) (by unfold sD;omega)) (c2.append (.cons (kR (by decide) (by unfold sD;decide)) (.cons (kR (by decide) (by unfold sD;decide)) (.cons (zjw hinj n2 n2' hv e e') .nil)))))
omit hinj in
theorem rel_if{f g h:Tr1}(of:cJ key P f)(og:cJ key P g)(hf:TrR key P f)(hg:TrR key P g)(hh:TrR key P h):TrR key P (ifT f g h):=by
 refine⟨fun s p=>((hf.ext s p).trans (hg.ext _ _)).trans (hh.ext _ _),fun s s' p k k' r r' e e'=>?_⟩
 have n1:=(of s p k).1
 have n1':=(of s' p k').1
 unfold ifT at e e' ⊢
 simp only[]at e e' ⊢
 have x1:=(hh.ext _ _).trans e
 have x2:=(hg.ext _ _).trans x1
 have y2:=((hg.ext _ _).trans (hh.ext _ _)).trans e'
 have c1:=hf.rel s s' p k k' r r' x2 y2
 rw[c1.length]at e' ⊢
 have y1:=(hh.ext _ _).trans e'
 have c2:=hg.rel _ _ _ n1 n1' r r' x1 y1
 rw[c2.length]at e' ⊢
 have c3:=hh.rel _ _ _ (og _ _ n1).1 (og _ _ n1').1 r r' e e'
 rw[c3.length];exact c1.append (.cons (kR (by decide) (by unfold sD;decide)) (c2.append (.cons (kR (by decide) (by unfold sD;decide)) c3)))
omit hinj in
theorem zul:∀ {fs:List Tr1},(∀f∈fs,cJ key P f)->(∀f∈fs,TrR key P f)->TrR key P (uD fs)
 | [],_,_=>⟨fun s _=>.refl s,fun _ _ _ _ _ _ _ _ _=>.nil⟩
 | f::l,ho,hf=>by
  have hr:=zul (fs:=l) (fun g hg=>ho g (by simp[hg])) (fun g hg=>hf g (by simp[hg]))
  refine⟨fun s p=>((hf f (by simp)).ext s p).trans (hr.ext _ _),fun s s' p k k' r r' e e'=>?_⟩
  simp only[uD]at e e' ⊢
  have c1:=(hf f (by simp)).rel s s' p k k' r r' ((hr.ext _ _).trans e) ((hr.ext _ _).trans e')
  rw[c1.length]at e' ⊢
  exact c1.append (hr.rel _ _ _ (ho f (by simp) s p k).1 (ho f (by simp) s' p k').1 r r' e e')
omit hinj in
theorem zpb(op n:Nat)(name:List Nat)(v:aA)(s:Nt):Ext s (dE key op name v n s).1:=by
 unfold dE;split
 ·exact tX _ _
 ·split
  ·exact .refl _
  ·split
   ·exact zhn _ _
   ·split
    ·exact zhn _ _
    ·split
     ·exact zhn _ _
     ·split<;>exact .refl _
theorem rel_op{op n:Nat}{name:List Nat}{v:aA}{s s' r r':Nt}(k:tK key P s)(k':tK key P s')(hv:op=1->P v)(e:Ext (dE key op name v n s).1 r)(e':Ext (dE key op name v n s').1 r') :
  z4a r.names r'.names r.consts r'.consts (dE key op name v n s).2 (dE key op name v n s').2:=by
 unfold dE at e e' ⊢
 by_cases h1:op=1
 ·simp only[if_pos h1]at e e' ⊢
  exact zjw hinj k k' (hv h1) e e'
 simp only[if_neg h1]at e e' ⊢
 by_cases h2:op=2
 ·simp only[if_pos h2]
  exact kR (by decide) (by unfold sD;decide)
 simp only[if_neg h2]at e e' ⊢
 by_cases h3:op=3\/op=4\/op=5
 ·simp only[if_pos h3]at e e' ⊢
  exact zha (by unfold sD;omega) e e'
 simp only[if_neg h3]at e e' ⊢
 by_cases h6:op=6
 ·simp only[if_pos h6]at e e' ⊢
  exact zha (by unfold sD;decide) e e'
 simp only[if_neg h6]at e e' ⊢
 by_cases h8:op=21\/op=22\/op=23
 ·simp only[if_pos h8]at e e' ⊢
  exact zha (by unfold sD;decide) e e'
 simp only[if_neg h8]at e e' ⊢
 by_cases h9:op=19
 ·simp only[if_pos h9]
  exact kR (by decide) (by unfold sD;decide)
 simp only[if_neg h9];exact kR (by decide) (by unfold sD;decide)
variable (h0:P (rF 0))(h1:P (rF 1))(hP:∀v:aA,v.fit->valid v=true->P v)
include h0 h1 hP
theorem zum{op:Nat}{name:List Nat}{v:aA}{fs:List Tr1}(hv:v.fit)(ho:∀f∈fs,cJ key P f)(hf:∀f∈fs,TrR key P f):TrR key P (mI key valid op name v fs):=by
 by_cases hb:fI valid op v fs.length=false
 ·have e:mI key valid op name v fs=fun s _=>(s,[⟨13,0,0⟩]):=by funext s p;unfold mI;rw[if_pos hb]
  rw[e];exact⟨fun s _=>.refl s,fun _ _ _ _ _ _ _ _ _=>.cons (kR (by decide) (by unfold sD;decide)) .nil⟩
 have nil:∀ {g:Tr1},(g=fun s _=>(s,[]))->TrR key P g:=fun e=>by
  rw[e];exact⟨fun s _=>.refl s,fun _ _ _ _ _ _ _ _ _=>.nil⟩
 by_cases h15:op=15
 ·match fs,hf,ho,hb with
  | [],_,_,hb=>exact nil (by funext s p;unfold mI;rw[if_neg hb,if_pos h15])
  | [_],_,_,hb=>exact nil (by funext s p;unfold mI;rw[if_neg hb,if_pos h15])
  | f::g::l,hf,ho,hb=>
   have e:mI key valid op name v (f::g::l)=kK key f g 10 0:=by funext s p;unfold mI;rw[if_neg hb,if_pos h15]
   rw[e];exact zob hinj (ho f (by simp)) (ho g (by simp)) (hf f (by simp)) (hf g (by simp)) (.inl rfl) h0
 by_cases h16:op=16
 ·match fs,hf,ho,hb with
  | [],_,_,hb=>exact nil (by funext s p;unfold mI;rw[if_neg hb,if_neg h15,if_pos h16])
  | [_],_,_,hb=>exact nil (by funext s p;unfold mI;rw[if_neg hb,if_neg h15,if_pos h16])
  | f::g::l,hf,ho,hb=>
   have e:mI key valid op name v (f::g::l)=kK key f g 11 1:=by funext s p;unfold mI;rw[if_neg hb,if_neg h15,if_pos h16]
   rw[e];exact zob hinj (ho f (by simp)) (ho g (by simp)) (hf f (by simp)) (hf g (by simp)) (.inr rfl) h1
 by_cases h18:op=18
 ·match fs,hf,ho,hb with
  | [],_,_,hb=>exact nil (by funext s p;unfold mI;rw[if_neg hb,if_neg h15,if_neg h16,if_pos h18])
  | [_],_,_,hb=>exact nil (by funext s p;unfold mI;rw[if_neg hb,if_neg h15,if_neg h16,if_pos h18])
  | [_,_],_,_,hb=>exact nil (by funext s p;unfold mI;rw[if_neg hb,if_neg h15,if_neg h16,if_pos h18])
  | f::g::k::l,hf,ho,hb=>
   have e:mI key valid op name v (f::g::k::l)=ifT f g k:=by funext s p;unfold mI;rw[if_neg hb,if_neg h15,if_neg h16,if_pos h18]
   rw[e];exact rel_if (ho f (by simp)) (ho g (by simp)) (hf f (by simp)) (hf g (by simp)) (hf k (by simp))
 have e:mI key valid op name v fs=fun s p=>((dE key op name v fs.length (uD fs s p).1).1,(uD fs s p).2++[(dE key op name v fs.length (uD fs s p).1).2]):=by
  funext s p;unfold mI;rw[if_neg hb,if_neg h15,if_neg h16,if_neg h18]
 rw[e];have hr:=zul ho hf
 have os:=zjf ho
 have hvP:op=1->P v:=fun e=>hP v hv (by
  have hb:fI valid op v fs.length=true:=by simpa using hb
  unfold fI at hb;simp only[yac,decide_eq_true_eq]at hb;have:=hb.1.1
  rw[e]at this;simpa using this)
 refine⟨fun s p=>(hr.ext s p).trans (zpb _ _ _ _ _),fun s s' p k k' r r' e e'=>?_⟩
 exact(hr.rel s s' p k k' r r' ((zpb _ _ _ _ _).trans e) ((zpb _ _ _ _ _).trans e')).append (.cons (rel_op hinj (os s p k).1 (os s' p k').1 hvP e e') .nil)
mutual
theorem zk7:∀(x:uA),x.fit->TrR key P (vB key valid x)
 | .mk op name v args,h=>by
  unfold uA.fit at h;unfold vB;exact zum hinj h0 h1 hP h.2.2.2.1 (zig h0 h1 hP args h.2.2.2.2.2) (zsw args h.2.2.2.2.2)
theorem zsw:∀(l:List uA),uA.fits l->∀f∈eC key valid l,TrR key P f
 | [],_,f,hf=>by simp[eC]at hf
 | x::l,h,f,hf=>by
  unfold uA.fits at h;simp only[eC,yat]at hf;rcases hf with rfl | hf
  ·exact zk7 x h.1
  ·exact zsw l h.2 f hf
end
end
end
end Go.Am
namespace Go.Am
def z4i (l:List Nat):Nat:=l.foldl (fun a c=>a*10+(c-48)) 0
theorem zsf(l:List Nat)(c:Nat):z4i (l++[c])=z4i l*10+(c-48):=by unfold z4i;rw[List.foldl_append];rfl
theorem zxn(n:Nat)(h:n<10):(UInt8.ofNat (48+n)).toNat=48+n:=by
 rw[UInt8.toNat_ofNat'];omega
theorem jU(u:Nat):z4i ((Lib.decDigits u).map UInt8.toNat)=u/\∀c∈(Lib.decDigits u).map UInt8.toNat,48<=c/\c<58:=by
 induction u using Nat.strongRecOn with
 | _ u ih=>
  by_cases h:u<10
  ·rw[Lib.decDigits,dif_pos h]
   simp only[ybn,List.map_nil,zxn u h];exact⟨by unfold z4i;simp,by simp;omega⟩
  ·rw[Lib.decDigits,dif_neg h]
   obtain⟨h1,h2⟩:=ih (u / 10) (by omega)
   simp only[List.map_append,ybn,List.map_nil,zxn (u%10) (by omega)]
   refine⟨by rw[zsf,h1];omega,fun c hc=>?_⟩
   rcases List.mem_append.1 hc with hc | hc
   ·exact h2 c hc
   ·simp at hc;omega
theorem zl8{n:Int}:∀c∈gJ n,c=45\/48<=c/\c<58:=by
 intro c hc;unfold gJ Lib.itoa at hc;split at hc
 ·simp only[ybn,yat]at hc
  rcases hc with rfl | hc
  ·exact .inl rfl
  ·exact .inr ((jU _).2 c hc)
 ·exact .inr ((jU _).2 c hc)
theorem zdm{m n:Int}(h:gJ m=gJ n):m=n:=by
 have ne:∀ {a b:Nat},(Lib.decDigits a).map UInt8.toNat≠45::(Lib.decDigits b).map UInt8.toNat:=fun {a b} e=>by
  have:=(jU a).2 45 (by rw[e];simp)
  omega
 unfold gJ Lib.itoa at h;split at h<;>split at h
 ·simp only[ybn,List.cons.injEq]at h
  have:=congrArg z4i h.2
  rw[(jU _).1,(jU _).1]at this
  omega
 ·exact absurd h.symm ne
 ·exact absurd h ne
 ·have:=congrArg z4i h
  rw[(jU _).1,(jU _).1]at this
  omega
theorem nZ{a b r s:List Nat}(ha:∀c∈a,c≠44)(hb:∀c∈b,c≠44)(h:a++44::r=b++44::s):a=b/\r=s:=by
 induction a generalizing b with
 | nil=>
  cases b with
  | nil=>simp at h;exact⟨rfl,h⟩
  | cons y b=>
   simp only[List.nil_append,List.cons_append,List.cons.injEq]at h;exact absurd h.1.symm (hb y (by simp))
 | cons x a ih=>
  cases b with
  | nil=>
   simp only[List.nil_append,List.cons_append,List.cons.injEq]at h;exact absurd h.1 (ha x (by simp))
  | cons y b=>
   simp only[List.cons_append,List.cons.injEq]at h;obtain⟨h1,h2⟩:=ih (fun c hc=>ha c (by simp[hc])) (fun c hc=>hb c (by simp[hc])) h.2
   exact⟨by rw[h.1,h1],h2⟩
theorem aW{n:Int}:∀c∈gJ n,c≠44:=fun c hc=>by
 have:=zl8 c hc
 omega
end Go.Am
namespace Go.Proofs
open Go Go.Am
variable [dC]
theorem zd5:∀ {l m:List Nat} {r s:List Nat},dB 65536 l->dB 65536 m->l.length=m.length->cI l++r=cI m++s->l=m/\r=s
 | [],[],r,s,_,_,_,h=>⟨rfl,h⟩
 | [],_::_,_,_,_,_,h,_=>by simp at h
 | _::_,[],_,_,_,_,h,_=>by simp at h
 | x::l,y::m,r,s,hl,hm,hn,h=>by
  simp only[cI,List.cons_append,List.cons.injEq]at h;obtain⟨h1,h2,h3⟩:=h
  obtain⟨h4,h5⟩:=zd5 (fun z hz=>hl z (by simp[hz])) (fun z hz=>hm z (by simp[hz])) (by simpa using hn) h3
  have hx:=hl x (by simp)
  have hy:=hm y (by simp)
  exact⟨by rw[h4,show x=y by omega],h5⟩
theorem zm0{b:Bool}:∀c∈fM b,c≠44:=by cases b<;>decide
theorem zki{b b':Bool}{r s:List Nat}(h:fM b++r=fM b'++s):b=b'/\r=s:=by
 cases b<;>cases b'<;>simp[fM]at h ⊢<;>exact h
theorem zfu{w w':dH}{r s:List Nat}(hw:dB 65536 w.limbs)(hw':dB 65536 w'.limbs)(h:jJ w++r=jJ w'++s):w=w'/\r=s:=by
 obtain⟨neg,l⟩:=w
 obtain⟨neg',l'⟩:=w'
 unfold jJ at h;simp only[List.cons_append,List.cons.injEq,yba,true_and,List.nil_append]at h;have h:(fM neg++gJ ((2*l.length:Nat):Int))++44::(cI l++r)=(fM neg'++gJ ((2*l'.length:Nat):Int))++44::(cI l'++s):=by
  simpa[yba]using h
 have nc:∀(b:Bool) (n:Int),∀c∈fM b++gJ n,c≠44:=fun b n c hc=>by
  rcases List.mem_append.1 hc with hc | hc
  ·exact zm0 c hc
  ·exact aW c hc
 obtain⟨h1,h2⟩:=nZ (nc _ _) (nc _ _) h
 obtain⟨h3,h4⟩:=zki h1
 have h5:=zdm h4
 obtain⟨h6,h7⟩:=zd5 (l:=l) (m:=l') hw hw' (by omega) h2
 exact⟨by subst h3 h6;rfl,h7⟩
theorem z0y{v w:aA}(hv:v.fit)(hw:w.fit)(h:dA v=dA w):v=w:=by
 obtain⟨k,⟨n,d⟩,i⟩:=v
 obtain⟨k',⟨n',d'⟩,i'⟩:=w
 unfold dA at h;have h:gJ (k:Int)++44::(gJ i++(jJ n++jJ d))=gJ (k':Int)++44::(gJ i'++(jJ n'++jJ d')):=by simpa[yba]using h
 obtain⟨h1,h2⟩:=nZ aW aW h
 have e:∀(w:dH) (s:List Nat),jJ w++s=44::((jJ w++s).drop 1):=fun w s=>by unfold jJ;simp
 rw[e n,e n']at h2;obtain⟨h3,h4⟩:=nZ aW aW h2
 have h4:jJ n++jJ d=jJ n'++jJ d':=by rw[e n,e n',h4]
 obtain⟨h5,h6⟩:=zfu hv.2.1.2.1 hw.2.1.2.1 h4
 obtain⟨h7,_⟩:=zfu (r:=[]) (s:=[]) hv.2.1.2.2 hw.2.1.2.2 (by simpa using h6)
 have:=zdm h1
 have:=zdm h3
 subst h5 h7
 simp only[aA.mk.injEq];exact⟨by omega,trivial,by omega⟩
theorem zb0(u v:aA)(hu:zmd u)(hv:zmd v)(h:dA u=dA v):u=v:=z0y hu.2 hv.2 h
theorem zb1(f:gF):1<=nK f/\f.n.limbs.length<nK f/\f.d.limbs.length<nK f:=by unfold nK;omega
theorem vZ:∀(x:uA) (left:Int),x.ok->1<=lJ x left
 | .mk op name v args,left,h=>by
  unfold uA.ok at h;unfold lJ;have:=zb1 v.f
  have:=(pW args left (nK v.f+(name.length:Int) / 30) h.2.2.2 (by omega)).1
  omega
mutual
theorem zhu:∀(x:uA) (left:Int),x.ok->lJ x left<=left->left<=2000->uA.cpy x
 | .mk op name v args,left,h,hs,hl=>by
  unfold uA.ok at h;unfold lJ at hs;unfold uA.cpy;have:=zb1 v.f
  have h1:=(pW args left (nK v.f+(name.length:Int) / 30) h.2.2.2 (by omega)).1
  obtain⟨h2,h3⟩:=zpl args left (nK v.f+(name.length:Int) / 30) h.2.2.2 (by omega) hs hl
  exact⟨⟨by omega,by omega⟩,by omega,h3⟩
theorem zpl:∀(l:List uA) (left n:Int),uA.oks l->0<=n->xO l left n<=left->left<=2000->n+l.length<=left/\uA.cpys l
 | [],left,n,_,_,hs,_=>by
  unfold xO at hs;unfold uA.cpys;exact⟨by simpa using hs,trivial⟩
 | x::l,left,n,h,hn,hs,hl=>by
  unfold uA.oks at h;unfold xO at hs;unfold uA.cpys;by_cases hc:n<=left
  ·rw[if_pos hc]at hs
   have h1:=vZ x (left-n) h.1
   have h2:=(pW l left (n+lJ x (left-n)) h.2 (by omega)).1
   obtain⟨h3,h4⟩:=zpl l left _ h.2 (by omega) hs hl
   exact⟨by simp only[yao];omega,zhu x (left-n) h.1 (by omega) (by omega),h4⟩
  ·rw[if_neg hc]at hs
   omega
end
theorem zcs:∀(l:List dJ) (n:Int),n<=cO l n
 | [],n=>by unfold cO;omega
 | d::l,n=>by
  unfold cO;split
  ·have:=zcs l (n+(d.name.length:Int) / 30);omega
  ·omega
theorem zn6:∀(l:List uF) (n:Int),n<=sN l n/\(sN l n<=2000->0<=n->l.length+n<=2000/\∀r∈l,r.f.n.limbs.length<1000000/\r.f.d.limbs.length<1000000)
 | [],n=>by unfold sN;exact⟨by omega,fun h _=>⟨by simpa using h,fun r hr=>by cases hr⟩⟩
 | r::l,n=>by
  obtain⟨h1,h2⟩:=zn6 l (n+(nK r.f:Nat))
  have:=zb1 r.f
  unfold sN;split
  ·refine⟨by omega,fun h hn=>?_⟩
   obtain⟨h3,h4⟩:=h2 h (by omega)
   refine⟨by simp only[yao];omega,fun q hq=>?_⟩
   rcases yat.1 hq with rfl | hq
   ·exact⟨by omega,by omega⟩
   ·exact h4 q hq
  ·exact⟨by omega,fun h=>by omega⟩
theorem ze0:∀(l:List vF) (n:Int),n<=tN l n/\(tN l n<=2000->0<=n->∀x∈l,x.rows.length<300000/\∀r∈x.rows,r.f.n.limbs.length<1000000/\r.f.d.limbs.length<1000000)
 | [],n=>by unfold tN;exact⟨by omega,fun _ _ r hr=>by cases hr⟩
 | x::l,n=>by
  obtain⟨r1,r2⟩:=zn6 x.rows (n+(x.name.length:Int) / 30)
  obtain⟨h1,h2⟩:=ze0 l (sN x.rows (n+(x.name.length:Int) / 30))
  unfold tN;split
  ·refine⟨by omega,fun h hn q hq=>?_⟩
   obtain⟨h3,h4⟩:=r2 (by omega) (by omega)
   rcases yat.1 hq with rfl | hq
   ·exact⟨by omega,h4⟩
   ·exact h2 h (by omega) q hq
  ·exact⟨by omega,fun h=>by omega⟩
theorem mZ:∀(l:List jD) (n:Int),(∀x∈l,x.fit)->0<=n->n<=bL l n/\(bL l n<=2000->∀x∈l,uA.cpy x.when_/\uA.cpy x.then_)
 | [],n,_,_=>by unfold bL;exact⟨by omega,fun _ r hr=>by cases hr⟩
 | x::l,n,hf,hn=>by
  have hx:=hf x (by simp)
  have p1:=vZ x.when_ (2000-n) (uA.fit_ok hx.2.2.2.2.2.1)
  have p2:=vZ x.then_ (2000-tJ x n) (uA.fit_ok hx.2.2.2.2.2.2)
  have hw:n<=tJ x n/\lJ x.when_ (2000-n)<=tJ x n-n:=by unfold tJ;omega
  unfold bL;split
  ·split
   ·obtain⟨h1,h2⟩:=mZ l (tJ x n+lJ x.then_ (2000-tJ x n)) (fun y hy=>hf y (by simp[hy])) (by omega)
    refine⟨by omega,fun h q hq=>?_⟩
    rcases yat.1 hq with rfl | hq
    ·exact⟨zhu _ (2000-n) (uA.fit_ok hx.2.2.2.2.2.1) (by omega) (by omega),zhu _ (2000-tJ q n) (uA.fit_ok hx.2.2.2.2.2.2) (by omega) (by omega)⟩
    ·exact h2 h q hq
   ·obtain⟨h1,_⟩:=mZ l (tJ x n) (fun y hy=>hf y (by simp[hy])) (by omega)
    exact⟨by omega,fun h=>by omega⟩
  ·exact⟨by omega,fun h=>by omega⟩
end Go.Proofs
namespace Go.Am
open Go Go.RowKit
section
variable {base:Nat}{W J:yJ}{t:Tr jA}{Q:cB}
theorem qE{b:Bool}{x y:T}(h:b=true)(k:pA base W J x t Q):pA base W J (.ite b x y) t Q:=by
 show if b=true then _ else _;rw[if_pos h];exact k
theorem qH{b:Bool}{x y:T}(h:b≠true)(k:pA base W J y t Q):pA base W J (.ite b x y) t Q:=by
 show if b=true then _ else _;rw[if_neg h];exact k
theorem pD{x:Option zA}{K:zA->T}{v:zA}(h:x=some v)(k:pA base W J (K v) t Q):pA base W J (.opt x K) t Q:=by
 show iG x _;rw[h];exact k
theorem bH{x:Tr jA->Option zA}{K:zA->T}{v:zA}(h:x t=some v)(k:pA base W J (K v) t Q):pA base W J (.light x K) t Q:=by
 show iG (x t) _;rw[h];exact k
theorem zO{f:Nat}{a:List zA}{K:zA->T}(k:W f a t (fun v t'=>pA base W J (K v) t' Q)):pA base W J (.call f a K) t Q:=k
theorem aE{n:Int}{i:IntKind}{K:Int->T}(k:pA base W J (K n) t Q):pA base W J (.asI i (.int i n) K) t Q:=by
 show iG (zyu i (.int i n)) _;rw[yB];exact k
theorem zcm{b:Bool}{K:Bool->T}(k:pA base W J (K b) t Q):pA base W J (.asB (.bool b) K) t Q:=k
theorem zt4{s:List Nat}{K:List Nat->T}(k:pA base W J (K s) t Q):pA base W J (.asS (.str s) K) t Q:=k
theorem yQ{zs:List zA}{a:zA}{K:znb->T}{X:znb}(h:qG zs a=some X)(k:pA base W J (K X) t Q):pA base W J (.asG zs a K) t Q:=by
 show iG (qG zs a) _;rw[h];exact k
theorem rW{x:qA->Option (zA × qA)}{K:zA->T}(k:∀b,t.get b=none->base<=b->∃v H,x ⟨b,t⟩=some (v,H)/\pA base W J (K v) H.t Q):pA base W J (.heavy x K) t Q:=by
 intro b h1 h2;obtain⟨v,H,h3,h4⟩:=k b h1 h2
 rw[h3];exact h4
theorem sR{i:Nat}{a:List zA}(k:J i a t Q):pA base W J (.jump i a) t Q:=k
end
section
variable {t:Tr jA}{C:iA}
end
end Go.Am
namespace Go.Proofs
open Go Go.Am
variable [dC]
variable {t tf:Tr jA}
theorem zpk:∀ {l:List uA},uA.cpys l ↔ ∀x∈l,uA.cpy x
 | []=>by unfold uA.cpys;simp
 | y::l=>by unfold uA.cpys;rw[zpk (l:=l)];simp
theorem zdx{op:Nat}{name:List Nat}{v:aA}{args:List uA}(hv:v.f.n.limbs.length<1000000/\v.f.d.limbs.length<1000000)(hl:args.length<300000)(ha:∀x∈args,uA.cpy x):uA.cpy (.mk op name v args):=by
 unfold uA.cpy;exact⟨hv,hl,zpk.2 ha⟩
section
variable {N:List (List Nat)}{K:List aA}{code:List XIns}{same:aA->aA->Bool}
theorem zc9{r:Option (List uA)}{x:uA}(h:bK r=some x):r=some [x]:=by
 unfold bK at h;split at h
 ·cases h;rfl
 ·cases h
theorem zkh{rd:Nat->Nat->Option uA}{first:uA}{p to:Nat}{q:uA × Nat}(h:fQ K code same rd first p to=some q):∃op a,q.1=.mk op [] eF (first::a)/\a.length<=2/\∀y∈a,∃i j,rd i j=some y:=by
 unfold fQ at h;repeat' split at h
 all_goals first
  | (cases h;done)
  | (cases h;refine⟨_,_,rfl,by simp,fun z hz=>?_⟩;simp only[yat,List.not_mem_nil,or_false]at hz;rcases hz with rfl | rfl<;>exact⟨_,_,by assumption⟩)
  | (cases h;refine⟨_,_,rfl,by simp,fun z hz=>?_⟩;simp only[yat,List.not_mem_nil,or_false]at hz;subst hz;exact⟨_,_,by assumption⟩)
theorem tY(hc:∀v∈K,aA.mid v):∀(f i to:Nat) (st st':List uA),gH N K code same f i to st=some st'->(∀x∈st,uA.cpy x)->st.length+f<200000->(∀x∈st',uA.cpy x)/\st'.length<=st.length+f
 | 0,_,_,_,_,h,_,_=>by unfold gH at h;cases h
 | f+1,i,to,st,st',h,hs,hl=>by
  have one:∀ {a b:Nat} {y:uA},bK (gH N K code same f a b [])=some y->uA.cpy y:=fun {a b y} e=>
   (tY hc f a b [] [y] (zc9 e) (fun _ h=>by cases h) (by simp;omega)).1 y (by simp)
  have hz:eF.f.n.limbs.length<1000000/\eF.f.d.limbs.length<1000000:=by decide
  unfold gH at h;by_cases c:to<=i
  ·rw[if_pos c]at h
   cases h;exact⟨hs,by omega⟩
  rw[if_neg c]at h
  cases hx:code[i]? with
  | none=>rw[hx]at h;cases h
  | some x=>
   rw[hx]at h;simp only[]at h;by_cases hj:x.op=9\/x.op=10\/x.op=11
   ·rw[if_pos hj]at h
    cases ht:st.getLast? with
    | none=>rw[ht]at h;cases h
    | some top=>
     rw[ht]at h;simp only[]at h;have htop:uA.cpy top:=hs top (List.mem_of_getLast? ht)
     cases hb:fQ K code same (fun a b=>bK (gH N K code same f a b [])) top i to with
     | none=>rw[hb]at h;cases h
     | some q=>
      rw[hb]at h;simp only[]at h;have hq:uA.cpy q.1:=by
       obtain⟨op,l,e1,e2,e3⟩:=zkh hb
       rw[e1];refine zdx hz (by simp;omega) fun z hzm=>?_
       rcases yat.1 hzm with rfl | hzm
       ·exact htop
       ·obtain⟨_,_,e4⟩:=e3 z hzm
        exact one e4
      have hne:st≠[]:=by intro e;rw[e]at ht;cases ht
      have hpos:0<st.length:=List.length_pos_iff.2 hne
      obtain⟨r1,r2⟩:=tY hc f _ _ _ _ h (fun z hz=>by
       rcases List.mem_append.1 hz with hz | hz
       ·exact hs z (List.dropLast_subset st hz)
       ·simp at hz;subst hz;exact hq) (by simp;omega)
      exact⟨r1,by simp at r2;omega⟩
   ·rw[if_neg hj]at h
    split at h
    ·cases h
    ·obtain⟨r1,r2⟩:=tY hc f _ _ _ _ h (fun z hzm=>by
      rcases List.mem_append.1 hzm with hzm | hzm
      ·exact hs z (List.take_subset _ _ hzm)
      ·have hzm:z=_:=yce.1 hzm
       rw[hzm];have hd:∀w∈st.drop (st.length-(dF x).toNat),uA.cpy w:=fun w hw=>hs w (List.drop_subset _ _ hw)
       have hdl:(st.drop (st.length-(dF x).toNat)).length<300000:=by rw[yck];omega
       unfold zG;split
       ·refine zdx ?_ hdl hd
        cases hv:K[x.a.toNat]? with
        | none=>
         have e:K.getD x.a.toNat eF=eF:=by simp[List.getD,hv]
         rw[e];exact hz
        | some v=>
         rw[qU hv];have:=hc v (ybw hv)
         unfold aA.mid at this;omega
       ·split
        ·exact zdx hz hdl hd
        ·split
         ·exact zdx hz hdl hd
         ·split
          ·exact zdx (by show zpw.n.limbs.length<_/\zpw.d.limbs.length<_;decide) hdl hd
          ·exact zdx hz hdl hd) (by simp;omega)
     exact⟨r1,by simp at r2;omega⟩
theorem zxc(hc:∀v∈K,aA.mid v){x:uA}(h:zrc N K code=some x):uA.cpy x:=by
 unfold zrc at h;split at h
 ·cases h
 ·rename_i hs
  split at h
  ·cases h
  ·have hs:rS N.length K.length code=true:=by simpa using hs
   have:=(zao hs).1
   exact(tY hc _ _ _ _ _ (zc9 h) (fun _ h=>by cases h) (by simp;omega)).1 x (by simp)
end
structure PrgR (tf:Tr jA) (names:List (List Nat)) (consts:List aA) (whens thens:List (List XIns)) (a b c vn vc vw vt:zA):Prop where
 a:zA.one a=true
 b:zA.one b=true
 c:zA.one c=true
 n:oA tf 1 (names.map D.str) vn
 k:oA tf 6 (consts.map aA.d) vc
 w:oA tf 1 (whens.map aD) vw
 t:oA tf 1 (thens.map aD) vt
end Go.Proofs
