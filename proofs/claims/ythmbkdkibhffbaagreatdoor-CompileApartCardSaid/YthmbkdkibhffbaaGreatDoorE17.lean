/- When a code is sound: instructions. -/
import Derived.Test.YthmbkdkibhffbaaGreatDoorE16
set_option linter.all false
noncomputable section
set_option maxRecDepth 100000
namespace Go.Proofs
open Go Go.Am
variable [cC]
variable {t tf:Tr lA}
theorem do_ok{a:Int}:sD yA F 179 [.int .i64 a] t=some (.bool (z6d a)):=by
 refine oF.2 (w179 _ ?_)
 simp only[t179,qA,nG,jE];unfold z6d;repeat' split
 all_goals refine⟨congrArg zA.bool (Bool.eq_iff_iff.2 ?_),by trivial⟩
 all_goals simp only[ybr,yac,decide_eq_true_eq,zgw,true_iff,yar,false_iff]
 all_goals omega
theorem z42{a:Int}:sD yA F 180 [.int .i64 a] t=some (.bool (zc3 a)):=by
 refine oF.2 (w180 _ ?_)
 simp only[t180,qA,nG];unfold zc3;split
 all_goals refine⟨congrArg zA.bool (Bool.eq_iff_iff.2 ?_),by trivial⟩
 all_goals simp only[ybr,yac,decide_eq_true_eq,zgw,true_iff,yar,false_iff]
 all_goals omega
theorem tV{op:Nat}:sD yA F 112 [.int .u8 (op:Int)] t=some (.bool (decide (op=9\/op=10\/op=11))):=by
 refine oF.2 (w112 _ ?_)
 simp only[t112,qA,nG];split
 all_goals refine⟨congrArg zA.bool (Bool.eq_iff_iff.2 ?_),by trivial⟩
 all_goals simp only[ybr,yac,decide_eq_true_eq,zgw,true_iff,yar,false_iff]
 all_goals omega
theorem mT{v9 v10:Bool}{op:Nat}{a b:Int}{Q:kB}(h:Q (.bool (v9&&(if op=6 then(decide (b=1)||decide (b=2))else if op=8 then zc3 b else v10))) t):jp 110 45 [.bool v9,.bool v10,.int .u8 (op:Int),.int .i64 a,.int .i64 b] t Q:=by
 have fC:∀ {x y:Bool},Q (.bool (x&&y)) t->jp 110 55 [.bool x,.bool y] t Q:=fun {x y} h=>by
  refine z6a _ _ ?_
  simp only[ztx,qA]
  cases x with
  | true=>exact aA rfl h
  | false=>exact qC (by simp) h
 refine z6b _ _ _ _ _ ?_
 simp only[zty,qA];by_cases h6:op=6
 ·subst h6
  refine aA (by decide) ?_
  simp only[if_true]at h;by_cases h1:b=1
  ·exact aA (jE.2 h1) (fC (by simpa[h1]using h))
  ·exact qC (gF h1) (fC (by rw[zgx];simpa[h1]using h))
 ·rw[if_neg h6]at h
  refine qC (gF (by omega)) ?_
  by_cases h8:op=8
  ·subst h8
   simp only[if_true]at h;refine aA (by decide) ?_
   rw[q180,z42,xA,pD,xA];exact fC h
  ·rw[if_neg h8]at h
   exact qC (gF (by omega)) (fC h)
section
variable {nm:List Nat}{a b c vn vc vw vt:zA}{names:List (List Nat)}{consts:List zB}
theorem zk4(hn:oA t 1 (names.map D.str) vn)(hc:oA t 6 (consts.map zB.d) vc){x:XIns}{i len:Nat} :
  sD yA F 110 [.agg [.str nm,a,b,c,vn,vc,vw,vt],.agg [.int .u8 (x.op:Int),.int .i64 x.a,.int .i64 x.b],.int .i64 (i:Int),.int .i64 (len:Int)] t=some (.bool (tG names.length consts.length x i len)):=by
 obtain⟨op,xa,xb⟩:=x
 have hnl:vB vn=some (.int .i64 (names.length:Int)):=by rw[hn.len,yag]
 have hcl:vB vc=some (.int .i64 (consts.length:Int)):=by rw[hc.len,yag]
 refine oF.2 (w110 _ _ _ _ _ _ _ _ _ _ _ _ _ ?_)
 simp only[t110,qA,hnl,hcl,q179,do_ok,xA,yB,pD];have idx:∀ {n op':Nat} {R:Bool},(op'=op)->((decide (0<=xa)&&decide (xa<n))&&(if op'=6 then(decide (xb=1)||decide (xb=2))else if op'=8 then zc3 xb else decide (xb=0)))=R →
   (if rC 0 xa=true then jp 110 45 [.bool (iB xa (n:Int)),.bool (wA xb 0),.int .u8 (op':Int),.int .i64 xa,.int .i64 xb] t (fun v t'=>v=.bool R/\t'=t)else jp 110 45 [.bool false,.bool (wA xb 0),.int .u8 (op':Int),.int .i64 xa,.int .i64 xb] t (fun v t'=>v=.bool R/\t'=t)):=by
  intro n op' R _ hR;by_cases h0:0<=xa
  ·refine aA (nG.2 h0) (mT ⟨?_,rfl⟩)
   rw[<- hR,z6f,zgx];simp[h0]
  ·refine qC (fun e=>h0 (nG.1 e)) (mT ⟨?_,rfl⟩)
   rw[<- hR];simp[h0]
 have tgt:∀ {op':Nat} {R:Bool},op'≠6->op'≠8->(decide ((i:Int)<xa)&&decide (xa<=len)&&decide (xb=0))=R →
   (if iB (i:Int) xa=true then jp 110 45 [.bool (rC xa (len:Int)),.bool (wA xb 0),.int .u8 (op':Int),.int .i64 xa,.int .i64 xb] t (fun v t'=>v=.bool R/\t'=t)else jp 110 45 [.bool false,.bool (wA xb 0),.int .u8 (op':Int),.int .i64 xa,.int .i64 xb] t (fun v t'=>v=.bool R/\t'=t)):=by
  intro op' R h6 h8 hR;by_cases h0:(i:Int)<xa
  ·refine aA (dB.2 h0) (mT ⟨?_,rfl⟩)
   rw[<- hR,if_neg h6,if_neg h8,zgw,zgx];simp[h0]
  ·refine qC (fun e=>h0 (dB.1 e)) (mT ⟨?_,rfl⟩)
   rw[<- hR];simp[h0]
 have zero:∀ {op':Nat} {R:Bool},op'≠6->op'≠8->(decide (xa=0)&&decide (xb=0))=R →
   jp 110 45 [.bool (wA xa 0),.bool (wA xb 0),.int .u8 (op':Int),.int .i64 xa,.int .i64 xb] t (fun v t'=>v=.bool R/\t'=t):=by
  intro op' R h6 h8 hR;refine mT ⟨?_,rfl⟩
  rw[<- hR,if_neg h6,if_neg h8,zgx,zgx]
 by_cases h1:op=1
 ·subst h1
  refine aA (by decide) (idx rfl ?_)
  unfold tG;simp
 refine qC (gF (by omega)) ?_
 by_cases h3:op=3
 ·subst h3
  refine aA (by decide) (aA (by decide) (idx rfl ?_))
  unfold tG;simp
 refine qC (gF (by omega)) ?_
 by_cases h4:op=4
 ·subst h4
  refine aA (by decide) (aA (by decide) (idx rfl ?_))
  unfold tG;simp
 refine qC (gF (by omega)) ?_
 by_cases h5:op=5
 ·subst h5
  refine aA (by decide) (aA (by decide) (idx rfl ?_))
  unfold tG;simp
 refine qC (gF (by omega)) ?_
 by_cases h6:op=6
 ·subst h6
  refine aA (by decide) (aA (by decide) (idx rfl ?_))
  unfold tG;simp
 refine qC (gF (by omega)) ?_
 by_cases h8:op=8
 ·subst h8
  refine aA (by decide) (idx rfl ?_)
  unfold tG;simp
 refine qC (gF (by omega)) ?_
 by_cases h7:op=7
 ·subst h7
  refine aA (by decide) ?_
  by_cases hb0:xb=0
  ·refine aA (jE.2 hb0) (mT ⟨?_,rfl⟩)
   unfold tG;simp[hb0]
  ·refine qC (gF hb0) (mT ⟨?_,rfl⟩)
   rw[zgx];unfold tG;simp[hb0]
 refine qC (gF (by omega)) ?_
 by_cases h9:op=9
 ·subst h9
  refine aA (by decide) (aA (by decide) (tgt (by decide) (by decide) ?_))
  unfold tG;simp
 refine qC (gF (by omega)) ?_
 by_cases h10:op=10
 ·subst h10
  refine aA (by decide) (aA (by decide) (tgt (by decide) (by decide) ?_))
  unfold tG;simp
 refine qC (gF (by omega)) ?_
 by_cases h11:op=11
 ·subst h11
  refine aA (by decide) (tgt (by decide) (by decide) ?_)
  unfold tG;simp
 refine qC (gF (by omega)) ?_
 by_cases h2:op=2
 ·subst h2
  refine aA (by decide) (aA (by decide) (zero (by decide) (by decide) ?_))
  unfold tG;simp
 refine qC (gF (by omega)) ?_
 by_cases h12:op=12
 ·subst h12
  refine aA (by decide) (aA (by decide) (zero (by decide) (by decide) ?_))
  unfold tG;simp
 refine qC (gF (by omega)) ?_
 by_cases h13:op=13
 ·subst h13
  refine aA (by decide) (zero (by decide) (by decide) ?_)
  unfold tG;simp
 refine qC (gF (by omega)) ⟨congrArg zA.bool ?_,by trivial⟩
 unfold tG;simp only[];rw[if_neg h1,if_neg (by omega),if_neg h6,if_neg h8,if_neg h7,if_neg (by omega),if_neg (by omega)]
end
end Go.Proofs
namespace Go.Proofs
open Go Go.Am
variable [cC]
variable {t tf:Tr lA}
def zov:List zA:=[.int .i64 0,.int .i64 0,.int .i64 0,.int .i64 1,.int .i64 1,.int .i64 1,.int .i64 0,.int .i64 0,.int .i64 0,.int .i64 0,.int .i64 1,.int .i64 1,.int .i64 1,.int .i64 0]
theorem zba(n:Int):vA .u8 n=(((n%256).toNat:Nat):Int):=by
 rw[zyz];omega
theorem znl(hg:dJ t){x:XIns}(hop:x.op<14):sD yA F 111 [.agg [.int .u8 (x.op:Int),.int .i64 x.a,.int .i64 x.b]] t=some (.tup [.int .i64 (oH x),.int .i64 (pL x:Nat)]):=by
 obtain⟨op,xa,xb⟩:=x
 have hop:op<14:=hop
 refine zij (w111 _ _ _ ?_)
 simp only[t111,qA];refine aA (by trivial) ?_
 intro n hn hnb;obtain⟨t1,a1,a2,a3,a4⟩:=rU (C:=yA) z4l hn
 rw[a1,xA];intro n2 _ _;obtain⟨t2,b1,b2,b3⟩:=a2.store (C:=yA) hnb (j:=0) (v:=.agg zov) z4l rfl (by show 0+14<=14;decide) rfl
 have b1:=b1 n2
 have b2:vD t2 n none zov:=b2
 have ht2:dA t t2:=(dA.refl t).off hn (a4.trans b3)
 unfold zov at b1;rw[b1,xA];have hg2:=hg.mono ht2
 have args:∀ {k:Nat},k<256->sD yA F 181 [.int .u8 (k:Int)] t2=some (.tup [.int .i64 (sH k).1,.int .i64 (sH k).2]):=fun h=>zyd h hg2
 have fC:∀ {v:zA},v=.tup [.int .i64 (oH ⟨op,xa,xb⟩),.int .i64 (pL ⟨op,xa,xb⟩:Nat)]->(v=.tup [.int .i64 (oH ⟨op,xa,xb⟩),.int .i64 (pL ⟨op,xa,xb⟩:Nat)]/\∀b y,t.get b=some y->t2.get b=some y):=fun h=>⟨h,ht2⟩
 have ia:xB yA 232 (.ptr n 0) (.int .u8 (op:Int))=some (.ptr n (0+op*1)):=by
  unfold xB;have e1:(zA.int .u8 (op:Int)).asNat=some op:=rfl
  rw[z4l,sA,e1,sA];simp only[zA.asSlice,zA.asPtr,sA,mE.asArr];rw[ty3,sA,oC.2 (by omega)]
  rfl
 have ld:∀ {k:Int},zov[op]?=some (.int .i64 k)->jA yA 3 ⟨0,t2⟩ (.ptr n (0+op*1))=some (.int .i64 k):=fun {k} h=>by
  rw[show 0+op*1=op by omega];exact b2.load1 ty3 rfl h
 by_cases h6:op=6
 ·subst h6;exact aA (by decide) (fC rfl)
 refine qC (gF (by omega)) ?_
 by_cases h7:op=7
 ·subst h7
  refine aA (by decide) ?_
  rw[zba,q181,args (by omega),xA]
  simp only[bB,zA.asTup,sA,bD,yaa,yab,xA,yB];exact fC rfl
 refine qC (gF (by omega)) ?_
 by_cases h8:op=8
 ·subst h8
  refine aA (by decide) ?_
  rw[zba,q181,args (by omega),xA]
  simp only[bB,zA.asTup,sA,bD,yaa,yab,xA,yB];exact fC rfl
 refine qC (gF (by omega)) ?_
 by_cases h9:op=9
 ·subst h9
  refine aA (by decide) (aA (by decide) ?_)
  rw[ia,xA,ld rfl,xA,yB,xA];exact fC rfl
 refine qC (gF (by omega)) ?_
 by_cases h10:op=10
 ·subst h10
  refine aA (by decide) (aA (by decide) ?_)
  rw[ia,xA,ld rfl,xA,yB,xA];exact fC rfl
 refine qC (gF (by omega)) ?_
 by_cases h11:op=11
 ·subst h11
  refine aA (by decide) ?_
  rw[ia,xA,ld rfl,xA,yB,xA];exact fC rfl
 refine qC (gF (by omega)) ?_
 have hcase:op=0\/op=1\/op=2\/op=3\/op=4\/op=5\/op=12\/op=13:=by omega
 rw[ia,xA];rcases hcase with e | e | e | e | e | e | e | e<;>subst e <;> (rw[ld rfl,xA,yB,xA];exact fC rfl)
end Go.Proofs
namespace Go.Proofs
open Go Go.Am
variable [cC]
variable {t t0 tf:Tr lA}
theorem zn0{d:List Nat}{nb box k v:Nat}{Q:kB}(hown:wF t nb .i64 d)(hcel:vD t box none [.slice nb 0 d.length d.length])(hnb:yA.base<=nb)(hne:box≠nb)(hk:k<d.length)(hv:v<1000000)
  (hS:∀d' t',pM d k (v+1)=some d'->oD nb t t'->wF t' nb .i64 d'->Q (.bool true) t') (hN:pM d k (v+1)=none->Q (.bool false) t):Wc yA F 109 [.int .i64 (k:Int),.int .i64 (v:Int),.ptr box 0] t Q:=by
 have l0:jA yA 105 ⟨0,t⟩ (.ptr box 0)=some (.slice nb 0 d.length d.length):=hcel.load1 zd1 rfl rfl
 have ia:xB yA 105 (.slice nb 0 d.length d.length) (.int .i64 (k:Int))=some (.ptr nb (0+k*1)):=dL zt8 hk
 have e0:0+k*1=k:=by omega
 rw[e0]at ia;have hx:d[k]?=some d[k]:=yae hk
 have l1:=hown.load (C:=yA) hx ty3 rfl
 have ev:vA .i64 ((v:Int)+1)=((v+1:Nat):Int):=by rw[zC (by omega) (by omega)];omega
 refine w109 _ _ _ ?_
 simp only[t109,qA];rw[l0,xA,ia,xA,l1,xA,yB,xA,ev];by_cases h0:d[k]=0
 ·rw[h0]
  refine aA (by decide) ?_
  rw[xA,ia,xA];intro n _ _;obtain⟨t',s1,s2,s3⟩:=hown.store (C:=yA) hnb hk (v+1) ty3 rfl
  rw[s1 n,xA];have hc':vD t' box none [.slice nb 0 d.length d.length]:=hcel.off (s3 box hne)
  have l0':jA yA 105 ⟨0,t'⟩ (.ptr box 0)=some (.slice nb 0 d.length d.length):=hc'.load1 zd1 rfl rfl
  have hx':(d.set k (v+1))[k]?=some (v+1):=by rw[ybx,if_pos rfl,if_pos hk]
  have l1':=s2.load (C:=yA) hx' ty3 rfl
  refine z3w _ _ _ ?_
  simp only[ztz,qA];rw[l0',xA,ia,xA,l1',xA,yB,xA,ev,jE.2 rfl];refine hS _ t' ?_ s3 s2
  unfold pM;rw[hx,h0]
 ·obtain⟨w,hw⟩:∃w,d[k]=w+1:=⟨d[k]-1,by omega⟩
  refine qC (gF (by omega)) ?_
  refine z3w _ _ _ ?_
  simp only[ztz,qA];rw[l0,xA,ia,xA,l1,xA,yB,xA,ev];rw[hw]at hx;by_cases he:w=v
  ·subst he
   rw[hw,jE.2 rfl];refine hS d t ?_ (oD.refl _ _) hown
   unfold pM;rw[hx];exact if_pos rfl
  ·rw[zgx,decide_eq_false (by omega)]
   refine hN ?_
   unfold pM;rw[hx];exact if_neg (by omega)
theorem zh6{nN nC i len:Nat}{x:XIns}(h:tG nN nC x i len=true):x.op<14:=by
 unfold tG at h;repeat' split at h
 all_goals (first | omega | cases h)
theorem fX{nN nC i len:Nat}{x:XIns}(h:tG nN nC x i len=true)(hj:x.op=9\/x.op=10\/x.op=11):(i:Int)<x.a/\x.a<=len:=by
 unfold tG at h;rw[if_neg (by omega),if_neg (by omega),if_neg (by omega),if_neg (by omega),if_neg (by omega),if_pos hj]at h
 simp only[yac,decide_eq_true_eq]at h;exact h.1
theorem zpe(op:Nat):0<=(sH op).1:=by
 unfold sH;repeat' split
 all_goals decide
theorem zpf(op:Nat):(sH op).1<=3:=by
 unfold sH;repeat' split
 all_goals decide
theorem ze1{nN nC i len:Nat}{x:XIns}(h:tG nN nC x i len=true):0<=oH x/\oH x<=3:=by
 have h1:=zpe (x.a%256).toNat
 have h2:=zpf (x.a%256).toNat
 have h3:=zpe (x.b%256).toNat
 have h4:=zpf (x.b%256).toNat
 unfold oH;by_cases h6:x.op=6
 ·rw[if_pos h6]
  unfold tG at h;rw[if_neg (by omega),if_neg (by omega),if_pos h6]at h
  simp only[yac,ybr,decide_eq_true_eq]at h;omega
 ·rw[if_neg h6]
  repeat' split
  all_goals omega
theorem z49(x:XIns):pL x<=1:=by unfold pL;split<;>omega
section
variable {nm:List Nat}{a b c vn vc vw vt v1:zA}{names:List (List Nat)}{consts:List zB}{code:List XIns}{nb box:Nat}
def zh5(len:Nat):Option (List Nat)->Bool
 | some d=>decide (d[len]?=some 2)
 | none=>false
theorem zp1(hv:oA t0 3 (code.map XIns.d) v1)(hn:oA t0 1 (names.map D.str) vn)(hc:oA t0 6 (consts.map zB.d) vc)(hg:dJ t0)(hlen:code.length<=1000)(hnb:yA.base<=nb)(hne:box≠nb)(hb0:t0.get nb=none) :
  ∀(l:List XIns) (i:Nat) (d:List Nat) (t:Tr lA),code.drop i=l->d.length=code.length+1->(∀x∈d,x<=66)->wF t nb .i64 d->vD t box none [.slice nb 0 (code.length+1) (code.length+1)]->dA t0 t →
   jp 58 2 [v1,.ptr box 0,.func (.func 109) [] [.ptr box 0],v1,.int .i64 (code.length:Int),.int .i64 (i:Int),.str nm,a,b,c,vn,vc,vw,vt] t (fun v t'=>v=.bool (zh5 code.length (sM names.length consts.length code.length l i d))/\dA t0 t'):=by
 intro l;induction l with
 | nil=>
  intro i d t hd hdl hsm hown hcel hle;have hi:code.length<=i:=by
   rcases Nat.lt_or_ge i code.length with h | h
   ·rw[yam h]at hd;cases hd
   ·exact h
  have hk:code.length<d.length:=by omega
  have hx:d[code.length]?=some d[code.length]:=yae hk
  have l0:jA yA 105 ⟨0,t⟩ (.ptr box 0)=some (.slice nb 0 (code.length+1) (code.length+1)):=hcel.load1 zd1 rfl rfl
  have ia:xB yA 105 (.slice nb 0 (code.length+1) (code.length+1)) (.int .i64 (code.length:Int))=some (.ptr nb (0+code.length*1)):=dL zt8 (by omega)
  rw[show 0+code.length*1=code.length by omega]at ia;refine j58_2 _ _ _ _ _ _ _ _ _ _ _ _ _ _ ?_
  simp only[z4s,qA];refine qC (fun e=>absurd (dB.1 e) (by omega)) ?_
  rw[l0,xA,(hv.mono hle).len,xA,yag,yB,xA,ia,xA,hown.load hx ty3 rfl,xA,yB,xA]
  refine⟨congrArg zA.bool ?_,hle⟩
  rw[zgx];show _=decide (d[code.length]?=some 2)
  rw[hx];simp only[Option.some.injEq];exact decide_eq_decide.2 ⟨fun h=>by omega,fun h=>by omega⟩
 | cons x l ih=>
  intro i d t hd hdl hsm hown hcel hle;have hi:i<code.length:=by
   rcases Nat.lt_or_ge i code.length with h | h
   ·exact h
   ·rw[yau h]at hd;cases hd
  rw[yam hi]at hd;injection hd with hd1 hd2
  have hxc:code[i]?=some x:=by rw[yae hi,hd1]
  obtain⟨q,off,g1,g2,_⟩:=zc5 (hv.mono hle) hxc
  have hk:i<d.length:=by omega
  have hx:d[i]?=some d[i]:=yae hk
  have hsmi:=hsm _ (ybk hk)
  have l0:jA yA 105 ⟨0,t⟩ (.ptr box 0)=some (.slice nb 0 (code.length+1) (code.length+1)):=hcel.load1 zd1 rfl rfl
  have ia:xB yA 105 (.slice nb 0 (code.length+1) (code.length+1)) (.int .i64 (i:Int))=some (.ptr nb (0+i*1)):=dL zt8 (by omega)
  rw[show 0+i*1=i by omega]at ia;have hz:wG [(.int .u8 0),(.int .i64 0),(.int .i64 0)] (.agg x.cells)=some (cellsOf x.cells):=gL rfl
  refine j58_2 _ _ _ _ _ _ _ _ _ _ _ _ _ _ ?_
  simp only[z4s,qA];refine aA (dB.2 (by omega)) ?_
  rw[g1,xA,g2,xA,hz,xA];simp only[XIns.cells,cellsOf,bF,yaa,yab];refine aA (by trivial) ?_
  rw[l0,xA,ia,xA,hown.load hx ty3 rfl,xA,yB,xA];have hL:sM names.length consts.length code.length (x::l) i d=(aJ names.length consts.length code.length x i d).bind (sM names.length consts.length code.length l (i+1)):=rfl
  rw[hL];by_cases h0:d[i]=0
  ·have hst:aJ names.length consts.length code.length x i d=none:=by
    unfold aJ;rw[hx,h0]
   rw[hst];exact aA (jE.2 (by omega)) ⟨rfl,hle⟩
  ·obtain⟨e,he⟩:∃e,d[i]=e+1:=⟨d[i]-1,by omega⟩
   refine qC (gF (by omega)) ?_
   have hsi:=zk4 (nm:=nm) (a:=a) (b:=b) (c:=c) (vw:=vw) (vt:=vt) (hn.mono hle) (hc.mono hle) (x:=x) (i:=i) (len:=code.length)
   rw[(hv.mono hle).len,xA,yag,yB,xA,q110,hsi,xA,pD,xA]
   rw[he]at hx
   cases hs:tG names.length consts.length x i code.length with
   | false=>
    have hst:aJ names.length consts.length code.length x i d=none:=by
     unfold aJ;rw[hx];simp only[];rw[if_pos hs]
    rw[hst];exact aA (by simp) ⟨rfl,hle⟩
   | true=>
    refine qC (by simp) ?_
    have hop:=zh6 hs
    obtain⟨hp1,hp2⟩:=ze1 hs
    have hpu:=z49 x
    have hst111:=znl (hg.mono hle) hop
    rw[q111,hst111,xA];simp only[bB,zA.asTup,sA,bD,yaa,yab,xA,yB];have hx2:=hx
    rw[l0,xA,ia,xA,hown.load (C:=yA) hx ty3 rfl,xA,yB,xA]
    have w1:vA .i64 (((e+1:Nat):Int)-1)=(e:Int):=by rw[zC (by omega) (by omega)];omega
    have w2:vA .i64 ((e:Int)-oH x)=(e:Int)-oH x:=zC (by omega) (by omega)
    have w3:vA .i64 ((e:Int)-oH x+(pL x:Nat))=(e:Int)-oH x+(pL x:Nat):=zC (by omega) (by omega)
    rw[w1,w2,w3];by_cases hneg:(e:Int)-oH x<0
    ·have hst:aJ names.length consts.length code.length x i d=none:=by
      unfold aJ;rw[hx];simp only[];rw[if_neg (by simp[hs]),if_pos (.inl hneg)]
     rw[hst];exact aA (dB.2 hneg) ⟨rfl,hle⟩
    refine qC (fun h=>hneg (dB.1 h)) ?_
    by_cases hbig:64<(e:Int)-oH x+(pL x:Nat)
    ·have hst:aJ names.length consts.length code.length x i d=none:=by
      unfold aJ;rw[hx];simp only[];rw[if_neg (by simp[hs]),if_pos (.inr hbig)]
     rw[hst];exact aA (dB.2 hbig) ⟨rfl,hle⟩
    refine qC (fun h=>hbig (dB.1 h)) ?_
    obtain⟨v,hv'⟩:∃v:Nat,(e:Int)-oH x+(pL x:Nat)=(v:Int):=⟨((e:Int)-oH x+(pL x:Nat)).toNat,by omega⟩
    have hst:aJ names.length consts.length code.length x i d=(if x.op=9\/x.op=10\/x.op=11 then pM d x.a.toNat (v+1)else some d).bind fun d'=>if x.op=9 then some d' else pM d' (i+1) (v+1):=by
     unfold aJ;rw[hx];simp only[];rw[if_neg (by simp[hs]),if_neg (by omega),hv',show((v:Nat):Int).toNat=v by omega]
    rw[hst,hv',q112,tV,xA,pD,xA];have f:∀p q,wM (.func (.func 109) [] [.ptr box 0]) [p,q]=some (109,[p,q,.ptr box 0]):=fun _ _=>rfl
    have wi:vA .i64 ((i:Int)+1)=((i+1:Nat):Int):=by rw[zC (by omega) (by omega)];omega
    have small:∀ {d d':List Nat} {k:Nat},(∀x∈d,x<=66)->pM d k (v+1)=some d'->(∀x∈d',x<=66)/\d'.length=d.length:=by
     intro d d' k hsm h;unfold pM at h
     cases hdk:d[k]? with
     | none=>rw[hdk]at h;cases h
     | some w=>
      rw[hdk]at h
      cases w with
      | zero=>
       cases h;refine⟨fun y hy=>?_,by simp⟩
       rcases List.mem_or_eq_of_mem_set hy with hy | rfl
       ·exact hsm y hy
       ·omega
      | succ w=>
       simp only[]at h;split at h
       ·cases h;exact⟨hsm,rfl⟩
       ·cases h
    have second:∀(d1:List Nat) (t1:Tr lA),d1.length=code.length+1->(∀x∈d1,x<=66)->wF t1 nb .i64 d1->vD t1 box none [.slice nb 0 (code.length+1) (code.length+1)]->dA t0 t1 →
      (if (!wA (x.op:Int) 9)=true then sG (wM (.func (.func 109) [] [.ptr box 0]) [.int .i64 ((i+1:Nat):Int),.int .i64 (v:Int)]) (fun p=>Wq yA F lH p.1 p.2 t1 fun v' t'=>sG v'.asBool fun n=>if (!n)=true then(.bool false:zA)=.bool (zh5 code.length ((if x.op=9 then some d1 else pM d1 (i+1) (v+1)).bind (sM names.length consts.length code.length l (i+1))))/\dA t0 t' else jp 58 2 [v1,.ptr box 0,.func (.func 109) [] [.ptr box 0],v1,.int .i64 (code.length:Int),.int .i64 ((i+1:Nat):Int),.str nm,a,b,c,vn,vc,vw,vt] t' (fun v' t'=>v'=.bool (zh5 code.length ((if x.op=9 then some d1 else pM d1 (i+1) (v+1)).bind (sM names.length consts.length code.length l (i+1))))/\dA t0 t'))
      else jp 58 2 [v1,.ptr box 0,.func (.func 109) [] [.ptr box 0],v1,.int .i64 (code.length:Int),.int .i64 ((i+1:Nat):Int),.str nm,a,b,c,vn,vc,vw,vt] t1 (fun v' t'=>v'=.bool (zh5 code.length ((if x.op=9 then some d1 else pM d1 (i+1) (v+1)).bind (sM names.length consts.length code.length l (i+1))))/\dA t0 t')):=by
     intro d1 t1 hdl1 hsm1 hown1 hcel1 hle1;by_cases h9:x.op=9
     ·rw[if_pos h9]
      refine qC (fun h=>absurd (show(x.op:Int)=9 by omega) (lI.1 h)) ?_
      exact ih (i+1) d1 t1 hd2 hdl1 hsm1 hown1 hcel1 hle1
     ·rw[if_neg h9]
      refine aA (lI.2 (by omega)) ?_
      rw[f,xA];show Wq yA F lH 109 _ _ _
      rw[q109];refine zn0 (v:=v) hown1 (by rw[hdl1];exact hcel1) hnb hne (by omega) (by omega) (fun d2 t2 hr ho hw=>?_) (fun hr=>?_)
      ·rw[pD,xA,hr]
       obtain⟨s1,s2⟩:=small hsm1 hr
       exact qC (by simp) (ih (i+1) d2 t2 hd2 (by omega) s1 hw (hcel1.off (ho box hne)) (hle1.off hb0 ho))
      ·rw[pD,xA,hr]
       exact aA (by simp) ⟨rfl,hle1⟩
    by_cases hj:x.op=9\/x.op=10\/x.op=11
    ·rw[if_pos hj,decide_eq_true hj]
     refine aA (by trivial) ?_
     obtain⟨hj1,hj2⟩:=fX hs hj
     obtain⟨T,hT⟩:∃T:Nat,x.a=(T:Int):=⟨x.a.toNat,by omega⟩
     rw[hT,show((T:Nat):Int).toNat=T by omega,f,xA]
     show Wq yA F lH 109 _ _ _
     rw[q109];refine zn0 (v:=v) hown (by rw[hdl];exact hcel) hnb hne (by omega) (by omega) (fun d1 t1 hr ho hw=>?_) (fun hr=>?_)
     ·rw[pD,xA,hr]
      obtain⟨s1,s2⟩:=small hsm hr
      refine qC (by simp) ?_
      rw[wi];exact second d1 t1 (by omega) s1 hw (hcel.off (ho box hne)) (hle.off hb0 ho)
     ·rw[pD,xA,hr]
      exact aA (by simp) ⟨rfl,hle⟩
    ·rw[if_neg hj,decide_eq_false hj]
     refine qC (by simp) ?_
     rw[wi];exact second d t hdl hsm hown hcel hle
theorem zh7(hv:oA t 3 (code.map XIns.d) v1)(hn:oA t 1 (names.map D.str) vn)(hc:oA t 6 (consts.map zB.d) vc)(hg:dJ t)(hsz:code.length<1125899906842624) :
  sD yA F 58 [.agg [.str nm,a,b,c,vn,vc,vw,vt],v1] t=some (.bool (cP names.length consts.length code)):=by
 have hlen:vB v1=some (.int .i64 (code.length:Int)):=by rw[hv.len,yag]
 refine zij (w58 _ _ _ _ _ _ _ _ _ ?_)
 simp only[t58,qA,hlen,xA,yB];unfold cP;by_cases hbig:1000<code.length
 ·rw[decide_eq_false (by omega),Bool.false_and]
  exact aA (dB.2 (by omega)) ⟨rfl,fun _ _ h=>h⟩
 ·rw[decide_eq_true (by omega),ybo]
  refine qC (fun h=>absurd (dB.1 h) (by omega)) ?_
  rw[zC (n:=(code.length:Int)+1) (by omega) (by omega),show(code.length:Int)+1=((code.length+1:Nat):Int) by omega]
  intro n hn1 hnb;obtain⟨t1,m1,m2,m3,m4⟩:=bT (C:=yA) zd1 rfl ty3 rfl rfl (by decide) (n:=code.length+1) (by omega) hn1
  rw[m1,xA];intro w hw hwb;obtain⟨t2,a1,a2,a3,a4⟩:=rU (C:=yA) zd1 hw
  have hwn:w≠n:=by
   intro e;subst e;obtain⟨cc,hcc,_⟩:=m2
   rw[show(zA.slice w 0 (code.length+1) (code.length+1),(⟨w+1,t1⟩:pA)).2.t=t1 from rfl,hcc]at hw
   cases hw
  rw[a1,xA];intro w2 _ _;obtain⟨t3,b1,b2,b3⟩:=a2.store1 (C:=yA) hwb (j:=0) (v:=.slice n 0 (code.length+1) (code.length+1)) zd1 rfl rfl rfl (by show 0<1;decide)
  have b2:vD t3 w none [.slice n 0 (code.length+1) (code.length+1)]:=b2
  have b1:=b1 w2
  rw[b1,xA];have o3:wF t3 n .i64 (List.replicate (code.length+1) 0):=(m2.tle a3).off (Ne.symm hwn) b3
  have l0:jA yA 105 ⟨0,t3⟩ (.ptr w 0)=some (.slice n 0 (code.length+1) (code.length+1)):=b2.load1 zd1 rfl rfl
  have ia:xB yA 105 (.slice n 0 (code.length+1) (code.length+1)) (.int .i64 0)=some (.ptr n (0+0*1)):=dL zt8 (i:=0) (by omega)
  rw[l0,xA,ia,xA];intro w3 _ _;obtain⟨t4,c1,c2,c3⟩:=o3.store (C:=yA) hnb (j:=0) (by simp) 1 ty3 rfl
  have c1:=c1 w3
  have c1':lD yA 3 (.ptr n (0+0*1)) (.int .i64 1) ⟨w3,t3⟩=some (tE,⟨w3,t4⟩):=c1
  rw[c1',xA];have ht1:dA t t1:=m3
  have htw:t.get w=none:=by
   cases hq:t.get w with
   | none=>rfl
   | some y=>
    have:=m3 _ _ hq
    have hw':t1.get w=none:=hw
    rw[this]at hw';cases hw'
  have ht3:dA t t3:=(ht1.trans a3).off htw b3
  have ht4:dA t t4:=ht3.off hn1 c3
  have hset:(List.replicate (code.length+1) 0).set 0 1=1::List.replicate code.length 0:=by rw[List.replicate_succ];rfl
  rw[hset]at c2;refine Jq.mono (zp1 (nm:=nm) (a:=a) (b:=b) (c:=c) (vw:=vw) (vt:=vt) (nb:=n) (box:=w) hv hn hc hg (by omega) hnb hwn hn1 code 0 (1::List.replicate code.length 0) t4 rfl (by simp) (fun x hx=>?_) c2 (b2.off (c3 w hwn)) ht4) fun v u hh=>⟨hh.1.trans ?_,hh.2⟩
  ·rcases yat.1 hx with rfl | hx
   ·omega
   ·have:=List.eq_of_mem_replicate hx;omega
  ·unfold zh5
   cases sM names.length consts.length code.length code 0 (1::List.replicate code.length 0)<;>rfl
end
end Go.Proofs
namespace Go.Am
def zry:uF:=⟨⟨false,[]⟩,⟨false,[]⟩⟩
def gH:zB:=⟨0,zry,0⟩
section
variable (names:List (List Nat))(consts:List zB)(code:List XIns)(same:zB->zB->Bool)
def dF(x:XIns)(args:List uA):uA:=
 if x.op=1 then .mk 1 [] (consts.getD x.a.toNat gH) args
 else if x.op=3\/x.op=4\/x.op=5\/x.op=6 then .mk x.op (names.getD x.a.toNat []) gH args
 else if x.op=8 then .mk (x.b%256).toNat (names.getD x.a.toNat []) gH args
 else if x.op=7 then .mk (x.a%256).toNat [] ⟨0,zry,x.b⟩ args
 else .mk 2 [] gH args
def rO(rd:Nat->Nat->Option uA)(first:uA)(at_ to:Nat):Option (uA × Nat):=
 match code[at_]? with
 | none=>none
 | some x=>
  if x.op=9 then none
  else if x.a<at_+2 then none
  else if (to:Int)<=x.a then none
  else match code[x.a.toNat-1]?,code[x.a.toNat-2]?,code[x.a.toNat]? with
   | some j,some k,some last=>
    if j.op≠9 then none
    else if (to:Int)<j.a then none
    else if k.op=12 then
     match rd (at_+1) (x.a.toNat-2)with
     | none=>none
     | some y=>if j.a=x.a+1/\last.op=1/\same (consts.getD last.a.toNat gH) (yG (if x.op=11 then 1 else 0))=true then some (.mk (if x.op=11 then 16 else 15) [] gH [first,y],j.a.toNat)else none
    else
     match rd (at_+1) (x.a.toNat-1)with
     | none=>none
     | some y=>if x.op≠10 then none else
      match rd x.a.toNat j.a.toNat with
      | none=>none
      | some z=>some (.mk 18 [] gH [first,y,z],j.a.toNat)
   | _,_,_=>none
def zqk:Option (List uA)->Option uA
 | some [x]=>some x
 | _=>none
def nI:Nat->Nat->Nat->List uA->Option (List uA)
 | 0,_,_,_=>none
 | f+1,i,to,st=>
  if to<=i then some st
  else match code[i]? with
   | none=>none
   | some x=>
    if x.op=9\/x.op=10\/x.op=11 then
     match st.getLast? with
     | none=>none
     | some top=>
      match rO consts code same (fun a b=>zqk (nI f a b [])) top i to with
      | none=>none
      | some (y,next)=>nI f next to (st.dropLast++[y])
    else if x.op=12\/(st.length:Int)<oH x then none
    else nI f (i+1) to (st.take (st.length-(oH x).toNat)++[dF names consts x (st.drop (st.length-(oH x).toNat))])
end
end Go.Am
namespace Go.Am
open Go Go.RowKit
section
variable {t tf:Tr lA}{C:iA}
def Buf (base:Nat)(tf t:Tr lA)(sz:Nat)(l:List D)(v:zA):Prop:=
 (v=.nilslice/\l=[])\/∃b cl c cap,v=.slice b 0 l.length cap/\l.length<=cap/\0<cap/\cap<400000/\base<=b/\tf.get b=none/\t.get b=some (.cells c (cap*sz) (some sz)) ∧
  (∀(i:Nat) cs,cl[i]?=some cs->cs.length=sz/\∀(j:Nat) a,cs[j]?=some a->c.get (i*sz+j)=some a)/\mC tf l cl
theorem mC.take'{l:List D}{cl:List (List zA)}{k:Nat}(h:mC t l cl):mC t (l.take k) (cl.take k):=by
 have hl:=h.length
 refine mC.mk (by rw[ycb,ycb,hl]) fun i d cs h1 h2=>?_
 rw[ycg]at h1 h2;split at h1
 ·rename_i e
  rw[if_pos e]at h2;obtain⟨cs',h3,h4⟩:=h.get h1
  rw[h3]at h2;cases h2;exact h4
 ·cases h1
theorem mC.drop'{l:List D}{cl:List (List zA)}{k:Nat}(h:mC t l cl):mC t (l.drop k) (cl.drop k):=by
 have hl:=h.length
 refine mC.mk (by rw[yck,yck,hl]) fun i d cs h1 h2=>?_
 rw[ycf]at h1 h2;obtain⟨cs',h3,h4⟩:=h.get h1
 rw[h3]at h2;cases h2;exact h4
theorem mC.app:∀ {l m:List D} {cl cm:List (List zA)},mC tf l cl->mC tf m cm->mC tf (l++m) (cl++cm):=by
 intro l;induction l with
 | nil=>intro m cl cm h k;rw[gE]at h;subst h;exact k
 | cons d l ih=>
  intro m cl cm h k;rw[eD]at h;obtain⟨c,r,rfl,h1,h2⟩:=h
  exact eD.2 ⟨c,r++cm,rfl,h1,ih h2 k⟩
variable {base sz:Nat}{l:List D}{v:zA}
theorem Buf.read(h:Buf base tf t sz l v)(ht:dA tf t):oA t sz l v:=by
 rcases h with⟨rfl,rfl⟩ | ⟨b,cl,c,cap,rfl,h0,_,_,_,_,h1,h2,h3⟩
 ·exact⟨[],.inl ⟨rfl,rfl⟩,gE.2 rfl⟩
 ·have hlen:=h3.length
  refine⟨cl,.inr ⟨b,0,cap,by rw[hlen],by omega,⟨c,_,_,h1,.inr rfl⟩,fun i cs hi=>⟨(h2 i cs hi).1,c,_,_,h1,fun j a hj=>?_⟩⟩,mC.mono ht _ _ h3⟩
  rw[yax];exact(h2 i cs hi).2 j a hj
theorem Buf.keep{t' tf':Tr lA}(h:Buf base tf t sz l v)(hf:dA tf tf')(hk:∀b,pJ v b->t'.get b=t.get b/\tf'.get b=Option.none):Buf base tf' t' sz l v:=by
 rcases h with⟨rfl,rfl⟩ | ⟨b,cl,c,cap,rfl,g1,g2,g3,h0,h1,h2,h3,h4⟩
 ·exact .inl ⟨rfl,rfl⟩
 ·obtain⟨k1,k2⟩:=hk b (pN.2 rfl)
  exact .inr ⟨b,cl,c,cap,rfl,g1,g2,g3,h0,k2,by rw[k1];exact h2,h3,mC.mono hf _ _ h4⟩
theorem Buf.live(h:Buf base tf t sz l v){b:Nat}(hb:pJ v b):∃y,t.get b=some y:=by
 rcases h with⟨rfl,rfl⟩ | ⟨c,cl,x,cap,rfl,_,_,_,h1,h2,h3,_⟩
 ·exact absurd hb zc4
 ·rw[pN]at hb;subst hb;exact⟨_,h3⟩
def mI (base sz:Nat)(l:List D)(v:zA):zD where
 blks:=zE v
 ok:=fun tf t=>Buf base tf t sz l v
 keep:=fun h hf k=>h.keep hf fun b hb=>k b (cK.2 hb)
 live:=fun h k hk=>h.live (cK.1 hk)
theorem Buf.elem{T el:Nat}(hT:rE C T el sz true)(h:Buf base tf t sz l v){i:Nat}{d:D}(hi:l[i]?=some d) :
  ∃p o cs,xB C T v (.int .i64 (i:Int))=some (.ptr p o)/\jA C el ⟨0,t⟩ (.ptr p o)=some (.agg cs)/\RD tf d cs/\cs.length=sz:=by
 rcases h with⟨rfl,rfl⟩ | ⟨b,cl,c,cap,rfl,h0,hp,hc4,hbb,h1,h2,h3,h4⟩
 ·simp at hi
 ·have hlen:=h4.length
  have hlt:i<l.length:=(yad.1 hi).1
  obtain⟨cs,g1,g2⟩:=h4.get hi
  obtain⟨g3,g4⟩:=h3 i cs g1
  refine⟨b,0+i*sz,cs,dL hT hlt,?_,g2,g3⟩
  obtain⟨_,⟨z,hz1,hz2,hz3⟩⟩:=hT
  have ha:At t b (0+i*sz) cs:=⟨c,_,_,h2,fun j a hj=>by rw[yax];exact g4 j a hj⟩
  have:=ha.load (j:=0) hz1 hz3 hz2 (by omega)
  rw[ybu,ybs,show cs.take sz=cs from by rw[<- g3,List.take_length]]at this;exact this
theorem zl9{n k sz:Nat}{y:lA}{cl:List (List zA)}(h:fG t sz (.slice n 0 k k) cl)(hy:t.get n=some y):fG (tf.set n y) sz (.slice n 0 k k) cl:=by
 rcases h with⟨h,_⟩ | ⟨b,off,cap,e,h1,⟨c,m,lo,h2,h3⟩,h4⟩
 ·cases h
 ·have eb:n=b:=by injection e
  have eo:0=off:=by injection e
  subst eb eo
  refine .inr ⟨n,0,cap,e,h1,⟨c,m,lo,by rw[Tr.get_set,if_pos rfl,<- hy,h2],h3⟩,fun i cs hi=>?_⟩
  obtain⟨k1,c',m',lo',k2,k3⟩:=h4 i cs hi
  exact⟨k1,c',m',lo',by rw[Tr.get_set,if_pos rfl,<- hy,k2],k3⟩
theorem Buf.front{T el:Nat}{agg:Bool}(hT:rE C T el sz agg)(h:Buf base tf t sz l v){k:Nat}(hk:k<=l.length) :
  ∃v',uG C T ⟨0,t⟩ v none (some (.int .i64 (k:Int)))=some v'/\Buf base tf t sz (l.take k) v'/\zE v'=zE v:=by
 obtain⟨⟨y,hy1,hy2⟩,⟨z,hz1,hz2,hz3⟩⟩:=hT
 have hb:∀y,oQ y (.int .i64 (k:Int))=uB (Nat.ble k y) (some k):=fun y=>rfl
 rcases h with⟨rfl,rfl⟩ | ⟨b,cl,c,cap,rfl,h0,hp,hc4,hbb,h1,h2,h3,h4⟩
 ·have:k=0:=by simp at hk;omega
  subst this;refine⟨.nilslice,?_,.inl ⟨rfl,rfl⟩,rfl⟩
  unfold uG;rw[hy1,sA];unfold yK;simp only[zA.asStr,zA.asSlice,zA.asPtr];rw[hy2,sA,hz1,sA];rfl
 ·refine⟨.slice b 0 k cap,?_,.inr ⟨b,cl.take k,c,cap,?_,?_,hp,hc4,hbb,h1,h2,fun i cs hi=>?_,h4.take'⟩,rfl⟩
  ·unfold uG
   rw[hy1,sA];unfold yK;simp only[zA.asStr,zA.asSlice];rw[hy2,sA];unfold gK;rw[hz1,sA];unfold fM iS;simp only[hb];rw[show Nat.ble k cap=true from oE.2 (by omega)]
   simp only[dE,sA];have he2:mH ⟨0,t⟩ b z.size cap 0 false=false:=by
    unfold mH rD;rw[h2,sA];simp[lA.asCells]
   have hf:xH ⟨0,t⟩ b z.size cap 0 false=true:=by
    unfold xH rD;rw[h2,sA];simp[lA.asCells,hz2]
   rw[he2,Bool.and_false,cond_false,show Nat.ble k cap=true from oE.2 (by omega),hf]
   simp only[Bool.and_self,dE];congr 1
   cases hq:Nat.beq cap 0<;>simp
  ·rw[ycb];congr 1;omega
  ·rw[ycb];omega
  ·rw[ycg]at hi
   split at hi
   ·exact h3 i cs hi
   ·cases hi
theorem Buf.back{T el:Nat}{agg:Bool}(hT:rE C T el sz agg)(h:Buf base tf t sz l v)(hz0:∃c n,t.get 0=some (.cells c n none)){k:Nat}(hk:k<=l.length) :
  ∃v' cl',uG C T ⟨0,t⟩ v (some (.int .i64 (k:Int))) none=some v'/\fG t sz v' cl'/\mC tf (l.drop k) cl':=by
 obtain⟨⟨y,hy1,hy2⟩,⟨z,hz1,hz2,hz3⟩⟩:=hT
 have hb:∀y,oQ y (.int .i64 (k:Int))=uB (Nat.ble k y) (some k):=fun y=>rfl
 rcases h with⟨rfl,rfl⟩ | ⟨b,cl,c,cap,rfl,h0,hp,hc4,hbb,h1,h2,h3,h4⟩
 ·have:k=0:=by simp at hk;omega
  subst this;refine⟨.nilslice,[],?_,.inl ⟨rfl,rfl⟩,by simp[mC]⟩
  unfold uG;rw[hy1,sA];unfold yK;simp only[zA.asStr,zA.asSlice,zA.asPtr];rw[hy2,sA,hz1,sA];rfl
 ·have hlen:=h4.length
  have pre:uG C T ⟨0,t⟩ (.slice b 0 l.length cap) (some (.int .i64 (k:Int))) none=(bif Nat.ble l.length cap&&Nat.ble k l.length&&mH ⟨0,t⟩ b z.size cap k false then some (.slice 0 1 0 0)else uB (Nat.ble l.length cap&&xH ⟨0,t⟩ b z.size cap k false) (some (.slice b (bif Nat.beq cap k then 0 else 0+k*z.size) (l.length-k) (cap-k)))):=by
   unfold uG;rw[hy1,sA];unfold yK;simp only[zA.asStr,zA.asSlice];rw[hy2,sA];unfold gK;rw[hz1,sA];unfold fM iS;simp only[hb];rw[sA,show Nat.ble k l.length=true from oE.2 hk]
   simp only[dE,sA];rw[show Nat.ble k l.length=true from oE.2 hk]
  rw[pre,show Nat.ble l.length cap=true from oE.2 h0,show Nat.ble k l.length=true from oE.2 hk];by_cases hend:k=cap
  ·have he2:mH ⟨0,t⟩ b z.size cap k false=true:=by
    have b0:Nat.beq sz z.size=true:=wC.2 hz2.symm
    have b1:Nat.beq cap k=true:=wC.2 hend.symm
    have b2:Nat.beq k 0=false:=by
     cases hq:Nat.beq k 0 with
     | true=>have:=wC.1 hq;omega
     | false=>rfl
    unfold mH rD;rw[h2,sA];simp only[lA.asCells,sA,b0,b1,b2];rfl
   rw[he2];obtain⟨cz,nz,hcz⟩:=hz0
   refine⟨.slice 0 1 0 0,[],rfl,.inr ⟨0,1,0,rfl,yal _,⟨cz,nz,none,hcz,.inl rfl⟩,fun i cs hi=>by simp at hi⟩,?_⟩
   rw[yau (by omega)]
   exact gE.2 rfl
  ·have he2:mH ⟨0,t⟩ b z.size cap k false=false:=by
    unfold mH rD;rw[h2,sA];simp[lA.asCells]
    intro _ e;exact absurd e.symm hend
   have hf:xH ⟨0,t⟩ b z.size cap k false=true:=by
    unfold xH rD;rw[h2,sA];have:Nat.beq cap k=false:=by
     cases hq:Nat.beq cap k with
     | true=>exact absurd (wC.1 hq).symm hend
     | false=>rfl
    simp[lA.asCells,hz2,this]
   have hq:Nat.beq cap k=false:=by
    cases hq:Nat.beq cap k with
    | true=>exact absurd (wC.1 hq).symm hend
    | false=>rfl
   rw[he2,hf,hq,cond_false,hz2];refine⟨_,cl.drop k,rfl,.inr ⟨b,0+k*sz,cap-k,by rw[yck,hlen],by rw[yck];omega,⟨c,_,_,h2,.inr rfl⟩,fun i cs hi=>?_⟩,h4.drop'⟩
   rw[ycf]at hi;obtain⟨g1,g2⟩:=h3 _ cs hi
   refine⟨g1,c,_,_,h2,fun j a hj=>?_⟩
   have:=g2 j a hj
   rw[yap]at this;rw[show 0+k*sz+i*sz+j=k*sz+i*sz+j by omega];exact this
theorem Buf.push{T el:Nat}(hT:eI C T el sz)(h:Buf C.base tf t sz l v){x:zA}{d:D}{cs:List zA}(hx:fG t sz x [cs])(hd:RD tf d cs)(hone:∀a∈cs,zA.one a=true)(hl:l.length<300000){n:Nat}(hn:t.get n=none)(hbase:C.base<=n)(ht:dA tf t) :
  ∃v' t' n',iD C T T v x ⟨n,t⟩=some (v',⟨n',t'⟩)/\Buf C.base tf t' sz (l++[d]) v'/\dA tf t'/\(∀c,¬ pJ v c->¬ pJ v' c->t'.get c=t.get c)/\(∀c,pJ v' c->pJ v c\/c=n):=by
 have asLoose:∀ {w:zA},Loose C.base tf t sz l w->w=v->(v=.nilslice\/∃b,v=.slice b 0 l.length l.length)->∃v' t' n',iD C T T v x ⟨n,t⟩=some (v',⟨n',t'⟩)/\Buf C.base tf t' sz (l++[d]) v'/\dA tf t'/\(∀c,¬ pJ v c->¬ pJ v' c->t'.get c=t.get c)/\(∀c,pJ v' c->pJ v c\/c=n):=by
  intro w hw e _;subst e;obtain⟨t',g1,g2,g3,g4⟩:=cS (C:=C) hT hw hx (m:=[d]) (eD.2 ⟨cs,[],rfl,hd,gE.2 rfl⟩) (by simpa using hone) (by simp) (by simp;omega) hn hbase ht
  refine⟨_,t',_,g1,?_,g3,fun c k1 k2=>g4 c (fun e=>k2 (pN.2 e)) k1,fun c hc=>.inr (pN.1 hc)⟩
  rcases g2 with⟨g2,_⟩ | ⟨b,cl,c,e,q1,q2,q3,q4,q5⟩
  ·cases g2
  ·have eb:n=b:=by injection e
   subst eb;exact .inr ⟨_,cl,c,l.length+1,by simp,by simp,by omega,by omega,q1,q2,by simpa using q3,q4,q5⟩
 rcases h with⟨rfl,rfl⟩ | ⟨b,cl,c,cap,rfl,h0,hp,hc4,hbb,h1,h2,h3,h4⟩
 ·exact asLoose (w:=.nilslice) (.inl ⟨rfl,rfl⟩) rfl (.inl rfl)
 ·by_cases hfull:l.length=cap
  ·subst hfull
   exact asLoose (w:=.slice b 0 l.length l.length) (.inr ⟨b,cl,c,rfl,hbb,h1,h2,h3,h4⟩) rfl (.inr ⟨b,rfl⟩)
  ·obtain⟨⟨y,hy1,hy2,hy3⟩,⟨z,hz1,hz2,hz3,hz4,hz5⟩⟩:=hT
   obtain⟨hf,hlen⟩:=hx.first (n:=n)
   have hcl:=h4.length
   have hcs:cs.length=sz:=(hx.len 0 cs (by simp))
   have e1:List.flatten [cs]=cs:=by simp
   rw[e1]at hf;have hne:cs≠[]:=by
    intro e;rw[e]at hcs;simp at hcs;omega
   have key:iD C T T (.slice b 0 l.length cap) x ⟨n,t⟩=some (.slice b 0 (l.length+1) cap,⟨n,t.set b (.cells (c.setMany cs (l.length*sz)) (cap*sz) (some sz))⟩):=by
    unfold iD aM;rw[hy1,sA,sA,hy3];simp only[ybm,dE];rw[hy2,sA,hz1,sA,hlen,sA,hz2,hf,sA];simp only[zA.asSlice];have g1:Nat.ble (l.length+[cs].length) cap=true:=oE.2 (by simp;omega)
    rw[g1,cond_true];unfold uP;obtain⟨a0,r0,hcs0⟩:∃a r,cs=a::r:=by
     cases cs with
     | nil=>exact absurd rfl hne
     | cons a r=>exact⟨a,r,rfl⟩
    have g2:iK C ⟨n,t⟩ b (0+l.length*z.size) cs=some (setBlk ⟨n,t⟩ b (.cells (c.setMany cs (l.length*sz)) (cap*sz) (some sz))):=by
     unfold iK;have q1:(!Nat.blt b C.base)=true:=by
      cases hq:Nat.blt b C.base with
      | true=>have:=oC.1 hq;omega
      | false=>rfl
     rw[q1,dE];unfold rD;rw[h2,sA];simp only[lA.asCells,sA];have q2:Nat.ble (0+l.length*z.size+wB cs) (cap*sz)=true:=oE.2 (by
      rw[fD,hcs,hz2];have:=yaj sz (show l.length+1<=cap by omega)
      rw[yap]at this;omega)
     have q3:pB zA.one cs=true:=by rw[mF];exact ybc.2 hone
     rw[q2,q3,hz2,yax];rfl
    rw[hcs0]at g2 ⊢
    simp only[];rw[g2,sA];rfl
   refine⟨_,_,_,key,.inr ⟨b,cl++[cs],c.setMany cs (l.length*sz),cap,by simp,by simp;omega,hp,hc4,hbb,h1,by rw[Tr.get_set,if_pos rfl],fun i cs' hi=>?_,mC.app h4 (eD.2 ⟨cs,[],rfl,hd,gE.2 rfl⟩)⟩,fun k u hk=>?_,fun k k1 k2=>?_,fun k hk=>.inl (pN.2 (pN.1 hk))⟩
   ·rw[List.getElem?_append]at hi
    split at hi
    ·rename_i hlt
     obtain⟨k1,k2⟩:=h3 i cs' hi
     refine⟨k1,fun j a hj=>?_⟩
     have hjl:j<sz:=by rw[<- k1];exact(yad.1 hj).1
     have:i*sz+j<l.length*sz:=by
      have:=yaj sz (show i+1<=l.length by omega)
      rw[yap]at this;omega
     rw[Tr.get_setMany,if_neg (by omega)]
     exact k2 j a hj
    ·rename_i hge
     have hi0:i-cl.length=0:=by
      cases hz:i-cl.length with
      | zero=>rfl
      | succ m=>rw[hz]at hi;simp at hi
     rw[hi0]at hi;have hi:cs=cs':=by simpa using hi
     subst hi;refine⟨hcs,fun j a hj=>?_⟩
     have hjl:j<sz:=by rw[<- hcs];exact(yad.1 hj).1
     have:i=l.length:=by omega
     subst this;rw[Tr.get_setMany,if_pos (by omega),show l.length*sz+j-l.length*sz=j by omega]
     exact hj
   ·have h5:k≠b:=by intro e;rw[e,h1]at hk;cases hk
    rw[Tr.get_set,if_neg h5];exact ht _ _ hk
   ·rw[Tr.get_set,if_neg (fun e=>k1 (pN.2 e))]
theorem Buf.set{T el S:Nat}{agg:Bool}{y:wD}(hT:rE C T el sz agg)(hS:C.tys.get S=some y)(h:Buf C.base tf t sz l v){i:Nat}(hi:i<l.length){w:zA}{d:D}(hw:w.cells.length=sz)(hy:y.size=sz)(hone:pB zA.one w.cells=true)(hd:RD tf d w.cells)(ht:dA tf t) :
  ∃p o t',xB C T v (.int .i64 (i:Int))=some (.ptr p o)/\(∀n,lD C S (.ptr p o) w ⟨n,t⟩=some (tE,⟨n,t'⟩))/\Buf C.base tf t' sz (l.set i d) v/\dA tf t'/\(∀c,¬ pJ v c->t'.get c=t.get c):=by
 rcases h with⟨rfl,rfl⟩ | ⟨b,cl,c,cap,rfl,h0,hp,hc4,hbb,h1,h2,h3,h4⟩
 ·simp at hi
 ·have hcl:=h4.length
  refine⟨b,0+i*sz,t.set b (.cells (c.setMany w.cells (i*sz)) (cap*sz) (some sz)),dL hT hi,fun n=>?_,.inr ⟨b,cl.set i w.cells,c.setMany w.cells (i*sz),cap,by simp,by simpa using h0,hp,hc4,hbb,h1,by rw[Tr.get_set,if_pos rfl],fun j cs hj=>?_,h4.set hd⟩,fun k u hk=>?_,fun k hk=>?_⟩
  ·unfold lD
   rw[hS,sA];simp only[zA.asPtr,sA];have q0:Nat.beq (wB w.cells) y.size=true:=by rw[fD,hw,hy];exact wC.2 rfl
   rw[q0,dE];unfold iK;have q1:(!Nat.blt b C.base)=true:=by
    cases hq:Nat.blt b C.base with
    | true=>have:=oC.1 hq;omega
    | false=>rfl
   rw[q1,dE];unfold rD;rw[h2,sA];simp only[lA.asCells,sA];have q2:Nat.ble (0+i*sz+wB w.cells) (cap*sz)=true:=oE.2 (by
    rw[fD,hw];have:=yaj sz (show i+1<=cap by omega)
    rw[yap]at this;omega)
   rw[q2,hone,yax];rfl
  ·rw[ybx]at hj
   split at hj
   ·rename_i e
    subst e;split at hj
    ·cases hj
     refine⟨hw,fun k a hk=>?_⟩
     have hkl:k<sz:=by rw[<- hw];exact(yad.1 hk).1
     rw[Tr.get_setMany,if_pos (by omega),show i*sz+k-i*sz=k by omega]
     exact hk
    ·cases hj
   ·rename_i hne
    obtain⟨k1,k2⟩:=h3 j cs hj
    refine⟨k1,fun k a hk=>?_⟩
    have hkl:k<sz:=by rw[<- k1];exact(yad.1 hk).1
    have:¬ (i*sz<=j*sz+k/\j*sz+k<i*sz+w.cells.length):=by
     rw[hw];rcases Nat.lt_or_gt_of_ne hne with hlt | hlt
     ·have:=yaj sz (show i+1<=j by omega)
      rw[yap]at this;omega
     ·have:=yaj sz (show j+1<=i by omega)
      rw[yap]at this;omega
    rw[Tr.get_setMany,if_neg this];exact k2 k a hk
  ·have h5:k≠b:=by intro e;rw[e,h1]at hk;cases hk
   rw[Tr.get_set,if_neg h5];exact ht _ _ hk
  ·rw[Tr.get_set,if_neg (fun e=>hk (pN.2 e))]
theorem zms{T el:Nat}(hT:eI C T el sz){x:zA}(hx:fG t sz x []){n:Nat}:iD C T T .nilslice x ⟨n,t⟩=some (.nilslice,⟨n,t⟩):=by
 obtain⟨⟨y,hy1,hy2,hy3⟩,⟨z,hz1,hz2,hz3,hz4,hz5⟩⟩:=hT
 obtain⟨hf,hlen⟩:=hx.first (n:=n)
 unfold iD aM;rw[hy1,sA,sA,hy3];simp only[ybm,dE];rw[hy2,sA,hz1,sA,hlen,sA,hz2,hf,sA];rfl
end
end Go.Am
namespace Go.Proofs
open Go Go.Am
variable [cC]
variable {t tf:Tr lA}
theorem zct{op:Nat}{name:List Nat}{v:zB}{args:List uA}{a b c:zA}(ha:oA t 1 (lC v.f.n.limbs) a)(hb:oA t 1 (lC v.f.d.limbs) b)(hc:oA t 9 (args.map uA.d) c):RD t (uA.mk op name v args).d (jC (.mk op name v args) a b c):=by
 unfold uA.d jC;rw[gI,uA.ds_eq];refine⟨[[.int .u8 op],[.str name],[.int .u8 v.kind,.bool v.f.n.neg,a,.bool v.f.d.neg,b,.int .i64 v.i],[c]],rfl,?_⟩
 rw[eD];refine⟨_,_,rfl,rfl,?_⟩
 rw[eD];refine⟨_,_,rfl,rfl,?_⟩
 rw[eD];refine⟨_,_,rfl,vS ha hb,?_⟩
 rw[eD];exact⟨_,_,rfl,uK.2 ⟨_,rfl,hc⟩,gE.2 rfl⟩
theorem vU{b:Nat}:uC yA 118 0 (.ptr b 0)=some (.ptr b 0):=by kernel_rfl
theorem zg6{b:Nat}:uC yA 118 1 (.ptr b 0)=some (.ptr b 8):=by kernel_rfl
structure Rdr (tf:Tr lA) (rb:Nat) (names:List (List Nat)) (consts:List zB) (code:List XIns):Prop where
 box:∃nm a b c vn vc vw vt v1,vD tf rb none [.str nm,a,b,c,vn,vc,vw,vt,v1]/\oA tf 1 (names.map D.str) vn/\oA tf 6 (consts.map zB.d) vc/\oA tf 3 (code.map XIns.d) v1
 short:∀v∈consts,zB.mid v
 sound:∀i x,code[i]?=some x->tG names.length consts.length x i code.length=true
 len:code.length<=1000
 glob:dJ tf
 zero:∃c n,tf.get 0=some (.cells c n none)
section
variable {rb:Nat}{names:List (List Nat)}{consts:List zB}{code:List XIns}{L:List zD}{Q:kB}
theorem vD.mono{b:Nat}{lo:Option Nat}{cs:List zA}(h:vD tf b lo cs)(ht:dA tf t):vD t b lo cs:=by
 obtain⟨c,h1,h2⟩:=h;exact⟨c,ht _ _ h1,h2⟩
theorem Rdr.mono{tf':Tr lA}(h:Rdr tf rb names consts code)(ht:dA tf tf'):Rdr tf' rb names consts code:=by
 obtain⟨nm,a,b,c,vn,vc,vw,vt,v1,h1,h2,h3,h4⟩:=h.box
 obtain⟨cz,nz,hz⟩:=h.zero
 exact⟨⟨nm,a,b,c,vn,vc,vw,vt,v1,vD.mono h1 ht,h2.mono ht,h3.mono ht,h4.mono ht⟩,h.short,h.sound,h.len,h.glob.mono ht,⟨cz,nz,ht _ _ hz⟩⟩
theorem zub(h:Rdr tf rb names consts code)(ho:Objs yA.base tf t L){i:Nat}{x:XIns}(hx:code[i]?=some x)(hj:¬ (x.op=9\/x.op=10\/x.op=11))(h12:x.op≠12)
  (hQ:∀tf' t' a b,dA tf tf'->Objs yA.base tf' t' L->oA tf' 1 (lC (dF names consts x []).v.f.n.limbs) a->oA tf' 1 (lC (dF names consts x []).v.f.d.limbs) b->Q (.agg (jC (dF names consts x []) a b .nilslice)) t') :
  Wc yA F 114 [.ptr rb 0,.agg [.int .u8 (x.op:Int),.int .i64 x.a,.int .i64 x.b]] t Q:=by
 obtain⟨nm,a,b,c,vn,vc,vw,vt,v1,h1,h2,h3,h4⟩:=h.box
 have h1t:=vD.mono h1 ho.tle
 have hs:=h.sound i x hx
 have ldc:jA yA 31 ⟨0,t⟩ (.ptr rb 5)=some vc:=h1t.load1 z2f rfl rfl
 have ldn:jA yA 30 ⟨0,t⟩ (.ptr rb 4)=some vn:=h1t.load1 z4k rfl rfl
 obtain⟨op,xa,xb⟩:=x
 have named:∀ {k:Nat},(0<=xa/\xa<(names.length:Int))->∃p o s,xB yA 30 vn (.int .i64 xa)=some (.ptr p o)/\jA yA 9 ⟨0,t⟩ (.ptr p o)=some (.str s)/\names.getD xa.toNat []=s:=by
  intro _ hr;obtain⟨j,rfl⟩:∃j:Nat,xa=(j:Int):=⟨xa.toNat,by omega⟩
  have hj:j<names.length:=by omega
  obtain⟨p,o,cs,g1,g2,_,_,g5⟩:=rE.at sl30 (fun _=>rfl) (h2.mono ho.tle) (i:=j) (d:=.str names[j]) (by simp[hj])
  rw[qO]at g5;subst g5;exact⟨p,o,names[j],g1,g2,by simp[List.getD,hj]⟩
 have zn:∀ {tf:Tr lA},oA tf 1 (lC gH.f.n.limbs) .nilslice:=fun {tf}=>yM
 refine w114 _ _ _ _ ?_
 simp only[t114,qA];rw[zJ];by_cases e1:op=1
 ·subst e1
  unfold tG at hs;simp only[if_true,yac,decide_eq_true_eq]at hs;obtain⟨⟨hs1,hs2⟩,hs3⟩:=hs
  obtain⟨j,rfl⟩:∃j:Nat,xa=(j:Int):=⟨xa.toNat,by omega⟩
  have hjl:j<consts.length:=by omega
  have hcj:consts[j]?=some consts[j]:=yae hjl
  obtain⟨p,o,u,w,g1,g2,g3,g4,g5⟩:=zm4 (h3.mono ho.tle) hcj
  obtain⟨p',o',u',w',k1,k2,_,k4,k5⟩:=zm4 h3 hcj
  have e:p=p'/\o=o':=by rw[g1]at k1;cases k1;exact⟨rfl,rfl⟩
  obtain⟨rfl,rfl⟩:=e
  have e2:=fP (H:=⟨0,tf⟩) (HA:=⟨0,t⟩) (fun _ _ k=>ho.tle _ _ k) k2
  rw[g2]at e2;have e3:u=u'/\w=w':=by cases e2;exact⟨rfl,rfl⟩
  obtain⟨rfl,rfl⟩:=e3
  refine aA (by decide) ?_
  rw[xA,vU,xA,zde,xA,ldc,xA,g1,xA,g2,xA,g3,xA];simp only[cellsOf,bF,lF,sF,iG,yaa,yab];rw[q102];refine zme ho (h.short _ (ybk hjl)) k4 k5 fun tf' t' a' b' m1 m2 m3 m4=>?_
  have hz:wG [(.int .u8 0),(.bool false),.nilslice,(.bool false),.nilslice,(.int .i64 0)] (.agg [.int .u8 consts[j].kind,.bool consts[j].f.n.neg,a',.bool consts[j].f.d.neg,b',.int .i64 consts[j].i])=some (cellsOf [.int .u8 consts[j].kind,.bool consts[j].f.n.neg,a',.bool consts[j].f.d.neg,b',.int .i64 consts[j].i]):=pI (vS m3 m4) (zB.zs _)
  rw[hz,xA];simp only[cellsOf,bF,lF,sF,iG,yaa,yab];have hone:pB zA.one [(.int .u8 1),(.str []),(.int .u8 consts[j].kind),(.bool consts[j].f.n.neg),a',(.bool consts[j].f.d.neg),b',(.int .i64 consts[j].i),.nilslice]=true:=by
   rw[mF];simp only[ybh,ybl,m3.one,m4.one];rfl
  refine aA (by trivial) (aA hone ?_)
  have es:dF names consts ⟨1,(j:Int),xb⟩ []=.mk 1 [] consts[j] []:=by
   unfold dF;simp[List.getD,hjl]
  rw[es]at hQ;exact hQ tf' t' a' b' m1 m2 m3 m4
 refine qC (gF (by omega)) ?_
 by_cases e3:op=3\/op=4\/op=5
 ·have hr:0<=xa/\xa<(names.length:Int):=by
   unfold tG at hs;rw[if_neg e1,if_pos e3]at hs;simp only[yac,decide_eq_true_eq]at hs;exact hs.1
  obtain⟨p,o,s,g1,g2,g3⟩:=named (k:=0) hr
  have es:dF names consts ⟨op,xa,xb⟩ []=.mk op s gH []:=by
   unfold dF;simp only[];rw[if_neg e1,if_pos (by omega),g3]
  rw[es]at hQ;have fC:=hQ tf t .nilslice .nilslice (dA.refl _) ho zn zn
  rcases e3 with e3 | e3 | e3<;>subst e3
  ·refine aA (by decide) ?_
   rw[xA,vU,xA,zdf,xA,ldn,xA,g1,xA,g2,xA,qI,xA];exact aA (by trivial) (aA (by trivial) fC)
  ·refine qC (by decide) (aA (by decide) ?_)
   rw[xA,vU,xA,zdf,xA,ldn,xA,g1,xA,g2,xA,qI,xA];exact aA (by trivial) (aA (by trivial) fC)
  ·refine qC (by decide) (qC (by decide) (aA (by decide) ?_))
   rw[xA,vU,xA,zdf,xA,ldn,xA,g1,xA,g2,xA,qI,xA];exact aA (by trivial) (aA (by trivial) fC)
 refine qC (gF (by omega)) (qC (gF (by omega)) (qC (gF (by omega)) ?_))
 by_cases e6:op=6
 ·subst e6
  have hr:0<=xa/\xa<(names.length:Int):=by
   unfold tG at hs;rw[if_neg e1,if_neg (by show ¬ ((6:Nat)=3\/(6:Nat)=4\/(6:Nat)=5);decide),if_pos rfl]at hs
   simp only[yac,decide_eq_true_eq]at hs;exact hs.1
  obtain⟨p,o,s,g1,g2,g3⟩:=named (k:=0) hr
  have es:dF names consts ⟨6,xa,xb⟩ []=.mk 6 s gH []:=by
   unfold dF;simp only[];rw[if_neg e1,if_pos (by decide),g3]
  rw[es]at hQ;refine aA (by decide) ?_
  rw[xA,vU,xA,zdf,xA,ldn,xA,g1,xA,g2,xA,qI,xA];exact aA (by trivial) (aA (by trivial) (hQ tf t .nilslice .nilslice (dA.refl _) ho zn zn))
 refine qC (gF (by omega)) ?_
 by_cases e8:op=8
 ·subst e8
  have hr:0<=xa/\xa<(names.length:Int):=by
   unfold tG at hs;rw[if_neg e1,if_neg (by show ¬ ((8:Nat)=3\/(8:Nat)=4\/(8:Nat)=5);decide),if_neg (by show ¬ ((8:Nat)=6);decide),if_pos rfl]at hs
   simp only[yac,decide_eq_true_eq]at hs;exact hs.1
  obtain⟨p,o,s,g1,g2,g3⟩:=named (k:=0) hr
  have es:dF names consts ⟨8,xa,xb⟩ []=.mk (xb%256).toNat s gH []:=by
   unfold dF;simp only[];rw[if_neg e1,if_neg (by omega),if_pos trivial,g3]
  rw[es]at hQ;refine aA (by decide) ?_
  rw[xA,vU,xA,zdf,xA,ldn,xA,g1,xA,g2,xA,qI,xA,zba];exact aA (by trivial) (aA (by trivial) (hQ tf t .nilslice .nilslice (dA.refl _) ho zn zn))
 refine qC (gF (by omega)) ?_
 by_cases e7:op=7
 ·subst e7
  have es:dF names consts ⟨7,xa,xb⟩ []=.mk (xa%256).toNat [] ⟨0,zry,xb⟩ []:=by
   unfold dF;simp only[];rw[if_neg e1,if_neg (by omega),if_neg e8,if_pos trivial]
  rw[es]at hQ;rw[zba];exact aA (by decide) (aA (by trivial) (aA (by trivial) (aA (by trivial) (hQ tf t .nilslice .nilslice (dA.refl _) ho yM yM))))
 have es:dF names consts ⟨op,xa,xb⟩ []=.mk 2 [] gH []:=by
  unfold dF;simp only[];rw[if_neg e1,if_neg (by omega),if_neg e8,if_neg e7]
 rw[es]at hQ;exact qC (gF (by omega)) (aA (by trivial) (aA (by trivial) (hQ tf t .nilslice .nilslice (dA.refl _) ho zn zn)))
end
end Go.Proofs
namespace Go.Proofs
open Go Go.Am
variable [cC]
variable {t tf:Tr lA}
theorem el48:eI yA 48 50 9:=⟨⟨_,ty48,rfl,rfl⟩,⟨_,zsq,rfl,rfl,by decide,by decide⟩⟩
theorem zvz{n:Nat}{x:uA}{a b c:zA}(hn:t.get n=none):∃t',fE yA 48 1 [(0,.agg (jC x a b c))] ⟨n,t⟩=some (.slice n 0 1 1,⟨n+1,t'⟩)/\fG t' 9 (.slice n 0 1 1) [jC x a b c]/\dA t t'/\oD n t t':=
 bO (C:=yA) (T:=48) (el:=50) (sz:=9) (n:=1) (cl:=[jC x a b c]) ty48 rfl zsq rfl rfl (by decide) rfl (fun k cs hk=>by
  match k,hk with
  | 0,hk=>simp at hk;subst hk;rfl
  | k+1,hk=>simp at hk) rfl hn
theorem zvy{n:Nat}{x y:uA}{a b c a' b' c':zA}(hn:t.get n=none):∃t',fE yA 48 2 [(0,.agg (jC x a b c)),(1,.agg (jC y a' b' c'))] ⟨n,t⟩=some (.slice n 0 2 2,⟨n+1,t'⟩)/\fG t' 9 (.slice n 0 2 2) [jC x a b c,jC y a' b' c']/\dA t t'/\oD n t t':=
 bO (C:=yA) (T:=48) (el:=50) (sz:=9) (n:=2) (cl:=[jC x a b c,jC y a' b' c']) ty48 rfl zsq rfl rfl (by decide) rfl (fun k cs hk=>by
  match k,hk with
  | 0,hk=>simp at hk;subst hk;rfl
  | 1,hk=>simp at hk;subst hk;rfl
  | k+2,hk=>simp at hk) rfl hn
theorem zvx{n:Nat}{x y z:uA}{a b c a' b' c' a'' b'' c'':zA}(hn:t.get n=none):∃t',fE yA 48 3 [(0,.agg (jC x a b c)),(1,.agg (jC y a' b' c')),(2,.agg (jC z a'' b'' c''))] ⟨n,t⟩=some (.slice n 0 3 3,⟨n+1,t'⟩)/\fG t' 9 (.slice n 0 3 3) [jC x a b c,jC y a' b' c',jC z a'' b'' c'']/\dA t t'/\oD n t t':=
 bO (C:=yA) (T:=48) (el:=50) (sz:=9) (n:=3) (cl:=[jC x a b c,jC y a' b' c',jC z a'' b'' c'']) ty48 rfl zsq rfl rfl (by decide) rfl (fun k cs hk=>by
  match k,hk with
  | 0,hk=>simp at hk;subst hk;rfl
  | 1,hk=>simp at hk;subst hk;rfl
  | 2,hk=>simp at hk;subst hk;rfl
  | k+3,hk=>simp at hk) rfl hn
theorem zjg{L:List zD}{n k:Nat}{t':Tr lA}{l:List uA}{cl:List (List zA)}(ho:Objs yA.base tf t L)(hn:t.get n=none)(he:fG t' 9 (.slice n 0 k k) cl)(hof:oD n t t')(hd:mC tf (l.map uA.d) cl) :
  ∃tf',dA tf tf'/\Objs yA.base tf' t' L/\oA tf' 9 (l.map uA.d) (.slice n 0 k k):=by
 have h1:=ho.junk hn hof
 obtain⟨y,hy⟩:∃y,t'.get n=some y:=by
  rcases he with⟨e,_⟩ | ⟨b,off,cap,e,_,⟨c,m,lo,h2,_⟩,_⟩
  ·cases e
  ·have eb:n=b:=by injection e
   subst eb;exact⟨_,h2⟩
 obtain⟨k1,k2⟩:=h1.froze (ho.fresh hn) hy (ho.tfn hn)
 exact⟨_,k2,k1,_,zl9 he hy,mC.mono k2 _ _ hd⟩
section
variable {rb:Nat}{names:List (List Nat)}{consts:List zB}{code:List XIns}{L:List zD}{Q:kB}
def zyr(L:List zD)(tf:Tr lA)(r:Option uA)(Q:kB):Prop:=
 (∀x tf' t' cs,r=some x->dA tf tf'->Objs yA.base tf' t' L->RD tf' x.d cs->Q (.tup [.agg cs,.bool true]) t') ∧
 (r=none->∀tf' t',dA tf tf'->Objs yA.base tf' t' L->Q (.tup [.agg qF,.bool false]) t')
theorem zyr.mono{r:Option uA}{tf':Tr lA}(h:zyr L tf r Q)(ht:dA tf tf'):zyr L tf' r Q:=
 ⟨fun x a b cs e k1 k2 k3=>h.1 x a b cs e (ht.trans k1) k2 k3,fun e a b k1 k2=>h.2 e a b (ht.trans k1) k2⟩
def z7t(L:List zD)(tf:Tr lA)(r:Option (uA × Nat))(Q:kB):Prop:=
 (∀x (n:Nat) tf' t' cs,r=some (x,n)->dA tf tf'->Objs yA.base tf' t' L->RD tf' x.d cs->Q (.tup [.agg cs,.int .i64 (n:Int),.bool true]) t') ∧
 (r=none->∀x (n:Int) tf' t' cs,dA tf tf'->Objs yA.base tf' t' L->RD tf' (uA.d x) cs->Q (.tup [.agg cs,.int .i64 n,.bool false]) t')
def zmz(rb:Nat)(names:List (List Nat))(consts:List zB)(code:List XIns)(f:Nat):Prop:=
 ∀(L:List zD) (tf t:Tr lA) (i to:Nat) (Q:kB),Rdr tf rb names consts code->Objs yA.base tf t L->to<=code.length->to-i<f->zyr L tf (zqk (nI names consts code zM f i to [])) Q->Wc yA F 59 [.ptr rb 0,.int .i64 (i:Int),.int .i64 (to:Int)] t Q
theorem mL{x:uA}{cs:List zA}(h:RD t x.d cs):∃a b c,cs=jC x a b c/\wG qF (.agg cs)=some (cellsOf cs)/\pB zA.one cs=true:=zq7 h
theorem z34{f:Nat}(hP:zmz rb names consts code f)(hr:Rdr tf rb names consts code)(ho:Objs yA.base tf t L){x0:uA}{a0 b0 c0:zA}(hx0:RD tf x0.d (jC x0 a0 b0 c0)){at_ T to opn:Nat}{E tr:Int}{last:XIns}(hT:code[T]?=some last)(hT2:at_+2<=T)(hTt:T<to)(hto:to<=code.length)(hf:to-at_<f+1)(htr:tr=0\/tr=1)
  (hE0:0<=E)
  (hQ:z7t L tf (match zqk (nI names consts code zM f (at_+1) (T-2) [])with
   | none=>none
   | some y=>if E=(T:Int)+1/\last.op=1/\zM (consts.getD last.a.toNat gH) (yG tr)=true then some (.mk opn [] gH [x0,y],E.toNat)else none) Q) :
  jp 113 29 [.ptr rb 0,.int .i64 (at_:Int),.int .i64 (T:Int),.int .i64 E,.int .u8 (opn:Int),.int .u8 x0.op,.str x0.name,.int .u8 x0.v.kind,.bool x0.v.f.n.neg,a0,.bool x0.v.f.d.neg,b0,.int .i64 x0.v.i,c0,
   .int .u8 0,.str [],.int .u8 0,.bool false,.nilslice,.bool false,.nilslice,.int .i64 0,.nilslice,.int .u8 1,.bool false,.nilslice,.bool false,.nilslice,.int .i64 tr] t Q:=by
 obtain⟨nm,a,b,c,vn,vc,vw,vt,v1,h1,h2,h3,h4⟩:=hr.box
 have hTl:T<code.length:=(yad.1 hT).1
 have hlen:=hr.len
 have h1t:=vD.mono h1 ho.tle
 have ld1:jA yA 37 ⟨0,t⟩ (.ptr rb 8)=some v1:=h1t.load1 zrr rfl rfl
 obtain⟨p,off,g1,g2,_⟩:=zc5 (h4.mono ho.tle) hT
 have hz:wG [(.int .u8 0),(.int .i64 0),(.int .i64 0)] (.agg last.cells)=some (cellsOf last.cells):=gL rfl
 refine z58 _ _ _ _ _ _ _ _ _ _ _ _ _ _ _ _ _ _ _ _ _ _ _ _ _ _ _ _ _ ?_
 simp only[ztw,qA];rw[zJ,xA,zg6,xA,ld1,xA,g1,xA,g2,xA,hz,xA];simp only[XIns.cells,cellsOf,bF,yaa,yab];refine aA (by trivial) ?_
 rw[zC (n:=(at_:Int)+1) (by omega) (by omega),zC (n:=(T:Int)-2) (by omega) (by omega),show(at_:Int)+1=((at_+1:Nat):Int) by omega,show(T:Int)-2=((T-2:Nat):Int) by omega,q59]
 have fC:∀ {tf1 t1:Tr lA} {y:uA} {a1 b1 c1:zA} {ok:Bool},dA tf tf1->Objs yA.base tf1 t1 L->RD tf1 y.d (jC y a1 b1 c1) →
   (∀tf' t' v,dA tf tf'->Objs yA.base tf' t' L->RD tf' (uA.mk opn [] gH [x0,y]).d [.int .u8 opn,.str [],.int .u8 0,.bool false,.nilslice,.bool false,.nilslice,.int .i64 0,v]->Q (.tup [.agg [.int .u8 opn,.str [],.int .u8 0,.bool false,.nilslice,.bool false,.nilslice,.int .i64 0,v],.int .i64 E,.bool ok]) t') →
   ∀n,t1.get n=none->yA.base<=n->sG (fE yA 48 2 [(0,.agg [.int .u8 x0.op,.str x0.name,.int .u8 x0.v.kind,.bool x0.v.f.n.neg,a0,.bool x0.v.f.d.neg,b0,.int .i64 x0.v.i,c0]),(1,.agg [.int .u8 y.op,.str y.name,.int .u8 y.v.kind,.bool y.v.f.n.neg,a1,.bool y.v.f.d.neg,b1,.int .i64 y.v.i,c1])] ⟨n,t1⟩) fun p=>if pB zA.one [.int .u8 opn,p.1]=true then(if pB zA.one [.int .u8 opn,.str [],.int .u8 0,.bool false,.nilslice,.bool false,.nilslice,.int .i64 0,p.1]=true then Q (.tup [.agg [.int .u8 opn,.str [],.int .u8 0,.bool false,.nilslice,.bool false,.nilslice,.int .i64 0,p.1],.int .i64 E,.bool ok]) p.2.t else False)else False:=by
  intro tf1 t1 y a1 b1 c1 ok k1 k2 k3 kQ n hn hnb;obtain⟨t2,m1,m2,m3,m4⟩:=zvy (x:=x0) (y:=y) (a:=a0) (b:=b0) (c:=c0) (a':=a1) (b':=b1) (c':=c1) hn
  unfold jC at m1;rw[m1,xA];refine aA rfl (aA rfl ?_)
  obtain⟨tf2,w1,w2,w3⟩:=zjg (l:=[x0,y]) k2 hn m2 m4 (by
   rw[ybn,ybn,List.map_nil,eD];exact⟨_,_,rfl,RD.mono k1 _ _ hx0,eD.2 ⟨_,_,rfl,k3,gE.2 rfl⟩⟩)
  exact kQ tf2 t2 _ (k1.trans w1) w2 (zct (v:=gH) yM yM w3)
 refine hP L tf t (at_+1) (T-2) _ hr ho (by omega) (by omega) ⟨fun y tf1 t1 cs e k1 k2 k3=>?_,fun e tf1 t1 k1 k2=>?_⟩
 ·rw[e]at hQ
  obtain⟨a1,b1,c1,rfl,hz1,hone1⟩:=mL k3
  simp only[bB,zA.asTup,sA,bD,yaa,yab,xA,pD];unfold qF at hz1;rw[hz1,xA];simp only[jC,cellsOf,bF,lF,sF,iG,yaa,yab];refine aA hone1 (aA (by trivial) ?_)
  have bad:(¬ (E=(T:Int)+1/\last.op=1/\zM (consts.getD last.a.toNat gH) (yG tr)=true))->∀tf' t' v,dA tf tf'->Objs yA.base tf' t' L->RD tf' (uA.mk opn [] gH [x0,y]).d [.int .u8 opn,.str [],.int .u8 0,.bool false,.nilslice,.bool false,.nilslice,.int .i64 0,v]->Q (.tup [.agg [.int .u8 opn,.str [],.int .u8 0,.bool false,.nilslice,.bool false,.nilslice,.int .i64 0,v],.int .i64 E,.bool false]) t':=by
   intro hb tf' t' v w1 w2 w3;exact hQ.2 (by simp only[];rw[if_neg hb]) _ _ tf' t' _ w1 w2 w3
  rw[zC (n:=(T:Int)+1) (by omega) (by omega)]
  by_cases hEE:E=(T:Int)+1
  ·refine aA (jE.2 hEE) ?_
   by_cases hl1:last.op=1
   ·refine aA (jE.2 (by omega)) ?_
    have hs:=hr.sound T last hT
    unfold tG at hs;rw[if_pos hl1]at hs;simp only[yac,decide_eq_true_eq]at hs;obtain⟨j,hj⟩:∃j:Nat,last.a=(j:Int):=⟨last.a.toNat,by omega⟩
    have hjl:j<consts.length:=by omega
    have hcj:consts[j]?=some consts[j]:=yae hjl
    have ld5:jA yA 31 ⟨0,t1⟩ (.ptr rb 5)=some vc:=(vD.mono h1 (k1.trans k2.tle)).load1 z2f rfl rfl
    obtain⟨q,o,u,w,d1,d2,d3,d4,d5⟩:=zm4 (h3.mono (k1.trans k2.tle)) hcj
    have hz2:oA t1 1 (lC (yG tr).f.n.limbs) .nilslice:=yM
    have hok:uF.ok consts[j].f:=by
     have:=hr.short _ (ybk hjl)
     unfold zB.mid at this;unfold uF.ok xE;omega
    have hsv:=zzv (b:=yG tr) d4 d5 hz2 hz2 hok
    rw[hj]at hQ bad ⊢
    rw[vU,xA,zde,xA,ld5,xA,d1,xA,d2,xA,d3,xA];simp only[cellsOf,bF,lF,sF,iG,yaa,yab];have hsv':sD yA F 24 [.agg [.int .u8 consts[j].kind,.bool consts[j].f.n.neg,u,.bool consts[j].f.d.neg,w,.int .i64 consts[j].i],.agg [.int .u8 1,.bool false,.nilslice,.bool false,.nilslice,.int .i64 tr]] t1=some (.bool (zM consts[j] (yG tr))):=hsv
    rw[q24,hsv',xA,pD,xA];have hget:consts.getD ((j:Nat):Int).toNat gH=consts[j]:=by simp[List.getD,hjl]
    rw[hget]at hQ bad;refine fC k1 k2 k3 fun tf' t' v w1 w2 w3=>?_
    cases hsame:zM consts[j] (yG tr)with
    | true=>
     have:=hQ.1 (.mk opn [] gH [x0,y]) E.toNat tf' t' _ (by simp only[];rw[if_pos ⟨hEE,hl1,hsame⟩]) w1 w2 w3
     rw[show((E.toNat:Nat):Int)=E by omega]at this
     exact this
    | false=>exact bad (fun h=>by rw[hsame]at h;cases h.2.2) tf' t' v w1 w2 w3
   ·refine qC (gF (by omega)) ?_
    exact fC k1 k2 k3 (bad fun h=>hl1 h.2.1)
  ·refine qC (gF hEE) ?_
   exact fC k1 k2 k3 (bad fun h=>hEE h.1)
 ·rw[e]at hQ
  simp only[bB,zA.asTup,sA,bD,yaa,yab,xA,pD];have k3:RD tf1 cI.d (jC cI .nilslice .nilslice .nilslice):=eO
  obtain⟨a1,b1,c1,e1,hz1,hone1⟩:=mL k3
  have hz1:wG [(.int .u8 0),(.str []),(.int .u8 0),(.bool false),.nilslice,(.bool false),.nilslice,(.int .i64 0),.nilslice] (.agg qF)=some (cellsOf qF):=hz1
  rw[hz1,xA];unfold qF;simp only[cellsOf,bF,lF,sF,iG,yaa,yab];refine aA rfl (qC (by simp) ?_)
  exact fC (y:=cI) (a1:=.nilslice) (b1:=.nilslice) (c1:=.nilslice) k1 k2 k3 fun tf' t' v w1 w2 w3=>hQ.2 rfl _ _ tf' t' _ w1 w2 w3
end
end Go.Proofs
namespace Go.Proofs
open Go Go.Am
variable [cC]
variable {t tf:Tr lA}
section
variable {rb:Nat}{names:List (List Nat)}{consts:List zB}{code:List XIns}{L:List zD}{Q:kB}
theorem zx4{f:Nat}(hP:zmz rb names consts code f)(hr:Rdr tf rb names consts code)(ho:Objs yA.base tf t L){x0:uA}{cs0:List zA}(hx0:RD tf x0.d cs0){at_ to:Nat}{x:XIns}(hx:code[at_]?=some x)(hj:x.op=9\/x.op=10\/x.op=11)(hlt:at_<to)(hto:to<=code.length)(hf:to-at_<f+1)
  (hQ:z7t L tf (rO consts code zM (fun a b=>zqk (nI names consts code zM f a b [])) x0 at_ to) Q) :
  Wc yA F 113 [.ptr rb 0,.agg cs0,.int .i64 (at_:Int),.int .i64 (to:Int)] t Q:=by
 obtain⟨nm,a,b,c,vn,vc,vw,vt,v1,h1,h2,h3,h4⟩:=hr.box
 obtain⟨a0,b0,c0,rfl⟩:∃a b c,cs0=jC x0 a b c:=by obtain⟨a,b,c,h,_⟩:=mL hx0;exact⟨a,b,c,h⟩
 have hlen:=hr.len
 have h1t:=vD.mono h1 ho.tle
 have h4t:=h4.mono ho.tle
 have ld1:jA yA 37 ⟨0,t⟩ (.ptr rb 8)=some v1:=h1t.load1 zrr rfl rfl
 obtain⟨p,off,g1,g2,_⟩:=zc5 h4t hx
 have hz:wG [(.int .u8 0),(.int .i64 0),(.int .i64 0)] (.agg x.cells)=some (cellsOf x.cells):=gL rfl
 have hs:=hr.sound at_ x hx
 obtain⟨hs1,hs2⟩:=fX hs hj
 obtain⟨T,hT⟩:∃T:Nat,x.a=(T:Int):=⟨x.a.toNat,by omega⟩
 have hTn:x.a.toNat=T:=by omega
 unfold rO at hQ;rw[hx]at hQ;simp only[]at hQ;refine w113 _ _ _ _ _ _ _ _ _ _ _ _ ?_
 simp only[t113,qA];rw[zJ,xA,zg6,xA,ld1,xA,g1,xA,g2,xA,hz,xA];simp only[XIns.cells,cellsOf,bF,yaa,yab];refine aA (by trivial) ?_
 have none':∀ {R:Option (uA × Nat)},R=none->z7t L tf R Q->Q (.tup [.agg [(.int .u8 0),(.str []),(.int .u8 0),(.bool false),.nilslice,(.bool false),.nilslice,(.int .i64 0),.nilslice],.int .i64 0,.bool false]) t:=fun e h=>h.2 e cI 0 tf t qF (dA.refl _) ho eO
 by_cases h9:x.op=9
 ·rw[if_pos h9]at hQ
  exact aA (jE.2 (by omega)) (aA (by trivial) (aA (by trivial) (none' rfl hQ)))
 rw[if_neg h9]at hQ;refine qC (gF (by omega)) ?_
 rw[zC (n:=(at_:Int)+2) (by omega) (by omega)]
 by_cases ha:x.a<(at_:Int)+2
 ·rw[if_pos ha]at hQ
  exact aA (dB.2 ha) (aA (by trivial) (aA (by trivial) (none' rfl hQ)))
 rw[if_neg ha]at hQ;refine qC (fun e=>ha (dB.1 e)) ?_
 by_cases hb:(to:Int)<=x.a
 ·rw[if_pos hb]at hQ
  exact aA (nG.2 hb) (aA (by trivial) (aA (by trivial) (none' rfl hQ)))
 rw[if_neg hb]at hQ;refine qC (fun e=>hb (nG.1 e)) ?_
 have hT1:T-1<code.length:=by omega
 have hT2:T-2<code.length:=by omega
 have hT0:T<code.length:=by omega
 have e1:code[T-1]?=some code[T-1]:=yae hT1
 have e2:code[T-2]?=some code[T-2]:=yae hT2
 have e0:code[T]?=some code[T]:=yae hT0
 rw[hTn,e1,e2,e0]at hQ;simp only[]at hQ;obtain⟨q1,o1,r1,_,r3,r4,_,r6,r7,_⟩:=zc5 h4t e1
 obtain⟨q2,o2,u1,_,u3,_,_,u6,_,_⟩:=zc5 h4t e2
 rw[hT]at hQ ⊢
 rw[zC (n:=(T:Int)-1) (by omega) (by omega),show(T:Int)-1=((T-1:Nat):Int) by omega,zC (n:=(T:Int)-2) (by omega) (by omega),show(T:Int)-2=((T-2:Nat):Int) by omega]
 simp only[zJ,zg6,ld1,r1,r3,r6,r4,r7,u1,u3,u6,xA,yB,if_true];by_cases hj9:code[T-1].op=9
 case neg=>
  rw[if_pos hj9]at hQ;exact aA (lI.2 (by omega)) (none' rfl hQ)
 rw[if_neg (by simp[hj9])]at hQ
 refine qC (fun e=>absurd (show((code[T-1].op:Nat):Int)=9 by omega) (lI.1 e)) ?_
 by_cases hE:(to:Int)<code[T-1].a
 ·rw[if_pos hE]at hQ
  exact aA (dB.2 hE) (none' rfl hQ)
 rw[if_neg hE]at hQ;refine qC (fun e=>hE (dB.1 e)) ?_
 have hsE:=fX (hr.sound (T-1) _ e1) (.inl hj9)
 obtain⟨E,hEn⟩:∃E:Nat,code[T-1].a=(E:Int):=⟨code[T-1].a.toNat,by omega⟩
 have hEt:code[T-1].a.toNat=E:=by omega
 rw[hEt,hEn]at hQ;rw[hEn];by_cases h12:code[T-2].op=12
 ·rw[if_pos h12]at hQ
  refine aA (jE.2 (by omega)) ?_
  by_cases h11:x.op=11
  ·simp only[if_pos h11]at hQ
   refine aA (jE.2 (by omega)) ?_
   refine z34 hP hr ho hx0 (at_:=at_) (T:=T) (to:=to) (opn:=16) (E:=(E:Int)) (tr:=1) e0 (by omega) (by omega) hto hf (.inr rfl) (by omega) ?_
   rw[show((E:Nat):Int).toNat=E by omega]
   exact hQ
  ·simp only[if_neg h11]at hQ
   refine qC (gF (by omega)) ?_
   refine z34 hP hr ho hx0 (at_:=at_) (T:=T) (to:=to) (opn:=15) (E:=(E:Int)) (tr:=0) e0 (by omega) (by omega) hto hf (.inl rfl) (by omega) ?_
   rw[show((E:Nat):Int).toNat=E by omega]
   exact hQ
 rw[if_neg h12]at hQ;refine qC (gF (by omega)) ?_
 rw[zC (n:=(at_:Int)+1) (by omega) (by omega),show(at_:Int)+1=((at_+1:Nat):Int) by omega,q59]
 refine hP L tf t (at_+1) (T-1) _ hr ho (by omega) (by omega) ⟨fun y tf1 t1 cs e k1 k2 k3=>?_,fun e tf1 t1 k1 k2=>?_⟩
 ·rw[e]at hQ
  simp only[]at hQ;obtain⟨a1,b1,c1,rfl,hz1,hone1⟩:=mL k3
  simp only[bB,zA.asTup,sA,bD,yaa,yab,xA,pD];unfold qF at hz1;rw[hz1,xA];simp only[jC,cellsOf,bF,lF,sF,iG,yaa,yab];refine aA hone1 (qC (by simp) ?_)
  by_cases h10:x.op=10
  case neg=>
   rw[if_pos h10]at hQ;exact aA (lI.2 (by omega)) (hQ.2 rfl cI 0 tf1 t1 qF k1 k2 eO)
  rw[if_neg (by simp[h10])]at hQ
  refine qC (fun e=>absurd (show(x.op:Int)=10 by omega) (lI.1 e)) ?_
  rw[q59];have fC:∀ {tf2 t2:Tr lA} {z:uA} {a2 b2 c2:zA} {ok:Bool},dA tf1 tf2->Objs yA.base tf2 t2 L->RD tf2 z.d (jC z a2 b2 c2) →
    (∀tf' t' v,dA tf tf'->Objs yA.base tf' t' L->RD tf' (uA.mk 18 [] gH [x0,y,z]).d [.int .u8 18,.str [],.int .u8 0,.bool false,.nilslice,.bool false,.nilslice,.int .i64 0,v]->Q (.tup [.agg [.int .u8 18,.str [],.int .u8 0,.bool false,.nilslice,.bool false,.nilslice,.int .i64 0,v],.int .i64 (E:Int),.bool ok]) t') →
    ∀n,t2.get n=none->yA.base<=n->sG (fE yA 48 3 [(0,.agg [.int .u8 x0.op,.str x0.name,.int .u8 x0.v.kind,.bool x0.v.f.n.neg,a0,.bool x0.v.f.d.neg,b0,.int .i64 x0.v.i,c0]),(1,.agg [.int .u8 y.op,.str y.name,.int .u8 y.v.kind,.bool y.v.f.n.neg,a1,.bool y.v.f.d.neg,b1,.int .i64 y.v.i,c1]),(2,.agg [.int .u8 z.op,.str z.name,.int .u8 z.v.kind,.bool z.v.f.n.neg,a2,.bool z.v.f.d.neg,b2,.int .i64 z.v.i,c2])] ⟨n,t2⟩) fun p=>if pB zA.one [.int .u8 18,p.1]=true then(if pB zA.one [.int .u8 18,.str [],.int .u8 0,.bool false,.nilslice,.bool false,.nilslice,.int .i64 0,p.1]=true then Q (.tup [.agg [.int .u8 18,.str [],.int .u8 0,.bool false,.nilslice,.bool false,.nilslice,.int .i64 0,p.1],.int .i64 (E:Int),.bool ok]) p.2.t else False)else False:=by
   intro tf2 t2 z a2 b2 c2 ok w1 w2 w3 kQ n hn hnb;obtain⟨t3,m1,m2,m3,m4⟩:=zvx (x:=x0) (y:=y) (z:=z) (a:=a0) (b:=b0) (c:=c0) (a':=a1) (b':=b1) (c':=c1) (a'':=a2) (b'':=b2) (c'':=c2) hn
   unfold jC at m1;rw[m1,xA];refine aA rfl (aA rfl ?_)
   obtain⟨tf3,d1,d2,d3⟩:=zjg (l:=[x0,y,z]) w2 hn m2 m4 (by
    rw[ybn,ybn,ybn,List.map_nil,eD];exact⟨_,_,rfl,RD.mono (k1.trans w1) _ _ hx0,eD.2 ⟨_,_,rfl,RD.mono w1 _ _ k3,eD.2 ⟨_,_,rfl,w3,gE.2 rfl⟩⟩⟩)
   exact kQ tf3 t3 _ (k1.trans (w1.trans d1)) d2 (zct (v:=gH) yM yM d3)
  refine hP L tf1 t1 T E _ (hr.mono k1) k2 (by omega) (by omega) ⟨fun z tf2 t2 cs e w1 w2 w3=>?_,fun e tf2 t2 w1 w2=>?_⟩
  ·rw[e]at hQ
   simp only[]at hQ;obtain⟨a2,b2,c2,rfl,hz2,hone2⟩:=mL w3
   simp only[bB,zA.asTup,sA,bD,yaa,yab,xA,pD];unfold qF at hz2;rw[hz2,xA];simp only[jC,cellsOf,bF,lF,sF,iG,yaa,yab];refine aA hone2 ?_
   exact fC w1 w2 w3 fun tf' t' v d1 d2 d3=>hQ.1 _ E tf' t' _ rfl d1 d2 d3
  ·rw[e]at hQ
   simp only[]at hQ;simp only[bB,zA.asTup,sA,bD,yaa,yab,xA,pD];have k3':RD tf2 cI.d (jC cI .nilslice .nilslice .nilslice):=eO
   obtain⟨a2,b2,c2,e1,hz2,hone2⟩:=mL k3'
   have hz2:wG [(.int .u8 0),(.str []),(.int .u8 0),(.bool false),.nilslice,(.bool false),.nilslice,(.int .i64 0),.nilslice] (.agg qF)=some (cellsOf qF):=hz2
   rw[hz2,xA];unfold qF;simp only[cellsOf,bF,lF,sF,iG,yaa,yab];refine aA rfl ?_
   exact fC (z:=cI) (a2:=.nilslice) (b2:=.nilslice) (c2:=.nilslice) w1 w2 k3' fun tf' t' v d1 d2 d3=>hQ.2 rfl _ _ tf' t' _ d1 d2 d3
 ·rw[e]at hQ
  simp only[]at hQ;simp only[bB,zA.asTup,sA,bD,yaa,yab,xA,pD];have k3':RD tf1 cI.d (jC cI .nilslice .nilslice .nilslice):=eO
  obtain⟨a2,b2,c2,e1,hz2,hone2⟩:=mL k3'
  have hz2:wG [(.int .u8 0),(.str []),(.int .u8 0),(.bool false),.nilslice,(.bool false),.nilslice,(.int .i64 0),.nilslice] (.agg qF)=some (cellsOf qF):=hz2
  rw[hz2,xA];unfold qF;simp only[cellsOf,bF,lF,sF,iG,yaa,yab];exact aA rfl (aA (by trivial) (hQ.2 rfl cI 0 tf1 t1 qF k1 k2 eO))
end
end Go.Proofs
namespace Go.Proofs
open Go Go.Am
variable [cC]
variable {t tf:Tr lA}
section
variable {rb:Nat}{names:List (List Nat)}{consts:List zB}{code:List XIns}
def z2b(rb:Nat)(names:List (List Nat))(consts:List zB)(code:List XIns)(f:Nat):Prop:=
 ∀(L:List zD) (tf t:Tr lA) (i to:Nat) (st:List uA) (v8:zA) (Q:kB),Rdr tf rb names consts code->Objs yA.base tf t (mI yA.base 9 (st.map uA.d) v8::L)->to<=code.length->to-i<f->st.length<=i->i<=code.length →
  zyr L tf (zqk (nI names consts code zM f i to st)) Q →
  jp 59 2 [.ptr rb 0,.int .i64 (to:Int),v8,.int .i64 (i:Int),.int .u8 0,.str [],.int .u8 0,.bool false,.nilslice,.bool false,.nilslice,.int .i64 0,.nilslice] t Q
theorem za5{f:Nat}(h:z2b rb names consts code f):zmz rb names consts code f:=by
 intro L tf t i to Q hr ho hto hf hQ;refine w59 _ _ _ ?_
 simp only[t59,qA];by_cases hi:i<=code.length
 ·exact h L tf t i to [] .nilslice Q hr (Objs.add (A:=[]) (B:=L) (o':=mI yA.base 9 ([]:List D) .nilslice) ho (fun _ _=>rfl) (fun k hk=>by simp[mI,zE]at hk) (.inl ⟨rfl,rfl⟩) (by simp[mI,zE]) ho.tle) hto hf (Nat.zero_le _) hi hQ
 ·refine j59_2 _ _ _ _ _ _ _ _ _ _ _ _ _ ?_
  simp only[z4r,qA];have hr0:nI names consts code zM f i to []=some []:=by
   cases f with
   | zero=>omega
   | succ f=>unfold nI;rw[if_pos (by omega)]
  rw[hr0]at hQ;refine qC (fun e=>absurd (dB.1 e) (by omega)) ?_
  rw[show vB .nilslice=some (.int .i64 0) from rfl,xA,yB,xA]
  exact aA (by decide) (aA (by trivial) (aA (by trivial) (hQ.2 rfl tf t (dA.refl _) ho)))
theorem zml{f:Nat->Nat->Option uA}{x0 y:uA}{at_ to n:Nat}(hs:∀i x,code[i]?=some x->tG names.length consts.length x i code.length=true)(h:rO consts code zM f x0 at_ to=some (y,n)):at_<n/\n<=to:=by
 unfold rO at h;split at h
 ·cases h
 ·rename_i x hx
  split at h
  ·cases h
  ·split at h
   ·cases h
   ·split at h
    ·cases h
    ·rename_i h9 ha hb
     split at h
     ·rename_i j k last e1 e2 e3
      split at h
      ·cases h
      ·rename_i hj9
       have hj9:j.op=9:=by simpa using hj9
       have hsj:=fX (hs _ _ e1) (.inl hj9)
       split at h
       ·cases h
       ·rename_i hE
        have fC:n=j.a.toNat->at_<n/\n<=to:=fun e=>by omega
        split at h
        ·split at h
         ·cases h
         ·rw[Option.ite_none_right_eq_some]at h
          obtain⟨_,h⟩:=h
          injection h with h;injection h with _ h2;exact fC h2.symm
        ·split at h
         ·cases h
         ·split at h
          ·cases h
          ·split at h
           ·cases h
           ·injection h with h;injection h with _ h2;exact fC h2.symm
     ·cases h
theorem uZ{x:XIns}{args:List uA}:dF names consts x args=.mk (dF names consts x []).op (dF names consts x []).name (dF names consts x []).v args:=by
 unfold dF;repeat' split
 all_goals rfl
theorem lW{l:List uA}{cl:List (List zA)}(h:mC tf (l.map uA.d) cl):∀a∈cl.flatten,zA.one a=true:=by
 induction l generalizing cl with
 | nil=>rw[List.map_nil,gE]at h;subst h;intro a ha;simp at ha
 | cons x l ih=>
  rw[ybn,eD]at h;obtain⟨c,r,rfl,h1,h2⟩:=h
  obtain⟨_,_,_,_,_,ho⟩:=mL h1
  rw[mF]at ho;intro a ha;rw[List.flatten_cons,List.mem_append]at ha;rcases ha with ha | ha
  ·exact ybc.1 ho a ha
  ·exact ih h2 a ha
theorem zzt{α:Type}{l:List α}{y:α}(h:l≠[]):l.set (l.length-1) y=l.dropLast++[y]:=by
 induction l with
 | nil=>exact absurd rfl h
 | cons a l ih=>
  cases l with
  | nil=>rfl
  | cons b l=>
   have:=ih (by simp)
   simp only[yao,Nat.add_sub_cancel]at this ⊢
   rw[List.set_cons_succ,this];rfl
theorem zvq{f:Nat}(hL:z2b rb names consts code f):z2b rb names consts code (f+1):=by
 have hP:=za5 hL
 intro L tf t i to st v8 Q hr ho hto hf hst hil hQ;have hbuf:Buf yA.base tf t 9 (st.map uA.d) v8:=ho.ok (mI yA.base 9 (st.map uA.d) v8) (by simp)
 have hod:Objs yA.base tf t L:=Objs.drop (A:=[]) ho
 have hrd:=hbuf.read ho.tle
 have hlenv:vB v8=some (.int .i64 (st.length:Int)):=by rw[hrd.len,yag]
 have hclen:=hr.len
 refine j59_2 _ _ _ _ _ _ _ _ _ _ _ _ _ ?_
 simp only[z4r,qA];by_cases hi:i<to
 case neg=>
  have hr0:nI names consts code zM (f+1) i to st=some st:=by unfold nI;rw[if_pos (by omega)]
  rw[hr0]at hQ;refine qC (fun e=>absurd (dB.1 e) (by omega)) ?_
  rw[hlenv,xA,yB,xA];by_cases h1:st.length=1
  ·refine qC (fun e=>absurd (show((st.length:Nat):Int)=1 by omega) (lI.1 e)) ?_
   obtain⟨x,rfl⟩:∃x,st=[x]:=by
    match st,h1 with
    | [x],_=>exact⟨x,rfl⟩
   obtain⟨p,o,cs,g1,g2,g3,_⟩:=hbuf.elem zzm (i:=0) (d:=x.d) (by simp)
   obtain⟨a,b,c,rfl,hz,hone⟩:=mL g3
   have g1:xB yA 48 v8 (.int .i64 0)=some (.ptr p o):=g1
   unfold qF at hz;rw[g1,xA,g2,xA,hz,xA];simp only[jC,cellsOf,bF,lF,sF,iG,yaa,yab];exact aA hone (hQ.1 x tf t _ rfl (dA.refl _) hod g3)
  ·refine aA (lI.2 (by omega)) (aA (by trivial) (aA (by trivial) (hQ.2 ?_ tf t (dA.refl _) hod)))
   match st,h1 with
   | [],_=>rfl
   | _::_::_,_=>rfl
 have hxl:i<code.length:=by omega
 have hx:code[i]?=some code[i]:=yae hxl
 generalize code[i]=x at hx
 obtain⟨nm,a,b,c,vn,vc,vw,vt,v1,h1,h2,h3,h4⟩:=hr.box
 have h1t:=vD.mono h1 ho.tle
 have ld1:jA yA 37 ⟨0,t⟩ (.ptr rb 8)=some v1:=h1t.load1 zrr rfl rfl
 obtain⟨p,off,g1,g2,_⟩:=zc5 (h4.mono ho.tle) hx
 have hz:wG [(.int .u8 0),(.int .i64 0),(.int .i64 0)] (.agg x.cells)=some (cellsOf x.cells):=gL rfl
 have hs:=hr.sound i x hx
 unfold nI at hQ;rw[if_neg (by omega),hx]at hQ
 simp only[]at hQ;refine aA (dB.2 (by omega)) ?_
 rw[zJ,xA,zg6,xA,ld1,xA,g1,xA,g2,xA,hz,xA];simp only[XIns.cells,cellsOf,bF,yaa,yab];refine aA (by trivial) ?_
 rw[q112,tV,xA,pD,xA];by_cases hj:x.op=9\/x.op=10\/x.op=11
 ·rw[if_pos hj]at hQ
  rw[decide_eq_true hj];refine aA (by trivial) ?_
  rw[hlenv,xA,yB,xA];by_cases he:st=[]
  ·subst he
   exact aA (by decide) (aA (by trivial) (aA (by trivial) (hQ.2 rfl tf t (dA.refl _) hod)))
  have hpos:0<st.length:=List.length_pos_iff.2 he
  refine qC (gF (by omega)) ?_
  have htop:st.getLast?=some st[st.length-1]:=by
   rw[List.getLast?_eq_getElem?,yae (by omega)]
  rw[htop]at hQ;simp only[]at hQ;obtain⟨q,o,cs,k1,k2,k3,_⟩:=hbuf.elem zzm (i:=st.length-1) (d:=st[st.length-1].d) (by rw[yav,yae (by omega)];rfl)
  obtain⟨a1,b1,c1,rfl,hz1,hone1⟩:=mL k3
  unfold qF at hz1;rw[xA,yB,xA,zC (n:=(st.length:Int)-1) (by omega) (by omega),show(st.length:Int)-1=((st.length-1:Nat):Int) by omega,k1,xA,k2,xA,hz1,xA]
  simp only[jC,cellsOf,bF,lF,sF,iG,yaa,yab];rw[q113];refine zx4 hP hr ho k3 hx hj hi hto hf ⟨fun y n tf1 t1 ds e m1 m2 m3=>?_,fun e y n tf1 t1 ds m1 m2 m3=>?_⟩
  ·obtain⟨hn1,hn2⟩:=zml hr.sound e
   rw[e]at hQ;simp only[]at hQ;obtain⟨a2,b2,c2,rfl,hz2,hone2⟩:=mL m3
   simp only[bB,zA.asTup,sA,bD,yaa,yab,xA,yB,pD];unfold qF at hz2;rw[hz2,xA];simp only[jC,cellsOf,bF,lF,sF,iG,yaa,yab]
   refine aA hone2 (qC (by simp) ?_)
   have hbuf1:Buf yA.base tf1 t1 9 (st.map uA.d) v8:=m2.ok (mI yA.base 9 (st.map uA.d) v8) (by simp)
   obtain⟨q2,o2,t2,d1,d2,d3,d4,d5⟩:=hbuf1.set zzm (S:=50) zsq (i:=st.length-1) (by rw[yag];omega) (w:=.agg (jC y a2 b2 c2)) (d:=y.d) rfl rfl hone2 m3 m2.tle
   rw[d1]at k1
   cases k1
   intro n2 _ _;have d2:=d2 n2
   unfold jC at d2;rw[d2,xA];have hset:(st.map uA.d).set (st.length-1) y.d=(st.dropLast++[y]).map uA.d:=by
    rw[<- zzt he,List.map_set]
   rw[hset]at d3;have o2':Objs yA.base tf1 t2 (mI yA.base 9 ((st.dropLast++[y]).map uA.d) v8::L):=
    Objs.upd (A:=[]) (o:=mI yA.base 9 (st.map uA.d) v8) (o':=mI yA.base 9 ((st.dropLast++[y]).map uA.d) v8) m2 (fun k k1 _=>d5 k (fun e=>k1 (cK.2 e))) (fun k hk=>.inl hk) d3 (by cases v8<;>simp[mI,zE]) d4
   exact hL L tf1 t2 n to (st.dropLast++[y]) v8 Q (hr.mono m1) o2' hto (by omega) (by simp;omega) (by omega) (hQ.mono m1)
  ·rw[e]at hQ
   obtain⟨a2,b2,c2,rfl,hz2,hone2⟩:=mL m3
   simp only[bB,zA.asTup,sA,bD,yaa,yab,xA,yB,pD];unfold qF at hz2;rw[hz2,xA];simp only[jC,cellsOf,bF,lF,sF,iG,yaa,yab]
   exact aA hone2 (aA (by trivial) (aA (by trivial) (aA (by trivial) (hQ.2 rfl tf1 t1 m1 (Objs.drop (A:=[]) m2)))))
 rw[if_neg hj]at hQ;rw[decide_eq_false hj];refine qC (by simp) ?_
 obtain⟨hp1,hp2⟩:=ze1 hs
 rw[q111,znl (hr.glob.mono ho.tle) (zh6 hs),xA]
 simp only[bB,zA.asTup,sA,bD,yaa,yab,xA,yB];by_cases h12:x.op=12
 ·rw[if_pos (.inl h12)]at hQ
  exact aA (jE.2 (by omega)) (aA (by trivial) (aA (by trivial) (hQ.2 rfl tf t (dA.refl _) hod)))
 refine qC (gF (by omega)) ?_
 rw[hlenv,xA,yB,xA];by_cases hfew:(st.length:Int)<oH x
 ·rw[if_pos (.inr hfew)]at hQ
  exact aA (dB.2 hfew) (aA (by trivial) (aA (by trivial) (hQ.2 rfl tf t (dA.refl _) hod)))
 rw[if_neg (fun h=>h.elim h12 hfew)]at hQ
 refine qC (fun e=>hfew (dB.1 e)) ?_
 rw[xA,yB,xA,q114];obtain⟨k,hk⟩:∃k,k=st.length-(oH x).toNat:=⟨_,rfl⟩
 have hkl:k<=st.length:=by omega
 rw[<- hk]at hQ;have hw:vA .i64 ((st.length:Int)-oH x)=(k:Int):=by rw[zC (by omega) (by omega)];omega
 refine zub hr ho hx hj h12 fun tf1 t1 a1 b1 m1 m2 m3 m4=>?_
 have hr1:=hr.mono m1
 have hy0:RD tf1 (dF names consts x []).d (jC (dF names consts x []) a1 b1 .nilslice):=by
  rw[uZ];exact zct m3 m4 yM
 obtain⟨_,_,_,_,hz1,hone1⟩:=mL hy0
 unfold qF at hz1;rw[hz1,xA];simp only[jC,cellsOf,bF,lF,sF,iG,yaa,yab];refine aA hone1 ?_
 rw[hw];have hbuf1:Buf yA.base tf1 t1 9 (st.map uA.d) v8:=m2.ok (mI yA.base 9 (st.map uA.d) v8) (by simp)
 obtain⟨va,ca,s1,s2,s3⟩:=hbuf1.back zzm (k:=k) (by obtain⟨cz,nz,hz⟩:=hr1.zero;exact⟨cz,nz,m2.tle _ _ hz⟩) (by rw[yag];exact hkl)
 rw[<- List.map_drop]at s3;rw[s1,xA];intro n1 hn1 hb1;have hargs:∃va' t2 tf2 n',iD yA 48 48 .nilslice va ⟨n1,t1⟩=some (va',⟨n',t2⟩)/\dA tf1 tf2/\Objs yA.base tf2 t2 (mI yA.base 9 (st.map uA.d) v8::L)/\oA tf2 9 ((st.drop k).map uA.d) va'/\dA t1 t2:=by
  by_cases hd0:st.drop k=[]
  ·have:ca=[]:=by rw[hd0,List.map_nil,gE]at s3;exact s3
   subst this;exact⟨.nilslice,t1,tf1,n1,zms el48 s2,dA.refl _,m2,by rw[hd0];exact yM,dA.refl _⟩
  ·obtain⟨t2,g1,g2,g3,g4⟩:=cS (C:=yA) el48 (l:=[]) (m:=(st.drop k).map uA.d) (v:=.nilslice) (.inl ⟨rfl,rfl⟩) s2 s3 (lW s3) (by rw[yag];exact List.length_pos_iff.2 hd0) (by simp;omega) hn1 hb1 m2.tle
   simp only[yay,yax,List.nil_append]at g1 g2;have hoff:oD n1 t1 t2:=fun c hc=>g4 c hc zc4
   have o1:=m2.junk hn1 hoff
   have o2:Objs yA.base tf1 t2 ([]++jB yA.base 9 ((st.drop k).map uA.d) (.slice n1 0 ((st.drop k).map uA.d).length ((st.drop k).map uA.d).length)::(mI yA.base 9 (st.map uA.d) v8::L)):=by
    refine Objs.add (A:=[]) (o':=jB yA.base 9 ((st.drop k).map uA.d) _) m2 (fun c hc=>hoff c (fun e=>hc (by simp[jB,zE,e]))) (fun c hc=>?_) ?_ (by simp[jB,zE]) g3
    ·have:c=n1:=by simpa[jB,zE]using hc
     subst this;exact⟨hn1,hb1⟩
    ·exact g2
   obtain⟨tf2,z1,z2,z3⟩:=Objs.freezeL (A:=[]) o2
   refine⟨_,t2,tf2,_,g1,z1,z2,z3,fun c y hc=>?_⟩
   rw[hoff c (by intro e;subst e;rw[hn1]at hc;cases hc)];exact hc
 obtain⟨va',t2,tf2,n',e1,e2,e3,e4,e5⟩:=hargs
 rw[e1,xA];have honea:pB zA.one [va']=true:=by rw[mF];simp only[ybh,ybl,e4.one];rfl
 refine aA honea ?_
 have hbuf2:Buf yA.base tf2 t2 9 (st.map uA.d) v8:=e3.ok (mI yA.base 9 (st.map uA.d) v8) (by simp)
 obtain⟨vf,f1,f2,f3⟩:=hbuf2.front zzm (k:=k) (by rw[yag];exact hkl)
 rw[f1,xA];intro n2 hn2 hb2;have hy1:RD tf2 (dF names consts x (st.drop k)).d (jC (dF names consts x (st.drop k)) a1 b1 va'):=by
  rw[uZ];exact zct (m3.mono e2) (m4.mono e2) e4
 have ec:jC (dF names consts x (st.drop k)) a1 b1 va'=[.int .u8 (dF names consts x []).op,.str (dF names consts x []).name,.int .u8 (dF names consts x []).v.kind,.bool (dF names consts x []).v.f.n.neg,a1,.bool (dF names consts x []).v.f.d.neg,b1,.int .i64 (dF names consts x []).v.i,va']:=by
  rw[uZ];rfl
 obtain⟨t3,u1,u2,u3,u4⟩:=zvz (x:=dF names consts x (st.drop k)) (a:=a1) (b:=b1) (c:=va') hn2
 rw[ec]at u1;rw[u1,xA];have f1':uG yA 48 ⟨0,t3⟩ v8 none (some (.int .i64 (k:Int)))=some vf:=aY (H:=⟨0,t2⟩) (HA:=⟨0,t3⟩) (fun _ _ h=>u3 _ _ h) f1
 rw[f1',xA];have o3:Objs yA.base tf2 t3 (mI yA.base 9 (st.map uA.d) v8::L):=e3.junk hn2 u4
 have hbuf3:Buf yA.base tf2 t3 9 (st.map uA.d) v8:=o3.ok (mI yA.base 9 (st.map uA.d) v8) (by simp)
 obtain⟨vf',f1'',f2',f3'⟩:=hbuf3.front zzm (k:=k) (by rw[yag];exact hkl)
 rw[f1'']at f1'
 cases f1'
 refine aA (f2'.read o3.tle).same ?_
 have o4:Objs yA.base tf2 t3 (mI yA.base 9 ((st.map uA.d).take k) vf::L):=
  Objs.upd (A:=[]) (o:=mI yA.base 9 (st.map uA.d) v8) (o':=mI yA.base 9 ((st.map uA.d).take k) vf) o3 (fun _ _ _=>rfl) (fun c hc=>.inl (by
   have:c∈zE vf:=hc
   rw[f3']at this;exact this)) f2' (by cases vf<;>simp[mI,zE]) o3.tle
 intro n3 hn3 hb3;obtain⟨_,_,_,_,_,honey⟩:=mL hy1
 rw[mF]at honey;obtain⟨v9,t4,n4,p1,p2,p3,p4,p5⟩:=f2'.push el48 u2 hy1 (fun a ha=>ybc.1 honey a ha) (by rw[ycb,yag];omega) hn3 hb3 o3.tle
 rw[p1,xA];have hmap:(st.map uA.d).take k++[(dF names consts x (st.drop k)).d]=(st.take k++[dF names consts x (st.drop k)]).map uA.d:=by
  rw[List.map_append,List.map_take];rfl
 rw[hmap]at p2;have o5:Objs yA.base tf2 t4 (mI yA.base 9 ((st.take k++[dF names consts x (st.drop k)]).map uA.d) v9::L):=
  Objs.upd (A:=[]) (o:=mI yA.base 9 ((st.map uA.d).take k) vf) (o':=mI yA.base 9 ((st.take k++[dF names consts x (st.drop k)]).map uA.d) v9) o4 (fun c h1 h2=>p4 c (fun e=>h1 (cK.2 e)) (fun e=>h2 (cK.2 e))) (fun c hc=>by
   rcases p5 c (cK.1 hc)with h | rfl
   ·exact .inl (cK.2 h)
   ·exact .inr ⟨hn3,hb3⟩) p2 (by cases v9<;>simp[mI,zE]) p3
 rw[zC (n:=(i:Int)+1) (by omega) (by omega),show(i:Int)+1=((i+1:Nat):Int) by omega]
 exact hL L tf2 t4 (i+1) to _ v9 Q (hr1.mono e2) o5 hto (by omega) (by rw[yah,ycb,List.length_singleton];omega) (by omega) (hQ.mono (m1.trans e2))
theorem z0h:∀f,z2b rb names consts code f:=by
 intro f;induction f with
 | zero=>intro L tf t i to st v8 Q _ _ _ hf;omega
 | succ f ih=>exact zvq ih
end
end Go.Proofs
namespace Go.Proofs
open Go Go.Am
variable [cC]
variable {t tf:Tr lA}
section
variable {names:List (List Nat)}{consts:List zB}{code:List XIns}{L:List zD}{Q:kB}
def zrj (consts:List zB)(x:XIns):Bool:=decide (x.op=13)||(decide (x.op=1) && !sB (consts.getD x.a.toNat gH))
def aI(names:List (List Nat))(consts:List zB)(code:List XIns):Option uA:=
 if cP names.length consts.length code=false then none
 else if code.any (zrj consts)=true then none
 else zqk (nI names consts code zM (code.length+1) 0 code.length [])
def ExpQ (L:List zD)(tf:Tr lA)(r:Option uA)(Q:kB):Prop:=
 (∀x tf' t' cs,r=some x->dA tf tf'->Objs yA.base tf' t' L->RD tf' (uA.d x) cs->Q (.tup [.agg cs,.int .i64 0]) t') ∧
 (r=none->∀tf' t',dA tf tf'->Objs yA.base tf' t' L->Q (.tup [.agg qF,.int .i64 190]) t')
theorem zen{nN nC len:Nat}:∀ {l:List XIns} {i:Nat} {d d':List Nat},sM nN nC len l i d=some d'->∀(k:Nat) x,l[k]?=some x->tG nN nC x (i+k) len=true
 | [],_,_,_,_,k,x,h=>by simp at h
 | y::l,i,d,d',h,k,x,hx=>by
  have h:(aJ nN nC len y i d).bind (sM nN nC len l (i+1))=some d':=h
  rw[Option.bind_eq_some_iff]at h;obtain⟨d1,h1,h2⟩:=h
  cases k with
  | zero=>
   obtain rfl:y=x:=by simpa using hx
   unfold aJ at h1;split at h1
   ·split at h1
    ·cases h1
    ·rename_i h3;simpa using h3
   ·cases h1
  | succ k=>
   have:=zen h2 k x (by simpa using hx)
   rw[show i+(k+1)=i+1+k by omega];exact this
theorem zeo{nN nC:Nat}(h:cP nN nC code=true):code.length<=1000/\∀i x,code[i]?=some x->tG nN nC x i code.length=true:=by
 unfold cP at h;rw[yac,decide_eq_true_eq]at h;refine⟨h.1,fun i x hx=>?_⟩
 cases hl:sM nN nC code.length code 0 (1::List.replicate code.length 0)with
 | none=>rw[hl]at h;cases h.2
 | some d=>
  have:=zen hl i x hx
  rwa [yax]at this
theorem zxe{nm:List Nat}{a b c vn vc vw vt v1:zA}(ho:Objs yA.base tf t L)(hn:oA tf 1 (names.map D.str) vn)(hc:oA tf 6 (consts.map zB.d) vc)(hv:oA tf 3 (code.map XIns.d) v1)(hsz:code.length<1125899906842624)
  (hsh:∀v∈consts,zB.mid v) (hfit:∀v∈consts,uF.fit v.f) (hg:dJ tf) (hz0:∃c n,tf.get 0=some (.cells c n none)) (h1a:zA.one a=true) (h1b:zA.one b=true) (h1c:zA.one c=true) (h1w:zA.one vw=true) (h1t:zA.one vt=true)
  (hQ:ExpQ L tf (aI names consts code) Q):Wc yA F 28 [.agg [.str nm,a,b,c,vn,vc,vw,vt],v1] t Q:=by
 have hvt:=hv.mono ho.tle
 have hct:=hc.mono ho.tle
 have hlen:vB v1=some (.int .i64 (code.length:Int)):=by rw[hvt.len,yag]
 have hso:=zh7 (nm:=nm) (a:=a) (b:=b) (c:=c) (vw:=vw) (vt:=vt) hvt (hn.mono ho.tle) hct (hg.mono ho.tle) hsz
 refine w28 _ _ _ _ _ _ _ _ _ ?_
 simp only[t28,qA];rw[q58,hso,xA,pD,xA];unfold aI at hQ
 cases hs:cP names.length consts.length code with
 | false=>
  rw[hs,if_pos rfl]at hQ;exact aA (by simp) (aA (by trivial) (aA (by trivial) (hQ.2 rfl tf t (dA.refl _) ho)))
 | true=>
  rw[hs,if_neg (by simp)]at hQ
  refine qC (by simp) ?_
  rw[hlen,xA,yB,xA];obtain⟨hl1,hall⟩:=zeo hs
  have loop:∀(m i:Nat),i+m=code.length->(code.take i).any (zrj consts)=false->jp 28 2 [v1,v1,.int .i64 (code.length:Int),.int .i64 (i:Int),.str nm,a,b,c,vn,vc,vw,vt,.int .u8 0,.str [],.int .u8 0,.bool false,.nilslice,.bool false,.nilslice,.int .i64 0,.nilslice] t Q:=by
   intro m;induction m with
   | zero=>
    intro i hi hb;have hb:code.any (zrj consts)=false:=by rw[ybb (by omega)]at hb;exact hb
    rw[hb,if_neg (by simp)]at hQ
    refine j28_2 _ _ _ _ _ _ _ _ _ _ _ _ _ _ _ _ _ _ _ _ _ ?_
    simp only[z4y,qA];refine qC (fun e=>absurd (dB.1 e) (by omega)) ?_
    have hone1:pB zA.one [v1]=true:=by rw[mF];simp only[ybh,ybl,hv.one];rfl
    refine aA hone1 ?_
    intro n hn1 hnb;obtain⟨t1,a1,a2,a3,a4⟩:=rU (C:=yA) ty118 hn1
    rw[a1,xA];intro n2 _ _;obtain⟨t2,b1,b2,b3⟩:=a2.store (C:=yA) hnb (j:=0) (v:=.agg [.str nm,a,b,c,vn,vc,vw,vt,v1]) ty118 rfl (by show 0+9<=9;decide) (by
     rw[mF];simp only[zA.cells,zA.asAgg,ybh,ybl,h1a,h1b,h1c,h1w,h1t,hn.one,hc.one,hv.one];rfl)
    have b1:=b1 n2
    have b2:vD t2 n none [.str nm,a,b,c,vn,vc,vw,vt,v1]:=b2
    rw[b1,xA,hlen,xA,yB,xA,q59];have o1:=ho.junk hn1 (a4.trans b3)
    obtain⟨cb,hcb,hcb2⟩:=b2
    obtain⟨o2,z1⟩:=o1.froze (ho.fresh hn1) hcb (ho.tfn hn1)
    have hrd:Rdr (tf.set n (.cells cb [.str nm,a,b,c,vn,vc,vw,vt,v1].length none)) n names consts code:=by
     obtain⟨cz,nz,hz⟩:=hz0
     exact⟨⟨nm,a,b,c,vn,vc,vw,vt,v1,⟨cb,by rw[Tr.get_set,if_pos rfl],hcb2⟩,hn.mono z1,hc.mono z1,hv.mono z1⟩,hsh,hall,hl1,hg.mono z1,⟨cz,nz,z1 _ _ hz⟩⟩
    refine za5 (z0h (code.length+1)) L _ t2 0 code.length _ hrd o2 (yal _) (by omega) ⟨fun x tf' t' cs e k1 k2 k3=>?_,fun e tf' t' k1 k2=>?_⟩
    ·obtain⟨a5,b5,c5,rfl,hz5,hone5⟩:=mL k3
     simp only[bB,zA.asTup,sA,bD,yaa,yab,xA,pD];unfold qF at hz5;rw[hz5,xA];simp only[jC,cellsOf,bF,lF,sF,iG,yaa,yab]
     exact aA hone5 (qC (by simp) (aA hone5 (hQ.1 x tf' t' _ e (z1.trans k1) k2 k3)))
    ·have k3':RD tf' cI.d (jC cI .nilslice .nilslice .nilslice):=eO
     obtain⟨_,_,_,_,hz5,_⟩:=mL k3'
     have hz5:wG [(.int .u8 0),(.str []),(.int .u8 0),(.bool false),.nilslice,(.bool false),.nilslice,(.int .i64 0),.nilslice] (.agg qF)=some (cellsOf qF):=hz5
     simp only[bB,zA.asTup,sA,bD,yaa,yab,xA,pD];rw[hz5,xA];unfold qF;simp only[cellsOf,bF,lF,sF,iG,yaa,yab];exact aA rfl (aA (by trivial) (aA (by trivial) (aA (by trivial) (hQ.2 e tf' t' (z1.trans k1) k2))))
   | succ m ih=>
    intro i hi hb;have hxl:i<code.length:=by omega
    have hx:code[i]?=some code[i]:=yae hxl
    obtain⟨p,off,g1,g2,_⟩:=zc5 hvt hx
    have hz:wG [(.int .u8 0),(.int .i64 0),(.int .i64 0)] (.agg code[i].cells)=some (cellsOf code[i].cells):=gL rfl
    have htake:code.take (i+1)=code.take i++[code[i]]:=by rw[ych,hx];rfl
    have hany:zrj consts code[i]=true->code.any (zrj consts)=true:=fun h=>List.any_eq_true.2 ⟨_,ybk hxl,h⟩
    have next:zrj consts code[i]=false->jp 28 2 [v1,v1,.int .i64 (code.length:Int),.int .i64 ((i+1:Nat):Int),.str nm,a,b,c,vn,vc,vw,vt,.int .u8 0,.str [],.int .u8 0,.bool false,.nilslice,.bool false,.nilslice,.int .i64 0,.nilslice] t Q:=fun h=>
     ih (i+1) (by omega) (by rw[htake,List.any_append,hb,Bool.false_or];simp[h])
    refine j28_2 _ _ _ _ _ _ _ _ _ _ _ _ _ _ _ _ _ _ _ _ _ ?_
    simp only[z4y,qA];refine aA (dB.2 (by omega)) ?_
    rw[g1,xA,g2,xA,hz,xA];simp only[XIns.cells,cellsOf,bF,yaa,yab];refine aA (by trivial) ?_
    rw[zC (n:=(i:Int)+1) (by omega) (by omega),show(i:Int)+1=((i+1:Nat):Int) by omega]
    by_cases h13:code[i].op=13
    ·rw[hany (by unfold zrj;simp[h13]),if_pos rfl]at hQ
     exact aA (jE.2 (by omega)) (aA (by trivial) (aA (by trivial) (hQ.2 rfl tf t (dA.refl _) ho)))
    refine qC (gF (by omega)) ?_
    by_cases h1:code[i].op=1
    ·refine aA (jE.2 (by omega)) ?_
     have hsi:=hall i _ hx
     unfold tG at hsi;rw[if_pos h1]at hsi;simp only[yac,decide_eq_true_eq]at hsi;obtain⟨j,hj⟩:∃j:Nat,code[i].a=(j:Int):=⟨code[i].a.toNat,by omega⟩
     have hjl:j<consts.length:=by omega
     have hcj:consts[j]?=some consts[j]:=yae hjl
     obtain⟨q,o,u,w,d1,d2,d3,d4,d5⟩:=zm4 hct hcj
     rw[hj,d1,xA,d2,xA,d3,xA];simp only[cellsOf,bF,lF,sF,iG,yaa,yab];rw[q25,zhp d4 d5 (hfit _ (ybk hjl)),xA,pD,xA]
     have hbad:zrj consts code[i] = !sB consts[j]:=by
      unfold zrj;rw[hj,decide_eq_false h13,decide_eq_true h1];simp[List.getD,hjl]
     cases hval:sB consts[j]with
     | false=>
      rw[hval]at hbad;rw[hany hbad,if_pos rfl]at hQ;exact aA (by simp) (aA (by trivial) (aA (by trivial) (hQ.2 rfl tf t (dA.refl _) ho)))
     | true=>
      rw[hval]at hbad;exact qC (by simp) (next hbad)
    ·refine qC (gF (by omega)) (next ?_)
     unfold zrj;rw[decide_eq_false h13,decide_eq_false h1];rfl
  exact loop code.length 0 (by omega) rfl
end
end Go.Proofs
namespace Go.Proofs
open Go Go.Am
variable [cC]
variable {t tf:Tr lA}
theorem zvj{p:fF}{a b c:zA}(ha:oA t 3 (p.defs.map vJ.d) a)(hb:oA t 3 (p.tables.map nE.d) b)(hc:oA t 24 (p.clauses.map dC.d) c):RD t p.d [.str p.name,a,b,c]:=by
 unfold fF.d;simp only[gI,eD,gE,qO,uK];exact⟨[[.str p.name],[a],[b],[c]],rfl,_,_,rfl,rfl,_,_,rfl,⟨a,rfl,ha⟩,_,_,rfl,⟨b,rfl,hb⟩,_,_,rfl,⟨c,rfl,hc⟩,rfl⟩
section
variable {p:fF}{names:List (List Nat)}{consts:List zB}{whens thens:List (List XIns)}{code:List XIns}{k:Nat}{p2:Int}{v10 a b c vn vc vw vt:zA}
end
end Go.Proofs
namespace Go.Am
open Go Go.RowKit
section
variable {t tf:Tr lA}{C:iA}
theorem Objs.pushL{T el sz n:Nat}(hT:eI C T el sz){A B:List zD}{l:List D}{d:D}{cs:List zA}{v x:zA}(h:Objs C.base tf t (A++jB C.base sz l v::B))(hx:fG t sz x [cs])(hd:RD tf d cs)(hone:∀a∈cs,zA.one a=true)(hl:l.length<300000)(hn:t.get n=none)(hbase:C.base<=n) :
  ∃v2 k t2,iD C T T v x ⟨n,t⟩=some (v2,⟨k,t2⟩)/\Objs C.base tf t2 (A++jB C.base sz (l++[d]) v2::B):=by
 have hv:Loose C.base tf t sz l v:=h.ok (jB C.base sz l v) (by simp)
 obtain⟨t2,c1,c2,c3,c4⟩:=cS hT (m:=[d]) hv hx (eD.2 ⟨cs,[],rfl,hd,gE.2 rfl⟩) (by intro a ha;simp at ha;exact hone a ha) (by simp) (by simp;omega) hn hbase h.tle
 refine⟨_,_,t2,c1,?_⟩
 refine Objs.upd (o:=jB C.base sz l v) h (fun k k1 k2=>c4 k ?_ (fun e=>k1 (cK.2 e))) (fun k hk=>?_) c2 (by simp[jB,zE]) c3
 ·intro e;subst e;exact k2 (by simp[jB,zE])
 ·have:k=n:=by simpa[jB,zE]using hk
  subst this;exact .inr ⟨hn,hbase⟩
end
end Go.Am
namespace Go.Proofs
open Go Go.Am
variable [cC]
variable {t tf:Tr lA}
theorem z5b{n:Int}{m:Nat}{Q:kB}(hm:0<m)(hb:m<1000000)(hQ:∀k:Nat,k<m->Q (.int .i64 (k:Int)) t):Wc yA F 26 [.int .i64 n,.int .i64 (m:Int)] t Q:=by
 have h1:n.tmod (m:Int)<m:=Int.tmod_lt_of_pos n (by omega)
 have h2 : -(m:Int)<n.tmod (m:Int):=by
  rcases Int.lt_or_le n 0 with h | h
  ·have h3:(-n).tmod (m:Int)<m:=Int.tmod_lt_of_pos (-n) (by omega)
   rw[Int.neg_tmod]at h3;omega
  ·have:=Int.tmod_nonneg (m:Int) h;omega
 have e:zru .i64 n (m:Int)=some (.int .i64 (n.tmod (m:Int))):=by
  unfold zru;have:wA (m:Int) 0=false:=by
   cases hq:wA (m:Int) 0 with
   | false=>rfl
   | true=>have:=(vQ _ _).1 hq;omega
  rw[this,cond_false]
 refine w26 _ _ ?_
 simp only[t26,qA];refine qC (fun h=>absurd (dB.1 h) (by omega)) ?_
 rw[e,xA,yB,xA];generalize n.tmod (m:Int)=r at h1 h2
 by_cases h:r<0
 ·refine aA (dB.2 h) ?_
  rw[zC (by omega) (by omega)]
  obtain⟨k,hk⟩:∃k:Nat,r+m=(k:Int):=⟨(r+m).toNat,by omega⟩
  rw[hk];exact hQ k (by omega)
 ·refine qC (fun h'=>h (dB.1 h')) ?_
  obtain⟨k,hk⟩:∃k:Nat,r=(k:Int):=⟨r.toNat,by omega⟩
  rw[hk];exact hQ k (by omega)
section
variable {p:fF}{names:List (List Nat)}{consts:List zB}{whens thens:List (List XIns)}{cl:List dC}{code:List XIns}{k:Nat}{p2:Int}{v10 a b c vn vc vw vt:zA}
end
end Go.Proofs
namespace Go.Am
open Go Go.RowKit Go.Proofs
theorem block0{w:World}(h:fI w):∃c n,(vI w).get 0=some (.cells c n none):=by
 obtain⟨t,h⟩:=h.kinds
 have hb:=(yaf.1 h).1
 have e:(vI w).get 0=some (.cells (zgm (fun j=>((zrs zL).toArray[j]?).bind (zrv w.heap.size)) (zrs zL).toArray.size) (zrs zL).toArray.size none):=by
  unfold vI;rw[sQ,if_pos (by omega),if_pos (by omega),h]
  rfl
 exact⟨_,_,e⟩
end Go.Am
namespace Go.Am
open Go Go.RowKit
section
variable {t tf tf0:Tr lA}{C:iA}
mutual
theorem RD.ones:∀(d:D) (cs:List zA),RD t d cs->∀a∈cs,zA.one a=true
 | .int _ _,cs,h,a,ha=>by rw[RD]at h;subst h;simp at ha;subst ha;rfl
 | .bool _,cs,h,a,ha=>by rw[RD]at h;subst h;simp at ha;subst ha;rfl
 | .str _,cs,h,a,ha=>by rw[RD]at h;subst h;simp at ha;subst ha;rfl
 | .sl sz l,cs,h,a,ha=>by
  rw[uK]at h;obtain⟨v,rfl,h⟩:=h
  simp at ha;subst ha;exact h.one
 | .st l,cs,h,a,ha=>by
  rw[gI]at h;obtain⟨cl,rfl,h⟩:=h
  exact mC.ones l cl h a ha
theorem mC.ones:∀(l:List D) (cl:List (List zA)),mC t l cl->∀a∈cl.flatten,zA.one a=true
 | [],cl,h,a,ha=>by rw[mC]at h;subst h;cases ha
 | d::l,cl,h,a,ha=>by
  rw[mC]at h;obtain⟨c,r,rfl,h1,h2⟩:=h
  rw[List.flatten_cons,List.mem_append]at ha;rcases ha with ha | ha
  ·exact RD.ones d c h1 a ha
  ·exact mC.ones l r h2 a ha
end
theorem RD.all{d:D}{cs:List zA}(h:RD t d cs):pB zA.one cs=true:=by
 rw[mF,ybc];exact RD.ones d cs h
theorem RD.mk{d:D}{cs zs:List zA}(h:RD t d cs)(hz:d.zs=zs):mM zs (cellsOf cs) 0=cs:=by
 have:=zdb zs cs [] (by rw[<- hz];exact zl0 d cs h)
 simpa using this
theorem lit1{S el sz b:Nat}{cs:List zA}(hT:eI C S el sz)(hc:cs.length=sz)(hs:sz<1000000)(hb:t.get b=none) :
  ∃t',fE C S 1 [(0,.agg cs)] ⟨b,t⟩=some (.slice b 0 1 1,⟨b+1,t'⟩)/\fG t' sz (.slice b 0 1 1) [cs]/\dA t t'/\oD b t t':=by
 obtain⟨⟨y,hy1,hy2,_⟩,⟨z,hz1,hz2,hz3,_,_⟩⟩:=hT
 refine bO (n:=1) (cl:=[cs]) hy1 hy2 hz1 hz2 hz3 (by omega) ?_ (fun i q hq=>?_) rfl hb
 ·have e:tJ z.zero 1=z.zero:=by show iF z.zero []=z.zero;rw[dH,ybe]
  rw[e];unfold iM wU;have e1:(zA.agg cs).cells=cs:=rfl
  rw[fD]at hz3;simp only[sA,e1,fD,hc,hz3,Nat.zero_mul,yax,uS,xO,dH,List.take_zero,List.nil_append];rw[wC.2 rfl,oE.2 (yal sz)]
  simp only[Bool.and_self,dE,sA,iM];rw[yau (by omega)]
  simp
 ·rcases i with _ | i
  ·simp at hq;subst hq;exact hc
  ·simp at hq
def z1p(C:iA)(S el g p:Nat)(zs:List zA)(v0 v:zA)(i:Int):T:=
 .opt (vB v0) fun a0=>.asI .i64 a0 fun n1=>.ite (iB i n1)
  (.opt (xB C S v0 (.int .i64 i)) fun a2=>.light (fun m=>jA C el ⟨0,m⟩ a2) fun a3=>.asG zs a3 fun X=>
   .call g [.agg (mM zs X 0)] fun a5=>.asG zs a5 fun Y=>
   .ite (pB zA.one (mM zs Y 0)) (.heavy (fE C S 1 [(0,.agg (mM zs Y 0))]) fun a7=>.heavy (iD C S S v a7) fun a8=>.jump p [v0,a8,.int .i64 (vA .i64 (i+1))]) .fail)
  (.ret v)
def zea(base:Nat)(W:aH)(g:Nat)(d:D):Prop:=∀ ⦃L:List zD⦄ ⦃tf t:Tr lA⦄ ⦃cs:List zA⦄ ⦃Q:kB⦄,Objs base tf t L->RD tf d cs->(∀tf' t' cs',dA tf tf'->Objs base tf' t' L->RD tf' d cs'->Q (.agg cs') t')->W g [.agg cs] t Q
def z2d(base:Nat)(tf:Tr lA)(L:List zD)(sz:Nat)(l:List D)(Q:kB):Prop:=∀tf' t' v,dA tf tf'->Objs base tf' t' L->oA tf' sz l v->Q v t'
theorem zxu{W J:aH}{S el sz g p:Nat}(hT:eI C S el sz)(hS:rE C S el sz true)(hsz:sz<1000000){zs:List zA}{L:List zD}{ds:List D}{v0:zA}{Q:kB}
  (hz:∀d∈ds,d.zs=zs) (hg:∀d∈ds,zea C.base W g d) (hlen:ds.length<300000)
  (hj:∀v i t,qA C.base W J (z1p C S el g p zs v0 v i) t Q->J p [v0,v,.int .i64 i] t Q) (hQ:z2d C.base tf0 L sz ds Q) (h0:oA tf0 sz ds v0) :
  ∀(m i:Nat) (tf t:Tr lA) (v:zA),i+m=ds.length->dA tf0 tf->Objs C.base tf t (jB C.base sz (ds.take i) v::L)->J p [v0,v,.int .i64 (i:Int)] t Q:=by
 intro m;induction m with
 | zero=>
  intro i tf t v hi hf ho;refine hj _ _ _ ?_
  simp only[z1p,qA];rw[h0.len,xA,yB,xA,if_neg (fun e=>by have:=dB.1 e;omega)]
  rw[ybb (by omega)]at ho
  obtain⟨tf',k1,k2,k3⟩:=Objs.freezeL (A:=[]) ho
  exact hQ tf' t v (hf.trans k1) k2 k3
 | succ m ih=>
  intro i tf t v hi hf ho;have hlt:i<ds.length:=by omega
  have hd:ds[i]?=some ds[i]:=yae hlt
  have hm:ds[i]∈ds:=ybk hlt
  obtain⟨b,off,cs,g1,g2,g3,g4,g5⟩:=rE.at (t:=tf) hS (by simp) (h0.mono hf) hd
  have g1':=g1
  obtain⟨b',off',cs',f1,f2,f3,f4,f5⟩:=rE.at (t:=t) hS (by simp) (h0.mono (hf.trans ho.tle)) hd
  rw[g1]at f1;cases f1
  have ecs:cs'=cs:=by
   obtain⟨c,n,lo,q1,q2⟩:=g3
   obtain⟨c',n',lo',q3,q4⟩:=f3
   rw[ho.tle _ _ q1]at q3
   cases q3
   refine List.ext_getElem? fun j=>?_
   rcases Nat.lt_or_ge j sz with hjs | hjs
   ·have a1:cs[j]?=some cs[j]:=yae (by omega)
    have a2:cs'[j]?=some cs'[j]:=yae (by omega)
    have b1:=q2 _ _ a1
    have b2:=q4 _ _ a2
    rw[b1]at b2;rw[a1,a2,ybj b2]
   ·rw[List.getElem?_eq_none (by omega),List.getElem?_eq_none (by omega)]
  subst ecs;refine hj _ _ _ ?_
  simp only[z1p,qA];rw[h0.len,xA,yB,xA,if_pos (dB.2 (by omega)),g1,xA,f2,xA]
  have hzz:=hz _ hm
  show sG (wG zs (.agg cs')) _
  rw[pI g5 hzz,xA,g5.mk hzz];refine hg _ hm ho g5 fun tf' t' cs2 k1 k2 k3=>?_
  rw[pI k3 hzz,xA,k3.mk hzz,if_pos k3.all];intro n hn _;have hl2:cs2.length=sz:=by
   have e1:=g5.mk hzz
   have e2:=k3.mk hzz
   have key:∀(zs:List zA) (X Y:zke) (j:Nat),(mM zs X j).length=(mM zs Y j).length:=by
    intro zs;induction zs with
    | nil=>intro X Y j;rfl
    | cons z zs ih=>
     intro X Y j;show(ziu z X j::mM zs X (j+1)).length=(ziu z Y j::mM zs Y (j+1)).length
     rw[yao,yao,ih X Y (j+1)]
   have:=key zs (cellsOf cs2) (cellsOf cs') 0
   rw[e1,e2]at this;omega
  obtain⟨t1,a1,a2,a3,a4⟩:=lit1 (C:=C) hT hl2 hsz hn
  rw[a1,xA];intro n2 hn2 hb2;obtain⟨v2,k,t2,c1,c2⟩:=Objs.pushL (A:=[]) (n:=n2) hT (k2.junk hn a4) a2 k3 (RD.ones _ _ k3) (by rw[ycb];omega) hn2 hb2
  rw[c1,xA,zC (by omega) (by omega)]
  have e:ds.take i++[ds[i]]=ds.take (i+1):=by rw[List.take_succ,hd];rfl
  rw[e]at c2;exact ih (i+1) tf' t2 v2 (by omega) (hf.trans k1) c2
theorem iY{W J:aH}{S el sz g p:Nat}(hT:eI C S el sz)(hS:rE C S el sz true)(hsz:sz<1000000){zs:List zA}{L:List zD}{ds:List D}{v0:zA}{Q:kB}
  (hz:∀d∈ds,d.zs=zs) (hg:∀d∈ds,zea C.base W g d) (hlen:ds.length<300000)
  (hj:∀v i t,qA C.base W J (z1p C S el g p zs v0 v i) t Q->J p [v0,v,.int .i64 i] t Q) (hQ:z2d C.base tf L sz ds Q) (h0:oA tf sz ds v0) (ho:Objs C.base tf t L):J p [v0,.nilslice,.int .i64 0] t Q:=by
 refine zxu hT hS hsz hz hg hlen hj hQ h0 ds.length 0 tf t .nilslice (by omega) (dA.refl _) ?_
 rw[List.take_zero];exact Objs.add (A:=[]) (o':=jB C.base sz ([]:List D) .nilslice) ho (fun _ _=>rfl) (fun k hk=>by simp[jB,zE]at hk) (.inl ⟨rfl,rfl⟩) (by simp[jB,zE]) ho.tle
theorem zo9{W J:aH}{S el sz:Nat}(hT:eI C S el sz){L:List zD}{l:List D}{x:zA}{Q:kB}(hx:oA tf sz l x)(ho:Objs C.base tf t L)(hl:l.length<1000000)(hQ:z2d C.base tf L sz l Q) :
  qA C.base W J (.heavy (iD C S S .nilslice x) fun a0=>.ret a0) t Q:=by
 simp only[qA];intro n hn _;obtain⟨v,k,t',tf',a1,a2,a3,a4,a5,a6,a7⟩:=lZ hT hx ho.tle hl hn
 rw[a1,xA];refine hQ tf' t' v a3 (ho.keep a3 a4 fun k hk=>?_) a2
 have hne:k≠n:=fun e=>by
  obtain⟨y,hy⟩:=ho.live hk
  rw[e,hn]at hy;cases hy
 exact⟨a6 k hne,by rw[a7 k hne];exact(ho.low k hk).2⟩
end
end Go.Am
namespace Go.Proofs
open Go Go.Am
variable [cC]
variable {t tf:Tr lA}
theorem z63{L:List zD}{l:List Nat}{x:zA}{Q:kB}(hx:oA tf 1 (lC l) x)(ho:Objs yA.base tf t L)(hl:l.length<1000000)(hQ:z2d yA.base tf L 1 (lC l) Q):Wc yA F 307 [x] t Q:=
 w307 _ (zo9 el41 hx ho (by rw[rP];exact hl) hQ)
theorem zxv{w:rH}(hl:w.limbs.length<1000000):zea yA.base (Wq yA F lH) 271 w.d:=by
 intro L tf t cs Q ho hd hQ;obtain⟨v,rfl,hv⟩:=zV hd
 rw[q271];refine w271 _ _ ?_
 simp only[t271,qA,q307];refine z63 hv ho hl fun tf' t' u k1 k2 k3=>?_
 have hr:=iW (w:=w) k3
 exact aA (by rw[mF];simp only[ybh,ybl,k3.one];rfl) (aA hr.all (hQ tf' t' _ k1 k2 hr))
theorem zxw{f:uF}(hl:f.n.limbs.length<1000000/\f.d.limbs.length<1000000):zea yA.base (Wq yA F lH) 224 f.dd:=by
 intro L tf t cs Q ho hd hQ;obtain⟨u,v,rfl,hu,hv⟩:=zci hd
 rw[q224];refine w224 _ _ _ _ ?_
 simp only[t224,qA];refine zxv hl.1 ho (iW (w:=f.n) hu) fun tf1 t1 c1 k1 k2 k3=>?_
 have hz1:=pI k3 (rH.zs _)
 have a1:=k3.all
 obtain⟨u1,rfl,hu1⟩:=zV k3
 rw[hz1,xA];refine aA a1 ?_
 refine zxv hl.2 k2 (iW (w:=f.d) (hv.mono k1)) fun tf2 t2 c2 m1 m2 m3=>?_
 have hz2:=pI m3 (rH.zs _)
 have a2:=m3.all
 obtain⟨v1,rfl,hv1⟩:=zV m3
 rw[hz2,xA];have hr:=zcs (f:=f) (hu1.mono m1) hv1
 exact aA a2 (aA hr.all (hQ tf2 t2 _ (k1.trans m1) m2 hr))
theorem z65{x:zB}(hl:x.f.n.limbs.length<1000000/\x.f.d.limbs.length<1000000):zea yA.base (Wq yA F lH) 157 x.d:=by
 intro L tf t cs Q ho hd hQ;obtain⟨u,v,rfl,hu,hv⟩:=zey hd
 rw[q157];refine w157 _ _ _ _ _ _ ?_
 simp only[t157,qA];refine zxw hl ho (zcs (f:=x.f) hu hv) fun tf1 t1 c1 k1 k2 k3=>?_
 have hz1:=pI k3 (uF.zs _)
 have a1:=k3.all
 obtain⟨u1,v1,rfl,hu1,hv1⟩:=zci k3
 rw[hz1,xA];have hr:=vS (x:=x) hu1 hv1
 exact aA a1 (aA hr.all (hQ tf1 t1 _ k1 k2 hr))
theorem z64{r:cE}(hl:r.f.n.limbs.length<1000000/\r.f.d.limbs.length<1000000):zea yA.base (Wq yA F lH) 236 r.d:=by
 intro L tf t cs Q ho hd hQ;obtain⟨u,v,rfl,hu,hv⟩:=zih hd
 rw[q236];refine w236 _ _ _ _ _ _ _ ?_
 simp only[t236,qA];refine zxw hl ho (zcs (f:=r.f) hu hv) fun tf1 t1 c1 k1 k2 k3=>?_
 have hz1:=pI k3 (uF.zs _)
 have a1:=k3.all
 obtain⟨u1,v1,rfl,hu1,hv1⟩:=zci k3
 rw[hz1,xA];have hr:=z25 (x:=r) hu1 hv1
 exact aA a1 (aA hr.all (hQ tf1 t1 _ k1 k2 hr))
mutual
def uA.cpy:uA->Prop
 | .mk _ _ v args=>(v.f.n.limbs.length<1000000/\v.f.d.limbs.length<1000000)/\args.length<300000/\uA.cpys args
def uA.cpys:List uA->Prop
 | []=>True
 | x::l=>uA.cpy x/\uA.cpys l
end
mutual
theorem zmf:∀(x:uA),uA.cpy x->zea yA.base (Wq yA F lH) 178 x.d
 | .mk op name v args,h=>by
  intro L tf t cs Q ho hd hQ;obtain⟨a,b,c,rfl,ha,hb,hc⟩:=bI hd
  simp only[uA.op,uA.name,uA.v,uA.args]at ha hb hc ⊢
  unfold uA.cpy at h;rw[q178];refine w178 _ _ _ _ _ _ _ _ _ ?_
  simp only[t178,qA];refine z65 h.1 ho (vS (x:=v) ha hb) fun tf1 t1 c1 k1 k2 k3=>?_
  have hz1:=pI k3 (zB.zs _)
  have a1:=k3.all
  obtain⟨u1,v1,rfl,hu1,hv1⟩:=zey k3
  rw[hz1,xA];refine aA a1 ?_
  rw[q237];refine w237 _ ?_
  simp only[t237,qA];refine iY (ds:=args.map uA.d) el48 zzm (by decide) (fun d hd=>?_) (fun d hd=>?_) (by rw[yag];exact h.2.1) (fun v i t hw=>j237_2 _ _ _ hw) (fun tf2 t2 v2 m1 m2 m3=>?_) (hc.mono k1) k2
  ·obtain⟨x,_,rfl⟩:=List.mem_map.1 hd
   exact x.zs
  ·obtain⟨x,hx,rfl⟩:=List.mem_map.1 hd
   exact zo8 args h.2.2 x hx
  ·have hr:=zct (op:=op) (name:=name) (v:=v) (args:=args) (hu1.mono m1) (hv1.mono m1) m3
   exact aA (by rw[mF];simp only[ybh,ybl,m3.one];rfl) (aA hr.all (hQ tf2 t2 _ (k1.trans m1) m2 hr))
theorem zo8:∀(l:List uA),uA.cpys l->∀x∈l,zea yA.base (Wq yA F lH) 178 x.d
 | [],_,x,hx=>by cases hx
 | y::l,h,x,hx=>by
  unfold uA.cpys at h;rcases yat.1 hx with e | hx
  ·rw[e];exact zmf y h.1
  ·exact zo8 l h.2 x hx
end
theorem z67{x:nE}(hn:x.rows.length<300000)(hr:∀r∈x.rows,r.f.n.limbs.length<1000000/\r.f.d.limbs.length<1000000):zea yA.base (Wq yA F lH) 107 x.d:=by
 intro L tf t cs Q ho hd hQ;obtain⟨a,rfl,ha⟩:=nW hd
 rw[q107];refine w107 _ _ _ ?_
 simp only[t107,qA];rw[q177];refine w177 _ ?_
 simp only[t177,qA];refine iY (ds:=x.rows.map cE.d) el80 sl80 (by decide) (fun d hd=>?_) (fun d hd=>?_) (by rw[yag];exact hn) (fun v i t hw=>j177_2 _ _ _ hw) (fun tf2 t2 v2 m1 m2 m3=>?_) ha ho
 ·obtain⟨r,_,rfl⟩:=List.mem_map.1 hd
  exact r.zs
 ·obtain⟨r,hm,rfl⟩:=List.mem_map.1 hd
  exact z64 (hr r hm)
 ·have hr:=zob (x:=x) m3
  exact aA (by rw[mF];simp only[ybh,ybl,m3.one];rfl) (aA hr.all (hQ tf2 t2 _ m1 m2 hr))
theorem z66{x:dC}(h1:uA.cpy x.when_)(h2:uA.cpy x.then_):zea yA.base (Wq yA F lH) 108 x.d:=by
 intro L tf t cs Q ho hd hQ;obtain⟨a,b,c,a',b',c',rfl,hw,ht⟩:=uY hd
 rw[q108];refine w108 _ _ _ _ _ _ _ _ _ _ _ _ _ _ _ _ _ _ _ _ _ _ _ _ ?_
 simp only[t108,qA];refine zmf _ h1 ho hw fun tf1 t1 c1 k1 k2 k3=>?_
 have hz1:=pI k3 (uA.zs _)
 have a1:=k3.all
 have k3':=k3
 obtain⟨u1,u2,u3,rfl,_⟩:=bI k3'
 rw[hz1,xA];refine aA a1 ?_
 refine zmf _ h2 k2 (RD.mono k1 _ _ ht) fun tf2 t2 c2 m1 m2 m3=>?_
 have hz2:=pI m3 (uA.zs _)
 have a2:=m3.all
 have m3':=m3
 obtain⟨v1,v2,v3,rfl,_⟩:=bI m3'
 rw[hz2,xA];have hr:=zcu (x:=x) (RD.mono m1 _ _ k3) m3
 exact aA a2 (aA hr.all (hQ tf2 t2 _ (k1.trans m1) m2 hr))
structure fF.cpy (p:fF):Prop where
 defs:p.defs.length<300000
 tables:p.tables.length<300000
 clauses:p.clauses.length<300000
 rows:∀x∈p.tables,x.rows.length<300000/\∀r∈x.rows,r.f.n.limbs.length<1000000/\r.f.d.limbs.length<1000000
 exprs:∀x∈p.clauses,uA.cpy x.when_/\uA.cpy x.then_
theorem copy27{p:fF}{L:List zD}{cs:List zA}{Q:kB}(h:fF.cpy p)(ho:Objs yA.base tf t L)(hd:RD tf p.d cs)
  (hQ:∀tf' t' a b c,dA tf tf'->Objs yA.base tf' t' L->oA tf' 3 (p.defs.map vJ.d) a->oA tf' 3 (p.tables.map nE.d) b->oA tf' 24 (p.clauses.map dC.d) c->Q (.agg [.str p.name,a,b,c]) t'):Wc yA F 27 [.agg cs] t Q:=by
 obtain⟨a,b,c,rfl,ha,hb,hc⟩:=yV hd
 refine w27 _ _ _ _ ?_
 simp only[t27,qA,q55,q56,q57];have one:∀ {tf:Tr lA} {sz:Nat} {l:List D} {v:zA},oA tf sz l v->pB zA.one [v]=true:=fun h=>by rw[mF];simp only[ybh,ybl,h.one];rfl
 refine w55 _ (zo9 el22 ha ho (by rw[yag];have:=h.defs;omega) fun tf1 t1 a1 k1 k2 k3=>aA (one k3) ?_)
 refine w56 _ ?_
 simp only[t56,qA];refine iY (ds:=p.tables.map nE.d) el23 sl23 (by decide) (fun d hd=>?_) (fun d hd=>?_) (by rw[yag];exact h.tables) (fun v i t hw=>j56_2 _ _ _ hw) (fun tf2 t2 b1 m1 m2 m3=>aA (one m3) ?_) (hb.mono k1) k2
 ·obtain⟨r,_,rfl⟩:=List.mem_map.1 hd
  exact r.zs
 ·obtain⟨r,hm,rfl⟩:=List.mem_map.1 hd
  exact z67 (h.rows r hm).1 (h.rows r hm).2
 refine w57 _ ?_
 simp only[t57,qA];refine iY (ds:=p.clauses.map dC.d) el24 sl24 (by decide) (fun d hd=>?_) (fun d hd=>?_) (by rw[yag];exact h.clauses) (fun v i t hw=>j57_2 _ _ _ hw) (fun tf3 t3 c1 n1 n2 n3=>aA (one n3) ?_) (hc.mono (k1.trans m1)) m2
 ·obtain⟨r,_,rfl⟩:=List.mem_map.1 hd
  exact r.zs
 ·obtain⟨r,hm,rfl⟩:=List.mem_map.1 hd
  exact z66 (h.exprs r hm).1 (h.exprs r hm).2
 refine aA ?_ (hQ tf3 t3 _ _ _ (k1.trans (m1.trans n1)) n2 (k3.mono (m1.trans n1)) (m3.mono n1) n3)
 rw[mF];simp only[ybh,ybl,k3.one,m3.one,n3.one];rfl
theorem zug{l:List Nat}{u v:zA}{Q:kB}(hu:oA t 1 (lC l) u)(hv:oA t 1 (lC l) v)(hl:l.length<1000000)(hQ:Q (.bool true) t):Wc yA F 239 [u,v] t Q:=by
 refine w239 _ _ ?_
 simp only[t239,qA,hu.len,hv.len,xA,yB,rP];refine qC (fun e=>absurd rfl (lI.1 e)) ?_
 have loop:∀(m i:Nat),i+m=l.length->jp 239 2 [u,v,.int .i64 (i:Int)] t Q:=by
  intro m;induction m with
  | zero=>
   intro i hi;refine z3p _ _ _ ?_
   simp only[ztp,qA,hu.len,xA,yB,rP];exact qC (fun e=>by have:=dB.1 e;omega) hQ
  | succ m ih=>
   intro i hi;obtain⟨x,hx⟩:=getElem?_of_lt (show i<l.length by omega)
   obtain⟨p,o,g1,g2⟩:=oA.idx (C:=yA) zt7 hu hx
   obtain⟨p',o',g3,g4⟩:=oA.idx (C:=yA) zt7 hv hx
   refine z3p _ _ _ ?_
   simp only[ztp,qA,hu.len,xA,yB,rP];refine aA (dB.2 (by omega)) ?_
   rw[g1,xA,g2,xA,yB,xA,g3,xA,g4,xA,yB,xA,zC (by omega) (by omega)]
   exact qC (fun e=>absurd rfl (lI.1 e)) (ih (i+1) (by omega))
 exact loop l.length 0 (by omega)
theorem same60{x:zB}{cs ds:List zA}{Q:kB}(h:RD t x.d cs)(k:RD t x.d ds)(hl:x.f.n.limbs.length<1000000/\x.f.d.limbs.length<1000000)(hQ:Q (.bool true) t):Wc yA F 60 [.agg cs,.agg ds] t Q:=by
 obtain⟨a,b,rfl,ha,hb⟩:=zey h
 obtain⟨a',b',rfl,ha',hb'⟩:=zey k
 refine w60 _ _ _ _ _ _ _ _ _ _ _ _ ?_
 simp only[t60,qA];refine aA (jE.2 rfl) ?_
 rw[q115];refine w115 _ _ _ _ _ _ _ _ ?_
 simp only[t115,qA];rw[q182];refine w182 _ _ _ _ ?_
 simp only[t182,qA];refine aA (by rw[nQ];simp) ?_
 rw[q239];refine zug ha ha' hl.1 ?_
 rw[pD,xA,pD,xA,if_pos rfl,q182];refine w182 _ _ _ _ ?_
 simp only[t182,qA];refine aA (by rw[nQ];simp) ?_
 rw[q239];refine zug hb hb' hl.2 ?_
 rw[pD,xA,pD,xA,pD,xA,if_pos rfl,jE.2 rfl];exact hQ
mutual
theorem zuf:∀(x:uA) (cs ds:List zA) (t:Tr lA) (Q:kB),uA.cpy x->RD t x.d cs->RD t x.d ds->Q (.bool true) t->Wc yA F 29 [.agg cs,.agg ds] t Q
 | .mk op name v args,cs,ds,t,Q,h,hc,hd,hQ=>by
  obtain⟨a,b,c,rfl,ha,hb,he⟩:=bI hc
  obtain⟨a',b',c',rfl,ha',hb',he'⟩:=bI hd
  simp only[uA.op,uA.name,uA.v,uA.args]at ha hb he ha' hb' he' ⊢
  unfold uA.cpy at h;refine w29 _ _ _ _ _ _ _ _ _ _ _ _ _ _ _ _ _ _ ?_
  simp only[t29,qA];refine aA (jE.2 rfl) (aA ((sP _ _).2 rfl) ?_)
  rw[q60];refine same60 (vS (x:=v) ha hb) (vS (x:=v) ha' hb') h.1 ?_
  rw[pD,xA,if_pos rfl,q61];refine w61 _ _ ?_
  simp only[t61,qA,he.len,he'.len,xA,yB,yag];refine qC (fun e=>absurd rfl (lI.1 e)) ?_
  exact zuc args args c c' 0 t _ he he' rfl h.2.2 h.2.1 (by rw[pD,xA];exact hQ)
theorem zuc:∀(l args:List uA) (u v:zA) (i:Nat) (t:Tr lA) (Q:kB),oA t 9 (args.map uA.d) u->oA t 9 (args.map uA.d) v->args.drop i=l->uA.cpys l->args.length<300000->Q (.bool true) t->jp 61 2 [u,v,.int .i64 (i:Int)] t Q
 | [],args,u,v,i,t,Q,hu,hv,hl,_,hsz,hQ=>by
  have:=vX hl
  refine j61_2 _ _ _ ?_
  simp only[z4q,qA,hu.len,xA,yB,yag];exact qC (fun e=>by have:=dB.1 e;omega) hQ
 | x::l,args,u,v,i,t,Q,hu,hv,hl,hc,hsz,hQ=>by
  obtain⟨h1,h2,h3⟩:=uX hl
  unfold uA.cpys at hc;obtain⟨b,off,a1,b1,c1,g1,g2,g3,g4,_⟩:=zdg hu h1
  obtain⟨b',off',a1',b1',c1',g1',g2',g3',g4',_⟩:=zdg hv h1
  refine j61_2 _ _ _ ?_
  simp only[z4q,qA,hu.len,xA,yB,yag];refine aA (dB.2 (by omega)) ?_
  rw[g1,xA,g2,xA,g4,xA,g1',xA,g2',xA,g4',xA,q29];refine zuf x _ _ t _ hc.1 g3 g3' ?_
  rw[pD,xA,zC (by omega) (by omega)]
  exact qC (by simp) (zuc l args u v (i+1) t Q hu hv h2 hc.2 hsz hQ)
end
end Go.Proofs
