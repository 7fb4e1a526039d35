/- one digit. -/
import Derived.Test.YtfmlbimokklmgaaGreatDoorB14
set_option linter.all false
noncomputable section
set_option maxRecDepth 100000
namespace Go.Proofs
open Go Go.Am
variable [jC]
variable {t:Tr vA}
theorem zak{A lu lv Z:List Nat}{v:zA}{b cap m:Nat}{t0 t':Tr vA}{Q:fA}(hv:aA t0 1 (xC .u32 lv) v)(hl:lv.length=m+2)(hm:m<800000)(hlv:mB BB lv)(hbase:yA.base<=b)(hb:t0.get b=none)(hlul:lu.length=m+3)(hlu:mB BB lu)(hcap:m+3<=cap)
  (htop:∀top,lv[m+1]?=some top->2147483648<=top) (hlt:val BB lu<BB*val BB lv) (ht:zB t0 t') (hoff:nF b t t') (ho:qF t' b .u32 (A++lu++Z))
  (hQ:∀t2 r,zB t0 t2->nF b t t2->qF t2 b .u32 (A++(r++[0])++Z)->r.length=m+2->mB BB r->val BB r=val BB lu%val BB lv->val BB lu / val BB lv<BB->Q (.int .u32 ((val BB lu / val BB lv:Nat):Int)) t2) :
  Wc yA F 178 [.slice b A.length (m+3) cap,v] t' Q:=by
 obtain⟨top,h1⟩:=getElem?_of_lt (l:=lv) (i:=m+1) (by omega)
 obtain⟨v2,h2⟩:=getElem?_of_lt (l:=lv) (i:=m) (by omega)
 obtain⟨un,h3⟩:=getElem?_of_lt (l:=lu) (i:=m+2) (by omega)
 obtain⟨u1,h4⟩:=getElem?_of_lt (l:=lu) (i:=m+1) (by omega)
 obtain⟨u2,h5⟩:=getElem?_of_lt (l:=lu) (i:=m) (by omega)
 have b1:top<BB:=jJ hlv h1
 have b2:v2<BB:=jJ hlv h2
 have b3:un<BB:=jJ hlu h3
 have b4:u1<BB:=jJ hlu h4
 have b5:u2<BB:=jJ hlu h5
 have hBB:=cM
 have c1:top<4294967296:=by omega
 have c3:un<4294967296:=by omega
 have c4:u1<4294967296:=by omega
 have htop2:=htop top h1
 obtain⟨hV,hvr⟩:=top2 (B:=BB) xI hlv hl h1 h2
 obtain⟨hU,hur⟩:=top3 (B:=BB) xI hlu hlul h3 h4 h5
 have hVpos:0<val BB lv:=by
  have:0<(top*BB+v2)*BB^m:=Nat.mul_pos (by have:0<top*BB:=Nat.mul_pos (by omega) xI;omega) (Nat.pow_pos xI)
  omega
 have hq:val BB lu / val BB lv<BB:=ycu (by rw[ybh];exact hlt)
 have hread:aA t' 1 (xC .u32 lu) (.slice b A.length (m+3) cap):=by
  have:=ho.slice (off:=A.length) (n:=m+3) (cap:=cap) (by simp;omega) hcap
  rw[ybz,List.drop_left,List.take_left' hlul]at this;exact this
 have hv':=hv.mono ht
 obtain⟨d1,o1,g1,g1'⟩:=hread.idx fF h3
 obtain⟨d2,o2,g2,g2'⟩:=hread.idx fF h4
 obtain⟨d3,o3,g3,g3'⟩:=hv'.idx fF h1
 have hun:un<=top:=by
  rcases yau top un with g | g
  ·exfalso
   have e1:(un*BB)*BB*BB^m<=val BB lu:=by rw[hU,ybo,ybo,ybo];omega
   have e2:val BB lv<(top+1)*BB*BB^m:=by
    have h:top*BB+v2+1<=(top+1)*BB:=by rw[ybo];omega
    have:=ybi (BB^m) h
    rw[ybo (top*BB+v2) 1,Nat.one_mul]at this
    omega
   have e3:BB*val BB lv<BB*((top+1)*BB*BB^m):=Nat.mul_lt_mul_of_pos_left e2 xI
   have e4:BB*((top+1)*BB*BB^m)<=un*BB*BB*BB^m:=by
    have:(top+1)*BB*BB^m<=un*BB*BB^m:=ybi _ (ybi _ g)
    have:=ybv BB this
    calc BB*((top+1)*BB*BB^m)<=BB*(un*BB*BB^m):=this
     _=un*BB*BB*BB^m:=by rw[<- ybj,ybh BB (un*BB)]
   omega
  ·exact g
 have hh:un*BB+u1<=top*BB+(BB-1):=by
  have:=ybi BB hun
  omega
 have hge:val BB lu / val BB lv<=(un*BB+u1) / top:=kn_ge hU hur b5 hV (by omega)
 have hdle:(un*BB+u1) / top<=BB+1:=by
  have:un*BB+u1<(BB+2)*top:=by
   rw[ybo,ybh BB top];generalize top*BB=P at hh ⊢
   generalize un*BB=R at hh ⊢
   omega
  have:=ycu (show un*BB+u1<top*(BB+2) by rw[ybh top];exact this)
  omega
 have hrest:(un*BB+u1)%top<BB:=Nat.lt_trans (ycy _ (by omega)) b1
 refine w178 ?_
 have e1:((lv.length:Nat):Int)=((m+2:Nat):Int):=by rw[hl]
 have e2:((m+2:Nat):Int)-1=((m+1:Nat):Int):=by omega
 have e3:(un:Int)*4294967296=((un*4294967296:Nat):Int):=by omega
 simp (disch:=omega) only[uI,uL,uE,uZ,uW,t178,oA,hv'.len,sA,bB,aH,e1,g1,g1',e2,oC,g2,g2',g3,g3',xF,e3]
 have e4:mH Nat.lor .u64 ((un*4294967296:Nat):Int) (u1:Int)=some (.int .u64 ((un*4294967296+u1:Nat):Int)):=by
  rw[dS (k:=.u64) (show un*4294967296<cF .u64 by show _<18446744073709551616;omega) (show u1<cF .u64 by show _<18446744073709551616;omega)]
  have:=Bx (a:=un) (b:=u1) (n:=32) c4
  rw[show un*4294967296=un*2^32 by rfl,this]
 rw[e4];simp only[sA,bB];have e5:aX .u64 ((un*4294967296+u1:Nat):Int) (top:Int)=some (.int .u64 (((un*4294967296+u1) / top:Nat):Int)):=Xg (by omega) (by
  have h:(un*4294967296+u1) / top<=4294967296+1:=by rw[hBB]at hdle;exact hdle
  generalize (un*4294967296+u1) / top=z at h ⊢
  exact xF (by omega) (by omega))
 rw[e5];simp only[sA,bB];rw[Pl (by omega)]
 simp only[sA,bB];refine VL hread hv' (by omega) h5 h2 b5 b2 (by omega) b1 hU hur hV hvr hq hh (fun d q1 q2 q3=>?_) _ _ ?_ (by rw[hBB]at hge ⊢;exact hge) (by rw[hBB]at hdle ⊢;exact hdle) (by rw[hBB]at hrest ⊢;exact hrest)
 ·refine zcw ?_
  simp only[uI,uZ,AN,oA,hv'.len,sA,bB,aH,e1];have hms:=TI (t:=t) (A:=A) (Z:=Z) (lu:=lu) (lv:=lv) (v:=v) (b:=b) (cap:=cap) (d:=d) (t0:=t0) (Q:=Q) hv (by omega) hlv hbase hb q3 (by omega) hlu (by omega) ?_ lv.length 0 0 0 t' [] (by omega) ht hoff (by simpa using ho) rfl (fun x hx=>by cases hx) (by first | omega | decide) (by first | omega | decide) (by simp[val])
  ·rw[hl]at hms
   exact hms
  ·intro t2 W last bo k1 k2 k3 k4 k5 k6 k7 k8
   have hWall:val BB (W++[last])<BB^(lv.length+1):=by
    have:=jN (B:=BB) xI (mW k5 k6)
    simp only[ybg,ybn,ybx,k4]at this;exact this
   have hVlt:val BB lv<BB^lv.length:=jN xI hlv
   have hdm:=ych (val BB lu) (val BB lv)
   have hmod:val BB lu%val BB lv<val BB lv:=ycy _ hVpos
   have hWs:val BB (W++[last])=val BB W+BB^lv.length*last:=by rw[uM,k4]
   split
   ·rename_i hz
    subst hz;rw[yat,yct]at k8;have hd:d=val BB lu / val BB lv:=by
     refine Nat.le_antisymm ?_ q1
     rw[Nat.le_div_iff_mul_le hVpos];omega
    have hr:val BB (W++[last])=val BB lu%val BB lv:=by
     rw[hd,ybh]at k8;omega
    have hlast:last=0:=by
     rcases yav last with g | g
     ·exact g
     ·exfalso
      have:=ybv (BB^lv.length) g
      rw[Nat.mul_one]at this;omega
    subst hlast;rw[hd];exact hQ t2 W k1 k2 k3 (by omega) k5 (by rw[<- hr,hWs];simp) hq
   ·rename_i hz
    have hbo:bo=1:=by omega
    subst hbo;rw[Nat.mul_one]at k8;have hd:d=val BB lu / val BB lv+1:=by
     refine Nat.le_antisymm q2 ?_
     rcases yau (val BB lu / val BB lv) d with g | g
     ·exact g
     ·exfalso
      have:d*val BB lv<=val BB lu:=Nat.le_trans (ybi _ g) (Nat.div_mul_le_self _ _)
      omega
    have hk9:val BB (W++[last])+val BB lv=val BB lu%val BB lv+BB^(lv.length+1):=by
     rw[hd,ybo,Nat.one_mul,ybh (val BB lu / val BB lv)]at k8
     omega
    refine ZT (t:=t) (A:=A) (Z:=Z) (t0:=t0) hv (by omega) hlv hbase hb (by rw[hd];exact Nat.succ_pos _) (by omega) W k4 k5 last k6 (by omega) (fun t3 r up n1 n2 n3 n4 n5 n6=>?_) lv.length 0 0 t2 [] (by omega) k1 k2 (by simpa using k3) rfl (fun x hx=>by cases hx) (by first | omega | decide) (by simp[val])
    have hrlt:val BB r<BB^lv.length:=by
     have:=jN (B:=BB) xI n4;rw[n3]at this;exact this
    rw[hWs,yag]at hk9;have hfin:val BB r+BB^lv.length*(up+last)=val BB lu%val BB lv+BB^lv.length*BB:=by
     rw[ybm];omega
    have hsplit:up+last=BB/\val BB r=val BB lu%val BB lv:=by
     have hmlt:val BB lu%val BB lv<BB^lv.length:=by omega
     have hB:0<BB^lv.length:=by omega
     have e1:(val BB r+BB^lv.length*(up+last)) / BB^lv.length=up+last:=by rw[Nat.add_mul_div_left _ _ hB,Nat.div_eq_of_lt hrlt];simp
     have e2:(val BB lu%val BB lv+BB^lv.length*BB) / BB^lv.length=BB:=by rw[Nat.add_mul_div_left _ _ hB,Nat.div_eq_of_lt hmlt];simp
     rw[hfin,e2]at e1;refine⟨e1.symm,?_⟩
     rw[<- e1]at hfin;omega
    have hl0:(last+up)%BB=0:=by rw[yap,hsplit.1];exact Nat.mod_self _
    rw[hl0]at n2;have hd1:d-1=val BB lu / val BB lv:=by rw[hd];exact Nat.add_sub_cancel _ _
    rw[hd1];exact hQ t3 r (k1.off hb (fun c hc=>by
     rw[n1 c hc,<- k2 c hc])) n1 n2 (by omega) n4 hsplit.2 hq
 ·rw[ybh,hBB];exact ych _ _
end Go.Proofs
namespace Go.Am
theorem ND{B p K:Nat}(hB:B=p*K)(hp:0<p)(hK:0<K){x y:Nat}{l:List Nat}(hx:x<B) :
  val B (x::y::l) / p=(y*B+x) / p%B+B*(val B (y::l) / p):=by
 have e1:val B (x::y::l)=x+p*(K*val B (y::l)):=by
  show x+B*val B (y::l)=_
  rw[hB,ybj]
 have e2:y*B+x=x+p*(K*y):=by rw[hB,yap,ybh y,ybj]
 have e3:val B (y::l)%p=y%p:=by
  show(y+B*val B l)%p=_
  rw[hB,ybj,Nat.add_mul_mod_self_left]
 have e4:K*y=K*(y%p)+B*(y / p):=by
  grind [Nat.div_add_mod]
 have e5:K*val B (y::l)=K*(y%p)+B*(val B (y::l) / p):=by
  grind [Nat.div_add_mod]
 have e6:x / p<K:=ycu (by omega)
 have e7:x / p+K*(y%p)<B:=by
  have h1:y%p<p:=ycy _ hp
  have h2:K*(y%p+1)<=K*p:=ybv _ h1
  grind
 rw[e1,Nat.add_mul_div_left _ _ hp,e2,Nat.add_mul_div_left _ _ hp,e4,<- Nat.add_assoc,Nat.add_mul_mod_self_left,Nat.mod_eq_of_lt e7,e5,<- Nat.add_assoc]
end Go.Am
namespace Go.Proofs
open Go Go.Am
variable [jC]
variable {t:Tr vA}
theorem PH{l:List Nat}{b L lo hi:Nat}(ho:qF t b .u32 l)(h1:lo<=hi)(h2:hi<=L)(h3:lo<L) :
  sF yA 189 ⟨0,t⟩ (.slice b 0 L L) (some (.int .i64 (lo:Int))) (some (.int .i64 (hi:Int)))=some (.slice b lo (hi-lo) (L-lo)):=by
 obtain⟨c,hg,_⟩:=ho
 obtain⟨⟨y,hy1,hy2⟩,⟨z,hz1,hz2,hz3⟩⟩:=fF
 unfold sF;rw[hy1,qA];have hb:∀y (k:Nat),eU y (.int .i64 (k:Int))=yB (Nat.ble k y) (some k):=fun y k=>rfl
 unfold rM;simp only[zA.asStr,zA.asSlice];rw[hy2,qA];unfold jO;rw[hz1,qA];unfold pP dY;simp only[hb];rw[show Nat.ble hi L=true from qE.2 h2];simp only[mE,qA]
 rw[show Nat.ble lo hi=true from qE.2 h1];simp only[mE,qA];have he2:sM ⟨0,t⟩ b z.size L lo false=false:=by
  unfold sM bD;rw[hg,qA];rfl
 rw[he2,yay,cond_false];have hf:wN ⟨0,t⟩ b z.size L lo false=true:=by
  unfold wN bD;rw[hg,qA];rfl
 rw[show Nat.ble hi L=true from qE.2 h2,hf];simp only[Bool.and_self,mE];have hq:Nat.beq L lo=false:=by
  grind [sC]
 rw[hq,cond_false,hz2,Nat.mul_one,ybw]
theorem NE{qv:zA}{Z c:List Nat}{b n s L cn:Nat}{Q:fA}(hn:n<900000)(hc:c.length=n+1)(hcl:mB BB c)(hcn:c[n]?=some cn)(hbase:yA.base<=b)(hs:s<32)(hL:n+1<=L)
  (hexit:∀t' W,nF b t t'->qF t' b .u32 (W++[cn]++Z)->W.length=n->mB BB W->val BB W+BB^n*(cn / 2^s)=val BB c / 2^s->jp 165 6 [.int .i64 (n:Int),.int .i64 (s:Int),.slice b 0 L L,qv,.int .i64 (n:Int),.int .i64 (n:Int)] t' Q) :
  ∀(k i:Nat) (t':Tr vA) (W:List Nat),i+k=n->nF b t t'->qF t' b .u32 (W++c.drop i++Z)->W.length=i->mB BB W->val BB W+BB^i*(val BB (c.drop i) / 2^s)=val BB c / 2^s →
  jp 165 6 [.int .i64 (n:Int),.int .i64 (s:Int),.slice b 0 L L,qv,.int .i64 (n:Int),.int .i64 (i:Int)] t' Q:=by
 intro k;induction k with
 | zero=>
  intro i t' W hi hoff ho hW hWl hval;have hi':i=n:=by omega
  subst hi'
  have hd:c.drop i=[cn]:=by
   rw[sP hcn,ybt (by omega)]
  grind [val]
 | succ k ih=>
  intro i t' W hi hoff ho hW hWl hval;have hBB:=cM
  obtain⟨x,hx⟩:=getElem?_of_lt (l:=c) (i:=i) (by omega)
  obtain⟨y,hy⟩:=getElem?_of_lt (l:=c) (i:=i+1) (by omega)
  have hx32:x<4294967296:=by have:=jJ hcl hx;omega
  have hy32:y<4294967296:=by have:=jJ hcl hy;omega
  have hd1:c.drop (i+1)=y::c.drop (i+2):=sP hy
  have hd0:c.drop i=x::y::c.drop (i+2):=by rw[sP hx,hd1]
  have m0:=Et (A:=W) (w:=c.drop i) (Z:=Z) (j:=0) (x:=x) (by grind)
  have m1:=Et (A:=W) (w:=c.drop i) (Z:=Z) (j:=1) (x:=y) (by grind)
  rw[hW]at m0 m1;rw[yct]at m0;have g0:=Cn fF (b:=b) (n:=L) (cap:=L) (j:=i) (by omega)
  have g1:=Cn fF (b:=b) (n:=L) (cap:=L) (j:=i+1) (by omega)
  have l0:=ho.load (C:=yA) m0 fG rfl
  have l1:=ho.load (C:=yA) m1 fG rfl
  have ei:(i:Int)+1=((i+1:Nat):Int):=by omega
  have e2:(y:Int)*4294967296=((y*4294967296:Nat):Int):=by omega
  obtain⟨t1,s1,s2,s3⟩:=ho.store (C:=yA) hbase (j:=i) (by grind) ((y*4294967296+x) / 2^s%4294967296) fG rfl
  have hset:=Jj (A:=W) (w:=c.drop i) (Z:=Z) (j:=0) (x:=(y*4294967296+x) / 2^s%4294967296) (by grind)
  rw[yct,hW]at hset;rw[hset]at s2;refine HR ?_
  simp only[uL,uE,nD,uZ,Tk,oA,bF];rw[yab (by omega)]
  simp (disch:=omega) only[ei,oC,g0,g1,sA,l0,l1,bB]
  rw[xF (n:=(y:Int)) (by omega) (by omega),e2,xF (n:=((y*4294967296:Nat):Int)) (by omega) (by omega),xF (n:=(x:Int)) (by omega) (by omega),Ix hy32 hx32,sA,bB,sA,IP (by omega),sA,bB,sA]
  have e3:lA .u32 (((y*4294967296+x) / 2^s:Nat):Int)=(((y*4294967296+x) / 2^s%4294967296:Nat):Int):=by
   grind [xS]
  rw[e3];intro _ _ _;rw[s1,sA];have hw:(y*4294967296+x) / 2^s%4294967296<BB:=by omega
  refine ih (i+1) t1 (W++[(y*4294967296+x) / 2^s%4294967296]) (by omega) (hoff.trans s3) ?_ (by simp[hW]) (mW hWl hw) ?_
  ·grind
  ·have hst:=ND (B:=BB) (p:=2^s) (K:=2^(32-s)) (by rw[<- Nat.pow_add,show s+(32-s)=32 by omega,hBB]) (Nat.pow_pos (by decide)) (Nat.pow_pos (by decide)) (x:=x) (y:=y) (l:=c.drop (i+2)) (by omega)
   rw[<- hval,hd0,hst,uM,hW,hd1,yag,ybm,hBB];grind
end Go.Proofs
namespace Go.Proofs
open Go Go.Am
variable [jC]
variable {t:Tr vA}
theorem XE{lv:List Nat}{v:zA}{b bq m s L Lq U:Nat}{t0:Tr vA}{Q:fA}(hv:aA t0 1 (xC .u32 lv) v)(hl:lv.length=m+2)(hm:m<800000)(hlv:mB BB lv)(hbase:yA.base<=b)(hbaseq:yA.base<=bq)(hb:t0.get b=none)(hbq:t0.get bq=none)(hne:b≠bq)(hL:L<1000000)
  (htop:∀top,lv[m+1]?=some top->2147483648<=top) (hVpos:0<val BB lv)
  (hexit:∀t' q r Z,zB t0 t'->qF t' b .u32 (r++[0]++Z)->qF t' bq .u32 q->r.length=m+2->mB BB r->mB BB q->q.length=Lq->m+3+Z.length=L->val BB r<val BB lv->U=val BB lv*val BB q+val BB r->jp 165 6 [.int .i64 ((m+2:Nat):Int),.int .i64 (s:Int),.slice b 0 L L,.slice bq 0 Lq Lq,.int .i64 ((m+2:Nat):Int),.int .i64 0] t' Q) :
  ∀(j:Nat) (A c Z Qd:List Nat) (t':Tr vA),A.length=j->c.length=m+3->mB BB A->mB BB c->mB BB Qd->A.length+(m+3)+Z.length=L->j+1+Qd.length=Lq->val BB c<BB*val BB lv->zB t0 t'->qF t' b .u32 (A++c++Z)->qF t' bq .u32 (List.replicate (j+1) 0++Qd)->U=val BB lv*(BB^(j+1)*val BB Qd)+val BB (A++c) →
  jp 165 2 [.int .i64 ((m+2:Nat):Int),.int .i64 (s:Int),v,.slice b 0 L L,.slice bq 0 Lq Lq,.int .i64 (j:Int)] t' Q:=by
 intro j;induction j using Nat.strongRecOn with
 | ind j ih=>
  intro A c Z Qd t' hA hc hAl hcl hQl hLen hLq hlt ht ho hoq hU;have gs:=PH (b:=b) (L:=L) (lo:=j) (hi:=j+(m+2)+1) ho (by omega) (by omega) (by omega)
  rw[show j+(m+2)+1-j=m+3 by omega]at gs
  have e1:(j:Int)+((m+2:Nat):Int)=((j+(m+2):Nat):Int):=by omega
  have e2:((j+(m+2):Nat):Int)+1=((j+(m+2)+1:Nat):Int):=by omega
  refine HS ?_
  simp only[uL,uZ,uW,Tl,oA,nJ];rw[yab (by omega)]
  simp (disch:=omega) only[e1,oC,e2,gs,sA,q178]
  subst hA;refine zak (A:=A) (Z:=Z) (t:=t') (t0:=t0) hv hl hm hlv hbase hb hc hcl (by omega) htop hlt ht (nF.refl _ _) ho (fun t2 r k1 k2 k3 k4 k5 k6 k7=>?_)
  have hoq2:=hoq.off (fun e=>hne e.symm) k2
  have g1:=Cn fF (b:=bq) (n:=Lq) (cap:=Lq) (j:=A.length) (by omega)
  obtain⟨t3,s1,s2,s3⟩:=hoq2.store (C:=yA) hbaseq (j:=A.length) (by grind) (val BB c / val BB lv) fG rfl
  have hset:(List.replicate (A.length+1) 0++Qd).set A.length (val BB c / val BB lv)=List.replicate A.length 0++((val BB c / val BB lv)::Qd):=by
   simp_all [List.replicate_succ']
  rw[hset]at s2;rw[bB,sA,g1,sA];intro _ _ _;rw[s1,sA];have ho3:=k3.off hne s3
  have ht3:=k1.off hbq s3
  have hr:val BB r<val BB lv:=by grind [Nat.mod_lt]
  have hdm:=ych (val BB c) (val BB lv)
  have hU2:U=val BB lv*(BB^A.length*val BB ((val BB c / val BB lv)::Qd))+val BB (A++r):=by
   grind [He,val]
  rcases hA:A.length with _ | j'
  ·have hnil:A=[]:=List.eq_nil_of_length_eq_zero hA
   subst hnil;refine HS ?_
   have e3:((0:Nat):Int)-1 = -1:=by omega
   rw[e3];simp only[uL,uZ,uW,Tl,oA,nJ];rw[yaa (by omega)]
   refine hexit t3 _ r Z ht3 (by simp_all) (by omega) k4 k5 (fun x hx=>?_) (by grind) (by omega) hr (by simp_all)
   rcases ybs.1 hx with rfl | hx
   ·exact k7
   ·exact hQl x hx
  ·obtain⟨x,hx⟩:=getElem?_of_lt (l:=A) (i:=j') (by omega)
   have hAx:A=A.take j'++[x]:=by
    rw[<- mO hx,yca (by omega)]
   have hxB:x<BB:=jJ hAl hx
   have e3:((j'+1:Nat):Int)-1=(j':Int):=by omega
   rw[e3];have hvx:val BB (x::r)=x+BB*val BB r:=rfl
   refine ih j' (by omega) (A.take j') (x::r) (0::Z) ((val BB c / val BB lv)::Qd) t3 (by grind) (by simp[k4]) (Aw hAl _) (fun y hy=>?_) (fun y hy=>?_) (by grind) (by grind) ?_ ht3 ?_ ?_ ?_
   ·rcases ybs.1 hy with rfl | hy
    ·exact hxB
    ·exact k5 y hy
   ·rcases ybs.1 hy with rfl | hy
    ·exact k7
    ·exact hQl y hy
   ·rw[hvx]
    have:=ybv BB hr
    rw[Nat.mul_succ]at this;omega
   ·have:A.take j'++x::r++0::Z=A++(r++[0])++Z:=by
     conv=>rhs;rw[hAx]
     simp
    grind
   ·grind
   ·rw[hU2,hA]
    have:A++r=A.take j'++x::r:=by
     grind
    rw[this]
end Go.Proofs
namespace Go.Am
theorem XD{a b q R p:Nat}(hp:0<p)(h:a*p=b*p*q+R)(hR:R<b*p):a=b*q+R / p/\R / p<b:=by
 have h1:p ∣ R:=(Nat.dvd_add_right (⟨b*q,by rw[ybh b p,ybj]⟩:p ∣ b*p*q)).1 (h ▸ ⟨a,ybh a p⟩)
 obtain⟨R',rfl⟩:=h1
 rw[Nat.mul_div_cancel_left _ hp];refine⟨Nat.eq_of_mul_eq_mul_left hp ?_,Nat.lt_of_mul_lt_mul_left (a:=p) ?_⟩
 all_goals grind
theorem div_v{B p K n top:Nat}{b rb:List Nat}(hB:B=p*K)(hp:0<p)(hlt:mB B b)(hl:b.length=n+1)(htop:b[n]?=some top)(ht:top*p<B)(hbig:B<=2*(top*p))(hrl:mB B rb)(hrb:rb.length=n+2)(hv:val B rb=val B b*p) :
  val B (rb.take (n+1))=val B b*p/\∀x,(rb.take (n+1))[n]?=some x->B<=2*x:=by
 have hB0:0<B:=by omega
 have hbv:val B b=val B (b.take n)+B^n*top:=by
  have:=Bo B b n
  simp_all [sP,ybt,val]
 have hlow:val B (b.take n)<B^n:=by
  have:=jN hB0 (Aw hlt n)
  simp_all
 have hK:top<K:=by
  simp_all [ybh]
 have hup:val B b*p<B^(n+1):=by
  have h1:val B b<B^n*(top+1):=by grind
  have h2:B^n*(top+1)<=B^n*K:=ybv _ hK
  have h3:val B b*p<B^n*K*p:=Nat.mul_lt_mul_of_pos_right (by omega) hp
  grind
 have hsplit:=Bo B rb (n+1)
 have htl:(rb.take (n+1)).length=n+1:=by grind
 rw[htl]at hsplit;have hz:val B (rb.drop (n+1))=0:=by
  rcases yav (val B (rb.drop (n+1)))with h | h
  ·exact h
  ·exfalso
   have:=ybv (B^(n+1)) h
   omega
 have hval:val B (rb.take (n+1))=val B b*p:=by simp_all
 refine⟨hval,fun x hx=>?_⟩
 have h1:val B (rb.take (n+1))=val B ((rb.take (n+1)).take n)+B^n*x:=by
  have:=Bo B (rb.take (n+1)) n
  simp_all [sP,ybt,val]
 have h2:val B ((rb.take (n+1)).take n)<B^n:=by
  grind [jN,Aw]
 have h3:B^n*(top*p)<=val B b*p:=by
  grind [Nat.add_mul]
 have h4:B^n*(top*p)<B^n*(x+1):=by grind
 have h5:top*p<x+1:=Nat.lt_of_mul_lt_mul_left h4
 omega
theorem div_u{B p n j:Nat}{a b ru:List Nat}(hB0:0<B)(hal:mB B a)(hb:B^n<=val B b)(hj:a.length=j+(n+1))(hru:ru.length=a.length+1)(hp:0<p)(hv:val B ru=val B a*p):val B (ru.drop j)<B*(val B b*p):=by
 have h1:=Bo B ru j
 have htl:(ru.take j).length=j:=by grind
 rw[htl]at h1;have h2:val B a<B^(j+(n+1)):=by grind [jN]
 have h3:val B a*p<B^(j+(n+1))*p:=Nat.mul_lt_mul_of_pos_right h2 hp
 have h4:B^(j+(n+1))*p=B^j*(B*(B^n*p)):=by
  rw[Nat.pow_add,yag,ybh (B^n) B,ybj,ybj]
 have h5:B^j*val B (ru.drop j)<B^j*(B*(B^n*p)):=by omega
 have h6:=Nat.lt_of_mul_lt_mul_left h5
 have h7:B*(B^n*p)<=B*(val B b*p):=ybv _ (ybi _ hb)
 omega
end Go.Am
namespace Go.Proofs
open Go Go.Am
variable [jC]
variable {t:Tr vA}
theorem BR{l:List Nat}{b L hi:Nat}(ho:qF t b .u32 l)(h2:hi<=L)(h3:0<L) :
  sF yA 189 ⟨0,t⟩ (.slice b 0 L L) none (some (.int .i64 (hi:Int)))=some (.slice b 0 hi L):=by
 obtain⟨c,hg,_⟩:=ho
 obtain⟨⟨y,hy1,hy2⟩,⟨z,hz1,hz2,hz3⟩⟩:=fF
 unfold sF;rw[hy1,qA];have hb:∀y (k:Nat),eU y (.int .i64 (k:Int))=yB (Nat.ble k y) (some k):=fun y k=>rfl
 unfold rM;simp only[zA.asStr,zA.asSlice];rw[hy2,qA];unfold jO;rw[hz1,qA];unfold pP dY;simp only[hb];rw[show Nat.ble hi L=true from qE.2 h2];simp only[mE,qA]
 have he2:sM ⟨0,t⟩ b z.size L 0 false=false:=by
  unfold sM bD;rw[hg,qA];rfl
 rw[he2,yay,cond_false];have hf:wN ⟨0,t⟩ b z.size L 0 false=true:=by
  unfold wN bD;rw[hg,qA];rfl
 grind [qE,mE]
theorem CG{b o n c:Nat}:same 10 (.slice b o n c) (.slice b o n c)=true:=by
 simp[same]
theorem XC{q W Z:List Nat}{b bq n s L Lq:Nat}{Q:fA}(ho:qF t b .u32 (W++[0]++Z))(hoq:qF t bq .u32 q)(hW:W.length=n)(hn:n<1000000)(hL:n+1+Z.length=L)(hq:q.length=Lq)(hLq:Lq<1000000)
  (hQ:∀qv rv,aA t 1 (xC .u32 (wE q)) qv->aA t 1 (xC .u32 (wE W)) rv->Q (.tup [qv,rv]) t) :
  jp 165 6 [.int .i64 (n:Int),.int .i64 (s:Int),.slice b 0 L L,.slice bq 0 Lq Lq,.int .i64 (n:Int),.int .i64 (n:Int)] t Q:=by
 have e1:=BR (L:=L) (hi:=n) ho (by omega) (by omega)
 have e2:aA t 1 (xC .u32 W) (.slice b 0 n L):=by
  have:=ho.slice (off:=0) (n:=n) (cap:=L) (by grind) (by omega)
  simp_all
 have e3:aA t 1 (xC .u32 q) (.slice bq 0 Lq Lq):=by
  have:=hoq.all (cap:=Lq) (by omega)
  simp_all
 obtain⟨qv,f1,f2⟩:=pZ (by omega) e3
 obtain⟨rv,f3,f4⟩:=pZ (by omega) e2
 refine HR ?_
 simp only[uL,uE,nD,uZ,Tk,oA,bF];rw[yaa (by omega)]
 simp only[e1,sA,Cf,f1,f3];grind [CG]
theorem Yd{a b:List Nat}{u v:zA}{Q:fA}(hu:aA t 1 (xC .u32 a) u)(hv:aA t 1 (xC .u32 b) v)(ha:a.length<700000)(hal:mB BB a)(hbl:mB BB b)(han:norm a)(hbn:norm b)(hb0:b≠[])
  (hQ:∀t' q r qv rv,zB t t'->aA t' 1 (xC .u32 q) qv->aA t' 1 (xC .u32 r) rv->mB BB q->mB BB r->norm q->norm r->val BB a=val BB b*val BB q+val BB r->val BB r<val BB b->Q (.tup [qv,rv]) t') :
  Wc yA F 165 [u,v] t Q:=by
 have hBB:=cM
 have hB1:1<BB:=by omega
 have hlt:=KN hB1 hal hbl han hbn
 refine w165 ?_
 simp only[uI,uL,uX,uZ,uW,t165,oA,q169,zbg (by omega) hu hv,sA,bB,bF]
 by_cases hc:cL a b<0
 ·rw[yab hc]
  simp only[q174];refine zaz hu (by omega) fun t' v' h1 h2=>?_
  exact hQ t' [] a _ _ h1 ⟨[],.inl ⟨rfl,rfl⟩,by simp[xC,dD]⟩ h2 (fun x hx=>by cases hx) hal (fun h=>absurd rfl h) han (by simp[val]) (hlt.1 hc)
 ·rw[yaa hc]
  have hge:val BB b<=val BB a:=Nat.le_of_not_lt fun h=>hc (hlt.2 h)
  have hlen:b.length<=a.length:=tQ hB1 hal hbn hge
  simp only[hv.len,sA,bB,aH,oN];by_cases h1:b.length=1
  ·rw[yab (by omega)]
   obtain⟨d,rfl⟩:∃d,b=[d]:=by
    match b,h1 with
    | [d],_=>simp_all
   have hd:d<4294967296:=by have:=hbl d (by simp);omega
   have hd0:0<d:=by have:=hbn (by simp);grind
   obtain⟨c,off,g1,g2⟩:=hv.idx fF (i:=0) (x:=d) rfl
   have g1':aB yA 189 v (.int .i64 0)=some (.ptr c off):=g1
   simp only[g1',g2,sA,bB,q175];refine WU hu (by omega) (by simp_all) hd hd0 fun t' v' q r k1 k2 k3 k4 k5 k6=>?_
   simp only[wH,zA.asTup,qA,zG,yaz,yba,sA,bB];intro b' hb' _;obtain⟨H',m1,m2,m3⟩:=zcn (k:=.u32) aK rfl fG rfl rfl r trivial hb'
   have hR:=m2.all (cap:=1) (by simp)
   obtain⟨rv,f1,f2⟩:=pZ (by simp) hR
   have f1':fB yA F 140 [.slice b' 0 1 1] H'.t=some rv:=f1
   rw[m1];simp only[sA,Cf,f1'];rw[<- hBB]at k3 k6;have hrl:mB BB [r]:=fun x hx=>by grind
   refine hQ H'.t (wE q) (wE [r]) v' rv (k1.trans m3) (k2.mono m3) f2 (aR k3) (aR hrl) (zU _) (zU _) ?_ ?_
   all_goals grind [mT,val]
  ·rw[yaa (by omega)]
   have hbpos:0<b.length:=List.length_pos_iff.2 hb0
   obtain⟨m,hm⟩:∃m,b.length=m+2:=⟨b.length-2,by omega⟩
   obtain⟨j,hj⟩:∃j,a.length=j+(m+2):=⟨a.length-(m+2),by omega⟩
   obtain⟨top,htop⟩:=getElem?_of_lt (l:=b) (i:=m+1) (by omega)
   have htlt:top<4294967296:=by have:=jJ hbl htop;omega
   have ht0:0<top:=by
    have:=hbn hb0
    grind
   obtain⟨s,hs,hs1,hs2,hs3⟩:=EX (t:=t) htlt ht0
   obtain⟨c,off,g1,g2⟩:=hv.idx fF htop
   have eb:((m+2:Nat):Int)-1=((m+1:Nat):Int):=by omega
   simp (disch:=omega) only[hm,eb,oC,g1,g2,sA,bB,q176,hs3,q177]
   refine BV hv (by omega) (by simp_all) hs fun t1 b1 rb k1 k2 k3 k4 k5 k6 k7=>?_
   rw[<- hBB]at k6 k7;rw[hm]at k5 ⊢
   have hK:BB=2^s*2^(32-s):=by rw[<- Nat.pow_add,show s+(32-s)=32 by omega,hBB]
   have hp:0<2^s:=Nat.pow_pos (by decide)
   obtain⟨w1,w2⟩:=div_v (n:=m+1) hK hp hbl hm htop (by omega) (by omega) k6 k5 k7
   have e1:=BR (L:=m+2+1) (hi:=m+2) k4 (by omega) (by omega)
   have hv1:aA t1 1 (xC .u32 (rb.take (m+2))) (.slice b1 0 (m+2) (m+2+1)):=by
    have:=k4.slice (off:=0) (n:=m+2) (cap:=m+2+1) (by omega) (by omega)
    simp_all
   simp only[e1,sA];refine BV (hu.mono k1) (by omega) (by simp_all) hs fun t2 b2 ra n1 n2 n3 n4 n5 n6 n7=>?_
   rw[<- hBB]at n6 n7;rw[hj]at n5 ⊢
   have ea:((j+(m+2):Nat):Int)-((m+2:Nat):Int)=(j:Int):=by omega
   have ea2:(j:Int)+1=((j+1:Nat):Int):=by omega
   simp (disch:=omega) only[hu.len,aH,hj,sA,bB,ea,ea2,oC]
   intro bq hbq hbaseq;obtain⟨t3,p1,p2,p3,p4⟩:=Cj (C:=yA) (k:=.u32) aK rfl fG rfl rfl (by decide) (n:=j+1) (by omega) hbq
   rw[p1];have el:mC (.slice bq 0 (j+1) (j+1))=some (.int .i64 ((j+1:Nat):Int)):=rfl
   have el2:((j+1:Nat):Int)-1=(j:Int):=by omega
   simp (disch:=omega) only[sA,el,bB,el2,oC]
   have hne:b2≠bq:=by
    intro e;obtain⟨c,hc1,_⟩:=n4
    simp_all
   have hbq1:t1.get bq=none:=by
    cases hg:t1.get bq with
    | none=>rfl
    | some x=>rw[n1 _ _ hg]at hbq;cases hbq
   have hVpos:0<val BB (rb.take (m+2)):=by
    rw[w1];refine Nat.mul_pos ?_ hp
    have:=Rp (B:=BB) hbn hb0
    grind
   have hbge:BB^(m+1)<=val BB b:=by
    have:=Rp (B:=BB) hbn hb0
    simp_all
   have hcl:=div_u (n:=m+1) (j:=j) (p:=2^s) xI hal hbge (by omega) (by omega) hp n7
   have hta:ra.take j++ra.drop j=ra:=List.take_append_drop _ _
   refine XE (U:=val BB ra) hv1 (by grind) (by omega) (Aw k6 _) n3 hbaseq n2 hbq1 hne (by omega) (fun x hx=>by grind) hVpos (fun t4 q r Z z1 z2 z3 z4 z5 z6 z7 z8 z9 z10=>?_) j (ra.take j) (ra.drop j) [] [] t3 (by grind) (by grind) (Aw n6 _) (Yw n6 _) (fun x hx=>by cases hx) (by grind) (by simp) ?_ (n1.trans p3) ?_ (by simp_all) ?_
   ·have hcl2:mB BB (r++[0]):=mW z5 xI
    refine NE (t:=t4) (Z:=Z) (c:=r++[0]) (cn:=0) (by omega) (by simp[z4]) hcl2 (by simp_all) n3 hs (by omega) (fun t5 W y1 y2 y3 y4 y5=>?_) (m+2) 0 t4 [] (by omega) (nF.refl _ _) (by simp_all) rfl (fun x hx=>by cases hx) (by rw[ycr,Nat.pow_zero,Nat.one_mul];exact ybw _)
    have y6:val BB W=val BB r / 2^s:=by
     grind [uM,Nat.zero_div]
    rw[w1]at z9 z10;rw[n7]at z10;obtain⟨x1,x2⟩:=XD hp z10 z9
    refine XC y2 (z3.off (fun e=>hne e.symm) y1) y3 (by omega) (by omega) z7 (by omega) fun qv rv x3 x4=>?_
    have ht5:zB t t5:=k1.trans (z1.off n2 y1)
    grind [aR,zU,mT]
   ·simp_all
   ·rw[hta,ycd];exact n4.tle p3
   simp_all [val]
end Go.Proofs
namespace Go.Am
def wd (l:List Nat)(i:Nat):Nat:=(l[i]?).getD 0
theorem Bk{B:Nat}(hB:0<B){l:List Nat}(h:mB B l)(i:Nat):wd l i<B:=by
 unfold wd
 cases hx:l[i]? with
 | none=>exact hB
 | some x=>exact jJ h hx
theorem Hc(B:Nat)(l:List Nat)(i:Nat):val B (l.take (i+1))=val B (l.take i)+B^i*wd l i:=by
 unfold wd
 cases hx:l[i]? with
 | none=>
  grind [List.take_of_length_le]
 | some x=>
  have hi:=(ybc.1 hx).1
  rw[mO hx,uM];grind
theorem XG{B P u v Va Vb w x y bo ai bi x' y' lx ly bo' W:Nat}(h:W+P*x+v*Vb=u*Va+P*(y+bo))(hx:B*x'+lx=x+u*ai)(hy:B*y'+ly=y+v*bi)(hw:lx+B*bo'=w+ly+bo) :
  (W+P*w)+P*B*x'+v*(Vb+P*bi)=u*(Va+P*ai)+P*B*(y'+bo'):=by
 grind
theorem zan{P W x z X Y:Nat}(h:W+P*x+Y=X+P*z)(hW:W<P)(hX:X<P)(hle:Y<=X):W=X-Y:=by
 rcases Nat.lt_trichotomy x z with g | g | g
 ·have:=ybv P g
  grind
 ·grind
 ·have:=ybv P g
  grind
theorem KX{B u x a:Nat}(hx:x<=u)(ha:a<B):(x+u*a) / B<=u:=by
 have h:x+u*a<=u*B:=by
  have:=ybv u (Nat.succ_le_of_lt ha)
  grind
 simp_all [Nat.div_le_of_le_mul,ybh]
end Go.Am
namespace Go.Proofs
open Go Go.Am
variable [jC]
variable {t:Tr vA}
theorem DL{x u a:Nat}(hx:x<=u)(hu:u<4294967296)(ha:a<4294967296):lA .u64 ((x:Int)+lA .u64 ((u:Int)*lA .u64 (a:Int)))=((x+u*a:Nat):Int):=by
 have h:u*a<=4294967295*4294967295:=ydb (by omega) (by omega)
 grind [xF]
theorem XF{la lb:List Nat}{pa pb w:zA}{u v x y bo n i:Nat}{Q:fA}(ha:aA t 1 (xC .u32 la) pa)(hb:aA t 1 (xC .u32 lb) pb)(hal:mB BB la)(hbl:mB BB lb)(hu:u<4294967296)(hv:v<4294967296)(hx:x<=u)(hy:y<=v)(hi:i<n)
  (h:jp 171 21 [.int .u64 (u:Int),pa,.int .u64 (v:Int),pb,w,.int .u64 ((x+u*wd la i:Nat):Int),.int .u64 ((y+v*wd lb i:Nat):Int),.int .u32 (bo:Int),.int .i64 (i:Int),.int .i64 (n:Int),.int .i64 (i:Int)] t Q) :
  jp 171 2 [.int .u64 (u:Int),pa,.int .u64 (v:Int),pb,w,.int .u64 (x:Int),.int .u64 (y:Int),.int .u32 (bo:Int),.int .i64 (n:Int),.int .i64 (i:Int)] t Q:=by
 have hBB:=cM
 have second:jp 171 17 [.int .u64 (u:Int),pa,.int .u64 (v:Int),pb,w,.int .u64 ((x+u*wd la i:Nat):Int),.int .u64 (y:Int),.int .u32 (bo:Int),.int .i64 (i:Int),.int .i64 (n:Int),.int .i64 (i:Int)] t Q:=by
  refine zcy ?_
  simp only[uI,uL,uZ,AQ,oA,hb.len,sA,bB,aH,bF];by_cases hlen:i<lb.length
  ·obtain⟨z,hz⟩:=getElem?_of_lt hlen
   have hz32:z<4294967296:=by have:=jJ hbl hz;omega
   obtain⟨c,off,g1,g2⟩:=hb.idx fF hz
   grind [sA,bB,DL,wd]
  grind [wd]
 refine HP ?_
 simp only[uI,uL,uZ,Ti,oA,bF];rw[yab (by omega)]
 simp only[ha.len,sA,bB,aH];by_cases hlen:i<la.length
 ·obtain⟨z,hz⟩:=getElem?_of_lt hlen
  have hz32:z<4294967296:=by have:=jJ hal hz;omega
  obtain⟨c,off,g1,g2⟩:=ha.idx fF hz
  grind [sA,bB,DL,wd]
 grind [wd]
end Go.Proofs
namespace Go.Proofs
open Go Go.Am
variable [jC]
variable {t:Tr vA}
theorem XH{la lb:List Nat}{pa pb:zA}{b u v n:Nat}{t0:Tr vA}{Q:fA}(ha:aA t0 1 (xC .u32 la) pa)(hb:aA t0 1 (xC .u32 lb) pb)(hal:mB BB la)(hbl:mB BB lb)(hu:u<4294967296)(hv:v<4294967296)(hn:n<1000000)(hbase:yA.base<=b)(hb0:t0.get b=none)
  (hQ:∀t' W rv x z,zB t0 t'->aA t' 1 (xC .u32 (wE W)) rv->W.length=n->mB BB W->val BB W+BB^n*x+v*val BB (lb.take n)=u*val BB (la.take n)+BB^n*z->Q rv t') :
  ∀(k i x y bo:Nat) (t':Tr vA) (W:List Nat),i+k=n->zB t0 t'->qF t' b .u32 (W++List.replicate k 0)->W.length=i->mB BB W->x<=u->y<=v->bo<2->val BB W+BB^i*x+v*val BB (lb.take i)=u*val BB (la.take i)+BB^i*(y+bo) →
  jp 171 2 [.int .u64 (u:Int),pa,.int .u64 (v:Int),pb,.slice b 0 n n,.int .u64 (x:Int),.int .u64 (y:Int),.int .u32 (bo:Int),.int .i64 (n:Int),.int .i64 (i:Int)] t' Q:=by
 intro k;have hBB:=cM
 induction k with
 | zero=>
  intro i x y bo t' W hi ht ho hW hWl hx hy hbo hval;have hi':i=n:=by omega
  subst hi'
  have e3:aA t' 1 (xC .u32 W) (.slice b 0 i i):=by
   rw[List.replicate_zero,ycd]at ho;have:=ho.all (cap:=i) (by omega)
   simp_all
  obtain⟨rv,f1,f2⟩:=pZ (by omega) e3
  refine HP ?_
  simp only[uI,uL,uZ,Ti,oA,bF];rw[yaa (by omega)]
  simp only[Cf,f1,sA];grind
 | succ k ih=>
  intro i x y bo t' W hi ht ho hW hWl hx hy hbo hval;refine XF (ha.mono ht) (hb.mono ht) hal hbl hu hv hx hy (by omega) ?_
  have wa:=Bk xI hal i
  have wb:=Bk xI hbl i
  have cx:=KX hx wa
  have cy:=KX hy wb
  have va:=Hc BB la i
  have vb:=Hc BB lb i
  generalize wd la i=ai at *
  generalize wd lb i=bi at *
  generalize hX:x+u*ai=X at *
  generalize hY:y+v*bi=Y at *
  have ex:lA .u32 (X:Int)=((X%4294967296:Nat):Int):=by rw[xS];omega
  have ey:lA .u32 (Y:Int)=((Y%4294967296:Nat):Int):=by rw[xS];omega
  have fx:Int.fdiv (X:Int) 4294967296=((X / 4294967296:Nat):Int):=Al X 4294967296
  have fy:Int.fdiv (Y:Int) 4294967296=((Y / 4294967296:Nat):Int):=Al Y 4294967296
  have hs:=OG (t:=t') (x:=X%4294967296) (y:=Y%4294967296) (b:=bo) (ycy _ (by decide)) (ycy _ (by decide)) hbo
  obtain⟨w,hw⟩:∃w,w=(X%4294967296+8589934592-Y%4294967296-bo)%4294967296:=⟨_,rfl⟩
  obtain⟨bo',hbo'⟩:∃bo':Nat,bo'=if X%4294967296<Y%4294967296+bo then 1 else 0:=⟨_,rfl⟩
  rw[<- hw,<- hbo']at hs;have hwlt:w<BB:=by omega
  have hb2:bo'<2:=by rw[hbo'];split<;>omega
  have hsum:X%4294967296+4294967296*bo'=w+Y%4294967296+bo:=by
   rw[hw,hbo'];split<;>omega
  have g1:=Cn fF (b:=b) (n:=n) (cap:=n) (j:=i) (by omega)
  obtain⟨t1,s1,s2,s3⟩:=ho.store (C:=yA) hbase (j:=i) (by grind) w fG rfl
  have hset:=Nc (p:=W) (n:=k) (x:=w)
  rw[hW]at hset;rw[hset]at s2;have ei:(i:Int)+1=((i+1:Nat):Int):=by omega
  refine zcx ?_
  simp only[uL,nD,uX,uZ,AP,oA,ex,ey,q179,hs,sA,wH,zA.asTup,qA,zG,yaz,yba,bB,g1,fx,fy,ei];intro _ _ _;rw[s1,sA,oC (by omega) (by omega)]
  rw[hBB]at cx cy;refine ih (i+1) (X / 4294967296) (Y / 4294967296) bo' t1 (W++[w]) (by omega) (ht.off hb0 s3) s2 (by simp[hW]) (mW hWl hwlt) cx cy hb2 ?_
  have hst:=XG (B:=BB) (P:=BB^i) (ai:=ai) (bi:=bi) (x':=X / 4294967296) (y':=Y / 4294967296) (lx:=X%4294967296) (ly:=Y%4294967296) (w:=w) (bo':=bo') hval (by grind) (by grind) (by simp_all)
  grind [uM]
theorem Qb{la lb:List Nat}{pa pb:zA}{u v:Nat}{Q:fA}(ha:aA t 1 (xC .u32 la) pa)(hb:aA t 1 (xC .u32 lb) pb)(hal:mB BB la)(hbl:mB BB lb)(hu:u<4294967296)(hv:v<4294967296)(hla:la.length<700000)(hlb:lb.length<700000)(hge:v*val BB lb<=u*val BB la)
  (hQ:∀t' r rv,zB t t'->aA t' 1 (xC .u32 r) rv->mB BB r->norm r->val BB r=u*val BB la-v*val BB lb->Q rv t') :
  Wc yA F 171 [.int .u64 (u:Int),pa,.int .u64 (v:Int),pb] t Q:=by
 have hBB:=cM
 refine w171 ?_
 simp only[uI,uZ,uW,t171,oA,ha.len,hb.len,sA,bB,aH];obtain⟨n,hn1,hn2,hn3,hn4⟩:∃n:Nat,(bif yC (la.length:Int) (lb.length:Int)then(lb.length:Int)else(la.length:Int))+1=(n:Int)/\la.length<n/\lb.length<n/\n<700002:=by
  cases hc:yC (la.length:Int) (lb.length:Int)with
  | true=>have:=bF.1 hc;exact⟨lb.length+1,by simp,by omega,by omega,by omega⟩
  | false=>
   have:¬ ((la.length:Int)<(lb.length:Int)):=fun h=>by grind [bF]
   exact⟨la.length+1,by simp,by omega,by omega,by omega⟩
 rw[hn1,oC (by omega) (by omega)]
 intro b hb0 hbase;obtain⟨t',g1,g2,g3,g4⟩:=Cj (C:=yA) (k:=.u32) aK rfl fG rfl rfl (by decide) (n:=n) (by omega) hb0
 rw[g1];have el:mC (.slice b 0 n n)=some (.int .i64 (n:Int)):=rfl
 simp only[sA,el,bB];refine XH ha hb hal hbl hu hv (by omega) hbase hb0 (fun t2 W rv x z k1 k2 k3 k4 k5=>?_) n 0 0 0 0 t' [] (by omega) g3 (by simp_all) rfl (fun x hx=>by cases hx) (by omega) (by omega) (by omega) (by simp[val])
 rw[yca (by omega),yca (by omega)]at k5
 have hP:u*val BB la<BB^n:=by
  have h1:=jN xI hal
  have h2:BB^(la.length+1)<=BB^n:=yao xI (by omega)
  have h3:u*val BB la<=u*BB^la.length:=ybv _ (Nat.le_of_lt h1)
  have h4:u*BB^la.length<BB*BB^la.length:=Nat.mul_lt_mul_of_pos_right (by omega) (Nat.pow_pos xI)
  grind
 grind [jN,zan,aR,zU,mT]
end Go.Proofs
namespace Go.Proofs
open Go Go.Am
variable [jC]
variable {t:Tr vA}
theorem zd6{v:zA}{l:List Nat}{b:Nat}(hv:aA t 1 (xC .u32 l) v)(hb:t.get b=none) :
  ∃H',jL v ⟨b,t⟩=some (.ptr b 0,H')/\zB t H'.t/\iA yA 189 ⟨0,H'.t⟩ (.ptr b 0)=some v:=by
 have hc:v.cells=[v]:=by
  obtain⟨cl,h1,_⟩:=hv
  rcases h1 with⟨rfl,_⟩ | ⟨_,_,_,rfl,_⟩<;>rfl
 refine⟨dE ⟨b,t⟩ [v] none,by unfold jL;rw[hc],?_,?_⟩
 ·intro c u hg
  show(t.set b _).get c=_
  grind [Tr.get_set]
 ·have hg:(dE ⟨b,t⟩ [v] none).t.get b=some (.cells (Tr.ofList [v]) 1 none):=by
   show(t.set b _).get b=_
   rw[Tr.get_set,yab rfl];rfl
  unfold iA;simp only[zA.asPtr,qA];rw[aK,qA];unfold bD;rw[hg,qA];simp only[vA.asCells,qA];unfold sQ;first
   | rfl
   | (rw[cond_false,Tr.get_ofList];rfl)
theorem Rl{v:zA}{l:List Nat}{b i:Nat}(hv:aA t 1 (xC .u32 l) v)(hl:mB BB l)(hload:iA yA 189 ⟨0,t⟩ (.ptr b 0)=some v):fB yA F 189 [.int .i64 (i:Int),.ptr b 0] t=some (.int .u64 ((wd l i:Nat):Int)):=by
 have hBB:=cM
 refine tE.2 (w189 ?_)
 simp only[uI,uL,uZ,t189,oA,hload,sA,hv.len,bB,aH,nJ];by_cases h:i<l.length
 ·obtain⟨x,hx⟩:=getElem?_of_lt h
  have hx32:x<4294967296:=by have:=jJ hl hx;omega
  obtain⟨c,off,g1,g2⟩:=hv.idx fF hx
  grind [sA,bB,xF,wd]
 grind [wd]
theorem IW{v:zA}{l:List Nat}{n s:Nat}(hv:aA t 1 (xC .u32 l) v)(hl:mB BB l)(hn:3<=n)(hn2:n<1000000)(hs:s<32)(hb:(wd l (n-1)*4294967296+wd l (n-2))*2^s<18446744073709551616) :
  fB yA F 182 [v,.int .i64 (n:Int),.int .i64 (s:Int)] t=some (.int .u64 (((wd l (n-1)*4294967296+wd l (n-2))*2^s+wd l (n-3) / 2^(32-s):Nat):Int)):=by
 have hBB:=cM
 refine vX (w182 ?_)
 simp only[uE,uZ,uW,t182,oA];intro b hb0 _;obtain⟨H',g1,g2,g3⟩:=zd6 hv hb0
 rw[g1,sA];have w1:=Bk xI hl (n-1)
 have w2:=Bk xI hl (n-2)
 have w3:=Bk xI hl (n-3)
 have c1:=Rl (i:=n-1) (hv.mono g2) hl g3
 have c2:=Rl (i:=n-2) (hv.mono g2) hl g3
 have c3:=Rl (i:=n-3) (hv.mono g2) hl g3
 generalize wd l (n-1)=x1 at *
 generalize wd l (n-2)=x2 at *
 generalize wd l (n-3)=x3 at *
 have e1:(n:Int)-1=((n-1:Nat):Int):=by omega
 have e2:(n:Int)-2=((n-2:Nat):Int):=by omega
 have e3:(n:Int)-3=((n-3:Nat):Int):=by omega
 have e4:(32:Int)-(s:Int)=((32-s:Nat):Int):=by omega
 have f:∀a,wK (.func (.func 189) [] [.ptr b 0]) [a]=some (189,[a,.ptr b 0]):=fun _=>rfl
 have e5:(x1:Int)*4294967296=((x1*4294967296:Nat):Int):=by omega
 rw[f,sA,e1,oC (by omega) (by omega),q189,c1,sA,bB,sA,f,sA,e2,oC (by omega) (by omega),q189,c2,sA,bB,sA,e5,xF (by omega) (by omega),Ix (by omega) (by omega),sA,bB,sA,IQ (by omega) hb,sA,bB,sA,f,sA,e3,oC (by omega) (by omega),q189,c3,sA,bB,sA,e4,oC (by omega) (by omega),IP (by omega),sA,bB,sA]
 have hz:x3 / 2^(32-s)<2^s:=ycu (by rw[<- Nat.pow_add,show 32-s+s=32 by omega];omega)
 have hz2:(2:Nat)^s<=2^31:=yao (by decide) (by omega)
 generalize x3 / 2^(32-s)=z at hz ⊢
 have ho:=Bx (a:=x1*4294967296+x2) (b:=z) (n:=s) hz
 generalize (x1*4294967296+x2)*2^s=h at hb ho ⊢
 have hz3:z<18446744073709551616:=by omega
 rw[dS (k:=.u64) (show h<cF .u64 from hb) (show z<cF .u64 from hz3),ho,sA,bB,sA]
 exact⟨rfl,g2⟩
end Go.Proofs
namespace Go.Proofs
open Go Go.Am
variable [jC]
variable {t:Tr vA}
theorem PN{A1 B1:Nat}{P:Nat->Nat->Nat->Nat->Nat->Nat->Nat->Nat->Bool->Prop}{Q:fA}(hA:A1<18446744073709551616)(hB:B1<18446744073709551616)
  (hstep:∀x y u0 u1 u2 v0 v1 v2 ev,P x y u0 u1 u2 v0 v1 v2 ev->0<y->v2<=y->v1+v2<=x-y->P y (x%y) u1 u2 (u1+x / y*u2) v1 v2 (v1+x / y*v2) (!ev))
  (hQ:∀x y u0 u1 u2 v0 v1 v2 ev,P x y u0 u1 u2 v0 v1 v2 ev->Q (.agg [.int .u64 (u0:Int),.int .u64 (u1:Int),.int .u64 (v0:Int),.int .u64 (v1:Int),.bool ev]) t) :
  ∀(y x u0 u1 u2 v0 v1 v2:Nat) (ev:Bool) (c0 c1 c2 c3:Int) (c4:Bool),P x y u0 u1 u2 v0 v1 v2 ev->A1=v2*x+v1*y->B1=u2*x+u1*y->y<=x->1<=v2->v1<=v2 →
  jp 170 2 [.int .u64 (x:Int),.int .u64 (y:Int),.int .u64 (u2:Int),.int .u64 (v2:Int),.int .u64 c0,.int .u64 c1,.int .u64 c2,.int .u64 c3,.bool c4,.int .u64 (u0:Int),.int .u64 (u1:Int),.int .u64 (v0:Int),.int .u64 (v1:Int),.bool ev] t Q:=by
 intro y;induction y using Nat.strongRecOn with
 | ind y ih=>
  intro x u0 u1 u2 v0 v1 v2 ev c0 c1 c2 c3 c4 hP hx hy hle h1 h12;refine j170_2 ?_
  simp only[uE,AR,oA,nJ];by_cases g1:v2<=y
  ·rw[yab (by omega)]
   have hy0:0<y:=by omega
   have b1:v2*x<=A1:=by omega
   have b2:x<=A1:=Nat.le_trans (yan x (by omega)) b1
   have b3:v2<4294967296:=by
    rcases yau v2 4294967296 with h | h
    ·exact h
    ·exfalso
     have:4294967296*4294967296<=v2*x:=ydb h (by omega)
     omega
   have e1:lA .u64 ((v1:Int)+(v2:Int))=((v1+v2:Nat):Int):=by grind [xF]
   have e2:lA .u64 ((x:Int)-(y:Int))=((x-y:Nat):Int):=by grind [xF]
   rw[e1,e2];by_cases g2:v1+v2<=x-y
   ·rw[yab (by omega)]
    have hdm:=ych x y
    have hmod:x%y<y:=ycy _ hy0
    have hq1:1<=x / y:=by
     grind
    have hxq:x / y<=x:=Nat.div_le_self _ _
    have e3:aX .u64 (x:Int) (y:Int)=some (.int .u64 ((x / y:Nat):Int)):=Xg hy0 (by
     grind [xF])
    have e4:bX .u64 (x:Int) (y:Int)=some (.int .u64 ((x%y:Nat):Int)):=Pl hy0
    have hst:=hstep x y u0 u1 u2 v0 v1 v2 ev hP hy0 g1 g2
    generalize x / y=q at *
    generalize x%y=r at *
    have nA:A1=(v1+q*v2)*y+v2*r:=by
     grind
    have nB:B1=(u1+q*u2)*y+u2*r:=by
     grind
    have bv:v1+q*v2<=A1:=Nat.le_trans (Nat.le_mul_of_pos_right _ hy0) (by omega)
    have bu:u1+q*u2<=B1:=Nat.le_trans (Nat.le_mul_of_pos_right _ hy0) (by omega)
    have bq:v2<=q*v2:=yan _ hq1
    have e5:lA .u64 ((v1:Int)+lA .u64 ((q:Int)*(v2:Int)))=((v1+q*v2:Nat):Int):=by
     grind [xF]
    have e6:lA .u64 ((u1:Int)+lA .u64 ((q:Int)*(u2:Int)))=((u1+q*u2:Nat):Int):=by
     grind [xF]
    rw[e3,sA,bB,sA,e4,sA,bB,sA,e5,e6];grind
   grind
  grind
end Go.Proofs
namespace Go.Am
def Lrel (a b x y u1 u2 v1 v2:Nat)(ev:Bool):Prop:=
 match ev with
 | false=>u1*v2=u2*v1+1/\x+v1*b=u1*a/\y+u2*a=v2*b
 | true=>u2*v1=u1*v2+1/\x+u1*a=v1*b/\y+v2*b=u2*a
def Lst (u1 u2 v1 v2:Nat):Prop:=(u1=1/\v1=0/\u2=0)\/(u1<=v1/\u2<=v2/\1<=u2/\1<=v1)
def Re(a b u0 u1 v0 v1:Nat)(ev:Bool):Prop:=∃x y,Lrel a b x y u0 u1 v0 v1 (!ev)/\v1<=y/\v0+v1<=x-y/\u0<=v0/\u1<=v1/\1<=u1/\1<=v0/\v0<=v1
def Lsim (a b x y u0 u1 u2 v0 v1 v2:Nat)(ev:Bool):Prop:=Lrel a b x y u1 u2 v1 v2 ev/\1<=v2/\v1<=v2/\Lst u1 u2 v1 v2/\(v0=0\/Re a b u0 u1 v0 v1 ev)
theorem ZX(a b:Nat):Lsim a b a b 0 1 0 0 0 1 false:=⟨⟨by simp,by simp,by simp⟩,ybk _,by omega,.inl ⟨rfl,rfl,rfl⟩,.inl rfl⟩
theorem ZW{a b x y u0 u1 u2 v0 v1 v2:Nat}{ev:Bool}(h:Lsim a b x y u0 u1 u2 v0 v1 v2 ev)(hy:0<y)(h1:v2<=y)(h2:v1+v2<=x-y) :
  Lsim a b y (x%y) u1 u2 (u1+x / y*u2) v1 v2 (v1+x / y*v2) (!ev):=by
 obtain⟨k1,k2,k5,k3,k4⟩:=h
 have hq:1<=x / y:=by rw[Nat.le_div_iff_mul_le hy];omega
 have hdm:=ych x y
 generalize x / y=q at *
 generalize x%y=r at *
 have hv2:v2<=q*v2:=yan _ hq
 have hu2:u2<=q*u2:=yan _ hq
 refine⟨?_,by omega,by omega,?_,?_⟩
 ·cases ev with
  | false=>
   obtain⟨m1,m2,m3⟩:=k1
   refine⟨?_,m3,?_⟩
   all_goals grind
  | true=>
   obtain⟨m1,m2,m3⟩:=k1
   refine⟨?_,m3,?_⟩
   all_goals grind
 ·right
  rcases k3 with⟨e1,e2,e3⟩ | ⟨g1,g2,g3,g4⟩
  ·grind
  ·have:=ybv q g2
   omega
 ·rcases k3 with⟨e1,e2,e3⟩ | ⟨g1,g2,g3,g4⟩
  ·omega
  ·right
   exact⟨x,y,by simp_all,h1,h2,g1,g2,g3,g4,k5⟩
end Go.Am
namespace Go.Am
theorem FH{p q r s A B X Y:Nat}(hdet:p*s=q*r+1)(hX:X+r*B=p*A)(hY:Y+q*A=s*B):A=s*X+r*Y/\B=q*X+p*Y:=by
 have a1:s*(X+r*B)=s*(p*A):=by rw[hX]
 have a2:r*(Y+q*A)=r*(s*B):=by rw[hY]
 have a3:q*(X+r*B)=q*(p*A):=by rw[hX]
 have a4:p*(Y+q*A)=p*(s*B):=by rw[hY]
 have d1:p*s*A=q*r*A+A:=by rw[hdet,ybo,Nat.one_mul]
 have d2:p*s*B=q*r*B+B:=by rw[hdet,ybo,Nat.one_mul]
 have e1:s*(p*A)=p*s*A:=by rw[<- ybj,ybh s p]
 have e2:r*(q*A)=q*r*A:=by rw[<- ybj,ybh r q]
 have e3:s*(r*B)=r*(s*B):=Nat.mul_left_comm _ _ _
 have e4:q*(p*A)=p*(q*A):=Nat.mul_left_comm _ _ _
 have e5:q*(r*B)=q*r*B:=(ybj _ _ _).symm
 have e6:p*(s*B)=p*s*B:=(ybj _ _ _).symm
 rw[ybm]at a1 a2 a3 a4;constructor<;>omega
theorem FG{p q r s a b A B W α β x y:Nat}(hx:x+r*b=p*a)(hy:y+q*a=s*b)(hA:A=W*a+α)(hB:B=W*b+β)(ha:α<W)(hb:β<W)(hrs:r+s<=x-y)(h1:1<=r+s)(hq:q<=y) :
  ∃X Y,X+r*B=p*A/\Y+q*A=s*B/\Y<X:=by
 obtain⟨D,hD⟩:∃D,x=y+D:=⟨x-y,by omega⟩
 have w1:p*A=W*x+r*(W*b)+p*α:=by
  rw[hA,ybm,Nat.mul_left_comm p W,<- hx,ybm,Nat.mul_left_comm W r]
 have w2:r*B=r*(W*b)+r*β:=by rw[hB,ybm]
 have w3:s*B=W*y+q*(W*a)+s*β:=by
  rw[hB,ybm,Nat.mul_left_comm s W,<- hy,ybm,Nat.mul_left_comm W q]
 have w4:q*A=q*(W*a)+q*α:=by rw[hA,ybm]
 have i1:r*β<=W*D:=by
  rw[ybh W D];exact ydb (by omega) (by omega)
 have i2:q*α<=W*y:=by
  rw[ybh W y];exact ydb hq (by omega)
 have i3:(r+s)*β<W*D:=by
  have h2:(r+s)*β<(r+s)*W:=Nat.mul_lt_mul_of_pos_left hb (by omega)
  have h3:(r+s)*W<=D*W:=ybi _ (by omega)
  grind
 have w5:W*x=W*y+W*D:=by rw[hD,ybm]
 rw[ybo]at i3;exact⟨p*A-r*B,s*B-q*A,by omega,by omega,by omega⟩
theorem lehmer{a b A B W α β u0 u1 v0 v1:Nat}{ev:Bool}(hA:A=W*a+α)(hB:B=W*b+β)(ha:α<W)(hb:β<W)(h:Re a b u0 u1 v0 v1 ev) :
  ∃X Y,(ev=true->X+v0*B=u0*A/\Y+u1*A=v1*B)/\(ev=false->X+u0*A=v0*B/\Y+v1*B=u1*A)/\Y<X/\A=v1*X+v0*Y/\B=u1*X+u0*Y/\X+Y<A+B:=by
 obtain⟨x,y,k1,k2,k3,k4,k5,k6,k7,_⟩:=h
 have bH:∀X Y:Nat,Y<X->A=v1*X+v0*Y->B=u1*X+u0*Y->X+Y<A+B:=by
  intro X Y g1 g2 g3;have j1:X<=v1*X:=yan _ (by omega)
  have j2:X<=u1*X:=yan _ (by omega)
  omega
 cases ev with
 | true=>
  obtain⟨m1,m2,m3⟩:=k1
  obtain⟨X,Y,g1,g2,g3⟩:=FG m2 m3 hA hB ha hb k3 (by omega) (by omega)
  obtain⟨d1,d2⟩:=FH m1 g1 g2
  exact⟨X,Y,fun _=>⟨g1,g2⟩,(fun h=>absurd h (by decide)),g3,d1,d2,bH X Y g3 d1 d2⟩
 | false=>
  obtain⟨m1,m2,m3⟩:=k1
  obtain⟨X,Y,g1,g2,g3⟩:=FG m2 m3 hB hA hb ha (by omega) (by omega) k2
  have m1':v0*u1=v1*u0+1:=by grind
  obtain⟨d1,d2⟩:=FH m1' g1 g2
  exact⟨X,Y,(fun h=>absurd h (by decide)),fun _=>⟨g1,g2⟩,g3,d2,d1,bH X Y g3 d2 d1⟩
theorem ZY{a b u0 u1 v0 v1:Nat}{ev:Bool}(ha:a<18446744073709551616)(hb:b<18446744073709551616)(h:Re a b u0 u1 v0 v1 ev):u0<4294967296/\u1<4294967296/\v0<4294967296/\v1<4294967296:=by
 obtain⟨x,y,k1,k2,k3,k4,k5,k6,k7,k8⟩:=h
 have key:a=v1*x+v0*y:=by
  cases ev with
  | true=>
   obtain⟨m1,m2,m3⟩:=k1
   grind
  | false=>
   obtain⟨m1,m2,m3⟩:=k1
   grind
 have:v1<4294967296:=by
  rcases yau v1 4294967296 with g | g
  ·exact g
  ·exfalso
   have:4294967296*4294967296<=v1*x:=ydb g (by omega)
   omega
 omega
end Go.Am
namespace Go.Am
theorem MK{B:Nat}{l:List Nat}{m:Nat}(hl:l.length<=m+3):val B l=val B (l.take m)+B^m*(wd l m+B*(wd l (m+1)+B*wd l (m+2))):=by
 have h0:=Hc B l m
 have h1:val B (l.take (m+2))=val B (l.take (m+1))+B^(m+1)*wd l (m+1):=Hc B l (m+1)
 have h2:val B (l.take (m+3))=val B (l.take (m+2))+B^(m+2)*wd l (m+2):=Hc B l (m+2)
 grind [List.take_of_length_le]
theorem IV{B p K m:Nat}{l:List Nat}(hB:B=p*K)(hp:0<p)(hB0:0<B)(hlt:mB B l)(hl:l.length<=m+3) :
  (wd l (m+2)*B+wd l (m+1))*K+wd l m / p=val B l / (B^m*p):=by
 have h1:=MK (B:=B) hl
 have h2:val B (l.take m)<B^m:=by
  have h:=jN hB0 (Aw hlt m)
  grind [Nat.lt_of_lt_of_le,Nat.pow_le_pow_right]
 have h3:val B l / B^m=wd l m+B*(wd l (m+1)+B*wd l (m+2)):=by
  rw[h1,Nat.add_mul_div_left _ _ (Nat.pow_pos hB0),Nat.div_eq_of_lt h2,ybw]
 rw[<- Nat.div_div_eq_div_mul,h3];generalize wd l m=x
 have e:B*(wd l (m+1)+B*wd l (m+2))=p*(K*(wd l (m+2)*B+wd l (m+1))):=by
  rw[<- ybj p,<- hB,ybh (wd l (m+2)),yap]
 rw[e,Nat.add_mul_div_left _ _ hp,ybh K,yap]
end Go.Am
namespace Go.Proofs
open Go Go.Am
variable [jC]
variable {t:Tr vA}
theorem PK{la lb:List Nat}{pa pb:zA}{m top:Nat}{Q:fA}(ha:aA t 1 (xC .u32 la) pa)(hb:aA t 1 (xC .u32 lb) pb)(hal:mB BB la)(hbl:mB BB lb)(hla:la.length=m+3)(hm:m<700000)(hlb:lb.length<=m+3)(htop:la[m+2]?=some top)(ht0:0<top)(hle:val BB lb<=val BB la)
  (hQ:∀u0 u1 v0 v1 ev W,0<W->val BB la / W<18446744073709551616->val BB lb / W<18446744073709551616->(v0=0\/Re (val BB la / W) (val BB lb / W) u0 u1 v0 v1 ev)->Q (.agg [.int .u64 (u0:Int),.int .u64 (u1:Int),.int .u64 (v0:Int),.int .u64 (v1:Int),.bool ev]) t) :
  Wc yA F 170 [pa,pb] t Q:=by
 have hBB:=cM
 have htlt:top<4294967296:=by have:=jJ hal htop;omega
 obtain⟨s,hs,hs1,hs2,hs3⟩:=EX (t:=t) htlt ht0
 obtain⟨c,off,g1,g2⟩:=ha.idx fF htop
 have hK:BB=2^(32-s)*2^s:=by rw[<- Nat.pow_add,show 32-s+s=32 by omega,hBB]
 have hp:0<2^(32-s):=Nat.pow_pos (by decide)
 have va:=IV hK hp xI hal (m:=m) (by omega)
 have vb:=IV hK hp xI hbl hlb
 have hW:0<BB^m*2^(32-s):=Nat.mul_pos (Nat.pow_pos xI) hp
 have hdiv:val BB lb / (BB^m*2^(32-s))<=val BB la / (BB^m*2^(32-s)):=Nat.div_le_div_right hle
 have hwt:wd la (m+2)=top:=by grind [wd]
 have wa1:=Bk xI hal (m+1)
 have wa0:=Bk xI hal m
 have hz:wd la m / 2^(32-s)<2^s:=ycu (by omega)
 rw[hBB]at va vb;have bigA:(wd la (m+2)*4294967296+wd la (m+1))*2^s+wd la m / 2^(32-s)<18446744073709551616:=by
  rw[hwt];have q1:top+1<=2^(32-s):=by
   have:top*2^s<2^(32-s)*2^s:=by omega
   exact Nat.lt_of_mul_lt_mul_right this
  have q2:(top*4294967296+wd la (m+1))+1<=2^(32-s)*4294967296:=by
   omega
  have q3:=ybi (2^s) q2
  grind
 have hBB':∀l,val 4294967296 l=val BB l:=fun l=>by rw[hBB]
 have hPP:(4294967296:Nat)^m=BB^m:=by rw[hBB]
 rw[hBB',hPP]at va vb;have eK:(wd lb (m+2)*4294967296+wd lb (m+1))*2^s+wd lb m / 2^(32-s)<18446744073709551616:=by
  grind
 have h1:=IW (n:=m+3) (s:=s) ha hal (by omega) (by omega) hs (yam (Nat.le_add_right _ _) bigA)
 have h2:=IW (n:=m+3) (s:=s) hb hbl (by omega) (by omega) hs (yam (Nat.le_add_right _ _) eK)
 rw[show m+3-1=m+2 by omega,show m+3-2=m+1 by omega,show m+3-3=m by omega]at h1 h2;rw[va]at h1 bigA;rw[vb]at h2 eK;generalize hw:BB^m*2^(32-s)=W at *
 have e1:((m+3:Nat):Int)-1=((m+2:Nat):Int):=by omega
 refine w170 ?_
 simp only[uI,uL,uE,uZ,uW,t170,oA,ha.len,sA,bB,aH,hla,e1];rw[oC (by omega) (by omega),g1,sA,g2,sA,bB,sA,q176,hs3,sA,bB,sA,q182,h1,sA,bB,sA,q182,h2,sA,bB,sA]
 simp only[if_true];exact PN (P:=Lsim (val BB la / W) (val BB lb / W)) bigA eK (fun x y u0 u1 u2 v0 v1 v2 ev hP hy k1 k2=>ZW hP hy k1 k2) (fun x y u0 u1 u2 v0 v1 v2 ev hP=>hQ u0 u1 v0 v1 ev W hW bigA eK hP.2.2.2.2) _ _ 0 1 0 0 0 1 false 0 0 0 0 false (ZX _ _) (by omega) (by omega) hdiv (by omega) (by omega)
end Go.Proofs
namespace Go.Am
theorem VP{A B X Y u0 u1 v0 v1:Nat}{ev:Bool}(h1:ev=true->X+v0*B=u0*A/\Y+u1*A=v1*B)(h2:ev=false->X+u0*A=v0*B/\Y+v1*B=u1*A)(hA:A=v1*X+v0*Y)(hB:B=u1*X+u0*Y):Nat.gcd X Y=Nat.gcd A B:=by
 have gX:=Nat.gcd_dvd_left X Y
 have gY:=Nat.gcd_dvd_right X Y
 have gA:=Nat.gcd_dvd_left A B
 have gB:=Nat.gcd_dvd_right A B
 refine Nat.dvd_antisymm (Nat.dvd_gcd ?_ ?_) (Nat.dvd_gcd ?_ ?_)
 ·grind [Nat.dvd_add]
 ·grind [Nat.dvd_add]
 ·generalize Nat.gcd A B=g at *
  cases ev with
  | true=>
   grind [Nat.dvd_add_left]
  | false=>
   grind [Nat.dvd_add_left]
 ·generalize Nat.gcd A B=g at *
  cases ev with
  | true=>
   grind [Nat.dvd_add_left]
  | false=>
   grind [Nat.dvd_add_left]
theorem gcd_div{a b q r:Nat}(h:a=b*q+r):Nat.gcd b r=Nat.gcd a b:=by
 grind [Nat.mul_comm,Nat.gcd_mul_right_add_left]
theorem zda{x y:Nat}:Nat.gcd y (x%y)=Nat.gcd x y:=by
 rw[Nat.gcd_comm y (x%y),<- Nat.gcd_rec,Nat.gcd_comm]
theorem Zq{B:Nat}{l:List Nat}(hB:0<B)(h:mB B l)(hl:l.length<=2):val B l<B*B:=by
 have h1:=jN hB h
 have h2:B^l.length<=B^2:=yao hB hl
 grind
end Go.Am
namespace Go.Proofs
open Go Go.Am
variable [jC]
variable {t:Tr vA}
theorem IE{c:Prop}{d:Decidable c}{P Q:Prop}(h:c)(k:P):@ite Prop c d P Q:=by simp_all
theorem ite_no{c:Prop}{d:Decidable c}{P Q:Prop}(h:¬ c)(k:Q):@ite Prop c d P Q:=by simp_all
theorem WF{Q:fA}:∀(y x:Nat),x<18446744073709551616->y<18446744073709551616->(∀t' r rv,zB t t'->aA t' 1 (xC .u32 r) rv->mB BB r->norm r->val BB r=Nat.gcd x y->Q rv t')->jp 163 6 [.int .u64 (x:Int),.int .u64 (y:Int)] t Q:=by
 have hBB:=cM
 intro y;induction y using Nat.strongRecOn with
 | ind y ih=>
  intro x hx hy hQ;refine j163_6 ?_
  simp only[uE,AS,oA,Of];by_cases h0:y=0
  ·subst h0
   rw[yaa (by simp)]
   simp only[q173];grind [PP,ZN,ML,TC]
  ·rw[yab (by omega),Pl (by omega),sA,bB,sA]
   have hm:=ycy x (show 0<y by omega)
   grind [zda]
theorem EZ{l:List Nat}{v:zA}(hv:aA t 1 (xC .u32 l) v)(hl:l.length<=2)(hlt:mB BB l):fB yA F 172 [v] t=some (.int .u64 ((val BB l:Nat):Int)):=by
 have hBB:=cM
 grind [zcm]
theorem KV{la lb:List Nat}{pa pb:zA}{Q:fA}(ha:aA t 1 (xC .u32 la) pa)(hb:aA t 1 (xC .u32 lb) pb)(hal:mB BB la)(hbl:mB BB lb)(hla:la.length<=2)(hlb:lb.length<=2)
  (hQ:∀t' r rv,zB t t'->aA t' 1 (xC .u32 r) rv->mB BB r->norm r->val BB r=Nat.gcd (val BB la) (val BB lb)->Q rv t'):jp 163 33 [pa,pb] t Q:=by
 have hBB:=cM
 have b1:=Zq xI hal hla
 have b2:=Zq xI hbl hlb
 refine zcz ?_
 simp only[uE,AT,oA,q172,EZ ha hla hal,EZ hb hlb hbl,sA,bB];grind [WF]
theorem KW{Q:fA}{t0:Tr vA}{G:Nat}(hQ:∀t' r rv,zB t0 t'->aA t' 1 (xC .u32 r) rv->mB BB r->norm r->val BB r=G->Q rv t'):∀(n:Nat) (la lb:List Nat) (pa pb:zA) (t:Tr vA),val BB la+val BB lb=n->zB t0 t->aA t 1 (xC .u32 la) pa->aA t 1 (xC .u32 lb) pb->mB BB la->mB BB lb->norm la->norm lb->val BB lb<=val BB la->la.length<700000->Nat.gcd (val BB la) (val BB lb)=G->jp 163 2 [pa,pb] t Q:=by
 have hBB:=cM
 have hB1:1<BB:=by omega
 intro n;induction n using Nat.strongRecOn with
 | ind n ih=>
  intro la lb pa pb t hn ht ha hb hal hbl han hbn hle hlen hg;have hlb:lb.length<=la.length:=tQ hB1 hal hbn hle
  refine j163_2 ?_
  simp only[uI,uG,uX,AU,oA,hb.len,sA,bB,aH,bF];by_cases h2:2<lb.length
  ·rw[yab (by omega)]
   have hb0:lb≠[]:=by grind
   have hbpos:0<val BB lb:=by
    rcases yav (val BB lb)with h | h
    ·exact absurd (TD xI hbn h) hb0
    ·exact h
   obtain⟨m,hm⟩:∃m,la.length=m+3:=⟨la.length-3,by omega⟩
   obtain⟨top,htop⟩:=getElem?_of_lt (l:=la) (i:=m+2) (by omega)
   have ha0:la≠[]:=by grind
   have ht0:0<top:=by
    have:=han ha0
    grind
   rw[q170];refine PK ha hb hal hbl hm (by omega) (by omega) htop ht0 hle fun u0 u1 v0 v1 ev W hW hA hB hL=>?_
   have eG:vK [(.int .u64 0),(.int .u64 0),(.int .u64 0),(.int .u64 0),(.bool false)] (.agg [.int .u64 (u0:Int),.int .u64 (u1:Int),.int .u64 (v0:Int),.int .u64 (v1:Int),.bool ev])=some (cellsOf [.int .u64 (u0:Int),.int .u64 (u1:Int),.int .u64 (v0:Int),.int .u64 (v1:Int),.bool ev]):=iQ rfl
   rw[eG];simp only[sA,cellsOf,Xe,Fv,yaz,yba,if_true,Nf];by_cases hv0:v0=0
   ·refine IE (oN.2 (by omega)) ?_
    rw[q165];refine Yd ha hb hlen hal hbl han hbn hb0 fun t' q r qv rv k1 k2 k3 k4 k5 k6 k7 k8 k9=>?_
    simp only[wH,zA.asTup,qA,zG,yaz,yba,sA];refine ih (val BB lb+val BB r) (by omega) lb r pb rv t' rfl (ht.trans k1) (hb.mono k1) k3 hbl k5 hbn k7 (by omega) (by omega) ?_
    grind [gcd_div]
   ·refine ite_no (fun e=>absurd (oN.1 e) (by omega)) ?_
    rcases hL with h | hL
    ·omega
    obtain⟨s1,s2,s3,s4⟩:=ZY hA hB hL
    have eA:val BB la=W*(val BB la / W)+val BB la%W:=(ych _ _).symm
    have eB:val BB lb=W*(val BB lb / W)+val BB lb%W:=(ych _ _).symm
    obtain⟨X,Y,l1,l2,l3,l4,l5,l6⟩:=lehmer eA eB (ycy _ hW) (ycy _ hW) hL
    have hgg:=VP l1 l2 l4 l5
    have hXA:X<=val BB la:=by
     have:X<=v1*X:=yan _ (by
      obtain⟨x,y,_,_,_,_,_,_,w2,w3⟩:=hL;omega)
     omega
    cases ev with
    | true=>
     obtain⟨m1,m2⟩:=l1 rfl
     simp only[if_true];rw[q171];refine Qb ha hb hal hbl s1 s3 hlen (by omega) (by omega) fun t1 r1 rv1 k1 k2 k3 k4 k5=>?_
     rw[q171];refine Qb (hb.mono k1) (ha.mono k1) hbl hal s4 s2 (by omega) hlen (by omega) fun t2 r2 rv2 j1 j2 j3 j4 j5=>?_
     have e1:val BB r1=X:=by omega
     have e2:val BB r2=Y:=by omega
     refine ih (val BB r1+val BB r2) (by omega) r1 r2 rv1 rv2 t2 rfl (ht.trans (k1.trans j1)) (k2.mono j1) j2 k3 j3 k4 j4 (by omega) ?_ (by grind)
     have:=tQ hB1 hal k4 (by omega)
     omega
    | false=>
     obtain⟨m1,m2⟩:=l2 rfl
     simp only[if_true,ybq,if_false];rw[q171];refine Qb hb ha hbl hal s3 s1 (by omega) hlen (by omega) fun t1 r1 rv1 k1 k2 k3 k4 k5=>?_
     rw[q171];refine Qb (ha.mono k1) (hb.mono k1) hal hbl s2 s4 hlen (by omega) (by omega) fun t2 r2 rv2 j1 j2 j3 j4 j5=>?_
     have e1:val BB r1=X:=by omega
     have e2:val BB r2=Y:=by omega
     refine ih (val BB r1+val BB r2) (by omega) r1 r2 rv1 rv2 t2 rfl (ht.trans (k1.trans j1)) (k2.mono j1) j2 k3 j3 k4 j4 (by omega) ?_ (by grind)
     have:=tQ hB1 hal k4 (by omega)
     omega
  ·rw[yaa (by omega)]
   simp only[oN];by_cases h0:lb.length=0
   ·rw[yab (by omega)]
    have:lb=[]:=ycc.1 h0
    subst this;refine hQ t la pa ht ha hal han ?_
    rw[<- hg];simp only[val];rw[Nat.gcd_zero_right]
   ·rw[yaa (by omega)]
    simp only[ha.len,sA,bB,aH,bF];have hb0:lb≠[]:=by simp_all
    by_cases h3:2<la.length
    ·rw[yab (by omega),q165]
     refine Yd ha hb hlen hal hbl han hbn hb0 fun t' q r qv rv k1 k2 k3 k4 k5 k6 k7 k8 k9=>?_
     simp only[wH,zA.asTup,qA,zG,yaz,yba,sA];have:=tQ hB1 hbl k7 (Nat.le_of_lt k9)
     refine KV (hb.mono k1) k3 hbl k5 (by omega) (by omega) fun t2 r2 rv2 j1 j2 j3 j4 j5=>?_
     exact hQ t2 r2 rv2 (ht.trans (k1.trans j1)) j2 j3 j4 (by grind [gcd_div])
    ·rw[yaa (by omega)]
     refine KV ha hb hal hbl (by omega) (by omega) fun t2 r2 rv2 j1 j2 j3 j4 j5=>?_
     exact hQ t2 r2 rv2 (ht.trans j1) j2 j3 j4 (by omega)
theorem cd_ok{la lb:List Nat}{pa pb:zA}{Q:fA}(ha:aA t 1 (xC .u32 la) pa)(hb:aA t 1 (xC .u32 lb) pb)(hal:mB BB la)(hbl:mB BB lb)(han:norm la)(hbn:norm lb)(hla:la.length<700000)(hlb:lb.length<700000)
  (hQ:∀t' r rv,zB t t'->aA t' 1 (xC .u32 r) rv->mB BB r->norm r->val BB r=Nat.gcd (val BB la) (val BB lb)->Q rv t'):Wc yA F 163 [pa,pb] t Q:=by
 have hBB:=cM
 have hB1:1<BB:=by omega
 have hlt:=KN hB1 hal hbl han hbn
 refine w163 ?_
 simp only[uI,t163,oA,q169,zbg (by omega) ha hb,sA,bB,bF]
 by_cases hc:cL la lb<0
 ·rw[yab hc]
  have:=hlt.1 hc
  exact KW hQ _ lb la pb pa t rfl (zB.refl _) hb ha hbl hal hbn han (by omega) hlb (Nat.gcd_comm _ _)
 ·rw[yaa hc]
  have:val BB lb<=val BB la:=Nat.le_of_not_lt fun h=>hc (hlt.2 h)
  exact KW hQ _ la lb pa pb t rfl (zB.refl _) ha hb hal hbl han hbn this hla rfl
end Go.Proofs
namespace Go.Proofs
open Go Go.Am
variable [jC]
variable {t:Tr vA}
theorem EM{neg:Bool}{l:List Nat}(h:qO neg l=true):norm l:=by
 intro hne;grind [qO]
theorem ZM{l:List aI}{v:zA}(hv:aA t 2 (l.map aI.d) v)(hb:∀w∈l,w.limbs.length<1125899906842624)(hn:l.length<1125899906842624):∀(k i:Nat),i+k=l.length->jp 162 2 [v,.int .i64 (l.length:Int),.int .i64 (i:Int)] t (fun r m=>r=.bool ((l.drop i).all fun w=>qO w.neg w.limbs)/\m=t):=by
 intro k;induction k with
 | zero=>
  intro i hi;refine HU ?_
  simp only[uB,uG,wF,nD,zD,oK,uZ,gI,rJ,To,oA,bF];simp_all
 | succ k ih=>
  intro i hi;have hlt:i<l.length:=by omega
  have hx:l[i]?=some l[i]:=ybd hlt
  obtain⟨b,off,cs,g1,g2,_,_,g5⟩:=sK.at sl229 (by simp) hv (i:=i) (d:=l[i].d) (by simp[hx])
  obtain⟨u,rfl,hu⟩:=CZ g5
  have hv1:=Dp (neg:=l[i].neg) (hb _ (ycj hlt)) hu
  refine HU ?_
  simp only[uB,uG,wF,nD,zD,oK,uZ,gI,rJ,To,oA,bF];rw[yab (by omega),g1,sA,g2,zbw,sA,Ga g5 (aI.zs _)]
  simp only[sA,cellsOf,Fv,Hf,yaz,yba];have hone:cB zA.one [.bool l[i].neg,u]=true:=by
   show(bif zA.one (.bool l[i].neg)then(bif zA.one u then true else false)else false)=true
   rw[hu.one];rfl
  refine IE hone ?_
  rw[Ip,hv1];simp only[sA,Av,Vv];rw[ybl hlt,ycg]
  cases hq:qO l[i].neg l[i].limbs with
  | false=>simp
  | true=>
   simp only[ycn,Bool.true_eq_false,if_false];rw[oC (by omega) (by omega)]
   exact ih (i+1) (by omega)
theorem LS{l:List aI}{v:zA}(hv:aA t 2 (l.map aI.d) v)(hb:∀w∈l,w.limbs.length<1125899906842624)(hn:l.length<1125899906842624):fB yA F 162 [v] t=some (.bool (l.all fun w=>qO w.neg w.limbs)):=by
 refine tE.2 (w162 ?_)
 simp only[uI,uZ,t162,oA,hv.len,sA,bB,ybf];have:=ZM hv hb hn l.length 0 (by omega)
 simp_all
theorem zba{n d:aI}{u v:zA}{Q:fA}(hu:aA t 1 (cD n.limbs) u)(hv:aA t 1 (cD d.limbs) v)(hn:n.limbs.length<700000)(hd:d.limbs.length<700000)(hnl:mB 65536 n.limbs)(hdl:mB 65536 d.limbs)(hnv:qO n.neg n.limbs=true)(hdv:qO d.neg d.limbs=true)
  (hQ:∀t' g rv,zB t t'->aA t' 1 (cD g) rv->mB 65536 g->norm g->val 65536 g=Nat.gcd (val 65536 n.limbs) (val 65536 d.limbs)->Q (.tup [.agg [.bool false,rv],.int .i64 0]) t'):Wc yA F 155 [.agg [.bool n.neg,u],.agg [.bool d.neg,v]] t Q:=by
 have hBB:=cM
 refine w155 ?_
 simp only[uB,uG,wF,uZ,gI,rJ,t155,oA];intro b hb hbase;obtain⟨t1,g1,g2,g3,g4⟩:=Jl (C:=yA) (T:=229) (el:=43) (sz:=2) (n:=2) (cl:=[[.bool n.neg,u],[.bool d.neg,v]]) (ps:=[(0,.agg [.bool n.neg,u]),(1,.agg [.bool d.neg,v])]) Ru rfl ty43 rfl rfl (by decide) rfl (fun i cs hi=>by
  grind) rfl hb
 rw[g1,sA];have hw:aA t1 2 ([n,d].map aI.d) (.slice b 0 2 2):=⟨_,g2,by
  simp only[ycm,List.map_nil,iF,rH];refine⟨_,_,rfl,?_,_,_,rfl,?_,rfl⟩
  ·unfold aI.d
   rw[uO];refine⟨[[.bool n.neg],[u]],rfl,?_⟩
   simp only[iF,rH,Rd,Bb];exact⟨_,_,rfl,rfl,_,_,rfl,⟨u,rfl,hu.mono g3⟩,rfl⟩
  ·unfold aI.d
   rw[uO];refine⟨[[.bool d.neg],[v]],rfl,?_⟩
   simp only[iF,rH,Rd,Bb];exact⟨_,_,rfl,rfl,_,_,rfl,⟨v,rfl,hv.mono g3⟩,rfl⟩⟩
 have hall:=LS hw (fun w hw=>by
  grind) (by simp)
 rw[q162,hall];simp only[sA,Av,Vv,ycg,yck,hnv,hdv,Bool.and_self,Bool.true_eq_false,if_false];rw[q164];refine Nq (hu.mono g3) (by omega) hnl fun t2 v2 k1 k2=>?_
 rw[yab hv.same,q164];refine Nq ((hv.mono g3).mono k1) (by omega) hdl fun t3 v3 m1 m2=>?_
 have an:=Kz hnl
 have ad:=Kz hdl
 rw[<- hBB]at an ad;rw[q163];refine cd_ok (k2.mono m1) m2 an ad (Je (EM hnv)) (Je (EM hdv)) (by rw[uR];omega) (by rw[uR];omega) fun t4 r rv p1 p2 p3 p4 p5=>?_
 rw[hBB]at p3;have vn:∀l,val BB (rG l)=val 65536 l:=fun l=>by grind [Ro]
 rw[vn,vn]at p5;have hrl:r.length<400000:=by
  have hB1:1<BB:=by omega
  rcases yav (val 65536 n.limbs)with h0 | h0
  ·rw[h0,Nat.gcd_zero_left,<- vn]at p5
   have:=tQ hB1 ad p4 (Nat.le_of_eq p5)
   grind [uR]
  ·have h1:=Nat.gcd_le_left (val 65536 d.limbs) h0
   rw[<- p5,<- vn]at h1;have:=tQ hB1 an p4 h1
   grind [uR]
 rw[q141];refine Rt p2 hrl p3 fun t5 v5 s1 s2=>?_
 rw[Ht p4]at s2 ⊢
 have eG:vK [(.bool false),.nilslice] (.agg [.bool (if r=[]then false else false),v5])=some (cellsOf [.bool (if r=[]then false else false),v5]):=iQ (by
  show(true&&(rY .nilslice v5&&true))=true
  rw[Xq s2];rfl)
 rw[eG];have hone:cB zA.one [.bool false,v5]=true:=by
  show(bif zA.one (.bool false)then(bif zA.one v5 then true else false)else false)=true
  rw[s2.one];rfl
 simp only[sA,cellsOf,Fv,Hf,yaz,yba,ite_self,hone,if_true];refine hQ t5 (wE (oG r)) v5 (g3.trans (k1.trans (m1.trans (p1.trans s1)))) s2 (aR (Qx p3)) (zU _) ?_
 rw[mT,<- p5,Ma,hBB]
end Go.Proofs
namespace Go.Am
def zI.fit(f:zI):Prop:=f.ok/\mB 65536 f.n.limbs/\mB 65536 f.d.limbs
def iJ.fit(v:iJ):Prop:=v.kind<256/\v.f.fit /\ -9223372036854775808<=v.i/\v.i<9223372036854775808
mutual
def vB.fit:vB->Prop
 | .mk op name v args=>op<256/\name.length<eK/\(∀c∈name,c<256)/\v.fit/\args.length<eK/\vB.fits args
def vB.fits:List vB->Prop
 | []=>True
 | x::l=>x.fit/\vB.fits l
end
def i64 (n:Int):Prop := -9223372036854775808<=n/\n<9223372036854775808
def Gf.fit(r:Gf):Prop:=i64 r.a/\i64 r.b/\i64 r.known/\r.f.fit
def Ge.fit(x:Ge):Prop:=x.name.length<eK/\x.rows.length<eK/\∀r∈x.rows,r.fit
def Gg.fit(x:Gg):Prop:=x.name.length<eK/\x.kind<256
def Gh.fit(x:Gh):Prop:=x.name.length<eK/\x.label.length<eK/\i64 x.from_/\i64 x.to/\i64 x.known/\x.when_.fit/\x.then_.fit
structure Qz.fit (p:Qz):Prop where
 name:p.name.length<eK
 ndefs:p.defs.length<eK
 ntables:p.tables.length<eK
 nclauses:p.clauses.length<eK
 defs:∀d∈p.defs,d.fit
 tables:∀d∈p.tables,d.fit
 clauses:∀d∈p.clauses,d.fit
end Go.Am
namespace Go.Proofs
open Go Go.Am
variable [jC]
variable {t:Tr vA}
def Xb(w:aI):Bool := !w.neg&&decide (w.limbs=[1])
def Hb(f:zI):Bool:=decide (f.n.limbs.length<=256)&&decide (f.d.limbs.length<=256)&&qO f.n.neg f.n.limbs&&qO f.d.neg f.d.limbs && !f.d.neg&&decide (f.d.limbs≠[])&&(Xb f.d||decide (Nat.gcd (val 65536 f.n.limbs) (val 65536 f.d.limbs)=1))
theorem qC{a b:Int}:yC a b=decide (a<b):=by
 grind [bF]
theorem oQ{a b:Int}:aF a b=decide (a<=b):=by
 grind [nJ]
theorem sE{a b:Int}:tC a b=decide (a=b):=by
 grind [oN]
theorem NV{f:zI}{u v:zA}(hu:aA t 1 (cD f.n.limbs) u)(hv:aA t 1 (cD f.d.limbs) v)(hf:zI.fit f):fB yA F 145 [.agg [.bool f.n.neg,u,.bool f.d.neg,v]] t=some (.bool (Hb f)):=by
 obtain⟨h1,h2,h3⟩:=hf
 unfold zI.ok eK at h1;have c1:fB yA F 144 [.agg [.bool f.n.neg,u,.bool f.d.neg,v]] t=some (.bool (!(decide (f.n.limbs.length<=256)&&decide (f.d.limbs.length<=256)))):=by
  refine tE.2 (w144 ?_)
  simp only[uI,oK,t144,oA,hu.len,hv.len,sA,bB,wW];grind [bF]
 have c2:=Dp (neg:=f.n.neg) (by omega) hu
 have c3:=Dp (neg:=f.d.neg) (by omega) hv
 have c4:fB yA F 157 [.agg [.bool f.n.neg,u,.bool f.d.neg,v]] t=some (.bool (Xb f.d)):=by
  refine tE.2 (w157 ?_)
  simp only[uB,t157,oA,q158,IF hv,sA,Av]; (first | exact⟨rfl,rfl⟩ | exact⟨rfl,trivial⟩ | trivial)
 refine vX (w145 ?_)
 simp only[uI,uB,uG,zD,oK,rJ,t145,oA,q144,c1,Ip,c2,c3,q157,c4,sA,Av,hv.len,bB,wW,oN,Vv];unfold Hb;by_cases g1:f.n.limbs.length<=256
 ·by_cases g2:f.d.limbs.length<=256
  ·simp only[g1,g2,decide_true,ycn,Bool.not_true,ybq,if_false]
   cases hn:qO f.n.neg f.n.limbs with
   | false=>simp
   | true=>
    cases hd:qO f.d.neg f.d.limbs with
    | false=>simp
    | true=>
     simp only[Bool.true_eq_false,if_false,ycn]
     cases hg:f.d.neg with
     | true=>simp
     | false=>
      simp only[ybq,if_false,ycl,ycn];by_cases h0:f.d.limbs=[]
      ·simp_all
      ·have:f.d.limbs.length≠0:=fun e=>h0 (ycc.1 e)
       rw[yaa (by omega)]
       simp only[h0,ne_eq,not_false_eq_true,decide_true,ycn]
       cases ho:Xb f.d with
       | true=>simp
       | false=>
        simp only[ybq,if_false,Bool.false_or];rw[q142];refine w142 ?_
        simp only[uI,uG,wF,uX,gI,rJ,t142,oA,q155];have hn':=hn
        have hd':=hd
        rw[hg]at hd'
        refine zba (n:=f.n) (d:=⟨false,f.d.limbs⟩) hu hv (by omega) (by grind) h2 h3 hn' hd' fun t' g rv k1 k2 k3 k4 k5=>?_
        have eG:vK [(.bool false),.nilslice] (.agg [.bool false,rv])=some (cellsOf [.bool false,rv]):=iQ (by
         show(true&&(rY .nilslice rv&&true))=true
         rw[Xq k2];rfl)
        have hone:cB zA.one [.bool false,rv]=true:=by
         show(bif zA.one (.bool false)then(bif zA.one rv then true else false)else false)=true
         rw[k2.one];rfl
        simp only[wH,zA.asTup,qA,zG,yaz,yba,sA,bB,eG,cellsOf,Fv,Hf,hone,if_true];rw[q158,IF k2];simp only[sA,Av,ycl,ycn]
        refine⟨?_,k1⟩
        congr 1
        rw[decide_eq_decide,<- k5];constructor
        ·intro e;subst e;rfl
        ·intro e
         exact EN (B:=65536) (by decide) k3 (fun x hx=>by grind) k4 (fun _=>by simp) (by rw[e];rfl)
  grind
 grind
theorem MJ{f:zI}{u v:zA}(hu:aA t 1 (cD f.n.limbs) u)(hv:aA t 1 (cD f.d.limbs) v)(hf:zI.fit f):fB yA F 126 [.agg [.bool f.n.neg,u,.bool f.d.neg,v]] t=some (.bool (Hb f)):=by
 refine tE.2 (w126 ?_)
 simp only[uB,t126,oA,q145,NV hu hv hf,sA,Av,if_true];simp_all
end Go.Proofs
namespace Go.Proofs
open Go Go.Am
variable [jC]
variable {t:Tr vA}
theorem nV{a b:List Nat}(h:a.length+b.length<4611686018427387904):aP a b=some (.str (a++b)):=by
 unfold aP;rw[sD,sD,vC.2 h,xG];rfl
theorem Na{s:List Nat}{k:Nat}(h:k<=s.length):sF yA 9 nL (.str s) (some (.int .i64 (k:Int))) none=some (.str (s.drop k)):=by
 unfold sF rM;rw[zN,qA];simp only[zA.asStr];rw[show yE.isString .string=true from rfl,mE];unfold Hx pP dY eU;grind [gL,qA,zA.asNat,zA.asInt,sD,qE,mE,rR,xP,List.take_length]
theorem Bv{s:List Nat}{k:Nat}(h:k<=s.length):sF yA 9 nL (.str s) none (some (.int .i64 (k:Int)))=some (.str (s.take k)):=by
 unfold sF rM;rw[zN,qA];simp only[zA.asStr];rw[show yE.isString .string=true from rfl,mE];unfold Hx pP dY eU;have e:gL (k:Int)=some k:=rfl
 simp only[qA,zA.asNat,zA.asInt,e,sD,qE.2 h,qE.2 (yaw _),mE,rR,xP,ycr]
end Go.Proofs
namespace Go.Am
open Go Go.RowKit
section
variable {t tf tf0:Tr vA}{C:rA}
mutual
theorem RD.ones:∀(d:D) (cs:List zA),RD t d cs->∀a∈cs,zA.one a=true
 | .int _ _,cs,h,a,ha=>by rw[RD]at h;subst h;simp at ha;subst ha;rfl
 | .bool _,cs,h,a,ha=>by rw[RD]at h;subst h;simp at ha;subst ha;rfl
 | .str _,cs,h,a,ha=>by rw[RD]at h;subst h;simp at ha;subst ha;rfl
 | .sl sz l,cs,h,a,ha=>by
  rw[Bb]at h;obtain⟨v,rfl,h⟩:=h
  simp at ha;subst ha;exact h.one
 | .st l,cs,h,a,ha=>by
  rw[uO]at h;obtain⟨cl,rfl,h⟩:=h
  exact dD.ones l cl h a ha
theorem dD.ones:∀(l:List D) (cl:List (List zA)),dD t l cl->∀a∈cl.flatten,zA.one a=true
 | [],cl,h,a,ha=>by grind [dD]
 | d::l,cl,h,a,ha=>by
  rw[dD]at h;obtain⟨c,r,rfl,h1,h2⟩:=h
  rw[yas,yaf]at ha;rcases ha with ha | ha
  ·exact RD.ones d c h1 a ha
  ·exact dD.ones l r h2 a ha
end
theorem RD.all{d:D}{cs:List zA}(h:RD t d cs):cB zA.one cs=true:=by
 grind [dH,RD.ones]
end
end Go.Am
namespace Go.Am
open Go Go.RowKit
section
variable {C:rA}{t:Tr vA}
def Ex(C:rA)(T:Nat)(k:zA):Bool:=
 match ob (C.tys.get T) fun ty=>ob ty.desc.asMap fun ke=>ob (C.tys.get ke.1) fun kty=>yB (jS C kty&&qQ C kty k) (some ())with | some _=>true | none=>false
theorem GV{T:Nat}{k:zA}(h:Ex C T k=true):∃ty ke kty,C.tys.get T=some ty/\ty.desc.asMap=some ke/\C.tys.get ke.1=some kty/\jS C kty=true/\qQ C kty k=true:=by
 grind [Ex,tA,xB]
theorem zby{T b n:Nat}{k v:zA}{l l':List (zA × zA)}(hk:Ex C T k=true)(hb:C.base<=b)(hm:t.get b=some (.map l))(hs:qM k v l=some l') :
  bQ C T (.map b) k v ⟨n,t⟩=some (rD,⟨n,t.set b (.map l')⟩):=by
 obtain⟨ty,ke,kty,h1,h2,h3,h4,h5⟩:=GV hk
 have e2:(!Nat.blt b C.base)=true:=by
  grind [vC]
 have e3:lJ ⟨n,t⟩ b=some l:=by unfold lJ;rw[hm];rfl
 unfold bQ;rw[h1,qA,h2,qA,h3,qA,h4,mE];simp only[zA.asMap,qA];rw[e2,mE,e3,qA,h5,mE,hs];rfl
theorem TQ{T b n:Nat}{k v:zA}{l:List (zA × zA)}(hk:Ex C T k=true)(hm:t.get b=some (.map l))(hs:mJ k l=some (some v)){ty:rC}(hT:C.tys.get T=some ty){ke:Nat × Nat}(hd:ty.desc.asMap=some ke){ety:rC}(he:C.tys.get ke.2=some ety)(ok:Bool) :
  pV C T ⟨n,t⟩ (.map b) k ok=some (bif ok then .tup [v,.bool true]else v):=by
 obtain⟨ty,ke,kty,h1,h2,h3,h4,h5⟩:=GV hk
 rw[hT]at h1;cases h1;rw[hd]at h2;cases h2;have e3:lJ ⟨n,t⟩ b=some l:=by unfold lJ;rw[hm];rfl
 unfold pV;rw[hT,qA,hd,qA,h3,qA,h4,mE,he,qA];have e4:yU ⟨n,t⟩ (.map b)=some l:=by grind [yU,zA.asMap]
 rw[e4,qA,h5,mE,hs,qA]
end
end Go.Am
namespace Go.Proofs
open Go Go.Am
def gK(n:Nat):Bool:=(decide (65<=n)&&decide (n<=90))||(decide (97<=n)&&decide (n<=122))
def fD(n:Nat):Bool:=decide (48<=n)&&decide (n<=57)
def aG(n:Nat):Bool:=gK n||fD n||decide (n=95)
def fE (p:Nat->Bool)(s:List Nat):List Nat:=s.takeWhile p
def Ii:Nat->List Nat
 | 2=>[32,116,111,32,105,115,32,97,116,32,105,102,32,111,114,32,117,112,32]
 | 3=>[32,100,101,102,32,114,111,119,32,111,110,101,32,116,119,111,32,101,110,100,32,111,102,102,32,104,97,115,32,109,105,110,32,109,97,120,32,97,110,100,32,110,111,116,32]
 | 4=>[32,112,108,97,110,32,102,97,99,116,32,102,114,111,109,32,119,104,101,110,32,116,104,101,110,32,100,97,116,101,32,100,97,121,115,32,116,114,117,101,32,108,111,111,107,32,98,101,115,116,32,103,114,111,119,32,100,111,119,110,32,99,101,105,108,32,104,97,108,102,32,101,118,101,110,32]
 | 5=>[32,116,97,98,108,101,32,107,110,111,119,110,32,116,114,117,116,104,32,109,111,110,101,121,32,102,97,108,115,101,32,109,105,110,117,115,32,116,111,100,97,121,32,114,111,117,110,100,32,115,116,97,114,116,32,102,108,111,111,114,32]
 | 6=>[32,99,108,97,117,115,101,32,110,117,109,98,101,114,32,109,111,110,116,104,115,32]
 | 7=>[32,98,101,116,119,101,101,110,32,115,101,114,118,105,99,101,32]
 | _=>[]
def Ih(s:List Nat):Bool:=decide (2<=s.length)&&decide (s.length<=7)&&bC (fE gK s) s&&jY ([32]++s++[32]) (Ii s.length)
def aJ(s:List Nat):Bool:=match s with
 | []=>false
 | x::r=>decide ((x::r).length<=24)&&gK x&&bC (fE aG (x::r)) (x::r) && !Ih (x::r)
structure cC where
 kind:Nat
 text:List Nat
 line:Nat
 col:Nat
def yD (s:List Nat):Nat:=s.foldl (fun n b=>n*10+(b-48)) 0
def nN(i b:Nat):Bool:=if i=4\/i=7 then decide (b=45)else fD b
def cI(s:List Nat):Bool:=decide (10<=s.length)&&(List.range 10).all fun i=>nN i (s.getD i 0)
def Jo(y:Nat):Bool:=decide (y%4=0)&&(decide (y%100≠0)||decide (y%400=0))
def Jm:List Nat:=[31,28,31,30,31,30,31,31,30,31,30,31]
def sN(y m:Nat):Nat:=if m<1\/12<m then 0 else if m=2/\Jo y=true then 29 else Jm.getD (m-1) 0
def yP(y:Nat):Nat:=y / 4-y / 100+y / 400
def Dx(y:Nat):Nat->Nat
 | 0=>0
 | k+1=>Dx y k+sN y (k+1)
def kO(m:Nat):Nat:=365*(m / 12)+yP (1899+m / 12)-yP 1899+Dx (1900+m / 12) (m%12)
def Cy (y m d:Nat):Option Nat:=if y<1900\/2079<y\/d<1\/sN y m<d then none else if kO (12*(y-1900)+m-1)+d-1<65536 then some (kO (12*(y-1900)+m-1)+d-1)else none
def lY (s:List Nat):Option Nat:=Cy (yD (s.take 4)) (yD ((s.take 7).drop 5)) (yD (s.drop 8))
def dO(s:List Nat):Bool:=decide (1<s.length)&&decide (s.head?=some 48)
def Jw(b:Nat):Bool:=[40,41,44,43,45,42,47,60,61].contains b
inductive TR where
 | bad (e:Nat)
 | tok (kind:Nat) (text:List Nat)
def iD(s:List Nat):List Nat:=fE fD s
def lF(s:List Nat):List Nat:=if s[(iD s).length]?=some 47 then fE fD (s.drop ((iD s).length+1))else []
def oF(s:List Nat):Nat:=if lF s=[]then(iD s).length else(iD s).length+1+(lF s).length
def bS(s:List Nat)(n:Nat):Bool:=match s[n]? with | some b=>aG b | none=>false
def fI(s:List Nat):Bool:=decide (200<oF s)||bS s (oF s)||dO (iD s)||dO (lF s)||decide (lF s=[48])
def fR(s:List Nat):Bool:=(decide (10<s.length)&&bS s 10)||decide (lY (s.take 10)=none)
def iH(s:List Nat):TR:=
 match s with
 | []=>.bad 110
 | b::_=>
  if gK b then(if 24<(fE aG s).length then .bad 111 else .tok 1 (fE aG s))
  else if fD b&&cI s then(if fR s then .bad 113 else .tok 3 (s.take 10))
  else if fD b then(if fI s then .bad 112 else .tok 2 (s.take (oF s)))
  else if Jw b then .tok 4 [b]else .bad 110
inductive LR where
 | ok (l:List cC)
 | er (e line col:Nat)
def LR.cons(t:cC):LR->LR
 | .ok l=>.ok (t::l)
 | .er e a b=>.er e a b
def endT (p:Nat × Nat):cC:=⟨5,[],p.1,p.2⟩
def LR.close(op:Option (Nat × Nat))(r:LR):LR:=match op with | some p=>r.cons (endT p) | none=>r
def yG:Nat->List Nat->Nat->Nat->Option (Nat × Nat)->LR
 | 0,_,_,_,_=>.ok []
 | _+1,[],_,_,op=>LR.close op (.ok [])
 | k+1,b::r,ln,cl,op=>
  if b=10 then LR.close op (yG k r (ln+1) 1 none)
  else if b=32\/b=9 then yG k r ln (cl+1) op
  else if b=35 then yG k ((b::r).drop (fE (fun x=>decide (x≠10)) (b::r)).length) ln (cl+(fE (fun x=>decide (x≠10)) (b::r)).length) op
  else match iH (b::r)with
   | .bad e=>.er e ln cl
   | .tok kd w=>LR.cons ⟨kd,w,ln,cl⟩ (yG k ((b::r).drop w.length) ln (cl+w.length) (some (ln,cl+w.length)))
def lexN (s:List Nat):LR:=yG (s.length+1) s 1 1 none
end Go.Proofs
namespace Go.Proofs
open Go Go.Am
abbrev wPlan:List Nat:=[112,108,97,110]
abbrev Lx:List Nat:=[102,97,99,116]
abbrev wDef:List Nat:=[100,101,102]
abbrev wTable:List Nat:=[116,97,98,108,101]
abbrev wTwo:List Nat:=[116,119,111]
abbrev wOne:List Nat:=[111,110,101]
abbrev wRow:List Nat:=[114,111,119]
abbrev wClause:List Nat:=[99,108,97,117,115,101]
abbrev wAt:List Nat:=[97,116]
abbrev vM:List Nat:=[116,111,100,97,121]
abbrev wHas:List Nat:=[104,97,115]
abbrev Lt:List Nat:=[116,114,117,101]
abbrev Lw:List Nat:=[102,97,108,115,101]
abbrev Lv:List Nat:=[109,111,110,101,121]
abbrev Bl:List Nat:=[109,105,110,117,115]
abbrev Ly:List Nat:=[100,97,121,115]
abbrev Lu:List Nat:=[109,111,110,116,104,115]
abbrev wLook:List Nat:=[108,111,111,107]
abbrev wMin:List Nat:=[109,105,110]
abbrev wMax:List Nat:=[109,97,120]
abbrev MH:List Nat:=[98,101,116,119,101,101,110]
abbrev wIf:List Nat:=[105,102]
abbrev wRound:List Nat:=[114,111,117,110,100]
abbrev MG:List Nat:=[115,101,114,118,105,99,101]
abbrev wGrow:List Nat:=[103,114,111,119]
abbrev wBest:List Nat:=[98,101,115,116]
abbrev zbv:List Nat:=[110,117,109,98,101,114]
abbrev wStart:List Nat:=[115,116,97,114,116]
abbrev wKnown:List Nat:=[107,110,111,119,110]
abbrev wIs:List Nat:=[105,115]
abbrev wFrom:List Nat:=[102,114,111,109]
abbrev wTo:List Nat:=[116,111]
abbrev wEnd:List Nat:=[101,110,100]
abbrev wOff:List Nat:=[111,102,102]
abbrev wWhen:List Nat:=[119,104,101,110]
abbrev wThen:List Nat:=[116,104,101,110]
abbrev eW:List Nat:=[110,111,116]
abbrev wAnd:List Nat:=[97,110,100]
abbrev wOr:List Nat:=[111,114]
def iB (n:Nat):List Nat:=if n=0 then []else n%65536::iB (n / 65536)
decreasing_by omega
def zO (s:List Nat):List Nat:=fE (fun b=>decide (b≠47)) s
def rP (s:List Nat):List Nat:=s.drop ((zO s).length+1)
def vL(s:List Nat):Bool:=s.contains 47
def sL(neg:Bool)(n d:Nat):zI:=⟨⟨neg&&decide (0<n),iB (n / Nat.gcd n d)⟩,⟨false,iB (d / Nat.gcd n d)⟩⟩
def yW(s:List Nat)(neg:Bool):zI:=sL neg (yD (zO s)) (if vL s then yD (rP s)else 1)
def dQ:zI:=⟨⟨false,[]⟩,⟨false,[]⟩⟩
def fW:iJ:=⟨0,dQ,0⟩
def lU (s:List Nat)(neg:Bool)(lo hi:Int):Option Int:=(fun n:Int=>if lo<=n/\n<=hi then some n else none) (if neg then -(yD s:Int)else yD s)
def qX(s:List Nat):Prop:=s.length<=200/\(∀b∈zO s,fD b=true)/\zO s≠[]/\dO (zO s)=false/\(vL s=true->rP s≠[]/\(∀b∈rP s,fD b=true)/\dO (rP s)=false/\rP s≠[48])
def Qh(s:List Nat):Prop:=s.length=10/\cI s=true/\∃n,lY s=some n
def Dt(t:cC):Prop:=(t.kind=2->qX t.text)/\(t.kind=3->Qh t.text)
inductive PR (α:Type) where
 | ok (a:α) (n:Nat)
 | er (e:Nat) (i:Nat)
def PR.bind{α β:Type}:PR α->(α->Nat->PR β)->PR β
 | .ok a n,f=>f a n
 | .er e i,_=>.er e i
abbrev PM(α:Type):=Nat->PR α
section
variable (tk:List cC)
def jB (w:List Nat)(n:Nat):Bool:=match tk[n]? with | some t=>(decide (t.kind=1)||decide (t.kind=4))&&bC t.text w | none=>false
def fL(k n:Nat):Bool:=match tk[n]? with | some t=>decide (t.kind=k) | none=>false
def eP(n:Nat):List Nat:=match tk[n]? with | some t=>t.text | none=>[]
def dP(k:Nat):PM (List Nat):=fun n=>if fL tk k n then .ok (eP tk n) (n+1)else .er 120 n
def xK (w:List Nat):PM Unit:=fun n=>if jB tk w n then .ok () (n+1)else .er 120 n
def eV(n:Nat):Bool:=fL tk 1 n&&aJ (eP tk n)
def jV:PM (List Nat):=fun n=>if eV tk n then .ok (eP tk n) (n+1)else .er 120 n
def zdx:PM Int:=fun n=>(dP tk 3 n).bind fun t n=>.ok ((lY t).getD 0:Nat) n
def fU(word:Nat->List Nat)(most:Nat):Nat->Nat->PM Nat
 | 0,_,n=>.er 120 n
 | k+1,i,n=>if most<i then .er 120 n else if jB tk (word i) n then .ok i (n+1)else fU word most k (i+1) n
def oH(l:List (List Nat × Nat))(n:Nat):Option Nat:=(l.find? fun o=>jB tk o.1 n).map Prod.snd
def zH (op:Nat)(x y:vB):vB:=.mk op [] fW [x,y]
def oO (op:Nat)(w:List Nat)(x:vB):vB:=.mk op w fW [x]
def Yl(v:iJ):vB:=.mk 1 [] v []
def kM(o:PM vB)(l:List (List Nat × Nat)):Nat->vB->PM vB
 | 0,x,n=>.ok x n
 | m+1,x,n=>match oH tk l n with
  | none=>.ok x n
  | some op=>(o (n+1)).bind fun y n'=>kM o l m (zH op x y) n'
def mN(o:PM vB)(l:List (List Nat × Nat)):PM vB:=fun n=>(o n).bind fun x n'=>kM tk o l tk.length x n'
def Vf(o:PM vB):PM vB:=mN tk o [([42],9),([47],10)]
def xR (o:PM vB):PM vB:=mN tk (Vf tk o) [([43],7),([45],8)]
def iY(o:PM vB):PM vB:=fun n=>(xR tk o n).bind fun x n1=>match oH tk [([60],13),([61],14)] n1 with
 | none=>.ok x n1
 | some op=>(xR tk o (n1+1)).bind fun y n2=>.ok (zH op x y) n2
def sR:Nat->Nat->Nat
 | 0,_=>0
 | m+1,n=>if jB tk eW n then sR m (n+1)+1 else 0
def Ls:Nat->vB->vB
 | 0,x=>x
 | k+1,x=>Ls k (oO 17 [] x)
def Ep(o:PM vB):PM vB:=fun n=>(iY tk o (n+sR tk tk.length n)).bind fun x n'=>.ok (Ls (sR tk tk.length n) x) n'
def Qi(o:PM vB):PM vB:=mN tk (Ep tk o) [(wAnd,15)]
def jU(o:PM vB):PM vB:=mN tk (Qi tk o) [(wOr,16)]
def atP (o:PM vB)(op:Nat):PM vB:=fun n=>(jV tk n).bind fun w n1=>(xK tk wAt n1).bind fun _ n2=>(o n2).bind fun x n3=>.ok (oO op w x) n3
def gZ(neg:Bool):PM iJ:=fun n=>(dP tk 2 n).bind fun s n1=>
 if jB tk Ly n1||jB tk Lu n1 then
  (if vL s then .er 120 n1 else match lU s neg (-1048576) 1048576 with
   | none=>.er 121 n
   | some i=>.ok ⟨if jB tk Ly n1 then 5 else 6,dQ,i⟩ (n1+1))
 else .ok ⟨2,yW s neg,0⟩ n1
def vW:PM (Option iJ):=fun n=>
 if jB tk Lt n then .ok (some ⟨1,dQ,1⟩) (n+1)
 else if jB tk Lw n then .ok (some ⟨1,dQ,0⟩) (n+1)
 else if fL tk 3 n then(zdx tk n).bind fun d n1=>.ok (some ⟨4,dQ,d⟩) n1
 else if jB tk Lv n then(fun(neg:Bool)=>(dP tk 2 (if neg then n+2 else n+1)).bind fun s n1=>.ok (some ⟨3,yW s neg,0⟩) n1) (jB tk Bl (n+1))
 else if jB tk Bl n then(gZ tk true (n+1)).bind fun v n1=>.ok (some v) n1
 else if fL tk 2 n then(gZ tk false n).bind fun v n1=>.ok (some v) n1
 else .ok none n
structure CF where
 word:List Nat
 op:Nat
 named:Bool
 least:Nat
 most:Nat
abbrev Aq:List CF:=[⟨wLook,6,true,1,2⟩,⟨wMin,11,false,2,2⟩,⟨wMax,12,false,2,2⟩,⟨MH,20,false,2,2⟩,⟨wIf,18,false,3,3⟩,⟨wRound,19,false,2,2⟩,⟨MG,21,true,2,2⟩,⟨wGrow,23,true,2,2⟩,⟨wBest,22,true,3,3⟩,⟨Lu,24,false,1,1⟩,⟨zbv,25,false,1,1⟩,⟨wStart,26,false,1,1⟩]
def Jh(e:PM vB):Nat->List vB->PM (List vB)
 | 0,l,n=>.ok l n
 | k+1,l,n=>(xK tk [44] n).bind fun _ n1=>(e n1).bind fun x n2=>Jh e k (l++[x]) n2
def Dz(e:PM vB):Nat->List vB->PM (List vB)
 | 0,l,n=>.ok l n
 | k+1,l,n=>if jB tk [44] n then(e (n+1)).bind fun x n2=>Dz e k (l++[x]) n2 else .ok l n
def Aa:Nat->List Nat
 | 1=>[100,111,119,110]
 | 2=>[117,112]
 | 3=>[102,108,111,111,114]
 | 4=>[99,101,105,108]
 | 5=>[104,97,108,102]
 | 6=>[101,118,101,110]
 | _=>[]
def kindN:Nat->List Nat
 | 1=>[116,114,117,116,104]
 | 2=>[110,117,109,98,101,114]
 | 3=>[109,111,110,101,121]
 | 4=>[100,97,116,101]
 | 5=>[100,97,121,115]
 | 6=>[109,111,110,116,104,115]
 | _=>[]
def Ap(e:PM vB):PM vB:=fun n=>match Aq.find? fun f=>jB tk f.word n with
 | none=>.er 120 n
 | some f=>(xK tk [40] (n+1)).bind fun _ n1=>
  (if f.named then(jV tk n1).bind fun w n2=>(xK tk [44] n2).bind fun _ n3=>.ok w n3 else .ok [] n1:PR (List Nat)).bind fun w n2=>
  (e n2).bind fun x n3=>(Jh tk e (f.least-1) [x] n3).bind fun l n4=>(Dz tk e (f.most-f.least) l n4).bind fun l n5=>
  (if f.op=19 then(xK tk [44] n5).bind fun _ n6=>fU tk Aa 6 6 1 n6 else .ok 0 n5:PR Nat).bind fun m n6=>
  (xK tk [41] n6).bind fun _ n7=>.ok (.mk f.op w ⟨0,dQ,m⟩ l) n7
def pN(o:PM vB):PM vB:=fun n=>(vW tk n).bind fun v n'=>match v with
 | some v=>.ok (Yl v) n'
 | none=>
  if jB tk [40] n' then(jU tk o (n'+1)).bind fun x n1=>(xK tk [41] n1).bind fun _ n2=>.ok x n2
  else if jB tk vM n' then .ok (.mk 2 [] fW []) (n'+1)
  else if jB tk Lx n' then atP tk o 3 (n'+1)
  else if jB tk wHas n' then atP tk o 4 (n'+1)
  else if eV tk n' then atP tk o 5 n'
  else Ap tk (jU tk o) n'
def yL:Nat->PM vB
 | 0,n=>.er 122 n
 | k+1,n=>pN tk (yL k) n
def exprT:PM vB:=jU tk (yL tk 101)
def Cg:PM Unit:=fun n=>(dP tk 5 n).bind fun _ n1=>if n1<tk.length then .er 120 n1 else .ok () n1
def gP:PR vB:=(exprT tk 0).bind fun x n=>(Cg tk n).bind fun _ n1=>.ok x n1
end
end Go.Proofs
namespace Go.Proofs
open Go Go.Am
variable [jC]
variable {t:Tr vA}
theorem iLe_d{a b:Int}:aF a b=decide (a<=b):=by
 grind [nJ]
theorem Pg{n:Nat}:fB yA F 36 [.int .u8 (n:Int)] t=some (.bool (gK n)):=by
 refine tE.2 (w36 ?_)
 simp only[zD,oK,t36,oA,iLe_d,decide_eq_true_eq];grind [gK]
theorem Jy{n:Nat}:fB yA F 65 [.int .u8 (n:Int)] t=some (.bool (fD n)):=by
 refine tE.2 (w65 ?_)
 simp only[zD,t65,oA,iLe_d,decide_eq_true_eq];grind [fD]
theorem Xf{n:Nat}:fB yA F 38 [.int .u8 (n:Int)] t=some (.bool (aG n)):=by
 refine tE.2 (w38 ?_)
 simp only[uB,oK,uY,t38,oA,q36,Pg,sA,zA.asBool];unfold aG
 cases h:gK n with
 | true=>simp
 | false=>
  simp only[ybq,if_false,q65,Jy,sA,zA.asBool];grind [sE,decide]
theorem xL{s:List Nat}{i x:Nat}(h:s[i]?=some x):qH yA 9 (.str s) (.int .i64 (i:Int))=some (.int .u8 (x:Int)):=by
 unfold qH;rw[zN,qA];simp only[zA.asNat,zA.asInt,zA.asStr];have e:ob (some (i:Int)) gL=some i:=rfl
 rw[e,qA,show yE.isString .string=true from rfl,mE,zG,h,qA];rfl
theorem Nh{p:Nat->Bool}{g:Nat}(hg:∀n:Nat,fB yA F g [.int .u8 (n:Int)] t=some (.bool (p n)))(hq:∀ {a:List zA} {m:Tr vA} {R:fA},Wq yA F gC g a m R=xD (fB yA F g a m) (fun v=>R v m))(hy:Nat.blt g pn=true){s:List Nat}(hs:s.length<4000000000000000000) :
  ∀(k i:Nat),i+k=s.length->(∀j x,j<i->s[j]?=some x->p x=true)->jp 37 2 [.str s,.func (.func g) [] [],.int .i64 (i:Int)] t (fun v t'=>v=.str (fE p s)/\t'=t):=by
 have key:∀i,i<=s.length->(∀j x,j<i->s[j]?=some x->p x=true)->(∀x,s[i]?=some x->p x=false)->fE p s=s.take i:=by
  intro i hi h1 h2;unfold fE;induction s generalizing i with
  | nil=>simp
  | cons a s ih=>
   cases i with
   | zero=>simp_all
   | succ i=>
    rw[List.takeWhile_cons,h1 0 a (by omega) rfl,yab rfl,List.take_succ_cons]
    rw[ih (by grind) i (by simp_all) (fun j x hj hx=>h1 (j+1) x (by omega) (by simp_all)) (fun x hx=>h2 x (by simp_all))]
 intro k;induction k with
 | zero=>
  intro i hi hp;refine j37_2 ?_
  simp only[uU,uB,uS,nD,uZ,uY,Sx,oA,bF,Ot];grind [Bv,sA,zA.asStr]
 | succ k ih=>
  intro i hi hp;have hx:s[i]?=some s[i]:=ybd (by omega)
  refine j37_2 ?_
  simp only[uU,uB,uS,nD,uZ,uY,Sx,oA,bF,Ot];rw[yab (by omega),xL hx,sA,bB,sA]
  have e:wK (.func (.func g) [] []) [.int .u8 (s[i]:Int)]=some (g,[.int .u8 (s[i]:Int)]):=by
   unfold wK;simp only[zA.asFunc,qA,hy,mE];rfl
  rw[e,sA];simp only[];rw[hq,hg,sA];simp only[zA.asBool,sA]
  cases hb:p s[i]with
  | true=>
   rw[yab rfl,oC (by omega) (by omega),show(i:Int)+1=((i+1:Nat):Int) by omega]
   refine ih (i+1) (by omega) fun j x hj hjx=>?_
   grind
  | false=>
   rw[yaa (by simp),Bv (by omega),sA]
   simp only[zA.asStr,sA];rw[key i (by omega) hp (fun x hx'=>by simp_all)]
   simp_all
theorem CL{s:List Nat}(hs:s.length<4000000000000000000):fB yA F 37 [.str s,.func (.func 38) [] []] t=some (.str (fE aG s)):=by
 refine tE.2 (w37 ?_)
 simp only[uZ,t37,oA];exact Nh (fun n=>Xf) (fun {a m R}=>by rw[q38]) rfl hs s.length 0 (by omega) (fun j x hj=>by omega)
theorem zb5{s:List Nat}(hs:s.length<4000000000000000000):fB yA F 37 [.str s,.func (.func 36) [] []] t=some (.str (fE gK s)):=by
 refine tE.2 (w37 ?_)
 simp only[uZ,t37,oA];exact Nh (fun n=>Pg) (fun {a m R}=>by rw[q36]) rfl hs s.length 0 (by omega) (fun j x hj=>by omega)
def rI (n:Nat):zA × zA:=(.int .i64 (n:Int),.str (Ii n))
theorem KG{a b:List Nat}(h:a.length<4294967281):fB yA F 66 [.str a,.str b] t=some (.bool (jY b a)):=by
 have hg:yA.prims.get 66=some (vN El):=by kernel_rfl
 refine Iq hg fun H=>?_
 unfold El;simp only[];rw[sD,vC.2 h];rfl
theorem QR{s:List Nat}(hs:s.length<4000000000000000000):fB yA F 39 [.str s] t=some (.bool (Ih s)):=by
 refine vX (w39 ?_)
 simp only[uB,uS,zD,uZ,t39,oA,bF,Ot];unfold Ih;by_cases h1:2<=s.length
 ·rw[yaa (by omega)]
  by_cases h2:s.length<=7
  ·rw[yaa (by omega)]
   simp only[q37,zb5 hs,sA,zA.asStr]
   cases h3:bC (fE gK s) s with
   | false=>simp
   | true=>
    simp only[Bool.not_true,ybq,if_false];intro b hb hbase;have hmk:Mb ⟨b,t⟩=some (.map b,⟨b+1,t.set b (.map [])⟩):=rfl
    rw[hmk,sA];simp only[];have h0:(t.set b (.map [])).get b=some (.map []):=by rw[Tr.get_set,yab rfl]
    have ho:nF b t (t.set b (.map [])):=fun c hc=>by rw[Tr.get_set,yaa hc]
    generalize t.set b (.map [])=t1 at h0 ho
    have hstep:∀(l:List (zA × zA)) (k:Nat) (s':List Nat) (l':List (zA × zA)) (Q:(zA × xA)->Prop) (t1:Tr vA),t1.get b=some (.map l)->nF b t t1->qM (.int .i64 (k:Int)) (.str s') l=some l'->Ex yA 135 (.int .i64 (k:Int))=true →
      (∀n t2,t2.get b=some (.map l')->nF b t t2->Q (rD,⟨n,t2⟩))->∀n,t1.get n=none->yA.base<=n->xD (bQ yA 135 (.map b) (.int .i64 (k:Int)) (.str s') ⟨n,t1⟩) Q:=by
     intro l k s' l' Q t1 g1 g2 h1 h2 h3 n _ _;rw[zby h2 hbase g1 h1,sA];exact h3 n _ (by rw[Tr.get_set,yab rfl]) fun c hc=>by rw[Tr.get_set,yaa hc];exact g2 c hc
    refine hstep [] 2 _ [rI 2] _ t1 h0 ho rfl (by kernel_rfl) fun n t2 g o=>?_
    refine hstep _ 3 _ [rI 2,rI 3] _ t2 g o rfl (by kernel_rfl) fun n t2 g o=>?_
    refine hstep _ 4 _ [rI 2,rI 3,rI 4] _ t2 g o rfl (by kernel_rfl) fun n t2 g o=>?_
    refine hstep _ 5 _ [rI 2,rI 3,rI 4,rI 5] _ t2 g o rfl (by kernel_rfl) fun n t2 g o=>?_
    refine hstep _ 6 _ [rI 2,rI 3,rI 4,rI 5,rI 6] _ t2 g o rfl (by kernel_rfl) fun n t2 g o=>?_
    refine hstep _ 7 _ [rI 2,rI 3,rI 4,rI 5,rI 6,rI 7] _ t2 g o rfl (by kernel_rfl) fun n t2 g o=>?_
    have hle:zB t t2:=fun c u hc=>by
     have:c≠b:=fun e=>by simp_all
     rw[o c this];exact hc
    have hl:pV yA 135 ⟨0,t2⟩ (.map b) (.int .i64 (s.length:Int)) false=some (.str (Ii s.length)):=by
     have hk:Ex yA 135 (.int .i64 (s.length:Int))=true/\mJ (.int .i64 (s.length:Int)) [rI 2,rI 3,rI 4,rI 5,rI 6,rI 7]=some (some (.str (Ii s.length))):=by
      have:s.length=2\/s.length=3\/s.length=4\/s.length=5\/s.length=6\/s.length=7:=by omega
      rcases this with e | e | e | e | e | e<;>rw[e]<;>exact⟨by kernel_rfl,rfl⟩
     exact TQ hk.1 g hk.2 ty135 rfl zN false
    rw[hl,sA];simp only[zA.asStr,sA];rw[nV (by grind),sA]
    simp only[zA.asStr,sA];rw[nV (by grind),sA]
    simp only[zA.asStr,sA];have hr:(Ii s.length).length<4294967281:=by
     have:s.length=2\/s.length=3\/s.length=4\/s.length=5\/s.length=6\/s.length=7:=by omega
     rcases this with e | e | e | e | e | e<;>rw[e]<;>decide
    rw[q66,KG hr,sA];simp only[zA.asBool,sA];refine⟨?_,hle⟩
    grind
  grind
 grind
theorem Vy{s:List Nat}:fB yA F 13 [.str s] t=some (.bool (aJ s)):=by
 refine tE.2 (w13 ?_)
 simp only[uU,uB,uS,zD,uZ,uY,t13,oA,bF,Ot]
 cases s with
 | nil=>simp[aJ,bN]
 | cons x r=>
  have h0:bC (x::r) []=false:=by
   grind [bN]
  rw[h0];simp only[ybq,if_false];unfold aJ;by_cases h1:(x::r).length<=24
  ·rw[yaa (by omega)]
   have hx:=xL (s:=x::r) (i:=0) (x:=x) rfl
   rw[show((0:Nat):Int)=0 from rfl]at hx
   rw[hx,sA,bB,sA,q36,Pg,sA];simp only[zA.asBool,sA]
   cases h2:gK x with
   | false=>simp
   | true=>
    simp only[Bool.not_true,ybq,if_false];rw[q37,CL (by omega),sA]
    simp only[zA.asStr,sA]
    cases h3:bC (fE aG (x::r)) (x::r)with
    | false=>simp
    | true=>
     simp only[if_true,q39,QR (s:=x::r) (by omega),sA,zA.asBool]
     simp_all
  grind
end Go.Proofs
