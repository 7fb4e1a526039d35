/- difference, whole. -/
import Derived.Test.YthmbkdkibhffbaaGreatDoorG13
set_option linter.all false
noncomputable section
set_option maxRecDepth 100000
namespace Go.Proofs
open Go Go.Am
variable [dC]
variable {t:Tr jA}
theorem zxp{la lb:List Nat}{pa pb:zA}{b u v n:Nat}{t0:Tr jA}{Q:cB}(ha:oA t0 1 (oC .u32 la) pa)(hb:oA t0 1 (oC .u32 lb) pb)(hal:dB BB la)(hbl:dB BB lb)(hu:u<4294967296)(hv:v<4294967296)(hn:n<1000000)(hbase:yA.base<=b)(hb0:t0.get b=none)
  (hQ:∀t' W rv x z,cA t0 t'->oA t' 1 (oC .u32 (nF W)) rv->W.length=n->dB BB W->val BB W+BB^n*x+v*val BB (lb.take n)=u*val BB (la.take n)+BB^n*z->Q rv t') :
  ∀(k i x y bo:Nat) (t':Tr jA) (W:List Nat),i+k=n->cA t0 t'->tF t' b .u32 (W++List.replicate k 0)->W.length=i->dB BB W->x<=u->y<=v->bo<2->val BB W+BB^i*x+v*val BB (lb.take i)=u*val BB (la.take i)+BB^i*(y+bo) →
  jp 317 2 [.int .u64 (u:Int),pa,.int .u64 (v:Int),pb,.slice b 0 n n,.int .u64 (x:Int),.int .u64 (y:Int),.int .u32 (bo:Int),.int .i64 (n:Int),.int .i64 (i:Int)] t' Q:=by
 intro k;have hBB:=uL
 induction k with
 | zero=>
  intro i x y bo t' W hi ht ho hW hWl hx hy hbo hval;have hi':i=n:=by omega
  subst hi'
  have e3:oA t' 1 (oC .u32 W) (.slice b 0 i i):=by
   rw[List.replicate_zero,ybe]at ho;have:=ho.all (cap:=i) (by omega)
   rw[hW]at this;exact this
  obtain⟨rv,f1,f2⟩:=eT (by omega) e3
  refine z3f _ _ _ _ _ _ _ _ _ _ ?_
  simp only[ztd,pA,mB];rw[if_neg (by omega)]
  simp only[q313,f1,xA];exact hQ t' W rv x (y+bo) ht f2 hW hWl hval
 | succ k ih=>
  intro i x y bo t' W hi ht ho hW hWl hx hy hbo hval;refine zrg (ha.mono ht) (hb.mono ht) hal hbl hu hv hx hy (by omega) ?_
  have wa:=zkx nH hal i
  have wb:=zkx nH hbl i
  have cx:=zpo hx wa
  have cy:=zpo hy wb
  have va:=wW BB la i
  have vb:=wW BB lb i
  generalize wd la i=ai at *
  generalize wd lb i=bi at *
  generalize hX:x+u*ai=X at *
  generalize hY:y+v*bi=Y at *
  have ex:vA .u32 (X:Int)=((X%4294967296:Nat):Int):=by rw[yN];omega
  have ey:vA .u32 (Y:Int)=((Y%4294967296:Nat):Int):=by rw[yN];omega
  have fx:Int.fdiv (X:Int) 4294967296=((X / 4294967296:Nat):Int):=oO X 4294967296
  have fy:Int.fdiv (Y:Int) 4294967296=((Y / 4294967296:Nat):Int):=oO Y 4294967296
  have hs:=zzd (t:=t') (x:=X%4294967296) (y:=Y%4294967296) (b:=bo) (ybz _ (by decide)) (ybz _ (by decide)) hbo
  obtain⟨w,hw⟩:∃w,w=(X%4294967296+8589934592-Y%4294967296-bo)%4294967296:=⟨_,rfl⟩
  obtain⟨bo',hbo'⟩:∃bo':Nat,bo'=if X%4294967296<Y%4294967296+bo then 1 else 0:=⟨_,rfl⟩
  rw[<- hw,<- hbo']at hs;have hwlt:w<BB:=by omega
  have hb2:bo'<2:=by rw[hbo'];split<;>omega
  have hsum:X%4294967296+4294967296*bo'=w+Y%4294967296+bo:=by
   rw[hw,hbo'];split<;>omega
  have g1:=sU kG (b:=b) (n:=n) (cap:=n) (j:=i) (by omega)
  obtain⟨t1,s1,s2,s3⟩:=ho.store (C:=yA) hbase (j:=i) (by simp;omega) w wH rfl
  have hset:=zY (p:=W) (n:=k) (x:=w)
  rw[hW]at hset;rw[hset]at s2;have ei:(i:Int)+1=((i+1:Nat):Int):=by omega
  refine z6c _ _ _ _ _ _ _ _ _ _ _ ?_
  simp only[ztc,pA,ex,ey,q342,hs,xA,vC,zA.asTup,sA,vE,yaa,yab,yB,g1,fx,fy,ei];intro _ _ _;rw[s1,xA,fB (by omega) (by omega)]
  rw[hBB]at cx cy;refine ih (i+1) (X / 4294967296) (Y / 4294967296) bo' t1 (W++[w]) (by omega) (ht.off hb0 s3) s2 (by simp[hW]) (tT hWl hwlt) cx cy hb2 ?_
  have hst:=zxo (B:=BB) (P:=BB^i) (ai:=ai) (bi:=bi) (x':=X / 4294967296) (y':=Y / 4294967296) (lx:=X%4294967296) (ly:=Y%4294967296) (w:=w) (bo':=bo') hval (by rw[hX,hBB];exact ybi _ _) (by rw[hY,hBB];exact ybi _ _) (by rw[hBB];exact hsum)
  rw[va,vb,eL,hW,Nat.pow_succ];exact hst
theorem kY{la lb:List Nat}{pa pb:zA}{u v:Nat}{Q:cB}(ha:oA t 1 (oC .u32 la) pa)(hb:oA t 1 (oC .u32 lb) pb)(hal:dB BB la)(hbl:dB BB lb)(hu:u<4294967296)(hv:v<4294967296)(hla:la.length<700000)(hlb:lb.length<700000)(hge:v*val BB lb<=u*val BB la)
  (hQ:∀t' r rv,cA t t'->oA t' 1 (oC .u32 r) rv->dB BB r->norm r->val BB r=u*val BB la-v*val BB lb->Q rv t') :
  Wc yA F 317 [.int .u64 (u:Int),pa,.int .u64 (v:Int),pb] t Q:=by
 have hBB:=uL
 refine w317 _ _ _ _ ?_
 simp only[t317,pA,ha.len,hb.len,xA,yB,uI];obtain⟨n,hn1,hn2,hn3,hn4⟩:∃n:Nat,(bif iB (la.length:Int) (lb.length:Int)then(lb.length:Int)else(la.length:Int))+1=(n:Int)/\la.length<n/\lb.length<n/\n<700002:=by
  cases hc:iB (la.length:Int) (lb.length:Int)with
  | true=>have:=mB.1 hc;exact⟨lb.length+1,by simp,by omega,by omega,by omega⟩
  | false=>
   have:¬ ((la.length:Int)<(lb.length:Int)):=fun h=>by rw[mB.2 h]at hc;cases hc
   exact⟨la.length+1,by simp,by omega,by omega,by omega⟩
 rw[hn1,fB (by omega) (by omega)]
 intro b hb0 hbase;obtain⟨t',g1,g2,g3,g4⟩:=uU (C:=yA) (k:=.u32) gO rfl wH rfl rfl (by decide) (n:=n) (by omega) hb0
 rw[g1];have el:uB (.slice b 0 n n)=some (.int .i64 (n:Int)):=rfl
 simp only[xA,el,yB];refine zxp ha hb hal hbl hu hv (by omega) hbase hb0 (fun t2 W rv x z k1 k2 k3 k4 k5=>?_) n 0 0 0 0 t' [] (by omega) g3 (by simpa using g2) rfl (fun x hx=>by cases hx) (by omega) (by omega) (by omega) (by simp[val])
 rw[ybb (by omega),ybb (by omega)]at k5
 have hP:u*val BB la<BB^n:=by
  have h1:=uM nH hal
  have h2:BB^(la.length+1)<=BB^n:=Nat.pow_le_pow_right nH (by omega)
  have h3:u*val BB la<=u*BB^la.length:=yaw _ (Nat.le_of_lt h1)
  have h4:u*BB^la.length<BB*BB^la.length:=Nat.mul_lt_mul_of_pos_right (by omega) (Nat.pow_pos nH)
  rw[Nat.pow_succ,yai _ BB]at h2;omega
 have hWl:=uM nH k4
 rw[k3]at hWl;have:=z1l k5 hWl hP hge
 exact hQ t2 (nF W) rv k1 k2 (aR k4) (nR _) (by rw[dP];exact this)
end Go.Proofs
namespace Go.Proofs
open Go Go.Am
variable [dC]
variable {t:Tr jA}
theorem z7e{v:zA}{l:List Nat}{b:Nat}(hv:oA t 1 (oC .u32 l) v)(hb:t.get b=none) :
  ∃H',zsj v ⟨b,t⟩=some (.ptr b 0,H')/\cA t H'.t/\mA yA 305 ⟨0,H'.t⟩ (.ptr b 0)=some v:=by
 have hc:v.cells=[v]:=by
  obtain⟨cl,h1,_⟩:=hv
  rcases h1 with⟨rfl,_⟩ | ⟨_,_,_,rfl,_⟩<;>rfl
 refine⟨jF ⟨b,t⟩ [v] none,by unfold zsj;rw[hc],?_,?_⟩
 ·intro c u hg
  show(t.set b _).get c=_
  rw[Tr.get_set,if_neg (by intro e;rw[e,hb]at hg;cases hg)];exact hg
 ·have hg:(jF ⟨b,t⟩ [v] none).t.get b=some (.cells (Tr.ofList [v]) 1 none):=by
   show(t.set b _).get b=_
   rw[Tr.get_set,if_pos rfl];rfl
  unfold mA;simp only[zA.asPtr,sA];rw[gO,sA];unfold nD;rw[hg,sA];simp only[jA.asCells,sA];unfold oN;first
   | rfl
   | (rw[cond_false,Tr.get_ofList];rfl)
theorem zkw{v:zA}{l:List Nat}{b i:Nat}(hv:oA t 1 (oC .u32 l) v)(hl:dB BB l)(hload:mA yA 305 ⟨0,t⟩ (.ptr b 0)=some v):rD yA F 361 [.int .i64 (i:Int),.ptr b 0] t=some (.int .u64 ((wd l i:Nat):Int)):=by
 have hBB:=uL
 refine mF.2 (w361 _ _ ?_)
 simp only[t361,pA,hload,xA,hv.len,yB,uI,xF];by_cases h:i<l.length
 ·obtain⟨x,hx⟩:=getElem?_of_lt h
  have hx32:x<4294967296:=by have:=bI hl hx;omega
  obtain⟨c,off,g1,g2⟩:=hv.idx kG hx
  rw[if_neg (by omega)]
  simp (disch:=omega) only[g1,g2,xA,yB,bF]
  have:wd l i=x:=by unfold wd;rw[hx];rfl
  rw[this];simp
 ·rw[if_pos (by omega)]
  have:wd l i=0:=by unfold wd;rw[List.getElem?_eq_none (by omega)];rfl
  rw[this];simp
theorem zwv{v:zA}{l:List Nat}{n s:Nat}(hv:oA t 1 (oC .u32 l) v)(hl:dB BB l)(hn:3<=n)(hn2:n<1000000)(hs:s<32)(hb:(wd l (n-1)*4294967296+wd l (n-2))*2^s<18446744073709551616) :
  rD yA F 338 [v,.int .i64 (n:Int),.int .i64 (s:Int)] t=some (.int .u64 (((wd l (n-1)*4294967296+wd l (n-2))*2^s+wd l (n-3) / 2^(32-s):Nat):Int)):=by
 have hBB:=uL
 refine zi3 (w338 _ _ _ ?_)
 simp only[t338,pA];intro b hb0 _;obtain⟨H',g1,g2,g3⟩:=z7e hv hb0
 rw[g1,xA];have w1:=zkx nH hl (n-1)
 have w2:=zkx nH hl (n-2)
 have w3:=zkx nH hl (n-3)
 have c1:=zkw (i:=n-1) (hv.mono g2) hl g3
 have c2:=zkw (i:=n-2) (hv.mono g2) hl g3
 have c3:=zkw (i:=n-3) (hv.mono g2) hl g3
 generalize wd l (n-1)=x1 at *
 generalize wd l (n-2)=x2 at *
 generalize wd l (n-3)=x3 at *
 have e1:(n:Int)-1=((n-1:Nat):Int):=by omega
 have e2:(n:Int)-2=((n-2:Nat):Int):=by omega
 have e3:(n:Int)-3=((n-3:Nat):Int):=by omega
 have e4:(32:Int)-(s:Int)=((32-s:Nat):Int):=by omega
 have f:∀a,wM (.func (.func 361) [] [.ptr b 0]) [a]=some (361,[a,.ptr b 0]):=fun _=>rfl
 have e5:(x1:Int)*4294967296=((x1*4294967296:Nat):Int):=by omega
 rw[f,xA,e1,fB (by omega) (by omega),q361,c1,xA,yB,xA,f,xA,e2,fB (by omega) (by omega),q361,c2,xA,yB,xA,e5,bF (by omega) (by omega),or32 (by omega) (by omega),xA,yB,xA,zo5 (by omega) hb,xA,yB,xA,f,xA,e3,fB (by omega) (by omega),q361,c3,xA,yB,xA,e4,fB (by omega) (by omega),zo4 (by omega),xA,yB,xA]
 have hz:x3 / 2^(32-s)<2^s:=ybv (by rw[<- Nat.pow_add,show 32-s+s=32 by omega];omega)
 have hz2:(2:Nat)^s<=2^31:=Nat.pow_le_pow_right (by decide) (by omega)
 generalize x3 / 2^(32-s)=z at hz ⊢
 have ho:=zcu (a:=x1*4294967296+x2) (b:=z) (n:=s) hz
 generalize (x1*4294967296+x2)*2^s=h at hb ho ⊢
 have hz3:z<18446744073709551616:=by omega
 rw[pO (k:=.u64) (show h<cG .u64 from hb) (show z<cG .u64 from hz3),ho,xA,yB,xA]
 exact⟨rfl,g2⟩
end Go.Proofs
namespace Go.Proofs
open Go Go.Am
variable [dC]
variable {t:Tr jA}
theorem zgr{A1 B1:Nat}{P:Nat->Nat->Nat->Nat->Nat->Nat->Nat->Nat->Bool->Prop}{Q:cB}(hA:A1<18446744073709551616)(hB:B1<18446744073709551616)
  (hstep:∀x y u0 u1 u2 v0 v1 v2 ev,P x y u0 u1 u2 v0 v1 v2 ev->0<y->v2<=y->v1+v2<=x-y->P y (x%y) u1 u2 (u1+x / y*u2) v1 v2 (v1+x / y*v2) (!ev))
  (hQ:∀x y u0 u1 u2 v0 v1 v2 ev,P x y u0 u1 u2 v0 v1 v2 ev->Q (.agg [.int .u64 (u0:Int),.int .u64 (u1:Int),.int .u64 (v0:Int),.int .u64 (v1:Int),.bool ev]) t) :
  ∀(y x u0 u1 u2 v0 v1 v2:Nat) (ev:Bool) (c0 c1 c2 c3:Int) (c4:Bool),P x y u0 u1 u2 v0 v1 v2 ev->A1=v2*x+v1*y->B1=u2*x+u1*y->y<=x->1<=v2->v1<=v2 →
  jp 315 2 [.int .u64 (x:Int),.int .u64 (y:Int),.int .u64 (u2:Int),.int .u64 (v2:Int),.int .u64 c0,.int .u64 c1,.int .u64 c2,.int .u64 c3,.bool c4,.int .u64 (u0:Int),.int .u64 (u1:Int),.int .u64 (v0:Int),.int .u64 (v1:Int),.bool ev] t Q:=by
 intro y;induction y using Nat.strongRecOn with
 | ind y ih=>
  intro x u0 u1 u2 v0 v1 v2 ev c0 c1 c2 c3 c4 hP hx hy hle h1 h12;refine j315_2 _ _ _ _ _ _ _ _ _ _ _ _ _ _ ?_
  simp only[z2m,pA,xF];by_cases g1:v2<=y
  ·rw[if_pos (by omega)]
   have hy0:0<y:=by omega
   have b1:v2*x<=A1:=by omega
   have b2:x<=A1:=Nat.le_trans (Nat.le_mul_of_pos_left x (by omega)) b1
   have b3:v2<4294967296:=by
    rcases Nat.lt_or_ge v2 4294967296 with h | h
    ·exact h
    ·exfalso
     have:4294967296*4294967296<=v2*x:=ycc h (by omega)
     omega
   have e1:vA .u64 ((v1:Int)+(v2:Int))=((v1+v2:Nat):Int):=by rw[bF (by omega) (by omega)];omega
   have e2:vA .u64 ((x:Int)-(y:Int))=((x-y:Nat):Int):=by rw[bF (by omega) (by omega)];omega
   rw[e1,e2];by_cases g2:v1+v2<=x-y
   ·rw[if_pos (by omega)]
    have hdm:=ybi x y
    have hmod:x%y<y:=ybz _ hy0
    have hq1:1<=x / y:=by
     rw[Nat.le_div_iff_mul_le hy0];omega
    have hxq:x / y<=x:=Nat.div_le_self _ _
    have e3:z02 .u64 (x:Int) (y:Int)=some (.int .u64 ((x / y:Nat):Int)):=zhc hy0 (by
     generalize x / y=q at hxq ⊢
     exact bF (by omega) (by omega))
    have e4:zrz .u64 (x:Int) (y:Int)=some (.int .u64 ((x%y:Nat):Int)):=zby hy0
    have hst:=hstep x y u0 u1 u2 v0 v1 v2 ev hP hy0 g1 g2
    generalize x / y=q at *
    generalize x%y=r at *
    have nA:A1=(v1+q*v2)*y+v2*r:=by
     rw[hx,<- hdm,yan,yap,yai y q,<- yak v2 q,yai v2 q];omega
    have nB:B1=(u1+q*u2)*y+u2*r:=by
     rw[hy,<- hdm,yan,yap,yai y q,<- yak u2 q,yai u2 q];omega
    have bv:v1+q*v2<=A1:=Nat.le_trans (Nat.le_mul_of_pos_right _ hy0) (by omega)
    have bu:u1+q*u2<=B1:=Nat.le_trans (Nat.le_mul_of_pos_right _ hy0) (by omega)
    have bq:v2<=q*v2:=Nat.le_mul_of_pos_left _ hq1
    have e5:vA .u64 ((v1:Int)+vA .u64 ((q:Int)*(v2:Int)))=((v1+q*v2:Nat):Int):=by
     rw[<- Int.natCast_mul];generalize q*v2=z at bv ⊢
     rw[bF (n:=(z:Int)) (by omega) (by omega),bF (by omega) (by omega)];omega
    have e6:vA .u64 ((u1:Int)+vA .u64 ((q:Int)*(u2:Int)))=((u1+q*u2:Nat):Int):=by
     rw[<- Int.natCast_mul];generalize q*u2=z at bu ⊢
     rw[bF (n:=(z:Int)) (by omega) (by omega),bF (by omega) (by omega)];omega
    rw[e3,xA,yB,xA,e4,xA,yB,xA,e5,e6];simp only[if_true];exact ih r hmod y u1 u2 (u1+q*u2) v1 v2 (v1+q*v2) (!ev) _ _ _ _ _ hst nA nB (by omega) (by omega) (by omega)
   ·rw[if_neg (by omega)]
    simp only[if_true];exact hQ x y u0 u1 u2 v0 v1 v2 ev hP
  ·rw[if_neg (by omega)]
   simp only[if_true];exact hQ x y u0 u1 u2 v0 v1 v2 ev hP
end Go.Proofs
namespace Go.Am
def Lrel (a b x y u1 u2 v1 v2:Nat)(ev:Bool):Prop:=
 match ev with
 | false=>u1*v2=u2*v1+1/\x+v1*b=u1*a/\y+u2*a=v2*b
 | true=>u2*v1=u1*v2+1/\x+u1*a=v1*b/\y+v2*b=u2*a
def Lst (u1 u2 v1 v2:Nat):Prop:=(u1=1/\v1=0/\u2=0)\/(u1<=v1/\u2<=v2/\1<=u2/\1<=v1)
def z19(a b u0 u1 v0 v1:Nat)(ev:Bool):Prop:=∃x y,Lrel a b x y u0 u1 v0 v1 (!ev)/\v1<=y/\v0+v1<=x-y/\u0<=v0/\u1<=v1/\1<=u1/\1<=v0/\v0<=v1
def Lsim (a b x y u0 u1 u2 v0 v1 v2:Nat)(ev:Bool):Prop:=Lrel a b x y u1 u2 v1 v2 ev/\1<=v2/\v1<=v2/\Lst u1 u2 v1 v2/\(v0=0\/z19 a b u0 u1 v0 v1 ev)
theorem zym(a b:Nat):Lsim a b a b 0 1 0 0 0 1 false:=⟨⟨by simp,by simp,by simp⟩,yal _,by omega,.inl ⟨rfl,rfl,rfl⟩,.inl rfl⟩
theorem zyl{a b x y u0 u1 u2 v0 v1 v2:Nat}{ev:Bool}(h:Lsim a b x y u0 u1 u2 v0 v1 v2 ev)(hy:0<y)(h1:v2<=y)(h2:v1+v2<=x-y) :
  Lsim a b y (x%y) u1 u2 (u1+x / y*u2) v1 v2 (v1+x / y*v2) (!ev):=by
 obtain⟨k1,k2,k5,k3,k4⟩:=h
 have hq:1<=x / y:=by rw[Nat.le_div_iff_mul_le hy];omega
 have hdm:=ybi x y
 generalize x / y=q at *
 generalize x%y=r at *
 have hv2:v2<=q*v2:=Nat.le_mul_of_pos_left _ hq
 have hu2:u2<=q*u2:=Nat.le_mul_of_pos_left _ hq
 refine⟨?_,by omega,by omega,?_,?_⟩
 ·cases ev with
  | false=>
   obtain⟨m1,m2,m3⟩:=k1
   refine⟨?_,m3,?_⟩
   ·rw[yap,yan,m1]
    have:q*u2*v2=u2*(q*v2):=by rw[yai q u2,yak]
    omega
   ·-- r+(v1+q v2) b=(u1+q u2) a
    show r+(v1+q*v2)*b=(u1+q*u2)*a
    have e:q*(y+u2*a)=q*(v2*b):=by rw[m3]
    rw[yan,<- yak,<- yak,yai q y]at e;rw[yap,yap];omega
  | true=>
   obtain⟨m1,m2,m3⟩:=k1
   refine⟨?_,m3,?_⟩
   ·show u2*(v1+q*v2)=(u1+q*u2)*v2+1
    rw[yap,yan,m1];have:q*u2*v2=u2*(q*v2):=by rw[yai q u2,yak]
    omega
   ·show r+(u1+q*u2)*a=(v1+q*v2)*b
    have e:q*(y+v2*b)=q*(u2*a):=by rw[m3]
    rw[yan,<- yak,<- yak,yai q y]at e;rw[yap,yap];omega
 ·right
  rcases k3 with⟨e1,e2,e3⟩ | ⟨g1,g2,g3,g4⟩
  ·subst e1 e2 e3
   refine⟨by omega,?_,by omega,by omega⟩
   simp only[Nat.mul_zero,yax,ybu];omega
  ·have:=yaw q g2
   exact⟨g2,by omega,by omega,by omega⟩
 ·rcases k3 with⟨e1,e2,e3⟩ | ⟨g1,g2,g3,g4⟩
  ·exact .inl e2
  ·right
   exact⟨x,y,by rw[Bool.not_not];exact k1,h1,h2,g1,g2,g3,g4,k5⟩
end Go.Am
namespace Go.Am
theorem mY{p q r s A B X Y:Nat}(hdet:p*s=q*r+1)(hX:X+r*B=p*A)(hY:Y+q*A=s*B):A=s*X+r*Y/\B=q*X+p*Y:=by
 have a1:s*(X+r*B)=s*(p*A):=by rw[hX]
 have a2:r*(Y+q*A)=r*(s*B):=by rw[hY]
 have a3:q*(X+r*B)=q*(p*A):=by rw[hX]
 have a4:p*(Y+q*A)=p*(s*B):=by rw[hY]
 have d1:p*s*A=q*r*A+A:=by rw[hdet,yap,Nat.one_mul]
 have d2:p*s*B=q*r*B+B:=by rw[hdet,yap,Nat.one_mul]
 have e1:s*(p*A)=p*s*A:=by rw[<- yak,yai s p]
 have e2:r*(q*A)=q*r*A:=by rw[<- yak,yai r q]
 have e3:s*(r*B)=r*(s*B):=Nat.mul_left_comm _ _ _
 have e4:q*(p*A)=p*(q*A):=Nat.mul_left_comm _ _ _
 have e5:q*(r*B)=q*r*B:=(yak _ _ _).symm
 have e6:p*(s*B)=p*s*B:=(yak _ _ _).symm
 rw[yan]at a1 a2 a3 a4;constructor<;>omega
theorem zjk{p q r s a b A B W α β x y:Nat}(hx:x+r*b=p*a)(hy:y+q*a=s*b)(hA:A=W*a+α)(hB:B=W*b+β)(ha:α<W)(hb:β<W)(hrs:r+s<=x-y)(h1:1<=r+s)(hq:q<=y) :
  ∃X Y,X+r*B=p*A/\Y+q*A=s*B/\Y<X:=by
 obtain⟨D,hD⟩:∃D,x=y+D:=⟨x-y,by omega⟩
 have w1:p*A=W*x+r*(W*b)+p*α:=by
  rw[hA,yan,Nat.mul_left_comm p W,<- hx,yan,Nat.mul_left_comm W r]
 have w2:r*B=r*(W*b)+r*β:=by rw[hB,yan]
 have w3:s*B=W*y+q*(W*a)+s*β:=by
  rw[hB,yan,Nat.mul_left_comm s W,<- hy,yan,Nat.mul_left_comm W q]
 have w4:q*A=q*(W*a)+q*α:=by rw[hA,yan]
 have i1:r*β<=W*D:=by
  rw[yai W D];exact ycc (by omega) (by omega)
 have i2:q*α<=W*y:=by
  rw[yai W y];exact ycc hq (by omega)
 have i3:(r+s)*β<W*D:=by
  have h2:(r+s)*β<(r+s)*W:=Nat.mul_lt_mul_of_pos_left hb (by omega)
  have h3:(r+s)*W<=D*W:=yaj _ (by omega)
  rw[yai W D];omega
 have w5:W*x=W*y+W*D:=by rw[hD,yan]
 rw[yap]at i3;exact⟨p*A-r*B,s*B-q*A,by omega,by omega,by omega⟩
theorem lehmer{a b A B W α β u0 u1 v0 v1:Nat}{ev:Bool}(hA:A=W*a+α)(hB:B=W*b+β)(ha:α<W)(hb:β<W)(h:z19 a b u0 u1 v0 v1 ev) :
  ∃X Y,(ev=true->X+v0*B=u0*A/\Y+u1*A=v1*B)/\(ev=false->X+u0*A=v0*B/\Y+v1*B=u1*A)/\Y<X/\A=v1*X+v0*Y/\B=u1*X+u0*Y/\X+Y<A+B:=by
 obtain⟨x,y,k1,k2,k3,k4,k5,k6,k7,_⟩:=h
 have aC:∀X Y:Nat,Y<X->A=v1*X+v0*Y->B=u1*X+u0*Y->X+Y<A+B:=by
  intro X Y g1 g2 g3;have j1:X<=v1*X:=Nat.le_mul_of_pos_left _ (by omega)
  have j2:X<=u1*X:=Nat.le_mul_of_pos_left _ (by omega)
  omega
 cases ev with
 | true=>
  obtain⟨m1,m2,m3⟩:=k1
  obtain⟨X,Y,g1,g2,g3⟩:=zjk m2 m3 hA hB ha hb k3 (by omega) (by omega)
  obtain⟨d1,d2⟩:=mY m1 g1 g2
  exact⟨X,Y,fun _=>⟨g1,g2⟩,(fun h=>absurd h (by decide)),g3,d1,d2,aC X Y g3 d1 d2⟩
 | false=>
  obtain⟨m1,m2,m3⟩:=k1
  obtain⟨X,Y,g1,g2,g3⟩:=zjk m2 m3 hB hA hb ha (by omega) (by omega) k2
  have m1':v0*u1=v1*u0+1:=by rw[yai v0 u1,yai v1 u0];exact m1
  obtain⟨d1,d2⟩:=mY m1' g1 g2
  exact⟨X,Y,(fun h=>absurd h (by decide)),fun _=>⟨g1,g2⟩,g3,d2,d1,aC X Y g3 d2 d1⟩
theorem zna{a b u0 u1 v0 v1:Nat}{ev:Bool}(ha:a<18446744073709551616)(hb:b<18446744073709551616)(h:z19 a b u0 u1 v0 v1 ev):u0<4294967296/\u1<4294967296/\v0<4294967296/\v1<4294967296:=by
 obtain⟨x,y,k1,k2,k3,k4,k5,k6,k7,k8⟩:=h
 have key:a=v1*x+v0*y:=by
  cases ev with
  | true=>
   obtain⟨m1,m2,m3⟩:=k1
   exact(mY m1 m2 m3).1
  | false=>
   obtain⟨m1,m2,m3⟩:=k1
   have m1':v0*u1=v1*u0+1:=by rw[yai v0 u1,yai v1 u0];exact m1
   exact(mY m1' m2 m3).2
 have:v1<4294967296:=by
  rcases Nat.lt_or_ge v1 4294967296 with g | g
  ·exact g
  ·exfalso
   have:4294967296*4294967296<=v1*x:=ycc g (by omega)
   omega
 omega
end Go.Am
namespace Go.Am
theorem zy2{B:Nat}{l:List Nat}{m:Nat}(hl:l.length<=m+3):val B l=val B (l.take m)+B^m*(wd l m+B*(wd l (m+1)+B*wd l (m+2))):=by
 have h0:=wW B l m
 have h1:val B (l.take (m+2))=val B (l.take (m+1))+B^(m+1)*wd l (m+1):=wW B l (m+1)
 have h2:val B (l.take (m+3))=val B (l.take (m+2))+B^(m+2)*wd l (m+2):=wW B l (m+2)
 have p1:B^(m+1)=B^m*B:=Nat.pow_succ _ _
 have p2:B^(m+2)=B^m*B*B:=by rw[Nat.pow_succ,Nat.pow_succ]
 rw[ybb hl]at h2;rw[p1]at h1;rw[p2]at h2;rw[h2,h1,h0,yan (B^m),yan B,yan (B^m)]
 simp only[yak];omega
theorem zo6{B p K m:Nat}{l:List Nat}(hB:B=p*K)(hp:0<p)(hB0:0<B)(hlt:dB B l)(hl:l.length<=m+3) :
  (wd l (m+2)*B+wd l (m+1))*K+wd l m / p=val B l / (B^m*p):=by
 have h1:=zy2 (B:=B) hl
 have h2:val B (l.take m)<B^m:=by
  have h:=uM hB0 (bR hlt m)
  exact Nat.lt_of_lt_of_le h (Nat.pow_le_pow_right hB0 (by simp;omega))
 have h3:val B l / B^m=wd l m+B*(wd l (m+1)+B*wd l (m+2)):=by
  rw[h1,Nat.add_mul_div_left _ _ (Nat.pow_pos hB0),Nat.div_eq_of_lt h2,yax]
 rw[<- Nat.div_div_eq_div_mul,h3];generalize wd l m=x
 have e:B*(wd l (m+1)+B*wd l (m+2))=p*(K*(wd l (m+2)*B+wd l (m+1))):=by
  rw[<- yak p,<- hB,yai (wd l (m+2)),Nat.add_comm]
 rw[e,Nat.add_mul_div_left _ _ hp,yai K,Nat.add_comm]
end Go.Am
namespace Go.Proofs
open Go Go.Am
variable [dC]
variable {t:Tr jA}
theorem zll{la lb:List Nat}{pa pb:zA}{m top:Nat}{Q:cB}(ha:oA t 1 (oC .u32 la) pa)(hb:oA t 1 (oC .u32 lb) pb)(hal:dB BB la)(hbl:dB BB lb)(hla:la.length=m+3)(hm:m<700000)(hlb:lb.length<=m+3)(htop:la[m+2]?=some top)(ht0:0<top)(hle:val BB lb<=val BB la)
  (hQ:∀u0 u1 v0 v1 ev W,0<W->val BB la / W<18446744073709551616->val BB lb / W<18446744073709551616->(v0=0\/z19 (val BB la / W) (val BB lb / W) u0 u1 v0 v1 ev)->Q (.agg [.int .u64 (u0:Int),.int .u64 (u1:Int),.int .u64 (v0:Int),.int .u64 (v1:Int),.bool ev]) t) :
  Wc yA F 315 [pa,pb] t Q:=by
 have hBB:=uL
 have htlt:top<4294967296:=by have:=bI hal htop;omega
 obtain⟨s,hs,hs1,hs2,hs3⟩:=zvk (t:=t) htlt ht0
 obtain⟨c,off,g1,g2⟩:=ha.idx kG htop
 have hK:BB=2^(32-s)*2^s:=by rw[<- Nat.pow_add,show 32-s+s=32 by omega,hBB]
 have hp:0<2^(32-s):=Nat.pow_pos (by decide)
 have va:=zo6 hK hp nH hal (m:=m) (by omega)
 have vb:=zo6 hK hp nH hbl hlb
 have hW:0<BB^m*2^(32-s):=Nat.mul_pos (Nat.pow_pos nH) hp
 have hdiv:val BB lb / (BB^m*2^(32-s))<=val BB la / (BB^m*2^(32-s)):=Nat.div_le_div_right hle
 have hwt:wd la (m+2)=top:=by unfold wd;rw[htop];rfl
 have wa1:=zkx nH hal (m+1)
 have wa0:=zkx nH hal m
 have hz:wd la m / 2^(32-s)<2^s:=ybv (by rw[<- hK];exact wa0)
 rw[hBB]at va vb;have bigA:(wd la (m+2)*4294967296+wd la (m+1))*2^s+wd la m / 2^(32-s)<18446744073709551616:=by
  rw[hwt];have q1:top+1<=2^(32-s):=by
   have:top*2^s<2^(32-s)*2^s:=by rw[<- hK,hBB];exact hs2
   exact Nat.lt_of_mul_lt_mul_right this
  have q2:(top*4294967296+wd la (m+1))+1<=2^(32-s)*4294967296:=by
   have:=yaj 4294967296 q1
   omega
  have q3:=yaj (2^s) q2
  have q4:2^(32-s)*4294967296*2^s=18446744073709551616:=by
   have:2^(32-s)*2^s=4294967296:=by rw[<- hK,hBB]
   rw[Nat.mul_right_comm,this]
  rw[yap,Nat.one_mul]at q3;omega
 have hBB':∀l,val 4294967296 l=val BB l:=fun l=>by rw[hBB]
 have hPP:(4294967296:Nat)^m=BB^m:=by rw[hBB]
 rw[hBB',hPP]at va vb;have qC:(wd lb (m+2)*4294967296+wd lb (m+1))*2^s+wd lb m / 2^(32-s)<18446744073709551616:=by
  rw[va]at bigA;rw[vb];exact Nat.lt_of_le_of_lt hdiv bigA
 have h1:=zwv (n:=m+3) (s:=s) ha hal (by omega) (by omega) hs (Nat.lt_of_le_of_lt (Nat.le_add_right _ _) bigA)
 have h2:=zwv (n:=m+3) (s:=s) hb hbl (by omega) (by omega) hs (Nat.lt_of_le_of_lt (Nat.le_add_right _ _) qC)
 rw[show m+3-1=m+2 by omega,show m+3-2=m+1 by omega,show m+3-3=m by omega]at h1 h2;rw[va]at h1 bigA;rw[vb]at h2 qC;generalize hw:BB^m*2^(32-s)=W at *
 have e1:((m+3:Nat):Int)-1=((m+2:Nat):Int):=by omega
 refine w315 _ _ ?_
 simp only[t315,pA,ha.len,xA,yB,uI,hla,e1];rw[fB (by omega) (by omega),g1,xA,g2,xA,yB,xA,q337,hs3,xA,yB,xA,q338,h1,xA,yB,xA,q338,h2,xA,yB,xA]
 simp only[if_true];exact zgr (P:=Lsim (val BB la / W) (val BB lb / W)) bigA qC (fun x y u0 u1 u2 v0 v1 v2 ev hP hy k1 k2=>zyl hP hy k1 k2) (fun x y u0 u1 u2 v0 v1 v2 ev hP=>hQ u0 u1 v0 v1 ev W hW bigA qC hP.2.2.2.2) _ _ 0 1 0 0 0 1 false 0 0 0 0 false (zym _ _) (by omega) (by omega) hdiv (by omega) (by omega)
end Go.Proofs
namespace Go.Am
theorem zw3{A B X Y u0 u1 v0 v1:Nat}{ev:Bool}(h1:ev=true->X+v0*B=u0*A/\Y+u1*A=v1*B)(h2:ev=false->X+u0*A=v0*B/\Y+v1*B=u1*A)(hA:A=v1*X+v0*Y)(hB:B=u1*X+u0*Y):Nat.gcd X Y=Nat.gcd A B:=by
 have gX:=Nat.gcd_dvd_left X Y
 have gY:=Nat.gcd_dvd_right X Y
 have gA:=Nat.gcd_dvd_left A B
 have gB:=Nat.gcd_dvd_right A B
 refine Nat.dvd_antisymm (Nat.dvd_gcd ?_ ?_) (Nat.dvd_gcd ?_ ?_)
 ·generalize Nat.gcd X Y=g at *
  rw[hA];exact Nat.dvd_add (ybf gX _) (ybf gY _)
 ·generalize Nat.gcd X Y=g at *
  rw[hB];exact Nat.dvd_add (ybf gX _) (ybf gY _)
 ·generalize Nat.gcd A B=g at *
  cases ev with
  | true=>
   have:=(h1 rfl).1
   exact(Nat.dvd_add_left (ybf gB v0)).1 (this ▸ ybf gA u0)
  | false=>
   have:=(h2 rfl).1
   exact(Nat.dvd_add_left (ybf gA u0)).1 (this ▸ ybf gB v0)
 ·generalize Nat.gcd A B=g at *
  cases ev with
  | true=>
   have:=(h1 rfl).2
   exact(Nat.dvd_add_left (ybf gA u1)).1 (this ▸ ybf gB v1)
  | false=>
   have:=(h2 rfl).2
   exact(Nat.dvd_add_left (ybf gB v1)).1 (this ▸ ybf gA u1)
theorem zw4{a b q r:Nat}(h:a=b*q+r):Nat.gcd b r=Nat.gcd a b:=by
 subst h;rw[Nat.gcd_comm (b*q+r) b,yai,Nat.gcd_comm b (q*b+r),Nat.gcd_mul_right_add_left]
 exact Nat.gcd_comm _ _
theorem z6t{x y:Nat}:Nat.gcd y (x%y)=Nat.gcd x y:=by
 rw[Nat.gcd_comm y (x%y),<- Nat.gcd_rec,Nat.gcd_comm]
theorem zie{B:Nat}{l:List Nat}(hB:0<B)(h:dB B l)(hl:l.length<=2):val B l<B*B:=by
 have h1:=uM hB h
 have h2:B^l.length<=B^2:=Nat.pow_le_pow_right hB hl
 rw[Nat.pow_two]at h2;omega
end Go.Am
namespace Go.Proofs
open Go Go.Am
variable [dC]
variable {t:Tr jA}
theorem xB{c:Prop}{d:Decidable c}{P Q:Prop}(h:c)(k:P):@ite Prop c d P Q:=by rw[if_pos h];exact k
theorem pC{c:Prop}{d:Decidable c}{P Q:Prop}(h:¬ c)(k:Q):@ite Prop c d P Q:=by rw[if_neg h];exact k
theorem zz2{C:iA}{F:Tr jB}{f:Nat}{g:List zA->qA->Option zA}(hg:C.prims.get f=some g){args:List zA}{v:zA}(h:∀X HA,Ov C.base t X HA->g args HA=some v):rD C F f args t=some v:=by
 refine mF.2 fun X HA ho=>?_
 unfold zmx;rw[hg];exact⟨v,t,HA,X,by simp only[h X HA ho,sA],ho,XLe.refl _,rfl,rfl⟩
theorem zmi{Q:cB}:∀(y x:Nat),x<18446744073709551616->y<18446744073709551616->(∀t' r rv,cA t t'->oA t' 1 (oC .u32 r) rv->dB BB r->norm r->val BB r=Nat.gcd x y->Q rv t')->jp 280 6 [.int .u64 (x:Int),.int .u64 (y:Int)] t Q:=by
 have hBB:=uL
 intro y;induction y using Nat.strongRecOn with
 | ind y ih=>
  intro x hx hy hQ;refine j280_6 _ _ ?_
  simp only[z2n,pA,zI];by_cases h0:y=0
  ·subst h0
   rw[if_neg (by simp)]
   simp only[q319];refine zzp hx fun t' v' h1 h2=>?_
   have a1:=zkn hx
   have a2:=zpy x
   rw[<- hBB]at a1 a2;exact hQ t' (ze9 x) v' h1 h2 a1 (zly x) (by rw[a2,Nat.gcd_zero_right])
  ·rw[if_pos (by omega),zby (by omega),xA,yB,xA]
   have hm:=ybz x (show 0<y by omega)
   have hg:=z6t (x:=x) (y:=y)
   generalize x%y=z at *
   exact ih z hm y hy (by omega) fun t' r rv k1 k2 k3 k4 k5=>hQ t' r rv k1 k2 k3 k4 (by rw[k5,hg])
theorem zvs{l:List Nat}{v:zA}(hv:oA t 1 (oC .u32 l) v)(hl:l.length<=2)(hlt:dB BB l):rD yA F 318 [v] t=some (.int .u64 ((val BB l:Nat):Int)):=by
 have hBB:=uL
 refine zz2 (g:=zu5) (by kernel_rfl) fun X HA ho=>?_
 obtain⟨cl,he,hd⟩:=hv
 have hcl:=hd.length
 rw[uI]at hcl;rcases he with⟨rfl,rfl⟩ | ⟨b,off,cap,rfl,_,⟨c,m,lo,hg,_⟩,he⟩
 ·have:l=[]:=ybd.1 (by simpa using hcl.symm)
  subst this;rfl
 ·have hg':=ho.up hg
  have hm:c.many cl.length off=some (l.map fun(n:Nat)=>zA.int .u32 (n:Int)):=by
   have h1:=zje (c:=c) (sz:=1) cl off fun i cs hi=>by
    obtain⟨k1,c',m',lo',k2,k3⟩:=he i cs hi
    rw[hg]at k2;cases k2
    exact⟨k1,k3⟩
   rw[Nat.mul_one]at h1;rw[h1];congr 1
   have key:∀ {l:List Nat} {cl:List (List zA)},kC t (oC .u32 l) cl->cl.flatten=l.map fun(n:Nat)=>zA.int .u32 (n:Int):=by
    intro l;induction l with
    | nil=>intro cl h;simp only[oC,List.map_nil,oE]at h;subst h;rfl
    | cons a l ih=>
     intro cl h;simp only[oC,ybn,zE,gL]at h;obtain⟨x,y,rfl,rfl,h2⟩:=h
     rw[List.flatten_cons,ih h2];rfl
   exact key hd
  have u:∀ {x:Nat},x<4294967296->zk5 (.int .u32 (x:Int))=some x:=fun {x} h=>by
   unfold zk5;have e1:aK (x:Int)=some x:=rfl
   simp only[zA.asIntK,sA];rw[iJ.2 rfl,qF,e1,sA,lC.2 h];rfl
  unfold zu5;simp only[zA.asSlice];rw[lC.2 (by omega),cond_true]
  unfold nD;rw[hg',sA];simp only[jA.asCells,sA];rw[hm,sA];match l,hl,hlt with
  | [],_,_=>rfl
  | [x],_,hlt=>
   have hx:=hlt x (by simp)
   simp only[ybn,List.map_nil,zl4,val];rw[u (by omega),sA]
   simp
  | [x,y],_,hlt=>
   have hx:=hlt x (by simp)
   have hy:=hlt y (by simp)
   simp only[ybn,List.map_nil,zl4,val];rw[u (by omega),u (by omega),sA,sA,hBB]
   simp
  | x::y::z::l,hl,_=>simp at hl
theorem zx0{la lb:List Nat}{pa pb:zA}{Q:cB}(ha:oA t 1 (oC .u32 la) pa)(hb:oA t 1 (oC .u32 lb) pb)(hal:dB BB la)(hbl:dB BB lb)(hla:la.length<=2)(hlb:lb.length<=2)
  (hQ:∀t' r rv,cA t t'->oA t' 1 (oC .u32 r) rv->dB BB r->norm r->val BB r=Nat.gcd (val BB la) (val BB lb)->Q rv t'):jp 280 33 [pa,pb] t Q:=by
 have hBB:=uL
 have b1:=zie nH hal hla
 have b2:=zie nH hbl hlb
 refine z6e _ _ ?_
 simp only[ztj,pA,q318,zvs ha hla hal,zvs hb hlb hbl,xA,yB];rw[hBB]at b1 b2;have hBB':∀l,val 4294967296 l=val BB l:=fun l=>by rw[hBB]
 rw[hBB']at b1 b2;exact zmi _ _ b1 b2 hQ
theorem zx1{Q:cB}{t0:Tr jA}{G:Nat}(hQ:∀t' r rv,cA t0 t'->oA t' 1 (oC .u32 r) rv->dB BB r->norm r->val BB r=G->Q rv t'):∀(n:Nat) (la lb:List Nat) (pa pb:zA) (t:Tr jA),val BB la+val BB lb=n->cA t0 t->oA t 1 (oC .u32 la) pa->oA t 1 (oC .u32 lb) pb->dB BB la->dB BB lb->norm la->norm lb->val BB lb<=val BB la->la.length<700000->Nat.gcd (val BB la) (val BB lb)=G->jp 280 2 [pa,pb] t Q:=by
 have hBB:=uL
 have hB1:1<BB:=by omega
 intro n;induction n using Nat.strongRecOn with
 | ind n ih=>
  intro la lb pa pb t hn ht ha hb hal hbl han hbn hle hlen hg;have hlb:lb.length<=la.length:=zP hB1 hal hbn hle
  refine j280_2 _ _ ?_
  simp only[z2o,pA,hb.len,xA,yB,uI,mB];by_cases h2:2<lb.length
  ·rw[if_pos (by omega)]
   have hb0:lb≠[]:=by intro e;subst e;simp at h2
   have hbpos:0<val BB lb:=by
    rcases Nat.eq_zero_or_pos (val BB lb)with h | h
    ·exact absurd (zlz nH hbn h) hb0
    ·exact h
   obtain⟨m,hm⟩:∃m,la.length=m+3:=⟨la.length-3,by omega⟩
   obtain⟨top,htop⟩:=getElem?_of_lt (l:=la) (i:=m+2) (by omega)
   have ha0:la≠[]:=by intro e;subst e;simp at hm
   have ht0:0<top:=by
    have:=han ha0
    have hlast:la.getLast ha0=top:=by
     rw[List.getLast_eq_getElem];have:la[la.length-1]?=some top:=by rw[hm];exact htop
     rw[yae (by omega)]at this
     exact ybj this
    rw[hlast]at this;omega
   rw[q315];refine zll ha hb hal hbl hm (by omega) (by omega) htop ht0 hle fun u0 u1 v0 v1 ev W hW hA hB hL=>?_
   have eG:qG [(.int .u64 0),(.int .u64 0),(.int .u64 0),(.int .u64 0),(.bool false)] (.agg [.int .u64 (u0:Int),.int .u64 (u1:Int),.int .u64 (v0:Int),.int .u64 (v1:Int),.bool ev])=some (cellsOf [.int .u64 (u0:Int),.int .u64 (u1:Int),.int .u64 (v0:Int),.int .u64 (v1:Int),.bool ev]):=iL rfl
   rw[eG];simp only[xA,cellsOf,yG,lF,yaa,yab,if_true,aL];by_cases hv0:v0=0
   ·refine xB (cD.2 (by omega)) ?_
    rw[q316];refine zj5 ha hb hlen hal hbl han hbn hb0 fun t' q r qv rv k1 k2 k3 k4 k5 k6 k7 k8 k9=>?_
    simp only[vC,zA.asTup,sA,vE,yaa,yab,xA];refine ih (val BB lb+val BB r) (by omega) lb r pb rv t' rfl (ht.trans k1) (hb.mono k1) k3 hbl k5 hbn k7 (by omega) (by omega) ?_
    rw[zw4 k8];exact hg
   ·refine pC (fun e=>absurd (cD.1 e) (by omega)) ?_
    rcases hL with h | hL
    ·exact absurd h hv0
    obtain⟨s1,s2,s3,s4⟩:=zna hA hB hL
    have eA:val BB la=W*(val BB la / W)+val BB la%W:=(ybi _ _).symm
    have eB:val BB lb=W*(val BB lb / W)+val BB lb%W:=(ybi _ _).symm
    obtain⟨X,Y,l1,l2,l3,l4,l5,l6⟩:=lehmer eA eB (ybz _ hW) (ybz _ hW) hL
    have hgg:=zw3 l1 l2 l4 l5
    have hXA:X<=val BB la:=by
     have:X<=v1*X:=Nat.le_mul_of_pos_left _ (by
      obtain⟨x,y,_,_,_,_,_,_,w2,w3⟩:=hL;omega)
     omega
    cases ev with
    | true=>
     obtain⟨m1,m2⟩:=l1 rfl
     simp only[if_true];rw[q317];refine kY ha hb hal hbl s1 s3 hlen (by omega) (by omega) fun t1 r1 rv1 k1 k2 k3 k4 k5=>?_
     rw[q317];refine kY (hb.mono k1) (ha.mono k1) hbl hal s4 s2 (by omega) hlen (by omega) fun t2 r2 rv2 j1 j2 j3 j4 j5=>?_
     have e1:val BB r1=X:=by omega
     have e2:val BB r2=Y:=by omega
     refine ih (val BB r1+val BB r2) (by omega) r1 r2 rv1 rv2 t2 rfl (ht.trans (k1.trans j1)) (k2.mono j1) j2 k3 j3 k4 j4 (by omega) ?_ (by rw[e1,e2,hgg];exact hg)
     have:=zP hB1 hal k4 (by rw[e1];exact hXA)
     omega
    | false=>
     obtain⟨m1,m2⟩:=l2 rfl
     simp only[if_true,yar,if_false];rw[q317];refine kY hb ha hbl hal s3 s1 (by omega) hlen (by omega) fun t1 r1 rv1 k1 k2 k3 k4 k5=>?_
     rw[q317];refine kY (ha.mono k1) (hb.mono k1) hal hbl s2 s4 hlen (by omega) (by omega) fun t2 r2 rv2 j1 j2 j3 j4 j5=>?_
     have e1:val BB r1=X:=by omega
     have e2:val BB r2=Y:=by omega
     refine ih (val BB r1+val BB r2) (by omega) r1 r2 rv1 rv2 t2 rfl (ht.trans (k1.trans j1)) (k2.mono j1) j2 k3 j3 k4 j4 (by omega) ?_ (by rw[e1,e2,hgg];exact hg)
     have:=zP hB1 hal k4 (by rw[e1];exact hXA)
     omega
  ·rw[if_neg (by omega)]
   simp only[cD];by_cases h0:lb.length=0
   ·rw[if_pos (by omega)]
    have:lb=[]:=ybd.1 h0
    subst this;refine hQ t la pa ht ha hal han ?_
    rw[<- hg];simp only[val];rw[Nat.gcd_zero_right]
   ·rw[if_neg (by omega)]
    simp only[ha.len,xA,yB,uI,mB];have hb0:lb≠[]:=by intro e;subst e;simp at h0
    by_cases h3:2<la.length
    ·rw[if_pos (by omega),q316]
     refine zj5 ha hb hlen hal hbl han hbn hb0 fun t' q r qv rv k1 k2 k3 k4 k5 k6 k7 k8 k9=>?_
     simp only[vC,zA.asTup,sA,vE,yaa,yab,xA];have:=zP hB1 hbl k7 (Nat.le_of_lt k9)
     refine zx0 (hb.mono k1) k3 hbl k5 (by omega) (by omega) fun t2 r2 rv2 j1 j2 j3 j4 j5=>?_
     exact hQ t2 r2 rv2 (ht.trans (k1.trans j1)) j2 j3 j4 (by rw[j5,zw4 k8];exact hg)
    ·rw[if_neg (by omega)]
     refine zx0 ha hb hal hbl (by omega) (by omega) fun t2 r2 rv2 j1 j2 j3 j4 j5=>?_
     exact hQ t2 r2 rv2 (ht.trans j1) j2 j3 j4 (by rw[j5];exact hg)
theorem cd_ok{la lb:List Nat}{pa pb:zA}{Q:cB}(ha:oA t 1 (oC .u32 la) pa)(hb:oA t 1 (oC .u32 lb) pb)(hal:dB BB la)(hbl:dB BB lb)(han:norm la)(hbn:norm lb)(hla:la.length<700000)(hlb:lb.length<700000)
  (hQ:∀t' r rv,cA t t'->oA t' 1 (oC .u32 r) rv->dB BB r->norm r->val BB r=Nat.gcd (val BB la) (val BB lb)->Q rv t'):Wc yA F 280 [pa,pb] t Q:=by
 have hBB:=uL
 have hB1:1<BB:=by omega
 have hlt:=zxx hB1 hal hbl han hbn
 refine w280 _ _ ?_
 simp only[t280,pA,q314,z34 (by omega) ha hb,xA,yB,mB]
 by_cases hc:vK la lb<0
 ·rw[if_pos hc]
  have:=hlt.1 hc
  exact zx1 hQ _ lb la pb pa t rfl (cA.refl _) hb ha hbl hal hbn han (by omega) hlb (Nat.gcd_comm _ _)
 ·rw[if_neg hc]
  have:val BB lb<=val BB la:=Nat.le_of_not_lt fun h=>hc (hlt.2 h)
  exact zx1 hQ _ la lb pa pb t rfl (cA.refl _) ha hb hal hbl han hbn this hla rfl
end Go.Proofs
namespace Go.Am
open Go Go.RowKit
section
variable {t tf:Tr jA}{C:iA}
theorem sJ{n:Nat}(hn:t.get n=none)(q:jA):cA t (t.set n q)/\kD n t (t.set n q):=
 ⟨fun c u hc=>by rw[Tr.get_set,if_neg (by intro e;rw[e,hn]at hc;cases hc)];exact hc,fun c hc=>by rw[Tr.get_set,if_neg hc]⟩
theorem zrf{sz n:Nat}{cl:List (List zA)}{t':Tr jA}{lo:Option Nat}(hl:∀(i:Nat) cs,cl[i]?=some cs->cs.length=sz)(h:t'.get n=some (.cells (Tr.ofList cl.flatten) (wB cl.flatten) lo))(hlo:lo=none\/lo=some sz){k:Nat}(hk:cl.length=k):sH t' sz (.slice n 0 k k) cl:=by
 subst hk;exact zai hl h hlo
theorem vP{T el sz n:Nat}{y z:vD}{ps:List (Nat × zA)}{cl:List (List zA)}(hT:C.tys.get T=some y)(hel:y.desc.asSlice=some el)(hz:C.tys.get el=some z)(hs:z.size=sz)(h0:wB z.zero=sz)(hn:n*sz<1000000)
  (hfill:iM (fun i=>some (i*sz,sz)) ps (rJ z.zero n)=some cl.flatten) (hcl:∀(i:Nat) cs,cl[i]?=some cs->cs.length=sz) (hlen:cl.length=n) {b:Nat} (hb:t.get b=none) :
  ∃t',oF C T n ps ⟨b,t⟩=some (.slice b 0 n n,⟨b+1,t'⟩)/\sH t' sz (.slice b 0 n n) cl/\cA t t'/\kD b t t':=by
 refine⟨t.set b (.cells (Tr.ofList cl.flatten) (wB cl.flatten) none),?_,zrf hcl (by rw[Tr.get_set,if_pos rfl]) (.inl rfl) hlen,(sJ hb _).1,(sJ hb _).2⟩
 unfold oF;rw[hT,sA,hel,sA,hz,sA];have:(Nat.blt (n*z.size) 1000000&&Nat.beq (wB z.zero) z.size)=true:=by
  rw[hs,h0,lC.2 hn,zC.2 rfl];rfl
 rw[this,qF,hs,hfill];rfl
def Loose(base:Nat)(tf t:Tr jA)(sz:Nat)(l:List D)(v:zA):Prop:=
 (v=.nilslice/\l=[])\/∃b cl c,v=.slice b 0 l.length l.length/\base<=b/\tf.get b=none/\t.get b=some (.cells c (l.length*sz) (some sz)) ∧
  (∀(i:Nat) cs,cl[i]?=some cs->cs.length=sz/\∀(j:Nat) a,cs[j]?=some a->c.get (i*sz+j)=some a)/\kC tf l cl
def nJ(v:zA)(b:Nat):Prop:=∃o n c,v=.slice b o n c
theorem zdn{b:Nat}:¬ nJ .nilslice b:=fun⟨_,_,_,h⟩=>by cases h
theorem lN{b c o n k:Nat}:nJ (.slice b o n k) c ↔ c=b:=⟨fun⟨_,_,_,h⟩=>by cases h;rfl,fun h=>by subst h;exact⟨_,_,_,rfl⟩⟩
theorem Loose.read{base sz:Nat}{l:List D}{v:zA}(h:Loose base tf t sz l v)(ht:cA tf t):oA t sz l v:=by
 rcases h with⟨rfl,rfl⟩ | ⟨b,cl,c,rfl,_,_,h1,h2,h3⟩
 ·exact⟨[],.inl ⟨rfl,rfl⟩,oE.2 rfl⟩
 ·have hlen:=h3.length
  refine⟨cl,.inr ⟨b,0,l.length,by rw[hlen],by omega,⟨c,_,_,h1,.inr rfl⟩,fun i cs hi=>⟨(h2 i cs hi).1,c,_,_,h1,fun j a hj=>?_⟩⟩,kC.mono ht _ _ h3⟩
  rw[yax];exact(h2 i cs hi).2 j a hj
theorem Loose.len{base sz:Nat}{l:List D}{v:zA}(h:Loose base tf t sz l v):uB v=some (.int .i64 (l.length:Int)):=by
 rcases h with⟨rfl,rfl⟩ | ⟨b,cl,c,rfl,_⟩
 ·rfl
 ·rfl
theorem Loose.one{base sz:Nat}{l:List D}{v:zA}(h:Loose base tf t sz l v):zA.one v=true:=by
 rcases h with⟨rfl,rfl⟩ | ⟨b,cl,c,rfl,_⟩<;>rfl
theorem Loose.same{base sz d:Nat}{l:List D}{v:zA}(h:Loose base tf t sz l v):same d v v=true:=by
 rcases h with⟨rfl,rfl⟩ | ⟨b,cl,c,rfl,_⟩
 ·cases d <;> (unfold Am.same;rfl)
 ·have e:∀n,Nat.beq n n=true:=Nat.beq_refl
  cases d <;> (unfold Am.same;simp only[e,Bool.and_self])
theorem Loose.none{base sz:Nat}{l:List D}{v:zA}(h:Loose base tf t sz l v){b:Nat}(hb:nJ v b):tf.get b=none/\base<=b/\∃y,t.get b=some y:=by
 rcases h with⟨rfl,rfl⟩ | ⟨c,cl,x,rfl,h1,h2,h3,_⟩
 ·exact absurd hb zdn
 ·rw[lN]at hb;subst hb;exact⟨h2,h1,_,h3⟩
theorem Loose.keep{base sz:Nat}{l:List D}{v:zA}{t' tf':Tr jA}(h:Loose base tf t sz l v)(hf:cA tf tf')(hk:∀b,nJ v b->t'.get b=t.get b/\tf'.get b=Option.none):Loose base tf' t' sz l v:=by
 rcases h with⟨rfl,rfl⟩ | ⟨b,cl,c,rfl,h0,h1,h2,h3,h4⟩
 ·exact .inl ⟨rfl,rfl⟩
 ·obtain⟨k1,k2⟩:=hk b (lN.2 rfl)
  exact .inr ⟨b,cl,c,rfl,h0,k2,by rw[k1];exact h2,h3,kC.mono hf _ _ h4⟩
theorem fU{T el sz:Nat}(hT:zK C T el sz){l m:List D}{v x:zA}{cm:List (List zA)}(hv:Loose C.base tf t sz l v)(hx:sH t sz x cm)(hm:kC tf m cm)(hone:∀a∈cm.flatten,zA.one a=true)(hpos:0<m.length)(hl:l.length+m.length<400000){n:Nat}(hn:t.get n=none)(hbase:C.base<=n)(ht:cA tf t) :
  ∃t',eE C T T v x ⟨n,t⟩=some (.slice n 0 (l.length+m.length) (l.length+m.length),⟨n+1,t'⟩)/\Loose C.base tf t' sz (l++m) (.slice n 0 (l.length+m.length) (l.length+m.length))/\cA tf t'/\(∀c,c≠n->¬ nJ v c->t'.get c=t.get c):=by
 obtain⟨⟨y,hy1,hy2,hy3⟩,⟨z,hz1,hz2,hz3,hz4,hz5⟩⟩:=hT
 have hcm:=hm.length
 obtain⟨hf,hlen⟩:=hx.first (n:=n)
 have hall:=hx.len
 have hflat:=mQ hall
 have hfl:wB cm.flatten=cm.length*sz:=by rw[bD];exact hflat
 have hfn:tf.get n=none:=by
  cases hq:tf.get n with
  | none=>rfl
  | some u=>rw[ht _ _ hq]at hn;cases hn
 have base:eE C T T v x ⟨n,t⟩=(match v.asSlice with
  | some s=>bif Nat.ble (s.2.2.1+cm.length) s.2.2.2 then oP C ⟨n,t⟩ z cm.length cm.flatten s else nP C ⟨n,t⟩ z cm.length cm.flatten s
  | none=>sB (Nat.beq v.tag 5) (kM ⟨n,t⟩ z cm.length cm.flatten)):=by
  unfold eE bM;rw[hy1,sA,sA,hy3];simp only[ybm,qF];rw[hy2,sA,hz1,sA,hlen,sA,hz2,hf,sA];rfl
 have ok:kN z l.length l.length cm.length cm.flatten=true:=by
  unfold kN;have h1:Nat.blt (l.length+cm.length+l.length) 1000000000=true:=lC.2 (by omega)
  have h2:Nat.blt ((l.length+cm.length+l.length)*z.bytes) 1000000000=true:=lC.2 (by
   have:=ycc (show l.length+cm.length+l.length<=800000 by omega) hz4
   omega)
  have h3:Nat.blt z.bytes 1000000000=true:=lC.2 (by omega)
  have h4:(!Nat.beq z.size 0)=true:=by
   cases hq:Nat.beq z.size 0 with
   | true=>have:=zC.1 hq;omega
   | false=>rfl
  have h5:Nat.beq (wB cm.flatten) (cm.length*z.size)=true:=by rw[hfl,hz2];exact zC.2 rfl
  have h6:Nat.beq (wB z.zero) z.size=true:=by rw[hz3,hz2];exact zC.2 rfl
  rw[h1,h2,h3,h4,h5,h6];rfl
 rcases hv with⟨rfl,rfl⟩ | ⟨b,cl,c,rfl,hb0,hb1,hb2,hb3,hb4⟩
 ·refine⟨t.set n (.cells (Tr.ofList cm.flatten) (wB cm.flatten) (some z.size)),?_,.inr ⟨n,cm,Tr.ofList cm.flatten,by simp,hbase,hfn,?_,fun i cs hi=>⟨hall i cs hi,fun j a hj=>?_⟩,by simpa using hm⟩,?_,fun c hc _=>(sJ hn _).2 c hc⟩
  ·rw[base]
   simp only[zA.asSlice];show sB true (kM ⟨n,t⟩ z cm.length cm.flatten)=_
   rw[qF];unfold kM;have:Nat.beq cm.length 0=false:=by
    cases hq:Nat.beq cm.length 0 with
    | true=>have:=zC.1 hq;omega
    | false=>rfl
   have ok:kN z 0 0 cm.length cm.flatten=true:=ok
   rw[this,cond_false,ok,qF,hcm];simp only[yay,yax];rfl
  ·rw[Tr.get_set,if_pos rfl,hfl,hz2,hcm];simp
  ·rw[Tr.get_ofList];exact lQ hall i j cs a hi hj
  ·exact ht.trans (sJ hn _).1
 ·have hcl:=hb4.length
  have hbn:b≠n:=by intro e;rw[e,hn]at hb2;cases hb2
  refine⟨(t.del b).set n (.cells (c.setMany cm.flatten (l.length*z.size)) ((l.length+cm.length)*z.size) (some z.size)),?_,.inr ⟨n,cl++cm,c.setMany cm.flatten (l.length*z.size),by simp,hbase,hfn,?_,fun i cs hi=>?_,?_⟩,fun k u hk=>?_,fun k hk1 hk2=>?_⟩
  ·rw[base]
   simp only[zA.asSlice];have:Nat.ble (l.length+cm.length) l.length=false:=by
    cases hq:Nat.ble (l.length+cm.length) l.length with
    | true=>have:=cE.1 hq;omega
    | false=>rfl
   rw[this,cond_false];unfold nP;simp only[];rw[show ∀x,(!(Nat.beq 0 1&&x))=true from fun _=>rfl,qF,ok,qF]
   unfold nD;rw[hb2,sA];simp only[jA.asCells,sA];unfold iV;simp only[];have g1:Nat.beq sz z.size=true:=zC.2 hz2.symm
   have g2:Nat.ble (l.length*sz) (l.length*sz)=true:=cE.2 (yal _)
   have g3:Nat.ble (l.length*sz) ((l.length+cm.length)*sz)=true:=cE.2 (yaj _ (by omega))
   have g4:bB zA.one cm.flatten=true:=by rw[oG];exact ybc.2 hone
   have g5:(!Nat.blt b C.base)=true:=by
    cases hq:Nat.blt b C.base with
    | true=>have:=lC.1 hq;omega
    | false=>rfl
   rw[g1,g2,g3,g4,g5];simp only[hz2,hcm];rfl
  ·rw[Tr.get_set,if_pos rfl,hz2,hcm,yah]
  ·rw[List.getElem?_append]at hi
   split at hi
   ·rename_i hlt
    obtain⟨k1,k2⟩:=hb3 i cs hi
    refine⟨k1,fun j a hj=>?_⟩
    have hjl:j<sz:=by rw[<- k1];exact(yad.1 hj).1
    have:i*sz+j<l.length*sz:=by
     have:=yaj sz (show i+1<=l.length by omega)
     rw[yap]at this;omega
    rw[Tr.get_setMany,hz2,if_neg (by omega)]
    exact k2 j a hj
   ·rename_i hge
    have k1:=hall _ cs hi
    refine⟨k1,fun j a hj=>?_⟩
    have hf1:=lQ hall _ j cs a hi hj
    have hlt:=(yad.1 hf1).1
    have e:i*sz=l.length*sz+(i-cl.length)*sz:=by rw[<- yap];congr 1;omega
    rw[Tr.get_setMany,hz2,if_pos (by omega),show i*sz+j-l.length*sz=(i-cl.length)*sz+j by omega]
    exact hf1
  ·have app:∀ {l m:List D} {cl cm:List (List zA)},kC tf l cl->kC tf m cm->kC tf (l++m) (cl++cm):=by
    intro l;induction l with
    | nil=>intro m cl cm h k;rw[oE]at h;subst h;exact k
    | cons d l ih=>
     intro m cl cm h k;rw[zE]at h;obtain⟨c,r,rfl,h1,h2⟩:=h
     exact zE.2 ⟨c,r++cm,rfl,h1,ih h2 k⟩
   exact app hb4 hm
  ·have h1:k≠b:=by intro e;rw[e,hb1]at hk;cases hk
   have h2:k≠n:=by intro e;rw[e,hfn]at hk;cases hk
   rw[Tr.get_set,if_neg h2,Tr.get_del,if_neg h1];exact ht _ _ hk
  ·rw[Tr.get_set,if_neg hk1,Tr.get_del,if_neg (fun e=>hk2 (lN.2 e))]
theorem Loose.freeze{base sz:Nat}{l:List D}{v:zA}(h:Loose base tf t sz l v)(ht:cA tf t):∃tf',cA tf tf'/\cA tf' t/\oA tf' sz l v/\∀b,¬ nJ v b->tf'.get b=tf.get b:=by
 rcases h with⟨rfl,rfl⟩ | ⟨b,cl,c,rfl,h0,h1,h2,h3,h4⟩
 ·exact⟨tf,cA.refl _,ht,⟨[],.inl ⟨rfl,rfl⟩,oE.2 rfl⟩,fun _ _=>rfl⟩
 ·have hlen:=h4.length
  refine⟨tf.set b (.cells c (l.length*sz) (some sz)),(sJ h1 _).1,fun k u hk=>?_,⟨cl,.inr ⟨b,0,l.length,by rw[hlen],by omega,⟨c,_,_,by rw[Tr.get_set,if_pos rfl],.inr rfl⟩,fun i cs hi=>⟨(h3 i cs hi).1,c,_,_,(by rw[Tr.get_set,if_pos rfl]),fun j a hj=>?_⟩⟩,kC.mono (sJ h1 _).1 _ _ h4⟩,fun k hk=>by rw[Tr.get_set,if_neg (fun e=>hk (lN.2 e))]⟩
  ·rw[Tr.get_set]at hk
   split at hk
   ·rename_i e;subst e;cases hk;exact h2
   ·exact ht _ _ hk
  ·rw[yax];exact(h3 i cs hi).2 j a hj
end
end Go.Am
namespace Go.Proofs
open Go Go.Am
variable [dC]
variable {t:Tr jA}
theorem zae{neg:Bool}{l:List Nat}(h:xN neg l=true):norm l:=by
 intro hne;unfold xN at h;rw[if_neg hne,yac]at h;have:=of_decide_eq_true h.2
 intro e;exact this (by rw[List.getLast?_eq_some_getLast hne,e])
theorem zhx{l:List dH}{v:zA}(hv:oA t 2 (l.map dH.d) v)(hb:∀w∈l,w.limbs.length<1125899906842624)(hn:l.length<1125899906842624):∀(k i:Nat),i+k=l.length->jp 278 2 [v,.int .i64 (l.length:Int),.int .i64 (i:Int)] t (fun r m=>r=.bool ((l.drop i).all fun w=>xN w.neg w.limbs)/\m=t):=by
 intro k;induction k with
 | zero=>
  intro i hi;refine z3l _ _ _ ?_
  simp only[ztl,pA,mB];rw[if_neg (by omega),yau (by omega)]
  (first | exact⟨rfl,rfl⟩ | exact⟨rfl,trivial⟩ | trivial)
 | succ k ih=>
  intro i hi;have hlt:i<l.length:=by omega
  have hx:l[i]?=some l[i]:=yae hlt
  obtain⟨b,off,cs,g1,g2,_,_,g5⟩:=jE.at sl326 (by simp) hv (i:=i) (d:=l[i].d) (by simp[hx])
  obtain⟨u,rfl,hu⟩:=zgu g5
  have hv1:=zgc (neg:=l[i].neg) (hb _ (ybk hlt)) hu
  refine z3l _ _ _ ?_
  simp only[ztl,pA,mB];rw[if_pos (by omega),g1,xA,g2,zkz,xA,jL g5 (dH.zs _)]
  simp only[xA,cellsOf,lF,sF,yaa,yab];have hone:bB zA.one [.bool l[i].neg,u]=true:=by
   show(bif zA.one (.bool l[i].neg)then(bif zA.one u then true else false)else false)=true
   rw[hu.one];rfl
  refine xB hone ?_
  rw[q173,hv1];simp only[xA,mD,zbu];rw[yam hlt,ybh]
  cases hq:xN l[i].neg l[i].limbs with
  | false=>simp
  | true=>
   simp only[ybo,Bool.true_eq_false,if_false];rw[fB (by omega) (by omega)]
   exact ih (i+1) (by omega)
theorem zm7{l:List dH}{v:zA}(hv:oA t 2 (l.map dH.d) v)(hb:∀w∈l,w.limbs.length<1125899906842624)(hn:l.length<1125899906842624):rD yA F 278 [v] t=some (.bool (l.all fun w=>xN w.neg w.limbs)):=by
 refine mF.2 (w278 _ ?_)
 simp only[t278,pA,hv.len,xA,yB,yag];have:=zhx hv hb hn l.length 0 (by omega)
 rw[ybs]at this;exact this
theorem gcd_ok{n d:dH}{u v:zA}{Q:cB}(hu:oA t 1 (jC n.limbs) u)(hv:oA t 1 (jC d.limbs) v)(hn:n.limbs.length<700000)(hd:d.limbs.length<700000)(hnl:dB 65536 n.limbs)(hdl:dB 65536 d.limbs)(hnv:xN n.neg n.limbs=true)(hdv:xN d.neg d.limbs=true)
  (hQ:∀t' g rv,cA t t'->oA t' 1 (jC g) rv->dB 65536 g->norm g->val 65536 g=Nat.gcd (val 65536 n.limbs) (val 65536 d.limbs)->Q (.tup [.agg [.bool false,rv],.int .i64 0]) t'):Wc yA F 235 [.agg [.bool n.neg,u],.agg [.bool d.neg,v]] t Q:=by
 have hBB:=uL
 refine w235 _ _ _ _ ?_
 simp only[t235,pA];intro b hb hbase;obtain⟨t1,g1,g2,g3,g4⟩:=vP (C:=yA) (T:=326) (el:=43) (sz:=2) (n:=2) (cl:=[[.bool n.neg,u],[.bool d.neg,v]]) (ps:=[(0,.agg [.bool n.neg,u]),(1,.agg [.bool d.neg,v])]) ty326 rfl ty43 rfl rfl (by decide) rfl (fun i cs hi=>by
  rcases i with _ | _ | i
  ·simp at hi;subst hi;rfl
  ·simp at hi;subst hi;rfl
  ·simp at hi) rfl hb
 rw[g1,xA];have hw:oA t1 2 ([n,d].map dH.d) (.slice b 0 2 2):=⟨_,g2,by
  simp only[ybn,List.map_nil,zE,oE];refine⟨_,_,rfl,?_,_,_,rfl,?_,rfl⟩
  ·unfold dH.d
   rw[kI];refine⟨[[.bool n.neg],[u]],rfl,?_⟩
   simp only[zE,oE,cQ,aJ];exact⟨_,_,rfl,rfl,_,_,rfl,⟨u,rfl,hu.mono g3⟩,rfl⟩
  ·unfold dH.d
   rw[kI];refine⟨[[.bool d.neg],[v]],rfl,?_⟩
   simp only[zE,oE,cQ,aJ];exact⟨_,_,rfl,rfl,_,_,rfl,⟨v,rfl,hv.mono g3⟩,rfl⟩⟩
 have hall:=zm7 hw (fun w hw=>by
  rcases yat.1 hw with rfl | hw
  ·omega
  ·rw[yce.1 hw];omega) (by simp)
 rw[q278,hall];simp only[xA,mD,zbu,ybh,ybl,hnv,hdv,Bool.and_self,Bool.true_eq_false,if_false];rw[q281];refine zu3 (hu.mono g3) (by omega) hnl fun t2 v2 k1 k2=>?_
 rw[if_pos hv.same,q281];refine zu3 ((hv.mono g3).mono k1) (by omega) hdl fun t3 v3 m1 m2=>?_
 have an:=kZ hnl
 have ad:=kZ hdl
 rw[<- hBB]at an ad;rw[q280];refine cd_ok (k2.mono m1) m2 an ad (zas (zae hnv)) (zas (zae hdv)) (by rw[vQ];omega) (by rw[vQ];omega) fun t4 r rv p1 p2 p3 p4 p5=>?_
 rw[hBB]at p3;have vn:∀l,val BB (uH l)=val 65536 l:=fun l=>by rw[hBB];exact zh8 l
 rw[vn,vn]at p5;have hrl:r.length<400000:=by
  have hB1:1<BB:=by omega
  rcases Nat.eq_zero_or_pos (val 65536 n.limbs)with h0 | h0
  ·rw[h0,Nat.gcd_zero_left,<- vn]at p5
   have:=zP hB1 ad p4 (Nat.le_of_eq p5)
   rw[vQ]at this;omega
  ·have h1:=Nat.gcd_le_left (val 65536 d.limbs) h0
   rw[<- p5,<- vn]at h1;have:=zP hB1 an p4 h1
   rw[vQ]at this;omega
 rw[q279];refine zsm p2 hrl p3 fun t5 v5 s1 s2=>?_
 rw[sW p4]at s2 ⊢
 have eG:qG [(.bool false),.nilslice] (.agg [.bool (if r=[]then false else false),v5])=some (cellsOf [.bool (if r=[]then false else false),v5]):=iL (by
  show(true&&(gG .nilslice v5&&true))=true
  rw[yI s2];rfl)
 rw[eG];have hone:bB zA.one [.bool false,v5]=true:=by
  show(bif zA.one (.bool false)then(bif zA.one v5 then true else false)else false)=true
  rw[s2.one];rfl
 simp only[xA,cellsOf,lF,sF,yaa,yab,ite_self,hone,if_true];refine hQ t5 (nF (xH r)) v5 (g3.trans (k1.trans (m1.trans (p1.trans s1)))) s2 (aR (zam p3)) (nR _) ?_
 rw[dP,<- p5,zcb,hBB]
end Go.Proofs
namespace Go.Am
def gF.fit(f:gF):Prop:=f.ok/\dB 65536 f.n.limbs/\dB 65536 f.d.limbs
def aA.fit(v:aA):Prop:=v.kind<256/\v.f.fit /\ -9223372036854775808<=v.i/\v.i<9223372036854775808
mutual
def uA.fit:uA->Prop
 | .mk op name v args=>op<256/\name.length<qC/\(∀c∈name,c<256)/\v.fit/\args.length<qC/\uA.fits args
def uA.fits:List uA->Prop
 | []=>True
 | x::l=>x.fit/\uA.fits l
end
theorem uA.fits_mem:∀ {l:List uA},uA.fits l->∀x∈l,x.fit
 | [],_,_,h=>by cases h
 | y::l,h,x,hx=>by
  unfold uA.fits at h;rcases yat.1 hx with rfl | hx
  ·exact h.1
  ·exact uA.fits_mem h.2 x hx
mutual
theorem uA.fit_ok:∀ {x:uA},x.fit->x.ok
 | .mk op name v args,h=>by
  unfold uA.fit at h;unfold uA.ok;exact⟨h.2.1,h.2.2.2.1.2.1.1,h.2.2.2.2.1,uA.fits_oks h.2.2.2.2.2⟩
theorem uA.fits_oks:∀ {l:List uA},uA.fits l->uA.oks l
 | [],_=>by unfold uA.oks;trivial
 | x::l,h=>by
  unfold uA.fits at h;unfold uA.oks;exact⟨uA.fit_ok h.1,uA.fits_oks h.2⟩
end
def i64 (n:Int):Prop := -9223372036854775808<=n/\n<9223372036854775808
def uF.fit(r:uF):Prop:=i64 r.a/\i64 r.b/\i64 r.known/\r.f.fit
def vF.fit(x:vF):Prop:=x.name.length<qC/\x.rows.length<qC/\∀r∈x.rows,r.fit
def dJ.fit(x:dJ):Prop:=x.name.length<qC/\x.kind<256
def jD.fit(x:jD):Prop:=x.name.length<qC/\x.label.length<qC/\i64 x.from_/\i64 x.to/\i64 x.known/\x.when_.fit/\x.then_.fit
structure cH.fit (p:cH):Prop where
 name:p.name.length<qC
 ndefs:p.defs.length<qC
 ntables:p.tables.length<qC
 nclauses:p.clauses.length<qC
 defs:∀d∈p.defs,d.fit
 tables:∀d∈p.tables,d.fit
 clauses:∀d∈p.clauses,d.fit
end Go.Am
namespace Go.Proofs
open Go Go.Am
variable [dC]
variable {t:Tr jA}
def ziy(a b:dH):Bool:=(a.neg == b.neg)&&decide (a.limbs=b.limbs)
def zln(a b:gF):Bool:=ziy a.n b.n&&ziy a.d b.d
def kJ(a b:aA):Bool:=decide (a.kind=b.kind)&&decide (a.i=b.i)&&zln a.f b.f
def zwt(w:dH):Bool := !w.neg&&decide (w.limbs=[1])
def yR(f:gF):Bool:=decide (f.n.limbs.length<=256)&&decide (f.d.limbs.length<=256)&&xN f.n.neg f.n.limbs&&xN f.d.neg f.d.limbs && !f.d.neg&&decide (f.d.limbs≠[])&&(zwt f.d||decide (Nat.gcd (val 65536 f.n.limbs) (val 65536 f.d.limbs)=1))
theorem z6m{a b:Int}:iB a b=decide (a<b):=by
 cases h:iB a b with
 | true=>rw[decide_eq_true (mB.1 h)]
 | false=>rw[decide_eq_false (fun k=>by rw[mB.2 k]at h;cases h)]
theorem zhd{a b:Int}:sC a b=decide (a<=b):=by
 cases h:sC a b with
 | true=>rw[decide_eq_true (xF.1 h)]
 | false=>rw[decide_eq_false (fun k=>by rw[xF.2 k]at h;cases h)]
theorem zhe{a b:Int}:wA a b=decide (a=b):=by
 cases h:wA a b with
 | true=>rw[decide_eq_true (cD.1 h)]
 | false=>rw[decide_eq_false (fun k=>by rw[cD.2 k]at h;cases h)]
theorem zre{a b:List Nat}{u v:zA}(hu:oA t 1 (jC a) u)(hv:oA t 1 (jC b) v)(hl:a.length=b.length)(hn:a.length<1125899906842624):∀(k i:Nat),i+k=a.length->jp 171 2 [u,v,.int .i64 (a.length:Int),.int .i64 (i:Int)] t (fun r m=>r=.bool (decide (a.drop i=b.drop i))/\m=t):=by
 intro k;induction k with
 | zero=>
  intro i hi;refine z3r _ _ _ _ ?_
  simp only[ztr,pA,mB];rw[if_neg (by omega),yau (by omega),yau (by omega)]
  (first | exact⟨rfl,rfl⟩ | exact⟨rfl,trivial⟩ | trivial)
 | succ k ih=>
  intro i hi;have h1:i<a.length:=by omega
  have h2:i<b.length:=by omega
  have hx:a[i]?=some a[i]:=yae h1
  have hy:b[i]?=some b[i]:=yae h2
  obtain⟨c,off,g1,g2⟩:=oA.idx (C:=yA) zt7 hu hx
  obtain⟨d,off',g3,g4⟩:=oA.idx (C:=yA) zt7 hv hy
  refine z3r _ _ _ _ ?_
  simp only[ztr,pA,mB,g1,g2,g3,g4,xA,yB,zI];rw[if_pos (by omega),yam h1,yam h2]
  by_cases he:a[i]=b[i]
  ·rw[if_neg (by omega),fB (by omega) (by omega)]
   have:=ih (i+1) (by omega)
   rw[he];simp only[List.cons.injEq,true_and];exact this
  ·rw[if_pos (by omega)]
   have hne:¬ (a[i]::a.drop (i+1)=b[i]::b.drop (i+1)):=fun e=>he (List.cons.inj e).1
   rw[decide_eq_false hne]; (first | exact⟨rfl,rfl⟩ | exact⟨rfl,trivial⟩ | trivial)
theorem z1h{a b:List Nat}{u v:zA}(hu:oA t 1 (jC a) u)(hv:oA t 1 (jC b) v)(hn:a.length<1125899906842624):rD yA F 171 [u,v] t=some (.bool (decide (a=b))):=by
 refine mF.2 (w171 _ _ ?_)
 simp only[t171,pA,hu.len,hv.len,xA,yB,gQ,zI];by_cases hl:a.length=b.length
 ·rw[if_neg (by omega)]
  have:=zre hu hv hl hn a.length 0 (by omega)
  simpa using this
 ·rw[if_pos (by omega)]
  have:a≠b:=fun e=>hl (by rw[e])
  simp[this]
theorem zn2{a b:dH}{u v:zA}(hu:oA t 1 (jC a.limbs) u)(hv:oA t 1 (jC b.limbs) v)(hn:a.limbs.length<1125899906842624):rD yA F 105 [.agg [.bool a.neg,u],.agg [.bool b.neg,v]] t=some (.bool (ziy a b)):=by
 refine mF.2 (w105 _ _ _ _ ?_)
 simp only[t105,pA,q171,z1h hu hv hn,xA,mD];unfold ziy
 cases ha:a.neg<;>cases hb:b.neg<;>simp[bEq]
theorem zn4{a b:gF}{u v x y:zA}(hu:oA t 1 (jC a.n.limbs) u)(hv:oA t 1 (jC a.d.limbs) v)(hx:oA t 1 (jC b.n.limbs) x)(hy:oA t 1 (jC b.d.limbs) y)(hn:a.ok):rD yA F 53 [.agg [.bool a.n.neg,u,.bool a.d.neg,v],.agg [.bool b.n.neg,x,.bool b.d.neg,y]] t=some (.bool (zln a b)):=by
 unfold gF.ok qC at hn;refine mF.2 (w53 _ _ _ _ _ _ _ _ ?_)
 simp only[t53,pA,q105,zn2 hu hx (by omega),zn2 hv hy (by omega),xA,mD]
 unfold zln
 cases ziy a.n b.n<;>simp
theorem zn3{a b:aA}{u v x y:zA}(hu:oA t 1 (jC a.f.n.limbs) u)(hv:oA t 1 (jC a.f.d.limbs) v)(hx:oA t 1 (jC b.f.n.limbs) x)(hy:oA t 1 (jC b.f.d.limbs) y)(hn:a.f.ok):rD yA F 24 [.agg [.int .u8 a.kind,.bool a.f.n.neg,u,.bool a.f.d.neg,v,.int .i64 a.i],.agg [.int .u8 b.kind,.bool b.f.n.neg,x,.bool b.f.d.neg,y,.int .i64 b.i]] t=some (.bool (kJ a b)):=by
 refine mF.2 (w24 _ _ _ _ _ _ _ _ _ _ _ _ ?_)
 simp only[t24,pA,q53,zn4 hu hv hx hy hn,xA,mD,cD];unfold kJ;by_cases h1:a.kind=b.kind
 ·rw[if_pos (by omega)]
  by_cases h2:a.i=b.i
  ·rw[if_pos h2];simp[h1,h2]
  ·rw[if_neg h2];simp[h2]
 ·rw[if_neg (by omega)];simp[h1]
theorem zgj{f:gF}{u v:zA}(hu:oA t 1 (jC f.n.limbs) u)(hv:oA t 1 (jC f.d.limbs) v)(hf:gF.fit f):rD yA F 106 [.agg [.bool f.n.neg,u,.bool f.d.neg,v]] t=some (.bool (yR f)):=by
 obtain⟨h1,h2,h3⟩:=hf
 unfold gF.ok qC at h1;have c1:rD yA F 172 [.agg [.bool f.n.neg,u,.bool f.d.neg,v]] t=some (.bool (!(decide (f.n.limbs.length<=256)&&decide (f.d.limbs.length<=256)))):=by
  refine mF.2 (w172 _ _ _ _ ?_)
  simp only[t172,pA,hu.len,hv.len,xA,yB,gQ];have e:iB 256 (f.d.limbs.length:Int) = !decide (f.d.limbs.length<=256):=by
   rw[z6m,<- decide_not];congr 1;exact propext ⟨by omega,by omega⟩
  by_cases g1:f.n.limbs.length<=256
  ·rw[if_neg (fun h=>absurd (mB.1 h) (by omega)),e]
   simp[g1]
  ·rw[if_pos (mB.2 (by omega))];simp[g1]
 have c2:=zgc (neg:=f.n.neg) (by omega) hu
 have c3:=zgc (neg:=f.d.neg) (by omega) hv
 have c4:rD yA F 174 [.agg [.bool f.n.neg,u,.bool f.d.neg,v]] t=some (.bool (zwt f.d)):=by
  refine mF.2 (w174 _ _ _ _ ?_)
  simp only[t174,pA,q175,zo0 hv,xA,mD]; (first | exact⟨rfl,rfl⟩ | exact⟨rfl,trivial⟩ | trivial)
 refine zi3 (w106 _ _ _ _ ?_)
 simp only[t106,pA,q172,c1,q173,c2,c3,q174,c4,xA,mD,hv.len,yB,gQ,cD,zbu];unfold yR;by_cases g1:f.n.limbs.length<=256
 ·by_cases g2:f.d.limbs.length<=256
  ·simp only[g1,g2,decide_true,ybo,Bool.not_true,yar,if_false]
   cases hn:xN f.n.neg f.n.limbs with
   | false=>simp
   | true=>
    cases hd:xN f.d.neg f.d.limbs with
    | false=>simp
    | true=>
     simp only[Bool.true_eq_false,if_false,ybo]
     cases hg:f.d.neg with
     | true=>simp
     | false=>
      simp only[yar,if_false,ybm,ybo];by_cases h0:f.d.limbs=[]
      ·rw[if_pos (by rw[h0];rfl)];simp[h0]
      ·have:f.d.limbs.length≠0:=fun e=>h0 (ybd.1 e)
       rw[if_neg (by omega)]
       simp only[h0,ne_eq,not_false_eq_true,decide_true,ybo]
       cases ho:zwt f.d with
       | true=>simp
       | false=>
        simp only[yar,if_false,Bool.false_or];rw[q176];refine w176 _ _ _ _ ?_
        simp only[t176,pA,q235];have hn':=hn
        have hd':=hd
        rw[hg]at hd'
        refine gcd_ok (n:=f.n) (d:=⟨false,f.d.limbs⟩) hu hv (by omega) (by show f.d.limbs.length<_;omega) h2 h3 hn' hd' fun t' g rv k1 k2 k3 k4 k5=>?_
        have eG:qG [(.bool false),.nilslice] (.agg [.bool false,rv])=some (cellsOf [.bool false,rv]):=iL (by
         show(true&&(gG .nilslice rv&&true))=true
         rw[yI k2];rfl)
        have hone:bB zA.one [.bool false,rv]=true:=by
         show(bif zA.one (.bool false)then(bif zA.one rv then true else false)else false)=true
         rw[k2.one];rfl
        simp only[vC,zA.asTup,sA,vE,yaa,yab,xA,yB,eG,cellsOf,lF,sF,hone,if_true];rw[q175,zo0 k2];simp only[xA,mD,ybm,ybo]
        refine⟨?_,k1⟩
        congr 1
        rw[decide_eq_decide,<- k5];constructor
        ·intro e;subst e;rfl
        ·intro e
         exact z0g (B:=65536) (by decide) k3 (fun x hx=>by rw[yce.1 hx];decide) k4 (fun _=>by simp) (by rw[e];rfl)
  ·simp[g2]
 ·simp[g1]
theorem zh7{f:gF}{u v:zA}(hu:oA t 1 (jC f.n.limbs) u)(hv:oA t 1 (jC f.d.limbs) v)(hf:gF.fit f):rD yA F 54 [.agg [.bool f.n.neg,u,.bool f.d.neg,v]] t=some (.bool (yR f)):=by
 refine mF.2 (w54 _ _ _ _ ?_)
 simp only[t54,pA,q106,zgj hu hv hf,xA,mD,if_true];exact⟨trivial,trivial⟩
def iO(f:gF):Bool:=zln f ⟨⟨false,[]⟩,⟨false,[]⟩⟩
def rB(v:aA):Bool:=
 if v.kind=2\/v.kind=3 then decide (v.i=0)&&yR v.f
 else if v.kind=1 then iO v.f&&(decide (0<=v.i)&&decide (v.i<=1))
 else if v.kind=4 then iO v.f&&(decide (0<=v.i)&&decide (v.i<65536))
 else if v.kind=5\/v.kind=6 then iO v.f&&(decide (-1048576<=v.i)&&decide (v.i<=1048576))
 else false
theorem zh6{a:aA}{u v:zA}(hu:oA t 1 (jC a.f.n.limbs) u)(hv:oA t 1 (jC a.f.d.limbs) v)(hf:gF.fit a.f):rD yA F 25 [.agg [.int .u8 a.kind,.bool a.f.n.neg,u,.bool a.f.d.neg,v,.int .i64 a.i]] t=some (.bool (rB a)):=by
 have hz:oA t 1 (jC []) .nilslice:=⟨[],.inl ⟨rfl,rfl⟩,oE.2 rfl⟩
 have c1:rD yA F 53 [.agg [.bool a.f.n.neg,u,.bool a.f.d.neg,v],.agg [.bool false,.nilslice,.bool false,.nilslice]] t=some (.bool (iO a.f)):=zn4 (b:=⟨⟨false,[]⟩,⟨false,[]⟩⟩) hu hv hz hz hf.1
 have c2:=zh7 hu hv hf
 refine mF.2 (w25 _ _ _ _ _ _ ?_)
 simp only[t25,pA,q53,q54,c1,c2,xA,mD,cD,xF,if_true];unfold rB;by_cases h2:a.kind=2
 ·simp[h2]
  by_cases h0:a.i=0<;>simp[h0]
 ·by_cases h3:a.kind=3
  ·simp[h3]
   by_cases h0:a.i=0<;>simp[h0]
  ·by_cases h1:a.kind=1
   ·simp[h1,zhd]
    cases iO a.f
    ·simp
    ·by_cases h0:0<=a.i<;>simp[h0]
   ·by_cases h4:a.kind=4
    ·simp[h4,z6m]
     cases iO a.f
     ·simp
     ·by_cases h0:0<=a.i<;>simp[h0]
    ·by_cases h5:a.kind=5
     ·simp[h5,zhd]
      cases iO a.f
      ·simp
      ·by_cases h0 : -1048576<=a.i<;>simp[h0]
     ·by_cases h6:a.kind=6
      ·simp[h6,zhd]
       cases iO a.f
       ·simp
       ·by_cases h0 : -1048576<=a.i<;>simp[h0]
      ·rw[if_neg (by omega),if_neg (by omega),if_neg (by omega),if_neg (by omega),if_neg (by omega),if_neg (by omega)]
       simp[h1,h2,h3,h4,h5,h6]
end Go.Proofs
namespace Go.Proofs
open Go Go.Am
variable [dC]
variable {t:Tr jA}
def zyv (a b:Int):Int:=if a<b then -1 else if b<a then 1 else 0
def cmpR (x y:uF):Int:=if zyv x.a y.a≠0 then zyv x.a y.a else if zyv x.b y.b≠0 then zyv x.b y.b else zyv x.known y.known
theorem zmv{a b:Int}:rD yA F 184 [.int .i64 a,.int .i64 b] t=some (.int .i64 (zyv a b)):=by
 have c:∀n:Int,rD yA F 240 [.int .i64 n] t=some (.bool false):=by
  intro n;refine mF.2 (w240 _ ?_)
  simp only[t240,pA];refine⟨?_,trivial⟩
  rw[zhe];simp
 refine mF.2 (w184 _ _ ?_)
 simp only[t184,pA,q240,c,xA,mD,mB,yar,if_false];unfold zyv;by_cases h1:a<b
 ·rw[if_pos h1,if_pos h1]; (first | exact⟨rfl,rfl⟩ | exact⟨rfl,trivial⟩ | trivial)
 ·rw[if_neg h1,if_neg h1]
  by_cases h2:b<a
  ·rw[if_pos h2,if_pos h2]; (first | exact⟨rfl,rfl⟩ | exact⟨rfl,trivial⟩ | trivial)
  ·rw[if_neg h2,if_neg h2]; (first | exact⟨rfl,rfl⟩ | exact⟨rfl,trivial⟩ | trivial)
def dI (l:List Int):List D:=l.map fun n=>D.int .i64 n
def orI:List Int->Int
 | []=>0
 | a::l=>if a≠0 then a else orI l
theorem z5h{l:List Int}{v:zA}(hv:oA t 1 (dI l) v)(hn:l.length<1125899906842624):∀(k i:Nat),i+k=l.length->jp 183 2 [.int .i64 0,v,.int .i64 (l.length:Int),.int .i64 (i:Int)] t (fun r m=>r=.int .i64 (orI (l.drop i))/\m=t):=by
 intro k;induction k with
 | zero=>
  intro i hi;refine z3q _ _ _ _ ?_
  simp only[ztq,pA,mB];rw[if_neg (by omega),yau (by omega)]
  (first | exact⟨rfl,rfl⟩ | exact⟨rfl,trivial⟩ | trivial)
 | succ k ih=>
  intro i hi;have h1:i<l.length:=by omega
  have hx:(dI l)[i]?=some (.int .i64 l[i]):=by simp[dI,yae h1]
  obtain⟨b,off,cs,g1,g2,_,_,g5⟩:=jE.at zt8 (fun _=>rfl) hv hx
  rw[gL]at g5;subst g5;have g2':mA yA 3 ⟨0,t⟩ (.ptr b off)=some (.int .i64 l[i]):=g2
  refine z3q _ _ _ _ ?_
  simp only[ztq,pA,mB,g1,g2',xA,yB,zI];rw[if_pos (by omega),yam h1]
  unfold orI;by_cases h0:l[i]=0
  ·rw[if_neg (by omega),if_neg (by omega),fB (by omega) (by omega)]
   exact ih (i+1) (by omega)
  ·rw[if_pos h0,if_pos h0]
   (first | exact⟨rfl,rfl⟩ | exact⟨rfl,trivial⟩ | trivial)
theorem zmu{x y:uF}{a b c d:zA}:rD yA F 118 [.agg [.int .i64 x.a,.int .i64 x.b,.int .i64 x.known,.bool x.f.n.neg,a,.bool x.f.d.neg,b],.agg [.int .i64 y.a,.int .i64 y.b,.int .i64 y.known,.bool y.f.n.neg,c,.bool y.f.d.neg,d]] t=some (.int .i64 (cmpR x y)):=by
 refine zi3 (w118 _ _ _ _ _ _ _ _ _ _ _ _ _ _ ?_)
 simp only[t118,pA,q184,zmv,xA,yB,aL,if_true];intro b hb hbase;generalize e1:zyv x.a y.a=c1
 generalize e2:zyv x.b y.b=c2
 generalize e3:zyv x.known y.known=c3
 obtain⟨t1,g1,g2,g3,g4⟩:=vP (C:=yA) (T:=105) (el:=3) (sz:=1) (n:=3) (cl:=[[.int .i64 c1],[.int .i64 c2],[.int .i64 c3]]) (ps:=[(0,.int .i64 c1),(1,.int .i64 c2),(2,.int .i64 c3)]) zeh rfl ty3 rfl rfl (by decide) rfl (fun i cs hi=>by
  rcases i with _ | _ | _ | i
  ·simp at hi;subst hi;rfl
  ·simp at hi;subst hi;rfl
  ·simp at hi;subst hi;rfl
  ·simp at hi) rfl hb
 rw[g1,xA];have hr:oA t1 1 (dI [c1,c2,c3]) (.slice b 0 3 3):=⟨_,g2,by simp[dI,zE,oE,gL]⟩
 have c183:rD yA F 183 [.slice b 0 3 3] t1=some (.int .i64 (orI [c1,c2,c3])):=by
  refine mF.2 (w183 _ ?_)
  simp only[t183,pA,hr.len,xA,yB];exact z5h hr (by simp) 3 0 rfl
 rw[q183,c183];simp only[xA,yB];refine⟨?_,g3⟩
 congr 1
 unfold cmpR;simp only[e1,e2,e3,orI];split
 ·rfl
 ·split
  ·rfl
  ·split
   ·rfl
   ·omega
def vV(l:List uF):Nat->Bool
 | 0=>true
 | n+1=>(match l[n+1]?,l[n]? with | some x,some y => !decide (cmpR x y<0) | _,_=>true)&&vV l n
theorem zn7{l:List uF}{v:zA}(hv:oA t 7 (l.map uF.d) v){i:Nat}(hi:i<l.length) :
  ∃b off x y,zB yA 80 v (.int .i64 (i:Int))=some (.ptr b off)/\mA yA 85 ⟨0,t⟩ (.ptr b off)=some (.agg [.int .i64 l[i].a,.int .i64 l[i].b,.int .i64 l[i].known,.bool l[i].f.n.neg,x,.bool l[i].f.d.neg,y])/\oA t 1 (jC l[i].f.n.limbs) x/\oA t 1 (jC l[i].f.d.limbs) y ∧
   qG [(.int .i64 0),(.int .i64 0),(.int .i64 0),(.bool false),.nilslice,(.bool false),.nilslice] (.agg [.int .i64 l[i].a,.int .i64 l[i].b,.int .i64 l[i].known,.bool l[i].f.n.neg,x,.bool l[i].f.d.neg,y])=some (cellsOf [.int .i64 l[i].a,.int .i64 l[i].b,.int .i64 l[i].known,.bool l[i].f.n.neg,x,.bool l[i].f.d.neg,y]):=by
 obtain⟨b,off,cs,g1,g2,_,_,g5⟩:=jE.at sl80 (by simp) hv (i:=i) (d:=l[i].d) (by simp[yae hi])
 have hz:=jL g5 (uF.zs _)
 obtain⟨x,y,rfl,hx,hy⟩:=zod g5
 exact⟨b,off,x,y,g1,g2,hx,hy,hz⟩
theorem zli{l:List uF}{v:zA}(hv:oA t 7 (l.map uF.d) v)(hn:l.length<1125899906842624):∀(n:Nat),n<l.length\/n=0->jp 117 2 [v,.func (.func 118) [] [],.int .i64 (n:Int)] t (fun r m=>r=.bool (vV l n)/\m=t):=by
 intro n;induction n with
 | zero=>
  intro _;refine zwr _ _ _ ?_
  simp only[znt,pA,mB];rw[if_neg (by omega)]
  (first | exact⟨rfl,rfl⟩ | exact⟨rfl,trivial⟩ | trivial)
 | succ n ih=>
  intro h;have h1:n+1<l.length:=by omega
  have h2:n<l.length:=by omega
  obtain⟨b,off,x,y,g1,g2,_,_,g5⟩:=zn7 hv h1
  obtain⟨b',off',x',y',k1,k2,_,_,k5⟩:=zn7 hv h2
  have e1:((n+1:Nat):Int)-1=(n:Int):=by omega
  have f:∀a b,wM (.func (.func 118) [] []) [a,b]=some (118,[a,b]):=fun _ _=>rfl
  refine zwr _ _ _ ?_
  simp only[znt,pA,mB];rw[if_pos (by omega),g1,xA,g2,xA,g5,xA,e1,fB (by omega) (by omega),k1,xA,k2,xA,k5,xA,f,xA]
  simp only[cellsOf,yG,lF,sF,yaa,yab];rw[q118,zmu,xA,yB,xA];unfold vV;rw[yae h1,yae h2];by_cases h0:cmpR l[n+1] l[n]<0
  ·refine xB h0 ?_
   simp[h0]
  ·refine pC h0 ?_
   simp only[h0,decide_false,ybm,ybo];exact ih (.inl h2)
theorem zt5{l:List uF}{v:zA}(hv:oA t 7 (l.map uF.d) v)(hn:l.length<1125899906842624):rD yA F 117 [v,.func (.func 118) [] []] t=some (.bool (vV l (l.length-1))):=by
 refine mF.2 (w117 _ _ ?_)
 simp only[t117,pA,hv.len,xA,yB,yag];rw[fB (by omega) (by omega)]
 by_cases h0:l.length=0
 ·refine zwr _ _ _ ?_
  simp only[znt,pA,mB];rw[if_neg (by omega),h0]
  (first | exact⟨rfl,rfl⟩ | exact⟨rfl,trivial⟩ | trivial)
 ·have:=zli hv hn (l.length-1) (by omega)
  rw[show((l.length-1:Nat):Int)=(l.length:Int)-1 by omega]at this
  exact this
def in32 (n:Int):Bool:=decide (-2147483648<=n)&&decide (n<=2147483647)
def wO(two:Bool)(r:uF):Bool:=in32 r.a&&in32 r.b&&(two||decide (r.b=0))&&decide (0<=r.known)&&decide (r.known<65536)&&yR r.f
theorem zuj{two:Bool}{r:uF}{x y:zA}(hx:oA t 1 (jC r.f.n.limbs) x)(hy:oA t 1 (jC r.f.d.limbs) y)(hf:gF.fit r.f) :
  jp 121 2 [.bool two,.agg [.int .i64 r.a,.int .i64 r.b],.int .i64 2,.int .i64 r.a,.int .i64 r.b,.int .i64 r.known,.bool r.f.n.neg,x,.bool r.f.d.neg,y] t (fun v m=>v=.bool ((two||decide (r.b=0))&&decide (0<=r.known)&&decide (r.known<65536)&&yR r.f)/\m=t):=by
 refine zwq _ _ _ _ _ _ _ _ _ _ _ ?_
 simp only[zns,pA,mB,xF,cD,q54,zh7 hx hy hf,xA,mD];rw[if_neg (by omega)]
 cases two with
 | true=>
  simp only[if_true,Bool.true_or,ybo];by_cases h1:0<=r.known
  ·rw[if_pos h1]
   by_cases h2:r.known<65536
   ·rw[if_pos h2];simp[h1,h2]
   ·rw[if_neg h2];simp[h2]
  ·rw[if_neg h1];simp[h1]
 | false=>
  simp only[yar,if_false,Bool.false_or];by_cases h0:r.b=0
  ·rw[if_pos h0]
   by_cases h1:0<=r.known
   ·rw[if_pos h1]
    by_cases h2:r.known<65536
    ·rw[if_pos h2];simp[h0,h1,h2]
    ·rw[if_neg h2];simp[h2]
   ·rw[if_neg h1];simp[h1]
  ·rw[if_neg h0];simp[h0]
theorem zzx{two:Bool}{r:uF}{x y:zA}(hx:oA t 1 (jC r.f.n.limbs) x)(hy:oA t 1 (jC r.f.d.limbs) y)(hf:gF.fit r.f) :
  rD yA F 121 [.bool two,.agg [.int .i64 r.a,.int .i64 r.b,.int .i64 r.known,.bool r.f.n.neg,x,.bool r.f.d.neg,y]] t=some (.bool (wO two r)):=by
 have i0:aN yA 236 (.agg [.int .i64 r.a,.int .i64 r.b]) (.int .i64 0)=some (.int .i64 r.a):=by kernel_rfl
 have i1:aN yA 236 (.agg [.int .i64 r.a,.int .i64 r.b]) (.int .i64 1)=some (.int .i64 r.b):=by kernel_rfl
 have e:=zuj (two:=two) hx hy hf
 have w1:vA .i64 (0+1)=1:=by kernel_rfl
 have w2:vA .i64 (1+1)=2:=by kernel_rfl
 refine mF.2 (w121 _ _ _ _ _ _ _ _ ?_)
 simp only[t121,pA,if_true];refine zwq _ _ _ _ _ _ _ _ _ _ _ ?_
 simp only[zns,pA,mB];rw[if_pos (by omega),i0,xA,yB,xA]
 unfold wO in32;by_cases h1:r.a < -2147483648
 ·rw[if_pos h1]
  have:¬ (-2147483648<=r.a):=by omega
  simp[this]
 ·rw[if_neg h1]
  have g1 : -2147483648<=r.a:=by omega
  by_cases h2:2147483647<r.a
  ·rw[if_pos h2]
   have:¬ (r.a<=2147483647):=by omega
   simp[this]
  ·rw[if_neg h2,w1]
   have g2:r.a<=2147483647:=by omega
   refine zwq _ _ _ _ _ _ _ _ _ _ _ ?_
   simp only[zns,pA,mB];rw[if_pos (by omega),i1,xA,yB,xA]
   by_cases h3:r.b < -2147483648
   ·rw[if_pos h3]
    have:¬ (-2147483648<=r.b):=by omega
    simp[this]
   ·rw[if_neg h3]
    have g3 : -2147483648<=r.b:=by omega
    by_cases h4:2147483647<r.b
    ·rw[if_pos h4]
     have:¬ (r.b<=2147483647):=by omega
     simp[this]
    ·rw[if_neg h4,w2]
     have g4:r.b<=2147483647:=by omega
     simp only[g1,g2,g3,g4,decide_true,Bool.and_self,ybo];exact e
theorem z7f{cs:List zA}{b:Nat}(hb:t.get b=none):∃t',zsj (.agg cs) ⟨b,t⟩=some (.ptr b 0,⟨b+1,t'⟩)/\At t' b 0 cs/\cA t t'/\kD b t t':=by
 refine⟨t.set b (.cells (Tr.ofList cs) (wB cs) none),rfl,⟨Tr.ofList cs,wB cs,none,by rw[Tr.get_set,if_pos rfl],fun j a hj=>by rw[yax,Tr.get_ofList];exact hj⟩,(sJ hb _).1,(sJ hb _).2⟩
def idxR (two:Bool):List uF->Int->Int
 | [],_ => -1
 | r::l,i=>if wO two r=true then idxR two l (i+1)else i
theorem zo3{two:Bool}:∀(l:List uF) (i:Int),0<=i->decide (0<=idxR two l i)=l.any fun r => !wO two r
 | [],i,_=>rfl
 | r::l,i,h=>by
  unfold idxR;rw[List.any_cons]
  cases hq:wO two r with
  | false=>simpa using h
  | true=>
   rw[if_pos rfl,Bool.not_true,Bool.false_or];exact zo3 l (i+1) (by omega)
theorem zq2{l:List uF}{v w:zA}{two:Bool}(hv:oA t 7 (l.map uF.d) v)(hn:l.length<1125899906842624)(hf:∀r∈l,gF.fit r.f)(hw:∀r∈l,∀x y,oA t 1 (jC r.f.n.limbs) x->oA t 1 (jC r.f.d.limbs) y->rD yA F 120 [.agg [.int .i64 r.a,.int .i64 r.b,.int .i64 r.known,.bool r.f.n.neg,x,.bool r.f.d.neg,y],w] t=some (.bool (!wO two r))) :
  ∀(k i:Nat),i+k=l.length->jp 185 2 [v,.func (.func 120) [] [w],.int .i64 (l.length:Int),.int .i64 (i:Int)] t (fun r m=>r=.int .i64 (idxR two (l.drop i) i)/\m=t):=by
 intro k;induction k with
 | zero=>
  intro i hi;refine z3p _ _ _ _ ?_
  simp only[ztp,pA,mB];rw[if_neg (by omega),yau (by omega)]
  (first | exact⟨rfl,rfl⟩ | exact⟨rfl,trivial⟩ | trivial)
 | succ k ih=>
  intro i hi;have h1:i<l.length:=by omega
  obtain⟨b,off,x,y,g1,g2,gx,gy,g5⟩:=zn7 hv h1
  have f:∀a,wM (.func (.func 120) [] [w]) [a]=some (120,[a,w]):=fun _=>rfl
  refine z3p _ _ _ _ ?_
  simp only[ztp,pA,mB];rw[if_pos (by omega),g1,xA,g2,xA,g5,xA,f,xA]
  simp only[cellsOf,yG,lF,sF,yaa,yab];rw[q120,hw _ (ybk h1) x y gx gy,xA,mD,xA,yam h1]
  unfold idxR
  cases hq:wO two l[i]with
  | false=>
   simp only[ybm,if_true,yar,if_false]; (first | exact⟨rfl,trivial⟩ | exact⟨trivial,trivial⟩ | trivial)
  | true=>
   simp only[Bool.not_true,yar,if_false,if_true];rw[fB (by omega) (by omega)]
   exact ih (i+1) (by omega)
def eP(x:vF):Bool:=decide (1<=x.name.length)&&decide (x.name.length<=24)&&decide (x.rows.length<=400)&&vV x.rows (x.rows.length-1) && !(x.rows.any fun r => !wO x.two r)
theorem zsc{x:vF}{v:zA}(hv:oA t 7 (x.rows.map uF.d) v)(hn:x.rows.length<qC)(hs:x.name.length<qC)(hf:∀r∈x.rows,gF.fit r.f):rD yA F 64 [.agg [.str x.name,.bool x.two,v]] t=some (.bool (eP x)):=by
 unfold qC at hn hs;refine zi3 (w64 _ _ _ ?_)
 simp only[t64,pA];intro b hb hbase;obtain⟨t1,g1,g2,g3,g4⟩:=z7f (cs:=[.str x.name,.bool x.two,v]) hb
 have f0:pB yA 82 0 (.ptr b 0)=some (.ptr b (0+0)):=by kernel_rfl
 have f1:pB yA 82 1 (.ptr b 0)=some (.ptr b (0+1)):=by kernel_rfl
 have f2:pB yA 82 2 (.ptr b 0)=some (.ptr b (0+2)):=by kernel_rfl
 have l0:mA yA 9 ⟨0,t1⟩ (.ptr b (0+0))=some (.str x.name):=g2.load1 ty9 rfl rfl
 have l1:mA yA 4 ⟨0,t1⟩ (.ptr b (0+1))=some (.bool x.two):=g2.load1 ty4 rfl rfl
 have l2:mA yA 80 ⟨0,t1⟩ (.ptr b (0+2))=some v:=g2.load1 ty80 rfl rfl
 have hv1:=hv.mono g3
 rw[g1,xA,f0,xA,l0,xA,lI,xA,mR,f2];simp only[xA,l0,l2,lI,mR,hv1.len,yB,yag,mB,q117,zt5 hv1 (by omega),mD,q119]
 have c120:∀r∈x.rows,∀y z,oA t1 1 (jC r.f.n.limbs) y->oA t1 1 (jC r.f.d.limbs) z->rD yA F 120 [.agg [.int .i64 r.a,.int .i64 r.b,.int .i64 r.known,.bool r.f.n.neg,y,.bool r.f.d.neg,z],.ptr b 0] t1=some (.bool (!wO x.two r)):=by
  intro r hr y z hy hz;refine mF.2 (w120 _ _ _ _ _ _ _ _ ?_)
  simp only[t120,pA];rw[f1,xA,l1,xA,mD,xA,q121,zzx hy hz (hf r hr),xA,mD,xA]
  (first | exact⟨rfl,rfl⟩ | exact⟨rfl,trivial⟩ | trivial)
 have c119:rD yA F 119 [v,.func (.func 120) [] [.ptr b 0]] t1=some (.bool (x.rows.any fun r => !wO x.two r)):=by
  refine mF.2 (w119 _ _ ?_)
  simp only[t119,pA];have c185:rD yA F 185 [v,.func (.func 120) [] [.ptr b 0]] t1=some (.int .i64 (idxR x.two x.rows 0)):=by
   refine mF.2 (w185 _ _ ?_)
   simp only[t185,pA,hv1.len,xA,yB,yag];have:=zq2 hv1 (by omega) hf c120 x.rows.length 0 (by omega)
   rw[ybs]at this;exact this
  rw[q185,c185,xA,yB,xA,zhd,zo3 _ _ (by omega)]
  (first | exact⟨rfl,rfl⟩ | exact⟨rfl,trivial⟩ | trivial)
 unfold eP;by_cases h1:(x.name.length:Int)<1
 ·rw[if_pos h1]
  have:¬ (1<=x.name.length):=by omega
  exact⟨by simp[this],g3⟩
 ·rw[if_neg h1]
  have h1':1<=x.name.length:=by omega
  by_cases h2:24<(x.name.length:Int)
  ·rw[if_pos h2]
   have:¬ (x.name.length<=24):=by omega
   exact⟨by simp[this],g3⟩
  ·rw[if_neg h2]
   have h2':x.name.length<=24:=by omega
   by_cases h3:400<(x.rows.length:Int)
   ·rw[if_pos h3]
    have:¬ (x.rows.length<=400):=by omega
    exact⟨by simp[this],g3⟩
   ·rw[if_neg h3]
    have h3':x.rows.length<=400:=by omega
    simp only[h1',h2',h3',decide_true,ybo]
    cases hs:vV x.rows (x.rows.length-1)with
    | false=>exact⟨by simp,g3⟩
    | true=>
     rw[c119];simp only[if_true,xA,mD,ybo];exact⟨by trivial,g3⟩
end Go.Proofs
namespace Go.Am
open Go Go.RowKit
def xD (t:Tr jA)(b:Nat)(lo:Option Nat)(cs:List zA):Prop:=∃c,t.get b=some (.cells c cs.length lo)/\∀(j:Nat) a,cs[j]?=some a->c.get j=some a
def zJ(cs:List zA)(j:Nat)(l:List zA):List zA:=cs.take j++(l++cs.drop (j+l.length))
theorem pY{cs l:List zA}{j:Nat}(h:j+l.length<=cs.length):(zJ cs j l).length=cs.length:=by
 unfold zJ;simp;omega
theorem kW{cs l:List zA}{j:Nat}(h:j+l.length<=cs.length)(k:Nat):(zJ cs j l)[k]?=if j<=k/\k<j+l.length then l[k-j]? else cs[k]?:=by
 have ht:(cs.take j).length=j:=by simp;omega
 unfold zJ;rw[List.getElem?_append,ht];split
 ·rename_i h1
  rw[if_neg (by omega),ycg,if_pos h1]
 ·rename_i h1
  rw[List.getElem?_append];split
  ·rw[if_pos (by omega)]
  ·rw[if_neg (by omega),ycf];congr 1;omega
section
variable {t tf:Tr jA}{C:iA}{b:Nat}{lo:Option Nat}{cs:List zA}
theorem xD.at(h:xD t b lo cs):At t b 0 cs:=by
 obtain⟨c,h1,h2⟩:=h
 exact⟨c,_,_,h1,fun j a hj=>by rw[yax];exact h2 j a hj⟩
theorem xD.off(h:xD t b lo cs){t':Tr jA}(k:t'.get b=t.get b):xD t' b lo cs:=by
 obtain⟨c,h1,h2⟩:=h
 exact⟨c,by rw[k];exact h1,h2⟩
theorem xD.load1(h:xD t b lo cs){j:Nat}{a:zA}{ty:Nat}{y:vD}(hy:C.tys.get ty=some y)(ha:y.desc.isAgg=false)(hj:cs[j]?=some a):mA C ty ⟨0,t⟩ (.ptr b j)=some a:=by
 have:=h.at.load1 hy ha hj
 rw[yax]at this;exact this
theorem xD.store(h:xD t b lo cs)(hb:C.base<=b){j T:Nat}{y:vD}{v:zA}(hT:C.tys.get T=some y)(hl:v.cells.length=y.size)(hj:j+v.cells.length<=cs.length)(hone:bB zA.one v.cells=true) :
  ∃t',(∀n,xE C T (.ptr b j) v ⟨n,t⟩=some (rE,⟨n,t'⟩))/\xD t' b lo (zJ cs j v.cells)/\kD b t t':=by
 obtain⟨c,h1,h2⟩:=h
 refine⟨t.set b (.cells (c.setMany v.cells j) cs.length lo),fun n=>?_,⟨c.setMany v.cells j,?_,fun k a hk=>?_⟩,fun d hd=>by rw[Tr.get_set,if_neg hd]⟩
 ·unfold xE
  rw[hT,sA];simp only[zA.asPtr,sA];have e1:Nat.beq (wB v.cells) y.size=true:=by rw[bD,hl];exact zC.2 rfl
  rw[e1,qF];unfold fK nD;have e2:(!Nat.blt b C.base)=true:=by
   cases hq:Nat.blt b C.base with
   | true=>have:=lC.1 hq;omega
   | false=>rfl
  rw[e2,qF,h1,sA];simp only[jA.asCells,sA];have e3:Nat.ble (j+wB v.cells) cs.length=true:=by rw[bD];exact cE.2 hj
  rw[e3,hone];rfl
 ·rw[Tr.get_set,if_pos rfl,pY hj]
 ·rw[kW hj]at hk
  rw[Tr.get_setMany];split
  ·rename_i e;rw[if_pos e]at hk;exact hk
  ·rename_i e;rw[if_neg e]at hk;exact h2 k a hk
theorem xD.store1(h:xD t b lo cs)(hb:C.base<=b){j T:Nat}{y:vD}{v:zA}(hT:C.tys.get T=some y)(hs:y.size=1)(hv:v.cells=[v])(hone:zA.one v=true)(hj:j<cs.length) :
  ∃t',(∀n,xE C T (.ptr b j) v ⟨n,t⟩=some (rE,⟨n,t'⟩))/\xD t' b lo (cs.set j v)/\kD b t t':=by
 obtain⟨t',h1,h2,h3⟩:=h.store hb hT (v:=v) (j:=j) (by rw[hv,hs];rfl) (by rw[hv];exact hj) (by rw[hv];show(bif zA.one v then true else false)=true;rw[hone];rfl)
 refine⟨t',h1,?_,h3⟩
 have e:zJ cs j v.cells=cs.set j v:=by
  rw[hv];apply List.ext_getElem?
  intro k;rw[kW (by exact hj),ybx]
  by_cases e:j=k
  ·subst e;rw[if_pos (by simp),if_pos rfl,if_pos hj];simp
  ·rw[if_neg (by simp;omega),if_neg e]
 rw[e]at h2;exact h2
theorem zdc{b:Nat}(hb:t.get b=none)(cs:List zA)(lo:Option Nat):∃t',jF ⟨b,t⟩ cs lo=⟨b+1,t'⟩/\xD t' b lo cs/\cA t t'/\kD b t t':=
 ⟨t.set b (.cells (Tr.ofList cs) (wB cs) lo),rfl,⟨Tr.ofList cs,by rw[Tr.get_set,if_pos rfl,bD],fun j a hj=>by rw[Tr.get_ofList];exact hj⟩,(sJ hb _).1,(sJ hb _).2⟩
theorem uT{b T:Nat}{y:vD}(hT:C.tys.get T=some y)(hb:t.get b=none):∃t',sM C T ⟨b,t⟩=some (.ptr b 0,⟨b+1,t'⟩)/\xD t' b none y.zero/\cA t t'/\kD b t t':=by
 obtain⟨t',h1,h2,h3,h4⟩:=zdc hb y.zero none
 refine⟨t',?_,h2,h3,h4⟩
 unfold sM;rw[hT,sA,<- h1]
theorem zx3{b:Nat}{v:zA}(hb:t.get b=none):∃t',zsj v ⟨b,t⟩=some (.ptr b 0,⟨b+1,t'⟩)/\xD t' b none v.cells/\cA t t'/\kD b t t':=by
 obtain⟨t',h1,h2,h3,h4⟩:=zdc hb v.cells none
 exact⟨t',by unfold zsj;rw[<- h1],h2,h3,h4⟩
def OwnD (base:Nat)(tf t:Tr jA)(sz:Nat)(l:List D)(b:Nat)(lo:Option Nat):Prop:=
 base<=b/\tf.get b=none/\∃cl,xD t b lo cl.flatten/\(∀(i:Nat) cs,cl[i]?=some cs->cs.length=sz)/\kC tf l cl
theorem OwnD.read{base sz n:Nat}{l:List D}(h:OwnD base tf t sz l b lo)(hlo:lo=none\/lo=some sz)(ht:cA tf t)(hn:l.length=n){cap:Nat}(hc:n<=cap):oA t sz l (.slice b 0 n cap):=by
 obtain⟨_,_,cl,⟨c,h1,h2⟩,h3,h4⟩:=h
 have hlen:=h4.length
 refine⟨cl,.inr ⟨b,0,cap,by rw[hlen,hn],by omega,⟨c,_,_,h1,hlo⟩,fun i cs hi=>⟨h3 i cs hi,c,_,_,h1,fun j a hj=>?_⟩⟩,kC.mono ht _ _ h4⟩
 rw[yax];exact h2 _ _ (lQ h3 i j cs a hi hj)
theorem z1a{sz:Nat}:∀ {cl:List (List zA)},(∀(i:Nat) cs,cl[i]?=some cs->cs.length=sz)->∀ {i o:Nat} {cs l:List zA},cl[i]?=some cs->o+l.length<=sz->zJ cl.flatten (i*sz+o) l=(cl.set i (zJ cs o l)).flatten:=by
 intro cl h i o cs l hi ho;have hlt:i<cl.length:=(yad.1 hi).1
 have hcs:=h i cs hi
 have hfl:=mQ h
 have hb:i*sz+sz<=cl.length*sz:=by
  have:=yaj sz (show i+1<=cl.length by omega)
  rw[yap]at this;omega
 have hov:(zJ cs o l).length=sz:=by rw[pY (by omega)];exact hcs
 have h':∀(k:Nat) c,(cl.set i (zJ cs o l))[k]?=some c->c.length=sz:=by
  intro k c hk;rw[ybx]at hk;split at hk
  ·cases hk;exact hov
  ·exact h k c hk
 have hfl':=mQ h'
 rw[yci]at hfl'
 have hsz:∀k,k<cl.length*sz->k / sz<cl.length/\k%sz<sz:=by
  intro k hk;have hpos:0<sz:=by
   rcases Nat.eq_zero_or_pos sz with e | e
   ·subst e;simp at hk
   ·exact e
  exact⟨ybv (by rw[yai];exact hk),ybz _ hpos⟩
 apply List.ext_getElem?
 intro k;rw[kW (by rw[hfl];omega)]
 by_cases hk:k<cl.length*sz
 ·obtain⟨k1,k2⟩:=hsz k hk
  have hdm:=ybi k sz
  have hkk:k=k / sz*sz+k%sz:=by rw[yai];exact hdm.symm
  have hq:cl[k / sz]?=some cl[k / sz]:=yae k1
  have hql:=h _ _ hq
  have e1:cl.flatten[k]?=cl[k / sz][k%sz]?:=by
   have hx:cl[k / sz][k%sz]?=some cl[k / sz][k%sz]:=yae (by omega)
   rw[hx];conv=>lhs;rw[hkk]
   exact lQ h _ _ _ _ hq hx
  have e2:∀c,(cl.set i (zJ cs o l))[k / sz]?=some c->(cl.set i (zJ cs o l)).flatten[k]?=c[k%sz]?:=by
   intro c hc;have hcl:=h' _ _ hc
   have hx:c[k%sz]?=some c[k%sz]:=yae (by omega)
   rw[hx];conv=>lhs;rw[hkk]
   exact lQ h' _ _ _ _ hc hx
  by_cases hi2:k / sz=i
  ·have hc:(cl.set i (zJ cs o l))[k / sz]?=some (zJ cs o l):=by rw[hi2,ybx,if_pos rfl,if_pos hlt]
   rw[e2 _ hc,kW (by omega)]
   rw[hi2]at hkk;have hcs2:cl[k / sz]=cs:=by
    have:cl[k / sz]?=some cs:=by rw[hi2];exact hi
    rw[hq]at this;exact ybj this
   by_cases hin:o<=k%sz/\k%sz<o+l.length
   ·rw[if_pos (by omega),if_pos hin];congr 1;omega
   ·rw[if_neg (by omega),if_neg hin,e1,hcs2]
  ·have hc:(cl.set i (zJ cs o l))[k / sz]?=some cl[k / sz]:=by rw[ybx,if_neg (fun e=>hi2 e.symm)];exact hq
   rw[e2 _ hc,e1,if_neg];intro⟨a1,a2⟩
   apply hi2
   have hpos:0<sz:=by omega
   exact Nat.div_eq_of_lt_le (by omega) (by rw[yap];omega)
 ·rw[if_neg (by omega),List.getElem?_eq_none (by rw[hfl];omega),List.getElem?_eq_none (by rw[hfl'];omega)]
theorem kC.set:∀ {l:List D} {cl:List (List zA)} {i:Nat} {d:D} {cs:List zA},kC tf l cl->RD tf d cs->kC tf (l.set i d) (cl.set i cs):=by
 intro l;induction l with
 | nil=>intro cl i d cs h _;rw[oE]at h;subst h;exact oE.2 rfl
 | cons e l ih=>
  intro cl i d cs h k;rw[zE]at h;obtain⟨c,r,rfl,h1,h2⟩:=h
  cases i with
  | zero=>exact zE.2 ⟨cs,r,rfl,k,h2⟩
  | succ i=>exact zE.2 ⟨c,r.set i cs,rfl,h1,ih h2 k⟩
theorem OwnD.grow{base sz:Nat}{l:List D}(h:OwnD base tf t sz l b lo){tf' t':Tr jA}(hf:cA tf tf')(hb:tf'.get b=none)(ht:t'.get b=t.get b):OwnD base tf' t' sz l b lo:=by
 obtain⟨h1,h2,cl,h3,h4,h5⟩:=h
 exact⟨h1,hb,cl,h3.off ht,h4,kC.mono hf _ _ h5⟩
theorem OwnD.cells{base sz:Nat}{l:List D}(h:OwnD base tf t sz l b lo){i:Nat}{d:D}(hi:l[i]?=some d):∃cs,cs.length=sz/\RD tf d cs/\At t b (i*sz) cs:=by
 obtain⟨h1,h2,cl,⟨c,h3,h4⟩,h5,h6⟩:=h
 obtain⟨cs,k1,k2⟩:=h6.get hi
 exact⟨cs,h5 i cs k1,k2,c,_,_,h3,fun j a hj=>h4 _ _ (lQ h5 i j cs a k1 hj)⟩
theorem OwnD.store{sz:Nat}{l:List D}(h:OwnD C.base tf t sz l b lo){i o T:Nat}{d d':D}{y:vD}{v:zA}(hi:l[i]?=some d)(hT:C.tys.get T=some y)(hl:v.cells.length=y.size)(ho:o+v.cells.length<=sz)(hone:bB zA.one v.cells=true)
  (hd:∀cs,cs.length=sz->RD tf d cs->RD tf d' (zJ cs o v.cells)) :
  ∃t',(∀n,xE C T (.ptr b (i*sz+o)) v ⟨n,t⟩=some (rE,⟨n,t'⟩))/\OwnD C.base tf t' sz (l.set i d') b lo/\kD b t t':=by
 obtain⟨h1,h2,cl,h3,h5,h6⟩:=h
 obtain⟨cs,k1,k2⟩:=h6.get hi
 have hlt:i<cl.length:=(yad.1 k1).1
 have hfl:=mQ h5
 have hb:i*sz+sz<=cl.length*sz:=by
  have:=yaj sz (show i+1<=cl.length by omega)
  rw[yap]at this;omega
 obtain⟨t',g1,g2,g3⟩:=h3.store h1 hT hl (j:=i*sz+o) (by rw[hfl];omega) hone
 rw[z1a h5 k1 ho]at g2;refine⟨t',g1,⟨h1,h2,_,g2,fun k c hk=>?_,h6.set (hd cs (h5 i cs k1) k2)⟩,g3⟩
 rw[ybx]at hk;split at hk
 ·cases hk
  rw[pY (by rw[h5 i cs k1];exact ho)]
  exact h5 i cs k1
 ·exact h5 k c hk
end
end Go.Am
namespace Go.Proofs
open Go Go.Am
variable [dC]
variable {t:Tr jA}
mutual
/-- parts are counted, up to a limit -/
def eK:uA->Nat->Nat->Bool × Nat
 | .mk _ _ _ args,deep,c=>if 200<c+1 then(false,c+1)else if 24<deep then(false,c+1)else oK args (deep+1) (c+1)
def oK:List uA->Nat->Nat->Bool × Nat
 | [],_,c=>(true,c)
 | x::l,deep,c=>if (eK x deep c).1=true then oK l deep (eK x deep c).2 else(false,(eK x deep c).2)
end
mutual
theorem zcr:∀(x:uA) (deep c:Nat),c<=200->(eK x deep c).2<=201/\((eK x deep c).1=true->(eK x deep c).2<=200)
 | .mk _ _ _ args,deep,c,h=>by
  unfold eK;split
  ·simp;omega
  ·split
   ·simp;omega
   ·exact zir args (deep+1) (c+1) (by omega)
theorem zir:∀(l:List uA) (deep c:Nat),c<=200->(oK l deep c).2<=201/\((oK l deep c).1=true->(oK l deep c).2<=200)
 | [],deep,c,h=>by unfold oK;simp;omega
 | x::l,deep,c,h=>by
  have h1:=zcr x deep c h
  unfold oK;split
  ·rename_i e
   exact zir l deep _ (h1.2 e)
  ·simp;omega
end
theorem zbt{x:uA}{a b c:zA}(ha:zA.one a=true)(hb:zA.one b=true)(hc:zA.one c=true):bB zA.one [.int .u8 x.op,.str x.name,.int .u8 x.v.kind,.bool x.v.f.n.neg,a,.bool x.v.f.d.neg,b,.int .i64 x.v.i,c]=true:=by
 rw[oG];simp only[ybh,ybl,ha,hb,hc];rfl
theorem mU{l:List uA}{v:zA}(hv:oA t 9 (l.map uA.d) v){i:Nat}{x:uA}(hx:l[i]?=some x) :
  ∃b off a c d,zB yA 48 v (.int .i64 (i:Int))=some (.ptr b off)/\mA yA 50 ⟨0,t⟩ (.ptr b off)=some (.agg (mC x a c d))/\RD t x.d (mC x a c d)/\qG [(.int .u8 0),(.str []),(.int .u8 0),(.bool false),.nilslice,(.bool false),.nilslice,(.int .i64 0),.nilslice] (.agg (mC x a c d))=some (cellsOf (mC x a c d)) ∧
   oA t 1 (jC x.v.f.n.limbs) a/\oA t 1 (jC x.v.f.d.limbs) c/\oA t 9 (x.args.map uA.d) d:=by
 obtain⟨b,off,cs,g1,g2,_,_,g5⟩:=jE.at z2q (by simp) hv (i:=i) (d:=x.d) (by simp[hx])
 have hz:=jL g5 x.zs
 obtain⟨a,c,d,rfl,h1,h2,h3⟩:=cK g5
 exact⟨b,off,a,c,d,g1,g2,g5,hz,h1,h2,h3⟩
section
variable {tf:Tr jA}{c w:Nat}
mutual
theorem zsb:∀(x:uA) (deep n:Nat) (cs:List zA) (t:Tr jA) (Q:cB),x.ok->deep<=25->n<=200->RD tf x.d cs->cA tf t->yA.base<=c->tf.get c=none->xD tf w none [.func (.func 116) [] [.ptr c 0,.ptr w 0]]->xD t c none [.int .i64 (n:Int)] →
  (∀t',kD c t t'->cA tf t'->xD t' c none [.int .i64 ((eK x deep n).2:Int)]->Q (.bool (eK x deep n).1) t')->Wc yA F 116 [.agg cs,.int .i64 (deep:Int),.ptr c 0,.ptr w 0] t Q
 | .mk op name v args,deep,n,cs,t,Q,hx,hdeep,hn,h,ht,hc,hfc,hw,hcel,hQ=>by
  obtain⟨a,b,d,rfl,ha,hb,hd⟩:=cK h
  simp only[uA.op,uA.name,uA.v,uA.args]at ha hb hd;have hx':=hx
  unfold uA.ok qC at hx';have l0:mA yA 3 ⟨0,t⟩ (.ptr c 0)=some (.int .i64 (n:Int)):=hcel.load1 ty3 rfl rfl
  obtain⟨t1,s1,s2,s3⟩:=hcel.store1 (C:=yA) hc (j:=0) (v:=.int .i64 ((n+1:Nat):Int)) ty3 rfl rfl rfl (by simp)
  have s2:xD t1 c none [.int .i64 ((n+1:Nat):Int)]:=s2
  have ht1:cA tf t1:=ht.off hfc s3
  have l1:mA yA 3 ⟨0,t1⟩ (.ptr c 0)=some (.int .i64 ((n+1:Nat):Int)):=s2.load1 ty3 rfl rfl
  have e1:(n:Int)+1=((n+1:Nat):Int):=by omega
  refine w116 _ _ _ _ _ _ _ _ _ _ _ _ ?_
  simp only[t116,pA];rw[l0,xA,yB,xA,e1,fB (by omega) (by omega)]
  intro m _ _;rw[s1,xA,l1,xA,yB,xA];simp only[mB];unfold eK at hQ;by_cases h1:200<n+1
  ·rw[if_pos (by omega)]
   rw[if_pos h1]at hQ;exact hQ t1 s3 ht1 s2
  ·rw[if_neg (by omega)]
   rw[if_neg h1]at hQ;by_cases h2:24<deep
   ·rw[if_pos (by omega)]
    rw[if_pos h2]at hQ;exact hQ t1 s3 ht1 s2
   ·rw[if_neg (by omega)]
    rw[if_neg h2]at hQ;rw[(hd.mono ht1).len,xA,yag,yB,xA]
    exact zng args args deep (n+1) d 0 t1 Q hd rfl hx'.2.2.2 hx'.2.2.1 (by omega) (by omega) ht1 hc hfc hw s2 (fun t' k1 k2 k3=>hQ t' (s3.trans k1) k2 k3)
theorem zng:∀(l args:List uA) (deep n:Nat) (d:zA) (i:Nat) (t:Tr jA) (Q:cB),oA tf 9 (args.map uA.d) d->args.drop i=l->uA.oks l->args.length<1125899906842624->deep<=24->n<=200->cA tf t->yA.base<=c->tf.get c=none->xD tf w none [.func (.func 116) [] [.ptr c 0,.ptr w 0]]->xD t c none [.int .i64 (n:Int)] →
  (∀t',kD c t t'->cA tf t'->xD t' c none [.int .i64 ((oK l (deep+1) n).2:Int)]->Q (.bool (oK l (deep+1) n).1) t')->jp 116 2 [.int .i64 (deep:Int),.ptr w 0,d,.int .i64 (args.length:Int),.int .i64 (i:Int)] t Q
 | [],args,deep,n,d,i,t,Q,hd,hl,hok,hsz,hdeep,hn,ht,hc,hfc,hw,hcel,hQ=>by
  have:=lU hl
  refine z3u _ _ _ _ _ ?_
  simp only[ztu,pA,mB];rw[if_neg (by omega)]
  unfold oK at hQ;exact hQ t (kD.refl _ _) ht hcel
 | x::l,args,deep,n,d,i,t,Q,hd,hl,hok,hsz,hdeep,hn,ht,hc,hfc,hw,hcel,hQ=>by
  obtain⟨h1,h2,h3⟩:=kU hl
  have hok':=hok
  unfold uA.oks at hok';obtain⟨b',off,a1,b1,c1,g1,g2,g3,g4,g5,g6,g7⟩:=mU (hd.mono ht) h1
  obtain⟨b2,off2,a2,c2,d2,k1,k2,k3,k4,k5,k6,k7⟩:=mU hd h1
  have e:b'=b2/\off=off2:=by rw[g1]at k1;cases k1; (first | exact⟨rfl,rfl⟩ | exact⟨rfl,trivial⟩ | trivial)
  obtain⟨rfl,rfl⟩:=e
  have e2:=wN (HA:=⟨0,t⟩) (fun _ _ h=>ht _ _ h) k2
  rw[g2]at e2;have e3:mC x a1 b1 c1=mC x a2 c2 d2:=by cases e2;rfl
  rw[<- e3]at k3;have lw:mA yA 73 ⟨0,t⟩ (.ptr w 0)=some (.func (.func 116) [] [.ptr c 0,.ptr w 0]):=wN (H:=⟨0,tf⟩) (fun _ _ h=>ht _ _ h) (hw.load1 ty73 rfl rfl)
  have f:∀a b,wM (.func (.func 116) [] [.ptr c 0,.ptr w 0]) [a,b]=some (116,[a,b,.ptr c 0,.ptr w 0]):=fun _ _=>rfl
  have e1:(deep:Int)+1=((deep+1:Nat):Int):=by omega
  refine z3u _ _ _ _ _ ?_
  simp only[ztu,pA,mB];rw[if_pos (by omega),g1,xA,g2,xA,g4,xA]
  simp only[mC,cellsOf,yG,lF,sF,dG,yaa,yab];refine xB (zbt g5.one g6.one g7.one) ?_
  rw[lw,xA,f,xA,e1,fB (by omega) (by omega),q116]
  have hle:=zcr x (deep+1) n hn
  refine zsb x (deep+1) n _ t _ hok'.1 (by omega) hn k3 ht hc hfc hw hcel fun t' m1 m2 m3=>?_
  rw[mD,xA];unfold oK at hQ
  cases hq:(eK x (deep+1) n).1 with
  | false=>
   rw[hq,if_neg (by simp)]at hQ
   simp only[ybm,if_true];exact hQ t' m1 m2 m3
  | true=>
   rw[hq,if_pos rfl]at hQ;simp only[Bool.not_true,yar,if_false];rw[fB (by omega) (by omega),show(i:Int)+1=((i+1:Nat):Int) by omega]
   exact zng l args deep _ d (i+1) t' Q hd h2 hok'.2 hsz hdeep (hle.2 hq) m2 hc hfc hw m3 fun t'' p1 p2 p3=>hQ t'' (m1.trans p1) p2 p3
end
end
def eO(x:uA):Bool:=(eK x 1 0).1
theorem zny{x:uA}{cs:List zA}(hx:x.ok)(h:RD t x.d cs):rD yA F 63 [.agg cs] t=some (.bool (eO x)):=by
 obtain⟨a,b,d,rfl,ha,hb,hd⟩:=cK h
 refine zi3 (w63 _ _ _ _ _ _ _ _ _ ?_)
 simp only[t63,pA];intro c hc hcb;obtain⟨t1,g1,g2,g3,g4⟩:=uT (C:=yA) ty3 hc
 rw[g1,xA];intro m1 _ _;obtain⟨t2,s1,s2,s3⟩:=g2.store1 (C:=yA) hcb (j:=0) (v:=.int .i64 ((0:Nat):Int)) ty3 rfl rfl rfl (by decide)
 have s1':xE yA 3 (.ptr c 0) (.int .i64 0) ⟨m1,t1⟩=some (rE,⟨m1,t2⟩):=s1 m1
 rw[s1',xA];intro w hw hwb;have hwc:w≠c:=by
  intro e;subst e;obtain⟨x,hx,_⟩:=s2
  rw[hx]at hw;cases hw
 have htw:t.get w=none:=by
  cases hq:t.get w with
  | none=>rfl
  | some y=>have:=(g3.off hc s3) _ _ hq;rw[hw]at this;cases this
 obtain⟨t3,g5,g6,g7,g8⟩:=uT (C:=yA) ty73 hw
 rw[g5,xA];intro m2 _ _;obtain⟨t4,s4,s5,s6⟩:=g6.store1 (C:=yA) hwb (j:=0) (v:=.func (.func 116) [] [.ptr c 0,.ptr w 0]) ty73 rfl rfl rfl (by decide)
 have s4':=s4 m2
 rw[s4',xA];have s5:xD t4 w none [.func (.func 116) [] [.ptr c 0,.ptr w 0]]:=s5
 have lw:mA yA 73 ⟨0,t4⟩ (.ptr w 0)=some (.func (.func 116) [] [.ptr c 0,.ptr w 0]):=s5.load1 ty73 rfl rfl
 have f:∀a b,wM (.func (.func 116) [] [.ptr c 0,.ptr w 0]) [a,b]=some (116,[a,b,.ptr c 0,.ptr w 0]):=fun _ _=>rfl
 rw[lw,xA,f,xA,q116];have hc4:t4.get c=t2.get c:=by rw[s6 c (Ne.symm hwc),g8 c (Ne.symm hwc)]
 have hcel:xD t4 c none [.int .i64 ((0:Nat):Int)]:=s2.off hc4
 obtain⟨blk,hblk,hblk2⟩:=s5
 have htf:cA t (t.set w (.cells blk 1 none)):=(sJ htw _).1
 have hft:cA (t.set w (.cells blk 1 none)) t4:=by
  intro k y hk;rw[Tr.get_set]at hk;split at hk
  ·rename_i e;subst e;cases hk;exact hblk
  ·rename_i e
   have hkc:k≠c:=by intro e';subst e';rw[hc]at hk;cases hk
   rw[s6 k e,g8 k e,s3 k hkc,g4 k hkc];exact hk
 refine zsb (tf:=t.set w (.cells blk 1 none)) (c:=c) (w:=w) x 1 0 _ t4 _ hx (by omega) (by omega) (RD.mono htf _ _ h) hft hcb (by rw[Tr.get_set,if_neg (Ne.symm hwc)];exact hc) ⟨blk,by rw[Tr.get_set,if_pos rfl];rfl,hblk2⟩ hcel fun t' k1 k2 k3=>?_
 rw[mD,xA];exact⟨rfl,htf.trans k2⟩
end Go.Proofs
namespace Go.Proofs
open Go Go.Am
variable [dC]
variable {t:Tr jA}
def gN(x:jD)(a b c a' b' c':zA):List zA:=[.str x.name,.str x.label,.int .i64 x.from_,.int .i64 x.to,.int .i64 x.known,.bool x.off,.int .u8 x.when_.op,.str x.when_.name,.int .u8 x.when_.v.kind,.bool x.when_.v.f.n.neg,a,.bool x.when_.v.f.d.neg,b,.int .i64 x.when_.v.i,c,.int .u8 x.then_.op,.str x.then_.name,.int .u8 x.then_.v.kind,.bool x.then_.v.f.n.neg,a',.bool x.then_.v.f.d.neg,b',.int .i64 x.then_.v.i,c']
def zf9:List zA:=[(.str []),(.str []),(.int .i64 0),(.int .i64 0),(.int .i64 0),(.bool false),(.int .u8 0),(.str []),(.int .u8 0),(.bool false),.nilslice,(.bool false),.nilslice,(.int .i64 0),.nilslice,(.int .u8 0),(.str []),(.int .u8 0),(.bool false),.nilslice,(.bool false),.nilslice,(.int .i64 0),.nilslice]
theorem zqp{x:jD}{a b c a' b' c':zA}(ha:zA.one a=true)(hb:zA.one b=true)(hc:zA.one c=true)(ha':zA.one a'=true)(hb':zA.one b'=true)(hc':zA.one c'=true):bB zA.one (gN x a b c a' b' c')=true:=by
 rw[oG];simp only[gN,ybh,ybl,ha,hb,hc,ha',hb',hc'];rfl
theorem zd0{l:List jD}{v:zA}(hv:oA t 24 (l.map jD.d) v){i:Nat}{x:jD}(hx:l[i]?=some x) :
  ∃p off a b c a' b' c',zB yA 24 v (.int .i64 (i:Int))=some (.ptr p off)/\mA yA 52 ⟨0,t⟩ (.ptr p off)=some (.agg (gN x a b c a' b' c'))/\qG zf9 (.agg (gN x a b c a' b' c'))=some (cellsOf (gN x a b c a' b' c')) ∧
   RD t x.when_.d (mC x.when_ a b c)/\RD t x.then_.d (mC x.then_ a' b' c')/\bB zA.one (gN x a b c a' b' c')=true:=by
 obtain⟨p,off,cs,g1,g2,_,_,g5⟩:=jE.at sl24 (by simp) hv (i:=i) (d:=x.d) (by simp[hx])
 have hz:=jL g5 x.zs
 obtain⟨a,b,c,a',b',c',rfl,h1,h2⟩:=zc2 g5
 obtain⟨u1,u2,u3,e1,m1,m2,m3⟩:=cK h1
 obtain⟨w1,w2,w3,e2,n1,n2,n3⟩:=cK h2
 unfold mC at e1 e2
 cases e1
 cases e2
 exact⟨p,off,_,_,_,_,_,_,g1,g2,hz,h1,h2,zqp m1.one m2.one m3.one n1.one n2.one n3.one⟩
def iR(c:jD):Bool:=eO c.when_&&eO c.then_
def dN(p:cH):Bool:=decide (p.defs.length<=64)&&decide (p.clauses.length<=400)&&decide (p.tables.length<=16)&&p.clauses.all iR&&p.tables.all eP
theorem zk8{l:List vF}{v:zA}(hv:oA t 3 (l.map vF.d) v)(hn:l.length<1125899906842624)(hf:∀x∈l,x.fit):∀(k i:Nat),i+k=l.length->jp 33 6 [v,.int .i64 (l.length:Int),.int .i64 (i:Int)] t (fun r m=>r=.bool ((l.drop i).all eP)/\m=t):=by
 intro k;induction k with
 | zero=>
  intro i hi;refine j33_6 _ _ _ ?_
  simp only[z4y,pA,mB];rw[if_neg (by omega),yau (by omega)]
  (first | exact⟨rfl,rfl⟩ | exact⟨rfl,trivial⟩ | trivial)
 | succ k ih=>
  intro i hi;have h1:i<l.length:=by omega
  obtain⟨b,off,cs,g1,g2,_,_,g5⟩:=jE.at sl23 (by simp) hv (i:=i) (d:=l[i].d) (by simp[yae h1])
  have hz:=jL g5 (vF.zs _)
  obtain⟨a,rfl,ha⟩:=zbr g5
  have hfit:=hf _ (ybk h1)
  have hone:bB zA.one [.str l[i].name,.bool l[i].two,a]=true:=by rw[oG];simp only[ybh,ybl,ha.one];rfl
  refine j33_6 _ _ _ ?_
  simp only[z4y,pA,mB];rw[if_pos (by omega),g1,xA,g2,zkz,xA,hz,xA]
  simp only[cellsOf,dG,lF,sF,yaa,yab];refine xB hone ?_
  rw[q64,zsc ha hfit.2.1 hfit.1 (fun r hr=>(hfit.2.2 r hr).2.2.2),xA,mD,xA,yam h1,ybh]
  cases hq:eP l[i]with
  | false=>simp
  | true=>
   simp only[Bool.not_true,yar,if_false,ybo];rw[fB (by omega) (by omega)]
   exact ih (i+1) (by omega)
theorem zj8{p:cH}{l:List jD}{v a b:zA}(hp:l=p.clauses)(hv:oA t 24 (l.map jD.d) v)(hb:oA t 3 (p.tables.map vF.d) b)(hn:l.length<1125899906842624)(hnt:p.tables.length<1125899906842624)(hf:∀x∈l,x.fit)(hft:∀x∈p.tables,x.fit):∀(k i:Nat),i+k=l.length->jp 33 2 [v,.int .i64 (l.length:Int),.int .i64 (i:Int),.str p.name,a,b,v] t (fun r m=>r=.bool ((l.drop i).all iR&&p.tables.all eP)/\m=t):=by
 intro k;induction k with
 | zero=>
  intro i hi;refine j33_2 _ _ _ _ _ _ _ ?_
  simp only[z4z,pA,mB];rw[if_neg (by omega),yau (by omega),hb.len,xA,yag,yB,xA]
  have:=zk8 hb hnt hft p.tables.length 0 (by omega)
  rw[ybs]at this;exact this
 | succ k ih=>
  intro i hi;have h1:i<l.length:=by omega
  obtain⟨q,off,u1,u2,u3,w1,w2,w3,g1,g2,g3,g4,g5,g6⟩:=zd0 hv (yae h1)
  have hfit:=hf _ (ybk h1)
  refine j33_2 _ _ _ _ _ _ _ ?_
  simp only[z4z,pA,mB];unfold zf9 at g3;rw[if_pos (by omega),g1,xA,g2,xA,g3,xA]
  unfold gN at g6;simp only[gN,cellsOf,yG,dG,lF,sF,yaa,yab];have s1:=zny (uA.fit_ok hfit.2.2.2.2.2.1) g4
  have s2:=zny (uA.fit_ok hfit.2.2.2.2.2.2) g5
  unfold mC at s1 s2;refine xB g6 ?_
  rw[q63,s1,xA,mD,xA,q63,s2,xA,mD,xA,yam h1,ybh];have e:iR l[i]=(eO l[i].when_&&eO l[i].then_):=rfl
  rw[e]
  cases hq:eO l[i].when_ with
  | false=>simp
  | true=>
   cases hq2:eO l[i].then_ with
   | false=>simp
   | true=>
    simp only[Bool.not_true,yar,if_false,ybo];rw[fB (by omega) (by omega)]
    exact ih (i+1) (by omega)
theorem zrn{p:cH}{cs:List zA}(hp:p.fit)(h:RD t p.d cs):rD yA F 33 [.agg cs] t=some (.bool (dN p)):=by
 obtain⟨a,b,c,rfl,ha,hb,hc⟩:=oV h
 obtain⟨p1,p2,p3,p4,p5,p6,p7⟩:=hp
 unfold qC at p1 p2 p3 p4;refine mF.2 (w33 _ _ _ _ ?_)
 simp only[t33,pA,ha.len,hb.len,hc.len,xA,yB,yag,mB];unfold dN;by_cases h1:p.defs.length<=64
 ·rw[if_neg (by omega)]
  by_cases h2:p.clauses.length<=400
  ·rw[if_neg (by omega)]
   by_cases h3:p.tables.length<=16
   ·rw[if_neg (by omega)]
    simp only[h1,h2,h3,decide_true,ybo];have:=zj8 (a:=a) rfl hc hb (by omega) (by omega) p7 p6 p.clauses.length 0 (by omega)
    rw[ybs]at this;exact this
   ·rw[if_pos (by omega)];simp[h3]
  ·rw[if_pos (by omega)];simp[h2]
 ·rw[if_pos (by omega)];simp[h1]
end Go.Proofs
namespace Go.Am
structure XIns where
 op:Nat
 a:Int
 b:Int
def gI (k:List Nat):List (List Nat)->Nat
 | []=>0
 | x::l=>if k=x then 0 else gI k l+1
theorem zbw{k:List Nat}:∀ {l:List (List Nat)},k∈l->l[gI k l]?=some k
 | [],h=>by cases h
 | x::l,h=>by
  unfold gI;split
  ·rename_i e;rw[e];rfl
  ·rename_i e
   rcases yat.1 h with h | h
   ·exact absurd h e
   ·rw[yab];exact zbw h
theorem tU{k:List Nat}:∀ {l:List (List Nat)},k∉l->gI k l=l.length
 | [],_=>rfl
 | x::l,h=>by
  unfold gI;have h1:k≠x:=fun e=>h (by rw[e];exact yaz)
  rw[if_neg h1,tU (fun m=>h (yas _ m))];rfl
structure Nt where
 names:List (List Nat)
 consts:List aA
section
variable (key:aA->List Nat)(valid:aA->Bool)
def Nt.name(s:Nt)(n:List Nat):Nt:=if n∈s.names then s else⟨s.names++[n],s.consts⟩
def Nt.const(s:Nt)(v:aA):Nt:=if key v∈s.consts.map key then s else⟨s.names,s.consts++[v]⟩
def Nt.nameI(s:Nt)(n:List Nat):Nat:=gI n s.names
def Nt.constI(s:Nt)(v:aA):Nat:=gI (key v) (s.consts.map key)
def nG (op:Nat):Int × Int:=
 if op=1\/op=2 then(0,0)else if op=5 then(1,1)else if op=6 then(1,2)else if op=15\/op=16 then(2,2)else if op=18 then(3,3)
 else if op=3\/op=4\/op=17\/op=24\/op=25\/op=26 then(1,1)
 else if (7<=op/\op<=14)\/op=19\/op=20\/op=21\/op=23 then(2,2)else if op=22 then(3,3)else(1,0)
def fI(op:Nat)(v:aA)(n:Nat):Bool:=(decide (op≠1)||valid v)&&decide ((nG op).1<=n)&&decide ((n:Int)<=(nG op).2)
def dE(op:Nat)(name:List Nat)(v:aA)(n:Nat)(s:Nt):Nt × XIns:=
 if op=1 then(s.const key v,⟨1,s.constI key v,0⟩)
 else if op=2 then(s,⟨2,0,0⟩)
 else if op=3\/op=4\/op=5 then(s.name name,⟨op,s.nameI name,0⟩)
 else if op=6 then(s.name name,⟨6,s.nameI name,n⟩)
 else if op=21\/op=22\/op=23 then(s.name name,⟨8,s.nameI name,op⟩)
 else if op=19 then(s,⟨7,19,v.i⟩)
 else(s,⟨7,op,0⟩)
abbrev Tr1:=Nt->Nat->Nt × List XIns
def rF(n:Int):aA:=⟨1,⟨⟨false,[]⟩,⟨false,[]⟩⟩,n⟩
def kK(f g:Tr1)(skip:Nat)(truth:Int):Tr1:=fun s p=>
 ((g (f s p).1 (p+(f s p).2.length+1)).1.const key (rF truth),
  (f s p).2++⟨skip,((p+(f s p).2.length+1+(g (f s p).1 (p+(f s p).2.length+1)).2.length+2:Nat):Int),0⟩ ::
   ((g (f s p).1 (p+(f s p).2.length+1)).2++[⟨12,0,0⟩,⟨9,((p+(f s p).2.length+1+(g (f s p).1 (p+(f s p).2.length+1)).2.length+3:Nat):Int),0⟩,⟨1,(g (f s p).1 (p+(f s p).2.length+1)).1.constI key (rF truth),0⟩]))
def ifT (f g h:Tr1):Tr1:=fun s p=>
 ((h (g (f s p).1 (p+(f s p).2.length+1)).1 (p+(f s p).2.length+1+(g (f s p).1 (p+(f s p).2.length+1)).2.length+1)).1,
  (f s p).2++⟨10,((p+(f s p).2.length+1+(g (f s p).1 (p+(f s p).2.length+1)).2.length+1:Nat):Int),0⟩ ::
   ((g (f s p).1 (p+(f s p).2.length+1)).2++⟨9,((p+(f s p).2.length+1+(g (f s p).1 (p+(f s p).2.length+1)).2.length+1+(h (g (f s p).1 (p+(f s p).2.length+1)).1 (p+(f s p).2.length+1+(g (f s p).1 (p+(f s p).2.length+1)).2.length+1)).2.length:Nat):Int),0⟩ ::
    (h (g (f s p).1 (p+(f s p).2.length+1)).1 (p+(f s p).2.length+1+(g (f s p).1 (p+(f s p).2.length+1)).2.length+1)).2))
def uD:List Tr1->Tr1
 | [],s,_=>(s,[])
 | f::l,s,p=>((uD l (f s p).1 (p+(f s p).2.length)).1,(f s p).2++(uD l (f s p).1 (p+(f s p).2.length)).2)
def mI(op:Nat)(name:List Nat)(v:aA)(fs:List Tr1):Tr1:=fun s p=>
 if fI valid op v fs.length=false then(s,[⟨13,0,0⟩])
 else if op=15 then(match fs with | f::g::_=>kK key f g 10 0 s p | _=>(s,[]))
 else if op=16 then(match fs with | f::g::_=>kK key f g 11 1 s p | _=>(s,[]))
 else if op=18 then(match fs with | f::g::h::_=>ifT f g h s p | _=>(s,[]))
 else((dE key op name v fs.length (uD fs s p).1).1,(uD fs s p).2++[(dE key op name v fs.length (uD fs s p).1).2])
mutual
def vB:uA->Tr1
 | .mk op name v args=>mI key valid op name v (eC args)
def eC:List uA->List Tr1
 | []=>[]
 | x::l=>vB x::eC l
end
theorem zgi:∀l:List uA,(eC key valid l).length=l.length
 | []=>rfl
 | x::l=>by simp[eC,zgi l]
def trC:List jD->Nt->Nt × List (List XIns × List XIns)
 | [],s=>(s,[])
 | c::l,s=>((trC l (vB key valid c.then_ (vB key valid c.when_ s 0).1 0).1).1,((vB key valid c.when_ s 0).2,(vB key valid c.then_ (vB key valid c.when_ s 0).1 0).2)::(trC l (vB key valid c.then_ (vB key valid c.when_ s 0).1 0).1).2)
end
def popsE(i:XIns):Int:=
 if i.op=3\/i.op=4\/i.op=5\/i.op=12 then 1
 else if i.op=6 then i.b
 else if i.op=7 then(if i.a%256=17\/i.a%256=24\/i.a%256=25\/i.a%256=26 then 1 else 2)
 else if i.op=8 then(if i.b=22 then 3 else 2)
 else 0
inductive Stp (code:List XIns) (bit:Nat->Bool):Nat->Int->Nat->Int->Prop
 | jump {p q:Nat} {d:Int} {i:XIns}:code[p]?=some i->i.op=9->i.a=(q:Int)->p<q->q<=code.length->Stp code bit p d q d
 | cond {p q:Nat} {d:Int} {i:XIns}:code[p]?=some i->(i.op=10\/i.op=11)->(if bit p=true then i.a else(p:Int)+1)=(q:Int)->p<q->q<=code.length->1<=d->Stp code bit p d q (d-1)
 | op {p:Nat} {d:Int} {i:XIns}:code[p]?=some i->i.op<9\/(11<i.op/\i.op<255)->popsE i<=d->Stp code bit p d (p+1) (d+(1-popsE i))
inductive Way (code:List XIns) (bit:Nat->Bool):Nat->Int->Nat->Int->Prop
 | nil {p:Nat} {d:Int}:Way code bit p d p d
 | cons {p q r:Nat} {d e f:Int}:Stp code bit p d q e->Way code bit q e r f->Way code bit p d r f
section
variable {key:aA->List Nat}{valid:aA->Bool}{code:List XIns}{bit:Nat->Bool}
end
end Go.Am
namespace Go.Am
open Go Go.RowKit
structure lD where
 blks:List Nat
 ok:Tr jA->Tr jA->Prop
 keep:∀ {tf t tf' t':Tr jA},ok tf t->cA tf tf'->(∀k∈blks,t'.get k=t.get k/\tf'.get k=none)->ok tf' t'
 live:∀ {tf t:Tr jA},ok tf t->∀k∈blks,∃y,t.get k=some y
structure Objs (base:Nat) (tf t:Tr jA) (l:List lD):Prop where
 tle:cA tf t
 nodup:(l.flatMap lD.blks).Nodup
 ok:∀o∈l,o.ok tf t
 low:∀k∈l.flatMap lD.blks,base<=k/\tf.get k=none
def lE (v:zA):List Nat:=match v with | .slice b _ _ _=>[b] | _=>[]
theorem pL{v:zA}{k:Nat}:k∈lE v ↔ nJ v k:=by
 unfold lE nJ;split
 ·rename_i b o n c
  constructor
  ·intro h;rw[yce]at h;subst h;exact⟨_,_,_,rfl⟩
  ·rintro⟨o',n',c',e⟩;cases e;simp
 ·rename_i h
  constructor
  ·intro h;cases h
  ·rintro⟨o,n,c,e⟩;exact absurd e (h _ _ _ _)
def dD (b:Nat)(lo:Option Nat)(cs:List zA):lD where
 blks:=[b]
 ok:=fun _ t=>xD t b lo cs
 keep:=fun h _ k=>h.off (k b (by simp)).1
 live:=fun h k hk=>by rw[yce]at hk;subst hk;obtain⟨c,hc,_⟩:=h;exact⟨_,hc⟩
def wE (b:Nat)(l:List (zA × zA)):lD where
 blks:=[b]
 ok:=fun _ t=>t.get b=some (.map l)
 keep:=fun h _ k=>by rw[(k b (by simp)).1];exact h
 live:=fun h k hk=>by rw[yce]at hk;subst hk;exact⟨_,h⟩
def aB(base sz:Nat)(l:List D)(v:zA):lD where
 blks:=lE v
 ok:=fun tf t=>Loose base tf t sz l v
 keep:=fun h hf k=>h.keep hf fun b hb=>k b (pL.2 hb)
 live:=fun h k hk=>(h.none (pL.1 hk)).2.2
section
variable {base:Nat}{tf t:Tr jA}{l A B:List lD}{o o':lD}
theorem Objs.live(h:Objs base tf t l){k:Nat}(hk:k∈l.flatMap lD.blks):∃y,t.get k=some y:=by
 obtain⟨o,ho,hk⟩:=List.mem_flatMap.1 hk
 exact o.live (h.ok o ho) k hk
theorem Objs.fresh(h:Objs base tf t l){n:Nat}(hn:t.get n=none):n∉l.flatMap lD.blks:=by
 intro hm;obtain⟨y,hy⟩:=h.live hm
 rw[hn]at hy;cases hy
theorem Objs.tfn(h:Objs base tf t l){n:Nat}(hn:t.get n=none):tf.get n=none:=by
 cases hq:tf.get n with
 | none=>rfl
 | some y=>have:=h.tle _ _ hq;rw[hn]at this;cases this
theorem Objs.keep(h:Objs base tf t l){tf' t':Tr jA}(hf:cA tf tf')(ht:cA tf' t')(hk:∀k∈l.flatMap lD.blks,t'.get k=t.get k/\tf'.get k=none):Objs base tf' t' l:=
 ⟨ht,h.nodup,fun o ho=>o.keep (h.ok o ho) hf fun k hk'=>hk k (List.mem_flatMap.2 ⟨o,ho,hk'⟩),fun k hk'=>⟨(h.low k hk').1,(hk k hk').2⟩⟩
theorem Objs.junk(h:Objs base tf t l){n:Nat}{t':Tr jA}(hn:t.get n=none)(ho:kD n t t'):Objs base tf t' l:=
 h.keep (cA.refl _) (h.tle.off (h.tfn hn) ho) fun k hk=>⟨ho k (fun e:k=n=>h.fresh hn (e ▸ hk)),(h.low k hk).2⟩
theorem Objs.other(h:Objs base tf t l){n:Nat}{t':Tr jA}(hn:n∉l.flatMap lD.blks)(hf:tf.get n=none)(ho:kD n t t'):Objs base tf t' l:=
 h.keep (cA.refl _) (h.tle.off hf ho) fun k hk=>⟨ho k (fun e:k=n=>hn (e ▸ hk)),(h.low k hk).2⟩
theorem Objs.froze(h:Objs base tf t l){n:Nat}{y:jA}(hn:n∉l.flatMap lD.blks)(hy:t.get n=some y)(hf:tf.get n=none):Objs base (tf.set n y) t l/\cA tf (tf.set n y):=by
 have h1:=(sJ (t:=tf) hf y).1
 refine⟨h.keep h1 (fun k u hk=>?_) fun k hk=>⟨rfl,?_⟩,h1⟩
 ·rw[Tr.get_set]at hk
  split at hk
  ·rename_i e;subst e;cases hk;exact hy
  ·exact h.tle _ _ hk
 ·rw[Tr.get_set,if_neg (fun e:k=n=>hn (e ▸ hk))];exact(h.low k hk).2
theorem dS:(A++o::B).flatMap lD.blks=A.flatMap lD.blks++(o.blks++B.flatMap lD.blks):=by simp
theorem Objs.upd(h:Objs base tf t (A++o::B)){t':Tr jA}(hk:∀k,k∉o.blks->k∉o'.blks->t'.get k=t.get k)(hn:∀k∈o'.blks,k∈o.blks\/(t.get k=none/\base<=k))(hok:o'.ok tf t')(hnd:o'.blks.Nodup)(ht:cA tf t'):Objs base tf t' (A++o'::B):=by
 have hd:=h.nodup
 rw[dS]at hd;rw[List.nodup_append]at hd;obtain⟨d1,d2,d3⟩:=hd
 rw[List.nodup_append]at d2;obtain⟨d4,d5,d6⟩:=d2
 have oth:∀k,k∈A.flatMap lD.blks\/k∈B.flatMap lD.blks->k∉o.blks/\k∉o'.blks/\t'.get k=t.get k/\base<=k/\tf.get k=none:=by
  intro k hk';have hm:k∈(A++o::B).flatMap lD.blks:=by rw[dS];simp only[List.mem_append];rcases hk' with h | h<;>simp[h]
  have h1:k∉o.blks:=fun hc=>by
   rcases hk' with h' | h'
   ·exact d3 k h' k (by simp[hc]) rfl
   ·exact d6 k hc k h' rfl
  have h2:k∉o'.blks:=fun hc=>by
   rcases hn k hc with h' | h'
   ·exact h1 h'
   ·obtain⟨y,hy⟩:=h.live hm
    rw[h'.1]at hy;cases hy
  exact⟨h1,h2,hk k h1 h2,h.low k hm⟩
 have mem:∀k,k∈(A++o'::B).flatMap lD.blks->(k∈A.flatMap lD.blks\/k∈B.flatMap lD.blks)\/k∈o'.blks:=by
  intro k hk';rw[dS]at hk'
  simp only[List.mem_append]at hk'
  rcases hk' with h | h | h
  ·exact .inl (.inl h)
  ·exact .inr h
  ·exact .inl (.inr h)
 refine⟨ht,?_,fun p hp=>?_,fun k hk'=>?_⟩
 ·rw[dS,List.nodup_append]
  refine⟨d1,?_,fun x hx y hy e=>?_⟩
  ·rw[List.nodup_append]
   exact⟨hnd,d5,fun x hx y hy e=>(oth y (.inr hy)).2.1 (e ▸ hx)⟩
  ·subst e
   rcases List.mem_append.1 hy with h' | h'
   ·exact(oth x (.inl hx)).2.1 h'
   ·exact d3 x hx x (by simp[h']) rfl
 ·have hp':p∈A\/p=o'\/p∈B:=by simpa using hp
  rcases hp' with h' | h' | h'
  ·exact p.keep (h.ok p (by simp[h'])) (cA.refl _) fun k hk'=>by
    obtain⟨_,_,e,_,f⟩:=oth k (.inl (List.mem_flatMap.2 ⟨p,h',hk'⟩));exact⟨e,f⟩
  ·subst h';exact hok
  ·exact p.keep (h.ok p (by simp[h'])) (cA.refl _) fun k hk'=>by
    obtain⟨_,_,e,_,f⟩:=oth k (.inr (List.mem_flatMap.2 ⟨p,h',hk'⟩));exact⟨e,f⟩
 ·rcases mem k hk' with h' | h'
  ·obtain⟨_,_,_,e,f⟩:=oth k h';exact⟨e,f⟩
  ·rcases hn k h' with h'' | h''
   ·exact h.low k (by rw[dS];simp[h''])
   ·exact⟨h''.2,h.tfn h''.1⟩
def z0e:lD:=⟨[],fun _ _=>True,fun _ _ _=>trivial,fun _ _ h=>by cases h⟩
theorem Objs.add(h:Objs base tf t (A++B)){t':Tr jA}(hk:∀k,k∉o'.blks->t'.get k=t.get k)(hn:∀k∈o'.blks,t.get k=none/\base<=k)(hok:o'.ok tf t')(hnd:o'.blks.Nodup)(ht:cA tf t'):Objs base tf t' (A++o'::B):=by
 have e:Objs base tf t (A++z0e::B):=by
  have hm:(A++z0e::B).flatMap lD.blks=(A++B).flatMap lD.blks:=by simp[z0e]
  refine⟨h.tle,by rw[hm];exact h.nodup,fun o ho=>?_,fun k hk=>h.low k (by rw[hm]at hk;exact hk)⟩
  have:o∈A\/o=z0e\/o∈B:=by simpa using ho
  rcases this with h' | h' | h'
  ·exact h.ok o (by simp[h'])
  ·subst h';trivial
  ·exact h.ok o (by simp[h'])
 exact e.upd (fun k _ h2=>hk k h2) (fun k hk=>.inr (hn k hk)) hok hnd ht
theorem Objs.drop(h:Objs base tf t (A++o::B)):Objs base tf t (A++B):=by
 have hd:=h.nodup
 rw[dS]at hd;refine⟨h.tle,?_,fun p hp=>h.ok p (by rcases List.mem_append.1 hp with h | h<;>simp[h]),fun k hk=>h.low k (by rw[dS];rw[List.flatMap_append]at hk;rcases List.mem_append.1 hk with h | h<;>simp[h])⟩
 rw[List.flatMap_append];rw[List.nodup_append]at hd ⊢
 obtain⟨d1,d2,d3⟩:=hd
 rw[List.nodup_append]at d2;exact⟨d1,d2.2.1,fun x hx y hy e=>d3 x hx y (by simp[hy]) e⟩
theorem Objs.notin(h:Objs base tf t (A++o::B)){k:Nat}(hk:k∈o.blks):k∉(A++B).flatMap lD.blks:=by
 have hd:=h.nodup
 rw[dS,List.nodup_append]at hd;obtain⟨d1,d2,d3⟩:=hd
 rw[List.nodup_append]at d2;rw[List.flatMap_append];intro hm;rcases List.mem_append.1 hm with h' | h'
 ·exact d3 k h' k (by simp[hk]) rfl
 ·exact d2.2.2 k hk k h' rfl
theorem Objs.freezeL{sz:Nat}{m:List D}{v:zA}(h:Objs base tf t (A++aB base sz m v::B)):∃tf',cA tf tf'/\Objs base tf' t (A++B)/\oA tf' sz m v:=by
 have hl:Loose base tf t sz m v:=h.ok (aB base sz m v) (by simp)
 obtain⟨tf',h1,h2,h3,h4⟩:=hl.freeze h.tle
 refine⟨tf',h1,h.drop.keep h1 h2 fun k hk=>⟨rfl,?_⟩,h3⟩
 have hb:¬ nJ v k:=fun hb=>h.notin (o:=aB base sz m v) (pL.2 hb) hk
 rw[h4 k hb];exact(h.drop.low k hk).2
end
end Go.Am
namespace Go.Proofs
open Go Go.Am
variable [dC]
variable {t tf:Tr jA}
def _root_.Go.Am.XIns.d(i:XIns):D:=.st [.int .u8 i.op,.int .i64 i.a,.int .i64 i.b]
def _root_.Go.Am.XIns.cells(i:XIns):List zA:=[.int .u8 i.op,.int .i64 i.a,.int .i64 i.b]
theorem zoe{i:XIns}{cs:List zA}:RD t i.d cs ↔ cs=i.cells:=by
 unfold XIns.d XIns.cells;simp only[kI,zE,oE,gL];constructor
 ·rintro⟨cl,rfl,c,r,rfl,rfl,c',r',rfl,rfl,c'',r'',rfl,rfl,rfl⟩;rfl
 ·rintro rfl;exact⟨[[.int .u8 i.op],[.int .i64 i.a],[.int .i64 i.b]],rfl,_,_,rfl,rfl,_,_,rfl,rfl,_,_,rfl,rfl,rfl⟩
def uE:Nat->List (List Nat)->List (zA × zA)
 | _,[]=>[]
 | i,k::l=>(.str k,.int .i64 (i:Int))::uE (i+1) l
theorem zjs{a b:List Nat}:zjt (.str a) (.str b)=some (decide (a=b)):=by
 unfold zjt;simp only[zA.asIntK,zA.asStr,sA];congr 1
 cases h:eI a b with
 | true=>rw[decide_eq_true ((lO _ _).1 h)]
 | false=>rw[decide_eq_false (fun e=>by rw[(lO _ _).2 e]at h;cases h)]
theorem zf0{k:List Nat}:∀(l:List (List Nat)) (i:Nat),zhk (.str k) (uE i l)=some (if k∈l then some (.int .i64 ((i+gI k l:Nat):Int))else none)
 | [],i=>by simp[uE,zhk]
 | x::l,i=>by
  unfold uE zhk gI;rw[zjs,sA];by_cases h:k=x
  ·simp[h]
  ·simp only[h,decide_false,cond_false,if_false,yat,false_or]
   rw[zf0 l (i+1)]
   rw[show i+1+gI k l=i+(gI k l+1) by omega]
theorem zbc{k:List Nat}:∀(l:List (List Nat)) (i:Nat),k∉l->rR (.str k) (.int .i64 ((i+l.length:Nat):Int)) (uE i l)=some (uE i (l++[k]))
 | [],i,_=>by simp[uE,rR]
 | x::l,i,h=>by
  simp only[List.cons_append,uE];unfold rR;rw[zjs,sA];have h1:k≠x:=fun e=>h (e ▸ yaz)
  have:=zbc l (i+1) (fun m=>h (yas _ m))
  simp only[h1,decide_false,cond_false];rw[yao,show i+(l.length+1)=i+1+l.length by omega,this,sA]
structure TR where
 b:Nat
 pl:List zA
 vn:zA
 vc:zA
 vw:zA
 vt:zA
 vk:zA
 m1:Nat
 m2:Nat
def TR.kp(r:TR):List zA × zA × zA:=(r.pl,r.vw,r.vt)
structure kE where
 names:List (List Nat)
 consts:List aA
 ws:List D
 ts:List D
 code:List XIns
abbrev bs:Nat:=yA.base
def TR.cells(r:TR):List zA:=r.pl++[r.vn,r.vc,r.vw,r.vt,.map r.m1,.map r.m2,r.vk]
def tsL (key:aA->List Nat)(r:TR)(s:kE):List lD:=
 [dD r.b none r.cells,wE r.m1 (uE 0 s.names),wE r.m2 (uE 0 (s.consts.map key)),aB yA.base 1 (s.names.map D.str) r.vn,aB yA.base 6 (s.consts.map aA.d) r.vc,aB yA.base 1 s.ws r.vw,aB yA.base 1 s.ts r.vt,aB yA.base 3 (s.code.map XIns.d) r.vk]
structure TS (key:aA->List Nat) (tf t:Tr jA) (r:TR) (s:kE):Prop where
 pl:r.pl.length=4
 os:Objs yA.base tf t (tsL key r s)
section
variable {key:aA->List Nat}{r:TR}{s:kE}
theorem TS.cel(h:TS key tf t r s):xD t r.b none r.cells:=h.os.ok (dD r.b none r.cells) (by simp[tsL])
theorem TS.map1(h:TS key tf t r s):t.get r.m1=some (.map (uE 0 s.names)):=h.os.ok (wE r.m1 (uE 0 s.names)) (by simp[tsL])
theorem TS.map2(h:TS key tf t r s):t.get r.m2=some (.map (uE 0 (s.consts.map key))):=h.os.ok (wE r.m2 (uE 0 (s.consts.map key))) (by simp[tsL])
theorem TS.ln(h:TS key tf t r s):Loose yA.base tf t 1 (s.names.map D.str) r.vn:=h.os.ok (aB yA.base 1 (s.names.map D.str) r.vn) (by simp[tsL])
theorem TS.lc(h:TS key tf t r s):Loose yA.base tf t 6 (s.consts.map aA.d) r.vc:=h.os.ok (aB yA.base 6 (s.consts.map aA.d) r.vc) (by simp[tsL])
theorem TS.lk(h:TS key tf t r s):Loose yA.base tf t 3 (s.code.map XIns.d) r.vk:=h.os.ok (aB yA.base 3 (s.code.map XIns.d) r.vk) (by simp[tsL])
theorem TS.baseB(h:TS key tf t r s):yA.base<=r.b/\tf.get r.b=none:=h.os.low r.b (by simp[tsL,dD])
theorem TS.inB{key:aA->List Nat}{r:TR}{s:kE}:r.b∈(tsL key r s).flatMap lD.blks:=by simp[tsL,dD]
theorem TS.junk(h:TS key tf t r s){n:Nat}{t':Tr jA}(hn:t.get n=none)(ho:kD n t t'):TS key tf t' r s:=⟨h.pl,h.os.junk hn ho⟩
theorem TS.other(h:TS key tf t r s){n:Nat}{t':Tr jA}(hn:n∉(tsL key r s).flatMap lD.blks)(hf:tf.get n=none)(ho:kD n t t'):TS key tf t' r s:=⟨h.pl,h.os.other hn hf ho⟩
theorem TS.fresh(h:TS key tf t r s){n:Nat}(hn:t.get n=none):n∉(tsL key r s).flatMap lD.blks:=h.os.fresh hn
theorem TS.froze(h:TS key tf t r s){n:Nat}{y:jA}(hn:n∉(tsL key r s).flatMap lD.blks)(hy:t.get n=some y)(hf:tf.get n=none):TS key (tf.set n y) t r s/\cA tf (tf.set n y):=⟨⟨h.pl,(h.os.froze hn hy hf).1⟩,(h.os.froze hn hy hf).2⟩
theorem zc3{p:List zA}(h:p.length=4){l:List zA}{k:Nat}:(p++l)[4+k]?=l[k]?:=by
 rw[yaq (by omega)];congr 1;omega
theorem lS{p:List zA}(h:p.length=4){l:List zA}{k:Nat}{v:zA}:(p++l).set (4+k) v=p++l.set k v:=by
 rw[List.set_append_right _ _ (by omega)];congr 1;congr 1;omega
theorem TS.ldN(h:TS key tf t r s):mA yA 30 ⟨0,t⟩ (.ptr r.b 4)=some r.vn:=h.cel.load1 z4l rfl (zc3 (k:=0) h.pl)
theorem TS.ldC(h:TS key tf t r s):mA yA 31 ⟨0,t⟩ (.ptr r.b 5)=some r.vc:=h.cel.load1 z2e rfl (zc3 (k:=1) h.pl)
theorem TS.ldM1(h:TS key tf t r s):mA yA 107 ⟨0,t⟩ (.ptr r.b 8)=some (.map r.m1):=h.cel.load1 zy5 rfl (zc3 (k:=4) h.pl)
theorem TS.ldM2(h:TS key tf t r s):mA yA 107 ⟨0,t⟩ (.ptr r.b 9)=some (.map r.m2):=h.cel.load1 zy5 rfl (zc3 (k:=5) h.pl)
theorem TS.ldK(h:TS key tf t r s):mA yA 37 ⟨0,t⟩ (.ptr r.b 10)=some r.vk:=h.cel.load1 zrw rfl (zc3 (k:=6) h.pl)
end
theorem za3{b:Nat}:pB yA 109 3 (.ptr b 0)=some (.ptr b 10):=by kernel_rfl
theorem nO{b:Nat}:pB yA 109 0 (.ptr b 0)=some (.ptr b 0):=by kernel_rfl
theorem z6y{b:Nat}:pB yA 109 1 (.ptr b 0)=some (.ptr b 8):=by kernel_rfl
theorem z6x{b:Nat}:pB yA 109 2 (.ptr b 0)=some (.ptr b 9):=by kernel_rfl
theorem zdw{b:Nat}:pB yA 34 1 (.ptr b 0)=some (.ptr b 4):=by kernel_rfl
theorem zdv{b:Nat}:pB yA 34 2 (.ptr b 0)=some (.ptr b 5):=by kernel_rfl
theorem z30{b:Nat}:pB yA 34 3 (.ptr b 0)=some (.ptr b 6):=by kernel_rfl
theorem zxb{b:Nat}:pB yA 34 4 (.ptr b 0)=some (.ptr b 7):=by kernel_rfl
theorem xJ{b o:Nat}:fG (.ptr b o)=some (.ptr b o):=by kernel_rfl
theorem zn1{d b o:Nat}:same d (.ptr b o) (.ptr b o)=true:=by
 have e:∀n,Nat.beq n n=true:=Nat.beq_refl
 cases d <;> (unfold Am.same;simp only[e,Bool.and_self])
end Go.Proofs
