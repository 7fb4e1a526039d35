/- difference, whole. -/
import Derived.Test.YthmbkdkibhffbaaGreatDoorE13
set_option linter.all false
noncomputable section
set_option maxRecDepth 100000
namespace Go.Proofs
open Go Go.Am
variable [cC]
variable {t:Tr lA}
theorem zxp{la lb:List Nat}{pa pb:zA}{b u v n:Nat}{t0:Tr lA}{Q:kB}(ha:oA t0 1 (pC .u32 la) pa)(hb:oA t0 1 (pC .u32 lb) pb)(hal:fB BB la)(hbl:fB BB lb)(hu:u<4294967296)(hv:v<4294967296)(hn:n<1000000)(hbase:yA.base<=b)(hb0:t0.get b=none)
  (hQ:∀t' W rv x z,dA t0 t'->oA t' 1 (pC .u32 (rF W)) rv->W.length=n->fB BB W->val BB W+BB^n*x+v*val BB (lb.take n)=u*val BB (la.take n)+BB^n*z->Q rv t') :
  ∀(k i x y bo:Nat) (t':Tr lA) (W:List Nat),i+k=n->dA t0 t'->wF t' b .u32 (W++List.replicate k 0)->W.length=i->fB BB W->x<=u->y<=v->bo<2->val BB W+BB^i*x+v*val BB (lb.take i)=u*val BB (la.take i)+BB^i*(y+bo) →
  jp 317 2 [.int .u64 (u:Int),pa,.int .u64 (v:Int),pb,.slice b 0 n n,.int .u64 (x:Int),.int .u64 (y:Int),.int .u32 (bo:Int),.int .i64 (n:Int),.int .i64 (i:Int)] t' Q:=by
 intro k;have hBB:=vL
 induction k with
 | zero=>
  intro i x y bo t' W hi ht ho hW hWl hx hy hbo hval;have hi':i=n:=by omega
  subst hi'
  have e3:oA t' 1 (pC .u32 W) (.slice b 0 i i):=by
   rw[List.replicate_zero,ybe]at ho;have:=ho.all (cap:=i) (by omega)
   rw[hW]at this;exact this
  obtain⟨rv,f1,f2⟩:=nT (by omega) e3
  refine z3g _ _ _ _ _ _ _ _ _ _ ?_
  simp only[zte,qA,dB];rw[if_neg (by omega)]
  simp only[q313,f1,xA];exact hQ t' W rv x (y+bo) ht f2 hW hWl hval
 | succ k ih=>
  intro i x y bo t' W hi ht ho hW hWl hx hy hbo hval;refine zrb (ha.mono ht) (hb.mono ht) hal hbl hu hv hx hy (by omega) ?_
  have wa:=zkk qH hal i
  have wb:=zkk qH hbl i
  have cx:=zpd hx wa
  have cy:=zpd hy wb
  have va:=aV BB la i
  have vb:=aV BB lb i
  generalize wd la i=ai at *
  generalize wd lb i=bi at *
  generalize hX:x+u*ai=X at *
  generalize hY:y+v*bi=Y at *
  have ex:vA .u32 (X:Int)=((X%4294967296:Nat):Int):=by rw[zN];omega
  have ey:vA .u32 (Y:Int)=((Y%4294967296:Nat):Int):=by rw[zN];omega
  have fx:Int.fdiv (X:Int) 4294967296=((X / 4294967296:Nat):Int):=uO X 4294967296
  have fy:Int.fdiv (Y:Int) 4294967296=((Y / 4294967296:Nat):Int):=uO Y 4294967296
  have hs:=zzb (t:=t') (x:=X%4294967296) (y:=Y%4294967296) (b:=bo) (ybz _ (by decide)) (ybz _ (by decide)) hbo
  obtain⟨w,hw⟩:∃w,w=(X%4294967296+8589934592-Y%4294967296-bo)%4294967296:=⟨_,rfl⟩
  obtain⟨bo',hbo'⟩:∃bo':Nat,bo'=if X%4294967296<Y%4294967296+bo then 1 else 0:=⟨_,rfl⟩
  rw[<- hw,<- hbo']at hs;have hwlt:w<BB:=by omega
  have hb2:bo'<2:=by rw[hbo'];split<;>omega
  have hsum:X%4294967296+4294967296*bo'=w+Y%4294967296+bo:=by
   rw[hw,hbo'];split<;>omega
  have g1:=zU pG (b:=b) (n:=n) (cap:=n) (j:=i) (by omega)
  obtain⟨t1,s1,s2,s3⟩:=ho.store (C:=yA) hbase (j:=i) (by simp;omega) w aG rfl
  have hset:=cX (p:=W) (n:=k) (x:=w)
  rw[hW]at hset;rw[hset]at s2;have ei:(i:Int)+1=((i+1:Nat):Int):=by omega
  refine z55 _ _ _ _ _ _ _ _ _ _ _ ?_
  simp only[ztd,qA,ex,ey,q342,hs,xA,bB,zA.asTup,sA,bD,yaa,yab,yB,g1,fx,fy,ei];intro _ _ _;rw[s1,xA,zC (by omega) (by omega)]
  rw[hBB]at cx cy;refine ih (i+1) (X / 4294967296) (Y / 4294967296) bo' t1 (W++[w]) (by omega) (ht.off hb0 s3) s2 (by simp[hW]) (aS hWl hwlt) cx cy hb2 ?_
  have hst:=zxo (B:=BB) (P:=BB^i) (ai:=ai) (bi:=bi) (x':=X / 4294967296) (y':=Y / 4294967296) (lx:=X%4294967296) (ly:=Y%4294967296) (w:=w) (bo':=bo') hval (by rw[hX,hBB];exact ybi _ _) (by rw[hY,hBB];exact ybi _ _) (by rw[hBB];exact hsum)
  rw[va,vb,eL,hW,Nat.pow_succ];exact hst
theorem lY{la lb:List Nat}{pa pb:zA}{u v:Nat}{Q:kB}(ha:oA t 1 (pC .u32 la) pa)(hb:oA t 1 (pC .u32 lb) pb)(hal:fB BB la)(hbl:fB BB lb)(hu:u<4294967296)(hv:v<4294967296)(hla:la.length<700000)(hlb:lb.length<700000)(hge:v*val BB lb<=u*val BB la)
  (hQ:∀t' r rv,dA t t'->oA t' 1 (pC .u32 r) rv->fB BB r->norm r->val BB r=u*val BB la-v*val BB lb->Q rv t') :
  Wc yA F 317 [.int .u64 (u:Int),pa,.int .u64 (v:Int),pb] t Q:=by
 have hBB:=vL
 refine w317 _ _ _ _ ?_
 simp only[t317,qA,ha.len,hb.len,xA,yB,xI];obtain⟨n,hn1,hn2,hn3,hn4⟩:∃n:Nat,(bif iB (la.length:Int) (lb.length:Int)then(lb.length:Int)else(la.length:Int))+1=(n:Int)/\la.length<n/\lb.length<n/\n<700002:=by
  cases hc:iB (la.length:Int) (lb.length:Int)with
  | true=>have:=dB.1 hc;exact⟨lb.length+1,by simp,by omega,by omega,by omega⟩
  | false=>
   have:¬ ((la.length:Int)<(lb.length:Int)):=fun h=>by rw[dB.2 h]at hc;cases hc
   exact⟨la.length+1,by simp,by omega,by omega,by omega⟩
 rw[hn1,zC (by omega) (by omega)]
 intro b hb0 hbase;obtain⟨t',g1,g2,g3,g4⟩:=bT (C:=yA) (k:=.u32) mO rfl aG rfl rfl (by decide) (n:=n) (by omega) hb0
 rw[g1];have el:vB (.slice b 0 n n)=some (.int .i64 (n:Int)):=rfl
 simp only[xA,el,yB];refine zxp ha hb hal hbl hu hv (by omega) hbase hb0 (fun t2 W rv x z k1 k2 k3 k4 k5=>?_) n 0 0 0 0 t' [] (by omega) g3 (by simpa using g2) rfl (fun x hx=>by cases hx) (by omega) (by omega) (by omega) (by simp[val])
 rw[ybb (by omega),ybb (by omega)]at k5
 have hP:u*val BB la<BB^n:=by
  have h1:=uM qH hal
  have h2:BB^(la.length+1)<=BB^n:=Nat.pow_le_pow_right qH (by omega)
  have h3:u*val BB la<=u*BB^la.length:=yaw _ (Nat.le_of_lt h1)
  have h4:u*BB^la.length<BB*BB^la.length:=Nat.mul_lt_mul_of_pos_right (by omega) (Nat.pow_pos qH)
  rw[Nat.pow_succ,yai _ BB]at h2;omega
 have hWl:=uM qH k4
 rw[k3]at hWl;have:=z1l k5 hWl hP hge
 exact hQ t2 (rF W) rv k1 k2 (mR k4) (tR _) (by rw[iP];exact this)
end Go.Proofs
namespace Go.Proofs
open Go Go.Am
variable [cC]
variable {t:Tr lA}
theorem z7f{v:zA}{l:List Nat}{b:Nat}(hv:oA t 1 (pC .u32 l) v)(hb:t.get b=none) :
  ∃H',zsh v ⟨b,t⟩=some (.ptr b 0,H')/\dA t H'.t/\jA yA 305 ⟨0,H'.t⟩ (.ptr b 0)=some v:=by
 have hc:v.cells=[v]:=by
  obtain⟨cl,h1,_⟩:=hv
  rcases h1 with⟨rfl,_⟩ | ⟨_,_,_,rfl,_⟩<;>rfl
 refine⟨nF ⟨b,t⟩ [v] none,by unfold zsh;rw[hc],?_,?_⟩
 ·intro c u hg
  show(t.set b _).get c=_
  rw[Tr.get_set,if_neg (by intro e;rw[e,hb]at hg;cases hg)];exact hg
 ·have hg:(nF ⟨b,t⟩ [v] none).t.get b=some (.cells (Tr.ofList [v]) 1 none):=by
   show(t.set b _).get b=_
   rw[Tr.get_set,if_pos rfl];rfl
  unfold jA;simp only[zA.asPtr,sA];rw[mO,sA];unfold rD;rw[hg,sA];simp only[lA.asCells,sA];unfold rN;first
   | rfl
   | (rw[cond_false,Tr.get_ofList];rfl)
theorem zkj{v:zA}{l:List Nat}{b i:Nat}(hv:oA t 1 (pC .u32 l) v)(hl:fB BB l)(hload:jA yA 305 ⟨0,t⟩ (.ptr b 0)=some v):sD yA F 361 [.int .i64 (i:Int),.ptr b 0] t=some (.int .u64 ((wd l i:Nat):Int)):=by
 have hBB:=vL
 refine oF.2 (w361 _ _ ?_)
 simp only[t361,qA,hload,xA,hv.len,yB,xI,nG];by_cases h:i<l.length
 ·obtain⟨x,hx⟩:=getElem?_of_lt h
  have hx32:x<4294967296:=by have:=iI hl hx;omega
  obtain⟨c,off,g1,g2⟩:=hv.idx pG hx
  rw[if_neg (by omega)]
  simp (disch:=omega) only[g1,g2,xA,yB,eF]
  have:wd l i=x:=by unfold wd;rw[hx];rfl
  rw[this];simp
 ·rw[if_pos (by omega)]
  have:wd l i=0:=by unfold wd;rw[List.getElem?_eq_none (by omega)];rfl
  rw[this];simp
theorem zww{v:zA}{l:List Nat}{n s:Nat}(hv:oA t 1 (pC .u32 l) v)(hl:fB BB l)(hn:3<=n)(hn2:n<1000000)(hs:s<32)(hb:(wd l (n-1)*4294967296+wd l (n-2))*2^s<18446744073709551616) :
  sD yA F 338 [v,.int .i64 (n:Int),.int .i64 (s:Int)] t=some (.int .u64 (((wd l (n-1)*4294967296+wd l (n-2))*2^s+wd l (n-3) / 2^(32-s):Nat):Int)):=by
 have hBB:=vL
 refine zij (w338 _ _ _ ?_)
 simp only[t338,qA];intro b hb0 _;obtain⟨H',g1,g2,g3⟩:=z7f hv hb0
 rw[g1,xA];have w1:=zkk qH hl (n-1)
 have w2:=zkk qH hl (n-2)
 have w3:=zkk qH hl (n-3)
 have c1:=zkj (i:=n-1) (hv.mono g2) hl g3
 have c2:=zkj (i:=n-2) (hv.mono g2) hl g3
 have c3:=zkj (i:=n-3) (hv.mono g2) hl g3
 generalize wd l (n-1)=x1 at *
 generalize wd l (n-2)=x2 at *
 generalize wd l (n-3)=x3 at *
 have e1:(n:Int)-1=((n-1:Nat):Int):=by omega
 have e2:(n:Int)-2=((n-2:Nat):Int):=by omega
 have e3:(n:Int)-3=((n-3:Nat):Int):=by omega
 have e4:(32:Int)-(s:Int)=((32-s:Nat):Int):=by omega
 have f:∀a,wM (.func (.func 361) [] [.ptr b 0]) [a]=some (361,[a,.ptr b 0]):=fun _=>rfl
 have e5:(x1:Int)*4294967296=((x1*4294967296:Nat):Int):=by omega
 rw[f,xA,e1,zC (by omega) (by omega),q361,c1,xA,yB,xA,f,xA,e2,zC (by omega) (by omega),q361,c2,xA,yB,xA,e5,eF (by omega) (by omega),or32 (by omega) (by omega),xA,yB,xA,zoq (by omega) hb,xA,yB,xA,f,xA,e3,zC (by omega) (by omega),q361,c3,xA,yB,xA,e4,zC (by omega) (by omega),zop (by omega),xA,yB,xA]
 have hz:x3 / 2^(32-s)<2^s:=ybv (by rw[<- Nat.pow_add,show 32-s+s=32 by omega];omega)
 have hz2:(2:Nat)^s<=2^31:=Nat.pow_le_pow_right (by decide) (by omega)
 generalize x3 / 2^(32-s)=z at hz ⊢
 have ho:=zcc (a:=x1*4294967296+x2) (b:=z) (n:=s) hz
 generalize (x1*4294967296+x2)*2^s=h at hb ho ⊢
 have hz3:z<18446744073709551616:=by omega
 rw[vO (k:=.u64) (show h<kG .u64 from hb) (show z<kG .u64 from hz3),ho,xA,yB,xA]
 exact⟨rfl,g2⟩
end Go.Proofs
namespace Go.Proofs
open Go Go.Am
variable [cC]
variable {t:Tr lA}
theorem zga{A1 B1:Nat}{P:Nat->Nat->Nat->Nat->Nat->Nat->Nat->Nat->Bool->Prop}{Q:kB}(hA:A1<18446744073709551616)(hB:B1<18446744073709551616)
  (hstep:∀x y u0 u1 u2 v0 v1 v2 ev,P x y u0 u1 u2 v0 v1 v2 ev->0<y->v2<=y->v1+v2<=x-y->P y (x%y) u1 u2 (u1+x / y*u2) v1 v2 (v1+x / y*v2) (!ev))
  (hQ:∀x y u0 u1 u2 v0 v1 v2 ev,P x y u0 u1 u2 v0 v1 v2 ev->Q (.agg [.int .u64 (u0:Int),.int .u64 (u1:Int),.int .u64 (v0:Int),.int .u64 (v1:Int),.bool ev]) t) :
  ∀(y x u0 u1 u2 v0 v1 v2:Nat) (ev:Bool) (c0 c1 c2 c3:Int) (c4:Bool),P x y u0 u1 u2 v0 v1 v2 ev->A1=v2*x+v1*y->B1=u2*x+u1*y->y<=x->1<=v2->v1<=v2 →
  jp 315 2 [.int .u64 (x:Int),.int .u64 (y:Int),.int .u64 (u2:Int),.int .u64 (v2:Int),.int .u64 c0,.int .u64 c1,.int .u64 c2,.int .u64 c3,.bool c4,.int .u64 (u0:Int),.int .u64 (u1:Int),.int .u64 (v0:Int),.int .u64 (v1:Int),.bool ev] t Q:=by
 intro y;induction y using Nat.strongRecOn with
 | ind y ih=>
  intro x u0 u1 u2 v0 v1 v2 ev c0 c1 c2 c3 c4 hP hx hy hle h1 h12;refine j315_2 _ _ _ _ _ _ _ _ _ _ _ _ _ _ ?_
  simp only[z2n,qA,nG];by_cases g1:v2<=y
  ·rw[if_pos (by omega)]
   have hy0:0<y:=by omega
   have b1:v2*x<=A1:=by omega
   have b2:x<=A1:=Nat.le_trans (Nat.le_mul_of_pos_left x (by omega)) b1
   have b3:v2<4294967296:=by
    rcases Nat.lt_or_ge v2 4294967296 with h | h
    ·exact h
    ·exfalso
     have:4294967296*4294967296<=v2*x:=ycc h (by omega)
     omega
   have e1:vA .u64 ((v1:Int)+(v2:Int))=((v1+v2:Nat):Int):=by rw[eF (by omega) (by omega)];omega
   have e2:vA .u64 ((x:Int)-(y:Int))=((x-y:Nat):Int):=by rw[eF (by omega) (by omega)];omega
   rw[e1,e2];by_cases g2:v1+v2<=x-y
   ·rw[if_pos (by omega)]
    have hdm:=ybi x y
    have hmod:x%y<y:=ybz _ hy0
    have hq1:1<=x / y:=by
     rw[Nat.le_div_iff_mul_le hy0];omega
    have hxq:x / y<=x:=Nat.div_le_self _ _
    have e3:z0z .u64 (x:Int) (y:Int)=some (.int .u64 ((x / y:Nat):Int)):=zgv hy0 (by
     generalize x / y=q at hxq ⊢
     exact eF (by omega) (by omega))
    have e4:zru .u64 (x:Int) (y:Int)=some (.int .u64 ((x%y:Nat):Int)):=zbi hy0
    have hst:=hstep x y u0 u1 u2 v0 v1 v2 ev hP hy0 g1 g2
    generalize x / y=q at *
    generalize x%y=r at *
    have nA:A1=(v1+q*v2)*y+v2*r:=by
     rw[hx,<- hdm,yan,yap,yai y q,<- yak v2 q,yai v2 q];omega
    have nB:B1=(u1+q*u2)*y+u2*r:=by
     rw[hy,<- hdm,yan,yap,yai y q,<- yak u2 q,yai u2 q];omega
    have bv:v1+q*v2<=A1:=Nat.le_trans (Nat.le_mul_of_pos_right _ hy0) (by omega)
    have bu:u1+q*u2<=B1:=Nat.le_trans (Nat.le_mul_of_pos_right _ hy0) (by omega)
    have bq:v2<=q*v2:=Nat.le_mul_of_pos_left _ hq1
    have e5:vA .u64 ((v1:Int)+vA .u64 ((q:Int)*(v2:Int)))=((v1+q*v2:Nat):Int):=by
     rw[<- Int.natCast_mul];generalize q*v2=z at bv ⊢
     rw[eF (n:=(z:Int)) (by omega) (by omega),eF (by omega) (by omega)];omega
    have e6:vA .u64 ((u1:Int)+vA .u64 ((q:Int)*(u2:Int)))=((u1+q*u2:Nat):Int):=by
     rw[<- Int.natCast_mul];generalize q*u2=z at bu ⊢
     rw[eF (n:=(z:Int)) (by omega) (by omega),eF (by omega) (by omega)];omega
    rw[e3,xA,yB,xA,e4,xA,yB,xA,e5,e6];simp only[if_true];exact ih r hmod y u1 u2 (u1+q*u2) v1 v2 (v1+q*v2) (!ev) _ _ _ _ _ hst nA nB (by omega) (by omega) (by omega)
   ·rw[if_neg (by omega)]
    simp only[if_true];exact hQ x y u0 u1 u2 v0 v1 v2 ev hP
  ·rw[if_neg (by omega)]
   simp only[if_true];exact hQ x y u0 u1 u2 v0 v1 v2 ev hP
end Go.Proofs
namespace Go.Am
def Lrel (a b x y u1 u2 v1 v2:Nat)(ev:Bool):Prop:=
 match ev with
 | false=>u1*v2=u2*v1+1/\x+v1*b=u1*a/\y+u2*a=v2*b
 | true=>u2*v1=u1*v2+1/\x+u1*a=v1*b/\y+v2*b=u2*a
def Lst (u1 u2 v1 v2:Nat):Prop:=(u1=1/\v1=0/\u2=0)\/(u1<=v1/\u2<=v2/\1<=u2/\1<=v1)
def z2c(a b u0 u1 v0 v1:Nat)(ev:Bool):Prop:=∃x y,Lrel a b x y u0 u1 v0 v1 (!ev)/\v1<=y/\v0+v1<=x-y/\u0<=v0/\u1<=v1/\1<=u1/\1<=v0/\v0<=v1
def Lsim (a b x y u0 u1 u2 v0 v1 v2:Nat)(ev:Bool):Prop:=Lrel a b x y u1 u2 v1 v2 ev/\1<=v2/\v1<=v2/\Lst u1 u2 v1 v2/\(v0=0\/z2c a b u0 u1 v0 v1 ev)
theorem zyp(a b:Nat):Lsim a b a b 0 1 0 0 0 1 false:=⟨⟨by simp,by simp,by simp⟩,yal _,by omega,.inl ⟨rfl,rfl,rfl⟩,.inl rfl⟩
theorem zyo{a b x y u0 u1 u2 v0 v1 v2:Nat}{ev:Bool}(h:Lsim a b x y u0 u1 u2 v0 v1 v2 ev)(hy:0<y)(h1:v2<=y)(h2:v1+v2<=x-y) :
  Lsim a b y (x%y) u1 u2 (u1+x / y*u2) v1 v2 (v1+x / y*v2) (!ev):=by
 obtain⟨k1,k2,k5,k3,k4⟩:=h
 have hq:1<=x / y:=by rw[Nat.le_div_iff_mul_le hy];omega
 have hdm:=ybi x y
 generalize x / y=q at *
 generalize x%y=r at *
 have hv2:v2<=q*v2:=Nat.le_mul_of_pos_left _ hq
 have hu2:u2<=q*u2:=Nat.le_mul_of_pos_left _ hq
 refine⟨?_,by omega,by omega,?_,?_⟩
 ·cases ev with
  | false=>
   obtain⟨m1,m2,m3⟩:=k1
   refine⟨?_,m3,?_⟩
   ·rw[yap,yan,m1]
    have:q*u2*v2=u2*(q*v2):=by rw[yai q u2,yak]
    omega
   ·-- r+(v1+q v2) b=(u1+q u2) a
    show r+(v1+q*v2)*b=(u1+q*u2)*a
    have e:q*(y+u2*a)=q*(v2*b):=by rw[m3]
    rw[yan,<- yak,<- yak,yai q y]at e;rw[yap,yap];omega
  | true=>
   obtain⟨m1,m2,m3⟩:=k1
   refine⟨?_,m3,?_⟩
   ·show u2*(v1+q*v2)=(u1+q*u2)*v2+1
    rw[yap,yan,m1];have:q*u2*v2=u2*(q*v2):=by rw[yai q u2,yak]
    omega
   ·show r+(u1+q*u2)*a=(v1+q*v2)*b
    have e:q*(y+v2*b)=q*(u2*a):=by rw[m3]
    rw[yan,<- yak,<- yak,yai q y]at e;rw[yap,yap];omega
 ·right
  rcases k3 with⟨e1,e2,e3⟩ | ⟨g1,g2,g3,g4⟩
  ·subst e1 e2 e3
   refine⟨by omega,?_,by omega,by omega⟩
   simp only[Nat.mul_zero,yax,ybu];omega
  ·have:=yaw q g2
   exact⟨g2,by omega,by omega,by omega⟩
 ·rcases k3 with⟨e1,e2,e3⟩ | ⟨g1,g2,g3,g4⟩
  ·exact .inl e2
  ·right
   exact⟨x,y,by rw[Bool.not_not];exact k1,h1,h2,g1,g2,g3,g4,k5⟩
end Go.Am
namespace Go.Am
theorem pY{p q r s A B X Y:Nat}(hdet:p*s=q*r+1)(hX:X+r*B=p*A)(hY:Y+q*A=s*B):A=s*X+r*Y/\B=q*X+p*Y:=by
 have a1:s*(X+r*B)=s*(p*A):=by rw[hX]
 have a2:r*(Y+q*A)=r*(s*B):=by rw[hY]
 have a3:q*(X+r*B)=q*(p*A):=by rw[hX]
 have a4:p*(Y+q*A)=p*(s*B):=by rw[hY]
 have d1:p*s*A=q*r*A+A:=by rw[hdet,yap,Nat.one_mul]
 have d2:p*s*B=q*r*B+B:=by rw[hdet,yap,Nat.one_mul]
 have e1:s*(p*A)=p*s*A:=by rw[<- yak,yai s p]
 have e2:r*(q*A)=q*r*A:=by rw[<- yak,yai r q]
 have e3:s*(r*B)=r*(s*B):=Nat.mul_left_comm _ _ _
 have e4:q*(p*A)=p*(q*A):=Nat.mul_left_comm _ _ _
 have e5:q*(r*B)=q*r*B:=(yak _ _ _).symm
 have e6:p*(s*B)=p*s*B:=(yak _ _ _).symm
 rw[yan]at a1 a2 a3 a4;constructor<;>omega
theorem zi1{p q r s a b A B W α β x y:Nat}(hx:x+r*b=p*a)(hy:y+q*a=s*b)(hA:A=W*a+α)(hB:B=W*b+β)(ha:α<W)(hb:β<W)(hrs:r+s<=x-y)(h1:1<=r+s)(hq:q<=y) :
  ∃X Y,X+r*B=p*A/\Y+q*A=s*B/\Y<X:=by
 obtain⟨D,hD⟩:∃D,x=y+D:=⟨x-y,by omega⟩
 have w1:p*A=W*x+r*(W*b)+p*α:=by
  rw[hA,yan,Nat.mul_left_comm p W,<- hx,yan,Nat.mul_left_comm W r]
 have w2:r*B=r*(W*b)+r*β:=by rw[hB,yan]
 have w3:s*B=W*y+q*(W*a)+s*β:=by
  rw[hB,yan,Nat.mul_left_comm s W,<- hy,yan,Nat.mul_left_comm W q]
 have w4:q*A=q*(W*a)+q*α:=by rw[hA,yan]
 have i1:r*β<=W*D:=by
  rw[yai W D];exact ycc (by omega) (by omega)
 have i2:q*α<=W*y:=by
  rw[yai W y];exact ycc hq (by omega)
 have i3:(r+s)*β<W*D:=by
  have h2:(r+s)*β<(r+s)*W:=Nat.mul_lt_mul_of_pos_left hb (by omega)
  have h3:(r+s)*W<=D*W:=yaj _ (by omega)
  rw[yai W D];omega
 have w5:W*x=W*y+W*D:=by rw[hD,yan]
 rw[yap]at i3;exact⟨p*A-r*B,s*B-q*A,by omega,by omega,by omega⟩
theorem lehmer{a b A B W α β u0 u1 v0 v1:Nat}{ev:Bool}(hA:A=W*a+α)(hB:B=W*b+β)(ha:α<W)(hb:β<W)(h:z2c a b u0 u1 v0 v1 ev) :
  ∃X Y,(ev=true->X+v0*B=u0*A/\Y+u1*A=v1*B)/\(ev=false->X+u0*A=v0*B/\Y+v1*B=u1*A)/\Y<X/\A=v1*X+v0*Y/\B=u1*X+u0*Y/\X+Y<A+B:=by
 obtain⟨x,y,k1,k2,k3,k4,k5,k6,k7,_⟩:=h
 have fC:∀X Y:Nat,Y<X->A=v1*X+v0*Y->B=u1*X+u0*Y->X+Y<A+B:=by
  intro X Y g1 g2 g3;have j1:X<=v1*X:=Nat.le_mul_of_pos_left _ (by omega)
  have j2:X<=u1*X:=Nat.le_mul_of_pos_left _ (by omega)
  omega
 cases ev with
 | true=>
  obtain⟨m1,m2,m3⟩:=k1
  obtain⟨X,Y,g1,g2,g3⟩:=zi1 m2 m3 hA hB ha hb k3 (by omega) (by omega)
  obtain⟨d1,d2⟩:=pY m1 g1 g2
  exact⟨X,Y,fun _=>⟨g1,g2⟩,(fun h=>absurd h (by decide)),g3,d1,d2,fC X Y g3 d1 d2⟩
 | false=>
  obtain⟨m1,m2,m3⟩:=k1
  obtain⟨X,Y,g1,g2,g3⟩:=zi1 m2 m3 hB hA hb ha (by omega) (by omega) k2
  have m1':v0*u1=v1*u0+1:=by rw[yai v0 u1,yai v1 u0];exact m1
  obtain⟨d1,d2⟩:=pY m1' g1 g2
  exact⟨X,Y,(fun h=>absurd h (by decide)),fun _=>⟨g1,g2⟩,g3,d2,d1,fC X Y g3 d2 d1⟩
theorem zmy{a b u0 u1 v0 v1:Nat}{ev:Bool}(ha:a<18446744073709551616)(hb:b<18446744073709551616)(h:z2c a b u0 u1 v0 v1 ev):u0<4294967296/\u1<4294967296/\v0<4294967296/\v1<4294967296:=by
 obtain⟨x,y,k1,k2,k3,k4,k5,k6,k7,k8⟩:=h
 have key:a=v1*x+v0*y:=by
  cases ev with
  | true=>
   obtain⟨m1,m2,m3⟩:=k1
   exact(pY m1 m2 m3).1
  | false=>
   obtain⟨m1,m2,m3⟩:=k1
   have m1':v0*u1=v1*u0+1:=by rw[yai v0 u1,yai v1 u0];exact m1
   exact(pY m1' m2 m3).2
 have:v1<4294967296:=by
  rcases Nat.lt_or_ge v1 4294967296 with g | g
  ·exact g
  ·exfalso
   have:4294967296*4294967296<=v1*x:=ycc g (by omega)
   omega
 omega
end Go.Am
namespace Go.Am
theorem zy3{B:Nat}{l:List Nat}{m:Nat}(hl:l.length<=m+3):val B l=val B (l.take m)+B^m*(wd l m+B*(wd l (m+1)+B*wd l (m+2))):=by
 have h0:=aV B l m
 have h1:val B (l.take (m+2))=val B (l.take (m+1))+B^(m+1)*wd l (m+1):=aV B l (m+1)
 have h2:val B (l.take (m+3))=val B (l.take (m+2))+B^(m+2)*wd l (m+2):=aV B l (m+2)
 have p1:B^(m+1)=B^m*B:=Nat.pow_succ _ _
 have p2:B^(m+2)=B^m*B*B:=by rw[Nat.pow_succ,Nat.pow_succ]
 rw[ybb hl]at h2;rw[p1]at h1;rw[p2]at h2;rw[h2,h1,h0,yan (B^m),yan B,yan (B^m)]
 simp only[yak];omega
theorem zor{B p K m:Nat}{l:List Nat}(hB:B=p*K)(hp:0<p)(hB0:0<B)(hlt:fB B l)(hl:l.length<=m+3) :
  (wd l (m+2)*B+wd l (m+1))*K+wd l m / p=val B l / (B^m*p):=by
 have h1:=zy3 (B:=B) hl
 have h2:val B (l.take m)<B^m:=by
  have h:=uM hB0 (nR hlt m)
  exact Nat.lt_of_lt_of_le h (Nat.pow_le_pow_right hB0 (by simp;omega))
 have h3:val B l / B^m=wd l m+B*(wd l (m+1)+B*wd l (m+2)):=by
  rw[h1,Nat.add_mul_div_left _ _ (Nat.pow_pos hB0),Nat.div_eq_of_lt h2,yax]
 rw[<- Nat.div_div_eq_div_mul,h3];generalize wd l m=x
 have e:B*(wd l (m+1)+B*wd l (m+2))=p*(K*(wd l (m+2)*B+wd l (m+1))):=by
  rw[<- yak p,<- hB,yai (wd l (m+2)),Nat.add_comm]
 rw[e,Nat.add_mul_div_left _ _ hp,yai K,Nat.add_comm]
end Go.Am
namespace Go.Proofs
open Go Go.Am
variable [cC]
variable {t:Tr lA}
theorem zk8{la lb:List Nat}{pa pb:zA}{m top:Nat}{Q:kB}(ha:oA t 1 (pC .u32 la) pa)(hb:oA t 1 (pC .u32 lb) pb)(hal:fB BB la)(hbl:fB BB lb)(hla:la.length=m+3)(hm:m<700000)(hlb:lb.length<=m+3)(htop:la[m+2]?=some top)(ht0:0<top)(hle:val BB lb<=val BB la)
  (hQ:∀u0 u1 v0 v1 ev W,0<W->val BB la / W<18446744073709551616->val BB lb / W<18446744073709551616->(v0=0\/z2c (val BB la / W) (val BB lb / W) u0 u1 v0 v1 ev)->Q (.agg [.int .u64 (u0:Int),.int .u64 (u1:Int),.int .u64 (v0:Int),.int .u64 (v1:Int),.bool ev]) t) :
  Wc yA F 315 [pa,pb] t Q:=by
 have hBB:=vL
 have htlt:top<4294967296:=by have:=iI hal htop;omega
 obtain⟨s,hs,hs1,hs2,hs3⟩:=zvm (t:=t) htlt ht0
 obtain⟨c,off,g1,g2⟩:=ha.idx pG htop
 have hK:BB=2^(32-s)*2^s:=by rw[<- Nat.pow_add,show 32-s+s=32 by omega,hBB]
 have hp:0<2^(32-s):=Nat.pow_pos (by decide)
 have va:=zor hK hp qH hal (m:=m) (by omega)
 have vb:=zor hK hp qH hbl hlb
 have hW:0<BB^m*2^(32-s):=Nat.mul_pos (Nat.pow_pos qH) hp
 have hdiv:val BB lb / (BB^m*2^(32-s))<=val BB la / (BB^m*2^(32-s)):=Nat.div_le_div_right hle
 have hwt:wd la (m+2)=top:=by unfold wd;rw[htop];rfl
 have wa1:=zkk qH hal (m+1)
 have wa0:=zkk qH hal m
 have hz:wd la m / 2^(32-s)<2^s:=ybv (by rw[<- hK];exact wa0)
 rw[hBB]at va vb;have bigA:(wd la (m+2)*4294967296+wd la (m+1))*2^s+wd la m / 2^(32-s)<18446744073709551616:=by
  rw[hwt];have q1:top+1<=2^(32-s):=by
   have:top*2^s<2^(32-s)*2^s:=by rw[<- hK,hBB];exact hs2
   exact Nat.lt_of_mul_lt_mul_right this
  have q2:(top*4294967296+wd la (m+1))+1<=2^(32-s)*4294967296:=by
   have:=yaj 4294967296 q1
   omega
  have q3:=yaj (2^s) q2
  have q4:2^(32-s)*4294967296*2^s=18446744073709551616:=by
   have:2^(32-s)*2^s=4294967296:=by rw[<- hK,hBB]
   rw[Nat.mul_right_comm,this]
  rw[yap,Nat.one_mul]at q3;omega
 have hBB':∀l,val 4294967296 l=val BB l:=fun l=>by rw[hBB]
 have hPP:(4294967296:Nat)^m=BB^m:=by rw[hBB]
 rw[hBB',hPP]at va vb;have xE:(wd lb (m+2)*4294967296+wd lb (m+1))*2^s+wd lb m / 2^(32-s)<18446744073709551616:=by
  rw[va]at bigA;rw[vb];exact Nat.lt_of_le_of_lt hdiv bigA
 have h1:=zww (n:=m+3) (s:=s) ha hal (by omega) (by omega) hs (Nat.lt_of_le_of_lt (Nat.le_add_right _ _) bigA)
 have h2:=zww (n:=m+3) (s:=s) hb hbl (by omega) (by omega) hs (Nat.lt_of_le_of_lt (Nat.le_add_right _ _) xE)
 rw[show m+3-1=m+2 by omega,show m+3-2=m+1 by omega,show m+3-3=m by omega]at h1 h2;rw[va]at h1 bigA;rw[vb]at h2 xE;generalize hw:BB^m*2^(32-s)=W at *
 have e1:((m+3:Nat):Int)-1=((m+2:Nat):Int):=by omega
 refine w315 _ _ ?_
 simp only[t315,qA,ha.len,xA,yB,xI,hla,e1];rw[zC (by omega) (by omega),g1,xA,g2,xA,yB,xA,q337,hs3,xA,yB,xA,q338,h1,xA,yB,xA,q338,h2,xA,yB,xA]
 simp only[if_true];exact zga (P:=Lsim (val BB la / W) (val BB lb / W)) bigA xE (fun x y u0 u1 u2 v0 v1 v2 ev hP hy k1 k2=>zyo hP hy k1 k2) (fun x y u0 u1 u2 v0 v1 v2 ev hP=>hQ u0 u1 v0 v1 ev W hW bigA xE hP.2.2.2.2) _ _ 0 1 0 0 0 1 false 0 0 0 0 false (zyp _ _) (by omega) (by omega) hdiv (by omega) (by omega)
end Go.Proofs
namespace Go.Am
theorem zw4{A B X Y u0 u1 v0 v1:Nat}{ev:Bool}(h1:ev=true->X+v0*B=u0*A/\Y+u1*A=v1*B)(h2:ev=false->X+u0*A=v0*B/\Y+v1*B=u1*A)(hA:A=v1*X+v0*Y)(hB:B=u1*X+u0*Y):Nat.gcd X Y=Nat.gcd A B:=by
 have gX:=Nat.gcd_dvd_left X Y
 have gY:=Nat.gcd_dvd_right X Y
 have gA:=Nat.gcd_dvd_left A B
 have gB:=Nat.gcd_dvd_right A B
 refine Nat.dvd_antisymm (Nat.dvd_gcd ?_ ?_) (Nat.dvd_gcd ?_ ?_)
 ·generalize Nat.gcd X Y=g at *
  rw[hA];exact Nat.dvd_add (ybf gX _) (ybf gY _)
 ·generalize Nat.gcd X Y=g at *
  rw[hB];exact Nat.dvd_add (ybf gX _) (ybf gY _)
 ·generalize Nat.gcd A B=g at *
  cases ev with
  | true=>
   have:=(h1 rfl).1
   exact(Nat.dvd_add_left (ybf gB v0)).1 (this ▸ ybf gA u0)
  | false=>
   have:=(h2 rfl).1
   exact(Nat.dvd_add_left (ybf gA u0)).1 (this ▸ ybf gB v0)
 ·generalize Nat.gcd A B=g at *
  cases ev with
  | true=>
   have:=(h1 rfl).2
   exact(Nat.dvd_add_left (ybf gA u1)).1 (this ▸ ybf gB v1)
  | false=>
   have:=(h2 rfl).2
   exact(Nat.dvd_add_left (ybf gB v1)).1 (this ▸ ybf gA u1)
theorem zw5{a b q r:Nat}(h:a=b*q+r):Nat.gcd b r=Nat.gcd a b:=by
 subst h;rw[Nat.gcd_comm (b*q+r) b,yai,Nat.gcd_comm b (q*b+r),Nat.gcd_mul_right_add_left]
 exact Nat.gcd_comm _ _
theorem z6n{x y:Nat}:Nat.gcd y (x%y)=Nat.gcd x y:=by
 rw[Nat.gcd_comm y (x%y),<- Nat.gcd_rec,Nat.gcd_comm]
theorem zhx{B:Nat}{l:List Nat}(hB:0<B)(h:fB B l)(hl:l.length<=2):val B l<B*B:=by
 have h1:=uM hB h
 have h2:B^l.length<=B^2:=Nat.pow_le_pow_right hB hl
 rw[Nat.pow_two]at h2;omega
end Go.Am
namespace Go.Proofs
open Go Go.Am
variable [cC]
variable {t:Tr lA}
theorem aA{c:Prop}{d:Decidable c}{P Q:Prop}(h:c)(k:P):@ite Prop c d P Q:=by rw[if_pos h];exact k
theorem qC{c:Prop}{d:Decidable c}{P Q:Prop}(h:¬ c)(k:Q):@ite Prop c d P Q:=by rw[if_neg h];exact k
theorem zz1{C:iA}{F:Tr qB}{f:Nat}{g:List zA->pA->Option zA}(hg:C.prims.get f=some g){args:List zA}{v:zA}(h:∀X HA,Ov C.base t X HA->g args HA=some v):sD C F f args t=some v:=by
 refine oF.2 fun X HA ho=>?_
 unfold zmj;rw[hg];exact⟨v,t,HA,X,by simp only[h X HA ho,sA],ho,XLe.refl _,rfl,rfl⟩
theorem zl3{Q:kB}:∀(y x:Nat),x<18446744073709551616->y<18446744073709551616->(∀t' r rv,dA t t'->oA t' 1 (pC .u32 r) rv->fB BB r->norm r->val BB r=Nat.gcd x y->Q rv t')->jp 280 6 [.int .u64 (x:Int),.int .u64 (y:Int)] t Q:=by
 have hBB:=vL
 intro y;induction y using Nat.strongRecOn with
 | ind y ih=>
  intro x hx hy hQ;refine j280_6 _ _ ?_
  simp only[z2o,qA,lI];by_cases h0:y=0
  ·subst h0
   rw[if_neg (by simp)]
   simp only[q319];refine zzp hx fun t' v' h1 h2=>?_
   have a1:=zj9 hx
   have a2:=zpo x
   rw[<- hBB]at a1 a2;exact hQ t' (zer x) v' h1 h2 a1 (zll x) (by rw[a2,Nat.gcd_zero_right])
  ·rw[if_pos (by omega),zbi (by omega),xA,yB,xA]
   have hm:=ybz x (show 0<y by omega)
   have hg:=z6n (x:=x) (y:=y)
   generalize x%y=z at *
   exact ih z hm y hy (by omega) fun t' r rv k1 k2 k3 k4 k5=>hQ t' r rv k1 k2 k3 k4 (by rw[k5,hg])
theorem zvv{l:List Nat}{v:zA}(hv:oA t 1 (pC .u32 l) v)(hl:l.length<=2)(hlt:fB BB l):sD yA F 318 [v] t=some (.int .u64 ((val BB l:Nat):Int)):=by
 have hBB:=vL
 refine zz1 (g:=zu7) (by kernel_rfl) fun X HA ho=>?_
 obtain⟨cl,he,hd⟩:=hv
 have hcl:=hd.length
 rw[xI]at hcl;rcases he with⟨rfl,rfl⟩ | ⟨b,off,cap,rfl,_,⟨c,m,lo,hg,_⟩,he⟩
 ·have:l=[]:=ybd.1 (by simpa using hcl.symm)
  subst this;rfl
 ·have hg':=ho.up hg
  have hm:c.many cl.length off=some (l.map fun(n:Nat)=>zA.int .u32 (n:Int)):=by
   have h1:=ziw (c:=c) (sz:=1) cl off fun i cs hi=>by
    obtain⟨k1,c',m',lo',k2,k3⟩:=he i cs hi
    rw[hg]at k2;cases k2
    exact⟨k1,k3⟩
   rw[Nat.mul_one]at h1;rw[h1];congr 1
   have key:∀ {l:List Nat} {cl:List (List zA)},mC t (pC .u32 l) cl->cl.flatten=l.map fun(n:Nat)=>zA.int .u32 (n:Int):=by
    intro l;induction l with
    | nil=>intro cl h;simp only[pC,List.map_nil,gE]at h;subst h;rfl
    | cons a l ih=>
     intro cl h;simp only[pC,ybn,eD,fL]at h;obtain⟨x,y,rfl,rfl,h2⟩:=h
     rw[List.flatten_cons,ih h2];rfl
   exact key hd
  have u:∀ {x:Nat},x<4294967296->zkr (.int .u32 (x:Int))=some x:=fun {x} h=>by
   unfold zkr;have e1:dK (x:Int)=some x:=rfl
   simp only[zA.asIntK,sA];rw[jJ.2 rfl,dE,e1,sA,oC.2 h];rfl
  unfold zu7;simp only[zA.asSlice];rw[oC.2 (by omega),cond_true]
  unfold rD;rw[hg',sA];simp only[lA.asCells,sA];rw[hm,sA];match l,hl,hlt with
  | [],_,_=>rfl
  | [x],_,hlt=>
   have hx:=hlt x (by simp)
   simp only[ybn,List.map_nil,zlq,val];rw[u (by omega),sA]
   simp
  | [x,y],_,hlt=>
   have hx:=hlt x (by simp)
   have hy:=hlt y (by simp)
   simp only[ybn,List.map_nil,zlq,val];rw[u (by omega),u (by omega),sA,sA,hBB]
   simp
  | x::y::z::l,hl,_=>simp at hl
theorem zx2{la lb:List Nat}{pa pb:zA}{Q:kB}(ha:oA t 1 (pC .u32 la) pa)(hb:oA t 1 (pC .u32 lb) pb)(hal:fB BB la)(hbl:fB BB lb)(hla:la.length<=2)(hlb:lb.length<=2)
  (hQ:∀t' r rv,dA t t'->oA t' 1 (pC .u32 r) rv->fB BB r->norm r->val BB r=Nat.gcd (val BB la) (val BB lb)->Q rv t'):jp 280 33 [pa,pb] t Q:=by
 have hBB:=vL
 have b1:=zhx qH hal hla
 have b2:=zhx qH hbl hlb
 refine z57 _ _ ?_
 simp only[ztk,qA,q318,zvv ha hla hal,zvv hb hlb hbl,xA,yB];rw[hBB]at b1 b2;have hBB':∀l,val 4294967296 l=val BB l:=fun l=>by rw[hBB]
 rw[hBB']at b1 b2;exact zl3 _ _ b1 b2 hQ
theorem zx3{Q:kB}{t0:Tr lA}{G:Nat}(hQ:∀t' r rv,dA t0 t'->oA t' 1 (pC .u32 r) rv->fB BB r->norm r->val BB r=G->Q rv t'):∀(n:Nat) (la lb:List Nat) (pa pb:zA) (t:Tr lA),val BB la+val BB lb=n->dA t0 t->oA t 1 (pC .u32 la) pa->oA t 1 (pC .u32 lb) pb->fB BB la->fB BB lb->norm la->norm lb->val BB lb<=val BB la->la.length<700000->Nat.gcd (val BB la) (val BB lb)=G->jp 280 2 [pa,pb] t Q:=by
 have hBB:=vL
 have hB1:1<BB:=by omega
 intro n;induction n using Nat.strongRecOn with
 | ind n ih=>
  intro la lb pa pb t hn ht ha hb hal hbl han hbn hle hlen hg;have hlb:lb.length<=la.length:=fO hB1 hal hbn hle
  refine j280_2 _ _ ?_
  simp only[z2p,qA,hb.len,xA,yB,xI,dB];by_cases h2:2<lb.length
  ·rw[if_pos (by omega)]
   have hb0:lb≠[]:=by intro e;subst e;simp at h2
   have hbpos:0<val BB lb:=by
    rcases Nat.eq_zero_or_pos (val BB lb)with h | h
    ·exact absurd (zlm qH hbn h) hb0
    ·exact h
   obtain⟨m,hm⟩:∃m,la.length=m+3:=⟨la.length-3,by omega⟩
   obtain⟨top,htop⟩:=getElem?_of_lt (l:=la) (i:=m+2) (by omega)
   have ha0:la≠[]:=by intro e;subst e;simp at hm
   have ht0:0<top:=by
    have:=han ha0
    have hlast:la.getLast ha0=top:=by
     rw[List.getLast_eq_getElem];have:la[la.length-1]?=some top:=by rw[hm];exact htop
     rw[yae (by omega)]at this
     exact ybj this
    rw[hlast]at this;omega
   rw[q315];refine zk8 ha hb hal hbl hm (by omega) (by omega) htop ht0 hle fun u0 u1 v0 v1 ev W hW hA hB hL=>?_
   have eG:wG [(.int .u64 0),(.int .u64 0),(.int .u64 0),(.int .u64 0),(.bool false)] (.agg [.int .u64 (u0:Int),.int .u64 (u1:Int),.int .u64 (v0:Int),.int .u64 (v1:Int),.bool ev])=some (cellsOf [.int .u64 (u0:Int),.int .u64 (u1:Int),.int .u64 (v0:Int),.int .u64 (v1:Int),.bool ev]):=gL rfl
   rw[eG];simp only[xA,cellsOf,bF,lF,yaa,yab,if_true,hO];by_cases hv0:v0=0
   ·refine aA (jE.2 (by omega)) ?_
    rw[q316];refine zjp ha hb hlen hal hbl han hbn hb0 fun t' q r qv rv k1 k2 k3 k4 k5 k6 k7 k8 k9=>?_
    simp only[bB,zA.asTup,sA,bD,yaa,yab,xA];refine ih (val BB lb+val BB r) (by omega) lb r pb rv t' rfl (ht.trans k1) (hb.mono k1) k3 hbl k5 hbn k7 (by omega) (by omega) ?_
    rw[zw5 k8];exact hg
   ·refine qC (fun e=>absurd (jE.1 e) (by omega)) ?_
    rcases hL with h | hL
    ·exact absurd h hv0
    obtain⟨s1,s2,s3,s4⟩:=zmy hA hB hL
    have eA:val BB la=W*(val BB la / W)+val BB la%W:=(ybi _ _).symm
    have eB:val BB lb=W*(val BB lb / W)+val BB lb%W:=(ybi _ _).symm
    obtain⟨X,Y,l1,l2,l3,l4,l5,l6⟩:=lehmer eA eB (ybz _ hW) (ybz _ hW) hL
    have hgg:=zw4 l1 l2 l4 l5
    have hXA:X<=val BB la:=by
     have:X<=v1*X:=Nat.le_mul_of_pos_left _ (by
      obtain⟨x,y,_,_,_,_,_,_,w2,w3⟩:=hL;omega)
     omega
    cases ev with
    | true=>
     obtain⟨m1,m2⟩:=l1 rfl
     simp only[if_true];rw[q317];refine lY ha hb hal hbl s1 s3 hlen (by omega) (by omega) fun t1 r1 rv1 k1 k2 k3 k4 k5=>?_
     rw[q317];refine lY (hb.mono k1) (ha.mono k1) hbl hal s4 s2 (by omega) hlen (by omega) fun t2 r2 rv2 j1 j2 j3 j4 j5=>?_
     have e1:val BB r1=X:=by omega
     have e2:val BB r2=Y:=by omega
     refine ih (val BB r1+val BB r2) (by omega) r1 r2 rv1 rv2 t2 rfl (ht.trans (k1.trans j1)) (k2.mono j1) j2 k3 j3 k4 j4 (by omega) ?_ (by rw[e1,e2,hgg];exact hg)
     have:=fO hB1 hal k4 (by rw[e1];exact hXA)
     omega
    | false=>
     obtain⟨m1,m2⟩:=l2 rfl
     simp only[if_true,yar,if_false];rw[q317];refine lY hb ha hbl hal s3 s1 (by omega) hlen (by omega) fun t1 r1 rv1 k1 k2 k3 k4 k5=>?_
     rw[q317];refine lY (ha.mono k1) (hb.mono k1) hal hbl s2 s4 hlen (by omega) (by omega) fun t2 r2 rv2 j1 j2 j3 j4 j5=>?_
     have e1:val BB r1=X:=by omega
     have e2:val BB r2=Y:=by omega
     refine ih (val BB r1+val BB r2) (by omega) r1 r2 rv1 rv2 t2 rfl (ht.trans (k1.trans j1)) (k2.mono j1) j2 k3 j3 k4 j4 (by omega) ?_ (by rw[e1,e2,hgg];exact hg)
     have:=fO hB1 hal k4 (by rw[e1];exact hXA)
     omega
  ·rw[if_neg (by omega)]
   simp only[jE];by_cases h0:lb.length=0
   ·rw[if_pos (by omega)]
    have:lb=[]:=ybd.1 h0
    subst this;refine hQ t la pa ht ha hal han ?_
    rw[<- hg];simp only[val];rw[Nat.gcd_zero_right]
   ·rw[if_neg (by omega)]
    simp only[ha.len,xA,yB,xI,dB];have hb0:lb≠[]:=by intro e;subst e;simp at h0
    by_cases h3:2<la.length
    ·rw[if_pos (by omega),q316]
     refine zjp ha hb hlen hal hbl han hbn hb0 fun t' q r qv rv k1 k2 k3 k4 k5 k6 k7 k8 k9=>?_
     simp only[bB,zA.asTup,sA,bD,yaa,yab,xA];have:=fO hB1 hbl k7 (Nat.le_of_lt k9)
     refine zx2 (hb.mono k1) k3 hbl k5 (by omega) (by omega) fun t2 r2 rv2 j1 j2 j3 j4 j5=>?_
     exact hQ t2 r2 rv2 (ht.trans (k1.trans j1)) j2 j3 j4 (by rw[j5,zw5 k8];exact hg)
    ·rw[if_neg (by omega)]
     refine zx2 ha hb hal hbl (by omega) (by omega) fun t2 r2 rv2 j1 j2 j3 j4 j5=>?_
     exact hQ t2 r2 rv2 (ht.trans j1) j2 j3 j4 (by rw[j5];exact hg)
theorem cd_ok{la lb:List Nat}{pa pb:zA}{Q:kB}(ha:oA t 1 (pC .u32 la) pa)(hb:oA t 1 (pC .u32 lb) pb)(hal:fB BB la)(hbl:fB BB lb)(han:norm la)(hbn:norm lb)(hla:la.length<700000)(hlb:lb.length<700000)
  (hQ:∀t' r rv,dA t t'->oA t' 1 (pC .u32 r) rv->fB BB r->norm r->val BB r=Nat.gcd (val BB la) (val BB lb)->Q rv t'):Wc yA F 280 [pa,pb] t Q:=by
 have hBB:=vL
 have hB1:1<BB:=by omega
 have hlt:=zxz hB1 hal hbl han hbn
 refine w280 _ _ ?_
 simp only[t280,qA,q314,z33 (by omega) ha hb,xA,yB,dB]
 by_cases hc:wK la lb<0
 ·rw[if_pos hc]
  have:=hlt.1 hc
  exact zx3 hQ _ lb la pb pa t rfl (dA.refl _) hb ha hbl hal hbn han (by omega) hlb (Nat.gcd_comm _ _)
 ·rw[if_neg hc]
  have:val BB lb<=val BB la:=Nat.le_of_not_lt fun h=>hc (hlt.2 h)
  exact zx3 hQ _ la lb pa pb t rfl (dA.refl _) ha hb hal hbl han hbn this hla rfl
end Go.Proofs
namespace Go.Am
open Go Go.RowKit
section
variable {t tf:Tr lA}{C:iA}
theorem uJ{n:Nat}(hn:t.get n=none)(q:lA):dA t (t.set n q)/\oD n t (t.set n q):=
 ⟨fun c u hc=>by rw[Tr.get_set,if_neg (by intro e;rw[e,hn]at hc;cases hc)];exact hc,fun c hc=>by rw[Tr.get_set,if_neg hc]⟩
theorem zra{sz n:Nat}{cl:List (List zA)}{t':Tr lA}{lo:Option Nat}(hl:∀(i:Nat) cs,cl[i]?=some cs->cs.length=sz)(h:t'.get n=some (.cells (Tr.ofList cl.flatten) (wB cl.flatten) lo))(hlo:lo=none\/lo=some sz){k:Nat}(hk:cl.length=k):fG t' sz (.slice n 0 k k) cl:=by
 subst hk;exact mY hl h hlo
theorem bO{T el sz n:Nat}{y z:wD}{ps:List (Nat × zA)}{cl:List (List zA)}(hT:C.tys.get T=some y)(hel:y.desc.asSlice=some el)(hz:C.tys.get el=some z)(hs:z.size=sz)(h0:wB z.zero=sz)(hn:n*sz<1000000)
  (hfill:iM (fun i=>some (i*sz,sz)) ps (tJ z.zero n)=some cl.flatten) (hcl:∀(i:Nat) cs,cl[i]?=some cs->cs.length=sz) (hlen:cl.length=n) {b:Nat} (hb:t.get b=none) :
  ∃t',fE C T n ps ⟨b,t⟩=some (.slice b 0 n n,⟨b+1,t'⟩)/\fG t' sz (.slice b 0 n n) cl/\dA t t'/\oD b t t':=by
 refine⟨t.set b (.cells (Tr.ofList cl.flatten) (wB cl.flatten) none),?_,zra hcl (by rw[Tr.get_set,if_pos rfl]) (.inl rfl) hlen,(uJ hb _).1,(uJ hb _).2⟩
 unfold fE;rw[hT,sA,hel,sA,hz,sA];have:(Nat.blt (n*z.size) 1000000&&Nat.beq (wB z.zero) z.size)=true:=by
  rw[hs,h0,oC.2 hn,wC.2 rfl];rfl
 rw[this,dE,hs,hfill];rfl
def Loose(base:Nat)(tf t:Tr lA)(sz:Nat)(l:List D)(v:zA):Prop:=
 (v=.nilslice/\l=[])\/∃b cl c,v=.slice b 0 l.length l.length/\base<=b/\tf.get b=none/\t.get b=some (.cells c (l.length*sz) (some sz)) ∧
  (∀(i:Nat) cs,cl[i]?=some cs->cs.length=sz/\∀(j:Nat) a,cs[j]?=some a->c.get (i*sz+j)=some a)/\mC tf l cl
def pJ(v:zA)(b:Nat):Prop:=∃o n c,v=.slice b o n c
theorem zc4{b:Nat}:¬ pJ .nilslice b:=fun⟨_,_,_,h⟩=>by cases h
theorem pN{b c o n k:Nat}:pJ (.slice b o n k) c ↔ c=b:=⟨fun⟨_,_,_,h⟩=>by cases h;rfl,fun h=>by subst h;exact⟨_,_,_,rfl⟩⟩
theorem Loose.read{base sz:Nat}{l:List D}{v:zA}(h:Loose base tf t sz l v)(ht:dA tf t):oA t sz l v:=by
 rcases h with⟨rfl,rfl⟩ | ⟨b,cl,c,rfl,_,_,h1,h2,h3⟩
 ·exact⟨[],.inl ⟨rfl,rfl⟩,gE.2 rfl⟩
 ·have hlen:=h3.length
  refine⟨cl,.inr ⟨b,0,l.length,by rw[hlen],by omega,⟨c,_,_,h1,.inr rfl⟩,fun i cs hi=>⟨(h2 i cs hi).1,c,_,_,h1,fun j a hj=>?_⟩⟩,mC.mono ht _ _ h3⟩
  rw[yax];exact(h2 i cs hi).2 j a hj
theorem Loose.len{base sz:Nat}{l:List D}{v:zA}(h:Loose base tf t sz l v):vB v=some (.int .i64 (l.length:Int)):=by
 rcases h with⟨rfl,rfl⟩ | ⟨b,cl,c,rfl,_⟩
 ·rfl
 ·rfl
theorem Loose.one{base sz:Nat}{l:List D}{v:zA}(h:Loose base tf t sz l v):zA.one v=true:=by
 rcases h with⟨rfl,rfl⟩ | ⟨b,cl,c,rfl,_⟩<;>rfl
theorem Loose.same{base sz d:Nat}{l:List D}{v:zA}(h:Loose base tf t sz l v):same d v v=true:=by
 rcases h with⟨rfl,rfl⟩ | ⟨b,cl,c,rfl,_⟩
 ·cases d <;> (unfold Am.same;rfl)
 ·have e:∀n,Nat.beq n n=true:=Nat.beq_refl
  cases d <;> (unfold Am.same;simp only[e,Bool.and_self])
theorem Loose.none{base sz:Nat}{l:List D}{v:zA}(h:Loose base tf t sz l v){b:Nat}(hb:pJ v b):tf.get b=none/\base<=b/\∃y,t.get b=some y:=by
 rcases h with⟨rfl,rfl⟩ | ⟨c,cl,x,rfl,h1,h2,h3,_⟩
 ·exact absurd hb zc4
 ·rw[pN]at hb;subst hb;exact⟨h2,h1,_,h3⟩
theorem Loose.keep{base sz:Nat}{l:List D}{v:zA}{t' tf':Tr lA}(h:Loose base tf t sz l v)(hf:dA tf tf')(hk:∀b,pJ v b->t'.get b=t.get b/\tf'.get b=Option.none):Loose base tf' t' sz l v:=by
 rcases h with⟨rfl,rfl⟩ | ⟨b,cl,c,rfl,h0,h1,h2,h3,h4⟩
 ·exact .inl ⟨rfl,rfl⟩
 ·obtain⟨k1,k2⟩:=hk b (pN.2 rfl)
  exact .inr ⟨b,cl,c,rfl,h0,k2,by rw[k1];exact h2,h3,mC.mono hf _ _ h4⟩
theorem cS{T el sz:Nat}(hT:eI C T el sz){l m:List D}{v x:zA}{cm:List (List zA)}(hv:Loose C.base tf t sz l v)(hx:fG t sz x cm)(hm:mC tf m cm)(hone:∀a∈cm.flatten,zA.one a=true)(hpos:0<m.length)(hl:l.length+m.length<400000){n:Nat}(hn:t.get n=none)(hbase:C.base<=n)(ht:dA tf t) :
  ∃t',iD C T T v x ⟨n,t⟩=some (.slice n 0 (l.length+m.length) (l.length+m.length),⟨n+1,t'⟩)/\Loose C.base tf t' sz (l++m) (.slice n 0 (l.length+m.length) (l.length+m.length))/\dA tf t'/\(∀c,c≠n->¬ pJ v c->t'.get c=t.get c):=by
 obtain⟨⟨y,hy1,hy2,hy3⟩,⟨z,hz1,hz2,hz3,hz4,hz5⟩⟩:=hT
 have hcm:=hm.length
 obtain⟨hf,hlen⟩:=hx.first (n:=n)
 have hall:=hx.len
 have hflat:=rQ hall
 have hfl:wB cm.flatten=cm.length*sz:=by rw[fD];exact hflat
 have hfn:tf.get n=none:=by
  cases hq:tf.get n with
  | none=>rfl
  | some u=>rw[ht _ _ hq]at hn;cases hn
 have base:iD C T T v x ⟨n,t⟩=(match v.asSlice with
  | some s=>bif Nat.ble (s.2.2.1+cm.length) s.2.2.2 then uP C ⟨n,t⟩ z cm.length cm.flatten s else tP C ⟨n,t⟩ z cm.length cm.flatten s
  | none=>uB (Nat.beq v.tag 5) (kM ⟨n,t⟩ z cm.length cm.flatten)):=by
  unfold iD aM;rw[hy1,sA,sA,hy3];simp only[ybm,dE];rw[hy2,sA,hz1,sA,hlen,sA,hz2,hf,sA];rfl
 have ok:oN z l.length l.length cm.length cm.flatten=true:=by
  unfold oN;have h1:Nat.blt (l.length+cm.length+l.length) 1000000000=true:=oC.2 (by omega)
  have h2:Nat.blt ((l.length+cm.length+l.length)*z.bytes) 1000000000=true:=oC.2 (by
   have:=ycc (show l.length+cm.length+l.length<=800000 by omega) hz4
   omega)
  have h3:Nat.blt z.bytes 1000000000=true:=oC.2 (by omega)
  have h4:(!Nat.beq z.size 0)=true:=by
   cases hq:Nat.beq z.size 0 with
   | true=>have:=wC.1 hq;omega
   | false=>rfl
  have h5:Nat.beq (wB cm.flatten) (cm.length*z.size)=true:=by rw[hfl,hz2];exact wC.2 rfl
  have h6:Nat.beq (wB z.zero) z.size=true:=by rw[hz3,hz2];exact wC.2 rfl
  rw[h1,h2,h3,h4,h5,h6];rfl
 rcases hv with⟨rfl,rfl⟩ | ⟨b,cl,c,rfl,hb0,hb1,hb2,hb3,hb4⟩
 ·refine⟨t.set n (.cells (Tr.ofList cm.flatten) (wB cm.flatten) (some z.size)),?_,.inr ⟨n,cm,Tr.ofList cm.flatten,by simp,hbase,hfn,?_,fun i cs hi=>⟨hall i cs hi,fun j a hj=>?_⟩,by simpa using hm⟩,?_,fun c hc _=>(uJ hn _).2 c hc⟩
  ·rw[base]
   simp only[zA.asSlice];show uB true (kM ⟨n,t⟩ z cm.length cm.flatten)=_
   rw[dE];unfold kM;have:Nat.beq cm.length 0=false:=by
    cases hq:Nat.beq cm.length 0 with
    | true=>have:=wC.1 hq;omega
    | false=>rfl
   have ok:oN z 0 0 cm.length cm.flatten=true:=ok
   rw[this,cond_false,ok,dE,hcm];simp only[yay,yax];rfl
  ·rw[Tr.get_set,if_pos rfl,hfl,hz2,hcm];simp
  ·rw[Tr.get_ofList];exact qQ hall i j cs a hi hj
  ·exact ht.trans (uJ hn _).1
 ·have hcl:=hb4.length
  have hbn:b≠n:=by intro e;rw[e,hn]at hb2;cases hb2
  refine⟨(t.del b).set n (.cells (c.setMany cm.flatten (l.length*z.size)) ((l.length+cm.length)*z.size) (some z.size)),?_,.inr ⟨n,cl++cm,c.setMany cm.flatten (l.length*z.size),by simp,hbase,hfn,?_,fun i cs hi=>?_,?_⟩,fun k u hk=>?_,fun k hk1 hk2=>?_⟩
  ·rw[base]
   simp only[zA.asSlice];have:Nat.ble (l.length+cm.length) l.length=false:=by
    cases hq:Nat.ble (l.length+cm.length) l.length with
    | true=>have:=oE.1 hq;omega
    | false=>rfl
   rw[this,cond_false];unfold tP;simp only[];rw[show ∀x,(!(Nat.beq 0 1&&x))=true from fun _=>rfl,dE,ok,dE]
   unfold rD;rw[hb2,sA];simp only[lA.asCells,sA];unfold oV;simp only[];have g1:Nat.beq sz z.size=true:=wC.2 hz2.symm
   have g2:Nat.ble (l.length*sz) (l.length*sz)=true:=oE.2 (yal _)
   have g3:Nat.ble (l.length*sz) ((l.length+cm.length)*sz)=true:=oE.2 (yaj _ (by omega))
   have g4:pB zA.one cm.flatten=true:=by rw[mF];exact ybc.2 hone
   have g5:(!Nat.blt b C.base)=true:=by
    cases hq:Nat.blt b C.base with
    | true=>have:=oC.1 hq;omega
    | false=>rfl
   rw[g1,g2,g3,g4,g5];simp only[hz2,hcm];rfl
  ·rw[Tr.get_set,if_pos rfl,hz2,hcm,yah]
  ·rw[List.getElem?_append]at hi
   split at hi
   ·rename_i hlt
    obtain⟨k1,k2⟩:=hb3 i cs hi
    refine⟨k1,fun j a hj=>?_⟩
    have hjl:j<sz:=by rw[<- k1];exact(yad.1 hj).1
    have:i*sz+j<l.length*sz:=by
     have:=yaj sz (show i+1<=l.length by omega)
     rw[yap]at this;omega
    rw[Tr.get_setMany,hz2,if_neg (by omega)]
    exact k2 j a hj
   ·rename_i hge
    have k1:=hall _ cs hi
    refine⟨k1,fun j a hj=>?_⟩
    have hf1:=qQ hall _ j cs a hi hj
    have hlt:=(yad.1 hf1).1
    have e:i*sz=l.length*sz+(i-cl.length)*sz:=by rw[<- yap];congr 1;omega
    rw[Tr.get_setMany,hz2,if_pos (by omega),show i*sz+j-l.length*sz=(i-cl.length)*sz+j by omega]
    exact hf1
  ·have app:∀ {l m:List D} {cl cm:List (List zA)},mC tf l cl->mC tf m cm->mC tf (l++m) (cl++cm):=by
    intro l;induction l with
    | nil=>intro m cl cm h k;rw[gE]at h;subst h;exact k
    | cons d l ih=>
     intro m cl cm h k;rw[eD]at h;obtain⟨c,r,rfl,h1,h2⟩:=h
     exact eD.2 ⟨c,r++cm,rfl,h1,ih h2 k⟩
   exact app hb4 hm
  ·have h1:k≠b:=by intro e;rw[e,hb1]at hk;cases hk
   have h2:k≠n:=by intro e;rw[e,hfn]at hk;cases hk
   rw[Tr.get_set,if_neg h2,Tr.get_del,if_neg h1];exact ht _ _ hk
  ·rw[Tr.get_set,if_neg hk1,Tr.get_del,if_neg (fun e=>hk2 (pN.2 e))]
theorem Loose.freeze{base sz:Nat}{l:List D}{v:zA}(h:Loose base tf t sz l v)(ht:dA tf t):∃tf',dA tf tf'/\dA tf' t/\oA tf' sz l v/\∀b,¬ pJ v b->tf'.get b=tf.get b:=by
 rcases h with⟨rfl,rfl⟩ | ⟨b,cl,c,rfl,h0,h1,h2,h3,h4⟩
 ·exact⟨tf,dA.refl _,ht,⟨[],.inl ⟨rfl,rfl⟩,gE.2 rfl⟩,fun _ _=>rfl⟩
 ·have hlen:=h4.length
  refine⟨tf.set b (.cells c (l.length*sz) (some sz)),(uJ h1 _).1,fun k u hk=>?_,⟨cl,.inr ⟨b,0,l.length,by rw[hlen],by omega,⟨c,_,_,by rw[Tr.get_set,if_pos rfl],.inr rfl⟩,fun i cs hi=>⟨(h3 i cs hi).1,c,_,_,(by rw[Tr.get_set,if_pos rfl]),fun j a hj=>?_⟩⟩,mC.mono (uJ h1 _).1 _ _ h4⟩,fun k hk=>by rw[Tr.get_set,if_neg (fun e=>hk (pN.2 e))]⟩
  ·rw[Tr.get_set]at hk
   split at hk
   ·rename_i e;subst e;cases hk;exact h2
   ·exact ht _ _ hk
  ·rw[yax];exact(h3 i cs hi).2 j a hj
end
end Go.Am
namespace Go.Proofs
open Go Go.Am
variable [cC]
variable {t:Tr lA}
theorem zae{neg:Bool}{l:List Nat}(h:yN neg l=true):norm l:=by
 intro hne;unfold yN at h;rw[if_neg hne,yac]at h;have:=of_decide_eq_true h.2
 intro e;exact this (by rw[List.getLast?_eq_some_getLast hne,e])
theorem zhh{l:List rH}{v:zA}(hv:oA t 2 (l.map rH.d) v)(hb:∀w∈l,w.limbs.length<1125899906842624)(hn:l.length<1125899906842624):∀(k i:Nat),i+k=l.length->jp 278 2 [v,.int .i64 (l.length:Int),.int .i64 (i:Int)] t (fun r m=>r=.bool ((l.drop i).all fun w=>yN w.neg w.limbs)/\m=t):=by
 intro k;induction k with
 | zero=>
  intro i hi;refine z3m _ _ _ ?_
  simp only[ztm,qA,dB];rw[if_neg (by omega),yau (by omega)]
  (first | exact⟨rfl,rfl⟩ | exact⟨rfl,trivial⟩ | trivial)
 | succ k ih=>
  intro i hi;have hlt:i<l.length:=by omega
  have hx:l[i]?=some l[i]:=yae hlt
  obtain⟨b,off,cs,g1,g2,_,_,g5⟩:=rE.at sl326 (by simp) hv (i:=i) (d:=l[i].d) (by simp[hx])
  obtain⟨u,rfl,hu⟩:=zV g5
  have hv1:=zfv (neg:=l[i].neg) (hb _ (ybk hlt)) hu
  refine z3m _ _ _ ?_
  simp only[ztm,qA,dB];rw[if_pos (by omega),g1,xA,g2,zkl,xA,pI g5 (rH.zs _)]
  simp only[xA,cellsOf,lF,sF,yaa,yab];have hone:pB zA.one [.bool l[i].neg,u]=true:=by
   show(bif zA.one (.bool l[i].neg)then(bif zA.one u then true else false)else false)=true
   rw[hu.one];rfl
  refine aA hone ?_
  rw[q173,hv1];simp only[xA,pD,zbd];rw[yam hlt,ybh]
  cases hq:yN l[i].neg l[i].limbs with
  | false=>simp
  | true=>
   simp only[ybo,Bool.true_eq_false,if_false];rw[zC (by omega) (by omega)]
   exact ih (i+1) (by omega)
theorem zmu{l:List rH}{v:zA}(hv:oA t 2 (l.map rH.d) v)(hb:∀w∈l,w.limbs.length<1125899906842624)(hn:l.length<1125899906842624):sD yA F 278 [v] t=some (.bool (l.all fun w=>yN w.neg w.limbs)):=by
 refine oF.2 (w278 _ ?_)
 simp only[t278,qA,hv.len,xA,yB,yag];have:=zhh hv hb hn l.length 0 (by omega)
 rw[ybs]at this;exact this
theorem gcd_ok{n d:rH}{u v:zA}{Q:kB}(hu:oA t 1 (lC n.limbs) u)(hv:oA t 1 (lC d.limbs) v)(hn:n.limbs.length<700000)(hd:d.limbs.length<700000)(hnl:fB 65536 n.limbs)(hdl:fB 65536 d.limbs)(hnv:yN n.neg n.limbs=true)(hdv:yN d.neg d.limbs=true)
  (hQ:∀t' g rv,dA t t'->oA t' 1 (lC g) rv->fB 65536 g->norm g->val 65536 g=Nat.gcd (val 65536 n.limbs) (val 65536 d.limbs)->Q (.tup [.agg [.bool false,rv],.int .i64 0]) t'):Wc yA F 235 [.agg [.bool n.neg,u],.agg [.bool d.neg,v]] t Q:=by
 have hBB:=vL
 refine w235 _ _ _ _ ?_
 simp only[t235,qA];intro b hb hbase;obtain⟨t1,g1,g2,g3,g4⟩:=bO (C:=yA) (T:=326) (el:=43) (sz:=2) (n:=2) (cl:=[[.bool n.neg,u],[.bool d.neg,v]]) (ps:=[(0,.agg [.bool n.neg,u]),(1,.agg [.bool d.neg,v])]) ty326 rfl ty43 rfl rfl (by decide) rfl (fun i cs hi=>by
  rcases i with _ | _ | i
  ·simp at hi;subst hi;rfl
  ·simp at hi;subst hi;rfl
  ·simp at hi) rfl hb
 rw[g1,xA];have hw:oA t1 2 ([n,d].map rH.d) (.slice b 0 2 2):=⟨_,g2,by
  simp only[ybn,List.map_nil,eD,gE];refine⟨_,_,rfl,?_,_,_,rfl,?_,rfl⟩
  ·unfold rH.d
   rw[gI];refine⟨[[.bool n.neg],[u]],rfl,?_⟩
   simp only[eD,gE,lQ,uK];exact⟨_,_,rfl,rfl,_,_,rfl,⟨u,rfl,hu.mono g3⟩,rfl⟩
  ·unfold rH.d
   rw[gI];refine⟨[[.bool d.neg],[v]],rfl,?_⟩
   simp only[eD,gE,lQ,uK];exact⟨_,_,rfl,rfl,_,_,rfl,⟨v,rfl,hv.mono g3⟩,rfl⟩⟩
 have hall:=zmu hw (fun w hw=>by
  rcases yat.1 hw with rfl | hw
  ·omega
  ·rw[yce.1 hw];omega) (by simp)
 rw[q278,hall];simp only[xA,pD,zbd,ybh,ybl,hnv,hdv,Bool.and_self,Bool.true_eq_false,if_false];rw[q281];refine zu5 (hu.mono g3) (by omega) hnl fun t2 v2 k1 k2=>?_
 rw[if_pos hv.same,q281];refine zu5 ((hv.mono g3).mono k1) (by omega) hdl fun t3 v3 m1 m2=>?_
 have an:=kZ hnl
 have ad:=kZ hdl
 rw[<- hBB]at an ad;rw[q280];refine cd_ok (k2.mono m1) m2 an ad (zao (zae hnv)) (zao (zae hdv)) (by rw[zQ];omega) (by rw[zQ];omega) fun t4 r rv p1 p2 p3 p4 p5=>?_
 rw[hBB]at p3;have vn:∀l,val BB (zH l)=val 65536 l:=fun l=>by rw[hBB];exact zhr l
 rw[vn,vn]at p5;have hrl:r.length<400000:=by
  have hB1:1<BB:=by omega
  rcases Nat.eq_zero_or_pos (val 65536 n.limbs)with h0 | h0
  ·rw[h0,Nat.gcd_zero_left,<- vn]at p5
   have:=fO hB1 ad p4 (Nat.le_of_eq p5)
   rw[zQ]at this;omega
  ·have h1:=Nat.gcd_le_left (val 65536 d.limbs) h0
   rw[<- p5,<- vn]at h1;have:=fO hB1 an p4 h1
   rw[zQ]at this;omega
 rw[q279];refine zsk p2 hrl p3 fun t5 v5 s1 s2=>?_
 rw[wW p4]at s2 ⊢
 have eG:wG [(.bool false),.nilslice] (.agg [.bool (if r=[]then false else false),v5])=some (cellsOf [.bool (if r=[]then false else false),v5]):=gL (by
  show(true&&(mG .nilslice v5&&true))=true
  rw[bH s2];rfl)
 rw[eG];have hone:pB zA.one [.bool false,v5]=true:=by
  show(bif zA.one (.bool false)then(bif zA.one v5 then true else false)else false)=true
  rw[s2.one];rfl
 simp only[xA,cellsOf,lF,sF,yaa,yab,ite_self,hone,if_true];refine hQ t5 (rF (bG r)) v5 (g3.trans (k1.trans (m1.trans (p1.trans s1)))) s2 (mR (zaj p3)) (tR _) ?_
 rw[iP,<- p5,zbu,hBB]
end Go.Proofs
namespace Go.Am
def uF.fit(f:uF):Prop:=f.ok/\fB 65536 f.n.limbs/\fB 65536 f.d.limbs
def zB.fit(v:zB):Prop:=v.kind<256/\v.f.fit /\ -9223372036854775808<=v.i/\v.i<9223372036854775808
mutual
def uA.fit:uA->Prop
 | .mk op name v args=>op<256/\name.length<xE/\(∀c∈name,c<256)/\v.fit/\args.length<xE/\uA.fits args
def uA.fits:List uA->Prop
 | []=>True
 | x::l=>x.fit/\uA.fits l
end
theorem uA.fits_mem:∀ {l:List uA},uA.fits l->∀x∈l,x.fit
 | [],_,_,h=>by cases h
 | y::l,h,x,hx=>by
  unfold uA.fits at h;rcases yat.1 hx with rfl | hx
  ·exact h.1
  ·exact uA.fits_mem h.2 x hx
mutual
theorem uA.fit_ok:∀ {x:uA},x.fit->x.ok
 | .mk op name v args,h=>by
  unfold uA.fit at h;unfold uA.ok;exact⟨h.2.1,h.2.2.2.1.2.1.1,h.2.2.2.2.1,uA.fits_oks h.2.2.2.2.2⟩
theorem uA.fits_oks:∀ {l:List uA},uA.fits l->uA.oks l
 | [],_=>by unfold uA.oks;trivial
 | x::l,h=>by
  unfold uA.fits at h;unfold uA.oks;exact⟨uA.fit_ok h.1,uA.fits_oks h.2⟩
end
def i64 (n:Int):Prop := -9223372036854775808<=n/\n<9223372036854775808
def cE.fit(r:cE):Prop:=i64 r.a/\i64 r.b/\i64 r.known/\r.f.fit
def nE.fit(x:nE):Prop:=x.name.length<xE/\x.rows.length<xE/\∀r∈x.rows,r.fit
def vJ.fit(x:vJ):Prop:=x.name.length<xE/\x.kind<256
def dC.fit(x:dC):Prop:=x.name.length<xE/\x.label.length<xE/\i64 x.from_/\i64 x.to/\i64 x.known/\x.when_.fit/\x.then_.fit
structure fF.fit (p:fF):Prop where
 name:p.name.length<xE
 ndefs:p.defs.length<xE
 ntables:p.tables.length<xE
 nclauses:p.clauses.length<xE
 defs:∀d∈p.defs,d.fit
 tables:∀d∈p.tables,d.fit
 clauses:∀d∈p.clauses,d.fit
end Go.Am
namespace Go.Proofs
open Go Go.Am
variable [cC]
variable {t:Tr lA}
def zp9(a b:rH):Bool:=(a.neg == b.neg)&&decide (a.limbs=b.limbs)
def zue(a b:uF):Bool:=zp9 a.n b.n&&zp9 a.d b.d
def zM(a b:zB):Bool:=decide (a.kind=b.kind)&&decide (a.i=b.i)&&zue a.f b.f
def zwu(w:rH):Bool := !w.neg&&decide (w.limbs=[1])
def fQ(f:uF):Bool:=decide (f.n.limbs.length<=256)&&decide (f.d.limbs.length<=256)&&yN f.n.neg f.n.limbs&&yN f.d.neg f.d.limbs && !f.d.neg&&decide (f.d.limbs≠[])&&(zwu f.d||decide (Nat.gcd (val 65536 f.n.limbs) (val 65536 f.d.limbs)=1))
theorem z6f{a b:Int}:iB a b=decide (a<b):=by
 cases h:iB a b with
 | true=>rw[decide_eq_true (dB.1 h)]
 | false=>rw[decide_eq_false (fun k=>by rw[dB.2 k]at h;cases h)]
theorem zgw{a b:Int}:rC a b=decide (a<=b):=by
 cases h:rC a b with
 | true=>rw[decide_eq_true (nG.1 h)]
 | false=>rw[decide_eq_false (fun k=>by rw[nG.2 k]at h;cases h)]
theorem zgx{a b:Int}:wA a b=decide (a=b):=by
 cases h:wA a b with
 | true=>rw[decide_eq_true (jE.1 h)]
 | false=>rw[decide_eq_false (fun k=>by rw[jE.2 k]at h;cases h)]
theorem zq9{a b:List Nat}{u v:zA}(hu:oA t 1 (lC a) u)(hv:oA t 1 (lC b) v)(hl:a.length=b.length)(hn:a.length<1125899906842624):∀(k i:Nat),i+k=a.length->jp 171 2 [u,v,.int .i64 (a.length:Int),.int .i64 (i:Int)] t (fun r m=>r=.bool (decide (a.drop i=b.drop i))/\m=t):=by
 intro k;induction k with
 | zero=>
  intro i hi;refine z3s _ _ _ _ ?_
  simp only[zts,qA,dB];rw[if_neg (by omega),yau (by omega),yau (by omega)]
  (first | exact⟨rfl,rfl⟩ | exact⟨rfl,trivial⟩ | trivial)
 | succ k ih=>
  intro i hi;have h1:i<a.length:=by omega
  have h2:i<b.length:=by omega
  have hx:a[i]?=some a[i]:=yae h1
  have hy:b[i]?=some b[i]:=yae h2
  obtain⟨c,off,g1,g2⟩:=oA.idx (C:=yA) zt7 hu hx
  obtain⟨d,off',g3,g4⟩:=oA.idx (C:=yA) zt7 hv hy
  refine z3s _ _ _ _ ?_
  simp only[zts,qA,dB,g1,g2,g3,g4,xA,yB,lI];rw[if_pos (by omega),yam h1,yam h2]
  by_cases he:a[i]=b[i]
  ·rw[if_neg (by omega),zC (by omega) (by omega)]
   have:=ih (i+1) (by omega)
   rw[he];simp only[List.cons.injEq,true_and];exact this
  ·rw[if_pos (by omega)]
   have hne:¬ (a[i]::a.drop (i+1)=b[i]::b.drop (i+1)):=fun e=>he (List.cons.inj e).1
   rw[decide_eq_false hne]; (first | exact⟨rfl,rfl⟩ | exact⟨rfl,trivial⟩ | trivial)
theorem z1g{a b:List Nat}{u v:zA}(hu:oA t 1 (lC a) u)(hv:oA t 1 (lC b) v)(hn:a.length<1125899906842624):sD yA F 171 [u,v] t=some (.bool (decide (a=b))):=by
 refine oF.2 (w171 _ _ ?_)
 simp only[t171,qA,hu.len,hv.len,xA,yB,rP,lI];by_cases hl:a.length=b.length
 ·rw[if_neg (by omega)]
  have:=zq9 hu hv hl hn a.length 0 (by omega)
  simpa using this
 ·rw[if_pos (by omega)]
  have:a≠b:=fun e=>hl (by rw[e])
  simp[this]
theorem znr{a b:rH}{u v:zA}(hu:oA t 1 (lC a.limbs) u)(hv:oA t 1 (lC b.limbs) v)(hn:a.limbs.length<1125899906842624):sD yA F 105 [.agg [.bool a.neg,u],.agg [.bool b.neg,v]] t=some (.bool (zp9 a b)):=by
 refine oF.2 (w105 _ _ _ _ ?_)
 simp only[t105,qA,q171,z1g hu hv hn,xA,pD];unfold zp9
 cases ha:a.neg<;>cases hb:b.neg<;>simp[bEq]
theorem zns{a b:uF}{u v x y:zA}(hu:oA t 1 (lC a.n.limbs) u)(hv:oA t 1 (lC a.d.limbs) v)(hx:oA t 1 (lC b.n.limbs) x)(hy:oA t 1 (lC b.d.limbs) y)(hn:a.ok):sD yA F 53 [.agg [.bool a.n.neg,u,.bool a.d.neg,v],.agg [.bool b.n.neg,x,.bool b.d.neg,y]] t=some (.bool (zue a b)):=by
 unfold uF.ok xE at hn;refine oF.2 (w53 _ _ _ _ _ _ _ _ ?_)
 simp only[t53,qA,q105,znr hu hx (by omega),znr hv hy (by omega),xA,pD]
 unfold zue
 cases zp9 a.n b.n<;>simp
theorem zzv{a b:zB}{u v x y:zA}(hu:oA t 1 (lC a.f.n.limbs) u)(hv:oA t 1 (lC a.f.d.limbs) v)(hx:oA t 1 (lC b.f.n.limbs) x)(hy:oA t 1 (lC b.f.d.limbs) y)(hn:a.f.ok):sD yA F 24 [.agg [.int .u8 a.kind,.bool a.f.n.neg,u,.bool a.f.d.neg,v,.int .i64 a.i],.agg [.int .u8 b.kind,.bool b.f.n.neg,x,.bool b.f.d.neg,y,.int .i64 b.i]] t=some (.bool (zM a b)):=by
 refine oF.2 (w24 _ _ _ _ _ _ _ _ _ _ _ _ ?_)
 simp only[t24,qA,q53,zns hu hv hx hy hn,xA,pD,jE];unfold zM;by_cases h1:a.kind=b.kind
 ·rw[if_pos (by omega)]
  by_cases h2:a.i=b.i
  ·rw[if_pos h2];simp[h1,h2]
  ·rw[if_neg h2];simp[h2]
 ·rw[if_neg (by omega)];simp[h1]
theorem zf2{f:uF}{u v:zA}(hu:oA t 1 (lC f.n.limbs) u)(hv:oA t 1 (lC f.d.limbs) v)(hf:uF.fit f):sD yA F 106 [.agg [.bool f.n.neg,u,.bool f.d.neg,v]] t=some (.bool (fQ f)):=by
 obtain⟨h1,h2,h3⟩:=hf
 unfold uF.ok xE at h1;have c1:sD yA F 172 [.agg [.bool f.n.neg,u,.bool f.d.neg,v]] t=some (.bool (!(decide (f.n.limbs.length<=256)&&decide (f.d.limbs.length<=256)))):=by
  refine oF.2 (w172 _ _ _ _ ?_)
  simp only[t172,qA,hu.len,hv.len,xA,yB,rP];have e:iB 256 (f.d.limbs.length:Int) = !decide (f.d.limbs.length<=256):=by
   rw[z6f,<- decide_not];congr 1;exact propext ⟨by omega,by omega⟩
  by_cases g1:f.n.limbs.length<=256
  ·rw[if_neg (fun h=>absurd (dB.1 h) (by omega)),e]
   simp[g1]
  ·rw[if_pos (dB.2 (by omega))];simp[g1]
 have c2:=zfv (neg:=f.n.neg) (by omega) hu
 have c3:=zfv (neg:=f.d.neg) (by omega) hv
 have c4:sD yA F 174 [.agg [.bool f.n.neg,u,.bool f.d.neg,v]] t=some (.bool (zwu f.d)):=by
  refine oF.2 (w174 _ _ _ _ ?_)
  simp only[t174,qA,q175,zol hv,xA,pD]; (first | exact⟨rfl,rfl⟩ | exact⟨rfl,trivial⟩ | trivial)
 refine zij (w106 _ _ _ _ ?_)
 simp only[t106,qA,q172,c1,q173,c2,c3,q174,c4,xA,pD,hv.len,yB,rP,jE,zbd];unfold fQ;by_cases g1:f.n.limbs.length<=256
 ·by_cases g2:f.d.limbs.length<=256
  ·simp only[g1,g2,decide_true,ybo,Bool.not_true,yar,if_false]
   cases hn:yN f.n.neg f.n.limbs with
   | false=>simp
   | true=>
    cases hd:yN f.d.neg f.d.limbs with
    | false=>simp
    | true=>
     simp only[Bool.true_eq_false,if_false,ybo]
     cases hg:f.d.neg with
     | true=>simp
     | false=>
      simp only[yar,if_false,ybm,ybo];by_cases h0:f.d.limbs=[]
      ·rw[if_pos (by rw[h0];rfl)];simp[h0]
      ·have:f.d.limbs.length≠0:=fun e=>h0 (ybd.1 e)
       rw[if_neg (by omega)]
       simp only[h0,ne_eq,not_false_eq_true,decide_true,ybo]
       cases ho:zwu f.d with
       | true=>simp
       | false=>
        simp only[yar,if_false,Bool.false_or];rw[q176];refine w176 _ _ _ _ ?_
        simp only[t176,qA,q235];have hn':=hn
        have hd':=hd
        rw[hg]at hd'
        refine gcd_ok (n:=f.n) (d:=⟨false,f.d.limbs⟩) hu hv (by omega) (by show f.d.limbs.length<_;omega) h2 h3 hn' hd' fun t' g rv k1 k2 k3 k4 k5=>?_
        have eG:wG [(.bool false),.nilslice] (.agg [.bool false,rv])=some (cellsOf [.bool false,rv]):=gL (by
         show(true&&(mG .nilslice rv&&true))=true
         rw[bH k2];rfl)
        have hone:pB zA.one [.bool false,rv]=true:=by
         show(bif zA.one (.bool false)then(bif zA.one rv then true else false)else false)=true
         rw[k2.one];rfl
        simp only[bB,zA.asTup,sA,bD,yaa,yab,xA,yB,eG,cellsOf,lF,sF,hone,if_true];rw[q175,zol k2];simp only[xA,pD,ybm,ybo]
        refine⟨?_,k1⟩
        congr 1
        rw[decide_eq_decide,<- k5];constructor
        ·intro e;subst e;rfl
        ·intro e
         exact z0e (B:=65536) (by decide) k3 (fun x hx=>by rw[yce.1 hx];decide) k4 (fun _=>by simp) (by rw[e];rfl)
  ·simp[g2]
 ·simp[g1]
theorem zhq{f:uF}{u v:zA}(hu:oA t 1 (lC f.n.limbs) u)(hv:oA t 1 (lC f.d.limbs) v)(hf:uF.fit f):sD yA F 54 [.agg [.bool f.n.neg,u,.bool f.d.neg,v]] t=some (.bool (fQ f)):=by
 refine oF.2 (w54 _ _ _ _ ?_)
 simp only[t54,qA,q106,zf2 hu hv hf,xA,pD,if_true];exact⟨trivial,trivial⟩
def nO(f:uF):Bool:=zue f ⟨⟨false,[]⟩,⟨false,[]⟩⟩
def sB(v:zB):Bool:=
 if v.kind=2\/v.kind=3 then decide (v.i=0)&&fQ v.f
 else if v.kind=1 then nO v.f&&(decide (0<=v.i)&&decide (v.i<=1))
 else if v.kind=4 then nO v.f&&(decide (0<=v.i)&&decide (v.i<65536))
 else if v.kind=5\/v.kind=6 then nO v.f&&(decide (-1048576<=v.i)&&decide (v.i<=1048576))
 else false
theorem zhp{a:zB}{u v:zA}(hu:oA t 1 (lC a.f.n.limbs) u)(hv:oA t 1 (lC a.f.d.limbs) v)(hf:uF.fit a.f):sD yA F 25 [.agg [.int .u8 a.kind,.bool a.f.n.neg,u,.bool a.f.d.neg,v,.int .i64 a.i]] t=some (.bool (sB a)):=by
 have hz:oA t 1 (lC []) .nilslice:=⟨[],.inl ⟨rfl,rfl⟩,gE.2 rfl⟩
 have c1:sD yA F 53 [.agg [.bool a.f.n.neg,u,.bool a.f.d.neg,v],.agg [.bool false,.nilslice,.bool false,.nilslice]] t=some (.bool (nO a.f)):=zns (b:=⟨⟨false,[]⟩,⟨false,[]⟩⟩) hu hv hz hz hf.1
 have c2:=zhq hu hv hf
 refine oF.2 (w25 _ _ _ _ _ _ ?_)
 simp only[t25,qA,q53,q54,c1,c2,xA,pD,jE,nG,if_true];unfold sB;by_cases h2:a.kind=2
 ·simp[h2]
  by_cases h0:a.i=0<;>simp[h0]
 ·by_cases h3:a.kind=3
  ·simp[h3]
   by_cases h0:a.i=0<;>simp[h0]
  ·by_cases h1:a.kind=1
   ·simp[h1,zgw]
    cases nO a.f
    ·simp
    ·by_cases h0:0<=a.i<;>simp[h0]
   ·by_cases h4:a.kind=4
    ·simp[h4,z6f]
     cases nO a.f
     ·simp
     ·by_cases h0:0<=a.i<;>simp[h0]
    ·by_cases h5:a.kind=5
     ·simp[h5,zgw]
      cases nO a.f
      ·simp
      ·by_cases h0 : -1048576<=a.i<;>simp[h0]
     ·by_cases h6:a.kind=6
      ·simp[h6,zgw]
       cases nO a.f
       ·simp
       ·by_cases h0 : -1048576<=a.i<;>simp[h0]
      ·rw[if_neg (by omega),if_neg (by omega),if_neg (by omega),if_neg (by omega),if_neg (by omega),if_neg (by omega)]
       simp[h1,h2,h3,h4,h5,h6]
end Go.Proofs
namespace Go.Proofs
open Go Go.Am
variable [cC]
variable {t:Tr lA}
def zyx (a b:Int):Int:=if a<b then -1 else if b<a then 1 else 0
def cmpR (x y:cE):Int:=if zyx x.a y.a≠0 then zyx x.a y.a else if zyx x.b y.b≠0 then zyx x.b y.b else zyx x.known y.known
theorem zmh{a b:Int}:sD yA F 184 [.int .i64 a,.int .i64 b] t=some (.int .i64 (zyx a b)):=by
 have c:∀n:Int,sD yA F 240 [.int .i64 n] t=some (.bool false):=by
  intro n;refine oF.2 (w240 _ ?_)
  simp only[t240,qA];refine⟨?_,trivial⟩
  rw[zgx];simp
 refine oF.2 (w184 _ _ ?_)
 simp only[t184,qA,q240,c,xA,pD,dB,yar,if_false];unfold zyx;by_cases h1:a<b
 ·rw[if_pos h1,if_pos h1]; (first | exact⟨rfl,rfl⟩ | exact⟨rfl,trivial⟩ | trivial)
 ·rw[if_neg h1,if_neg h1]
  by_cases h2:b<a
  ·rw[if_pos h2,if_pos h2]; (first | exact⟨rfl,rfl⟩ | exact⟨rfl,trivial⟩ | trivial)
  ·rw[if_neg h2,if_neg h2]; (first | exact⟨rfl,rfl⟩ | exact⟨rfl,trivial⟩ | trivial)
def dI (l:List Int):List D:=l.map fun n=>D.int .i64 n
def orI:List Int->Int
 | []=>0
 | a::l=>if a≠0 then a else orI l
theorem z5d{l:List Int}{v:zA}(hv:oA t 1 (dI l) v)(hn:l.length<1125899906842624):∀(k i:Nat),i+k=l.length->jp 183 2 [.int .i64 0,v,.int .i64 (l.length:Int),.int .i64 (i:Int)] t (fun r m=>r=.int .i64 (orI (l.drop i))/\m=t):=by
 intro k;induction k with
 | zero=>
  intro i hi;refine z3r _ _ _ _ ?_
  simp only[ztr,qA,dB];rw[if_neg (by omega),yau (by omega)]
  (first | exact⟨rfl,rfl⟩ | exact⟨rfl,trivial⟩ | trivial)
 | succ k ih=>
  intro i hi;have h1:i<l.length:=by omega
  have hx:(dI l)[i]?=some (.int .i64 l[i]):=by simp[dI,yae h1]
  obtain⟨b,off,cs,g1,g2,_,_,g5⟩:=rE.at zt8 (fun _=>rfl) hv hx
  rw[fL]at g5;subst g5;have g2':jA yA 3 ⟨0,t⟩ (.ptr b off)=some (.int .i64 l[i]):=g2
  refine z3r _ _ _ _ ?_
  simp only[ztr,qA,dB,g1,g2',xA,yB,lI];rw[if_pos (by omega),yam h1]
  unfold orI;by_cases h0:l[i]=0
  ·rw[if_neg (by omega),if_neg (by omega),zC (by omega) (by omega)]
   exact ih (i+1) (by omega)
  ·rw[if_pos h0,if_pos h0]
   (first | exact⟨rfl,rfl⟩ | exact⟨rfl,trivial⟩ | trivial)
theorem zmg{x y:cE}{a b c d:zA}:sD yA F 118 [.agg [.int .i64 x.a,.int .i64 x.b,.int .i64 x.known,.bool x.f.n.neg,a,.bool x.f.d.neg,b],.agg [.int .i64 y.a,.int .i64 y.b,.int .i64 y.known,.bool y.f.n.neg,c,.bool y.f.d.neg,d]] t=some (.int .i64 (cmpR x y)):=by
 refine zij (w118 _ _ _ _ _ _ _ _ _ _ _ _ _ _ ?_)
 simp only[t118,qA,q184,zmh,xA,yB,hO,if_true];intro b hb hbase;generalize e1:zyx x.a y.a=c1
 generalize e2:zyx x.b y.b=c2
 generalize e3:zyx x.known y.known=c3
 obtain⟨t1,g1,g2,g3,g4⟩:=bO (C:=yA) (T:=105) (el:=3) (sz:=1) (n:=3) (cl:=[[.int .i64 c1],[.int .i64 c2],[.int .i64 c3]]) (ps:=[(0,.int .i64 c1),(1,.int .i64 c2),(2,.int .i64 c3)]) zd1 rfl ty3 rfl rfl (by decide) rfl (fun i cs hi=>by
  rcases i with _ | _ | _ | i
  ·simp at hi;subst hi;rfl
  ·simp at hi;subst hi;rfl
  ·simp at hi;subst hi;rfl
  ·simp at hi) rfl hb
 rw[g1,xA];have hr:oA t1 1 (dI [c1,c2,c3]) (.slice b 0 3 3):=⟨_,g2,by simp[dI,eD,gE,fL]⟩
 have c183:sD yA F 183 [.slice b 0 3 3] t1=some (.int .i64 (orI [c1,c2,c3])):=by
  refine oF.2 (w183 _ ?_)
  simp only[t183,qA,hr.len,xA,yB];exact z5d hr (by simp) 3 0 rfl
 rw[q183,c183];simp only[xA,yB];refine⟨?_,g3⟩
 congr 1
 unfold cmpR;simp only[e1,e2,e3,orI];split
 ·rfl
 ·split
  ·rfl
  ·split
   ·rfl
   ·omega
def fU(l:List cE):Nat->Bool
 | 0=>true
 | n+1=>(match l[n+1]?,l[n]? with | some x,some y => !decide (cmpR x y<0) | _,_=>true)&&fU l n
theorem znv{l:List cE}{v:zA}(hv:oA t 7 (l.map cE.d) v){i:Nat}(hi:i<l.length) :
  ∃b off x y,xB yA 80 v (.int .i64 (i:Int))=some (.ptr b off)/\jA yA 85 ⟨0,t⟩ (.ptr b off)=some (.agg [.int .i64 l[i].a,.int .i64 l[i].b,.int .i64 l[i].known,.bool l[i].f.n.neg,x,.bool l[i].f.d.neg,y])/\oA t 1 (lC l[i].f.n.limbs) x/\oA t 1 (lC l[i].f.d.limbs) y ∧
   wG [(.int .i64 0),(.int .i64 0),(.int .i64 0),(.bool false),.nilslice,(.bool false),.nilslice] (.agg [.int .i64 l[i].a,.int .i64 l[i].b,.int .i64 l[i].known,.bool l[i].f.n.neg,x,.bool l[i].f.d.neg,y])=some (cellsOf [.int .i64 l[i].a,.int .i64 l[i].b,.int .i64 l[i].known,.bool l[i].f.n.neg,x,.bool l[i].f.d.neg,y]):=by
 obtain⟨b,off,cs,g1,g2,_,_,g5⟩:=rE.at sl80 (by simp) hv (i:=i) (d:=l[i].d) (by simp[yae hi])
 have hz:=pI g5 (cE.zs _)
 obtain⟨x,y,rfl,hx,hy⟩:=zih g5
 exact⟨b,off,x,y,g1,g2,hx,hy,hz⟩
theorem zk5{l:List cE}{v:zA}(hv:oA t 7 (l.map cE.d) v)(hn:l.length<1125899906842624):∀(n:Nat),n<l.length\/n=0->jp 117 2 [v,.func (.func 118) [] [],.int .i64 (n:Int)] t (fun r m=>r=.bool (fU l n)/\m=t):=by
 intro n;induction n with
 | zero=>
  intro _;refine zws _ _ _ ?_
  simp only[zni,qA,dB];rw[if_neg (by omega)]
  (first | exact⟨rfl,rfl⟩ | exact⟨rfl,trivial⟩ | trivial)
 | succ n ih=>
  intro h;have h1:n+1<l.length:=by omega
  have h2:n<l.length:=by omega
  obtain⟨b,off,x,y,g1,g2,_,_,g5⟩:=znv hv h1
  obtain⟨b',off',x',y',k1,k2,_,_,k5⟩:=znv hv h2
  have e1:((n+1:Nat):Int)-1=(n:Int):=by omega
  have f:∀a b,wM (.func (.func 118) [] []) [a,b]=some (118,[a,b]):=fun _ _=>rfl
  refine zws _ _ _ ?_
  simp only[zni,qA,dB];rw[if_pos (by omega),g1,xA,g2,xA,g5,xA,e1,zC (by omega) (by omega),k1,xA,k2,xA,k5,xA,f,xA]
  simp only[cellsOf,bF,lF,sF,yaa,yab];rw[q118,zmg,xA,yB,xA];unfold fU;rw[yae h1,yae h2];by_cases h0:cmpR l[n+1] l[n]<0
  ·refine aA h0 ?_
   simp[h0]
  ·refine qC h0 ?_
   simp only[h0,decide_false,ybm,ybo];exact ih (.inl h2)
theorem zt5{l:List cE}{v:zA}(hv:oA t 7 (l.map cE.d) v)(hn:l.length<1125899906842624):sD yA F 117 [v,.func (.func 118) [] []] t=some (.bool (fU l (l.length-1))):=by
 refine oF.2 (w117 _ _ ?_)
 simp only[t117,qA,hv.len,xA,yB,yag];rw[zC (by omega) (by omega)]
 by_cases h0:l.length=0
 ·refine zws _ _ _ ?_
  simp only[zni,qA,dB];rw[if_neg (by omega),h0]
  (first | exact⟨rfl,rfl⟩ | exact⟨rfl,trivial⟩ | trivial)
 ·have:=zk5 hv hn (l.length-1) (by omega)
  rw[show((l.length-1:Nat):Int)=(l.length:Int)-1 by omega]at this
  exact this
def in32 (n:Int):Bool:=decide (-2147483648<=n)&&decide (n<=2147483647)
def cN(two:Bool)(r:cE):Bool:=in32 r.a&&in32 r.b&&(two||decide (r.b=0))&&decide (0<=r.known)&&decide (r.known<65536)&&fQ r.f
theorem zuk{two:Bool}{r:cE}{x y:zA}(hx:oA t 1 (lC r.f.n.limbs) x)(hy:oA t 1 (lC r.f.d.limbs) y)(hf:uF.fit r.f) :
  jp 121 2 [.bool two,.agg [.int .i64 r.a,.int .i64 r.b],.int .i64 2,.int .i64 r.a,.int .i64 r.b,.int .i64 r.known,.bool r.f.n.neg,x,.bool r.f.d.neg,y] t (fun v m=>v=.bool ((two||decide (r.b=0))&&decide (0<=r.known)&&decide (r.known<65536)&&fQ r.f)/\m=t):=by
 refine zwr _ _ _ _ _ _ _ _ _ _ _ ?_
 simp only[znh,qA,dB,nG,jE,q54,zhq hx hy hf,xA,pD];rw[if_neg (by omega)]
 cases two with
 | true=>
  simp only[if_true,Bool.true_or,ybo];by_cases h1:0<=r.known
  ·rw[if_pos h1]
   by_cases h2:r.known<65536
   ·rw[if_pos h2];simp[h1,h2]
   ·rw[if_neg h2];simp[h2]
  ·rw[if_neg h1];simp[h1]
 | false=>
  simp only[yar,if_false,Bool.false_or];by_cases h0:r.b=0
  ·rw[if_pos h0]
   by_cases h1:0<=r.known
   ·rw[if_pos h1]
    by_cases h2:r.known<65536
    ·rw[if_pos h2];simp[h0,h1,h2]
    ·rw[if_neg h2];simp[h2]
   ·rw[if_neg h1];simp[h1]
  ·rw[if_neg h0];simp[h0]
theorem zzw{two:Bool}{r:cE}{x y:zA}(hx:oA t 1 (lC r.f.n.limbs) x)(hy:oA t 1 (lC r.f.d.limbs) y)(hf:uF.fit r.f) :
  sD yA F 121 [.bool two,.agg [.int .i64 r.a,.int .i64 r.b,.int .i64 r.known,.bool r.f.n.neg,x,.bool r.f.d.neg,y]] t=some (.bool (cN two r)):=by
 have i0:fN yA 236 (.agg [.int .i64 r.a,.int .i64 r.b]) (.int .i64 0)=some (.int .i64 r.a):=by kernel_rfl
 have i1:fN yA 236 (.agg [.int .i64 r.a,.int .i64 r.b]) (.int .i64 1)=some (.int .i64 r.b):=by kernel_rfl
 have e:=zuk (two:=two) hx hy hf
 have w1:vA .i64 (0+1)=1:=by kernel_rfl
 have w2:vA .i64 (1+1)=2:=by kernel_rfl
 refine oF.2 (w121 _ _ _ _ _ _ _ _ ?_)
 simp only[t121,qA,if_true];refine zwr _ _ _ _ _ _ _ _ _ _ _ ?_
 simp only[znh,qA,dB];rw[if_pos (by omega),i0,xA,yB,xA]
 unfold cN in32;by_cases h1:r.a < -2147483648
 ·rw[if_pos h1]
  have:¬ (-2147483648<=r.a):=by omega
  simp[this]
 ·rw[if_neg h1]
  have g1 : -2147483648<=r.a:=by omega
  by_cases h2:2147483647<r.a
  ·rw[if_pos h2]
   have:¬ (r.a<=2147483647):=by omega
   simp[this]
  ·rw[if_neg h2,w1]
   have g2:r.a<=2147483647:=by omega
   refine zwr _ _ _ _ _ _ _ _ _ _ _ ?_
   simp only[znh,qA,dB];rw[if_pos (by omega),i1,xA,yB,xA]
   by_cases h3:r.b < -2147483648
   ·rw[if_pos h3]
    have:¬ (-2147483648<=r.b):=by omega
    simp[this]
   ·rw[if_neg h3]
    have g3 : -2147483648<=r.b:=by omega
    by_cases h4:2147483647<r.b
    ·rw[if_pos h4]
     have:¬ (r.b<=2147483647):=by omega
     simp[this]
    ·rw[if_neg h4,w2]
     have g4:r.b<=2147483647:=by omega
     simp only[g1,g2,g3,g4,decide_true,Bool.and_self,ybo];exact e
theorem z7g{cs:List zA}{b:Nat}(hb:t.get b=none):∃t',zsh (.agg cs) ⟨b,t⟩=some (.ptr b 0,⟨b+1,t'⟩)/\At t' b 0 cs/\dA t t'/\oD b t t':=by
 refine⟨t.set b (.cells (Tr.ofList cs) (wB cs) none),rfl,⟨Tr.ofList cs,wB cs,none,by rw[Tr.get_set,if_pos rfl],fun j a hj=>by rw[yax,Tr.get_ofList];exact hj⟩,(uJ hb _).1,(uJ hb _).2⟩
def idxR (two:Bool):List cE->Int->Int
 | [],_ => -1
 | r::l,i=>if cN two r=true then idxR two l (i+1)else i
theorem zoo{two:Bool}:∀(l:List cE) (i:Int),0<=i->decide (0<=idxR two l i)=l.any fun r => !cN two r
 | [],i,_=>rfl
 | r::l,i,h=>by
  unfold idxR;rw[List.any_cons]
  cases hq:cN two r with
  | false=>simpa using h
  | true=>
   rw[if_pos rfl,Bool.not_true,Bool.false_or];exact zoo l (i+1) (by omega)
theorem zqx{l:List cE}{v w:zA}{two:Bool}(hv:oA t 7 (l.map cE.d) v)(hn:l.length<1125899906842624)(hf:∀r∈l,uF.fit r.f)(hw:∀r∈l,∀x y,oA t 1 (lC r.f.n.limbs) x->oA t 1 (lC r.f.d.limbs) y->sD yA F 120 [.agg [.int .i64 r.a,.int .i64 r.b,.int .i64 r.known,.bool r.f.n.neg,x,.bool r.f.d.neg,y],w] t=some (.bool (!cN two r))) :
  ∀(k i:Nat),i+k=l.length->jp 185 2 [v,.func (.func 120) [] [w],.int .i64 (l.length:Int),.int .i64 (i:Int)] t (fun r m=>r=.int .i64 (idxR two (l.drop i) i)/\m=t):=by
 intro k;induction k with
 | zero=>
  intro i hi;refine z3q _ _ _ _ ?_
  simp only[ztq,qA,dB];rw[if_neg (by omega),yau (by omega)]
  (first | exact⟨rfl,rfl⟩ | exact⟨rfl,trivial⟩ | trivial)
 | succ k ih=>
  intro i hi;have h1:i<l.length:=by omega
  obtain⟨b,off,x,y,g1,g2,gx,gy,g5⟩:=znv hv h1
  have f:∀a,wM (.func (.func 120) [] [w]) [a]=some (120,[a,w]):=fun _=>rfl
  refine z3q _ _ _ _ ?_
  simp only[ztq,qA,dB];rw[if_pos (by omega),g1,xA,g2,xA,g5,xA,f,xA]
  simp only[cellsOf,bF,lF,sF,yaa,yab];rw[q120,hw _ (ybk h1) x y gx gy,xA,pD,xA,yam h1]
  unfold idxR
  cases hq:cN two l[i]with
  | false=>
   simp only[ybm,if_true,yar,if_false]; (first | exact⟨rfl,trivial⟩ | exact⟨trivial,trivial⟩ | trivial)
  | true=>
   simp only[Bool.not_true,yar,if_false,if_true];rw[zC (by omega) (by omega)]
   exact ih (i+1) (by omega)
def jP(x:nE):Bool:=decide (1<=x.name.length)&&decide (x.name.length<=24)&&decide (x.rows.length<=400)&&fU x.rows (x.rows.length-1) && !(x.rows.any fun r => !cN x.two r)
theorem zsa{x:nE}{v:zA}(hv:oA t 7 (x.rows.map cE.d) v)(hn:x.rows.length<xE)(hs:x.name.length<xE)(hf:∀r∈x.rows,uF.fit r.f):sD yA F 64 [.agg [.str x.name,.bool x.two,v]] t=some (.bool (jP x)):=by
 unfold xE at hn hs;refine zij (w64 _ _ _ ?_)
 simp only[t64,qA];intro b hb hbase;obtain⟨t1,g1,g2,g3,g4⟩:=z7g (cs:=[.str x.name,.bool x.two,v]) hb
 have f0:uC yA 82 0 (.ptr b 0)=some (.ptr b (0+0)):=by kernel_rfl
 have f1:uC yA 82 1 (.ptr b 0)=some (.ptr b (0+1)):=by kernel_rfl
 have f2:uC yA 82 2 (.ptr b 0)=some (.ptr b (0+2)):=by kernel_rfl
 have l0:jA yA 9 ⟨0,t1⟩ (.ptr b (0+0))=some (.str x.name):=g2.load1 ty9 rfl rfl
 have l1:jA yA 4 ⟨0,t1⟩ (.ptr b (0+1))=some (.bool x.two):=g2.load1 ty4 rfl rfl
 have l2:jA yA 80 ⟨0,t1⟩ (.ptr b (0+2))=some v:=g2.load1 ty80 rfl rfl
 have hv1:=hv.mono g3
 rw[g1,xA,f0,xA,l0,xA,qI,xA,tS,f2];simp only[xA,l0,l2,qI,tS,hv1.len,yB,yag,dB,q117,zt5 hv1 (by omega),pD,q119]
 have c120:∀r∈x.rows,∀y z,oA t1 1 (lC r.f.n.limbs) y->oA t1 1 (lC r.f.d.limbs) z->sD yA F 120 [.agg [.int .i64 r.a,.int .i64 r.b,.int .i64 r.known,.bool r.f.n.neg,y,.bool r.f.d.neg,z],.ptr b 0] t1=some (.bool (!cN x.two r)):=by
  intro r hr y z hy hz;refine oF.2 (w120 _ _ _ _ _ _ _ _ ?_)
  simp only[t120,qA];rw[f1,xA,l1,xA,pD,xA,q121,zzw hy hz (hf r hr),xA,pD,xA]
  (first | exact⟨rfl,rfl⟩ | exact⟨rfl,trivial⟩ | trivial)
 have c119:sD yA F 119 [v,.func (.func 120) [] [.ptr b 0]] t1=some (.bool (x.rows.any fun r => !cN x.two r)):=by
  refine oF.2 (w119 _ _ ?_)
  simp only[t119,qA];have c185:sD yA F 185 [v,.func (.func 120) [] [.ptr b 0]] t1=some (.int .i64 (idxR x.two x.rows 0)):=by
   refine oF.2 (w185 _ _ ?_)
   simp only[t185,qA,hv1.len,xA,yB,yag];have:=zqx hv1 (by omega) hf c120 x.rows.length 0 (by omega)
   rw[ybs]at this;exact this
  rw[q185,c185,xA,yB,xA,zgw,zoo _ _ (by omega)]
  (first | exact⟨rfl,rfl⟩ | exact⟨rfl,trivial⟩ | trivial)
 unfold jP;by_cases h1:(x.name.length:Int)<1
 ·rw[if_pos h1]
  have:¬ (1<=x.name.length):=by omega
  exact⟨by simp[this],g3⟩
 ·rw[if_neg h1]
  have h1':1<=x.name.length:=by omega
  by_cases h2:24<(x.name.length:Int)
  ·rw[if_pos h2]
   have:¬ (x.name.length<=24):=by omega
   exact⟨by simp[this],g3⟩
  ·rw[if_neg h2]
   have h2':x.name.length<=24:=by omega
   by_cases h3:400<(x.rows.length:Int)
   ·rw[if_pos h3]
    have:¬ (x.rows.length<=400):=by omega
    exact⟨by simp[this],g3⟩
   ·rw[if_neg h3]
    have h3':x.rows.length<=400:=by omega
    simp only[h1',h2',h3',decide_true,ybo]
    cases hs:fU x.rows (x.rows.length-1)with
    | false=>exact⟨by simp,g3⟩
    | true=>
     rw[c119];simp only[if_true,xA,pD,ybo];exact⟨by trivial,g3⟩
end Go.Proofs
namespace Go.Am
open Go Go.RowKit
def vD (t:Tr lA)(b:Nat)(lo:Option Nat)(cs:List zA):Prop:=∃c,t.get b=some (.cells c cs.length lo)/\∀(j:Nat) a,cs[j]?=some a->c.get j=some a
def yJ(cs:List zA)(j:Nat)(l:List zA):List zA:=cs.take j++(l++cs.drop (j+l.length))
theorem tY{cs l:List zA}{j:Nat}(h:j+l.length<=cs.length):(yJ cs j l).length=cs.length:=by
 unfold yJ;simp;omega
theorem mW{cs l:List zA}{j:Nat}(h:j+l.length<=cs.length)(k:Nat):(yJ cs j l)[k]?=if j<=k/\k<j+l.length then l[k-j]? else cs[k]?:=by
 have ht:(cs.take j).length=j:=by simp;omega
 unfold yJ;rw[List.getElem?_append,ht];split
 ·rename_i h1
  rw[if_neg (by omega),ycg,if_pos h1]
 ·rename_i h1
  rw[List.getElem?_append];split
  ·rw[if_pos (by omega)]
  ·rw[if_neg (by omega),ycf];congr 1;omega
section
variable {t tf:Tr lA}{C:iA}{b:Nat}{lo:Option Nat}{cs:List zA}
theorem vD.at(h:vD t b lo cs):At t b 0 cs:=by
 obtain⟨c,h1,h2⟩:=h
 exact⟨c,_,_,h1,fun j a hj=>by rw[yax];exact h2 j a hj⟩
theorem vD.off(h:vD t b lo cs){t':Tr lA}(k:t'.get b=t.get b):vD t' b lo cs:=by
 obtain⟨c,h1,h2⟩:=h
 exact⟨c,by rw[k];exact h1,h2⟩
theorem vD.load1(h:vD t b lo cs){j:Nat}{a:zA}{ty:Nat}{y:wD}(hy:C.tys.get ty=some y)(ha:y.desc.isAgg=false)(hj:cs[j]?=some a):jA C ty ⟨0,t⟩ (.ptr b j)=some a:=by
 have:=h.at.load1 hy ha hj
 rw[yax]at this;exact this
theorem vD.store(h:vD t b lo cs)(hb:C.base<=b){j T:Nat}{y:wD}{v:zA}(hT:C.tys.get T=some y)(hl:v.cells.length=y.size)(hj:j+v.cells.length<=cs.length)(hone:pB zA.one v.cells=true) :
  ∃t',(∀n,lD C T (.ptr b j) v ⟨n,t⟩=some (tE,⟨n,t'⟩))/\vD t' b lo (yJ cs j v.cells)/\oD b t t':=by
 obtain⟨c,h1,h2⟩:=h
 refine⟨t.set b (.cells (c.setMany v.cells j) cs.length lo),fun n=>?_,⟨c.setMany v.cells j,?_,fun k a hk=>?_⟩,fun d hd=>by rw[Tr.get_set,if_neg hd]⟩
 ·unfold lD
  rw[hT,sA];simp only[zA.asPtr,sA];have e1:Nat.beq (wB v.cells) y.size=true:=by rw[fD,hl];exact wC.2 rfl
  rw[e1,dE];unfold iK rD;have e2:(!Nat.blt b C.base)=true:=by
   cases hq:Nat.blt b C.base with
   | true=>have:=oC.1 hq;omega
   | false=>rfl
  rw[e2,dE,h1,sA];simp only[lA.asCells,sA];have e3:Nat.ble (j+wB v.cells) cs.length=true:=by rw[fD];exact oE.2 hj
  rw[e3,hone];rfl
 ·rw[Tr.get_set,if_pos rfl,tY hj]
 ·rw[mW hj]at hk
  rw[Tr.get_setMany];split
  ·rename_i e;rw[if_pos e]at hk;exact hk
  ·rename_i e;rw[if_neg e]at hk;exact h2 k a hk
theorem vD.store1(h:vD t b lo cs)(hb:C.base<=b){j T:Nat}{y:wD}{v:zA}(hT:C.tys.get T=some y)(hs:y.size=1)(hv:v.cells=[v])(hone:zA.one v=true)(hj:j<cs.length) :
  ∃t',(∀n,lD C T (.ptr b j) v ⟨n,t⟩=some (tE,⟨n,t'⟩))/\vD t' b lo (cs.set j v)/\oD b t t':=by
 obtain⟨t',h1,h2,h3⟩:=h.store hb hT (v:=v) (j:=j) (by rw[hv,hs];rfl) (by rw[hv];exact hj) (by rw[hv];show(bif zA.one v then true else false)=true;rw[hone];rfl)
 refine⟨t',h1,?_,h3⟩
 have e:yJ cs j v.cells=cs.set j v:=by
  rw[hv];apply List.ext_getElem?
  intro k;rw[mW (by exact hj),ybx]
  by_cases e:j=k
  ·subst e;rw[if_pos (by simp),if_pos rfl,if_pos hj];simp
  ·rw[if_neg (by simp;omega),if_neg e]
 rw[e]at h2;exact h2
theorem zcr{b:Nat}(hb:t.get b=none)(cs:List zA)(lo:Option Nat):∃t',nF ⟨b,t⟩ cs lo=⟨b+1,t'⟩/\vD t' b lo cs/\dA t t'/\oD b t t':=
 ⟨t.set b (.cells (Tr.ofList cs) (wB cs) lo),rfl,⟨Tr.ofList cs,by rw[Tr.get_set,if_pos rfl,fD],fun j a hj=>by rw[Tr.get_ofList];exact hj⟩,(uJ hb _).1,(uJ hb _).2⟩
theorem rU{b T:Nat}{y:wD}(hT:C.tys.get T=some y)(hb:t.get b=none):∃t',jK C T ⟨b,t⟩=some (.ptr b 0,⟨b+1,t'⟩)/\vD t' b none y.zero/\dA t t'/\oD b t t':=by
 obtain⟨t',h1,h2,h3,h4⟩:=zcr hb y.zero none
 refine⟨t',?_,h2,h3,h4⟩
 unfold jK;rw[hT,sA,<- h1]
theorem zx5{b:Nat}{v:zA}(hb:t.get b=none):∃t',zsh v ⟨b,t⟩=some (.ptr b 0,⟨b+1,t'⟩)/\vD t' b none v.cells/\dA t t'/\oD b t t':=by
 obtain⟨t',h1,h2,h3,h4⟩:=zcr hb v.cells none
 exact⟨t',by unfold zsh;rw[<- h1],h2,h3,h4⟩
def OwnD (base:Nat)(tf t:Tr lA)(sz:Nat)(l:List D)(b:Nat)(lo:Option Nat):Prop:=
 base<=b/\tf.get b=none/\∃cl,vD t b lo cl.flatten/\(∀(i:Nat) cs,cl[i]?=some cs->cs.length=sz)/\mC tf l cl
theorem OwnD.read{base sz n:Nat}{l:List D}(h:OwnD base tf t sz l b lo)(hlo:lo=none\/lo=some sz)(ht:dA tf t)(hn:l.length=n){cap:Nat}(hc:n<=cap):oA t sz l (.slice b 0 n cap):=by
 obtain⟨_,_,cl,⟨c,h1,h2⟩,h3,h4⟩:=h
 have hlen:=h4.length
 refine⟨cl,.inr ⟨b,0,cap,by rw[hlen,hn],by omega,⟨c,_,_,h1,hlo⟩,fun i cs hi=>⟨h3 i cs hi,c,_,_,h1,fun j a hj=>?_⟩⟩,mC.mono ht _ _ h4⟩
 rw[yax];exact h2 _ _ (qQ h3 i j cs a hi hj)
theorem z09{sz:Nat}:∀ {cl:List (List zA)},(∀(i:Nat) cs,cl[i]?=some cs->cs.length=sz)->∀ {i o:Nat} {cs l:List zA},cl[i]?=some cs->o+l.length<=sz->yJ cl.flatten (i*sz+o) l=(cl.set i (yJ cs o l)).flatten:=by
 intro cl h i o cs l hi ho;have hlt:i<cl.length:=(yad.1 hi).1
 have hcs:=h i cs hi
 have hfl:=rQ h
 have hb:i*sz+sz<=cl.length*sz:=by
  have:=yaj sz (show i+1<=cl.length by omega)
  rw[yap]at this;omega
 have hov:(yJ cs o l).length=sz:=by rw[tY (by omega)];exact hcs
 have h':∀(k:Nat) c,(cl.set i (yJ cs o l))[k]?=some c->c.length=sz:=by
  intro k c hk;rw[ybx]at hk;split at hk
  ·cases hk;exact hov
  ·exact h k c hk
 have hfl':=rQ h'
 rw[yci]at hfl'
 have hsz:∀k,k<cl.length*sz->k / sz<cl.length/\k%sz<sz:=by
  intro k hk;have hpos:0<sz:=by
   rcases Nat.eq_zero_or_pos sz with e | e
   ·subst e;simp at hk
   ·exact e
  exact⟨ybv (by rw[yai];exact hk),ybz _ hpos⟩
 apply List.ext_getElem?
 intro k;rw[mW (by rw[hfl];omega)]
 by_cases hk:k<cl.length*sz
 ·obtain⟨k1,k2⟩:=hsz k hk
  have hdm:=ybi k sz
  have hkk:k=k / sz*sz+k%sz:=by rw[yai];exact hdm.symm
  have hq:cl[k / sz]?=some cl[k / sz]:=yae k1
  have hql:=h _ _ hq
  have e1:cl.flatten[k]?=cl[k / sz][k%sz]?:=by
   have hx:cl[k / sz][k%sz]?=some cl[k / sz][k%sz]:=yae (by omega)
   rw[hx];conv=>lhs;rw[hkk]
   exact qQ h _ _ _ _ hq hx
  have e2:∀c,(cl.set i (yJ cs o l))[k / sz]?=some c->(cl.set i (yJ cs o l)).flatten[k]?=c[k%sz]?:=by
   intro c hc;have hcl:=h' _ _ hc
   have hx:c[k%sz]?=some c[k%sz]:=yae (by omega)
   rw[hx];conv=>lhs;rw[hkk]
   exact qQ h' _ _ _ _ hc hx
  by_cases hi2:k / sz=i
  ·have hc:(cl.set i (yJ cs o l))[k / sz]?=some (yJ cs o l):=by rw[hi2,ybx,if_pos rfl,if_pos hlt]
   rw[e2 _ hc,mW (by omega)]
   rw[hi2]at hkk;have hcs2:cl[k / sz]=cs:=by
    have:cl[k / sz]?=some cs:=by rw[hi2];exact hi
    rw[hq]at this;exact ybj this
   by_cases hin:o<=k%sz/\k%sz<o+l.length
   ·rw[if_pos (by omega),if_pos hin];congr 1;omega
   ·rw[if_neg (by omega),if_neg hin,e1,hcs2]
  ·have hc:(cl.set i (yJ cs o l))[k / sz]?=some cl[k / sz]:=by rw[ybx,if_neg (fun e=>hi2 e.symm)];exact hq
   rw[e2 _ hc,e1,if_neg];intro⟨a1,a2⟩
   apply hi2
   have hpos:0<sz:=by omega
   exact Nat.div_eq_of_lt_le (by omega) (by rw[yap];omega)
 ·rw[if_neg (by omega),List.getElem?_eq_none (by rw[hfl];omega),List.getElem?_eq_none (by rw[hfl'];omega)]
theorem mC.set:∀ {l:List D} {cl:List (List zA)} {i:Nat} {d:D} {cs:List zA},mC tf l cl->RD tf d cs->mC tf (l.set i d) (cl.set i cs):=by
 intro l;induction l with
 | nil=>intro cl i d cs h _;rw[gE]at h;subst h;exact gE.2 rfl
 | cons e l ih=>
  intro cl i d cs h k;rw[eD]at h;obtain⟨c,r,rfl,h1,h2⟩:=h
  cases i with
  | zero=>exact eD.2 ⟨cs,r,rfl,k,h2⟩
  | succ i=>exact eD.2 ⟨c,r.set i cs,rfl,h1,ih h2 k⟩
theorem OwnD.grow{base sz:Nat}{l:List D}(h:OwnD base tf t sz l b lo){tf' t':Tr lA}(hf:dA tf tf')(hb:tf'.get b=none)(ht:t'.get b=t.get b):OwnD base tf' t' sz l b lo:=by
 obtain⟨h1,h2,cl,h3,h4,h5⟩:=h
 exact⟨h1,hb,cl,h3.off ht,h4,mC.mono hf _ _ h5⟩
theorem OwnD.cells{base sz:Nat}{l:List D}(h:OwnD base tf t sz l b lo){i:Nat}{d:D}(hi:l[i]?=some d):∃cs,cs.length=sz/\RD tf d cs/\At t b (i*sz) cs:=by
 obtain⟨h1,h2,cl,⟨c,h3,h4⟩,h5,h6⟩:=h
 obtain⟨cs,k1,k2⟩:=h6.get hi
 exact⟨cs,h5 i cs k1,k2,c,_,_,h3,fun j a hj=>h4 _ _ (qQ h5 i j cs a k1 hj)⟩
theorem OwnD.store{sz:Nat}{l:List D}(h:OwnD C.base tf t sz l b lo){i o T:Nat}{d d':D}{y:wD}{v:zA}(hi:l[i]?=some d)(hT:C.tys.get T=some y)(hl:v.cells.length=y.size)(ho:o+v.cells.length<=sz)(hone:pB zA.one v.cells=true)
  (hd:∀cs,cs.length=sz->RD tf d cs->RD tf d' (yJ cs o v.cells)) :
  ∃t',(∀n,lD C T (.ptr b (i*sz+o)) v ⟨n,t⟩=some (tE,⟨n,t'⟩))/\OwnD C.base tf t' sz (l.set i d') b lo/\oD b t t':=by
 obtain⟨h1,h2,cl,h3,h5,h6⟩:=h
 obtain⟨cs,k1,k2⟩:=h6.get hi
 have hlt:i<cl.length:=(yad.1 k1).1
 have hfl:=rQ h5
 have hb:i*sz+sz<=cl.length*sz:=by
  have:=yaj sz (show i+1<=cl.length by omega)
  rw[yap]at this;omega
 obtain⟨t',g1,g2,g3⟩:=h3.store h1 hT hl (j:=i*sz+o) (by rw[hfl];omega) hone
 rw[z09 h5 k1 ho]at g2;refine⟨t',g1,⟨h1,h2,_,g2,fun k c hk=>?_,h6.set (hd cs (h5 i cs k1) k2)⟩,g3⟩
 rw[ybx]at hk;split at hk
 ·cases hk
  rw[tY (by rw[h5 i cs k1];exact ho)]
  exact h5 i cs k1
 ·exact h5 k c hk
end
end Go.Am
namespace Go.Proofs
open Go Go.Am
variable [cC]
variable {t:Tr lA}
mutual
/-- parts are counted, up to a limit -/
def bL:uA->Nat->Nat->Bool × Nat
 | .mk _ _ _ args,deep,c=>if 200<c+1 then(false,c+1)else if 24<deep then(false,c+1)else aL args (deep+1) (c+1)
def aL:List uA->Nat->Nat->Bool × Nat
 | [],_,c=>(true,c)
 | x::l,deep,c=>if (bL x deep c).1=true then aL l deep (bL x deep c).2 else(false,(bL x deep c).2)
end
mutual
theorem zb9:∀(x:uA) (deep c:Nat),c<=200->(bL x deep c).2<=201/\((bL x deep c).1=true->(bL x deep c).2<=200)
 | .mk _ _ _ args,deep,c,h=>by
  unfold bL;split
  ·simp;omega
  ·split
   ·simp;omega
   ·exact zh8 args (deep+1) (c+1) (by omega)
theorem zh8:∀(l:List uA) (deep c:Nat),c<=200->(aL l deep c).2<=201/\((aL l deep c).1=true->(aL l deep c).2<=200)
 | [],deep,c,h=>by unfold aL;simp;omega
 | x::l,deep,c,h=>by
  have h1:=zb9 x deep c h
  unfold aL;split
  ·rename_i e
   exact zh8 l deep _ (h1.2 e)
  ·simp;omega
end
theorem zgk{x:uA}{a b c:zA}(ha:zA.one a=true)(hb:zA.one b=true)(hc:zA.one c=true):pB zA.one [.int .u8 x.op,.str x.name,.int .u8 x.v.kind,.bool x.v.f.n.neg,a,.bool x.v.f.d.neg,b,.int .i64 x.v.i,c]=true:=by
 rw[mF];simp only[ybh,ybl,ha,hb,hc];rfl
theorem zdg{l:List uA}{v:zA}(hv:oA t 9 (l.map uA.d) v){i:Nat}{x:uA}(hx:l[i]?=some x) :
  ∃b off a c d,xB yA 48 v (.int .i64 (i:Int))=some (.ptr b off)/\jA yA 50 ⟨0,t⟩ (.ptr b off)=some (.agg (jC x a c d))/\RD t x.d (jC x a c d)/\wG [(.int .u8 0),(.str []),(.int .u8 0),(.bool false),.nilslice,(.bool false),.nilslice,(.int .i64 0),.nilslice] (.agg (jC x a c d))=some (cellsOf (jC x a c d)) ∧
   oA t 1 (lC x.v.f.n.limbs) a/\oA t 1 (lC x.v.f.d.limbs) c/\oA t 9 (x.args.map uA.d) d:=by
 obtain⟨b,off,cs,g1,g2,_,_,g5⟩:=rE.at zzm (by simp) hv (i:=i) (d:=x.d) (by simp[hx])
 have hz:=pI g5 x.zs
 obtain⟨a,c,d,rfl,h1,h2,h3⟩:=bI g5
 exact⟨b,off,a,c,d,g1,g2,g5,hz,h1,h2,h3⟩
section
variable {tf:Tr lA}{c w:Nat}
mutual
theorem zr9:∀(x:uA) (deep n:Nat) (cs:List zA) (t:Tr lA) (Q:kB),x.ok->deep<=25->n<=200->RD tf x.d cs->dA tf t->yA.base<=c->tf.get c=none->vD tf w none [.func (.func 116) [] [.ptr c 0,.ptr w 0]]->vD t c none [.int .i64 (n:Int)] →
  (∀t',oD c t t'->dA tf t'->vD t' c none [.int .i64 ((bL x deep n).2:Int)]->Q (.bool (bL x deep n).1) t')->Wc yA F 116 [.agg cs,.int .i64 (deep:Int),.ptr c 0,.ptr w 0] t Q
 | .mk op name v args,deep,n,cs,t,Q,hx,hdeep,hn,h,ht,hc,hfc,hw,hcel,hQ=>by
  obtain⟨a,b,d,rfl,ha,hb,hd⟩:=bI h
  simp only[uA.op,uA.name,uA.v,uA.args]at ha hb hd;have hx':=hx
  unfold uA.ok xE at hx';have l0:jA yA 3 ⟨0,t⟩ (.ptr c 0)=some (.int .i64 (n:Int)):=hcel.load1 ty3 rfl rfl
  obtain⟨t1,s1,s2,s3⟩:=hcel.store1 (C:=yA) hc (j:=0) (v:=.int .i64 ((n+1:Nat):Int)) ty3 rfl rfl rfl (by simp)
  have s2:vD t1 c none [.int .i64 ((n+1:Nat):Int)]:=s2
  have ht1:dA tf t1:=ht.off hfc s3
  have l1:jA yA 3 ⟨0,t1⟩ (.ptr c 0)=some (.int .i64 ((n+1:Nat):Int)):=s2.load1 ty3 rfl rfl
  have e1:(n:Int)+1=((n+1:Nat):Int):=by omega
  refine w116 _ _ _ _ _ _ _ _ _ _ _ _ ?_
  simp only[t116,qA];rw[l0,xA,yB,xA,e1,zC (by omega) (by omega)]
  intro m _ _;rw[s1,xA,l1,xA,yB,xA];simp only[dB];unfold bL at hQ;by_cases h1:200<n+1
  ·rw[if_pos (by omega)]
   rw[if_pos h1]at hQ;exact hQ t1 s3 ht1 s2
  ·rw[if_neg (by omega)]
   rw[if_neg h1]at hQ;by_cases h2:24<deep
   ·rw[if_pos (by omega)]
    rw[if_pos h2]at hQ;exact hQ t1 s3 ht1 s2
   ·rw[if_neg (by omega)]
    rw[if_neg h2]at hQ;rw[(hd.mono ht1).len,xA,yag,yB,xA]
    exact zm3 args args deep (n+1) d 0 t1 Q hd rfl hx'.2.2.2 hx'.2.2.1 (by omega) (by omega) ht1 hc hfc hw s2 (fun t' k1 k2 k3=>hQ t' (s3.trans k1) k2 k3)
theorem zm3:∀(l args:List uA) (deep n:Nat) (d:zA) (i:Nat) (t:Tr lA) (Q:kB),oA tf 9 (args.map uA.d) d->args.drop i=l->uA.oks l->args.length<1125899906842624->deep<=24->n<=200->dA tf t->yA.base<=c->tf.get c=none->vD tf w none [.func (.func 116) [] [.ptr c 0,.ptr w 0]]->vD t c none [.int .i64 (n:Int)] →
  (∀t',oD c t t'->dA tf t'->vD t' c none [.int .i64 ((aL l (deep+1) n).2:Int)]->Q (.bool (aL l (deep+1) n).1) t')->jp 116 2 [.int .i64 (deep:Int),.ptr w 0,d,.int .i64 (args.length:Int),.int .i64 (i:Int)] t Q
 | [],args,deep,n,d,i,t,Q,hd,hl,hok,hsz,hdeep,hn,ht,hc,hfc,hw,hcel,hQ=>by
  have:=vX hl
  refine z3v _ _ _ _ _ ?_
  simp only[ztv,qA,dB];rw[if_neg (by omega)]
  unfold aL at hQ;exact hQ t (oD.refl _ _) ht hcel
 | x::l,args,deep,n,d,i,t,Q,hd,hl,hok,hsz,hdeep,hn,ht,hc,hfc,hw,hcel,hQ=>by
  obtain⟨h1,h2,h3⟩:=uX hl
  have hok':=hok
  unfold uA.oks at hok';obtain⟨b',off,a1,b1,c1,g1,g2,g3,g4,g5,g6,g7⟩:=zdg (hd.mono ht) h1
  obtain⟨b2,off2,a2,c2,d2,k1,k2,k3,k4,k5,k6,k7⟩:=zdg hd h1
  have e:b'=b2/\off=off2:=by rw[g1]at k1;cases k1; (first | exact⟨rfl,rfl⟩ | exact⟨rfl,trivial⟩ | trivial)
  obtain⟨rfl,rfl⟩:=e
  have e2:=fP (HA:=⟨0,t⟩) (fun _ _ h=>ht _ _ h) k2
  rw[g2]at e2;have e3:jC x a1 b1 c1=jC x a2 c2 d2:=by cases e2;rfl
  rw[<- e3]at k3;have lw:jA yA 73 ⟨0,t⟩ (.ptr w 0)=some (.func (.func 116) [] [.ptr c 0,.ptr w 0]):=fP (H:=⟨0,tf⟩) (fun _ _ h=>ht _ _ h) (hw.load1 ty73 rfl rfl)
  have f:∀a b,wM (.func (.func 116) [] [.ptr c 0,.ptr w 0]) [a,b]=some (116,[a,b,.ptr c 0,.ptr w 0]):=fun _ _=>rfl
  have e1:(deep:Int)+1=((deep+1:Nat):Int):=by omega
  refine z3v _ _ _ _ _ ?_
  simp only[ztv,qA,dB];rw[if_pos (by omega),g1,xA,g2,xA,g4,xA]
  simp only[jC,cellsOf,bF,lF,sF,iG,yaa,yab];refine aA (zgk g5.one g6.one g7.one) ?_
  rw[lw,xA,f,xA,e1,zC (by omega) (by omega),q116]
  have hle:=zb9 x (deep+1) n hn
  refine zr9 x (deep+1) n _ t _ hok'.1 (by omega) hn k3 ht hc hfc hw hcel fun t' m1 m2 m3=>?_
  rw[pD,xA];unfold aL at hQ
  cases hq:(bL x (deep+1) n).1 with
  | false=>
   rw[hq,if_neg (by simp)]at hQ
   simp only[ybm,if_true];exact hQ t' m1 m2 m3
  | true=>
   rw[hq,if_pos rfl]at hQ;simp only[Bool.not_true,yar,if_false];rw[zC (by omega) (by omega),show(i:Int)+1=((i+1:Nat):Int) by omega]
   exact zm3 l args deep _ d (i+1) t' Q hd h2 hok'.2 hsz hdeep (hle.2 hq) m2 hc hfc hw m3 fun t'' p1 p2 p3=>hQ t'' (m1.trans p1) p2 p3
end
end
def zR(x:uA):Bool:=(bL x 1 0).1
theorem zno{x:uA}{cs:List zA}(hx:x.ok)(h:RD t x.d cs):sD yA F 63 [.agg cs] t=some (.bool (zR x)):=by
 obtain⟨a,b,d,rfl,ha,hb,hd⟩:=bI h
 refine zij (w63 _ _ _ _ _ _ _ _ _ ?_)
 simp only[t63,qA];intro c hc hcb;obtain⟨t1,g1,g2,g3,g4⟩:=rU (C:=yA) ty3 hc
 rw[g1,xA];intro m1 _ _;obtain⟨t2,s1,s2,s3⟩:=g2.store1 (C:=yA) hcb (j:=0) (v:=.int .i64 ((0:Nat):Int)) ty3 rfl rfl rfl (by decide)
 have s1':lD yA 3 (.ptr c 0) (.int .i64 0) ⟨m1,t1⟩=some (tE,⟨m1,t2⟩):=s1 m1
 rw[s1',xA];intro w hw hwb;have hwc:w≠c:=by
  intro e;subst e;obtain⟨x,hx,_⟩:=s2
  rw[hx]at hw;cases hw
 have htw:t.get w=none:=by
  cases hq:t.get w with
  | none=>rfl
  | some y=>have:=(g3.off hc s3) _ _ hq;rw[hw]at this;cases this
 obtain⟨t3,g5,g6,g7,g8⟩:=rU (C:=yA) ty73 hw
 rw[g5,xA];intro m2 _ _;obtain⟨t4,s4,s5,s6⟩:=g6.store1 (C:=yA) hwb (j:=0) (v:=.func (.func 116) [] [.ptr c 0,.ptr w 0]) ty73 rfl rfl rfl (by decide)
 have s4':=s4 m2
 rw[s4',xA];have s5:vD t4 w none [.func (.func 116) [] [.ptr c 0,.ptr w 0]]:=s5
 have lw:jA yA 73 ⟨0,t4⟩ (.ptr w 0)=some (.func (.func 116) [] [.ptr c 0,.ptr w 0]):=s5.load1 ty73 rfl rfl
 have f:∀a b,wM (.func (.func 116) [] [.ptr c 0,.ptr w 0]) [a,b]=some (116,[a,b,.ptr c 0,.ptr w 0]):=fun _ _=>rfl
 rw[lw,xA,f,xA,q116];have hc4:t4.get c=t2.get c:=by rw[s6 c (Ne.symm hwc),g8 c (Ne.symm hwc)]
 have hcel:vD t4 c none [.int .i64 ((0:Nat):Int)]:=s2.off hc4
 obtain⟨blk,hblk,hblk2⟩:=s5
 have htf:dA t (t.set w (.cells blk 1 none)):=(uJ htw _).1
 have hft:dA (t.set w (.cells blk 1 none)) t4:=by
  intro k y hk;rw[Tr.get_set]at hk;split at hk
  ·rename_i e;subst e;cases hk;exact hblk
  ·rename_i e
   have hkc:k≠c:=by intro e';subst e';rw[hc]at hk;cases hk
   rw[s6 k e,g8 k e,s3 k hkc,g4 k hkc];exact hk
 refine zr9 (tf:=t.set w (.cells blk 1 none)) (c:=c) (w:=w) x 1 0 _ t4 _ hx (by omega) (by omega) (RD.mono htf _ _ h) hft hcb (by rw[Tr.get_set,if_neg (Ne.symm hwc)];exact hc) ⟨blk,by rw[Tr.get_set,if_pos rfl];rfl,hblk2⟩ hcel fun t' k1 k2 k3=>?_
 rw[pD,xA];exact⟨rfl,htf.trans k2⟩
end Go.Proofs
namespace Go.Proofs
open Go Go.Am
variable [cC]
variable {t:Tr lA}
def kN(x:dC)(a b c a' b' c':zA):List zA:=[.str x.name,.str x.label,.int .i64 x.from_,.int .i64 x.to,.int .i64 x.known,.bool x.off,.int .u8 x.when_.op,.str x.when_.name,.int .u8 x.when_.v.kind,.bool x.when_.v.f.n.neg,a,.bool x.when_.v.f.d.neg,b,.int .i64 x.when_.v.i,c,.int .u8 x.then_.op,.str x.then_.name,.int .u8 x.then_.v.kind,.bool x.then_.v.f.n.neg,a',.bool x.then_.v.f.d.neg,b',.int .i64 x.then_.v.i,c']
def zfs:List zA:=[(.str []),(.str []),(.int .i64 0),(.int .i64 0),(.int .i64 0),(.bool false),(.int .u8 0),(.str []),(.int .u8 0),(.bool false),.nilslice,(.bool false),.nilslice,(.int .i64 0),.nilslice,(.int .u8 0),(.str []),(.int .u8 0),(.bool false),.nilslice,(.bool false),.nilslice,(.int .i64 0),.nilslice]
theorem zqj{x:dC}{a b c a' b' c':zA}(ha:zA.one a=true)(hb:zA.one b=true)(hc:zA.one c=true)(ha':zA.one a'=true)(hb':zA.one b'=true)(hc':zA.one c'=true):pB zA.one (kN x a b c a' b' c')=true:=by
 rw[mF];simp only[kN,ybh,ybl,ha,hb,hc,ha',hb',hc'];rfl
theorem zdk{l:List dC}{v:zA}(hv:oA t 24 (l.map dC.d) v){i:Nat}{x:dC}(hx:l[i]?=some x) :
  ∃p off a b c a' b' c',xB yA 24 v (.int .i64 (i:Int))=some (.ptr p off)/\jA yA 52 ⟨0,t⟩ (.ptr p off)=some (.agg (kN x a b c a' b' c'))/\wG zfs (.agg (kN x a b c a' b' c'))=some (cellsOf (kN x a b c a' b' c')) ∧
   RD t x.when_.d (jC x.when_ a b c)/\RD t x.then_.d (jC x.then_ a' b' c')/\pB zA.one (kN x a b c a' b' c')=true:=by
 obtain⟨p,off,cs,g1,g2,_,_,g5⟩:=rE.at sl24 (by simp) hv (i:=i) (d:=x.d) (by simp[hx])
 have hz:=pI g5 x.zs
 obtain⟨a,b,c,a',b',c',rfl,h1,h2⟩:=uY g5
 obtain⟨u1,u2,u3,e1,m1,m2,m3⟩:=bI h1
 obtain⟨w1,w2,w3,e2,n1,n2,n3⟩:=bI h2
 unfold jC at e1 e2
 cases e1
 cases e2
 exact⟨p,off,_,_,_,_,_,_,g1,g2,hz,h1,h2,zqj m1.one m2.one m3.one n1.one n2.one n3.one⟩
def pQ(c:dC):Bool:=zR c.when_&&zR c.then_
def jL(p:fF):Bool:=decide (p.defs.length<=64)&&decide (p.clauses.length<=400)&&decide (p.tables.length<=16)&&p.clauses.all pQ&&p.tables.all jP
theorem zku{l:List nE}{v:zA}(hv:oA t 3 (l.map nE.d) v)(hn:l.length<1125899906842624)(hf:∀x∈l,x.fit):∀(k i:Nat),i+k=l.length->jp 33 6 [v,.int .i64 (l.length:Int),.int .i64 (i:Int)] t (fun r m=>r=.bool ((l.drop i).all jP)/\m=t):=by
 intro k;induction k with
 | zero=>
  intro i hi;refine j33_6 _ _ _ ?_
  simp only[z4w,qA,dB];rw[if_neg (by omega),yau (by omega)]
  (first | exact⟨rfl,rfl⟩ | exact⟨rfl,trivial⟩ | trivial)
 | succ k ih=>
  intro i hi;have h1:i<l.length:=by omega
  obtain⟨b,off,cs,g1,g2,_,_,g5⟩:=rE.at sl23 (by simp) hv (i:=i) (d:=l[i].d) (by simp[yae h1])
  have hz:=pI g5 (nE.zs _)
  obtain⟨a,rfl,ha⟩:=nW g5
  have hfit:=hf _ (ybk h1)
  have hone:pB zA.one [.str l[i].name,.bool l[i].two,a]=true:=by rw[mF];simp only[ybh,ybl,ha.one];rfl
  refine j33_6 _ _ _ ?_
  simp only[z4w,qA,dB];rw[if_pos (by omega),g1,xA,g2,zkl,xA,hz,xA]
  simp only[cellsOf,iG,lF,sF,yaa,yab];refine aA hone ?_
  rw[q64,zsa ha hfit.2.1 hfit.1 (fun r hr=>(hfit.2.2 r hr).2.2.2),xA,pD,xA,yam h1,ybh]
  cases hq:jP l[i]with
  | false=>simp
  | true=>
   simp only[Bool.not_true,yar,if_false,ybo];rw[zC (by omega) (by omega)]
   exact ih (i+1) (by omega)
theorem zju{p:fF}{l:List dC}{v a b:zA}(hp:l=p.clauses)(hv:oA t 24 (l.map dC.d) v)(hb:oA t 3 (p.tables.map nE.d) b)(hn:l.length<1125899906842624)(hnt:p.tables.length<1125899906842624)(hf:∀x∈l,x.fit)(hft:∀x∈p.tables,x.fit):∀(k i:Nat),i+k=l.length->jp 33 2 [v,.int .i64 (l.length:Int),.int .i64 (i:Int),.str p.name,a,b,v] t (fun r m=>r=.bool ((l.drop i).all pQ&&p.tables.all jP)/\m=t):=by
 intro k;induction k with
 | zero=>
  intro i hi;refine j33_2 _ _ _ _ _ _ _ ?_
  simp only[z4x,qA,dB];rw[if_neg (by omega),yau (by omega),hb.len,xA,yag,yB,xA]
  have:=zku hb hnt hft p.tables.length 0 (by omega)
  rw[ybs]at this;exact this
 | succ k ih=>
  intro i hi;have h1:i<l.length:=by omega
  obtain⟨q,off,u1,u2,u3,w1,w2,w3,g1,g2,g3,g4,g5,g6⟩:=zdk hv (yae h1)
  have hfit:=hf _ (ybk h1)
  refine j33_2 _ _ _ _ _ _ _ ?_
  simp only[z4x,qA,dB];unfold zfs at g3;rw[if_pos (by omega),g1,xA,g2,xA,g3,xA]
  unfold kN at g6;simp only[kN,cellsOf,bF,iG,lF,sF,yaa,yab];have s1:=zno (uA.fit_ok hfit.2.2.2.2.2.1) g4
  have s2:=zno (uA.fit_ok hfit.2.2.2.2.2.2) g5
  unfold jC at s1 s2;refine aA g6 ?_
  rw[q63,s1,xA,pD,xA,q63,s2,xA,pD,xA,yam h1,ybh];have e:pQ l[i]=(zR l[i].when_&&zR l[i].then_):=rfl
  rw[e]
  cases hq:zR l[i].when_ with
  | false=>simp
  | true=>
   cases hq2:zR l[i].then_ with
   | false=>simp
   | true=>
    simp only[Bool.not_true,yar,if_false,ybo];rw[zC (by omega) (by omega)]
    exact ih (i+1) (by omega)
theorem zri{p:fF}{cs:List zA}(hp:p.fit)(h:RD t p.d cs):sD yA F 33 [.agg cs] t=some (.bool (jL p)):=by
 obtain⟨a,b,c,rfl,ha,hb,hc⟩:=yV h
 obtain⟨p1,p2,p3,p4,p5,p6,p7⟩:=hp
 unfold xE at p1 p2 p3 p4;refine oF.2 (w33 _ _ _ _ ?_)
 simp only[t33,qA,ha.len,hb.len,hc.len,xA,yB,yag,dB];unfold jL;by_cases h1:p.defs.length<=64
 ·rw[if_neg (by omega)]
  by_cases h2:p.clauses.length<=400
  ·rw[if_neg (by omega)]
   by_cases h3:p.tables.length<=16
   ·rw[if_neg (by omega)]
    simp only[h1,h2,h3,decide_true,ybo];have:=zju (a:=a) rfl hc hb (by omega) (by omega) p7 p6 p.clauses.length 0 (by omega)
    rw[ybs]at this;exact this
   ·rw[if_pos (by omega)];simp[h3]
  ·rw[if_pos (by omega)];simp[h2]
 ·rw[if_pos (by omega)];simp[h1]
end Go.Proofs
namespace Go.Am
structure XIns where
 op:Nat
 a:Int
 b:Int
def kI (k:List Nat):List (List Nat)->Nat
 | []=>0
 | x::l=>if k=x then 0 else kI k l+1
theorem zbg{k:List Nat}:∀ {l:List (List Nat)},k∈l->l[kI k l]?=some k
 | [],h=>by cases h
 | x::l,h=>by
  unfold kI;split
  ·rename_i e;rw[e];rfl
  ·rename_i e
   rcases yat.1 h with h | h
   ·exact absurd h e
   ·rw[yab];exact zbg h
theorem aT{k:List Nat}:∀ {l:List (List Nat)},k∉l->kI k l=l.length
 | [],_=>rfl
 | x::l,h=>by
  unfold kI;have h1:k≠x:=fun e=>h (by rw[e];exact yaz)
  rw[if_neg h1,aT (fun m=>h (yas _ m))];rfl
structure Nt where
 names:List (List Nat)
 consts:List zB
section
variable (key:zB->List Nat)(valid:zB->Bool)
def Nt.name(s:Nt)(n:List Nat):Nt:=if n∈s.names then s else⟨s.names++[n],s.consts⟩
def Nt.const(s:Nt)(v:zB):Nt:=if key v∈s.consts.map key then s else⟨s.names,s.consts++[v]⟩
def Nt.nameI(s:Nt)(n:List Nat):Nat:=kI n s.names
def Nt.constI(s:Nt)(v:zB):Nat:=kI (key v) (s.consts.map key)
def sH (op:Nat):Int × Int:=
 if op=1\/op=2 then(0,0)else if op=5 then(1,1)else if op=6 then(1,2)else if op=15\/op=16 then(2,2)else if op=18 then(3,3)
 else if op=3\/op=4\/op=17\/op=24\/op=25\/op=26 then(1,1)
 else if (7<=op/\op<=14)\/op=19\/op=20\/op=21\/op=23 then(2,2)else if op=22 then(3,3)else(1,0)
def sI(op:Nat)(v:zB)(n:Nat):Bool:=(decide (op≠1)||valid v)&&decide ((sH op).1<=n)&&decide ((n:Int)<=(sH op).2)
def yF(op:Nat)(name:List Nat)(v:zB)(n:Nat)(s:Nt):Nt × XIns:=
 if op=1 then(s.const key v,⟨1,s.constI key v,0⟩)
 else if op=2 then(s,⟨2,0,0⟩)
 else if op=3\/op=4\/op=5 then(s.name name,⟨op,s.nameI name,0⟩)
 else if op=6 then(s.name name,⟨6,s.nameI name,n⟩)
 else if op=21\/op=22\/op=23 then(s.name name,⟨8,s.nameI name,op⟩)
 else if op=19 then(s,⟨7,19,v.i⟩)
 else(s,⟨7,op,0⟩)
abbrev dG:=Nt->Nat->Nt × List XIns
def yG(n:Int):zB:=⟨1,⟨⟨false,[]⟩,⟨false,[]⟩⟩,n⟩
def nK(f g:dG)(skip:Nat)(truth:Int):dG:=fun s p=>
 ((g (f s p).1 (p+(f s p).2.length+1)).1.const key (yG truth),
  (f s p).2++⟨skip,((p+(f s p).2.length+1+(g (f s p).1 (p+(f s p).2.length+1)).2.length+2:Nat):Int),0⟩ ::
   ((g (f s p).1 (p+(f s p).2.length+1)).2++[⟨12,0,0⟩,⟨9,((p+(f s p).2.length+1+(g (f s p).1 (p+(f s p).2.length+1)).2.length+3:Nat):Int),0⟩,⟨1,(g (f s p).1 (p+(f s p).2.length+1)).1.constI key (yG truth),0⟩]))
def ifT (f g h:dG):dG:=fun s p=>
 ((h (g (f s p).1 (p+(f s p).2.length+1)).1 (p+(f s p).2.length+1+(g (f s p).1 (p+(f s p).2.length+1)).2.length+1)).1,
  (f s p).2++⟨10,((p+(f s p).2.length+1+(g (f s p).1 (p+(f s p).2.length+1)).2.length+1:Nat):Int),0⟩ ::
   ((g (f s p).1 (p+(f s p).2.length+1)).2++⟨9,((p+(f s p).2.length+1+(g (f s p).1 (p+(f s p).2.length+1)).2.length+1+(h (g (f s p).1 (p+(f s p).2.length+1)).1 (p+(f s p).2.length+1+(g (f s p).1 (p+(f s p).2.length+1)).2.length+1)).2.length:Nat):Int),0⟩ ::
    (h (g (f s p).1 (p+(f s p).2.length+1)).1 (p+(f s p).2.length+1+(g (f s p).1 (p+(f s p).2.length+1)).2.length+1)).2))
def kE:List dG->dG
 | [],s,_=>(s,[])
 | f::l,s,p=>((kE l (f s p).1 (p+(f s p).2.length)).1,(f s p).2++(kE l (f s p).1 (p+(f s p).2.length)).2)
def cH(op:Nat)(name:List Nat)(v:zB)(fs:List dG):dG:=fun s p=>
 if sI valid op v fs.length=false then(s,[⟨13,0,0⟩])
 else if op=15 then(match fs with | f::g::_=>nK key f g 10 0 s p | _=>(s,[]))
 else if op=16 then(match fs with | f::g::_=>nK key f g 11 1 s p | _=>(s,[]))
 else if op=18 then(match fs with | f::g::h::_=>ifT f g h s p | _=>(s,[]))
 else((yF key op name v fs.length (kE fs s p).1).1,(kE fs s p).2++[(yF key op name v fs.length (kE fs s p).1).2])
mutual
def yC:uA->dG
 | .mk op name v args=>cH key valid op name v (qE args)
def qE:List uA->List dG
 | []=>[]
 | x::l=>yC x::qE l
end
theorem zkt:∀l:List uA,(qE key valid l).length=l.length
 | []=>rfl
 | x::l=>by simp[qE,zkt l]
def vF:List dC->Nt->Nt × List (List XIns × List XIns)
 | [],s=>(s,[])
 | c::l,s=>((vF l (yC key valid c.then_ (yC key valid c.when_ s 0).1 0).1).1,((yC key valid c.when_ s 0).2,(yC key valid c.then_ (yC key valid c.when_ s 0).1 0).2)::(vF l (yC key valid c.then_ (yC key valid c.when_ s 0).1 0).1).2)
end
def wH(i:XIns):Int:=
 if i.op=3\/i.op=4\/i.op=5\/i.op=12 then 1
 else if i.op=6 then i.b
 else if i.op=7 then(if i.a%256=17\/i.a%256=24\/i.a%256=25\/i.a%256=26 then 1 else 2)
 else if i.op=8 then(if i.b=22 then 3 else 2)
 else 0
inductive Stp (code:List XIns) (bit:Nat->Bool):Nat->Int->Nat->Int->Prop
 | jump {p q:Nat} {d:Int} {i:XIns}:code[p]?=some i->i.op=9->i.a=(q:Int)->p<q->q<=code.length->Stp code bit p d q d
 | cond {p q:Nat} {d:Int} {i:XIns}:code[p]?=some i->(i.op=10\/i.op=11)->(if bit p=true then i.a else(p:Int)+1)=(q:Int)->p<q->q<=code.length->1<=d->Stp code bit p d q (d-1)
 | op {p:Nat} {d:Int} {i:XIns}:code[p]?=some i->i.op<9\/(11<i.op/\i.op<255)->wH i<=d->Stp code bit p d (p+1) (d+(1-wH i))
inductive Way (code:List XIns) (bit:Nat->Bool):Nat->Int->Nat->Int->Prop
 | nil {p:Nat} {d:Int}:Way code bit p d p d
 | cons {p q r:Nat} {d e f:Int}:Stp code bit p d q e->Way code bit q e r f->Way code bit p d r f
theorem Way.trans{code:List XIns}{bit:Nat->Bool}{p q r:Nat}{d e f:Int}(h:Way code bit p d q e)(k:Way code bit q e r f):Way code bit p d r f:=by
 induction h with
 | nil=>exact k
 | cons s _ ih=>exact .cons s (ih k)
def Seg (code:List XIns)(p:Nat)(l:List XIns):Prop:=∀(k:Nat) x,l[k]?=some x->code[p+k]?=some x
theorem Seg.left{code:List XIns}{p:Nat}{l m:List XIns}(h:Seg code p (l++m)):Seg code p l:=fun k x hk=>h k x (by rw[ybp (yad.1 hk).1];exact hk)
theorem Seg.right{code:List XIns}{p:Nat}{l m:List XIns}(h:Seg code p (l++m)):Seg code (p+l.length) m:=fun k x hk=>by
 have:=h (l.length+k) x (by rw[yaq (by omega)];rw[show l.length+k-l.length=k by omega];exact hk)
 rw[Nat.add_assoc];exact this
theorem Seg.head{code:List XIns}{p:Nat}{x:XIns}{m:List XIns}(h:Seg code p (x::m)):code[p]?=some x/\Seg code (p+1) m:=by
 refine⟨h 0 x rfl,fun k y hk=>?_⟩
 have:=h (k+1) y (by simpa using hk)
 rw[show p+(k+1)=p+1+k by omega]at this
 exact this
section
variable {key:zB->List Nat}{valid:zB->Bool}{code:List XIns}{bit:Nat->Bool}
def zrx (code:List XIns)(bit:Nat->Bool)(f:dG):Prop:=∀s p d,Seg code p (f s p).2->p+(f s p).2.length<=code.length->0<=d->Way code bit p d (p+(f s p).2.length) (d+1)
theorem zot:∀ {fs:List dG},(∀f∈fs,zrx code bit f)->∀s p d,Seg code p (kE fs s p).2->p+(kE fs s p).2.length<=code.length->0<=d->Way code bit p d (p+(kE fs s p).2.length) (d+fs.length)
 | [],_,s,p,d,_,_,_=>by simp only[kE,yay,ybu];rw[show d+((0:Nat):Int)=d by omega];exact .nil
 | f::l,hg,s,p,d,h,hl,hd=>by
  simp only[kE,yah]at h hl ⊢
  have h1:=hg f (by simp) s p d h.left (by omega) hd
  have h2:=zot (fun g hg'=>hg g (by simp[hg'])) (f s p).1 (p+(f s p).2.length) (d+1) h.right (by omega) (by omega)
  have:=h1.trans h2
  rw[yao,show d+((l.length+1:Nat):Int)=d+1+(l.length:Int) by omega,<- Nat.add_assoc]
  exact this
theorem zje{f g:dG}{skip:Nat}{truth:Int}(hf:zrx code bit f)(hg:zrx code bit g)(hs:skip=10\/skip=11):zrx code bit (nK key f g skip truth):=by
 intro s p d h hl hd;simp only[nK,yah,yao,yay]at h hl ⊢
 have a1:=hf s p d h.left (by omega) hd
 generalize hr:f s p=r at *
 generalize hq:g r.1 (p+r.2.length+1)=q at *
 obtain⟨b1,b2⟩:=h.right.head
 have c1:=b2.left
 have a2:=hg r.1 (p+r.2.length+1) d (by rw[hq];exact c1) (by rw[hq];omega) hd
 rw[hq]at a2;obtain⟨e1,e2⟩:=b2.right.head
 obtain⟨e3,e4⟩:=e2.head
 obtain⟨e5,_⟩:=e4.head
 have hjump:∀x:Int,Way code bit (p+r.2.length+1+q.2.length+1) x (p+r.2.length+1+q.2.length+1+1+1) x:=fun x=>
  .cons (.jump e3 rfl (by simp;omega) (by omega) (by omega)) .nil
 have hconst:∀x:Int,0<=x->Way code bit (p+r.2.length+1+q.2.length+1+1) x (p+r.2.length+1+q.2.length+1+1+1) (x+1):=fun x hx=>by
  have:=Stp.op (bit:=bit) (d:=x) e5 (.inl (by simp)) (by simp[wH];omega)
  simp[wH]at this
  exact .cons this .nil
 have fC:p+(r.2.length+(q.2.length+(0+1+1+1)+1))=p+r.2.length+1+q.2.length+1+1+1:=by omega
 rw[fC];refine a1.trans ?_
 by_cases hb:bit (p+r.2.length)=true
 ·have st:Stp code bit (p+r.2.length) (d+1) (p+r.2.length+1+q.2.length+1+1) (d+1-1):=.cond b1 (by rcases hs with e | e<;>simp[e]) (by rw[if_pos hb]) (by omega) (by omega) (by omega)
  rw[show d+1-1=d by omega]at st;exact .cons st (hconst d hd)
 ·have st:Stp code bit (p+r.2.length) (d+1) (p+r.2.length+1) (d+1-1):=.cond b1 (by rcases hs with e | e<;>simp[e]) (by rw[if_neg hb];omega) (by omega) (by omega) (by omega)
  rw[show d+1-1=d by omega]at st;refine .cons st (a2.trans ?_)
  have s2:=Stp.op (bit:=bit) (d:=d+1) e1 (.inr (by simp)) (by simp[wH];omega)
  simp only[wH]at s2;simp at s2;exact .cons s2 (hjump _)
theorem z6l{f g h:dG}(hf:zrx code bit f)(hg:zrx code bit g)(hh:zrx code bit h):zrx code bit (ifT f g h):=by
 intro s p d k hl hd;simp only[ifT,yah,yao]at k hl ⊢
 have a1:=hf s p d k.left (by omega) hd
 generalize hr:f s p=r at *
 generalize hq:g r.1 (p+r.2.length+1)=q at *
 generalize hw:h q.1 (p+r.2.length+1+q.2.length+1)=w at *
 obtain⟨b1,b2⟩:=k.right.head
 have a2:=hg r.1 (p+r.2.length+1) d (by rw[hq];exact b2.left) (by rw[hq];omega) hd
 rw[hq]at a2;obtain⟨e1,e2⟩:=b2.right.head
 have a3:=hh q.1 (p+r.2.length+1+q.2.length+1) d (by rw[hw];exact e2) (by rw[hw];omega) hd
 rw[hw]at a3;have fC:p+(r.2.length+(q.2.length+(w.2.length+1)+1))=p+r.2.length+1+q.2.length+1+w.2.length:=by omega
 rw[fC];refine a1.trans ?_
 by_cases hb:bit (p+r.2.length)=true
 ·have st:Stp code bit (p+r.2.length) (d+1) (p+r.2.length+1+q.2.length+1) (d+1-1):=.cond b1 (.inl rfl) (by rw[if_pos hb]) (by omega) (by omega) (by omega)
  rw[show d+1-1=d by omega]at st;exact .cons st a3
 ·have st:Stp code bit (p+r.2.length) (d+1) (p+r.2.length+1) (d+1-1):=.cond b1 (.inl rfl) (by rw[if_neg hb];omega) (by omega) (by omega) (by omega)
  rw[show d+1-1=d by omega]at st;refine .cons st (a2.trans (.cons (.jump e1 rfl rfl (by omega) (by omega)) .nil))
theorem zu2{op n:Nat}{name:List Nat}{v:zB}{s:Nt}(h:sI valid op v n=true)(h15:op≠15)(h16:op≠16)(h18:op≠18)(hop:op<256):wH (yF key op name v n s).2=n/\((yF key op name v n s).2.op<9\/11<(yF key op name v n s).2.op/\(yF key op name v n s).2.op<255):=by
 unfold sI at h;simp only[yac,decide_eq_true_eq]at h;obtain⟨⟨_,h1⟩,h2⟩:=h
 unfold sH at h1 h2;unfold yF;by_cases c1:op=1
 ·subst c1;simp at h1 h2;subst h2;simp[wH]
 ·rw[if_neg c1]
  by_cases c2:op=2
  ·subst c2;simp at h1 h2;subst h2;simp[wH]
  ·rw[if_neg c2]
   rw[if_neg (by omega)]at h1 h2
   by_cases c3:op=3\/op=4\/op=5
   ·rw[if_pos c3]
    have hn:(n:Int)=1:=by
     rcases c3 with e | e | e<;>subst e<;>simp at h1 h2<;>omega
    refine⟨?_,.inl (by simp;omega)⟩
    simp only[wH];rw[if_pos (by omega),hn]
   ·rw[if_neg c3]
    by_cases c6:op=6
    ·subst c6;simp[wH]
    ·rw[if_neg c6]
     rw[if_neg (by omega),if_neg c6,if_neg (by omega),if_neg (by omega)]at h1 h2
     by_cases c8:op=21\/op=22\/op=23
     ·rw[if_pos c8]
      rw[if_neg (by omega)]at h1 h2
      refine⟨?_,.inl (by simp)⟩
      simp only[wH];rw[if_neg (by omega),if_neg (by omega),if_neg (by omega),if_pos trivial]
      by_cases c22:op=22
      ·rw[if_neg (by omega),if_pos c22]at h1 h2
       rw[if_pos (by omega)];simp at h1 h2;omega
      ·rw[if_pos (by omega)]at h1 h2
       rw[if_neg (by omega)];simp at h1 h2;omega
     ·rw[if_neg c8]
      by_cases c19:op=19
      ·rw[if_pos c19]
       subst c19;simp at h1 h2;simp[wH];omega
      ·rw[if_neg c19]
       refine⟨?_,.inl (by simp)⟩
       simp only[wH];rw[if_neg (by omega),if_neg (by omega),if_pos trivial]
       by_cases ca:op=17\/op=24\/op=25\/op=26
       ·rw[if_pos (by omega)]at h1 h2
        rw[if_pos (by omega)];simp at h1 h2;omega
       ·rw[if_neg (by omega)]at h1 h2
        rw[if_neg (by omega)]
        by_cases cb:(7<=op/\op<=14)\/op=19\/op=20\/op=21\/op=23
        ·rw[if_pos cb]at h1 h2;simp at h1 h2;omega
        ·rw[if_neg cb,if_neg (by omega)]at h1 h2;simp at h1 h2;omega
theorem zq1{op:Nat}{name:List Nat}{v:zB}{fs:List dG}(hop:op<256)(hf:∀f∈fs,zrx code bit f):zrx code bit (cH key valid op name v fs):=by
 intro s p d h hl hd;unfold cH at h hl ⊢
 by_cases h0:sI valid op v fs.length=false
 ·simp only[if_pos h0]at h hl ⊢
  obtain⟨b1,_⟩:=h.head
  have s2:=Stp.op (bit:=bit) (d:=d) b1 (.inr (by simp)) (by simp[wH];omega)
  simp[wH]at s2
  exact .cons s2 .nil
 ·simp only[if_neg h0]at h hl ⊢
  have h0:sI valid op v fs.length=true:=by simpa using h0
  have hn:=h0
  unfold sI at hn;simp only[yac,decide_eq_true_eq]at hn;by_cases h15:op=15
  ·simp only[if_pos h15]at h hl ⊢
   subst h15;have:fs.length=2:=by have h1:=hn.1.2;have h2:=hn.2;simp[sH]at h1 h2;omega
   match fs,this,hf with
   | [f,g],_,hf=>exact zje (hf f (by simp)) (hf g (by simp)) (.inl rfl) s p d h hl hd
  ·simp only[if_neg h15]at h hl ⊢
   by_cases h16:op=16
   ·simp only[if_pos h16]at h hl ⊢
    subst h16;have:fs.length=2:=by have h1:=hn.1.2;have h2:=hn.2;simp[sH]at h1 h2;omega
    match fs,this,hf with
    | [f,g],_,hf=>exact zje (hf f (by simp)) (hf g (by simp)) (.inr rfl) s p d h hl hd
   ·simp only[if_neg h16]at h hl ⊢
    by_cases h18:op=18
    ·simp only[if_pos h18]at h hl ⊢
     subst h18;have:fs.length=3:=by have h1:=hn.1.2;have h2:=hn.2;simp[sH]at h1 h2;omega
     match fs,this,hf with
     | [f,g,k],_,hf=>exact z6l (hf f (by simp)) (hf g (by simp)) (hf k (by simp)) s p d h hl hd
    ·simp only[if_neg h18]at h hl ⊢
     simp only[yah,yao,yay]at hl ⊢
     have a1:=zot hf s p d h.left (by omega) hd
     obtain⟨b1,_⟩:=h.right.head
     obtain⟨q1,q2⟩:=zu2 (key:=key) (name:=name) (s:=(kE fs s p).1) h0 h15 h16 h18 hop
     have s2:=Stp.op (bit:=bit) (d:=d+fs.length) b1 q2 (by rw[q1];omega)
     rw[q1]at s2;rw[show d+(fs.length:Int)+(1-(fs.length:Int))=d+1 by omega]at s2
     have:=a1.trans (.cons s2 .nil)
     rw[show p+((kE fs s p).2.length+(0+1))=p+(kE fs s p).2.length+1 by omega]
     exact this
mutual
theorem zm7:∀(x:uA),x.fit->zrx code bit (yC key valid x)
 | .mk op name v args,h=>by
  unfold uA.fit at h;unfold yC;exact zq1 h.1 (zm9 args h.2.2.2.2.2)
theorem zm9:∀(l:List uA),uA.fits l->∀f∈qE key valid l,zrx code bit f
 | [],_,f,hf=>by unfold qE at hf;cases hf
 | x::l,h,f,hf=>by
  unfold uA.fits at h;unfold qE at hf;rcases yat.1 hf with rfl | hf
  ·exact zm7 x h.1
  ·exact zm9 l h.2 f hf
end
theorem ends{x:uA}(hx:x.fit)(s:Nt)(bit:Nat->Bool):Way (yC key valid x s 0).2 bit 0 0 (yC key valid x s 0).2.length 1:=by
 have:=zm7 (code:=(yC key valid x s 0).2) (bit:=bit) x hx s 0 0 (fun k y h=>by rw[yax];exact h) (by omega) (by omega)
 rw[yax]at this;exact this
end
end Go.Am
