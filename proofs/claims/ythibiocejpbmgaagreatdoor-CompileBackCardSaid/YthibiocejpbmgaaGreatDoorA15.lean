/- difference: u a - v b. -/
import Derived.Test.YthibiocejpbmgaaGreatDoorA14
set_option linter.all false
noncomputable section
set_option maxRecDepth 100000
namespace Go.Proofs
open Go Go.Am
variable [tC]
variable {t:Tr qA}
theorem FB{x u a:Nat}(hx:x<=u)(hu:u<4294967296)(ha:a<4294967296):dA .u64 ((x:Int)+dA .u64 ((u:Int)*dA .u64 (a:Int)))=((x+u*a:Nat):Int):=by
 have h:u*a<=4294967295*4294967295:=ydb (by omega) (by omega)
 grind [nG]
theorem XW{la lb:List Nat}{pa pb w:zA}{u v x y bo n i:Nat}{Q:xC}(ha:sA t 1 (zC .u32 la) pa)(hb:sA t 1 (zC .u32 lb) pb)(hal:mB BB la)(hbl:mB BB lb)(hu:u<4294967296)(hv:v<4294967296)(hx:x<=u)(hy:y<=v)(hi:i<n)
  (h:jp 228 21 [.int .u64 (u:Int),pa,.int .u64 (v:Int),pb,w,.int .u64 ((x+u*wd la i:Nat):Int),.int .u64 ((y+v*wd lb i:Nat):Int),.int .u32 (bo:Int),.int .i64 (i:Int),.int .i64 (n:Int),.int .i64 (i:Int)] t Q) :
  jp 228 2 [.int .u64 (u:Int),pa,.int .u64 (v:Int),pb,w,.int .u64 (x:Int),.int .u64 (y:Int),.int .u32 (bo:Int),.int .i64 (n:Int),.int .i64 (i:Int)] t Q:=by
 have hBB:=oO;have second:jp 228 17 [.int .u64 (u:Int),pa,.int .u64 (v:Int),pb,w,.int .u64 ((x+u*wd la i:Nat):Int),.int .u64 (y:Int),.int .u32 (bo:Int),.int .i64 (i:Int),.int .i64 (n:Int),.int .i64 (i:Int)] t Q:=by
  refine zii ?_;simp only[uI,uL,uZ,CB,tA,hb.len,xA,zB,kG,aB];by_cases hlen:i<lb.length
  ·obtain⟨z,hz⟩:=getElem?_of_lt hlen;have hz32:z<4294967296:=by have:=qK hbl hz;omega
   obtain⟨c,off,g1,g2⟩:=hb.idx xH hz
   grind [xA,zB,FB,wd]
  grind [wd]
 refine zfr ?_;simp only[uI,uL,uZ,Uh,tA,aB];rw[yab (by omega)];simp only[ha.len,xA,zB,kG];by_cases hlen:i<la.length
 ·obtain⟨z,hz⟩:=getElem?_of_lt hlen;have hz32:z<4294967296:=by have:=qK hal hz;omega
  obtain⟨c,off,g1,g2⟩:=ha.idx xH hz
  grind [xA,zB,FB,wd]
 grind [wd]
end Go.Proofs
namespace Go.Proofs
open Go Go.Am
section
variable {la lb:List Nat}{pa pb:zA}{u v:Nat}{Q:xC}
variable [tC]
variable {t:Tr qA}
theorem za1  {b n:Nat}{t0:Tr qA} (ha:sA t0 1 (zC .u32 la) pa)(hb:sA t0 1 (zC .u32 lb) pb)(hal:mB BB la)(hbl:mB BB lb)(hu:u<4294967296)(hv:v<4294967296)(hn:n<1000000)(hbase:yA.base<=b)(hb0:t0.get b=none)
  (hQ:∀t' W rv x z,iA t0 t'->sA t' 1 (zC .u32 (wG W)) rv->W.length=n->mB BB W->val BB W+BB^n*x+v*val BB (lb.take n)=u*val BB (la.take n)+BB^n*z->Q rv t') :
  ∀(k i x y bo:Nat) (t':Tr qA) (W:List Nat),i+k=n->iA t0 t'->eF t' b .u32 (W++List.replicate k 0)->W.length=i->mB BB W->x<=u->y<=v->bo<2->val BB W+BB^i*x+v*val BB (lb.take i)=u*val BB (la.take i)+BB^i*(y+bo) →
  jp 228 2 [.int .u64 (u:Int),pa,.int .u64 (v:Int),pb,.slice b 0 n n,.int .u64 (x:Int),.int .u64 (y:Int),.int .u32 (bo:Int),.int .i64 (n:Int),.int .i64 (i:Int)] t' Q:=by
 intro k;have hBB:=oO
 induction k with
 | zero=>
  intro i x y bo t' W hi ht ho hW hWl hx hy hbo hval;have hi':i=n:=by omega
  subst hi';have e3:sA t' 1 (zC .u32 W) (.slice b 0 i i):=by
   rw[List.replicate_zero,ycd]at ho;have:=ho.all (cap:=i) (by omega)
   simp_all
  obtain⟨rv,f1,f2⟩:=Ct (by omega) e3;refine zfr ?_;simp only[uI,uL,uZ,Uh,tA,aB];rw[yaa (by omega)];simp only[Gz,f1,xA];grind
 | succ k ih=>
  intro i x y bo t' W hi ht ho hW hWl hx hy hbo hval;refine XW (ha.mono ht) (hb.mono ht) hal hbl hu hv hx hy (by omega) ?_;have wa:=Ch uJ hal i;have wb:=Ch uJ hbl i;have cx:=MX hx wa;have cy:=MX hy wb;have va:=Jl BB la i;have vb:=Jl BB lb i;generalize wd la i=ai at *;generalize wd lb i=bi at *;generalize hX:x+u*ai=X at *;generalize hY:y+v*bi=Y at *
  have ex:dA .u32 (X:Int)=((X%4294967296:Nat):Int):=by rw[tU];omega
  have ey:dA .u32 (Y:Int)=((Y%4294967296:Nat):Int):=by rw[tU];omega
  have fx:Int.fdiv (X:Int) 4294967296=((X / 4294967296:Nat):Int):=qZ X 4294967296;have fy:Int.fdiv (Y:Int) 4294967296=((Y / 4294967296:Nat):Int):=qZ Y 4294967296;have hs:=zbz (t:=t') (x:=X%4294967296) (y:=Y%4294967296) (b:=bo) (ycy _ (by decide)) (ycy _ (by decide)) hbo;obtain⟨w,hw⟩:∃w,w=(X%4294967296+8589934592-Y%4294967296-bo)%4294967296:=⟨_,rfl⟩;obtain⟨bo',hbo'⟩:∃bo':Nat,bo'=if X%4294967296<Y%4294967296+bo then 1 else 0:=⟨_,rfl⟩
  rw[<- hw,<- hbo']at hs;have hwlt:w<BB:=by omega
  have hb2:bo'<2:=by rw[hbo'];split<;>omega
  have hsum:X%4294967296+4294967296*bo'=w+Y%4294967296+bo:=by
   rw[hw,hbo'];split<;>omega
  have g1:=Ee xH (b:=b) (n:=n) (cap:=n) (j:=i) (by omega);obtain⟨t1,s1,s2,s3⟩:=ho.store (C:=yA) hbase (j:=i) (by grind) w cH rfl;have hset:=Pc (p:=W) (n:=k) (x:=w);rw[hW]at hset;rw[hset]at s2;have ei:(i:Int)+1=((i+1:Nat):Int):=by omega
  refine zih ?_;simp only[uL,kB,uX,uZ,CA,tA,ex,ey,q253,hs,xA,gE,zA.asTup,uA,vE,yaz,yba,zB,g1,fx,fy,ei];intro _ _ _;rw[s1,xA,wrap_i64 (by omega) (by omega)];rw[hBB]at cx cy;refine ih (i+1) (X / 4294967296) (Y / 4294967296) bo' t1 (W++[w]) (by omega) (ht.off hb0 s3) s2 (by simp[hW]) (Bm hWl hwlt) cx cy hb2 ?_;have hst:=za0 (B:=BB) (P:=BB^i) (ai:=ai) (bi:=bi) (x':=X / 4294967296) (y':=Y / 4294967296) (lx:=X%4294967296) (ly:=Y%4294967296) (w:=w) (bo':=bo') hval (by grind) (by grind) (by simp_all)
  grind [sP]
theorem Sd    (ha:sA t 1 (zC .u32 la) pa)(hb:sA t 1 (zC .u32 lb) pb)(hal:mB BB la)(hbl:mB BB lb)(hu:u<4294967296)(hv:v<4294967296)(hla:la.length<700000)(hlb:lb.length<700000)(hge:v*val BB lb<=u*val BB la)
  (hQ:∀t' r rv,iA t t'->sA t' 1 (zC .u32 r) rv->mB BB r->norm r->val BB r=u*val BB la-v*val BB lb->Q rv t') :
  Wc yA F 228 [.int .u64 (u:Int),pa,.int .u64 (v:Int),pb] t Q:=by
 have hBB:=oO;refine w228 ?_;simp only[uI,uZ,uW,t228,tA,ha.len,hb.len,xA,zB,kG];obtain⟨n,hn1,hn2,hn3,hn4⟩:∃n:Nat,(bif jB (la.length:Int) (lb.length:Int)then(lb.length:Int)else(la.length:Int))+1=(n:Int)/\la.length<n/\lb.length<n/\n<700002:=by
  cases hc:jB (la.length:Int) (lb.length:Int)with
  | true=>have:=aB.1 hc;exact⟨lb.length+1,by simp,by omega,by omega,by omega⟩
  | false=>
   have:¬ ((la.length:Int)<(lb.length:Int)):=fun h=>by grind [aB]
   exact⟨la.length+1,by simp,by omega,by omega,by omega⟩
 rw[hn1,wrap_i64 (by omega) (by omega)];intro b hb0 hbase;obtain⟨t',g1,g2,g3,g4⟩:=Dx (C:=yA) (k:=.u32) rQ rfl cH rfl rfl (by decide) (n:=n) (by omega) hb0;rw[g1];have el:tB (.slice b 0 n n)=some (.int .i64 (n:Int)):=rfl;simp only[xA,el,zB];refine za1 ha hb hal hbl hu hv (by omega) hbase hb0 (fun t2 W rv x z k1 k2 k3 k4 k5=>?_) n 0 0 0 0 t' [] (by omega) g3 (by simp_all) rfl (fun x hx=>by cases hx) (by omega) (by omega) (by omega) (by simp[val])
 rw[yca (by omega),yca (by omega)]at k5;have hP:u*val BB la<BB^n:=by
  have h1:=nO uJ hal;have h2:BB^(la.length+1)<=BB^n:=yao uJ (by omega);have h3:u*val BB la<=u*BB^la.length:=ybv _ (Nat.le_of_lt h1);have h4:u*BB^la.length<BB*BB^la.length:=Nat.mul_lt_mul_of_pos_right (by omega) (Nat.pow_pos uJ)
  grind
 grind [nO,zd4,iZ,pY,iX]
end
section
variable {v:zA}{l:List Nat}{b:Nat}
variable [tC]
variable {t:Tr qA}
theorem zjn   (hv:sA t 1 (zC .u32 l) v)(hb:t.get b=none) :
  ∃H',rN v ⟨b,t⟩=some (.ptr b 0,H')/\iA t H'.t/\mA yA 253 ⟨0,H'.t⟩ (.ptr b 0)=some v:=by
 have hc:v.cells=[v]:=by
  obtain⟨cl,h1,_⟩:=hv;rcases h1 with⟨rfl,_⟩ | ⟨_,_,_,rfl,_⟩<;>rfl
 refine⟨lF ⟨b,t⟩ [v] none,by unfold rN;rw[hc],?_,?_⟩
 ·intro c u hg;show(t.set b _).get c=_
  grind [Tr.get_set]
 ·have hg:(lF ⟨b,t⟩ [v] none).t.get b=some (.cells (Tr.ofList [v]) 1 none):=by
   show(t.set b _).get b=_;rw[Tr.get_set,yab rfl];rfl
  unfold mA;simp only[zA.asPtr,uA];rw[rQ,uA];unfold rD;rw[hg,uA];simp only[qA.asCells,uA];unfold qS;first
   | rfl
   | (rw[cond_false,Tr.get_ofList];rfl)
theorem Th  {i:Nat}(hv:sA t 1 (zC .u32 l) v)(hl:mB BB l)(hload:mA yA 253 ⟨0,t⟩ (.ptr b 0)=some v):iB yA F 261 [.int .i64 (i:Int),.ptr b 0] t=some (.int .u64 ((wd l i:Nat):Int)):=by
 have hBB:=oO;refine pC.2 (w261 ?_);simp only[t261,tA,hload,xA,hv.len,zB,kG,vG];by_cases h:i<l.length
 ·obtain⟨x,hx⟩:=getElem?_of_lt h;have hx32:x<4294967296:=by have:=qK hl hx;omega
  obtain⟨c,off,g1,g2⟩:=hv.idx xH hx
  grind [xA,zB,nG,wd]
 grind [wd]
def JS  {n s:Nat}(hv:sA t 1 (zC .u32 l) v)(hl:mB BB l)(hn:3<=n)(hn2:n<1000000)(hs:s<32)(hb:(wd l (n-1)*4294967296+wd l (n-2))*2^s<18446744073709551616) :
  iB yA F 249 [v,.int .i64 (n:Int),.int .i64 (s:Int)] t=some (.int .u64 (((wd l (n-1)*4294967296+wd l (n-2))*2^s+wd l (n-3) / 2^(32-s):Nat):Int)):=by
 have hBB:=oO;refine jQ (w249 ?_);simp only[uE,uZ,uW,t249,tA];intro b hb0 _;obtain⟨H',g1,g2,g3⟩:=zjn hv hb0;rw[g1,xA];have w1:=Ch uJ hl (n-1);have w2:=Ch uJ hl (n-2);have w3:=Ch uJ hl (n-3);have c1:=Th (i:=n-1) (hv.mono g2) hl g3;have c2:=Th (i:=n-2) (hv.mono g2) hl g3;have c3:=Th (i:=n-3) (hv.mono g2) hl g3;generalize wd l (n-1)=x1 at *;generalize wd l (n-2)=x2 at *
 generalize wd l (n-3)=x3 at *;have e1:(n:Int)-1=((n-1:Nat):Int):=by omega
 have e2:(n:Int)-2=((n-2:Nat):Int):=by omega
 have e3:(n:Int)-3=((n-3:Nat):Int):=by omega
 have e4:(32:Int)-(s:Int)=((32-s:Nat):Int):=by omega
 have f:∀a,oM (.func (.func 261) [] [.ptr b 0]) [a]=some (261,[a,.ptr b 0]):=fun _=>rfl;have e5:(x1:Int)*4294967296=((x1*4294967296:Nat):Int):=by omega
 rw[f,xA,e1,wrap_i64 (by omega) (by omega),q261,c1,xA,zB,xA,f,xA,e2,wrap_i64 (by omega) (by omega),q261,c2,xA,zB,xA,e5,nG (by omega) (by omega),or32 (by omega) (by omega),xA,zB,xA,JP (by omega) hb,xA,zB,xA,f,xA,e3,wrap_i64 (by omega) (by omega),q261,c3,xA,zB,xA,e4,wrap_i64 (by omega) (by omega),JO (by omega),xA,zB,xA]
 have hz:x3 / 2^(32-s)<2^s:=ycu (by rw[<- Nat.pow_add,show 32-s+s=32 by omega];omega);have hz2:(2:Nat)^s<=2^31:=yao (by decide) (by omega);generalize x3 / 2^(32-s)=z at hz ⊢;have ho:=Gn (a:=x1*4294967296+x2) (b:=z) (n:=s) hz;generalize (x1*4294967296+x2)*2^s=h at hb ho ⊢;have hz3:z<18446744073709551616:=by omega
 rw[tV (k:=.u64) (show h<nH .u64 from hb) (show z<nH .u64 from hz3),ho,xA,zB,xA];exact⟨rfl,g2⟩
end
section
variable [tC]
variable {t:Tr qA}
theorem SC{A1 B1:Nat}{P:Nat->Nat->Nat->Nat->Nat->Nat->Nat->Nat->Bool->Prop}{Q:xC}(hA:A1<18446744073709551616)(hB:B1<18446744073709551616)
  (hstep:∀x y u0 u1 u2 v0 v1 v2 ev,P x y u0 u1 u2 v0 v1 v2 ev->0<y->v2<=y->v1+v2<=x-y->P y (x%y) u1 u2 (u1+x / y*u2) v1 v2 (v1+x / y*v2) (!ev))
  (hQ:∀x y u0 u1 u2 v0 v1 v2 ev,P x y u0 u1 u2 v0 v1 v2 ev->Q (.agg [.int .u64 (u0:Int),.int .u64 (u1:Int),.int .u64 (v0:Int),.int .u64 (v1:Int),.bool ev]) t) :
  ∀(y x u0 u1 u2 v0 v1 v2:Nat) (ev:Bool) (c0 c1 c2 c3:Int) (c4:Bool),P x y u0 u1 u2 v0 v1 v2 ev->A1=v2*x+v1*y->B1=u2*x+u1*y->y<=x->1<=v2->v1<=v2 →
  jp 226 2 [.int .u64 (x:Int),.int .u64 (y:Int),.int .u64 (u2:Int),.int .u64 (v2:Int),.int .u64 c0,.int .u64 c1,.int .u64 c2,.int .u64 c3,.bool c4,.int .u64 (u0:Int),.int .u64 (u1:Int),.int .u64 (v0:Int),.int .u64 (v1:Int),.bool ev] t Q:=by
 intro y;induction y using Nat.strongRecOn with
 | ind y ih=>
  intro x u0 u1 u2 v0 v1 v2 ev c0 c1 c2 c3 c4 hP hx hy hle h1 h12;refine j226_2 ?_;simp only[uE,ze4,tA,vG];by_cases g1:v2<=y
  ·rw[yab (by omega)];have hy0:0<y:=by omega
   have b1:v2*x<=A1:=by omega
   have b2:x<=A1:=Nat.le_trans (yan x (by omega)) b1;have b3:v2<4294967296:=by
    rcases yau v2 4294967296 with h | h
    ·exact h
    ·exfalso;have:4294967296*4294967296<=v2*x:=ydb h (by omega);omega
   have e1:dA .u64 ((v1:Int)+(v2:Int))=((v1+v2:Nat):Int):=by grind [nG]
   have e2:dA .u64 ((x:Int)-(y:Int))=((x-y:Nat):Int):=by grind [nG]
   rw[e1,e2];by_cases g2:v1+v2<=x-y
   ·rw[yab (by omega)];have hdm:=ych x y;have hmod:x%y<y:=ycy _ hy0;have hq1:1<=x / y:=by
     grind
    have hxq:x / y<=x:=Nat.div_le_self _ _;have e3:zZ .u64 (x:Int) (y:Int)=some (.int .u64 ((x / y:Nat):Int)):=Yj hy0 (by
     grind [nG])
    have e4:aY .u64 (x:Int) (y:Int)=some (.int .u64 ((x%y:Nat):Int)):=Ri hy0;have hst:=hstep x y u0 u1 u2 v0 v1 v2 ev hP hy0 g1 g2;generalize x / y=q at *;generalize x%y=r at *;have nA:A1=(v1+q*v2)*y+v2*r:=by
     grind
    have nB:B1=(u1+q*u2)*y+u2*r:=by
     grind
    have bv:v1+q*v2<=A1:=Nat.le_trans (Nat.le_mul_of_pos_right _ hy0) (by omega);have bu:u1+q*u2<=B1:=Nat.le_trans (Nat.le_mul_of_pos_right _ hy0) (by omega);have bq:v2<=q*v2:=yan _ hq1;have e5:dA .u64 ((v1:Int)+dA .u64 ((q:Int)*(v2:Int)))=((v1+q*v2:Nat):Int):=by
     grind [nG]
    have e6:dA .u64 ((u1:Int)+dA .u64 ((q:Int)*(u2:Int)))=((u1+q*u2:Nat):Int):=by
     grind [nG]
    rw[e3,xA,zB,xA,e4,xA,zB,xA,e5,e6];grind
   grind
  grind
end
end Go.Proofs
namespace Go.Am
def Lrel (a b x y u1 u2 v1 v2:Nat)(ev:Bool):Prop:=
 match ev with
 | false=>u1*v2=u2*v1+1/\x+v1*b=u1*a/\y+u2*a=v2*b
 | true=>u2*v1=u1*v2+1/\x+u1*a=v1*b/\y+v2*b=u2*a
def Lst (u1 u2 v1 v2:Nat):Prop:=(u1=1/\v1=0/\u2=0)\/(u1<=v1/\u2<=v2/\1<=u2/\1<=v1)
def Tb(a b u0 u1 v0 v1:Nat)(ev:Bool):Prop:=∃x y,Lrel a b x y u0 u1 v0 v1 (!ev)/\v1<=y/\v0+v1<=x-y/\u0<=v0/\u1<=v1/\1<=u1/\1<=v0/\v0<=v1
def Lsim (a b x y u0 u1 u2 v0 v1 v2:Nat)(ev:Bool):Prop:=Lrel a b x y u1 u2 v1 v2 ev/\1<=v2/\v1<=v2/\Lst u1 u2 v1 v2/\(v0=0\/Tb a b u0 u1 v0 v1 ev)
def zbo(a b:Nat):Lsim a b a b 0 1 0 0 0 1 false:=⟨⟨by simp,by simp,by simp⟩,ybk _,by omega,.inl ⟨rfl,rfl,rfl⟩,.inl rfl⟩
def zbn{a b x y u0 u1 u2 v0 v1 v2:Nat}{ev:Bool}(h:Lsim a b x y u0 u1 u2 v0 v1 v2 ev)(hy:0<y)(h1:v2<=y)(h2:v1+v2<=x-y) :
  Lsim a b y (x%y) u1 u2 (u1+x / y*u2) v1 v2 (v1+x / y*v2) (!ev):=by
 obtain⟨k1,k2,k5,k3,k4⟩:=h;have hq:1<=x / y:=by rw[Nat.le_div_iff_mul_le hy];omega
 have hdm:=ych x y;generalize x / y=q at *;generalize x%y=r at *;have hv2:v2<=q*v2:=yan _ hq;have hu2:u2<=q*u2:=yan _ hq;refine⟨?_,by omega,by omega,?_,?_⟩
 ·cases ev with
  | false=>
   obtain⟨m1,m2,m3⟩:=k1;refine⟨?_,m3,?_⟩
   all_goals grind
  | true=>
   obtain⟨m1,m2,m3⟩:=k1;refine⟨?_,m3,?_⟩
   all_goals grind
 ·right
  rcases k3 with⟨e1,e2,e3⟩ | ⟨g1,g2,g3,g4⟩
  ·grind
  ·have:=ybv q g2;omega
 ·rcases k3 with⟨e1,e2,e3⟩ | ⟨g1,g2,g3,g4⟩
  ·omega
  ·right
   exact⟨x,y,by simp_all,h1,h2,g1,g2,g3,g4,k5⟩
end Go.Am
namespace Go.Am
variable {A B W a b p q r s u0 u1 v0 v1 α β:Nat}{ev:Bool}
def HH{X Y:Nat}(hdet:p*s=q*r+1)(hX:X+r*B=p*A)(hY:Y+q*A=s*B):A=s*X+r*Y/\B=q*X+p*Y:=by
 have a1:s*(X+r*B)=s*(p*A):=by rw[hX]
 have a2:r*(Y+q*A)=r*(s*B):=by rw[hY]
 have a3:q*(X+r*B)=q*(p*A):=by rw[hX]
 have a4:p*(Y+q*A)=p*(s*B):=by rw[hY]
 have d1:p*s*A=q*r*A+A:=by rw[hdet,ybo,Nat.one_mul]
 have d2:p*s*B=q*r*B+B:=by rw[hdet,ybo,Nat.one_mul]
 have e1:s*(p*A)=p*s*A:=by rw[<- ybj,ybh s p]
 have e2:r*(q*A)=q*r*A:=by rw[<- ybj,ybh r q]
 have e3:s*(r*B)=r*(s*B):=Nat.mul_left_comm _ _ _;have e4:q*(p*A)=p*(q*A):=Nat.mul_left_comm _ _ _;have e5:q*(r*B)=q*r*B:=(ybj _ _ _).symm;have e6:p*(s*B)=p*s*B:=(ybj _ _ _).symm;rw[ybm]at a1 a2 a3 a4;constructor<;>omega
def HG{x y:Nat}(hx:x+r*b=p*a)(hy:y+q*a=s*b)(hA:A=W*a+α)(hB:B=W*b+β)(ha:α<W)(hb:β<W)(hrs:r+s<=x-y)(h1:1<=r+s)(hq:q<=y) :
  ∃X Y,X+r*B=p*A/\Y+q*A=s*B/\Y<X:=by
 obtain⟨D,hD⟩:∃D,x=y+D:=⟨x-y,by omega⟩;have w1:p*A=W*x+r*(W*b)+p*α:=by
  rw[hA,ybm,Nat.mul_left_comm p W,<- hx,ybm,Nat.mul_left_comm W r]
 have w2:r*B=r*(W*b)+r*β:=by rw[hB,ybm]
 have w3:s*B=W*y+q*(W*a)+s*β:=by
  rw[hB,ybm,Nat.mul_left_comm s W,<- hy,ybm,Nat.mul_left_comm W q]
 have w4:q*A=q*(W*a)+q*α:=by rw[hA,ybm]
 have i1:r*β<=W*D:=by
  rw[ybh W D];exact ydb (by omega) (by omega)
 have i2:q*α<=W*y:=by
  rw[ybh W y];exact ydb hq (by omega)
 have i3:(r+s)*β<W*D:=by
  have h2:(r+s)*β<(r+s)*W:=Nat.mul_lt_mul_of_pos_left hb (by omega);have h3:(r+s)*W<=D*W:=ybi _ (by omega)
  grind
 have w5:W*x=W*y+W*D:=by rw[hD,ybm]
 rw[ybo]at i3;exact⟨p*A-r*B,s*B-q*A,by omega,by omega,by omega⟩
def lehmer  (hA:A=W*a+α)(hB:B=W*b+β)(ha:α<W)(hb:β<W)(h:Tb a b u0 u1 v0 v1 ev) :
  ∃X Y,(ev=true->X+v0*B=u0*A/\Y+u1*A=v1*B)/\(ev=false->X+u0*A=v0*B/\Y+v1*B=u1*A)/\Y<X/\A=v1*X+v0*Y/\B=u1*X+u0*Y/\X+Y<A+B:=by
 obtain⟨x,y,k1,k2,k3,k4,k5,k6,k7,_⟩:=h;have bD:∀X Y:Nat,Y<X->A=v1*X+v0*Y->B=u1*X+u0*Y->X+Y<A+B:=by
  intro X Y g1 g2 g3;have j1:X<=v1*X:=yan _ (by omega);have j2:X<=u1*X:=yan _ (by omega);omega
 cases ev with
 | true=>
  obtain⟨m1,m2,m3⟩:=k1;obtain⟨X,Y,g1,g2,g3⟩:=HG m2 m3 hA hB ha hb k3 (by omega) (by omega);obtain⟨d1,d2⟩:=HH m1 g1 g2;exact⟨X,Y,fun _=>⟨g1,g2⟩,(fun h=>absurd h (by decide)),g3,d1,d2,bD X Y g3 d1 d2⟩
 | false=>
  obtain⟨m1,m2,m3⟩:=k1;obtain⟨X,Y,g1,g2,g3⟩:=HG m2 m3 hB hA hb ha (by omega) (by omega) k2;have m1':v0*u1=v1*u0+1:=by grind
  obtain⟨d1,d2⟩:=HH m1' g1 g2;exact⟨X,Y,(fun h=>absurd h (by decide)),fun _=>⟨g1,g2⟩,g3,d2,d1,bD X Y g3 d2 d1⟩
def ZX  (ha:a<18446744073709551616)(hb:b<18446744073709551616)(h:Tb a b u0 u1 v0 v1 ev):u0<4294967296/\u1<4294967296/\v0<4294967296/\v1<4294967296:=by
 obtain⟨x,y,k1,k2,k3,k4,k5,k6,k7,k8⟩:=h;have key:a=v1*x+v0*y:=by
  cases ev with
  | true=>
   obtain⟨m1,m2,m3⟩:=k1
   grind
  | false=>
   obtain⟨m1,m2,m3⟩:=k1
   grind
 have:v1<4294967296:=by
  rcases yau v1 4294967296 with g | g
  ·exact g
  ·exfalso;have:4294967296*4294967296<=v1*x:=ydb g (by omega);omega
 omega
end Go.Am
namespace Go.Am
variable {B m:Nat}{l:List Nat}
def zbt   (hl:l.length<=m+3):val B l=val B (l.take m)+B^m*(wd l m+B*(wd l (m+1)+B*wd l (m+2))):=by
 have h0:=Jl B l m;have h1:val B (l.take (m+2))=val B (l.take (m+1))+B^(m+1)*wd l (m+1):=Jl B l (m+1);have h2:val B (l.take (m+3))=val B (l.take (m+2))+B^(m+2)*wd l (m+2):=Jl B l (m+2)
 grind [List.take_of_length_le]
def JR{p K:Nat} (hB:B=p*K)(hp:0<p)(hB0:0<B)(hlt:mB B l)(hl:l.length<=m+3) :
  (wd l (m+2)*B+wd l (m+1))*K+wd l m / p=val B l / (B^m*p):=by
 have h1:=zbt (B:=B) hl;have h2:val B (l.take m)<B^m:=by
  have h:=nO hB0 (Bl hlt m)
  grind [Nat.lt_of_lt_of_le,Nat.pow_le_pow_right]
 have h3:val B l / B^m=wd l m+B*(wd l (m+1)+B*wd l (m+2)):=by
  rw[h1,Nat.add_mul_div_left _ _ (Nat.pow_pos hB0),Nat.div_eq_of_lt h2,ybw]
 rw[<- Nat.div_div_eq_div_mul,h3];generalize wd l m=x;have e:B*(wd l (m+1)+B*wd l (m+2))=p*(K*(wd l (m+2)*B+wd l (m+1))):=by
  rw[<- ybj p,<- hB,ybh (wd l (m+2)),yap]
 rw[e,Nat.add_mul_div_left _ _ hp,ybh K,yap]
end Go.Am
namespace Go.Proofs
open Go Go.Am
variable [tC]
variable {t:Tr qA}
theorem SA{la lb:List Nat}{pa pb:zA}{m top:Nat}{Q:xC}(ha:sA t 1 (zC .u32 la) pa)(hb:sA t 1 (zC .u32 lb) pb)(hal:mB BB la)(hbl:mB BB lb)(hla:la.length=m+3)(hm:m<700000)(hlb:lb.length<=m+3)(htop:la[m+2]?=some top)(ht0:0<top)(hle:val BB lb<=val BB la)
  (hQ:∀u0 u1 v0 v1 ev W,0<W->val BB la / W<18446744073709551616->val BB lb / W<18446744073709551616->(v0=0\/Tb (val BB la / W) (val BB lb / W) u0 u1 v0 v1 ev)->Q (.agg [.int .u64 (u0:Int),.int .u64 (u1:Int),.int .u64 (v0:Int),.int .u64 (v1:Int),.bool ev]) t) :
  Wc yA F 226 [pa,pb] t Q:=by
 have hBB:=oO;have htlt:top<4294967296:=by have:=qK hal htop;omega
 obtain⟨s,hs,hs1,hs2,hs3⟩:=GN (t:=t) htlt ht0;obtain⟨c,off,g1,g2⟩:=ha.idx xH htop;have hK:BB=2^(32-s)*2^s:=by rw[<- Nat.pow_add,show 32-s+s=32 by omega,hBB]
 have hp:0<2^(32-s):=Nat.pow_pos (by decide);have va:=JR hK hp uJ hal (m:=m) (by omega);have vb:=JR hK hp uJ hbl hlb;have hW:0<BB^m*2^(32-s):=Nat.mul_pos (Nat.pow_pos uJ) hp;have hdiv:val BB lb / (BB^m*2^(32-s))<=val BB la / (BB^m*2^(32-s)):=Nat.div_le_div_right hle;have hwt:wd la (m+2)=top:=by grind [wd]
 have wa1:=Ch uJ hal (m+1);have wa0:=Ch uJ hal m;have hz:wd la m / 2^(32-s)<2^s:=ycu (by omega);rw[hBB]at va vb;have bigA:(wd la (m+2)*4294967296+wd la (m+1))*2^s+wd la m / 2^(32-s)<18446744073709551616:=by
  rw[hwt];have q1:top+1<=2^(32-s):=by
   have:top*2^s<2^(32-s)*2^s:=by omega
   exact Nat.lt_of_mul_lt_mul_right this
  have q2:(top*4294967296+wd la (m+1))+1<=2^(32-s)*4294967296:=by
   omega
  have q3:=ybi (2^s) q2
  grind
 have hBB':∀l,val 4294967296 l=val BB l:=fun l=>by rw[hBB]
 have hPP:(4294967296:Nat)^m=BB^m:=by rw[hBB]
 rw[hBB',hPP]at va vb;have sE:(wd lb (m+2)*4294967296+wd lb (m+1))*2^s+wd lb m / 2^(32-s)<18446744073709551616:=by
  grind
 have h1:=JS (n:=m+3) (s:=s) ha hal (by omega) (by omega) hs (yam (Nat.le_add_right _ _) bigA);have h2:=JS (n:=m+3) (s:=s) hb hbl (by omega) (by omega) hs (yam (Nat.le_add_right _ _) sE);rw[show m+3-1=m+2 by omega,show m+3-2=m+1 by omega,show m+3-3=m by omega]at h1 h2;rw[va]at h1 bigA;rw[vb]at h2 sE;generalize hw:BB^m*2^(32-s)=W at *;have e1:((m+3:Nat):Int)-1=((m+2:Nat):Int):=by omega
 refine w226 ?_;simp only[uI,uL,uE,uZ,uW,t226,tA,ha.len,xA,zB,kG,hla,e1];rw[wrap_i64 (by omega) (by omega),g1,xA,g2,xA,zB,xA,q248,hs3,xA,zB,xA,q249,h1,xA,zB,xA,q249,h2,xA,zB,xA];simp only[if_true];exact SC (P:=Lsim (val BB la / W) (val BB lb / W)) bigA sE (fun x y u0 u1 u2 v0 v1 v2 ev hP hy k1 k2=>zbn hP hy k1 k2) (fun x y u0 u1 u2 v0 v1 v2 ev hP=>hQ u0 u1 v0 v1 ev W hW bigA sE hP.2.2.2.2) _ _ 0 1 0 0 0 1 false 0 0 0 0 false (zbo _ _) (by omega) (by omega) hdiv (by omega) (by omega)
end Go.Proofs
namespace Go.Proofs
open Go Go.Am
variable {l:List Nat}{v y:zA}{box:Nat}{Q:xC}{I:Nat->Tr qA->Prop}
variable [tC]
theorem zay      (hl:l.length<1000000)
  (hr:∀k t,I k t->mA yA 253 ⟨0,t⟩ (.ptr box 0)=some v/\sA t 1 (zC .u32 l) v)
  (hy:∀k x t,l[k]?=some x->I (k+1) t->∀R:xC,(∀t',I k t'->R (.bool true) t')->nE (oM y [.int .u32 (x:Nat)]) fun p=>Wq yA F iG p.1 p.2 t R)
  (hQ:∀t,I 0 t->Q (.tup []) t):∀(k:Nat) (t:Tr qA),k<=l.length->I k t->jp 232 2 [y,.ptr box 0,.int .i64 ((k:Int)-1)] t Q:=by
 intro k;induction k with
 | zero=>
  intro t _ h;refine zfq ?_;simp only[uL,uB,uZ,uW,Ug,tA,vG];simp_all
 | succ k ih=>
  intro t hk h;obtain⟨g0,hv⟩:=hr _ _ h;obtain⟨x,hx⟩:=getElem?_of_lt (l:=l) (i:=k) (by omega);obtain⟨c,off,g1,g2⟩:=hv.idx xH hx;have e1:((k+1:Nat):Int)-1=(k:Int):=by omega
  rw[e1];refine zfq ?_;simp (disch:=omega) only[uL,uB,uZ,uW,Ug,tA,vG,g0,g1,g2,xA,zB,wrap_i64];rw[yab (by omega)];refine hy k x t hx h _ fun t' ht'=>?_
  grind [zA.asBool,xA]
def zi8     {t:Tr qA} (hl:l.length<1000000)
  (hr:∀k t,I k t->mA yA 253 ⟨0,t⟩ (.ptr box 0)=some v/\sA t 1 (zC .u32 l) v)
  (hy:∀k x t,l[k]?=some x->I (k+1) t->∀R:xC,(∀t',I k t'->R (.bool true) t')->nE (oM y [.int .u32 (x:Nat)]) fun p=>Wq yA F iG p.1 p.2 t R)
  (hQ:∀t,I 0 t->Q (.tup []) t) (h:I l.length t):Wc yA F 232 [y,.ptr box 0] t Q:=by
 obtain⟨g0,hv⟩:=hr _ _ h;refine w232 ?_;simp (disch:=omega) only[uI,uZ,uW,t232,tA,g0,hv.len,kG,xA,zB,wrap_i64];exact zay hl hr hy hQ l.length t (ybk _) h
end Go.Proofs
namespace Go.Am
open Go Go.RowKit
variable {T b base el k n sz:Nat}{cl cm:List (List zA)}{t':Tr qA}{cd:Lo}{l m:List D}{v x:zA}
section
variable {t tf:Tr qA}{C:fA}
theorem jJ (hn:t.get n=none)(q:qA):iA t (t.set n q)/\aC n t (t.set n q):=
 ⟨fun c u hc=>by grind [Tr.get_set],fun c hc=>by rw[Tr.get_set,yaa hc]⟩
theorem XO   {lo:Option Lo}(hl:∀(i:Nat) cs,cl[i]?=some cs->cs.length=sz)(h:t'.get n=some (.cells (Tr.ofList cl.flatten) (wB cl.flatten) lo))(hlo:lo=none\/∃x,lo=some x/\x.es=sz) (hk:cl.length=k):iH t' sz (.slice n 0 k k) cl:=by
 grind [Rx]
theorem gU {y z:lD}{ps:List (Nat × zA)} (hT:C.tys.get T=some y)(hel:y.desc.asSlice=some el)(hz:C.tys.get el=some z)(hs:z.size=sz)(h0:wB z.zero=sz)(hn:n*sz<1000000)
  (hfill:xR (fun i=>some (i*sz,sz)) ps (uM z.zero n)=some cl.flatten) (hcl:∀(i:Nat) cs,cl[i]?=some cs->cs.length=sz) (hlen:cl.length=n)  (hb:t.get b=none) :
  ∃t',aE C T n ps ⟨b,t⟩=some (.slice b 0 n n,⟨b+1,t'⟩)/\iH t' sz (.slice b 0 n n) cl/\iA t t'/\aC b t t':=by
 refine⟨t.set b (.cells (Tr.ofList cl.flatten) (wB cl.flatten) none),?_,XO hcl (by rw[Tr.get_set,yab rfl]) (.inl rfl) hlen,(jJ hb _).1,(jJ hb _).2⟩;unfold aE;rw[hT,uA,hel,uA,hz,uA];have:(Nat.blt (n*z.size) 1000000&&Nat.beq (wB z.zero) z.size)=true:=by
  simp_all
 rw[this,mD,hs,hfill];rfl
def jG(cd:Lo)(base:Nat)(tf t:Tr qA)(sz:Nat)(l:List D)(v:zA):Prop:=
 (v=.nilslice/\l=[])\/∃b cl c,v=.slice b 0 l.length l.length/\base<=b/\tf.get b=none/\t.get b=some (.cells c (l.length*sz) (some cd)) ∧
  (∀(i:Nat) cs,cl[i]?=some cs->cs.length=sz/\∀(j:Nat) a,cs[j]?=some a->c.get (i*sz+j)=some a)/\qC tf l cl
abbrev Loose(base:Nat)(tf t:Tr qA)(sz:Nat)(l:List D)(v:zA):Prop:=jG (.sz sz) base tf t sz l v
def xI(v:zA)(b:Nat):Prop:=∃o n c,v=.slice b o n c
theorem Mc  : ¬ xI .nilslice b:=fun⟨_,_,_,h⟩=>by cases h
theorem tO{c o:Nat}:xI (.slice b o n k) c ↔ c=b:=⟨fun⟨_,_,_,h⟩=>by grind,fun h=>by subst h;exact⟨_,_,_,rfl⟩⟩
theorem jG.read    (hcd:cd.es=sz)(h:jG cd base tf t sz l v)(ht:iA tf t):sA t sz l v:=by
 rcases h with⟨rfl,rfl⟩ | ⟨b,cl,c,rfl,_,_,h1,h2,h3⟩
 ·exact⟨[],.inl ⟨rfl,rfl⟩,bE.2 rfl⟩
 ·have hlen:=h3.length;refine⟨cl,.inr ⟨b,0,l.length,by rw[hlen],by omega,⟨c,_,_,h1,.inr ⟨_,rfl,hcd⟩⟩,fun i cs hi=>⟨(h2 i cs hi).1,c,_,_,h1,fun j a hj=>?_⟩⟩,qC.mono ht _ _ h3⟩
  simp_all
theorem jG.len    (h:jG cd base tf t sz l v):tB v=some (.int .i64 (l.length:Int)):=by
 rcases h with⟨rfl,rfl⟩ | ⟨b,cl,c,rfl,_⟩
 ·rfl
 ·rfl
theorem jG.one    (h:jG cd base tf t sz l v):zA.one v=true:=by
 rcases h with⟨rfl,rfl⟩ | ⟨b,cl,c,rfl,_⟩<;>rfl
theorem jG.same{cd:Lo}{base sz d:Nat}{l:List D}{v:zA}(h:jG cd base tf t sz l v):same d v v=true:=by
 rcases h with⟨rfl,rfl⟩ | ⟨b,cl,c,rfl,_⟩
 all_goals grind [Am.same,Nat.beq_refl]
theorem jG.none{cd:Lo}{base sz:Nat}{l:List D}{v:zA}(h:jG cd base tf t sz l v){b:Nat}(hb:xI v b):tf.get b=none/\base<=b/\∃y,t.get b=some y:=by
 rcases h with⟨rfl,rfl⟩ | ⟨c,cl,x,rfl,h1,h2,h3,_⟩
 all_goals grind [Mc,tO]
theorem Loose.keep   {tf':Tr qA}(h:Loose base tf t sz l v)(hf:iA tf tf')(hk:∀b,xI v b->t'.get b=t.get b/\tf'.get b=Option.none):Loose base tf' t' sz l v:=by
 rcases h with⟨rfl,rfl⟩ | ⟨b,cl,c,rfl,h0,h1,h2,h3,h4⟩
 ·exact .inl ⟨rfl,rfl⟩
 ·obtain⟨k1,k2⟩:=hk b (tO.2 rfl);exact .inr ⟨b,cl,c,rfl,h0,k2,by simp_all,h3,qC.mono hf _ _ h4⟩
theorem OD{U:Nat} (hT:Bu C T el sz)(hU:∃u,C.tys.get U=some u/\Nat.beq u.desc.tag 1=false)(hcd:∀z,C.tys.get el=some z->vL el z=cd)   (hv:jG cd C.base tf t sz l v)(hall:∀(i:Nat) cs,cm[i]?=some cs->cs.length=sz)(hx:∀n,cT ⟨n,t⟩ sz cm.length x=some cm.flatten/\Aq x=some cm.length)(hm:qC tf m cm)(hone:∀a∈cm.flatten,zA.one a=true)(hpos:0<m.length)(hl:l.length+m.length<400000) (hn:t.get n=none)(hbase:C.base<=n)(ht:iA tf t) :
  ∃t',qD C T U v x ⟨n,t⟩=some (.slice n 0 (l.length+m.length) (l.length+m.length),⟨n+1,t'⟩)/\jG cd C.base tf t' sz (l++m) (.slice n 0 (l.length+m.length) (l.length+m.length))/\iA tf t'/\(∀c,c≠n->¬ xI v c->t'.get c=t.get c):=by
 obtain⟨⟨y,hy1,hy2,hy3⟩,⟨z,hz1,hz2,hz3,hz4,hz5⟩⟩:=hT;have hcode:=hcd z hz1;have hcm:=hm.length;obtain⟨hf,hlen⟩:=hx n;obtain⟨u,hu1,hu2⟩:=hU;have hflat:=pV hall;have hfl:wB cm.flatten=cm.length*sz:=by grind [oD]
 have hfn:tf.get n=none:=by
  cases hq:tf.get n with
  | none=>rfl
  | some u=>rw[ht _ _ hq]at hn;cases hn
 have base:qD C T U v x ⟨n,t⟩=(match v.asSlice with
  | some s=>bif Nat.ble (s.2.2.1+cm.length) s.2.2.2 then sV C ⟨n,t⟩ z cm.length cm.flatten s else rV C ⟨n,t⟩ el z cm.length cm.flatten s
  | none=>vB (Nat.beq v.tag 5) (eT ⟨n,t⟩ el z cm.length cm.flatten)):=by
  unfold qD pR;grind [uA,mD]
 have ok:mS z l.length l.length cm.length cm.flatten=true:=by
  unfold mS;have h1:Nat.blt (l.length+cm.length+l.length) 1000000000=true:=sC.2 (by omega);have h2:Nat.blt ((l.length+cm.length+l.length)*z.bytes) 1000000000=true:=sC.2 (by
   have:=ydb (show l.length+cm.length+l.length<=800000 by omega) hz4;omega)
  grind [sC,gC]
 rcases hv with⟨rfl,rfl⟩ | ⟨b,cl,c,rfl,hb0,hb1,hb2,hb3,hb4⟩
 ·refine⟨t.set n (.cells (Tr.ofList cm.flatten) (wB cm.flatten) (some cd)),?_,.inr ⟨n,cm,Tr.ofList cm.flatten,by simp,hbase,hfn,?_,fun i cs hi=>⟨hall i cs hi,fun j a hj=>?_⟩,by simp_all⟩,?_,fun c hc _=>(jJ hn _).2 c hc⟩
  ·rw[base];simp only[zA.asSlice];show vB true (eT ⟨n,t⟩ el z cm.length cm.flatten)=_;rw[mD];unfold eT;have:Nat.beq cm.length 0=false:=by
    grind [gC]
   have ok:mS z 0 0 cm.length cm.flatten=true:=ok;rw[this,cond_false,ok,mD,hcm,hcode];simp only[ybx,ybw];rfl
  ·grind [Tr.get_set]
  ·grind [Tr.get_ofList,kS]
  ·exact ht.trans (jJ hn _).1
 ·have hcl:=hb4.length;have hbn:b≠n:=by grind
  refine⟨(t.del b).set n (.cells (c.setMany cm.flatten (l.length*z.size)) ((l.length+cm.length)*z.size) (some cd)),?_,.inr ⟨n,cl++cm,c.setMany cm.flatten (l.length*z.size),by simp,hbase,hfn,?_,fun i cs hi=>?_,?_⟩,fun k u hk=>?_,fun k hk1 hk2=>?_⟩
  ·rw[base];simp only[zA.asSlice];have:Nat.ble (l.length+cm.length) l.length=false:=by
    grind [pE]
   rw[this,cond_false];unfold rV;simp only[];rw[show ∀x,(!(Nat.beq 0 1&&x))=true from fun _=>rfl,mD,ok,mD];unfold rD;rw[hb2,uA];simp only[qA.asCells,uA];unfold Hw;simp only[];have g1:loEq cd (vL el z)=true:=by grind [GX]
   have g2:Nat.ble (l.length*z.size) (l.length*sz)=true:=pE.2 (by simp_all);have g3:Nat.ble (l.length*sz) ((l.length+cm.length)*z.size)=true:=pE.2 (by grind);have g4:zD zA.one cm.flatten=true:=by grind [cE]
   have g5:(!Nat.blt b C.base)=true:=by
    grind [sC]
   rw[g1,g2,g3,g4,g5];simp_all
  ·rw[Tr.get_set,yab rfl,hz2,hcm,ybg]
  ·rw[List.getElem?_append]at hi;split at hi
   ·rename_i hlt;obtain⟨k1,k2⟩:=hb3 i cs hi;refine⟨k1,fun j a hj=>?_⟩;have hjl:j<sz:=by grind
    have:i*sz+j<l.length*sz:=by
     have:=ybi sz (show i+1<=l.length by omega)
     grind
    grind [Tr.get_setMany]
   ·rename_i hge;have k1:=hall _ cs hi;refine⟨k1,fun j a hj=>?_⟩;have hf1:=kS hall _ j cs a hi hj;have hlt:=(ybc.1 hf1).1;have e:i*sz=l.length*sz+(i-cl.length)*sz:=by rw[<- ybo];simp_all
    grind [Tr.get_setMany]
  ·have app:∀ {l m:List D} {cl cm:List (List zA)},qC tf l cl->qC tf m cm->qC tf (l++m) (cl++cm):=by
    intro l;induction l with
    | nil=>grind [bE]
    | cons d l ih=>
     grind [uF]
   simp_all
  ·have h1:k≠b:=by grind
   have h2:k≠n:=by grind
   rw[Tr.get_set,yaa h2,Tr.get_del,yaa h1];exact ht _ _ hk
  grind [Tr.get_set,Tr.get_del,tO]
def OE  (hT:Bu C T el sz)(hcd:∀z,C.tys.get el=some z->vL el z=cd)   (hv:jG cd C.base tf t sz l v)(hx:iH t sz x cm)(hm:qC tf m cm)(hone:∀a∈cm.flatten,zA.one a=true)(hpos:0<m.length)(hl:l.length+m.length<400000) (hn:t.get n=none)(hbase:C.base<=n)(ht:iA tf t) :
  ∃t',qD C T T v x ⟨n,t⟩=some (.slice n 0 (l.length+m.length) (l.length+m.length),⟨n+1,t'⟩)/\jG cd C.base tf t' sz (l++m) (.slice n 0 (l.length+m.length) (l.length+m.length))/\iA tf t'/\(∀c,c≠n->¬ xI v c->t'.get c=t.get c):=by
 obtain⟨y,hy1,hy2,hy3⟩:=hT.ty;exact OD hT ⟨y,hy1,hy3⟩ hcd hv hx.len (fun n=>hx.first (n:=n)) hm hone hpos hl hn hbase ht
def Bk (hT:mK C T el sz)   (hv:Loose C.base tf t sz l v)(hx:iH t sz x cm)(hm:qC tf m cm)(hone:∀a∈cm.flatten,zA.one a=true)(hpos:0<m.length)(hl:l.length+m.length<400000) (hn:t.get n=none)(hbase:C.base<=n)(ht:iA tf t) :
  ∃t',qD C T T v x ⟨n,t⟩=some (.slice n 0 (l.length+m.length) (l.length+m.length),⟨n+1,t'⟩)/\Loose C.base tf t' sz (l++m) (.slice n 0 (l.length+m.length) (l.length+m.length))/\iA tf t'/\(∀c,c≠n->¬ xI v c->t'.get c=t.get c):=by
 refine OE ⟨hT.ty,hT.el⟩ (fun z h=>?_) hv hx hm hone hpos hl hn hbase ht;obtain⟨y,h1,h2,_⟩:=hT.el;rw[hT.nb.code h,show z=y from yci (h.symm.trans h1),h2]
theorem jG.freeze    (hcd:cd.es=sz)(h:jG cd base tf t sz l v)(ht:iA tf t):∃tf',iA tf tf'/\iA tf' t/\sA tf' sz l v/\∀b,¬ xI v b->tf'.get b=tf.get b:=by
 rcases h with⟨rfl,rfl⟩ | ⟨b,cl,c,rfl,h0,h1,h2,h3,h4⟩
 ·exact⟨tf,iA.refl _,ht,⟨[],.inl ⟨rfl,rfl⟩,bE.2 rfl⟩,fun _ _=>rfl⟩
 ·have hlen:=h4.length;refine⟨tf.set b (.cells c (l.length*sz) (some cd)),(jJ h1 _).1,fun k u hk=>?_,⟨cl,.inr ⟨b,0,l.length,by rw[hlen],by omega,⟨c,_,_,by rw[Tr.get_set,yab rfl],.inr ⟨_,rfl,hcd⟩⟩,fun i cs hi=>⟨(h3 i cs hi).1,c,_,_,(by rw[Tr.get_set,yab rfl]),fun j a hj=>?_⟩⟩,qC.mono (jJ h1 _).1 _ _ h4⟩,fun k hk=>by rw[Tr.get_set,yaa (fun e=>hk (tO.2 e))]⟩
  ·rw[Tr.get_set]at hk;split at hk
   ·simp_all
   ·exact ht _ _ hk
  simp_all
theorem Loose.read   (h:Loose base tf t sz l v)(ht:iA tf t):sA t sz l v:=jG.read rfl h ht
theorem Loose.freeze   (h:Loose base tf t sz l v)(ht:iA tf t):∃tf',iA tf tf'/\iA tf' t/\sA tf' sz l v/\∀b,¬ xI v b->tf'.get b=tf.get b:=jG.freeze rfl h ht
end
end Go.Am
namespace Go.Am
open Go Go.RowKit
section
variable {l:List D}{T base i j sz:Nat}{t':Tr qA}{y:lD}{v:zA}{d:D}
def kC (t:Tr qA)(b:Nat)(lo:Option Lo)(cs:List zA):Prop:=∃c,t.get b=some (.cells c cs.length lo)/\∀(j:Nat) a,cs[j]?=some a->c.get j=some a
def gK(cs:List zA)(j:Nat)(l:List zA):List zA:=cs.take j++(l++cs.drop (j+l.length))
theorem Pw{cs l:List zA} (h:j+l.length<=cs.length):(gK cs j l).length=cs.length:=by
 grind [gK]
theorem Lc{cs l:List zA} (h:j+l.length<=cs.length)(k:Nat):(gK cs j l)[k]?=if j<=k/\k<j+l.length then l[k-j]? else cs[k]?:=by
 grind [gK]
section
variable {t tf:Tr qA}{C:fA}{b:Nat}{lo:Option Lo}{cs:List zA}
theorem kC.at(h:kC t b lo cs):At t b 0 cs:=by
 obtain⟨c,h1,h2⟩:=h;exact⟨c,_,_,h1,fun j a hj=>by simp_all⟩
theorem kC.off(h:kC t b lo cs) (k:t'.get b=t.get b):kC t' b lo cs:=by
 obtain⟨c,h1,h2⟩:=h;exact⟨c,by simp_all,h2⟩
theorem kC.load1(h:kC t b lo cs) {a:zA}{ty:Nat} (hy:C.tys.get ty=some y)(ha:y.desc.isAgg=false)(hj:cs[j]?=some a):mA C ty ⟨0,t⟩ (.ptr b j)=some a:=by
 have:=h.at.load1 hy ha hj
 simp_all
theorem kC.store(h:kC t b lo cs)(hb:C.base<=b)   (hT:C.tys.get T=some y)(hl:v.cells.length=y.size)(hj:j+v.cells.length<=cs.length)(hone:zD zA.one v.cells=true) :
  ∃t',(∀n,cC C T (.ptr b j) v ⟨n,t⟩=some (kD,⟨n,t'⟩))/\kC t' b lo (gK cs j v.cells)/\aC b t t':=by
 obtain⟨c,h1,h2⟩:=h;refine⟨t.set b (.cells (c.setMany v.cells j) cs.length lo),fun n=>?_,⟨c.setMany v.cells j,?_,fun k a hk=>?_⟩,fun d hd=>by rw[Tr.get_set,yaa hd]⟩
 ·unfold cC;rw[hT,uA];simp only[zA.asPtr,uA];have e1:Nat.beq (wB v.cells) y.size=true:=by grind [oD,gC]
  rw[e1,mD];unfold lJ rD;have e2:(!Nat.blt b C.base)=true:=by
   grind [sC]
  rw[e2,mD,h1,uA];simp only[qA.asCells,uA];have e3:Nat.ble (j+wB v.cells) cs.length=true:=by simp_all
  rw[e3,hone];rfl
 all_goals grind [Tr.get_set,Pw,Lc,Tr.get_setMany]
theorem kC.store1(h:kC t b lo cs)(hb:C.base<=b)   (hT:C.tys.get T=some y)(hs:y.size=1)(hv:v.cells=[v])(hone:zA.one v=true)(hj:j<cs.length) :
  ∃t',(∀n,cC C T (.ptr b j) v ⟨n,t⟩=some (kD,⟨n,t'⟩))/\kC t' b lo (cs.set j v)/\aC b t t':=by
 obtain⟨t',h1,h2,h3⟩:=h.store hb hT (v:=v) (j:=j) (by simp_all) (by grind) (by rw[hv];show(bif zA.one v then true else false)=true;simp_all);refine⟨t',h1,?_,h3⟩;have e:gK cs j v.cells=cs.set j v:=by
  rw[hv];apply List.ext_getElem?
  grind [Lc]
 simp_all
theorem nY{b:Nat}(hb:t.get b=none)(cs:List zA)(lo:Option Lo):∃t',lF ⟨b,t⟩ cs lo=⟨b+1,t'⟩/\kC t' b lo cs/\iA t t'/\aC b t t':=
 ⟨t.set b (.cells (Tr.ofList cs) (wB cs) lo),rfl,⟨Tr.ofList cs,by rw[Tr.get_set,yab rfl,oD],fun j a hj=>by grind [Tr.get_ofList]⟩,(jJ hb _).1,(jJ hb _).2⟩
def sX{b:Nat} (hT:C.tys.get T=some y)(hb:t.get b=none):∃t',kO C T ⟨b,t⟩=some (.ptr b 0,⟨b+1,t'⟩)/\kC t' b none y.zero/\iA t t'/\aC b t t':=by
 obtain⟨t',h1,h2,h3,h4⟩:=nY hb y.zero none;refine⟨t',?_,h2,h3,h4⟩;unfold kO;rw[hT,uA,<- h1]
theorem NL{b:Nat} (hb:t.get b=none):∃t',rN v ⟨b,t⟩=some (.ptr b 0,⟨b+1,t'⟩)/\kC t' b none v.cells/\iA t t'/\aC b t t':=by
 simp_all [nY,rN]
def OwnD (base:Nat)(tf t:Tr qA)(sz:Nat)(l:List D)(b:Nat)(lo:Option Lo):Prop:=
 base<=b/\tf.get b=none/\∃cl,kC t b lo cl.flatten/\(∀(i:Nat) cs,cl[i]?=some cs->cs.length=sz)/\qC tf l cl
theorem OwnD.read{n:Nat} (h:OwnD base tf t sz l b lo)(hlo:lo=none\/∃x,lo=some x/\x.es=sz)(ht:iA tf t)(hn:l.length=n){cap:Nat}(hc:n<=cap):sA t sz l (.slice b 0 n cap):=by
 obtain⟨_,_,cl,⟨c,h1,h2⟩,h3,h4⟩:=h;have hlen:=h4.length;refine⟨cl,.inr ⟨b,0,cap,by rw[hlen,hn],by omega,⟨c,_,_,h1,hlo⟩,fun i cs hi=>⟨h3 i cs hi,c,_,_,h1,fun j a hj=>?_⟩⟩,qC.mono ht _ _ h4⟩
 grind [kS]
theorem zdt  : ∀ {cl:List (List zA)},(∀(i:Nat) cs,cl[i]?=some cs->cs.length=sz)->∀ {i o:Nat} {cs l:List zA},cl[i]?=some cs->o+l.length<=sz->gK cl.flatten (i*sz+o) l=(cl.set i (gK cs o l)).flatten:=by
 intro cl h i o cs l hi ho;have hlt:i<cl.length:=(ybc.1 hi).1;have hcs:=h i cs hi;have hfl:=pV h;have hb:i*sz+sz<=cl.length*sz:=by
  have:=ybi sz (show i+1<=cl.length by omega)
  grind
 have hov:(gK cs o l).length=sz:=by grind [Pw]
 have h':∀(k:Nat) c,(cl.set i (gK cs o l))[k]?=some c->c.length=sz:=by
  grind
 have hfl':=pV h';rw[ydh]at hfl';have hsz:∀k,k<cl.length*sz->k / sz<cl.length/\k%sz<sz:=by
  intro k hk;have hpos:0<sz:=by
   grind
  simp_all [ycu,ybh,ycy]
 apply List.ext_getElem?;intro k;rw[Lc (by omega)];by_cases hk:k<cl.length*sz
 ·obtain⟨k1,k2⟩:=hsz k hk;have hdm:=ych k sz;have hkk:k=k / sz*sz+k%sz:=by grind
  have hq:cl[k / sz]?=some cl[k / sz]:=ybd k1;have hql:=h _ _ hq;have e1:cl.flatten[k]?=cl[k / sz][k%sz]?:=by
   grind [kS]
  have e2:∀c,(cl.set i (gK cs o l))[k / sz]?=some c->(cl.set i (gK cs o l)).flatten[k]?=c[k%sz]?:=by
   grind [kS]
  by_cases hi2:k / sz=i
  ·grind [Lc]
  ·have hc:(cl.set i (gK cs o l))[k / sz]?=some cl[k / sz]:=by grind
   rw[e2 _ hc,e1,yaa];intro⟨a1,a2⟩;apply hi2;have hpos:0<sz:=by omega
   exact Nat.div_eq_of_lt_le (by omega) (by grind)
 grind
theorem qC.set:∀ {l:List D} {cl:List (List zA)} {i:Nat} {d:D} {cs:List zA},qC tf l cl->RD tf d cs->qC tf (l.set i d) (cl.set i cs):=by
 intro l;induction l with
 | nil=>grind [bE]
 | cons e l ih=>
  intro cl i d cs h k;rw[uF]at h;obtain⟨c,r,rfl,h1,h2⟩:=h
  cases i with
  | zero=>grind [uF]
  | succ i=>grind [uF]
theorem OwnD.grow  (h:OwnD base tf t sz l b lo){tf':Tr qA}(hf:iA tf tf')(hb:tf'.get b=none)(ht:t'.get b=t.get b):OwnD base tf' t' sz l b lo:=by
 obtain⟨h1,h2,cl,h3,h4,h5⟩:=h;exact⟨h1,hb,cl,h3.off ht,h4,qC.mono hf _ _ h5⟩
def OwnD.cells  (h:OwnD base tf t sz l b lo)  (hi:l[i]?=some d):∃cs,cs.length=sz/\RD tf d cs/\At t b (i*sz) cs:=by
 obtain⟨h1,h2,cl,⟨c,h3,h4⟩,h5,h6⟩:=h;obtain⟨cs,k1,k2⟩:=h6.get hi;exact⟨cs,h5 i cs k1,k2,c,_,_,h3,fun j a hj=>h4 _ _ (kS h5 i j cs a k1 hj)⟩
theorem OwnD.store  (h:OwnD C.base tf t sz l b lo){o:Nat}{d':D}  (hi:l[i]?=some d)(hT:C.tys.get T=some y)(hl:v.cells.length=y.size)(ho:o+v.cells.length<=sz)(hone:zD zA.one v.cells=true)
  (hd:∀cs,cs.length=sz->RD tf d cs->RD tf d' (gK cs o v.cells)) :
  ∃t',(∀n,cC C T (.ptr b (i*sz+o)) v ⟨n,t⟩=some (kD,⟨n,t'⟩))/\OwnD C.base tf t' sz (l.set i d') b lo/\aC b t t':=by
 obtain⟨h1,h2,cl,h3,h5,h6⟩:=h;obtain⟨cs,k1,k2⟩:=h6.get hi;have hlt:i<cl.length:=(ybc.1 k1).1;have hfl:=pV h5;have hb:i*sz+sz<=cl.length*sz:=by
  have:=ybi sz (show i+1<=cl.length by omega)
  grind
 obtain⟨t',g1,g2,g3⟩:=h3.store h1 hT hl (j:=i*sz+o) (by omega) hone;rw[zdt h5 k1 ho]at g2;refine⟨t',g1,⟨h1,h2,_,g2,fun k c hk=>?_,h6.set (hd cs (h5 i cs k1) k2)⟩,g3⟩
 grind [Pw]
end
end
section
variable {k n:Nat}{t':Tr qA}
structure xD where
 blks:List Nat
 ok:Tr qA->Tr qA->Prop
 keep:∀ {tf t tf' t':Tr qA},ok tf t->iA tf tf'->(∀k∈blks,t'.get k=t.get k/\tf'.get k=none)->ok tf' t'
 live:∀ {tf t:Tr qA},ok tf t->∀k∈blks,∃y,t.get k=some y
structure Objs (base:Nat) (tf t:Tr qA) (l:List xD):Prop where
 tle:iA tf t
 nodup:(l.flatMap xD.blks).Nodup
 ok:∀o∈l,o.ok tf t
 low:∀k∈l.flatMap xD.blks,base<=k/\tf.get k=none
def pF (v:zA):List Nat:=match v with | .slice b _ _ _=>[b] | _=>[]
theorem uO{v:zA}{k:Nat}:k∈pF v ↔ xI v k:=by
 unfold pF xI;grind
def wD (b:Nat)(lo:Option Lo)(cs:List zA):xD where
 blks:=[b]
 ok:=fun _ t=>kC t b lo cs
 keep:=fun h _ k=>h.off (k b (by simp)).1
 live:=fun h k hk=>by rw[ydd]at hk;subst hk;obtain⟨c,hc,_⟩:=h;simp_all
def jE (b:Nat)(l:List (zA × zA)):xD where
 blks:=[b]
 ok:=fun _ t=>t.get b=some (.map l)
 keep:=fun h _ k=>by simp_all
 live:=fun h k hk=>by simp_all
def bB(base sz:Nat)(l:List D)(v:zA):xD where
 blks:=pF v
 ok:=fun tf t=>Loose base tf t sz l v
 keep:=fun h hf k=>h.keep hf fun b hb=>k b (uO.2 hb)
 live:=fun h k hk=>(h.none (uO.1 hk)).2.2
section
variable {base:Nat}{tf t:Tr qA}{l A B:List xD}{o o':xD}
theorem Objs.live(h:Objs base tf t l) (hk:k∈l.flatMap xD.blks):∃y,t.get k=some y:=by
 obtain⟨o,ho,hk⟩:=List.mem_flatMap.1 hk;exact o.live (h.ok o ho) k hk
theorem Objs.fresh(h:Objs base tf t l) (hn:t.get n=none):n∉l.flatMap xD.blks:=by
 intro hm;obtain⟨y,hy⟩:=h.live hm
 simp_all
theorem Objs.tfn(h:Objs base tf t l) (hn:t.get n=none):tf.get n=none:=by
 cases hq:tf.get n with
 | none=>rfl
 | some y=>have:=h.tle _ _ hq;simp_all
theorem Objs.keep(h:Objs base tf t l){tf':Tr qA}(hf:iA tf tf')(ht:iA tf' t')(hk:∀k∈l.flatMap xD.blks,t'.get k=t.get k/\tf'.get k=none):Objs base tf' t' l:=
 ⟨ht,h.nodup,fun o ho=>o.keep (h.ok o ho) hf fun k hk'=>hk k (List.mem_flatMap.2 ⟨o,ho,hk'⟩),fun k hk'=>⟨(h.low k hk').1,(hk k hk').2⟩⟩
theorem Objs.junk(h:Objs base tf t l)  (hn:t.get n=none)(ho:aC n t t'):Objs base tf t' l:=
 h.keep (iA.refl _) (h.tle.off (h.tfn hn) ho) fun k hk=>⟨ho k (fun e:k=n=>h.fresh hn (e ▸ hk)),(h.low k hk).2⟩
def Objs.other(h:Objs base tf t l)  (hn:n∉l.flatMap xD.blks)(hf:tf.get n=none)(ho:aC n t t'):Objs base tf t' l:=
 h.keep (iA.refl _) (h.tle.off hf ho) fun k hk=>⟨ho k (fun e:k=n=>hn (e ▸ hk)),(h.low k hk).2⟩
theorem Objs.froze(h:Objs base tf t l) {y:qA}(hn:n∉l.flatMap xD.blks)(hy:t.get n=some y)(hf:tf.get n=none):Objs base (tf.set n y) t l/\iA tf (tf.set n y):=by
 have h1:=(jJ (t:=tf) hf y).1;refine⟨h.keep h1 (fun k u hk=>?_) fun k hk=>⟨rfl,?_⟩,h1⟩
 ·rw[Tr.get_set]at hk;split at hk
  ·simp_all
  ·exact h.tle _ _ hk
 ·rw[Tr.get_set,yaa (fun e:k=n=>hn (e ▸ hk))];exact(h.low k hk).2
def Ro:(A++o::B).flatMap xD.blks=A.flatMap xD.blks++(o.blks++B.flatMap xD.blks):=by simp
theorem Objs.upd(h:Objs base tf t (A++o::B)) (hk:∀k,k∉o.blks->k∉o'.blks->t'.get k=t.get k)(hn:∀k∈o'.blks,k∈o.blks\/(t.get k=none/\base<=k))(hok:o'.ok tf t')(hnd:o'.blks.Nodup)(ht:iA tf t'):Objs base tf t' (A++o'::B):=by
 have hd:=h.nodup;rw[Ro]at hd;rw[List.nodup_append]at hd;obtain⟨d1,d2,d3⟩:=hd;rw[List.nodup_append]at d2;obtain⟨d4,d5,d6⟩:=d2;have oth:∀k,k∈A.flatMap xD.blks\/k∈B.flatMap xD.blks->k∉o.blks/\k∉o'.blks/\t'.get k=t.get k/\base<=k/\tf.get k=none:=by
  intro k hk';have hm:k∈(A++o::B).flatMap xD.blks:=by rw[Ro];simp only[yaf];rcases hk' with h | h<;>simp[h]
  have h1:k∉o.blks:=fun hc=>by
   grind
  have h2:k∉o'.blks:=fun hc=>by
   rcases hn k hc with h' | h'
   ·grind
   ·obtain⟨y,hy⟩:=h.live hm
    simp_all
  exact⟨h1,h2,hk k h1 h2,h.low k hm⟩
 have mem:∀k,k∈(A++o'::B).flatMap xD.blks->(k∈A.flatMap xD.blks\/k∈B.flatMap xD.blks)\/k∈o'.blks:=by
  grind
 refine⟨ht,?_,fun p hp=>?_,fun k hk'=>?_⟩
 ·grind
 ·have hp':p∈A\/p=o'\/p∈B:=by simp_all
  rcases hp' with h' | h' | h'
  ·exact p.keep (h.ok p (by simp[h'])) (iA.refl _) fun k hk'=>by
    grind
  ·simp_all
  ·exact p.keep (h.ok p (by simp[h'])) (iA.refl _) fun k hk'=>by
    grind
 ·rcases mem k hk' with h' | h'
  ·simp_all
  ·rcases hn k h' with h'' | h''
   ·exact h.low k (by simp_all)
   ·exact⟨h''.2,h.tfn h''.1⟩
def Qg:xD:=⟨[],fun _ _=>True,fun _ _ _=>trivial,fun _ _ h=>by cases h⟩
theorem Objs.add(h:Objs base tf t (A++B)) (hk:∀k,k∉o'.blks->t'.get k=t.get k)(hn:∀k∈o'.blks,t.get k=none/\base<=k)(hok:o'.ok tf t')(hnd:o'.blks.Nodup)(ht:iA tf t'):Objs base tf t' (A++o'::B):=by
 have e:Objs base tf t (A++Qg::B):=by
  have hm:(A++Qg::B).flatMap xD.blks=(A++B).flatMap xD.blks:=by simp[Qg]
  refine⟨h.tle,by rw[hm];exact h.nodup,fun o ho=>?_,fun k hk=>h.low k (by simp_all)⟩;have:o∈A\/o=Qg\/o∈B:=by simp_all
  rcases this with h' | h' | h'
  ·exact h.ok o (by simp[h'])
  ·subst h';trivial
  ·exact h.ok o (by simp[h'])
 exact e.upd (fun k _ h2=>hk k h2) (fun k hk=>.inr (hn k hk)) hok hnd ht
theorem Objs.drop(h:Objs base tf t (A++o::B)):Objs base tf t (A++B):=by
 have hd:=h.nodup;rw[Ro]at hd;refine⟨h.tle,?_,fun p hp=>h.ok p (by rcases yaf.1 hp with h | h<;>simp[h]),fun k hk=>h.low k (by rw[Ro];rw[List.flatMap_append]at hk;rcases yaf.1 hk with h | h<;>simp[h])⟩
 grind
theorem Objs.notin(h:Objs base tf t (A++o::B)) (hk:k∈o.blks):k∉(A++B).flatMap xD.blks:=by
 have hd:=h.nodup
 grind
def Objs.freezeL{sz:Nat}{m:List D}{v:zA}(h:Objs base tf t (A++bB base sz m v::B)):∃tf',iA tf tf'/\Objs base tf' t (A++B)/\sA tf' sz m v:=by
 have hl:Loose base tf t sz m v:=h.ok (bB base sz m v) (by simp);obtain⟨tf',h1,h2,h3,h4⟩:=hl.freeze h.tle;refine⟨tf',h1,h.drop.keep h1 h2 fun k hk=>⟨rfl,?_⟩,h3⟩;have hb:¬ xI v k:=fun hb=>h.notin (o:=bB base sz m v) (uO.2 hb) hk;rw[h4 k hb];exact(h.drop.low k hk).2
end
end
section
variable {T b cap el k n:Nat}{x:zA}{cs:List zA}{lo:Option Lo}
section
variable {t tf:Tr qA}{C:fA}
theorem Zs{sz:Nat}(hT:mK C T el sz){l:List D} (hx:sA tf sz l x)(ht:iA tf t)(hl:l.length<1000000) (hn:t.get n=none) :
  ∃v k t' tf',qD C T T .nilslice x ⟨n,t⟩=some (v,⟨k,t'⟩)/\sA tf' sz l v/\iA tf tf'/\iA tf' t'/\iA t t'/\aC n t t'/\aC n tf tf':=by
 obtain⟨⟨y,hy1,hy2,hy3⟩,⟨z,hz1,hz2,hz3,hz4,hz5⟩,hnb⟩:=hT;have hcode:=NB.code hnb hz1;obtain⟨cl,he,hd⟩:=hx;have hcl:=hd.length;obtain⟨hf,hlen⟩:=(he.mono ht).first (n:=n);have hall:=he.len;have base:qD C T T .nilslice x ⟨n,t⟩=eT ⟨n,t⟩ el z cl.length cl.flatten:=by
  unfold qD pR;rw[hy1,uA,uA,hy3];simp only[ycl,mD];rw[hy2,uA,hz1,uA,hlen,uA,hz2,hf,uA];rfl
 have hfl:wB cl.flatten=cl.length*sz:=by grind [oD,pV]
 have ok:mS z 0 0 cl.length cl.flatten=true:=by
  unfold mS;have h1:Nat.blt (0+cl.length+0) 1000000000=true:=sC.2 (by omega);have h2:Nat.blt ((0+cl.length+0)*z.bytes) 1000000000=true:=sC.2 (by
   have:=ydb (show 0+cl.length+0<=1000000 by omega) hz4;omega)
  grind [sC,gC]
 have hfn:tf.get n=none:=by
  cases hq:tf.get n with
  | none=>rfl
  | some u=>rw[ht _ _ hq]at hn;cases hn
 by_cases h0:cl.length=0
 ·have:cl=[]:=ycc.1 h0;subst this;refine⟨.nilslice,n,t,tf,?_,⟨[],.inl ⟨rfl,rfl⟩,hd⟩,iA.refl _,ht,iA.refl _,aC.refl _ _,aC.refl _ _⟩;rw[base];rfl
 ·have hb:Nat.beq cl.length 0=false:=by
   grind [gC]
  refine⟨.slice n 0 cl.length cl.length,n+1,t.set n (.cells (Tr.ofList cl.flatten) (wB cl.flatten) (some (vL el z))),tf.set n (.cells (Tr.ofList cl.flatten) (wB cl.flatten) (some (vL el z))),?_,⟨cl,Rx hall (by rw[Tr.get_set,yab rfl]) (.inr ⟨_,rfl,by rw[Fb,hz2]⟩),qC.mono (jJ hfn _).1 _ _ hd⟩,(jJ hfn _).1,fun k u hk=>?_,(jJ hn _).1,(jJ hn _).2,(jJ hfn _).2⟩
  ·rw[base];unfold eT;rw[hb,cond_false,ok];rfl
  ·rw[Tr.get_set]at hk ⊢;split at hk
   ·simp_all
   ·rename_i e;rw[yaa e];exact ht _ _ hk
theorem ZM{m:Nat}   {cm:List (List zA)}(hT:Bu C T el 1)(hc:kC t b lo cs)(hb:C.base<=b)(hx:iH t 1 x cm)(hm:cm.length=m)(h0:0<m)(hk:k+m<=cap)(hcap:cap<=cs.length)(hone:∀a∈cm.flatten,zA.one a=true) :
  ∃t',qD C T T (.slice b 0 k cap) x ⟨n,t⟩=some (.slice b 0 (k+m) cap,⟨n,t'⟩)/\kC t' b lo (gK cs k cm.flatten)/\aC b t t':=by
 obtain⟨⟨y,hy1,hy2,hy3⟩,⟨z,hz1,hz2,hz3,hz4,hz5⟩⟩:=hT;obtain⟨hf,hlen⟩:=hx.first (n:=n);have hfl:=pV hx.len;rw[Nat.mul_one,hm]at hfl;obtain⟨c,h1,h2⟩:=hc;have hne:cm.flatten≠[]:=by grind
 refine⟨t.set b (.cells (c.setMany cm.flatten k) cs.length lo),?_,⟨c.setMany cm.flatten k,by rw[Tr.get_set,yab rfl,Pw (by omega)],fun j a hj=>?_⟩,fun d hd=>by rw[Tr.get_set,yaa hd]⟩
 ·unfold qD pR;rw[hy1,uA,uA,hy3];simp only[ycl,mD];rw[hy2,uA,hz1,uA,hlen,uA,hz2,hf,uA];simp only[zA.asSlice,hm];rw[pE.2 hk,cond_true];unfold sV
  cases hq:cm.flatten with
  | nil=>simp_all
  | cons a r=>
   simp only[hz2,Nat.mul_one,ybw];rw[<- hq];unfold lJ rD;have e2:(!Nat.blt b C.base)=true:=by
    grind [sC]
   rw[e2,mD,h1,uA];simp only[qA.asCells,uA];have e3:Nat.ble (k+wB cm.flatten) cs.length=true:=by grind [oD,pE]
   have e4:zD zA.one cm.flatten=true:=by grind [cE]
   rw[e3,e4];rfl
 grind [Lc,Tr.get_setMany]
def yP(l:List Nat):List zA:=l.map fun(n:Nat)=>zA.int .u8 (n:Int)
theorem MB{S Dt:Nat}  {l:List Nat}{yS yD yE:lD}(hS:C.tys.get S=some yS)(hD:C.tys.get Dt=some yD)(h1:yD.desc.asInt=none)(h2:yD.desc.isString=true)(h3:yS.desc.asSlice=some el)(h4:C.tys.get el=some yE)(h5:yE.desc.asInt=some .u8)
  (hc:kC t b lo cs) (hk:l.length=k) (hl:∀(j:Nat) x,l[j]?=some x->cs[j]?=some (.int .u8 (x:Int))) (hlt:mB 256 l):yM C S Dt ⟨0,t⟩ (.slice b 0 k cap)=some (.str l):=by
 obtain⟨c,g1,g2⟩:=hc;unfold yM tR;rw[hS,uA,hD,uA,h1];simp only[];rw[h2,mD];have e1:Nat.beq (zA.slice b 0 k cap).tag 2=false:=rfl;rw[e1,cond_false,h3,uA,h4,uA,h5,uA,eL.2 rfl,mD];unfold Ey;simp only[zA.asSlice];unfold rD;rw[g1,uA];simp only[qA.asCells,uA];have hm:∀(l:List Nat) (off:Nat),(∀(j:Nat) x,l[j]?=some x->c.get (off+j)=some (.int .u8 (x:Int)))->c.many l.length off=some (yP l):=by
  intro l;induction l with
  | nil=>intro off _;rfl
  | cons x l ih=>
   intro off h;rw[ybn,Tr.many_succ];have:=h 0 x rfl;rw[yct]at this;rw[this,uA,ih (off+1) (fun j y hj=>by rw[show off+1+j=off+(j+1) by omega];simp_all),uA];rfl
 subst hk;rw[hm l 0 (fun j x hj=>by simp_all),uA];have hb:∀(l:List Nat),mB 256 l->oH yU (yP l)=some l:=by
  intro l;induction l with
  | nil=>intro _;rfl
  | cons x l ih=>
   intro h;have e:yU (.int .u8 (x:Int))=some x:=by
    unfold yU;have e1:sM (x:Int)=some x:=rfl;simp only[zA.asIntK,uA];rw[eL.2 rfl,mD,e1,uA,sC.2 (h x (by simp))];rfl
   show oH yU (.int .u8 (x:Int)::yP l)=_;rw[dO,e,uA,ih fun y hy=>h y (by simp[hy]),uA]
 rw[hb l hlt,uA]
theorem VM {y z:lD}{k:IntKind}(hT:C.tys.get T=some y)(hel:y.desc.asSlice=some el)(hz:C.tys.get el=some z)(hzero:z.zero=[.int k 0])(hs:z.size=1)(hby:z.bytes<=8)(hn:cap<1000000) (hb:t.get b=none) :
  ∃t',mO C T (.int .i64 0) (.int .i64 (cap:Int)) ⟨b,t⟩=some (.slice b 0 0 cap,⟨b+1,t'⟩)/\kC t' b none (List.replicate cap (.int k 0))/\iA t t'/\aC b t t':=by
 have hrep:∀n,uM [zA.int k 0] n=List.replicate n (.int k 0):=by
  intro n;induction n with
  | zero=>rfl
  | succ n ih=>grind [uM,fH]
 obtain⟨t',h1,h2,h3,h4⟩:=nY hb (List.replicate cap (.int k 0)) none;refine⟨t',?_,h2,h3,h4⟩;unfold mO;rw[hT,uA,hel,uA,hz,uA];have e1:(zA.int .i64 (cap:Int)).asNat=some cap:=rfl;have e0:(zA.int .i64 0).asNat=some 0:=rfl;rw[e1,e0,uA,uA];have e2:(Nat.ble 0 cap&&Nat.blt cap 1000000&&Nat.blt (cap*z.bytes) 1000000000&&Nat.beq (wB z.zero) z.size)=true:=by
  rw[hzero,hs,show Nat.ble 0 cap=true from pE.2 (yaw _),sC.2 hn];have:cap*z.bytes<1000000000:=by
   have:=ydb (Nat.le_of_lt hn) hby
   omega
  rw[sC.2 this];rfl
 rw[e2,mD,hzero,hrep,h1]
end
end
end Go.Am
namespace Go.Am
open Go
variable {k:IntKind}{l m:List Nat}{T base el n sz:Nat}{v:zA}{cd:Lo}
section
variable {C:fA}{t tf:Tr qA}
def sR(k:IntKind)(l:List Nat):List (List zA):=l.map fun(x:Nat)=>[zA.int k (x:Int)]
theorem Bq{k:IntKind}:∀ {l:List Nat} {cl:List (List zA)},qC t (zC k l) cl ↔ cl=sR k l
 | [],cl=>by
  show qC t [] cl ↔ cl=[];exact bE
 | x::l,cl=>by
  show qC t (.int k (x:Int)::zC k l) cl ↔ cl=[.int k (x:Int)]::sR k l;rw[uF];constructor
  ·rintro⟨c,r,rfl,h1,h2⟩;rw[yQ]at h1;rw[h1,Bq.1 h2]
  ·rintro rfl;exact⟨_,_,rfl,yQ.2 rfl,Bq.2 rfl⟩
def Sj{k:IntKind}:∀(l:List Nat),(sR k l).flatten=l.map fun(x:Nat)=>zA.int k (x:Int)
 | []=>rfl
 | x::l=>by
  show [zA.int k (x:Int)]++(sR k l).flatten=_;rw[Sj l];rfl
theorem MT   : (sR k l).length=l.length:=by simp[sR]
theorem YN  (i:Nat)(cs:List zA)(h:(sR k l)[i]?=some cs):cs.length=1:=by
 grind [sR]
def YV(l:List Nat)(h:mB 256 l):oH yU (yP l)=some l:=by
 induction l with
 | nil=>rfl
 | cons x l ih=>
  have e:yU (.int .u8 (x:Int))=some x:=by
   unfold yU;have e1:sM (x:Int)=some x:=rfl;simp only[zA.asIntK,uA];rw[eL.2 rfl,mD,e1,uA,sC.2 (h x (by simp))];rfl
  show oH yU (.int .u8 (x:Int)::yP l)=_;rw[dO,e,uA,ih fun y hy=>h y (by simp[hy]),uA]
theorem zd7{S Dt:Nat}  {yS yD yE:lD}(hS:C.tys.get S=some yS)(hD:C.tys.get Dt=some yD)(h1:yD.desc.asInt=none)(h2:yD.desc.isString=true)(h3:yS.desc.asSlice=some el)(h4:C.tys.get el=some yE)(h5:yE.desc.asInt=some .u8)
  (hv:sA t 1 (zC .u8 l) v) (hlt:mB 256 l):yM C S Dt ⟨0,t⟩ v=some (.str l):=by
 obtain⟨cl,g1,g2⟩:=hv;rw[Bq]at g2;subst g2;have hf:=(g1.first (n:=0)).1;have htag:Nat.beq v.tag 2=false:=by
  rcases g1 with⟨rfl,_⟩ | ⟨b,off,cap,rfl,_⟩<;>rfl
 unfold yM tR;rw[hS,uA,hD,uA,h1];simp only[];rw[h2,mD,htag,cond_false,h3,uA,h4,uA,h5,uA,eL.2 rfl,mD];unfold Ey;rcases g1 with⟨rfl,hn⟩ | ⟨b,off,cap,rfl,_⟩
 ·have:l=[]:=by
   grind [MT]
  subst this;rfl
 ·unfold cT at hf;simp only[zA.asSlice,Nat.mul_one]at hf ⊢;rw[lA]at hf;obtain⟨c,hc,hf⟩:=hf;rw[hc,uA,hf,uA,Sj];have:=YV l hlt;unfold yP at this;rw[this,uA]
theorem WU{k:Nat} (h:l.length=k):cT ⟨n,t⟩ 1 k (.str l)=some (sR .u8 l).flatten/\Aq (.str l)=some k:=by
 subst h;constructor
 ·unfold cT;simp only[zA.asSlice,zA.asStr];rw[Sj,iU,List.take_length];rfl
 grind [Aq,zA.asSlice,zA.asStr,oD]
def FS   : ∀a∈(sR k l).flatten,zA.one a=true:=by
 intro a ha;rw[Sj]at ha;obtain⟨x,_,rfl⟩:=yaq.1 ha;rfl
theorem LV   : zC k (l++m)=zC k l++zC k m:=by simp[zC]
theorem OC{U:Nat} (hT:Bu C T el 1)(hU:∃u,C.tys.get U=some u/\Nat.beq u.desc.tag 1=false)(hcd:∀z,C.tys.get el=some z->vL el z=cd)  (hv:jG cd C.base tf t 1 (zC .u8 l) v)(hpos:m≠[])(hl:l.length+m.length<400000) (hn:t.get n=none)(hbase:C.base<=n)(ht:iA tf t) :
  ∃t',qD C T U v (.str m) ⟨n,t⟩=some (.slice n 0 (l.length+m.length) (l.length+m.length),⟨n+1,t'⟩)/\jG cd C.base tf t' 1 (zC .u8 (l++m)) (.slice n 0 (l.length+m.length) (l.length+m.length))/\iA tf t'/\(∀c,c≠n->¬ xI v c->t'.get c=t.get c):=by
 have h0:0<m.length:=List.length_pos_iff.2 hpos;obtain⟨t',h1,h2,h3,h4⟩:=OD hT hU hcd (l:=zC .u8 l) (m:=zC .u8 m) (x:=.str m) (cm:=sR .u8 m) hv YN (fun n=>by grind [MT,WU]) (Bq.2 rfl) FS (by grind [kG]) (by grind [kG]) hn hbase ht
 grind [kG,LV]
theorem OF   (hT:Bu C T el 1)(hcd:∀z,C.tys.get el=some z->vL el z=cd) {x:zA}(hv:jG cd C.base tf t 1 (zC k l) v)(hx:sA t 1 (zC k m) x)(hpos:m≠[])(hl:l.length+m.length<400000) (hn:t.get n=none)(hbase:C.base<=n)(ht:iA tf t) :
  ∃t',qD C T T v x ⟨n,t⟩=some (.slice n 0 (l.length+m.length) (l.length+m.length),⟨n+1,t'⟩)/\jG cd C.base tf t' 1 (zC k (l++m)) (.slice n 0 (l.length+m.length) (l.length+m.length))/\iA tf t'/\(∀c,c≠n->¬ xI v c->t'.get c=t.get c):=by
 have h0:0<m.length:=List.length_pos_iff.2 hpos;obtain⟨cl,g1,g2⟩:=hx;rw[Bq]at g2;subst g2;obtain⟨t',h1,h2,h3,h4⟩:=OE hT hcd (l:=zC k l) (m:=zC k m) (x:=x) (cm:=sR k m) hv g1 (Bq.2 rfl) FS (by grind [kG]) (by grind [kG]) hn hbase ht
 grind [kG,LV]
def GR   : jG cd base tf t sz [] .nilslice:=.inl ⟨rfl,rfl⟩
theorem jG.keep'  {l:List D} {t':Tr qA}(h:jG cd base tf t sz l v)(hk:∀b,xI v b->t'.get b=t.get b):jG cd base tf t' sz l v:=by
 rcases h with⟨rfl,rfl⟩ | ⟨b,cl,c,rfl,h0,h1,h2,h3,h4⟩
 ·exact .inl ⟨rfl,rfl⟩
 ·exact .inr ⟨b,cl,c,rfl,h0,h1,by grind [tO],h3,h4⟩
end
end Go.Am
namespace Go.Proofs
open Go Go.Am
variable {bx n x:Nat}{v:zA}{l:List Nat}
variable [tC]
variable {t tf:Tr qA}
theorem DN {y:qA}(hn:t.get n=none)(h:iA tf t):iA (tf.set n y) (t.set n y):=by
 intro c u hc;rw[Tr.get_set]at hc ⊢;split at hc
 ·simp_all
 ·rename_i e;rw[yaa e];exact h _ _ hc
theorem Ql(h:iA tf t) (hn:t.get n=none):tf.get n=none:=by
 cases hx:tf.get n with
 | none=>rfl
 | some y=>rw[h _ _ hx]at hn;cases hn
structure Zz (S:Tr qA->Tr qA->Prop):Prop where
 le:∀ {tf t:Tr qA},S tf t->iA tf t
 both:∀ {tf t:Tr qA} {n:Nat},S tf t->t.get n=none->∀y,S (tf.set n y) (t.set n y)
 out:∀ {tf t:Tr qA} {n:Nat} {y:qA},tf.get n=none->S (tf.set n y) t->S tf (t.del n)
theorem EU{f i:Nat}{v8 v4:zA}{K R:T}{ps:List Nat}{Q:xC}{S:Nat->Tr qA->Tr qA->Prop}(hS:∀k,Zz (S k))(hp:sA tf 1 (zC .u32 ps) v4)(hl:ps.length<30000)(h:S ps.length tf t)
  (body:∀(k x:Nat) (tf t:Tr qA) (Q1:xC),ps[k]?=some x->S (k+1) tf t->(∀t',S k tf t'->Q1 (.bool true) t')->Jq yA F f i [v8,.int .u32 (x:Int)] t Q1)
  (bD:∀tf' t',iA tf tf'->S 0 tf' t'->tA yA.base (Wq yA F iG) (Jq yA F f) K t' Q) :
  tA yA.base (Wq yA F iG) (Jq yA F f) (.call 202 [v4] fun a0=>.range (npC yA) a0 i 1 [v8] K R) t Q:=by
 simp only[tA];rw[q202];refine w202 ?_;simp only[t202,tA];intro bb hbb hbase;have hc4:v4.cells=[v4]:=by
  obtain⟨cl,h1,_⟩:=hp;rcases h1 with⟨rfl,_⟩ | ⟨_,_,_,rfl,_⟩<;>rfl
 have hone:rN v4 ⟨bb,t⟩=some (.ptr bb 0,⟨bb+1,t.set bb (.cells (Tr.ofList [v4]) 1 none)⟩):=by
  unfold rN;rw[hc4];rfl
 rw[hone,xA];simp only[];have h1:=(hS _).both h hbb (.cells (Tr.ofList [v4]) 1 none);have hfb:=Ql ((hS _).le h) hbb;have htf1:iA tf (tf.set bb (.cells (Tr.ofList [v4]) 1 none)):=(jJ hfb _).1;generalize htf:tf.set bb (.cells (Tr.ofList [v4]) 1 none)=tf1 at h1 htf1;have hg1:tf1.get bb=some (.cells (Tr.ofList [v4]) 1 none):=by rw[<- htf,Tr.get_set,yab rfl]
 generalize t.set bb (.cells (Tr.ofList [v4]) 1 none)=t1 at h1;refine⟨Nat.le_add_right _ _,fun l r hl0 hlb hr1 hr2 hy=>?_⟩;have hra:Pn (npC yA) (.func (.func 232) [] [.ptr bb 0]) l=some (232,[.func (.yld l) [] [],.ptr bb 0]):=by
  unfold Pn;simp only[zA.asFunc,uA];have:npC yA 232=true:=by kernel_rfl
  rw[this];rfl
 rw[hra,xA];have h2:=(hS _).both h1 hl0 (.loop r);have hfl:=Ql ((hS _).le h1) hl0;have hlr:iY true r=r:=by
  obtain⟨a,b,c,d,e,f,g,h,i⟩:=r;have hr1:a=.ready:=hr1;have hr2:b=none:=hr2;subst hr1;subst hr2;rfl
 have hle2:iA tf1 (tf1.set l (.loop r)):=(jJ hfl _).1;rw[show Wq yA F iG 232=Wc yA F 232 by funext a m R;rw[q232]];refine zi8 (l:=ps) (v:=v4) (I:=fun k t'=>S k (tf1.set l (.loop r)) t') (by omega) ?_ ?_ ?_ h2
 ·intro k t' hI;have hle:=(hS _).le hI;have hg:t'.get bb=some (.cells (Tr.ofList [v4]) 1 none):=hle _ _ (hle2 _ _ hg1);refine⟨?_,hp.mono (htf1.trans (hle2.trans hle))⟩;exact(kC.load1 (cs:=[v4]) (lo:=none) ⟨Tr.ofList [v4],hg,fun j a hj=>by grind [Tr.get_ofList]⟩ rQ rfl (j:=0) rfl)
 ·intro k x t' hx hI R hR;show nE (some (yo+l,[zA.int .u32 (x:Int)])) _;rw[xA];refine hy [.int .u32 (x:Int)] t' R rfl ((hS _).le hI _ _ (by rw[Tr.get_set,yab rfl])) ?_;refine body k x tf1 _ _ hx ((hS _).out hfl hI) fun t2 h3 hn2=>⟨true,rfl,?_⟩;rw[hlr];exact hR _ ((hS _).both h3 hn2 (.loop r))
 ·intro t' hI;exact .inl ⟨(hS _).le hI _ _ (by rw[Tr.get_set,yab rfl]),bD tf1 _ htf1 ((hS _).out hfl hI)⟩
def Fm (bx:Nat)(v:zA)(tf t:Tr qA):Prop:=yA.base<=bx/\tf.get bx=none/\iA tf t/\kC t bx none [v]
theorem Fm.framed   : Zz (Fm bx v) where
 le:=fun h=>h.2.2.1
 both:=fun {tf t n} h hn y=>by
  obtain⟨h1,h2,h3,h4⟩:=h;have hbx:bx≠n:=by intro e;obtain⟨c,h,_⟩:=h4;simp_all
  exact⟨h1,by grind [Tr.get_set],DN hn h3,h4.off (by rw[Tr.get_set,yaa hbx])⟩
 out:=fun {tf t n y} hn h=>by
  obtain⟨h1,h2,h3,h4⟩:=h;have hbx:bx≠n:=by grind [Tr.get_set]
  have hle:iA tf (tf.set n y):=(jJ hn y).1;rw[Tr.get_set,yaa hbx]at h2;refine⟨h1,h2,fun c u hc=>?_,h4.off (by rw[Tr.get_del,yaa hbx])⟩;have:c≠n:=fun e=>by simp_all
  rw[Tr.get_del,yaa this];exact h3 _ _ (hle _ _ hc)
theorem VQ{y:Nat}{Q1:xC}(h:Fm bx (.int .u64 (y:Int)) tf t)(hy:y<4294967296)(hx:x<4294967296)(hQ:∀t',Fm bx (.int .u64 ((y*4294967296+x:Nat):Int)) tf t'->Q1 (.bool true) t'):jp 229 2 [.ptr bx 0,.int .u32 (x:Int)] t Q1:=by
 obtain⟨i1,i2,i3,i4⟩:=h;have e5:(y:Int)*4294967296=((y*4294967296:Nat):Int):=by omega
 have e6:qJ Nat.lor .u64 (dA .u64 ((y:Int)*4294967296)) (dA .u64 (x:Int))=some (.int .u64 ((y*4294967296+x:Nat):Int)):=by
  rw[e5,nG (by omega) (by omega),nG (by omega) (by omega),or32 hy hx]
 generalize y*4294967296+x=z at e6 hQ;refine j229_2 ?_;simp only[uE,ze3,tA];rw[i4.load1 Js rfl (j:=0) rfl,xA,zB,xA,e6,xA,zB,xA];intro b3 _ _;obtain⟨t3,k1,k2,k3⟩:=i4.store1 (v:=.int .u64 (z:Int)) i1 Js rfl rfl rfl (j:=0) (by simp);rw[k1,xA];exact hQ _ ⟨i1,i2,i3.off i2 k3,k2⟩
theorem VP {k:Nat}(hl:l.length<=2)(hlt:mB 4294967296 l)(hx:l[k]?=some x):x<4294967296/\val 4294967296 (l.drop (k+1))<4294967296/\val 4294967296 (l.drop k)=val 4294967296 (l.drop (k+1))*4294967296+x:=by
 have hk:k<l.length:=(ybc.1 hx).1;have hdrop:l.drop k=x::l.drop (k+1):=by
  grind [List.drop_eq_getElem_cons]
 refine⟨hlt x (ycv hx),?_,?_⟩
 ·have h1:=OL hlt (k+1);have h2:(l.drop (k+1)).length<=1:=by grind
  generalize l.drop (k+1)=m at h1 h2 ⊢
  match m,h1,h2 with
  | [],_,_=>exact Nat.zero_lt_succ _
  | [a],h1,_=>rw[val,val,yat,yct];exact h1 a (.head _)
 grind [val]
theorem zh7  (hv:sA t 1 (zC .u32 l) v)(hl:l.length<=2)(hlt:mB 4294967296 l):iB yA F 229 [v] t=some (.int .u64 ((val 4294967296 l:Nat):Int)):=by
 refine jQ (w229 ?_);have hlen0:l.length<30000:=by omega
 have hst:∀k x,l[k]?=some x->_:=fun k x=>VP (k:=k) (x:=x) hl hlt;have h0:val 4294967296 (l.drop l.length)=0:=by rw[List.drop_length,val]
 generalize hg:(fun k=>val 4294967296 (l.drop k))=g;have hst':∀k x,l[k]?=some x->x<4294967296/\g (k+1)<4294967296/\g k=g (k+1)*4294967296+x:=fun k x hx=>by grind
 have h0':g l.length=0:=by grind
 have hend:val 4294967296 l=g 0:=by grind
 rw[hend];clear hg hst h0 hend;unfold t229 uE;show ∀b,t.get b=none->yA.base<=b->nE (kO yA 245 ⟨b,t⟩) _;intro bx hbx hbase;obtain⟨t1,e1,e2,e3,e4⟩:=sX (C:=yA) Js hbx;rw[e1,xA];show ∀b,t1.get b=none->yA.base<=b->nE (cC yA 245 (.ptr bx 0) (.int .u64 0) ⟨b,t1⟩) _;intro b2 _ _;obtain⟨t2,g1,g2,g3⟩:=e2.store1 (v:=.int .u64 0) hbase Js rfl rfl rfl (j:=0) (by simp);rw[g1,xA];have hS0:Fm bx (.int .u64 ((g l.length:Nat):Int)) t t2:=by
  rw[h0'];exact⟨hbase,hbx,(iA.refl t).off hbx e4 |>.off hbx g3,g2⟩
 refine EU (S:=fun k tf t=>Fm bx (.int .u64 ((g k:Nat):Int)) tf t) (fun k=>Fm.framed) hv hlen0 hS0 ?_ ?_
 ·grind [VQ]
 ·intro tf' t' hle hI;obtain⟨i1,i2,i3,i4⟩:=hI;simp only[tA];rw[i4.load1 Js rfl (j:=0) rfl,xA];simp only[zB,xA];exact⟨trivial,hle.trans i3⟩
end Go.Proofs
namespace Go.Am
def zak{A B X Y u0 u1 v0 v1:Nat}{ev:Bool}(h1:ev=true->X+v0*B=u0*A/\Y+u1*A=v1*B)(h2:ev=false->X+u0*A=v0*B/\Y+v1*B=u1*A)(hA:A=v1*X+v0*Y)(hB:B=u1*X+u0*Y):Nat.gcd X Y=Nat.gcd A B:=by
 have gX:=Nat.gcd_dvd_left X Y;have gY:=Nat.gcd_dvd_right X Y;have gA:=Nat.gcd_dvd_left A B;have gB:=Nat.gcd_dvd_right A B;refine Nat.dvd_antisymm (Nat.dvd_gcd ?_ ?_) (Nat.dvd_gcd ?_ ?_)
 ·grind [Nat.dvd_add]
 ·grind [Nat.dvd_add]
 ·generalize Nat.gcd A B=g at *
  cases ev with
  | true=>
   grind [Nat.dvd_add_left]
  | false=>
   grind [Nat.dvd_add_left]
 ·generalize Nat.gcd A B=g at *
  cases ev with
  | true=>
   grind [Nat.dvd_add_left]
  | false=>
   grind [Nat.dvd_add_left]
theorem KB{a b q r:Nat}(h:a=b*q+r):Nat.gcd b r=Nat.gcd a b:=by
 grind [Nat.mul_comm,Nat.gcd_mul_right_add_left]
theorem zit{x y:Nat}:Nat.gcd y (x%y)=Nat.gcd x y:=by
 rw[Nat.gcd_comm y (x%y),<- Nat.gcd_rec,Nat.gcd_comm]
def AY{B:Nat}{l:List Nat}(hB:0<B)(h:mB B l)(hl:l.length<=2):val B l<B*B:=by
 have h1:=nO hB h;have h2:B^l.length<=B^2:=yao hB hl
 grind
end Go.Am
namespace Go.Proofs
open Go Go.Am
variable {P c:Prop}{Q:xC}{la lb:List Nat}{pa pb:zA}
variable [tC]
variable {t:Tr qA}
theorem sB {d:Decidable c}{Q:Prop}(h:c)(k:P):@ite Prop c d P Q:=by simp_all
theorem sD {d:Decidable c}{Q:Prop}(h:¬ c)(k:Q):@ite Prop c d P Q:=by simp_all
theorem XF  : ∀(y x:Nat),x<18446744073709551616->y<18446744073709551616->(∀t' r rv,iA t t'->sA t' 1 (zC .u32 r) rv->mB BB r->norm r->val BB r=Nat.gcd x y->Q rv t')->jp 199 6 [.int .u64 (x:Int),.int .u64 (y:Int)] t Q:=by
 have hBB:=oO
 intro y;induction y using Nat.strongRecOn with
 | ind y ih=>
  intro x hx hy hQ;refine j199_6 ?_;simp only[uE,ze5,tA,zL];by_cases h0:y=0
  ·subst h0;rw[yaa (by simp)];simp only[q230];grind [zb9,ZS,PF,UY]
  ·rw[yab (by omega),Ri (by omega),xA,zB,xA];have hm:=ycy x (show 0<y by omega)
   grind [zit]
theorem GV{l:List Nat}{v:zA}(hv:sA t 1 (zC .u32 l) v)(hl:l.length<=2)(hlt:mB BB l):iB yA F 229 [v] t=some (.int .u64 ((val BB l:Nat):Int)):=by
 have hBB:=oO
 grind [zh7]
theorem MV   (ha:sA t 1 (zC .u32 la) pa)(hb:sA t 1 (zC .u32 lb) pb)(hal:mB BB la)(hbl:mB BB lb)(hla:la.length<=2)(hlb:lb.length<=2)
  (hQ:∀t' r rv,iA t t'->sA t' 1 (zC .u32 r) rv->mB BB r->norm r->val BB r=Nat.gcd (val BB la) (val BB lb)->Q rv t'):jp 199 33 [pa,pb] t Q:=by
 have hBB:=oO;have b1:=AY uJ hal hla;have b2:=AY uJ hbl hlb;refine zij ?_;simp only[uE,CC,tA,q229,GV ha hla hal,GV hb hlb hbl,xA,zB];grind [XF]
theorem MW {t0:Tr qA}{G:Nat}(hQ:∀t' r rv,iA t0 t'->sA t' 1 (zC .u32 r) rv->mB BB r->norm r->val BB r=G->Q rv t'):∀(n:Nat) (la lb:List Nat) (pa pb:zA) (t:Tr qA),val BB la+val BB lb=n->iA t0 t->sA t 1 (zC .u32 la) pa->sA t 1 (zC .u32 lb) pb->mB BB la->mB BB lb->norm la->norm lb->val BB lb<=val BB la->la.length<700000->Nat.gcd (val BB la) (val BB lb)=G->jp 199 2 [pa,pb] t Q:=by
 have hBB:=oO;have hB1:1<BB:=by omega
 intro n;induction n using Nat.strongRecOn with
 | ind n ih=>
  intro la lb pa pb t hn ht ha hb hal hbl han hbn hle hlen hg;have hlb:lb.length<=la.length:=kU hB1 hal hbn hle;refine j199_2 ?_;simp only[uI,uG,uX,ze6,tA,hb.len,xA,zB,kG,aB];by_cases h2:2<lb.length
  ·rw[yab (by omega)];have hb0:lb≠[]:=by grind
   have hbpos:0<val BB lb:=by
    rcases yav (val BB lb)with h | h
    ·exact absurd (Qk uJ hbn h) hb0
    ·exact h
   obtain⟨m,hm⟩:∃m,la.length=m+3:=⟨la.length-3,by omega⟩;obtain⟨top,htop⟩:=getElem?_of_lt (l:=la) (i:=m+2) (by omega);have ha0:la≠[]:=by grind
   have ht0:0<top:=by
    have:=han ha0
    grind
   rw[q226];refine SA ha hb hal hbl hm (by omega) (by omega) htop ht0 hle fun u0 u1 v0 v1 ev W hW hA hB hL=>?_;have eG:gG [(.int .u64 0),(.int .u64 0),(.int .u64 0),(.int .u64 0),(.bool false)] (.agg [.int .u64 (u0:Int),.int .u64 (u1:Int),.int .u64 (v0:Int),.int .u64 (v1:Int),.bool ev])=some (cellsOf [.int .u64 (u0:Int),.int .u64 (u1:Int),.int .u64 (v0:Int),.int .u64 (v1:Int),.bool ev]):=kN rfl
   rw[eG];simp only[xA,cellsOf,mG,tG,yaz,yba,if_true,xS];by_cases hv0:v0=0
   ·refine sB (qE.2 (by omega)) ?_;rw[q227];refine LN ha hb hlen hal hbl han hbn hb0 fun t' q r qv rv k1 k2 k3 k4 k5 k6 k7 k8 k9=>?_;simp only[gE,zA.asTup,uA,vE,yaz,yba,xA];refine ih (val BB lb+val BB r) (by omega) lb r pb rv t' rfl (ht.trans k1) (hb.mono k1) k3 hbl k5 hbn k7 (by omega) (by omega) ?_
    grind [KB]
   ·refine sD (fun e=>absurd (qE.1 e) (by omega)) ?_;rcases hL with h | hL
    ·omega
    obtain⟨s1,s2,s3,s4⟩:=ZX hA hB hL;have eA:val BB la=W*(val BB la / W)+val BB la%W:=(ych _ _).symm;have eB:val BB lb=W*(val BB lb / W)+val BB lb%W:=(ych _ _).symm;obtain⟨X,Y,l1,l2,l3,l4,l5,l6⟩:=lehmer eA eB (ycy _ hW) (ycy _ hW) hL;have hgg:=zak l1 l2 l4 l5;have hXA:X<=val BB la:=by
     have:X<=v1*X:=yan _ (by
      obtain⟨x,y,_,_,_,_,_,_,w2,w3⟩:=hL;omega)
     omega
    cases ev with
    | true=>
     obtain⟨m1,m2⟩:=l1 rfl;simp only[if_true];rw[q228];refine Sd ha hb hal hbl s1 s3 hlen (by omega) (by omega) fun t1 r1 rv1 k1 k2 k3 k4 k5=>?_;rw[q228];refine Sd (hb.mono k1) (ha.mono k1) hbl hal s4 s2 (by omega) hlen (by omega) fun t2 r2 rv2 j1 j2 j3 j4 j5=>?_;have e1:val BB r1=X:=by omega
     have e2:val BB r2=Y:=by omega
     refine ih (val BB r1+val BB r2) (by omega) r1 r2 rv1 rv2 t2 rfl (ht.trans (k1.trans j1)) (k2.mono j1) j2 k3 j3 k4 j4 (by omega) ?_ (by grind);have:=kU hB1 hal k4 (by omega);omega
    | false=>
     obtain⟨m1,m2⟩:=l2 rfl;simp only[if_true,ybq,if_false];rw[q228];refine Sd hb ha hbl hal s3 s1 (by omega) hlen (by omega) fun t1 r1 rv1 k1 k2 k3 k4 k5=>?_;rw[q228];refine Sd (ha.mono k1) (hb.mono k1) hal hbl s2 s4 hlen (by omega) (by omega) fun t2 r2 rv2 j1 j2 j3 j4 j5=>?_;have e1:val BB r1=X:=by omega
     have e2:val BB r2=Y:=by omega
     refine ih (val BB r1+val BB r2) (by omega) r1 r2 rv1 rv2 t2 rfl (ht.trans (k1.trans j1)) (k2.mono j1) j2 k3 j3 k4 j4 (by omega) ?_ (by grind);have:=kU hB1 hal k4 (by omega);omega
  ·rw[yaa (by omega)];simp only[qE];by_cases h0:lb.length=0
   ·rw[yab (by omega)];have:lb=[]:=ycc.1 h0;subst this;refine hQ t la pa ht ha hal han ?_;rw[<- hg];simp only[val];rw[Nat.gcd_zero_right]
   ·rw[yaa (by omega)];simp only[ha.len,xA,zB,kG,aB];have hb0:lb≠[]:=by simp_all
    by_cases h3:2<la.length
    ·rw[yab (by omega),q227];refine LN ha hb hlen hal hbl han hbn hb0 fun t' q r qv rv k1 k2 k3 k4 k5 k6 k7 k8 k9=>?_;simp only[gE,zA.asTup,uA,vE,yaz,yba,xA];have:=kU hB1 hbl k7 (Nat.le_of_lt k9);refine MV (hb.mono k1) k3 hbl k5 (by omega) (by omega) fun t2 r2 rv2 j1 j2 j3 j4 j5=>?_;exact hQ t2 r2 rv2 (ht.trans (k1.trans j1)) j2 j3 j4 (by grind [KB])
    ·rw[yaa (by omega)];refine MV ha hb hal hbl (by omega) (by omega) fun t2 r2 rv2 j1 j2 j3 j4 j5=>?_;exact hQ t2 r2 rv2 (ht.trans j1) j2 j3 j4 (by omega)
def cd_ok   (ha:sA t 1 (zC .u32 la) pa)(hb:sA t 1 (zC .u32 lb) pb)(hal:mB BB la)(hbl:mB BB lb)(han:norm la)(hbn:norm lb)(hla:la.length<700000)(hlb:lb.length<700000)
  (hQ:∀t' r rv,iA t t'->sA t' 1 (zC .u32 r) rv->mB BB r->norm r->val BB r=Nat.gcd (val BB la) (val BB lb)->Q rv t'):Wc yA F 199 [pa,pb] t Q:=by
 have hBB:=oO;have hB1:1<BB:=by omega
 have hlt:=MN hB1 hal hbl han hbn;refine w199 ?_;simp only[uI,t199,tA,q225,zgf (by omega) ha hb,xA,zB,aB];by_cases hc:aM la lb<0
 ·rw[yab hc];have:=hlt.1 hc;exact MW hQ _ lb la pb pa t rfl (iA.refl _) hb ha hbl hal hbn han (by omega) hlb (Nat.gcd_comm _ _)
 ·rw[yaa hc];have:val BB lb<=val BB la:=Nat.le_of_not_lt fun h=>hc (hlt.2 h);exact MW hQ _ la lb pa pb t rfl (iA.refl _) ha hb hal hbl han hbn this hla rfl
end Go.Proofs
namespace Go.Proofs
open Go Go.Am
variable {l:List eH}{v:zA}
variable [tC]
variable {t:Tr qA}
theorem GF{neg:Bool}{l:List Nat}(h:iM neg l=true):norm l:=by
 intro hne;grind [iM]
theorem ZR  (hv:sA t 2 (l.map eH.d) v)(hb:∀w∈l,w.limbs.length<1125899906842624)(hn:l.length<1125899906842624):∀(k i:Nat),i+k=l.length->jp 197 2 [v,.int .i64 (l.length:Int),.int .i64 (i:Int)] t (fun r m=>r=.bool ((l.drop i).all fun w=>iM w.neg w.limbs)/\m=t):=by
 intro k;induction k with
 | zero=>
  intro i hi;refine zfy ?_;simp only[uB,uG,fB,kB,bA,tF,uZ,sQ,uA1,Uo,tA,aB];simp_all
 | succ k ih=>
  intro i hi;have hlt:i<l.length:=by omega
  have hx:l[i]?=some l[i]:=ybd hlt;obtain⟨b,off,cs,g1,g2,_,_,g5⟩:=eD.at sl271 (by simp) hv (i:=i) (d:=l[i].d) (by simp[hx]);obtain⟨u,rfl,hu⟩:=De g5;have hv1:=Nv (neg:=l[i].neg) (hb _ (ycj hlt)) hu;refine zfy ?_;simp only[uB,uG,fB,kB,bA,tF,uZ,sQ,uA1,Uo,tA,aB];rw[yab (by omega),g1,xA,g2,Fv,xA,tI g5 (eH.zs _)];simp only[xA,cellsOf,tG,zG,yaz,yba];have hone:zD zA.one [.bool l[i].neg,u]=true:=by
   show(bif zA.one (.bool l[i].neg)then(bif zA.one u then true else false)else false)=true;rw[hu.one];rfl
  refine sB hone ?_;rw[q135,hv1];simp only[xA,lE,Qi];rw[ybl hlt,ycg]
  cases hq:iM l[i].neg l[i].limbs with
  | false=>simp
  | true=>
   simp only[ycn,Bool.true_eq_false,if_false];rw[wrap_i64 (by omega) (by omega)];exact ih (i+1) (by omega)
theorem ZQ  (hv:sA t 2 (l.map eH.d) v)(hb:∀w∈l,w.limbs.length<1125899906842624)(hn:l.length<1125899906842624):iB yA F 197 [v] t=some (.bool (l.all fun w=>iM w.neg w.limbs)):=by
 refine pC.2 (w197 ?_);simp only[uI,uZ,t197,tA,hv.len,xA,zB,ybf];have:=ZR hv hb hn l.length 0 (by omega)
 simp_all
theorem gcd_ok{n d:eH}{u:zA}{Q:xC}(hu:sA t 1 (wC n.limbs) u)(hv:sA t 1 (wC d.limbs) v)(hn:n.limbs.length<700000)(hd:d.limbs.length<700000)(hnl:mB 65536 n.limbs)(hdl:mB 65536 d.limbs)(hnv:iM n.neg n.limbs=true)(hdv:iM d.neg d.limbs=true)
  (hQ:∀t' g rv,iA t t'->sA t' 1 (wC g) rv->mB 65536 g->norm g->val 65536 g=Nat.gcd (val 65536 n.limbs) (val 65536 d.limbs)->Q (.tup [.agg [.bool false,rv],.int .i64 0]) t'):Wc yA F 170 [.agg [.bool n.neg,u],.agg [.bool d.neg,v]] t Q:=by
 have hBB:=oO;refine w170 ?_;simp only[uB,uG,fB,uZ,sQ,uA1,t170,tA];intro b hb hbase;obtain⟨t1,g1,g2,g3,g4⟩:=gU (C:=yA) (T:=271) (el:=41) (sz:=2) (n:=2) (cl:=[[.bool n.neg,u],[.bool d.neg,v]]) (ps:=[(0,.agg [.bool n.neg,u]),(1,.agg [.bool d.neg,v])]) ty271 rfl ty41 rfl rfl (by decide) rfl (fun i cs hi=>by
  grind) rfl hb
 rw[g1,xA];have hw:sA t1 2 ([n,d].map eH.d) (.slice b 0 2 2):=⟨_,g2,by
  simp only[ycm,List.map_nil,uF,bE];refine⟨_,_,rfl,?_,_,_,rfl,?_,rfl⟩
  ·unfold eH.d;rw[yJ];refine⟨[[.bool n.neg],[u]],rfl,?_⟩;simp only[uF,bE,oX,cL];exact⟨_,_,rfl,rfl,_,_,rfl,⟨u,rfl,hu.mono g3⟩,rfl⟩
  ·unfold eH.d;rw[yJ];refine⟨[[.bool d.neg],[v]],rfl,?_⟩;simp only[uF,bE,oX,cL];exact⟨_,_,rfl,rfl,_,_,rfl,⟨v,rfl,hv.mono g3⟩,rfl⟩⟩
 have hall:=ZQ hw (fun w hw=>by
  grind) (by simp)
 rw[q197,hall];simp only[xA,lE,Qi,ycg,yck,hnv,hdv,Bool.and_self,Bool.true_eq_false,if_false];rw[q200];refine Wn (hu.mono g3) (by omega) hnl fun t2 v2 k1 k2=>?_;rw[yab hv.same,q200];refine Wn ((hv.mono g3).mono k1) (by omega) hdl fun t3 v3 m1 m2=>?_;have an:=Mw hnl;have ad:=Mw hdl;rw[<- hBB]at an ad;rw[q199];refine cd_ok (k2.mono m1) m2 an ad (Qj (GF hnv)) (Qj (GF hdv)) (by rw[uT];omega) (by rw[uT];omega) fun t4 r rv p1 p2 p3 p4 p5=>?_
 rw[hBB]at p3;have vn:∀l,val BB (bG l)=val 65536 l:=fun l=>by grind [Tj]
 rw[vn,vn]at p5;have hrl:r.length<400000:=by
  have hB1:1<BB:=by omega
  rcases yav (val 65536 n.limbs)with h0 | h0
  ·rw[h0,Nat.gcd_zero_left,<- vn]at p5;have:=kU hB1 ad p4 (Nat.le_of_eq p5)
   grind [uT]
  ·have h1:=Nat.gcd_le_left (val 65536 d.limbs) h0;rw[<- p5,<- vn]at h1;have:=kU hB1 an p4 h1
   grind [uT]
 rw[q198];refine QA p2 hrl p3 fun t5 v5 s1 s2=>?_;rw[Kb p4]at s2 ⊢;have eG:gG [(.bool false),.nilslice] (.agg [.bool (if r=[]then false else false),v5])=some (cellsOf [.bool (if r=[]then false else false),v5]):=kN (by
  show(true&&(mH .nilslice v5&&true))=true;rw[cM s2];rfl)
 rw[eG];have hone:zD zA.one [.bool false,v5]=true:=by
  show(bif zA.one (.bool false)then(bif zA.one v5 then true else false)else false)=true;rw[s2.one];rfl
 simp only[xA,cellsOf,tG,zG,yaz,yba,ite_self,hone,if_true];refine hQ t5 (wG (jI r)) v5 (g3.trans (k1.trans (m1.trans (p1.trans s1)))) s2 (iZ (OI p3)) (pY _) ?_;rw[iX,<- p5,AP,hBB]
end Go.Proofs
namespace Go.Am
def rE.fit(f:rE):Prop:=f.ok/\mB 65536 f.n.limbs/\mB 65536 f.d.limbs
def yB.fit(v:yB):Prop:=v.kind<256/\v.f.fit /\ -9223372036854775808<=v.i/\v.i<9223372036854775808
mutual
def vA.fit:vA->Prop
 | .mk op name v args=>op<256/\name.length<sE/\(∀c∈name,c<256)/\v.fit/\args.length<sE/\vA.fits args
def vA.fits:List vA->Prop
 | []=>True
 | x::l=>x.fit/\vA.fits l
end
def vA.fits_mem:∀ {l:List vA},vA.fits l->∀x∈l,x.fit
 | [],_,_,h=>by cases h
 | y::l,h,x,hx=>by
  unfold vA.fits at h;rcases ybs.1 hx with rfl | hx
  ·exact h.1
  ·exact vA.fits_mem h.2 x hx
mutual
def vA.fit_ok:∀ {x:vA},x.fit->x.ok
 | .mk op name v args,h=>by
  unfold vA.fit at h;unfold vA.ok;exact⟨h.2.1,h.2.2.2.1.2.1.1,h.2.2.2.2.1,vA.fits_oks h.2.2.2.2.2⟩
def vA.fits_oks:∀ {l:List vA},vA.fits l->vA.oks l
 | [],_=>by grind [vA.oks]
 | x::l,h=>by
  unfold vA.fits at h;unfold vA.oks;exact⟨vA.fit_ok h.1,vA.fits_oks h.2⟩
end
def i64 (n:Int):Prop := -9223372036854775808<=n/\n<9223372036854775808
def vF.fit(r:vF):Prop:=i64 r.a/\i64 r.b/\i64 r.known/\r.f.fit
def oE.fit(x:oE):Prop:=x.name.length<sE/\x.rows.length<sE/\∀r∈x.rows,r.fit
def eI.fit(x:eI):Prop:=x.name.length<sE/\x.kind<256
def fC.fit(x:fC):Prop:=x.name.length<sE/\x.label.length<sE/\i64 x.from_/\i64 x.to/\i64 x.known/\x.when_.fit/\x.then_.fit
structure rG.fit (p:rG):Prop where
 name:p.name.length<sE
 ndefs:p.defs.length<sE
 ntables:p.tables.length<sE
 nclauses:p.clauses.length<sE
 defs:∀d∈p.defs,d.fit
 tables:∀d∈p.tables,d.fit
 clauses:∀d∈p.clauses,d.fit
end Go.Am
namespace Go.Proofs
open Go Go.Am
variable {a b:Int}{f:rE}{u v:zA}
variable [tC]
variable {t:Tr qA}
def Cz(a b:eH):Bool:=(a.neg == b.neg)&&decide (a.limbs=b.limbs)
def Gr(a b:rE):Bool:=Cz a.n b.n&&Cz a.d b.d
def lP(a b:yB):Bool:=decide (a.kind=b.kind)&&decide (a.i=b.i)&&Gr a.f b.f
def Hr(w:eH):Bool := !w.neg&&decide (w.limbs=[1])
def dN(f:rE):Bool:=decide (f.n.limbs.length<=256)&&decide (f.d.limbs.length<=256)&&iM f.n.neg f.n.limbs&&iM f.d.neg f.d.limbs && !f.d.neg&&decide (f.d.limbs≠[])&&(Hr f.d||decide (Nat.gcd (val 65536 f.n.limbs) (val 65536 f.d.limbs)=1))
theorem zin  : jB a b=decide (a<b):=by
 grind [aB]
theorem yZ  : eC a b=decide (a<=b):=by
 grind [vG]
theorem sO  : cA a b=decide (a=b):=by
 grind [qE]
theorem QQ  (hu:sA t 1 (wC f.n.limbs) u)(hv:sA t 1 (wC f.d.limbs) v)(hf:rE.fit f):iB yA F 97 [.agg [.bool f.n.neg,u,.bool f.d.neg,v]] t=some (.bool (dN f)):=by
 obtain⟨h1,h2,h3⟩:=hf;unfold rE.ok sE at h1;have c1:iB yA F 134 [.agg [.bool f.n.neg,u,.bool f.d.neg,v]] t=some (.bool (!(decide (f.n.limbs.length<=256)&&decide (f.d.limbs.length<=256)))):=by
  refine pC.2 (w134 ?_);simp only[uI,tF,t134,tA,hu.len,hv.len,xA,zB,aT];grind [aB]
 have c2:=Nv (neg:=f.n.neg) (by omega) hu;have c3:=Nv (neg:=f.d.neg) (by omega) hv;have c4:iB yA F 136 [.agg [.bool f.n.neg,u,.bool f.d.neg,v]] t=some (.bool (Hr f.d)):=by
  refine pC.2 (w136 ?_);simp only[uB,t136,tA,q137,Yd hv,xA,lE]; (first | exact⟨rfl,rfl⟩ | exact⟨rfl,trivial⟩ | trivial)
 refine jQ (w97 ?_);simp only[uI,uB,uG,bA,tF,uA1,t97,tA,q134,c1,q135,c2,c3,q136,c4,xA,lE,hv.len,zB,aT,qE,Qi];unfold dN;by_cases g1:f.n.limbs.length<=256
 ·by_cases g2:f.d.limbs.length<=256
  ·simp only[g1,g2,decide_true,ycn,Bool.not_true,ybq,if_false]
   cases hn:iM f.n.neg f.n.limbs with
   | false=>simp
   | true=>
    cases hd:iM f.d.neg f.d.limbs with
    | false=>simp
    | true=>
     simp only[Bool.true_eq_false,if_false,ycn]
     cases hg:f.d.neg with
     | true=>simp
     | false=>
      simp only[ybq,if_false,ycl,ycn];by_cases h0:f.d.limbs=[]
      ·simp_all
      ·have:f.d.limbs.length≠0:=fun e=>h0 (ycc.1 e);rw[yaa (by omega)];simp only[h0,ne_eq,not_false_eq_true,decide_true,ycn]
       cases ho:Hr f.d with
       | true=>simp
       | false=>
        simp only[ybq,if_false,Bool.false_or];rw[q138];refine w138 ?_;simp only[uI,uG,fB,uX,sQ,uA1,t138,tA,q170];have hn':=hn;have hd':=hd;rw[hg]at hd';refine gcd_ok (n:=f.n) (d:=⟨false,f.d.limbs⟩) hu hv (by omega) (by grind) h2 h3 hn' hd' fun t' g rv k1 k2 k3 k4 k5=>?_;have eG:gG [(.bool false),.nilslice] (.agg [.bool false,rv])=some (cellsOf [.bool false,rv]):=kN (by
         show(true&&(mH .nilslice rv&&true))=true;rw[cM k2];rfl)
        have hone:zD zA.one [.bool false,rv]=true:=by
         show(bif zA.one (.bool false)then(bif zA.one rv then true else false)else false)=true;rw[k2.one];rfl
        simp only[gE,zA.asTup,uA,vE,yaz,yba,xA,zB,eG,cellsOf,tG,zG,hone,if_true];rw[q137,Yd k2];simp only[xA,lE,ycl,ycn];refine⟨?_,k1⟩;congr 1;rw[decide_eq_decide,<- k5];constructor
        ·intro e;subst e;rfl
        ·intro e;exact zcx (B:=65536) (by decide) k3 (fun x hx=>by grind) k4 (fun _=>by simp) (by rw[e];rfl)
  grind
 grind
theorem Nw  (hu:sA t 1 (wC f.n.limbs) u)(hv:sA t 1 (wC f.d.limbs) v)(hf:rE.fit f):iB yA F 61 [.agg [.bool f.n.neg,u,.bool f.d.neg,v]] t=some (.bool (dN f)):=by
 refine pC.2 (w61 ?_);simp only[uB,t61,tA,q97,QQ hu hv hf,xA,lE,if_true];simp_all
def cZ(f:rE):Bool:=Gr f ⟨⟨false,[]⟩,⟨false,[]⟩⟩
def yC(v:yB):Bool:=
 if v.kind=2\/v.kind=3 then decide (v.i=0)&&dN v.f
 else if v.kind=1 then cZ v.f&&(decide (0<=v.i)&&decide (v.i<=1))
 else if v.kind=4 then cZ v.f&&(decide (0<=v.i)&&decide (v.i<65536))
 else if v.kind=5\/v.kind=6 then cZ v.f&&(decide (-1048576<=v.i)&&decide (v.i<=1048576))
 else false
end Go.Proofs
namespace Go.Proofs
open Go Go.Am
section
variable {a b:List Nat}{u v x y:zA}
variable [tC]
variable {t:Tr qA}
theorem XJ  (hu:sA t 1 (wC a) u)(hv:sA t 1 (wC b) v)(hl:a.length=b.length)(hn:a.length<1125899906842624):∀(k i:Nat),i+k=a.length->jp 139 2 [u,v,.int .i64 (a.length:Int),.int .i64 (i:Int)] t (fun r m=>r=.bool (decide (a.drop i=b.drop i))/\m=t):=by
 intro k;induction k with
 | zero=>
  intro i hi;refine zf5 ?_;simp only[uH,kB,bA,tF,uZ,Uv,tA,aB];simp_all
 | succ k ih=>
  intro i hi;have h1:i<a.length:=by omega
  have h2:i<b.length:=by omega
  have hx:a[i]?=some a[i]:=ybd h1;have hy:b[i]?=some b[i]:=ybd h2;obtain⟨c,off,g1,g2⟩:=sA.idx (C:=yA) rU hu hx;obtain⟨d,off',g3,g4⟩:=sA.idx (C:=yA) rU hv hy;refine zf5 ?_;simp only[uH,kB,bA,tF,uZ,Uv,tA,aB,g1,g2,g3,g4,xA,zB,zL];rw[yab (by omega),ybl h1,ybl h2];by_cases he:a[i]=b[i]
  ·rw[yaa (by omega),wrap_i64 (by omega) (by omega)];have:=ih (i+1) (by omega);rw[he];simp only[List.cons.injEq,true_and];exact this
  ·rw[yab (by omega)]
   grind [List.cons.inj]
theorem zdy  (hu:sA t 1 (wC a) u)(hv:sA t 1 (wC b) v)(hn:a.length<1125899906842624):iB yA F 139 [u,v] t=some (.bool (decide (a=b))):=by
 refine pC.2 (w139 ?_);simp only[uI,bA,uZ,t139,tA,hu.len,hv.len,xA,zB,aT,zL];by_cases hl:a.length=b.length
 ·rw[yaa (by omega)];have:=XJ hu hv hl hn a.length 0 (by omega)
  simp_all
 ·rw[yab (by omega)];have:a≠b:=fun e=>hl (by rw[e])
  grind
def DX{a b:eH} (hu:sA t 1 (wC a.limbs) u)(hv:sA t 1 (wC b.limbs) v)(hn:a.limbs.length<1125899906842624):iB yA F 98 [.agg [.bool a.neg,u],.agg [.bool b.neg,v]] t=some (.bool (Cz a b)):=by
 refine pC.2 (w98 ?_);simp only[uB,bA,t98,tA,q139,zdy hu hv hn,xA,lE];unfold Cz;cases ha:a.neg<;>cases hb:b.neg<;>simp[bEq]
def DZ{a b:rE} (hu:sA t 1 (wC a.n.limbs) u)(hv:sA t 1 (wC a.d.limbs) v)(hx:sA t 1 (wC b.n.limbs) x)(hy:sA t 1 (wC b.d.limbs) y)(hn:a.ok):iB yA F 62 [.agg [.bool a.n.neg,u,.bool a.d.neg,v],.agg [.bool b.n.neg,x,.bool b.d.neg,y]] t=some (.bool (Gr a b)):=by
 unfold rE.ok sE at hn;refine pC.2 (w62 ?_);simp only[uB,bA,t62,tA,q98,DX hu hx (by omega),DX hv hy (by omega),xA,lE];unfold Gr;cases Cz a.n b.n<;>simp
theorem zce{a b:yB} (hu:sA t 1 (wC a.f.n.limbs) u)(hv:sA t 1 (wC a.f.d.limbs) v)(hx:sA t 1 (wC b.f.n.limbs) x)(hy:sA t 1 (wC b.f.d.limbs) y)(hn:a.f.ok):iB yA F 84 [.agg [.int .u8 a.kind,.bool a.f.n.neg,u,.bool a.f.d.neg,v,.int .i64 a.i],.agg [.int .u8 b.kind,.bool b.f.n.neg,x,.bool b.f.d.neg,y,.int .i64 b.i]] t=some (.bool (lP a b)):=by
 refine pC.2 (w84 ?_);simp only[uB,bA,t84,tA,q62,DZ hu hv hx hy hn,xA,lE,qE];grind [lP]
theorem AM{a:yB} (hu:sA t 1 (wC a.f.n.limbs) u)(hv:sA t 1 (wC a.f.d.limbs) v)(hf:rE.fit a.f):iB yA F 26 [.agg [.int .u8 a.kind,.bool a.f.n.neg,u,.bool a.f.d.neg,v,.int .i64 a.i]] t=some (.bool (yC a)):=by
 have hz:sA t 1 (wC []) .nilslice:=⟨[],.inl ⟨rfl,rfl⟩,bE.2 rfl⟩;have c1:iB yA F 62 [.agg [.bool a.f.n.neg,u,.bool a.f.d.neg,v],.agg [.bool false,.nilslice,.bool false,.nilslice]] t=some (.bool (cZ a.f)):=DZ (b:=⟨⟨false,[]⟩,⟨false,[]⟩⟩) hu hv hz hz hf.1;have c2:=Nw hu hv hf;refine pC.2 (w26 ?_);simp only[uQ3,uQ22,uQ15,uB,bA,t26,tA,q62,q61,c1,c2,xA,lE,qE,vG,if_true];unfold yC;by_cases h2:a.kind=2
 ·simp[h2];by_cases h0:a.i=0<;>simp[h0]
 ·by_cases h3:a.kind=3
  all_goals grind [yZ,zin]
end
section
variable {l:List vF}{v x y:zA}{two:Bool}{r:vF}
variable [tC]
variable {t:Tr qA}
def aW (a b:Int):Int:=if a<b then -1 else if b<a then 1 else 0
def cmpR (x y:vF):Int:=if aW x.a y.a≠0 then aW x.a y.a else if aW x.b y.b≠0 then aW x.b y.b else aW x.known y.known
theorem YF{a b:Int}:iB yA F 90 [.int .i64 a,.int .i64 b] t=some (.int .i64 (aW a b)):=by
 have c:∀n:Int,iB yA F 129 [.int .i64 n] t=some (.bool false):=by
  intro n;refine pC.2 (w129 ?_);simp only[t129,tA];grind [sO]
 refine pC.2 (w90 ?_);simp only[uB,uZ,t90,tA,q129,c,xA,lE,aB,ybq,if_false];grind [aW]
def dI (l:List Int):List D:=l.map fun n=>D.int .i64 n
def orI:List Int->Int
 | []=>0
 | a::l=>if a≠0 then a else orI l
theorem zhu{l:List Int} (hv:sA t 1 (dI l) v)(hn:l.length<1125899906842624):∀(k i:Nat),i+k=l.length->jp 89 2 [.int .i64 0,v,.int .i64 (l.length:Int),.int .i64 (i:Int)] t (fun r m=>r=.int .i64 (orI (l.drop i))/\m=t):=by
 intro k;induction k with
 | zero=>
  intro i hi;refine j89_2 ?_;simp only[uI,kB,uZ,zg7,tA,aB];rw[yaa (by omega),ybt (by omega)]
  (first | exact⟨rfl,rfl⟩ | exact⟨rfl,trivial⟩ | trivial)
 | succ k ih=>
  intro i hi;have h1:i<l.length:=by omega
  have hx:(dI l)[i]?=some (.int .i64 l[i]):=by grind [dI]
  obtain⟨b,off,cs,g1,g2,_,_,g5⟩:=eD.at Kh (fun _=>rfl) hv hx;rw[yQ]at g5;subst g5;have g2':mA yA 3 ⟨0,t⟩ (.ptr b off)=some (.int .i64 l[i]):=g2;refine j89_2 ?_;simp only[uI,kB,uZ,zg7,tA,aB,g1,g2',xA,zB,zL];rw[yab (by omega),ybl h1];unfold orI;by_cases h0:l[i]=0
  ·rw[yaa (by omega),yaa (by omega),wrap_i64 (by omega) (by omega)];exact ih (i+1) (by omega)
  grind
theorem YE{x y:vF}{a b c d:zA}:iB yA F 51 [.agg [.int .i64 x.a,.int .i64 x.b,.int .i64 x.known,.bool x.f.n.neg,a,.bool x.f.d.neg,b],.agg [.int .i64 y.a,.int .i64 y.b,.int .i64 y.known,.bool y.f.n.neg,c,.bool y.f.d.neg,d]] t=some (.int .i64 (cmpR x y)):=by
 refine jQ (w51 ?_);simp only[uI,uZ,t51,tA,q90,YF,xA,zB,xS,if_true];intro b hb hbase;generalize e1:aW x.a y.a=c1;generalize e2:aW x.b y.b=c2;generalize e3:aW x.known y.known=c3;obtain⟨t1,g1,g2,g3,g4⟩:=gU (C:=yA) (T:=123) (el:=3) (sz:=1) (n:=3) (cl:=[[.int .i64 c1],[.int .i64 c2],[.int .i64 c3]]) (ps:=[(0,.int .i64 c1),(1,.int .i64 c2),(2,.int .i64 c3)]) xW rfl zI rfl rfl (by decide) rfl (fun i cs hi=>by
  grind) rfl hb
 rw[g1,xA];have hr:sA t1 1 (dI [c1,c2,c3]) (.slice b 0 3 3):=⟨_,g2,by simp[dI,uF,bE,yQ]⟩;have c183:iB yA F 89 [.slice b 0 3 3] t1=some (.int .i64 (orI [c1,c2,c3])):=by
  refine pC.2 (w89 ?_);simp only[uI,uZ,t89,tA,hr.len,xA,zB];exact zhu hr (by simp) 3 0 rfl
 rw[q89,c183];simp only[xA,zB];refine⟨?_,g3⟩
 grind [cmpR,orI]
def Gj(l:List vF):Nat->Bool
 | 0=>true
 | n+1=>(match l[n+1]?,l[n]? with | some x,some y => !decide (cmpR x y<0) | _,_=>true)&&Gj l n
theorem Pi  (hv:sA t 7 (l.map vF.d) v){i:Nat}(hi:i<l.length) :
  ∃b off x y,aA yA 66 v (.int .i64 (i:Int))=some (.ptr b off)/\mA yA 71 ⟨0,t⟩ (.ptr b off)=some (.agg [.int .i64 l[i].a,.int .i64 l[i].b,.int .i64 l[i].known,.bool l[i].f.n.neg,x,.bool l[i].f.d.neg,y])/\sA t 1 (wC l[i].f.n.limbs) x/\sA t 1 (wC l[i].f.d.limbs) y ∧
   gG [(.int .i64 0),(.int .i64 0),(.int .i64 0),(.bool false),.nilslice,(.bool false),.nilslice] (.agg [.int .i64 l[i].a,.int .i64 l[i].b,.int .i64 l[i].known,.bool l[i].f.n.neg,x,.bool l[i].f.d.neg,y])=some (cellsOf [.int .i64 l[i].a,.int .i64 l[i].b,.int .i64 l[i].known,.bool l[i].f.n.neg,x,.bool l[i].f.d.neg,y]):=by
 obtain⟨b,off,cs,g1,g2,_,_,g5⟩:=eD.at Gk (by simp) hv (i:=i) (d:=l[i].d) (by simp_all);have hz:=tI g5 (vF.zs _);obtain⟨x,y,rfl,hx,hy⟩:=Dg g5;exact⟨b,off,x,y,g1,g2,hx,hy,hz⟩
theorem RT  (hv:sA t 7 (l.map vF.d) v)(hn:l.length<1125899906842624):∀(n:Nat),n<l.length\/n=0->jp 50 2 [v,.func (.func 51) [] [],.int .i64 (n:Int)] t (fun r m=>r=.bool (Gj l n)/\m=t):=by
 intro n;induction n with
 | zero=>
  intro _;refine zie ?_;simp only[uI,uG,bA,tF,uZ,uW,uA2,Om,tA,aB];rw[yaa (by omega)]
  (first | exact⟨rfl,rfl⟩ | exact⟨rfl,trivial⟩ | trivial)
 | succ n ih=>
  intro h;have h1:n+1<l.length:=by omega
  have h2:n<l.length:=by omega
  obtain⟨b,off,x,y,g1,g2,_,_,g5⟩:=Pi hv h1;obtain⟨b',off',x',y',k1,k2,_,_,k5⟩:=Pi hv h2;have e1:((n+1:Nat):Int)-1=(n:Int):=by omega
  have f:∀a b,oM (.func (.func 51) [] []) [a,b]=some (51,[a,b]):=fun _ _=>rfl;refine zie ?_;simp only[uI,uG,bA,tF,uZ,uW,uA2,Om,tA,aB];rw[yab (by omega),g1,xA,g2,xA,g5,xA,e1,wrap_i64 (by omega) (by omega),k1,xA,k2,xA,k5,xA,f,xA];simp only[cellsOf,mG,tG,zG,yaz,yba];rw[q51,YE,xA,zB,xA];grind [Gj]
theorem RS  (hv:sA t 7 (l.map vF.d) v)(hn:l.length<1125899906842624):iB yA F 50 [v,.func (.func 51) [] []] t=some (.bool (Gj l (l.length-1))):=by
 refine pC.2 (w50 ?_);simp only[uI,uZ,uW,t50,tA,hv.len,xA,zB,ybf];rw[wrap_i64 (by omega) (by omega)];by_cases h0:l.length=0
 ·refine zie ?_;simp only[uI,uG,bA,tF,uZ,uW,uA2,Om,tA,aB];rw[yaa (by omega),h0]
  (first | exact⟨rfl,rfl⟩ | exact⟨rfl,trivial⟩ | trivial)
 ·have:=RT hv hn (l.length-1) (by omega)
  grind
def in32 (n:Int):Bool:=decide (-2147483648<=n)&&decide (n<=2147483647)
def xT(two:Bool)(r:vF):Bool:=in32 r.a&&in32 r.b&&(two||decide (r.b=0))&&decide (0<=r.known)&&decide (r.known<65536)&&dN r.f
theorem SS   (hx:sA t 1 (wC r.f.n.limbs) x)(hy:sA t 1 (wC r.f.d.limbs) y)(hf:rE.fit r.f) :
  jp 54 2 [.bool two,.agg [.int .i64 r.a,.int .i64 r.b],.int .i64 2,.int .i64 r.a,.int .i64 r.b,.int .i64 r.known,.bool r.f.n.neg,x,.bool r.f.d.neg,y] t (fun v m=>v=.bool ((two||decide (r.b=0))&&decide (0<=r.known)&&decide (r.known<65536)&&dN r.f)/\m=t):=by
 refine zid ?_;simp only[uI,uB,kB,bA,uZ,Ol,tA,aB,vG,qE,q61,Nw hx hy hf,xA,lE];simp_all
theorem zci   (hx:sA t 1 (wC r.f.n.limbs) x)(hy:sA t 1 (wC r.f.d.limbs) y)(hf:rE.fit r.f) :
  iB yA F 54 [.bool two,.agg [.int .i64 r.a,.int .i64 r.b,.int .i64 r.known,.bool r.f.n.neg,x,.bool r.f.d.neg,y]] t=some (.bool (xT two r)):=by
 have i0:lO yA 164 (.agg [.int .i64 r.a,.int .i64 r.b]) (.int .i64 0)=some (.int .i64 r.a):=by kernel_rfl
 have i1:lO yA 164 (.agg [.int .i64 r.a,.int .i64 r.b]) (.int .i64 1)=some (.int .i64 r.b):=by kernel_rfl
 have e:=SS (two:=two) hx hy hf;have w1:dA .i64 (0+1)=1:=by kernel_rfl
 have w2:dA .i64 (1+1)=2:=by kernel_rfl
 refine pC.2 (w54 ?_);simp only[uZ,t54,tA,if_true];refine zid ?_;simp only[uI,uB,kB,bA,uZ,Ol,tA,aB];rw[yab (by omega),i0,xA,zB,xA];unfold xT in32;by_cases h1:r.a < -2147483648
 ·grind
 ·rw[yaa h1];have g1 : -2147483648<=r.a:=by omega
  by_cases h2:2147483647<r.a
  ·grind
  ·rw[yaa h2,w1];have g2:r.a<=2147483647:=by omega
   refine zid ?_;simp only[uI,uB,kB,bA,uZ,Ol,tA,aB];grind [xA,zB]
theorem zjo{cs:List zA}{b:Nat}(hb:t.get b=none):∃t',rN (.agg cs) ⟨b,t⟩=some (.ptr b 0,⟨b+1,t'⟩)/\At t' b 0 cs/\iA t t'/\aC b t t':=by
 refine⟨t.set b (.cells (Tr.ofList cs) (wB cs) none),rfl,⟨Tr.ofList cs,wB cs,none,by rw[Tr.get_set,yab rfl],fun j a hj=>by grind [Tr.get_ofList]⟩,(jJ hb _).1,(jJ hb _).2⟩
def idxR (two:Bool):List vF->Int->Int
 | [],_ => -1
 | r::l,i=>if xT two r=true then idxR two l (i+1)else i
theorem JN{two:Bool}:∀(l:List vF) (i:Int),0<=i->decide (0<=idxR two l i)=l.any fun r => !xT two r
 | [],i,_=>rfl
 | r::l,i,h=>by
  unfold idxR;rw[List.any_cons]
  cases hq:xT two r with
  | false=>grind
  | true=>
   rw[yab rfl,Bool.not_true,Bool.false_or];exact JN l (i+1) (by omega)
theorem WJ {w:zA} (hv:sA t 7 (l.map vF.d) v)(hn:l.length<1125899906842624)(hf:∀r∈l,rE.fit r.f)(hw:∀r∈l,∀x y,sA t 1 (wC r.f.n.limbs) x->sA t 1 (wC r.f.d.limbs) y->iB yA F 53 [.agg [.int .i64 r.a,.int .i64 r.b,.int .i64 r.known,.bool r.f.n.neg,x,.bool r.f.d.neg,y],w] t=some (.bool (!xT two r))) :
  ∀(k i:Nat),i+k=l.length->jp 91 2 [v,.func (.func 53) [] [w],.int .i64 (l.length:Int),.int .i64 (i:Int)] t (fun r m=>r=.int .i64 (idxR two (l.drop i) i)/\m=t):=by
 intro k;induction k with
 | zero=>
  intro i hi;refine j91_2 ?_;simp only[uB,uG,kB,uZ,uA2,zg6,tA,aB];rw[yaa (by omega),ybt (by omega)]
  (first | exact⟨rfl,rfl⟩ | exact⟨rfl,trivial⟩ | trivial)
 | succ k ih=>
  intro i hi;have h1:i<l.length:=by omega
  obtain⟨b,off,x,y,g1,g2,gx,gy,g5⟩:=Pi hv h1;have f:∀a,oM (.func (.func 53) [] [w]) [a]=some (53,[a,w]):=fun _=>rfl;refine j91_2 ?_;simp only[uB,uG,kB,uZ,uA2,zg6,tA,aB];rw[yab (by omega),g1,xA,g2,xA,g5,xA,f,xA];simp only[cellsOf,mG,tG,zG,yaz,yba];rw[q53,hw _ (ycj h1) x y gx gy,xA,lE,xA,ybl h1];unfold idxR
  cases hq:xT two l[i]with
  | false=>
   simp_all
  | true=>
   simp only[Bool.not_true,ybq,if_false,if_true];rw[wrap_i64 (by omega) (by omega)];exact ih (i+1) (by omega)
def yW(x:oE):Bool:=decide (1<=x.name.length)&&decide (x.name.length<=24)&&decide (x.rows.length<=400)&&Gj x.rows (x.rows.length-1) && !(x.rows.any fun r => !xT x.two r)
theorem PE{x:oE} (hv:sA t 7 (x.rows.map vF.d) v)(hn:x.rows.length<sE)(hs:x.name.length<sE)(hf:∀r∈x.rows,rE.fit r.f):iB yA F 21 [.agg [.str x.name,.bool x.two,v]] t=some (.bool (yW x)):=by
 unfold sE at hn hs;refine jQ (w21 ?_);simp only[uI,uB,uS,bA,t21,tA];intro b hb hbase;obtain⟨t1,g1,g2,g3,g4⟩:=zjo (cs:=[.str x.name,.bool x.two,v]) hb;have f0:qB yA 68 0 (.ptr b 0)=some (.ptr b (0+0)):=by kernel_rfl
 have f1:qB yA 68 1 (.ptr b 0)=some (.ptr b (0+1)):=by kernel_rfl
 have f2:qB yA 68 2 (.ptr b 0)=some (.ptr b (0+2)):=by kernel_rfl
 have l0:mA yA 9 ⟨0,t1⟩ (.ptr b (0+0))=some (.str x.name):=g2.load1 yK rfl rfl;have l1:mA yA 4 ⟨0,t1⟩ (.ptr b (0+1))=some (.bool x.two):=g2.load1 ty4 rfl rfl;have l2:mA yA 66 ⟨0,t1⟩ (.ptr b (0+2))=some v:=g2.load1 ty66 rfl rfl;have hv1:=hv.mono g3;rw[g1,xA,f0,xA,l0,xA,rK,xA,mN,f2];simp only[xA,l0,l2,rK,mN,hv1.len,zB,ybf,aB,q50,RS hv1 (by omega),lE,q52]
 have c120:∀r∈x.rows,∀y z,sA t1 1 (wC r.f.n.limbs) y->sA t1 1 (wC r.f.d.limbs) z->iB yA F 53 [.agg [.int .i64 r.a,.int .i64 r.b,.int .i64 r.known,.bool r.f.n.neg,y,.bool r.f.d.neg,z],.ptr b 0] t1=some (.bool (!xT x.two r)):=by
  intro r hr y z hy hz;refine pC.2 (w53 ?_);simp only[uB,uZ,t53,tA];rw[f1,xA,l1,xA,lE,xA,q54,zci hy hz (hf r hr),xA,lE,xA]
  simp_all
 have c119:iB yA F 52 [v,.func (.func 53) [] [.ptr b 0]] t1=some (.bool (x.rows.any fun r => !xT x.two r)):=by
  refine pC.2 (w52 ?_);simp only[uI,t52,tA];have c185:iB yA F 91 [v,.func (.func 53) [] [.ptr b 0]] t1=some (.int .i64 (idxR x.two x.rows 0)):=by
   refine pC.2 (w91 ?_);simp only[uI,uZ,t91,tA,hv1.len,xA,zB,ybf];have:=WJ hv1 (by omega) hf c120 x.rows.length 0 (by omega)
   simp_all
  rw[q91,c185,xA,zB,xA,yZ,JN _ _ (by omega)]
  simp_all
 unfold yW;by_cases h1:(x.name.length:Int)<1
 ·rw[yab h1];have:¬ (1<=x.name.length):=by omega
  exact⟨by grind,g3⟩
 ·rw[yaa h1];have h1':1<=x.name.length:=by omega
  by_cases h2:24<(x.name.length:Int)
  ·rw[yab h2];have:¬ (x.name.length<=24):=by omega
   exact⟨by grind,g3⟩
  ·rw[yaa h2];have h2':x.name.length<=24:=by omega
   by_cases h3:400<(x.rows.length:Int)
   ·rw[yab h3];have:¬ (x.rows.length<=400):=by omega
    exact⟨by grind,g3⟩
   ·rw[yaa h3];have h3':x.rows.length<=400:=by omega
    simp only[h1',h2',h3',decide_true,ycn]
    cases hs:Gj x.rows (x.rows.length-1)with
    | false=>exact⟨by simp,g3⟩
    | true=>
     rw[c119];simp only[if_true,xA,lE,ycn];exact⟨by trivial,g3⟩
end
section
variable [tC]
variable {t:Tr qA}
mutual
/-- parts are counted, up to a limit -/
def aN:vA->Nat->Nat->Bool × Nat
 | .mk _ _ _ args,deep,c=>if 200<c+1 then(false,c+1)else if 24<deep then(false,c+1)else zO args (deep+1) (c+1)
def zO:List vA->Nat->Nat->Bool × Nat
 | [],_,c=>(true,c)
 | x::l,deep,c=>if (aN x deep c).1=true then zO l deep (aN x deep c).2 else(false,(aN x deep c).2)
end
mutual
theorem Vn:∀(x:vA) (deep c:Nat),c<=200->(aN x deep c).2<=201/\((aN x deep c).1=true->(aN x deep c).2<=200)
 | .mk _ _ _ args,deep,c,h=>by
  unfold aN;split
  ·grind
  ·split
   ·omega
   ·exact DF args (deep+1) (c+1) (by omega)
theorem DF:∀(l:List vA) (deep c:Nat),c<=200->(zO l deep c).2<=201/\((zO l deep c).1=true->(zO l deep c).2<=200)
 | [],deep,c,h=>by grind [zO]
 | x::l,deep,c,h=>by
  have h1:=Vn x deep c h;unfold zO;split
  ·rename_i e;exact DF l deep _ (h1.2 e)
  simp_all
end
def FT{x:vA}{a b c:zA}(ha:zA.one a=true)(hb:zA.one b=true)(hc:zA.one c=true):zD zA.one [.int .u8 x.op,.str x.name,.int .u8 x.v.kind,.bool x.v.f.n.neg,a,.bool x.v.f.d.neg,b,.int .i64 x.v.i,c]=true:=by
 rw[cE];simp only[ycg,yck,ha,hb,hc];rfl
def Yw{l:List vA}{v:zA}(hv:sA t 9 (l.map vA.d) v){i:Nat}{x:vA}(hx:l[i]?=some x) :
  ∃b off a c d,aA yA 46 v (.int .i64 (i:Int))=some (.ptr b off)/\mA yA 48 ⟨0,t⟩ (.ptr b off)=some (.agg (oC x a c d))/\RD t x.d (oC x a c d)/\gG [(.int .u8 0),(.str []),(.int .u8 0),(.bool false),.nilslice,(.bool false),.nilslice,(.int .i64 0),.nilslice] (.agg (oC x a c d))=some (cellsOf (oC x a c d)) ∧
   sA t 1 (wC x.v.f.n.limbs) a/\sA t 1 (wC x.v.f.d.limbs) c/\sA t 9 (x.args.map vA.d) d:=by
 obtain⟨b,off,cs,g1,g2,_,_,g5⟩:=eD.at bR (by simp) hv (i:=i) (d:=x.d) (by simp[hx]);have hz:=tI g5 x.zs;obtain⟨a,c,d,rfl,h1,h2,h3⟩:=iK g5;exact⟨b,off,a,c,d,g1,g2,g5,hz,h1,h2,h3⟩
section
variable {tf:Tr qA}{c w:Nat}
mutual
theorem AJ:∀(x:vA) (deep n:Nat) (cs:List zA) (t:Tr qA) (Q:xC),x.ok->deep<=25->n<=200->RD tf x.d cs->iA tf t->yA.base<=c->tf.get c=none->kC tf w none [.func (.func 49) [] [.ptr c 0,.ptr w 0]]->kC t c none [.int .i64 (n:Int)] →
  (∀t',aC c t t'->iA tf t'->kC t' c none [.int .i64 ((aN x deep n).2:Int)]->Q (.bool (aN x deep n).1) t')->Wc yA F 49 [.agg cs,.int .i64 (deep:Int),.ptr c 0,.ptr w 0] t Q
 | .mk op name v args,deep,n,cs,t,Q,hx,hdeep,hn,h,ht,hc,hfc,hw,hcel,hQ=>by
  obtain⟨a,b,d,rfl,ha,hb,hd⟩:=iK h;simp only[vA.op,vA.name,vA.v,vA.args]at ha hb hd;have hx':=hx;unfold vA.ok sE at hx';have l0:mA yA 3 ⟨0,t⟩ (.ptr c 0)=some (.int .i64 (n:Int)):=hcel.load1 zI rfl rfl;obtain⟨t1,s1,s2,s3⟩:=hcel.store1 (C:=yA) hc (j:=0) (v:=.int .i64 ((n+1:Nat):Int)) zI rfl rfl rfl (by simp);have s2:kC t1 c none [.int .i64 ((n+1:Nat):Int)]:=s2;have ht1:iA tf t1:=ht.off hfc s3
  have l1:mA yA 3 ⟨0,t1⟩ (.ptr c 0)=some (.int .i64 ((n+1:Nat):Int)):=s2.load1 zI rfl rfl;have e1:(n:Int)+1=((n+1:Nat):Int):=by omega
  refine w49 ?_;simp only[uI,kB,bA,uZ,t49,tA];rw[l0,xA,zB,xA,e1,wrap_i64 (by omega) (by omega)];intro m _ _;rw[s1,xA,l1,xA,zB,xA];simp only[aB];unfold aN at hQ;by_cases h1:200<n+1
  ·grind
  ·rw[yaa (by omega)];rw[yaa h1]at hQ;by_cases h2:24<deep
   ·grind
   ·rw[yaa (by omega)];rw[yaa h2]at hQ;rw[(hd.mono ht1).len,xA,ybf,zB,xA];exact AI args args deep (n+1) d 0 t1 Q hd rfl hx'.2.2.2 hx'.2.2.1 (by omega) (by omega) ht1 hc hfc hw s2 (fun t' k1 k2 k3=>hQ t' (s3.trans k1) k2 k3)
theorem AI:∀(l args:List vA) (deep n:Nat) (d:zA) (i:Nat) (t:Tr qA) (Q:xC),sA tf 9 (args.map vA.d) d->args.drop i=l->vA.oks l->args.length<1125899906842624->deep<=24->n<=200->iA tf t->yA.base<=c->tf.get c=none->kC tf w none [.func (.func 49) [] [.ptr c 0,.ptr w 0]]->kC t c none [.int .i64 (n:Int)] →
  (∀t',aC c t t'->iA tf t'->kC t' c none [.int .i64 ((zO l (deep+1) n).2:Int)]->Q (.bool (zO l (deep+1) n).1) t')->jp 49 2 [.int .i64 (deep:Int),.ptr w 0,d,.int .i64 (args.length:Int),.int .i64 (i:Int)] t Q
 | [],args,deep,n,d,i,t,Q,hd,hl,hok,hsz,hdeep,hn,ht,hc,hfc,hw,hcel,hQ=>by
  have:=Mn hl;refine j49_2 ?_;simp only[uB,uG,fB,kB,bA,tF,uZ,pH,cD,zhb,tA,aB];grind [zO,aC.refl]
 | x::l,args,deep,n,d,i,t,Q,hd,hl,hok,hsz,hdeep,hn,ht,hc,hfc,hw,hcel,hQ=>by
  obtain⟨h1,h2,h3⟩:=Mo hl;have hok':=hok;unfold vA.oks at hok';obtain⟨b',off,a1,b1,c1,g1,g2,g3,g4,g5,g6,g7⟩:=Yw (hd.mono ht) h1;obtain⟨b2,off2,a2,c2,d2,k1,k2,k3,k4,k5,k6,k7⟩:=Yw hd h1;have e:b'=b2/\off=off2:=by simp_all
  obtain⟨rfl,rfl⟩:=e;have e2:=tQ (HA:=⟨0,t⟩) (fun _ _ h=>ht _ _ h) k2;rw[g2]at e2;have e3:oC x a1 b1 c1=oC x a2 c2 d2:=by grind
  rw[<- e3]at k3;have lw:mA yA 93 ⟨0,t⟩ (.ptr w 0)=some (.func (.func 49) [] [.ptr c 0,.ptr w 0]):=tQ (H:=⟨0,tf⟩) (fun _ _ h=>ht _ _ h) (hw.load1 ty93 rfl rfl);have f:∀a b,oM (.func (.func 49) [] [.ptr c 0,.ptr w 0]) [a,b]=some (49,[a,b,.ptr c 0,.ptr w 0]):=fun _ _=>rfl;have e1:(deep:Int)+1=((deep+1:Nat):Int):=by omega
  refine j49_2 ?_;simp only[uB,uG,fB,kB,bA,tF,uZ,pH,cD,zhb,tA,aB];rw[yab (by omega),g1,xA,g2,xA,g4,xA];simp only[oC,cellsOf,mG,tG,zG,gH,yaz,yba];refine sB (FT g5.one g6.one g7.one) ?_;rw[lw,xA,f,xA,e1,wrap_i64 (by omega) (by omega),q49];have hle:=Vn x (deep+1) n hn;refine AJ x (deep+1) n _ t _ hok'.1 (by omega) hn k3 ht hc hfc hw hcel fun t' m1 m2 m3=>?_
  rw[lE,xA];unfold zO at hQ
  cases hq:(aN x (deep+1) n).1 with
  | false=>
   simp_all
  | true=>
   rw[hq,yab rfl]at hQ;simp only[Bool.not_true,ybq,if_false];rw[wrap_i64 (by omega) (by omega),show(i:Int)+1=((i+1:Nat):Int) by omega];exact AI l args deep _ d (i+1) t' Q hd h2 hok'.2 hsz hdeep (hle.2 hq) m2 hc hfc hw m3 fun t'' p1 p2 p3=>hQ t'' (m1.trans p1) p2 p3
end
end
def Af(x:vA):Bool:=(aN x 1 0).1
theorem DB{x:vA}{cs:List zA}(hx:x.ok)(h:RD t x.d cs):iB yA F 20 [.agg cs] t=some (.bool (Af x)):=by
 obtain⟨a,b,d,rfl,ha,hb,hd⟩:=iK h;refine jQ (w20 ?_);simp only[uB,uZ,uY,t20,tA];intro c hc hcb;obtain⟨t1,g1,g2,g3,g4⟩:=sX (C:=yA) zI hc;rw[g1,xA];intro m1 _ _;obtain⟨t2,s1,s2,s3⟩:=g2.store1 (C:=yA) hcb (j:=0) (v:=.int .i64 ((0:Nat):Int)) zI rfl rfl rfl (by decide);have s1':cC yA 3 (.ptr c 0) (.int .i64 0) ⟨m1,t1⟩=some (kD,⟨m1,t2⟩):=s1 m1;rw[s1',xA];intro w hw hwb;have hwc:w≠c:=by
  intro e;subst e;obtain⟨x,hx,_⟩:=s2
  simp_all
 have htw:t.get w=none:=by
  cases hq:t.get w with
  | none=>rfl
  | some y=>have:=(g3.off hc s3) _ _ hq;simp_all
 obtain⟨t3,g5,g6,g7,g8⟩:=sX (C:=yA) ty93 hw;rw[g5,xA];intro m2 _ _;obtain⟨t4,s4,s5,s6⟩:=g6.store1 (C:=yA) hwb (j:=0) (v:=.func (.func 49) [] [.ptr c 0,.ptr w 0]) ty93 rfl rfl rfl (by decide);have s4':=s4 m2;rw[s4',xA];have s5:kC t4 w none [.func (.func 49) [] [.ptr c 0,.ptr w 0]]:=s5;have lw:mA yA 93 ⟨0,t4⟩ (.ptr w 0)=some (.func (.func 49) [] [.ptr c 0,.ptr w 0]):=s5.load1 ty93 rfl rfl
 have f:∀a b,oM (.func (.func 49) [] [.ptr c 0,.ptr w 0]) [a,b]=some (49,[a,b,.ptr c 0,.ptr w 0]):=fun _ _=>rfl;rw[lw,xA,f,xA,q49];have hc4:t4.get c=t2.get c:=by rw[s6 c (Ne.symm hwc),g8 c (Ne.symm hwc)]
 have hcel:kC t4 c none [.int .i64 ((0:Nat):Int)]:=s2.off hc4;obtain⟨blk,hblk,hblk2⟩:=s5;have htf:iA t (t.set w (.cells blk 1 none)):=(jJ htw _).1;have hft:iA (t.set w (.cells blk 1 none)) t4:=by
  intro k y hk;rw[Tr.get_set]at hk;split at hk
  ·simp_all
  ·rename_i e;have hkc:k≠c:=by grind
   rw[s6 k e,g8 k e,s3 k hkc,g4 k hkc];exact hk
 refine AJ (tf:=t.set w (.cells blk 1 none)) (c:=c) (w:=w) x 1 0 _ t4 _ hx (by omega) (by omega) (RD.mono htf _ _ h) hft hcb (by grind [Tr.get_set]) ⟨blk,by grind [Tr.get_set],hblk2⟩ hcel fun t' k1 k2 k3=>?_;rw[lE,xA];exact⟨rfl,htf.trans k2⟩
end
section
variable {x:fC}{a b v:zA}{l:List fC}{p:rG}
variable [tC]
variable {t:Tr qA}
def gS(x:fC)(a b c a' b' c':zA):List zA:=[.str x.name,.str x.label,.int .i64 x.from_,.int .i64 x.to,.int .i64 x.known,.bool x.off,.int .u8 x.when_.op,.str x.when_.name,.int .u8 x.when_.v.kind,.bool x.when_.v.f.n.neg,a,.bool x.when_.v.f.d.neg,b,.int .i64 x.when_.v.i,c,.int .u8 x.then_.op,.str x.then_.name,.int .u8 x.then_.v.kind,.bool x.then_.v.f.n.neg,a',.bool x.then_.v.f.d.neg,b',.int .i64 x.then_.v.i,c']
def Nj:List zA:=[(.str []),(.str []),(.int .i64 0),(.int .i64 0),(.int .i64 0),(.bool false),(.int .u8 0),(.str []),(.int .u8 0),(.bool false),.nilslice,(.bool false),.nilslice,(.int .i64 0),.nilslice,(.int .u8 0),(.str []),(.int .u8 0),(.bool false),.nilslice,(.bool false),.nilslice,(.int .i64 0),.nilslice]
def UM {c a' b' c':zA}(ha:zA.one a=true)(hb:zA.one b=true)(hc:zA.one c=true)(ha':zA.one a'=true)(hb':zA.one b'=true)(hc':zA.one c'=true):zD zA.one (gS x a b c a' b' c')=true:=by
 rw[cE];simp only[gS,ycg,yck,ha,hb,hc,ha',hb',hc'];rfl
def Zk  (hv:sA t 24 (l.map fC.d) v){i:Nat} (hx:l[i]?=some x) :
  ∃p off a b c a' b' c',aA yA 24 v (.int .i64 (i:Int))=some (.ptr p off)/\mA yA 50 ⟨0,t⟩ (.ptr p off)=some (.agg (gS x a b c a' b' c'))/\gG Nj (.agg (gS x a b c a' b' c'))=some (cellsOf (gS x a b c a' b' c')) ∧
   RD t x.when_.d (oC x.when_ a b c)/\RD t x.then_.d (oC x.then_ a' b' c')/\zD zA.one (gS x a b c a' b' c')=true:=by
 obtain⟨p,off,cs,g1,g2,_,_,g5⟩:=eD.at Ae (by simp) hv (i:=i) (d:=x.d) (by simp[hx]);have hz:=tI g5 x.zs;obtain⟨a,b,c,a',b',c',rfl,h1,h2⟩:=vY g5;obtain⟨u1,u2,u3,e1,m1,m2,m3⟩:=iK h1;obtain⟨w1,w2,w3,e2,n1,n2,n3⟩:=iK h2;unfold oC at e1 e2;cases e1;cases e2;exact⟨p,off,_,_,_,_,_,_,g1,g2,hz,h1,h2,UM m1.one m2.one m3.one n1.one n2.one n3.one⟩
def xX(c:fC):Bool:=Af c.when_&&Af c.then_
def fS(p:rG):Bool:=decide (p.defs.length<=64)&&decide (p.clauses.length<=400)&&decide (p.tables.length<=16)&&p.clauses.all xX&&p.tables.all yW
theorem QT{l:List oE} (hv:sA t 3 (l.map oE.d) v)(hn:l.length<1125899906842624)(hf:∀x∈l,x.fit):∀(k i:Nat),i+k=l.length->jp 7 6 [v,.int .i64 (l.length:Int),.int .i64 (i:Int)] t (fun r m=>r=.bool ((l.drop i).all yW)/\m=t):=by
 intro k;induction k with
 | zero=>
  intro i hi;refine j7_6 ?_;simp only[uB,uG,fB,kB,bA,tF,uZ,uM4,uA4,t7_6,tA,aB];simp_all
 | succ k ih=>
  intro i hi;have h1:i<l.length:=by omega
  obtain⟨b,off,cs,g1,g2,_,_,g5⟩:=eD.at Gl (by simp) hv (i:=i) (d:=l[i].d) (by simp_all);have hz:=tI g5 (oE.zs _);obtain⟨a,rfl,ha⟩:=Df g5;have hfit:=hf _ (ycj h1);have hone:zD zA.one [.str l[i].name,.bool l[i].two,a]=true:=by rw[cE];simp only[ycg,yck,ha.one];rfl
  refine j7_6 ?_;simp only[uB,uG,fB,kB,bA,tF,uZ,uM4,uA4,t7_6,tA,aB];rw[yab (by omega),g1,xA,g2,Fv,xA,hz,xA];simp only[cellsOf,gH,tG,zG,yaz,yba];refine sB hone ?_;rw[q21,PE ha hfit.2.1 hfit.1 (fun r hr=>(hfit.2.2 r hr).2.2.2),xA,lE,xA,ybl h1,ycg]
  cases hq:yW l[i]with
  | false=>simp
  | true=>
   simp only[Bool.not_true,ybq,if_false,ycn];rw[wrap_i64 (by omega) (by omega)];exact ih (i+1) (by omega)
theorem YI   (hp:l=p.clauses)(hv:sA t 24 (l.map fC.d) v)(hb:sA t 3 (p.tables.map oE.d) b)(hn:l.length<1125899906842624)(hnt:p.tables.length<1125899906842624)(hf:∀x∈l,x.fit)(hft:∀x∈p.tables,x.fit):∀(k i:Nat),i+k=l.length->jp 7 2 [v,.int .i64 (l.length:Int),.int .i64 (i:Int),.str p.name,a,b,v] t (fun r m=>r=.bool ((l.drop i).all xX&&p.tables.all yW)/\m=t):=by
 intro k;induction k with
 | zero=>
  intro i hi;refine j7_2 ?_;simp only[uI,uB,uG,fB,kB,bA,uZ,uY,uM3,t7_2,tA,aB];rw[yaa (by omega),ybt (by omega),hb.len,xA,ybf,zB,xA];have:=QT hb hnt hft p.tables.length 0 (by omega)
  simp_all
 | succ k ih=>
  intro i hi;have h1:i<l.length:=by omega
  obtain⟨q,off,u1,u2,u3,w1,w2,w3,g1,g2,g3,g4,g5,g6⟩:=Zk hv (ybd h1);have hfit:=hf _ (ycj h1);refine j7_2 ?_;simp only[uI,uB,uG,fB,kB,bA,uZ,uY,uM3,t7_2,tA,aB];unfold Nj at g3;rw[yab (by omega),g1,xA,g2,xA,g3,xA];unfold gS at g6;simp only[gS,cellsOf,mG,gH,tG,zG,yaz,yba];have s1:=DB (vA.fit_ok hfit.2.2.2.2.2.1) g4;have s2:=DB (vA.fit_ok hfit.2.2.2.2.2.2) g5
  unfold oC at s1 s2;refine sB g6 ?_;rw[q20,s1,xA,lE,xA,q20,s2,xA,lE,xA,ybl h1,ycg];have e:xX l[i]=(Af l[i].when_&&Af l[i].then_):=rfl;rw[e]
  cases hq:Af l[i].when_ with
  | false=>simp
  | true=>
   cases hq2:Af l[i].then_ with
   | false=>simp
   | true=>
    simp only[Bool.not_true,ybq,if_false,ycn];rw[wrap_i64 (by omega) (by omega)];exact ih (i+1) (by omega)
theorem NM {cs:List zA}(hp:p.fit)(h:RD t p.d cs):iB yA F 7 [.agg cs] t=some (.bool (fS p)):=by
 obtain⟨a,b,c,rfl,ha,hb,hc⟩:=Aj h;obtain⟨p1,p2,p3,p4,p5,p6,p7⟩:=hp;unfold sE at p1 p2 p3 p4;refine pC.2 (w7 ?_);simp only[uI,bA,uZ,t7,tA,ha.len,hb.len,hc.len,xA,zB,ybf,aB];unfold fS;by_cases h1:p.defs.length<=64
 ·rw[yaa (by omega)];by_cases h2:p.clauses.length<=400
  ·rw[yaa (by omega)];by_cases h3:p.tables.length<=16
   ·rw[yaa (by omega)];simp only[h1,h2,h3,decide_true,ycn];have:=YI (a:=a) rfl hc hb (by omega) (by omega) p7 p6 p.clauses.length 0 (by omega)
    simp_all
   grind
  grind
 grind
end
end Go.Proofs
namespace Go.Am
structure XIns where
 op:Nat
 a:Int
 b:Int
def dK (k:List Nat):List (List Nat)->Nat
 | []=>0
 | x::l=>if k=x then 0 else dK k l+1
theorem Rc{k:List Nat}:∀ {l:List (List Nat)},k∈l->l[dK k l]?=some k
 | [],h=>by cases h
 | x::l,h=>by
  unfold dK;split
  ·rename_i e;rw[e];rfl
  ·rename_i e;rcases ybs.1 h with h | h
   ·exact absurd h e
   ·rw[yba];exact Rc h
theorem Ea{k:List Nat}:∀ {l:List (List Nat)},k∉l->dK k l=l.length
 | [],_=>rfl
 | x::l,h=>by
  unfold dK;have h1:k≠x:=fun e=>h (by rw[e];exact yby);rw[yaa h1,Ea (fun m=>h (ybr _ m))];rfl
structure Nt where
 names:List (List Nat)
 consts:List yB
section
variable (key:yB->List Nat)(valid:yB->Bool)
def Nt.name(s:Nt)(n:List Nat):Nt:=if n∈s.names then s else⟨s.names++[n],s.consts⟩
def Nt.const(s:Nt)(v:yB):Nt:=if key v∈s.consts.map key then s else⟨s.names,s.consts++[v]⟩
def Nt.nameI(s:Nt)(n:List Nat):Nat:=dK n s.names
def Nt.constI(s:Nt)(v:yB):Nat:=dK (key v) (s.consts.map key)
def gF (op:Nat):Int × Int:=
 if op=1\/op=2 then(0,0)else if op=5 then(1,1)else if op=6 then(1,2)else if op=15\/op=16 then(2,2)else if op=18 then(3,3)
 else if op=3\/op=4\/op=17\/op=24\/op=25\/op=26 then(1,1)
 else if (7<=op/\op<=14)\/op=19\/op=20\/op=21\/op=23 then(2,2)else if op=22 then(3,3)else(1,0)
def gI(op:Nat)(v:yB)(n:Nat):Bool:=(decide (op≠1)||valid v)&&decide ((gF op).1<=n)&&decide ((n:Int)<=(gF op).2)
def wE(op:Nat)(name:List Nat)(v:yB)(n:Nat)(s:Nt):Nt × XIns:=
 if op=1 then(s.const key v,⟨1,s.constI key v,0⟩)
 else if op=2 then(s,⟨2,0,0⟩)
 else if op=3\/op=4\/op=5 then(s.name name,⟨op,s.nameI name,0⟩)
 else if op=6 then(s.name name,⟨6,s.nameI name,n⟩)
 else if op=21\/op=22\/op=23 then(s.name name,⟨8,s.nameI name,op⟩)
 else if op=19 then(s,⟨7,19,v.i⟩)
 else(s,⟨7,op,0⟩)
abbrev sH:=Nt->Nat->Nt × List XIns
def eE(n:Int):yB:=⟨1,⟨⟨false,[]⟩,⟨false,[]⟩⟩,n⟩
def tK(f g:sH)(skip:Nat)(truth:Int):sH:=fun s p=>
 ((g (f s p).1 (p+(f s p).2.length+1)).1.const key (eE truth),
  (f s p).2++⟨skip,((p+(f s p).2.length+1+(g (f s p).1 (p+(f s p).2.length+1)).2.length+2:Nat):Int),0⟩ ::
   ((g (f s p).1 (p+(f s p).2.length+1)).2++[⟨12,0,0⟩,⟨9,((p+(f s p).2.length+1+(g (f s p).1 (p+(f s p).2.length+1)).2.length+3:Nat):Int),0⟩,⟨1,(g (f s p).1 (p+(f s p).2.length+1)).1.constI key (eE truth),0⟩]))
def eM (f g h:sH):sH:=fun s p=>
 ((h (g (f s p).1 (p+(f s p).2.length+1)).1 (p+(f s p).2.length+1+(g (f s p).1 (p+(f s p).2.length+1)).2.length+1)).1,
  (f s p).2++⟨10,((p+(f s p).2.length+1+(g (f s p).1 (p+(f s p).2.length+1)).2.length+1:Nat):Int),0⟩ ::
   ((g (f s p).1 (p+(f s p).2.length+1)).2++⟨9,((p+(f s p).2.length+1+(g (f s p).1 (p+(f s p).2.length+1)).2.length+1+(h (g (f s p).1 (p+(f s p).2.length+1)).1 (p+(f s p).2.length+1+(g (f s p).1 (p+(f s p).2.length+1)).2.length+1)).2.length:Nat):Int),0⟩ ::
    (h (g (f s p).1 (p+(f s p).2.length+1)).1 (p+(f s p).2.length+1+(g (f s p).1 (p+(f s p).2.length+1)).2.length+1)).2))
def pD:List sH->sH
 | [],s,_=>(s,[])
 | f::l,s,p=>((pD l (f s p).1 (p+(f s p).2.length)).1,(f s p).2++(pD l (f s p).1 (p+(f s p).2.length)).2)
def lH(op:Nat)(name:List Nat)(v:yB)(fs:List sH):sH:=fun s p=>
 if gI valid op v fs.length=false then(s,[⟨13,0,0⟩])
 else if op=15 then(match fs with | f::g::_=>tK key f g 10 0 s p | _=>(s,[]))
 else if op=16 then(match fs with | f::g::_=>tK key f g 11 1 s p | _=>(s,[]))
 else if op=18 then(match fs with | f::g::h::_=>eM f g h s p | _=>(s,[]))
 else((wE key op name v fs.length (pD fs s p).1).1,(pD fs s p).2++[(wE key op name v fs.length (pD fs s p).1).2])
mutual
def vC:vA->sH
 | .mk op name v args=>lH key valid op name v (zE args)
def zE:List vA->List sH
 | []=>[]
 | x::l=>vC x::zE l
end
theorem Jw:∀l:List vA,(zE key valid l).length=l.length
 | []=>rfl
 | x::l=>by simp[zE,Jw l]
def mL:List fC->Nt->Nt × List (List XIns × List XIns)
 | [],s=>(s,[])
 | c::l,s=>((mL l (vC key valid c.then_ (vC key valid c.when_ s 0).1 0).1).1,((vC key valid c.when_ s 0).2,(vC key valid c.then_ (vC key valid c.when_ s 0).1 0).2)::(mL l (vC key valid c.then_ (vC key valid c.when_ s 0).1 0).1).2)
end
def popsE(i:XIns):Int:=
 if i.op=3\/i.op=4\/i.op=5\/i.op=12 then 1
 else if i.op=6 then i.b
 else if i.op=7 then(if i.a%256=17\/i.a%256=24\/i.a%256=25\/i.a%256=26 then 1 else 2)
 else if i.op=8 then(if i.b=22 then 3 else 2)
 else 0
inductive Stp (code:List XIns) (bit:Nat->Bool):Nat->Int->Nat->Int->Prop
 | jump {p q:Nat} {d:Int} {i:XIns}:code[p]?=some i->i.op=9->i.a=(q:Int)->p<q->q<=code.length->Stp code bit p d q d
 | cond {p q:Nat} {d:Int} {i:XIns}:code[p]?=some i->(i.op=10\/i.op=11)->(if bit p=true then i.a else(p:Int)+1)=(q:Int)->p<q->q<=code.length->1<=d->Stp code bit p d q (d-1)
 | op {p:Nat} {d:Int} {i:XIns}:code[p]?=some i->i.op<9\/(11<i.op/\i.op<255)->popsE i<=d->Stp code bit p d (p+1) (d+(1-popsE i))
inductive Way (code:List XIns) (bit:Nat->Bool):Nat->Int->Nat->Int->Prop
 | nil {p:Nat} {d:Int}:Way code bit p d p d
 | cons {p q r:Nat} {d e f:Int}:Stp code bit p d q e->Way code bit q e r f->Way code bit p d r f
def Seg (code:List XIns)(p:Nat)(l:List XIns):Prop:=∀(k:Nat) x,l[k]?=some x->code[p+k]?=some x
def Seg.left{code:List XIns}{p:Nat}{l m:List XIns}(h:Seg code p (l++m)):Seg code p l:=fun k x hk=>h k x (by rw[yco (ybc.1 hk).1];exact hk)
def Seg.right{code:List XIns}{p:Nat}{l m:List XIns}(h:Seg code p (l++m)):Seg code (p+l.length) m:=fun k x hk=>by
 have:=h (l.length+k) x (by rw[ybp (by omega)];rw[show l.length+k-l.length=k by omega];exact hk);rw[Nat.add_assoc];exact this
def Seg.head{code:List XIns}{p:Nat}{x:XIns}{m:List XIns}(h:Seg code p (x::m)):code[p]?=some x/\Seg code (p+1) m:=by
 refine⟨h 0 x rfl,fun k y hk=>?_⟩;have:=h (k+1) y (by simpa using hk);rw[show p+(k+1)=p+1+k by omega]at this;exact this
end Go.Am
