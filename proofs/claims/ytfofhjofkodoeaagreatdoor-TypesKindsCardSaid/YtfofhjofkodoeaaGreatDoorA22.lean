/- The reference's numbers: trim, less, plus, minus, half, short. -/
import Derived.Test.YtfofhjofkodoeaaGreatDoorA21
set_option linter.all false
noncomputable section
set_option maxRecDepth 100000
namespace Go.Proofs
open Go Go.Am
variable [lC]
variable {t tf:Tr qA}
def rl27:cL yA 27 240 1:=⟨⟨_,gU,rfl,rfl⟩,⟨_,jM,rfl,rfl,by decide,by decide⟩,fun y h=>by rw[jM]at h;cases h;rfl⟩
theorem tm65(x:Nat):Int.tmod (x:Int) 65536=((x%65536:Nat):Int):=by
 grind
theorem td65(x:Nat):Int.tdiv (x:Int) 65536=((x / 65536:Nat):Int):=by
 simp_all
theorem Sb(B:Nat)(a:List Nat)(i:Nat):val B (a.take (i+1))=val B (a.take i)+B^i*(a[i]?.getD 0):=by
 cases h:a[i]? with
 | none=>
  grind [List.take_of_length_le]
 | some x=>
  have:=(ybc.1 h).1;rw[bS h,mK,yda,Nat.min_eq_left (by omega)];rfl
theorem FP{B:Nat}{r:List Nat}(hB:0<B)(hr:qB B r)(h:r≠[]->B^(r.length-1)<=val B r):norm r:=by
 intro hne h0;obtain⟨m,x,rfl⟩:=Cg hne;have hx:x=0:=by simp_all
 subst hx;have h1:=h hne;rw[mK,yat,yct]at h1;have h2:=lK hB (l:=m) fun y hy=>hr y (ydc _ hy)
 grind
theorem RL:∀(n:Nat) (l:List Nat) (v:zA),l.length=n->n<1125899906842624->lA t 1 (vB .u16 l) v->∃v',jp 212 2 [v,.int .i64 (n:Nat)] t (fun u m=>u=v'/\m=t)/\lA t 1 (vB .u16 (zE l)) v':=by
 have key:∀(n:Nat) (l:List Nat) (v:zA),n<=l.length->l.length<1125899906842624->lA t 1 (vB .u16 l) v->∃v',jp 212 2 [v,.int .i64 (n:Nat)] t (fun u m=>u=v'/\m=t)/\lA t 1 (vB .u16 (zE (l.take n))) v':=by
  intro n;induction n with
  | zero=>
   intro l v hn hl hv;obtain⟨u,g3,g4⟩:=lD.front wI hv (k:=0) (by omega);rw[Qx]at g4;refine⟨u,Xg ?_,g4⟩;unfold Mv uH rA uZ uW;exact bA (fun e=>by grind [wC]) (yC g3 ⟨rfl,rfl⟩)
  | succ n ih=>
   intro l v hn hl hv;obtain⟨x,hx⟩:=getElem?_of_lt (l:=l) (i:=n) (by omega);obtain⟨b,off,g1,g2⟩:=hv.idx wI hx;have e1:jA .i64 (((n+1:Nat):Int)-1)=(n:Int):=by grind [wrap_i64]
   have ht:l.take (n+1)=l.take n++[x]:=bS hx;by_cases hx0:x=0
   ·subst hx0;obtain⟨w,h1,h2⟩:=ih l v (by omega) hl hv;refine⟨w,Xg ?_,by grind [Mx]⟩;unfold Mv uH rA uZ uW;grind [oA,wC,uA,yC,zB,wE,zC]
   ·obtain⟨u,g3,g4⟩:=lD.front wI hv (k:=n+1) (by rw[nD];omega);rw[Qx]at g4;refine⟨u,Xg ?_,?_⟩
    ·unfold Mv uH rA uZ uW;rw[e1];exact oA (wC.2 (by omega)) (uA g1 (yC g2 (zB (bA (fun e=>by grind [wE]) (yC g3 ⟨rfl,rfl⟩)))))
    ·rw[Bm]
     ·exact g4
     ·rw[ht];intro _;simp_all
 intro n l v hl hn hv;have:=key n l v (by omega) (by omega) hv
 rwa [yca (by omega)]at this
def Np{l:List Nat}{v:zA}(hl:l.length<1125899906842624)(hv:lA t 1 (vB .u16 l) v):∃v',rB yA F 212 [v] t=some v'/\lA t 1 (vB .u16 (zE l)) v':=by
 obtain⟨v',h1,h2⟩:=RL _ l v rfl hl hv;refine⟨v',dB.2 (w212 ?_),h2⟩;unfold t212 uI uZ;exact uA (by rw[hv.len,nD]) (zB (zC h1))
theorem zc9:∀(a b:List Nat) (x y:Nat),a.length=b.length->dH.go (a++[x]) (b++[y])=if x<y then -1 else if y<x then 1 else dH.go a b:=by
 intro a;induction a with
 | nil=>
  grind [dH.go]
 | cons p a ih=>
  intro b x y h
  cases b with
  | nil=>simp at h
  | cons q b=>
   grind [dH.go]
theorem RV{a b:List Nat}{u v:zA}(hu:lA t 1 (vB .u16 a) u)(hv:lA t 1 (vB .u16 b) v)(hl:a.length=b.length):∀(n:Nat),n<=a.length->n<1125899906842624->jp 244 2 [u,v,.int .i64 ((n:Int)-1)] t (fun w m=>w=.bool (decide (dH.go (a.take n) (b.take n)<0))/\m=t):=by
 intro n;induction n with
 | zero=>
  intro _ _;refine ze0 ?_;unfold Tg uH wB rA aA uZ uW;refine bA (fun e=>by grind [iD]) ⟨?_,rfl⟩;simp[dH.go]
 | succ n ih=>
  intro hn hn2;obtain⟨x,hx⟩:=getElem?_of_lt (l:=a) (i:=n) (by omega);obtain⟨y,hy⟩:=getElem?_of_lt (l:=b) (i:=n) (by omega);obtain⟨c,off,g1,g2⟩:=hu.idx wI hx;obtain⟨d,off',g3,g4⟩:=hv.idx wI hy;have e1:(((n+1:Nat):Int)-1)=(n:Int):=by omega
  have e2:dH.go (a.take (n+1)) (b.take (n+1))=if x<y then -1 else if y<x then 1 else dH.go (a.take n) (b.take n):=by
   simp_all [bS,zc9]
  rw[e1,e2];refine ze0 ?_;unfold Tg uH wB rA aA uZ uW;refine oA (iD.2 (by omega)) (uA g1 (yC g2 (zB (uA g3 (yC g4 (zB ?_))))));by_cases c0:x=y
  ·subst c0
   grind [bA,wE,zC,wrap_i64]
  ·refine oA (oN.2 (by omega)) (uA g1 (yC g2 (zB (uA g3 (yC g4 (zB ⟨?_,rfl⟩))))))
   grind [Fw,decide_eq_false]
theorem Ve{a b:List Nat}{u v:zA}(ha:a.length<1125899906842624)(hu:lA t 1 (vB .u16 a) u)(hv:lA t 1 (vB .u16 b) v):rB yA F 244 [u,v] t=some (.bool (decide (dH a b<0))):=by
 refine dB.2 (w244 ?_);unfold t244 uI uZ uW;have h1:cA u=some (.int .i64 (a.length:Int)):=by rw[hu.len,nD]
 have h2:cA v=some (.int .i64 (b.length:Int)):=by rw[hv.len,nD]
 refine uA h1 (zB (uA h2 (zB ?_)));unfold dH;by_cases hl:a.length=b.length
 ·refine bA (by grind [wE]) (uA h1 (zB (zC ?_)));rw[yaa (by omega),wrap_i64 (by omega) (by omega)];have:=RV hu hv hl a.length (ybk _) ha
  rwa [List.take_length,hl,List.take_length,<- hl]at this
 ·refine oA (oN.2 (by omega)) (uA h1 (zB (uA h2 (zB ⟨?_,rfl⟩))))
  grind [Fw,decide_eq_false]
theorem Vl{W J:kI}{l:List Nat}{x:Nat}{v:zA}{K:zA->T}{Q:aB}(hv:Ap yA.base tf t 1 (vB .u16 l) v)(ht:xB tf t)(hl:l.length<300000)
  (hK:∀t' v',Ap yA.base tf t' 1 (vB .u16 (l++[x])) v'->xB tf t'->iA yA.base W J (K v') t' Q) :
  iA yA.base W J (.heavy (oG yA 27 1 [(0,.int .u16 (x:Int))]) fun a0=>.heavy (sF yA 27 27 v a0) K) t Q:=by
 refine tG fun b hb _=>?_;obtain⟨H1,e1,e2,e3⟩:=Cf (k:=.u16) gU rfl jM rfl rfl x trivial hb;refine⟨_,_,e1,tG fun b2 hb2 hbase2=>?_⟩;have hne:∀b',oO v b'->H1.t.get b'=t.get b':=fun b' h=>by
  obtain⟨_,_,y,hy⟩:=hv.none h;rw[e3 _ _ hy,hy]
 have hv':=hv.keep' hne;have hx:lA H1.t 1 (vB .u16 [x]) (.slice b 0 1 1):=e2.all (cap:=1) (ybk _);have hcd:∀z,yA.tys.get 240=some z->aK 240 z=.sz 1:=fun z h=>by
  rw[rl27.nb.code h];grind [jM]
 obtain⟨t',a1,a2,a3,a4⟩:=Zh ⟨rl27.ty,rl27.el⟩ hcd hv' hx (by simp) (by grind) hb2 hbase2 (ht.trans e3)
 grind
section
variable {a b:List Nat}{u v:zA}{Q:aB}
theorem TI(hu:lA t 1 (vB .u16 a) u)(hv:lA t 1 (vB .u16 b) v)(ha:qB 65536 a)(hb:qB 65536 b)(hla:a.length<200000)(hlb:b.length<200000)
  (hQ:∀t' v' r,xB t t'->lA t' 1 (vB .u16 r) v'->qB 65536 r->val 65536 r=val 65536 a+val 65536 b->(norm a->norm b->norm r)->Q v' t') :
  ∀(k i n:Nat) (t':Tr qA) (P:List Nat) (w:zA),i+k=max a.length b.length+1->xB t t'->Ap yA.base t t' 1 (vB .u16 P) w->P.length=i->qB 65536 P->n<=1->(i=max a.length b.length+1->n=0/\65536^max a.length b.length<=val 65536 a+val 65536 b) →
   val 65536 P+65536^i*n=val 65536 (a.take i)+val 65536 (b.take i)->jp 210 2 [u,v,w,.int .i64 (n:Int),.int .i64 (i:Int)] t' Q:=by
 intro k;induction k with
 | zero=>
  intro i n t' P w hi ht hw hP hPl hn hend hval;obtain⟨h0,hge⟩:=hend (by omega);subst h0;refine ze6 ?_;unfold To uQ19 uI uH wB rA uZ uW;refine uA (by rw[hu.len,nD]) (zB (bA (fun e=>by grind [wC]) (uA (by rw[hv.len,nD]) (zB (bA (fun e=>by grind [wC]) (bA (fun e=>by grind [wC]) ?_))))));rw[yca (by omega),yca (by omega),yat,yct]at hval;refine hQ t' w P ht (hw.read ht) hPl hval fun _ _=>FP (by omega) hPl fun _=>?_
  simp_all
 | succ k ih=>
  intro i n t' P w hi ht hw hP hPl hn _ hval;have hu':=hu.mono ht;have hv':=hv.mono ht;have l1:cA u=some (.int .i64 (a.length:Int)):=by rw[hu.len,nD]
  have l2:cA v=some (.int .i64 (b.length:Int)):=by rw[hv.len,nD]
  have hxl:a[i]?.getD 0<65536:=by
   cases h:a[i]? with
   | none=>simp
   | some x=>exact sI ha h
  have hyl:b[i]?.getD 0<65536:=by
   cases h:b[i]? with
   | none=>simp
   | some x=>exact sI hb h
  have fF:(i=max a.length b.length->n=1)->∀s:Nat,s=n+a[i]?.getD 0+b[i]?.getD 0->jp 210 21 [u,v,w,.int .i64 (s:Int),.int .i64 (i:Int)] t' Q:=by
   intro hmax s hs;refine zh7 ?_;unfold BJ sB uZ uW;rw[tm65,td65,Ay (by omega) (by omega)];refine Vl hw ht (by omega) fun t2 w2 h1 h2=>zC ?_;rw[wrap_i64 (by omega) (by omega),wrap_i64 (by omega) (by omega),show(i:Int)+1=((i+1:Nat):Int) by omega];have hv2:val 65536 (P++[s%65536])+65536^(i+1)*(s / 65536)=val 65536 (a.take (i+1))+val 65536 (b.take (i+1)):=by
    grind [mK,Sb,Nat.mod_add_div]
   refine ih (i+1) (s / 65536) t2 _ w2 (by omega) h2 h1 (by simp;omega) (gS hPl (by omega)) (by omega) (fun hE=>?_) hv2;have hiM:i=max a.length b.length:=by omega
   have h0:a[i]?.getD 0=0:=by rw[List.getElem?_eq_none (by omega)];rfl
   have h0':b[i]?.getD 0=0:=by rw[List.getElem?_eq_none (by omega)];rfl
   have hn1:=hmax hiM;refine⟨by omega,?_⟩;rw[yca (by omega),yca (by omega)]at hval
   grind
  have mid:(i=max a.length b.length->n=1)->jp 210 17 [u,v,w,.int .i64 ((n+a[i]?.getD 0:Nat):Int),.int .i64 (i:Int)] t' Q:=by
   intro hmax;refine zh8 ?_;unfold BK uI uH wB rA uZ uW;by_cases h2:i<b.length
   ·obtain⟨y,hy⟩:=getElem?_of_lt h2;obtain⟨c,off,g1,g2⟩:=hv'.idx wI hy;have hy':b[i]?.getD 0=y:=by grind
    refine uA l2 (zB (oA (wC.2 (by omega)) (uA g1 (yC g2 (zB (zC ?_))))));rw[wrap_i64 (n:=(y:Int)) (by omega) (by omega),wrap_i64 (by omega) (by omega)]
    simp_all
   grind [uA,zB,bA,wC,zC]
  have low:¬ i<a.length->a[i]?.getD 0=0:=fun h=>by simp_all
  refine ze6 ?_;unfold To uQ19 uI uH wB rA uZ uW;refine uA l1 (zB ?_);by_cases h1:i<a.length
  ·obtain⟨x,hx⟩:=getElem?_of_lt h1;obtain⟨c,off,g1,g2⟩:=hu'.idx wI hx;have hx':a[i]?.getD 0=x:=by grind
   refine oA (wC.2 (by omega)) (uA l1 (zB (oA (wC.2 (by omega)) (uA g1 (yC g2 (zB (zC ?_)))))));rw[wrap_i64 (n:=(x:Int)) (by omega) (by omega),wrap_i64 (by omega) (by omega)];have:=mid (by omega)
   simp_all
  ·refine bA (fun e=>by grind [wC]) (uA l2 (zB ?_));by_cases h2:i<b.length
   ·refine oA (wC.2 (by omega)) (uA l1 (zB (bA (fun e=>by grind [wC]) (zC ?_))));have:=mid (by omega)
    rwa [low h1]at this
   ·refine bA (fun e=>by grind [wC]) ?_;by_cases h3:0<n
    ·refine oA (wC.2 (by omega)) (uA l1 (zB (bA (fun e=>by grind [wC]) (zC ?_))));have:=mid (by omega)
     rwa [low h1]at this
    ·refine bA (fun e=>by grind [wC]) ?_;have hn0:n=0:=by omega
     subst hn0;rw[yca (by omega),yca (by omega),yat,yct]at hval;refine hQ t' w P ht (hw.read ht) hPl hval fun na nb=>FP (by omega) hPl fun hne=>?_;have hi0:0<i:=by
      grind
     rw[hP,hval];rcases yau a.length b.length with e | e
     ·have:=Dr (B:=65536) nb (fun e2=>by simp_all)
      grind
     ·have:=Dr (B:=65536) na (fun e2=>by grind);rw[show i-1=a.length-1 by omega];omega
def Oa(hu:lA t 1 (vB .u16 a) u)(hv:lA t 1 (vB .u16 b) v)(ha:qB 65536 a)(hb:qB 65536 b)(hla:a.length<200000)(hlb:b.length<200000)
  (hQ:∀t' v' r,xB t t'->lA t' 1 (vB .u16 r) v'->qB 65536 r->val 65536 r=val 65536 a+val 65536 b->(norm a->norm b->norm r)->Q v' t'):Wc yA F 210 [u,v] t Q:=by
 refine w210 ?_;unfold t210 uZ;exact zC (TI hu hv ha hb hla hlb hQ (max a.length b.length+1) 0 0 t [] .nilslice (by omega) (xB.refl _) Jy rfl (fun x hx=>by cases hx) (by omega) (by omega) (by simp[val]))
end
end Go.Proofs
namespace Go.Proofs
open Go Go.Am
section
variable [lC]
variable {t tf:Tr qA}
section
variable {a b:List Nat}{u v:zA}{Q:aB}
theorem UU(hu:lA t 1 (vB .u16 a) u)(hv:lA t 1 (vB .u16 b) v)(ha:qB 65536 a)(hb:qB 65536 b)(hla:a.length<200000)(hlb:b.length<=a.length)(hle:val 65536 b<=val 65536 a)
  (hQ:∀t' v' r,xB t t'->lA t' 1 (vB .u16 r) v'->qB 65536 r->val 65536 r+val 65536 b=val 65536 a->norm r->Q v' t') :
  ∀(k i n:Nat) (t':Tr qA) (P:List Nat) (w:zA),i+k=a.length->xB t t'->Ap yA.base t t' 1 (vB .u16 P) w->P.length=i->qB 65536 P->n<=1 →
   val 65536 (a.take i)+65536^i*n=val 65536 (b.take i)+val 65536 P->jp 246 2 [u,v,w,.int .i64 (n:Int),.int .i64 (i:Int)] t' Q:=by
 intro k;induction k with
 | zero=>
  intro i n t' P w hi ht hw hP hPl hn hval;refine zey ?_;unfold Te uI uH wB rA uZ uW;refine uA (by rw[hu.len,nD]) (zB (bA (fun e=>by grind [wC]) (yB ?_)));rw[yca (by omega),yca (by omega)]at hval;obtain⟨v',g1,g2⟩:=Np (by omega) (hw.read ht);rw[q212,g1,xA];have hPv:=lK (B:=65536) (by omega) hPl;rw[hP]at hPv;have hn0:n=0:=by
   grind
  subst hn0;refine hQ t' v' (zE P) ht g2 (iS hPl) ?_ (dQ P)
  grind [nQ]
 | succ k ih=>
  intro i n t' P w hi ht hw hP hPl hn hval;have l1:cA u=some (.int .i64 (a.length:Int)):=by rw[hu.len,nD]
  have l2:cA v=some (.int .i64 (b.length:Int)):=by rw[hv.len,nD]
  obtain⟨x,hx⟩:=getElem?_of_lt (l:=a) (i:=i) (by omega);have hxl:=sI ha hx;obtain⟨c,off,g1,g2⟩:=(hu.mono ht).idx wI hx;have hyl:b[i]?.getD 0<65536:=by
   cases h:b[i]? with
   | none=>simp
   | some x=>exact sI hb h
  have fF:∀m:Nat,m+n+b[i]?.getD 0=65536+x->jp 246 19 [u,v,w,.int .i64 (i:Int),.int .i64 (m:Int)] t' Q:=by
   intro m hm;refine zh5 ?_;unfold BG sB uZ uW;rw[tm65,td65,Ay (by omega) (by omega)];refine Vl hw ht (by omega) fun t2 w2 h1 h2=>zC ?_;rw[wrap_i64 (n:=((m / 65536:Nat):Int)) (by omega) (by omega),show(1:Int)-((m / 65536:Nat):Int)=((1-m / 65536:Nat):Int) by omega,wrap_i64 (by omega) (by omega),wrap_i64 (by omega) (by omega),show(i:Int)+1=((i+1:Nat):Int) by omega];refine ih (i+1) (1-m / 65536) t2 _ w2 (by omega) h2 h1 (by grind) (gS hPl (by omega)) (by omega) ?_
   rw[mK,Sb,Sb,hP,yag,ybj,show a[i]?.getD 0=x by grind];have e:x+65536*(1-m / 65536)=n+b[i]?.getD 0+m%65536:=by omega
   grind
  refine zey ?_;unfold Te uI uH wB rA uZ uW;refine uA l1 (zB (oA (wC.2 (by omega)) (uA g1 (yC g2 (zB (uA l2 (zB ?_)))))));have w1:jA .i64 (jA .i64 (65536+jA .i64 (x:Int))-(n:Int))=((65536+x-n:Nat):Int):=by
   rw[wrap_i64 (n:=(x:Int)) (by omega) (by omega),wrap_i64 (n:=65536+(x:Int)) (by omega) (by omega),wrap_i64 (by omega) (by omega)];omega
  rw[w1];by_cases h2:i<b.length
  ·obtain⟨y,hy⟩:=getElem?_of_lt h2;obtain⟨c',off',g3,g4⟩:=(hv.mono ht).idx wI hy;have hy':b[i]?.getD 0=y:=by grind
   refine oA (wC.2 (by omega)) (uA g3 (yC g4 (zB (zC ?_))));rw[wrap_i64 (n:=(y:Int)) (by omega) (by omega),wrap_i64 (by omega) (by omega),show((65536+x-n:Nat):Int)-(y:Int)=((65536+x-n-y:Nat):Int) by omega]
   grind
  grind [bA,wC,zC]
def zb4(hu:lA t 1 (vB .u16 a) u)(hv:lA t 1 (vB .u16 b) v)(ha:qB 65536 a)(hb:qB 65536 b)(hla:a.length<200000)(nb:norm b)(hle:val 65536 b<=val 65536 a)
  (hQ:∀t' v' r,xB t t'->lA t' 1 (vB .u16 r) v'->qB 65536 r->val 65536 r+val 65536 b=val 65536 a->norm r->Q v' t'):Wc yA F 246 [u,v] t Q:=by
 refine w246 ?_;unfold t246 uZ;exact zC (UU hu hv ha hb hla (eM (by omega) ha nb hle) hle hQ a.length 0 0 t [] .nilslice (by omega) (xB.refl _) Jy rfl (fun x hx=>by cases hx) (by omega) (by simp[val]))
theorem Xr{T el:Nat}(h:lD yA T el 1 false){b n cap j:Nat}(hj:j<n):bC yA T (.slice b 0 n cap) (.int .i64 (j:Int))=some (.ptr b j):=by
 have:=Dv (b:=b) (off:=0) (cap:=cap) h hj
 simp_all
theorem KJ{W J:kI}{t':Tr qA}{b i n x:Nat}{q:List Nat}{K:T}(hbase:yA.base<=b)(hb:t.get b=none)(ht:xB t t')(ho:tF t' b .u16 (List.replicate (i+1) 0++q))(hq:i+1+q.length=n)
  (hK:∀t2,xB t t2->tF t2 b .u16 (List.replicate i 0++(x::q))->iA yA.base W J K t2 Q) :
  iA yA.base W J (.opt (bC yA 27 (.slice b 0 n n) (.int .i64 (i:Int))) fun a=>.heavy (tD yA 240 a (.int .u16 (x:Int))) fun _=>K) t' Q:=by
 have hlen:(List.replicate (i+1) 0++q).length=n:=by grind
 obtain⟨t1,s1,s2,s3⟩:=ho.store (C:=yA) hbase (j:=i) (by omega) x jM rfl;have hs2:(List.replicate (i+1) 0++q).set i x=List.replicate i 0++(x::q):=by
  grind [List.replicate_succ',set_append_right]
 rw[hs2]at s2;exact uA (Xr wI (by omega)) (tG fun p _ _=>⟨_,_,s1 p,hK t1 (ht.off hb s3) s2⟩)
theorem RW{bk:Nat}(hu:lA t 1 (vB .u16 a) u)(ha:qB 65536 a)(hla:a.length<900000)(hbase:yA.base<=bk)(hbk:t.get bk=none)
  (hQ:∀t' v' r,xB t t'->lA t' 1 (vB .u16 r) v'->qB 65536 r->val 65536 r=val 65536 a / 2->norm r->Q v' t') :
  ∀(i:Nat) (t':Tr qA) (q:List Nat) (n:Nat),i+q.length=a.length->xB t t'->tF t' bk .u16 (List.replicate i 0++q)->qB 65536 q->n<131072->val 65536 (a.drop i)=2*val 65536 q+n%2 →
   jp 245 2 [u,.slice bk 0 a.length a.length,.int .i64 (n:Int),.int .i64 ((i:Int)-1)] t' Q:=by
 intro i;induction i with
 | zero=>
  intro t' q n hi ht ho hq hn hval;refine zez ?_;unfold Tf uH wB rA uZ uW;refine bA (fun e=>by grind [iD]) (yB ?_);rw[List.replicate_zero,yah]at ho;have hread:=ho.all (ybk _);rw[show q.length=a.length by omega]at hread;obtain⟨v',h1,h2⟩:=Np (l:=q) (by omega) hread;rw[q212,h1,xA];refine hQ t' v' (zE q) ht h2 (iS hq) ?_ (dQ q)
  grind [nQ]
 | succ i ih=>
  intro t' q n hi ht ho hq hn hval;obtain⟨x,hx⟩:=getElem?_of_lt (l:=a) (i:=i) (by omega);have hxl:=sI ha hx;obtain⟨c,off,g1,g2⟩:=(hu.mono ht).idx wI hx;refine zez ?_;unfold Tf uH wB rA uZ uW;have hm:Int.tmod (n:Int) 2=((n%2:Nat):Int):=by grind
  have w1:jA .i64 (jA .i64 (Int.tmod (n:Int) 2*65536)+jA .i64 (x:Int))=((n%2*65536+x:Nat):Int):=by
   grind [wrap_i64]
  have w2:jA .u16 (jA .i64 (Int.tdiv ((n%2*65536+x:Nat):Int) 2))=(((n%2*65536+x) / 2:Nat):Int):=by
   grind [wrap_i64,Ay]
  rw[show((i+1:Nat):Int)-1=(i:Int) by omega];refine oA (iD.2 (by omega)) (uA g1 (yC g2 (zB ?_)));rw[w1,w2];refine KJ hbase hbk ht ho (by omega) fun t2 h1 h2=>zC ?_;rw[wrap_i64 (by omega) (by omega)];refine ih t2 _ _ (by grind) h1 h2 ?_ (by omega) ?_
  ·intro y hy;rcases ybs.1 hy with rfl | hy
   ·omega
   ·exact hq y hy
  ·rw[drop_cons' hx]
   grind [val]
theorem zbj(hu:lA t 1 (vB .u16 a) u)(ha:qB 65536 a)(hla:a.length<900000)
  (hQ:∀t' v' r,xB t t'->lA t' 1 (vB .u16 r) v'->qB 65536 r->val 65536 r=val 65536 a / 2->norm r->Q v' t'):Wc yA F 245 [u] t Q:=by
 have l1:cA u=some (.int .i64 (a.length:Int)):=by rw[hu.len,nD]
 refine w245 ?_;unfold t245 uI uZ uW;refine uA l1 (zB (tG fun b hb hbase=>?_));obtain⟨t',g1,g2,g3,g4⟩:=sZ (C:=yA) (k:=.u16) gU rfl jM rfl rfl (by decide) (n:=a.length) (by omega) hb;refine⟨_,_,g1,uA l1 (zB (zC ?_))⟩;rw[wrap_i64 (by omega) (by omega)];exact RW hu ha hla hbase hb hQ a.length t' [] 0 (by simp) g3 (by simp_all) (fun x hx=>by cases hx) (by omega) (by simp[val])
def w64n{q:Nat}(h:q<65536):jA .i64 (q:Int)=q:=wrap_i64 (by omega) (by omega)
def w16n{q:Nat}(h:q<65536):jA .u16 (q:Int)=q:=Ay (by omega) (by omega)
theorem RO{bk d:Nat}(hu:lA t 1 (vB .u16 a) u)(ha:qB 65536 a)(hla:a.length<900000)(hd0:0<d)(hd:d<65536)(hbase:yA.base<=bk)(hbk:t.get bk=none)
  (hQ:∀t' v1 v2 q r,xB t t'->lA t' 1 (vB .u16 (zE q)) v1->lA t' 1 (vB .u16 (zE [r])) v2->qB 65536 q->r<d->val 65536 a=val 65536 q*d+r->Q (.tup [v1,v2]) t') :
  ∀(i:Nat) (t':Tr qA) (q:List Nat) (r:Nat),i+q.length=a.length->xB t t'->tF t' bk .u16 (List.replicate i 0++q)->qB 65536 q->r<d->val 65536 (a.drop i)=val 65536 q*d+r →
   jp 230 2 [u,.int .i64 (d:Int),.slice bk 0 a.length a.length,.int .i64 (r:Int),.int .i64 ((i:Int)-1)] t' Q:=by
 intro i;induction i with
 | zero=>
  intro t' q r hi ht ho hq hr hval;refine ze5 ?_;unfold Tn uI uH wB rA iG uZ uW;refine bA (fun e=>by grind [iD]) (yB ?_);rw[List.replicate_zero,yah]at ho;have hread:=ho.all (ybk _);rw[show q.length=a.length by omega]at hread;obtain⟨v1,h1,h2⟩:=Np (l:=q) (by omega) hread;rw[q212,h1,xA,Ay (by omega) (by omega)];refine tG fun b2 hb2 _=>?_;obtain⟨H1,e1,e2,e3⟩:=Cf (k:=.u16) gU rfl jM rfl rfl r trivial hb2
  refine⟨_,_,e1,yB ?_⟩;obtain⟨v2,h3,h4⟩:=Np (l:=[r]) (by simp) (e2.all (cap:=1) (ybk _));have h3:rB yA F 212 [.slice b2 0 1 1] H1.t=some v2:=h3;rw[q212,h3,xA];exact hQ H1.t v1 v2 q r (ht.trans e3) (h2.mono e3) h4 hq hr (by simp_all)
 | succ i ih=>
  intro t' q r hi ht ho hq hr hval;obtain⟨x,hx⟩:=getElem?_of_lt (l:=a) (i:=i) (by omega);have hxl:=sI ha hx;obtain⟨c,off,g1,g2⟩:=(hu.mono ht).idx wI hx;refine ze5 ?_;unfold Tn uI uH wB rA iG uZ uW;have hrd:r*65536<65536*65536:=by omega
  have w1:jA .i64 (jA .i64 ((r:Int)*65536)+jA .i64 (x:Int))=((r*65536+x:Nat):Int):=by
   grind [wrap_i64]
  have hqlt:(r*65536+x) / d<65536:=CH hr hxl;have hrlt:(r*65536+x)%d<d:=ycy _ hd0;rw[show((i+1:Nat):Int)-1=(i:Int) by omega];refine oA (iD.2 (by omega)) (uA g1 (yC g2 (zB ?_)));rw[w1];refine uA (Py hd0 (w64n hqlt)) (zB ?_);rw[w16n hqlt];refine KJ hbase hbk ht ho (by omega) fun t2 h1 h2=>uA (Kq hd0) (zB (zC ?_));rw[wrap_i64 (by omega) (by omega)]
  refine ih t2 _ _ (by grind) h1 h2 ?_ hrlt ?_
  ·intro y hy;rcases ybs.1 hy with rfl | hy
   ·exact hqlt
   ·exact hq y hy
  ·rw[drop_cons' hx]
   grind [val,Nat.div_add_mod]
theorem DC{d:Nat}(hu:lA t 1 (vB .u16 a) u)(ha:qB 65536 a)(hla:a.length<900000)(hd0:0<d)(hd:d<65536)
  (hQ:∀t' v1 v2 q r,xB t t'->lA t' 1 (vB .u16 (zE q)) v1->lA t' 1 (vB .u16 (zE [r])) v2->qB 65536 q->r<d->val 65536 a=val 65536 q*d+r->Q (.tup [v1,v2]) t'):Wc yA F 230 [u,.int .i64 (d:Int)] t Q:=by
 have l1:cA u=some (.int .i64 (a.length:Int)):=by rw[hu.len,nD]
 refine w230 ?_;unfold t230 uI uZ uW;refine uA l1 (zB (tG fun b hb hbase=>?_));obtain⟨t',g1,g2,g3,g4⟩:=sZ (C:=yA) (k:=.u16) gU rfl jM rfl rfl (by decide) (n:=a.length) (by omega) hb;refine⟨_,_,g1,uA l1 (zB (zC ?_))⟩;rw[wrap_i64 (by omega) (by omega)];exact RO hu ha hla hd0 hd hbase hb hQ a.length t' [] 0 (by simp) g3 (by simp_all) (fun x hx=>by cases hx) hd0 (by simp[val])
end
end
section
variable [lC]
variable {t tf:Tr qA}
structure wG (l:List Nat):Prop where
 lt:qB 65536 l
 nm:norm l
def Ot{l:List Nat}(h:qB 65536 l):wG (zE l):=⟨iS h,dQ l⟩
theorem wG.len{l m:List Nat}(hm:norm m)(h:qB 65536 l)(hv:val 65536 m<=val 65536 l):m.length<=l.length:=eM (by omega) h hm hv
theorem zhm{l m:List Nat}(h:wG l)(hm:wG m)(hv:val 65536 m<=2*val 65536 l):m.length<=l.length+1:=by
 have h1:=lK (B:=65536) (by omega) h.lt;have:=eM (B:=65536) (l:=l++[1]) (m:=m) (by omega) (gS h.lt (by omega)) hm.nm (by rw[mK];omega)
 simp_all
def Wm{a b:List Nat}(ha:wG a)(hb:wG b):decide (dH a b<0)=decide (val 65536 a<val 65536 b):=by
 congr 1;exact propext (Yu (by omega) ha.lt hb.lt ha.nm hb.nm)
def EP{n m x:Nat}(h:2^n<=x)(k:x<65536^m):n<16*m:=by
 have e:(65536:Nat)^m=2^(16*m):=by rw[Nat.pow_mul]
 rw[e]at k;exact(Nat.pow_lt_pow_iff_right (by omega)).1 (yam h k)
section
variable {a b:List Nat}{u v:zA}{Q:aB}
theorem zbd(hu:lA t 1 (vB .u16 a) u)(ha:wG a)(hb:wG b)(hla:a.length<100000)(hb0:0<val 65536 b)
  (hQ:∀(t':Tr qA) (n:Nat),xB t t'->val 65536 a<val 65536 b*2^n->(n=0\/val 65536 b*2^(n-1)<=val 65536 a)->jp 231 6 [u,.int .i64 (n:Int),v,.int .i64 0] t' Q) :
  ∀(k n:Nat) (t':Tr qA) (d:List Nat) (w:zA),val 65536 a<val 65536 d+k->xB t t'->lA t' 1 (vB .u16 d) w->wG d->val 65536 d=val 65536 b*2^n->(n=0\/val 65536 b*2^(n-1)<=val 65536 a) →
   jp 231 2 [u,v,.int .i64 (n:Int),w] t' Q:=by
 intro k;induction k with
 | zero=>
  intro n t' d w hk ht hw hd hval hn;refine ze4 ?_;unfold Tk uB sB uZ;refine yB ?_;rw[q244,Ve (by omega) (hu.mono ht) hw,xA,Wm ha hd]
  grind [rC,bA,zC]
 | succ k ih=>
  intro n t' d w hk ht hw hd hval hn;refine ze4 ?_;unfold Tk uB sB uZ;refine yB ?_;rw[q244,Ve (by omega) (hu.mono ht) hw,xA,Wm ha hd];by_cases hlt:val 65536 a<val 65536 d
  ·grind [rC,bA,zC]
  ·refine rC (oA (by simp_all) (yB ?_));have hdl:=wG.len hd.nm ha.lt (by omega);have hd0:0<val 65536 d:=by simp_all [Nat.pow_pos]
   have hn64:n<16*a.length:=by
    refine EP (x:=val 65536 a) ?_ (lK (by omega) ha.lt);have:1*2^n<=val 65536 b*2^n:=ybi _ hb0;omega
   rw[q210];refine Oa hw hw hd.lt hd.lt (by omega) (by omega) fun t2 w2 r h1 h2 h3 h4 h5=>zC ?_;rw[wrap_i64 (by omega) (by omega),show(n:Int)+1=((n+1:Nat):Int) by omega];refine ih (n+1) t2 r w2 (by omega) (ht.trans h1) h2 ⟨h3,h5 hd.nm hd.nm⟩ (by grind) (.inr (by simp_all))
theorem SS{n:Nat}(ha:wG a)(hla:a.length<100000)(hn64:n<2000000)(hn:n=0\/val 65536 b*2^(n-1)<=val 65536 a)
  (hQ:∀t' w d,xB t t'->lA t' 1 (vB .u16 d) w->wG d->val 65536 d=val 65536 b*2^n->wp 231 (.heavy (oG yA 27 0 []) fun a1=>.heavy (sF yA 27 27 a1 u) fun a2=>.jump 10 [.int .i64 (n:Int),w,.nilslice,a2,.int .i64 0]) t' Q) :
  ∀(k i:Nat) (t':Tr qA) (d:List Nat) (w:zA),i+k=n->xB t t'->lA t' 1 (vB .u16 d) w->wG d->val 65536 d=val 65536 b*2^i →
   jp 231 6 [u,.int .i64 (n:Int),w,.int .i64 (i:Int)] t' Q:=by
 intro k;induction k with
 | zero=>
  intro i t' d w hi ht hw hd hval;refine ze3 ?_;unfold Tj sB uZ;grind [bA,wC]
 | succ k ih=>
  intro i t' d w hi ht hw hd hval;refine ze3 ?_;unfold Tj sB uZ;refine oA (wC.2 (by omega)) (yB ?_);have hle:val 65536 d<=val 65536 a:=by
   rcases hn with e | e
   ·omega
   ·have:val 65536 b*2^i<=val 65536 b*2^(n-1):=ybv _ (yao (by omega) (by omega));omega
  have hdl:=wG.len hd.nm ha.lt hle;rw[q210];refine Oa hw hw hd.lt hd.lt (by omega) (by omega) fun t2 w2 r h1 h2 h3 h4 h5=>zC ?_;rw[wrap_i64 (by omega) (by omega),show(i:Int)+1=((i+1:Nat):Int) by omega];exact ih (i+1) t2 r w2 (by omega) (ht.trans h1) h2 ⟨h3,h5 hd.nm hd.nm⟩ (by grind)
theorem SM{n:Nat}(ha:wG a)(hla:a.length<100000)(hn64:n<2000000)(hb0:0<val 65536 b)
  (hQ:∀t' v1 v2 q r,xB t t'->lA t' 1 (vB .u16 q) v1->lA t' 1 (vB .u16 r) v2->wG q->wG r->val 65536 a=val 65536 q*val 65536 b+val 65536 r->val 65536 r<val 65536 b->Q (.tup [v1,v2]) t') :
  ∀(k:Nat) (t':Tr qA) (d q r:List Nat) (wd wq wr:zA),k<=n->xB t t'->lA t' 1 (vB .u16 d) wd->lA t' 1 (vB .u16 q) wq->lA t' 1 (vB .u16 r) wr->wG d->wG q->wG r →
   val 65536 d=val 65536 b*2^k->val 65536 d<=2*val 65536 a\/k=0->val 65536 a=val 65536 q*val 65536 d+val 65536 r->val 65536 r<val 65536 d →
   jp 231 10 [.int .i64 (n:Int),wd,wq,wr,.int .i64 ((n-k:Nat):Int)] t' Q:=by
 intro k;induction k with
 | zero=>
  intro t' d q r wd wq wr hk ht hd hq hr nd nq nr hval _ hqr hlt;refine IQ ?_;unfold Tl uB sB iG uZ;rw[Nat.pow_zero,Nat.mul_one]at hval;rw[hval]at hqr hlt;exact bA (fun e=>by grind [wC]) (hQ t' wq wr q r ht hq hr nq nr hqr hlt)
 | succ k ih=>
  intro t' d q r wd wq wr hk ht hd hq hr nd nq nr hval h2a hqr hlt;refine IQ ?_;unfold Tl uB sB iG uZ;have hd2:val 65536 d=2*(val 65536 b*2^k):=by grind
  have hp:0<val 65536 b*2^k:=Nat.mul_pos hb0 (Nat.pow_pos (by omega));have hdl:d.length<=a.length+1:=zhm ha nd (by omega);have hql:q.length<=a.length:=wG.len nq.nm ha.lt (by
   have:val 65536 q*1<=val 65536 q*val 65536 d:=ybv _ (by omega);omega)
  have hrl:r.length<=a.length:=wG.len nr.nm ha.lt (by
   omega)
  refine oA (wC.2 (by omega)) (yB ?_);rw[q245];refine zbj hd nd.lt (by omega) fun t1 w1 d1 g1 g2 g3 g4 g5=>yB ?_;have hd1:val 65536 d1=val 65536 b*2^k:=by omega
  have n1:wG d1:=⟨g3,g5⟩;rw[q210];refine Oa (hq.mono g1) (hq.mono g1) nq.lt nq.lt (by omega) (by omega) fun t2 w2 q2 f1 f2 f3 f4 f5=>yB ?_;have nq2:wG q2:=⟨f3,f5 nq.nm nq.nm⟩;have hr2:=(hr.mono g1).mono f1;have hd1r:=g2.mono f1;rw[q244,Ve (by omega) hr2 hd1r,xA,Wm nr n1];have hidx:((n-(k+1):Nat):Int)+1=((n-k:Nat):Int):=by omega
  have hq2v:val 65536 q2*val 65536 d1=val 65536 q*val 65536 d:=by
   rw[f4,hd1,hd2,ybo,Nat.mul_left_comm (val 65536 q) 2,Nat.two_mul]
  by_cases hl:val 65536 r<val 65536 d1
  ·refine rC (bA (by simp_all) (zC ?_));rw[wrap_i64 (by omega) (by omega),hidx];exact ih t2 d1 q2 r w1 w2 wr (by omega) (ht.trans (g1.trans f1)) hd1r f2 hr2 n1 nq2 nr hd1 (.inl (by omega)) (by omega) hl
  ·refine rC (oA (by simp_all) (yB ?_));rw[q246];refine zb4 hr2 hd1r nr.lt g3 (by omega) g5 (by omega) fun t3 w3 r3 e1 e2 e3 e4 e5=>tG fun b1 hb1 _=>?_;obtain⟨H1,c1,c2,c3⟩:=Cf (k:=.u16) gU rfl jM rfl rfl 1 trivial hb1;have o1:lA H1.t 1 (vB .u16 [1]) (.slice b1 0 1 1):=c2.all (cap:=1) (ybk _);refine⟨_,_,c1,yB ?_⟩;have hq2l:q2.length<=a.length:=wG.len nq2.nm ha.lt (by
    have:val 65536 q2*1<=val 65536 q2*val 65536 d1:=ybv _ (by omega);omega)
   rw[q210];refine Oa ((f2.mono e1).mono c3) o1 nq2.lt (by intro x hx;simp_all) (by omega) (by simp) fun t4 w4 q4 k1 k2 k3 k4 k5=>zC ?_;rw[wrap_i64 (by omega) (by omega),hidx];have n1':norm [1]:=by intro _;simp
   have v1:val 65536 [1]=1:=rfl;refine ih t4 d1 q4 r3 w1 w4 w3 (by omega) (ht.trans (g1.trans (f1.trans (e1.trans (c3.trans k1))))) (((hd1r.mono e1).mono c3).mono k1) k2 ((e2.mono c3).mono k1) n1 ⟨k3,k5 nq2.nm n1'⟩ ⟨e3,e5⟩ hd1 (.inl (by omega)) ?_ (by omega)
   grind
theorem XW(hu:lA t 1 (vB .u16 a) u)(hv:lA t 1 (vB .u16 b) v)(ha:wG a)(hb:wG b)(hla:a.length<100000)(hlb:b.length<100000)(hne:b≠[])
  (hQ:∀t' v1 v2 q r,xB t t'->lA t' 1 (vB .u16 q) v1->lA t' 1 (vB .u16 r) v2->wG q->wG r->val 65536 a=val 65536 q*val 65536 b+val 65536 r->val 65536 r<val 65536 b->Q (.tup [v1,v2]) t'):Wc yA F 231 [u,v] t Q:=by
 have hb0:0<val 65536 b:=by
  rcases yav (val 65536 b)with e | e
  ·exact absurd (Fh (by omega) hb.nm e) hne
  ·exact e
 refine w231 ?_;unfold t231 uI uH wB rA uX uZ uW;refine uA (by rw[hv.len,nD]) (zB ?_);by_cases h1:b.length=1
 ·obtain⟨x,rfl⟩:=List.length_eq_one_iff.1 h1;have hx:=hb.lt x (by simp);have hx0:0<x:=by grind [val]
  obtain⟨c,off,g1,g2⟩:=hv.idx wI (i:=0) (x:=x) rfl;refine oA (wE.2 (by simp)) (uA g1 (yC g2 (zB (yB ?_))));rw[w64n hx,q230];refine DC hu ha.lt (by omega) hx0 hx fun t' v1 v2 q r k1 k2 k3 k4 k5 k6=>uA rfl (uA rfl ?_);have hr:qB 65536 [r]:=by intro y hy;grind
  have e1:val 65536 [x]=x:=by simp[val]
  have e2:val 65536 [r]=r:=by simp[val]
  refine hQ t' v1 v2 _ _ k1 k2 k3 (Ot k4) (Ot hr) ?_ ?_
  all_goals grind [nQ]
 ·refine bA (fun e=>h1 (by grind [wE])) (zC ?_);refine zbd hu ha hb hla hb0 (fun t1 n h2 h3 h4=>?_) (val 65536 a+1) 0 t b v (by omega) (xB.refl _) hv hb (by simp) (.inl rfl);have hn64:n<2000000:=by
   rcases h4 with e | e
   ·omega
   ·have:n-1<16*a.length:=by
     refine EP (x:=val 65536 a) ?_ (lK (by omega) ha.lt);have:1*2^(n-1)<=val 65536 b*2^(n-1):=ybi _ hb0;omega
    omega
  refine SS (t:=t1) (u:=u) (b:=b) ha hla hn64 h4 (fun t2 w d k1 k2 k3 k4=>?_) n 0 t1 b v (by omega) (xB.refl _) (hv.mono h2) hb (by simp);refine tG fun b1 hb1 _=>?_;have hbs:oG yA 27 0 [] ⟨b1,t2⟩=some (.slice b1 0 0 0,yF ⟨b1,t2⟩ [] none):=by
   unfold oG;rw[gU,pA];simp only[jD.asSlice,pA];rw[jM,pA];rfl
  obtain⟨t3,c1,c2,c3,c4⟩:=vZ hb1 [] none;rw[c1]at hbs;refine⟨_,_,hbs,tG fun b2 hb2 _=>?_⟩;obtain⟨c0,c5,_⟩:=c2;have hu3:lA t3 1 (vB .u16 a) u:=((hu.mono h2).mono k1).mono c3;obtain⟨w2,H2,d1,d2,d3,d4⟩:=NC (s:=.slice b1 0 0 0) rl27 hu3 (by rw[nD];omega) hb2 (.inr ⟨b1,_,_,rfl,c5⟩);refine⟨_,_,d1,zC ?_⟩;have hnil:lA H2.t 1 (vB .u16 []) .nilslice:=⟨[],.inl ⟨rfl,rfl⟩,rI.2 rfl⟩
  have:=SM (t:=t) (b:=b) (Q:=Q) ha hla hn64 hb0 hQ n H2.t d [] a w .nilslice w2 (ybk _) (h2.trans (k1.trans (c3.trans d3))) ((k2.mono c3).mono d3) hnil d2 k3 ⟨(fun x hx=>by cases hx),fun h=>(h rfl).elim⟩ ha k4 ?_ (by simp[val]) (by omega)
  ·rwa [Nat.sub_self]at this
  ·rcases h4 with e | e
   ·omega
   ·left
    rw[k4];have hn1:1<=n\/n=0:=by omega
    rcases hn1 with hn1 | hn1
    ·obtain⟨m,rfl⟩:∃m,n=m+1:=⟨n-1,by omega⟩;rw[Nat.add_sub_cancel]at e;rw[yag,<- ybj];omega
    grind
end
theorem YM{Q:aB}:∀(k:Nat) (t':Tr qA) (a b:List Nat) (u v:zA),val 65536 b<k->xB t t'->lA t' 1 (vB .u16 a) u->lA t' 1 (vB .u16 b) v->wG a->wG b->a.length<100000->b.length<100000 →
  (∀t2 w g,xB t t2->lA t2 1 (vB .u16 g) w->wG g->val 65536 g=Nat.gcd (val 65536 a) (val 65536 b)->Q w t2)->jp 205 2 [u,v] t' Q:=by
 intro k;induction k with
 | zero=>omega
 | succ k ih=>
  intro t' a b u v hk ht hu hv ha hb hla hlb hQ;refine j205_2 ?_;unfold zd3 uI uX;refine uA (by rw[hv.len,nD]) (zB ?_);by_cases h0:b=[]
  ·subst h0;refine bA (fun e=>by grind [wC]) ?_;exact hQ t' u a ht hu ha (by simp[val])
  ·have hl0:0<b.length:=List.length_pos_iff.2 h0;refine oA (wC.2 (by omega)) (yB ?_);rw[q231];refine XW hu hv ha hb hla hlb h0 fun t2 v1 v2 q r k1 k2 k3 k4 k5 k6 k7=>uA rfl (uA rfl (zC ?_));refine ih t2 b r v v2 (by omega) (ht.trans k1) (hv.mono k1) k3 hb k5 hlb (by have:=wG.len k5.nm hb.lt (by omega);omega) fun t3 w g e1 e2 e3 e4=>hQ t3 w g e1 e2 e3 ?_;rw[e4,k6,Nat.gcd_comm,ybh,Nat.gcd_comm (val 65536 b*val 65536 q+val 65536 r),Nat.gcd_mul_left_add_right,Nat.gcd_comm]
def YL{a b:List Nat}{u v:zA}{Q:aB}(hu:lA t 1 (vB .u16 a) u)(hv:lA t 1 (vB .u16 b) v)(ha:wG a)(hb:wG b)(hla:a.length<100000)(hlb:b.length<100000)
  (hQ:∀t2 w g,xB t t2->lA t2 1 (vB .u16 g) w->wG g->val 65536 g=Nat.gcd (val 65536 a) (val 65536 b)->Q w t2):Wc yA F 205 [u,v] t Q:=by
 refine w205 ?_;unfold t205;exact zC (YM _ t a b u v (Nat.lt_succ_self _) (xB.refl _) hu hv ha hb hla hlb hQ)
end
section
variable [lC]
variable {t tf:Tr qA}
theorem Us{neg:Bool}{l:List Nat}{v:zA}(hl:l.length<1125899906842624)(hv:lA t 1 (vB .u16 l) v):rB yA F 200 [.agg [.bool neg,v]] t=some (.bool (pI neg l)):=by
 have l1:cA v=some (.int .i64 (l.length:Int)):=by rw[hv.len,nD]
 refine dB.2 (w200 ?_);unfold t200 pI uI uH rA aA uZ uW;refine uA l1 (zB ?_);by_cases h0:l=[]
 ·subst h0;exact oA (wE.2 rfl) ⟨by rw[yab rfl],rfl⟩
 ·obtain⟨m,x,rfl⟩:=Cg h0;have hx:(m++[x])[m.length]?=some x:=by simp
  obtain⟨b,off,g1,g2⟩:=hv.idx wI hx;have hlm:m.length<1125899906842624:=by grind
  have e1:jA .i64 ((((m++[x]).length:Nat):Int)-1)=(m.length:Int):=by grind [wrap_i64]
  rw[yaa h0];refine bA (fun e=>by grind [wE]) (uA l1 (zB ?_));by_cases h1:(m++[x]).length<=1024
  ·refine oA (iD.2 (by omega)) (uA l1 (zB ?_));rw[e1];refine uA g1 (yC g2 (zB ⟨?_,rfl⟩))
   simp_all [bM]
  ·refine bA (fun e=>by grind [iD]) ⟨?_,rfl⟩
   grind
theorem DI{l:List Nat}{v:zA}(hv:lA t 1 (vB .u16 l) v):rB yA F 168 [v] t=some (.bool (decide (l=[1]))):=by
 refine dB.2 (w168 ?_);unfold t168 uQ48 uI uH wB rA aA;refine uA (by rw[hv.len,nD]) (zB ?_);by_cases h:l.length=1
 ·obtain⟨x,rfl⟩:=List.length_eq_one_iff.1 h;obtain⟨b,off,g1,g2⟩:=hv.idx wI (i:=0) (x:=x) rfl;refine oA (wE.2 (by simp)) (uA g1 (yC g2 (zB ⟨?_,rfl⟩)));rw[bM];congr 1
  grind
 ·refine bA (fun e=>h (by grind [wE])) ⟨?_,rfl⟩;rw[decide_eq_false];grind
theorem Sa{neg:Bool}{l:List Nat}(h:pI neg l=true)(hl:qB 65536 l):wG l/\l.length<=1024:=by
 refine⟨⟨hl,Oy h⟩,?_⟩
 grind [pI]
theorem RI{f:dC}{u v:zA}(hu:lA t 1 (cC f.n.limbs) u)(hv:lA t 1 (cC f.d.limbs) v)(hf:dC.fit f):rB yA F 167 [.agg [.bool f.n.neg,u,.bool f.d.neg,v]] t=some (.bool (oI f)):=by
 obtain⟨h1,h2,h3⟩:=hf;unfold dC.ok pE at h1;have c1:=Us (neg:=f.n.neg) (by omega) hu;have c2:=Us (neg:=f.d.neg) (by omega) hv;have c3:rB yA F 204 [.agg [.bool f.n.neg,u,.bool f.d.neg,v]] t=some (.bool (decide (f.n.limbs.length<=256)&&decide (f.d.limbs.length<=256))):=by
  refine dB.2 (w204 ?_);unfold t204 uI aA;refine uA (by rw[hu.len,iN]) (zB ?_);by_cases g:f.n.limbs.length<=256
  ·refine oA (iD.2 (by omega)) (uA (by rw[hv.len,iN]) (zB ⟨?_,rfl⟩));rw[decide_eq_true g,ycn,kX];congr 1
   grind
  ·refine bA (fun e=>g (by grind [iD])) ⟨?_,rfl⟩
   grind
 refine lL (w167 ?_);unfold t167 uI uB aA;have fF:∀ {b:Bool} (_:oI f=b),wp 167 (.ret (.bool b)) t (fun v' t'=>v'=.bool (oI f)/\∀b y,t.get b=some y->t'.get b=some y):=fun e=>⟨by rw[e],fun _ _ h=>h⟩;refine yB ?_;rw[q200,c1,xA];refine rC ?_
 cases hn:pI f.n.neg f.n.limbs with
 | false=>grind [oA,oI]
 | true=>
 refine bA (by simp) (yB ?_);rw[q200,c2,xA];refine rC ?_
 cases hd:pI f.d.neg f.d.limbs with
 | false=>grind [oA,oI]
 | true=>
 refine bA (by simp) (yB ?_);rw[q204,c3,xA];refine rC ?_
 cases hfit:(decide (f.n.limbs.length<=256)&&decide (f.d.limbs.length<=256))with
 | false=>grind [oA,oI]
 | true=>
 refine bA (by simp) ?_
 cases hg:f.d.neg with
 | true=>grind [oA,oI]
 | false=>
 refine bA (by simp) (uA (by rw[hv.len,iN]) (zB ?_));by_cases h0:f.d.limbs=[]
 ·grind [oA,wE,oI]
 ·have hl0:0<f.d.limbs.length:=List.length_pos_iff.2 h0;refine bA (fun e=>by grind [wE]) (yB ?_);obtain⟨n1,n2⟩:=Sa hn h2;obtain⟨m1,m2⟩:=Sa hd h3;rw[q205];refine YL hu hv n1 m1 (by omega) (by omega) fun t2 w g k1 k2 k3 k4=>yB ?_;rw[q168,DI k2,xA];refine rC ⟨?_,k1⟩;have e1:decide (g=[1])=decide (Nat.gcd (val 65536 f.n.limbs) (val 65536 f.d.limbs)=1):=by
   refine decide_eq_decide.2 ⟨fun e=>?_,fun e=>?_⟩
   ·rw[<- k4,e];rfl
   ·rw[<- k4]at e;have hl:g.length=[1].length:=by
     have a1:=eM (B:=65536) (l:=[1]) (m:=g) (by omega) (by intro x hx;grind) k3.nm (by grind [val]);have a2:=eM (B:=65536) (l:=g) (m:=[1]) (by omega) k3.lt (by intro _;simp) (by grind [val]);omega
    exact Sd (by omega) k3.lt (by intro x hx;grind) hl (by rw[e];rfl)
  rw[e1];unfold oI;rw[hn,hd,hfit,hg,show decide (f.d.limbs≠[])=true from decide_eq_true h0]
  simp_all [sR,val]
theorem AR{a:List Nat}{u:zA}{Q:aB}(hu:lA t 1 (vB .u16 a) u)(ha:qB 65536 a)(hla:a.length<900000)
  (hQ:∀t' v q,xB t t'->lA t' 1 (vB .u16 q) v->wG q->q.length<=a.length->val 65536 q=val 65536 a / 10->Q (.tup [v,.int .i64 ((val 65536 a%10:Nat):Int)]) t'):Wc yA F 201 [u] t Q:=by
 refine w201 ?_;unfold t201 uI uH wB rA uX uZ uW;refine yB ?_;rw[q230,show(10:Int)=((10:Nat):Int) from rfl];refine DC (d:=10) hu ha hla (by omega) (by omega) fun t' v1 v2 q r k1 k2 k3 k4 k5 k6=>uA rfl (uA rfl ?_);have hq:val 65536 (zE q)=val 65536 a / 10:=by rw[nQ];omega
 have hr:val 65536 a%10=r:=by omega
 have hql:(zE q).length<=a.length:=by
  have hv:=eM (B:=65536) (l:=a) (m:=zE q) (by omega) ha (dQ q) (by omega);exact hv
 rw[hr]at hQ;by_cases h0:r=0
 ·subst h0;refine uA (v:=.int .i64 ((0:Nat):Int)) (by rw[k3.len,nD];rfl) (zB (oA (wE.2 rfl) ?_));exact hQ t' v1 (zE q) k1 k2 (Ot k4) hql hq
 ·have hs:zE [r]=[r]:=Bm (by intro _;simp_all);rw[hs]at k3;obtain⟨b,off,g1,g2⟩:=k3.idx wI (i:=0) (x:=r) rfl;refine uA (v:=.int .i64 ((1:Nat):Int)) (by rw[k3.len,nD];rfl) (zB (bA (fun e=>by grind [wE]) (uA g1 (yC g2 (zB ?_)))));rw[wrap_i64 (by omega) (by omega)];exact hQ t' v1 (zE q) k1 k2 (Ot k4) hql hq
theorem Vd{x n:Nat}(hx:x<256)(hn:t.get n=none):∃H1,oG yA 59 1 [(0,.int .u8 (x:Int))] ⟨n,t⟩=some (.slice n 0 1 1,H1)/\kK yA 59 9 ⟨0,H1.t⟩ (.slice n 0 1 1)=some (.str [x])/\xB t H1.t:=by
 obtain⟨H1,c1,c2,c3⟩:=Cf (k:=.u8) xM rfl xI rfl rfl x trivial hn;exact⟨H1,c1,LM xM vL rfl rfl rfl xI rfl (c2.all (cap:=1) (ybk _)) (fun y hy=>by simp_all),c3⟩
theorem Yn{d:Nat}(h:d<10):jA .u8 (jA .i64 (48+(d:Int)))=((48+d:Nat):Int):=by
 grind [wrap_i64,Dk]
def digF (u:Nat)(s:List Nat):List Nat:=if u=0 then(if s=[]then [48]else s)else cE u++s
theorem LD{u:Nat}{s:List Nat}:digF (u / 10) ([48+u%10]++s)=cE u++s:=by
 grind [digF,Le,Gk]
theorem RM{neg:Bool}{u0:zA}{D:List Nat}{t0:Tr qA}{Q:aB}(hQ:∀t',xB t0 t'->Q (.tup [.str ((if neg then [45]else [])++D),.int .i64 0]) t')(hD:D.length<1000000) :
  ∀(k:Nat) (t':Tr qA) (q:List Nat) (v:zA) (s:List Nat),val 65536 q<k->xB t0 t'->lA t' 1 (vB .u16 q) v->wG q->q.length<900000->s≠[]->s.length<=D.length->digF (val 65536 q) s=D →
   jp 162 2 [v,.str s,.bool neg,u0] t' Q:=by
 intro k;induction k with
 | zero=>omega
 | succ k ih=>
  intro t' q v s hk ht hv nq hql hs hsl hd;refine j162_2 ?_;unfold zd6 uI uS uX uZ uY uW;refine uA (by rw[hv.len,nD]) (zB ?_);by_cases h0:q=[]
  ·subst h0;have e:s=D:=by unfold digF at hd;rw[yab (by rfl),yaa hs]at hd;exact hd
   subst e;refine bA (fun e=>by grind [wC]) ?_;have:=hQ t' ht
   cases neg with
   | true=>
    refine oA rfl (uA (nI (by grind)) (sD ?_));exact this
   | false=>exact bA (by simp) this
  ·have hl0:0<q.length:=List.length_pos_iff.2 h0;have hpos:0<val 65536 q:=by
    rcases yav (val 65536 q)with e | e
    ·exact absurd (Fh (by omega) nq.nm e) h0
    ·exact e
   refine oA (wC.2 (by omega)) (yB ?_);rw[q201];refine AR hv nq.lt hql fun t2 v2 q2 k1 k2 k3 k4 k5=>uA rfl (uA rfl (zB (tG fun b hb _=>?_)));have hd10:val 65536 q%10<10:=ycy _ (by omega);obtain⟨H1,c1,c2,c3⟩:=Vd (x:=48+val 65536 q%10) (by omega) hb;rw[Yn hd10];have hstep:=LD (u:=val 65536 q) (s:=s);have hDq:cE (val 65536 q)++s=D:=by grind [digF]
   have hlen:s.length+1<=D.length:=by
    grind [xY]
   refine⟨_,_,c1,yC c2 (sD (uA (nI (by grind)) (sD (zC ?_))))⟩;refine ih H1.t q2 v2 _ (by omega) (ht.trans (k1.trans c3)) (k2.mono c3) k3 (by omega) (by simp) (by grind) ?_;rw[k5,hstep,hDq]
theorem Uv{neg:Bool}{l:List Nat}{v:zA}(hv:lA t 1 (vB .u16 l) v)(hlt:qB 65536 l)(hval:pI neg l=true):rB yA F 162 [.agg [.bool neg,v]] t=some (.tup [.str (uN neg l),.int .i64 0]):=by
 obtain⟨n1,n2⟩:=Sa hval hlt;have hw:=Bb (neg:=neg) hlt n2;refine lL (w162 ?_);unfold t162 uI uB uS uX uZ uY uW;refine yB ?_;rw[q200,Us (by omega) hv,hval,xA];refine rC (bA (by simp) (yB ?_));rw[q201];refine AR hv hlt (by omega) fun t2 v2 q2 k1 k2 k3 k4 k5=>uA rfl (uA rfl (zB (tG fun b hb _=>?_)));have hd10:val 65536 l%10<10:=ycy _ (by omega)
 obtain⟨H1,c1,c2,c3⟩:=Vd (x:=48+val 65536 l%10) (by omega) hb;rw[Yn hd10];have hDl:(cE (val 65536 l)).length<=10000:=by
  grind [uN,aT]
 refine⟨_,_,c1,yC c2 (sD (zC ?_))⟩;have hstep:=LD (u:=val 65536 l) (s:=[]);rw[<- k5,ycd,ycd]at hstep;refine RM (t0:=t) (D:=cE (val 65536 l)) (fun t' h=>⟨?_,h⟩) (by omega) _ H1.t q2 v2 [48+val 65536 l%10] (Nat.lt_succ_self _) (k1.trans c3) (k2.mono c3) k3 (by omega) (by simp) (by grind [xY]) hstep;unfold uN aT;cases neg<;>rfl
theorem zbk{f:dC}{u v:zA}(hu:lA t 1 (cC f.n.limbs) u)(hv:lA t 1 (cC f.d.limbs) v)(hf:dC.fit f):rB yA F 134 [.agg [.bool f.n.neg,u,.bool f.d.neg,v]] t=some (if oI f then .tup [.str (jG f),.int .i64 0]else .tup [.str [],.int .i64 2]):=by
 have c1:=RI hu hv hf;refine dB.2 (w134 ?_);unfold t134 uI uB uS uX uZ;refine yB ?_;rw[q167,c1,xA];refine rC ?_
 cases hval:oI f with
 | false=>exact oA rfl ⟨rfl,rfl⟩
 | true=>
  obtain⟨p1,p2,p3,p4⟩:=Mc hval;have w1:=Bb (neg:=f.n.neg) hf.2.1 p3;have w2:=Bb (neg:=f.d.neg) hf.2.2 p4;have hdn:f.d.neg=false:=by
   grind [oI]
  refine bA (by simp) (yB ?_);rw[q162,Uv hu hf.2.1 p1,xA];refine uA rfl (sD (uA rfl (zB (yB ?_))));rw[q168,DI hv,xA];refine rC ?_;by_cases ho:f.d.limbs=[1]
  ·refine oA (decide_eq_true ho) ⟨?_,rfl⟩
   grind [jG,sR]
  ·refine bA (by simp_all) (yB ?_);rw[q162,Uv hv hf.2.2 p2,xA];refine uA rfl (sD (uA rfl (zB (uA (nI (by grind)) (sD (uA (nI (by grind)) (sD ⟨?_,rfl⟩)))))))
   grind [jG,sR]
end
end Go.Proofs
namespace Go.Am
open Go Go.RowKit
def nC (_:Nat)(_:List zA):Option zA:=none
def aM (c j:Nat->List zA->Option zA):T->Option zA
 | .ret v=>some v
 | .ite b x y=>bif b then aM c j x else aM c j y
 | .opt x K=>ob x fun v=>aM c j (K v)
 | .call f a K=>ob (c f a) fun v=>aM c j (K v)
 | .asI k v K=>ob (jZ k v) fun n=>aM c j (K n)
 | .asB v K=>ob v.asBool fun n=>aM c j (K n)
 | .asS v K=>ob v.asStr fun n=>aM c j (K n)
 | .jump i a=>j i a
 | _=>none
def Jr{α β:Type}{x:Option α}{f:α->Option β}{v:β}(h:ob x f=some v):∃a,x=some a/\f a=some v:=by
 cases x with
 | none=>cases h
 | some a=>simp_all
def Qo{base:Nat}{W J:kI}{t:Tr qA}{Q:aB}{c j:Nat->List zA->Option zA}(hc:∀f a v R,c f a=some v->R v t->W f a t R)(hj:∀f a v R,j f a=some v->R v t->J f a t R):∀(x:T) {v:zA},aM c j x=some v->Q v t->iA base W J x t Q:=by
 intro x;induction x with
 | ret u=>intro v h q;cases h;exact q
 | ite b x y ihx ihy=>
  intro v h q
  cases b with
  | true=>exact oA rfl (ihx h q)
  | false=>exact bA (by simp) (ihy h q)
 | opt x K ih=>
  intro v h q;obtain⟨a,h1,h2⟩:=Jr h
  grind [uA]
 | call f a K ih=>
  intro v h q;obtain⟨u,h1,h2⟩:=Jr h
  grind [yB]
 | asI k u K ih=>
  intro v h q;obtain⟨a,h1,h2⟩:=Jr h;show oF (jZ k u) _
  simp_all
 | asB u K ih=>
  intro v h q;obtain⟨a,h1,h2⟩:=Jr h;show oF u.asBool _;rw[h1];exact ih a h2 q
 | asS u K ih=>
  intro v h q;obtain⟨a,h1,h2⟩:=Jr h;show oF u.asStr _
  simp_all
 | jump i a=>intro v h q;exact hj i a v Q h q
 | _=>intro v h q;cases h
end Go.Am
namespace Go.Proofs
open Go Go.Am
variable [lC]
variable {t tf:Tr qA}
def Kb(y:Nat):Bool:=decide (y%400=0)||(decide (y%4=0) && !decide (y%100=0))
theorem tmd(x k:Nat)(hk:0<k):tA (Int.tmod (x:Int) (k:Int)) 0=decide (x%k=0):=by
 grind [bM]
def zbi(y:Nat):rB yA F 229 [.int .i64 (y:Int)] t=some (.bool (Kb y)):=by
 refine dB.2 (w229 ?_);have h1:=tmd y 400 (by omega);have h2:=tmd y 4 (by omega);have h3:=tmd y 100 (by omega);unfold t229 Kb aA zF;show wp 229 (.ite (tA (Int.tmod (y:Int) ((400:Nat):Int)) 0) _ (.ite (tA (Int.tmod (y:Int) ((4:Nat):Int)) 0) (.ret (.bool (!tA (Int.tmod (y:Int) ((100:Nat):Int)) 0))) _)) t _;rw[h1,h2,h3];cases decide (y%400=0)<;>cases decide (y%4=0)<;>exact⟨rfl,rfl⟩
def fQ (y m:Nat):Nat:=if m=2 then(bif Kb y then 29 else 28)else if m=4\/m=6\/m=9\/m=11 then 30 else 31
theorem rLen_b(y m:Nat):28<=fQ y m/\fQ y m<=31:=by
 grind [fQ]
def Rd(f:Nat)(a:List zA):Option zA:=bif Nat.beq f 229 then(match a with
 | [.int .i64 (.ofNat z)]=>some (.bool (Kb z))
 | _=>none)else none
theorem zdc{f:Nat}{a:List zA}{v:zA}{R:aB}(h:Rd f a=some v)(hR:R v t):Wq yA F rF f a t R:=by
 unfold Rd at h
 cases hf:Nat.beq f 229 with
 | false=>simp_all
 | true=>
  rw[hf,cond_true]at h;have:f=229:=oC.1 hf;subst this;split at h
  ·rename_i z;cases h;have:=zbi (t:=t) z;rw[q229,show(zA.int .i64 (Int.ofNat z))=.int .i64 (z:Int) from rfl,this,xA];exact hR
  ·cases h
theorem zgx{y m:Nat}(h1:1<=m)(h2:m<=12):rB yA F 199 [.int .i64 (y:Int),.int .i64 (m:Int)] t=some (.int .i64 (fQ y m:Nat)):=by
 refine dB.2 (w199 ?_);have key:∀v,aM Rd nC (t199 (y:Int) (m:Int))=some v->v=.int .i64 (fQ y m:Nat)->wp 199 (t199 (y:Int) (m:Int)) t (fun v' t'=>v'=.int .i64 (fQ y m:Nat)/\t'=t):=fun v hv he=>Qo (fun f a u R hc hR=>zdc hc hR) (fun f a u R hc _=>by cases hc) _ hv ⟨he,rfl⟩;have hm:m=1\/m=2\/m=3\/m=4\/m=5\/m=6\/m=7\/m=8\/m=9\/m=10\/m=11\/m=12:=by omega
 rcases hm with e | e | e | e | e | e | e | e | e | e | e | e
 all_goals subst e
 ·exact key (.int .i64 31) (by kernel_rfl) rfl
 ·have e:aM Rd nC (t199 (y:Int) ((2:Nat):Int))=(bif Kb y then some (.int .i64 29)else some (.int .i64 28)):=by kernel_rfl
  grind [fQ]
 ·exact key (.int .i64 31) (by kernel_rfl) rfl
 ·exact key (.int .i64 30) (by kernel_rfl) rfl
 ·exact key (.int .i64 31) (by kernel_rfl) rfl
 ·exact key (.int .i64 30) (by kernel_rfl) rfl
 ·exact key (.int .i64 31) (by kernel_rfl) rfl
 ·exact key (.int .i64 31) (by kernel_rfl) rfl
 ·exact key (.int .i64 30) (by kernel_rfl) rfl
 ·exact key (.int .i64 31) (by kernel_rfl) rfl
 ·exact key (.int .i64 30) (by kernel_rfl) rfl
 ·exact key (.int .i64 31) (by kernel_rfl) rfl
def wN:Nat->Nat->Nat->Nat->Nat × Nat × Nat
 | 0,y,m,l=>(y,m,l+1)
 | k+1,y,m,l=>if fQ y m<=l then(if m=12 then wN k (y+1) 1 (l-fQ y m)else wN k y (m+1) (l-fQ y m))else(y,m,l+1)
theorem Zt:∀(k y m l:Nat),l<k->1<=m->m<=12->y+l<1000000->jp 160 2 [.int .i64 (y:Int),.int .i64 (m:Int),.int .i64 (l:Int)] t (fun v t'=>v=.tup [.int .i64 ((wN k y m l).1:Nat),.int .i64 ((wN k y m l).2.1:Nat),.int .i64 ((wN k y m l).2.2:Nat),.int .i64 0]/\t'=t)/\(wN k y m l).1<=y+l/\(wN k y m l).2.1<=12/\(wN k y m l).2.2<=l+1:=by
 intro k;induction k with
 | zero=>omega
 | succ k ih=>
  intro y m l hk h1 h2 hb;have hl:=rLen_b y m;have e:=zgx (t:=t) (y:=y) h1 h2;unfold wN;by_cases hc:fQ y m<=l
  ·rw[yab hc];by_cases h12:m=12
   ·rw[yab h12];obtain⟨i1,i2,i3,i4⟩:=ih (y+1) 1 (l-fQ y m) (by omega) (by omega) (by omega) (by omega);refine⟨Xh ?_,by omega,by omega,by omega⟩;unfold Mw uI sB uZ uW;refine yB ?_;rw[q199,e,xA];refine zB (oA (iD.2 (by omega)) (yB ?_));rw[q199,e,xA];grind [zB,oA,wC,wrap_i64,zC]
   ·rw[yaa h12];obtain⟨i1,i2,i3,i4⟩:=ih y (m+1) (l-fQ y m) (by omega) (by omega) (by omega) (by omega);refine⟨Xh ?_,by omega,by omega,by omega⟩;unfold Mw uI sB uZ uW;refine yB ?_;rw[q199,e,xA];refine zB (oA (iD.2 (by omega)) (yB ?_));rw[q199,e,xA];grind [zB,bA,wC,wrap_i64,zC]
  ·rw[yaa hc];refine⟨Xh ?_,by simp,by omega,by simp⟩;unfold Mw uI sB uZ uW;refine yB ?_;rw[q199,e,xA];refine zB (bA (fun x=>by grind [iD]) ⟨?_,rfl⟩);rw[wrap_i64 (by omega) (by omega),show(l:Int)+1=((l+1:Nat):Int) by omega]
def vU:Nat->Nat->List Nat->List Nat
 | 0,_,s=>s
 | k+1,n,s=>vU k (n / 10) ([48+n%10]++s)
theorem Yp:∀(k n:Nat) (s:List Nat),(vU k n s).length=k+s.length
 | 0,n,s=>by simp[vU]
 | k+1,n,s=>by unfold vU;rw[Yp k];grind
theorem zc1{t0:Tr qA}{v1:Nat}:∀(k n i:Nat) (s:List Nat) (t:Tr qA),i+k=v1->v1<100->s.length<=i->n<1000000000->xB t0 t->jp 161 2 [.int .i64 (n:Int),.int .i64 (v1:Int),.str s,.int .i64 (i:Int)] t (fun v t'=>v=.str (vU k n s)/\∀b y,t0.get b=some y->t'.get b=some y):=by
 intro k;induction k with
 | zero=>
  intro n i s t hi hv hs hn ht;refine zfc ?_;unfold Tw uS sB uZ uY uW;exact bA (fun e=>by grind [wC]) ⟨rfl,ht⟩
 | succ k ih=>
  intro n i s t hi hv hs hn ht;refine zfc ?_;unfold Tw uS sB uZ uY uW;have hm:Int.tmod (n:Int) 10=((n%10:Nat):Int):=by grind
  have hd:Int.tdiv (n:Int) 10=((n / 10:Nat):Int):=by simp_all
  rw[hm,hd,Yn (ycy _ (by omega))];refine oA (wC.2 (by omega)) (tG fun b hb _=>?_);obtain⟨H1,c1,c2,c3⟩:=Vd (x:=48+n%10) (by omega) hb;refine⟨_,_,c1,yC c2 (sD (uA (nI (by grind)) (sD (zC ?_))))⟩;rw[wrap_i64 (by omega) (by omega),wrap_i64 (by omega) (by omega),show(i:Int)+1=((i+1:Nat):Int) by omega];exact ih (n / 10) (i+1) _ H1.t (by omega) hv (by grind) (by omega) (ht.trans c3)
def Yo{n k:Nat}(hk:k<100)(hn:n<1000000000):rB yA F 161 [.int .i64 (n:Int),.int .i64 (k:Int)] t=some (.str (vU k n [])):=by
 refine lL (w161 ?_);unfold t161 uZ;exact zC (zc1 k n 0 [] t (by omega) hk (by simp) hn (xB.refl _))
theorem ris_ok{n:Int}:rB yA F 99 [.int .i64 n] t=some (.bool (decide (0<=n)&&decide (n<65536))):=by
 refine dB.2 (w99 ?_);unfold t99 aA;by_cases h:0<=n
 ·refine oA (iD.2 h) ⟨?_,rfl⟩;rw[decide_eq_true h,ycn,Fw]
 ·exact bA (fun e=>h (iD.1 e)) ⟨by grind,rfl⟩
def Qw(n:Nat):List Nat:=vU 4 (wN (n+1) 1900 1 n).1 []++[45]++vU 2 (wN (n+1) 1900 1 n).2.1 []++[45]++vU 2 (wN (n+1) 1900 1 n).2.2 []
theorem zbp{n:Int}:rB yA F 127 [.int .i64 n] t=some (.str (if 0<=n/\n<65536 then Qw n.toNat else [])):=by
 refine dB.2 (w127 ?_);unfold t127 uI uS uX uZ;refine yB ?_;have c1:rB yA F 160 [.int .i64 n] t=some (if 0<=n/\n<65536 then .tup [.int .i64 ((wN (n.toNat+1) 1900 1 n.toNat).1:Nat),.int .i64 ((wN (n.toNat+1) 1900 1 n.toNat).2.1:Nat),.int .i64 ((wN (n.toNat+1) 1900 1 n.toNat).2.2:Nat),.int .i64 0]else .tup [.int .i64 0,.int .i64 0,.int .i64 0,.int .i64 2]):=by
  refine dB.2 (w160 ?_);unfold t160 uB uZ;refine yB ?_;rw[q99,ris_ok,xA];refine rC ?_;by_cases h:0<=n/\n<65536
  ·rw[yab h];refine bA (by simp_all) (zC ?_);have:=(Zt (t:=t) (n.toNat+1) 1900 1 n.toNat (by omega) (by omega) (by omega) (by omega)).1
   grind
  ·rw[yaa h];refine oA ?_ ⟨rfl,rfl⟩
   grind
 rw[q160,c1,xA];by_cases h:0<=n/\n<65536
 ·rw[yab h,yab h];obtain⟨_,b1,b2,b3⟩:=Zt (t:=t) (n.toNat+1) 1900 1 n.toNat (by omega) (by omega) (by omega) (by omega);unfold Qw;generalize wN (n.toNat+1) 1900 1 n.toNat=r at *;obtain⟨y,m,d⟩:=r;simp only at b1 b2 b3 ⊢;have l4:∀n:Nat,(vU 4 n []).length=4:=fun n=>by rw[Yp];rfl
  have l2:∀n:Nat,(vU 2 n []).length=2:=fun n=>by rw[Yp];rfl
  refine uA rfl (zB (uA rfl (zB (uA rfl (zB (uA rfl (zB (bA (by grind [wE]) (yB ?_)))))))));rw[q161,show(4:Int)=((4:Nat):Int) from rfl,Yo (by omega) (by omega),xA];refine sD (uA (nI (by grind)) (sD (yB ?_)));rw[q161,show(2:Int)=((2:Nat):Int) from rfl,Yo (by omega) (by omega),xA];refine sD (uA (nI (by simp_all)) (sD (uA (nI (by simp_all)) (sD (yB ?_)))))
  rw[q161,Yo (by omega) (by omega),xA];exact sD (uA (nI (by simp_all)) (sD ⟨rfl,rfl⟩))
 ·rw[yaa h,yaa h];exact uA rfl (zB (uA rfl (zB (uA rfl (zB (uA rfl (zB (oA rfl ⟨rfl,rfl⟩))))))))
end Go.Proofs
namespace Go.Proofs
open Go Go.Am
section
variable [lC]
variable {t tf:Tr qA}
theorem zhb{neg:Bool}{l:List Nat}{v:zA}(hv:lA t 1 (vB .u16 l) v):rB yA F 202 [.bool neg,v] t=some (.agg [.bool (neg&&decide (0<l.length)),v]):=by
 refine dB.2 (w202 ?_);unfold t202 uI gC;have h1:∀b:Bool,eE zA.one [.bool b,v]=true:=fun b=>by rw[mI];simp only[ycg,yck,hv.one];rfl
 cases neg with
 | true=>
  refine oA rfl (uA (by rw[hv.len,nD]) (zB ?_));have e:kB 0 (l.length:Int)=decide (0<l.length):=by grind [Fw]
  rw[e];exact oA (h1 _) (oA (h1 _) ⟨rfl,rfl⟩)
 | false=>exact bA (by simp) (oA (h1 _) (oA (h1 _) ⟨rfl,rfl⟩))
def tm65i(x:Nat):jA .u16 (Int.tmod (x:Int) 65536)=((x%65536:Nat):Int):=by
 rw[tm65,Ay (by omega) (by omega)]
theorem WJ{t0:Tr qA}{n:Int}{w0:Bool}{v0:zA}{Q:aB}(hn1 : -2147483649<n)(hn2:n<2147483649)
  (hQ:∀t' v l,xB t0 t'->lA t' 1 (vB .u16 l) v->wG l->l.length<=4->val 65536 l=n.natAbs->Q (.agg [.bool (decide (n<0)),v]) t') :
  ∀(j u:Nat) (t:Tr qA) (P:List Nat) (w:zA),P.length+j=4->u<65536^j->xB t0 t->Ap yA.base t0 t 1 (vB .u16 P) w->qB 65536 P->(u=0->norm P)->val 65536 P+65536^P.length*u=n.natAbs →
   jp 163 2 [.int .i64 n,.int .u64 (u:Int),w,.bool w0,v0] t Q:=by
 have fF:∀(t:Tr qA) (P:List Nat) (w:zA),P.length<=4->xB t0 t->Ap yA.base t0 t 1 (vB .u16 P) w->qB 65536 P->norm P->val 65536 P=n.natAbs->jp 163 2 [.int .i64 n,.int .u64 0,w,.bool w0,v0] t Q:=by
  intro t P w hP ht hw hPl hnm hval;refine zfb ?_;unfold Tv uG gC uZ xP wP;refine bA (fun e=>by grind [wC]) (yB ?_);have hr:=hw.read ht;have hm:=zhb (t:=t) (neg:=kB n 0) hr;rw[q202];refine Wc_pv hm ?_;have e:(kB n 0&&decide (0<P.length))=decide (n<0):=by
   grind [Fw,List.length_eq_zero_iff,val]
  rw[e];have hrd:RD t (lF.d ⟨decide (n<0),P⟩) [.bool (decide (n<0)),w]:=by
   unfold lF.d;rw[nJ];exact⟨[[.bool (decide (n<0))],[w]],rfl,iH.2 ⟨_,_,rfl,vQ.2 rfl,iH.2 ⟨_,_,rfl,oM.2 ⟨_,rfl,hr⟩,rI.2 rfl⟩⟩⟩
  refine fE (rG hrd (lF.zs _)) (oA hrd.all ?_);exact hQ t w P ht hr ⟨hPl,hnm⟩ hP hval
 intro j;induction j with
 | zero=>
  grind
 | succ j ih=>
  intro u t P w hP hu ht hw hPl hnm hval;by_cases h0:u=0
  ·grind
  ·refine zfb ?_;unfold Tv uG gC uZ xP wP;have hu64:u<18446744073709551616:=by
    have:65536^(j+1)<=65536^4:=yao (by omega) (by omega);omega
   refine oA (wC.2 (by omega)) ?_;rw[tm65i,td65,vG (by omega) (by omega)];refine Vl hw ht (by omega) fun t2 w2 h1 h2=>zC ?_;refine ih (u / 65536) t2 _ w2 (by grind) ?_ h2 h1 (gS hPl (by omega)) (fun e=>?_) ?_
   ·omega
   ·intro hne
    grind
   ·rw[mK,ybg,List.length_singleton,yag,ybj]
    grind [Nat.mod_add_div]
def pow_164:(65536:Nat)^4=18446744073709551616:=by decide
theorem zij{n:Int}{Q:aB}(hn1 : -2147483649<n)(hn2:n<2147483649)
  (hQ:∀t' v l,xB t t'->lA t' 1 (vB .u16 l) v->wG l->l.length<=4->val 65536 l=n.natAbs->Q (.agg [.bool (decide (n<0)),v]) t'):Wc yA F 163 [.int .i64 n] t Q:=by
 refine w163 ?_;unfold t163 uZ;have key:∀m:Int,m=(n.natAbs:Int)->jp 163 9 [.int .i64 n,.int .u64 m,.bool false,.nilslice] t Q:=fun m hm=>by
  refine j163_9 ?_;unfold zd5 uZ;refine zC ?_;rw[hm];exact WJ hn1 hn2 hQ 4 n.natAbs t [] .nilslice rfl (by omega) (xB.refl _) Jy (fun x hx=>by cases hx) (fun _ h=>(h rfl).elim) (by simp[val])
 grind [oA,wC,zC,Ht,bA]
def Fu(n:Int):List Nat:=(if n<0 then [109,105,110,117,115,32]else [])++cE n.natAbs
theorem OB{neg:Bool}{l:List Nat}(h:wG l)(hl:l.length<=1024)(hn:neg=true->l≠[]):pI neg l=true:=by
 unfold pI;split
 ·simp_all
 ·rename_i hne;rw[decide_eq_true hl,ycn];obtain⟨m,x,rfl⟩:=Cg hne;have:=h.nm (by simp)
  simp_all
theorem VT{n:Int}(hn1 : -2147483649<n)(hn2:n<2147483649):rB yA F 128 [.int .i64 n] t=some (.str (Fu n)):=by
 refine lL (w128 ?_);unfold t128 uI uS uG uX uZ wP;refine yB ?_;rw[q163];refine zij hn1 hn2 fun t' v l k1 k2 k3 k4 k5=>?_;have hrd:RD t' (lF.d ⟨decide (n<0),l⟩) [.bool (decide (n<0)),v]:=by
  unfold lF.d;rw[nJ];exact⟨[[.bool (decide (n<0))],[v]],rfl,iH.2 ⟨_,_,rfl,vQ.2 rfl,iH.2 ⟨_,_,rfl,oM.2 ⟨_,rfl,k2⟩,rI.2 rfl⟩⟩⟩
 refine fE (rG hrd (lF.zs _)) (yB ?_);have hv:=OB (neg:=decide (n<0)) k3 (by omega) (fun h e=>by
  grind [val])
 have ht:rB yA F 162 [.agg [.bool (decide (n<0)),v]] t'=_:=Uv k2 k3.lt hv;have hl:=Cu (u:=n.natAbs) (k:=11) (by omega) (by omega);rw[q162];show oF (rB yA F 162 [.agg [.bool (decide (n<0)),v]] t') _;rw[ht,xA];unfold Fu uN aT;rw[k5];refine uA rfl (sD (uA rfl (zB ?_)));by_cases h:n<0
 ·rw[decide_eq_true h,yab rfl,yab h];have hs:=Nc (s:=[45]++cE n.natAbs) (k:=1) (by simp);exact oA (wC.2 h) (uA hs (sD (uA (nI (by grind)) (sD ⟨rfl,k1⟩))))
 ·rw[decide_eq_false h,yaa (by simp),yaa h];exact bA (fun e=>h (wC.1 e)) ⟨rfl,k1⟩
def zT(f:dC):List Nat:=if (oI f&&decide ((if iL (jG f) [45]then(jG f).drop 1 else jG f).length<=200))=true then tK (jG f)else []
theorem JN(f:dC):∃x l,jG f=x::l:=by
 unfold jG uN aT;have:=xY (val 65536 f.n.limbs)
 cases f.n.neg with
 | true=>simp_all
 | false=>
  cases h:cE (val 65536 f.n.limbs)with
  | nil=>simp_all
  | cons x l=>simp_all
theorem Xu{x:Nat}{l:List Nat}:iL (x::l) [45]=decide (x=45):=by
 grind [iL,aI]
theorem QR{f:dC}{u v:zA}(hu:lA t 1 (cC f.n.limbs) u)(hv:lA t 1 (cC f.d.limbs) v)(hf:dC.fit f):rB yA F 100 [.agg [.bool f.n.neg,u,.bool f.d.neg,v]] t=some (.str (zT f)):=by
 have c1:=zbk hu hv hf;refine dB.2 (w100 ?_);unfold t100 uI uU uS uX uZ;refine yB ?_;rw[q134,c1,xA]
 cases hval:oI f with
 | false=>
  refine uA rfl (sD (uA rfl (zB (oA rfl ⟨?_,rfl⟩))));unfold zT;rw[hval,yaa (by simp)]
 | true=>
  have hl:=Qf hf hval;unfold zT;rw[hval,ycn];obtain⟨x,l,hx⟩:=JN f;rw[yab rfl,hx];rw[hx]at hl;refine uA rfl (sD (uA rfl (zB (bA (by grind [wE]) ?_))));have hi:=Ko (s:=x::l) (i:=0) (x:=x) rfl;rw[show((0:Nat):Int)=0 from rfl]at hi;refine uA hi (zB ?_);unfold tK;rw[Xu];simp at hl;have fF:∀(s m:List Nat),s.length<=30000->m.length<=10->jp 100 17 [.str s,.str m] t (fun v' t'=>v'=.str (if (decide (s.length<=200))=true then m++s else [])/\t'=t):=fun s m h1 h2=>by
   refine zia ?_;unfold BN uS;by_cases h:s.length<=200
   ·rw[decide_eq_true h,yab rfl];exact bA (fun e=>by grind [wC,qJ]) (uA (nI (by omega)) (sD ⟨rfl,rfl⟩))
   ·rw[decide_eq_false h,yaa (by simp)];exact oA (wC.2 (by rw[qJ];omega)) ⟨rfl,rfl⟩
  by_cases h45:x=45
  ·simp only[decide_eq_true h45,if_true];have hs:=Nc (s:=x::l) (k:=1) (by simp);refine oA (wE.2 (by omega)) (uA hs (sD (zC ?_)))
   grind
  ·simp only[decide_eq_false h45,ybq,if_false];refine bA (fun e=>h45 (by grind [wE])) (zC ?_);have:=fF (x::l) [] (by grind) (by simp)
   rwa [yah]at this
theorem LA:∀(k u:Nat),(cE u).length<=k->u<10^k
 | 0,u,h=>by grind [xY]
 | k+1,u,h=>by
  by_cases hs:u<10
  ·grind
  ·rw[Gk hs,ybg,List.length_singleton]at h;have:=LA k (u / 10) (by omega);omega
def pow_42:10^200<=65536^42:=Nat.le_of_ble_eq_true (by kernel_rfl)
theorem WX{l:List Nat}(h:norm l)(hd:(cE (val 65536 l)).length<=200):l.length<=42:=by
 by_cases h0:l=[]
 ·grind
 ·have h1:=LA 200 _ hd;have h2:=Dr (B:=65536) h h0;have h3:=pow_42;rcases yau 42 l.length with e | e
  ·have:65536^42<=65536^(l.length-1):=yao (by omega) (by omega);omega
  ·exact e
theorem SY{f:dC}(hf:f.fit):yV f=(oI f&&decide ((if iL (jG f) [45]then(jG f).drop 1 else jG f).length<=200)):=by
 unfold yV
 cases hval:oI f with
 | false=>simp
 | true=>
  obtain⟨p1,p2,p3,p4⟩:=Mc hval;rw[Bool.and_true,ycn];by_cases h:(if iL (jG f) [45]then(jG f).drop 1 else jG f).length<=200
  ·have hn:(cE (val 65536 f.n.limbs)).length<=200/\(sR f.d=true\/(cE (val 65536 f.d.limbs)).length<=200):=by
    have hr:(if iL (jG f) [45]then(jG f).drop 1 else jG f)=cE (val 65536 f.n.limbs)++(if sR f.d then []else 47::uN f.d.neg f.d.limbs):=by
     have hfr:jG f=(if f.n.neg then [45]else [])++(cE (val 65536 f.n.limbs)++(if sR f.d then []else 47::uN f.d.neg f.d.limbs)):=by
      unfold jG;rw[show uN f.n.neg f.n.limbs=(if f.n.neg then [45]else [])++cE (val 65536 f.n.limbs) from rfl,ybz]
     rw[hfr]
     cases f.n.neg with
     | true=>
      grind [Xu]
     | false=>
      show(if iL (cE _++_) [45]=true then _ else cE _++_)=_
      cases hd:cE (val 65536 f.n.limbs)with
      | nil=>grind [xY]
      | cons x l=>
       have hx:=Lf (val 65536 f.n.limbs) x (by grind);rw[List.cons_append,Xu,decide_eq_false (by omega),yaa (by simp)]
    grind [uN,aT]
   grind [WX,Oy,sR]
  grind
theorem QS{f:dC}(hf:f.fit):fC (zT f) [] = !yV f:=by
 unfold zT;rw[<- SY hf]
 cases h:yV f with
 | false=>rw[yaa (by simp)];rfl
 | true=>
  rw[yab rfl]
  cases hq:fC (tK (jG f)) []with
  | false=>rfl
  | true=>
   exfalso;have:=(aI _ _).1 hq;unfold tK at this;obtain⟨x,l,hx⟩:=JN f
   grind
end
section
variable [lC]
variable {t tf:Tr qA}
def DJ{n:Nat}:rB yA F 124 [.int .u8 (n:Int)] t=some (.bool (pM n)):=by
 refine dB.2 (w124 ?_);unfold t124 pM aA zF;have e1:decide (97<=(n:Int))=decide (97<=n):=decide_eq_decide.2 (by omega);have e2:decide ((n:Int)<=122)=decide (n<=122):=decide_eq_decide.2 (by omega);have e3:decide (65<=(n:Int))=decide (65<=n):=decide_eq_decide.2 (by omega);have e4:decide ((n:Int)<=90)=decide (n<=90):=decide_eq_decide.2 (by omega);rw[kX,kX,kX,kX,e1,e2,e3,e4];cases decide (97<=n)<;>cases decide (n<=122)<;>cases decide (65<=n)<;>cases decide (n<=90)<;>exact⟨rfl,rfl⟩
def SN{n:Nat}:rB yA F 170 [.int .u8 (n:Int)] t=some (.bool (Ft n)):=by
 refine dB.2 (w170 ?_);unfold t170 Ft aA;have e1:decide (48<=(n:Int))=decide (48<=n):=decide_eq_decide.2 (by omega);have e2:decide ((n:Int)<=57)=decide (n<=57):=decide_eq_decide.2 (by omega);rw[kX,kX,e1,e2];cases decide (48<=n)<;>cases decide (n<=57)<;>exact⟨rfl,rfl⟩
theorem DF{n:Nat}:rB yA F 158 [.int .u8 (n:Int)] t=some (.bool (lN n)):=by
 refine dB.2 (w158 ?_);unfold t158 lN uB zF uY;refine yB ?_;rw[q124,DJ,xA];refine rC ?_
 cases pM n with
 | true=>exact oA rfl ⟨rfl,rfl⟩
 | false=>
  refine bA (by simp) (yB ?_);rw[q170,SN,xA];refine rC ?_
  cases Ft n with
  | true=>exact oA rfl ⟨rfl,rfl⟩
  | false=>
   refine bA (by simp) ⟨?_,rfl⟩;rw[bM];congr 1
   grind
theorem zd9{s:List Nat}{i:Nat}:rB yA F 138 [.str s,.int .i64 (i:Int)] t=some (.int .u8 (s[i]?.getD 0:Nat)):=by
 refine dB.2 (w138 ?_);unfold t138 uU uZ uY;by_cases h:i<s.length
 ·obtain⟨x,hx⟩:=getElem?_of_lt h;rw[hx];exact oA (wC.2 (by rw[qJ];omega)) (uA (Ko hx) (zB ⟨rfl,rfl⟩))
 ·rw[List.getElem?_eq_none (by omega)];exact bA (fun e=>h (by grind [wC,qJ])) ⟨rfl,rfl⟩
theorem RG{s:List Nat}(hs:s.length<1000000):∀(k i:Nat),i+k=s.length->jp 125 2 [.str s,.int .i64 (i:Int)] t (fun v t'=>v=.int .i64 ((i+((s.drop i).takeWhile lN).length:Nat):Int)/\t'=t):=by
 intro k;induction k with
 | zero=>
  intro i hi;refine zff ?_;unfold Ua uU uB sB uZ uY;refine yB ?_;rw[q138,zd9,xA,List.getElem?_eq_none (by omega)];refine zB (yB ?_);rw[q158,DF,xA];refine rC (bA (by decide) ⟨?_,rfl⟩)
  simp_all
 | succ k ih=>
  intro i hi;obtain⟨x,hx⟩:=getElem?_of_lt (l:=s) (i:=i) (by omega);refine zff ?_;unfold Ua uU uB sB uZ uY;refine yB ?_;rw[q138,zd9,xA,hx];refine zB (yB ?_);rw[q158,show(Option.getD (some x) 0)=x from rfl,DF,xA];have hd:s.drop i=x::s.drop (i+1):=Go.Am.drop_cons' hx;rw[hd,List.takeWhile_cons];refine rC ?_
  cases hw:lN x with
  | true=>
   refine oA rfl (zC ?_);rw[wrap_i64 (by omega) (by omega),show(i:Int)+1=((i+1:Nat):Int) by omega];refine Jq.mono (ih (i+1) (by omega)) fun v t' h=>⟨?_,h.2⟩;rw[h.1,yab rfl,ybn];grind
  | false=>
   refine bA (by simp) ⟨?_,rfl⟩
   simp_all
def zbc{s:List Nat}(hs:s.length<1000000):rB yA F 125 [.str s,.int .i64 0] t=some (.int .i64 (((sM lN s).length:Nat):Int)):=by
 refine dB.2 (w125 ?_);unfold t125 uZ;refine zC ?_;have:=RG (t:=t) hs s.length 0 (by omega);rw[ycr,ybw]at this;exact this
def Bs:List (List Nat):=[[112,108,97,110],[102,97,99,116],[100,101,102],[116,97,98,108,101],[114,111,119],[99,108,97,117,115,101],[111,110,101],[116,119,111],[102,114,111,109],[116,111],[101,110,100],[107,110,111,119,110],[111,102,102],[119,104,101,110],[116,104,101,110],[105,115],[116,114,117,116,104],[110,117,109,98,101,114],[109,111,110,101,121],[100,97,116,101],[100,97,121,115],[109,111,110,116,104,115],[116,114,117,101],[102,97,108,115,101],[109,105,110,117,115],[116,111,100,97,121],[97,116],[104,97,115],[108,111,111,107],[109,105,110],[109,97,120],[105,102],[114,111,117,110,100],[98,101,116,119,101,101,110],[115,101,114,118,105,99,101],[98,101,115,116],[103,114,111,119],[115,116,97,114,116],[97,110,100],[111,114],[110,111,116],[100,111,119,110],[117,112],[102,108,111,111,114],[99,101,105,108],[104,97,108,102],[101,118,101,110]]
def Io(l:List (List Nat)):List D:=l.map D.str
theorem zao{Q:aB}(hQ:∀t' v,xB t t'->lA t' 1 (Io Bs) v->Q v t'):Wc yA F 159 [] t Q:=by
 refine w159 ?_;unfold t159;refine tG fun b hb _=>?_;obtain⟨t',h1,h2,h3,h4⟩:=Pb (C:=yA) (T:=46) (el:=9) (sz:=1) (n:=47) (ps:=(List.range 47).zip (Bs.map zA.str)) (cl:=Bs.map fun s=>[zA.str s]) ty46 rfl vL rfl rfl (by decide) (by kernel_rfl) (fun i cs hi=>by
  grind) (by kernel_rfl) hb
 refine⟨_,_,h1,?_⟩;refine hQ t' _ h3 ⟨_,h2,?_⟩;have:∀l:List (List Nat),jC t' (Io l) (l.map fun s=>[zA.str s]):=by
  intro l;induction l with
  | nil=>exact rI.2 rfl
  | cons s l ih=>exact iH.2 ⟨_,_,rfl,jR.2 rfl,ih⟩
 simp_all
theorem zbl{s:List Nat}{W:List (List Nat)}{v:zA}{t0:Tr qA}(ht:xB t0 t)(hv:lA t 1 (Io W) v)(hW:W.length<1000):∀(k i:Nat),i+k=W.length->jp 126 2 [.str s,v,.int .i64 (i:Int)] t (fun r t'=>r=.bool ((W.drop i).any fun w=>fC w s)/\∀b y,t0.get b=some y->t'.get b=some y):=by
 have hl:cA v=some (.int .i64 (W.length:Int)):=by rw[hv.len];simp[Io]
 intro k;induction k with
 | zero=>
  intro i hi;refine zfe ?_;unfold Tz uI uS wB rA sB aA zF;refine uA hl (zB (bA (jF (by omega)) ⟨?_,ht⟩))
  simp_all
 | succ k ih=>
  intro i hi;have hlt:i<W.length:=by omega
  have hx:W[i]?=some W[i]:=ybd hlt;obtain⟨b,off,cs,g1,g2,g3,g4,g5⟩:=lD.at sl46 (by simp) hv (i:=i) (d:=.str W[i]) (by simp[Io,hx]);have hcs:cs=[.str W[i]]:=jR.1 g5;subst hcs;refine zfe ?_;unfold Tz uI uS wB rA sB aA zF;refine uA hl (zB (oA (pF (by omega)) (uA g1 (yC g2 (sD ?_)))));rw[ybl hlt,List.any_cons]
  cases he:fC W[i] s with
  | true=>exact oA rfl ⟨rfl,ht⟩
  | false=>
   refine bA (by simp) (zC ?_);rw[wrap_i64 (by omega) (by omega),show(i:Int)+1=((i+1:Nat):Int) by omega,Bool.false_or];exact ih (i+1) (by omega)
def EN:∀ {p l:List Nat},bT p l=true->l.take p.length=p
 | [],l,_=>rfl
 | x::p,[],h=>by cases h
 | x::p,y::l,h=>by
  have h:(Nat.beq x y&&bT p l)=true:=by
   revert h;show(bif Nat.beq x y then bT p l else false)=true->_;cases Nat.beq x y<;>exact id
  rw[ybb]at h;have e:x=y:=oC.1 h.1;rw[ybn,List.take_succ_cons,EN h.2,e]
theorem LP:∀ {l p:List Nat},p≠[]->wY p l=true->∃i,i<l.length/\bT p (l.drop i)=true
 | [],p,hp,h=>by
  cases p with
  | nil=>simp_all
  | cons=>cases h
 | y::l,p,hp,h=>by
  unfold wY at h
  cases hq:bT p (y::l)with
  | true=>exact⟨0,by simp,hq⟩
  | false=>
   rw[hq,cond_false]at h;obtain⟨i,h1,h2⟩:=LP hp h;exact⟨i+1,by simp_all,h2⟩
def Yx(n:Nat):Bool:=(List.range (aR n).length).all fun i => !(((aR n).drop (i+1)).take n).all pM || !decide (((((aR n).drop (i+1)).take n)).length=n) || !decide ((aR n)[i]?=some 32) || !decide ((aR n)[i+n+1]?=some 32)||Bs.any fun w=>fC w (((aR n).drop (i+1)).take n)
def zi5:([2,3,4,5,6,7].all Yx)=true:=by kernel_rfl
def zjc:(Bs.all fW)=true:=by kernel_rfl
theorem res_eq{s:List Nat}:(Bs.any fun w=>fC w s)=fW s:=by
 cases h:fW s with
 | false=>
  cases hq:Bs.any fun w=>fC w s with
  | false=>rfl
  | true=>
   obtain⟨w,h1,h2⟩:=List.any_eq_true.1 hq;have:=ycb.1 zjc w h1
   grind [aI]
 | true=>
  unfold fW at h;simp only[ybb,decide_eq_true_eq]at h;obtain⟨⟨⟨h1,h2⟩,h3⟩,h4⟩:=h;have h3:=(aI _ _).1 h3;obtain⟨i,hi,hp⟩:=LP (by simp) h4;have hn:s.length=2\/s.length=3\/s.length=4\/s.length=5\/s.length=6\/s.length=7:=by omega
  have hc:Yx s.length=true:=ycb.1 zi5 s.length (by rcases hn with e | e | e | e | e | e<;>rw[e]<;>simp);generalize hW:aR s.length=T at *;have hpt:=EN hp;have e32:([32]++s++[32]:List Nat).length=s.length+2:=by simp
  rw[e32]at hpt;have g1:T[i]?=some 32:=by
   have:=congrArg (fun l=>l[0]?) hpt
   grind
  have g2:(T.drop (i+1)).take s.length=s:=by
   have:=congrArg (fun l=>(l.drop 1).take s.length) hpt
   grind [List.drop_take,List.drop_drop]
  have g3:T[i+s.length+1]?=some 32:=by
   have:=congrArg (fun l=>l[s.length+1]?) hpt
   grind
  unfold Yx at hc;rw[hW]at hc;have:=ycb.1 hc i (List.mem_range.2 hi);rw[g2,g1,g3]at this;have hl:s.all pM=true:=by
   rw[ycb];intro x hx;have h5:∀(l:List Nat),x∈l.takeWhile pM->pM x=true:=by
    intro l;induction l with
    | nil=>simp_all
    | cons z l ih=>
     intro h;rw[List.takeWhile_cons]at h;split at h
     all_goals grind
   grind [sM]
  simp_all
theorem RP{s:List Nat}:rB yA F 126 [.str s] t=some (.bool (fW s)):=by
 refine lL (w126 ?_);unfold t126 uZ;refine yB ?_;rw[q159];refine zao fun t' v h1 h2=>zC ?_;have:=zbl (s:=s) (t0:=t) h1 h2 (by decide) 47 0 rfl
 grind [res_eq]
theorem zbh{s:List Nat}:rB yA F 83 [.str s] t=some (.bool (rT s)):=by
 refine dB.2 (w83 ?_);unfold t83 uI uU uB aA uZ uY
 cases s with
 | nil=>exact bA (fun e=>by grind [iD,qJ]) ⟨rfl,rfl⟩
 | cons x r=>
  have hN:rT (x::r)=(decide ((x::r).length<=24)&&pM x&&fC (sM lN (x::r)) (x::r) && !fW (x::r)):=rfl;rw[hN];refine oA (iD.2 (by grind [qJ])) ?_;by_cases h1:(x::r).length<=24
  ·rw[decide_eq_true h1,ycn];have hx:=Ko (s:=x::r) (i:=0) (x:=x) rfl;rw[show((0:Nat):Int)=0 from rfl]at hx;refine oA (iD.2 (by rw[qJ];omega)) (uA hx (zB (yB ?_)));rw[q124,DJ,xA];refine rC ?_
   cases h2:pM x with
   | false=>exact bA (by simp) ⟨rfl,rfl⟩
   | true=>
    refine oA rfl (yB ?_);rw[q125,zbc (by omega),xA];refine zB ?_;have e3:fC (sM lN (x::r)) (x::r)=decide ((sM lN (x::r)).length=(x::r).length):=by
     cases hq:fC (sM lN (x::r)) (x::r)with
     | true=>grind [aI]
     | false=>
      refine(decide_eq_false fun e=>?_).symm;have:sM lN (x::r)=x::r:=by
       unfold sM at e ⊢;exact(List.takeWhile_prefix _).eq_of_length e
      grind [aI]
    rw[e3];by_cases h3:(sM lN (x::r)).length=(x::r).length
    ·rw[decide_eq_true h3];refine oA (bF (by rw[qJ];omega)) (yB ?_);rw[q126,RP,xA];exact rC ⟨rfl,rfl⟩
    ·rw[decide_eq_false h3];exact bA (uF (by rw[qJ];omega)) ⟨rfl,rfl⟩
  ·rw[decide_eq_false h1];exact bA (fun e=>h1 (by grind [iD,qJ])) ⟨rfl,rfl⟩
end
section
variable [lC]
variable {t tf:Tr qA}
def Qn{f:Nat}{x:T}{v:zA}(h:aM nC nC x=some v):wp f x t (fun u t'=>u=v/\t'=t):=Qo (fun f a u R hc _=>by cases hc) (fun f a u R hc _=>by cases hc) x h ⟨rfl,rfl⟩
def Lj(op:Nat):Nat:=bif Nat.blt op 27 && !Nat.beq (iC op).style 0 then(iC op).least else 1
def Lk(op:Nat):Nat:=bif Nat.blt op 27 && !Nat.beq (iC op).style 0 then(iC op).most else 0
def zdg:((List.range 256).map fun(op:Nat)=>aM nC nC (zY yA (fo 81) (ko 81) 81 (ao 81) [.int .u8 (op:Int)]))=(List.range 256).map fun op=>some (.tup [.int .i64 (Lj op:Nat),.int .i64 (Lk op:Nat)]):=by kernel_rfl
def zja{op:Nat}(h:op<256):rB yA F 81 [.int .u8 (op:Int)] t=some (.tup [.int .i64 (Lj op:Nat),.int .i64 (Lk op:Nat)]):=
 dB.2 (Aj (fA 81) (by kernel_rfl) (Qn (List.map_inj_left.1 zdg op (List.mem_range.2 h))))
def UO:((List.range 27).map fun op=>aM nC nC (t82 (op:Nat)))=(List.range 27).map fun op=>some (.bool (iC op).named):=by kernel_rfl
def RU{op:Nat}(h:op<27):rB yA F 82 [.int .u8 (op:Int)] t=some (.bool (iC op).named):=
 dB.2 (w82 (Qn (List.map_inj_left.1 UO op (List.mem_range.2 h))))
theorem CW{f:dC}{u v:zA}(hu:lA t 1 (cC f.n.limbs) u)(hv:lA t 1 (cC f.d.limbs) v):rB yA F 85 [.agg [.bool f.n.neg,u,.bool f.d.neg,v]] t=some (.bool (aO f)):=by
 refine dB.2 (w85 ?_);unfold t85 aO uI aA
 cases f.n.neg with
 | true=>exact bA (by simp) ⟨rfl,rfl⟩
 | false=>
  refine oA rfl (uA (by rw[hu.len,iN]) (zB ?_));by_cases h1:f.n.limbs.length=0
  ·refine oA (wE.2 (by omega)) ?_
   cases f.d.neg with
   | true=>exact bA (by simp) ⟨by simp,rfl⟩
   | false=>
    refine oA rfl (uA (by rw[hv.len,iN]) (zB ⟨?_,rfl⟩))
    simp_all [bM]
  ·refine bA (fun e=>h1 (by grind [wE])) ⟨?_,rfl⟩
   simp_all
theorem RH{a:lE}{u v:zA}(hu:lA t 1 (cC a.f.n.limbs) u)(hv:lA t 1 (cC a.f.d.limbs) v)(hf:dC.fit a.f):∃s,rB yA F 84 [.agg [.int .u8 (a.kind:Int),.bool a.f.n.neg,u,.bool a.f.d.neg,v,.int .i64 a.i]] t=some (.str s)/\fC s [] = !eH a:=by
 have nil:fC [] []=true:=rfl;have mk:∀s b,wp 84 (t84 (a.kind:Int) a.i u v a.f.n.neg a.f.d.neg) t (fun v' t'=>v'=.str s/\t'=t)->fC s [] = !b->eH a=b->∃s,rB yA F 84 [.agg [.int .u8 (a.kind:Int),.bool a.f.n.neg,u,.bool a.f.d.neg,v,.int .i64 a.i]] t=some (.str s)/\fC s [] = !eH a:=fun s b h1 h2 h3=>⟨s,dB.2 (w84 h1),by simp_all⟩;have c100:=QR hu hv hf;have hsn:=QS hf
 have hsl:(zT a.f).length<=300:=by
  unfold zT;grind [tK]
 have ky:∀j:Nat,a.kind=j->tA (a.kind:Int) (j:Int)=true:=fun j h=>bF (by omega);have kn:∀j:Nat,a.kind≠j->tA (a.kind:Int) (j:Int)≠true:=fun j h=>uF (by omega);by_cases k2:a.kind=2
 ·have hp:eH a=(decide (a.i=0)&&yV a.f):=by unfold eH;rw[yab (.inl k2)]
  cases hs:fC (zT a.f) []with
  | true=>
   refine mk [] false (oA (ky 2 k2) (yB ?_)) rfl ?_
   ·rw[Ez,c100,xA];exact sD (oA hs ⟨rfl,rfl⟩)
   simp_all
  | false=>
   by_cases h0:a.i=0
   ·refine mk (zT a.f) true (oA (ky 2 k2) (yB ?_)) hs ?_
    ·rw[Ez,c100,xA];exact sD (bA (by grind) (bA (by grind [bF]) (bA (kn 3 (by omega)) ⟨rfl,rfl⟩)))
    simp_all
   ·refine mk [] false (oA (ky 2 k2) (yB ?_)) rfl ?_
    ·rw[Ez,c100,xA];exact sD (bA (by grind) (oA (by grind [uF]) ⟨rfl,rfl⟩))
    simp_all
 by_cases k3:a.kind=3
 ·have hp:eH a=(decide (a.i=0)&&yV a.f):=by unfold eH;rw[yab (.inr k3)]
  cases hs:fC (zT a.f) []with
  | true=>
   refine mk [] false (bA (kn 2 k2) (oA (ky 3 k3) (yB ?_))) rfl ?_
   ·rw[Ez,c100,xA];exact sD (oA hs ⟨rfl,rfl⟩)
   simp_all
  | false=>
   by_cases h0:a.i=0
   ·refine mk ([109,111,110,101,121,32]++zT a.f) true (bA (kn 2 k2) (oA (ky 3 k3) (yB ?_))) rfl ?_
    ·rw[Ez,c100,xA];exact sD (bA (by grind) (bA (by grind [bF]) (oA (ky 3 k3) (uA (nI (by grind)) (sD ⟨rfl,rfl⟩)))))
    simp_all
   ·refine mk [] false (bA (kn 2 k2) (oA (ky 3 k3) (yB ?_))) rfl ?_
    ·rw[Ez,c100,xA];exact sD (bA (by grind) (oA (by grind [uF]) ⟨rfl,rfl⟩))
    simp_all
 have hz:=CW hu hv;have hp0:eH a=(aO a.f&&eH { a with f:=⟨⟨false,[]⟩,⟨false,[]⟩⟩ }):=by
  grind [aO,eH]
 have hd:∀(x:T),wp 84 x t (fun v' t'=>v'=zA.str []/\t'=t)->aO a.f=false->True:=fun _ _ _=>trivial
 cases hzz:aO a.f with
 | false=>
  refine mk [] false (bA (kn 2 k2) (bA (kn 3 k3) (yB ?_))) rfl (by simp_all);rw[q85,hz,hzz,xA];exact rC (oA rfl ⟨rfl,rfl⟩)
 | true=>
  have go:∀s b,wp 84 (.ite (tA (a.kind:Int) 1) (.ite (tA a.i 0) (.ret (.str [102,97,108,115,101])) (.ite (tA a.i 1) (.ret (.str [116,114,117,101])) (.ret (.str []))))
 (.ite (tA (a.kind:Int) 4)
 (.call 127 [(.int .i64 a.i)] fun a10=>
 .asS a10 fun s11=>.ret (.str s11))
 (.ite (tA (a.kind:Int) 5)
 (.ite (xC (-1048576) a.i)
 (.ite (xC a.i 1048576)
 (.call 128 [(.int .i64 a.i)] fun a12=>
 .asS a12 fun s13=>.opt (zH s13 [32,100,97,121,115]) fun a14=>.asS a14 fun s15=>.ret (.str s15))
 (.ret (.str [])))
 (.ret (.str [])))
 (.ite (tA (a.kind:Int) 6)
 (.ite (xC (-1048576) a.i)
 (.ite (xC a.i 1048576)
 (.call 128 [(.int .i64 a.i)] fun a16=>
 .asS a16 fun s17=>.opt (zH s17 [32,109,111,110,116,104,115]) fun a18=>.asS a18 fun s19=>.ret (.str s19))
 (.ret (.str [])))
 (.ret (.str [])))
 (.ret (.str [])))))) t (fun v' t'=>v'=.str s/\t'=t)->fC s [] = !b->eH a=b->∃s,rB yA F 84 [.agg [.int .u8 (a.kind:Int),.bool a.f.n.neg,u,.bool a.f.d.neg,v,.int .i64 a.i]] t=some (.str s)/\fC s [] = !eH a:=fun s b h1 h2 h3=>by
   refine mk s b (bA (kn 2 k2) (bA (kn 3 k3) (yB ?_))) h2 h3;rw[q85,hz,hzz,xA];exact rC (bA (by simp) h1)
  have np:∀ {s:List Nat},s≠[]->fC s []=false:=fun {s} h=>by
   grind [aI]
  have hpv:eH a=(if a.kind=1 then(decide (a.i=0)||decide (a.i=1))else if a.kind=4 then(decide (0<=a.i)&&decide (a.i<65536))else if a.kind=5\/a.kind=6 then(decide (-1048576<=a.i)&&decide (a.i<=1048576))else false):=by
   grind [eH]
  by_cases k1:a.kind=1
  ·rw[yab k1]at hpv;by_cases i0:a.i=0
   ·exact go _ true (oA (ky 1 k1) (oA (bF i0) ⟨rfl,rfl⟩)) rfl (by simp_all)
   ·by_cases i1:a.i=1
    ·exact go _ true (oA (ky 1 k1) (bA (uF i0) (oA (bF i1) ⟨rfl,rfl⟩))) rfl (by simp_all)
    ·exact go [] false (oA (ky 1 k1) (bA (uF i0) (bA (uF i1) ⟨rfl,rfl⟩))) rfl (by simp_all)
  rw[yaa k1]at hpv;by_cases k4:a.kind=4
  ·rw[yab k4]at hpv;have c:=zbp (t:=t) (n:=a.i);by_cases hd:0<=a.i/\a.i<65536
   ·rw[yab hd]at c;refine go _ true (bA (kn 1 k1) (oA (ky 4 k4) (yB ?_))) (np (s:=Qw a.i.toNat) ?_) (by simp_all)
    ·rw[q127,c,xA];exact sD ⟨rfl,rfl⟩
    ·unfold Qw;simp
   ·rw[yaa hd]at c;refine go [] false (bA (kn 1 k1) (oA (ky 4 k4) (yB ?_))) rfl ?_
    ·rw[q127,c,xA];exact sD ⟨rfl,rfl⟩
    grind
  rw[yaa k4]at hpv;by_cases hr : -1048576<=a.i/\a.i<=1048576
  ·have c:=VT (t:=t) (n:=a.i) (by omega) (by omega);have hl:=Cu (u:=a.i.natAbs) (k:=11) (by omega) (by omega);have hil:(Fu a.i).length<=100:=by
    unfold Fu;split<;>simp<;>omega
   by_cases k5:a.kind=5
   ·rw[yab (.inl k5)]at hpv;refine go (Fu a.i++[32,100,97,121,115]) true (bA (kn 1 k1) (bA (kn 4 k4) (oA (ky 5 k5) (oA (iD.2 hr.1) (oA (iD.2 hr.2) (yB ?_)))))) (np (by simp)) (by simp_all);rw[q128,c,xA];exact sD (uA (nI (by grind)) (sD ⟨rfl,rfl⟩))
   by_cases k6:a.kind=6
   ·rw[yab (.inr k6)]at hpv;refine go (Fu a.i++[32,109,111,110,116,104,115]) true (bA (kn 1 k1) (bA (kn 4 k4) (bA (kn 5 k5) (oA (ky 6 k6) (oA (iD.2 hr.1) (oA (iD.2 hr.2) (yB ?_))))))) (np (by simp)) (by simp_all);rw[q128,c,xA];exact sD (uA (nI (by grind)) (sD ⟨rfl,rfl⟩))
   rw[yaa (by omega)]at hpv;exact go [] false (bA (kn 1 k1) (bA (kn 4 k4) (bA (kn 5 k5) (bA (kn 6 k6) ⟨rfl,rfl⟩)))) rfl hpv
  ·have hb:(decide (-1048576<=a.i)&&decide (a.i<=1048576))=false:=by
    simp_all
   rw[hb]at hpv;simp only[ite_self]at hpv;refine go [] false (bA (kn 1 k1) (bA (kn 4 k4) ?_)) rfl hpv;have inn:∀x y:T,wp 84 (.ite (xC (-1048576) a.i) (.ite (xC a.i 1048576) x (.ret (.str []))) (.ret (.str []))) t (fun v' t'=>v'=zA.str []/\t'=t):=fun x _=>by
    by_cases h : -1048576<=a.i
    ·exact oA (iD.2 h) (bA (fun e=>by grind [iD]) ⟨rfl,rfl⟩)
    ·exact bA (fun e=>h (iD.1 e)) ⟨rfl,rfl⟩
   by_cases k5:a.kind=5
   ·exact oA (ky 5 k5) (inn _ .fail)
   by_cases k6:a.kind=6
   ·exact bA (kn 5 k5) (oA (ky 6 k6) (inn _ .fail))
   exact bA (kn 5 k5) (bA (kn 6 k6) ⟨rfl,rfl⟩)
end
section
variable [lC]
variable {t tf:Tr qA}
section
variable {op:Nat}{name:List Nat}{v:lE}{args:List sA}{a b c:zA}
theorem QU{d:Nat}(hop:op<256)(hd:d<=25)(hl:cA c=some (.int .i64 (args.length:Int)))(hlen:args.length<1125899906842624)
  (hK:d<=24->bK op name args.length=true->jp 45 19 [.int .i64 ((25-d:Nat):Int),.int .u8 (op:Int),.str name,.int .u8 (v.kind:Int),.bool v.f.n.neg,a,.bool v.f.d.neg,b,.int .i64 v.i,c] t (fun v' t'=>v'=.bool (if op=1 then eH v else vY op v&&hO args (d+1))/\t'=t)) :
  rB yA F 45 [.agg [.int .u8 (op:Int),.str name,.int .u8 (v.kind:Int),.bool v.f.n.neg,a,.bool v.f.d.neg,b,.int .i64 v.i,c],.int .i64 ((25-d:Nat):Int)] t=some (.bool (pG (.mk op name v args) d)):=by
 refine dB.2 (w45 ?_);unfold t45 uI uB aA uX uZ uY;refine yB ?_;rw[q81,zja hop,xA];refine uA rfl (zB (uA rfl (zB ?_)));have hE:pG (.mk op name v args) d=(decide (d<=24)&&bK op name args.length&&(if op=1 then eH v else vY op v&&hO args (d+1))):=by rw[pG]
 by_cases h24:d<=24
 case neg=>
  refine oA (pF (by omega)) ⟨?_,rfl⟩
  simp_all
 refine bA (jF (by omega)) (uA hl (zB ?_));rw[decide_eq_true h24,ycn]at hE;have no:bK op name args.length=false->∀ {t':Tr qA},t'=t->wp 45 (.ret (.bool false)) t' (fun v' t'=>v'=.bool (pG (.mk op name v args) d)/\t'=t):=fun h t' e=>⟨by simp_all,e⟩;by_cases h27:op<27/\(iC op).style≠0
 ·have hcond:(Nat.blt op 27 && !Nat.beq (iC op).style 0)=true:=by
   grind [pC,oC]
  have e1:Lj op=(iC op).least:=by unfold Lj;rw[hcond,cond_true]
  have e2:Lk op=(iC op).most:=by unfold Lk;rw[hcond,cond_true]
  rw[e1,e2];have hH:bK op name args.length=(decide ((iC op).least<=args.length)&&decide (args.length<=(iC op).most)&&(if (iC op).named=true then rT name else fC name [])):=by
   grind [bK]
  by_cases h1:(iC op).least<=args.length
  case neg=>grind [oA,pF]
  refine bA (jF (by omega)) (uA hl (zB ?_));by_cases h2:args.length<=(iC op).most
  case neg=>grind [oA,pF]
  refine bA (jF (by omega)) (yB ?_);rw[decide_eq_true h1,decide_eq_true h2,ycn,ycn]at hH;rw[q82,RU h27.1,xA];refine rC ?_
  cases hn:(iC op).named with
  | true=>
   rw[hn,yab rfl]at hH;refine oA rfl (yB ?_);rw[q83,zbh,xA];refine rC ?_
   cases hN:rT name with
   | false=>grind [oA]
   | true=>
    simp_all [bA,zC]
  | false=>
   rw[hn,yaa (by simp)]at hH;refine bA (by simp) ?_
   cases hN:fC name []with
   | false=>grind [oA]
   | true=>
    simp_all [bA,zC]
 ·have hcond:(Nat.blt op 27 && !Nat.beq (iC op).style 0)=false:=by
   simp_all
  grind [Lj,Lk,bK,oA,pF,bA,uA,zB]
end
mutual
theorem CL:∀(x:sA) (d:Nat) (cs:List zA),x.fit->d<=25->RD t x.d cs->rB yA F 45 [.agg cs,.int .i64 ((25-d:Nat):Int)] t=some (.bool (pG x d))
 | .mk op name v args,d,cs,hfit,hd,hr=>by
  obtain⟨a,b,c,rfl,ha,hb,hc⟩:=vI hr;simp only[sA.op,sA.name,sA.v,sA.args]at ha hb hc ⊢;have hfit':=hfit;unfold sA.fit at hfit';have hf:=hfit'.2.2.2.1.2.1;have hlen:=hfit'.2.2.2.2.1;unfold pE at hlen;refine QU hfit'.1 hd (by rw[hc.len,ybf]) hlen fun h24 hH=>?_;refine j45_19 ?_;unfold zdw uB uS aA uZ uY;by_cases h1:op=1
  ·rw[yab h1];obtain⟨s,s1,s2⟩:=RH ha hb hf;refine oA (bF (by omega)) (yB ?_);rw[q84,s1,xA];refine sD ⟨?_,rfl⟩;rw[s2,Bool.not_not]
  rw[yaa h1];have hz:=CW ha hb;have hC:vY op v=(decide (v.kind=0)&&(aO v.f&&(if op=19 then decide (1<=v.i)&&decide (v.i<=6)else decide (v.i=0)))):=by
   grind [vY,Dj]
  refine bA (uF (by omega)) ?_;rw[hC];by_cases hk:v.kind=0
  case neg=>
   refine oA (by grind [uF]) ⟨?_,rfl⟩
   simp_all
  refine bA (by grind [bF]) (yB ?_);rw[q85,hz,xA,decide_eq_true hk,ycn];refine rC ?_
  cases hzz:aO v.f with
  | false=>exact oA rfl ⟨rfl,rfl⟩
  | true=>
  refine bA (by simp) ?_;rw[ycn];have fF:jp 45 37 [.int .i64 ((25-d:Nat):Int),.int .u8 (op:Int),.str name,.int .u8 (v.kind:Int),.bool v.f.n.neg,a,.bool v.f.d.neg,b,.int .i64 v.i,c] t (fun v' t'=>v'=.bool (hO args (d+1))/\t'=t):=by
   refine j45_37 ?_;unfold zdv uZ uY;exact zC (CM args args d op name v a b c 0 hc rfl hfit'.2.2.2.2.2 hlen h24)
  by_cases h19:op=19
  ·rw[yab h19];refine oA (bF (by omega)) ?_;by_cases i1:v.i<1
   ·refine oA (pF i1) ⟨?_,rfl⟩
    grind
   refine bA (jF i1) ?_;by_cases i6:6<v.i
   ·refine oA (pF i6) ⟨?_,rfl⟩
    grind
   simp_all [bA,jF,zC]
  ·rw[yaa h19];refine bA (uF (by omega)) ?_;by_cases i0:v.i=0
   ·simp_all [bA,bF,zC]
   ·refine oA (by grind [uF]) ⟨?_,rfl⟩
    simp_all
theorem CM:∀(l args:List sA) (d op:Nat) (name:List Nat) (v:lE) (a b c:zA) (i:Nat),lA t 9 (args.map sA.d) c->args.drop i=l->sA.fits l->args.length<1125899906842624->d<=24 →
  jp 45 2 [.int .i64 ((25-d:Nat):Int),.int .i64 (i:Int),.int .u8 (op:Int),.str name,.int .u8 (v.kind:Int),.bool v.f.n.neg,a,.bool v.f.d.neg,b,.int .i64 v.i,c] t (fun v' t'=>v'=.bool (hO l (d+1))/\t'=t)
 | [],args,d,op,name,v,a,b,c,i,hc,hl,_,hlen,hd=>by
  have:=Ld hl;refine j45_2 ?_;unfold zgi uI uB uG wB rA sB aA zF uZ uY uW gE;refine uA (by rw[hc.len,ybf]) (zB (bA (jF (by omega)) ⟨?_,rfl⟩));rw[hO]
 | x::l,args,d,op,name,v,a,b,c,i,hc,hl,hfit,hlen,hd=>by
  obtain⟨h1,h2,h3⟩:=Cs hl;unfold sA.fits at hfit;obtain⟨pb,po,cs,g1,g2,g3,g4,g5⟩:=lD.at sP (by simp) hc (i:=i) (d:=x.d) (by simp[h1]);refine j45_2 ?_;unfold zgi uI uB uG wB rA sB aA zF uZ uY uW gE;refine uA (by rw[hc.len,ybf]) (zB (oA (pF (by omega)) (uA g1 (yC g2 ?_))));rw[mQ];refine fE (rG g5 x.zs) (yB ?_);have hmk:=g5.mk x.zs;have hcs:[zA.int .u8 ((cellsOf cs).i 0),.str ((cellsOf cs).s 1),.int .u8 ((cellsOf cs).i 2),.bool ((cellsOf cs).b 3),(cellsOf cs).v 4,.bool ((cellsOf cs).b 5),(cellsOf cs).v 6,.int .i64 ((cellsOf cs).i 7),(cellsOf cs).v 8]=cs:=hmk
  rw[hcs,wrap_i64 (by omega) (by omega),show((25-d:Nat):Int)-1=((25-(d+1):Nat):Int) by omega,q45,CL x (d+1) cs hfit.1 (by omega) g5,xA];refine rC ?_;rw[hO]
  cases hE:pG x (d+1)with
  | false=>exact oA rfl ⟨rfl,rfl⟩
  | true=>
   refine bA (by simp) (zC ?_);rw[wrap_i64 (by omega) (by omega),show(i:Int)+1=((i+1:Nat):Int) by omega,ycn];exact CM l args d op name v a b c (i+1) hc h2 hfit.2 hlen hd
end
end
section
variable [lC]
variable {t tf:Tr qA}
def Gm (l:List nE)(s:List Nat):Option nE:=l.find? fun d=>fC d.name s
def kQ (l:List wD)(s:List Nat):Option wD:=l.find? fun d=>fC d.name s
def defV:Option nE->zA
 | some d=>.tup [.agg [.str d.name,.int .u8 d.kind,.bool d.fact],.bool true]
 | none=>.tup [.agg [.str [],.int .u8 0,.bool false],.bool false]
def drop_cons'{α:Type}{l:List α}{i:Nat}(h:i<l.length):l.drop i=l[i]::l.drop (i+1):=ybl h
theorem zc7{l:List nE}{s:List Nat}{v:zA}(hr:lA t 3 (l.map nE.d) v)(hlen:l.length<pE):∀(k i:Nat),i+k=l.length->jp 27 2 [.str s,v,.int .i64 (l.length:Int),.int .i64 (i:Int),.str [],.int .u8 0,.bool false] t (fun x t'=>x=defV (Gm (l.drop i) s)/\t'=t):=by
 unfold pE at hlen;intro k;induction k with
 | zero=>
  intro i hi;refine j27_2 (bA (jF (by omega)) (oA rfl (oA rfl ?_)));rw[ybt (by omega)];exact⟨rfl,rfl⟩
 | succ k ih=>
  intro i hi;have hlt:i<l.length:=by omega
  obtain⟨b,off,cs,g1,g2,_,_,g5⟩:=lD.at mW (by simp) hr (i:=i) (d:=l[i].d) (by simp[hlt]);refine j27_2 (oA (pF (by omega)) (uA g1 (yC g2 ?_)));rw[mQ];have hcs:=wT g5;subst hcs;refine fE (rG g5 (nE.zs _)) (oA rfl ?_);rw[drop_cons' hlt];unfold Gm;rw[List.find?_cons]
  cases he:fC l[i].name s with
  | true=>exact oA he (oA rfl ⟨rfl,rfl⟩)
  | false=>
   refine bA (by show ¬ (fC l[i].name s=true);grind) (zC ?_);unfold sB;rw[wrap_i64 (by omega) (by omega),show(i:Int)+1=((i+1:Nat):Int) by omega];exact ih (i+1) (by omega)
theorem def_ok{p:qD}{cs:List zA}{s:List Nat}(hp:p.fit)(hr:RD t p.d cs):rB yA F 27 [.agg cs,.str s] t=some (defV (Gm p.defs s)):=by
 obtain⟨a,b,c,rfl,ha,hb,hc⟩:=wO hr;refine dB.2 (w27 (uA ha.len (zB (zC ?_))));rw[ybf];have:=zc7 (s:=s) ha hp.ndefs p.defs.length 0 (by omega)
 simp_all
def TabV (t:Tr qA)(o:Option wD)(v:zA):Prop:=
 match o with
 | some x=>∃a,v=.tup [.agg [.str x.name,.bool x.two,a],.bool true]/\lA t 7 (x.rows.map oE.d) a
 | none=>v=.tup [.agg [.str [],.bool false,.nilslice],.bool false]
theorem zaw{l:List wD}{s:List Nat}{v:zA}(hr:lA t 3 (l.map wD.d) v)(hlen:l.length<pE):∀(k i:Nat),i+k=l.length->∃r,TabV t (kQ (l.drop i) s) r/\jp 56 2 [.str s,v,.int .i64 (l.length:Int),.int .i64 (i:Int),.str [],.bool false,.nilslice] t (fun x t'=>x=r/\t'=t):=by
 unfold pE at hlen;intro k;induction k with
 | zero=>
  intro i hi;rw[ybt (by omega)];exact⟨_,rfl,zhw (bA (jF (by omega)) (oA rfl (oA rfl ⟨rfl,rfl⟩)))⟩
 | succ k ih=>
  intro i hi;have hlt:i<l.length:=by omega
  obtain⟨b,off,cs,g1,g2,_,_,g5⟩:=lD.at nW (by simp) hr (i:=i) (d:=l[i].d) (by simp[hlt]);have g50:=g5;obtain⟨a,rfl,ha⟩:=yZ g5;rw[drop_cons' hlt];have hone:eE zA.one [.str l[i].name,.bool l[i].two,a]=true:=g50.all;unfold kQ;rw[List.find?_cons]
  cases he:fC l[i].name s with
  | true=>
   refine⟨_,⟨a,rfl,ha⟩,zhw (oA (pF (by omega)) (uA g1 (yC g2 ?_)))⟩;rw[mQ];exact fE (rG g50 (wD.zs _)) (oA hone (oA he (oA hone ⟨rfl,rfl⟩)))
  | false=>
   obtain⟨r,h1,h2⟩:=ih (i+1) (by omega);refine⟨r,h1,zhw (oA (pF (by omega)) (uA g1 (yC g2 ?_)))⟩;rw[mQ];refine fE (rG g50 (wD.zs _)) (oA hone (bA (by show ¬ (fC l[i].name s=true);grind) (zC ?_)))
   grind [wrap_i64]
theorem tab_ok{p:qD}{cs:List zA}(hp:p.fit)(hr:RD t p.d cs)(s:List Nat):∃r,TabV t (kQ p.tables s) r/\rB yA F 56 [.agg cs,.str s] t=some r:=by
 obtain⟨a,b,c,rfl,ha,hb,hc⟩:=wO hr;obtain⟨r,h1,h2⟩:=zaw (s:=s) hb hp.ntables p.tables.length 0 (by omega);rw[ycr]at h1;refine⟨r,h1,dB.2 (w56 (uA hb.len (zB (zC ?_))))⟩
 simp_all
def tI(p:qD)(op:Nat)(name:List Nat)(n:Nat):Nat × Bool:=
 if op=3\/op=4\/op=21\/op=22\/op=5 then
  match Gm p.defs name with
  | some d=>(d.kind,jH d.fact (!decide (op=5))&&(decide (1<=d.kind)&&decide (d.kind<=6)))
  | none=>(0,false)
 else if op=6 then
  match kQ p.tables name with
  | some x=>(0,jH x.two (decide (n=2)))
  | none=>(0,false)
 else if op=23 then
  match kQ p.tables name with
  | some x=>(0,!x.two)
  | none=>(0,false)
 else(0,true)
def nmV (r:Nat × Bool):zA:=.tup [.int .u8 (r.1:Nat),.bool r.2]
def D66 (p0:zA)(p1_0:Int)(p1_1:List Nat):T:=
 (.opt (zP p0) fun a0=>.opt (aF yA 121 0 a0) fun a1=>.light (fun m=>vC yA 26 ⟨0,m⟩ a1) fun a2=>.asG [(.str []),.nilslice,.nilslice,.nilslice] a2 fun X3=>
 .heavy (zI yA 44) fun a4=>
 .call 27 [(.agg [(.str (X3.s 0)),(X3.v 1),(X3.v 2),(X3.v 3)]),(.str p1_1)] fun a5=>
 .opt (zG 0 a5) fun a6=>.asG [(.str []),(.int .u8 0),(.bool false)] a6 fun X7=>
 .opt (zG 1 a5) fun a8=>.asB a8 fun b9=>.heavy (tD yA 44 a4 (.agg [(.str (X7.s 0)),(.int .u8 (X7.i 1)),(.bool (X7.b 2))])) fun _=>
 .ite b9
 (.opt (aF yA 44 2 a4) fun a10=>.light (fun m=>vC yA 4 ⟨0,m⟩ a10) fun a11=>.asB a11 fun b12=>.opt (aF yA 44 1 a4) fun a13=>.light (fun m=>vC yA 5 ⟨0,m⟩ a13) fun a14=>.asI .u8 a14 fun n15=>.ite (jH b12 (!tA p1_0 5))
 (.opt (aF yA 44 1 a4) fun a16=>.light (fun m=>vC yA 5 ⟨0,m⟩ a16) fun a17=>.asI .u8 a17 fun n18=>.ite (xC 1 n18)
 (.opt (aF yA 44 1 a4) fun a19=>.light (fun m=>vC yA 5 ⟨0,m⟩ a19) fun a20=>.asI .u8 a20 fun n21=>.ret (.tup [(.int .u8 n15),(.bool (xC n21 6))]))
 (.ret (.tup [(.int .u8 n15),(.bool false)])))
 (.ret (.tup [(.int .u8 n15),(.bool false)])))
 (.opt (aF yA 44 1 a4) fun a22=>.light (fun m=>vC yA 5 ⟨0,m⟩ a22) fun a23=>.asI .u8 a23 fun n24=>.ret (.tup [(.int .u8 n24),(.bool false)])))
def T66 (p0:zA)(p1_1:List Nat)(K:zA->zA->T):T:=
 (.opt (zP p0) fun a25=>.opt (aF yA 121 0 a25) fun a26=>.light (fun m=>vC yA 26 ⟨0,m⟩ a26) fun a27=>.asG [(.str []),.nilslice,.nilslice,.nilslice] a27 fun X28=>
 .heavy (zI yA 49) fun a29=>
 .call 56 [(.agg [(.str (X28.s 0)),(X28.v 1),(X28.v 2),(X28.v 3)]),(.str p1_1)] fun a30=>
 .opt (zG 0 a30) fun a31=>.asG [(.str []),(.bool false),.nilslice] a31 fun X32=>
 .opt (zG 1 a30) fun a33=>.asB a33 fun b34=>.heavy (tD yA 49 a29 (.agg [(.str (X32.s 0)),(.bool (X32.b 1)),(X32.v 2)])) fun _=>
 .ite b34
 (.opt (aF yA 49 1 a29) fun a35=>.light (fun m=>vC yA 4 ⟨0,m⟩ a35) fun a36=>K a36 a29)
 (.ret (.tup [(.int .u8 0),(.bool false)])))
def rQ(t:Tr qA)(b m:Nat)(p:qD):Prop:=∃cs,RD t p.d cs/\kE t b none (cs++[.map m])
def KN{b:Nat}:aF yA 121 0 (.ptr b 0)=some (.ptr b 0):=by kernel_rfl
def Yh{b:Nat}:aF yA 121 1 (.ptr b 0)=some (.ptr b 4):=by kernel_rfl
theorem rQ.plan{b m:Nat}{p:qD}(h:rQ t b m p):∃cs,RD t p.d cs/\cs.length=4/\vC yA 26 ⟨0,t⟩ (.ptr b 0)=some (.agg cs)/\kE t b none (cs++[.map m]):=by
 obtain⟨cs,h1,h2⟩:=h;have hlen:cs.length=4:=by grind [wO]
 refine⟨cs,h1,hlen,?_,h2⟩;have:=h2.at.load (C:=yA) (ty:=26) ty26 rfl (n:=4) rfl (j:=0) (by grind);rw[ybw]at this;rw[this];congr 2;rw[ycr,List.take_left' hlen]
theorem Rb{b T n:Nat}{l m:List zA}{y:mC}(h:kE t b none l)(hb:yA.base<=b)(hT:yA.tys.get T=some y)(hy:y.size=n)(hl:l.length=n)(hm:m.length=n)(hone:eE zA.one m=true):∃t',(∀k,tD yA T (.ptr b 0) (.agg m) ⟨k,t⟩=some (xE,⟨k,t'⟩))/\kE t' b none m/\sE b t t':=by
 obtain⟨t',h1,h2,h3⟩:=h.store (C:=yA) hb (T:=T) (v:=.agg m) (j:=0) hT (by show m.length=_;rw[hm,hy]) (by show 0+m.length<=_;omega) hone;refine⟨t',h1,?_,h3⟩;have e:lP l 0 (zA.agg m).cells=m:=by
  show lP l 0 m=m;unfold lP;rw[List.take_zero,yah,ybt (by omega),ycd]
 simp_all
def ER{p:qD}{cs:List zA}(h:RD t p.d cs):yN [.str [],.nilslice,.nilslice,.nilslice] (.agg cs)=some (cellsOf cs)/\[zA.str ((cellsOf cs).s 0),(cellsOf cs).v 1,(cellsOf cs).v 2,(cellsOf cs).v 3]=cs:=⟨rG h (qD.zs _),h.mk (qD.zs p)⟩
section
variable {b m:Nat}{p:qD}{op:Nat}{name:List Nat}{n:Nat}
theorem D_ok(hC:rQ t b m p)(hp:p.fit)(hop:op=3\/op=4\/op=21\/op=22\/op=5):wp 119 (D66 (.ptr b 0) (op:Int) name) t (fun v t'=>v=nmV (tI p op name n)/\xB t t'):=by
 obtain⟨cs,h1,h2,h3,h4⟩:=hC.plan;obtain⟨e1,e2⟩:=ER h1;unfold D66 tI;rw[yab hop];refine uA yG (uA KN (yC h3 (fE e1 (tG fun bd hbd hbase=>?_))));obtain⟨t1,g1,g2,g3,g4⟩:=Ag (C:=yA) Bj hbd;refine⟨_,_,g1,yB ?_⟩;rw[e2,q27,def_ok hp (h1.mono g3),xA];have f1:aF yA 44 1 (.ptr bd 0)=some (.ptr bd 1):=by kernel_rfl
 have f2:aF yA 44 2 (.ptr bd 0)=some (.ptr bd 2):=by kernel_rfl
 have hb5:(!tA (op:Int) 5) = !decide (op=5):=by
  grind [bM]
 cases hd:Gm p.defs name with
 | none=>
  refine uA rfl (fE (zW rfl) (uA rfl (rC (tG fun k _ _=>?_))));obtain⟨t2,k1,k2,k3⟩:=Rb g2 hbase Bj rfl rfl (m:=[.str [],.int .u8 0,.bool false]) rfl rfl;refine⟨_,_,k1 k,bA (by simp) (uA f1 (yC (k2.load1 (j:=1) xI rfl rfl) (zB ⟨rfl,fun c u hc=>?_⟩)))⟩;have:c≠bd:=fun e=>by simp_all
  rw[k3 c this];exact g3 _ _ hc
 | some d=>
  refine uA rfl (fE (zW rfl) (uA rfl (rC (tG fun k _ _=>?_))));obtain⟨t2,k1,k2,k3⟩:=Rb g2 hbase Bj rfl rfl (m:=[.str d.name,.int .u8 d.kind,.bool d.fact]) rfl rfl;have hle:xB t t2:=fun c u hc=>by
   have:c≠bd:=fun e=>by simp_all
   rw[k3 c this];exact g3 _ _ hc
  have ld1:vC yA 5 ⟨0,t2⟩ (.ptr bd 1)=some (.int .u8 (d.kind:Int)):=k2.load1 (j:=1) xI rfl rfl;have ld2:vC yA 4 ⟨0,t2⟩ (.ptr bd 2)=some (.bool d.fact):=k2.load1 (j:=2) ty4 rfl rfl;refine⟨_,_,k1 k,oA rfl (uA f2 (yC ld2 (rC (uA f1 (yC ld1 (zB ?_))))))⟩;rw[hb5];show wp 119 _ t2 _
  cases hf:jH d.fact (!decide (op=5))with
  | false=>exact bA (by simp) ⟨by simp[nmV,hf],hle⟩
  | true=>
   refine oA rfl (uA f1 (yC ld1 (zB ?_)));by_cases h6:1<=d.kind
   ·refine oA (yLe (by omega)) (uA f1 (yC ld1 (zB ⟨?_,hle⟩)))
    grind [zid,nmV]
   ·refine bA (nLe (by omega)) ⟨?_,hle⟩
    grind [nmV]
theorem T_ok{R:Bool}{K:zA->zA->T}(hC:rQ t b m p)(hp:p.fit)(hK:∀x bd t',kQ p.tables name=some x->xB t t'->wp 119 (K (.bool x.two) bd) t' (fun v t'=>v=nmV (0,R)/\xB t t'))(hN:kQ p.tables name=none->R=false):wp 119 (T66 (.ptr b 0) name K) t (fun v t'=>v=nmV (0,R)/\xB t t'):=by
 obtain⟨cs,h1,h2,h3,h4⟩:=hC.plan;obtain⟨e1,e2⟩:=ER h1;unfold T66;refine uA yG (uA KN (yC h3 (fE e1 (tG fun bd hbd hbase=>?_))));obtain⟨t1,g1,g2,g3,g4⟩:=Ag (C:=yA) Bi hbd;refine⟨_,_,g1,yB ?_⟩;obtain⟨r,r1,r2⟩:=tab_ok hp (h1.mono g3) name;rw[e2,q56,r2,xA];have f1:aF yA 49 1 (.ptr bd 0)=some (.ptr bd 1):=by kernel_rfl
 cases hd:kQ p.tables name with
 | none=>
  rw[hd]at r1;unfold TabV at r1;subst r1;refine uA rfl (fE (zW rfl) (uA rfl (rC (tG fun k _ _=>?_))));obtain⟨t2,k1,k2,k3⟩:=Rb g2 hbase Bi rfl rfl (m:=[.str [],.bool false,.nilslice]) rfl rfl;rw[hN hd];refine⟨_,_,k1 k,bA (by simp) ⟨rfl,fun c u hc=>?_⟩⟩;have:c≠bd:=fun e=>by simp_all
  rw[k3 c this];exact g3 _ _ hc
 | some x=>
  rw[hd]at r1;obtain⟨a,rfl,ha⟩:=r1;have hfz:mO [.str [],.bool false,.nilslice] [zA.str x.name,.bool x.two,a]=true:=by
   show(true&&(true&&(mS .nilslice a&&true)))=true;rw[Kw ha];rfl
  have hone:eE zA.one [zA.str x.name,.bool x.two,a]=true:=by
   rw[mI];simp only[ycg,yck,ha.one];rfl
  refine uA rfl (fE (zW hfz) (uA rfl (rC (tG fun k _ _=>?_))));obtain⟨t2,k1,k2,k3⟩:=Rb g2 hbase Bi rfl rfl (m:=[.str x.name,.bool x.two,a]) rfl hone;have hle:xB t t2:=fun c u hc=>by
   have:c≠bd:=fun e=>by simp_all
   rw[k3 c this];exact g3 _ _ hc
  refine⟨_,_,k1 k,oA rfl (uA f1 (yC (k2.load1 (j:=1) ty4 rfl rfl) ?_))⟩
  simp_all
theorem zb2{a c d:zA}{kd:Int}{n1 n2:Bool}{vi:Int}(hC:rQ t b m p)(hp:p.fit)(hc:cA d=some (.int .i64 (n:Int))):rB yA F 119 [.ptr b 0,.agg [.int .u8 op,.str name,.int .u8 kd,.bool n1,a,.bool n2,c,.int .i64 vi,d]] t=some (nmV (tI p op name n)):=by
 refine lL ?_;refine w119 ?_;unfold t119 uI uU uB uG rA bB uD uX uY fI wL xL;have rest:∀(Y:T),(op=3\/op=4\/op=21\/op=22\/op=5)->wp 119 (D66 (.ptr b 0) (op:Int) name) t (fun v t'=>v=nmV (tI p op name n)/\xB t t'):=fun Y h=>D_ok hC hp h;by_cases h3:op=3
 ·exact oA (bF (by omega)) (oA (bF (by omega)) (D_ok hC hp (.inl h3)))
 refine bA (uF (by omega)) ?_;by_cases h4:op=4
 ·exact oA (bF (by omega)) (oA (bF (by omega)) (D_ok hC hp (.inr (.inl h4))))
 refine bA (uF (by omega)) ?_;by_cases h21:op=21
 ·exact oA (bF (by omega)) (oA (bF (by omega)) (D_ok hC hp (.inr (.inr (.inl h21)))))
 refine bA (uF (by omega)) ?_;by_cases h22:op=22
 ·exact oA (bF (by omega)) (oA (bF (by omega)) (D_ok hC hp (.inr (.inr (.inr (.inl h22))))))
 refine bA (uF (by omega)) ?_;by_cases h5:op=5
 ·exact oA (bF (by omega)) (D_ok hC hp (.inr (.inr (.inr (.inr h5)))))
 refine bA (uF (by omega)) ?_;have hno:¬ (op=3\/op=4\/op=21\/op=22\/op=5):=by omega
 by_cases h6:op=6
 ·refine oA (bF (by omega)) ?_;unfold tI;rw[yaa hno,yab h6]
  cases hd:kQ p.tables name with
  | none=>
   exact T_ok (R:=false) (K:=fun a36 _=>.asB a36 fun b37=>.opt (cA d) fun a38=>.asI .i64 a38 fun n39=>.ret (.tup [(.int .u8 0),(.bool (jH b37 (tA n39 2)))])) hC hp (fun x bd t' h _=>by simp_all) (fun _=>rfl)
  | some x=>
   refine T_ok (R:=jH x.two (decide (n=2))) (K:=fun a36 _=>.asB a36 fun b37=>.opt (cA d) fun a38=>.asI .i64 a38 fun n39=>.ret (.tup [(.int .u8 0),(.bool (jH b37 (tA n39 2)))])) hC hp (fun y bd t' h hle=>?_) (fun h=>by simp_all);rw[hd]at h;cases h;refine rC (uA hc (zB ⟨?_,hle⟩));have:tA (n:Int) 2=decide (n=2):=by grind [bM]
   rw[this];rfl
 refine bA (uF (by omega)) ?_;by_cases h23:op=23
 ·refine oA (bF (by omega)) ?_;unfold tI;rw[yaa hno,yaa h6,yab h23]
  cases hd:kQ p.tables name with
  | none=>
   exact T_ok (R:=false) (K:=fun a36 _=>.asB a36 fun b52=>.ret (.tup [(.int .u8 0),(.bool (!b52))])) hC hp (fun x bd t' h _=>by simp_all) (fun _=>rfl)
  | some x=>
   refine T_ok (R := !x.two) (K:=fun a36 _=>.asB a36 fun b52=>.ret (.tup [(.int .u8 0),(.bool (!b52))])) hC hp (fun y bd t' h hle=>?_) (fun h=>by simp_all);rw[hd]at h;cases h;exact rC ⟨rfl,hle⟩
 refine bA (uF (by omega)) ?_;unfold tI;rw[yaa hno,yaa h6,yaa h23];exact⟨rfl,xB.refl _⟩
end
end
section
variable [lC]
variable {t tf:Tr qA}
structure KE where
 op:Nat
 a:Nat
 b:Nat
 c:Nat
 k:Nat
def nZ:List KE:=[⟨2,0,0,0,4⟩,⟨4,4,0,0,1⟩,⟨6,2,0,0,2⟩,⟨6,2,2,0,2⟩,⟨8,4,4,0,5⟩,⟨9,2,2,0,2⟩,⟨9,3,2,0,3⟩,⟨9,2,3,0,3⟩,⟨10,2,2,0,2⟩,⟨10,3,2,0,3⟩,⟨10,3,3,0,2⟩,⟨15,1,1,0,1⟩,⟨16,1,1,0,1⟩,⟨17,1,0,0,1⟩,
 ⟨19,2,2,0,2⟩,⟨19,3,3,0,3⟩,⟨20,4,4,0,6⟩,⟨21,4,4,0,2⟩,⟨22,4,4,6,3⟩,⟨23,4,4,0,2⟩,⟨24,2,0,0,6⟩,⟨25,5,0,0,2⟩,⟨25,6,0,0,2⟩,⟨25,3,0,0,2⟩,⟨26,4,0,0,4⟩,
 ⟨7,2,2,0,2⟩,⟨7,3,3,0,3⟩,⟨7,5,5,0,5⟩,⟨7,6,6,0,6⟩,⟨7,4,5,0,4⟩,⟨7,4,6,0,4⟩,⟨8,2,2,0,2⟩,⟨8,3,3,0,3⟩,⟨8,5,5,0,5⟩,⟨8,6,6,0,6⟩,⟨8,4,5,0,4⟩,⟨8,4,6,0,4⟩,
 ⟨14,1,1,0,1⟩,⟨18,1,1,1,1⟩,⟨14,2,2,0,1⟩,⟨18,1,2,2,2⟩,⟨11,2,2,0,2⟩,⟨12,2,2,0,2⟩,⟨13,2,2,0,1⟩,⟨14,3,3,0,1⟩,⟨18,1,3,3,3⟩,⟨11,3,3,0,3⟩,⟨12,3,3,0,3⟩,⟨13,3,3,0,1⟩,
 ⟨14,4,4,0,1⟩,⟨18,1,4,4,4⟩,⟨11,4,4,0,4⟩,⟨12,4,4,0,4⟩,⟨13,4,4,0,1⟩,⟨14,5,5,0,1⟩,⟨18,1,5,5,5⟩,⟨11,5,5,0,5⟩,⟨12,5,5,0,5⟩,⟨13,5,5,0,1⟩,
 ⟨14,6,6,0,1⟩,⟨18,1,6,6,6⟩,⟨11,6,6,0,6⟩,⟨12,6,6,0,6⟩,⟨13,6,6,0,1⟩]
def mZ (op a b c:Nat):zA:=.agg [.int .u8 op,.int .u8 a,.int .u8 b,.int .u8 c]
def KE.e (x:KE):zA × zA:=(mZ x.op x.a x.b x.c,.int .u8 x.k)
def eD (n:Nat):List (zA × zA):=(nZ.take n).map KE.e
def lZ{w x y z:Int}:uR yA 117 (.agg [.int .u8 w,.int .u8 x,.int .u8 y,.int .u8 z])=true:=by kernel_rfl
def KI (t0:Tr qA)(b n:Nat)(t:Tr qA):Prop:=t.get b=some (.map (eD n))/\sE b t0 t
def wR{t0:Tr qA}{b n i:Nat}{k v:zA}{K:T}{Q:aB}(hb:yA.base<=b)(hI:KI t0 b n t)(hs:fH k v (eD n)=some (eD (n+1)))(hk:uR yA 117 k=true)(next:∀t',KI t0 b (n+1) t'->wp i K t' Q):wp i (.heavy (vK yA 117 (.map b) k v) fun _=>K) t Q:=by
 refine tG fun m _ _=>?_;refine⟨_,_,AD hk hb hI.1 hs,next _ ⟨by show(t.set b _).get b=_;rw[Tr.get_set,yab rfl],fun c hc=>?_⟩⟩;show(t.set b _).get c=_;rw[Tr.get_set,yaa hc];exact hI.2 c hc
section
variable {t0:Tr qA}{b:Nat}{name:List Nat}{c1 c2 c3:zA}{Q:aB}
abbrev ag2:zA:=.agg [.int .u8 7,.int .u8 8]
abbrev ag4:zA:=.agg [.int .u8 2,.int .u8 3,.int .u8 5,.int .u8 6]
theorem FF{n:Nat}{op i:Int}(hb:yA.base<=b)(hI:KI t0 b n t)
  (h1:fH (.agg [.int .u8 op,.int .u8 2,.int .u8 2,.int .u8 0]) (.int .u8 2) (eD n)=some (eD (n+1))) (h2:fH (.agg [.int .u8 op,.int .u8 3,.int .u8 3,.int .u8 0]) (.int .u8 3) (eD (n+1))=some (eD (n+1+1)))
  (h3:fH (.agg [.int .u8 op,.int .u8 5,.int .u8 5,.int .u8 0]) (.int .u8 5) (eD (n+1+1))=some (eD (n+1+1+1))) (h4:fH (.agg [.int .u8 op,.int .u8 6,.int .u8 6,.int .u8 0]) (.int .u8 6) (eD (n+1+1+1))=some (eD (n+1+1+1+1)))
  (h5:fH (.agg [.int .u8 op,.int .u8 4,.int .u8 5,.int .u8 0]) (.int .u8 4) (eD (n+1+1+1+1))=some (eD (n+1+1+1+1+1))) (h6:fH (.agg [.int .u8 op,.int .u8 4,.int .u8 6,.int .u8 0]) (.int .u8 4) (eD (n+1+1+1+1+1))=some (eD (n+1+1+1+1+1+1)))
  (hk:∀x y:Nat,x<10->y<10->uR yA 117 (.agg [.int .u8 op,.int .u8 (x:Int),.int .u8 (y:Int),.int .u8 0])=true)
  (next:∀t',KI t0 b (n+1+1+1+1+1+1) t'->jp 36 2 [.map b,ag2,.int .i64 (jA .i64 (i+1)),.str name,c1,c2,c3] t' Q) :
  jp 36 6 [.map b,.int .u8 op,ag2,.int .i64 i,ag4,.int .i64 0,.str name,c1,c2,c3] t Q:=by
 have i0:yL yA 119 ag4 (.int .i64 0)=some (.int .u8 2):=by kernel_rfl
 have i1:yL yA 119 ag4 (.int .i64 1)=some (.int .u8 3):=by kernel_rfl
 have i2:yL yA 119 ag4 (.int .i64 2)=some (.int .u8 5):=by kernel_rfl
 have i3:yL yA 119 ag4 (.int .i64 3)=some (.int .u8 6):=by kernel_rfl
 have w1:jA .i64 (0+1)=1:=rfl;have w2:jA .i64 (1+1)=2:=rfl;have w3:jA .i64 (2+1)=3:=rfl;have w4:jA .i64 (3+1)=4:=rfl;refine Kk (oA rfl (uA i0 (zB (oA rfl (wR hb hI h1 (hk 2 2 (by omega) (by omega)) fun t' hI=>zC ?_)))));unfold sB;rw[w1];refine Kk (oA rfl (uA i1 (zB (oA rfl (wR hb hI h2 (hk 3 3 (by omega) (by omega)) fun t' hI=>zC ?_)))))
 unfold sB;rw[w2];refine Kk (oA rfl (uA i2 (zB (oA rfl (wR hb hI h3 (hk 5 5 (by omega) (by omega)) fun t' hI=>zC ?_)))));unfold sB;rw[w3];refine Kk (oA rfl (uA i3 (zB (oA rfl (wR hb hI h4 (hk 6 6 (by omega) (by omega)) fun t' hI=>zC ?_)))));unfold sB;rw[w4];refine Kk (bA (by show ¬ (false=true);simp) (oA rfl (wR hb hI h5 (hk 4 5 (by omega) (by omega)) fun t' hI=>oA rfl (wR hb hI h6 (hk 4 6 (by omega) (by omega)) fun t' hI=>zC ?_))))
 simp_all
theorem Kj{n:Nat}{k:Nat}(hk0:2<=k/\k<=6)(hb:yA.base<=b)(hI:KI t0 b n t)
  (h1:fH (.agg [.int .u8 14,.int .u8 k,.int .u8 k,.int .u8 0]) (.int .u8 1) (eD n)=some (eD (n+1))) (h2:fH (.agg [.int .u8 18,.int .u8 1,.int .u8 k,.int .u8 k]) (.int .u8 k) (eD (n+1))=some (eD (n+1+1)))
  (h3:fH (.agg [.int .u8 11,.int .u8 k,.int .u8 k,.int .u8 0]) (.int .u8 k) (eD (n+1+1))=some (eD (n+1+1+1))) (h4:fH (.agg [.int .u8 12,.int .u8 k,.int .u8 k,.int .u8 0]) (.int .u8 k) (eD (n+1+1+1))=some (eD (n+1+1+1+1)))
  (h5:fH (.agg [.int .u8 13,.int .u8 k,.int .u8 k,.int .u8 0]) (.int .u8 1) (eD (n+1+1+1+1))=some (eD (n+1+1+1+1+1)))
  (next:∀t',KI t0 b (n+1+1+1+1+1) t'->jp 36 10 [.map b,.int .u8 ((k+1:Nat):Int),.str name,c1,c2,c3] t' Q) :
  jp 36 10 [.map b,.int .u8 (k:Int),.str name,c1,c2,c3] t Q:=by
 have hk:∀w x y z:Nat,w<30->x<10->y<10->z<10->uR yA 117 (mZ w x y z)=true:=fun w x y z _ _ _ _=>lZ;refine Xc (oA (yLe (by omega)) (oA rfl (wR hb hI h1 (hk 14 k k 0 (by omega) (by omega) (by omega) (by omega)) fun t' hI=>oA rfl (wR hb hI h2 (hk 18 1 k k (by omega) (by omega) (by omega) (by omega)) fun t' hI=>oA ?_ (oA rfl (wR hb hI h3 (hk 11 k k 0 (by omega) (by omega) (by omega) (by omega)) fun t' hI=>oA rfl (wR hb hI h4 (hk 12 k k 0 (by omega) (by omega) (by omega) (by omega)) fun t' hI=>oA rfl (wR hb hI h5 (hk 13 k k 0 (by omega) (by omega) (by omega) (by omega)) fun t' hI=>zC ?_))))))))
 all_goals grind [wE,Dk]
theorem UM{p:qD}{cs:List zA}(hr:RD t p.d cs)(hQ:∀b m t',xB t t'->rQ t' b m p->t'.get m=some (.map (eD 64))->Q (.ptr b 0) t'):Wc yA F 36 [.agg cs] t Q:=by
 have hr0:=hr;obtain⟨u1,u2,u3,rfl,h1,h2,h3⟩:=wO hr;refine w36 ?_;unfold t36 uZ uY;repeat refine oA rfl ?_
 refine tG fun b hb hbase=>?_;refine⟨.map b,⟨b+1,t.set b (.map [])⟩,rfl,tG fun n _ _=>?_⟩;have hm0:(t.set b (.map [])).get b=some (.map []):=by rw[Tr.get_set,yab rfl]
 have ho0:sE b t (t.set b (.map [])):=fun c hc=>by rw[Tr.get_set,yaa hc]
 obtain⟨t1,g1,g2,g3⟩:=WG (C:=yA) (T:=117) (b:=b) (n:=n) (l:=eD 25) (t:=t.set b (.map [])) (fun e he=>by
  obtain⟨x,_,rfl⟩:=yaq.1 he;exact lZ) (by kernel_rfl) hbase hm0
 have g1':iU yA ((eD 25).map fun e=>xK.upd 117 (.map b) e.1 e.2) ⟨n,t.set b (.map [])⟩=some (xE,⟨n,t1⟩):=g1;have hI:KI t b 25 t1:=⟨g2,fun c hc=>by rw[g3 c hc,ho0 c hc]⟩;refine⟨xE,⟨n,t1⟩,g1',oA rfl (zC ?_)⟩;have j0:yL yA 118 ag2 (.int .i64 0)=some (.int .u8 7):=by kernel_rfl
 have j1:yL yA 118 ag2 (.int .i64 1)=some (.int .u8 8):=by kernel_rfl
 have w1:jA .i64 (0+1)=1:=rfl;have w2:jA .i64 (1+1)=2:=rfl;refine zhx (oA rfl (uA j0 (zB (oA rfl (zC ?_)))));refine FF hbase hI (by kernel_rfl) (by kernel_rfl) (by kernel_rfl) (by kernel_rfl) (by kernel_rfl) (by kernel_rfl) (fun x y _ _=>lZ) fun t2 hI=>?_;rw[w1];refine zhx (oA rfl (uA j1 (zB (oA rfl (zC ?_)))));refine FF hbase hI (by kernel_rfl) (by kernel_rfl) (by kernel_rfl) (by kernel_rfl) (by kernel_rfl) (by kernel_rfl) (fun x y _ _=>lZ) fun t3 hI=>?_
 rw[w2];refine zhx (bA (by show ¬ (false=true);simp) (zC ?_));refine Xc (oA rfl (oA rfl (wR hbase hI (by kernel_rfl) lZ fun t4 hI=>oA rfl (wR hbase hI (by kernel_rfl) lZ fun t5 hI=>bA (by show ¬ (false=true);simp) (zC ?_)))));have uw:jA .u8 (1+1)=((2:Nat):Int):=rfl;rw[uw];refine Kj (by omega) hbase hI (by kernel_rfl) (by kernel_rfl) (by kernel_rfl) (by kernel_rfl) (by kernel_rfl) fun t6 hI=>?_
 refine Kj (by omega) hbase hI (by kernel_rfl) (by kernel_rfl) (by kernel_rfl) (by kernel_rfl) (by kernel_rfl) fun t7 hI=>?_;refine Kj (by omega) hbase hI (by kernel_rfl) (by kernel_rfl) (by kernel_rfl) (by kernel_rfl) (by kernel_rfl) fun t8 hI=>?_;refine Kj (by omega) hbase hI (by kernel_rfl) (by kernel_rfl) (by kernel_rfl) (by kernel_rfl) (by kernel_rfl) fun t9 hI=>?_;refine Kj (by omega) hbase hI (by kernel_rfl) (by kernel_rfl) (by kernel_rfl) (by kernel_rfl) (by kernel_rfl) fun t10 hI=>?_
 refine Xc (bA (nLe (by omega)) (oA rfl (tG fun bc hbc _=>?_)));have hle:xB t t10:=fun c u hc=>by
  have:c≠b:=fun e=>by simp_all
  rw[hI.2 c this];exact hc
 obtain⟨t11,e1,e2,e3,e4⟩:=vZ hbc [.str p.name,u1,u2,u3,.map b] none;have hb:yP (.agg [.str p.name,u1,u2,u3,.map b]) ⟨bc,t10⟩=some (.ptr bc 0,⟨bc+1,t11⟩):=by
  show some (zA.ptr bc 0,yF ⟨bc,t10⟩ [.str p.name,u1,u2,u3,.map b] none)=_;rw[e1]
 refine⟨_,_,hb,hQ bc b t11 (hle.trans e3) ⟨_,hr0.mono (hle.trans e3),e2⟩ ?_⟩;exact e3 _ _ hI.1
end
end
end Go.Proofs
