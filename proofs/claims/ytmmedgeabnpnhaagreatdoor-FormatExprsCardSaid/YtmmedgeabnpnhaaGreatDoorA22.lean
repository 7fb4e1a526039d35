/- The reference's numbers: minus, half, short division. -/
import Derived.Test.YtmmedgeabnpnhaaGreatDoorA21
set_option linter.all false
noncomputable section
set_option maxRecDepth 100000
namespace Go.Proofs
open Go Go.Am
variable [sC]
variable {t tf:Tr sA}
section
variable {a b:List Nat}{u v:zA}{Q:dB}
theorem TY(hu:mA t 1 (cA .u16 a) u)(hv:mA t 1 (cA .u16 b) v)(ha:yB 65536 a)(hb:yB 65536 b)(hla:a.length<200000)(hlb:b.length<=a.length)(hle:val 65536 b<=val 65536 a)
  (hQ:∀t' v' r,bA t t'->mA t' 1 (cA .u16 r) v'->yB 65536 r->val 65536 r+val 65536 b=val 65536 a->norm r->Q v' t') :
  ∀(k i n:Nat) (t':Tr sA) (P:List Nat) (w:zA),i+k=a.length->bA t t'->pY yA.base t t' 1 (cA .u16 P) w->P.length=i->yB 65536 P->n<=1 →
   val 65536 (a.take i)+65536^i*n=val 65536 (b.take i)+val 65536 P->jp 257 2 [u,v,w,.int .i64 (n:Int),.int .i64 (i:Int)] t' Q:=by
 intro k;induction k with
 | zero=>
  intro i n t' P w hi ht hw hP hPl hn hval;refine zbz ?_;unfold Qe uI uH uZ uW;refine lA (by rw[hu.len,bC]) (qB (dA (fun e=>by grind [xC]) (wB ?_)));rw[yca (by omega),yca (by omega)]at hval;obtain⟨v',g1,g2⟩:=Ki (by omega) (hw.read ht);rw[q203,g1,wA];have hPv:=oJ (B:=65536) (by omega) hPl;rw[hP]at hPv;have hn0:n=0:=by
   grind
  subst hn0;refine hQ t' v' (rD P) ht g2 (iQ hPl) ?_ (xP P)
  grind [hO]
 | succ k ih=>
  intro i n t' P w hi ht hw hP hPl hn hval;have l1:vB u=some (.int .i64 (a.length:Int)):=by rw[hu.len,bC]
  have l2:vB v=some (.int .i64 (b.length:Int)):=by rw[hv.len,bC]
  obtain⟨x,hx⟩:=getElem?_of_lt (l:=a) (i:=i) (by omega);have hxl:=wH ha hx;obtain⟨c,off,g1,g2⟩:=(hu.mono ht).idx yH hx;have hyl:b[i]?.getD 0<65536:=by
   cases h:b[i]? with
   | none=>simp
   | some x=>exact wH hb h
  have uF:∀m:Nat,m+n+b[i]?.getD 0=65536+x->jp 257 19 [u,v,w,.int .i64 (i:Int),.int .i64 (m:Int)] t' Q:=by
   intro m hm;refine zdz ?_;unfold Zb yC uZ uW;rw[tm65,td65,fY (by omega) (by omega)];refine Sl hw ht (by omega) fun t2 w2 h1 h2=>qC ?_;rw[wrap_i64 (n:=((m / 65536:Nat):Int)) (by omega) (by omega),show(1:Int)-((m / 65536:Nat):Int)=((1-m / 65536:Nat):Int) by omega,wrap_i64 (by omega) (by omega),wrap_i64 (by omega) (by omega),show(i:Int)+1=((i+1:Nat):Int) by omega];refine ih (i+1) (1-m / 65536) t2 _ w2 (by omega) h2 h1 (by grind) (gQ hPl (by omega)) (by omega) ?_
   rw[pJ,Ow,Ow,hP,yag,ybj,show a[i]?.getD 0=x by grind];have e:x+65536*(1-m / 65536)=n+b[i]?.getD 0+m%65536:=by omega
   grind
  refine zbz ?_;unfold Qe uI uH uZ uW;refine lA l1 (qB (fA (xC.2 (by omega)) (lA g1 (gC g2 (qB (lA l2 (qB ?_)))))));have w1:rA .i64 (rA .i64 (65536+rA .i64 (x:Int))-(n:Int))=((65536+x-n:Nat):Int):=by
   rw[wrap_i64 (n:=(x:Int)) (by omega) (by omega),wrap_i64 (n:=65536+(x:Int)) (by omega) (by omega),wrap_i64 (by omega) (by omega)];omega
  rw[w1];by_cases h2:i<b.length
  ·obtain⟨y,hy⟩:=getElem?_of_lt h2;obtain⟨c',off',g3,g4⟩:=(hv.mono ht).idx yH hy;have hy':b[i]?.getD 0=y:=by grind
   refine fA (xC.2 (by omega)) (lA g3 (gC g4 (qB (qC ?_))));rw[wrap_i64 (n:=(y:Int)) (by omega) (by omega),wrap_i64 (by omega) (by omega),show((65536+x-n:Nat):Int)-(y:Int)=((65536+x-n-y:Nat):Int) by omega]
   grind
  grind [dA,xC,qC]
def TW(hu:mA t 1 (cA .u16 a) u)(hv:mA t 1 (cA .u16 b) v)(ha:yB 65536 a)(hb:yB 65536 b)(hla:a.length<200000)(nb:norm b)(hle:val 65536 b<=val 65536 a)
  (hQ:∀t' v' r,bA t t'->mA t' 1 (cA .u16 r) v'->yB 65536 r->val 65536 r+val 65536 b=val 65536 a->norm r->Q v' t'):Wc yA F 257 [u,v] t Q:=by
 refine w257 ?_;unfold t257 uZ;exact qC (TY hu hv ha hb hla (nL (by omega) ha nb hle) hle hQ a.length 0 0 t [] .nilslice (by omega) (bA.refl _) Ha rfl (fun x hx=>by cases hx) (by omega) (by simp[val]))
theorem zd5{T el:Nat}(h:yF yA T el 1 false){b n cap j:Nat}(hj:j<n):jB yA T (.slice b 0 n cap) (.int .i64 (j:Int))=some (.ptr b j):=by
 have:=Bo (b:=b) (off:=0) (cap:=cap) h hj
 simp_all
theorem HZ{W J:oH}{t':Tr sA}{b i n x:Nat}{q:List Nat}{K:T}(hbase:yA.base<=b)(hb:t.get b=none)(ht:bA t t')(ho:eE t' b .u16 (List.replicate (i+1) 0++q))(hq:i+1+q.length=n)
  (hK:∀t2,bA t t2->eE t2 b .u16 (List.replicate i 0++(x::q))->qA yA.base W J K t2 Q) :
  qA yA.base W J (.opt (jB yA 30 (.slice b 0 n n) (.int .i64 (i:Int))) fun a=>.heavy (kE yA 72 a (.int .u16 (x:Int))) fun _=>K) t' Q:=by
 have hlen:(List.replicate (i+1) 0++q).length=n:=by grind
 obtain⟨t1,s1,s2,s3⟩:=ho.store (C:=yA) hbase (j:=i) (by omega) x rL rfl;have hs2:(List.replicate (i+1) 0++q).set i x=List.replicate i 0++(x::q):=by
  grind [List.replicate_succ',set_append_right]
 rw[hs2]at s2;exact lA (zd5 yH (by omega)) (eI fun p _ _=>⟨_,_,s1 p,hK t1 (ht.off hb s3) s2⟩)
theorem QR{bk:Nat}(hu:mA t 1 (cA .u16 a) u)(ha:yB 65536 a)(hla:a.length<900000)(hbase:yA.base<=bk)(hbk:t.get bk=none)
  (hQ:∀t' v' r,bA t t'->mA t' 1 (cA .u16 r) v'->yB 65536 r->val 65536 r=val 65536 a / 2->norm r->Q v' t') :
  ∀(i:Nat) (t':Tr sA) (q:List Nat) (n:Nat),i+q.length=a.length->bA t t'->eE t' bk .u16 (List.replicate i 0++q)->yB 65536 q->n<131072->val 65536 (a.drop i)=2*val 65536 q+n%2 →
   jp 256 2 [u,.slice bk 0 a.length a.length,.int .i64 (n:Int),.int .i64 ((i:Int)-1)] t' Q:=by
 intro i;induction i with
 | zero=>
  intro t' q n hi ht ho hq hn hval;refine zb0 ?_;unfold Qf uH uZ uW;refine dA (fun e=>by grind [pD]) (wB ?_);rw[List.replicate_zero,yah]at ho;have hread:=ho.all (ybk _);rw[show q.length=a.length by omega]at hread;obtain⟨v',h1,h2⟩:=Ki (l:=q) (by omega) hread;rw[q203,h1,wA];refine hQ t' v' (rD q) ht h2 (iQ hq) ?_ (xP q)
  grind [hO]
 | succ i ih=>
  intro t' q n hi ht ho hq hn hval;obtain⟨x,hx⟩:=getElem?_of_lt (l:=a) (i:=i) (by omega);have hxl:=wH ha hx;obtain⟨c,off,g1,g2⟩:=(hu.mono ht).idx yH hx;refine zb0 ?_;unfold Qf uH uZ uW;have hm:Int.tmod (n:Int) 2=((n%2:Nat):Int):=by grind
  have w1:rA .i64 (rA .i64 (Int.tmod (n:Int) 2*65536)+rA .i64 (x:Int))=((n%2*65536+x:Nat):Int):=by
   grind [wrap_i64]
  have w2:rA .u16 (rA .i64 (Int.tdiv ((n%2*65536+x:Nat):Int) 2))=(((n%2*65536+x) / 2:Nat):Int):=by
   grind [wrap_i64,fY]
  rw[show((i+1:Nat):Int)-1=(i:Int) by omega];refine fA (pD.2 (by omega)) (lA g1 (gC g2 (qB ?_)));rw[w1,w2];refine HZ hbase hbk ht ho (by omega) fun t2 h1 h2=>qC ?_;rw[wrap_i64 (by omega) (by omega)];refine ih t2 _ _ (by grind) h1 h2 ?_ (by omega) ?_
  ·intro y hy;rcases ybs.1 hy with rfl | hy
   ·omega
   ·exact hq y hy
  ·rw[drop_cons' hx]
   grind [val]
theorem QQ(hu:mA t 1 (cA .u16 a) u)(ha:yB 65536 a)(hla:a.length<900000)
  (hQ:∀t' v' r,bA t t'->mA t' 1 (cA .u16 r) v'->yB 65536 r->val 65536 r=val 65536 a / 2->norm r->Q v' t'):Wc yA F 256 [u] t Q:=by
 have l1:vB u=some (.int .i64 (a.length:Int)):=by rw[hu.len,bC]
 refine w256 ?_;unfold t256 uI uZ uW;refine lA l1 (qB (eI fun b hb hbase=>?_));obtain⟨t',g1,g2,g3,g4⟩:=vX (C:=yA) (k:=.u16) gS rfl rL rfl rfl (by decide) (n:=a.length) (by omega) hb;refine⟨_,_,g1,lA l1 (qB (qC ?_))⟩;rw[wrap_i64 (by omega) (by omega)];exact QR hu ha hla hbase hb hQ a.length t' [] 0 (by simp) g3 (by simp_all) (fun x hx=>by cases hx) (by omega) (by simp[val])
def w64n{q:Nat}(h:q<65536):rA .i64 (q:Int)=q:=wrap_i64 (by omega) (by omega)
def w16n{q:Nat}(h:q<65536):rA .u16 (q:Int)=q:=fY (by omega) (by omega)
theorem QD{bk d:Nat}(hu:mA t 1 (cA .u16 a) u)(ha:yB 65536 a)(hla:a.length<900000)(hd0:0<d)(hd:d<65536)(hbase:yA.base<=bk)(hbk:t.get bk=none)
  (hQ:∀t' v1 v2 q r,bA t t'->mA t' 1 (cA .u16 (rD q)) v1->mA t' 1 (cA .u16 (rD [r])) v2->yB 65536 q->r<d->val 65536 a=val 65536 q*d+r->Q (.tup [v1,v2]) t') :
  ∀(i:Nat) (t':Tr sA) (q:List Nat) (r:Nat),i+q.length=a.length->bA t t'->eE t' bk .u16 (List.replicate i 0++q)->yB 65536 q->r<d->val 65536 (a.drop i)=val 65536 q*d+r →
   jp 223 2 [u,.int .i64 (d:Int),.slice bk 0 a.length a.length,.int .i64 (r:Int),.int .i64 ((i:Int)-1)] t' Q:=by
 intro i;induction i with
 | zero=>
  intro t' q r hi ht ho hq hr hval;refine zb9 ?_;unfold Qp uI uH uZ uW;refine dA (fun e=>by grind [pD]) (wB ?_);rw[List.replicate_zero,yah]at ho;have hread:=ho.all (ybk _);rw[show q.length=a.length by omega]at hread;obtain⟨v1,h1,h2⟩:=Ki (l:=q) (by omega) hread;rw[q203,h1,wA,fY (by omega) (by omega)];refine eI fun b2 hb2 _=>?_;obtain⟨H1,e1,e2,e3⟩:=fZ (k:=.u16) gS rfl rL rfl rfl r trivial hb2
  refine⟨_,_,e1,wB ?_⟩;obtain⟨v2,h3,h4⟩:=Ki (l:=[r]) (by simp) (e2.all (cap:=1) (ybk _));have h3:lB yA F 203 [.slice b2 0 1 1] H1.t=some v2:=h3;rw[q203,h3,wA];exact hQ H1.t v1 v2 q r (ht.trans e3) (h2.mono e3) h4 hq hr (by simp_all)
 | succ i ih=>
  intro t' q r hi ht ho hq hr hval;obtain⟨x,hx⟩:=getElem?_of_lt (l:=a) (i:=i) (by omega);have hxl:=wH ha hx;obtain⟨c,off,g1,g2⟩:=(hu.mono ht).idx yH hx;refine zb9 ?_;unfold Qp uI uH uZ uW;have hrd:r*65536<65536*65536:=by omega
  have w1:rA .i64 (rA .i64 ((r:Int)*65536)+rA .i64 (x:Int))=((r*65536+x:Nat):Int):=by
   grind [wrap_i64]
  have hqlt:(r*65536+x) / d<65536:=AD hr hxl;have hrlt:(r*65536+x)%d<d:=ycy _ hd0;rw[show((i+1:Nat):Int)-1=(i:Int) by omega];refine fA (pD.2 (by omega)) (lA g1 (gC g2 (qB ?_)));rw[w1];refine lA (Mm hd0 (w64n hqlt)) (qB ?_);rw[w16n hqlt];refine HZ hbase hbk ht ho (by omega) fun t2 h1 h2=>lA (Hm hd0) (qB (qC ?_));rw[wrap_i64 (by omega) (by omega)]
  refine ih t2 _ _ (by grind) h1 h2 ?_ hrlt ?_
  ·intro y hy;rcases ybs.1 hy with rfl | hy
   ·exact hqlt
   ·exact hq y hy
  ·rw[drop_cons' hx]
   grind [val,Nat.div_add_mod]
theorem BA{d:Nat}(hu:mA t 1 (cA .u16 a) u)(ha:yB 65536 a)(hla:a.length<900000)(hd0:0<d)(hd:d<65536)
  (hQ:∀t' v1 v2 q r,bA t t'->mA t' 1 (cA .u16 (rD q)) v1->mA t' 1 (cA .u16 (rD [r])) v2->yB 65536 q->r<d->val 65536 a=val 65536 q*d+r->Q (.tup [v1,v2]) t'):Wc yA F 223 [u,.int .i64 (d:Int)] t Q:=by
 have l1:vB u=some (.int .i64 (a.length:Int)):=by rw[hu.len,bC]
 refine w223 ?_;unfold t223 uI uZ uW;refine lA l1 (qB (eI fun b hb hbase=>?_));obtain⟨t',g1,g2,g3,g4⟩:=vX (C:=yA) (k:=.u16) gS rfl rL rfl rfl (by decide) (n:=a.length) (by omega) hb;refine⟨_,_,g1,lA l1 (qB (qC ?_))⟩;rw[wrap_i64 (by omega) (by omega)];exact QD hu ha hla hd0 hd hbase hb hQ a.length t' [] 0 (by simp) g3 (by simp_all) (fun x hx=>by cases hx) hd0 (by simp[val])
end
end Go.Proofs
namespace Go.Proofs
open Go Go.Am
section
variable [sC]
variable {t tf:Tr sA}
structure sF (l:List Nat):Prop where
 lt:yB 65536 l
 nm:norm l
def Li{l:List Nat}(h:yB 65536 l):sF (rD l):=⟨iQ h,xP l⟩
theorem sF.len{l m:List Nat}(hm:norm m)(h:yB 65536 l)(hv:val 65536 m<=val 65536 l):m.length<=l.length:=nL (by omega) h hm hv
theorem zdo{l m:List Nat}(h:sF l)(hm:sF m)(hv:val 65536 m<=2*val 65536 l):m.length<=l.length+1:=by
 have h1:=oJ (B:=65536) (by omega) h.lt;have:=nL (B:=65536) (l:=l++[1]) (m:=m) (by omega) (gQ h.lt (by omega)) hm.nm (by rw[pJ];omega)
 simp_all
def To{a b:List Nat}(ha:sF a)(hb:sF b):decide (cG a b<0)=decide (val 65536 a<val 65536 b):=by
 congr 1;exact propext (Vu (by omega) ha.lt hb.lt ha.nm hb.nm)
def CO{n m x:Nat}(h:2^n<=x)(k:x<65536^m):n<16*m:=by
 have e:(65536:Nat)^m=2^(16*m):=by rw[Nat.pow_mul]
 rw[e]at k;exact(Nat.pow_lt_pow_iff_right (by omega)).1 (yam h k)
section
variable {a b:List Nat}{u v:zA}{Q:dB}
theorem PW(hu:mA t 1 (cA .u16 a) u)(ha:sF a)(hb:sF b)(hla:a.length<100000)(hb0:0<val 65536 b)
  (hQ:∀(t':Tr sA) (n:Nat),bA t t'->val 65536 a<val 65536 b*2^n->(n=0\/val 65536 b*2^(n-1)<=val 65536 a)->jp 235 6 [u,.int .i64 (n:Int),v,.int .i64 0] t' Q) :
  ∀(k n:Nat) (t':Tr sA) (d:List Nat) (w:zA),val 65536 a<val 65536 d+k->bA t t'->mA t' 1 (cA .u16 d) w->sF d->val 65536 d=val 65536 b*2^n->(n=0\/val 65536 b*2^(n-1)<=val 65536 a) →
   jp 235 2 [u,v,.int .i64 (n:Int),w] t' Q:=by
 intro k;induction k with
 | zero=>
  intro n t' d w hk ht hw hd hval hn;refine zb6 ?_;unfold Ql uB yC uZ;refine wB ?_;rw[q255,Sc (by omega) (hu.mono ht) hw,wA,To ha hd]
  grind [wD,dA,qC]
 | succ k ih=>
  intro n t' d w hk ht hw hd hval hn;refine zb6 ?_;unfold Ql uB yC uZ;refine wB ?_;rw[q255,Sc (by omega) (hu.mono ht) hw,wA,To ha hd];by_cases hlt:val 65536 a<val 65536 d
  ·grind [wD,dA,qC]
  ·refine wD (fA (by simp_all) (wB ?_));have hdl:=sF.len hd.nm ha.lt (by omega);have hd0:0<val 65536 d:=by simp_all [Nat.pow_pos]
   have hn64:n<16*a.length:=by
    refine CO (x:=val 65536 a) ?_ (oJ (by omega) ha.lt);have:1*2^n<=val 65536 b*2^n:=ybi _ hb0;omega
   rw[q201];refine Ku hw hw hd.lt hd.lt (by omega) (by omega) fun t2 w2 r h1 h2 h3 h4 h5=>qC ?_;rw[wrap_i64 (by omega) (by omega),show(n:Int)+1=((n+1:Nat):Int) by omega];refine ih (n+1) t2 r w2 (by omega) (ht.trans h1) h2 ⟨h3,h5 hd.nm hd.nm⟩ (by grind) (.inr (by simp_all))
theorem RU{n:Nat}(ha:sF a)(hla:a.length<100000)(hn64:n<2000000)(hn:n=0\/val 65536 b*2^(n-1)<=val 65536 a)
  (hQ:∀t' w d,bA t t'->mA t' 1 (cA .u16 d) w->sF d->val 65536 d=val 65536 b*2^n->wp 235 (.heavy (bE yA 30 0 []) fun a1=>.heavy (nF yA 30 30 a1 u) fun a2=>.jump 10 [.int .i64 (n:Int),w,.nilslice,a2,.int .i64 0]) t' Q) :
  ∀(k i:Nat) (t':Tr sA) (d:List Nat) (w:zA),i+k=n->bA t t'->mA t' 1 (cA .u16 d) w->sF d->val 65536 d=val 65536 b*2^i →
   jp 235 6 [u,.int .i64 (n:Int),w,.int .i64 (i:Int)] t' Q:=by
 intro k;induction k with
 | zero=>
  intro i t' d w hi ht hw hd hval;refine zb5 ?_;unfold Qk yC uZ;grind [dA,xC]
 | succ k ih=>
  intro i t' d w hi ht hw hd hval;refine zb5 ?_;unfold Qk yC uZ;refine fA (xC.2 (by omega)) (wB ?_);have hle:val 65536 d<=val 65536 a:=by
   rcases hn with e | e
   ·omega
   ·have:val 65536 b*2^i<=val 65536 b*2^(n-1):=ybv _ (yao (by omega) (by omega));omega
  have hdl:=sF.len hd.nm ha.lt hle;rw[q201];refine Ku hw hw hd.lt hd.lt (by omega) (by omega) fun t2 w2 r h1 h2 h3 h4 h5=>qC ?_;rw[wrap_i64 (by omega) (by omega),show(i:Int)+1=((i+1:Nat):Int) by omega];exact ih (i+1) t2 r w2 (by omega) (ht.trans h1) h2 ⟨h3,h5 hd.nm hd.nm⟩ (by grind)
theorem RL{n:Nat}(ha:sF a)(hla:a.length<100000)(hn64:n<2000000)(hb0:0<val 65536 b)
  (hQ:∀t' v1 v2 q r,bA t t'->mA t' 1 (cA .u16 q) v1->mA t' 1 (cA .u16 r) v2->sF q->sF r->val 65536 a=val 65536 q*val 65536 b+val 65536 r->val 65536 r<val 65536 b->Q (.tup [v1,v2]) t') :
  ∀(k:Nat) (t':Tr sA) (d q r:List Nat) (wd wq wr:zA),k<=n->bA t t'->mA t' 1 (cA .u16 d) wd->mA t' 1 (cA .u16 q) wq->mA t' 1 (cA .u16 r) wr->sF d->sF q->sF r →
   val 65536 d=val 65536 b*2^k->val 65536 d<=2*val 65536 a\/k=0->val 65536 a=val 65536 q*val 65536 d+val 65536 r->val 65536 r<val 65536 d →
   jp 235 10 [.int .i64 (n:Int),wd,wq,wr,.int .i64 ((n-k:Nat):Int)] t' Q:=by
 intro k;induction k with
 | zero=>
  intro t' d q r wd wq wr hk ht hd hq hr nd nq nr hval _ hqr hlt;refine GH ?_;unfold Qm uB yC uZ;rw[Nat.pow_zero,Nat.mul_one]at hval;rw[hval]at hqr hlt;exact dA (fun e=>by grind [xC]) (hQ t' wq wr q r ht hq hr nq nr hqr hlt)
 | succ k ih=>
  intro t' d q r wd wq wr hk ht hd hq hr nd nq nr hval h2a hqr hlt;refine GH ?_;unfold Qm uB yC uZ;have hd2:val 65536 d=2*(val 65536 b*2^k):=by grind
  have hp:0<val 65536 b*2^k:=Nat.mul_pos hb0 (Nat.pow_pos (by omega));have hdl:d.length<=a.length+1:=zdo ha nd (by omega);have hql:q.length<=a.length:=sF.len nq.nm ha.lt (by
   have:val 65536 q*1<=val 65536 q*val 65536 d:=ybv _ (by omega);omega)
  have hrl:r.length<=a.length:=sF.len nr.nm ha.lt (by
   omega)
  refine fA (xC.2 (by omega)) (wB ?_);rw[q256];refine QQ hd nd.lt (by omega) fun t1 w1 d1 g1 g2 g3 g4 g5=>wB ?_;have hd1:val 65536 d1=val 65536 b*2^k:=by omega
  have n1:sF d1:=⟨g3,g5⟩;rw[q201];refine Ku (hq.mono g1) (hq.mono g1) nq.lt nq.lt (by omega) (by omega) fun t2 w2 q2 f1 f2 f3 f4 f5=>wB ?_;have nq2:sF q2:=⟨f3,f5 nq.nm nq.nm⟩;have hr2:=(hr.mono g1).mono f1;have hd1r:=g2.mono f1;rw[q255,Sc (by omega) hr2 hd1r,wA,To nr n1];have hidx:((n-(k+1):Nat):Int)+1=((n-k:Nat):Int):=by omega
  have hq2v:val 65536 q2*val 65536 d1=val 65536 q*val 65536 d:=by
   rw[f4,hd1,hd2,ybo,Nat.mul_left_comm (val 65536 q) 2,Nat.two_mul]
  by_cases hl:val 65536 r<val 65536 d1
  ·refine wD (dA (by simp_all) (qC ?_));rw[wrap_i64 (by omega) (by omega),hidx];exact ih t2 d1 q2 r w1 w2 wr (by omega) (ht.trans (g1.trans f1)) hd1r f2 hr2 n1 nq2 nr hd1 (.inl (by omega)) (by omega) hl
  ·refine wD (fA (by simp_all) (wB ?_));rw[q257];refine TW hr2 hd1r nr.lt g3 (by omega) g5 (by omega) fun t3 w3 r3 e1 e2 e3 e4 e5=>eI fun b1 hb1 _=>?_;obtain⟨H1,c1,c2,c3⟩:=fZ (k:=.u16) gS rfl rL rfl rfl 1 trivial hb1;have o1:mA H1.t 1 (cA .u16 [1]) (.slice b1 0 1 1):=c2.all (cap:=1) (ybk _);refine⟨_,_,c1,wB ?_⟩;have hq2l:q2.length<=a.length:=sF.len nq2.nm ha.lt (by
    have:val 65536 q2*1<=val 65536 q2*val 65536 d1:=ybv _ (by omega);omega)
   rw[q201];refine Ku ((f2.mono e1).mono c3) o1 nq2.lt (by intro x hx;simp_all) (by omega) (by simp) fun t4 w4 q4 k1 k2 k3 k4 k5=>qC ?_;rw[wrap_i64 (by omega) (by omega),hidx];have n1':norm [1]:=by intro _;simp
   have v1:val 65536 [1]=1:=rfl;refine ih t4 d1 q4 r3 w1 w4 w3 (by omega) (ht.trans (g1.trans (f1.trans (e1.trans (c3.trans k1))))) (((hd1r.mono e1).mono c3).mono k1) k2 ((e2.mono c3).mono k1) n1 ⟨k3,k5 nq2.nm n1'⟩ ⟨e3,e5⟩ hd1 (.inl (by omega)) ?_ (by omega)
   grind
theorem XM(hu:mA t 1 (cA .u16 a) u)(hv:mA t 1 (cA .u16 b) v)(ha:sF a)(hb:sF b)(hla:a.length<100000)(hlb:b.length<100000)(hne:b≠[])
  (hQ:∀t' v1 v2 q r,bA t t'->mA t' 1 (cA .u16 q) v1->mA t' 1 (cA .u16 r) v2->sF q->sF r->val 65536 a=val 65536 q*val 65536 b+val 65536 r->val 65536 r<val 65536 b->Q (.tup [v1,v2]) t'):Wc yA F 235 [u,v] t Q:=by
 have hb0:0<val 65536 b:=by
  rcases yav (val 65536 b)with e | e
  ·exact absurd (Cl (by omega) hb.nm e) hne
  ·exact e
 refine w235 ?_;unfold t235 uI uH uX uZ uW;refine lA (by rw[hv.len,bC]) (qB ?_);by_cases h1:b.length=1
 ·obtain⟨x,rfl⟩:=List.length_eq_one_iff.1 h1;have hx:=hb.lt x (by simp);have hx0:0<x:=by grind [val]
  obtain⟨c,off,g1,g2⟩:=hv.idx yH (i:=0) (x:=x) rfl;refine fA (gE.2 (by simp)) (lA g1 (gC g2 (qB (wB ?_))));rw[w64n hx,q223];refine BA hu ha.lt (by omega) hx0 hx fun t' v1 v2 q r k1 k2 k3 k4 k5 k6=>lA rfl (lA rfl ?_);have hr:yB 65536 [r]:=by intro y hy;grind
  have e1:val 65536 [x]=x:=by simp[val]
  have e2:val 65536 [r]=r:=by simp[val]
  refine hQ t' v1 v2 _ _ k1 k2 k3 (Li k4) (Li hr) ?_ ?_
  all_goals grind [hO]
 ·refine dA (fun e=>h1 (by grind [gE])) (qC ?_);refine PW hu ha hb hla hb0 (fun t1 n h2 h3 h4=>?_) (val 65536 a+1) 0 t b v (by omega) (bA.refl _) hv hb (by simp) (.inl rfl);have hn64:n<2000000:=by
   rcases h4 with e | e
   ·omega
   ·have:n-1<16*a.length:=by
     refine CO (x:=val 65536 a) ?_ (oJ (by omega) ha.lt);have:1*2^(n-1)<=val 65536 b*2^(n-1):=ybi _ hb0;omega
    omega
  refine RU (t:=t1) (u:=u) (b:=b) ha hla hn64 h4 (fun t2 w d k1 k2 k3 k4=>?_) n 0 t1 b v (by omega) (bA.refl _) (hv.mono h2) hb (by simp);refine eI fun b1 hb1 _=>?_;have hbs:bE yA 30 0 [] ⟨b1,t2⟩=some (.slice b1 0 0 0,sE ⟨b1,t2⟩ [] none):=by
   unfold bE;rw[gS,tA];simp only[sD.asSlice,tA];rw[rL,tA];rfl
  obtain⟨t3,c1,c2,c3,c4⟩:=iZ hb1 [] none;rw[c1]at hbs;refine⟨_,_,hbs,eI fun b2 hb2 _=>?_⟩;obtain⟨c0,c5,_⟩:=c2;have hu3:mA t3 1 (cA .u16 a) u:=((hu.mono h2).mono k1).mono c3;obtain⟨w2,H2,d1,d2,d3,d4⟩:=KI (s:=.slice b1 0 0 0) rl27 hu3 (by rw[bC];omega) hb2 (.inr ⟨b1,_,_,rfl,c5⟩);refine⟨_,_,d1,qC ?_⟩;have hnil:mA H2.t 1 (cA .u16 []) .nilslice:=⟨[],.inl ⟨rfl,rfl⟩,aJ.2 rfl⟩
  have:=RL (t:=t) (b:=b) (Q:=Q) ha hla hn64 hb0 hQ n H2.t d [] a w .nilslice w2 (ybk _) (h2.trans (k1.trans (c3.trans d3))) ((k2.mono c3).mono d3) hnil d2 k3 ⟨(fun x hx=>by cases hx),fun h=>(h rfl).elim⟩ ha k4 ?_ (by simp[val]) (by omega)
  ·rwa [Nat.sub_self]at this
  ·rcases h4 with e | e
   ·omega
   ·left
    rw[k4];have hn1:1<=n\/n=0:=by omega
    rcases hn1 with hn1 | hn1
    ·obtain⟨m,rfl⟩:∃m,n=m+1:=⟨n-1,by omega⟩;rw[Nat.add_sub_cancel]at e;rw[yag,<- ybj];omega
    grind
end
theorem YB{Q:dB}:∀(k:Nat) (t':Tr sA) (a b:List Nat) (u v:zA),val 65536 b<k->bA t t'->mA t' 1 (cA .u16 a) u->mA t' 1 (cA .u16 b) v->sF a->sF b->a.length<100000->b.length<100000 →
  (∀t2 w g,bA t t2->mA t2 1 (cA .u16 g) w->sF g->val 65536 g=Nat.gcd (val 65536 a) (val 65536 b)->Q w t2)->jp 226 2 [u,v] t' Q:=by
 intro k;induction k with
 | zero=>omega
 | succ k ih=>
  intro t' a b u v hk ht hu hv ha hb hla hlb hQ;refine j226_2 ?_;unfold Zc uI uX;refine lA (by rw[hv.len,bC]) (qB ?_);by_cases h0:b=[]
  ·subst h0;refine dA (fun e=>by grind [xC]) ?_;exact hQ t' u a ht hu ha (by simp[val])
  ·have hl0:0<b.length:=List.length_pos_iff.2 h0;refine fA (xC.2 (by omega)) (wB ?_);rw[q235];refine XM hu hv ha hb hla hlb h0 fun t2 v1 v2 q r k1 k2 k3 k4 k5 k6 k7=>lA rfl (lA rfl (qC ?_));refine ih t2 b r v v2 (by omega) (ht.trans k1) (hv.mono k1) k3 hb k5 hlb (by have:=sF.len k5.nm hb.lt (by omega);omega) fun t3 w g e1 e2 e3 e4=>hQ t3 w g e1 e2 e3 ?_;rw[e4,k6,Nat.gcd_comm,ybh,Nat.gcd_comm (val 65536 b*val 65536 q+val 65536 r),Nat.gcd_mul_left_add_right,Nat.gcd_comm]
def YA{a b:List Nat}{u v:zA}{Q:dB}(hu:mA t 1 (cA .u16 a) u)(hv:mA t 1 (cA .u16 b) v)(ha:sF a)(hb:sF b)(hla:a.length<100000)(hlb:b.length<100000)
  (hQ:∀t2 w g,bA t t2->mA t2 1 (cA .u16 g) w->sF g->val 65536 g=Nat.gcd (val 65536 a) (val 65536 b)->Q w t2):Wc yA F 226 [u,v] t Q:=by
 refine w226 ?_;unfold t226;exact qC (YB _ t a b u v (Nat.lt_succ_self _) (bA.refl _) hu hv ha hb hla hlb hQ)
end
section
variable [sC]
variable {t tf:Tr sA}
theorem Rt{neg:Bool}{l:List Nat}{v:zA}(hl:l.length<1125899906842624)(hv:mA t 1 (cA .u16 l) v):lB yA F 179 [.agg [.bool neg,v]] t=some (.bool (sH neg l)):=by
 have l1:vB v=some (.int .i64 (l.length:Int)):=by rw[hv.len,bC]
 refine bB.2 (w179 ?_);unfold t179 sH uI uH zB uZ uW;refine lA l1 (qB ?_);by_cases h0:l=[]
 ·subst h0;exact fA (gE.2 rfl) ⟨by rw[yab rfl],rfl⟩
 ·obtain⟨m,x,rfl⟩:=eZ h0;have hx:(m++[x])[m.length]?=some x:=by simp
  obtain⟨b,off,g1,g2⟩:=hv.idx yH hx;have hlm:m.length<1125899906842624:=by grind
  have e1:rA .i64 ((((m++[x]).length:Nat):Int)-1)=(m.length:Int):=by grind [wrap_i64]
  rw[yaa h0];refine dA (fun e=>by grind [gE]) (lA l1 (qB ?_));by_cases h1:(m++[x]).length<=1024
  ·refine fA (pD.2 (by omega)) (lA l1 (qB ?_));rw[e1];refine lA g1 (gC g2 (qB ⟨?_,rfl⟩))
   simp_all [rP]
  ·refine dA (fun e=>by grind [pD]) ⟨?_,rfl⟩
   grind
theorem BE{l:List Nat}{v:zA}(hv:mA t 1 (cA .u16 l) v):lB yA F 184 [v] t=some (.bool (decide (l=[1]))):=by
 refine bB.2 (w184 ?_);unfold t184 Ff uI uH zB uZ;refine lA (by rw[hv.len,bC]) (qB ?_);by_cases h:l.length=1
 ·obtain⟨x,rfl⟩:=List.length_eq_one_iff.1 h;obtain⟨b,off,g1,g2⟩:=hv.idx yH (i:=0) (x:=x) rfl;refine fA (gE.2 (by simp)) (lA g1 (gC g2 (qB ⟨?_,rfl⟩)));rw[rP];congr 1
  grind
 ·refine dA (fun e=>h (by grind [gE])) ⟨?_,rfl⟩;rw[decide_eq_false];grind
theorem Ou{neg:Bool}{l:List Nat}(h:sH neg l=true)(hl:yB 65536 l):sF l/\l.length<=1024:=by
 refine⟨⟨hl,Ll h⟩,?_⟩
 grind [sH]
theorem PU{f:kC}{u v:zA}(hu:mA t 1 (lC f.n.limbs) u)(hv:mA t 1 (lC f.d.limbs) v)(hf:kC.fit f):lB yA F 183 [.agg [.bool f.n.neg,u,.bool f.d.neg,v]] t=some (.bool (aG f)):=by
 obtain⟨h1,h2,h3⟩:=hf;unfold kC.ok jF at h1;have c1:=Rt (neg:=f.n.neg) (by omega) hu;have c2:=Rt (neg:=f.d.neg) (by omega) hv;have c3:lB yA F 225 [.agg [.bool f.n.neg,u,.bool f.d.neg,v]] t=some (.bool (decide (f.n.limbs.length<=256)&&decide (f.d.limbs.length<=256))):=by
  refine bB.2 (w225 ?_);unfold t225 uI zB;refine lA (by rw[hu.len,vM]) (qB ?_);by_cases g:f.n.limbs.length<=256
  ·refine fA (pD.2 (by omega)) (lA (by rw[hv.len,vM]) (qB ⟨?_,rfl⟩));rw[decide_eq_true g,ycn,kV];congr 1
   grind
  ·refine dA (fun e=>g (by grind [pD])) ⟨?_,rfl⟩
   grind
 refine fN (w183 ?_);unfold t183 uI uB zB;have uF:∀ {b:Bool} (_:aG f=b),wp 183 (.ret (.bool b)) t (fun v' t'=>v'=.bool (aG f)/\∀b y,t.get b=some y->t'.get b=some y):=fun e=>⟨by rw[e],fun _ _ h=>h⟩;refine wB ?_;rw[q179,c1,wA];refine wD ?_
 cases hn:sH f.n.neg f.n.limbs with
 | false=>grind [fA,aG]
 | true=>
 refine dA (by simp) (wB ?_);rw[q179,c2,wA];refine wD ?_
 cases hd:sH f.d.neg f.d.limbs with
 | false=>grind [fA,aG]
 | true=>
 refine dA (by simp) (wB ?_);rw[q225,c3,wA];refine wD ?_
 cases hfit:(decide (f.n.limbs.length<=256)&&decide (f.d.limbs.length<=256))with
 | false=>grind [fA,aG]
 | true=>
 refine dA (by simp) ?_
 cases hg:f.d.neg with
 | true=>grind [fA,aG]
 | false=>
 refine dA (by simp) (lA (by rw[hv.len,vM]) (qB ?_));by_cases h0:f.d.limbs=[]
 ·grind [fA,gE,aG]
 ·have hl0:0<f.d.limbs.length:=List.length_pos_iff.2 h0;refine dA (fun e=>by grind [gE]) (wB ?_);obtain⟨n1,n2⟩:=Ou hn h2;obtain⟨m1,m2⟩:=Ou hd h3;rw[q226];refine YA hu hv n1 m1 (by omega) (by omega) fun t2 w g k1 k2 k3 k4=>wB ?_;rw[q184,BE k2,wA];refine wD ⟨?_,k1⟩;have e1:decide (g=[1])=decide (Nat.gcd (val 65536 f.n.limbs) (val 65536 f.d.limbs)=1):=by
   refine decide_eq_decide.2 ⟨fun e=>?_,fun e=>?_⟩
   ·rw[<- k4,e];rfl
   ·rw[<- k4]at e;have hl:g.length=[1].length:=by
     have a1:=nL (B:=65536) (l:=[1]) (m:=g) (by omega) (by intro x hx;grind) k3.nm (by grind [val]);have a2:=nL (B:=65536) (l:=g) (m:=[1]) (by omega) k3.lt (by intro _;simp) (by grind [val]);omega
    exact Oy (by omega) k3.lt (by intro x hx;grind) hl (by rw[e];rfl)
  rw[e1];unfold aG;rw[hn,hd,hfit,hg,show decide (f.d.limbs≠[])=true from decide_eq_true h0]
  simp_all [sP,val]
theorem Yb{a:List Nat}{u:zA}{Q:dB}(hu:mA t 1 (cA .u16 a) u)(ha:yB 65536 a)(hla:a.length<900000)
  (hQ:∀t' v q,bA t t'->mA t' 1 (cA .u16 q) v->sF q->q.length<=a.length->val 65536 q=val 65536 a / 10->Q (.tup [v,.int .i64 ((val 65536 a%10:Nat):Int)]) t'):Wc yA F 180 [u] t Q:=by
 refine w180 ?_;unfold t180 uI uH uX uZ uW;refine wB ?_;rw[q223,show(10:Int)=((10:Nat):Int) from rfl];refine BA (d:=10) hu ha hla (by omega) (by omega) fun t' v1 v2 q r k1 k2 k3 k4 k5 k6=>lA rfl (lA rfl ?_);have hq:val 65536 (rD q)=val 65536 a / 10:=by rw[hO];omega
 have hr:val 65536 a%10=r:=by omega
 have hql:(rD q).length<=a.length:=by
  have hv:=nL (B:=65536) (l:=a) (m:=rD q) (by omega) ha (xP q) (by omega);exact hv
 rw[hr]at hQ;by_cases h0:r=0
 ·subst h0;refine lA (v:=.int .i64 ((0:Nat):Int)) (by rw[k3.len,bC];rfl) (qB (fA (gE.2 rfl) ?_));exact hQ t' v1 (rD q) k1 k2 (Li k4) hql hq
 ·have hs:rD [r]=[r]:=wZ (by intro _;simp_all);rw[hs]at k3;obtain⟨b,off,g1,g2⟩:=k3.idx yH (i:=0) (x:=r) rfl;refine lA (v:=.int .i64 ((1:Nat):Int)) (by rw[k3.len,bC];rfl) (qB (dA (fun e=>by grind [gE]) (lA g1 (gC g2 (qB ?_)))));rw[wrap_i64 (by omega) (by omega)];exact hQ t' v1 (rD q) k1 k2 (Li k4) hql hq
theorem Sb{x n:Nat}(hx:x<256)(hn:t.get n=none):∃H1,bE yA 90 1 [(0,.int .u8 (x:Int))] ⟨n,t⟩=some (.slice n 0 1 1,H1)/\nJ yA 90 9 ⟨0,H1.t⟩ (.slice n 0 1 1)=some (.str [x])/\bA t H1.t:=by
 obtain⟨H1,c1,c2,c3⟩:=fZ (k:=.u8) pM rfl nN rfl rfl x trivial hn;exact⟨H1,c1,IY pM iL rfl rfl rfl nN rfl (c2.all (cap:=1) (ybk _)) (fun y hy=>by simp_all),c3⟩
theorem Vo{d:Nat}(h:d<10):rA .u8 (rA .i64 (48+(d:Int)))=((48+d:Nat):Int):=by
 grind [wrap_i64,Bf]
def digF (u:Nat)(s:List Nat):List Nat:=if u=0 then(if s=[]then [48]else s)else fD u++s
theorem IQ{u:Nat}{s:List Nat}:digF (u / 10) ([48+u%10]++s)=fD u++s:=by
 grind [digF,Hy,Dh]
theorem QC{neg:Bool}{u0:zA}{D:List Nat}{t0:Tr sA}{Q:dB}(hQ:∀t',bA t0 t'->Q (.tup [.str ((if neg then [45]else [])++D),.int .i64 0]) t')(hD:D.length<1000000) :
  ∀(k:Nat) (t':Tr sA) (q:List Nat) (v:zA) (s:List Nat),val 65536 q<k->bA t0 t'->mA t' 1 (cA .u16 q) v->sF q->q.length<900000->s≠[]->s.length<=D.length->digF (val 65536 q) s=D →
   jp 118 2 [v,.str s,.bool neg,u0] t' Q:=by
 intro k;induction k with
 | zero=>omega
 | succ k ih=>
  intro t' q v s hk ht hv nq hql hs hsl hd;refine j118_2 ?_;unfold Zj uI uS uX uZ uY uW;refine lA (by rw[hv.len,bC]) (qB ?_);by_cases h0:q=[]
  ·subst h0;have e:s=D:=by unfold digF at hd;rw[yab (by rfl),yaa hs]at hd;exact hd
   subst e;refine dA (fun e=>by grind [xC]) ?_;have:=hQ t' ht
   cases neg with
   | true=>
    refine fA rfl (lA (bF (by grind)) (rC ?_));exact this
   | false=>exact dA (by simp) this
  ·have hl0:0<q.length:=List.length_pos_iff.2 h0;have hpos:0<val 65536 q:=by
    rcases yav (val 65536 q)with e | e
    ·exact absurd (Cl (by omega) nq.nm e) h0
    ·exact e
   refine fA (xC.2 (by omega)) (wB ?_);rw[q180];refine Yb hv nq.lt hql fun t2 v2 q2 k1 k2 k3 k4 k5=>lA rfl (lA rfl (qB (eI fun b hb _=>?_)));have hd10:val 65536 q%10<10:=ycy _ (by omega);obtain⟨H1,c1,c2,c3⟩:=Sb (x:=48+val 65536 q%10) (by omega) hb;rw[Vo hd10];have hstep:=IQ (u:=val 65536 q) (s:=s);have hDq:fD (val 65536 q)++s=D:=by grind [digF]
   have hlen:s.length+1<=D.length:=by
    grind [gT]
   refine⟨_,_,c1,gC c2 (rC (lA (bF (by grind)) (rC (qC ?_))))⟩;refine ih H1.t q2 v2 _ (by omega) (ht.trans (k1.trans c3)) (k2.mono c3) k3 (by omega) (by simp) (by grind) ?_;rw[k5,hstep,hDq]
theorem Rw{neg:Bool}{l:List Nat}{v:zA}(hv:mA t 1 (cA .u16 l) v)(hlt:yB 65536 l)(hval:sH neg l=true):lB yA F 118 [.agg [.bool neg,v]] t=some (.tup [.str (jL neg l),.int .i64 0]):=by
 obtain⟨n1,n2⟩:=Ou hval hlt;have hw:=cY (neg:=neg) hlt n2;refine fN (w118 ?_);unfold t118 uI uB uS uX uZ uY uW;refine wB ?_;rw[q179,Rt (by omega) hv,hval,wA];refine wD (dA (by simp) (wB ?_));rw[q180];refine Yb hv hlt (by omega) fun t2 v2 q2 k1 k2 k3 k4 k5=>lA rfl (lA rfl (qB (eI fun b hb _=>?_)));have hd10:val 65536 l%10<10:=ycy _ (by omega)
 obtain⟨H1,c1,c2,c3⟩:=Sb (x:=48+val 65536 l%10) (by omega) hb;rw[Vo hd10];have hDl:(fD (val 65536 l)).length<=10000:=by
  grind [jL,xS]
 refine⟨_,_,c1,gC c2 (rC (qC ?_))⟩;have hstep:=IQ (u:=val 65536 l) (s:=[]);rw[<- k5,ycd,ycd]at hstep;refine QC (t0:=t) (D:=fD (val 65536 l)) (fun t' h=>⟨?_,h⟩) (by omega) _ H1.t q2 v2 [48+val 65536 l%10] (Nat.lt_succ_self _) (k1.trans c3) (k2.mono c3) k3 (by omega) (by simp) (by grind [gT]) hstep;unfold jL xS;cases neg<;>rfl
theorem QS{f:kC}{u v:zA}(hu:mA t 1 (lC f.n.limbs) u)(hv:mA t 1 (lC f.d.limbs) v)(hf:kC.fit f):lB yA F 122 [.agg [.bool f.n.neg,u,.bool f.d.neg,v]] t=some (if aG f then .tup [.str (aE f),.int .i64 0]else .tup [.str [],.int .i64 2]):=by
 have c1:=PU hu hv hf;refine bB.2 (w122 ?_);unfold t122 uI uB uS uX uZ;refine wB ?_;rw[q183,c1,wA];refine wD ?_
 cases hval:aG f with
 | false=>exact fA rfl ⟨rfl,rfl⟩
 | true=>
  obtain⟨p1,p2,p3,p4⟩:=Jb hval;have w1:=cY (neg:=f.n.neg) hf.2.1 p3;have w2:=cY (neg:=f.d.neg) hf.2.2 p4;have hdn:f.d.neg=false:=by
   grind [aG]
  refine dA (by simp) (wB ?_);rw[q118,Rw hu hf.2.1 p1,wA];refine lA rfl (rC (lA rfl (qB (wB ?_))));rw[q184,BE hv,wA];refine wD ?_;by_cases ho:f.d.limbs=[1]
  ·refine fA (decide_eq_true ho) ⟨?_,rfl⟩
   grind [aE,sP]
  ·refine dA (by simp_all) (wB ?_);rw[q118,Rw hv hf.2.2 p2,wA];refine lA rfl (rC (lA rfl (qB (lA (bF (by grind)) (rC (lA (bF (by grind)) (rC ⟨?_,rfl⟩)))))))
   grind [aE,sP]
end
end Go.Proofs
namespace Go.Am
open Go Go.RowKit
def nC (_:Nat)(_:List zA):Option zA:=none
def xM (c j:Nat->List zA->Option zA):T->Option zA
 | .ret v=>some v
 | .ite b x y=>bif b then xM c j x else xM c j y
 | .opt x K=>ob x fun v=>xM c j (K v)
 | .call f a K=>ob (c f a) fun v=>xM c j (K v)
 | .asI k v K=>ob (aZ k v) fun n=>xM c j (K n)
 | .asB v K=>ob v.asBool fun n=>xM c j (K n)
 | .asS v K=>ob v.asStr fun n=>xM c j (K n)
 | .jump i a=>j i a
 | _=>none
def Gs{α β:Type}{x:Option α}{f:α->Option β}{v:β}(h:ob x f=some v):∃a,x=some a/\f a=some v:=by
 cases x with
 | none=>cases h
 | some a=>simp_all
def ev_ok{base:Nat}{W J:oH}{t:Tr sA}{Q:dB}{c j:Nat->List zA->Option zA}(hc:∀f a v R,c f a=some v->R v t->W f a t R)(hj:∀f a v R,j f a=some v->R v t->J f a t R):∀(x:T) {v:zA},xM c j x=some v->Q v t->qA base W J x t Q:=by
 intro x;induction x with
 | ret u=>intro v h q;cases h;exact q
 | ite b x y ihx ihy=>
  intro v h q
  cases b with
  | true=>exact fA rfl (ihx h q)
  | false=>exact dA (by simp) (ihy h q)
 | opt x K ih=>
  intro v h q;obtain⟨a,h1,h2⟩:=Gs h
  grind [lA]
 | call f a K ih=>
  intro v h q;obtain⟨u,h1,h2⟩:=Gs h
  grind [wB]
 | asI k u K ih=>
  intro v h q;obtain⟨a,h1,h2⟩:=Gs h;show oE (aZ k u) _
  simp_all
 | asB u K ih=>
  intro v h q;obtain⟨a,h1,h2⟩:=Gs h;show oE u.asBool _;rw[h1];exact ih a h2 q
 | asS u K ih=>
  intro v h q;obtain⟨a,h1,h2⟩:=Gs h;show oE u.asStr _
  simp_all
 | jump i a=>intro v h q;exact hj i a v Q h q
 | _=>intro v h q;cases h
end Go.Am
namespace Go.Proofs
open Go Go.Am
variable [sC]
variable {t tf:Tr sA}
def Hd(y:Nat):Bool:=decide (y%400=0)||(decide (y%4=0) && !decide (y%100=0))
theorem tmd(x k:Nat)(hk:0<k):iA (Int.tmod (x:Int) (k:Int)) 0=decide (x%k=0):=by
 grind [rP]
def QO(y:Nat):lB yA F 224 [.int .i64 (y:Int)] t=some (.bool (Hd y)):=by
 refine bB.2 (w224 ?_);have h1:=tmd y 400 (by omega);have h2:=tmd y 4 (by omega);have h3:=tmd y 100 (by omega);unfold t224 Hd zB qF;show wp 224 (.ite (iA (Int.tmod (y:Int) ((400:Nat):Int)) 0) _ (.ite (iA (Int.tmod (y:Int) ((4:Nat):Int)) 0) (.ret (.bool (!iA (Int.tmod (y:Int) ((100:Nat):Int)) 0))) _)) t _;rw[h1,h2,h3];cases decide (y%400=0)<;>cases decide (y%4=0)<;>exact⟨rfl,rfl⟩
def bK (y m:Nat):Nat:=if m=2 then(bif Hd y then 29 else 28)else if m=4\/m=6\/m=9\/m=11 then 30 else 31
theorem Sj(y m:Nat):28<=bK y m/\bK y m<=31:=by
 grind [bK]
def Nm(f:Nat)(a:List zA):Option zA:=bif Nat.beq f 224 then(match a with
 | [.int .i64 (.ofNat z)]=>some (.bool (Hd z))
 | _=>none)else none
theorem zbb{f:Nat}{a:List zA}{v:zA}{R:dB}(h:Nm f a=some v)(hR:R v t):Wq yA F jH f a t R:=by
 unfold Nm at h
 cases hf:Nat.beq f 224 with
 | false=>simp_all
 | true=>
  rw[hf,cond_true]at h;have:f=224:=oC.1 hf;subst this;split at h
  ·rename_i z;cases h;have:=QO (t:=t) z;rw[q224,show(zA.int .i64 (Int.ofNat z))=.int .i64 (z:Int) from rfl,this,wA];exact hR
  ·cases h
theorem zc8{y m:Nat}(h1:1<=m)(h2:m<=12):lB yA F 182 [.int .i64 (y:Int),.int .i64 (m:Int)] t=some (.int .i64 (bK y m:Nat)):=by
 refine bB.2 (w182 ?_);have key:∀v,xM Nm nC (t182 (y:Int) (m:Int))=some v->v=.int .i64 (bK y m:Nat)->wp 182 (t182 (y:Int) (m:Int)) t (fun v' t'=>v'=.int .i64 (bK y m:Nat)/\t'=t):=fun v hv he=>ev_ok (fun f a u R hc hR=>zbb hc hR) (fun f a u R hc _=>by cases hc) _ hv ⟨he,rfl⟩;have hm:m=1\/m=2\/m=3\/m=4\/m=5\/m=6\/m=7\/m=8\/m=9\/m=10\/m=11\/m=12:=by omega
 rcases hm with e | e | e | e | e | e | e | e | e | e | e | e
 all_goals subst e
 ·exact key (.int .i64 31) (by kernel_rfl) rfl
 ·have e:xM Nm nC (t182 (y:Int) ((2:Nat):Int))=(bif Hd y then some (.int .i64 29)else some (.int .i64 28)):=by kernel_rfl
  grind [bK]
 ·exact key (.int .i64 31) (by kernel_rfl) rfl
 ·exact key (.int .i64 30) (by kernel_rfl) rfl
 ·exact key (.int .i64 31) (by kernel_rfl) rfl
 ·exact key (.int .i64 30) (by kernel_rfl) rfl
 ·exact key (.int .i64 31) (by kernel_rfl) rfl
 ·exact key (.int .i64 31) (by kernel_rfl) rfl
 ·exact key (.int .i64 30) (by kernel_rfl) rfl
 ·exact key (.int .i64 31) (by kernel_rfl) rfl
 ·exact key (.int .i64 30) (by kernel_rfl) rfl
 ·exact key (.int .i64 31) (by kernel_rfl) rfl
def zK:Nat->Nat->Nat->Nat->Nat × Nat × Nat
 | 0,y,m,l=>(y,m,l+1)
 | k+1,y,m,l=>if bK y m<=l then(if m=12 then zK k (y+1) 1 (l-bK y m)else zK k y (m+1) (l-bK y m))else(y,m,l+1)
theorem Wt:∀(k y m l:Nat),l<k->1<=m->m<=12->y+l<1000000->jp 120 2 [.int .i64 (y:Int),.int .i64 (m:Int),.int .i64 (l:Int)] t (fun v t'=>v=.tup [.int .i64 ((zK k y m l).1:Nat),.int .i64 ((zK k y m l).2.1:Nat),.int .i64 ((zK k y m l).2.2:Nat),.int .i64 0]/\t'=t)/\(zK k y m l).1<=y+l/\(zK k y m l).2.1<=12/\(zK k y m l).2.2<=l+1:=by
 intro k;induction k with
 | zero=>omega
 | succ k ih=>
  intro y m l hk h1 h2 hb;have hl:=Sj y m;have e:=zc8 (t:=t) (y:=y) h1 h2;unfold zK;by_cases hc:bK y m<=l
  ·rw[yab hc];by_cases h12:m=12
   ·rw[yab h12];obtain⟨i1,i2,i3,i4⟩:=ih (y+1) 1 (l-bK y m) (by omega) (by omega) (by omega) (by omega);refine⟨Uj ?_,by omega,by omega,by omega⟩;unfold Jt uI yC uZ uW;refine wB ?_;rw[Gh,e,wA];refine qB (fA (pD.2 (by omega)) (wB ?_));rw[Gh,e,wA];grind [qB,fA,xC,wrap_i64,qC]
   ·rw[yaa h12];obtain⟨i1,i2,i3,i4⟩:=ih y (m+1) (l-bK y m) (by omega) (by omega) (by omega) (by omega);refine⟨Uj ?_,by omega,by omega,by omega⟩;unfold Jt uI yC uZ uW;refine wB ?_;rw[Gh,e,wA];refine qB (fA (pD.2 (by omega)) (wB ?_));rw[Gh,e,wA];grind [qB,dA,xC,wrap_i64,qC]
  ·rw[yaa hc];refine⟨Uj ?_,by simp,by omega,by simp⟩;unfold Jt uI yC uZ uW;refine wB ?_;rw[Gh,e,wA];refine qB (dA (fun x=>by grind [pD]) ⟨?_,rfl⟩);rw[wrap_i64 (by omega) (by omega),show(l:Int)+1=((l+1:Nat):Int) by omega]
def kQ:Nat->Nat->List Nat->List Nat
 | 0,_,s=>s
 | k+1,n,s=>kQ k (n / 10) ([48+n%10]++s)
theorem Vq:∀(k n:Nat) (s:List Nat),(kQ k n s).length=k+s.length
 | 0,n,s=>by simp[kQ]
 | k+1,n,s=>by unfold kQ;rw[Vq k];grind
theorem zay{t0:Tr sA}{v1:Nat}:∀(k n i:Nat) (s:List Nat) (t:Tr sA),i+k=v1->v1<100->s.length<=i->n<1000000000->bA t0 t->jp 121 2 [.int .i64 (n:Int),.int .i64 (v1:Int),.str s,.int .i64 (i:Int)] t (fun v t'=>v=.str (kQ k n s)/\∀b y,t0.get b=some y->t'.get b=some y):=by
 intro k;induction k with
 | zero=>
  intro n i s t hi hv hs hn ht;refine zch ?_;unfold Qx uS yC uZ uY uW;exact dA (fun e=>by grind [xC]) ⟨rfl,ht⟩
 | succ k ih=>
  intro n i s t hi hv hs hn ht;refine zch ?_;unfold Qx uS yC uZ uY uW;have hm:Int.tmod (n:Int) 10=((n%10:Nat):Int):=by grind
  have hd:Int.tdiv (n:Int) 10=((n / 10:Nat):Int):=by simp_all
  rw[hm,hd,Vo (ycy _ (by omega))];refine fA (xC.2 (by omega)) (eI fun b hb _=>?_);obtain⟨H1,c1,c2,c3⟩:=Sb (x:=48+n%10) (by omega) hb;refine⟨_,_,c1,gC c2 (rC (lA (bF (by grind)) (rC (qC ?_))))⟩;rw[wrap_i64 (by omega) (by omega),wrap_i64 (by omega) (by omega),show(i:Int)+1=((i+1:Nat):Int) by omega];exact ih (n / 10) (i+1) _ H1.t (by omega) hv (by grind) (by omega) (ht.trans c3)
def Vp{n k:Nat}(hk:k<100)(hn:n<1000000000):lB yA F 121 [.int .i64 (n:Int),.int .i64 (k:Int)] t=some (.str (kQ k n [])):=by
 refine fN (w121 ?_);unfold t121 uZ;exact qC (zay k n 0 [] t (by omega) hk (by simp) hn (bA.refl _))
theorem ris_ok{n:Int}:lB yA F 60 [.int .i64 n] t=some (.bool (decide (0<=n)&&decide (n<65536))):=by
 refine bB.2 (w60 ?_);unfold t60 zB;by_cases h:0<=n
 ·refine fA (pD.2 h) ⟨?_,rfl⟩;rw[decide_eq_true h,ycn,Cu]
 ·exact dA (fun e=>h (pD.1 e)) ⟨by grind,rfl⟩
def Al(n:Nat):List Nat:=kQ 4 (zK (n+1) 1900 1 n).1 []++[45]++kQ 2 (zK (n+1) 1900 1 n).2.1 []++[45]++kQ 2 (zK (n+1) 1900 1 n).2.2 []
theorem RN{n:Int}:lB yA F 55 [.int .i64 n] t=some (.str (if 0<=n/\n<65536 then Al n.toNat else [])):=by
 refine bB.2 (w55 ?_);unfold t55 uI uS uX uZ;refine wB ?_;have c1:lB yA F 120 [.int .i64 n] t=some (if 0<=n/\n<65536 then .tup [.int .i64 ((zK (n.toNat+1) 1900 1 n.toNat).1:Nat),.int .i64 ((zK (n.toNat+1) 1900 1 n.toNat).2.1:Nat),.int .i64 ((zK (n.toNat+1) 1900 1 n.toNat).2.2:Nat),.int .i64 0]else .tup [.int .i64 0,.int .i64 0,.int .i64 0,.int .i64 2]):=by
  refine bB.2 (w120 ?_);unfold t120 uB uZ;refine wB ?_;rw[q60,ris_ok,wA];refine wD ?_;by_cases h:0<=n/\n<65536
  ·rw[yab h];refine dA (by simp_all) (qC ?_);have:=(Wt (t:=t) (n.toNat+1) 1900 1 n.toNat (by omega) (by omega) (by omega) (by omega)).1
   grind
  ·rw[yaa h];refine fA ?_ ⟨rfl,rfl⟩
   grind
 rw[q120,c1,wA];by_cases h:0<=n/\n<65536
 ·rw[yab h,yab h];obtain⟨_,b1,b2,b3⟩:=Wt (t:=t) (n.toNat+1) 1900 1 n.toNat (by omega) (by omega) (by omega) (by omega);unfold Al;generalize zK (n.toNat+1) 1900 1 n.toNat=r at *;obtain⟨y,m,d⟩:=r;simp only at b1 b2 b3 ⊢;have l4:∀n:Nat,(kQ 4 n []).length=4:=fun n=>by rw[Vq];rfl
  have l2:∀n:Nat,(kQ 2 n []).length=2:=fun n=>by rw[Vq];rfl
  refine lA rfl (qB (lA rfl (qB (lA rfl (qB (lA rfl (qB (dA (by grind [gE]) (wB ?_)))))))));rw[q121,show(4:Int)=((4:Nat):Int) from rfl,Vp (by omega) (by omega),wA];refine rC (lA (bF (by grind)) (rC (wB ?_)));rw[q121,show(2:Int)=((2:Nat):Int) from rfl,Vp (by omega) (by omega),wA];refine rC (lA (bF (by simp_all)) (rC (lA (bF (by simp_all)) (rC (wB ?_)))))
  rw[q121,Vp (by omega) (by omega),wA];exact rC (lA (bF (by simp_all)) (rC ⟨rfl,rfl⟩))
 ·rw[yaa h,yaa h];exact lA rfl (qB (lA rfl (qB (lA rfl (qB (lA rfl (qB (fA rfl ⟨rfl,rfl⟩))))))))
end Go.Proofs
namespace Go.Proofs
open Go Go.Am
section
variable [sC]
variable {t tf:Tr sA}
theorem zdi{neg:Bool}{l:List Nat}{v:zA}(hv:mA t 1 (cA .u16 l) v):lB yA F 181 [.bool neg,v] t=some (.agg [.bool (neg&&decide (0<l.length)),v]):=by
 refine bB.2 (w181 ?_);unfold t181 uI kD;have h1:∀b:Bool,vF zA.one [.bool b,v]=true:=fun b=>by rw[aI];simp only[ycg,yck,hv.one];rfl
 cases neg with
 | true=>
  refine fA rfl (lA (by rw[hv.len,bC]) (qB ?_));have e:iB 0 (l.length:Int)=decide (0<l.length):=by grind [Cu]
  rw[e];exact fA (h1 _) (fA (h1 _) ⟨rfl,rfl⟩)
 | false=>exact dA (by simp) (fA (h1 _) (fA (h1 _) ⟨rfl,rfl⟩))
def tm65i(x:Nat):rA .u16 (Int.tmod (x:Int) 65536)=((x%65536:Nat):Int):=by
 rw[tm65,fY (by omega) (by omega)]
theorem VY{t0:Tr sA}{n:Int}{w0:Bool}{v0:zA}{Q:dB}(hn1 : -2147483649<n)(hn2:n<2147483649)
  (hQ:∀t' v l,bA t0 t'->mA t' 1 (cA .u16 l) v->sF l->l.length<=4->val 65536 l=n.natAbs->Q (.agg [.bool (decide (n<0)),v]) t') :
  ∀(j u:Nat) (t:Tr sA) (P:List Nat) (w:zA),P.length+j=4->u<65536^j->bA t0 t->pY yA.base t0 t 1 (cA .u16 P) w->yB 65536 P->(u=0->norm P)->val 65536 P+65536^P.length*u=n.natAbs →
   jp 119 2 [.int .i64 n,.int .u64 (u:Int),w,.bool w0,v0] t Q:=by
 have uF:∀(t:Tr sA) (P:List Nat) (w:zA),P.length<=4->bA t0 t->pY yA.base t0 t 1 (cA .u16 P) w->yB 65536 P->norm P->val 65536 P=n.natAbs->jp 119 2 [.int .i64 n,.int .u64 0,w,.bool w0,v0] t Q:=by
  intro t P w hP ht hw hPl hnm hval;refine zci ?_;unfold Qy uG kD uZ pN oN;refine dA (fun e=>by grind [xC]) (wB ?_);have hr:=hw.read ht;have hm:=zdi (t:=t) (neg:=iB n 0) hr;rw[q181];refine Wc_pv hm ?_;have e:(iB n 0&&decide (0<P.length))=decide (n<0):=by
   grind [Cu,List.length_eq_zero_iff,val]
  rw[e];have hrd:RD t (mE.d ⟨decide (n<0),P⟩) [.bool (decide (n<0)),w]:=by
   unfold mE.d;rw[mL];exact⟨[[.bool (decide (n<0))],[w]],rfl,tJ.2 ⟨_,_,rfl,rY.2 rfl,tJ.2 ⟨_,_,rfl,vN.2 ⟨_,rfl,hr⟩,aJ.2 rfl⟩⟩⟩
  refine wI (wJ hrd (mE.zs _)) (fA hrd.all ?_);exact hQ t w P ht hr ⟨hPl,hnm⟩ hP hval
 intro j;induction j with
 | zero=>
  grind
 | succ j ih=>
  intro u t P w hP hu ht hw hPl hnm hval;by_cases h0:u=0
  ·grind
  ·refine zci ?_;unfold Qy uG kD uZ pN oN;have hu64:u<18446744073709551616:=by
    have:65536^(j+1)<=65536^4:=yao (by omega) (by omega);omega
   refine fA (xC.2 (by omega)) ?_;rw[tm65i,td65,rF (by omega) (by omega)];refine Sl hw ht (by omega) fun t2 w2 h1 h2=>qC ?_;refine ih (u / 65536) t2 _ w2 (by grind) ?_ h2 h1 (gQ hPl (by omega)) (fun e=>?_) ?_
   ·omega
   ·intro hne
    grind
   ·rw[pJ,ybg,List.length_singleton,yag,ybj]
    grind [Nat.mod_add_div]
theorem zeb{n:Int}{Q:dB}(hn1 : -2147483649<n)(hn2:n<2147483649)
  (hQ:∀t' v l,bA t t'->mA t' 1 (cA .u16 l) v->sF l->l.length<=4->val 65536 l=n.natAbs->Q (.agg [.bool (decide (n<0)),v]) t'):Wc yA F 119 [.int .i64 n] t Q:=by
 refine w119 ?_;unfold t119 uZ;have key:∀m:Int,m=(n.natAbs:Int)->jp 119 9 [.int .i64 n,.int .u64 m,.bool false,.nilslice] t Q:=fun m hm=>by
  refine j119_9 ?_;unfold Zi uZ;refine qC ?_;rw[hm];exact VY hn1 hn2 hQ 4 n.natAbs t [] .nilslice rfl (by omega) (bA.refl _) Ha (fun x hx=>by cases hx) (fun _ h=>(h rfl).elim) (by simp[val])
 grind [fA,xC,qC,Eu,dA]
def oT(n:Int):List Nat:=(if n<0 then [109,105,110,117,115,32]else [])++fD n.natAbs
theorem LU{neg:Bool}{l:List Nat}(h:sF l)(hl:l.length<=1024)(hn:neg=true->l≠[]):sH neg l=true:=by
 unfold sH;split
 ·simp_all
 ·rename_i hne;rw[decide_eq_true hl,ycn];obtain⟨m,x,rfl⟩:=eZ hne;have:=h.nm (by simp)
  simp_all
theorem VJ{n:Int}(hn1 : -2147483649<n)(hn2:n<2147483649):lB yA F 54 [.int .i64 n] t=some (.str (oT n)):=by
 refine fN (w54 ?_);unfold t54 uI uS uG uX uZ oN;refine wB ?_;rw[q119];refine zeb hn1 hn2 fun t' v l k1 k2 k3 k4 k5=>?_;have hrd:RD t' (mE.d ⟨decide (n<0),l⟩) [.bool (decide (n<0)),v]:=by
  unfold mE.d;rw[mL];exact⟨[[.bool (decide (n<0))],[v]],rfl,tJ.2 ⟨_,_,rfl,rY.2 rfl,tJ.2 ⟨_,_,rfl,vN.2 ⟨_,rfl,k2⟩,aJ.2 rfl⟩⟩⟩
 refine wI (wJ hrd (mE.zs _)) (wB ?_);have hv:=LU (neg:=decide (n<0)) k3 (by omega) (fun h e=>by
  grind [val])
 have ht:lB yA F 118 [.agg [.bool (decide (n<0)),v]] t'=_:=Rw k2 k3.lt hv;have hl:=Ai (u:=n.natAbs) (k:=11) (by omega) (by omega);rw[q118];show oE (lB yA F 118 [.agg [.bool (decide (n<0)),v]] t') _;rw[ht,wA];unfold oT jL xS;rw[k5];refine lA rfl (rC (lA rfl (qB ?_)));by_cases h:n<0
 ·rw[decide_eq_true h,yab rfl,yab h];have hs:=Jy (s:=[45]++fD n.natAbs) (k:=1) (by simp);exact fA (xC.2 h) (lA hs (rC (lA (bF (by grind)) (rC ⟨rfl,k1⟩))))
 ·rw[decide_eq_false h,yaa (by simp),yaa h];exact dA (fun e=>h (xC.1 e)) ⟨rfl,k1⟩
def gK(f:kC):List Nat:=if (aG f&&decide ((if dJ (aE f) [45]then(aE f).drop 1 else aE f).length<=200))=true then kH (aE f)else []
theorem HK(f:kC):∃x l,aE f=x::l:=by
 unfold aE jL xS;have:=gT (val 65536 f.n.limbs)
 cases f.n.neg with
 | true=>simp_all
 | false=>
  cases h:fD (val 65536 f.n.limbs)with
  | nil=>simp_all
  | cons x l=>simp_all
theorem Ho{x:Nat}{l:List Nat}:dJ (x::l) [45]=decide (x=45):=by
 grind [dJ,fH]
theorem OV{f:kC}{u v:zA}(hu:mA t 1 (lC f.n.limbs) u)(hv:mA t 1 (lC f.d.limbs) v)(hf:kC.fit f):lB yA F 56 [.agg [.bool f.n.neg,u,.bool f.d.neg,v]] t=some (.str (gK f)):=by
 have c1:=QS hu hv hf;refine bB.2 (w56 ?_);unfold t56 uI uU uS uX uZ;refine wB ?_;rw[q122,c1,wA]
 cases hval:aG f with
 | false=>
  refine lA rfl (rC (lA rfl (qB (fA rfl ⟨?_,rfl⟩))));unfold gK;rw[hval,yaa (by simp)]
 | true=>
  have hl:=Ms hf hval;unfold gK;rw[hval,ycn];obtain⟨x,l,hx⟩:=HK f;rw[yab rfl,hx];rw[hx]at hl;refine lA rfl (rC (lA rfl (qB (dA (by grind [gE]) ?_))));have hi:=Hk (s:=x::l) (i:=0) (x:=x) rfl;rw[show((0:Nat):Int)=0 from rfl]at hi;refine lA hi (qB ?_);unfold kH;rw[Ho];simp at hl;have uF:∀(s m:List Nat),s.length<=30000->m.length<=10->jp 56 17 [.str s,.str m] t (fun v' t'=>v'=.str (if (decide (s.length<=200))=true then m++s else [])/\t'=t):=fun s m h1 h2=>by
   refine j56_17 ?_;unfold Yq uS;by_cases h:s.length<=200
   ·rw[decide_eq_true h,yab rfl];exact dA (fun e=>by grind [xC,bI]) (lA (bF (by omega)) (rC ⟨rfl,rfl⟩))
   ·rw[decide_eq_false h,yaa (by simp)];exact fA (xC.2 (by rw[bI];omega)) ⟨rfl,rfl⟩
  by_cases h45:x=45
  ·simp only[decide_eq_true h45,if_true];have hs:=Jy (s:=x::l) (k:=1) (by simp);refine fA (gE.2 (by omega)) (lA hs (rC (qC ?_)))
   grind
  ·simp only[decide_eq_false h45,ybq,if_false];refine dA (fun e=>h45 (by grind [gE])) (qC ?_);have:=uF (x::l) [] (by grind) (by simp)
   rwa [yah]at this
theorem IN:∀(k u:Nat),(fD u).length<=k->u<10^k
 | 0,u,h=>by grind [gT]
 | k+1,u,h=>by
  by_cases hs:u<10
  ·grind
  ·rw[Dh hs,ybg,List.length_singleton]at h;have:=IN k (u / 10) (by omega);omega
def pow_42:10^200<=65536^42:=Nat.le_of_ble_eq_true (by kernel_rfl)
theorem WN{l:List Nat}(h:norm l)(hd:(fD (val 65536 l)).length<=200):l.length<=42:=by
 by_cases h0:l=[]
 ·grind
 ·have h1:=IN 200 _ hd;have h2:=Bk (B:=65536) h h0;have h3:=pow_42;rcases yau 42 l.length with e | e
  ·have:65536^42<=65536^(l.length-1):=yao (by omega) (by omega);omega
  ·exact e
theorem CE{f:kC}(hf:f.fit):rR f=(aG f&&decide ((if dJ (aE f) [45]then(aE f).drop 1 else aE f).length<=200)):=by
 unfold rR
 cases hval:aG f with
 | false=>simp
 | true=>
  obtain⟨p1,p2,p3,p4⟩:=Jb hval;rw[Bool.and_true,ycn];by_cases h:(if dJ (aE f) [45]then(aE f).drop 1 else aE f).length<=200
  ·have hn:(fD (val 65536 f.n.limbs)).length<=200/\(sP f.d=true\/(fD (val 65536 f.d.limbs)).length<=200):=by
    have hr:(if dJ (aE f) [45]then(aE f).drop 1 else aE f)=fD (val 65536 f.n.limbs)++(if sP f.d then []else 47::jL f.d.neg f.d.limbs):=by
     have hfr:aE f=(if f.n.neg then [45]else [])++(fD (val 65536 f.n.limbs)++(if sP f.d then []else 47::jL f.d.neg f.d.limbs)):=by
      unfold aE;rw[show jL f.n.neg f.n.limbs=(if f.n.neg then [45]else [])++fD (val 65536 f.n.limbs) from rfl,ybz]
     rw[hfr]
     cases f.n.neg with
     | true=>
      grind [Ho]
     | false=>
      show(if dJ (fD _++_) [45]=true then _ else fD _++_)=_
      cases hd:fD (val 65536 f.n.limbs)with
      | nil=>grind [gT]
      | cons x l=>
       have hx:=Dg (val 65536 f.n.limbs) x (by grind);rw[List.cons_append,Ho,decide_eq_false (by omega),yaa (by simp)]
    grind [jL,xS]
   grind [WN,Ll,sP]
  grind
theorem OW{f:kC}(hf:f.fit):cC (gK f) [] = !rR f:=by
 unfold gK;rw[<- CE hf]
 cases h:rR f with
 | false=>rw[yaa (by simp)];rfl
 | true=>
  rw[yab rfl]
  cases hq:cC (kH (aE f)) []with
  | false=>rfl
  | true=>
   exfalso;have:=(fH _ _).1 hq;unfold kH at this;obtain⟨x,l,hx⟩:=HK f
   grind
end
section
variable [sC]
variable {t tf:Tr sA}
def BF{n:Nat}:lB yA F 123 [.int .u8 (n:Int)] t=some (.bool (zL n)):=by
 refine bB.2 (w123 ?_);unfold t123 zL zB qF;have e1:decide (97<=(n:Int))=decide (97<=n):=decide_eq_decide.2 (by omega);have e2:decide ((n:Int)<=122)=decide (n<=122):=decide_eq_decide.2 (by omega);have e3:decide (65<=(n:Int))=decide (65<=n):=decide_eq_decide.2 (by omega);have e4:decide ((n:Int)<=90)=decide (n<=90):=decide_eq_decide.2 (by omega);rw[kV,kV,kV,kV,e1,e2,e3,e4];cases decide (97<=n)<;>cases decide (n<=122)<;>cases decide (65<=n)<;>cases decide (n<=90)<;>exact⟨rfl,rfl⟩
def RM{n:Nat}:lB yA F 197 [.int .u8 (n:Int)] t=some (.bool (Cs n)):=by
 refine bB.2 (w197 ?_);unfold t197 Cs zB;have e1:decide (48<=(n:Int))=decide (48<=n):=decide_eq_decide.2 (by omega);have e2:decide ((n:Int)<=57)=decide (n<=57):=decide_eq_decide.2 (by omega);rw[kV,kV,e1,e2];cases decide (48<=n)<;>cases decide (n<=57)<;>exact⟨rfl,rfl⟩
theorem BC{n:Nat}:lB yA F 185 [.int .u8 (n:Int)] t=some (.bool (zM n)):=by
 refine bB.2 (w185 ?_);unfold t185 zM uB qF uY;refine wB ?_;rw[q123,BF,wA];refine wD ?_
 cases zL n with
 | true=>exact fA rfl ⟨rfl,rfl⟩
 | false=>
  refine dA (by simp) (wB ?_);rw[q197,RM,wA];refine wD ?_
  cases Cs n with
  | true=>exact fA rfl ⟨rfl,rfl⟩
  | false=>
   refine dA (by simp) ⟨?_,rfl⟩;rw[rP];congr 1
   grind
theorem BQ{s:List Nat}{i:Nat}:lB yA F 149 [.str s,.int .i64 (i:Int)] t=some (.int .u8 (s[i]?.getD 0:Nat)):=by
 refine bB.2 (w149 ?_);unfold t149 uU uZ uY;by_cases h:i<s.length
 ·obtain⟨x,hx⟩:=getElem?_of_lt h;rw[hx];exact fA (xC.2 (by rw[bI];omega)) (lA (Hk hx) (qB ⟨rfl,rfl⟩))
 ·rw[List.getElem?_eq_none (by omega)];exact dA (fun e=>h (by grind [xC,bI])) ⟨rfl,rfl⟩
theorem PS{s:List Nat}(hs:s.length<1000000):∀(k i:Nat),i+k=s.length->jp 124 2 [.str s,.int .i64 (i:Int)] t (fun v t'=>v=.int .i64 ((i+((s.drop i).takeWhile zM).length:Nat):Int)/\t'=t):=by
 intro k;induction k with
 | zero=>
  intro i hi;refine zcg ?_;unfold Qw uU uB yC uZ uY;refine wB ?_;rw[q149,BQ,wA,List.getElem?_eq_none (by omega)];refine qB (wB ?_);rw[q185,BC,wA];refine wD (dA (by decide) ⟨?_,rfl⟩)
  simp_all
 | succ k ih=>
  intro i hi;obtain⟨x,hx⟩:=getElem?_of_lt (l:=s) (i:=i) (by omega);refine zcg ?_;unfold Qw uU uB yC uZ uY;refine wB ?_;rw[q149,BQ,wA,hx];refine qB (wB ?_);rw[q185,show(Option.getD (some x) 0)=x from rfl,BC,wA];have hd:s.drop i=x::s.drop (i+1):=Go.Am.drop_cons' hx;rw[hd,List.takeWhile_cons];refine wD ?_
  cases hw:zM x with
  | true=>
   refine fA rfl (qC ?_);rw[wrap_i64 (by omega) (by omega),show(i:Int)+1=((i+1:Nat):Int) by omega];refine Jq.mono (ih (i+1) (by omega)) fun v t' h=>⟨?_,h.2⟩;rw[h.1,yab rfl,ybn];grind
  | false=>
   refine dA (by simp) ⟨?_,rfl⟩
   simp_all
def PQ{s:List Nat}(hs:s.length<1000000):lB yA F 124 [.str s,.int .i64 0] t=some (.int .i64 (((dK zM s).length:Nat):Int)):=by
 refine bB.2 (w124 ?_);unfold t124 uZ;refine qC ?_;have:=PS (t:=t) hs s.length 0 (by omega);rw[ycr,ybw]at this;exact this
def oZ:List (List Nat):=[[112,108,97,110],[102,97,99,116],[100,101,102],[116,97,98,108,101],[114,111,119],[99,108,97,117,115,101],[111,110,101],[116,119,111],[102,114,111,109],[116,111],[101,110,100],[107,110,111,119,110],[111,102,102],[119,104,101,110],[116,104,101,110],[105,115],[116,114,117,116,104],[110,117,109,98,101,114],[109,111,110,101,121],[100,97,116,101],[100,97,121,115],[109,111,110,116,104,115],[116,114,117,101],[102,97,108,115,101],[109,105,110,117,115],[116,111,100,97,121],[97,116],[104,97,115],[108,111,111,107],[109,105,110],[109,97,120],[105,102],[114,111,117,110,100],[98,101,116,119,101,101,110],[115,101,114,118,105,99,101],[98,101,115,116],[103,114,111,119],[115,116,97,114,116],[97,110,100],[111,114],[110,111,116],[100,111,119,110],[117,112],[102,108,111,111,114],[99,101,105,108],[104,97,108,102],[101,118,101,110]]
def Fr(l:List (List Nat)):List D:=l.map D.str
theorem LK{Q:dB}(hQ:∀t' v,bA t t'->mA t' 1 (Fr oZ) v->Q v t'):Wc yA F 186 [] t Q:=by
 refine w186 ?_;unfold t186;refine eI fun b hb _=>?_;obtain⟨t',h1,h2,h3,h4⟩:=Lr (C:=yA) (T:=42) (el:=9) (sz:=1) (n:=47) (ps:=(List.range 47).zip (oZ.map zA.str)) (cl:=oZ.map fun s=>[zA.str s]) ty42 rfl iL rfl rfl (by decide) (by kernel_rfl) (fun i cs hi=>by
  grind) (by kernel_rfl) hb
 refine⟨_,_,h1,?_⟩;refine hQ t' _ h3 ⟨_,h2,?_⟩;have:∀l:List (List Nat),tC t' (Fr l) (l.map fun s=>[zA.str s]):=by
  intro l;induction l with
  | nil=>exact aJ.2 rfl
  | cons s l ih=>exact tJ.2 ⟨_,_,rfl,Il.2 rfl,ih⟩
 simp_all
theorem QY{s:List Nat}{W:List (List Nat)}{v:zA}{t0:Tr sA}(ht:bA t0 t)(hv:mA t 1 (Fr W) v)(hW:W.length<1000):∀(k i:Nat),i+k=W.length->jp 125 2 [.str s,v,.int .i64 (i:Int)] t (fun r t'=>r=.bool ((W.drop i).any fun w=>cC w s)/\∀b y,t0.get b=some y->t'.get b=some y):=by
 have hl:vB v=some (.int .i64 (W.length:Int)):=by rw[hv.len];simp[Fr]
 intro k;induction k with
 | zero=>
  intro i hi;refine zcf ?_;unfold Qv uI uS yC zB qF uZ;refine lA hl (qB (dA (nG (by omega)) ⟨?_,ht⟩))
  simp_all
 | succ k ih=>
  intro i hi;have hlt:i<W.length:=by omega
  have hx:W[i]?=some W[i]:=ybd hlt;obtain⟨b,off,cs,g1,g2,g3,g4,g5⟩:=yF.at sl42 (by simp) hv (i:=i) (d:=.str W[i]) (by simp[Fr,hx]);have hcs:cs=[.str W[i]]:=Il.1 g5;subst hcs;refine zcf ?_;unfold Qv uI uS yC zB qF uZ;refine lA hl (qB (fA (pG (by omega)) (lA g1 (gC g2 (rC ?_)))));rw[ybl hlt,List.any_cons]
  cases he:cC W[i] s with
  | true=>exact fA rfl ⟨rfl,ht⟩
  | false=>
   refine dA (by simp) (qC ?_);rw[wrap_i64 (by omega) (by omega),show(i:Int)+1=((i+1:Nat):Int) by omega,Bool.false_or];exact ih (i+1) (by omega)
def CM:∀ {p l:List Nat},zS p l=true->l.take p.length=p
 | [],l,_=>rfl
 | x::p,[],h=>by cases h
 | x::p,y::l,h=>by
  have h:(Nat.beq x y&&zS p l)=true:=by
   revert h;show(bif Nat.beq x y then zS p l else false)=true->_;cases Nat.beq x y<;>exact id
  rw[ybb]at h;have e:x=y:=oC.1 h.1;rw[ybn,List.take_succ_cons,CM h.2,e]
theorem JB:∀ {l p:List Nat},p≠[]->xW p l=true->∃i,i<l.length/\zS p (l.drop i)=true
 | [],p,hp,h=>by
  cases p with
  | nil=>simp_all
  | cons=>cases h
 | y::l,p,hp,h=>by
  unfold xW at h
  cases hq:zS p (y::l)with
  | true=>exact⟨0,by simp,hq⟩
  | false=>
   rw[hq,cond_false]at h;obtain⟨i,h1,h2⟩:=JB hp h;exact⟨i+1,by simp_all,h2⟩
def Vv(n:Nat):Bool:=(List.range (zQ n).length).all fun i => !(((zQ n).drop (i+1)).take n).all zL || !decide (((((zQ n).drop (i+1)).take n)).length=n) || !decide ((zQ n)[i]?=some 32) || !decide ((zQ n)[i+n+1]?=some 32)||oZ.any fun w=>cC w (((zQ n).drop (i+1)).take n)
def zet:([2,3,4,5,6,7].all Vv)=true:=by kernel_rfl
def ze0:(oZ.all eU)=true:=by kernel_rfl
theorem res_eq{s:List Nat}:(oZ.any fun w=>cC w s)=eU s:=by
 cases h:eU s with
 | false=>
  cases hq:oZ.any fun w=>cC w s with
  | false=>rfl
  | true=>
   obtain⟨w,h1,h2⟩:=List.any_eq_true.1 hq;have:=ycb.1 ze0 w h1
   grind [fH]
 | true=>
  unfold eU at h;simp only[ybb,decide_eq_true_eq]at h;obtain⟨⟨⟨h1,h2⟩,h3⟩,h4⟩:=h;have h3:=(fH _ _).1 h3;obtain⟨i,hi,hp⟩:=JB (by simp) h4;have hn:s.length=2\/s.length=3\/s.length=4\/s.length=5\/s.length=6\/s.length=7:=by omega
  have hc:Vv s.length=true:=ycb.1 zet s.length (by rcases hn with e | e | e | e | e | e<;>rw[e]<;>simp);generalize hW:zQ s.length=T at *;have hpt:=CM hp;have e32:([32]++s++[32]:List Nat).length=s.length+2:=by simp
  rw[e32]at hpt;have g1:T[i]?=some 32:=by
   have:=congrArg (fun l=>l[0]?) hpt
   grind
  have g2:(T.drop (i+1)).take s.length=s:=by
   have:=congrArg (fun l=>(l.drop 1).take s.length) hpt
   grind [List.drop_take,List.drop_drop]
  have g3:T[i+s.length+1]?=some 32:=by
   have:=congrArg (fun l=>l[s.length+1]?) hpt
   grind
  unfold Vv at hc;rw[hW]at hc;have:=ycb.1 hc i (List.mem_range.2 hi);rw[g2,g1,g3]at this;have hl:s.all zL=true:=by
   rw[ycb];intro x hx;have h5:∀(l:List Nat),x∈l.takeWhile zL->zL x=true:=by
    intro l;induction l with
    | nil=>simp_all
    | cons z l ih=>
     intro h;rw[List.takeWhile_cons]at h;split at h
     all_goals grind
   grind [dK]
  simp_all
theorem QE{s:List Nat}:lB yA F 125 [.str s] t=some (.bool (eU s)):=by
 refine fN (w125 ?_);unfold t125 uZ;refine wB ?_;rw[q186];refine LK fun t' v h1 h2=>qC ?_;have:=QY (s:=s) (t0:=t) h1 h2 (by decide) 47 0 rfl
 grind [res_eq]
theorem QL{s:List Nat}:lB yA F 58 [.str s] t=some (.bool (qR s)):=by
 refine bB.2 (w58 ?_);unfold t58 uI uU uB zB uZ uY
 cases s with
 | nil=>exact dA (fun e=>by grind [pD,bI]) ⟨rfl,rfl⟩
 | cons x r=>
  have hN:qR (x::r)=(decide ((x::r).length<=24)&&zL x&&cC (dK zM (x::r)) (x::r) && !eU (x::r)):=rfl;rw[hN];refine fA (pD.2 (by grind [bI])) ?_;by_cases h1:(x::r).length<=24
  ·rw[decide_eq_true h1,ycn];have hx:=Hk (s:=x::r) (i:=0) (x:=x) rfl;rw[show((0:Nat):Int)=0 from rfl]at hx;refine fA (pD.2 (by rw[bI];omega)) (lA hx (qB (wB ?_)));rw[q123,BF,wA];refine wD ?_
   cases h2:zL x with
   | false=>exact dA (by simp) ⟨rfl,rfl⟩
   | true=>
    refine fA rfl (wB ?_);rw[q124,PQ (by omega),wA];refine qB ?_;have e3:cC (dK zM (x::r)) (x::r)=decide ((dK zM (x::r)).length=(x::r).length):=by
     cases hq:cC (dK zM (x::r)) (x::r)with
     | true=>grind [fH]
     | false=>
      refine(decide_eq_false fun e=>?_).symm;have:dK zM (x::r)=x::r:=by
       unfold dK at e  ⊢;exact(List.takeWhile_prefix _).eq_of_length e
      grind [fH]
    rw[e3];by_cases h3:(dK zM (x::r)).length=(x::r).length
    ·rw[decide_eq_true h3];refine fA (zI (by rw[bI];omega)) (wB ?_);rw[q125,QE,wA];exact wD ⟨rfl,rfl⟩
    ·rw[decide_eq_false h3];exact dA (mG (by rw[bI];omega)) ⟨rfl,rfl⟩
  ·rw[decide_eq_false h1];exact dA (fun e=>h1 (by grind [pD,bI])) ⟨rfl,rfl⟩
end
section
variable [sC]
def xH:Nat->Nat
 | 0=>0
 | M+1=>xH M+bK (1900+M / 12) (M%12+1)
def chkS:Nat->Nat->Nat->Bool
 | 0,_,_=>true
 | k+1,M,c=>iA (yR (M:Int)) (c:Int)&&chkS k (M+1) (c+bK (1900+M / 12) (M%12+1))
def za9:chkS 2155 0 0=true:=by kernel_rfl
def JH:∀(k M:Nat),chkS k M (xH M)=true->∀j,j<k->yR ((M+j:Nat):Int)=(xH (M+j):Nat)
 | 0,_,_,j,hj=>by omega
 | k+1,M,h,j,hj=>by
  unfold chkS at h;rw[ybb]at h;rcases j with _ | j
  ·exact(vS _ _).1 h.1
  ·have:=JH k (M+1) h.2 j (by omega);rw[show M+1+j=M+(j+1) by omega]at this;exact this
def Zu{M:Nat}(h:M<2155):yR (M:Int)=(xH M:Nat):=by
 have:=JH 2155 0 za9 M h
 rwa [ybw]at this
def IV{a b:Nat}(h:a<=b):xH a<=xH b:=by
 induction h with
 | refl=>exact ybk _
 | step _ ih=>exact Nat.le_trans ih (Nat.le_add_right _ _)
def za4:Nat.blt 65535 (xH 2154)=true:=by kernel_rfl
def Wu:∀(j M n k:Nat),xH (M+j)<=n->n<xH (M+j+1)->n-xH M<k->zK k (1900+M / 12) (M%12+1) (n-xH M)=(1900+(M+j) / 12,(M+j)%12+1,n-xH (M+j)+1)
 | 0,M,n,k,h1,h2,h3=>by
  obtain⟨k,rfl⟩:∃k',k=k'+1:=⟨k-1,by omega⟩;simp only[yct]at h1 h2 ⊢;have h2:n<xH M+bK (1900+M / 12) (M%12+1):=h2;unfold zK;rw[yaa (by omega)]
 | j+1,M,n,k,h1,h2,h3=>by
  obtain⟨k,rfl⟩:∃k',k=k'+1:=⟨k-1,by omega⟩;have hm:=IV (show M+1<=M+(j+1) by omega);have e:xH (M+1)=xH M+bK (1900+M / 12) (M%12+1):=rfl;have hb:=Sj (1900+M / 12) (M%12+1);have ih:=Wu j (M+1) n k (by rw[show M+1+j=M+(j+1) by omega];exact h1) (by rw[show M+1+j+1=M+(j+1)+1 by omega];exact h2) (by omega);rw[show M+1+j=M+(j+1) by omega,e,<- Nat.sub_sub]at ih;unfold zK;rw[yab (by omega)]
  by_cases h12:M%12+1=12
  ·rw[yab h12,<- ih,show 1900+M / 12+1=1900+(M+1) / 12 by omega,show(1:Nat)=(M+1)%12+1 by omega];congr 1;omega
  ·rw[yaa h12,<- ih,show 1900+(M+1) / 12=1900+M / 12 by omega,show(M+1)%12+1=M%12+1+1 by omega]
def Rm{P:Int->Bool}(hP:∀x y:Nat,x<=y->y<2154->P (y:Int)=false->P (x:Int)=false) :
  ∀(k i j:Nat),j-i<=k->i<=j->j<=2154->(∀x:Nat,x<i->P (x:Int)=false)->(j<2154->P (j:Int)=true) →
   ∃r:Nat,rZ P k i j=(r:Int)/\r<=2154/\(∀x:Nat,x<r->P (x:Int)=false)/\(r<2154->P (r:Int)=true)
 | 0,i,j,h1,h2,h3,h4,h5=>⟨i,rfl,by omega,h4,by rw[show i=j by omega];exact h5⟩
 | k+1,i,j,h1,h2,h3,h4,h5=>by
  unfold rZ;by_cases h:i<j
  ·rw[yab h];by_cases hp:P (((i+j) / 2:Nat):Int)=true
   ·rw[yab hp];exact Rm hP k i _ (by omega) (by omega) (by omega) h4 fun _=>hp
   ·rw[yaa hp];exact Rm hP k _ j (by omega) (by omega) h3 (fun x hx=>hP x _ (by omega) (by omega) (Bool.eq_false_iff.2 hp)) h5
  ·rw[yaa h];exact⟨i,rfl,by omega,h4,by rw[show i=j by omega];exact h5⟩
def TR{n:Nat}(hn:n<65536):∃M:Nat,bN (n:Int)=(M:Int)/\M<2154/\xH M<=n/\n<xH (M+1):=by
 have hP:∀y:Nat,y<2154->iB (n:Int) (yR (rA .i64 ((y:Int)+1)))=decide (n<xH (y+1)):=fun y hy=>by
  rw[wrap_i64 (by omega) (by omega),show(y:Int)+1=((y+1:Nat):Int) by omega,Zu (by omega)];by_cases h:n<xH (y+1)
  ·rw[decide_eq_true h];exact(oX _ _).2 (by omega)
  ·rw[decide_eq_false h];exact Bool.eq_false_iff.2 fun hh=>h (by have:=(oX _ _).1 hh;omega)
 obtain⟨r,h1,h2,h3,h4⟩:=Rm (P:=fun m=>iB (n:Int) (yR (rA .i64 (m+1)))) (fun x y hxy hy h=>by
  simp only[hP y hy,decide_eq_false_iff_not]at h;simp only[hP x (by omega),decide_eq_false_iff_not];have:=IV (show x+1<=y+1 by omega);omega) 2154 0 2154 (by omega) (by omega) (by omega) (fun x hx=>by omega) (fun h=>by omega)
 have hl:=vC.1 za4;have hr:r<2154:=by
  refine Nat.lt_of_not_le fun h=>?_;have:=h3 2153 (by omega);simp only[hP 2153 (by omega),decide_eq_false_iff_not]at this;have e:xH (2153+1)=xH 2154:=rfl;rw[e]at this;omega
 refine⟨r,h1,hr,?_,?_⟩
 ·rcases r with _ | r
  ·exact yaw _
  ·have:=h3 r (by omega);simp only[hP r (by omega),decide_eq_false_iff_not]at this;omega
 ·have:=h4 hr;simpa only[hP r hr,decide_eq_true_eq]using this
def iW{k x i:Nat}{l:List Nat}(hx:x<1000000000):rM (k+1) (x:Int) i l=rM k ((x / 10:Nat):Int) (i-1) (l.set i (48+x%10)):=by
 have e1:Int.tdiv (x:Int) 10=((x / 10:Nat):Int):=by rw[Int.tdiv_eq_ediv_of_nonneg (by omega)];omega
 have e2:iT (x:Int)=48+x%10:=by
  unfold iT;rw[Int.tmod_eq_emod_of_nonneg (by omega)];omega
 show rM k (rA .i64 (Int.tdiv (x:Int) 10)) (i-1) (l.set i (iT x))=_;rw[e1,e2,wrap_i64 (by omega) (by omega)]
def zba{n:Nat}(hn:n<65536):yN (n:Int)=Al n:=by
 obtain⟨M,h1,h2,h3,h4⟩:=TR hn;have hy:=Wu M 0 n (n+1) (by rw[ybw];exact h3) (by rw[ybw];exact h4) (by show n-0<_;omega);simp only[ybw,Nat.zero_div,Nat.zero_mod,yct]at hy;have hy:zK (n+1) 1900 1 n=(1900+M / 12,M%12+1,n-xH M+1):=hy;have hb:=Sj (1900+M / 12) (M%12+1);have e:xH (M+1)=xH M+bK (1900+M / 12) (M%12+1):=rfl;unfold yN Al;rw[hy,h1,Zu (by omega)];have e1:Int.tdiv (M:Int) 12=((M / 12:Nat):Int):=by rw[Int.tdiv_eq_ediv_of_nonneg (by omega)];omega
 have e2:Int.tmod (M:Int) 12=((M%12:Nat):Int):=by rw[Int.tmod_eq_emod_of_nonneg (by omega)];omega
 rw[e1,e2,wrap_i64 (n:=(n:Int)-(xH M:Nat)) (by omega) (by omega),wrap_i64 (n:=((M / 12:Nat):Int)) (by omega) (by omega),wrap_i64 (by omega) (by omega),wrap_i64 (by omega) (by omega),wrap_i64 (by omega) (by omega)];rw[show(n:Int)-(xH M:Nat)+1=((n-xH M+1:Nat):Int) by omega,show((M%12:Nat):Int)+1=((M%12+1:Nat):Int) by omega,show(1900:Int)+((M / 12:Nat):Int)=((1900+M / 12:Nat):Int) by omega];have b1:1900+M / 12<10000:=by omega
 have b2:M%12+1<100:=by omega
 have b3:n-xH M+1<100:=by omega
 clear hy h1 h3 h4 hb e e1 e2;generalize 1900+M / 12=y at *;generalize M%12+1=m at *;generalize n-xH M+1=d at *;rw[iW (by omega),iW (by omega),iW (by omega),iW (by omega),iW (by omega),iW (by omega),iW (by omega),iW (by omega)];simp[rM,kQ]
end
section
variable [sC]
variable {t tf:Tr sA}
def Ht{f:Nat}{x:T}{v:zA}(h:xM nC nC x=some v):wp f x t (fun u t'=>u=v/\t'=t):=ev_ok (fun f a u R hc _=>by cases hc) (fun f a u R hc _=>by cases hc) x h ⟨rfl,rfl⟩
def Ib(op:Nat):Nat:=bif Nat.blt op 27 && !Nat.beq (tB op).style 0 then(tB op).least else 1
def Ic(op:Nat):Nat:=bif Nat.blt op 27 && !Nat.beq (tB op).style 0 then(tB op).most else 0
def zbg:((List.range 256).map fun(op:Nat)=>xM nC nC (entT yA (fo 138) (ko 138) 81 (ao 138) [.int .u8 (op:Int)]))=(List.range 256).map fun op=>some (.tup [.int .i64 (Ib op:Nat),.int .i64 (Ic op:Nat)]):=by kernel_rfl
def zey{op:Nat}(h:op<256):lB yA F 138 [.int .u8 (op:Int)] t=some (.tup [.int .i64 (Ib op:Nat),.int .i64 (Ic op:Nat)]):=
 bB.2 (ze3 (jA 138) (by kernel_rfl) (Ht (List.map_inj_left.1 zbg op (List.mem_range.2 h))))
def TP:((List.range 27).map fun op=>xM nC nC (t139 (op:Nat)))=(List.range 27).map fun op=>some (.bool (tB op).named):=by kernel_rfl
def QK{op:Nat}(h:op<27):lB yA F 139 [.int .u8 (op:Int)] t=some (.bool (tB op).named):=
 bB.2 (w139 (Ht (List.map_inj_left.1 TP op (List.mem_range.2 h))))
theorem AS{f:kC}{u v:zA}(hu:mA t 1 (lC f.n.limbs) u)(hv:mA t 1 (lC f.d.limbs) v):lB yA F 72 [.agg [.bool f.n.neg,u,.bool f.d.neg,v]] t=some (.bool (qN f)):=by
 refine bB.2 (w72 ?_);unfold t72 qN uI zB
 cases f.n.neg with
 | true=>exact dA (by simp) ⟨rfl,rfl⟩
 | false=>
  refine fA rfl (lA (by rw[hu.len,vM]) (qB ?_));by_cases h1:f.n.limbs.length=0
  ·refine fA (gE.2 (by omega)) ?_
   cases f.d.neg with
   | true=>exact dA (by simp) ⟨by simp,rfl⟩
   | false=>
    refine fA rfl (lA (by rw[hv.len,vM]) (qB ⟨?_,rfl⟩))
    simp_all [rP]
  ·refine dA (fun e=>h1 (by grind [gE])) ⟨?_,rfl⟩
   simp_all
def AC{f:kC}(h:cC (gK f) []=false):gK f=kH (aE f):=by
 unfold gK at h ⊢
 cases hc:(aG f&&decide ((if dJ (aE f) [45]then(aE f).drop 1 else aE f).length<=200))with
 | true=>rw[yab rfl]
 | false=>rw[hc,yaa (by simp)]at h;cases h
def GQ{n:Int}:oT n=kH (eJ n):=by
 unfold oT kH;by_cases h:n<0
 ·obtain⟨u,rfl⟩:∃u:Nat,n = -(u:Int):=⟨n.natAbs,by omega⟩;rw[yab h,Uk (by omega),Ho,yab (by simp),show(-(u:Int)).natAbs=u by omega];rfl
 ·obtain⟨u,rfl⟩:∃u:Nat,n=(u:Int):=⟨n.toNat,by omega⟩;rw[yaa h,Mg,show((u:Int)).natAbs=u by omega,yah];have hr:=Dg u
  cases hd:fD u with
  | nil=>have:=gT u;rw[hd]at this;simp at this
  | cons x l=>
   rw[Ho,yaa];have:=hr x (by rw[hd];exact .head _);simp;omega
theorem Rs{a:oD}{u v:zA}(hu:mA t 1 (lC a.f.n.limbs) u)(hv:mA t 1 (lC a.f.d.limbs) v)(hf:kC.fit a.f):∃s,lB yA F 30 [.agg [.int .u8 (a.kind:Int),.bool a.f.n.neg,u,.bool a.f.d.neg,v,.int .i64 a.i]] t=some (.str s)/\cC s [] = !fF a/\(fF a=true->s=rH a):=by
 have v2:a.kind=2->cC (gK a.f) []=false->gK a.f=rH a:=fun k h=>by
  rw[AC h];unfold rH qM;rw[yaa (by omega),yab k]
 have v3:a.kind=3->cC (gK a.f) []=false->[109,111,110,101,121,32]++gK a.f=rH a:=fun k h=>by
  rw[AC h];unfold rH qM;rw[yaa (by omega),yaa (by omega),yab k]
 have v10:a.kind=1->a.i=0->[102,97,108,115,101]=rH a:=fun k h=>by unfold rH qM;rw[yab k,yaa (by omega)]
 have v11:a.kind=1->a.i=1->[116,114,117,101]=rH a:=fun k h=>by unfold rH qM;rw[yab k,yab h]
 have v4:a.kind=4->0<=a.i/\a.i<65536->Al a.i.toNat=rH a:=fun k h=>by
  have e:a.i=((a.i.toNat:Nat):Int):=by omega
  unfold rH qM;rw[yaa (by omega),yaa (by omega),yaa (by omega),yab k];have:=zba (n:=a.i.toNat) (by omega);rw[<- e]at this;exact this.symm
 have v5:a.kind=5->(-1048576<=a.i/\a.i<=1048576)->oT a.i++[32,100,97,121,115]=rH a:=fun k _=>by
  rw[GQ];unfold rH qM;rw[yaa (by omega),yaa (by omega),yaa (by omega),yaa (by omega),yab k]
 have v6:a.kind=6->(-1048576<=a.i/\a.i<=1048576)->oT a.i++[32,109,111,110,116,104,115]=rH a:=fun k _=>by
  rw[GQ];unfold rH qM;rw[yaa (by omega),yaa (by omega),yaa (by omega),yaa (by omega),yaa (by omega),yab k]
 have nil:cC [] []=true:=rfl;have mk:∀s b,wp 30 (t30 (a.kind:Int) a.i u v a.f.n.neg a.f.d.neg) t (fun v' t'=>v'=.str s/\t'=t)->cC s [] = !b->fF a=b->(b=true->s=rH a)->∃s,lB yA F 30 [.agg [.int .u8 (a.kind:Int),.bool a.f.n.neg,u,.bool a.f.d.neg,v,.int .i64 a.i]] t=some (.str s)/\cC s [] = !fF a/\(fF a=true->s=rH a):=fun s b h1 h2 h3 h4=>⟨s,bB.2 (w30 h1),by rw[h3];exact h2,fun h=>h4 (h3 ▸ h)⟩
 have c100:=OV hu hv hf;have hsn:=OW hf;have hsl:(gK a.f).length<=300:=by
  unfold gK;grind [kH]
 have ky:∀j:Nat,a.kind=j->iA (a.kind:Int) (j:Int)=true:=fun j h=>zI (by omega);have kn:∀j:Nat,a.kind≠j->iA (a.kind:Int) (j:Int)≠true:=fun j h=>mG (by omega);by_cases k2:a.kind=2
 ·have hp:fF a=(decide (a.i=0)&&rR a.f):=by unfold fF;rw[yab (.inl k2)]
  cases hs:cC (gK a.f) []with
  | true=>
   refine mk [] false (fA (ky 2 k2) (wB ?_)) rfl ?_ (fun h=>by cases h)
   ·rw[q56,c100,wA];exact rC (fA hs ⟨rfl,rfl⟩)
   simp_all
  | false=>
   by_cases h0:a.i=0
   ·refine mk (gK a.f) true (fA (ky 2 k2) (wB ?_)) hs ?_ (fun _=>v2 k2 hs)
    ·rw[q56,c100,wA];exact rC (dA (by grind) (dA (by grind [zI]) (dA (kn 3 (by omega)) ⟨rfl,rfl⟩)))
    simp_all
   ·refine mk [] false (fA (ky 2 k2) (wB ?_)) rfl ?_ (fun h=>by cases h)
    ·rw[q56,c100,wA];exact rC (dA (by grind) (fA (by grind [mG]) ⟨rfl,rfl⟩))
    simp_all
 by_cases k3:a.kind=3
 ·have hp:fF a=(decide (a.i=0)&&rR a.f):=by unfold fF;rw[yab (.inr k3)]
  cases hs:cC (gK a.f) []with
  | true=>
   refine mk [] false (dA (kn 2 k2) (fA (ky 3 k3) (wB ?_))) rfl ?_ (fun h=>by cases h)
   ·rw[q56,c100,wA];exact rC (fA hs ⟨rfl,rfl⟩)
   simp_all
  | false=>
   by_cases h0:a.i=0
   ·refine mk ([109,111,110,101,121,32]++gK a.f) true (dA (kn 2 k2) (fA (ky 3 k3) (wB ?_))) rfl ?_ (fun _=>v3 k3 hs)
    ·rw[q56,c100,wA];exact rC (dA (by grind) (dA (by grind [zI]) (fA (ky 3 k3) (lA (bF (by grind)) (rC ⟨rfl,rfl⟩)))))
    simp_all
   ·refine mk [] false (dA (kn 2 k2) (fA (ky 3 k3) (wB ?_))) rfl ?_ (fun h=>by cases h)
    ·rw[q56,c100,wA];exact rC (dA (by grind) (fA (by grind [mG]) ⟨rfl,rfl⟩))
    simp_all
 have hz:=AS hu hv;have hp0:fF a=(qN a.f&&fF { a with f:=⟨⟨false,[]⟩,⟨false,[]⟩⟩ }):=by
  grind [qN,fF]
 have hd:∀(x:T),wp 30 x t (fun v' t'=>v'=zA.str []/\t'=t)->qN a.f=false->True:=fun _ _ _=>trivial
 cases hzz:qN a.f with
 | false=>
  refine mk [] false (dA (kn 2 k2) (dA (kn 3 k3) (wB ?_))) rfl (by simp_all) (fun h=>by cases h);rw[q72,hz,hzz,wA];exact wD (fA rfl ⟨rfl,rfl⟩)
 | true=>
  have go:∀s b,wp 30 (.ite (iA (a.kind:Int) 1) (.ite (iA a.i 0) (.ret (.str [102,97,108,115,101])) (.ite (iA a.i 1) (.ret (.str [116,114,117,101])) (.ret (.str []))))
 (.ite (iA (a.kind:Int) 4)
 (.call 55 [(.int .i64 a.i)] fun a10=>
 .asS a10 fun s11=>.ret (.str s11))
 (.ite (iA (a.kind:Int) 5)
 (.ite (uC (-1048576) a.i)
 (.ite (uC a.i 1048576)
 (.call 54 [(.int .i64 a.i)] fun a12=>
 .asS a12 fun s13=>.opt (iE s13 [32,100,97,121,115]) fun a14=>.asS a14 fun s15=>.ret (.str s15))
 (.ret (.str [])))
 (.ret (.str [])))
 (.ite (iA (a.kind:Int) 6)
 (.ite (uC (-1048576) a.i)
 (.ite (uC a.i 1048576)
 (.call 54 [(.int .i64 a.i)] fun a16=>
 .asS a16 fun s17=>.opt (iE s17 [32,109,111,110,116,104,115]) fun a18=>.asS a18 fun s19=>.ret (.str s19))
 (.ret (.str [])))
 (.ret (.str [])))
 (.ret (.str [])))))) t (fun v' t'=>v'=.str s/\t'=t)->cC s [] = !b->fF a=b->(b=true->s=rH a)->∃s,lB yA F 30 [.agg [.int .u8 (a.kind:Int),.bool a.f.n.neg,u,.bool a.f.d.neg,v,.int .i64 a.i]] t=some (.str s)/\cC s [] = !fF a/\(fF a=true->s=rH a):=fun s b h1 h2 h3 h4=>by
   refine mk s b (dA (kn 2 k2) (dA (kn 3 k3) (wB ?_))) h2 h3 h4;rw[q72,hz,hzz,wA];exact wD (dA (by simp) h1)
  have np:∀ {s:List Nat},s≠[]->cC s []=false:=fun {s} h=>by
   grind [fH]
  have hpv:fF a=(if a.kind=1 then(decide (a.i=0)||decide (a.i=1))else if a.kind=4 then(decide (0<=a.i)&&decide (a.i<65536))else if a.kind=5\/a.kind=6 then(decide (-1048576<=a.i)&&decide (a.i<=1048576))else false):=by
   grind [fF]
  by_cases k1:a.kind=1
  ·rw[yab k1]at hpv;by_cases i0:a.i=0
   ·exact go _ true (fA (ky 1 k1) (fA (zI i0) ⟨rfl,rfl⟩)) rfl (by simp_all) (fun _=>v10 k1 i0)
   ·by_cases i1:a.i=1
    ·exact go _ true (fA (ky 1 k1) (dA (mG i0) (fA (zI i1) ⟨rfl,rfl⟩))) rfl (by simp_all) (fun _=>v11 k1 i1)
    ·exact go [] false (fA (ky 1 k1) (dA (mG i0) (dA (mG i1) ⟨rfl,rfl⟩))) rfl (by simp_all) (fun h=>by cases h)
  rw[yaa k1]at hpv;by_cases k4:a.kind=4
  ·rw[yab k4]at hpv;have c:=RN (t:=t) (n:=a.i);by_cases hd:0<=a.i/\a.i<65536
   ·rw[yab hd]at c;refine go _ true (dA (kn 1 k1) (fA (ky 4 k4) (wB ?_))) (np (s:=Al a.i.toNat) ?_) (by simp_all) (fun _=>v4 k4 hd)
    ·rw[q55,c,wA];exact rC ⟨rfl,rfl⟩
    ·unfold Al;simp
   ·rw[yaa hd]at c;refine go [] false (dA (kn 1 k1) (fA (ky 4 k4) (wB ?_))) rfl ?_ (fun h=>by cases h)
    ·rw[q55,c,wA];exact rC ⟨rfl,rfl⟩
    grind
  rw[yaa k4]at hpv;by_cases hr : -1048576<=a.i/\a.i<=1048576
  ·have c:=VJ (t:=t) (n:=a.i) (by omega) (by omega);have hl:=Ai (u:=a.i.natAbs) (k:=11) (by omega) (by omega);have hil:(oT a.i).length<=100:=by
    unfold oT;split<;>simp<;>omega
   by_cases k5:a.kind=5
   ·rw[yab (.inl k5)]at hpv;refine go (oT a.i++[32,100,97,121,115]) true (dA (kn 1 k1) (dA (kn 4 k4) (fA (ky 5 k5) (fA (pD.2 hr.1) (fA (pD.2 hr.2) (wB ?_)))))) (np (by simp)) (by simp_all) (fun _=>v5 k5 hr);rw[q54,c,wA];exact rC (lA (bF (by grind)) (rC ⟨rfl,rfl⟩))
   by_cases k6:a.kind=6
   ·rw[yab (.inr k6)]at hpv;refine go (oT a.i++[32,109,111,110,116,104,115]) true (dA (kn 1 k1) (dA (kn 4 k4) (dA (kn 5 k5) (fA (ky 6 k6) (fA (pD.2 hr.1) (fA (pD.2 hr.2) (wB ?_))))))) (np (by simp)) (by simp_all) (fun _=>v6 k6 hr);rw[q54,c,wA];exact rC (lA (bF (by grind)) (rC ⟨rfl,rfl⟩))
   rw[yaa (by omega)]at hpv;exact go [] false (dA (kn 1 k1) (dA (kn 4 k4) (dA (kn 5 k5) (dA (kn 6 k6) ⟨rfl,rfl⟩)))) rfl hpv (fun h=>by cases h)
  ·have hb:(decide (-1048576<=a.i)&&decide (a.i<=1048576))=false:=by
    simp_all
   rw[hb]at hpv;simp only[ite_self]at hpv;refine go [] false (dA (kn 1 k1) (dA (kn 4 k4) ?_)) rfl hpv (fun h=>by cases h);have inn:∀x y:T,wp 30 (.ite (uC (-1048576) a.i) (.ite (uC a.i 1048576) x (.ret (.str []))) (.ret (.str []))) t (fun v' t'=>v'=zA.str []/\t'=t):=fun x _=>by
    by_cases h : -1048576<=a.i
    ·exact fA (pD.2 h) (dA (fun e=>by grind [pD]) ⟨rfl,rfl⟩)
    ·exact dA (fun e=>h (pD.1 e)) ⟨rfl,rfl⟩
   by_cases k5:a.kind=5
   ·exact fA (ky 5 k5) (inn _ .fail)
   by_cases k6:a.kind=6
   ·exact dA (kn 5 k5) (fA (ky 6 k6) (inn _ .fail))
   exact dA (kn 5 k5) (dA (kn 6 k6) ⟨rfl,rfl⟩)
def PT{a:oD}{u v:zA}(hu:mA t 1 (lC a.f.n.limbs) u)(hv:mA t 1 (lC a.f.d.limbs) v)(hf:kC.fit a.f):∃s,lB yA F 30 [.agg [.int .u8 (a.kind:Int),.bool a.f.n.neg,u,.bool a.f.d.neg,v,.int .i64 a.i]] t=some (.str s)/\cC s [] = !fF a:=by
 obtain⟨s,h1,h2,_⟩:=Rs hu hv hf;exact⟨s,h1,h2⟩
end
section
variable [sC]
variable {t tf:Tr sA}
section
variable {op:Nat}{name:List Nat}{v:oD}{args:List pA}{a b c:zA}
theorem OZ{d:Nat}(hop:op<256)(hd:d<=25)(hl:vB c=some (.int .i64 (args.length:Int)))(hlen:args.length<1125899906842624)
  (hK:d<=24->cM op name args.length=true->jp 70 19 [.int .i64 ((25-d:Nat):Int),.int .u8 (op:Int),.str name,.int .u8 (v.kind:Int),.bool v.f.n.neg,a,.bool v.f.d.neg,b,.int .i64 v.i,c] t (fun v' t'=>v'=.bool (if op=1 then fF v else dT op v&&xK args (d+1))/\t'=t)) :
  lB yA F 70 [.agg [.int .u8 (op:Int),.str name,.int .u8 (v.kind:Int),.bool v.f.n.neg,a,.bool v.f.d.neg,b,.int .i64 v.i,c],.int .i64 ((25-d:Nat):Int)] t=some (.bool (dG (.mk op name v args) d)):=by
 refine bB.2 (w70 ?_);unfold t70 uI uB zB uX uZ uY;refine wB ?_;rw[q138,zey hop,wA];refine lA rfl (qB (lA rfl (qB ?_)));have hE:dG (.mk op name v args) d=(decide (d<=24)&&cM op name args.length&&(if op=1 then fF v else dT op v&&xK args (d+1))):=by rw[dG]
 by_cases h24:d<=24
 case neg=>
  refine fA (pG (by omega)) ⟨?_,rfl⟩
  simp_all
 refine dA (nG (by omega)) (lA hl (qB ?_));rw[decide_eq_true h24,ycn]at hE;have no:cM op name args.length=false->∀ {t':Tr sA},t'=t->wp 70 (.ret (.bool false)) t' (fun v' t'=>v'=.bool (dG (.mk op name v args) d)/\t'=t):=fun h t' e=>⟨by simp_all,e⟩;by_cases h27:op<27/\(tB op).style≠0
 ·have hcond:(Nat.blt op 27 && !Nat.beq (tB op).style 0)=true:=by
   grind [vC,oC]
  have e1:Ib op=(tB op).least:=by unfold Ib;rw[hcond,cond_true]
  have e2:Ic op=(tB op).most:=by unfold Ic;rw[hcond,cond_true]
  rw[e1,e2];have hH:cM op name args.length=(decide ((tB op).least<=args.length)&&decide (args.length<=(tB op).most)&&(if (tB op).named=true then qR name else cC name [])):=by
   grind [cM]
  by_cases h1:(tB op).least<=args.length
  case neg=>grind [fA,pG]
  refine dA (nG (by omega)) (lA hl (qB ?_));by_cases h2:args.length<=(tB op).most
  case neg=>grind [fA,pG]
  refine dA (nG (by omega)) (wB ?_);rw[decide_eq_true h1,decide_eq_true h2,ycn,ycn]at hH;rw[q139,QK h27.1,wA];refine wD ?_
  cases hn:(tB op).named with
  | true=>
   rw[hn,yab rfl]at hH;refine fA rfl (wB ?_);rw[q58,QL,wA];refine wD ?_
   cases hN:qR name with
   | false=>grind [fA]
   | true=>
    simp_all [dA,qC]
  | false=>
   rw[hn,yaa (by simp)]at hH;refine dA (by simp) ?_
   cases hN:cC name []with
   | false=>grind [fA]
   | true=>
    simp_all [dA,qC]
 ·have hcond:(Nat.blt op 27 && !Nat.beq (tB op).style 0)=false:=by
   simp_all
  grind [Ib,Ic,cM,fA,pG,dA,lA,qB]
end
mutual
theorem AG:∀(x:pA) (d:Nat) (cs:List zA),x.fit->d<=25->RD t x.d cs->lB yA F 70 [.agg cs,.int .i64 ((25-d:Nat):Int)] t=some (.bool (dG x d))
 | .mk op name v args,d,cs,hfit,hd,hr=>by
  obtain⟨a,b,c,rfl,ha,hb,hc⟩:=cK hr;simp only[pA.op,pA.name,pA.v,pA.args]at ha hb hc ⊢;have hfit':=hfit;unfold pA.fit at hfit';have hf:=hfit'.2.2.2.1.2.1;have hlen:=hfit'.2.2.2.2.1;unfold jF at hlen;refine OZ hfit'.1 hd (by rw[hc.len,ybf]) hlen fun h24 hH=>?_;refine j70_19 ?_;unfold Yo uB uS zB uZ uY;by_cases h1:op=1
  ·rw[yab h1];obtain⟨s,s1,s2⟩:=PT ha hb hf;refine fA (zI (by omega)) (wB ?_);rw[q30,s1,wA];refine rC ⟨?_,rfl⟩;rw[s2,Bool.not_not]
  rw[yaa h1];have hz:=AS ha hb;have hC:dT op v=(decide (v.kind=0)&&(qN v.f&&(if op=19 then decide (1<=v.i)&&decide (v.i<=6)else decide (v.i=0)))):=by
   grind [dT,Be]
  refine dA (mG (by omega)) ?_;rw[hC];by_cases hk:v.kind=0
  case neg=>
   refine fA (by grind [mG]) ⟨?_,rfl⟩
   simp_all
  refine dA (by grind [zI]) (wB ?_);rw[q72,hz,wA,decide_eq_true hk,ycn];refine wD ?_
  cases hzz:qN v.f with
  | false=>exact fA rfl ⟨rfl,rfl⟩
  | true=>
  refine dA (by simp) ?_;rw[ycn];have uF:jp 70 37 [.int .i64 ((25-d:Nat):Int),.int .u8 (op:Int),.str name,.int .u8 (v.kind:Int),.bool v.f.n.neg,a,.bool v.f.d.neg,b,.int .i64 v.i,c] t (fun v' t'=>v'=.bool (xK args (d+1))/\t'=t):=by
   refine j70_37 ?_;unfold Yn uZ uY;exact qC (AH args args d op name v a b c 0 hc rfl hfit'.2.2.2.2.2 hlen h24)
  by_cases h19:op=19
  ·rw[yab h19];refine fA (zI (by omega)) ?_;by_cases i1:v.i<1
   ·refine fA (pG i1) ⟨?_,rfl⟩
    grind
   refine dA (nG i1) ?_;by_cases i6:6<v.i
   ·refine fA (pG i6) ⟨?_,rfl⟩
    grind
   simp_all [dA,nG,qC]
  ·rw[yaa h19];refine dA (mG (by omega)) ?_;by_cases i0:v.i=0
   ·simp_all [dA,zI,qC]
   ·refine fA (by grind [mG]) ⟨?_,rfl⟩
    simp_all
theorem AH:∀(l args:List pA) (d op:Nat) (name:List Nat) (v:oD) (a b c:zA) (i:Nat),mA t 9 (args.map pA.d) c->args.drop i=l->pA.fits l->args.length<1125899906842624->d<=24 →
  jp 70 2 [.int .i64 ((25-d:Nat):Int),.int .i64 (i:Int),.int .u8 (op:Int),.str name,.int .u8 (v.kind:Int),.bool v.f.n.neg,a,.bool v.f.d.neg,b,.int .i64 v.i,c] t (fun v' t'=>v'=.bool (xK l (d+1))/\t'=t)
 | [],args,d,op,name,v,a,b,c,i,hc,hl,_,hlen,hd=>by
  have:=Vm hl;refine j70_2 ?_;unfold Po uI uB uG yC zB qF uZ uY uW cF;refine lA (by rw[hc.len,ybf]) (qB (dA (nG (by omega)) ⟨?_,rfl⟩));rw[xK]
 | x::l,args,d,op,name,v,a,b,c,i,hc,hl,hfit,hlen,hd=>by
  obtain⟨h1,h2,h3⟩:=Vn hl;unfold pA.fits at hfit;obtain⟨pb,po,cs,g1,g2,g3,g4,g5⟩:=yF.at xR (by simp) hc (i:=i) (d:=x.d) (by simp[h1]);refine j70_2 ?_;unfold Po uI uB uG yC zB qF uZ uY uW cF;refine lA (by rw[hc.len,ybf]) (qB (fA (pG (by omega)) (lA g1 (gC g2 ?_))));rw[fW];refine wI (wJ g5 x.zs) (wB ?_);have hmk:=g5.mk x.zs;have hcs:[zA.int .u8 ((cellsOf cs).i 0),.str ((cellsOf cs).s 1),.int .u8 ((cellsOf cs).i 2),.bool ((cellsOf cs).b 3),(cellsOf cs).v 4,.bool ((cellsOf cs).b 5),(cellsOf cs).v 6,.int .i64 ((cellsOf cs).i 7),(cellsOf cs).v 8]=cs:=hmk
  rw[hcs,wrap_i64 (by omega) (by omega),show((25-d:Nat):Int)-1=((25-(d+1):Nat):Int) by omega,q70,AG x (d+1) cs hfit.1 (by omega) g5,wA];refine wD ?_;rw[xK]
  cases hE:dG x (d+1)with
  | false=>exact fA rfl ⟨rfl,rfl⟩
  | true=>
   refine dA (by simp) (qC ?_);rw[wrap_i64 (by omega) (by omega),show(i:Int)+1=((i+1:Nat):Int) by omega,ycn];exact AH l args d op name v a b c (i+1) hc h2 hfit.2 hlen hd
end
end
section
variable [sC]
variable {t tf:Tr sA}
def LX{v:oD}(hv:v.fit)(hp:fF v=true):(rH v).length<=300:=by
 obtain⟨_,hff,hi1,hi2⟩:=hv;have hil:=Mf hi1 hi2;have hsl:=Fw (eJ v.i);have hc:=Vx v.i;have hF:rR v.f=true->(kH (aE v.f)).length<=220:=fun h=>by
  rw[CE hff,ybb,decide_eq_true_eq]at h;have h:=h.2;unfold kH;by_cases hh:dJ (aE v.f) [45]=true
  ·rw[yab hh]at h ⊢;simp at h ⊢;omega
  ·rw[yaa hh]at h ⊢;omega
 unfold fF at hp;unfold rH qM;split
 ·split<;>simp
 ·split
  ·rename_i k;rw[yab (.inl k),ybb]at hp;have:=hF hp.2;omega
  ·split
   ·rename_i k;rw[yab (.inr k),ybb]at hp;have:=hF hp.2;simp;omega
   ·split
    ·omega
    ·split
     ·simp;omega
     ·split<;>simp<;>omega
def Ur{lev:Nat}{p:Nat × List Nat}:(yL lev p).length<=p.2.length+2:=by
 unfold yL;split<;>simp
def GD:∀(b:Bool) (l:List (Nat × List Nat)) (B:Nat),(∀p∈l,p.2.length<=B)->(eM b l).length<=l.length*(B+2)
 | _,[],_,_=>by simp[eM]
 | b,p::l,B,h=>by
  have h1:=GD false l B fun q hq=>h q (.tail _ hq);have h2:=h p (.head _);rw[eM,ybg,ybg,ybn,ybo];have h3:(if b=true then []else [44,32]:List Nat).length<=2:=by split<;>simp
  omega
def DJ(n:Nat):(xV n).length<=10:=by
 unfold xV;split
 ·have:∀k,k<7->(pR.getD k []).length<=10:=by decide
  exact this n (by assumption)
 ·simp
def Uw{l:List (Nat × List Nat)}{i B:Nat}(h:∀p∈l,p.2.length<=B):(l.getD i (0,[])).2.length<=B:=by
 by_cases hi:i<l.length
 ·have e:l.getD i (0,[])=l[i]:=by simp[hi]
  rw[e];exact h _ (ycj hi)
 ·have e:l.getD i (0,[])=(0,[]):=by simp[List.getElem?_eq_none (Nat.le_of_not_lt hi)]
  rw[e];exact yaw _
def zah{op:Nat}{name:List Nat}{v:oD}{l:List (Nat × List Nat)}{B:Nat}(hop:op<27)(hn:name.length<=24)(hv:(tB op).style=1->(rH v).length<=300)(hl:l.length<=3)(h:∀p∈l,p.2.length<=B):(fG op name v l).length<=3*B+400:=by
 have hw:=(Ux hop).1;have hm:=DJ v.i.toNat;have h0:=Uw (i:=0) h;have h1:=Uw (i:=1) h;have i0:=Ur (lev:=(tB op).left) (p:=l.getD 0 (0,[]));have i1:=Ur (lev:=(tB op).right) (p:=l.getD 1 (0,[]));have hj:=GD true l B h;have hj2:l.length*(B+2)<=3*(B+2):=ybi _ hl;have ht:(eS op v.i).length<=13:=by
  unfold eS;split<;>simp<;>omega
 unfold fG;split
 ·rename_i e;have:=hv e;omega
 ·split
  ·omega
  ·split
   ·simp only[ybg,ybn,ybx];omega
   ·split
    ·simp only[ybg,ybn,ybx];omega
    ·split
     ·simp only[ybg];omega
     ·have:(if (tB op).named=true then name++[44,32]else []:List Nat).length<=26:=by split<;>simp<;>omega
      simp only[ybg,ybn,ybx];omega
mutual
def Xo:∀(x:pA) (d:Nat),x.fit->dG x d=true->(yI x).length<=400*4^(25-d)
 | .mk op name v args,d,hf,hP=>by
  unfold dG cM at hP;simp only[ybb,decide_eq_true_eq]at hP;obtain⟨⟨hd,⟨⟨⟨h27,hs0⟩,hl⟩,hm⟩,hnm⟩,hrest⟩:=hP;obtain⟨f1,f2,f3,f4,f5,f6,f7,f8⟩:=Mt h27;unfold pA.fit at hf;have hn:name.length<=24:=by
   by_cases hh:(tB op).named=true
   ·rw[yab hh]at hnm;exact Ln hnm
   ·rw[yaa hh]at hnm;have:=(fH _ _).1 hnm;rw[this];simp
  have hB:∀p∈jE args,p.2.length<=400*4^(25-(d+1)):=by
   by_cases h1:op=1
   ·have:args=[]:=by
     have:(tB op).most=0:=by rw[h1];decide
     exact List.eq_nil_of_length_eq_zero (by omega)
    rw[this];intro p hp;cases hp
   ·rw[yaa h1,ybb]at hrest;exact Xn args (d+1) hf.2.2.2.2.2 hrest.2
  have hv:(tB op).style=1->(rH v).length<=300:=fun e=>by
   have h1:=f1 e;rw[yab h1]at hrest;exact LX hf.2.2.2.1 hrest
  have hh:=zah (v:=v) h27 hn hv (by rw[aQ,ybf];omega) hB;rw[yI];have e:25-d=(25-(d+1))+1:=by omega
  rw[e,yag];have:0<4^(25-(d+1)):=Nat.pow_pos (by omega);omega
def Xn:∀(l:List pA) (d:Nat),pA.fits l->xK l d=true->∀p∈jE l,p.2.length<=400*4^(25-d)
 | [],_,_,_,p,hp=>by rw[jE]at hp;cases hp
 | x::l,d,hf,hP,p,hp=>by
  unfold pA.fits at hf;rw[xK,ybb]at hP;rw[jE]at hp;rcases ybs.1 hp with e | hp
  ·rw[e];exact Xo x d hf.1 hP.1
  ·exact Xn l d hf.2 hP.2 p hp
end
def NE{x:pA}{d:Nat}(hf:x.fit)(hP:dG x d=true):(yI x).length<=450359962737049600:=by
 have h:=Xo x d hf hP;have:4^(25-d)<=4^25:=yao (by omega) (by omega);have e:400*4^25=450359962737049600:=by decide
 omega
end
section
variable [sC]
variable {t tf:Tr sA}
def oU(op:Nat):List Nat:=bif Nat.beq (tB op).style 4 then [32]++(tB op).word++[32]else(tB op).word
def nU:List Nat:=[3,4,5,6,7,8,9,10,11,12,13,14,15,16,18,19,20,21,22,23,24,25,26]
def QA:((List.range 26).map fun op=>xM nC nC (t142 ((op+1:Nat):Int)))=(List.range 26).map fun op=>some (.int .i64 ((tB (op+1)).level:Nat)):=by kernel_rfl
def LL:(nU.map fun(op:Nat)=>xM nC nC (t140 (op:Int)))=nU.map fun op=>some (.str (oU op)):=by kernel_rfl
def TU:((List.range 256).map fun(n:Nat)=>xM nC nC (t143 (n:Int)))=(List.range 256).map fun n=>some (.str (xV n)):=by kernel_rfl
def Rx{op:Nat}(h0:op≠0)(h:op<27){name:List Nat}{k i:Int}{n1 n2:Bool}{a b c:zA}:lB yA F 142 [.agg [.int .u8 (op:Int),.str name,.int .u8 k,.bool n1,a,.bool n2,b,.int .i64 i,c]] t=some (.int .i64 ((tB op).level:Nat)):=by
 obtain⟨o,rfl⟩:∃o,op=o+1:=⟨op-1,by omega⟩;exact bB.2 (w142 (Ht (List.map_inj_left.1 QA o (List.mem_range.2 (by omega)))))
def PR{op:Nat}(h:op∈nU):lB yA F 140 [.int .u8 (op:Int)] t=some (.str (oU op)):=bB.2 (w140 (Ht (List.map_inj_left.1 LL op h)))
def QM{n:Nat}(h:n<256):lB yA F 143 [.int .u8 (n:Int)] t=some (.str (xV n)):=bB.2 (w143 (Ht (List.map_inj_left.1 TU n (List.mem_range.2 h))))
abbrev zE9:List zA:=[.int .u8 0,.str [],.int .u8 0,.bool false,.nilslice,.bool false,.nilslice,.int .i64 0,.nilslice]
abbrev vT(X:jI):zA:=.agg [.int .u8 (X.i 0),.str (X.s 1),.int .u8 (X.i 2),.bool (X.b 3),X.v 4,.bool (X.b 5),X.v 6,.int .i64 (X.i 7),X.v 8]
def smT (x:zA)(k:T):T:=.ite (same 10 x x) k .fail
def agT (c:zA)(i:Int)(k:zA->jI->T):T:=.opt (jB yA 37 c (.int .i64 i)) fun a=>.light (fun m=>aA yA 39 ⟨0,m⟩ a) fun v=>.asG zE9 v fun X=>k a X
def anT (c a:zA)(X:jI)(k:T):T:=smT c (.light (fun m=>aA yA 39 ⟨0,m⟩ a) fun v=>.ite (same 10 v (vT X)) k .fail)
def iP (a b:List Nat)(k:List Nat->T):T:=.opt (iE a b) fun x=>.asS x k
def inT (e:zA)(n:Int)(k:List Nat->T):T:=.call 141 [e,.int .i64 n] fun x=>.asS x k
def wdT (op:Nat)(k:List Nat->T):T:=.call 140 [.int .u8 op] fun x=>.asS x k
def rtT (s:List Nat):T:=.ret (.str s)
def atT (op:Nat)(name:List Nat)(c:zA):T:=agT c 0 fun a X=>wdT op fun s=>smT (.str name) (anT c a X (iP s name fun s=>iP s [32,97,116,32] fun s=>inT (vT X) 7 fun z=>smT (.str name) (iP s z rtT)))
def ntT (c:zA):T:=agT c 0 fun _ X=>inT (vT X) 3 fun z=>iP [110,111,116,32] z rtT
def cmT (op:Nat)(c:zA):T:=agT c 0 fun _ X=>agT c 1 fun b Y=>inT (vT X) 5 fun z=>smT (.int .u8 op) (anT c b Y (wdT op fun s=>anT c b Y (iP z s fun s=>inT (vT Y) 5 fun y=>iP s y rtT)))
def opT (op:Nat)(self c:zA):T:=agT c 0 fun a X=>agT c 1 fun b Y=>.call 142 [self] fun n=>.asI .i64 n fun n=>anT c a X (smT (.int .u8 op) (anT c b Y (smT self (inT (vT X) n fun z=>smT (.int .u8 op) (anT c b Y (smT self (wdT op fun s=>anT c b Y (smT self (iP z s fun s=>.call 142 [self] fun n=>.asI .i64 n fun n=>anT c b Y (inT (vT Y) (rA .i64 (n+1)) fun y=>iP s y rtT))))))))))
def caT (op:Nat)(name:List Nat)(r:List zA):T:=wdT op fun s=>iP s [40] fun s=>.ite (!cC name []) (iP s name fun s=>iP s [44,32] fun s=>.jump 51 (.str s::r)) (.jump 51 (.str s::r))
def gW (op:Nat)(name:List Nat)(k:Int)(n1:Bool)(a:zA)(n2:Bool)(b:zA)(i:Int)(c:zA)(t:Tr sA)(Q:dB):Prop:=
 wp 71 (entT yA (fo 71) (ko 71) 71 (ao 71) [.agg [.int .u8 op,.str name,.int .u8 k,.bool n1,a,.bool n2,b,.int .i64 i,c]]) t Q
section
variable {name:List Nat}{k:Int}{n1:Bool}{a:zA}{n2:Bool}{b:zA}{i:Int}{c:zA}{Q:dB}
def n71_1:gW 1 name k n1 a n2 b i c t Q=wp 71 (.call 30 [.agg [.int .u8 k,.bool n1,a,.bool n2,b,.int .i64 i]] fun x=>.asS x rtT) t Q:=by kernel_rfl
def n71_2:gW 2 name k n1 a n2 b i c t Q=Q (.str [116,111,100,97,121]) t:=by kernel_rfl
def n71_3:([3,4,5].map fun op=>gW op name k n1 a n2 b i c t Q)=[3,4,5].map fun op=>wp 71 (atT op name c) t Q:=by kernel_rfl
def n71_17:([17].map fun op=>gW op name k n1 a n2 b i c t Q)=[17].map fun(_:Nat)=>wp 71 (ntT c) t Q:=by kernel_rfl
def n71_13:([13,14].map fun op=>gW op name k n1 a n2 b i c t Q)=[13,14].map fun op=>wp 71 (cmT op c) t Q:=by kernel_rfl
def n71_7:([7,8,9,10,15,16].map fun op=>gW op name k n1 a n2 b i c t Q)=[7,8,9,10,15,16].map fun(op:Nat)=>wp 71 (opT op (.agg [.int .u8 op,.str name,.int .u8 k,.bool n1,a,.bool n2,b,.int .i64 i,c]) c) t Q:=by kernel_rfl
def n71_6:([6,11,12,18,19,20,21,22,23,24,25,26].map fun op=>gW op name k n1 a n2 b i c t Q)=[6,11,12,18,19,20,21,22,23,24,25,26].map fun(op:Nat)=>wp 71 (caT op name [.int .u8 op,.str name,.int .u8 k,.bool n1,a,.bool n2,b,.int .i64 i,c]) t Q:=by kernel_rfl
end
end
section
variable [sC]
variable {t tf:Tr sA}
section
variable {Q:dB}{c a:zA}{args:List pA}{X:jI}{cs:List zA}
structure AtE (t:Tr sA) (a:zA) (X:jI) (cs:List zA) (x:pA):Prop where
 ld:aA yA 39 ⟨0,t⟩ a=some (.agg cs)
 ag:vT X=.agg cs
 rd:RD t x.d cs
def jU{x:zA}{k:T}(hx:same 10 x x=true)(h:wp 71 k t Q):wp 71 (smT x k) t Q:=fA hx h
def Ax{i:Nat}{k:zA->jI->T}(hc:mA t 9 (args.map pA.d) c)(hi:i<args.length)(h:∀a X cs,AtE t a X cs args[i]->wp 71 (k a X) t Q):wp 71 (agT c (i:Int) k) t Q:=by
 obtain⟨b0,off0,cs,g1,g2,_,_,g5⟩:=yF.at xR (by simp) hc (i:=i) (d:=args[i].d) (by simp[hi]);have ld:aA yA 39 ⟨0,t⟩ (.ptr b0 off0)=some (Fa true cs):=g2;have ld':=ld;rw[fW]at ld';refine lA g1 (gC ld ?_);rw[fW];refine wI (wJ g5 (pA.zs _)) ?_;have hmk:=g5.mk (pA.zs args[i]);have hcs:[zA.int .u8 ((cellsOf cs).i 0),.str ((cellsOf cs).s 1),.int .u8 ((cellsOf cs).i 2),.bool ((cellsOf cs).b 3),(cellsOf cs).v 4,.bool ((cellsOf cs).b 5),(cellsOf cs).v 6,.int .i64 ((cellsOf cs).i 7),(cellsOf cs).v 8]=cs:=hmk
 exact h _ _ cs ⟨ld',by show zA.agg _=_;rw[hcs],g5⟩
def yY{x:pA}{k:T}(hc:mA t 9 (args.map pA.d) c)(hx:AtE t a X cs x)(h:wp 71 k t Q):wp 71 (anT c a X k) t Q:=by
 refine jU hc.same (gC hx.ld (fA ?_ h));rw[hx.ag];exact hx.rd.sameA
def fQ{s z:List Nat}{k:List Nat->T}(hl:s.length+z.length<4611686018427387904)(h:wp 71 (k (s++z)) t Q):wp 71 (iP s z k) t Q:=lA (bF hl) (rC h)
def Iw{op:Nat}{k:List Nat->T}(hw:op∈nU)(h:wp 71 (k (oU op)) t Q):wp 71 (wdT op k) t Q:=by
 refine wB ?_;rw[q140,PR hw,wA];exact rC h
def Ct{x:pA}{lev:Nat}{s:List Nat}{k:List Nat->T}(hx:AtE t a X cs x)(hp:lB yA F 141 [.agg cs,.int .i64 (lev:Int)] t=some (.str s))(h:wp 71 (k s) t Q):wp 71 (inT (vT X) (lev:Int) k) t Q:=by
 refine wB ?_;rw[hx.ag,q141,hp,wA];exact rC h
def LM{op:Nat}(h:op<27):(oU op).length<=12:=by
 have:∀k,k<27->(oU k).length<=12:=by decide +kernel
 exact this op h
end
def QP{y:pA}{cs:List zA}{lev:Nat}(hr:RD t y.d cs)(hop0:y.op≠0)(hop:y.op<27)(hl:(yI y).length<=450359962737049600)(hy:lB yA F 71 [.agg cs] t=some (.str (yI y))) :
  lB yA F 141 [.agg cs,.int .i64 (lev:Int)] t=some (.str (yL lev ((tB y.op).level,yI y))):=by
 have hy0:=hy;obtain⟨a,b,c,rfl,ha,hb,hc⟩:=cK hr;refine bB.2 (w141 ?_);unfold t141 uI uS uZ uY;refine wB ?_;rw[q142,Rx hop0 hop,wA];refine qB ?_;unfold yL;by_cases h:lev<=(tB y.op).level
 ·rw[yab h];refine dA (nG (by omega)) (wB ?_);rw[q71,hy0,wA];exact rC ⟨rfl,rfl⟩
 ·rw[yaa h];refine fA (pG (by omega)) (wB ?_);rw[q71,hy0,wA];exact rC (lA (bF (by simp;omega)) (rC (lA (bF (by simp;omega)) (rC ⟨rfl,rfl⟩))))
end
section
variable [sC]
variable {t tf:Tr sA}
def Oc(t:Tr sA)(y:pA):Prop:=∀cs,RD t y.d cs->lB yA F 71 [.agg cs] t=some (.str (yI y))
section
variable {args:List pA}{c:zA}
theorem YL{op:Nat}{name:List Nat}{k i0:Int}{n1 n2:Bool}{a b:zA}(hc:mA t 9 (args.map pA.d) c)(hall:∀y∈args,Oc t y)(hlen:∀y∈args,(yI y).length<=450359962737049600)(hn:args.length<=3)
  (h19:op=19->0<=i0/\i0<256):∀(m i:Nat) (s:List Nat),i+m=args.length->s.length<=100+i*450359962737049602 →
  jp 71 4 [.str s,.int .i64 (i:Int),.int .u8 (op:Int),.str name,.int .u8 k,.bool n1,a,.bool n2,b,.int .i64 i0,c] t (fun v t'=>v=.str (s++(eM (decide (i=0)) ((jE args).drop i)++eS op i0))/\t'=t):=by
 intro m;have hcl:=hc.len
 rw[ybf]at hcl;induction m with
 | zero=>
  intro i s hi hs;have hdrop:(jE args).drop i=[]:=ybt (by rw[aQ,ybf];omega);rw[hdrop,eM,yah];have hs:s.length<=1500000000000000000:=by
   have:i<=3:=by omega
   have:=ybi 450359962737049602 this;omega
  refine j71_4 ?_;unfold Pn uI uS uZ uY;refine lA hcl (qB (dA (nG (by omega)) ?_));unfold eS;by_cases h:op=19
  ·rw[yab h];obtain⟨n,hn1,hn2,hn3⟩:∃n:Nat,rA .u8 i0=(n:Int)/\n<256/\i0.toNat=n:=⟨i0.toNat,by grind [Bf],by omega,rfl⟩;have hm:=DJ n;refine fA (zI (by omega)) (lA (bF (by simp;omega)) (rC (wB ?_)));rw[hn1,q143,QM hn2,wA,hn3];refine rC (lA (bF (by simp;omega)) (rC (lA (bF (by simp;omega)) (rC ⟨?_,rfl⟩))));simp[ybz]
  ·rw[yaa h];refine dA (mG (by omega)) (lA (bF (by simp;omega)) (rC ⟨by simp,rfl⟩))
 | succ m ih=>
  intro i s hi hs;have hlt:i<args.length:=by omega
  have hm:args[i]∈args:=ycj hlt;have hs2:s.length<=1500000000000000000:=by
   have:i<=3:=by omega
   have:=ybi 450359962737049602 this;omega
  have hl:=hlen _ hm;have hli:i<(jE args).length:=by rw[aQ,ybf];exact hlt
  have hgi:(jE args)[i]=((tB args[i].op).level,yI args[i]):=by simp[aQ]
  have hj:=GF hli;rw[hgi]at hj;have next:∀s':List Nat,s'.length<=s.length+2->s'=s++(if i=0 then []else [44,32])->jp 71 61 [.str s',.int .i64 (i:Int),.int .u8 (op:Int),.str name,.int .u8 k,.bool n1,a,.bool n2,b,.int .i64 i0,c] t (fun v t'=>v=.str (s++(eM (decide (i=0)) ((jE args).drop i)++eS op i0))/\t'=t):=by
   intro s' h1 h2;refine j71_61 ?_;have go:=Ax (Q:=fun v t'=>v=.str (s++(eM (decide (i=0)) ((jE args).drop i)++eS op i0))/\t'=t) (k:=fun _ X=>.call 71 [vT X] fun x=>.asS x fun z=>iP s' z fun s6=>.jump 4 [.str s6,.int .i64 (rA .i64 ((i:Int)+1)),.int .u8 (op:Int),.str name,.int .u8 k,.bool n1,a,.bool n2,b,.int .i64 i0,c]) hc hlt fun a' X cs hx=>by
    refine wB ?_;rw[hx.ag,q71,hall _ hm cs hx.rd,wA];refine rC (fQ (by omega) (qC ?_));rw[wrap_i64 (by omega) (by omega),show(i:Int)+1=((i+1:Nat):Int) by omega];refine Jq.mono (ih (i+1) (s'++yI args[i]) (by omega) ?_) fun v t' h=>⟨?_,h.2⟩
    ·rw[ybg,ybo];omega
    ·rw[h.1,hj,h2];simp[ybz]
   exact go
  refine j71_4 ?_;unfold Pn uI uS uZ uY;refine lA hcl (qB (fA (pG (by omega)) ?_));by_cases h0:0<i
  ·refine fA (pG (by omega)) (lA (bF (by simp;omega)) (rC (qC (next _ (by simp) ?_))));rw[yaa (by omega)]
  ·refine dA (nG (by omega)) (qC (next _ (by omega) ?_));rw[yab (by omega),ycd]
end
def f3:∀k∈[3,4,5],(tB k).style=3/\(tB k).left=7/\oU k=(tB k).word/\1<=(tB k).least:=by decide +kernel
def f13:∀k∈[13,14],(tB k).style=4/\(tB k).left=5/\(tB k).right=5/\oU k=[32]++(tB k).word++[32]/\2<=(tB k).least:=by decide +kernel
def f7:∀k∈[7,8,9,10,15,16],(tB k).style=4/\(tB k).left=(tB k).level/\(tB k).right=(tB k).level+1/\oU k=[32]++(tB k).word++[32]/\2<=(tB k).least:=by decide +kernel
def f6:∀k∈[6,11,12,18,19,20,21,22,23,24,25,26],(tB k).style=6/\oU k=(tB k).word:=by decide +kernel
def f17:∀k∈[17],(tB k).style=5/\(tB k).left=3/\(tB k).word=[110,111,116,32]/\1<=(tB k).least:=by decide +kernel
def f12:(tB 1).style=1/\(tB 2).style=2/\(tB 2).word=[116,111,100,97,121]/\(tB 0).style=0:=by decide +kernel
def Ix:∀k∈[3,4,5]++[13,14]++[7,8,9,10,15,16]++[6,11,12,18,19,20,21,22,23,24,25,26],k∈nU:=by decide
set_option maxHeartbeats 2000000 in
mutual
def AU:∀(x:pA) (d:Nat),x.fit->dG x d=true->Oc t x
 | .mk op name v args,d,hfit,hP=>by
  have hP0:=hP;intro cs hr;obtain⟨a,b,c,rfl,ha,hb,hc⟩:=cK hr;simp only[pA.op,pA.name,pA.v,pA.args]at ha hb hc ⊢;unfold dG cM at hP;simp only[ybb,decide_eq_true_eq]at hP;obtain⟨⟨hd,⟨⟨⟨h27,hs0⟩,hl⟩,hm⟩,hnm⟩,hrest⟩:=hP;simp only[ycp,decide_eq_false_iff_not]at hs0;obtain⟨_,_,_,_,_,_,f7',_⟩:=Mt h27;have hw:=LM h27;unfold pA.fit at hfit;have hn:name.length<=24:=by
   by_cases hh:(tB op).named=true
   ·rw[yab hh]at hnm;exact Ln hnm
   ·rw[yaa hh]at hnm;have:=(fH _ _).1 hnm;rw[this];simp
  have hfits:=pA.fits_mem hfit.2.2.2.2.2;have hargs:op≠1->xK args (d+1)=true:=fun h1=>by
   rw[yaa h1,ybb]at hrest;exact hrest.2
  have hyP:op≠1->∀y∈args,dG y (d+1)=true:=fun h1=>by
   have:=hargs h1;rwa [Nz,ycb]at this
  have hall:op≠1->∀y∈args,Oc t y:=fun h1=>AT args (d+1) hfit.2.2.2.2.2 (hargs h1);have hlen:op≠1->∀y∈args,(yI y).length<=450359962737049600:=fun h1 y hy=>NE (hfits y hy) (hyP h1 y hy);have hself:same 10 (.agg [.int .u8 (op:Int),.str name,.int .u8 (v.kind:Int),.bool v.f.n.neg,a,.bool v.f.d.neg,b,.int .i64 v.i,c]) (.agg [.int .u8 (op:Int),.str name,.int .u8 (v.kind:Int),.bool v.f.n.neg,a,.bool v.f.d.neg,b,.int .i64 v.i,c])=true:=hr.sameA
  have inner:op≠1->∀(i lev:Nat) (hi:i<args.length) (cs:List zA),RD t args[i].d cs->lB yA F 141 [.agg cs,.int .i64 (lev:Int)] t=some (.str (yL lev ((jE args).getD i (0,[])))):=fun h1 i lev hi cs hr=>by
   have hm:=ycj hi;have e:(jE args).getD i (0,[])=((tB args[i].op).level,yI args[i]):=by simp[aQ,hi]
   rw[e];have hy:=hyP h1 _ hm;have hop:args[i].op<27/\args[i].op≠0:=by
    generalize args[i]=y at hy;obtain⟨o,nm,w,l⟩:=y;unfold dG cM at hy;simp only[ybb,decide_eq_true_eq,ycp,decide_eq_false_iff_not]at hy;refine⟨hy.1.2.1.1.1.1,fun e=>hy.1.2.1.1.1.2 ?_⟩;have e:o=0:=e;rw[e];exact f12.2.2.2
   exact QP hr hop.2 hop.1 (hlen h1 _ hm) (hall h1 _ hm cs hr)
  have inl:op≠1->∀(i lev:Nat),(yL lev ((jE args).getD i (0,[]))).length<=450359962737049602:=fun h1 i lev=>by
   have h:=Ur (lev:=lev) (p:=(jE args).getD i (0,[]));have h2:((jE args).getD i (0,[])).2.length<=450359962737049600:=Uw fun p hp=>by
    rw[aQ]at hp;obtain⟨y,hy,rfl⟩:=yaq.1 hp;exact hlen h1 y hy
   omega
  refine bB.2 (ze3 (pure:=jH) (jA 71) (by kernel_rfl) ?_);rw[yI];show gW op name (v.kind:Int) v.f.n.neg a v.f.d.neg b v.i c t _;have cases:op=1\/op=2\/op∈[3,4,5]\/op∈[17]\/op∈[13,14]\/op∈[7,8,9,10,15,16]\/op∈[6,11,12,18,19,20,21,22,23,24,25,26]:=by
   have:op≠0:=fun e=>hs0 (by rw[e];exact f12.2.2.2);simp only[ybs,List.not_mem_nil,or_false];omega
  rcases cases with e | e | e | e | e | e | e
  ·subst e;rw[yab rfl]at hrest;rw[n71_1];obtain⟨s,h1,_,h3⟩:=Rs (a:=v) ha hb hfit.2.2.2.1.2.1;refine wB ?_;rw[q30,h1,wA];refine rC ⟨?_,rfl⟩;rw[h3 hrest];unfold fG;rw[yab f12.1]
  ·subst e;rw[n71_2];refine⟨?_,rfl⟩;unfold fG;rw[yaa (by rw[f12.2.1];decide),yab f12.2.1,f12.2.2.1]
  ·have h1:op≠1:=by rintro rfl;revert e;decide
   have hwo:op∈nU:=Ix op (by simp only[yaf];exact .inl (.inl (.inl e)));obtain⟨g1,g2,g3,g4⟩:=f3 op e;rw[List.map_inj_left.1 (n71_3 (name:=name) (k:=(v.kind:Int)) (n1:=v.f.n.neg) (a:=a) (n2:=v.f.d.neg) (b:=b) (i:=v.i) (c:=c) (t:=t) (Q:=fun w m=>w=.str (fG op name v (jE args))/\m=t)) op e];have il:=inl h1 0 7;refine Ax (i:=0) hc (by omega) fun a' X cs hx=>Iw hwo (jU Kc (yY hc hx (fQ (by omega) (fQ (by simp only[ybg,ybn,ybx];omega) (Ct (lev:=7) hx (inner h1 0 7 _ cs hx.rd) (jU Kc (fQ (by simp only[ybg,ybn,ybx];omega) ⟨?_,rfl⟩)))))))
   unfold fG;rw[yaa (by omega),yaa (by omega),yab g1,g2,g3]
  ·have h1:op≠1:=by rintro rfl;revert e;decide
   obtain⟨g1,g2,g3,g4⟩:=f17 op e;rw[List.map_inj_left.1 (n71_17 (name:=name) (k:=(v.kind:Int)) (n1:=v.f.n.neg) (a:=a) (n2:=v.f.d.neg) (b:=b) (i:=v.i) (c:=c) (t:=t) (Q:=fun w m=>w=.str (fG op name v (jE args))/\m=t)) op e];have il:=inl h1 0 3;refine Ax (i:=0) hc (by omega) fun a' X cs hx=>Ct (lev:=3) hx (inner h1 0 3 _ cs hx.rd) (fQ (by simp only[ybg,ybn,ybx];omega) ⟨?_,rfl⟩);unfold fG;rw[yaa (by omega),yaa (by omega),yaa (by omega),yaa (by omega),yab g1,g2,g3]
  ·have h1:op≠1:=by rintro rfl;revert e;decide
   have hwo:op∈nU:=Ix op (by simp only[yaf];exact .inl (.inl (.inr e)));obtain⟨g1,g2,g3,g4,g5⟩:=f13 op e;rw[List.map_inj_left.1 (n71_13 (name:=name) (k:=(v.kind:Int)) (n1:=v.f.n.neg) (a:=a) (n2:=v.f.d.neg) (b:=b) (i:=v.i) (c:=c) (t:=t) (Q:=fun w m=>w=.str (fG op name v (jE args))/\m=t)) op e];have il:=inl h1 0 5;have il1:=inl h1 1 5;refine Ax (i:=0) hc (by omega) fun a' X cs hx=>Ax (i:=1) hc (by omega) fun b' Y ds hy=>Ct (lev:=5) hx (inner h1 0 5 _ cs hx.rd) (jU cW (yY hc hy (Iw hwo (yY hc hy (fQ (by omega) (Ct (lev:=5) hy (inner h1 1 5 _ ds hy.rd) (fQ (by simp only[ybg,ybn,ybx];omega) ⟨?_,rfl⟩)))))))
   unfold fG;rw[yaa (by omega),yaa (by omega),yaa (by omega),yab g1,g2,g3,g4];simp[ybz]
  ·have h1:op≠1:=by rintro rfl;revert e;decide
   have h0:op≠0:=by rintro rfl;revert e;decide
   have hwo:op∈nU:=Ix op (by simp only[yaf];exact .inl (.inr e));obtain⟨g1,g2,g3,g4,g5⟩:=f7 op e;rw[List.map_inj_left.1 (n71_7 (name:=name) (k:=(v.kind:Int)) (n1:=v.f.n.neg) (a:=a) (n2:=v.f.d.neg) (b:=b) (i:=v.i) (c:=c) (t:=t) (Q:=fun w m=>w=.str (fG op name v (jE args))/\m=t)) op e];have il:=inl h1 0 (tB op).level;have il1:=inl h1 1 ((tB op).level+1);have hlv:(tB op).level<=10:=by
    have:∀k,k<27->(tB k).level<=10:=by decide +kernel
    exact this op h27
   refine Ax (i:=0) hc (by omega) fun a' X cs hx=>Ax (i:=1) hc (by omega) fun b' Y ds hy=>wB ?_;rw[q142,Rx h0 h27,wA];refine qB (yY hc hx (jU cW (yY hc hy (jU hself (Ct hx (inner h1 0 _ _ cs hx.rd) (jU cW (yY hc hy (jU hself (Iw hwo (yY hc hy (jU hself (fQ (by omega) (wB ?_)))))))))))));rw[q142,Rx h0 h27,wA];refine qB ?_
   rw[wrap_i64 (by omega) (by omega),show((tB op).level:Int)+1=(((tB op).level+1:Nat):Int) by omega];refine yY hc hy (Ct hy (inner h1 1 _ _ ds hy.rd) (fQ (by simp only[ybg,ybn,ybx];omega) ⟨?_,rfl⟩));unfold fG;rw[yaa (by omega),yaa (by omega),yaa (by omega),yab g1,g2,g3,g4];simp[ybz]
  ·have h1:op≠1:=by rintro rfl;revert e;decide
   have hwo:op∈nU:=Ix op (by simp only[yaf];exact .inr e);obtain⟨g1,g2⟩:=f6 op e;rw[List.map_inj_left.1 (n71_6 (name:=name) (k:=(v.kind:Int)) (n1:=v.f.n.neg) (a:=a) (n2:=v.f.d.neg) (b:=b) (i:=v.i) (c:=c) (t:=t) (Q:=fun w m=>w=.str (fG op name v (jE args))/\m=t)) op e];have h19:op=19->0<=v.i/\v.i<256:=fun h=>by
    rw[yaa h1,ybb]at hrest;have:=hrest.1;unfold dT at this;rw[yab h]at this;simp only[ybb,decide_eq_true_eq]at this;omega
   have uF:∀s:List Nat,s.length<=100->s=(tB op).word++[40]++(if (tB op).named=true then name++[44,32]else [])->jp 71 51 (.str s::[.int .u8 (op:Int),.str name,.int .u8 (v.kind:Int),.bool v.f.n.neg,a,.bool v.f.d.neg,b,.int .i64 v.i,c]) t (fun w m=>w=.str (fG op name v (jE args))/\m=t):=fun s hs es=>by
    refine j71_51 ?_;unfold Ym uZ uY;refine qC (Jq.mono (YL hc (hall h1) (hlen h1) (by omega) h19 args.length 0 s (by omega) (by omega)) fun w m h=>⟨?_,h.2⟩);have hh:fG op name v (jE args)=(tB op).word++[40]++((if (tB op).named=true then name++[44,32]else [])++(eM true (jE args)++eS op v.i)):=by
     unfold fG;rw[yaa (by omega),yaa (by omega),yaa (by omega),yaa (by omega),yaa (by omega)]
    rw[h.1,hh,es];simp[ybz]
   refine Iw hwo (fQ (by simp only[ybg,ybn,ybx];omega) ?_);by_cases hh:(tB op).named=true
   ·rw[yab hh]at hnm;have hne:name≠[]:=fun e=>by rw[e]at hnm;revert hnm;decide
    refine fA (by rw[Bool.eq_false_iff.2 fun h=>hne ((fH _ _).1 h)];rfl) (fQ (by simp only[ybg,ybn,ybx];omega) (fQ (by simp only[ybg,ybn,ybx];omega) (qC (uF _ (by simp;omega) ?_))));rw[yab hh,g2];simp[ybz]
   ·rw[yaa hh]at hnm;refine dA (by rw[hnm];simp) (qC (uF _ (by simp;omega) ?_));rw[yaa hh,g2,ycd]
def AT:∀(l:List pA) (d:Nat),pA.fits l->xK l d=true->∀y∈l,Oc t y
 | [],_,_,_,y,hy=>by cases hy
 | x::l,d,hf,hP,y,hy=>by
  unfold pA.fits at hf;rw[xK,ybb]at hP;rcases ybs.1 hy with e | hy
  ·rw[e];exact AU x d hf.1 hP.1
  ·exact AT l d hf.2 hP.2 y hy
end
def QT{x:pA}{cs:List zA}(hfit:x.fit)(hr:RD t x.d cs):lB yA F 29 [.agg cs] t=some (Ah x):=by
 have hr0:=hr;obtain⟨a,b,c,rfl,ha,hb,hc⟩:=cK hr;refine bB.2 (w29 ?_);unfold t29 uB uS uZ uY;refine wB ?_;have hs:=AG (t:=t) x 1 _ hfit (by omega) hr0;rw[show((25-1:Nat):Int)=24 from rfl]at hs;rw[q70,hs,wA];refine wD ?_;unfold Ah
 cases hP:dG x 1 with
 | false=>exact fA rfl ⟨by simp,rfl⟩
 | true=>
  refine dA (by simp) (wB ?_);rw[q71,AU x 1 hfit hP _ hr0,wA];refine rC ?_;rw[yab rfl];by_cases h:65536<(yI x).length
  ·rw[yab h];exact fA (pG (by rw[bI];omega)) ⟨rfl,rfl⟩
  ·rw[yaa h];exact dA (nG (by rw[bI];omega)) ⟨rfl,rfl⟩
end
section
variable [sC]
variable {t:Tr sA}
def pv36{f:kC}{u v:zA}(h1:mA t 1 (lC f.n.limbs) u)(h2:mA t 1 (lC f.d.limbs) v)(hf:f.ok):lB yA F 16 [.agg [.bool f.n.neg,u,.bool f.d.neg,v]] t=some (.int .i64 (bO f:Nat)):=by
 have hs:=Rj hf;refine bB.2 (w16 ?_);unfold bO at hs  ⊢;simp (disch:=omega) only[uI,uZ,uW,t16,qA,h1.len,h2.len,wA,fB,vM,wrap_i64];simp
mutual
theorem pv37:∀(x:pA) (left:Int) (cs:List zA),x.ok -> -9007199254740992<=left->left<=9007199254740992->RD t x.d cs->lB yA F 9 [.agg cs,.int .i64 left] t=some (.int .i64 (jN x left))
 | .mk op name v args,left,cs,hx,hl1,hl2,h=>by
  obtain⟨a,b,c,rfl,ha,hb,hc⟩:=cK h;simp only[pA.op,pA.name,pA.v,pA.args]at ha hb hc ⊢;have hx':=hx;unfold pA.ok at hx';have hf:=Rj hx'.2.1;have hn:=hx'.1;unfold jF at hn;refine bB.2 (w9 ?_);simp (disch:=omega) only[uI,uZ,uY,uW,t9,qA,q16,pv36 ha hb hx'.2.1,wA,fB,Kc,cW,if_true,bI,wrap_i64,Int.tdiv_eq_ediv_of_nonneg];unfold jN;exact DV args args left _ op name v _ _ c 0 hc rfl hx'.2.2.2 hx'.2.2.1 (by omega) hl1 hl2 (by omega)
theorem DV:∀(l args:List pA) (left n:Int) (op:Nat) (name:List Nat) (v:oD) (a b c:zA) (i:Nat),mA t 9 (args.map pA.d) c->args.drop i=l->pA.oks l->args.length<jF->0<=n -> -9007199254740992<=left->left<=9007199254740992->n<=27021597764222976 →
  jp 9 2 [.int .i64 left,.int .i64 n,.int .i64 i,.int .u8 op,.str name,.int .u8 v.kind,.bool v.f.n.neg,a,.bool v.f.d.neg,b,.int .i64 v.i,c] t (fun v' t'=>v'=.int .i64 (aP l left n)/\t'=t)
 | [],args,left,n,op,name,v,a,b,c,i,hc,hd,hok,hsz,hn,hl1,hl2,hn2=>by
  have:=Vm hd;refine j9_2 ?_;simp only[uI,uG,yC,uZ,uY,uW,cF,t9_2,qA,hc.len,wA,fB,ybf,xC];grind [aP]
 | x::l,args,left,n,op,name,v,a,b,c,i,hc,hd,hok,hsz,hn,hl1,hl2,hn2=>by
  obtain⟨h1,h2,h3⟩:=Vn hd;unfold jF at hsz;have hok':=hok;unfold pA.oks at hok';refine j9_2 ?_;obtain⟨pb,po,cs,g1,g2,g3,g4,g5⟩:=yF.at xR (by simp) hc (i:=i) (d:=x.d) (by simp[h1]);simp only[uI,uG,yC,uZ,uY,uW,cF,t9_2,qA,hc.len,wA,fB,ybf,xC,pD,g1,g2,fW];rw[yab (by omega)];unfold aP;split
  ·rename_i hle;obtain⟨a1,b1,c1,rfl,ha1,hb1,hc1⟩:=cK g5;have hs:=AA x (left-n) hok'.1;rw[wJ g5 x.zs];simp only[wA,cellsOf,Mk,Rb,Aq,Bm];simp (disch:=omega) only[q9,yaz,yba,wrap_i64];rw[pv37 x (left-n) _ hok'.1 (by omega) (by omega) g5];simp (disch:=omega) only[wA,fB,wrap_i64];have:=DV l args left (n+jN x (left-n)) op name v a b c (i+1) hc h2 hok'.2 hsz (by omega) hl1 hl2 (by omega)
   simp_all
  ·simp
end
end
section
mutual
def pA.cpy:pA->Prop
 | .mk _ _ v args=>(v.f.n.limbs.length<300000/\v.f.d.limbs.length<300000)/\args.length<300000/\pA.cpys args
def pA.cpys:List pA->Prop
 | []=>True
 | x::l=>pA.cpy x/\pA.cpys l
end
structure Ay.cpy (p:Ay):Prop where
 defs:p.defs.length<300000
 tables:p.tables.length<300000
 clauses:p.clauses.length<300000
 rows:∀x∈p.tables,x.rows.length<300000/\∀r∈x.rows,r.f.n.limbs.length<300000/\r.f.d.limbs.length<300000
 exprs:∀x∈p.clauses,pA.cpy x.when_/\pA.cpy x.then_
theorem HH(f:kC):1<=bO f/\f.n.limbs.length<bO f/\f.d.limbs.length<bO f:=by grind [bO]
def OS:∀(x:pA) (left:Int),x.ok->1<=jN x left
 | .mk op name v args,left,h=>by
  unfold pA.ok at h;unfold jN;have:=HH v.f;have:=(Fv args left (bO v.f+(name.length:Int) / 30) h.2.2.2 (by omega)).1;omega
mutual
def IW:∀(x:pA) (left:Int),x.ok->jN x left<=left->left<=2000->pA.cpy x
 | .mk op name v args,left,h,hs,hl=>by
  unfold pA.ok at h;unfold jN at hs;unfold pA.cpy;have:=HH v.f;have h1:=(Fv args left (bO v.f+(name.length:Int) / 30) h.2.2.2 (by omega)).1;obtain⟨h2,h3⟩:=IX args left (bO v.f+(name.length:Int) / 30) h.2.2.2 (by omega) hs hl
  grind
def IX:∀(l:List pA) (left n:Int),pA.oks l->0<=n->aP l left n<=left->left<=2000->n+l.length<=left/\pA.cpys l
 | [],left,n,_,_,hs,_=>by
  grind [aP,pA.cpys]
 | x::l,left,n,h,hn,hs,hl=>by
  unfold pA.oks at h;unfold aP at hs;unfold pA.cpys;by_cases hc:n<=left
  ·rw[yab hc]at hs;have h1:=OS x (left-n) h.1;have h2:=(Fv l left (n+jN x (left-n)) h.2 (by omega)).1;obtain⟨h3,h4⟩:=IX l left _ h.2 (by omega) hs hl;exact⟨by grind,IW x (left-n) h.1 (by omega) (by omega),h4⟩
  omega
end
end
end Go.Proofs
namespace Go.Am
open Go Go.RowKit
section
variable {t tf tf0:Tr sA}{C:oA}
def ZH{T el sz k m n b q:Nat}{x:zA}{new:List zA}(hT:sN C T el sz)(hl:rV x=some m)(hf:nP ⟨q,t⟩ sz m x=some new)(hk:k+m<=n) :
  nF C T T (.slice b 0 k n) x ⟨q,t⟩=(match (generalizing:=false) new with | []=>some (.slice b 0 (k+m) n,⟨q,t⟩) | _::_=>ob (xI C ⟨q,t⟩ b (0+k*sz) new) fun H'=>some (.slice b 0 (k+m) n,H')):=by
 obtain⟨⟨y,hy1,hy2,hy3⟩,⟨z,hz1,hz2,hz3,hz4,hz5⟩,hnb⟩:=hT;unfold nF xU;rw[hy1,tA,tA,hy3];simp only[ycl,jD];rw[hy2,tA,hz1,tA,hl,tA,hz2,hf,tA];simp only[zA.asSlice];rw[rE.2 hk,cond_true];unfold gV;rw[hz2];cases new<;>rfl
end
end Go.Am
