/- commonDivisor. -/
import Derived.Test.YtfijloeeppcipaaGreatDoorA21
set_option linter.all false
noncomputable section
set_option maxRecDepth 100000
namespace Go.Proofs
open Go Go.Am
variable [fC]
variable {t:Tr rA}
theorem zys{c:Prop}{d:Decidable c}{P Q:Prop}(h:c)(k:P):@ite Prop c d P Q:=by rw[if_pos h];exact k
theorem ite_no{c:Prop}{d:Decidable c}{P Q:Prop}(h:¬ c)(k:Q):@ite Prop c d P Q:=by rw[if_neg h];exact k
theorem zod{Q:vC}:∀(y x:Nat),x<18446744073709551616->y<18446744073709551616->(∀t' r rv,vB t t'->dA t' 1 (mB .u32 r) rv->sB BB r->norm r->val BB r=Nat.gcd x y->Q rv t')->jp 226 6 [.int .u64 (x:Int),.int .u64 (y:Int)] t Q:=by
 have hBB:=tK
 intro y;induction y using Nat.strongRecOn with
 | ind y ih=>
  intro x hx hy hQ;refine j226_6 _ _ ?_
  simp only[z49,pA,zh2];by_cases h0:y=0
  ·subst h0
   rw[if_neg (by simp)]
   simp only[q241];refine z1v hx fun t' v' h1 h2=>?_
   have a1:=zl6 hx
   have a2:=zr2 x
   rw[<- hBB]at a1 a2;exact hQ t' (zfq x) v' h1 h2 a1 (zno x) (by rw[a2,Nat.gcd_zero_right])
  ·rw[if_pos (by omega),zb1 (by omega),sA,oB,sA]
   have hm:=ybz x (show 0<y by omega)
   have hg:=z8s (x:=x) (y:=y)
   generalize x%y=z at *
   exact ih z hm y hy (by omega) fun t' r rv k1 k2 k3 k4 k5=>hQ t' r rv k1 k2 k3 k4 (by rw[k5,hg])
theorem zxq{l:List Nat}{v:zA}(hv:dA t 1 (mB .u32 l) v)(hl:l.length<=2)(hlt:sB BB l):lB yA F 240 [v] t=some (.int .u64 ((val BB l:Nat):Int)):=by
 have hBB:=tK
 rw[hBB]at hlt ⊢
 exact z7z hv hl hlt
theorem zz7{la lb:List Nat}{pa pb:zA}{Q:vC}(ha:dA t 1 (mB .u32 la) pa)(hb:dA t 1 (mB .u32 lb) pb)(hal:sB BB la)(hbl:sB BB lb)(hla:la.length<=2)(hlb:lb.length<=2)
  (hQ:∀t' r rv,vB t t'->dA t' 1 (mB .u32 r) rv->sB BB r->norm r->val BB r=Nat.gcd (val BB la) (val BB lb)->Q rv t'):jp 226 33 [pa,pb] t Q:=by
 have hBB:=tK
 have b1:=zjl kG hal hla
 have b2:=zjl kG hbl hlb
 refine z8g _ _ ?_
 simp only[zv1,pA,q240,zxq ha hla hal,zxq hb hlb hbl,sA,oB];rw[hBB]at b1 b2;have hBB':∀l,val 4294967296 l=val BB l:=fun l=>by rw[hBB]
 rw[hBB']at b1 b2;exact zod _ _ b1 b2 hQ
theorem zz8{Q:vC}{t0:Tr rA}{G:Nat}(hQ:∀t' r rv,vB t0 t'->dA t' 1 (mB .u32 r) rv->sB BB r->norm r->val BB r=G->Q rv t'):∀(n:Nat) (la lb:List Nat) (pa pb:zA) (t:Tr rA),val BB la+val BB lb=n->vB t0 t->dA t 1 (mB .u32 la) pa->dA t 1 (mB .u32 lb) pb->sB BB la->sB BB lb->norm la->norm lb->val BB lb<=val BB la->la.length<700000->Nat.gcd (val BB la) (val BB lb)=G->jp 226 2 [pa,pb] t Q:=by
 have hBB:=tK
 have hB1:1<BB:=by omega
 intro n;induction n using Nat.strongRecOn with
 | ind n ih=>
  intro la lb pa pb t hn ht ha hb hal hbl han hbn hle hlen hg;have hlb:lb.length<=la.length:=rO hB1 hal hbn hle
  refine j226_2 _ _ ?_
  simp only[z5a,pA,hb.len,sA,oB,gE,cD];by_cases h2:2<lb.length
  ·rw[if_pos (by omega)]
   have hb0:lb≠[]:=by intro e;subst e;simp at h2
   have hbpos:0<val BB lb:=by
    rcases Nat.eq_zero_or_pos (val BB lb)with h | h
    ·exact absurd (mX kG hbn h) hb0
    ·exact h
   obtain⟨m,hm⟩:∃m,la.length=m+3:=⟨la.length-3,by omega⟩
   obtain⟨top,htop⟩:=getElem?_of_lt (l:=la) (i:=m+2) (by omega)
   have ha0:la≠[]:=by intro e;subst e;simp at hm
   have ht0:0<top:=by
    have:=han ha0
    have hlast:la.getLast ha0=top:=by
     rw[List.getLast_eq_getElem];have:la[la.length-1]?=some top:=by rw[hm];exact htop
     rw[yae (by omega)]at this
     exact ybj this
    rw[hlast]at this;omega
   rw[q237];refine zm3 ha hb hal hbl hm (by omega) (by omega) htop ht0 hle fun u0 u1 v0 v1 ev W hW hA hB hL=>?_
   have eG:zrs [(.int .u64 0),(.int .u64 0),(.int .u64 0),(.int .u64 0),(.bool false)] (.agg [.int .u64 (u0:Int),.int .u64 (u1:Int),.int .u64 (v0:Int),.int .u64 (v1:Int),.bool ev])=some (cellsOf [.int .u64 (u0:Int),.int .u64 (u1:Int),.int .u64 (v0:Int),.int .u64 (v1:Int),.bool ev]):=qN rfl
   rw[eG];simp only[sA,cellsOf,z3b,zej,yaa,yab,if_true,zbv];by_cases hv0:v0=0
   ·refine zys (zH.2 (by omega)) ?_
    rw[q238];refine zll ha hb hlen hal hbl han hbn hb0 fun t' q r qv rv k1 k2 k3 k4 k5 k6 k7 k8 k9=>?_
    simp only[rB,zA.asTup,uA,lF,yaa,yab,sA];refine ih (val BB lb+val BB r) (by omega) lb r pb rv t' rfl (ht.trans k1) (hb.mono k1) k3 hbl k5 hbn k7 (by omega) (by omega) ?_
    rw[zy8 k8];exact hg
   ·refine ite_no (fun e=>absurd (zH.1 e) (by omega)) ?_
    rcases hL with h | hL
    ·exact absurd h hv0
    obtain⟨s1,s2,s3,s4⟩:=zo5 hA hB hL
    have eA:val BB la=W*(val BB la / W)+val BB la%W:=(ybi _ _).symm
    have eB:val BB lb=W*(val BB lb / W)+val BB lb%W:=(ybi _ _).symm
    obtain⟨X,Y,l1,l2,l3,l4,l5,l6⟩:=lehmer eA eB (ybz _ hW) (ybz _ hW) hL
    have hgg:=zy7 l1 l2 l4 l5
    have hXA:X<=val BB la:=by
     have:X<=v1*X:=Nat.le_mul_of_pos_left _ (by
      obtain⟨x,y,_,_,_,_,_,_,w2,w3⟩:=hL;omega)
     omega
    cases ev with
    | true=>
     obtain⟨m1,m2⟩:=l1 rfl
     simp only[if_true];rw[q239];refine sY ha hb hal hbl s1 s3 hlen (by omega) (by omega) fun t1 r1 rv1 k1 k2 k3 k4 k5=>?_
     rw[q239];refine sY (hb.mono k1) (ha.mono k1) hbl hal s4 s2 (by omega) hlen (by omega) fun t2 r2 rv2 j1 j2 j3 j4 j5=>?_
     have e1:val BB r1=X:=by omega
     have e2:val BB r2=Y:=by omega
     refine ih (val BB r1+val BB r2) (by omega) r1 r2 rv1 rv2 t2 rfl (ht.trans (k1.trans j1)) (k2.mono j1) j2 k3 j3 k4 j4 (by omega) ?_ (by rw[e1,e2,hgg];exact hg)
     have:=rO hB1 hal k4 (by rw[e1];exact hXA)
     omega
    | false=>
     obtain⟨m1,m2⟩:=l2 rfl
     simp only[if_true,yar,if_false];rw[q239];refine sY hb ha hbl hal s3 s1 (by omega) hlen (by omega) fun t1 r1 rv1 k1 k2 k3 k4 k5=>?_
     rw[q239];refine sY (ha.mono k1) (hb.mono k1) hal hbl s2 s4 hlen (by omega) (by omega) fun t2 r2 rv2 j1 j2 j3 j4 j5=>?_
     have e1:val BB r1=X:=by omega
     have e2:val BB r2=Y:=by omega
     refine ih (val BB r1+val BB r2) (by omega) r1 r2 rv1 rv2 t2 rfl (ht.trans (k1.trans j1)) (k2.mono j1) j2 k3 j3 k4 j4 (by omega) ?_ (by rw[e1,e2,hgg];exact hg)
     have:=rO hB1 hal k4 (by rw[e1];exact hXA)
     omega
  ·rw[if_neg (by omega)]
   simp only[zH];by_cases h0:lb.length=0
   ·rw[if_pos (by omega)]
    have:lb=[]:=ybd.1 h0
    subst this;refine hQ t la pa ht ha hal han ?_
    rw[<- hg];simp only[val];rw[Nat.gcd_zero_right]
   ·rw[if_neg (by omega)]
    simp only[ha.len,sA,oB,gE,cD];have hb0:lb≠[]:=by intro e;subst e;simp at h0
    by_cases h3:2<la.length
    ·rw[if_pos (by omega),q238]
     refine zll ha hb hlen hal hbl han hbn hb0 fun t' q r qv rv k1 k2 k3 k4 k5 k6 k7 k8 k9=>?_
     simp only[rB,zA.asTup,uA,lF,yaa,yab,sA];have:=rO hB1 hbl k7 (Nat.le_of_lt k9)
     refine zz7 (hb.mono k1) k3 hbl k5 (by omega) (by omega) fun t2 r2 rv2 j1 j2 j3 j4 j5=>?_
     exact hQ t2 r2 rv2 (ht.trans (k1.trans j1)) j2 j3 j4 (by rw[j5,zy8 k8];exact hg)
    ·rw[if_neg (by omega)]
     refine zz7 ha hb hal hbl (by omega) (by omega) fun t2 r2 rv2 j1 j2 j3 j4 j5=>?_
     exact hQ t2 r2 rv2 (ht.trans j1) j2 j3 j4 (by rw[j5];exact hg)
theorem cd_ok{la lb:List Nat}{pa pb:zA}{Q:vC}(ha:dA t 1 (mB .u32 la) pa)(hb:dA t 1 (mB .u32 lb) pb)(hal:sB BB la)(hbl:sB BB lb)(han:norm la)(hbn:norm lb)(hla:la.length<700000)(hlb:lb.length<700000)
  (hQ:∀t' r rv,vB t t'->dA t' 1 (mB .u32 r) rv->sB BB r->norm r->val BB r=Nat.gcd (val BB la) (val BB lb)->Q rv t'):Wc yA F 226 [pa,pb] t Q:=by
 have hBB:=tK
 have hB1:1<BB:=by omega
 have hlt:=zz3 hB1 hal hbl han hbn
 refine w226 _ _ ?_
 simp only[t226,pA,q236,z6f (by omega) ha hb,sA,oB,cD]
 by_cases hc:qJ la lb<0
 ·rw[if_pos hc]
  have:=hlt.1 hc
  exact zz8 hQ _ lb la pb pa t rfl (vB.refl _) hb ha hbl hal hbn han (by omega) hlb (Nat.gcd_comm _ _)
 ·rw[if_neg hc]
  have:val BB lb<=val BB la:=Nat.le_of_not_lt fun h=>hc (hlt.2 h)
  exact zz8 hQ _ la lb pa pb t rfl (vB.refl _) ha hb hal hbl han hbn this hla rfl
end Go.Proofs
namespace Go.Proofs
open Go Go.Am
variable [fC]
variable {t:Tr rA}
theorem zag{neg:Bool}{l:List Nat}(h:yJ neg l=true):norm l:=by
 intro hne;unfold yJ at h;rw[if_neg hne,yac]at h;have:=of_decide_eq_true h.2
 intro e;exact this (by rw[List.getLast?_eq_some_getLast hne,e])
theorem zi2{l:List pI}{v:zA}(hv:dA t 2 (l.map pI.d) v)(hb:∀w∈l,w.limbs.length<1125899906842624)(hn:l.length<1125899906842624):∀(k i:Nat),i+k=l.length->jp 224 2 [v,.int .i64 (l.length:Int),.int .i64 (i:Int)] t (fun r m=>r=.bool ((l.drop i).all fun w=>yJ w.neg w.limbs)/\m=t):=by
 intro k;induction k with
 | zero=>
  intro i hi;refine z5y _ _ _ ?_
  simp only[zv3,pA,cD];rw[if_neg (by omega),yau (by omega)]
  (first | exact⟨rfl,rfl⟩ | exact⟨rfl,trivial⟩ | trivial)
 | succ k ih=>
  intro i hi;have hlt:i<l.length:=by omega
  have hx:l[i]?=some l[i]:=yae hlt
  obtain⟨b,off,cs,g1,g2,_,_,g5⟩:=gF.at sl279 (by simp) hv (i:=i) (d:=l[i].d) (by simp[hx])
  obtain⟨u,rfl,hu⟩:=zhq g5
  have hv1:=zbp (neg:=l[i].neg) (hb _ (ybk hlt)) hu
  refine z5y _ _ _ ?_
  simp only[zv3,pA,cD];rw[if_pos (by omega),g1,sA,g2,pK,sA,uK g5 (pI.zs _)]
  simp only[sA,cellsOf,zej,zr3,yaa,yab];have hone:tC zA.one [.bool l[i].neg,u]=true:=by
   show(bif zA.one (.bool l[i].neg)then(bif zA.one u then true else false)else false)=true
   rw[hu.one];rfl
  refine zys hone ?_
  rw[q187,hv1];simp only[sA,cT,zh3];rw[yam hlt,ybh]
  cases hq:yJ l[i].neg l[i].limbs with
  | false=>simp
  | true=>
   simp only[ybo,Bool.true_eq_false,if_false];rw[wrap_i64 (by omega) (by omega)]
   exact ih (i+1) (by omega)
theorem zo2{l:List pI}{v:zA}(hv:dA t 2 (l.map pI.d) v)(hb:∀w∈l,w.limbs.length<1125899906842624)(hn:l.length<1125899906842624):lB yA F 224 [v] t=some (.bool (l.all fun w=>yJ w.neg w.limbs)):=by
 refine oC.2 (w224 _ ?_)
 simp only[t224,pA,hv.len,sA,oB,yag];have:=zi2 hv hb hn l.length 0 (by omega)
 rw[ybs]at this;exact this
theorem gcd_ok{n d:pI}{u v:zA}{Q:vC}(hu:dA t 1 (kE n.limbs) u)(hv:dA t 1 (kE d.limbs) v)(hn:n.limbs.length<700000)(hd:d.limbs.length<700000)(hnl:sB 65536 n.limbs)(hdl:sB 65536 d.limbs)(hnv:yJ n.neg n.limbs=true)(hdv:yJ d.neg d.limbs=true)
  (hQ:∀t' g rv,vB t t'->dA t' 1 (kE g) rv->sB 65536 g->norm g->val 65536 g=Nat.gcd (val 65536 n.limbs) (val 65536 d.limbs)->Q (.tup [.agg [.bool false,rv],.int .i64 0]) t'):Wc yA F 210 [.agg [.bool n.neg,u],.agg [.bool d.neg,v]] t Q:=by
 have hBB:=tK
 refine w210 _ _ _ _ ?_
 simp only[t210,pA];intro b hb hbase;obtain⟨t1,g1,g2,g3,g4⟩:=zkp (C:=yA) (T:=279) (el:=29) (sz:=2) (n:=2) (cl:=[[.bool n.neg,u],[.bool d.neg,v]]) (ps:=[(0,.agg [.bool n.neg,u]),(1,.agg [.bool d.neg,v])]) ty279 rfl ty29 rfl rfl (by decide) rfl (fun i cs hi=>by
  rcases i with _ | _ | i
  ·simp at hi;subst hi;rfl
  ·simp at hi;subst hi;rfl
  ·simp at hi) rfl hb
 rw[g1,sA];have hw:dA t1 2 ([n,d].map pI.d) (.slice b 0 2 2):=⟨_,g2,by
  simp only[ybn,List.map_nil,rE,gG];refine⟨_,_,rfl,?_,_,_,rfl,?_,rfl⟩
  ·unfold pI.d
   rw[wI];refine⟨[[.bool n.neg],[u]],rfl,?_⟩
   simp only[rE,gG,tQ,nJ];exact⟨_,_,rfl,rfl,_,_,rfl,⟨u,rfl,hu.mono g3⟩,rfl⟩
  ·unfold pI.d
   rw[wI];refine⟨[[.bool d.neg],[v]],rfl,?_⟩
   simp only[rE,gG,tQ,nJ];exact⟨_,_,rfl,rfl,_,_,rfl,⟨v,rfl,hv.mono g3⟩,rfl⟩⟩
 have hall:=zo2 hw (fun w hw=>by
  rcases yat.1 hw with rfl | hw
  ·omega
  ·rw[yce.1 hw];omega) (by simp)
 rw[q224,hall];simp only[sA,cT,zh3,ybh,ybl,hnv,hdv,Bool.and_self,Bool.true_eq_false,if_false];rw[q190];refine zni (hu.mono g3) (by omega) hnl fun t2 v2 k1 k2=>?_
 rw[if_pos hv.same,q190];refine zni ((hv.mono g3).mono k1) (by omega) hdl fun t3 v3 m1 m2=>?_
 have an:=gW hnl
 have ad:=gW hdl
 rw[<- hBB]at an ad;rw[q226];refine cd_ok (k2.mono m1) m2 an ad (nX (zag hnv)) (nX (zag hdv)) (by rw[kN];omega) (by rw[kN];omega) fun t4 r rv p1 p2 p3 p4 p5=>?_
 rw[hBB]at p3;have vn:∀l,val BB (pF l)=val 65536 l:=fun l=>by rw[hBB];exact zci l
 rw[vn,vn]at p5;have hrl:r.length<400000:=by
  have hB1:1<BB:=by omega
  rcases Nat.eq_zero_or_pos (val 65536 n.limbs)with h0 | h0
  ·rw[h0,Nat.gcd_zero_left,<- vn]at p5
   have:=rO hB1 ad p4 (Nat.le_of_eq p5)
   rw[kN]at this;omega
  ·have h1:=Nat.gcd_le_left (val 65536 d.limbs) h0
   rw[<- p5,<- vn]at h1;have:=rO hB1 an p4 h1
   rw[kN]at this;omega
 rw[q225];refine zu0 p2 hrl p3 fun t5 v5 s1 s2=>?_
 rw[jV p4]at s2 ⊢
 have eG:zrs [(.bool false),.nilslice] (.agg [.bool (if r=[]then false else false),v5])=some (cellsOf [.bool (if r=[]then false else false),v5]):=qN (by
  show(true&&(z06 .nilslice v5&&true))=true
  rw[xY s2];rfl)
 rw[eG];have hone:tC zA.one [.bool false,v5]=true:=by
  show(bif zA.one (.bool false)then(bif zA.one v5 then true else false)else false)=true
  rw[s2.one];rfl
 simp only[sA,cellsOf,zej,zr3,yaa,yab,ite_self,hone,if_true];refine hQ t5 (oE (vG r)) v5 (g3.trans (k1.trans (m1.trans (p1.trans s1)))) s2 (xQ (zan p3)) (lP _) ?_
 rw[jM,<- p5,zch,hBB]
end Go.Proofs
namespace Go.Am
def wF.fit(f:wF):Prop:=f.ok/\sB 65536 f.n.limbs/\sB 65536 f.d.limbs
def xH.fit(v:xH):Prop:=v.kind<256/\v.f.fit /\ -9223372036854775808<=v.i/\v.i<9223372036854775808
mutual
def jA.fit:jA->Prop
 | .mk op name v args=>op<256/\name.length<dC/\(∀c∈name,c<256)/\v.fit/\args.length<dC/\jA.fits args
def jA.fits:List jA->Prop
 | []=>True
 | x::l=>x.fit/\jA.fits l
end
theorem jA.fits_mem:∀ {l:List jA},jA.fits l->∀x∈l,x.fit
 | [],_,_,h=>by cases h
 | y::l,h,x,hx=>by
  unfold jA.fits at h;rcases yat.1 hx with rfl | hx
  ·exact h.1
  ·exact jA.fits_mem h.2 x hx
mutual
theorem jA.fit_ok:∀ {x:jA},x.fit->x.ok
 | .mk op name v args,h=>by
  unfold jA.fit at h;unfold jA.ok;exact⟨h.2.1,h.2.2.2.1.2.1.1,h.2.2.2.2.1,jA.fits_oks h.2.2.2.2.2⟩
theorem jA.fits_oks:∀ {l:List jA},jA.fits l->jA.oks l
 | [],_=>by unfold jA.oks;trivial
 | x::l,h=>by
  unfold jA.fits at h;unfold jA.oks;exact⟨jA.fit_ok h.1,jA.fits_oks h.2⟩
end
def i64 (n:Int):Prop := -9223372036854775808<=n/\n<9223372036854775808
def aK.fit(r:aK):Prop:=i64 r.a/\i64 r.b/\i64 r.known/\r.f.fit
def aF.fit(x:aF):Prop:=x.name.length<dC/\x.rows.length<dC/\∀r∈x.rows,r.fit
def iF.fit(x:iF):Prop:=x.name.length<dC/\x.kind<256
def wH.fit(x:wH):Prop:=x.name.length<dC/\x.label.length<dC/\i64 x.from_/\i64 x.to/\i64 x.known/\x.when_.fit/\x.then_.fit
structure fD.fit (p:fD):Prop where
 name:p.name.length<dC
 ndefs:p.defs.length<dC
 ntables:p.tables.length<dC
 nclauses:p.clauses.length<dC
 defs:∀d∈p.defs,d.fit
 tables:∀d∈p.tables,d.fit
 clauses:∀d∈p.clauses,d.fit
end Go.Am
namespace Go.Proofs
open Go Go.Am
variable [fC]
variable {t:Tr rA}
def sameW(a b:pI):Bool:=(a.neg == b.neg)&&decide (a.limbs=b.limbs)
def sameF(a b:wF):Bool:=sameW a.n b.n&&sameW a.d b.d
def sameV(a b:xH):Bool:=decide (a.kind=b.kind)&&decide (a.i=b.i)&&sameF a.f b.f
def zgi(w:pI):Bool := !w.neg&&decide (w.limbs=[1])
def nN(f:wF):Bool:=decide (f.n.limbs.length<=256)&&decide (f.d.limbs.length<=256)&&yJ f.n.neg f.n.limbs&&yJ f.d.neg f.d.limbs && !f.d.neg&&decide (f.d.limbs≠[])&&(zgi f.d||decide (Nat.gcd (val 65536 f.n.limbs) (val 65536 f.d.limbs)=1))
theorem zyx{a b:Int}:dB a b=decide (a<b):=by
 cases h:dB a b with
 | true=>rw[decide_eq_true (cD.1 h)]
 | false=>rw[decide_eq_false (fun k=>by rw[cD.2 k]at h;cases h)]
theorem z8n{a b:Int}:jC a b=decide (a<=b):=by
 cases h:jC a b with
 | true=>rw[decide_eq_true (iG.1 h)]
 | false=>rw[decide_eq_false (fun k=>by rw[iG.2 k]at h;cases h)]
theorem tN{a b:Int}:mA a b=decide (a=b):=by
 cases h:mA a b with
 | true=>rw[decide_eq_true (zH.1 h)]
 | false=>rw[decide_eq_false (fun k=>by rw[zH.2 k]at h;cases h)]
theorem zhe{f:wF}{u v:zA}(hu:dA t 1 (kE f.n.limbs) u)(hv:dA t 1 (kE f.d.limbs) v)(hf:wF.fit f):lB yA F 166 [.agg [.bool f.n.neg,u,.bool f.d.neg,v]] t=some (.bool (nN f)):=by
 obtain⟨h1,h2,h3⟩:=hf
 unfold wF.ok dC at h1;have c1:lB yA F 186 [.agg [.bool f.n.neg,u,.bool f.d.neg,v]] t=some (.bool (!(decide (f.n.limbs.length<=256)&&decide (f.d.limbs.length<=256)))):=by
  refine oC.2 (w186 _ _ _ _ ?_)
  simp only[t186,pA,hu.len,hv.len,sA,oB,lW];have e:dB 256 (f.d.limbs.length:Int) = !decide (f.d.limbs.length<=256):=by
   rw[zyx,<- decide_not];congr 1;exact propext ⟨by omega,by omega⟩
  by_cases g1:f.n.limbs.length<=256
  ·rw[if_neg (fun h=>absurd (cD.1 h) (by omega)),e]
   simp[g1]
  ·rw[if_pos (cD.2 (by omega))];simp[g1]
 have c2:=zbp (neg:=f.n.neg) (by omega) hu
 have c3:=zbp (neg:=f.d.neg) (by omega) hv
 have c4:lB yA F 168 [.agg [.bool f.n.neg,u,.bool f.d.neg,v]] t=some (.bool (zgi f.d)):=by
  refine oC.2 (w168 _ _ _ _ ?_)
  simp only[t168,pA,q188,zid hv,sA,cT]; (first | exact⟨rfl,rfl⟩ | exact⟨rfl,trivial⟩ | trivial)
 refine kJ (w166 _ _ _ _ ?_)
 simp only[t166,pA,q186,c1,q187,c2,c3,q168,c4,sA,cT,hv.len,oB,lW,zH,zh3];unfold nN;by_cases g1:f.n.limbs.length<=256
 ·by_cases g2:f.d.limbs.length<=256
  ·simp only[g1,g2,decide_true,ybo,Bool.not_true,yar,if_false]
   cases hn:yJ f.n.neg f.n.limbs with
   | false=>simp
   | true=>
    cases hd:yJ f.d.neg f.d.limbs with
    | false=>simp
    | true=>
     simp only[Bool.true_eq_false,if_false,ybo]
     cases hg:f.d.neg with
     | true=>simp
     | false=>
      simp only[yar,if_false,ybm,ybo];by_cases h0:f.d.limbs=[]
      ·rw[if_pos (by rw[h0];rfl)];simp[h0]
      ·have:f.d.limbs.length≠0:=fun e=>h0 (ybd.1 e)
       rw[if_neg (by omega)]
       simp only[h0,ne_eq,not_false_eq_true,decide_true,ybo]
       cases ho:zgi f.d with
       | true=>simp
       | false=>
        simp only[yar,if_false,Bool.false_or];rw[q189];refine w189 _ _ _ _ ?_
        simp only[t189,pA,q210];have hn':=hn
        have hd':=hd
        rw[hg]at hd'
        refine gcd_ok (n:=f.n) (d:=⟨false,f.d.limbs⟩) hu hv (by omega) (by show f.d.limbs.length<_;omega) h2 h3 hn' hd' fun t' g rv k1 k2 k3 k4 k5=>?_
        have eG:zrs [(.bool false),.nilslice] (.agg [.bool false,rv])=some (cellsOf [.bool false,rv]):=qN (by
         show(true&&(z06 .nilslice rv&&true))=true
         rw[xY k2];rfl)
        have hone:tC zA.one [.bool false,rv]=true:=by
         show(bif zA.one (.bool false)then(bif zA.one rv then true else false)else false)=true
         rw[k2.one];rfl
        simp only[rB,zA.asTup,uA,lF,yaa,yab,sA,oB,eG,cellsOf,zej,zr3,hone,if_true];rw[q188,zid k2];simp only[sA,cT,ybm,ybo]
        refine⟨?_,k1⟩
        congr 1
        rw[decide_eq_decide,<- k5];constructor
        ·intro e;subst e;rfl
        ·intro e
         exact z2m (B:=65536) (by decide) k3 (fun x hx=>by rw[yce.1 hx];decide) k4 (fun _=>by simp) (by rw[e];rfl)
  ·simp[g2]
 ·simp[g1]
theorem zjc{f:wF}{u v:zA}(hu:dA t 1 (kE f.n.limbs) u)(hv:dA t 1 (kE f.d.limbs) v)(hf:wF.fit f):lB yA F 141 [.agg [.bool f.n.neg,u,.bool f.d.neg,v]] t=some (.bool (nN f)):=by
 refine oC.2 (w141 _ _ _ _ ?_)
 simp only[t141,pA,q166,zhe hu hv hf,sA,cT,if_true];exact⟨trivial,trivial⟩
end Go.Proofs
namespace Go.Proofs
open Go Go.Am
variable [fC]
variable {t:Tr rA}
theorem sL{a b:List Nat}(h:a.length+b.length<4611686018427387904):xJ a b=some (.str (a++b)):=by
 unfold xJ;rw[bC,bC,xC.2 h,rG];rfl
theorem zpq{s:List Nat}{k:Nat}(h:k<=s.length):zG yA 9 H0A (.str s) (some (.int .i64 (k:Int))) none=some (.str (s.drop k)):=by
 unfold zG bJ;rw[ty9,uA];simp only[zA.asStr];rw[show qD.isString .string=true from rfl,gD];unfold zbu rM zei bQ;have e:bI (k:Int)=some k:=rfl
 simp only[uA,zA.asNat,zA.asInt,e,bC,tE.2 h,tE.2 (yal _),gD,pO,iP,List.take_length]
theorem zhl{s:List Nat}{k:Nat}(h:k<=s.length):zG yA 9 H0A (.str s) none (some (.int .i64 (k:Int)))=some (.str (s.take k)):=by
 unfold zG bJ;rw[ty9,uA];simp only[zA.asStr];rw[show qD.isString .string=true from rfl,gD];unfold zbu rM zei bQ;have e:bI (k:Int)=some k:=rfl
 simp only[uA,zA.asNat,zA.asInt,e,bC,tE.2 h,tE.2 (Nat.zero_le _),gD,pO,iP,ybs]
def zn4 (a b:List Nat):Bool:=decide (b.length<=a.length)&&zF (a.take b.length) b
theorem zbh{a b:List Nat}:lB yA F 194 [.str a,.str b] t=some (.bool (zn4 a b)):=by
 refine oC.2 (w194 _ _ ?_)
 simp only[t194,pA,oO,iG];unfold zn4;by_cases h:b.length<=a.length
 ·rw[if_pos (by omega),zhl h,sA]
  simp[zA.asStr,h]
 ·rw[if_neg (by omega)]
  simp[h]
theorem zhd{a b:List Nat}:lB yA F 143 [.str a,.str b] t=some (.str (if zn4 a b then a.drop b.length else a)):=by
 have h:lB yA F 169 [.str a,.str b] t=some (.str (if zn4 a b then a.drop b.length else a)):=by
  refine oC.2 (w169 _ _ ?_)
  simp only[t169,pA,q194,zbh,sA,zA.asBool,oO]
  cases hp:zn4 a b with
  | true=>
   simp only[if_true];have:b.length<=a.length:=by unfold zn4 at hp;simp at hp;exact hp.1
   rw[zpq this,sA];simp[zA.asStr]
  | false=>simp
 refine oC.2 (w143 _ _ ?_)
 simp only[t143,pA,q169,h,sA,zA.asStr];first | exact⟨rfl,rfl⟩ | exact⟨trivial,trivial⟩ | exact⟨rfl,trivial⟩
theorem zlo{a b:List Nat}:lB yA F 195 [.str a,.str b] t=some (.tup [.str (if zn4 a b then a.drop b.length else a),.bool (zn4 a b)]):=by
 have h:lB yA F 215 [.str a,.str b] t=some (.tup [.str (if zn4 a b then a.drop b.length else a),.bool (zn4 a b)]):=by
  refine oC.2 (w215 _ _ ?_)
  simp only[t215,pA,q194,zbh,sA,zA.asBool,oO]
  cases hp:zn4 a b with
  | true=>
   simp only[Bool.not_true,yar,if_false];have:b.length<=a.length:=by unfold zn4 at hp;simp at hp;exact hp.1
   rw[zpq this,sA];simp[zA.asStr]
  | false=>simp
 refine oC.2 (w195 _ _ ?_)
 have x0:∀u v,rB 0 (.tup [u,v])=some u:=fun _ _=>rfl
 have x1:∀u v,rB 1 (.tup [u,v])=some v:=fun _ _=>rfl
 simp only[t195,pA,q215,h,sA,x0,x1,zA.asStr,zA.asBool];first | exact⟨rfl,rfl⟩ | exact⟨trivial,trivial⟩ | exact⟨rfl,trivial⟩
def aJ(s:List Nat):List Nat:=if zn4 s [45]then [109,105,110,117,115,32]++s.drop 1 else s
theorem zjp{s:List Nat}(h:s.length<4000000000000000000):lB yA F 172 [.str s] t=some (.str (aJ s)):=by
 refine oC.2 (w172 _ ?_)
 have x0:∀u v,rB 0 (.tup [u,v])=some u:=fun _ _=>rfl
 have x1:∀u v,rB 1 (.tup [u,v])=some v:=fun _ _=>rfl
 simp only[t172,pA,q195,zlo,sA,x0,x1,zA.asStr,zA.asBool];unfold aJ
 cases hp:zn4 s [45]with
 | true=>
  simp only[if_true];rw[sL (by simp;omega),sA]
  simp[zA.asStr]
 | false=>simp
theorem z8i{n:Int}(h0 : -9223372036854775808<=n)(h1:n<9223372036854775808):lB yA F 175 [.int .i64 n] t=some (.str (tJ n)):=by
 have hg:yA.prims.get 175=some (zK zsy):=by kernel_rfl
 refine zhs hg fun H=>?_
 unfold zsy;simp only[];rw[iG.2 h0,cD.2 h1];rfl
theorem zic{n:Int}(h0 : -9223372036854775808<=n)(h1:n<9223372036854775808):(tJ n).length<=21:=by
 by_cases h:n<0
 ·obtain⟨u,rfl⟩:∃u:Nat,n = -(u:Int):=⟨n.natAbs,by omega⟩
  rw[zk4 (by omega)]
  have:=zee (u:=u) (k:=20) (by decide) (by rw[show(10:Nat)^20=100000000000000000000 by decide];omega)
  simp;omega
 ·obtain⟨u,rfl⟩:∃u:Nat,n=(u:Int):=⟨n.toNat,by omega⟩
  rw[zdw];have:=zee (u:=u) (k:=20) (by decide) (by rw[show(10:Nat)^20=100000000000000000000 by decide];omega)
  omega
theorem zgj{n:Int}(h0 : -9223372036854775808<=n)(h1:n<9223372036854775808):lB yA F 148 [.int .i64 n] t=some (.str (aJ (tJ n))):=by
 have:=zic h0 h1
 refine oC.2 (w148 _ ?_)
 simp only[t148,pA,q175,z8i h0 h1,sA,zA.asStr,q172,zjp (s:=tJ n) (by omega)]
 first | exact⟨rfl,rfl⟩ | exact⟨trivial,trivial⟩ | exact⟨rfl,trivial⟩
def gJ(f:wF):List Nat:=zce f.n.neg f.n.limbs++(if zgi f.d then []else 47::zce f.d.neg f.d.limbs)
theorem zom{u:Nat}:∀ {k:Nat},u<10^k->(yG u).length<=k+1:=by
 intro k h;have:=zee (u:=u) (k:=k+1) (by omega) (by rw[Nat.pow_succ];omega)
 exact this
theorem eW{neg:Bool}{l:List Nat}(hlt:sB 65536 l)(hl:l.length<=1024):(zce neg l).length<=10000:=by
 unfold zce intN;have h1:=qK (B:=65536) (by decide) hlt
 have h2:(65536:Nat)^l.length<=10^(5*l.length):=by
  rw[Nat.pow_mul];exact Nat.pow_le_pow_left (by decide) _
 have:=zom (u:=val 65536 l) (k:=5*l.length) (by omega)
 rw[yah];have:(if neg=true then [45]else([]:List Nat)).length<=1:=by cases neg<;>simp
 omega
theorem za6{f:wF}(h:nN f=true):yJ f.n.neg f.n.limbs=true/\yJ f.d.neg f.d.limbs=true/\f.n.limbs.length<=1024/\f.d.limbs.length<=1024:=by
 unfold nN at h;simp only[yac,decide_eq_true_eq]at h;obtain⟨⟨⟨⟨⟨⟨h1,h2⟩,h3⟩,h4⟩,_⟩,_⟩,_⟩:=h
 exact⟨h3,h4,by omega,by omega⟩
theorem zd4{f:wF}(hf:f.fit)(h:nN f=true):(gJ f).length<=20001:=by
 obtain⟨_,_,h3,h4⟩:=za6 h
 have a:=eW (neg:=f.n.neg) hf.2.1 h3
 have b:=eW (neg:=f.d.neg) hf.2.2 h4
 unfold gJ;rw[yah];split
 ·simp;omega
 ·simp;omega
theorem zd2{f:wF}{u v:zA}(hu:dA t 1 (kE f.n.limbs) u)(hv:dA t 1 (kE f.d.limbs) v)(hf:wF.fit f):lB yA F 142 [.agg [.bool f.n.neg,u,.bool f.d.neg,v]] t=some (if nN f then .tup [.str (gJ f),.int .i64 0]else .tup [.str [],.int .i64 2]):=by
 refine oC.2 (w142 _ _ _ _ ?_)
 have x0:∀u v,rB 0 (.tup [u,v])=some u:=fun _ _=>rfl
 have x1:∀u v,rB 1 (.tup [u,v])=some v:=fun _ _=>rfl
 simp only[t142,pA,q141,zjc hu hv hf,sA,zA.asBool]
 cases hval:nN f with
 | false=>simp
 | true=>
  obtain⟨h1,h2,h3,h4⟩:=za6 hval
  have a:=eW (neg:=f.n.neg) hf.2.1 h3
  have b:=eW (neg:=f.d.neg) hf.2.2 h4
  have c1:lB yA F 168 [.agg [.bool f.n.neg,u,.bool f.d.neg,v]] t=some (.bool (zgi f.d)):=by
   refine oC.2 (w168 _ _ _ _ ?_)
   simp only[t168,pA,q188,zid hv,sA,zA.asBool];first | exact⟨rfl,rfl⟩ | exact⟨trivial,trivial⟩ | exact⟨rfl,trivial⟩
  simp only[Bool.not_true,yar,if_false,q167,zvj hu hf.2.1 h1,sA,x0,x1,zA.asStr,oB,if_true,q168,c1,zA.asBool];unfold gJ
  cases hone:zgi f.d with
  | true=>simp
  | false=>
   simp only[ybm,if_true,zvj hv hf.2.2 h2,sA,x0,x1,zA.asStr,oB];rw[sL (by simp;omega),sA]
   simp only[zA.asStr,sA];rw[sL (by simp;omega),sA]
   simp[zA.asStr]
theorem zd3{f:wF}{u v:zA}(hu:dA t 1 (kE f.n.limbs) u)(hv:dA t 1 (kE f.d.limbs) v)(hf:wF.fit f)(hval:nN f=true):lB yA F 146 [.agg [.bool f.n.neg,u,.bool f.d.neg,v]] t=some (.str (aJ (gJ f))):=by
 have:=zd4 hf hval
 refine oC.2 (w146 _ _ _ _ ?_)
 have x0:∀u v,rB 0 (.tup [u,v])=some u:=fun _ _=>rfl
 have x1:∀u v,rB 1 (.tup [u,v])=some v:=fun _ _=>rfl
 simp only[t146,pA,q142,zd2 hu hv hf,hval,if_true,sA,x0,x1,zA.asStr,oB,q172,zjp (s:=gJ f) (by omega)]
 first | exact⟨rfl,rfl⟩ | exact⟨trivial,trivial⟩ | exact⟨rfl,trivial⟩
def zf3(f:wF):Bool:=decide (f.n.limbs.length<=42)&&decide (f.d.limbs.length<=42)&&nN f&&decide ((if zn4 (gJ f) [45]then(gJ f).drop 1 else gJ f).length<=200)
theorem gZ{f:wF}{u v:zA}(hu:dA t 1 (kE f.n.limbs) u)(hv:dA t 1 (kE f.d.limbs) v)(hf:wF.fit f):lB yA F 115 [.agg [.bool f.n.neg,u,.bool f.d.neg,v]] t=some (.bool (zf3 f)):=by
 refine oC.2 (w115 _ _ _ _ ?_)
 have x0:∀u v,rB 0 (.tup [u,v])=some u:=fun _ _=>rfl
 have x1:∀u v,rB 1 (.tup [u,v])=some v:=fun _ _=>rfl
 simp only[t115,pA,hu.len,hv.len,lW,sA,oB,cD];unfold zf3;by_cases h1:f.n.limbs.length<=42
 ·rw[if_neg (by omega)]
  by_cases h2:f.d.limbs.length<=42
  ·rw[if_neg (by omega)]
   simp only[q141,zjc hu hv hf,sA,zA.asBool]
   cases hval:nN f with
   | false=>simp
   | true=>
    simp only[Bool.not_true,yar,if_false,q142,zd2 hu hv hf,hval,if_true,sA,x0,x1,zA.asStr,oB,zH,q143,zhd,oO];simp[h1,h2,z8n]
    constructor<;>intro h<;>omega
  ·rw[if_pos (by omega)];simp[h2]
 ·rw[if_pos (by omega)];simp[h1]
def zew(f:wF):Bool := !f.n.neg && !f.d.neg&&decide (f.n.limbs.length+f.d.limbs.length=0)
theorem zca{f:wF}{u v:zA}(hu:dA t 1 (kE f.n.limbs) u)(hv:dA t 1 (kE f.d.limbs) v)(hf:f.ok):lB yA F 116 [.agg [.bool f.n.neg,u,.bool f.d.neg,v]] t=some (.bool (zew f)):=by
 unfold wF.ok dC at hf;refine oC.2 (w116 _ _ _ _ ?_)
 simp only[t116,pA,hu.len,hv.len,lW,sA,oB];unfold zew;rw[wrap_i64 (by omega) (by omega),tN]
 have e:decide ((f.n.limbs.length:Int)+(f.d.limbs.length:Int)=0)=decide (f.n.limbs.length+f.d.limbs.length=0):=by
  by_cases h:f.n.limbs.length+f.d.limbs.length=0
  ·rw[decide_eq_true h,decide_eq_true (by omega)]
  ·rw[decide_eq_false h,decide_eq_false (by omega)]
 rw[e]
 cases f.n.neg<;>cases f.d.neg<;>simp
theorem zqx{n:Int}:lB yA F 117 [.int .i64 n] t=some (.bool (decide (0<=n)&&decide (n<65536))):=by
 refine oC.2 (w117 _ ?_)
 simp only[t117,pA,iG];by_cases h:0<=n
 ·rw[if_pos h];simp[h,zyx]
 ·rw[if_neg h];simp[h]
def tO(v:xH):Bool:=
 if v.kind=2\/v.kind=3 then decide (v.i=0)&&zf3 v.f
 else if v.kind=1 then zew v.f&&(decide (v.i=0)||decide (v.i=1))
 else if v.kind=4 then zew v.f&&(decide (0<=v.i)&&decide (v.i<65536))
 else if v.kind=5\/v.kind=6 then zew v.f&&(decide (-1048576<=v.i)&&decide (v.i<=1048576))
 else false
theorem zas{a:xH}{u v:zA}(hu:dA t 1 (kE a.f.n.limbs) u)(hv:dA t 1 (kE a.f.d.limbs) v)(hf:wF.fit a.f):lB yA F 85 [.agg [.int .u8 a.kind,.bool a.f.n.neg,u,.bool a.f.d.neg,v,.int .i64 a.i]] t=some (.bool (tO a)):=by
 refine oC.2 (w85 _ _ _ _ _ _ ?_)
 simp only[t85,pA,q115,gZ hu hv hf,q116,zca hu hv hf.1,q117,zqx,sA,zA.asBool];unfold tO;have kk:∀j:Int,mA (a.kind:Int) j=decide ((a.kind:Int)=j):=fun j=>tN
 simp only[kk];by_cases k2:a.kind=2
 ·have e:(a.kind:Int)=2:=by omega
  by_cases h0:a.i=0<;>simp[e,k2,h0,tN]
 by_cases k3:a.kind=3
 ·have e:(a.kind:Int)=3:=by omega
  by_cases h0:a.i=0<;>simp[e,k3,h0,tN]
 have e2:¬ (a.kind:Int)=2:=by omega
 have e3:¬ (a.kind:Int)=3:=by omega
 by_cases k1:a.kind=1
 ·have e:(a.kind:Int)=1:=by omega
  cases zew a.f<;>by_cases h0:a.i=0<;>simp[e,k1,h0,tN]
 have e1:¬ (a.kind:Int)=1:=by omega
 by_cases k4:a.kind=4
 ·have e:(a.kind:Int)=4:=by omega
  cases zew a.f<;>simp[e,k4]
 have e4:¬ (a.kind:Int)=4:=by omega
 by_cases k5:a.kind=5
 ·have e:(a.kind:Int)=5:=by omega
  cases zew a.f<;>by_cases h0:(-1048576:Int)<=a.i<;>simp[e,k5,h0,z8n]
 have e5:¬ (a.kind:Int)=5:=by omega
 by_cases k6:a.kind=6
 ·have e:(a.kind:Int)=6:=by omega
  cases zew a.f<;>by_cases h0:(-1048576:Int)<=a.i<;>simp[e,k6,h0,z8n]
 have e6:¬ (a.kind:Int)=6:=by omega
 simp[e1,e2,e3,e4,e5,e6,k1,k2,k3,k4,k5,k6]
end Go.Proofs
namespace Go.Am
open Go Go.RowKit
section
variable {t tf tf0:Tr rA}{C:qA}
mutual
theorem RD.ones:∀(d:D) (cs:List zA),RD t d cs->∀a∈cs,zA.one a=true
 | .int _ _,cs,h,a,ha=>by rw[RD]at h;subst h;simp at ha;subst ha;rfl
 | .bool _,cs,h,a,ha=>by rw[RD]at h;subst h;simp at ha;subst ha;rfl
 | .str _,cs,h,a,ha=>by rw[RD]at h;subst h;simp at ha;subst ha;rfl
 | .sl sz l,cs,h,a,ha=>by
  rw[nJ]at h;obtain⟨v,rfl,h⟩:=h
  simp at ha;subst ha;exact h.one
 | .st l,cs,h,a,ha=>by
  rw[wI]at h;obtain⟨cl,rfl,h⟩:=h
  exact eC.ones l cl h a ha
theorem eC.ones:∀(l:List D) (cl:List (List zA)),eC t l cl->∀a∈cl.flatten,zA.one a=true
 | [],cl,h,a,ha=>by rw[eC]at h;subst h;cases ha
 | d::l,cl,h,a,ha=>by
  rw[eC]at h;obtain⟨c,r,rfl,h1,h2⟩:=h
  rw[List.flatten_cons,List.mem_append]at ha;rcases ha with ha | ha
  ·exact RD.ones d c h1 a ha
  ·exact eC.ones l r h2 a ha
end
theorem RD.all{d:D}{cs:List zA}(h:RD t d cs):tC zA.one cs=true:=by
 rw[aG,ybc];exact RD.ones d cs h
theorem RD.mk{d:D}{cs zs:List zA}(h:RD t d cs)(hz:d.zs=zs):cM zs (cellsOf cs) 0=cs:=by
 have:=qW zs cs [] (by rw[<- hz];exact zd6 d cs h)
 simpa using this
theorem lit1{S el sz b:Nat}{cs:List zA}(hT:ElTy C S el sz)(hc:cs.length=sz)(hs:sz<1000000)(hb:t.get b=none) :
  ∃t',dH C S 1 [(0,.agg cs)] ⟨b,t⟩=some (.slice b 0 1 1,⟨b+1,t'⟩)/\vK t' sz (.slice b 0 1 1) [cs]/\vB t t'/\bD b t t':=by
 obtain⟨⟨y,hy1,hy2,_⟩,⟨z,hz1,hz2,hz3,_,_⟩⟩:=hT
 refine zkp (n:=1) (cl:=[cs]) hy1 hy2 hz1 hz2 hz3 (by omega) ?_ (fun i q hq=>?_) rfl hb
 ·have e:vJ z.zero 1=z.zero:=by show aC z.zero []=z.zero;rw[rG,ybe]
  rw[e];unfold wM nT;have e1:(zA.agg cs).cells=cs:=rfl
  rw[bC]at hz3;simp only[uA,e1,bC,hc,hz3,Nat.zero_mul,yax,pO,iP,rG,List.take_zero,List.nil_append];rw[fB.2 rfl,tE.2 (yal sz)]
  simp only[Bool.and_self,gD,uA,wM];rw[yau (by omega)]
  simp
 ·rcases i with _ | i
  ·simp at hq;subst hq;exact hc
  ·simp at hq
end
end Go.Am
namespace Go.Am
open Go Go.RowKit
section
variable {C:qA}{t:Tr rA}
def zM(C:qA)(T:Nat)(k:zA):Bool:=
 match ob (C.tys.get T) fun ty=>ob ty.desc.asMap fun ke=>ob (C.tys.get ke.1) fun kty=>cA (gN C kty&&yM C kty k) (some ())with | some _=>true | none=>false
theorem bX{T:Nat}{k:zA}(h:zM C T k=true):∃ty ke kty,C.tys.get T=some ty/\ty.desc.asMap=some ke/\C.tys.get ke.1=some kty/\gN C kty=true/\yM C kty k=true:=by
 unfold zM at h;split at h
 case h_2=>cases h
 rename_i u hu;simp only[tA,yB,yac]at hu;obtain⟨ty,h1,ke,h2,kty,h3,⟨h4,h5⟩,_⟩:=hu
 exact⟨ty,ke,kty,h1,h2,h3,h4,h5⟩
theorem zg9{T b n:Nat}{k v:zA}{l l':List (zA × zA)}(hk:zM C T k=true)(hb:C.base<=b)(hm:t.get b=some (.map l))(hs:tG k v l=some l') :
  eH C T (.map b) k v ⟨n,t⟩=some (oD,⟨n,t.set b (.map l')⟩):=by
 obtain⟨ty,ke,kty,h1,h2,h3,h4,h5⟩:=bX hk
 have e2:(!Nat.blt b C.base)=true:=by
  cases hq:Nat.blt b C.base with
  | true=>have:=xC.1 hq;omega
  | false=>rfl
 have e3:lG ⟨n,t⟩ b=some l:=by unfold lG;rw[hm];rfl
 unfold eH;rw[h1,uA,h2,uA,h3,uA,h4,gD];simp only[zA.asMap,uA];rw[e2,gD,e3,uA,h5,gD,hs];rfl
theorem zh7{T b n:Nat}{k v:zA}{l:List (zA × zA)}(hk:zM C T k=true)(hm:t.get b=some (.map l))(hs:cG k l=some (some v)){ty:qC}(hT:C.tys.get T=some ty){ke:Nat × Nat}(hd:ty.desc.asMap=some ke){ety:qC}(he:C.tys.get ke.2=some ety)(ok:Bool) :
  bG C T ⟨n,t⟩ (.map b) k ok=some (bif ok then .tup [v,.bool true]else v):=by
 obtain⟨ty,ke,kty,h1,h2,h3,h4,h5⟩:=bX hk
 rw[hT]at h1;cases h1;rw[hd]at h2;cases h2;have e3:lG ⟨n,t⟩ b=some l:=by unfold lG;rw[hm];rfl
 unfold bG;rw[hT,uA,hd,uA,h3,uA,h4,gD,he,uA];have e4:bM ⟨n,t⟩ (.map b)=some l:=by unfold bM;simp only[zA.asMap];exact e3
 rw[e4,uA,h5,gD,hs,uA]
theorem zkn{T b n:Nat}{k:zA}{l:List (zA × zA)}(hk:zM C T k=true)(hm:t.get b=some (.map l))(hs:cG k l=some none){ty:qC}(hT:C.tys.get T=some ty){ke:Nat × Nat}(hd:ty.desc.asMap=some ke){ety:qC}(he:C.tys.get ke.2=some ety)(ok:Bool) :
  bG C T ⟨n,t⟩ (.map b) k ok=some (bif ok then .tup [oN ety,.bool false]else oN ety):=by
 obtain⟨ty,ke,kty,h1,h2,h3,h4,h5⟩:=bX hk
 rw[hT]at h1;cases h1;rw[hd]at h2;cases h2;have e3:lG ⟨n,t⟩ b=some l:=by unfold lG;rw[hm];rfl
 unfold bG;rw[hT,uA,hd,uA,h3,uA,h4,gD,he,uA];have e4:bM ⟨n,t⟩ (.map b)=some l:=by unfold bM;simp only[zA.asMap];exact e3
 rw[e4,uA,h5,gD,hs,uA]
mutual
theorem RD.sames1:∀(d:D) (cs:List zA),RD t d cs->∀a∈cs,∀k,Am.same k a a=true
 | .int _ _,cs,h,a,ha,k=>by rw[RD]at h;subst h;simp at ha;subst ha;exact zbv
 | .bool _,cs,h,a,ha,k=>by rw[RD]at h;subst h;simp at ha;subst ha;exact zwg
 | .str _,cs,h,a,ha,k=>by rw[RD]at h;subst h;simp at ha;subst ha;exact zps
 | .sl sz l,cs,h,a,ha,k=>by
  rw[nJ]at h;obtain⟨v,rfl,h⟩:=h
  simp at ha;subst ha;exact h.same
 | .st l,cs,h,a,ha,k=>by
  rw[wI]at h;obtain⟨cl,rfl,h⟩:=h
  exact eC.sames1 l cl h a ha k
theorem eC.sames1:∀(l:List D) (cl:List (List zA)),eC t l cl->∀a∈cl.flatten,∀k,Am.same k a a=true
 | [],cl,h,a,ha,k=>by rw[eC]at h;subst h;cases ha
 | d::l,cl,h,a,ha,k=>by
  rw[eC]at h;obtain⟨c,r,rfl,h1,h2⟩:=h
  rw[List.flatten_cons,List.mem_append]at ha;rcases ha with ha | ha
  ·exact RD.sames1 d c h1 a ha k
  ·exact eC.sames1 l r h2 a ha k
end
theorem zjv:∀ {l:List zA} {k:Nat},(∀a∈l,∀k,Am.same k a a=true)->Am.same.sames k l l=true
 | [],_,_=>rfl
 | a::l,k,h=>by
  rw[Am.same.sames,h a (.head _) k,zjv fun b hb=>h b (.tail _ hb)];rfl
theorem RD.sameA{d:D}{cs:List zA}(h:RD t d cs){k:Nat}:Am.same (k+1) (.agg cs) (.agg cs)=true:=zjv (RD.sames1 d cs h)
theorem zgy{b:Nat}(hb:C.base<=b):∀(l:List (zA × zA)) (m:List (zA × zA)) (n:Nat) (t:Tr rA),t.get b=some (.map m) →
  ∃t',xR C (l.map fun e=>RE.up b e.1 e.2) ⟨n,t⟩=some ⟨n,t'⟩/\t'.get b=some (.map (m++l))/\bD b t t'
 | [],m,n,t,h=>⟨t,rfl,by rw[ybe];exact h,fun _ _=>rfl⟩
 | e::l,m,n,t,h=>by
  obtain⟨t',h1,h2,h3⟩:=zgy hb l (m++[e]) n (t.set b (.map (m++[e]))) (by rw[Tr.get_set,if_pos rfl])
  refine⟨t',?_,by rw[h2,yba];rfl,fun c hc=>by rw[h3 c hc,Tr.get_set,if_neg hc]⟩
  have e2:(!Nat.blt b C.base)=true:=by
   cases hq:Nat.blt b C.base with
   | true=>have:=xC.1 hq;omega
   | false=>rfl
  have e3:lG ⟨n,t⟩ b=some m:=by unfold lG;rw[h];rfl
  have e4:yQ C ⟨n,t⟩ (.up b e.1 e.2)=some ⟨n,t.set b (.map (m++[e]))⟩:=by
   show cA (!Nat.blt b C.base) (ob (lG ⟨n,t⟩ b) fun m=>some (setBlk ⟨n,t⟩ b (.map (aC m [(e.1,e.2)]))))=_
   rw[e2,gD,e3,uA,rG];rfl
  rw[ybn];unfold xR;rw[e4,uA];exact h1
theorem zjz{T b:Nat}:∀(l:List (zA × zA)),(∀e∈l,zM C T e.1=true)->mF (zpy C) (l.map fun e=>Eff.upd T (.map b) e.1 e.2)=some (l.map fun e=>RE.up b e.1 e.2)
 | [],_=>rfl
 | e::l,h=>by
  obtain⟨ty,ke,kty,h1,h2,h3,h4,h5⟩:=bX (h e (.head _))
  have e1:zpy C (.upd T (.map b) e.1 e.2)=some (.up b e.1 e.2):=by
   unfold zpy;simp only[];rw[h1,uA,h2,uA,h3,uA,h4,h5];rfl
  rw[ybn,yK,e1,uA,zjz l fun x hx=>h x (.tail _ hx),uA]
  rfl
def cX:List (zA × zA)->Bool
 | []=>true
 | e::l=>tC (fun x=>zh4 e.1 x.1) l&&cX l
theorem zl3{b:Nat}:∀(l:List (zA × zA)),cX l=true->zg0 (l.map fun e=>RE.up b e.1 e.2)=true
 | [],_=>rfl
 | e::l,h=>by
  unfold cX at h;rw[yac,aG,ybc]at h;rw[ybn];unfold zg0;rw[yac,aG,ybc];refine⟨fun x hx=>?_,zl3 l h.2⟩
  obtain⟨y,hy,rfl⟩:=List.mem_map.1 hx
  show(bif Nat.beq b b then zh4 e.1 y.1 else true)=true
  rw[fB.2 rfl];exact h.1 y hy
theorem zti{T b n:Nat}{l:List (zA × zA)}(hk:∀e∈l,zM C T e.1=true)(ha:cX l=true)(hb:C.base<=b)(hm:t.get b=some (.map [])) :
  ∃t',rP C (l.map fun e=>Eff.upd T (.map b) e.1 e.2) ⟨n,t⟩=some (oD,⟨n,t'⟩)/\t'.get b=some (.map l)/\bD b t t':=by
 obtain⟨t',h1,h2,h3⟩:=zgy (C:=C) hb l [] n t hm
 refine⟨t',?_,by simpa using h2,h3⟩
 unfold rP cP;rw[zjz l hk,uA,zl3 l ha];have hr:tC (zc5 C ⟨n,t⟩) (l.map fun e=>RE.up b e.1 e.2)=true:=by
  rw[aG,ybc];intro x hx;obtain⟨e,_,rfl⟩:=List.mem_map.1 hx
  have e2:(!Nat.blt b C.base)=true:=by
   cases hq:Nat.blt b C.base with
   | true=>have:=xC.1 hq;omega
   | false=>rfl
  have e3:lG ⟨n,t⟩ b=some []:=by unfold lG;rw[hm];rfl
  show(!Nat.blt b C.base&&(match lG ⟨n,t⟩ b with | some []=>true | _=>false))=true
  rw[e2,e3];rfl
 rw[hr];simp only[Bool.and_self,gD,h1,uA]
theorem mD.up{t':Tr rA}{b:Nat}{lo:Option Lo}{cs:List zA}(h:mD t b lo cs)(k:vB t t'):mD t' b lo cs:=by
 obtain⟨c,h1,h2⟩:=h
 exact⟨c,k _ _ h1,h2⟩
end
end Go.Am
namespace Go.Proofs
open Go Go.Am
variable [fC]
variable {t:Tr rA}
def iQ(n:Nat):Bool:=(decide (65<=n)&&decide (n<=90))||(decide (97<=n)&&decide (n<=122))
def zqw(n:Nat):Bool:=decide (48<=n)&&decide (n<=57)
def zdy(n:Nat):Bool:=iQ n||zqw n||decide (n=95)
theorem z3f{a b:Int}:jC a b=decide (a<=b):=by
 by_cases h:a<=b
 ·rw[decide_eq_true h,iG.2 h]
 ·rw[decide_eq_false h]
  cases hq:jC a b with
  | true=>exact absurd (iG.1 hq) h
  | false=>rfl
theorem qZ{n:Nat}:lB yA F 111 [.int .u8 (n:Int)] t=some (.bool (iQ n)):=by
 refine oC.2 (w111 _ ?_)
 simp only[t111,pA,z3f,decide_eq_true_eq];unfold iQ;by_cases h1:65<=n
 ·rw[if_pos (by omega)]
  by_cases h2:n<=90
  ·rw[if_pos (by omega)];simp[h1,h2]
  ·rw[if_neg (by omega)]
   by_cases h3:97<=n
   ·rw[if_pos (by omega)]
    have:decide ((n:Int)<=122)=decide (n<=122):=by congr 1;exact propext (by omega)
    simp[h1,h2,h3,this]
   ·rw[if_neg (by omega)];simp[h2,h3]
 ·rw[if_neg (by omega),if_neg (by omega)]
  have:¬ 97<=n:=by omega
  simp[h1,this]
theorem ztd{n:Nat}:lB yA F 139 [.int .u8 (n:Int)] t=some (.bool (zqw n)):=by
 refine oC.2 (w139 _ ?_)
 simp only[t139,pA,z3f,decide_eq_true_eq];unfold zqw;by_cases h1:48<=n
 ·rw[if_pos (by omega)]
  have:decide ((n:Int)<=57)=decide (n<=57):=by congr 1;exact propext (by omega)
  simp[h1,this]
 ·rw[if_neg (by omega)];simp[h1]
theorem zyu{n:Nat}:lB yA F 113 [.int .u8 (n:Int)] t=some (.bool (zdy n)):=by
 refine oC.2 (w113 _ ?_)
 simp only[t113,pA,q111,qZ,sA,zA.asBool];unfold zdy
 cases h:iQ n with
 | true=>simp
 | false=>
  simp only[yar,if_false,q139,ztd,sA,zA.asBool]
  cases h2:zqw n with
  | true=>simp
  | false=>
   simp only[yar,if_false,tN];have:decide ((n:Int)=95)=decide (n=95):=by congr 1;exact propext (by omega)
   simp[this]
theorem zk6{s:List Nat}{i x:Nat}(h:s[i]?=some x):cI yA 9 (.str s) (.int .i64 (i:Int))=some (.int .u8 (x:Int)):=by
 unfold cI;rw[ty9,uA];simp only[zA.asNat,zA.asInt,zA.asStr];have e:ob (some (i:Int)) bI=some i:=rfl
 rw[e,uA,show qD.isString .string=true from rfl,gD,lF,h,uA];rfl
def z11 (p:Nat->Bool)(s:List Nat):List Nat:=s.takeWhile p
theorem zpu{p:Nat->Bool}{g:Nat}(hg:∀n:Nat,lB yA F g [.int .u8 (n:Int)] t=some (.bool (p n)))(hq:∀ {a:List zA} {m:Tr rA} {R:vC},Wq yA F uJ g a m R=nD (lB yA F g a m) (fun v=>R v m))(hy:Nat.blt g yo=true){s:List Nat}(hs:s.length<4000000000000000000) :
  ∀(k i:Nat),i+k=s.length->(∀j x,j<i->s[j]?=some x->p x=true)->jp 112 2 [.str s,.func (.func g) [] [],.int .i64 (i:Int)] t (fun v t'=>v=.str (z11 p s)/\t'=t):=by
 have key:∀i,i<=s.length->(∀j x,j<i->s[j]?=some x->p x=true)->(∀x,s[i]?=some x->p x=false)->z11 p s=s.take i:=by
  intro i hi h1 h2;unfold z11;induction s generalizing i with
  | nil=>simp
  | cons a s ih=>
   cases i with
   | zero=>rw[List.takeWhile_cons,h2 a rfl];simp
   | succ i=>
    rw[List.takeWhile_cons,h1 0 a (by omega) rfl,if_pos rfl,List.take_succ_cons]
    rw[ih (by simp at hs;omega) i (by simpa using hi) (fun j x hj hx=>h1 (j+1) x (by omega) (by simpa using hx)) (fun x hx=>h2 x (by simpa using hx))]
 intro k;induction k with
 | zero=>
  intro i hi hp;refine z57 _ _ _ ?_
  simp only[zwa,pA,cD,oO];rw[if_neg (by omega),zhl (by omega),sA]
  simp only[zA.asStr,sA];rw[key i (by omega) hp (fun x hx=>by have:=(yad.1 hx).1;omega)]
  first | exact⟨rfl,rfl⟩ | exact⟨rfl,trivial⟩ | exact⟨trivial,trivial⟩
 | succ k ih=>
  intro i hi hp;have hx:s[i]?=some s[i]:=yae (by omega)
  refine z57 _ _ _ ?_
  simp only[zwa,pA,cD,oO];rw[if_pos (by omega),zk6 hx,sA,oB,sA]
  have e:oM (.func (.func g) [] []) [.int .u8 (s[i]:Int)]=some (g,[.int .u8 (s[i]:Int)]):=by
   unfold oM;simp only[zA.asFunc,uA,hy,gD];rfl
  rw[e,sA];simp only[];rw[hq,hg,sA];simp only[zA.asBool,sA]
  cases hb:p s[i]with
  | true=>
   rw[if_pos rfl,wrap_i64 (by omega) (by omega),show(i:Int)+1=((i+1:Nat):Int) by omega]
   refine ih (i+1) (by omega) fun j x hj hjx=>?_
   by_cases e:j=i
   ·subst e;rw[hx]at hjx;cases hjx;exact hb
   ·exact hp j x (by omega) hjx
  | false=>
   rw[if_neg (by simp),zhl (by omega),sA]
   simp only[zA.asStr,sA];rw[key i (by omega) hp (fun x hx'=>by rw[hx]at hx';cases hx';exact hb)]
   first | exact⟨rfl,rfl⟩ | exact⟨rfl,trivial⟩ | exact⟨trivial,trivial⟩
theorem z1z{s:List Nat}(hs:s.length<4000000000000000000):lB yA F 112 [.str s,.func (.func 113) [] []] t=some (.str (z11 zdy s)):=by
 refine oC.2 (w112 _ _ ?_)
 simp only[t112,pA];exact zpu (fun n=>zyu) (fun {a m R}=>by rw[q113]) rfl hs s.length 0 (by omega) (fun j x hj=>by omega)
theorem z7a{s:List Nat}(hs:s.length<4000000000000000000):lB yA F 112 [.str s,.func (.func 111) [] []] t=some (.str (z11 iQ s)):=by
 refine oC.2 (w112 _ _ ?_)
 simp only[t112,pA];exact zpu (fun n=>qZ) (fun {a m R}=>by rw[q111]) rfl hs s.length 0 (by omega) (fun j x hj=>by omega)
def resW:Nat->List Nat
 | 2=>[32,116,111,32,105,115,32,97,116,32,105,102,32,111,114,32,117,112,32]
 | 3=>[32,100,101,102,32,114,111,119,32,111,110,101,32,116,119,111,32,101,110,100,32,111,102,102,32,104,97,115,32,109,105,110,32,109,97,120,32,97,110,100,32,110,111,116,32]
 | 4=>[32,112,108,97,110,32,102,97,99,116,32,102,114,111,109,32,119,104,101,110,32,116,104,101,110,32,100,97,116,101,32,100,97,121,115,32,116,114,117,101,32,108,111,111,107,32,98,101,115,116,32,103,114,111,119,32,100,111,119,110,32,99,101,105,108,32,104,97,108,102,32,101,118,101,110,32]
 | 5=>[32,116,97,98,108,101,32,107,110,111,119,110,32,116,114,117,116,104,32,109,111,110,101,121,32,102,97,108,115,101,32,109,105,110,117,115,32,116,111,100,97,121,32,114,111,117,110,100,32,115,116,97,114,116,32,102,108,111,111,114,32]
 | 6=>[32,99,108,97,117,115,101,32,110,117,109,98,101,114,32,109,111,110,116,104,115,32]
 | 7=>[32,98,101,116,119,101,101,110,32,115,101,114,118,105,99,101,32]
 | _=>[]
def zc3(s:List Nat):Bool:=decide (2<=s.length)&&decide (s.length<=7)&&zF (z11 iQ s) s&&jT ([32]++s++[32]) (resW s.length)
def pH (n:Nat):zA × zA:=(.int .i64 (n:Int),.str (resW n))
theorem zop{a b:List Nat}(h:a.length<4294967281):lB yA F 140 [.str a,.str b] t=some (.bool (jT b a)):=by
 have hg:yA.prims.get 140=some (zK oU):=by kernel_rfl
 refine zhs hg fun H=>?_
 unfold oU;simp only[];rw[bC,xC.2 h];rfl
theorem zm8{s:List Nat}(hs:s.length<4000000000000000000):lB yA F 114 [.str s] t=some (.bool (zc3 s)):=by
 refine kJ (w114 _ ?_)
 simp only[t114,pA,cD,oO];unfold zc3;by_cases h1:2<=s.length
 ·rw[if_neg (by omega)]
  by_cases h2:s.length<=7
  ·rw[if_neg (by omega)]
   simp only[q112,z7a hs,sA,zA.asStr]
   cases h3:zF (z11 iQ s) s with
   | false=>simp
   | true=>
    simp only[Bool.not_true,yar,if_false];intro b hb hbase;have hmk:dS ⟨b,t⟩=some (.map b,⟨b+1,t.set b (.map [])⟩):=rfl
    rw[hmk,sA];simp only[];have h0:(t.set b (.map [])).get b=some (.map []):=by rw[Tr.get_set,if_pos rfl]
    have ho:bD b t (t.set b (.map [])):=fun c hc=>by rw[Tr.get_set,if_neg hc]
    generalize t.set b (.map [])=t1 at h0 ho
    have hstep:∀(l:List (zA × zA)) (k:Nat) (s':List Nat) (l':List (zA × zA)) (Q:(zA × xA)->Prop) (t1:Tr rA),t1.get b=some (.map l)->bD b t t1->tG (.int .i64 (k:Int)) (.str s') l=some l'->zM yA 213 (.int .i64 (k:Int))=true →
      (∀n t2,t2.get b=some (.map l')->bD b t t2->Q (oD,⟨n,t2⟩))->∀n,t1.get n=none->yA.base<=n->nD (eH yA 213 (.map b) (.int .i64 (k:Int)) (.str s') ⟨n,t1⟩) Q:=by
     intro l k s' l' Q t1 g1 g2 h1 h2 h3 n _ _;rw[zg9 h2 hbase g1 h1,sA];exact h3 n _ (by rw[Tr.get_set,if_pos rfl]) fun c hc=>by rw[Tr.get_set,if_neg hc];exact g2 c hc
    refine hstep [] 2 _ [pH 2] _ t1 h0 ho rfl (by kernel_rfl) fun n t2 g o=>?_
    refine hstep _ 3 _ [pH 2,pH 3] _ t2 g o rfl (by kernel_rfl) fun n t2 g o=>?_
    refine hstep _ 4 _ [pH 2,pH 3,pH 4] _ t2 g o rfl (by kernel_rfl) fun n t2 g o=>?_
    refine hstep _ 5 _ [pH 2,pH 3,pH 4,pH 5] _ t2 g o rfl (by kernel_rfl) fun n t2 g o=>?_
    refine hstep _ 6 _ [pH 2,pH 3,pH 4,pH 5,pH 6] _ t2 g o rfl (by kernel_rfl) fun n t2 g o=>?_
    refine hstep _ 7 _ [pH 2,pH 3,pH 4,pH 5,pH 6,pH 7] _ t2 g o rfl (by kernel_rfl) fun n t2 g o=>?_
    have hle:vB t t2:=fun c u hc=>by
     have:c≠b:=fun e=>by rw[e,hb]at hc;cases hc
     rw[o c this];exact hc
    have hl:bG yA 213 ⟨0,t2⟩ (.map b) (.int .i64 (s.length:Int)) false=some (.str (resW s.length)):=by
     have hk:zM yA 213 (.int .i64 (s.length:Int))=true/\cG (.int .i64 (s.length:Int)) [pH 2,pH 3,pH 4,pH 5,pH 6,pH 7]=some (some (.str (resW s.length))):=by
      have:s.length=2\/s.length=3\/s.length=4\/s.length=5\/s.length=6\/s.length=7:=by omega
      rcases this with e | e | e | e | e | e<;>rw[e]<;>exact⟨by kernel_rfl,rfl⟩
     exact zh7 hk.1 g hk.2 ty213 rfl ty9 false
    rw[hl,sA];simp only[zA.asStr,sA];rw[sL (by simp;omega),sA]
    simp only[zA.asStr,sA];rw[sL (by simp;omega),sA]
    simp only[zA.asStr,sA];have hr:(resW s.length).length<4294967281:=by
     have:s.length=2\/s.length=3\/s.length=4\/s.length=5\/s.length=6\/s.length=7:=by omega
     rcases this with e | e | e | e | e | e<;>rw[e]<;>decide
    rw[q140,zop hr,sA];simp only[zA.asBool,sA];refine⟨?_,hle⟩
    simp[h1,h2]
  ·rw[if_pos (by omega)];simp[h2]
 ·rw[if_pos (by omega)];simp[h1]
def tI(s:List Nat):Bool:=match s with
 | []=>false
 | x::r=>decide ((x::r).length<=24)&&iQ x&&zF (z11 zdy (x::r)) (x::r) && !zc3 (x::r)
theorem nU{s:List Nat}:lB yA F 84 [.str s] t=some (.bool (tI s)):=by
 refine oC.2 (w84 _ ?_)
 simp only[t84,pA,cD,oO]
 cases s with
 | nil=>simp[tI,dK]
 | cons x r=>
  have h0:zF (x::r) []=false:=by
   cases h:zF (x::r) []with
   | true=>rw[dK]at h;cases h
   | false=>rfl
  rw[h0];simp only[yar,if_false];unfold tI;by_cases h1:(x::r).length<=24
  ·rw[if_neg (by omega)]
   have hx:=zk6 (s:=x::r) (i:=0) (x:=x) rfl
   rw[show((0:Nat):Int)=0 from rfl]at hx
   rw[hx,sA,oB,sA,q111,qZ,sA];simp only[zA.asBool,sA]
   cases h2:iQ x with
   | false=>simp
   | true=>
    simp only[Bool.not_true,yar,if_false];rw[q112,z1z (by omega),sA]
    simp only[zA.asStr,sA]
    cases h3:zF (z11 zdy (x::r)) (x::r)with
    | false=>simp
    | true=>
     simp only[if_true,q114,zm8 (s:=x::r) (by omega),sA,zA.asBool]
     simp only[decide_eq_true h1,ybo,Bool.and_self];first | exact⟨rfl,rfl⟩ | exact⟨rfl,trivial⟩ | exact⟨trivial,trivial⟩
  ·rw[if_pos (by omega)]
   simp only[decide_eq_false h1,Bool.false_and];first | exact⟨rfl,rfl⟩ | exact⟨rfl,trivial⟩ | exact⟨trivial,trivial⟩
end Go.Proofs
namespace Go.Am
open Go Go.RowKit
section
variable {base:Nat}{W J:vI}{t:Tr rA}{Q:vC}
theorem iA{b:Bool}{x y:T}(h:b=true)(k:pA base W J x t Q):pA base W J (.ite b x y) t Q:=by
 show if b=true then _ else _;rw[if_pos h];exact k
theorem uB{b:Bool}{x y:T}(h:b≠true)(k:pA base W J y t Q):pA base W J (.ite b x y) t Q:=by
 show if b=true then _ else _;rw[if_neg h];exact k
theorem lA{x:Option zA}{K:zA->T}{v:zA}(h:x=some v)(k:pA base W J (K v) t Q):pA base W J (.opt x K) t Q:=by
 show nD x _;rw[h];exact k
theorem lC{x:Tr rA->Option zA}{K:zA->T}{v:zA}(h:x t=some v)(k:pA base W J (K v) t Q):pA base W J (.light x K) t Q:=by
 show nD (x t) _;rw[h];exact k
theorem sC{f:Nat}{a:List zA}{K:zA->T}(k:W f a t (fun v t'=>pA base W J (K v) t' Q)):pA base W J (.call f a K) t Q:=k
theorem uC{n:Int}{i:IntKind}{K:Int->T}(k:pA base W J (K n) t Q):pA base W J (.asI i (.int i n) K) t Q:=by
 show nD (z8k i (.int i n)) _;rw[oB];exact k
theorem pD{b:Bool}{K:Bool->T}(k:pA base W J (K b) t Q):pA base W J (.asB (.bool b) K) t Q:=k
theorem cH{s:List Nat}{K:List Nat->T}(k:pA base W J (K s) t Q):pA base W J (.asS (.str s) K) t Q:=k
theorem oG{zs:List zA}{a:zA}{K:zO->T}{X:zO}(h:zrs zs a=some X)(k:pA base W J (K X) t Q):pA base W J (.asG zs a K) t Q:=by
 show nD (zrs zs a) _;rw[h];exact k
theorem dF{x:xA->Option (zA × xA)}{K:zA->T}(k:∀b,t.get b=none->base<=b->∃v H,x ⟨b,t⟩=some (v,H)/\pA base W J (K v) H.t Q):pA base W J (.heavy x K) t Q:=by
 intro b h1 h2;obtain⟨v,H,h3,h4⟩:=k b h1 h2
 rw[h3];exact h4
theorem vD{i:Nat}{a:List zA}(k:J i a t Q):pA base W J (.jump i a) t Q:=k
end
section
variable {t:Tr rA}{C:qA}
end
end Go.Am
namespace Go.Proofs
open Go Go.Am
variable [fC]
variable {t:Tr rA}
def zmf(v:xH):Bool:=decide (v.kind=0)&&decide (v.i=0)&&zew v.f
theorem za5{a:xH}{u v:zA}(hu:dA t 1 (kE a.f.n.limbs) u)(hv:dA t 1 (kE a.f.d.limbs) v)(hf:a.f.ok):lB yA F 86 [.agg [.int .u8 a.kind,.bool a.f.n.neg,u,.bool a.f.d.neg,v,.int .i64 a.i]] t=some (.bool (zmf a)):=by
 refine oC.2 (w86 _ _ _ _ _ _ ?_)
 simp only[t86,pA,zH];unfold zmf;by_cases h1:a.kind=0
 ·rw[if_pos (by omega)]
  by_cases h2:a.i=0
  ·rw[if_pos h2,q116,zca hu hv hf,sA]
   simp only[zA.asBool,sA,decide_eq_true h1,decide_eq_true h2,ybo];first | exact⟨rfl,rfl⟩ | exact⟨rfl,trivial⟩ | exact⟨trivial,trivial⟩
  ·rw[if_neg h2];simp[h2]
 ·rw[if_neg (by omega)];simp[h1]
structure FM where
 style:Nat
 word:List Nat
 named:Bool
 least:Nat
 most:Nat
 level:Nat
 left:Nat
 right:Nat
def FM.cs(f:FM):List zA:=[.int .u8 f.style,.str f.word,.bool f.named,.int .i64 f.least,.int .i64 f.most,.int .i64 f.level,.int .i64 f.left,.int .i64 f.right]
def atF (w:List Nat):FM:=⟨3,w,true,1,1,7,7,7⟩
def sM(w:List Nat)(n:Bool)(a b:Nat):FM:=⟨6,w,n,a,b,7,1,1⟩
def ze5(w:List Nat)(a b c:Nat):FM:=⟨4,w,false,2,2,a,b,c⟩
def z8t:List FM:=[⟨0,[],false,0,0,0,0,0⟩,⟨1,[],false,0,0,7,0,0⟩,⟨2,[116,111,100,97,121],false,0,0,7,0,0⟩,atF [102,97,99,116,32],atF [104,97,115,32],atF [],sM [108,111,111,107] true 1 2,ze5 [43] 5 5 6,ze5 [45] 5 5 6,ze5 [42] 6 6 7,ze5 [47] 6 6 7,
 sM [109,105,110] false 2 2,sM [109,97,120] false 2 2,ze5 [60] 4 5 5,ze5 [61] 4 5 5,ze5 [97,110,100] 2 2 3,ze5 [111,114] 1 1 2,⟨5,[110,111,116,32],false,1,1,3,3,3⟩,sM [105,102] false 3 3,sM [114,111,117,110,100] false 2 2,sM [98,101,116,119,101,101,110] false 2 2,
 sM [115,101,114,118,105,99,101] true 2 2,sM [98,101,115,116] true 3 3,sM [103,114,111,119] true 2 2,sM [109,111,110,116,104,115] false 1 1,sM [110,117,109,98,101,114] false 1 1,sM [115,116,97,114,116] false 1 1]
def eK:List zA:=(z8t.map FM.cs).flatten
abbrev z8:List zA:=[.int .u8 0,.str [],.bool false,.int .i64 0,.int .i64 0,.int .i64 0,.int .i64 0,.int .i64 0]
theorem cv76{w:List Nat}{n:Bool}{a b:Nat}{K:zO->T}{Q:vC}(h:wp 83 (K (cellsOf (sM w n a b).cs)) t Q):wp 83 (.callv (.func (.func 108) [] []) [.str w,.bool n,.int .i64 (a:Int),.int .i64 (b:Int)] fun a=>.asG z8 a K) t Q:=by
 have e:lB yA F 108 [.str w,.bool n,.int .i64 (a:Int),.int .i64 (b:Int)] t=some (.agg (sM w n a b).cs):=by
  refine oC.2 (w108 _ _ _ _ ?_)
  simp only[t108,pA,if_true];constructor<;>trivial
 show nD (some (108,[zA.str w,.bool n,.int .i64 (a:Int),.int .i64 (b:Int)])) _
 rw[sA];simp only[];rw[q108,e,sA];exact h
theorem cv77{w:List Nat}{K:zO->T}{Q:vC}(h:wp 83 (K (cellsOf (atF w).cs)) t Q):wp 83 (.callv (.func (.func 109) [] []) [.str w] fun a=>.asG z8 a K) t Q:=by
 have e:lB yA F 109 [.str w] t=some (.agg (atF w).cs):=by
  refine oC.2 (w109 _ ?_)
  simp only[t109,pA,if_true];constructor<;>trivial
 show nD (some (109,[zA.str w])) _
 rw[sA];simp only[];rw[q109,e,sA];exact h
theorem cv78{w:List Nat}{a b c:Nat}{K:zO->T}{Q:vC}(h:wp 83 (K (cellsOf (ze5 w a b c).cs)) t Q):wp 83 (.callv (.func (.func 110) [] []) [.str w,.int .i64 (a:Int),.int .i64 (b:Int),.int .i64 (c:Int)] fun a=>.asG z8 a K) t Q:=by
 have e:lB yA F 110 [.str w,.int .i64 (a:Int),.int .i64 (b:Int),.int .i64 (c:Int)] t=some (.agg (ze5 w a b c).cs):=by
  refine oC.2 (w110 _ _ _ _ ?_)
  simp only[t110,pA,if_true];constructor<;>trivial
 show nD (some (110,[zA.str w,.int .i64 (a:Int),.int .i64 (b:Int),.int .i64 (c:Int)])) _
 rw[sA];simp only[];rw[q110,e,sA];exact h
theorem zde{Q:vC}(h:∀b t',t.get b=none->yA.base<=b->mD t' b none eK->vB t t'->bD b t t'->Q (.ptr b 0) t'):Wc yA F 83 [] t Q:=by
 refine w83 ?_
 unfold t83;repeat (first | refine cv76 ?_ | refine cv77 ?_ | refine cv78 ?_ | refine iA rfl ?_)
 intro b hb hbase;obtain⟨t',h1,h2,h3,h4⟩:=wT hb eK none
 have e:∀l:List zA,l=eK->zmo (.agg l) ⟨b,t⟩=some (.ptr b 0,⟨b+1,t'⟩):=by
  intro l hl;show some (zA.ptr b 0,zE ⟨b,t⟩ l none)=_
  rw[hl,h1]
 rw[e _ (by rfl),sA]
 exact h b t' hb hbase h2 h3 h4
theorem zah{Q:vC}(h:∀b t',t.get b=none->yA.base<=b->mD t' b none eK->vB t t'->bD b t t'->Q (.agg [.ptr b 0]) t'):Wc yA F 63 [] t Q:=by
 refine w63 ?_
 unfold t63;refine sC ?_
 rw[q83];refine zde fun b t' h1 h2 h3 h4 h5=>?_
 refine iA rfl (iA rfl ?_)
 exact h b t' h1 h2 h3 h4 h5
end Go.Proofs
namespace Go.Proofs
open Go Go.Am
variable [fC]
variable {t:Tr rA}
def rD(op:Nat):FM:=z8t.getD op ⟨0,[],false,0,0,0,0,0⟩
theorem bU{f:FM->List zA}(hf:∀x,(f x).length=8):∀(l:List FM) (i k:Nat),i<l.length->k<8->(l.map f).flatten[i*8+k]?=(f (l.getD i ⟨0,[],false,0,0,0,0,0⟩))[k]?
 | [],i,k,h,_=>by simp at h
 | x::l,0,k,h,hk=>by
  rw[ybn,List.flatten_cons,ybp (by rw[hf];omega)]
  simp
 | x::l,i+1,k,h,hk=>by
  rw[ybn,List.flatten_cons,yaq (by rw[hf];omega),hf,show(i+1)*8+k-8=i*8+k by omega]
  rw[bU hf l i k (by simpa using h) hk]
  simp
theorem wS{op k:Nat}(h:op<27)(hk:k<8):eK[op*8+k]?=(rD op).cs[k]?:=bU (f:=FM.cs) (fun _=>rfl) z8t op k h hk
theorem zyv{b op:Nat}(h:op<27):jB yA 188 (.ptr b 0) (.int .u8 (op:Int))=some (.ptr b (op*8)):=by
 have hA:ob (yA.tys.get 188) (fun y=>y.desc.asArr)=some (27,159):=by kernel_rfl
 rw[tA]at hA;obtain⟨y,hy,hd⟩:=hA
 unfold jB;rw[hy,uA];have e:(zA.int .u8 (op:Int)).asNat=some op:=rfl
 rw[e,uA];simp only[zA.asSlice,zA.asPtr,uA,hd];rw[ty159,uA,xC.2 h,gD];simp
theorem mL{b o k:Nat}(hk:k<8):qB yA 159 k (.ptr b o)=some (.ptr b (o+k)):=by
 have h:nV yA 159 k=some k:=by
  unfold nV;rw[ty159,uA];simp only[qD.asStruct,uA];have:k=0\/k=1\/k=2\/k=3\/k=4\/k=5\/k=6\/k=7:=by omega
  rcases this with e | e | e | e | e | e | e | e<;>rw[e]<;>rfl
 unfold qB;rw[h];rfl
section
variable {b op:Nat}(hF:mD t b none eK)(h:op<27)
include hF h
theorem zqm:oA yA 5 ⟨0,t⟩ (.ptr b (op*8+0))=some (.int .u8 (rD op).style):=hF.load1 ty5 rfl (by rw[wS h (by decide)];rfl)
theorem zxy:oA yA 9 ⟨0,t⟩ (.ptr b (op*8+1))=some (.str (rD op).word):=hF.load1 ty9 rfl (by rw[wS h (by decide)];rfl)
theorem zqn:oA yA 4 ⟨0,t⟩ (.ptr b (op*8+2))=some (.bool (rD op).named):=hF.load1 ty4 rfl (by rw[wS h (by decide)];rfl)
theorem z21:oA yA 3 ⟨0,t⟩ (.ptr b (op*8+3))=some (.int .i64 (rD op).least):=hF.load1 ty3 rfl (by rw[wS h (by decide)];rfl)
theorem z74:oA yA 3 ⟨0,t⟩ (.ptr b (op*8+4))=some (.int .i64 (rD op).most):=hF.load1 ty3 rfl (by rw[wS h (by decide)];rfl)
theorem z2z:oA yA 3 ⟨0,t⟩ (.ptr b (op*8+5))=some (.int .i64 (rD op).level):=hF.load1 ty3 rfl (by rw[wS h (by decide)];rfl)
theorem znz:oA yA 3 ⟨0,t⟩ (.ptr b (op*8+6))=some (.int .i64 (rD op).left):=hF.load1 ty3 rfl (by rw[wS h (by decide)];rfl)
theorem z2y:oA yA 3 ⟨0,t⟩ (.ptr b (op*8+7))=some (.int .i64 (rD op).right):=hF.load1 ty3 rfl (by rw[wS h (by decide)];rfl)
end
theorem tF{a b:Int}(h:a≠b):mA a b≠true:=fun e=>h (zH.1 e)
theorem nLt{a b:Int}(h:¬ a<b):dB a b≠true:=fun e=>h (cD.1 e)
theorem nLe{a b:Int}(h:¬ a<=b):jC a b≠true:=fun e=>h (iG.1 e)
theorem aD{a b:Int}(h:a=b):mA a b=true:=zH.2 h
theorem yLt{a b:Int}(h:a<b):dB a b=true:=cD.2 h
theorem yLe{a b:Int}(h:a<=b):jC a b=true:=iG.2 h
theorem dE{b o:Nat}:nC (.ptr b o)=some (.ptr b o):=rfl
def zk7(op:Nat)(name:List Nat)(n:Nat):Bool:=
 decide (op<27) && !decide ((rD op).style=0)&&decide ((rD op).least<=n)&&decide (n<=(rD op).most)&&(if (rD op).named=true then tI name else zF name [])
def zlq(op:Nat)(v:xH):Bool:=if op=19 then decide (1<=v.i)&&decide (v.i<=6)&&zmf { v with i:=0 } else zmf v
mutual
/-- is an expression printable at a depth? -/
def bE:jA->Nat->Bool
 | .mk op name v args,d=>decide (d<=24)&&zk7 op name args.length&&(if op=1 then tO v else zlq op v&&zi0 args (d+1))
def zi0:List jA->Nat->Bool
 | [],_=>true
 | x::l,d=>bE x d&&zi0 l d
end
theorem fY:∀ {l:List jA} {d:Nat},zi0 l d=l.all fun x=>bE x d
 | [],d=>by rw[zi0];rfl
 | x::l,d=>by rw[zi0,fY];rfl
def z4z(p0_0:zA)(p1_0:Int)(p1_1:List Nat)(p1_2:Int)(p1_3:Bool)(p1_4:zA)(p1_5:Bool)(p1_6:zA)(p1_7:Int)(p1_8:zA)(p2:Int):T:=
 .ite (tC zA.one [(.int .u8 p1_2),(.bool p1_3),p1_4,(.bool p1_5),p1_6,(.int .i64 p1_7)]) (.ite (mA p1_0 1)
 (.call 85 [(.agg [(.int .u8 p1_2),(.bool p1_3),p1_4,(.bool p1_5),p1_6,(.int .i64 p1_7)])] fun a28=>
 .asB a28 fun b29=>.ret (.bool b29))
 (.ite (mA p1_0 19)
 (.ite (dB p1_7 1)
 (.ret (.bool false))
 (.ite (dB 6 p1_7)
 (.ret (.bool false))
 (.ite true (.jump 33 [(.int .i64 p2),p0_0,(.int .u8 p1_0),(.str p1_1),(.int .u8 p1_2),(.bool p1_3),p1_4,(.bool p1_5),p1_6,(.int .i64 p1_7),p1_8,(.int .u8 p1_2),(.bool p1_3),p1_4,(.bool p1_5),p1_6,(.int .i64 0)]) .fail)))
 (.jump 33 [(.int .i64 p2),p0_0,(.int .u8 p1_0),(.str p1_1),(.int .u8 p1_2),(.bool p1_3),p1_4,(.bool p1_5),p1_6,(.int .i64 p1_7),p1_8,(.int .u8 p1_2),(.bool p1_3),p1_4,(.bool p1_5),p1_6,(.int .i64 p1_7)]))) .fail
section
variable {op:Nat}{name:List Nat}{v:xH}{a b c:zA}{bf d:Nat}
theorem zrj{v2:Int}{v':xH}{R:Bool}{n:Nat}{c3:zA}(ha:dA t 1 (kE v'.f.n.limbs) a)(hb:dA t 1 (kE v'.f.d.limbs) b)(hf:v'.f.ok)(hc:yC c=some (.int .i64 (n:Int)))
  (hargs:jp 64 4 [.int .i64 v2,c,.int .i64 (n:Int),.int .i64 0,c3] t (fun x t'=>x=.bool R/\t'=t)) (p3:Bool) (p5:Bool) (p2 p7:Int) (p4 p6:zA) :
  jp 64 33 [.int .i64 v2,c3,.int .u8 (op:Int),.str name,.int .u8 p2,.bool p3,p4,.bool p5,p6,.int .i64 p7,c,.int .u8 v'.kind,.bool v'.f.n.neg,a,.bool v'.f.d.neg,b,.int .i64 v'.i] t (fun x t'=>x=.bool (zmf v'&&R)/\t'=t):=by
 refine j64_33 _ _ _ _ _ _ _ _ _ _ _ _ _ _ _ _ _ ?_
 simp only[z44,pA,q86,za5 ha hb hf,sA,zA.asBool]
 cases hz:zmf v' with
 | false=>simp
 | true=>
  simp only[Bool.not_true,yar,if_false,hc,sA,oB,ybo];exact hargs
theorem z6y{n:Nat}{R:Bool}(ha:dA t 1 (kE v.f.n.limbs) a)(hb:dA t 1 (kE v.f.d.limbs) b)(hf:wF.fit v.f)(hc:yC c=some (.int .i64 (n:Int)))
  (hargs:jp 64 4 [.int .i64 (d:Int),c,.int .i64 (n:Int),.int .i64 0,.ptr bf 0] t (fun x t'=>x=.bool R/\t'=t)) :
  wp 64 (z4z (.ptr bf 0) (op:Int) name (v.kind:Int) v.f.n.neg a v.f.d.neg b v.i c (d:Int)) t (fun x t'=>x=.bool (if op=1 then tO v else zlq op v&&R)/\t'=t):=by
 unfold z4z;refine iA ?_ ?_
 ·rw[aG];simp only[ybh,ybl,ha.one,hb.one];rfl
 by_cases h1:op=1
 ·refine iA (aD (by omega)) ?_
  simp only[pA,q85,zas ha hb hf,sA,zA.asBool,if_pos h1];constructor<;>trivial
 ·refine uB (tF (by omega)) ?_
  simp only[if_neg h1];unfold zlq;by_cases h2:op=19
  ·refine iA (aD (by omega)) ?_
   simp only[if_pos h2];by_cases h3:1<=v.i
   ·refine uB (nLt (by omega)) ?_
    by_cases h4:v.i<=6
    ·refine uB (nLt (by omega)) (iA rfl ?_)
     have:=zrj (op:=op) (name:=name) (v':={ v with i:=0 }) ha hb hf.1 hc hargs v.f.n.neg v.f.d.neg v.kind v.i a b
     simp only[decide_eq_true h3,decide_eq_true h4,ybo];exact this
    ·refine iA (yLt (by omega)) ?_
     simp[pA,h4]
   ·refine iA (yLt (by omega)) ?_
    simp[pA,h3]
  ·refine uB (tF (by omega)) ?_
   simp only[if_neg h2];exact zrj (op:=op) (name:=name) (v':=v) ha hb hf.1 hc hargs v.f.n.neg v.f.d.neg v.kind v.i a b
theorem z3h{n:Nat}{R:Bool}(hF:mD t bf none eK)(hop:op<256)(hn:n<dC)(hnl:name.length<dC)(ha:dA t 1 (kE v.f.n.limbs) a)(hb:dA t 1 (kE v.f.d.limbs) b)(hf:wF.fit v.f)(hc:yC c=some (.int .i64 (n:Int)))
  (hargs:d<=24->jp 64 4 [.int .i64 (d:Int),c,.int .i64 (n:Int),.int .i64 0,.ptr bf 0] t (fun x t'=>x=.bool R/\t'=t)) :
  lB yA F 64 [.agg [.ptr bf 0],.agg [.int .u8 op,.str name,.int .u8 v.kind,.bool v.f.n.neg,a,.bool v.f.d.neg,b,.int .i64 v.i,c],.int .i64 (d:Int)] t=some (.bool (decide (d<=24)&&zk7 op name n&&(if op=1 then tO v else zlq op v&&R))):=by
 refine oC.2 (w64 _ _ _ _ _ _ _ _ _ _ _ ?_)
 unfold t64 zk7;by_cases hd:d<=24
 case neg=>
  refine iA (yLt (by omega)) ?_
  simp[pA,hd]
 refine uB (nLt (by omega)) ?_
 have htail:=z6y (op:=op) (name:=name) (d:=d) (bf:=bf) ha hb hf hc (hargs hd)
 by_cases h27:op<27
 case neg=>
  refine iA (by rw[wrap_i64 (by omega) (by omega)];exact yLe (by omega)) ?_
  simp[pA,h27]
 refine uB (by rw[wrap_i64 (by omega) (by omega)];exact nLe (by omega)) ?_
 refine lA dE (lA (zyv h27) (lA dE (lA (mL (by decide)) (lC (zqm hF h27) (uC ?_)))))
 by_cases hs:(rD op).style=0
 ·refine iA (aD (by omega)) ?_
  simp[pA,hs]
 refine uB (tF (by omega)) ?_
 refine lA hc (uC (lA dE (lA (mL (by decide)) (lC (z21 hF h27) (uC ?_)))))
 by_cases hl:(rD op).least<=n
 case neg=>
  refine iA (yLt (by omega)) ?_
  simp[pA,hl]
 refine uB (nLt (by omega)) ?_
 refine lA hc (uC (lA dE (lA (mL (by decide)) (lC (z74 hF h27) (uC ?_)))))
 by_cases hm:n<=(rD op).most
 case neg=>
  refine iA (yLt (by omega)) ?_
  simp[pA,hm]
 refine uB (nLt (by omega)) ?_
 have hld:=zqn hF h27
 refine lA dE (lA (mL (by decide)) (lC hld (pD ?_)))
 simp only[decide_eq_true hd,decide_eq_true h27,decide_eq_false hs,decide_eq_true hl,decide_eq_true hm,ybo,ybm]
 cases hnm:(rD op).named with
 | true=>
  rw[hnm]at hld;simp only[if_true];refine iA rfl (sC ?_)
  rw[q84,nU,sA];refine pD ?_
  cases hN:tI name with
  | false=>
   refine iA rfl ?_
   simp[pA]
  | true=>
   refine uB (by simp) (lA dE (lA (mL (by decide)) (lC hld (pD (uB (by simp) ?_)))))
   simp only[ybo];exact htail
 | false=>
  rw[hnm]at hld;simp only[yar,if_false];refine uB (by simp) (lA dE (lA (mL (by decide)) (lC hld (pD (iA rfl ?_)))))
  cases hN:zF name []with
  | false=>
   refine iA rfl ?_
   simp[pA]
  | true=>
   refine uB (by simp) ?_
   simp only[ybo];exact htail
end
mutual
theorem zio{bf:Nat}(hF:mD t bf none eK):∀(x:jA) (d:Nat) (cs:List zA),x.fit->d<1000->RD t x.d cs->lB yA F 64 [.agg [.ptr bf 0],.agg cs,.int .i64 (d:Int)] t=some (.bool (bE x d))
 | .mk op name v args,d,cs,hx,hd,h=>by
  obtain⟨a,b,c,rfl,ha,hb,hc⟩:=lK h
  simp only[jA.op,jA.name,jA.v,jA.args]at ha hb hc ⊢
  have hx':=hx
  unfold jA.fit at hx';unfold bE;refine z3h hF hx'.1 (n:=args.length) hx'.2.2.2.2.1 hx'.2.1 ha hb hx'.2.2.2.1.2.1 (by rw[hc.len,yag]) fun hd'=>?_
  have:=zrr hF args args d c 0 hc rfl hx'.2.2.2.2.2 hx'.2.2.2.2.1 hd'
  exact this
theorem zrr{bf:Nat}(hF:mD t bf none eK):∀(l args:List jA) (d:Nat) (c:zA) (i:Nat),dA t 9 (args.map jA.d) c->args.drop i=l->jA.fits l->args.length<dC->d<=24 →
  jp 64 4 [.int .i64 (d:Int),c,.int .i64 (args.length:Int),.int .i64 (i:Int),.ptr bf 0] t (fun x t'=>x=.bool (zi0 l (d+1))/\t'=t)
 | [],args,d,c,i,hc,hl,hok,hsz,hd=>by
  have:=zed hl
  refine j64_4 _ _ _ _ _ ?_
  unfold z63;refine uB (nLt (by omega)) ?_
  unfold zi0;simp[pA]
 | x::l,args,d,c,i,hc,hl,hok,hsz,hd=>by
  obtain⟨h1,h2,h3⟩:=mW hl
  unfold dC at hsz;have hok':=hok
  unfold jA.fits at hok';refine j64_4 _ _ _ _ _ ?_
  obtain⟨pb,po,cs,g1,g2,g3,g4,g5⟩:=gF.at z68 (by simp) hc (i:=i) (d:=x.d) (by simp[h1])
  unfold z63;refine iA (yLt (by omega)) (lA g1 (lC g2 ?_))
  rw[pK];refine oG (uK g5 x.zs) ?_
  have hmk:=g5.mk x.zs
  have hcs:[zA.int .u8 ((cellsOf cs).i 0),.str ((cellsOf cs).s 1),.int .u8 ((cellsOf cs).i 2),.bool ((cellsOf cs).b 3),(cellsOf cs).v 4,.bool ((cellsOf cs).b 5),(cellsOf cs).v 6,.int .i64 ((cellsOf cs).i 7),(cellsOf cs).v 8]=cs:=hmk
  rw[hcs];refine iA g5.all (sC ?_)
  rw[wrap_i64 (by omega) (by omega),show(d:Int)+1=((d+1:Nat):Int) by omega,q64,zio hF x (d+1) cs hok'.1 (by omega) g5,sA]
  refine pD ?_
  unfold zi0
  cases hE:bE x (d+1)with
  | false=>
   refine iA rfl ?_
   simp[pA]
  | true=>
   refine uB (by simp) (vD ?_)
   rw[wrap_i64 (by omega) (by omega),show(i:Int)+1=((i+1:Nat):Int) by omega]
   have:=zrr hF l args d c (i+1) hc h2 hok'.2 hsz hd
   simp only[ybo];exact this
end
end Go.Proofs
namespace Go.Proofs
open Go Go.Am
variable [fC]
variable {t:Tr rA}
def z9j (S el f:Nat)(zs:List zA)(cond:zO->Bool)(v1 v7:zA)(n i:Int):T:=
 .ite (dB i n)
  (.opt (jB yA S v7 (.int .i64 i)) fun a0=>.light (fun m=>oA yA el ⟨0,m⟩ a0) fun a1=>.asG zs a1 fun X=>
   .ite (cond X) (.callv v1 [.agg (cM zs X 0)] fun a3=>.asB a3 fun b4=>.ite (!b4) (.ret (.bool false)) (.jump 2 [v1,v7,.int .i64 n,.int .i64 (vA .i64 (i+1))])) .fail)
  (.ret (.bool true))
theorem zb9{α:Type}{dd:α->D}{P:α->Bool}{S el sz f:Nat}{zs:List zA}{cond:zO->Bool}{v1 v7:zA}(hS:gF yA S el sz true){l:List α}(hz:∀x∈l,(dd x).zs=zs)(hr:dA t sz (l.map dd) v7)(hlen:l.length<1000000000000000000)
  (hj:∀i t Q,wp f (z9j S el f zs cond v1 v7 l.length i) t Q->jp f 2 [v1,v7,.int .i64 (l.length:Int),.int .i64 i] t Q)
  (hc:∀cs,tC zA.one cs=true->xK zs cs=true->cond (cellsOf cs)=true)
  (hcall:∀x∈l,∀cs,RD t (dd x) cs->∀(R:vC),R (.bool (P x)) t->nD (oM v1 [.agg cs]) fun p=>Wq yA F uJ p.1 p.2 t R) :
  ∀(k i:Nat),i+k=l.length->jp f 2 [v1,v7,.int .i64 (l.length:Int),.int .i64 (i:Int)] t (fun x t'=>x=.bool ((l.drop i).all P)/\t'=t):=by
 intro k;induction k with
 | zero=>
  intro i hi;refine hj _ _ _ (uB (nLt (by omega)) ?_)
  rw[yau (by omega)]
  exact⟨rfl,rfl⟩
 | succ k ih=>
  intro i hi;have hlt:i<l.length:=by omega
  have hm:l[i]∈l:=ybk hlt
  obtain⟨b,off,cs,g1,g2,g3,g4,g5⟩:=gF.at hS (by simp) hr (i:=i) (d:=dd l[i]) (by simp[hlt])
  refine hj _ _ _ (iA (yLt (by omega)) (lA g1 (lC g2 ?_)))
  rw[pK];have hzz:=hz _ hm
  refine oG (uK g5 hzz) (iA (hc cs g5.all (by rw[<- hzz];exact zd6 _ _ g5)) ?_)
  rw[g5.mk hzz];refine hcall _ hm cs g5 _ ?_
  refine pD ?_
  have hd:l.drop i=l[i]::l.drop (i+1):=yam hlt
  rw[hd,ybh]
  cases hP:P l[i]with
  | false=>exact iA rfl ⟨rfl,rfl⟩
  | true=>
   refine uB (by simp) (vD ?_)
   rw[wrap_i64 (by omega) (by omega),show(i:Int)+1=((i+1:Nat):Int) by omega,ybo]
   exact ih (i+1) (by omega)
def zzw (n:Int):Bool:=decide (0<=n)&&decide (n<65536)
def z78 (n:Int):Bool:=decide (-2147483648<=n)&&decide (n<2147483648)
def z86 (d:iF):Bool:=tI d.name&&(decide (1<=d.kind)&&decide (d.kind<=6))
def rowP (two:Bool)(r:aK):Bool:=z78 r.a&&(z78 r.b&&((two||decide (r.b=0))&&(zzw r.known&&zf3 r.f)))
def zfi(x:aF):Bool:=tI x.name&&x.rows.all (rowP x.two)
def yO(x:jA):Bool:=decide (x.op=0)&&(zF x.name []&&(decide (x.args.length=0)&&zmf x.v))
def aO(x:wH):Bool:=
 tI x.name&&(tI x.label&&(zzw x.from_&&(zzw x.known&&((zzw x.to||decide (x.to=65536))&&(if x.off=true then yO x.when_&&yO x.then_ else bE x.when_ 1&&bE x.then_ 1)))))
def ze4(p:fD):Bool:=tI p.name&&(p.defs.all z86&&(p.tables.all zfi&&p.clauses.all aO))
theorem zo8{x:jA}{a b c:zA}(hx:x.fit)(ha:dA t 1 (kE x.v.f.n.limbs) a)(hb:dA t 1 (kE x.v.f.d.limbs) b)(hc:dA t 9 (x.args.map jA.d) c):lB yA F 126 [.agg (oH x a b c)] t=some (.bool (yO x)):=by
 obtain⟨op,name,v,args⟩:=x
 simp only[jA.op,jA.name,jA.v,jA.args,yO,oH]at ha hb hc ⊢
 unfold jA.fit at hx;have hl:yC c=some (.int .i64 (args.length:Int)):=by rw[hc.len,yag]
 refine oC.2 (w126 _ _ _ _ _ _ _ _ _ ?_)
 unfold t126;by_cases h1:op=0
 case neg=>refine uB (tF (by omega)) ?_;simp[pA,h1]
 refine iA (aD (by omega)) ?_
 cases h2:zF name []with
 | false=>refine uB (by simp) ?_;simp[pA]
 | true=>
  refine iA rfl (lA hl (uC ?_))
  by_cases h3:args.length=0
  case neg=>refine uB (tF (by omega)) ?_;simp[pA,h3]
  refine iA (aD (by omega)) (sC ?_)
  rw[q86,za5 ha hb hx.2.2.2.1.2.1.1,sA];refine pD ?_
  simp[pA,h1,h3]
theorem z4m{l:List iF}{v:zA}(hr:dA t 3 (l.map iF.d) v)(hlen:l.length<dC):lB yA F 91 [v,.func (.func 90) [] []] t=some (.bool (l.all z86)):=by
 unfold dC at hlen;refine oC.2 (w91 _ _ ?_)
 unfold t91;refine lA hr.len (uC (vD ?_))
 rw[yag];refine zb9 (dd:=iF.d) (P:=z86) (S:=22) (el:=59) (zs:=[.str [],.int .u8 0,.bool false]) (cond:=fun _=>true) sl22 (fun x _=>x.zs) hr (by omega) (fun i t Q h=>j91_2 _ _ _ _ h) (fun _ _ _=>rfl) ?_ l.length 0 (by omega)
 intro x hx cs hcs R hR;have:=zwo hcs
 subst this;show nD (some (90,[zA.agg [.str x.name,.int .u8 x.kind,.bool x.fact]])) _
 rw[sA];have:lB yA F 90 [zA.agg [.str x.name,.int .u8 x.kind,.bool x.fact]] t=some (.bool (z86 x)):=by
  refine oC.2 (w90 _ _ _ ?_)
  unfold t90 z86;refine sC ?_
  rw[q84,nU,sA];refine pD ?_
  cases h1:tI x.name with
  | false=>refine uB (by simp) ?_;simp[pA]
  | true=>
   refine iA rfl ?_
   by_cases h2:1<=x.kind
   ·refine iA (yLe (by omega)) ?_
    have:jC (x.kind:Int) 6=decide (x.kind<=6):=by rw[z3f];congr 1;exact propext (by omega)
    simp[pA,h2,this]
   ·refine uB (nLe (by omega)) ?_
    simp[pA,h2]
 rw[q90,this,sA];exact hR
theorem key_ok{n:Int}:lB yA F 123 [.int .i64 n] t=some (.bool (z78 n)):=by
 refine oC.2 (w123 _ ?_)
 unfold t123 z78;by_cases h : -2147483648<=n
 ·refine iA (yLe h) ?_
  rw[decide_eq_true h,ybo,<- zyx];exact⟨rfl,rfl⟩
 ·refine uB (nLe h) ?_
  rw[decide_eq_false h,Bool.false_and];exact⟨rfl,rfl⟩
theorem zri{n:Int}:lB yA F 117 [.int .i64 n] t=some (.bool (zzw n)):=zqx
theorem row_ok{two:Bool}{r:aK}{u v:zA}{k b:Nat}{s:zA}{nm:List Nat}(hu:dA t 1 (kE r.f.n.limbs) u)(hv:dA t 1 (kE r.f.d.limbs) v)(hf:r.f.fit)(hk:mD t k none [.func (.func 123) [] []])(hb:mD t b none [.str nm,.bool two,s]) :
  lB yA F 124 [.agg [.int .i64 r.a,.int .i64 r.b,.int .i64 r.known,.bool r.f.n.neg,u,.bool r.f.d.neg,v],.ptr k 0,.ptr b 0] t=some (.bool (rowP two r)):=by
 refine oC.2 (w124 _ _ _ _ _ _ _ _ _ ?_)
 have hld:oA yA 191 ⟨0,t⟩ (.ptr k 0)=some (.func (.func 123) [] []):=hk.load1 (j:=0) z6v rfl rfl
 have hl2:oA yA 4 ⟨0,t⟩ (.ptr b 1)=some (.bool two):=hb.load1 (j:=1) ty4 rfl rfl
 have hfa:qB yA 81 1 (.ptr b 0)=some (.ptr b 1):=by kernel_rfl
 have hc:∀(n:Int) (K:zA->T) (Q:vC),wp 124 (K (.bool (z78 n))) t Q->wp 124 (.callv (.func (.func 123) [] []) [.int .i64 n] K) t Q:=by
  intro n K Q h;show nD (some (123,[zA.int .i64 n])) _
  rw[sA];simp only[];rw[q123,key_ok,sA];exact h
 have vE:∀(K2:Bool),(wp 124 (.call 117 [(.int .i64 r.known)] fun a9=>
 .asB a9 fun b10=>.ite b10
 (.call 115 [(.agg [(.bool r.f.n.neg),u,(.bool r.f.d.neg),v])] fun oF=>
 .asB oF fun b12=>.ret (.bool b12))
 (.ret (.bool false))) t (fun x t'=>x=.bool (zzw r.known&&zf3 r.f)/\t'=t)):=by
  intro _;refine sC ?_
  rw[q117,zri,sA];refine pD ?_
  cases h:zzw r.known with
  | false=>exact uB (by simp) ⟨rfl,rfl⟩
  | true=>
   refine iA rfl (sC ?_)
   rw[q115,gZ hu hv hf,sA];exact pD ⟨rfl,rfl⟩
 unfold t124 rowP;refine lC hld (hc _ _ _ (pD ?_))
 cases h1:z78 r.a with
 | false=>exact uB (by simp) ⟨rfl,rfl⟩
 | true=>
  refine iA rfl (lC hld (hc _ _ _ (pD ?_)))
  cases h2:z78 r.b with
  | false=>exact uB (by simp) ⟨rfl,rfl⟩
  | true=>
   refine iA rfl (lA hfa (lC hl2 (pD ?_)))
   cases two with
   | true=>
    refine iA rfl ?_
    simp only[Bool.true_or,ybo];exact vE true
   | false=>
    refine uB (by simp) ?_
    by_cases h3:r.b=0
    ·refine iA (aD h3) ?_
     simp only[decide_eq_true h3,Bool.or_true,ybo];exact vE true
    ·refine uB (tF h3) ?_
     simp only[decide_eq_false h3,Bool.or_false,Bool.false_and,Bool.and_false];exact⟨rfl,rfl⟩
theorem z1g{x:aF}{a:zA}(hr:dA t 7 (x.rows.map aK.d) a)(hx:x.fit):lB yA F 93 [.agg [.str x.name,.bool x.two,a]] t=some (.bool (zfi x)):=by
 have hlen:=hx.2.1
 unfold dC at hlen;refine kJ (w93 _ _ _ ?_)
 unfold t93;refine dF fun b hb hbase=>?_
 obtain⟨t1,e1,c1,l1,o1⟩:=wT hb [.str x.name,.bool x.two,a] none
 refine⟨.ptr b 0,⟨b+1,t1⟩,by rw[<- e1];rfl,?_⟩
 refine dF fun k hk kbase=>?_
 obtain⟨t2,e2,c2,l2,o2⟩:=qS (C:=yA) z6v hk
 refine⟨_,_,e2,?_⟩
 refine dF fun n _ _=>?_
 obtain⟨t3,e3,c3,o3⟩:=c2.store1 (v:=.func (.func 123) [] []) kbase z6v rfl rfl rfl (j:=0) (by simp)
 refine⟨_,_,e3 n,?_⟩
 have hbk:b≠k:=by intro e;obtain⟨c,h,_⟩:=c1;rw[e,hk]at h;cases h
 have cb:mD t3 b none [.str x.name,.bool x.two,a]:=c1.off (by rw[o3 b hbk,o2 b hbk])
 have hle:vB t t3:=fun c u hc=>by
  have h1:=l1 _ _ hc
  have h2:c≠k:=fun e=>by rw[e,hk]at h1;cases h1
  rw[o3 c h2];exact l2 _ _ h1
 have hfa0:qB yA 81 0 (.ptr b 0)=some (.ptr b 0):=by kernel_rfl
 have hfa2:qB yA 81 2 (.ptr b 0)=some (.ptr b 2):=by kernel_rfl
 refine lA hfa0 (lC (cb.load1 (j:=0) ty9 rfl rfl) (cH (sC ?_)))
 rw[q84,nU,sA];refine pD ?_
 unfold zfi
 cases h1:tI x.name with
 | false=>exact uB (by simp) ⟨rfl,hle⟩
 | true=>
  refine iA rfl (lA hfa2 (lC (cb.load1 (j:=2) ty79 rfl rfl) (sC ?_)))
  have hall:lB yA F 125 [a,.func (.func 124) [] [.ptr k 0,.ptr b 0]] t3=some (.bool (x.rows.all (rowP x.two))):=by
   refine oC.2 (w125 _ _ ?_)
   unfold t125;refine lA (hr.mono hle).len (uC (vD ?_))
   rw[yag];refine zb9 (dd:=aK.d) (P:=rowP x.two) (S:=79) (el:=84) (zs:=[.int .i64 0,.int .i64 0,.int .i64 0,.bool false,.nilslice,.bool false,.nilslice]) (cond:=fun X=>tC zA.one [(.int .i64 (X.i 0)),(.int .i64 (X.i 1)),(.int .i64 (X.i 2)),(.bool (X.b 3)),(X.v 4),(.bool (X.b 5)),(X.v 6)]) sl79 (fun x _=>x.zs) (hr.mono hle) (by omega) (fun i t Q h=>j125_2 _ _ _ _ h) ?_ ?_ x.rows.length 0 (by omega)
   ·intro cs h1 h2
    have h3:cM [.int .i64 0,.int .i64 0,.int .i64 0,.bool false,.nilslice,.bool false,.nilslice] (cellsOf cs) 0=cs:=by simpa using qW _ cs [] h2
    have e:[zA.int .i64 ((cellsOf cs).i 0),.int .i64 ((cellsOf cs).i 1),.int .i64 ((cellsOf cs).i 2),.bool ((cellsOf cs).b 3),(cellsOf cs).v 4,.bool ((cellsOf cs).b 5),(cellsOf cs).v 6]=cs:=h3
    show tC zA.one [_,_,_,_,_,_,_]=true
    rw[e];exact h1
   ·intro r hr' cs hcs R hR
    obtain⟨u,v,rfl,hu,hv⟩:=rd_row hcs
    show nD (some (124,[zA.agg [.int .i64 r.a,.int .i64 r.b,.int .i64 r.known,.bool r.f.n.neg,u,.bool r.f.d.neg,v],.ptr k 0,.ptr b 0])) _
    rw[sA];simp only[];rw[q124,row_ok hu hv (hx.2.2 r hr').2.2.2 c3 cb,sA]
    exact hR
  rw[q125,hall,sA];exact pD ⟨rfl,hle⟩
theorem zt9{l:List aF}{v:zA}(hr:dA t 3 (l.map aF.d) v)(hlen:l.length<dC)(hx:∀x∈l,x.fit):lB yA F 92 [v,.func (.func 93) [] []] t=some (.bool (l.all zfi)):=by
 unfold dC at hlen;refine oC.2 (w92 _ _ ?_)
 unfold t92;refine lA hr.len (uC (vD ?_))
 rw[yag];refine zb9 (dd:=aF.d) (P:=zfi) (S:=23) (el:=81) (zs:=[.str [],.bool false,.nilslice]) (cond:=fun X=>tC zA.one [(.str (X.s 0)),(.bool (X.b 1)),(X.v 2)]) sl23 (fun x _=>x.zs) hr (by omega) (fun i t Q h=>j92_2 _ _ _ _ h) ?_ ?_ l.length 0 (by omega)
 ·intro cs h1 h2
  have h3:cM [.str [],.bool false,.nilslice] (cellsOf cs) 0=cs:=by simpa using qW _ cs [] h2
  have e:[zA.str ((cellsOf cs).s 0),.bool ((cellsOf cs).b 1),(cellsOf cs).v 2]=cs:=h3
  show tC zA.one [_,_,_]=true
  rw[e];exact h1
 ·intro x hm cs hcs R hR
  obtain⟨a,rfl,ha⟩:=zbw hcs
  show nD (some (93,[zA.agg [.str x.name,.bool x.two,a]])) _
  rw[sA];simp only[];rw[q93,z1g ha (hx x hm),sA]
  exact hR
theorem zz5{bf:Nat}(hF:mD t bf none eK){x:wH}{cs:List zA}(hx:x.fit)(hr:RD t x.d cs):lB yA F 95 [.agg [.ptr bf 0],.agg cs] t=some (.bool (aO x)):=by
 obtain⟨a,b,c,a',b',c',rfl,hw,ht⟩:=zj1 hr
 have hxw:=hx.2.2.2.2.2.1
 have hxt:=hx.2.2.2.2.2.2
 obtain⟨a1,b1,c1,e1,ha,hb,hc⟩:=lK hw
 obtain⟨a2,b2,c2,e2,ha',hb',hc'⟩:=lK ht
 simp only[oH,List.cons.injEq,true_and,and_true]at e1 e2;obtain⟨rfl,rfl,rfl⟩:=e1
 obtain⟨rfl,rfl,rfl⟩:=e2
 have vE:∀(cw ct:List zA),cw=oH x.when_ a b c->ct=oH x.then_ a' b' c'->wp 95 (.ite x.off
 (.call 126 [(.agg cw)] fun a10=>
 .asB a10 fun b11=>.ite b11
 (.call 126 [(.agg ct)] fun a12=>
 .asB a12 fun b13=>.ret (.bool b13))
 (.ret (.bool false)))
 (.call 64 [(.agg [.ptr bf 0]),(.agg cw),(.int .i64 1)] fun a14=>
 .asB a14 fun b15=>.ite b15
 (.call 64 [(.agg [.ptr bf 0]),(.agg ct),(.int .i64 1)] fun a16=>
 .asB a16 fun b17=>.ret (.bool b17))
 (.ret (.bool false)))) t (fun v t'=>v=.bool (if x.off=true then yO x.when_&&yO x.then_ else bE x.when_ 1&&bE x.then_ 1)/\t'=t):=by
  intro cw ct ew et;subst ew;subst et
  cases hoff:x.off with
  | true=>
   refine iA rfl (sC ?_)
   rw[q126,zo8 hxw ha hb hc,sA];refine pD ?_
   rw[if_pos rfl]
   cases h:yO x.when_ with
   | false=>exact uB (by simp) ⟨rfl,rfl⟩
   | true=>
    refine iA rfl (sC ?_)
    rw[q126,zo8 hxt ha' hb' hc',sA];exact pD ⟨rfl,rfl⟩
  | false=>
   refine uB (by simp) (sC ?_)
   have e1:=zio hF x.when_ 1 _ hxw (by omega) hw
   have e2:=zio hF x.then_ 1 _ hxt (by omega) ht
   rw[show((1:Nat):Int)=1 from rfl]at e1 e2
   rw[q64,e1,sA];refine pD ?_
   rw[if_neg (by simp)]
   cases h:bE x.when_ 1 with
   | false=>exact uB (by simp) ⟨rfl,rfl⟩
   | true=>
    refine iA rfl (sC ?_)
    rw[q64,e2,sA];exact pD ⟨rfl,rfl⟩
 refine oC.2 ?_
 unfold oH;refine w95 _ _ _ _ _ _ _ _ _ _ _ _ _ _ _ _ _ _ _ _ _ _ _ _ _ ?_
 unfold t95 aO;refine sC ?_
 rw[q84,nU,sA];refine pD ?_
 cases h1:tI x.name with
 | false=>exact iA rfl ⟨rfl,rfl⟩
 | true=>
  refine uB (by simp) (sC ?_)
  rw[q84,nU,sA];refine pD ?_
  cases h2:tI x.label with
  | false=>exact iA rfl ⟨rfl,rfl⟩
  | true=>
   refine uB (by simp) (sC ?_)
   rw[q117,zri,sA];refine pD ?_
   cases h3:zzw x.from_ with
   | false=>exact iA rfl ⟨rfl,rfl⟩
   | true=>
    refine uB (by simp) (sC ?_)
    rw[q117,zri,sA];refine pD ?_
    cases h4:zzw x.known with
    | false=>exact iA rfl ⟨rfl,rfl⟩
    | true=>
     refine uB (by simp) (sC ?_)
     rw[q117,zri,sA];refine pD ?_
     simp only[ybo]
     cases h5:zzw x.to with
     | false=>
      refine iA rfl ?_
      by_cases h6:x.to=65536
      ·refine uB (by rw[aD h6];simp) ?_
       simp only[decide_eq_true h6,Bool.or_true,ybo];exact vE _ _ rfl rfl
      ·have:mA x.to 65536=false:=by
        cases hq:mA x.to 65536 with
        | true=>exact absurd hq (tF h6)
        | false=>rfl
       refine iA (by rw[this];rfl) ?_
       simp only[decide_eq_false h6,Bool.or_false,Bool.false_and];exact⟨rfl,rfl⟩
     | true=>
      refine uB (by simp) ?_
      simp only[Bool.true_or,ybo];exact vE _ _ rfl rfl
theorem zo1{bf:Nat}(hF:mD t bf none eK){l:List wH}{v:zA}(hr:dA t 24 (l.map wH.d) v)(hlen:l.length<dC)(hx:∀x∈l,x.fit):lB yA F 94 [v,.func (.func 95) [.agg [.ptr bf 0]] []] t=some (.bool (l.all aO)):=by
 unfold dC at hlen;refine oC.2 (w94 _ _ ?_)
 unfold t94;refine lA hr.len (uC (vD ?_))
 rw[yag];refine zb9 (dd:=wH.d) (P:=aO) (S:=24) (el:=56) (zs:=[(.str []),(.str []),(.int .i64 0),(.int .i64 0),(.int .i64 0),(.bool false),(.int .u8 0),(.str []),(.int .u8 0),(.bool false),.nilslice,(.bool false),.nilslice,(.int .i64 0),.nilslice,(.int .u8 0),(.str []),(.int .u8 0),(.bool false),.nilslice,(.bool false),.nilslice,(.int .i64 0),.nilslice])
  (cond:=fun X2=>tC zA.one [(.str (X2.s 0)),(.str (X2.s 1)),(.int .i64 (X2.i 2)),(.int .i64 (X2.i 3)),(.int .i64 (X2.i 4)),(.bool (X2.b 5)),(.int .u8 (X2.i 6)),(.str (X2.s 7)),(.int .u8 (X2.i 8)),(.bool (X2.b 9)),(X2.v 10),(.bool (X2.b 11)),(X2.v 12),(.int .i64 (X2.i 13)),(X2.v 14),(.int .u8 (X2.i 15)),(.str (X2.s 16)),(.int .u8 (X2.i 17)),(.bool (X2.b 18)),(X2.v 19),(.bool (X2.b 20)),(X2.v 21),(.int .i64 (X2.i 22)),(X2.v 23)]) sl24 (fun x _=>x.zs) hr (by omega) (fun i t Q h=>j94_2 _ _ _ _ h) ?_ ?_ l.length 0 (by omega)
 ·intro cs h1 h2
  have h3:=qW _ cs [] h2
  rw[List.nil_append,yay]at h3;show tC zA.one (cM [(.str []),(.str []),(.int .i64 0),(.int .i64 0),(.int .i64 0),(.bool false),(.int .u8 0),(.str []),(.int .u8 0),(.bool false),.nilslice,(.bool false),.nilslice,(.int .i64 0),.nilslice,(.int .u8 0),(.str []),(.int .u8 0),(.bool false),.nilslice,(.bool false),.nilslice,(.int .i64 0),.nilslice] (cellsOf cs) 0)=true
  rw[h3];exact h1
 ·intro x hm cs hcs R hR
  show nD (some (95,[.agg [.ptr bf 0],zA.agg cs])) _
  rw[sA];simp only[];rw[q95,zz5 hF (hx x hm) hcs,sA]
  exact hR
theorem z7h{bf:Nat}(hF:mD t bf none eK){p:fD}{cs:List zA}(hp:p.fit)(hr:RD t p.d cs):lB yA F 68 [.agg [.ptr bf 0],.agg cs] t=some (.bool (ze4 p)):=by
 obtain⟨a,b,c,rfl,ha,hb,hc⟩:=nQ hr
 refine oC.2 (w68 _ _ _ _ _ ?_)
 unfold t68 ze4;refine sC ?_
 rw[q84,nU,sA];refine pD ?_
 cases h1:tI p.name with
 | false=>exact uB (by simp) ⟨rfl,rfl⟩
 | true=>
  refine iA rfl (sC ?_)
  rw[q91,z4m ha hp.ndefs,sA];refine pD ?_
  cases h2:p.defs.all z86 with
  | false=>exact uB (by simp) ⟨rfl,rfl⟩
  | true=>
   refine iA rfl (sC ?_)
   rw[q92,zt9 hb hp.ntables hp.tables,sA];refine pD ?_
   cases h3:p.tables.all zfi with
   | false=>exact uB (by simp) ⟨rfl,rfl⟩
   | true=>
    refine iA rfl (sC ?_)
    rw[q94,zo1 hF hc hp.nclauses hp.clauses,sA];exact pD ⟨rfl,rfl⟩
theorem zba{p:fD}{cs:List zA}(hp:p.fit)(hr:RD t p.d cs):lB yA F 46 [.agg cs] t=some (.bool (ze4 p)):=by
 have hr':=hr
 obtain⟨a,b,c,rfl,ha,hb,hc⟩:=nQ hr
 refine kJ (w46 _ _ _ _ ?_)
 unfold t46;refine sC ?_
 rw[q63];refine zah fun bf t' h1 h2 h3 h4 h5=>?_
 refine oG (qN rfl) (iA ?_ (sC ?_))
 ·exact hr'.sameA
 ·have e:(cellsOf [zA.ptr bf 0]).v 0=.ptr bf 0:=rfl
  rw[q68,e,z7h h3 hp (hr'.mono h4),sA]
  exact pD ⟨rfl,h4⟩
end Go.Proofs
namespace Go.Proofs
open Go Go.Am
variable [fC]
variable {t:Tr rA}
def kR:List Int:=[31,28,31,30,31,30,31,31,30,31,30,31]
def zJ(t:Tr rA):Prop:=At t 3 0 (kR.map fun n=>zA.int .i64 n)
theorem zJ.mono{t':Tr rA}(h:zJ t)(k:vB t t'):zJ t':=At.mono k h
theorem zcm(x:Int){k:Nat}(hk:0<k) : -(k:Int)<Int.tmod x k/\Int.tmod x k<k:=by
 have h:=Int.natAbs_tmod x k
 have h2:=ybz x.natAbs (show 0<(k:Int).natAbs by simpa using hk)
 omega
def z2x(y:Int):Bool:=decide (Int.tmod y 4=0)&&(!decide (Int.tmod y 100=0)||decide (Int.tmod y 400=0))
def lenD (y m:Int):Int:=if m<1 then 0 else if 12<m then 0 else if m=2/\z2x y=true then 29 else kR.getD (m-1).toNat 0
def zxx(y:Int):Int:=vA .i64 ((vA .i64 ((vA .i64 (Int.tdiv y 4))-(vA .i64 (Int.tdiv y 100))))+(vA .i64 (Int.tdiv y 400)))
def zpp(v0 v3:Int):Nat->Int->Int->Int
 | 0,_,v4=>v4
 | k+1,v5,v4=>if v5<=Int.tmod v0 12 then zpp v0 v3 k (v5+1) (vA .i64 (v4+lenD v3 v5))else v4
def zfn(m:Int):Int:=zpp m (vA .i64 (1900+(vA .i64 (Int.tdiv m 12)))) 11 1 (vA .i64 ((vA .i64 ((vA .i64 (365*(vA .i64 ((vA .i64 (1900+(vA .i64 (Int.tdiv m 12))))-1900))))+zxx (vA .i64 ((vA .i64 (1900+(vA .i64 (Int.tdiv m 12))))-1))))-zxx 1899))
def zc0(P:Int->Bool):Nat->Nat->Nat->Int
 | 0,i,_=>(i:Int)
 | k+1,i,j=>if i<j then(if P (((i+j) / 2:Nat):Int)=true then zc0 P k i ((i+j) / 2)else zc0 P k ((i+j) / 2+1) j)else(i:Int)
theorem z73(y:Int):lB yA F 231 [.int .i64 y] t=some (.bool (z2x y)):=by
 refine oC.2 (w231 _ ?_)
 unfold t231 z2x;by_cases h1:Int.tmod y 4=0
 ·refine iA (aD h1) ?_
  by_cases h2:Int.tmod y 100=0
  ·refine uB (by rw[aD h2];simp) ?_
   simp[pA,h1,h2,tN]
  ·refine iA ?_ ?_
   ·cases hq:mA (Int.tmod y 100) 0 with
    | true=>exact absurd hq (tF h2)
    | false=>rfl
   ·simp[pA,h1,h2]
 ·refine uB (tF h1) ?_
  simp[pA,h1]
theorem len_at(hG:zJ t){m:Int}(h1:1<=m)(h2:m<=12):∃b o,jB yA 275 (.ptr 3 0) (.int .i64 (vA .i64 (m-1)))=some (.ptr b o)/\oA yA 3 ⟨0,t⟩ (.ptr b o)=some (.int .i64 (kR.getD (m-1).toNat 0)):=by
 obtain⟨k,rfl⟩:∃k:Nat,m=(k:Int)+1:=⟨(m-1).toNat,by omega⟩
 have hk:k<12:=by omega
 have e0:((k:Int)+1-1).toNat=k:=by omega
 rw[wrap_i64 (by omega) (by omega),e0,show(k:Int)+1-1=(k:Int) by omega]
 have hx:(kR.map fun n=>zA.int .i64 n)[k]?=some (.int .i64 (kR.getD k 0)):=by
  have:k<kR.length:=hk
  simp[yae this]
 refine⟨3,0+k,?_,hG.load1 ty3 rfl hx⟩
 unfold jB;rw[ty275,uA];have e:(zA.int .i64 (k:Int)).asNat=some k:=rfl
 rw[e,uA];simp only[zA.asSlice,zA.asPtr,uA,qD.asArr];rw[ty3,uA,xC.2 hk,gD];simp
theorem znr(hG:zJ t)(y m:Int):lB yA F 219 [.int .i64 y,.int .i64 m] t=some (.int .i64 (lenD y m)):=by
 refine oC.2 (w219 _ _ ?_)
 unfold t219 lenD;by_cases h1:m<1
 ·rw[if_pos h1];exact iA (yLt h1) ⟨rfl,rfl⟩
 rw[if_neg h1];refine uB (nLt h1) ?_
 by_cases h2:12<m
 ·rw[if_pos h2];exact iA (yLt h2) ⟨rfl,rfl⟩
 rw[if_neg h2];refine uB (nLt h2) ?_
 obtain⟨b,o,g1,g2⟩:=len_at hG (m:=m) (by omega) (by omega)
 by_cases h3:m=2
 ·refine iA (aD h3) (sC ?_)
  rw[q231,z73,sA];refine pD ?_
  cases hl:z2x y with
  | true=>rw[if_pos ⟨h3,rfl⟩];exact iA rfl ⟨rfl,rfl⟩
  | false=>rw[if_neg (by simp)];exact uB (by simp) (lA g1 (lC g2 (uC ⟨rfl,rfl⟩)))
 ·rw[if_neg (by simp[h3])]
  exact uB (tF h3) (lA g1 (lC g2 (uC ⟨rfl,rfl⟩)))
theorem zsj(hG:zJ t)(v0 v3:Int):∀(k:Nat) (v5 v4:Int),v5+k=12->1<=v5->jp 198 2 [.int .i64 v0,.int .i64 v3,.int .i64 v4,.int .i64 v5] t (fun v t'=>v=.int .i64 (zpp v0 v3 k v5 v4)/\t'=t):=by
 have hb:=zcm v0 (k:=12) (by omega)
 rw[show((12:Nat):Int)=12 from rfl]at hb
 intro k;induction k with
 | zero=>
  intro v5 v4 h1 h2;exact zyp _ _ _ _ (uB (nLe (by omega)) ⟨rfl,rfl⟩)
 | succ k ih=>
  intro v5 v4 h1 h2;unfold zpp;by_cases h3:v5<=Int.tmod v0 12
  ·rw[if_pos h3]
   refine zyp _ _ _ _ (iA (yLe h3) (sC ?_))
   rw[q219,znr hG,sA];refine uC (vD ?_)
   rw[wrap_i64 (n:=v5+1) (by omega) (by omega)]
   exact ih _ _ (by omega) (by omega)
  ·rw[if_neg h3]
   exact zyp _ _ _ _ (uB (nLe h3) ⟨rfl,rfl⟩)
theorem zql(y:Int):lB yA F 218 [.int .i64 y] t=some (.int .i64 (zxx y)):=oC.2 (w218 _ ⟨rfl,rfl⟩)
theorem zbt(hG:zJ t)(m:Int):lB yA F 198 [.int .i64 m] t=some (.int .i64 (zfn m)):=by
 refine oC.2 (w198 _ (sC ?_))
 rw[q218,zql,sA];refine uC (sC ?_)
 rw[q218,zql,sA];exact uC (vD (zsj hG m _ 11 1 _ (by omega) (by omega)))
theorem zm4{v1:zA}{P:Int->Bool}(hcall:∀n:Int,∀(R:vC),R (.bool (P n)) t->nD (oM v1 [.int .i64 n]) fun p=>Wq yA F uJ p.1 p.2 t R) :
  ∀(k i j:Nat),j-i<=k->j<=100000->jp 216 2 [v1,.int .i64 (i:Int),.int .i64 (j:Int)] t (fun v t'=>v=.int .i64 (zc0 P k i j)/\t'=t):=by
 intro k;induction k with
 | zero=>
  intro i j h1 h2;exact zyn _ _ _ (uB (nLt (by omega)) ⟨rfl,rfl⟩)
 | succ k ih=>
  intro i j h1 h2;unfold zc0;by_cases h3:i<j
  ·have e1:vA .i64 (Int.fdiv (vA .u64 (vA .i64 ((i:Int)+(j:Int)))) 2)=(((i+j) / 2:Nat):Int):=by
    rw[wrap_i64 (n:=(i:Int)+(j:Int)) (by omega) (by omega),jE (by omega) (by omega),Int.fdiv_eq_ediv_of_nonneg _ (by decide),wrap_i64 (by omega) (by omega)]
    omega
   rw[if_pos h3];refine zyn _ _ _ (iA (yLt (by omega)) ?_)
   show nD _ _
   rw[e1];refine hcall _ _ (pD ?_)
   cases hP:P (((i+j) / 2:Nat):Int)with
   | false=>
    rw[if_neg (by simp)]
    refine iA rfl (vD ?_)
    rw[wrap_i64 (by omega) (by omega),show(((i+j) / 2:Nat):Int)+1=(((i+j) / 2+1:Nat):Int) by omega]
    exact ih _ _ (by omega) h2
   | true=>
    rw[if_pos rfl];exact uB (by simp) (vD (ih _ _ (by omega) (by omega)))
  ·rw[if_neg h3]
   exact zyn _ _ _ (uB (nLt (by omega)) ⟨rfl,rfl⟩)
def dM(d:Int):Int:=zc0 (fun n=>dB d (zfn (vA .i64 (n+1)))) 2154 0 2154
theorem zs4(hG:zJ t)(d:Int):lB yA F 197 [.int .i64 d] t=some (.int .i64 (dM d)):=by
 refine kJ (w197 _ ?_)
 unfold t197;refine dF fun b hb hbase=>?_
 obtain⟨t',e,hc,hle,_⟩:=wT hb [.int .i64 d] none
 refine⟨.ptr b 0,⟨b+1,t'⟩,by show some (zA.ptr b 0,zE ⟨b,t⟩ [.int .i64 d] none)=_;rw[e],sC ?_⟩
 have hld:oA yA 3 ⟨0,t'⟩ (.ptr b 0)=some (.int .i64 d):=hc.load1 (j:=0) ty3 rfl rfl
 have:lB yA F 216 [.int .i64 2154,.func (.func 217) [] [.ptr b 0]] t'=some (.int .i64 (dM d)):=by
  refine oC.2 (w216 _ _ (vD ?_))
  refine zm4 (fun n R hR=>?_) 2154 0 2154 (by omega) (by omega)
  show nD (some (217,[zA.int .i64 n,.ptr b 0])) _
  rw[sA];simp only[];have:lB yA F 217 [zA.int .i64 n,.ptr b 0] t'=some (.bool (dB d (zfn (vA .i64 (n+1))))):=by
   refine oC.2 (w217 _ _ (lC hld (uC (sC ?_))))
   rw[q198,zbt (hG.mono hle),sA]
   exact uC (lC hld (iA zbv ⟨rfl,rfl⟩))
  rw[q217,this,sA];exact hR
 rw[q216];exact Wc_pv this (uC ⟨rfl,hle⟩)
def ymdD (d:Int):zA:=.tup [.int .i64 (vA .i64 (1900+(vA .i64 (Int.tdiv (dM d) 12)))),.int .i64 (vA .i64 ((Int.tmod (dM d) 12)+1)),.int .i64 (vA .i64 ((vA .i64 (d-zfn (dM d)))+1)),.int .i64 0]
theorem ymd_ok(hG:zJ t){d:Int}(h0:0<=d)(h1:d<65536):lB yA F 173 [.int .i64 d] t=some (ymdD d):=by
 have hd:lB yA F 196 [.int .i64 d] t=some (.bool true):=by
  refine oC.2 (w196 _ (iA (yLe h0) ?_))
  rw[yLt h1];exact⟨rfl,rfl⟩
 refine oC.2 (w173 _ (sC ?_))
 rw[q196,hd,sA];refine pD (uB (by simp) (sC ?_))
 rw[q197,zs4 hG,sA];refine uC (sC ?_)
 rw[q198,zbt hG,sA];exact uC ⟨rfl,rfl⟩
def cB (l:List Nat):List zA:=l.map fun(n:Nat)=>zA.int .u8 (n:Int)
theorem ten{l:List Nat}(h:l.length=10):∃a b c d e f g h i j,l=[a,b,c,d,e,f,g,h,i,j]:=by
 match l,h with
 | [a,b,c,d,e,f,g,h,i,j],_=>exact⟨a,b,c,d,e,f,g,h,i,j,rfl⟩
theorem uS{l:List Nat}:(cB l).length=l.length:=by simp[cB]
theorem cB_set{l:List Nat}{i x:Nat}:(cB l).set i (.int .u8 (x:Int))=cB (l.set i x):=by simp[cB,List.map_set]
theorem idx164{b i:Nat}(h:i<10):jB yA 236 (.ptr b 0) (.int .i64 (i:Int))=some (.ptr b i):=by
 unfold jB;rw[zu7,uA];have e:(zA.int .i64 (i:Int)).asNat=some i:=rfl
 rw[e,uA];simp only[zA.asSlice,zA.asPtr,uA,qD.asArr];rw[ty5,uA,xC.2 h,gD];simp
theorem nY{b:Nat}{l:List Nat}(h:mD t b none (cB l))(hl:l.length=10):oA yA 236 ⟨0,t⟩ (.ptr b 0)=some (.agg (cB l)):=by
 have:=h.at.load (C:=yA) (ty:=236) zu7 rfl (n:=10) rfl (j:=0) (by rw[uS];omega)
 rw[yax]at this;rw[this];congr 2
 rw[ybs,ybb (by rw[uS];omega)]
theorem zbj{b:Nat}{l m:List Nat}(h:mD t b none (cB l))(hb:yA.base<=b)(hl:l.length=10)(hm:m.length=10):∃t',(∀n,cC yA 236 (.ptr b 0) (.agg (cB m)) ⟨n,t⟩=some (oD,⟨n,t'⟩))/\mD t' b none (cB m)/\bD b t t':=by
 obtain⟨t',h1,h2,h3⟩:=h.store (C:=yA) hb (T:=236) (v:=.agg (cB m)) (j:=0) zu7 (by show(cB m).length=10;rw[uS,hm]) (by show 0+(cB m).length<=_;rw[uS,uS];omega) (by
  show tC zA.one (cB m)=true
  rw[aG,ybc];intro a ha;unfold cB at ha;obtain⟨n,_,rfl⟩:=List.mem_map.1 ha
  rfl)
 refine⟨t',h1,?_,h3⟩
 have e:jN (cB l) 0 (zA.agg (cB m)).cells=cB m:=by
  show jN (cB l) 0 (cB m)=cB m
  unfold jN;rw[List.take_zero,List.nil_append,yau (by rw[uS,uS];omega),ybe]
 rw[e]at h2;exact h2
abbrev z10:List zA:=[.int .u8 0,.int .u8 0,.int .u8 0,.int .u8 0,.int .u8 0,.int .u8 0,.int .u8 0,.int .u8 0,.int .u8 0,.int .u8 0]
theorem zly{l:List Nat}(hl:l.length=10):zrs z10 (.agg (cB l))=some (cellsOf (cB l)):=by
 obtain⟨a,b,c,d,e,f,g,h,i,j,rfl⟩:=ten hl
 exact qN rfl
theorem ziw{l:List Nat}(hl:l.length=10):[zA.int .u8 ((cellsOf (cB l)).i 0),.int .u8 ((cellsOf (cB l)).i 1),.int .u8 ((cellsOf (cB l)).i 2),.int .u8 ((cellsOf (cB l)).i 3),.int .u8 ((cellsOf (cB l)).i 4),.int .u8 ((cellsOf (cB l)).i 5),.int .u8 ((cellsOf (cB l)).i 6),.int .u8 ((cellsOf (cB l)).i 7),.int .u8 ((cellsOf (cB l)).i 8),.int .u8 ((cellsOf (cB l)).i 9)]=cB l:=by
 obtain⟨a,b,c,d,e,f,g,h,i,j,rfl⟩:=ten hl
 rfl
def z85 (x:Int):Nat:=(48+Int.tmod x 10).toNat
theorem zzt(x:Int):vA .u8 (vA .i64 (48+Int.tmod x 10))=((z85 x:Nat):Int)/\z85 x<256:=by
 have:=zcm x (k:=10) (by omega)
 rw[show((10:Nat):Int)=10 from rfl]at this
 unfold z85;rw[wrap_i64 (by omega) (by omega),zg5 (by omega) (by omega)]
 omega
def wrL:Nat->Int->Nat->List Nat->List Nat
 | 0,_,_,l=>l
 | k+1,x,i,l=>wrL k (vA .i64 (Int.tdiv x 10)) (i-1) (l.set i (z85 x))
theorem zcd:∀(k:Nat) (x:Int) (i:Nat) (l:List Nat),sB 256 l->(wrL k x i l).length=l.length/\sB 256 (wrL k x i l)
 | 0,x,i,l,h=>⟨rfl,h⟩
 | k+1,x,i,l,h=>by
  unfold wrL;have:=zcd k (vA .i64 (Int.tdiv x 10)) (i-1) (l.set i (z85 x)) (fun y hy=>by
   rcases List.mem_or_eq_of_mem_set hy with h1 | h1
   ·exact h y h1
   ·rw[h1];exact(zzt x).2)
  rw[yci]at this;exact this
theorem zi7{b:Nat}(hb:yA.base<=b){c0 c1 c2 c3 c4 c5 c6 c7 c8 c9:Int}:∀(k:Nat) (from_:Nat) (x:Int) (i:Int) (l:List Nat) (t:Tr rA),i+1=(from_:Int)+k->from_+k<=10->l.length=10->mD t b none (cB l) →
  jp 174 2 [.int .i64 (from_:Int),.int .i64 x,.ptr b 0,.int .i64 i,.int .u8 c0,.int .u8 c1,.int .u8 c2,.int .u8 c3,.int .u8 c4,.int .u8 c5,.int .u8 c6,.int .u8 c7,.int .u8 c8,.int .u8 c9] t (fun v t'=>v=.agg (cB (wrL k x i.toNat l))/\bD b t t'):=by
 intro k;induction k with
 | zero=>
  intro from_ x i l t h1 h2 h3 h4;refine z54 _ _ _ _ _ _ _ _ _ _ _ _ _ _ (uB (nLe (by omega)) (lC (nY h4 h3) (oG (zly h3) (iA rfl ?_))))
  show zA.agg _=_/\_
  rw[ziw h3];exact⟨rfl,fun _ _=>rfl⟩
 | succ k ih=>
  intro from_ x i l t h1 h2 h3 h4;obtain⟨n,rfl⟩:∃n:Nat,i=(n:Int):=⟨i.toNat,by omega⟩
  refine z54 _ _ _ _ _ _ _ _ _ _ _ _ _ _ (iA (yLe (by omega)) (lA (idx164 (by omega)) (dF fun m _ _=>?_)))
  rw[(zzt x).1]
  obtain⟨t',g1,g2,g3⟩:=h4.store1 (v:=.int .u8 ((z85 x:Nat):Int)) hb ty5 rfl rfl rfl (j:=n) (by rw[uS];omega)
  refine⟨_,_,g1 m,vD ?_⟩
  rw[cB_set]at g2;rw[wrap_i64 (n:=(n:Int)-1) (by omega) (by omega)]
  have:=ih from_ (vA .i64 (Int.tdiv x 10)) ((n:Int)-1) (l.set n (z85 x)) t' (by omega) (by omega) (by rw[yci];exact h3) g2
  refine Jq.mono this fun v t2 hh=>⟨?_,fun c hc=>by rw[hh.2 c hc,g3 c hc]⟩
  rw[hh.1];have e1:((n:Int)-1).toNat=n-1:=by omega
  have e2:((n:Int)).toNat=n:=by omega
  rw[e1,e2];rfl
theorem zr0{l:List Nat}(hl:l.length=10){from_ k:Nat}(hk:from_+k<=10)(h1:1<=from_+k)(x:Int):lB yA F 174 [.agg (cB l),.int .i64 (from_:Int),.int .i64 (k:Int),.int .i64 x] t=some (.agg (cB (wrL k x (from_+k-1) l))):=by
 obtain⟨a,b,c,d,e,f,g,h,i,j,rfl⟩:=ten hl
 refine kJ ?_
 show Wf 174 [.agg [.int .u8 a,.int .u8 b,.int .u8 c,.int .u8 d,.int .u8 e,.int .u8 f,.int .u8 g,.int .u8 h,.int .u8 i,.int .u8 j],.int .i64 (from_:Int),.int .i64 (k:Int),.int .i64 x] t _
 refine w174 _ _ _ _ _ _ _ _ _ _ _ _ _ ?_
 unfold t174;refine dF fun n hn hbase=>?_
 obtain⟨t',e1,hc,hle,ho⟩:=wT hn (cB [a,b,c,d,e,f,g,h,i,j]) none
 refine⟨.ptr n 0,⟨n+1,t'⟩,by show some (zA.ptr n 0,zE ⟨n,t⟩ (cB [a,b,c,d,e,f,g,h,i,j]) none)=_;rw[e1],vD ?_⟩
 rw[wrap_i64 (n:=(from_:Int)+(k:Int)) (by omega) (by omega),wrap_i64 (by omega) (by omega)]
 have:=zi7 (c0:=0) (c1:=0) (c2:=0) (c3:=0) (c4:=0) (c5:=0) (c6:=0) (c7:=0) (c8:=0) (c9:=0) hbase k from_ x ((from_:Int)+(k:Int)-1) _ t' (by omega) hk hl hc
 refine Jq.mono this fun v t2 hh=>⟨?_,fun b' y hy=>?_⟩
 ·rw[hh.1,show((from_:Int)+(k:Int)-1).toNat=from_+k-1 by omega]
 ·have:b'≠n:=fun e=>by rw[e,hn]at hy;cases hy
  rw[hh.2 b' this];exact hle _ _ hy
def z0a (d:Int):List Nat:=
 wrL 2 (vA .i64 ((vA .i64 (d-zfn (dM d)))+1)) 9 (wrL 2 (vA .i64 ((Int.tmod (dM d) 12)+1)) 6 (wrL 4 (vA .i64 (1900+(vA .i64 (Int.tdiv (dM d) 12)))) 3 [0,0,0,0,45,0,0,45,0,0]))
theorem zrn(d:Int):(z0a d).length=10/\sB 256 (z0a d):=by
 have h0:sB 256 [0,0,0,0,45,0,0,45,0,0]:=by intro x hx;simp at hx;omega
 have h1:=zcd 4 (vA .i64 (1900+(vA .i64 (Int.tdiv (dM d) 12)))) 3 _ h0
 have h2:=zcd 2 (vA .i64 ((Int.tmod (dM d) 12)+1)) 6 _ h1.2
 have h3:=zcd 2 (vA .i64 ((vA .i64 (d-zfn (dM d)))+1)) 9 _ h2.2
 exact⟨by unfold z0a;rw[h3.1,h2.1,h1.1];rfl,h3.2⟩
theorem z69{K:zA->T}{Q:vC}{l:List Nat}{p from_ k:Nat}{x:Int}(hl:l.length=10)(hlt:sB 256 l)(hp:yA.base<=p)(hc:mD t p none (cB l))(hk:from_+k<=10)(h1:1<=from_+k)
  (h:∀t',mD t' p none (cB (wrL k x (from_+k-1) l))->bD p t t'->∀u,wp 147 (K u) t' Q) :
  wp 147 (.call 174 [.agg [(.int .u8 ((cellsOf (cB l)).i 0)),(.int .u8 ((cellsOf (cB l)).i 1)),(.int .u8 ((cellsOf (cB l)).i 2)),(.int .u8 ((cellsOf (cB l)).i 3)),(.int .u8 ((cellsOf (cB l)).i 4)),(.int .u8 ((cellsOf (cB l)).i 5)),(.int .u8 ((cellsOf (cB l)).i 6)),(.int .u8 ((cellsOf (cB l)).i 7)),(.int .u8 ((cellsOf (cB l)).i 8)),(.int .u8 ((cellsOf (cB l)).i 9))],.int .i64 (from_:Int),.int .i64 (k:Int),.int .i64 x] fun a=>.asG z10 a fun X=>
   .heavy (cC yA 236 (.ptr p 0) (.agg [(.int .u8 (X.i 0)),(.int .u8 (X.i 1)),(.int .u8 (X.i 2)),(.int .u8 (X.i 3)),(.int .u8 (X.i 4)),(.int .u8 (X.i 5)),(.int .u8 (X.i 6)),(.int .u8 (X.i 7)),(.int .u8 (X.i 8)),(.int .u8 (X.i 9))])) K) t Q:=by
 have hw:=zcd k x (from_+k-1) l hlt
 refine sC ?_
 rw[ziw hl,q174,zr0 hl hk h1,sA];refine oG (zly (by rw[hw.1,hl])) (dF fun n _ _=>?_)
 rw[ziw (by rw[hw.1,hl])]
 obtain⟨t',g1,g2,g3⟩:=zbj hc hp hl (m:=wrL k x (from_+k-1) l) (by rw[hw.1,hl])
 exact⟨_,_,g1 n,h t' g2 g3 _⟩
theorem cal_ok(hG:zJ t){d:Int}(h0:0<=d)(h1:d<65536):lB yA F 147 [.int .i64 d] t=some (.str (z0a d)):=by
 refine kJ (w147 _ ?_)
 unfold t147;refine sC ?_
 rw[q173,ymd_ok hG h0 h1,sA];unfold ymdD;refine lA rfl (uC (lA rfl (uC (lA rfl (uC (lA rfl (uC (uB (by rw[aD rfl];simp) (iA rfl ?_)))))))))
 refine dF fun p hp hbase=>?_
 obtain⟨t1,e1,c1,l1,o1⟩:=qS (C:=yA) zu7 hp
 refine⟨_,_,e1,?_⟩
 have c1':mD t1 p none (cB [0,0,0,0,0,0,0,0,0,0]):=c1
 refine dF fun n _ _=>?_
 obtain⟨t2,e2,c2,o2⟩:=zbj c1' hbase rfl (m:=[0,0,0,0,45,0,0,45,0,0]) rfl
 refine⟨_,_,e2 n,?_⟩
 have h0':sB 256 [0,0,0,0,45,0,0,45,0,0]:=by intro x hx;simp at hx;omega
 refine lC (nY c2 rfl) (oG (zly rfl) ?_)
 refine z69 (from_:=0) (k:=4) rfl h0' hbase c2 (by omega) (by omega) fun t3 c3 o3 _=>?_
 have w3:=zcd 4 (vA .i64 (1900+(vA .i64 (Int.tdiv (dM d) 12)))) 3 _ h0'
 refine lC (nY c3 w3.1) (oG (zly w3.1) ?_)
 refine z69 (from_:=5) (k:=2) w3.1 w3.2 hbase c3 (by omega) (by omega) fun t4 c4 o4 _=>?_
 have w4:=zcd 2 (vA .i64 ((Int.tmod (dM d) 12)+1)) 6 _ w3.2
 rw[w3.1]at w4;refine lC (nY c4 w4.1) (oG (zly w4.1) ?_)
 refine z69 (from_:=8) (k:=2) w4.1 w4.2 hbase c4 (by omega) (by omega) fun t5 c5 o5 _=>?_
 have hL:=zrn d
 have c5':mD t5 p none (cB (z0a d)):=c5
 have hs:zG yA 236 ⟨0,t5⟩ (.ptr p 0) none none=some (.slice p 0 10 10):=by
  obtain⟨c,g,_⟩:=c5'
  have hk:tD ⟨0,t5⟩ p=some (c,(cB (z0a d)).length,none):=by unfold tD;rw[g];rfl
  unfold zG;rw[zu7,uA];unfold bJ;simp only[zA.asStr,zA.asSlice,zA.asPtr,qD.asArr,uA];unfold vL;rw[ty5,uA];have hb2:rM 10 10 none none=some (0,10):=rfl
  rw[hb2,uA];unfold jI mH;rw[hk];rfl
 have hv:oK yA 38 9 ⟨0,t5⟩ (.slice p 0 10 10)=some (.str (z0a d)):=ztx zu6 ty9 rfl rfl rfl ty5 rfl c5' hL.1 (fun j x hj=>by
  unfold cB;rw[yav,hj];rfl) hL.2
 refine lC hs (lC hv (cH ⟨rfl,fun b y hy=>?_⟩))
 have:b≠p:=fun e=>by rw[e,hp]at hy;cases hy
 rw[o5 b this,o4 b this,o3 b this,o2 b this];exact l1 _ _ hy
end Go.Proofs
namespace Go.Am
open Go Go.RowKit
theorem z0p{C:qA}{F:Tr xB}{f:Nat}{args:List zA}{t:Tr rA}{Q:vC}{g:List zA->xA->Option (zA × xA)}(hg:C.prims.get f=some g)(h:∀X HA,Ov C.base t X HA->∃v t' HA',g args HA=some (v,HA')/\Ov C.base t' X HA'/\Q v t')(hf:Nat.blt f yo=true:=by rfl):Wc C F f args t Q:=by
 intro X HA ho;rw[xV hf,hg];obtain⟨v,t',HA',h1,h2,h3⟩:=h X HA ho
 exact⟨v,t',HA',X,h1,h2,XLe.refl _,h3⟩
end Go.Am
namespace Go.Proofs
open Go Go.Am
variable [fC]
variable {t tf:Tr rA}{bx T:Nat}{s m:List Nat}{ex:List zA}
def BX (T:Nat)(ex:List zA)(tf t:Tr rA)(bx:Nat)(s:List Nat):Prop:=
 yA.base<=bx/\tf.get bx=none/\vB tf t/\sB 256 s/\zgd lU T (ex.length+2)=true/\∃p tv,(p=zA.nilptr\/p=.ptr bx 0)/\mD t bx (some (.ty T)) (p::tv::ex)/\wG (.ty 5) yA.base tf t 1 (mB .u8 s) tv/\¬ xM tv bx
theorem BX.le(h:BX T ex tf t bx s):vB tf t:=h.2.2.1
theorem BX.check{Q:vC}(h:BX T ex tf t bx s)(hQ:∀t',BX T ex tf t' bx s->Q (.tup []) t'):Wc yA F 144 [.ptr bx 0] t Q:=by
 have h0:=h
 obtain⟨h1,h2,h3,ha,hM,p,tv,hp,⟨c,h4,h4'⟩,h5,h6⟩:=h
 have hg:yA.prims.get 144=some pChk:=by kernel_rfl
 refine z0p hg fun X HA ho=>?_
 have hk:tD HA bx=some (c,(p::tv::ex).length,some (.ty T)):=by unfold tD;rw[ho.up h4];rfl
 have hc0:c.get 0=some p:=h4' 0 p rfl
 rcases hp with rfl | rfl
 ·refine⟨.tup [],t.set bx (.cells (c.set 0 (.ptr bx 0)) (zA.nilptr::tv::ex).length (some (.ty T))),setBlk HA bx (.cells (c.set 0 (.ptr bx 0)) (zA.nilptr::tv::ex).length (some (.ty T))),?_,ho.setBlk h4 _,hQ _ ?_⟩
  ·unfold pChk zda
   simp only[];rw[hk,uA,hc0,uA];simp only[];have e1:(!Nat.blt bx (256+fC.n))=true:=by
    cases hq:Nat.blt bx (256+fC.n)with
    | true=>
     have h3:=xC.1 hq
     have h1':256+fC.n<=bx:=h1
     omega
    | false=>rfl
   have e2:zgd lU T (zA.nilptr::tv::ex).length=true:=hM
   rw[e1,e2];rfl
  ·refine⟨h1,h2,fun b u hb=>?_,ha,hM,.ptr bx 0,tv,.inr rfl,⟨_,by rw[Tr.get_set,if_pos rfl];rfl,fun j a hj=>?_⟩,h5.keep' fun b hb=>?_,h6⟩
   ·have:b≠bx:=fun e=>by rw[e,h2]at hb;cases hb
    rw[Tr.get_set,if_neg this];exact h3 _ _ hb
   ·rw[Tr.get_set]
    split
    ·rename_i e;subst e;exact hj
    ·rename_i e
     refine h4' j a ?_
     cases j with
     | zero=>exact absurd rfl e
     | succ j=>exact hj
   ·have:b≠bx:=fun e=>h6 (e ▸ hb)
    rw[Tr.get_set,if_neg this]
 ·refine⟨.tup [],t,HA,?_,ho,hQ _ h0⟩
  unfold pChk zda;simp only[];rw[hk,uA,hc0,uA];simp only[];rw[fB.2 rfl,fB.2 rfl];rfl
theorem fa77{b:Nat}:qB yA 164 1 (.ptr b 0)=some (.ptr b 1):=by kernel_rfl
theorem BX.write{Q:vC}(h:BX T ex tf t bx s)(hm:m≠[])(hlt:sB 256 m)(hl:s.length+m.length<400000)(hQ:∀v t',BX T ex tf t' bx (s++m)->Q v t'):Wc yA F 119 [.ptr bx 0,.str m] t Q:=by
 refine w119 _ _ ?_
 unfold t119;refine sC ?_
 rw[q144];refine h.check fun t' h'=>?_
 obtain⟨h1,h2,h3,ha,hM,p,tv,hp,h4,h5,h6⟩:=h'
 refine lA dE (lA fa77 (lC (h4.load1 (j:=1) zu6 rfl rfl) (dF fun n hn hbase=>?_)))
 have hbn:n≠bx:=by intro e;obtain⟨c,hh,_⟩:=h4;rw[<- e,hn]at hh;cases hh
 obtain⟨t1,g1,g2,g3,g4⟩:=zgz el32 ⟨_,ty9,rfl⟩ co5 h5 hm hl hn hbase h3
 refine⟨_,_,g1,lA dE (lA fa77 (dF fun n2 _ _=>?_))⟩
 have h4':mD t1 bx (some (.ty T)) (p::tv::ex):=h4.off (g4 bx hbn.symm h6)
 obtain⟨t2,e1,e2,e3⟩:=h4'.store1 (v:=.slice n 0 (s.length+m.length) (s.length+m.length)) h1 zu6 rfl rfl rfl (j:=1) (by simp)
 refine⟨_,_,e1 n2,hQ _ _ ⟨h1,h2,g3.off h2 e3,fun x hx=>?_,hM,p,_,hp,e2,g2.keep' fun b hb=>e3 b fun e=>?_,fun e=>?_⟩⟩
 ·rcases List.mem_append.1 hx with hx | hx
  ·exact ha x hx
  ·exact hlt x hx
 ·rw[gQ]at hb;exact hbn (hb.symm.trans e)
 ·rw[gQ]at e;exact hbn e.symm
theorem BX.len(h:BX T ex tf t bx s):lB yA F 118 [.ptr bx 0] t=some (.int .i64 (s.length:Int)):=by
 obtain⟨h1,h2,h3,ha,hM,p,tv,hp,h4,h5,h6⟩:=h
 refine oC.2 (w118 _ ?_)
 unfold t118;have hlen:=h5.len
 rw[gE]at hlen;exact lA dE (lA fa77 (lC (h4.load1 (j:=1) zu6 rfl rfl) (lA hlen (uC ⟨rfl,rfl⟩))))
theorem zdj:∀ {l:List Nat},sB 256 l->mF Go.Am.byteOf (l.map fun(n:Nat)=>zA.int .u8 (n:Int))=some l
 | [],_=>rfl
 | x::l,h=>by
  have hx:Go.Am.byteOf (.int .u8 (x:Int))=some x:=by
   show cA (Nat.blt x 256) (some x)=_
   rw[xC.2 (h x (.head _))];rfl
  rw[ybn,yK,hx,uA,zdj fun y hy=>h y (.tail _ hy)]
  rfl
theorem BX.string{Q:vC}(h:BX T ex tf t bx s)(hs:s≠[])(hl:s.length<400000)(hQ:∀t',vB tf t'->Q (.str s) t'):Wc yA F 88 [.ptr bx 0] t Q:=by
 obtain⟨h1,h2,h3,ha,hM,p,tv,hp,⟨c,h4,h4'⟩,h5,h6⟩:=h
 have hg:yA.prims.get 88=some pStr:=by kernel_rfl
 rcases h5 with⟨rfl,h5⟩ | ⟨b,cl,d,rfl,k0,k1,k2,k3,k4⟩
 ·exact absurd (ybd.1 (by rw[<- gE (k:=.u8),h5];rfl)) hs
 have hpos:0<s.length:=List.length_pos_iff.2 hs
 rw[gE,Nat.mul_one]at k2;rw[lS]at k4;subst k4;have hbytes:∀j a,(s.map fun(n:Nat)=>zA.int .u8 (n:Int))[j]?=some a->d.get j=some a:=by
  intro j a hj;have hj':(tM .u8 s)[j]?=some [a]:=by
   unfold tM;rw[yav]at hj ⊢
   cases hx:s[j]? with
   | none=>rw[hx]at hj;cases hj
   | some x=>rw[hx]at hj;cases hj;rfl
  have:=(k3 j _ hj').2 0 a rfl
  rw[Nat.mul_one,ybu]at this;exact this
 refine z0p hg fun X HA ho=>?_
 have hk:tD HA bx=some (c,(p::zA.slice b 0 (mB .u8 s).length (mB .u8 s).length::ex).length,some (.ty T)):=by unfold tD;rw[ho.up h4];rfl
 have hk2:tD HA b=some (d,s.length,some (.ty 5)):=by unfold tD;rw[ho.up k2];rfl
 have hc1:=h4' 1 _ rfl
 refine⟨.str s,t.del b,⟨HA.next,HA.t.del b⟩,?_,ho.delBlk k2,hQ _ fun e u he=>?_⟩
 ·unfold pStr pU
  simp only[];rw[hk,uA,hc1,uA];simp only[zA.asSlice,uA,gE];rw[hk2,uA];simp only[];have hm:=zxl hbytes s.length 0 (by simp)
  rw[ybs,ybb (by simp)]at hm
  rw[hm,uA,zdj ha,uA];have e1:(!Nat.blt b (256+fC.n))=true:=by
   cases hq:Nat.blt b (256+fC.n)with
   | true=>
    have h3:=xC.1 hq
    have h1':256+fC.n<=b:=k0
    omega
   | false=>rfl
  rw[e1,fB.2 rfl,xC.2 hpos,tE.2 (yal _),xC.2 (show s.length<1000000000 by omega),fB.2 rfl]
  rfl
 ·have:e≠b:=fun h=>by rw[h,k1]at he;cases he
  rw[Tr.get_del,if_neg this];exact h3 _ _ he
end Go.Proofs
namespace Go.Proofs
open Go Go.Am
variable [fC]
variable {t:Tr rA}
def zfe(date:List Nat)(v:xH):List Nat:=
 if v.kind=1 then(if v.i=1 then [116,114,117,101]else [102,97,108,115,101])
 else if v.kind=2 then aJ (gJ v.f)
 else if v.kind=3 then [109,111,110,101,121,32]++aJ (gJ v.f)
 else if v.kind=4 then date
 else if v.kind=5 then aJ (tJ v.i)++[32,100,97,121,115]
 else if v.kind=6 then aJ (tJ v.i)++[32,109,111,110,116,104,115]
 else []
theorem xX(s:List Nat):(aJ s).length<=s.length+6:=by
 unfold aJ;split
 ·rw[yah,yck]
  show 6+(s.length-1)<=_
  omega
 ·omega
theorem zbx{v:xH}(h:tO v=true)(hk:v.kind=2\/v.kind=3):nN v.f=true:=by
 unfold tO at h;rw[if_pos hk]at h;simp only[yac]at h;have:=h.2
 unfold zf3 at this;simp only[yac]at this;exact this.1.2
theorem zjb{a:xH}{u v:zA}{date:List Nat}(hu:dA t 1 (kE a.f.n.limbs) u)(hv:dA t 1 (kE a.f.d.limbs) v)(hf:xH.fit a)(hp:tO a=true)(hd:a.kind=4->lB yA F 147 [.int .i64 a.i] t=some (.str date)):lB yA F 120 [.agg [.int .u8 a.kind,.bool a.f.n.neg,u,.bool a.f.d.neg,v,.int .i64 a.i]] t=some (.str (zfe date a)):=by
 obtain⟨_,hff,hi1,hi2⟩:=hf
 have hil:=zic hi1 hi2
 have hsl:=xX (tJ a.i)
 have kk:∀j:Int,mA (a.kind:Int) j=decide ((a.kind:Int)=j):=fun j=>tN
 refine oC.2 (w120 _ _ _ _ _ _ ?_)
 simp only[t120,pA,kk];unfold zfe;by_cases k1:a.kind=1
 ·have e:(a.kind:Int)=1:=by omega
  have hb:lB yA F 145 [.bool (mA a.i 1)] t=some (.str (if a.i=1 then [116,114,117,101]else [102,97,108,115,101])):=by
   refine oC.2 (w145 _ ?_)
   have h94:lB yA F 171 [.bool (mA a.i 1)] t=some (.str (if a.i=1 then [116,114,117,101]else [102,97,108,115,101])):=by
    refine oC.2 (w171 _ ?_)
    by_cases h:a.i=1<;>simp[t171,pA,tN,h]
   simp only[t145,pA,q171,h94,sA,zA.asStr];first | exact⟨rfl,rfl⟩ | exact⟨trivial,trivial⟩ | exact⟨rfl,trivial⟩
  simp[e,k1,q145,hb,zA.asStr]
 have e1:¬ (a.kind:Int)=1:=by omega
 by_cases k2:a.kind=2
 ·have e:(a.kind:Int)=2:=by omega
  simp[e,k2,q146,zd3 hu hv hff (zbx hp (.inl k2)),zA.asStr]
 have e2:¬ (a.kind:Int)=2:=by omega
 by_cases k3:a.kind=3
 ·have e:(a.kind:Int)=3:=by omega
  have hl:=zd4 hff (zbx hp (.inr k3))
  have hl2:=xX (gJ a.f)
  have:=sL (a:=[109,111,110,101,121,32]) (b:=aJ (gJ a.f)) (by simp;omega)
  simp[e,k3,q146,zd3 hu hv hff (zbx hp (.inr k3)),zA.asStr,this]
 have e3:¬ (a.kind:Int)=3:=by omega
 by_cases k4:a.kind=4
 ·have e:(a.kind:Int)=4:=by omega
  simp[e,k4,q147,hd k4,zA.asStr]
 have e4:¬ (a.kind:Int)=4:=by omega
 by_cases k5:a.kind=5
 ·have e:(a.kind:Int)=5:=by omega
  have:=sL (a:=aJ (tJ a.i)) (b:=[32,100,97,121,115]) (by simp;omega)
  simp[e,k5,q148,zgj hi1 hi2,zA.asStr,this]
 have e5:¬ (a.kind:Int)=5:=by omega
 by_cases k6:a.kind=6
 ·have e:(a.kind:Int)=6:=by omega
  have:=sL (a:=aJ (tJ a.i)) (b:=[32,109,111,110,116,104,115]) (by simp;omega)
  simp[e,k6,q148,zgj hi1 hi2,zA.asStr,this]
 have e6:¬ (a.kind:Int)=6:=by omega
 simp[e1,e2,e3,e4,e5,e6,k1,k2,k3,k4,k5,k6]
end Go.Proofs
