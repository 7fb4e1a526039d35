/- commonDivisor. -/
import Derived.Test.YtfijloeeppcipaaGreatDoorH21
set_option linter.all false
noncomputable section
set_option maxRecDepth 100000
namespace Go.Proofs
open Go Go.Am
variable [sC]
variable {t:Tr rA}
def zL{c:Prop}{d:Decidable c}{P Q:Prop}(h:c)(k:P):@ite Prop c d P Q:=by rw[yab h];exact k
def ite_no{c:Prop}{d:Decidable c}{P Q:Prop}(h:¬ c)(k:Q):@ite Prop c d P Q:=by rw[yaa h];exact k
def zow{Q:bB}:∀(y x:Nat),x<18446744073709551616->y<18446744073709551616->(∀t' r rv,dA t t'->jA t' 1 (pB .u32 r) rv->tB BB r->norm r->val BB r=Nat.gcd x y->Q rv t')->jp 226 6 [.int .u64 (x:Int),.int .u64 (y:Int)] t Q:=by
 have hBB:=jK
 intro y;induction y using Nat.strongRecOn with
 | ind y ih=>
  intro x hx hy hQ;refine j226_6 _ _ ?_
  simp only[z6h,pA,zh8];by_cases h0:y=0
  ·subst h0
   rw[yaa (by simp)]
   simp only[q241];refine z22 hx fun t' v' h1 h2=>?_
   have a1:=zmg hx
   have a2:=zst x
   rw[<- hBB]at a1 a2;exact hQ t' (zfv x) v' h1 h2 a1 (zn4 x) (by rw[a2,Nat.gcd_zero_right])
  ·rw[yab (by omega),eW (by omega),tA,qB,tA]
   have hm:=ycy x (show 0<y by omega)
   have hg:=z9w (x:=x) (y:=y)
   generalize x%y=z at *
   exact ih z hm y hy (by omega) fun t' r rv k1 k2 k3 k4 k5=>hQ t' r rv k1 k2 k3 k4 (by rw[k5,hg])
def zyp{l:List Nat}{v:zA}(hv:jA t 1 (pB .u32 l) v)(hl:l.length<=2)(hlt:tB BB l):xC yA F 240 [v] t=some (.int .u64 ((val BB l:Nat):Int)):=by
 have hBB:=jK
 rw[hBB]at hlt ⊢
 exact z87 hv hl hlt
def z1c{la lb:List Nat}{pa pb:zA}{Q:bB}(ha:jA t 1 (pB .u32 la) pa)(hb:jA t 1 (pB .u32 lb) pb)(hal:tB BB la)(hbl:tB BB lb)(hla:la.length<=2)(hlb:lb.length<=2)
  (hQ:∀t' r rv,dA t t'->jA t' 1 (pB .u32 r) rv->tB BB r->norm r->val BB r=Nat.gcd (val BB la) (val BB lb)->Q rv t'):jp 226 33 [pa,pb] t Q:=by
 have hBB:=jK
 have b1:=zjr fG hal hla
 have b2:=zjr fG hbl hlb
 refine z9k _ _ ?_
 simp only[zws,pA,q240,zyp ha hla hal,zyp hb hlb hbl,tA,qB];rw[hBB]at b1 b2;have hBB':∀l,val 4294967296 l=val BB l:=fun l=>by rw[hBB]
 rw[hBB']at b1 b2;exact zow _ _ b1 b2 hQ
def z1d{Q:bB}{t0:Tr rA}{G:Nat}(hQ:∀t' r rv,dA t0 t'->jA t' 1 (pB .u32 r) rv->tB BB r->norm r->val BB r=G->Q rv t'):∀(n:Nat) (la lb:List Nat) (pa pb:zA) (t:Tr rA),val BB la+val BB lb=n->dA t0 t->jA t 1 (pB .u32 la) pa->jA t 1 (pB .u32 lb) pb->tB BB la->tB BB lb->norm la->norm lb->val BB lb<=val BB la->la.length<700000->Nat.gcd (val BB la) (val BB lb)=G->jp 226 2 [pa,pb] t Q:=by
 have hBB:=jK
 have hB1:1<BB:=by omega
 intro n;induction n using Nat.strongRecOn with
 | ind n ih=>
  intro la lb pa pb t hn ht ha hb hal hbl han hbn hle hlen hg;have hlb:lb.length<=la.length:=tO hB1 hal hbn hle
  refine j226_2 _ _ ?_
  simp only[z6i,pA,hb.len,tA,qB,iE,zD];by_cases h2:2<lb.length
  ·rw[yab (by omega)]
   have hb0:lb≠[]:=by intro e;subst e;simp at h2
   have hbpos:0<val BB lb:=by
    rcases yav (val BB lb)with h | h
    ·exact absurd (aX fG hbn h) hb0
    ·exact h
   obtain⟨m,hm⟩:∃m,la.length=m+3:=⟨la.length-3,by omega⟩
   obtain⟨top,htop⟩:=getElem?_of_lt (l:=la) (i:=m+2) (by omega)
   have ha0:la≠[]:=by intro e;subst e;simp at hm
   have ht0:0<top:=by
    have:=han ha0
    have hlast:la.getLast ha0=top:=by
     rw[List.getLast_eq_getElem];have:la[la.length-1]?=some top:=by rw[hm];exact htop
     rw[ybd (by omega)]at this
     exact yci this
    rw[hlast]at this;omega
   rw[q237];refine zni ha hb hal hbl hm (by omega) (by omega) htop ht0 hle fun u0 u1 v0 v1 ev W hW hA hB hL=>?_
   have eG:kK [(.int .u64 0),(.int .u64 0),(.int .u64 0),(.int .u64 0),(.bool false)] (.agg [.int .u64 (u0:Int),.int .u64 (u1:Int),.int .u64 (v0:Int),.int .u64 (v1:Int),.bool ev])=some (cellsOf [.int .u64 (u0:Int),.int .u64 (u1:Int),.int .u64 (v0:Int),.int .u64 (v1:Int),.bool ev]):=sQ rfl
   rw[eG];simp only[tA,cellsOf,zzt,wR,yaz,yba,if_true,wW];by_cases hv0:v0=0
   ·refine zL (gH.2 (by omega)) ?_
    rw[q238];refine zlq ha hb hlen hal hbl han hbn hb0 fun t' q r qv rv k1 k2 k3 k4 k5 k6 k7 k8 k9=>?_
    simp only[rB,zA.asTup,uA,iF,yaz,yba,tA];refine ih (val BB lb+val BB r) (by omega) lb r pb rv t' rfl (ht.trans k1) (hb.mono k1) k3 hbl k5 hbn k7 (by omega) (by omega) ?_
    rw[zz6 k8];exact hg
   ·refine ite_no (fun e=>absurd (gH.1 e) (by omega)) ?_
    rcases hL with h | hL
    ·exact absurd h hv0
    obtain⟨s1,s2,s3,s4⟩:=zpo hA hB hL
    have eA:val BB la=W*(val BB la / W)+val BB la%W:=(ych _ _).symm
    have eB:val BB lb=W*(val BB lb / W)+val BB lb%W:=(ych _ _).symm
    obtain⟨X,Y,l1,l2,l3,l4,l5,l6⟩:=lehmer eA eB (ycy _ hW) (ycy _ hW) hL
    have hgg:=zz5 l1 l2 l4 l5
    have hXA:X<=val BB la:=by
     have:X<=v1*X:=yan _ (by
      obtain⟨x,y,_,_,_,_,_,_,w2,w3⟩:=hL;omega)
     omega
    cases ev with
    | true=>
     obtain⟨m1,m2⟩:=l1 rfl
     simp only[if_true];rw[q239];refine lY ha hb hal hbl s1 s3 hlen (by omega) (by omega) fun t1 r1 rv1 k1 k2 k3 k4 k5=>?_
     rw[q239];refine lY (hb.mono k1) (ha.mono k1) hbl hal s4 s2 (by omega) hlen (by omega) fun t2 r2 rv2 j1 j2 j3 j4 j5=>?_
     have e1:val BB r1=X:=by omega
     have e2:val BB r2=Y:=by omega
     refine ih (val BB r1+val BB r2) (by omega) r1 r2 rv1 rv2 t2 rfl (ht.trans (k1.trans j1)) (k2.mono j1) j2 k3 j3 k4 j4 (by omega) ?_ (by rw[e1,e2,hgg];exact hg)
     have:=tO hB1 hal k4 (by rw[e1];exact hXA)
     omega
    | false=>
     obtain⟨m1,m2⟩:=l2 rfl
     simp only[if_true,ybq,if_false];rw[q239];refine lY hb ha hbl hal s3 s1 (by omega) hlen (by omega) fun t1 r1 rv1 k1 k2 k3 k4 k5=>?_
     rw[q239];refine lY (ha.mono k1) (hb.mono k1) hal hbl s2 s4 hlen (by omega) (by omega) fun t2 r2 rv2 j1 j2 j3 j4 j5=>?_
     have e1:val BB r1=X:=by omega
     have e2:val BB r2=Y:=by omega
     refine ih (val BB r1+val BB r2) (by omega) r1 r2 rv1 rv2 t2 rfl (ht.trans (k1.trans j1)) (k2.mono j1) j2 k3 j3 k4 j4 (by omega) ?_ (by rw[e1,e2,hgg];exact hg)
     have:=tO hB1 hal k4 (by rw[e1];exact hXA)
     omega
  ·rw[yaa (by omega)]
   simp only[gH];by_cases h0:lb.length=0
   ·rw[yab (by omega)]
    have:lb=[]:=ycc.1 h0
    subst this;refine hQ t la pa ht ha hal han ?_
    rw[<- hg];simp only[val];rw[Nat.gcd_zero_right]
   ·rw[yaa (by omega)]
    simp only[ha.len,tA,qB,iE,zD];have hb0:lb≠[]:=by intro e;subst e;simp at h0
    by_cases h3:2<la.length
    ·rw[yab (by omega),q238]
     refine zlq ha hb hlen hal hbl han hbn hb0 fun t' q r qv rv k1 k2 k3 k4 k5 k6 k7 k8 k9=>?_
     simp only[rB,zA.asTup,uA,iF,yaz,yba,tA];have:=tO hB1 hbl k7 (Nat.le_of_lt k9)
     refine z1c (hb.mono k1) k3 hbl k5 (by omega) (by omega) fun t2 r2 rv2 j1 j2 j3 j4 j5=>?_
     exact hQ t2 r2 rv2 (ht.trans (k1.trans j1)) j2 j3 j4 (by rw[j5,zz6 k8];exact hg)
    ·rw[yaa (by omega)]
     refine z1c ha hb hal hbl (by omega) (by omega) fun t2 r2 rv2 j1 j2 j3 j4 j5=>?_
     exact hQ t2 r2 rv2 (ht.trans j1) j2 j3 j4 (by rw[j5];exact hg)
def cd_ok{la lb:List Nat}{pa pb:zA}{Q:bB}(ha:jA t 1 (pB .u32 la) pa)(hb:jA t 1 (pB .u32 lb) pb)(hal:tB BB la)(hbl:tB BB lb)(han:norm la)(hbn:norm lb)(hla:la.length<700000)(hlb:lb.length<700000)
  (hQ:∀t' r rv,dA t t'->jA t' 1 (pB .u32 r) rv->tB BB r->norm r->val BB r=Nat.gcd (val BB la) (val BB lb)->Q rv t'):Wc yA F 226 [pa,pb] t Q:=by
 have hBB:=jK
 have hB1:1<BB:=by omega
 have hlt:=z08 hB1 hal hbl han hbn
 refine w226 _ _ ?_
 simp only[t226,pA,q236,z7n (by omega) ha hb,tA,qB,zD]
 by_cases hc:iJ la lb<0
 ·rw[yab hc]
  have:=hlt.1 hc
  exact z1d hQ _ lb la pb pa t rfl (dA.refl _) hb ha hbl hal hbn han (by omega) hlb (Nat.gcd_comm _ _)
 ·rw[yaa hc]
  have:val BB lb<=val BB la:=Nat.le_of_not_lt fun h=>hc (hlt.2 h)
  exact z1d hQ _ la lb pa pb t rfl (dA.refl _) ha hb hal hbl han hbn this hla rfl
end Go.Proofs
namespace Go.Proofs
open Go Go.Am
variable [sC]
variable {t:Tr rA}
def zag{neg:Bool}{l:List Nat}(h:qJ neg l=true):norm l:=by
 intro hne;unfold qJ at h;rw[yaa hne,ybb]at h;have:=of_decide_eq_true h.2
 intro e;exact this (by rw[List.getLast?_eq_some_getLast hne,e])
def zi5{l:List bH}{v:zA}(hv:jA t 2 (l.map bH.d) v)(hb:∀w∈l,w.limbs.length<1125899906842624)(hn:l.length<1125899906842624):∀(k i:Nat),i+k=l.length->jp 224 2 [v,.int .i64 (l.length:Int),.int .i64 (i:Int)] t (fun r m=>r=.bool ((l.drop i).all fun w=>qJ w.neg w.limbs)/\m=t):=by
 intro k;induction k with
 | zero=>
  intro i hi;refine z67 _ _ _ ?_
  simp only[zwu,pA,zD];rw[yaa (by omega),ybt (by omega)]
  (first | exact⟨rfl,rfl⟩ | exact⟨rfl,trivial⟩ | trivial)
 | succ k ih=>
  intro i hi;have hlt:i<l.length:=by omega
  have hx:l[i]?=some l[i]:=ybd hlt
  obtain⟨b,off,cs,g1,g2,_,_,g5⟩:=yF.at sl279 (by simp) hv (i:=i) (d:=l[i].d) (by simp[hx])
  obtain⟨u,rfl,hu⟩:=cU g5
  have hv1:=zb0 (neg:=l[i].neg) (hb _ (ycj hlt)) hu
  refine z67 _ _ _ ?_
  simp only[zwu,pA,zD];rw[yab (by omega),g1,tA,g2,oP,tA,dH g5 (bH.zs _)]
  simp only[tA,cellsOf,wR,zji,yaz,yba];have hone:tC zA.one [.bool l[i].neg,u]=true:=by
   show(bif zA.one (.bool l[i].neg)then(bif zA.one u then true else false)else false)=true
   rw[hu.one];rfl
  refine zL hone ?_
  rw[q187,hv1];simp only[tA,sU,zh9];rw[ybl hlt,ycg]
  cases hq:qJ l[i].neg l[i].limbs with
  | false=>simp
  | true=>
   simp only[ycn,Bool.true_eq_false,if_false];rw[wrap_i64 (by omega) (by omega)]
   exact ih (i+1) (by omega)
def zpl{l:List bH}{v:zA}(hv:jA t 2 (l.map bH.d) v)(hb:∀w∈l,w.limbs.length<1125899906842624)(hn:l.length<1125899906842624):xC yA F 224 [v] t=some (.bool (l.all fun w=>qJ w.neg w.limbs)):=by
 refine bC.2 (w224 _ ?_)
 simp only[t224,pA,hv.len,tA,qB,ybf];have:=zi5 hv hb hn l.length 0 (by omega)
 rw[ycr]at this;exact this
def gcd_ok{n d:bH}{u v:zA}{Q:bB}(hu:jA t 1 (fD n.limbs) u)(hv:jA t 1 (fD d.limbs) v)(hn:n.limbs.length<700000)(hd:d.limbs.length<700000)(hnl:tB 65536 n.limbs)(hdl:tB 65536 d.limbs)(hnv:qJ n.neg n.limbs=true)(hdv:qJ d.neg d.limbs=true)
  (hQ:∀t' g rv,dA t t'->jA t' 1 (fD g) rv->tB 65536 g->norm g->val 65536 g=Nat.gcd (val 65536 n.limbs) (val 65536 d.limbs)->Q (.tup [.agg [.bool false,rv],.int .i64 0]) t'):Wc yA F 210 [.agg [.bool n.neg,u],.agg [.bool d.neg,v]] t Q:=by
 have hBB:=jK
 refine w210 _ _ _ _ ?_
 simp only[t210,pA];intro b hb hbase;obtain⟨t1,g1,g2,g3,g4⟩:=zkv (C:=yA) (T:=279) (el:=29) (sz:=2) (n:=2) (cl:=[[.bool n.neg,u],[.bool d.neg,v]]) (ps:=[(0,.agg [.bool n.neg,u]),(1,.agg [.bool d.neg,v])]) ty279 rfl ty29 rfl rfl (by decide) rfl (fun i cs hi=>by
  rcases i with _ | _ | i
  ·simp at hi;subst hi;rfl
  ·simp at hi;subst hi;rfl
  ·simp at hi) rfl hb
 rw[g1,tA];have hw:jA t1 2 ([n,d].map bH.d) (.slice b 0 2 2):=⟨_,g2,by
  simp only[ycm,List.map_nil,xF,mH];refine⟨_,_,rfl,?_,_,_,rfl,?_,rfl⟩
  ·unfold bH.d
   rw[sI];refine⟨[[.bool n.neg],[u]],rfl,?_⟩
   simp only[xF,mH,dS,xK];exact⟨_,_,rfl,rfl,_,_,rfl,⟨u,rfl,hu.mono g3⟩,rfl⟩
  ·unfold bH.d
   rw[sI];refine⟨[[.bool d.neg],[v]],rfl,?_⟩
   simp only[xF,mH,dS,xK];exact⟨_,_,rfl,rfl,_,_,rfl,⟨v,rfl,hv.mono g3⟩,rfl⟩⟩
 have hall:=zpl hw (fun w hw=>by
  rcases ybs.1 hw with rfl | hw
  ·omega
  ·rw[ydd.1 hw];omega) (by simp)
 rw[q224,hall];simp only[tA,sU,zh9,ycg,yck,hnv,hdv,Bool.and_self,Bool.true_eq_false,if_false];rw[q190];refine zny (hu.mono g3) (by omega) hnl fun t2 v2 k1 k2=>?_
 rw[yab hv.same,q190];refine zny ((hv.mono g3).mono k1) (by omega) hdl fun t3 v3 m1 m2=>?_
 have an:=xX hnl
 have ad:=xX hdl
 rw[<- hBB]at an ad;rw[q226];refine cd_ok (k2.mono m1) m2 an ad (bX (zag hnv)) (bX (zag hdv)) (by rw[gN];omega) (by rw[gN];omega) fun t4 r rv p1 p2 p3 p4 p5=>?_
 rw[hBB]at p3;have vn:∀l,val BB (nF l)=val 65536 l:=fun l=>by rw[hBB];exact zcu l
 rw[vn,vn]at p5;have hrl:r.length<400000:=by
  have hB1:1<BB:=by omega
  rcases yav (val 65536 n.limbs)with h0 | h0
  ·rw[h0,Nat.gcd_zero_left,<- vn]at p5
   have:=tO hB1 ad p4 (Nat.le_of_eq p5)
   rw[gN]at this;omega
  ·have h1:=Nat.gcd_le_left (val 65536 d.limbs) h0
   rw[<- p5,<- vn]at h1;have:=tO hB1 an p4 h1
   rw[gN]at this;omega
 rw[q225];refine zvv p2 hrl p3 fun t5 v5 s1 s2=>?_
 rw[bV p4]at s2 ⊢
 have eG:kK [(.bool false),.nilslice] (.agg [.bool (if r=[]then false else false),v5])=some (cellsOf [.bool (if r=[]then false else false),v5]):=sQ (by
  show(true&&(zve .nilslice v5&&true))=true
  rw[qV s2];rfl)
 rw[eG];have hone:tC zA.one [.bool false,v5]=true:=by
  show(bif zA.one (.bool false)then(bif zA.one v5 then true else false)else false)=true
  rw[s2.one];rfl
 simp only[tA,cellsOf,wR,zji,yaz,yba,ite_self,hone,if_true];refine hQ t5 (mE (rG r)) v5 (g3.trans (k1.trans (m1.trans (p1.trans s1)))) s2 (tQ (zat p3)) (gP _) ?_
 rw[fM,<- p5,zct,hBB]
end Go.Proofs
namespace Go.Am
def qE.fit(f:qE):Prop:=f.ok/\tB 65536 f.n.limbs/\tB 65536 f.d.limbs
def sF.fit(v:sF):Prop:=v.kind<256/\v.f.fit /\ -9223372036854775808<=v.i/\v.i<9223372036854775808
mutual
def qA.fit:qA->Prop
 | .mk op name v args=>op<256/\name.length<lD/\(∀c∈name,c<256)/\v.fit/\args.length<lD/\qA.fits args
def qA.fits:List qA->Prop
 | []=>True
 | x::l=>x.fit/\qA.fits l
end
def qA.fits_mem:∀ {l:List qA},qA.fits l->∀x∈l,x.fit
 | [],_,_,h=>by cases h
 | y::l,h,x,hx=>by
  unfold qA.fits at h;rcases ybs.1 hx with rfl | hx
  ·exact h.1
  ·exact qA.fits_mem h.2 x hx
mutual
def qA.fit_ok:∀ {x:qA},x.fit->x.ok
 | .mk op name v args,h=>by
  unfold qA.fit at h;unfold qA.ok;exact⟨h.2.1,h.2.2.2.1.2.1.1,h.2.2.2.2.1,qA.fits_oks h.2.2.2.2.2⟩
def qA.fits_oks:∀ {l:List qA},qA.fits l->qA.oks l
 | [],_=>by unfold qA.oks;trivial
 | x::l,h=>by
  unfold qA.fits at h;unfold qA.oks;exact⟨qA.fit_ok h.1,qA.fits_oks h.2⟩
end
def i64 (n:Int):Prop := -9223372036854775808<=n/\n<9223372036854775808
def zmr.fit(r:zmr):Prop:=i64 r.a/\i64 r.b/\i64 r.known/\r.f.fit
def wH.fit(x:wH):Prop:=x.name.length<lD/\x.rows.length<lD/\∀r∈x.rows,r.fit
def tI.fit(x:tI):Prop:=x.name.length<lD/\x.kind<256
def aH.fit(x:aH):Prop:=x.name.length<lD/\x.label.length<lD/\i64 x.from_/\i64 x.to/\i64 x.known/\x.when_.fit/\x.then_.fit
structure rE.fit (p:rE):Prop where
 name:p.name.length<lD
 ndefs:p.defs.length<lD
 ntables:p.tables.length<lD
 nclauses:p.clauses.length<lD
 defs:∀d∈p.defs,d.fit
 tables:∀d∈p.tables,d.fit
 clauses:∀d∈p.clauses,d.fit
end Go.Am
namespace Go.Proofs
open Go Go.Am
variable [sC]
variable {t:Tr rA}
def sameW(a b:bH):Bool:=(a.neg == b.neg)&&decide (a.limbs=b.limbs)
def sameF(a b:qE):Bool:=sameW a.n b.n&&sameW a.d b.d
def sameV(a b:sF):Bool:=decide (a.kind=b.kind)&&decide (a.i=b.i)&&sameF a.f b.f
def zgm(w:bH):Bool := !w.neg&&decide (w.limbs=[1])
def mN(f:qE):Bool:=decide (f.n.limbs.length<=256)&&decide (f.d.limbs.length<=256)&&qJ f.n.neg f.n.limbs&&qJ f.d.neg f.d.limbs && !f.d.neg&&decide (f.d.limbs≠[])&&(zgm f.d||decide (Nat.gcd (val 65536 f.n.limbs) (val 65536 f.d.limbs)=1))
def iLt_b{a b:Int}:vC a b=decide (a<b):=by
 cases h:vC a b with
 | true=>rw[decide_eq_true (zD.1 h)]
 | false=>rw[decide_eq_false (fun k=>by rw[zD.2 k]at h;cases h)]
def z4i{a b:Int}:nC a b=decide (a<=b):=by
 cases h:nC a b with
 | true=>rw[decide_eq_true (yG.1 h)]
 | false=>rw[decide_eq_false (fun k=>by rw[yG.2 k]at h;cases h)]
def sN{a b:Int}:lA a b=decide (a=b):=by
 cases h:lA a b with
 | true=>rw[decide_eq_true (gH.1 h)]
 | false=>rw[decide_eq_false (fun k=>by rw[gH.2 k]at h;cases h)]
def zhk{f:qE}{u v:zA}(hu:jA t 1 (fD f.n.limbs) u)(hv:jA t 1 (fD f.d.limbs) v)(hf:qE.fit f):xC yA F 166 [.agg [.bool f.n.neg,u,.bool f.d.neg,v]] t=some (.bool (mN f)):=by
 obtain⟨h1,h2,h3⟩:=hf
 unfold qE.ok lD at h1;have c1:xC yA F 186 [.agg [.bool f.n.neg,u,.bool f.d.neg,v]] t=some (.bool (!(decide (f.n.limbs.length<=256)&&decide (f.d.limbs.length<=256)))):=by
  refine bC.2 (w186 _ _ _ _ ?_)
  simp only[t186,pA,hu.len,hv.len,tA,qB,oV];have e:vC 256 (f.d.limbs.length:Int) = !decide (f.d.limbs.length<=256):=by
   rw[iLt_b,<- decide_not];congr 1;exact propext ⟨by omega,by omega⟩
  by_cases g1:f.n.limbs.length<=256
  ·rw[yaa (fun h=>absurd (zD.1 h) (by omega)),e]
   simp[g1]
  ·rw[yab (zD.2 (by omega))];simp[g1]
 have c2:=zb0 (neg:=f.n.neg) (by omega) hu
 have c3:=zb0 (neg:=f.d.neg) (by omega) hv
 have c4:xC yA F 168 [.agg [.bool f.n.neg,u,.bool f.d.neg,v]] t=some (.bool (zgm f.d)):=by
  refine bC.2 (w168 _ _ _ _ ?_)
  simp only[t168,pA,q188,zii hv,tA,sU]; (first | exact⟨rfl,rfl⟩ | exact⟨rfl,trivial⟩ | trivial)
 refine jN (w166 _ _ _ _ ?_)
 simp only[t166,pA,q186,c1,q187,c2,c3,q168,c4,tA,sU,hv.len,qB,oV,gH,zh9];unfold mN;by_cases g1:f.n.limbs.length<=256
 ·by_cases g2:f.d.limbs.length<=256
  ·simp only[g1,g2,decide_true,ycn,Bool.not_true,ybq,if_false]
   cases hn:qJ f.n.neg f.n.limbs with
   | false=>simp
   | true=>
    cases hd:qJ f.d.neg f.d.limbs with
    | false=>simp
    | true=>
     simp only[Bool.true_eq_false,if_false,ycn]
     cases hg:f.d.neg with
     | true=>simp
     | false=>
      simp only[ybq,if_false,ycl,ycn];by_cases h0:f.d.limbs=[]
      ·rw[yab (by rw[h0];rfl)];simp[h0]
      ·have:f.d.limbs.length≠0:=fun e=>h0 (ycc.1 e)
       rw[yaa (by omega)]
       simp only[h0,ne_eq,not_false_eq_true,decide_true,ycn]
       cases ho:zgm f.d with
       | true=>simp
       | false=>
        simp only[ybq,if_false,Bool.false_or];rw[q189];refine w189 _ _ _ _ ?_
        simp only[t189,pA,q210];have hn':=hn
        have hd':=hd
        rw[hg]at hd'
        refine gcd_ok (n:=f.n) (d:=⟨false,f.d.limbs⟩) hu hv (by omega) (by show f.d.limbs.length<_;omega) h2 h3 hn' hd' fun t' g rv k1 k2 k3 k4 k5=>?_
        have eG:kK [(.bool false),.nilslice] (.agg [.bool false,rv])=some (cellsOf [.bool false,rv]):=sQ (by
         show(true&&(zve .nilslice rv&&true))=true
         rw[qV k2];rfl)
        have hone:tC zA.one [.bool false,rv]=true:=by
         show(bif zA.one (.bool false)then(bif zA.one rv then true else false)else false)=true
         rw[k2.one];rfl
        simp only[rB,zA.asTup,uA,iF,yaz,yba,tA,qB,eG,cellsOf,wR,zji,hone,if_true];rw[q188,zii k2];simp only[tA,sU,ycl,ycn]
        refine⟨?_,k1⟩
        congr 1
        rw[decide_eq_decide,<- k5];constructor
        ·intro e;subst e;rfl
        ·intro e
         exact z3r (B:=65536) (by decide) k3 (fun x hx=>by rw[ydd.1 hx];decide) k4 (fun _=>by simp) (by rw[e];rfl)
  ·simp[g2]
 ·simp[g1]
def zjh{f:qE}{u v:zA}(hu:jA t 1 (fD f.n.limbs) u)(hv:jA t 1 (fD f.d.limbs) v)(hf:qE.fit f):xC yA F 141 [.agg [.bool f.n.neg,u,.bool f.d.neg,v]] t=some (.bool (mN f)):=by
 refine bC.2 (w141 _ _ _ _ ?_)
 simp only[t141,pA,q166,zhk hu hv hf,tA,sU,if_true];exact⟨trivial,trivial⟩
end Go.Proofs
namespace Go.Proofs
open Go Go.Am
variable [sC]
variable {t:Tr rA}
def sL{a b:List Nat}(h:a.length+b.length<4611686018427387904):nJ a b=some (.str (a++b)):=by
 unfold nJ;rw[gC,gC,kB.2 h,nG];rfl
def zqc{s:List Nat}{k:Nat}(h:k<=s.length):vG yA 9 H0A (.str s) (some (.int .i64 (k:Int))) none=some (.str (s.drop k)):=by
 unfold vG rK;rw[ty9,uA];simp only[zA.asStr];rw[show nD.isString .string=true from rfl,oD];unfold zb6 nM zes xR;have e:sJ (k:Int)=some k:=rfl
 simp only[uA,zA.asNat,zA.asInt,e,gC,dD.2 h,dD.2 (ybk _),oD,qO,dP,List.take_length]
def zhr{s:List Nat}{k:Nat}(h:k<=s.length):vG yA 9 H0A (.str s) none (some (.int .i64 (k:Int)))=some (.str (s.take k)):=by
 unfold vG rK;rw[ty9,uA];simp only[zA.asStr];rw[show nD.isString .string=true from rfl,oD];unfold zb6 nM zes xR;have e:sJ (k:Int)=some k:=rfl
 simp only[uA,zA.asNat,zA.asInt,e,gC,dD.2 h,dD.2 (yaw _),oD,qO,dP,ycr]
def zom (a b:List Nat):Bool:=decide (b.length<=a.length)&&cF (a.take b.length) b
def zbr{a b:List Nat}:xC yA F 194 [.str a,.str b] t=some (.bool (zom a b)):=by
 refine bC.2 (w194 _ _ ?_)
 simp only[t194,pA,oL,yG];unfold zom;by_cases h:b.length<=a.length
 ·rw[yab (by omega),zhr h,tA]
  simp[zA.asStr,h]
 ·rw[yaa (by omega)]
  simp[h]
def zhj{a b:List Nat}:xC yA F 143 [.str a,.str b] t=some (.str (if zom a b then a.drop b.length else a)):=by
 have h:xC yA F 169 [.str a,.str b] t=some (.str (if zom a b then a.drop b.length else a)):=by
  refine bC.2 (w169 _ _ ?_)
  simp only[t169,pA,q194,zbr,tA,zA.asBool,oL]
  cases hp:zom a b with
  | true=>
   simp only[if_true];have:b.length<=a.length:=by unfold zom at hp;simp at hp;exact hp.1
   rw[zqc this,tA];simp[zA.asStr]
  | false=>simp
 refine bC.2 (w143 _ _ ?_)
 simp only[t143,pA,q169,h,tA,zA.asStr];first | exact⟨rfl,rfl⟩ | exact⟨trivial,trivial⟩ | exact⟨rfl,trivial⟩
def zlv{a b:List Nat}:xC yA F 195 [.str a,.str b] t=some (.tup [.str (if zom a b then a.drop b.length else a),.bool (zom a b)]):=by
 have h:xC yA F 215 [.str a,.str b] t=some (.tup [.str (if zom a b then a.drop b.length else a),.bool (zom a b)]):=by
  refine bC.2 (w215 _ _ ?_)
  simp only[t215,pA,q194,zbr,tA,zA.asBool,oL]
  cases hp:zom a b with
  | true=>
   simp only[Bool.not_true,ybq,if_false];have:b.length<=a.length:=by unfold zom at hp;simp at hp;exact hp.1
   rw[zqc this,tA];simp[zA.asStr]
  | false=>simp
 refine bC.2 (w195 _ _ ?_)
 have x0:∀u v,rB 0 (.tup [u,v])=some u:=fun _ _=>rfl
 have x1:∀u v,rB 1 (.tup [u,v])=some v:=fun _ _=>rfl
 simp only[t195,pA,q215,h,tA,x0,x1,zA.asStr,zA.asBool];first | exact⟨rfl,rfl⟩ | exact⟨trivial,trivial⟩ | exact⟨rfl,trivial⟩
def qK(s:List Nat):List Nat:=if zom s [45]then [109,105,110,117,115,32]++s.drop 1 else s
def zjy{s:List Nat}(h:s.length<4000000000000000000):xC yA F 172 [.str s] t=some (.str (qK s)):=by
 refine bC.2 (w172 _ ?_)
 have x0:∀u v,rB 0 (.tup [u,v])=some u:=fun _ _=>rfl
 have x1:∀u v,rB 1 (.tup [u,v])=some v:=fun _ _=>rfl
 simp only[t172,pA,q195,zlv,tA,x0,x1,zA.asStr,zA.asBool];unfold qK
 cases hp:zom s [45]with
 | true=>
  simp only[if_true];rw[sL (by simp;omega),tA]
  simp[zA.asStr]
 | false=>simp
def z9m{n:Int}(h0 : -9223372036854775808<=n)(h1:n<9223372036854775808):xC yA F 175 [.int .i64 n] t=some (.str (kJ n)):=by
 have hg:yA.prims.get 175=some (pK ztm):=by kernel_rfl
 refine zhy hg fun H=>?_
 unfold ztm;simp only[];rw[yG.2 h0,zD.2 h1];rfl
def zih{n:Int}(h0 : -9223372036854775808<=n)(h1:n<9223372036854775808):(kJ n).length<=21:=by
 by_cases h:n<0
 ·obtain⟨u,rfl⟩:∃u:Nat,n = -(u:Int):=⟨n.natAbs,by omega⟩
  rw[zla (by omega)]
  have:=zen (u:=u) (k:=20) (by decide) (by rw[show(10:Nat)^20=100000000000000000000 by decide];omega)
  simp;omega
 ·obtain⟨u,rfl⟩:∃u:Nat,n=(u:Int):=⟨n.toNat,by omega⟩
  rw[zd5];have:=zen (u:=u) (k:=20) (by decide) (by rw[show(10:Nat)^20=100000000000000000000 by decide];omega)
  omega
def zgn{n:Int}(h0 : -9223372036854775808<=n)(h1:n<9223372036854775808):xC yA F 148 [.int .i64 n] t=some (.str (qK (kJ n))):=by
 have:=zih h0 h1
 refine bC.2 (w148 _ ?_)
 simp only[t148,pA,q175,z9m h0 h1,tA,zA.asStr,q172,zjy (s:=kJ n) (by omega)]
 first | exact⟨rfl,rfl⟩ | exact⟨trivial,trivial⟩ | exact⟨rfl,trivial⟩
def zK(f:qE):List Nat:=zcq f.n.neg f.n.limbs++(if zgm f.d then []else 47::zcq f.d.neg f.d.limbs)
def zo5{u:Nat}:∀ {k:Nat},u<10^k->(tG u).length<=k+1:=by
 intro k h;have:=zen (u:=u) (k:=k+1) (by omega) (by rw[yag];omega)
 exact this
def vX{neg:Bool}{l:List Nat}(hlt:tB 65536 l)(hl:l.length<=1024):(zcq neg l).length<=10000:=by
 unfold zcq intN;have h1:=gK (B:=65536) (by decide) hlt
 have h2:(65536:Nat)^l.length<=10^(5*l.length):=by
  rw[Nat.pow_mul];exact Nat.pow_le_pow_left (by decide) _
 have:=zo5 (u:=val 65536 l) (k:=5*l.length) (by omega)
 rw[ybg];have:(if neg=true then [45]else([]:List Nat)).length<=1:=by cases neg<;>simp
 omega
def zbi{f:qE}(h:mN f=true):qJ f.n.neg f.n.limbs=true/\qJ f.d.neg f.d.limbs=true/\f.n.limbs.length<=1024/\f.d.limbs.length<=1024:=by
 unfold mN at h;simp only[ybb,decide_eq_true_eq]at h;obtain⟨⟨⟨⟨⟨⟨h1,h2⟩,h3⟩,h4⟩,_⟩,_⟩,_⟩:=h
 exact⟨h3,h4,by omega,by omega⟩
def zed{f:qE}(hf:f.fit)(h:mN f=true):(zK f).length<=20001:=by
 obtain⟨_,_,h3,h4⟩:=zbi h
 have a:=vX (neg:=f.n.neg) hf.2.1 h3
 have b:=vX (neg:=f.d.neg) hf.2.2 h4
 unfold zK;rw[ybg];split
 ·simp;omega
 ·simp;omega
def zeb{f:qE}{u v:zA}(hu:jA t 1 (fD f.n.limbs) u)(hv:jA t 1 (fD f.d.limbs) v)(hf:qE.fit f):xC yA F 142 [.agg [.bool f.n.neg,u,.bool f.d.neg,v]] t=some (if mN f then .tup [.str (zK f),.int .i64 0]else .tup [.str [],.int .i64 2]):=by
 refine bC.2 (w142 _ _ _ _ ?_)
 have x0:∀u v,rB 0 (.tup [u,v])=some u:=fun _ _=>rfl
 have x1:∀u v,rB 1 (.tup [u,v])=some v:=fun _ _=>rfl
 simp only[t142,pA,q141,zjh hu hv hf,tA,zA.asBool]
 cases hval:mN f with
 | false=>simp
 | true=>
  obtain⟨h1,h2,h3,h4⟩:=zbi hval
  have a:=vX (neg:=f.n.neg) hf.2.1 h3
  have b:=vX (neg:=f.d.neg) hf.2.2 h4
  have c1:xC yA F 168 [.agg [.bool f.n.neg,u,.bool f.d.neg,v]] t=some (.bool (zgm f.d)):=by
   refine bC.2 (w168 _ _ _ _ ?_)
   simp only[t168,pA,q188,zii hv,tA,zA.asBool];first | exact⟨rfl,rfl⟩ | exact⟨trivial,trivial⟩ | exact⟨rfl,trivial⟩
  simp only[Bool.not_true,ybq,if_false,q167,zwa hu hf.2.1 h1,tA,x0,x1,zA.asStr,qB,if_true,q168,c1,zA.asBool];unfold zK
  cases hone:zgm f.d with
  | true=>simp
  | false=>
   simp only[ycl,if_true,zwa hv hf.2.2 h2,tA,x0,x1,zA.asStr,qB];rw[sL (by simp;omega),tA]
   simp only[zA.asStr,tA];rw[sL (by simp;omega),tA]
   simp[zA.asStr]
def zec{f:qE}{u v:zA}(hu:jA t 1 (fD f.n.limbs) u)(hv:jA t 1 (fD f.d.limbs) v)(hf:qE.fit f)(hval:mN f=true):xC yA F 146 [.agg [.bool f.n.neg,u,.bool f.d.neg,v]] t=some (.str (qK (zK f))):=by
 have:=zed hf hval
 refine bC.2 (w146 _ _ _ _ ?_)
 have x0:∀u v,rB 0 (.tup [u,v])=some u:=fun _ _=>rfl
 have x1:∀u v,rB 1 (.tup [u,v])=some v:=fun _ _=>rfl
 simp only[t146,pA,q142,zeb hu hv hf,hval,if_true,tA,x0,x1,zA.asStr,qB,q172,zjy (s:=zK f) (by omega)]
 first | exact⟨rfl,rfl⟩ | exact⟨trivial,trivial⟩ | exact⟨rfl,trivial⟩
def zqs(f:qE):Bool:=decide (f.n.limbs.length<=42)&&decide (f.d.limbs.length<=42)&&mN f&&decide ((if zom (zK f) [45]then(zK f).drop 1 else zK f).length<=200)
def zby{f:qE}{u v:zA}(hu:jA t 1 (fD f.n.limbs) u)(hv:jA t 1 (fD f.d.limbs) v)(hf:qE.fit f):xC yA F 115 [.agg [.bool f.n.neg,u,.bool f.d.neg,v]] t=some (.bool (zqs f)):=by
 refine bC.2 (w115 _ _ _ _ ?_)
 have x0:∀u v,rB 0 (.tup [u,v])=some u:=fun _ _=>rfl
 have x1:∀u v,rB 1 (.tup [u,v])=some v:=fun _ _=>rfl
 simp only[t115,pA,hu.len,hv.len,oV,tA,qB,zD];unfold zqs;by_cases h1:f.n.limbs.length<=42
 ·rw[yaa (by omega)]
  by_cases h2:f.d.limbs.length<=42
  ·rw[yaa (by omega)]
   simp only[q141,zjh hu hv hf,tA,zA.asBool]
   cases hval:mN f with
   | false=>simp
   | true=>
    simp only[Bool.not_true,ybq,if_false,q142,zeb hu hv hf,hval,if_true,tA,x0,x1,zA.asStr,qB,gH,q143,zhj,oL];simp[h1,h2,z4i]
    constructor<;>intro h<;>omega
  ·rw[yab (by omega)];simp[h2]
 ·rw[yab (by omega)];simp[h1]
def ze5(f:qE):Bool := !f.n.neg && !f.d.neg&&decide (f.n.limbs.length+f.d.limbs.length=0)
def zcm{f:qE}{u v:zA}(hu:jA t 1 (fD f.n.limbs) u)(hv:jA t 1 (fD f.d.limbs) v)(hf:f.ok):xC yA F 116 [.agg [.bool f.n.neg,u,.bool f.d.neg,v]] t=some (.bool (ze5 f)):=by
 unfold qE.ok lD at hf;refine bC.2 (w116 _ _ _ _ ?_)
 simp only[t116,pA,hu.len,hv.len,oV,tA,qB];unfold ze5;rw[wrap_i64 (by omega) (by omega),sN]
 have e:decide ((f.n.limbs.length:Int)+(f.d.limbs.length:Int)=0)=decide (f.n.limbs.length+f.d.limbs.length=0):=by
  by_cases h:f.n.limbs.length+f.d.limbs.length=0
  ·rw[decide_eq_true h,decide_eq_true (by omega)]
  ·rw[decide_eq_false h,decide_eq_false (by omega)]
 rw[e]
 cases f.n.neg<;>cases f.d.neg<;>simp
def z4d{n:Int}:xC yA F 117 [.int .i64 n] t=some (.bool (decide (0<=n)&&decide (n<65536))):=by
 refine bC.2 (w117 _ ?_)
 simp only[t117,pA,yG];by_cases h:0<=n
 ·rw[yab h];simp[h,iLt_b]
 ·rw[yaa h];simp[h]
def vO(v:sF):Bool:=
 if v.kind=2\/v.kind=3 then decide (v.i=0)&&zqs v.f
 else if v.kind=1 then ze5 v.f&&(decide (v.i=0)||decide (v.i=1))
 else if v.kind=4 then ze5 v.f&&(decide (0<=v.i)&&decide (v.i<65536))
 else if v.kind=5\/v.kind=6 then ze5 v.f&&(decide (-1048576<=v.i)&&decide (v.i<=1048576))
 else false
def zay{a:sF}{u v:zA}(hu:jA t 1 (fD a.f.n.limbs) u)(hv:jA t 1 (fD a.f.d.limbs) v)(hf:qE.fit a.f):xC yA F 85 [.agg [.int .u8 a.kind,.bool a.f.n.neg,u,.bool a.f.d.neg,v,.int .i64 a.i]] t=some (.bool (vO a)):=by
 refine bC.2 (w85 _ _ _ _ _ _ ?_)
 simp only[t85,pA,q115,zby hu hv hf,q116,zcm hu hv hf.1,q117,z4d,tA,zA.asBool];unfold vO;have kk:∀j:Int,lA (a.kind:Int) j=decide ((a.kind:Int)=j):=fun j=>sN
 simp only[kk];by_cases k2:a.kind=2
 ·have e:(a.kind:Int)=2:=by omega
  by_cases h0:a.i=0<;>simp[e,k2,h0,sN]
 by_cases k3:a.kind=3
 ·have e:(a.kind:Int)=3:=by omega
  by_cases h0:a.i=0<;>simp[e,k3,h0,sN]
 have e2:¬ (a.kind:Int)=2:=by omega
 have e3:¬ (a.kind:Int)=3:=by omega
 by_cases k1:a.kind=1
 ·have e:(a.kind:Int)=1:=by omega
  cases ze5 a.f<;>by_cases h0:a.i=0<;>simp[e,k1,h0,sN]
 have e1:¬ (a.kind:Int)=1:=by omega
 by_cases k4:a.kind=4
 ·have e:(a.kind:Int)=4:=by omega
  cases ze5 a.f<;>simp[e,k4]
 have e4:¬ (a.kind:Int)=4:=by omega
 by_cases k5:a.kind=5
 ·have e:(a.kind:Int)=5:=by omega
  cases ze5 a.f<;>by_cases h0:(-1048576:Int)<=a.i<;>simp[e,k5,h0,z4i]
 have e5:¬ (a.kind:Int)=5:=by omega
 by_cases k6:a.kind=6
 ·have e:(a.kind:Int)=6:=by omega
  cases ze5 a.f<;>by_cases h0:(-1048576:Int)<=a.i<;>simp[e,k6,h0,z4i]
 have e6:¬ (a.kind:Int)=6:=by omega
 simp[e1,e2,e3,e4,e5,e6,k1,k2,k3,k4,k5,k6]
end Go.Proofs
namespace Go.Am
open Go Go.RowKit
section
variable {t tf:Tr rA}{C:oA}
def qC.pushL{T el sz n:Nat}(hT:zpr C T el sz){A B:List oE}{l:List D}{d:D}{cs:List zA}{v x:zA}(h:qC C.base tf t (A++zM C.base sz l v::B))(hx:elems t sz x [cs])(hd:RD tf d cs)(hone:∀a∈cs,zA.one a=true)(hl:l.length<300000)(hn:t.get n=none)(hbase:C.base<=n) :
  ∃v2 k t2,pF C T T v x ⟨n,t⟩=some (v2,⟨k,t2⟩)/\qC C.base tf t2 (A++zM C.base sz (l++[d]) v2::B):=by
 have hv:zfh C.base tf t sz l v:=h.ok (zM C.base sz l v) (by simp)
 obtain⟨t2,c1,c2,c3,c4⟩:=zma hT (m:=[d]) hv hx (xF.2 ⟨cs,[],rfl,hd,mH.2 rfl⟩) (by intro a ha;simp at ha;exact hone a ha) (by simp) (by simp;omega) hn hbase h.tle
 refine⟨_,_,t2,c1,?_⟩
 refine qC.upd (o:=zM C.base sz l v) h (fun k k1 k2=>c4 k ?_ (fun e=>k1 (lT.2 e))) (fun k hk=>?_) c2 (by simp[zM,kG]) c3
 ·intro e;subst e;exact k2 (by simp[zM,kG])
 ·have:k=n:=by simpa[zM,kG]using hk
  subst this;exact .inr ⟨hn,hbase⟩
end
end Go.Am
namespace Go.Am
open Go Go.RowKit
section
section
variable {t tf tf0:Tr rA}{C:oA}
mutual
def RD.ones:∀(d:D) (cs:List zA),RD t d cs->∀a∈cs,zA.one a=true
 | .int _ _,cs,h,a,ha=>by rw[RD]at h;subst h;simp at ha;subst ha;rfl
 | .bool _,cs,h,a,ha=>by rw[RD]at h;subst h;simp at ha;subst ha;rfl
 | .str _,cs,h,a,ha=>by rw[RD]at h;subst h;simp at ha;subst ha;rfl
 | .sl sz l,cs,h,a,ha=>by
  rw[xK]at h;obtain⟨v,rfl,h⟩:=h
  simp at ha;subst ha;exact h.one
 | .st l,cs,h,a,ha=>by
  rw[sI]at h;obtain⟨cl,rfl,h⟩:=h
  exact jC.ones l cl h a ha
def jC.ones:∀(l:List D) (cl:List (List zA)),jC t l cl->∀a∈cl.flatten,zA.one a=true
 | [],cl,h,a,ha=>by rw[jC]at h;subst h;cases ha
 | d::l,cl,h,a,ha=>by
  rw[jC]at h;obtain⟨c,r,rfl,h1,h2⟩:=h
  rw[yas,yaf]at ha;rcases ha with ha | ha
  ·exact RD.ones d c h1 a ha
  ·exact jC.ones l r h2 a ha
end
def RD.all{d:D}{cs:List zA}(h:RD t d cs):tC zA.one cs=true:=by
 rw[iG,ycb];exact RD.ones d cs h
def RD.mk{d:D}{cs zs:List zA}(h:RD t d cs)(hz:d.zs=zs):yM zs (cellsOf cs) 0=cs:=by
 have:=zef zs cs [] (by rw[<- hz];exact zoq d cs h)
 simpa using this
def lit1{S el sz b:Nat}{cs:List zA}(hT:zpr C S el sz)(hc:cs.length=sz)(hs:sz<1000000)(hb:t.get b=none) :
  ∃t',lI C S 1 [(0,.agg cs)] ⟨b,t⟩=some (.slice b 0 1 1,⟨b+1,t'⟩)/\elems t' sz (.slice b 0 1 1) [cs]/\dA t t'/\mD b t t':=by
 obtain⟨⟨y,hy1,hy2,_⟩,⟨z,hz1,hz2,hz3,_,_⟩⟩:=hT
 refine zkv (n:=1) (cl:=[cs]) hy1 hy2 hz1 hz2 hz3 (by omega) ?_ (fun i q hq=>?_) rfl hb
 ·have e:lJ z.zero 1=z.zero:=by show aC z.zero []=z.zero;rw[nG,ycd]
  rw[e];unfold tM cT;have e1:(zA.agg cs).cells=cs:=rfl
  rw[gC]at hz3;simp only[uA,e1,gC,hc,hz3,Nat.zero_mul,ybw,qO,dP,nG,List.take_zero,yah];rw[oB.2 rfl,dD.2 (ybk sz)]
  simp only[Bool.and_self,oD,uA,tM];rw[ybt (by omega)]
  simp
 ·rcases i with _ | i
  ·simp at hq;subst hq;exact hc
  ·simp at hq
def zlw(C:oA)(S el g p:Nat)(zs:List zA)(v0 v:zA)(i:Int):T:=
 .opt (zC v0) fun a0=>.asI .i64 a0 fun n1=>.ite (vC i n1)
  (.opt (lB C S v0 (.int .i64 i)) fun a2=>.light (fun m=>mA C el ⟨0,m⟩ a2) fun a3=>.asG zs a3 fun X=>
   .call g [.agg (yM zs X 0)] fun a5=>.asG zs a5 fun Y=>
   .ite (tC zA.one (yM zs Y 0)) (.heavy (lI C S 1 [(0,.agg (yM zs Y 0))]) fun a7=>.heavy (pF C S S v a7) fun a8=>.jump p [v0,a8,.int .i64 (wA .i64 (i+1))]) .fail)
  (.ret v)
def zps(base:Nat)(W:bG)(g:Nat)(d:D):Prop:=∀ ⦃L:List oE⦄ ⦃tf t:Tr rA⦄ ⦃cs:List zA⦄ ⦃Q:bB⦄,qC base tf t L->RD tf d cs->(∀tf' t' cs',dA tf tf'->qC base tf' t' L->RD tf' d cs'->Q (.agg cs') t')->W g [.agg cs] t Q
def z52(base:Nat)(tf:Tr rA)(L:List oE)(sz:Nat)(l:List D)(Q:bB):Prop:=∀tf' t' v,dA tf tf'->qC base tf' t' L->jA tf' sz l v->Q v t'
def z01{W J:bG}{S el sz g p:Nat}(hT:zpr C S el sz)(hS:yF C S el sz true)(hsz:sz<1000000){zs:List zA}{L:List oE}{ds:List D}{v0:zA}{Q:bB}
  (hz:∀d∈ds,d.zs=zs) (hg:∀d∈ds,zps C.base W g d) (hlen:ds.length<300000)
  (hj:∀v i t,pA C.base W J (zlw C S el g p zs v0 v i) t Q->J p [v0,v,.int .i64 i] t Q) (hQ:z52 C.base tf0 L sz ds Q) (h0:jA tf0 sz ds v0) :
  ∀(m i:Nat) (tf t:Tr rA) (v:zA),i+m=ds.length->dA tf0 tf->qC C.base tf t (zM C.base sz (ds.take i) v::L)->J p [v0,v,.int .i64 (i:Int)] t Q:=by
 intro m;induction m with
 | zero=>
  intro i tf t v hi hf ho;refine hj _ _ _ ?_
  simp only[zlw,pA];rw[h0.len,tA,qB,tA,yaa (fun e=>by have:=zD.1 e;omega)]
  rw[yca (by omega)]at ho
  obtain⟨tf',k1,k2,k3⟩:=qC.freezeL (A:=[]) ho
  exact hQ tf' t v (hf.trans k1) k2 k3
 | succ m ih=>
  intro i tf t v hi hf ho;have hlt:i<ds.length:=by omega
  have hd:ds[i]?=some ds[i]:=ybd hlt
  have hm:ds[i]∈ds:=ycj hlt
  obtain⟨b,off,cs,g1,g2,g3,g4,g5⟩:=yF.at (t:=tf) hS (by simp) (h0.mono hf) hd
  have g1':=g1
  obtain⟨b',off',cs',f1,f2,f3,f4,f5⟩:=yF.at (t:=t) hS (by simp) (h0.mono (hf.trans ho.tle)) hd
  rw[g1]at f1;cases f1
  have ecs:cs'=cs:=by
   obtain⟨c,n,lo,q1,q2⟩:=g3
   obtain⟨c',n',lo',q3,q4⟩:=f3
   rw[ho.tle _ _ q1]at q3
   cases q3
   refine List.ext_getElem? fun j=>?_
   rcases yau j sz with hjs | hjs
   ·have a1:cs[j]?=some cs[j]:=ybd (by omega)
    have a2:cs'[j]?=some cs'[j]:=ybd (by omega)
    have b1:=q2 _ _ a1
    have b2:=q4 _ _ a2
    rw[b1]at b2;rw[a1,a2,yci b2]
   ·rw[List.getElem?_eq_none (by omega),List.getElem?_eq_none (by omega)]
  subst ecs;refine hj _ _ _ ?_
  simp only[zlw,pA];rw[h0.len,tA,qB,tA,yab (zD.2 (by omega)),g1,tA,f2,tA]
  have hzz:=hz _ hm
  show sE (kK zs (.agg cs')) _
  rw[dH g5 hzz,tA,g5.mk hzz];refine hg _ hm ho g5 fun tf' t' cs2 k1 k2 k3=>?_
  rw[dH k3 hzz,tA,k3.mk hzz,yab k3.all];intro n hn _;have hl2:cs2.length=sz:=by
   have e1:=g5.mk hzz
   have e2:=k3.mk hzz
   have key:∀(zs:List zA) (X Y:rP) (j:Nat),(yM zs X j).length=(yM zs Y j).length:=by
    intro zs;induction zs with
    | nil=>intro X Y j;rfl
    | cons z zs ih=>
     intro X Y j;show(zkp z X j::yM zs X (j+1)).length=(zkp z Y j::yM zs Y (j+1)).length
     rw[ybn,ybn,ih X Y (j+1)]
   have:=key zs (cellsOf cs2) (cellsOf cs') 0
   rw[e1,e2]at this;omega
  obtain⟨t1,a1,a2,a3,a4⟩:=lit1 (C:=C) hT hl2 hsz hn
  rw[a1,tA];intro n2 hn2 hb2;obtain⟨v2,k,t2,c1,c2⟩:=qC.pushL (A:=[]) (n:=n2) hT (k2.junk hn a4) a2 k3 (RD.ones _ _ k3) (by rw[yda];omega) hn2 hb2
  rw[c1,tA,wrap_i64 (by omega) (by omega)]
  have e:ds.take i++[ds[i]]=ds.take (i+1):=by rw[List.take_succ,hd];rfl
  rw[e]at c2;exact ih (i+1) tf' t2 v2 (by omega) (hf.trans k1) c2
def z02{W J:bG}{S el sz g p:Nat}(hT:zpr C S el sz)(hS:yF C S el sz true)(hsz:sz<1000000){zs:List zA}{L:List oE}{ds:List D}{v0:zA}{Q:bB}
  (hz:∀d∈ds,d.zs=zs) (hg:∀d∈ds,zps C.base W g d) (hlen:ds.length<300000)
  (hj:∀v i t,pA C.base W J (zlw C S el g p zs v0 v i) t Q->J p [v0,v,.int .i64 i] t Q) (hQ:z52 C.base tf L sz ds Q) (h0:jA tf sz ds v0) (ho:qC C.base tf t L):J p [v0,.nilslice,.int .i64 0] t Q:=by
 refine z01 hT hS hsz hz hg hlen hj hQ h0 ds.length 0 tf t .nilslice (by omega) (dA.refl _) ?_
 rw[List.take_zero];exact qC.add (A:=[]) (o':=zM C.base sz ([]:List D) .nilslice) ho (fun _ _=>rfl) (fun k hk=>by simp[zM,kG]at hk) (.inl ⟨rfl,rfl⟩) (by simp[zM,kG]) ho.tle
def z5d{W J:bG}{S el sz:Nat}(hT:zpr C S el sz){L:List oE}{l:List D}{x:zA}{Q:bB}(hx:jA tf sz l x)(ho:qC C.base tf t L)(hl:l.length<1000000)(hQ:z52 C.base tf L sz l Q) :
  pA C.base W J (.heavy (pF C S S .nilslice x) fun a0=>.ret a0) t Q:=by
 simp only[pA];intro n hn _;obtain⟨v,k,t',tf',a1,a2,a3,a4,a5,a6,a7⟩:=zmb hT hx ho.tle hl hn
 rw[a1,tA];refine hQ tf' t' v a3 (ho.keep a3 a4 fun k hk=>?_) a2
 have hne:k≠n:=fun e=>by
  obtain⟨y,hy⟩:=ho.live hk
  rw[e,hn]at hy;cases hy
 exact⟨a6 k hne,by rw[a7 k hne];exact(ho.low k hk).2⟩
end
end
section
section
variable {C:oA}{t:Tr rA}
def uN(C:oA)(T:Nat)(k:zA):Bool:=
 match ob (C.tys.get T) fun ty=>ob ty.desc.asMap fun ke=>ob (C.tys.get ke.1) fun kty=>cA (dN C kty&&vM C kty k) (some ())with | some _=>true | none=>false
def tY{T:Nat}{k:zA}(h:uN C T k=true):∃ty ke kty,C.tys.get T=some ty/\ty.desc.asMap=some ke/\C.tys.get ke.1=some kty/\dN C kty=true/\vM C kty k=true:=by
 unfold uN at h;split at h
 case h_2=>cases h
 rename_i u hu;simp only[sA,xB,ybb]at hu;obtain⟨ty,h1,ke,h2,kty,h3,⟨h4,h5⟩,_⟩:=hu
 exact⟨ty,ke,kty,h1,h2,h3,h4,h5⟩
def zvs{T b n:Nat}{k v:zA}{l l':List (zA × zA)}(hk:uN C T k=true)(hb:C.base<=b)(hm:t.get b=some (.map l))(hs:cG k v l=some l') :
  mI C T (.map b) k v ⟨n,t⟩=some (pD,⟨n,t.set b (.map l')⟩):=by
 obtain⟨ty,ke,kty,h1,h2,h3,h4,h5⟩:=tY hk
 have e2:(!Nat.blt b C.base)=true:=by
  cases hq:Nat.blt b C.base with
  | true=>have:=kB.1 hq;omega
  | false=>rfl
 have e3:gG ⟨n,t⟩ b=some l:=by unfold gG;rw[hm];rfl
 unfold mI;rw[h1,uA,h2,uA,h3,uA,h4,oD];simp only[zA.asMap,uA];rw[e2,oD,e3,uA,h5,oD,hs];rfl
def zq9{T b n:Nat}{k v:zA}{l:List (zA × zA)}(hk:uN C T k=true)(hm:t.get b=some (.map l))(hs:fH k l=some (some v)){ty:uC}(hT:C.tys.get T=some ty){ke:Nat × Nat}(hd:ty.desc.asMap=some ke){ety:uC}(he:C.tys.get ke.2=some ety)(ok:Bool) :
  yI C T ⟨n,t⟩ (.map b) k ok=some (bif ok then .tup [v,.bool true]else v):=by
 obtain⟨ty,ke,kty,h1,h2,h3,h4,h5⟩:=tY hk
 rw[hT]at h1;cases h1;rw[hd]at h2;cases h2;have e3:gG ⟨n,t⟩ b=some l:=by unfold gG;rw[hm];rfl
 unfold yI;rw[hT,uA,hd,uA,h3,uA,h4,oD,he,uA];have e4:aM ⟨n,t⟩ (.map b)=some l:=by unfold aM;simp only[zA.asMap];exact e3
 rw[e4,uA,h5,oD,hs,uA]
def zyo{T b n:Nat}{k:zA}{l:List (zA × zA)}(hk:uN C T k=true)(hm:t.get b=some (.map l))(hs:fH k l=some none){ty:uC}(hT:C.tys.get T=some ty){ke:Nat × Nat}(hd:ty.desc.asMap=some ke){ety:uC}(he:C.tys.get ke.2=some ety)(ok:Bool) :
  yI C T ⟨n,t⟩ (.map b) k ok=some (bif ok then .tup [nN ety,.bool false]else nN ety):=by
 obtain⟨ty,ke,kty,h1,h2,h3,h4,h5⟩:=tY hk
 rw[hT]at h1;cases h1;rw[hd]at h2;cases h2;have e3:gG ⟨n,t⟩ b=some l:=by unfold gG;rw[hm];rfl
 unfold yI;rw[hT,uA,hd,uA,h3,uA,h4,oD,he,uA];have e4:aM ⟨n,t⟩ (.map b)=some l:=by unfold aM;simp only[zA.asMap];exact e3
 rw[e4,uA,h5,oD,hs,uA]
mutual
def RD.sames1:∀(d:D) (cs:List zA),RD t d cs->∀a∈cs,∀k,Am.same k a a=true
 | .int _ _,cs,h,a,ha,k=>by rw[RD]at h;subst h;simp at ha;subst ha;exact wW
 | .bool _,cs,h,a,ha,k=>by rw[RD]at h;subst h;simp at ha;subst ha;exact zxe
 | .str _,cs,h,a,ha,k=>by rw[RD]at h;subst h;simp at ha;subst ha;exact zhv
 | .sl sz l,cs,h,a,ha,k=>by
  rw[xK]at h;obtain⟨v,rfl,h⟩:=h
  simp at ha;subst ha;exact h.same
 | .st l,cs,h,a,ha,k=>by
  rw[sI]at h;obtain⟨cl,rfl,h⟩:=h
  exact jC.sames1 l cl h a ha k
def jC.sames1:∀(l:List D) (cl:List (List zA)),jC t l cl->∀a∈cl.flatten,∀k,Am.same k a a=true
 | [],cl,h,a,ha,k=>by rw[jC]at h;subst h;cases ha
 | d::l,cl,h,a,ha,k=>by
  rw[jC]at h;obtain⟨c,r,rfl,h1,h2⟩:=h
  rw[yas,yaf]at ha;rcases ha with ha | ha
  ·exact RD.sames1 d c h1 a ha k
  ·exact jC.sames1 l r h2 a ha k
end
def zj4:∀ {l:List zA} {k:Nat},(∀a∈l,∀k,Am.same k a a=true)->Am.same.sames k l l=true
 | [],_,_=>rfl
 | a::l,k,h=>by
  rw[Am.same.sames,h a (.head _) k,zj4 fun b hb=>h b (.tail _ hb)];rfl
def RD.sameA{d:D}{cs:List zA}(h:RD t d cs){k:Nat}:Am.same (k+1) (.agg cs) (.agg cs)=true:=zj4 (RD.sames1 d cs h)
def zg4{b:Nat}(hb:C.base<=b):∀(l:List (zA × zA)) (m:List (zA × zA)) (n:Nat) (t:Tr rA),t.get b=some (.map m) →
  ∃t',sR C (l.map fun e=>RE.up b e.1 e.2) ⟨n,t⟩=some ⟨n,t'⟩/\t'.get b=some (.map (m++l))/\mD b t t'
 | [],m,n,t,h=>⟨t,rfl,by rw[ycd];exact h,fun _ _=>rfl⟩
 | e::l,m,n,t,h=>by
  obtain⟨t',h1,h2,h3⟩:=zg4 hb l (m++[e]) n (t.set b (.map (m++[e]))) (by rw[Tr.get_set,yab rfl])
  refine⟨t',?_,by rw[h2,ybz];rfl,fun c hc=>by rw[h3 c hc,Tr.get_set,yaa hc]⟩
  have e2:(!Nat.blt b C.base)=true:=by
   cases hq:Nat.blt b C.base with
   | true=>have:=kB.1 hq;omega
   | false=>rfl
  have e3:gG ⟨n,t⟩ b=some m:=by unfold gG;rw[h];rfl
  have e4:uQ C ⟨n,t⟩ (.up b e.1 e.2)=some ⟨n,t.set b (.map (m++[e]))⟩:=by
   show cA (!Nat.blt b C.base) (ob (gG ⟨n,t⟩ b) fun m=>some (setBlk ⟨n,t⟩ b (.map (aC m [(e.1,e.2)]))))=_
   rw[e2,oD,e3,uA,nG];rfl
  rw[ycm];unfold sR;rw[e4,uA];exact h1
def zj8{T b:Nat}:∀(l:List (zA × zA)),(∀e∈l,uN C T e.1=true)->jF (zqj C) (l.map fun e=>Eff.upd T (.map b) e.1 e.2)=some (l.map fun e=>RE.up b e.1 e.2)
 | [],_=>rfl
 | e::l,h=>by
  obtain⟨ty,ke,kty,h1,h2,h3,h4,h5⟩:=tY (h e (.head _))
  have e1:zqj C (.upd T (.map b) e.1 e.2)=some (.up b e.1 e.2):=by
   unfold zqj;simp only[];rw[h1,uA,h2,uA,h3,uA,h4,h5];rfl
  rw[ycm,oK,e1,uA,zj8 l fun x hx=>h x (.tail _ hx),uA]
  rfl
def zak:List (zA × zA)->Bool
 | []=>true
 | e::l=>tC (fun x=>zia e.1 x.1) l&&zak l
def zmd{b:Nat}:∀(l:List (zA × zA)),zak l=true->zg6 (l.map fun e=>RE.up b e.1 e.2)=true
 | [],_=>rfl
 | e::l,h=>by
  unfold zak at h;rw[ybb,iG,ycb]at h;rw[ycm];unfold zg6;rw[ybb,iG,ycb];refine⟨fun x hx=>?_,zmd l h.2⟩
  obtain⟨y,hy,rfl⟩:=yaq.1 hx
  show(bif Nat.beq b b then zia e.1 y.1 else true)=true
  rw[oB.2 rfl];exact h.1 y hy
def zt9{T b n:Nat}{l:List (zA × zA)}(hk:∀e∈l,uN C T e.1=true)(ha:zak l=true)(hb:C.base<=b)(hm:t.get b=some (.map [])) :
  ∃t',nP C (l.map fun e=>Eff.upd T (.map b) e.1 e.2) ⟨n,t⟩=some (pD,⟨n,t'⟩)/\t'.get b=some (.map l)/\mD b t t':=by
 obtain⟨t',h1,h2,h3⟩:=zg4 (C:=C) hb l [] n t hm
 refine⟨t',?_,by simpa using h2,h3⟩
 unfold nP yQ;rw[zj8 l hk,uA,zmd l ha];have hr:tC (zdf C ⟨n,t⟩) (l.map fun e=>RE.up b e.1 e.2)=true:=by
  rw[iG,ycb];intro x hx;obtain⟨e,_,rfl⟩:=yaq.1 hx
  have e2:(!Nat.blt b C.base)=true:=by
   cases hq:Nat.blt b C.base with
   | true=>have:=kB.1 hq;omega
   | false=>rfl
  have e3:gG ⟨n,t⟩ b=some []:=by unfold gG;rw[hm];rfl
  show(!Nat.blt b C.base&&(match gG ⟨n,t⟩ b with | some []=>true | _=>false))=true
  rw[e2,e3];rfl
 rw[hr];simp only[Bool.and_self,oD,h1,uA]
def jD.up{t':Tr rA}{b:Nat}{lo:Option Lo}{cs:List zA}(h:jD t b lo cs)(k:dA t t'):jD t' b lo cs:=by
 obtain⟨c,h1,h2⟩:=h
 exact⟨c,k _ _ h1,h2⟩
end
end
end Go.Am
namespace Go.Proofs
open Go Go.Am
variable [sC]
variable {t:Tr rA}
def bQ(n:Nat):Bool:=(decide (65<=n)&&decide (n<=90))||(decide (97<=n)&&decide (n<=122))
def zro(n:Nat):Bool:=decide (48<=n)&&decide (n<=57)
def zd7(n:Nat):Bool:=bQ n||zro n||decide (n=95)
def z9r{a b:Int}:nC a b=decide (a<=b):=by
 by_cases h:a<=b
 ·rw[decide_eq_true h,yG.2 h]
 ·rw[decide_eq_false h]
  cases hq:nC a b with
  | true=>exact absurd (yG.1 hq) h
  | false=>rfl
def nZ{n:Nat}:xC yA F 111 [.int .u8 (n:Int)] t=some (.bool (bQ n)):=by
 refine bC.2 (w111 _ ?_)
 simp only[t111,pA,z9r,decide_eq_true_eq];unfold bQ;by_cases h1:65<=n
 ·rw[yab (by omega)]
  by_cases h2:n<=90
  ·rw[yab (by omega)];simp[h1,h2]
  ·rw[yaa (by omega)]
   by_cases h3:97<=n
   ·rw[yab (by omega)]
    have:decide ((n:Int)<=122)=decide (n<=122):=by congr 1;exact propext (by omega)
    simp[h1,h2,h3,this]
   ·rw[yaa (by omega)];simp[h2,h3]
 ·rw[yaa (by omega),yaa (by omega)]
  have:¬ 97<=n:=by omega
  simp[h1,this]
def zt4{n:Nat}:xC yA F 139 [.int .u8 (n:Int)] t=some (.bool (zro n)):=by
 refine bC.2 (w139 _ ?_)
 simp only[t139,pA,z9r,decide_eq_true_eq];unfold zro;by_cases h1:48<=n
 ·rw[yab (by omega)]
  have:decide ((n:Int)<=57)=decide (n<=57):=by congr 1;exact propext (by omega)
  simp[h1,this]
 ·rw[yaa (by omega)];simp[h1]
def zzu{n:Nat}:xC yA F 113 [.int .u8 (n:Int)] t=some (.bool (zd7 n)):=by
 refine bC.2 (w113 _ ?_)
 simp only[t113,pA,q111,nZ,tA,zA.asBool];unfold zd7
 cases h:bQ n with
 | true=>simp
 | false=>
  simp only[ybq,if_false,q139,zt4,tA,zA.asBool]
  cases h2:zro n with
  | true=>simp
  | false=>
   simp only[ybq,if_false,sN];have:decide ((n:Int)=95)=decide (n=95):=by congr 1;exact propext (by omega)
   simp[this]
def zlc{s:List Nat}{i x:Nat}(h:s[i]?=some x):sK yA 9 (.str s) (.int .i64 (i:Int))=some (.int .u8 (x:Int)):=by
 unfold sK;rw[ty9,uA];simp only[zA.asNat,zA.asInt,zA.asStr];have e:ob (some (i:Int)) sJ=some i:=rfl
 rw[e,uA,show nD.isString .string=true from rfl,oD,iF,h,uA];rfl
def z27 (p:Nat->Bool)(s:List Nat):List Nat:=s.takeWhile p
def zqf{p:Nat->Bool}{g:Nat}(hg:∀n:Nat,xC yA F g [.int .u8 (n:Int)] t=some (.bool (p n)))(hq:∀ {a:List zA} {m:Tr rA} {R:bB},Wq yA F yJ g a m R=sE (xC yA F g a m) (fun v=>R v m))(hy:Nat.blt g yo=true){s:List Nat}(hs:s.length<4000000000000000000) :
  ∀(k i:Nat),i+k=s.length->(∀j x,j<i->s[j]?=some x->p x=true)->jp 112 2 [.str s,.func (.func g) [] [],.int .i64 (i:Int)] t (fun v t'=>v=.str (z27 p s)/\t'=t):=by
 have key:∀i,i<=s.length->(∀j x,j<i->s[j]?=some x->p x=true)->(∀x,s[i]?=some x->p x=false)->z27 p s=s.take i:=by
  intro i hi h1 h2;unfold z27;induction s generalizing i with
  | nil=>simp
  | cons a s ih=>
   cases i with
   | zero=>rw[List.takeWhile_cons,h2 a rfl];simp
   | succ i=>
    rw[List.takeWhile_cons,h1 0 a (by omega) rfl,yab rfl,List.take_succ_cons]
    rw[ih (by simp at hs;omega) i (by simpa using hi) (fun j x hj hx=>h1 (j+1) x (by omega) (by simpa using hx)) (fun x hx=>h2 x (by simpa using hx))]
 intro k;induction k with
 | zero=>
  intro i hi hp;refine z7g _ _ _ ?_
  simp only[zw3,pA,zD,oL];rw[yaa (by omega),zhr (by omega),tA]
  simp only[zA.asStr,tA];rw[key i (by omega) hp (fun x hx=>by have:=(ybc.1 hx).1;omega)]
  first | exact⟨rfl,rfl⟩ | exact⟨rfl,trivial⟩ | exact⟨trivial,trivial⟩
 | succ k ih=>
  intro i hi hp;have hx:s[i]?=some s[i]:=ybd (by omega)
  refine z7g _ _ _ ?_
  simp only[zw3,pA,zD,oL];rw[yab (by omega),zlc hx,tA,qB,tA]
  have e:wP (.func (.func g) [] []) [.int .u8 (s[i]:Int)]=some (g,[.int .u8 (s[i]:Int)]):=by
   unfold wP;simp only[zA.asFunc,uA,hy,oD];rfl
  rw[e,tA];simp only[];rw[hq,hg,tA];simp only[zA.asBool,tA]
  cases hb:p s[i]with
  | true=>
   rw[yab rfl,wrap_i64 (by omega) (by omega),show(i:Int)+1=((i+1:Nat):Int) by omega]
   refine ih (i+1) (by omega) fun j x hj hjx=>?_
   by_cases e:j=i
   ·subst e;rw[hx]at hjx;cases hjx;exact hb
   ·exact hp j x (by omega) hjx
  | false=>
   rw[yaa (by simp),zhr (by omega),tA]
   simp only[zA.asStr,tA];rw[key i (by omega) hp (fun x hx'=>by rw[hx]at hx';cases hx';exact hb)]
   first | exact⟨rfl,rfl⟩ | exact⟨rfl,trivial⟩ | exact⟨trivial,trivial⟩
def z26{s:List Nat}(hs:s.length<4000000000000000000):xC yA F 112 [.str s,.func (.func 113) [] []] t=some (.str (z27 zd7 s)):=by
 refine bC.2 (w112 _ _ ?_)
 simp only[t112,pA];exact zqf (fun n=>zzu) (fun {a m R}=>by rw[q113]) rfl hs s.length 0 (by omega) (fun j x hj=>by omega)
def z8k{s:List Nat}(hs:s.length<4000000000000000000):xC yA F 112 [.str s,.func (.func 111) [] []] t=some (.str (z27 bQ s)):=by
 refine bC.2 (w112 _ _ ?_)
 simp only[t112,pA];exact zqf (fun n=>nZ) (fun {a m R}=>by rw[q111]) rfl hs s.length 0 (by omega) (fun j x hj=>by omega)
def resW:Nat->List Nat
 | 2=>[32,116,111,32,105,115,32,97,116,32,105,102,32,111,114,32,117,112,32]
 | 3=>[32,100,101,102,32,114,111,119,32,111,110,101,32,116,119,111,32,101,110,100,32,111,102,102,32,104,97,115,32,109,105,110,32,109,97,120,32,97,110,100,32,110,111,116,32]
 | 4=>[32,112,108,97,110,32,102,97,99,116,32,102,114,111,109,32,119,104,101,110,32,116,104,101,110,32,100,97,116,101,32,100,97,121,115,32,116,114,117,101,32,108,111,111,107,32,98,101,115,116,32,103,114,111,119,32,100,111,119,110,32,99,101,105,108,32,104,97,108,102,32,101,118,101,110,32]
 | 5=>[32,116,97,98,108,101,32,107,110,111,119,110,32,116,114,117,116,104,32,109,111,110,101,121,32,102,97,108,115,101,32,109,105,110,117,115,32,116,111,100,97,121,32,114,111,117,110,100,32,115,116,97,114,116,32,102,108,111,111,114,32]
 | 6=>[32,99,108,97,117,115,101,32,110,117,109,98,101,114,32,109,111,110,116,104,115,32]
 | 7=>[32,98,101,116,119,101,101,110,32,115,101,114,118,105,99,101,32]
 | _=>[]
def zdd(s:List Nat):Bool:=decide (2<=s.length)&&decide (s.length<=7)&&cF (z27 bQ s) s&&yU ([32]++s++[32]) (resW s.length)
def nH (n:Nat):zA × zA:=(.int .i64 (n:Int),.str (resW n))
def zo9{a b:List Nat}(h:a.length<4294967281):xC yA F 140 [.str a,.str b] t=some (.bool (yU b a)):=by
 have hg:yA.prims.get 140=some (pK yV):=by kernel_rfl
 refine zhy hg fun H=>?_
 unfold yV;simp only[];rw[gC,kB.2 h];rfl
def znn{s:List Nat}(hs:s.length<4000000000000000000):xC yA F 114 [.str s] t=some (.bool (zdd s)):=by
 refine jN (w114 _ ?_)
 simp only[t114,pA,zD,oL];unfold zdd;by_cases h1:2<=s.length
 ·rw[yaa (by omega)]
  by_cases h2:s.length<=7
  ·rw[yaa (by omega)]
   simp only[q112,z8k hs,tA,zA.asStr]
   cases h3:cF (z27 bQ s) s with
   | false=>simp
   | true=>
    simp only[Bool.not_true,ybq,if_false];intro b hb hbase;have hmk:fV ⟨b,t⟩=some (.map b,⟨b+1,t.set b (.map [])⟩):=rfl
    rw[hmk,tA];simp only[];have h0:(t.set b (.map [])).get b=some (.map []):=by rw[Tr.get_set,yab rfl]
    have ho:mD b t (t.set b (.map [])):=fun c hc=>by rw[Tr.get_set,yaa hc]
    generalize t.set b (.map [])=t1 at h0 ho
    have hstep:∀(l:List (zA × zA)) (k:Nat) (s':List Nat) (l':List (zA × zA)) (Q:(zA × xA)->Prop) (t1:Tr rA),t1.get b=some (.map l)->mD b t t1->cG (.int .i64 (k:Int)) (.str s') l=some l'->uN yA 213 (.int .i64 (k:Int))=true →
      (∀n t2,t2.get b=some (.map l')->mD b t t2->Q (pD,⟨n,t2⟩))->∀n,t1.get n=none->yA.base<=n->sE (mI yA 213 (.map b) (.int .i64 (k:Int)) (.str s') ⟨n,t1⟩) Q:=by
     intro l k s' l' Q t1 g1 g2 h1 h2 h3 n _ _;rw[zvs h2 hbase g1 h1,tA];exact h3 n _ (by rw[Tr.get_set,yab rfl]) fun c hc=>by rw[Tr.get_set,yaa hc];exact g2 c hc
    refine hstep [] 2 _ [nH 2] _ t1 h0 ho rfl (by kernel_rfl) fun n t2 g o=>?_
    refine hstep _ 3 _ [nH 2,nH 3] _ t2 g o rfl (by kernel_rfl) fun n t2 g o=>?_
    refine hstep _ 4 _ [nH 2,nH 3,nH 4] _ t2 g o rfl (by kernel_rfl) fun n t2 g o=>?_
    refine hstep _ 5 _ [nH 2,nH 3,nH 4,nH 5] _ t2 g o rfl (by kernel_rfl) fun n t2 g o=>?_
    refine hstep _ 6 _ [nH 2,nH 3,nH 4,nH 5,nH 6] _ t2 g o rfl (by kernel_rfl) fun n t2 g o=>?_
    refine hstep _ 7 _ [nH 2,nH 3,nH 4,nH 5,nH 6,nH 7] _ t2 g o rfl (by kernel_rfl) fun n t2 g o=>?_
    have hle:dA t t2:=fun c u hc=>by
     have:c≠b:=fun e=>by rw[e,hb]at hc;cases hc
     rw[o c this];exact hc
    have hl:yI yA 213 ⟨0,t2⟩ (.map b) (.int .i64 (s.length:Int)) false=some (.str (resW s.length)):=by
     have hk:uN yA 213 (.int .i64 (s.length:Int))=true/\fH (.int .i64 (s.length:Int)) [nH 2,nH 3,nH 4,nH 5,nH 6,nH 7]=some (some (.str (resW s.length))):=by
      have:s.length=2\/s.length=3\/s.length=4\/s.length=5\/s.length=6\/s.length=7:=by omega
      rcases this with e | e | e | e | e | e<;>rw[e]<;>exact⟨by kernel_rfl,rfl⟩
     exact zq9 hk.1 g hk.2 ty213 rfl ty9 false
    rw[hl,tA];simp only[zA.asStr,tA];rw[sL (by simp;omega),tA]
    simp only[zA.asStr,tA];rw[sL (by simp;omega),tA]
    simp only[zA.asStr,tA];have hr:(resW s.length).length<4294967281:=by
     have:s.length=2\/s.length=3\/s.length=4\/s.length=5\/s.length=6\/s.length=7:=by omega
     rcases this with e | e | e | e | e | e<;>rw[e]<;>decide
    rw[q140,zo9 hr,tA];simp only[zA.asBool,tA];refine⟨?_,hle⟩
    simp[h1,h2]
  ·rw[yab (by omega)];simp[h2]
 ·rw[yab (by omega)];simp[h1]
def zid(s:List Nat):Bool:=match s with
 | []=>false
 | x::r=>decide ((x::r).length<=24)&&bQ x&&cF (z27 zd7 (x::r)) (x::r) && !zdd (x::r)
def z8z{s:List Nat}:xC yA F 84 [.str s] t=some (.bool (zid s)):=by
 refine bC.2 (w84 _ ?_)
 simp only[t84,pA,zD,oL]
 cases s with
 | nil=>simp[zid,rM]
 | cons x r=>
  have h0:cF (x::r) []=false:=by
   cases h:cF (x::r) []with
   | true=>rw[rM]at h;cases h
   | false=>rfl
  rw[h0];simp only[ybq,if_false];unfold zid;by_cases h1:(x::r).length<=24
  ·rw[yaa (by omega)]
   have hx:=zlc (s:=x::r) (i:=0) (x:=x) rfl
   rw[show((0:Nat):Int)=0 from rfl]at hx
   rw[hx,tA,qB,tA,q111,nZ,tA];simp only[zA.asBool,tA]
   cases h2:bQ x with
   | false=>simp
   | true=>
    simp only[Bool.not_true,ybq,if_false];rw[q112,z26 (by omega),tA]
    simp only[zA.asStr,tA]
    cases h3:cF (z27 zd7 (x::r)) (x::r)with
    | false=>simp
    | true=>
     simp only[if_true,q114,znn (s:=x::r) (by omega),tA,zA.asBool]
     simp only[decide_eq_true h1,ycn,Bool.and_self];first | exact⟨rfl,rfl⟩ | exact⟨rfl,trivial⟩ | exact⟨trivial,trivial⟩
  ·rw[yab (by omega)]
   simp only[decide_eq_false h1,Bool.false_and];first | exact⟨rfl,rfl⟩ | exact⟨rfl,trivial⟩ | exact⟨trivial,trivial⟩
end Go.Proofs
namespace Go.Am
open Go Go.RowKit
section
variable {base:Nat}{W J:bG}{t:Tr rA}{Q:bB}
def uB{b:Bool}{x y:T}(h:b=true)(k:pA base W J x t Q):pA base W J (.ite b x y) t Q:=by
 show if b=true then _ else _;rw[yab h];exact k
def yC{b:Bool}{x y:T}(h:b≠true)(k:pA base W J y t Q):pA base W J (.ite b x y) t Q:=by
 show if b=true then _ else _;rw[yaa h];exact k
def iA{x:Option zA}{K:zA->T}{v:zA}(h:x=some v)(k:pA base W J (K v) t Q):pA base W J (.opt x K) t Q:=by
 show sE x _;rw[h];exact k
def cC{x:Tr rA->Option zA}{K:zA->T}{v:zA}(h:x t=some v)(k:pA base W J (K v) t Q):pA base W J (.light x K) t Q:=by
 show sE (x t) _;rw[h];exact k
def dC{f:Nat}{a:List zA}{K:zA->T}(k:W f a t (fun v t'=>pA base W J (K v) t' Q)):pA base W J (.call f a K) t Q:=k
def pC{n:Int}{i:IntKind}{K:Int->T}(k:pA base W J (K n) t Q):pA base W J (.asI i (.int i n) K) t Q:=by
 show sE (z9o i (.int i n)) _;rw[qB];exact k
def aG{b:Bool}{K:Bool->T}(k:pA base W J (K b) t Q):pA base W J (.asB (.bool b) K) t Q:=k
def pJ{s:List Nat}{K:List Nat->T}(k:pA base W J (K s) t Q):pA base W J (.asS (.str s) K) t Q:=k
def uH{zs:List zA}{a:zA}{K:rP->T}{X:rP}(h:kK zs a=some X)(k:pA base W J (K X) t Q):pA base W J (.asG zs a K) t Q:=by
 show sE (kK zs a) _;rw[h];exact k
def kH{x:xA->Option (zA × xA)}{K:zA->T}(k:∀b,t.get b=none->base<=b->∃v H,x ⟨b,t⟩=some (v,H)/\pA base W J (K v) H.t Q):pA base W J (.heavy x K) t Q:=by
 intro b h1 h2;obtain⟨v,H,h3,h4⟩:=k b h1 h2
 rw[h3];exact h4
def dE{i:Nat}{a:List zA}(k:J i a t Q):pA base W J (.jump i a) t Q:=k
end
section
variable {t:Tr rA}{C:oA}
end
end Go.Am
namespace Go.Proofs
open Go Go.Am
variable [sC]
variable {t:Tr rA}
def zso(v:sF):Bool:=decide (v.kind=0)&&decide (v.i=0)&&ze5 v.f
def zi8{a:sF}{u v:zA}(hu:jA t 1 (fD a.f.n.limbs) u)(hv:jA t 1 (fD a.f.d.limbs) v)(hf:a.f.ok):xC yA F 86 [.agg [.int .u8 a.kind,.bool a.f.n.neg,u,.bool a.f.d.neg,v,.int .i64 a.i]] t=some (.bool (zso a)):=by
 refine bC.2 (w86 _ _ _ _ _ _ ?_)
 simp only[t86,pA,gH];unfold zso;by_cases h1:a.kind=0
 ·rw[yab (by omega)]
  by_cases h2:a.i=0
  ·rw[yab h2,q116,zcm hu hv hf,tA]
   simp only[zA.asBool,tA,decide_eq_true h1,decide_eq_true h2,ycn];first | exact⟨rfl,rfl⟩ | exact⟨rfl,trivial⟩ | exact⟨trivial,trivial⟩
  ·rw[yaa h2];simp[h2]
 ·rw[yaa (by omega)];simp[h1]
structure FM where
 style:Nat
 word:List Nat
 named:Bool
 least:Nat
 most:Nat
 level:Nat
 left:Nat
 right:Nat
def FM.cs(f:FM):List zA:=[.int .u8 f.style,.str f.word,.bool f.named,.int .i64 f.least,.int .i64 f.most,.int .i64 f.level,.int .i64 f.left,.int .i64 f.right]
def atF (w:List Nat):FM:=⟨3,w,true,1,1,7,7,7⟩
def oM(w:List Nat)(n:Bool)(a b:Nat):FM:=⟨6,w,n,a,b,7,1,1⟩
def zfb(w:List Nat)(a b c:Nat):FM:=⟨4,w,false,2,2,a,b,c⟩
def z9x:List FM:=[⟨0,[],false,0,0,0,0,0⟩,⟨1,[],false,0,0,7,0,0⟩,⟨2,[116,111,100,97,121],false,0,0,7,0,0⟩,atF [102,97,99,116,32],atF [104,97,115,32],atF [],oM [108,111,111,107] true 1 2,zfb [43] 5 5 6,zfb [45] 5 5 6,zfb [42] 6 6 7,zfb [47] 6 6 7,
 oM [109,105,110] false 2 2,oM [109,97,120] false 2 2,zfb [60] 4 5 5,zfb [61] 4 5 5,zfb [97,110,100] 2 2 3,zfb [111,114] 1 1 2,⟨5,[110,111,116,32],false,1,1,3,3,3⟩,oM [105,102] false 3 3,oM [114,111,117,110,100] false 2 2,oM [98,101,116,119,101,101,110] false 2 2,
 oM [115,101,114,118,105,99,101] true 2 2,oM [98,101,115,116] true 3 3,oM [103,114,111,119] true 2 2,oM [109,111,110,116,104,115] false 1 1,oM [110,117,109,98,101,114] false 1 1,oM [115,116,97,114,116] false 1 1]
def rN:List zA:=(z9x.map FM.cs).flatten
abbrev z8:List zA:=[.int .u8 0,.str [],.bool false,.int .i64 0,.int .i64 0,.int .i64 0,.int .i64 0,.int .i64 0]
def cv76{w:List Nat}{n:Bool}{a b:Nat}{K:rP->T}{Q:bB}(h:wp 83 (K (cellsOf (oM w n a b).cs)) t Q):wp 83 (.callv (.func (.func 108) [] []) [.str w,.bool n,.int .i64 (a:Int),.int .i64 (b:Int)] fun a=>.asG z8 a K) t Q:=by
 have e:xC yA F 108 [.str w,.bool n,.int .i64 (a:Int),.int .i64 (b:Int)] t=some (.agg (oM w n a b).cs):=by
  refine bC.2 (w108 _ _ _ _ ?_)
  simp only[t108,pA,if_true];constructor<;>trivial
 show sE (some (108,[zA.str w,.bool n,.int .i64 (a:Int),.int .i64 (b:Int)])) _
 rw[tA];simp only[];rw[q108,e,tA];exact h
def cv77{w:List Nat}{K:rP->T}{Q:bB}(h:wp 83 (K (cellsOf (atF w).cs)) t Q):wp 83 (.callv (.func (.func 109) [] []) [.str w] fun a=>.asG z8 a K) t Q:=by
 have e:xC yA F 109 [.str w] t=some (.agg (atF w).cs):=by
  refine bC.2 (w109 _ ?_)
  simp only[t109,pA,if_true];constructor<;>trivial
 show sE (some (109,[zA.str w])) _
 rw[tA];simp only[];rw[q109,e,tA];exact h
def cv78{w:List Nat}{a b c:Nat}{K:rP->T}{Q:bB}(h:wp 83 (K (cellsOf (zfb w a b c).cs)) t Q):wp 83 (.callv (.func (.func 110) [] []) [.str w,.int .i64 (a:Int),.int .i64 (b:Int),.int .i64 (c:Int)] fun a=>.asG z8 a K) t Q:=by
 have e:xC yA F 110 [.str w,.int .i64 (a:Int),.int .i64 (b:Int),.int .i64 (c:Int)] t=some (.agg (zfb w a b c).cs):=by
  refine bC.2 (w110 _ _ _ _ ?_)
  simp only[t110,pA,if_true];constructor<;>trivial
 show sE (some (110,[zA.str w,.int .i64 (a:Int),.int .i64 (b:Int),.int .i64 (c:Int)])) _
 rw[tA];simp only[];rw[q110,e,tA];exact h
def zdn{Q:bB}(h:∀b t',t.get b=none->yA.base<=b->jD t' b none rN->dA t t'->mD b t t'->Q (.ptr b 0) t'):Wc yA F 83 [] t Q:=by
 refine w83 ?_
 unfold t83;repeat (first | refine cv76 ?_ | refine cv77 ?_ | refine cv78 ?_ | refine uB rfl ?_)
 intro b hb hbase;obtain⟨t',h1,h2,h3,h4⟩:=xV hb rN none
 have e:∀l:List zA,l=rN->zpx (.agg l) ⟨b,t⟩=some (.ptr b 0,⟨b+1,t'⟩):=by
  intro l hl;show some (zA.ptr b 0,zE ⟨b,t⟩ l none)=_
  rw[hl,h1]
 rw[e _ (by rfl),tA]
 exact h b t' hb hbase h2 h3 h4
def zic{Q:bB}(h:∀b t',t.get b=none->yA.base<=b->jD t' b none rN->dA t t'->mD b t t'->Q (.agg [.ptr b 0]) t'):Wc yA F 63 [] t Q:=by
 refine w63 ?_
 unfold t63;refine dC ?_
 rw[q83];refine zdn fun b t' h1 h2 h3 h4 h5=>?_
 refine uB rfl (uB rfl ?_)
 exact h b t' h1 h2 h3 h4 h5
end Go.Proofs
namespace Go.Proofs
open Go Go.Am
section
variable [sC]
variable {t:Tr rA}
def tD(op:Nat):FM:=z9x.getD op ⟨0,[],false,0,0,0,0,0⟩
def pS{f:FM->List zA}(hf:∀x,(f x).length=8):∀(l:List FM) (i k:Nat),i<l.length->k<8->(l.map f).flatten[i*8+k]?=(f (l.getD i ⟨0,[],false,0,0,0,0,0⟩))[k]?
 | [],i,k,h,_=>by simp at h
 | x::l,0,k,h,hk=>by
  rw[ycm,yas,yco (by rw[hf];omega)]
  simp
 | x::l,i+1,k,h,hk=>by
  rw[ycm,yas,ybp (by rw[hf];omega),hf,show(i+1)*8+k-8=i*8+k by omega]
  rw[pS hf l i k (by simpa using h) hk]
  simp
def rS{op k:Nat}(h:op<27)(hk:k<8):rN[op*8+k]?=(tD op).cs[k]?:=pS (f:=FM.cs) (fun _=>rfl) z9x op k h hk
def zzv{b op:Nat}(h:op<27):lB yA 188 (.ptr b 0) (.int .u8 (op:Int))=some (.ptr b (op*8)):=by
 have hA:ob (yA.tys.get 188) (fun y=>y.desc.asArr)=some (27,159):=by kernel_rfl
 rw[sA]at hA;obtain⟨y,hy,hd⟩:=hA
 unfold lB;rw[hy,uA];have e:(zA.int .u8 (op:Int)).asNat=some op:=rfl
 rw[e,uA];simp only[zA.asSlice,zA.asPtr,uA,hd];rw[ty159,uA,kB.2 h,oD];simp
def kL{b o k:Nat}(hk:k<8):sB yA 159 k (.ptr b o)=some (.ptr b (o+k)):=by
 have h:nU yA 159 k=some k:=by
  unfold nU;rw[ty159,uA];simp only[nD.asStruct,uA];have:k=0\/k=1\/k=2\/k=3\/k=4\/k=5\/k=6\/k=7:=by omega
  rcases this with e | e | e | e | e | e | e | e<;>rw[e]<;>rfl
 unfold sB;rw[h];rfl
section
variable {b op:Nat}(hF:jD t b none rN)(h:op<27)
include hF h
def zre:mA yA 5 ⟨0,t⟩ (.ptr b (op*8+0))=some (.int .u8 (tD op).style):=hF.load1 ty5 rfl (by rw[rS h (by decide)];rfl)
def zyw:mA yA 9 ⟨0,t⟩ (.ptr b (op*8+1))=some (.str (tD op).word):=hF.load1 ty9 rfl (by rw[rS h (by decide)];rfl)
def zrf:mA yA 4 ⟨0,t⟩ (.ptr b (op*8+2))=some (.bool (tD op).named):=hF.load1 ty4 rfl (by rw[rS h (by decide)];rfl)
def z34:mA yA 3 ⟨0,t⟩ (.ptr b (op*8+3))=some (.int .i64 (tD op).least):=hF.load1 ty3 rfl (by rw[rS h (by decide)];rfl)
def z9a:mA yA 3 ⟨0,t⟩ (.ptr b (op*8+4))=some (.int .i64 (tD op).most):=hF.load1 ty3 rfl (by rw[rS h (by decide)];rfl)
def z33:mA yA 3 ⟨0,t⟩ (.ptr b (op*8+5))=some (.int .i64 (tD op).level):=hF.load1 ty3 rfl (by rw[rS h (by decide)];rfl)
def zog:mA yA 3 ⟨0,t⟩ (.ptr b (op*8+6))=some (.int .i64 (tD op).left):=hF.load1 ty3 rfl (by rw[rS h (by decide)];rfl)
def z32:mA yA 3 ⟨0,t⟩ (.ptr b (op*8+7))=some (.int .i64 (tD op).right):=hF.load1 ty3 rfl (by rw[rS h (by decide)];rfl)
end
def zG{a b:Int}(h:a≠b):lA a b≠true:=fun e=>h (gH.1 e)
def nLt{a b:Int}(h:¬ a<b):vC a b≠true:=fun e=>h (zD.1 e)
def nLe{a b:Int}(h:¬ a<=b):nC a b≠true:=fun e=>h (yG.1 e)
def yEq{a b:Int}(h:a=b):lA a b=true:=gH.2 h
def yLt{a b:Int}(h:a<b):vC a b=true:=zD.2 h
def yLe{a b:Int}(h:a<=b):nC a b=true:=yG.2 h
def bE{b o:Nat}:rC (.ptr b o)=some (.ptr b o):=rfl
def fO(op:Nat)(name:List Nat)(n:Nat):Bool:=
 decide (op<27) && !decide ((tD op).style=0)&&decide ((tD op).least<=n)&&decide (n<=(tD op).most)&&(if (tD op).named=true then zid name else cF name [])
def zly(op:Nat)(v:sF):Bool:=if op=19 then decide (1<=v.i)&&decide (v.i<=6)&&zso { v with i:=0 } else zso v
mutual
/-- is an expression printable at a depth? -/
def gD:qA->Nat->Bool
 | .mk op name v args,d=>decide (d<=24)&&fO op name args.length&&(if op=1 then vO v else zly op v&&iL args (d+1))
def iL:List qA->Nat->Bool
 | [],_=>true
 | x::l,d=>gD x d&&iL l d
end
def kV:∀ {l:List qA} {d:Nat},iL l d=l.all fun x=>gD x d
 | [],d=>by rw[iL];rfl
 | x::l,d=>by rw[iL,kV];rfl
def z58(p0_0:zA)(p1_0:Int)(p1_1:List Nat)(p1_2:Int)(p1_3:Bool)(p1_4:zA)(p1_5:Bool)(p1_6:zA)(p1_7:Int)(p1_8:zA)(p2:Int):T:=
 .ite (tC zA.one [(.int .u8 p1_2),(.bool p1_3),p1_4,(.bool p1_5),p1_6,(.int .i64 p1_7)]) (.ite (lA p1_0 1)
 (.call 85 [(.agg [(.int .u8 p1_2),(.bool p1_3),p1_4,(.bool p1_5),p1_6,(.int .i64 p1_7)])] fun a28=>
 .asB a28 fun b29=>.ret (.bool b29))
 (.ite (lA p1_0 19)
 (.ite (vC p1_7 1)
 (.ret (.bool false))
 (.ite (vC 6 p1_7)
 (.ret (.bool false))
 (.ite true (.jump 33 [(.int .i64 p2),p0_0,(.int .u8 p1_0),(.str p1_1),(.int .u8 p1_2),(.bool p1_3),p1_4,(.bool p1_5),p1_6,(.int .i64 p1_7),p1_8,(.int .u8 p1_2),(.bool p1_3),p1_4,(.bool p1_5),p1_6,(.int .i64 0)]) .fail)))
 (.jump 33 [(.int .i64 p2),p0_0,(.int .u8 p1_0),(.str p1_1),(.int .u8 p1_2),(.bool p1_3),p1_4,(.bool p1_5),p1_6,(.int .i64 p1_7),p1_8,(.int .u8 p1_2),(.bool p1_3),p1_4,(.bool p1_5),p1_6,(.int .i64 p1_7)]))) .fail
section
variable {op:Nat}{name:List Nat}{v:sF}{a b c:zA}{bf d:Nat}
def zsc{v2:Int}{v':sF}{R:Bool}{n:Nat}{c3:zA}(ha:jA t 1 (fD v'.f.n.limbs) a)(hb:jA t 1 (fD v'.f.d.limbs) b)(hf:v'.f.ok)(hc:zC c=some (.int .i64 (n:Int)))
  (hargs:jp 64 4 [.int .i64 v2,c,.int .i64 (n:Int),.int .i64 0,c3] t (fun x t'=>x=.bool R/\t'=t)) (p3:Bool) (p5:Bool) (p2 p7:Int) (p4 p6:zA) :
  jp 64 33 [.int .i64 v2,c3,.int .u8 (op:Int),.str name,.int .u8 p2,.bool p3,p4,.bool p5,p6,.int .i64 p7,c,.int .u8 v'.kind,.bool v'.f.n.neg,a,.bool v'.f.d.neg,b,.int .i64 v'.i] t (fun x t'=>x=.bool (zso v'&&R)/\t'=t):=by
 refine j64_33 _ _ _ _ _ _ _ _ _ _ _ _ _ _ _ _ _ ?_
 simp only[z6d,pA,q86,zi8 ha hb hf,tA,zA.asBool]
 cases hz:zso v' with
 | false=>simp
 | true=>
  simp only[Bool.not_true,ybq,if_false,hc,tA,qB,ycn];exact hargs
def z77{n:Nat}{R:Bool}(ha:jA t 1 (fD v.f.n.limbs) a)(hb:jA t 1 (fD v.f.d.limbs) b)(hf:qE.fit v.f)(hc:zC c=some (.int .i64 (n:Int)))
  (hargs:jp 64 4 [.int .i64 (d:Int),c,.int .i64 (n:Int),.int .i64 0,.ptr bf 0] t (fun x t'=>x=.bool R/\t'=t)) :
  wp 64 (z58 (.ptr bf 0) (op:Int) name (v.kind:Int) v.f.n.neg a v.f.d.neg b v.i c (d:Int)) t (fun x t'=>x=.bool (if op=1 then vO v else zly op v&&R)/\t'=t):=by
 unfold z58;refine uB ?_ ?_
 ·rw[iG];simp only[ycg,yck,ha.one,hb.one];rfl
 by_cases h1:op=1
 ·refine uB (yEq (by omega)) ?_
  simp only[pA,q85,zay ha hb hf,tA,zA.asBool,yab h1];constructor<;>trivial
 ·refine yC (zG (by omega)) ?_
  simp only[yaa h1];unfold zly;by_cases h2:op=19
  ·refine uB (yEq (by omega)) ?_
   simp only[yab h2];by_cases h3:1<=v.i
   ·refine yC (nLt (by omega)) ?_
    by_cases h4:v.i<=6
    ·refine yC (nLt (by omega)) (uB rfl ?_)
     have:=zsc (op:=op) (name:=name) (v':={ v with i:=0 }) ha hb hf.1 hc hargs v.f.n.neg v.f.d.neg v.kind v.i a b
     simp only[decide_eq_true h3,decide_eq_true h4,ycn];exact this
    ·refine uB (yLt (by omega)) ?_
     simp[pA,h4]
   ·refine uB (yLt (by omega)) ?_
    simp[pA,h3]
  ·refine yC (zG (by omega)) ?_
   simp only[yaa h2];exact zsc (op:=op) (name:=name) (v':=v) ha hb hf.1 hc hargs v.f.n.neg v.f.d.neg v.kind v.i a b
def z4k{n:Nat}{R:Bool}(hF:jD t bf none rN)(hop:op<256)(hn:n<lD)(hnl:name.length<lD)(ha:jA t 1 (fD v.f.n.limbs) a)(hb:jA t 1 (fD v.f.d.limbs) b)(hf:qE.fit v.f)(hc:zC c=some (.int .i64 (n:Int)))
  (hargs:d<=24->jp 64 4 [.int .i64 (d:Int),c,.int .i64 (n:Int),.int .i64 0,.ptr bf 0] t (fun x t'=>x=.bool R/\t'=t)) :
  xC yA F 64 [.agg [.ptr bf 0],.agg [.int .u8 op,.str name,.int .u8 v.kind,.bool v.f.n.neg,a,.bool v.f.d.neg,b,.int .i64 v.i,c],.int .i64 (d:Int)] t=some (.bool (decide (d<=24)&&fO op name n&&(if op=1 then vO v else zly op v&&R))):=by
 refine bC.2 (w64 _ _ _ _ _ _ _ _ _ _ _ ?_)
 unfold t64 fO;by_cases hd:d<=24
 case neg=>
  refine uB (yLt (by omega)) ?_
  simp[pA,hd]
 refine yC (nLt (by omega)) ?_
 have htail:=z77 (op:=op) (name:=name) (d:=d) (bf:=bf) ha hb hf hc (hargs hd)
 by_cases h27:op<27
 case neg=>
  refine uB (by rw[wrap_i64 (by omega) (by omega)];exact yLe (by omega)) ?_
  simp[pA,h27]
 refine yC (by rw[wrap_i64 (by omega) (by omega)];exact nLe (by omega)) ?_
 refine iA bE (iA (zzv h27) (iA bE (iA (kL (by decide)) (cC (zre hF h27) (pC ?_)))))
 by_cases hs:(tD op).style=0
 ·refine uB (yEq (by omega)) ?_
  simp[pA,hs]
 refine yC (zG (by omega)) ?_
 refine iA hc (pC (iA bE (iA (kL (by decide)) (cC (z34 hF h27) (pC ?_)))))
 by_cases hl:(tD op).least<=n
 case neg=>
  refine uB (yLt (by omega)) ?_
  simp[pA,hl]
 refine yC (nLt (by omega)) ?_
 refine iA hc (pC (iA bE (iA (kL (by decide)) (cC (z9a hF h27) (pC ?_)))))
 by_cases hm:n<=(tD op).most
 case neg=>
  refine uB (yLt (by omega)) ?_
  simp[pA,hm]
 refine yC (nLt (by omega)) ?_
 have hld:=zrf hF h27
 refine iA bE (iA (kL (by decide)) (cC hld (aG ?_)))
 simp only[decide_eq_true hd,decide_eq_true h27,decide_eq_false hs,decide_eq_true hl,decide_eq_true hm,ycn,ycl]
 cases hnm:(tD op).named with
 | true=>
  rw[hnm]at hld;simp only[if_true];refine uB rfl (dC ?_)
  rw[q84,z8z,tA];refine aG ?_
  cases hN:zid name with
  | false=>
   refine uB rfl ?_
   simp[pA]
  | true=>
   refine yC (by simp) (iA bE (iA (kL (by decide)) (cC hld (aG (yC (by simp) ?_)))))
   simp only[ycn];exact htail
 | false=>
  rw[hnm]at hld;simp only[ybq,if_false];refine yC (by simp) (iA bE (iA (kL (by decide)) (cC hld (aG (uB rfl ?_)))))
  cases hN:cF name []with
  | false=>
   refine uB rfl ?_
   simp[pA]
  | true=>
   refine yC (by simp) ?_
   simp only[ycn];exact htail
end
mutual
def z0e{bf:Nat}(hF:jD t bf none rN):∀(x:qA) (d:Nat) (cs:List zA),x.fit->d<1000->RD t x.d cs->xC yA F 64 [.agg [.ptr bf 0],.agg cs,.int .i64 (d:Int)] t=some (.bool (gD x d))
 | .mk op name v args,d,cs,hx,hd,h=>by
  obtain⟨a,b,c,rfl,ha,hb,hc⟩:=xI h
  simp only[qA.op,qA.name,qA.v,qA.args]at ha hb hc ⊢
  have hx':=hx
  unfold qA.fit at hx';unfold gD;refine z4k hF hx'.1 (n:=args.length) hx'.2.2.2.2.1 hx'.2.1 ha hb hx'.2.2.2.1.2.1 (by rw[hc.len,ybf]) fun hd'=>?_
  have:=zsi hF args args d c 0 hc rfl hx'.2.2.2.2.2 hx'.2.2.2.2.1 hd'
  exact this
def zsi{bf:Nat}(hF:jD t bf none rN):∀(l args:List qA) (d:Nat) (c:zA) (i:Nat),jA t 9 (args.map qA.d) c->args.drop i=l->qA.fits l->args.length<lD->d<=24 →
  jp 64 4 [.int .i64 (d:Int),c,.int .i64 (args.length:Int),.int .i64 (i:Int),.ptr bf 0] t (fun x t'=>x=.bool (iL l (d+1))/\t'=t)
 | [],args,d,c,i,hc,hl,hok,hsz,hd=>by
  have:=zem hl
  refine j64_4 _ _ _ _ _ ?_
  unfold z8c;refine yC (nLt (by omega)) ?_
  unfold iL;simp[pA]
 | x::l,args,d,c,i,hc,hl,hok,hsz,hd=>by
  obtain⟨h1,h2,h3⟩:=oY hl
  unfold lD at hsz;have hok':=hok
  unfold qA.fits at hok';refine j64_4 _ _ _ _ _ ?_
  obtain⟨pb,po,cs,g1,g2,g3,g4,g5⟩:=yF.at z19 (by simp) hc (i:=i) (d:=x.d) (by simp[h1])
  unfold z8c;refine uB (yLt (by omega)) (iA g1 (cC g2 ?_))
  rw[oP];refine uH (dH g5 x.zs) ?_
  have hmk:=g5.mk x.zs
  have hcs:[zA.int .u8 ((cellsOf cs).i 0),.str ((cellsOf cs).s 1),.int .u8 ((cellsOf cs).i 2),.bool ((cellsOf cs).b 3),(cellsOf cs).v 4,.bool ((cellsOf cs).b 5),(cellsOf cs).v 6,.int .i64 ((cellsOf cs).i 7),(cellsOf cs).v 8]=cs:=hmk
  rw[hcs];refine uB g5.all (dC ?_)
  rw[wrap_i64 (by omega) (by omega),show(d:Int)+1=((d+1:Nat):Int) by omega,q64,z0e hF x (d+1) cs hok'.1 (by omega) g5,tA]
  refine aG ?_
  unfold iL
  cases hE:gD x (d+1)with
  | false=>
   refine uB rfl ?_
   simp[pA]
  | true=>
   refine yC (by simp) (dE ?_)
   rw[wrap_i64 (by omega) (by omega),show(i:Int)+1=((i+1:Nat):Int) by omega]
   have:=zsi hF l args d c (i+1) hc h2 hok'.2 hsz hd
   simp only[ycn];exact this
end
end
section
variable [sC]
variable {t:Tr rA}
def bR:List Int:=[31,28,31,30,31,30,31,31,30,31,30,31]
def eJ(t:Tr rA):Prop:=At t 3 0 (bR.map fun n=>zA.int .i64 n)
def eJ.mono{t':Tr rA}(h:eJ t)(k:dA t t'):eJ t':=At.mono k h
def zcx(x:Int){k:Nat}(hk:0<k) : -(k:Int)<Int.tmod x k/\Int.tmod x k<k:=by
 have h:=Int.natAbs_tmod x k
 have h2:=ycy x.natAbs (show 0<(k:Int).natAbs by simpa using hk)
 omega
def z31(y:Int):Bool:=decide (Int.tmod y 4=0)&&(!decide (Int.tmod y 100=0)||decide (Int.tmod y 400=0))
def lenD (y m:Int):Int:=if m<1 then 0 else if 12<m then 0 else if m=2/\z31 y=true then 29 else bR.getD (m-1).toNat 0
def zyv(y:Int):Int:=wA .i64 ((wA .i64 ((wA .i64 (Int.tdiv y 4))-(wA .i64 (Int.tdiv y 100))))+(wA .i64 (Int.tdiv y 400)))
def zqa(v0 v3:Int):Nat->Int->Int->Int
 | 0,_,v4=>v4
 | k+1,v5,v4=>if v5<=Int.tmod v0 12 then zqa v0 v3 k (v5+1) (wA .i64 (v4+lenD v3 v5))else v4
def zft(m:Int):Int:=zqa m (wA .i64 (1900+(wA .i64 (Int.tdiv m 12)))) 11 1 (wA .i64 ((wA .i64 ((wA .i64 (365*(wA .i64 ((wA .i64 (1900+(wA .i64 (Int.tdiv m 12))))-1900))))+zyv (wA .i64 ((wA .i64 (1900+(wA .i64 (Int.tdiv m 12))))-1))))-zyv 1899))
def zda(P:Int->Bool):Nat->Nat->Nat->Int
 | 0,i,_=>(i:Int)
 | k+1,i,j=>if i<j then(if P (((i+j) / 2:Nat):Int)=true then zda P k i ((i+j) / 2)else zda P k ((i+j) / 2+1) j)else(i:Int)
def z89(y:Int):xC yA F 231 [.int .i64 y] t=some (.bool (z31 y)):=by
 refine bC.2 (w231 _ ?_)
 unfold t231 z31;by_cases h1:Int.tmod y 4=0
 ·refine uB (yEq h1) ?_
  by_cases h2:Int.tmod y 100=0
  ·refine yC (by rw[yEq h2];simp) ?_
   simp[pA,h1,h2,sN]
  ·refine uB ?_ ?_
   ·cases hq:lA (Int.tmod y 100) 0 with
    | true=>exact absurd hq (zG h2)
    | false=>rfl
   ·simp[pA,h1,h2]
 ·refine yC (zG h1) ?_
  simp[pA,h1]
def len_at(hG:eJ t){m:Int}(h1:1<=m)(h2:m<=12):∃b o,lB yA 275 (.ptr 3 0) (.int .i64 (wA .i64 (m-1)))=some (.ptr b o)/\mA yA 3 ⟨0,t⟩ (.ptr b o)=some (.int .i64 (bR.getD (m-1).toNat 0)):=by
 obtain⟨k,rfl⟩:∃k:Nat,m=(k:Int)+1:=⟨(m-1).toNat,by omega⟩
 have hk:k<12:=by omega
 have e0:((k:Int)+1-1).toNat=k:=by omega
 rw[wrap_i64 (by omega) (by omega),e0,show(k:Int)+1-1=(k:Int) by omega]
 have hx:(bR.map fun n=>zA.int .i64 n)[k]?=some (.int .i64 (bR.getD k 0)):=by
  have:k<bR.length:=hk
  simp[ybd this]
 refine⟨3,0+k,?_,hG.load1 ty3 rfl hx⟩
 unfold lB;rw[ty275,uA];have e:(zA.int .i64 (k:Int)).asNat=some k:=rfl
 rw[e,uA];simp only[zA.asSlice,zA.asPtr,uA,nD.asArr];rw[ty3,uA,kB.2 hk,oD];simp
def zn7(hG:eJ t)(y m:Int):xC yA F 219 [.int .i64 y,.int .i64 m] t=some (.int .i64 (lenD y m)):=by
 refine bC.2 (w219 _ _ ?_)
 unfold t219 lenD;by_cases h1:m<1
 ·rw[yab h1];exact uB (yLt h1) ⟨rfl,rfl⟩
 rw[yaa h1];refine yC (nLt h1) ?_
 by_cases h2:12<m
 ·rw[yab h2];exact uB (yLt h2) ⟨rfl,rfl⟩
 rw[yaa h2];refine yC (nLt h2) ?_
 obtain⟨b,o,g1,g2⟩:=len_at hG (m:=m) (by omega) (by omega)
 by_cases h3:m=2
 ·refine uB (yEq h3) (dC ?_)
  rw[q231,z89,tA];refine aG ?_
  cases hl:z31 y with
  | true=>rw[yab ⟨h3,rfl⟩];exact uB rfl ⟨rfl,rfl⟩
  | false=>rw[yaa (by simp)];exact yC (by simp) (iA g1 (cC g2 (pC ⟨rfl,rfl⟩)))
 ·rw[yaa (by simp[h3])]
  exact yC (zG h3) (iA g1 (cC g2 (pC ⟨rfl,rfl⟩)))
def zs8(hG:eJ t)(v0 v3:Int):∀(k:Nat) (v5 v4:Int),v5+k=12->1<=v5->jp 198 2 [.int .i64 v0,.int .i64 v3,.int .i64 v4,.int .i64 v5] t (fun v t'=>v=.int .i64 (zqa v0 v3 k v5 v4)/\t'=t):=by
 have hb:=zcx v0 (k:=12) (by omega)
 rw[show((12:Nat):Int)=12 from rfl]at hb
 intro k;induction k with
 | zero=>
  intro v5 v4 h1 h2;exact zzp _ _ _ _ (yC (nLe (by omega)) ⟨rfl,rfl⟩)
 | succ k ih=>
  intro v5 v4 h1 h2;unfold zqa;by_cases h3:v5<=Int.tmod v0 12
  ·rw[yab h3]
   refine zzp _ _ _ _ (uB (yLe h3) (dC ?_))
   rw[q219,zn7 hG,tA];refine pC (dE ?_)
   rw[wrap_i64 (n:=v5+1) (by omega) (by omega)]
   exact ih _ _ (by omega) (by omega)
  ·rw[yaa h3]
   exact zzp _ _ _ _ (yC (nLe h3) ⟨rfl,rfl⟩)
def zrd(y:Int):xC yA F 218 [.int .i64 y] t=some (.int .i64 (zyv y)):=bC.2 (w218 _ ⟨rfl,rfl⟩)
def zb5(hG:eJ t)(m:Int):xC yA F 198 [.int .i64 m] t=some (.int .i64 (zft m)):=by
 refine bC.2 (w198 _ (dC ?_))
 rw[q218,zrd,tA];refine pC (dC ?_)
 rw[q218,zrd,tA];exact pC (dE (zs8 hG m _ 11 1 _ (by omega) (by omega)))
def znj{v1:zA}{P:Int->Bool}(hcall:∀n:Int,∀(R:bB),R (.bool (P n)) t->sE (wP v1 [.int .i64 n]) fun p=>Wq yA F yJ p.1 p.2 t R) :
  ∀(k i j:Nat),j-i<=k->j<=100000->jp 216 2 [v1,.int .i64 (i:Int),.int .i64 (j:Int)] t (fun v t'=>v=.int .i64 (zda P k i j)/\t'=t):=by
 intro k;induction k with
 | zero=>
  intro i j h1 h2;exact zzn _ _ _ (yC (nLt (by omega)) ⟨rfl,rfl⟩)
 | succ k ih=>
  intro i j h1 h2;unfold zda;by_cases h3:i<j
  ·have e1:wA .i64 (Int.fdiv (wA .u64 (wA .i64 ((i:Int)+(j:Int)))) 2)=(((i+j) / 2:Nat):Int):=by
    rw[wrap_i64 (n:=(i:Int)+(j:Int)) (by omega) (by omega),gE (by omega) (by omega),Int.fdiv_eq_ediv_of_nonneg _ (by decide),wrap_i64 (by omega) (by omega)]
    omega
   rw[yab h3];refine zzn _ _ _ (uB (yLt (by omega)) ?_)
   show sE _ _
   rw[e1];refine hcall _ _ (aG ?_)
   cases hP:P (((i+j) / 2:Nat):Int)with
   | false=>
    rw[yaa (by simp)]
    refine uB rfl (dE ?_)
    rw[wrap_i64 (by omega) (by omega),show(((i+j) / 2:Nat):Int)+1=(((i+j) / 2+1:Nat):Int) by omega]
    exact ih _ _ (by omega) h2
   | true=>
    rw[yab rfl];exact yC (by simp) (dE (ih _ _ (by omega) (by omega)))
  ·rw[yaa h3]
   exact zzn _ _ _ (yC (nLt (by omega)) ⟨rfl,rfl⟩)
def bM(d:Int):Int:=zda (fun n=>vC d (zft (wA .i64 (n+1)))) 2154 0 2154
def ztt(hG:eJ t)(d:Int):xC yA F 197 [.int .i64 d] t=some (.int .i64 (bM d)):=by
 refine jN (w197 _ ?_)
 unfold t197;refine kH fun b hb hbase=>?_
 obtain⟨t',e,hc,hle,_⟩:=xV hb [.int .i64 d] none
 refine⟨.ptr b 0,⟨b+1,t'⟩,by show some (zA.ptr b 0,zE ⟨b,t⟩ [.int .i64 d] none)=_;rw[e],dC ?_⟩
 have hld:mA yA 3 ⟨0,t'⟩ (.ptr b 0)=some (.int .i64 d):=hc.load1 (j:=0) ty3 rfl rfl
 have:xC yA F 216 [.int .i64 2154,.func (.func 217) [] [.ptr b 0]] t'=some (.int .i64 (bM d)):=by
  refine bC.2 (w216 _ _ (dE ?_))
  refine znj (fun n R hR=>?_) 2154 0 2154 (by omega) (by omega)
  show sE (some (217,[zA.int .i64 n,.ptr b 0])) _
  rw[tA];simp only[];have:xC yA F 217 [zA.int .i64 n,.ptr b 0] t'=some (.bool (vC d (zft (wA .i64 (n+1))))):=by
   refine bC.2 (w217 _ _ (cC hld (pC (dC ?_))))
   rw[q198,zb5 (hG.mono hle),tA]
   exact pC (cC hld (uB wW ⟨rfl,rfl⟩))
  rw[q217,this,tA];exact hR
 rw[q216];exact Wc_pv this (pC ⟨rfl,hle⟩)
def ymdD (d:Int):zA:=.tup [.int .i64 (wA .i64 (1900+(wA .i64 (Int.tdiv (bM d) 12)))),.int .i64 (wA .i64 ((Int.tmod (bM d) 12)+1)),.int .i64 (wA .i64 ((wA .i64 (d-zft (bM d)))+1)),.int .i64 0]
def ymd_ok(hG:eJ t){d:Int}(h0:0<=d)(h1:d<65536):xC yA F 173 [.int .i64 d] t=some (ymdD d):=by
 have hd:xC yA F 196 [.int .i64 d] t=some (.bool true):=by
  refine bC.2 (w196 _ (uB (yLe h0) ?_))
  rw[yLt h1];exact⟨rfl,rfl⟩
 refine bC.2 (w173 _ (dC ?_))
 rw[q196,hd,tA];refine aG (yC (by simp) (dC ?_))
 rw[q197,ztt hG,tA];refine pC (dC ?_)
 rw[q198,zb5 hG,tA];exact pC ⟨rfl,rfl⟩
def cB (l:List Nat):List zA:=l.map fun(n:Nat)=>zA.int .u8 (n:Int)
def ten{l:List Nat}(h:l.length=10):∃a b c d e f g h i j,l=[a,b,c,d,e,f,g,h,i,j]:=by
 match l,h with
 | [a,b,c,d,e,f,g,h,i,j],_=>exact⟨a,b,c,d,e,f,g,h,i,j,rfl⟩
def nS{l:List Nat}:(cB l).length=l.length:=by simp[cB]
def cB_set{l:List Nat}{i x:Nat}:(cB l).set i (.int .u8 (x:Int))=cB (l.set i x):=by simp[cB,List.map_set]
def idx164{b i:Nat}(h:i<10):lB yA 236 (.ptr b 0) (.int .i64 (i:Int))=some (.ptr b i):=by
 unfold lB;rw[zv0,uA];have e:(zA.int .i64 (i:Int)).asNat=some i:=rfl
 rw[e,uA];simp only[zA.asSlice,zA.asPtr,uA,nD.asArr];rw[ty5,uA,kB.2 h,oD];simp
def fY{b:Nat}{l:List Nat}(h:jD t b none (cB l))(hl:l.length=10):mA yA 236 ⟨0,t⟩ (.ptr b 0)=some (.agg (cB l)):=by
 have:=h.at.load (C:=yA) (ty:=236) zv0 rfl (n:=10) rfl (j:=0) (by rw[nS];omega)
 rw[ybw]at this;rw[this];congr 2
 rw[ycr,yca (by rw[nS];omega)]
def zbt{b:Nat}{l m:List Nat}(h:jD t b none (cB l))(hb:yA.base<=b)(hl:l.length=10)(hm:m.length=10):∃t',(∀n,eC yA 236 (.ptr b 0) (.agg (cB m)) ⟨n,t⟩=some (pD,⟨n,t'⟩))/\jD t' b none (cB m)/\mD b t t':=by
 obtain⟨t',h1,h2,h3⟩:=h.store (C:=yA) hb (T:=236) (v:=.agg (cB m)) (j:=0) zv0 (by show(cB m).length=10;rw[nS,hm]) (by show 0+(cB m).length<=_;rw[nS,nS];omega) (by
  show tC zA.one (cB m)=true
  rw[iG,ycb];intro a ha;unfold cB at ha;obtain⟨n,_,rfl⟩:=yaq.1 ha
  rfl)
 refine⟨t',h1,?_,h3⟩
 have e:bL (cB l) 0 (zA.agg (cB m)).cells=cB m:=by
  show bL (cB l) 0 (cB m)=cB m
  unfold bL;rw[List.take_zero,yah,ybt (by rw[nS,nS];omega),ycd]
 rw[e]at h2;exact h2
abbrev z10:List zA:=[.int .u8 0,.int .u8 0,.int .u8 0,.int .u8 0,.int .u8 0,.int .u8 0,.int .u8 0,.int .u8 0,.int .u8 0,.int .u8 0]
def zl4{l:List Nat}(hl:l.length=10):kK z10 (.agg (cB l))=some (cellsOf (cB l)):=by
 obtain⟨a,b,c,d,e,f,g,h,i,j,rfl⟩:=ten hl
 exact sQ rfl
def zi1{l:List Nat}(hl:l.length=10):[zA.int .u8 ((cellsOf (cB l)).i 0),.int .u8 ((cellsOf (cB l)).i 1),.int .u8 ((cellsOf (cB l)).i 2),.int .u8 ((cellsOf (cB l)).i 3),.int .u8 ((cellsOf (cB l)).i 4),.int .u8 ((cellsOf (cB l)).i 5),.int .u8 ((cellsOf (cB l)).i 6),.int .u8 ((cellsOf (cB l)).i 7),.int .u8 ((cellsOf (cB l)).i 8),.int .u8 ((cellsOf (cB l)).i 9)]=cB l:=by
 obtain⟨a,b,c,d,e,f,g,h,i,j,rfl⟩:=ten hl
 rfl
def zzaa (x:Int):Nat:=(48+Int.tmod x 10).toNat
def z0t(x:Int):wA .u8 (wA .i64 (48+Int.tmod x 10))=((zzaa x:Nat):Int)/\zzaa x<256:=by
 have:=zcx x (k:=10) (by omega)
 rw[show((10:Nat):Int)=10 from rfl]at this
 unfold zzaa;rw[wrap_i64 (by omega) (by omega),zhc (by omega) (by omega)]
 omega
def wrL:Nat->Int->Nat->List Nat->List Nat
 | 0,_,_,l=>l
 | k+1,x,i,l=>wrL k (wA .i64 (Int.tdiv x 10)) (i-1) (l.set i (zzaa x))
def zcp:∀(k:Nat) (x:Int) (i:Nat) (l:List Nat),tB 256 l->(wrL k x i l).length=l.length/\tB 256 (wrL k x i l)
 | 0,x,i,l,h=>⟨rfl,h⟩
 | k+1,x,i,l,h=>by
  unfold wrL;have:=zcp k (wA .i64 (Int.tdiv x 10)) (i-1) (l.set i (zzaa x)) (fun y hy=>by
   rcases List.mem_or_eq_of_mem_set hy with h1 | h1
   ·exact h y h1
   ·rw[h1];exact(z0t x).2)
  rw[ydh]at this;exact this
def zjc{b:Nat}(hb:yA.base<=b){c0 c1 c2 c3 c4 c5 c6 c7 c8 c9:Int}:∀(k:Nat) (from_:Nat) (x:Int) (i:Int) (l:List Nat) (t:Tr rA),i+1=(from_:Int)+k->from_+k<=10->l.length=10->jD t b none (cB l) →
  jp 174 2 [.int .i64 (from_:Int),.int .i64 x,.ptr b 0,.int .i64 i,.int .u8 c0,.int .u8 c1,.int .u8 c2,.int .u8 c3,.int .u8 c4,.int .u8 c5,.int .u8 c6,.int .u8 c7,.int .u8 c8,.int .u8 c9] t (fun v t'=>v=.agg (cB (wrL k x i.toNat l))/\mD b t t'):=by
 intro k;induction k with
 | zero=>
  intro from_ x i l t h1 h2 h3 h4;refine z7b _ _ _ _ _ _ _ _ _ _ _ _ _ _ (yC (nLe (by omega)) (cC (fY h4 h3) (uH (zl4 h3) (uB rfl ?_))))
  show zA.agg _=_/\_
  rw[zi1 h3];exact⟨rfl,fun _ _=>rfl⟩
 | succ k ih=>
  intro from_ x i l t h1 h2 h3 h4;obtain⟨n,rfl⟩:∃n:Nat,i=(n:Int):=⟨i.toNat,by omega⟩
  refine z7b _ _ _ _ _ _ _ _ _ _ _ _ _ _ (uB (yLe (by omega)) (iA (idx164 (by omega)) (kH fun m _ _=>?_)))
  rw[(z0t x).1]
  obtain⟨t',g1,g2,g3⟩:=h4.store1 (v:=.int .u8 ((zzaa x:Nat):Int)) hb ty5 rfl rfl rfl (j:=n) (by rw[nS];omega)
  refine⟨_,_,g1 m,dE ?_⟩
  rw[cB_set]at g2;rw[wrap_i64 (n:=(n:Int)-1) (by omega) (by omega)]
  have:=ih from_ (wA .i64 (Int.tdiv x 10)) ((n:Int)-1) (l.set n (zzaa x)) t' (by omega) (by omega) (by rw[ydh];exact h3) g2
  refine Jq.mono this fun v t2 hh=>⟨?_,fun c hc=>by rw[hh.2 c hc,g3 c hc]⟩
  rw[hh.1];have e1:((n:Int)-1).toNat=n-1:=by omega
  have e2:((n:Int)).toNat=n:=by omega
  rw[e1,e2];rfl
def zsq{l:List Nat}(hl:l.length=10){from_ k:Nat}(hk:from_+k<=10)(h1:1<=from_+k)(x:Int):xC yA F 174 [.agg (cB l),.int .i64 (from_:Int),.int .i64 (k:Int),.int .i64 x] t=some (.agg (cB (wrL k x (from_+k-1) l))):=by
 obtain⟨a,b,c,d,e,f,g,h,i,j,rfl⟩:=ten hl
 refine jN ?_
 show Wf 174 [.agg [.int .u8 a,.int .u8 b,.int .u8 c,.int .u8 d,.int .u8 e,.int .u8 f,.int .u8 g,.int .u8 h,.int .u8 i,.int .u8 j],.int .i64 (from_:Int),.int .i64 (k:Int),.int .i64 x] t _
 refine w174 _ _ _ _ _ _ _ _ _ _ _ _ _ ?_
 unfold t174;refine kH fun n hn hbase=>?_
 obtain⟨t',e1,hc,hle,ho⟩:=xV hn (cB [a,b,c,d,e,f,g,h,i,j]) none
 refine⟨.ptr n 0,⟨n+1,t'⟩,by show some (zA.ptr n 0,zE ⟨n,t⟩ (cB [a,b,c,d,e,f,g,h,i,j]) none)=_;rw[e1],dE ?_⟩
 rw[wrap_i64 (n:=(from_:Int)+(k:Int)) (by omega) (by omega),wrap_i64 (by omega) (by omega)]
 have:=zjc (c0:=0) (c1:=0) (c2:=0) (c3:=0) (c4:=0) (c5:=0) (c6:=0) (c7:=0) (c8:=0) (c9:=0) hbase k from_ x ((from_:Int)+(k:Int)-1) _ t' (by omega) hk hl hc
 refine Jq.mono this fun v t2 hh=>⟨?_,fun b' y hy=>?_⟩
 ·rw[hh.1,show((from_:Int)+(k:Int)-1).toNat=from_+k-1 by omega]
 ·have:b'≠n:=fun e=>by rw[e,hn]at hy;cases hy
  rw[hh.2 b' this];exact hle _ _ hy
def z1f (d:Int):List Nat:=
 wrL 2 (wA .i64 ((wA .i64 (d-zft (bM d)))+1)) 9 (wrL 2 (wA .i64 ((Int.tmod (bM d) 12)+1)) 6 (wrL 4 (wA .i64 (1900+(wA .i64 (Int.tdiv (bM d) 12)))) 3 [0,0,0,0,45,0,0,45,0,0]))
def zsf(d:Int):(z1f d).length=10/\tB 256 (z1f d):=by
 have h0:tB 256 [0,0,0,0,45,0,0,45,0,0]:=by intro x hx;simp at hx;omega
 have h1:=zcp 4 (wA .i64 (1900+(wA .i64 (Int.tdiv (bM d) 12)))) 3 _ h0
 have h2:=zcp 2 (wA .i64 ((Int.tmod (bM d) 12)+1)) 6 _ h1.2
 have h3:=zcp 2 (wA .i64 ((wA .i64 (d-zft (bM d)))+1)) 9 _ h2.2
 exact⟨by unfold z1f;rw[h3.1,h2.1,h1.1];rfl,h3.2⟩
def z8j{K:zA->T}{Q:bB}{l:List Nat}{p from_ k:Nat}{x:Int}(hl:l.length=10)(hlt:tB 256 l)(hp:yA.base<=p)(hc:jD t p none (cB l))(hk:from_+k<=10)(h1:1<=from_+k)
  (h:∀t',jD t' p none (cB (wrL k x (from_+k-1) l))->mD p t t'->∀u,wp 147 (K u) t' Q) :
  wp 147 (.call 174 [.agg [(.int .u8 ((cellsOf (cB l)).i 0)),(.int .u8 ((cellsOf (cB l)).i 1)),(.int .u8 ((cellsOf (cB l)).i 2)),(.int .u8 ((cellsOf (cB l)).i 3)),(.int .u8 ((cellsOf (cB l)).i 4)),(.int .u8 ((cellsOf (cB l)).i 5)),(.int .u8 ((cellsOf (cB l)).i 6)),(.int .u8 ((cellsOf (cB l)).i 7)),(.int .u8 ((cellsOf (cB l)).i 8)),(.int .u8 ((cellsOf (cB l)).i 9))],.int .i64 (from_:Int),.int .i64 (k:Int),.int .i64 x] fun a=>.asG z10 a fun X=>
   .heavy (eC yA 236 (.ptr p 0) (.agg [(.int .u8 (X.i 0)),(.int .u8 (X.i 1)),(.int .u8 (X.i 2)),(.int .u8 (X.i 3)),(.int .u8 (X.i 4)),(.int .u8 (X.i 5)),(.int .u8 (X.i 6)),(.int .u8 (X.i 7)),(.int .u8 (X.i 8)),(.int .u8 (X.i 9))])) K) t Q:=by
 have hw:=zcp k x (from_+k-1) l hlt
 refine dC ?_
 rw[zi1 hl,q174,zsq hl hk h1,tA];refine uH (zl4 (by rw[hw.1,hl])) (kH fun n _ _=>?_)
 rw[zi1 (by rw[hw.1,hl])]
 obtain⟨t',g1,g2,g3⟩:=zbt hc hp hl (m:=wrL k x (from_+k-1) l) (by rw[hw.1,hl])
 exact⟨_,_,g1 n,h t' g2 g3 _⟩
def cal_ok(hG:eJ t){d:Int}(h0:0<=d)(h1:d<65536):xC yA F 147 [.int .i64 d] t=some (.str (z1f d)):=by
 refine jN (w147 _ ?_)
 unfold t147;refine dC ?_
 rw[q173,ymd_ok hG h0 h1,tA];unfold ymdD;refine iA rfl (pC (iA rfl (pC (iA rfl (pC (iA rfl (pC (yC (by rw[yEq rfl];simp) (uB rfl ?_)))))))))
 refine kH fun p hp hbase=>?_
 obtain⟨t1,e1,c1,l1,o1⟩:=rU (C:=yA) zv0 hp
 refine⟨_,_,e1,?_⟩
 have c1':jD t1 p none (cB [0,0,0,0,0,0,0,0,0,0]):=c1
 refine kH fun n _ _=>?_
 obtain⟨t2,e2,c2,o2⟩:=zbt c1' hbase rfl (m:=[0,0,0,0,45,0,0,45,0,0]) rfl
 refine⟨_,_,e2 n,?_⟩
 have h0':tB 256 [0,0,0,0,45,0,0,45,0,0]:=by intro x hx;simp at hx;omega
 refine cC (fY c2 rfl) (uH (zl4 rfl) ?_)
 refine z8j (from_:=0) (k:=4) rfl h0' hbase c2 (by omega) (by omega) fun t3 c3 o3 _=>?_
 have w3:=zcp 4 (wA .i64 (1900+(wA .i64 (Int.tdiv (bM d) 12)))) 3 _ h0'
 refine cC (fY c3 w3.1) (uH (zl4 w3.1) ?_)
 refine z8j (from_:=5) (k:=2) w3.1 w3.2 hbase c3 (by omega) (by omega) fun t4 c4 o4 _=>?_
 have w4:=zcp 2 (wA .i64 ((Int.tmod (bM d) 12)+1)) 6 _ w3.2
 rw[w3.1]at w4;refine cC (fY c4 w4.1) (uH (zl4 w4.1) ?_)
 refine z8j (from_:=8) (k:=2) w4.1 w4.2 hbase c4 (by omega) (by omega) fun t5 c5 o5 _=>?_
 have hL:=zsf d
 have c5':jD t5 p none (cB (z1f d)):=c5
 have hs:vG yA 236 ⟨0,t5⟩ (.ptr p 0) none none=some (.slice p 0 10 10):=by
  obtain⟨c,g,_⟩:=c5'
  have hk:xD ⟨0,t5⟩ p=some (c,(cB (z1f d)).length,none):=by unfold xD;rw[g];rfl
  unfold vG;rw[zv0,uA];unfold rK;simp only[zA.asStr,zA.asSlice,zA.asPtr,nD.asArr,uA];unfold vL;rw[ty5,uA];have hb2:nM 10 10 none none=some (0,10):=rfl
  rw[hb2,uA];unfold aI jH;rw[hk];rfl
 have hv:fK yA 38 9 ⟨0,t5⟩ (.slice p 0 10 10)=some (.str (z1f d)):=zuq zvz ty9 rfl rfl rfl ty5 rfl c5' hL.1 (fun j x hj=>by
  unfold cB;rw[ybu,hj];rfl) hL.2
 refine cC hs (cC hv (pJ ⟨rfl,fun b y hy=>?_⟩))
 have:b≠p:=fun e=>by rw[e,hp]at hy;cases hy
 rw[o5 b this,o4 b this,o3 b this,o2 b this];exact l1 _ _ hy
end
end Go.Proofs
namespace Go.Am
open Go Go.RowKit
def z1u{C:oA}{F:Tr vB}{f:Nat}{args:List zA}{t:Tr rA}{Q:bB}{g:List zA->xA->Option (zA × xA)}(hg:C.prims.get f=some g)(h:∀X HA,Ov C.base t X HA->∃v t' HA',g args HA=some (v,HA')/\Ov C.base t' X HA'/\Q v t')(hf:Nat.blt f yo=true:=by rfl):Wc C F f args t Q:=by
 intro X HA ho;rw[nV hf,hg];obtain⟨v,t',HA',h1,h2,h3⟩:=h X HA ho
 exact⟨v,t',HA',X,h1,h2,XLe.refl _,h3⟩
end Go.Am
namespace Go.Proofs
open Go Go.Am
variable [sC]
variable {t tf:Tr rA}{bx T:Nat}{s m:List Nat}{ex:List zA}
def BX (T:Nat)(ex:List zA)(tf t:Tr rA)(bx:Nat)(s:List Nat):Prop:=
 yA.base<=bx/\tf.get bx=none/\dA tf t/\tB 256 s/\zgf vV T (ex.length+2)=true/\∃p tv,(p=zA.nilptr\/p=.ptr bx 0)/\jD t bx (some (.ty T)) (p::tv::ex)/\wG (.ty 5) yA.base tf t 1 (pB .u8 s) tv/\¬ iI tv bx
def BX.le(h:BX T ex tf t bx s):dA tf t:=h.2.2.1
def BX.check{Q:bB}(h:BX T ex tf t bx s)(hQ:∀t',BX T ex tf t' bx s->Q (.tup []) t'):Wc yA F 144 [.ptr bx 0] t Q:=by
 have h0:=h
 obtain⟨h1,h2,h3,ha,hM,p,tv,hp,⟨c,h4,h4'⟩,h5,h6⟩:=h
 have hg:yA.prims.get 144=some pChk:=by kernel_rfl
 refine z1u hg fun X HA ho=>?_
 have hk:xD HA bx=some (c,(p::tv::ex).length,some (.ty T)):=by unfold xD;rw[ho.up h4];rfl
 have hc0:c.get 0=some p:=h4' 0 p rfl
 rcases hp with rfl | rfl
 ·refine⟨.tup [],t.set bx (.cells (c.set 0 (.ptr bx 0)) (zA.nilptr::tv::ex).length (some (.ty T))),setBlk HA bx (.cells (c.set 0 (.ptr bx 0)) (zA.nilptr::tv::ex).length (some (.ty T))),?_,ho.setBlk h4 _,hQ _ ?_⟩
  ·unfold pChk zdj
   simp only[];rw[hk,uA,hc0,uA];simp only[];have e1:(!Nat.blt bx (256+sC.n))=true:=by
    cases hq:Nat.blt bx (256+sC.n)with
    | true=>
     have h3:=kB.1 hq
     have h1':256+sC.n<=bx:=h1
     omega
    | false=>rfl
   have e2:zgf vV T (zA.nilptr::tv::ex).length=true:=hM
   rw[e1,e2];rfl
  ·refine⟨h1,h2,fun b u hb=>?_,ha,hM,.ptr bx 0,tv,.inr rfl,⟨_,by rw[Tr.get_set,yab rfl];rfl,fun j a hj=>?_⟩,h5.keep' fun b hb=>?_,h6⟩
   ·have:b≠bx:=fun e=>by rw[e,h2]at hb;cases hb
    rw[Tr.get_set,yaa this];exact h3 _ _ hb
   ·rw[Tr.get_set]
    split
    ·rename_i e;subst e;exact hj
    ·rename_i e
     refine h4' j a ?_
     cases j with
     | zero=>exact absurd rfl e
     | succ j=>exact hj
   ·have:b≠bx:=fun e=>h6 (e ▸ hb)
    rw[Tr.get_set,yaa this]
 ·refine⟨.tup [],t,HA,?_,ho,hQ _ h0⟩
  unfold pChk zdj;simp only[];rw[hk,uA,hc0,uA];simp only[];rw[oB.2 rfl,oB.2 rfl];rfl
def fa77{b:Nat}:sB yA 164 1 (.ptr b 0)=some (.ptr b 1):=by kernel_rfl
def BX.write{Q:bB}(h:BX T ex tf t bx s)(hm:m≠[])(hlt:tB 256 m)(hl:s.length+m.length<400000)(hQ:∀v t',BX T ex tf t' bx (s++m)->Q v t'):Wc yA F 119 [.ptr bx 0,.str m] t Q:=by
 refine w119 _ _ ?_
 unfold t119;refine dC ?_
 rw[q144];refine h.check fun t' h'=>?_
 obtain⟨h1,h2,h3,ha,hM,p,tv,hp,h4,h5,h6⟩:=h'
 refine iA bE (iA fa77 (cC (h4.load1 (j:=1) zvz rfl rfl) (kH fun n hn hbase=>?_)))
 have hbn:n≠bx:=by intro e;obtain⟨c,hh,_⟩:=h4;rw[<- e,hn]at hh;cases hh
 obtain⟨t1,g1,g2,g3,g4⟩:=zg5 el32 ⟨_,ty9,rfl⟩ co5 h5 hm hl hn hbase h3
 refine⟨_,_,g1,iA bE (iA fa77 (kH fun n2 _ _=>?_))⟩
 have h4':jD t1 bx (some (.ty T)) (p::tv::ex):=h4.off (g4 bx hbn.symm h6)
 obtain⟨t2,e1,e2,e3⟩:=h4'.store1 (v:=.slice n 0 (s.length+m.length) (s.length+m.length)) h1 zvz rfl rfl rfl (j:=1) (by simp)
 refine⟨_,_,e1 n2,hQ _ _ ⟨h1,h2,g3.off h2 e3,fun x hx=>?_,hM,p,_,hp,e2,g2.keep' fun b hb=>e3 b fun e=>?_,fun e=>?_⟩⟩
 ·rcases yaf.1 hx with hx | hx
  ·exact ha x hx
  ·exact hlt x hx
 ·rw[hO]at hb;exact hbn (hb.symm.trans e)
 ·rw[hO]at e;exact hbn e.symm
def BX.len(h:BX T ex tf t bx s):xC yA F 118 [.ptr bx 0] t=some (.int .i64 (s.length:Int)):=by
 obtain⟨h1,h2,h3,ha,hM,p,tv,hp,h4,h5,h6⟩:=h
 refine bC.2 (w118 _ ?_)
 unfold t118;have hlen:=h5.len
 rw[iE]at hlen;exact iA bE (iA fa77 (cC (h4.load1 (j:=1) zvz rfl rfl) (iA hlen (pC ⟨rfl,rfl⟩))))
def zdt:∀ {l:List Nat},tB 256 l->jF Go.Am.byteOf (l.map fun(n:Nat)=>zA.int .u8 (n:Int))=some l
 | [],_=>rfl
 | x::l,h=>by
  have hx:Go.Am.byteOf (.int .u8 (x:Int))=some x:=by
   show cA (Nat.blt x 256) (some x)=_
   rw[kB.2 (h x (.head _))];rfl
  rw[ycm,oK,hx,uA,zdt fun y hy=>h y (.tail _ hy)]
  rfl
def BX.string{Q:bB}(h:BX T ex tf t bx s)(hs:s≠[])(hl:s.length<400000)(hQ:∀t',dA tf t'->Q (.str s) t'):Wc yA F 88 [.ptr bx 0] t Q:=by
 obtain⟨h1,h2,h3,ha,hM,p,tv,hp,⟨c,h4,h4'⟩,h5,h6⟩:=h
 have hg:yA.prims.get 88=some pStr:=by kernel_rfl
 rcases h5 with⟨rfl,h5⟩ | ⟨b,cl,d,rfl,k0,k1,k2,k3,k4⟩
 ·exact absurd (ycc.1 (by rw[<- iE (k:=.u8),h5];rfl)) hs
 have hpos:0<s.length:=List.length_pos_iff.2 hs
 rw[iE,Nat.mul_one]at k2;rw[eS]at k4;subst k4;have hbytes:∀j a,(s.map fun(n:Nat)=>zA.int .u8 (n:Int))[j]?=some a->d.get j=some a:=by
  intro j a hj;have hj':(pM .u8 s)[j]?=some [a]:=by
   unfold pM;rw[ybu]at hj ⊢
   cases hx:s[j]? with
   | none=>rw[hx]at hj;cases hj
   | some x=>rw[hx]at hj;cases hj;rfl
  have:=(k3 j _ hj').2 0 a rfl
  rw[Nat.mul_one,yct]at this;exact this
 refine z1u hg fun X HA ho=>?_
 have hk:xD HA bx=some (c,(p::zA.slice b 0 (pB .u8 s).length (pB .u8 s).length::ex).length,some (.ty T)):=by unfold xD;rw[ho.up h4];rfl
 have hk2:xD HA b=some (d,s.length,some (.ty 5)):=by unfold xD;rw[ho.up k2];rfl
 have hc1:=h4' 1 _ rfl
 refine⟨.str s,t.del b,⟨HA.next,HA.t.del b⟩,?_,ho.delBlk k2,hQ _ fun e u he=>?_⟩
 ·unfold pStr zV
  simp only[];rw[hk,uA,hc1,uA];simp only[zA.asSlice,uA,iE];rw[hk2,uA];simp only[];have hm:=zyj hbytes s.length 0 (by simp)
  rw[ycr,yca (by simp)]at hm
  rw[hm,uA,zdt ha,uA];have e1:(!Nat.blt b (256+sC.n))=true:=by
   cases hq:Nat.blt b (256+sC.n)with
   | true=>
    have h3:=kB.1 hq
    have h1':256+sC.n<=b:=k0
    omega
   | false=>rfl
  rw[e1,oB.2 rfl,kB.2 hpos,dD.2 (ybk _),kB.2 (show s.length<1000000000 by omega),oB.2 rfl]
  rfl
 ·have:e≠b:=fun h=>by rw[h,k1]at he;cases he
  rw[Tr.get_del,yaa this];exact h3 _ _ he
end Go.Proofs
namespace Go.Proofs
open Go Go.Am
variable [sC]
variable {t:Tr rA}
def zfl(date:List Nat)(v:sF):List Nat:=
 if v.kind=1 then(if v.i=1 then [116,114,117,101]else [102,97,108,115,101])
 else if v.kind=2 then qK (zK v.f)
 else if v.kind=3 then [109,111,110,101,121,32]++qK (zK v.f)
 else if v.kind=4 then date
 else if v.kind=5 then qK (kJ v.i)++[32,100,97,121,115]
 else if v.kind=6 then qK (kJ v.i)++[32,109,111,110,116,104,115]
 else []
def nX(s:List Nat):(qK s).length<=s.length+6:=by
 unfold qK;split
 ·rw[ybg,ydj]
  show 6+(s.length-1)<=_
  omega
 ·omega
def zb8{v:sF}(h:vO v=true)(hk:v.kind=2\/v.kind=3):mN v.f=true:=by
 unfold vO at h;rw[yab hk]at h;simp only[ybb]at h;have:=h.2
 unfold zqs at this;simp only[ybb]at this;exact this.1.2
def zjg{a:sF}{u v:zA}{date:List Nat}(hu:jA t 1 (fD a.f.n.limbs) u)(hv:jA t 1 (fD a.f.d.limbs) v)(hf:sF.fit a)(hp:vO a=true)(hd:a.kind=4->xC yA F 147 [.int .i64 a.i] t=some (.str date)):xC yA F 120 [.agg [.int .u8 a.kind,.bool a.f.n.neg,u,.bool a.f.d.neg,v,.int .i64 a.i]] t=some (.str (zfl date a)):=by
 obtain⟨_,hff,hi1,hi2⟩:=hf
 have hil:=zih hi1 hi2
 have hsl:=nX (kJ a.i)
 have kk:∀j:Int,lA (a.kind:Int) j=decide ((a.kind:Int)=j):=fun j=>sN
 refine bC.2 (w120 _ _ _ _ _ _ ?_)
 simp only[t120,pA,kk];unfold zfl;by_cases k1:a.kind=1
 ·have e:(a.kind:Int)=1:=by omega
  have hb:xC yA F 145 [.bool (lA a.i 1)] t=some (.str (if a.i=1 then [116,114,117,101]else [102,97,108,115,101])):=by
   refine bC.2 (w145 _ ?_)
   have h94:xC yA F 171 [.bool (lA a.i 1)] t=some (.str (if a.i=1 then [116,114,117,101]else [102,97,108,115,101])):=by
    refine bC.2 (w171 _ ?_)
    by_cases h:a.i=1<;>simp[t171,pA,sN,h]
   simp only[t145,pA,q171,h94,tA,zA.asStr];first | exact⟨rfl,rfl⟩ | exact⟨trivial,trivial⟩ | exact⟨rfl,trivial⟩
  simp[e,k1,q145,hb,zA.asStr]
 have e1:¬ (a.kind:Int)=1:=by omega
 by_cases k2:a.kind=2
 ·have e:(a.kind:Int)=2:=by omega
  simp[e,k2,q146,zec hu hv hff (zb8 hp (.inl k2)),zA.asStr]
 have e2:¬ (a.kind:Int)=2:=by omega
 by_cases k3:a.kind=3
 ·have e:(a.kind:Int)=3:=by omega
  have hl:=zed hff (zb8 hp (.inr k3))
  have hl2:=nX (zK a.f)
  have:=sL (a:=[109,111,110,101,121,32]) (b:=qK (zK a.f)) (by simp;omega)
  simp[e,k3,q146,zec hu hv hff (zb8 hp (.inr k3)),zA.asStr,this]
 have e3:¬ (a.kind:Int)=3:=by omega
 by_cases k4:a.kind=4
 ·have e:(a.kind:Int)=4:=by omega
  simp[e,k4,q147,hd k4,zA.asStr]
 have e4:¬ (a.kind:Int)=4:=by omega
 by_cases k5:a.kind=5
 ·have e:(a.kind:Int)=5:=by omega
  have:=sL (a:=qK (kJ a.i)) (b:=[32,100,97,121,115]) (by simp;omega)
  simp[e,k5,q148,zgn hi1 hi2,zA.asStr,this]
 have e5:¬ (a.kind:Int)=5:=by omega
 by_cases k6:a.kind=6
 ·have e:(a.kind:Int)=6:=by omega
  have:=sL (a:=qK (kJ a.i)) (b:=[32,109,111,110,116,104,115]) (by simp;omega)
  simp[e,k6,q148,zgn hi1 hi2,zA.asStr,this]
 have e6:¬ (a.kind:Int)=6:=by omega
 simp[e1,e2,e3,e4,e5,e6,k1,k2,k3,k4,k5,k6]
end Go.Proofs
