/- commonDivisor. -/
import Derived.Test.YtfijloeeppcipaaGreatDoorB21
set_option linter.all false
noncomputable section
set_option maxRecDepth 100000
namespace Go.Proofs
open Go Go.Am
variable [nC]
variable {t:Tr rA}
theorem aM{c:Prop}{d:Decidable c}{P Q:Prop}(h:c)(k:P):@ite Prop c d P Q:=by rw[if_pos h];exact k
theorem ite_no{c:Prop}{d:Decidable c}{P Q:Prop}(h:¬ c)(k:Q):@ite Prop c d P Q:=by rw[if_neg h];exact k
theorem zoc{Q:aB}:∀(y x:Nat),x<18446744073709551616->y<18446744073709551616->(∀t' r rv,zB t t'->jA t' 1 (pB .u32 r) rv->tB BB r->norm r->val BB r=Nat.gcd x y->Q rv t')->jp 226 6 [.int .u64 (x:Int),.int .u64 (y:Int)] t Q:=by
 have hBB:=qK
 intro y;induction y using Nat.strongRecOn with
 | ind y ih=>
  intro x hx hy hQ;refine j226_6 _ _ ?_
  simp only[z5i,qA,zhz];by_cases h0:y=0
  ·subst h0
   rw[if_neg (by simp)]
   simp only[q241];refine z11 hx fun t' v' h1 h2=>?_
   have a1:=zl0 hx
   have a2:=zr0 x
   rw[<- hBB]at a1 a2;exact hQ t' (zfo x) v' h1 h2 a1 (znl x) (by rw[a2,Nat.gcd_zero_right])
  ·rw[if_pos (by omega),zb6 (by omega),tA,qB,tA]
   have hm:=ybz x (show 0<y by omega)
   have hg:=z81 (x:=x) (y:=y)
   generalize x%y=z at *
   exact ih z hm y hy (by omega) fun t' r rv k1 k2 k3 k4 k5=>hQ t' r rv k1 k2 k3 k4 (by rw[k5,hg])
theorem zxr{l:List Nat}{v:zA}(hv:jA t 1 (pB .u32 l) v)(hl:l.length<=2)(hlt:tB BB l):wC yA F 240 [v] t=some (.int .u64 ((val BB l:Nat):Int)):=by
 have hBB:=qK
 rw[hBB]at hlt ⊢
 exact z8d hv hl hlt
theorem z0d{la lb:List Nat}{pa pb:zA}{Q:aB}(ha:jA t 1 (pB .u32 la) pa)(hb:jA t 1 (pB .u32 lb) pb)(hal:tB BB la)(hbl:tB BB lb)(hla:la.length<=2)(hlb:lb.length<=2)
  (hQ:∀t' r rv,zB t t'->jA t' 1 (pB .u32 r) rv->tB BB r->norm r->val BB r=Nat.gcd (val BB la) (val BB lb)->Q rv t'):jp 226 33 [pa,pb] t Q:=by
 have hBB:=qK
 have b1:=zji mG hal hla
 have b2:=zji mG hbl hlb
 refine z8p _ _ ?_
 simp only[zvv,qA,q240,zxr ha hla hal,zxr hb hlb hbl,tA,qB];rw[hBB]at b1 b2;have hBB':∀l,val 4294967296 l=val BB l:=fun l=>by rw[hBB]
 rw[hBB']at b1 b2;exact zoc _ _ b1 b2 hQ
theorem z0e{Q:aB}{t0:Tr rA}{G:Nat}(hQ:∀t' r rv,zB t0 t'->jA t' 1 (pB .u32 r) rv->tB BB r->norm r->val BB r=G->Q rv t'):∀(n:Nat) (la lb:List Nat) (pa pb:zA) (t:Tr rA),val BB la+val BB lb=n->zB t0 t->jA t 1 (pB .u32 la) pa->jA t 1 (pB .u32 lb) pb->tB BB la->tB BB lb->norm la->norm lb->val BB lb<=val BB la->la.length<700000->Nat.gcd (val BB la) (val BB lb)=G->jp 226 2 [pa,pb] t Q:=by
 have hBB:=qK
 have hB1:1<BB:=by omega
 intro n;induction n using Nat.strongRecOn with
 | ind n ih=>
  intro la lb pa pb t hn ht ha hb hal hbl han hbn hle hlen hg;have hlb:lb.length<=la.length:=uO hB1 hal hbn hle
  refine j226_2 _ _ ?_
  simp only[z5j,qA,hb.len,tA,qB,lE,zD];by_cases h2:2<lb.length
  ·rw[if_pos (by omega)]
   have hb0:lb≠[]:=by intro e;subst e;simp at h2
   have hbpos:0<val BB lb:=by
    rcases Nat.eq_zero_or_pos (val BB lb)with h | h
    ·exact absurd (eX mG hbn h) hb0
    ·exact h
   obtain⟨m,hm⟩:∃m,la.length=m+3:=⟨la.length-3,by omega⟩
   obtain⟨top,htop⟩:=getElem?_of_lt (l:=la) (i:=m+2) (by omega)
   have ha0:la≠[]:=by intro e;subst e;simp at hm
   have ht0:0<top:=by
    have:=han ha0
    have hlast:la.getLast ha0=top:=by
     rw[List.getLast_eq_getElem];have:la[la.length-1]?=some top:=by rw[hm];exact htop
     rw[yae (by omega)]at this
     exact ybj this
    rw[hlast]at this;omega
   rw[q237];refine zm2 ha hb hal hbl hm (by omega) (by omega) htop ht0 hle fun u0 u1 v0 v1 ev W hW hA hB hL=>?_
   have eG:rK [(.int .u64 0),(.int .u64 0),(.int .u64 0),(.int .u64 0),(.bool false)] (.agg [.int .u64 (u0:Int),.int .u64 (u1:Int),.int .u64 (v0:Int),.int .u64 (v1:Int),.bool ev])=some (cellsOf [.int .u64 (u0:Int),.int .u64 (u1:Int),.int .u64 (v0:Int),.int .u64 (v1:Int),.bool ev]):=yQ rfl
   rw[eG];simp only[tA,cellsOf,zyv,cQ,yaa,yab,if_true,aV];by_cases hv0:v0=0
   ·refine aM (cH.2 (by omega)) ?_
    rw[q238];refine zle ha hb hlen hal hbl han hbn hb0 fun t' q r qv rv k1 k2 k3 k4 k5 k6 k7 k8 k9=>?_
    simp only[sB,zA.asTup,uA,pF,yaa,yab,tA];refine ih (val BB lb+val BB r) (by omega) lb r pb rv t' rfl (ht.trans k1) (hb.mono k1) k3 hbl k5 hbn k7 (by omega) (by omega) ?_
    rw[zy9 k8];exact hg
   ·refine ite_no (fun e=>absurd (cH.1 e) (by omega)) ?_
    rcases hL with h | hL
    ·exact absurd h hv0
    obtain⟨s1,s2,s3,s4⟩:=zo4 hA hB hL
    have eA:val BB la=W*(val BB la / W)+val BB la%W:=(ybi _ _).symm
    have eB:val BB lb=W*(val BB lb / W)+val BB lb%W:=(ybi _ _).symm
    obtain⟨X,Y,l1,l2,l3,l4,l5,l6⟩:=lehmer eA eB (ybz _ hW) (ybz _ hW) hL
    have hgg:=zy8 l1 l2 l4 l5
    have hXA:X<=val BB la:=by
     have:X<=v1*X:=Nat.le_mul_of_pos_left _ (by
      obtain⟨x,y,_,_,_,_,_,_,w2,w3⟩:=hL;omega)
     omega
    cases ev with
    | true=>
     obtain⟨m1,m2⟩:=l1 rfl
     simp only[if_true];rw[q239];refine mY ha hb hal hbl s1 s3 hlen (by omega) (by omega) fun t1 r1 rv1 k1 k2 k3 k4 k5=>?_
     rw[q239];refine mY (hb.mono k1) (ha.mono k1) hbl hal s4 s2 (by omega) hlen (by omega) fun t2 r2 rv2 j1 j2 j3 j4 j5=>?_
     have e1:val BB r1=X:=by omega
     have e2:val BB r2=Y:=by omega
     refine ih (val BB r1+val BB r2) (by omega) r1 r2 rv1 rv2 t2 rfl (ht.trans (k1.trans j1)) (k2.mono j1) j2 k3 j3 k4 j4 (by omega) ?_ (by rw[e1,e2,hgg];exact hg)
     have:=uO hB1 hal k4 (by rw[e1];exact hXA)
     omega
    | false=>
     obtain⟨m1,m2⟩:=l2 rfl
     simp only[if_true,yar,if_false];rw[q239];refine mY hb ha hbl hal s3 s1 (by omega) hlen (by omega) fun t1 r1 rv1 k1 k2 k3 k4 k5=>?_
     rw[q239];refine mY (ha.mono k1) (hb.mono k1) hal hbl s2 s4 hlen (by omega) (by omega) fun t2 r2 rv2 j1 j2 j3 j4 j5=>?_
     have e1:val BB r1=X:=by omega
     have e2:val BB r2=Y:=by omega
     refine ih (val BB r1+val BB r2) (by omega) r1 r2 rv1 rv2 t2 rfl (ht.trans (k1.trans j1)) (k2.mono j1) j2 k3 j3 k4 j4 (by omega) ?_ (by rw[e1,e2,hgg];exact hg)
     have:=uO hB1 hal k4 (by rw[e1];exact hXA)
     omega
  ·rw[if_neg (by omega)]
   simp only[cH];by_cases h0:lb.length=0
   ·rw[if_pos (by omega)]
    have:lb=[]:=ybd.1 h0
    subst this;refine hQ t la pa ht ha hal han ?_
    rw[<- hg];simp only[val];rw[Nat.gcd_zero_right]
   ·rw[if_neg (by omega)]
    simp only[ha.len,tA,qB,lE,zD];have hb0:lb≠[]:=by intro e;subst e;simp at h0
    by_cases h3:2<la.length
    ·rw[if_pos (by omega),q238]
     refine zle ha hb hlen hal hbl han hbn hb0 fun t' q r qv rv k1 k2 k3 k4 k5 k6 k7 k8 k9=>?_
     simp only[sB,zA.asTup,uA,pF,yaa,yab,tA];have:=uO hB1 hbl k7 (Nat.le_of_lt k9)
     refine z0d (hb.mono k1) k3 hbl k5 (by omega) (by omega) fun t2 r2 rv2 j1 j2 j3 j4 j5=>?_
     exact hQ t2 r2 rv2 (ht.trans (k1.trans j1)) j2 j3 j4 (by rw[j5,zy9 k8];exact hg)
    ·rw[if_neg (by omega)]
     refine z0d ha hb hal hbl (by omega) (by omega) fun t2 r2 rv2 j1 j2 j3 j4 j5=>?_
     exact hQ t2 r2 rv2 (ht.trans j1) j2 j3 j4 (by rw[j5];exact hg)
theorem cd_ok{la lb:List Nat}{pa pb:zA}{Q:aB}(ha:jA t 1 (pB .u32 la) pa)(hb:jA t 1 (pB .u32 lb) pb)(hal:tB BB la)(hbl:tB BB lb)(han:norm la)(hbn:norm lb)(hla:la.length<700000)(hlb:lb.length<700000)
  (hQ:∀t' r rv,zB t t'->jA t' 1 (pB .u32 r) rv->tB BB r->norm r->val BB r=Nat.gcd (val BB la) (val BB lb)->Q rv t'):Wc yA F 226 [pa,pb] t Q:=by
 have hBB:=qK
 have hB1:1<BB:=by omega
 have hlt:=zz9 hB1 hal hbl han hbn
 refine w226 _ _ ?_
 simp only[t226,qA,q236,z6q (by omega) ha hb,tA,qB,zD]
 by_cases hc:pJ la lb<0
 ·rw[if_pos hc]
  have:=hlt.1 hc
  exact z0e hQ _ lb la pb pa t rfl (zB.refl _) hb ha hbl hal hbn han (by omega) hlb (Nat.gcd_comm _ _)
 ·rw[if_neg hc]
  have:val BB lb<=val BB la:=Nat.le_of_not_lt fun h=>hc (hlt.2 h)
  exact z0e hQ _ la lb pa pb t rfl (zB.refl _) ha hb hal hbl han hbn this hla rfl
end Go.Proofs
namespace Go.Proofs
open Go Go.Am
variable [nC]
variable {t:Tr rA}
theorem zag{neg:Bool}{l:List Nat}(h:wJ neg l=true):norm l:=by
 intro hne;unfold wJ at h;rw[if_neg hne,yac]at h;have:=of_decide_eq_true h.2
 intro e;exact this (by rw[List.getLast?_eq_some_getLast hne,e])
theorem zix{l:List uH}{v:zA}(hv:jA t 2 (l.map uH.d) v)(hb:∀w∈l,w.limbs.length<1125899906842624)(hn:l.length<1125899906842624):∀(k i:Nat),i+k=l.length->jp 224 2 [v,.int .i64 (l.length:Int),.int .i64 (i:Int)] t (fun r m=>r=.bool ((l.drop i).all fun w=>wJ w.neg w.limbs)/\m=t):=by
 intro k;induction k with
 | zero=>
  intro i hi;refine z6a _ _ _ ?_
  simp only[zvx,qA,zD];rw[if_neg (by omega),yau (by omega)]
  (first | exact⟨rfl,rfl⟩ | exact⟨rfl,trivial⟩ | trivial)
 | succ k ih=>
  intro i hi;have hlt:i<l.length:=by omega
  have hx:l[i]?=some l[i]:=yae hlt
  obtain⟨b,off,cs,g1,g2,_,_,g5⟩:=lF.at sl279 (by simp) hv (i:=i) (d:=l[i].d) (by simp[hx])
  obtain⟨u,rfl,hu⟩:=nU g5
  have hv1:=zbu (neg:=l[i].neg) (hb _ (ybk hlt)) hu
  refine z6a _ _ _ ?_
  simp only[zvx,qA,zD];rw[if_pos (by omega),g1,tA,g2,vP,tA,rI g5 (uH.zs _)]
  simp only[tA,cellsOf,cQ,zi9,yaa,yab];have hone:tC zA.one [.bool l[i].neg,u]=true:=by
   show(bif zA.one (.bool l[i].neg)then(bif zA.one u then true else false)else false)=true
   rw[hu.one];rfl
  refine aM hone ?_
  rw[q187,hv1];simp only[tA,bT,zh0];rw[yam hlt,ybh]
  cases hq:wJ l[i].neg l[i].limbs with
  | false=>simp
  | true=>
   simp only[ybo,Bool.true_eq_false,if_false];rw[wrap_i64 (by omega) (by omega)]
   exact ih (i+1) (by omega)
theorem zo1{l:List uH}{v:zA}(hv:jA t 2 (l.map uH.d) v)(hb:∀w∈l,w.limbs.length<1125899906842624)(hn:l.length<1125899906842624):wC yA F 224 [v] t=some (.bool (l.all fun w=>wJ w.neg w.limbs)):=by
 refine fC.2 (w224 _ ?_)
 simp only[t224,qA,hv.len,tA,qB,yag];have:=zix hv hb hn l.length 0 (by omega)
 rw[ybs]at this;exact this
theorem gcd_ok{n d:uH}{u v:zA}{Q:aB}(hu:jA t 1 (cD n.limbs) u)(hv:jA t 1 (cD d.limbs) v)(hn:n.limbs.length<700000)(hd:d.limbs.length<700000)(hnl:tB 65536 n.limbs)(hdl:tB 65536 d.limbs)(hnv:wJ n.neg n.limbs=true)(hdv:wJ d.neg d.limbs=true)
  (hQ:∀t' g rv,zB t t'->jA t' 1 (cD g) rv->tB 65536 g->norm g->val 65536 g=Nat.gcd (val 65536 n.limbs) (val 65536 d.limbs)->Q (.tup [.agg [.bool false,rv],.int .i64 0]) t'):Wc yA F 210 [.agg [.bool n.neg,u],.agg [.bool d.neg,v]] t Q:=by
 have hBB:=qK
 refine w210 _ _ _ _ ?_
 simp only[t210,qA];intro b hb hbase;obtain⟨t1,g1,g2,g3,g4⟩:=zkj (C:=yA) (T:=279) (el:=29) (sz:=2) (n:=2) (cl:=[[.bool n.neg,u],[.bool d.neg,v]]) (ps:=[(0,.agg [.bool n.neg,u]),(1,.agg [.bool d.neg,v])]) ty279 rfl ty29 rfl rfl (by decide) rfl (fun i cs hi=>by
  rcases i with _ | _ | i
  ·simp at hi;subst hi;rfl
  ·simp at hi;subst hi;rfl
  ·simp at hi) rfl hb
 rw[g1,tA];have hw:jA t1 2 ([n,d].map uH.d) (.slice b 0 2 2):=⟨_,g2,by
  simp only[ybn,List.map_nil,vF,sH];refine⟨_,_,rfl,?_,_,_,rfl,?_,rfl⟩
  ·unfold uH.d
   rw[wI];refine⟨[[.bool n.neg],[u]],rfl,?_⟩
   simp only[vF,sH,uR,fK];exact⟨_,_,rfl,rfl,_,_,rfl,⟨u,rfl,hu.mono g3⟩,rfl⟩
  ·unfold uH.d
   rw[wI];refine⟨[[.bool d.neg],[v]],rfl,?_⟩
   simp only[vF,sH,uR,fK];exact⟨_,_,rfl,rfl,_,_,rfl,⟨v,rfl,hv.mono g3⟩,rfl⟩⟩
 have hall:=zo1 hw (fun w hw=>by
  rcases yat.1 hw with rfl | hw
  ·omega
  ·rw[yce.1 hw];omega) (by simp)
 rw[q224,hall];simp only[tA,bT,zh0,ybh,ybl,hnv,hdv,Bool.and_self,Bool.true_eq_false,if_false];rw[q190];refine znf (hu.mono g3) (by omega) hnl fun t2 v2 k1 k2=>?_
 rw[if_pos hv.same,q190];refine znf ((hv.mono g3).mono k1) (by omega) hdl fun t3 v3 m1 m2=>?_
 have an:=bW hnl
 have ad:=bW hdl
 rw[<- hBB]at an ad;rw[q226];refine cd_ok (k2.mono m1) m2 an ad (fX (zag hnv)) (fX (zag hdv)) (by rw[mN];omega) (by rw[mN];omega) fun t4 r rv p1 p2 p3 p4 p5=>?_
 rw[hBB]at p3;have vn:∀l,val BB (sF l)=val 65536 l:=fun l=>by rw[hBB];exact zcn l
 rw[vn,vn]at p5;have hrl:r.length<400000:=by
  have hB1:1<BB:=by omega
  rcases Nat.eq_zero_or_pos (val 65536 n.limbs)with h0 | h0
  ·rw[h0,Nat.gcd_zero_left,<- vn]at p5
   have:=uO hB1 ad p4 (Nat.le_of_eq p5)
   rw[mN]at this;omega
  ·have h1:=Nat.gcd_le_left (val 65536 d.limbs) h0
   rw[<- p5,<- vn]at h1;have:=uO hB1 an p4 h1
   rw[mN]at this;omega
 rw[q225];refine zuz p2 hrl p3 fun t5 v5 s1 s2=>?_
 rw[fV p4]at s2 ⊢
 have eG:rK [(.bool false),.nilslice] (.agg [.bool (if r=[]then false else false),v5])=some (cellsOf [.bool (if r=[]then false else false),v5]):=yQ (by
  show(true&&(zug .nilslice v5&&true))=true
  rw[vV s2];rfl)
 rw[eG];have hone:tC zA.one [.bool false,v5]=true:=by
  show(bif zA.one (.bool false)then(bif zA.one v5 then true else false)else false)=true
  rw[s2.one];rfl
 simp only[tA,cellsOf,cQ,zi9,yaa,yab,ite_self,hone,if_true];refine hQ t5 (sE (wG r)) v5 (g3.trans (k1.trans (m1.trans (p1.trans s1)))) s2 (zQ (zar p3)) (oP _) ?_
 rw[pM,<- p5,zcm,hBB]
end Go.Proofs
namespace Go.Am
def uE.fit(f:uE):Prop:=f.ok/\tB 65536 f.n.limbs/\tB 65536 f.d.limbs
def gF.fit(v:gF):Prop:=v.kind<256/\v.f.fit /\ -9223372036854775808<=v.i/\v.i<9223372036854775808
mutual
def mA.fit:mA->Prop
 | .mk op name v args=>op<256/\name.length<iD/\(∀c∈name,c<256)/\v.fit/\args.length<iD/\mA.fits args
def mA.fits:List mA->Prop
 | []=>True
 | x::l=>x.fit/\mA.fits l
end
theorem mA.fits_mem:∀ {l:List mA},mA.fits l->∀x∈l,x.fit
 | [],_,_,h=>by cases h
 | y::l,h,x,hx=>by
  unfold mA.fits at h;rcases yat.1 hx with rfl | hx
  ·exact h.1
  ·exact mA.fits_mem h.2 x hx
mutual
theorem mA.fit_ok:∀ {x:mA},x.fit->x.ok
 | .mk op name v args,h=>by
  unfold mA.fit at h;unfold mA.ok;exact⟨h.2.1,h.2.2.2.1.2.1.1,h.2.2.2.2.1,mA.fits_oks h.2.2.2.2.2⟩
theorem mA.fits_oks:∀ {l:List mA},mA.fits l->mA.oks l
 | [],_=>by unfold mA.oks;trivial
 | x::l,h=>by
  unfold mA.fits at h;unfold mA.oks;exact⟨mA.fit_ok h.1,mA.fits_oks h.2⟩
end
def i64 (n:Int):Prop := -9223372036854775808<=n/\n<9223372036854775808
def zl9.fit(r:zl9):Prop:=i64 r.a/\i64 r.b/\i64 r.known/\r.f.fit
def aG.fit(x:aG):Prop:=x.name.length<iD/\x.rows.length<iD/\∀r∈x.rows,r.fit
def qI.fit(x:qI):Prop:=x.name.length<iD/\x.kind<256
def iH.fit(x:iH):Prop:=x.name.length<iD/\x.label.length<iD/\i64 x.from_/\i64 x.to/\i64 x.known/\x.when_.fit/\x.then_.fit
structure bE.fit (p:bE):Prop where
 name:p.name.length<iD
 ndefs:p.defs.length<iD
 ntables:p.tables.length<iD
 nclauses:p.clauses.length<iD
 defs:∀d∈p.defs,d.fit
 tables:∀d∈p.tables,d.fit
 clauses:∀d∈p.clauses,d.fit
end Go.Am
namespace Go.Proofs
open Go Go.Am
variable [nC]
variable {t:Tr rA}
def sameW(a b:uH):Bool:=(a.neg == b.neg)&&decide (a.limbs=b.limbs)
def sameF(a b:uE):Bool:=sameW a.n b.n&&sameW a.d b.d
def sameV(a b:gF):Bool:=decide (a.kind=b.kind)&&decide (a.i=b.i)&&sameF a.f b.f
def zge(w:uH):Bool := !w.neg&&decide (w.limbs=[1])
def rN(f:uE):Bool:=decide (f.n.limbs.length<=256)&&decide (f.d.limbs.length<=256)&&wJ f.n.neg f.n.limbs&&wJ f.d.neg f.d.limbs && !f.d.neg&&decide (f.d.limbs≠[])&&(zge f.d||decide (Nat.gcd (val 65536 f.n.limbs) (val 65536 f.d.limbs)=1))
theorem iLt_b{a b:Int}:vC a b=decide (a<b):=by
 cases h:vC a b with
 | true=>rw[decide_eq_true (zD.1 h)]
 | false=>rw[decide_eq_false (fun k=>by rw[zD.2 k]at h;cases h)]
theorem z3j{a b:Int}:rC a b=decide (a<=b):=by
 cases h:rC a b with
 | true=>rw[decide_eq_true (dF.1 h)]
 | false=>rw[decide_eq_false (fun k=>by rw[dF.2 k]at h;cases h)]
theorem yN{a b:Int}:lA a b=decide (a=b):=by
 cases h:lA a b with
 | true=>rw[decide_eq_true (cH.1 h)]
 | false=>rw[decide_eq_false (fun k=>by rw[cH.2 k]at h;cases h)]
theorem zhc{f:uE}{u v:zA}(hu:jA t 1 (cD f.n.limbs) u)(hv:jA t 1 (cD f.d.limbs) v)(hf:uE.fit f):wC yA F 166 [.agg [.bool f.n.neg,u,.bool f.d.neg,v]] t=some (.bool (rN f)):=by
 obtain⟨h1,h2,h3⟩:=hf
 unfold uE.ok iD at h1;have c1:wC yA F 186 [.agg [.bool f.n.neg,u,.bool f.d.neg,v]] t=some (.bool (!(decide (f.n.limbs.length<=256)&&decide (f.d.limbs.length<=256)))):=by
  refine fC.2 (w186 _ _ _ _ ?_)
  simp only[t186,qA,hu.len,hv.len,tA,qB,tV];have e:vC 256 (f.d.limbs.length:Int) = !decide (f.d.limbs.length<=256):=by
   rw[iLt_b,<- decide_not];congr 1;exact propext ⟨by omega,by omega⟩
  by_cases g1:f.n.limbs.length<=256
  ·rw[if_neg (fun h=>absurd (zD.1 h) (by omega)),e]
   simp[g1]
  ·rw[if_pos (zD.2 (by omega))];simp[g1]
 have c2:=zbu (neg:=f.n.neg) (by omega) hu
 have c3:=zbu (neg:=f.d.neg) (by omega) hv
 have c4:wC yA F 168 [.agg [.bool f.n.neg,u,.bool f.d.neg,v]] t=some (.bool (zge f.d)):=by
  refine fC.2 (w168 _ _ _ _ ?_)
  simp only[t168,qA,q188,zh8 hv,tA,bT]; (first | exact⟨rfl,rfl⟩ | exact⟨rfl,trivial⟩ | trivial)
 refine oN (w166 _ _ _ _ ?_)
 simp only[t166,qA,q186,c1,q187,c2,c3,q168,c4,tA,bT,hv.len,qB,tV,cH,zh0];unfold rN;by_cases g1:f.n.limbs.length<=256
 ·by_cases g2:f.d.limbs.length<=256
  ·simp only[g1,g2,decide_true,ybo,Bool.not_true,yar,if_false]
   cases hn:wJ f.n.neg f.n.limbs with
   | false=>simp
   | true=>
    cases hd:wJ f.d.neg f.d.limbs with
    | false=>simp
    | true=>
     simp only[Bool.true_eq_false,if_false,ybo]
     cases hg:f.d.neg with
     | true=>simp
     | false=>
      simp only[yar,if_false,ybm,ybo];by_cases h0:f.d.limbs=[]
      ·rw[if_pos (by rw[h0];rfl)];simp[h0]
      ·have:f.d.limbs.length≠0:=fun e=>h0 (ybd.1 e)
       rw[if_neg (by omega)]
       simp only[h0,ne_eq,not_false_eq_true,decide_true,ybo]
       cases ho:zge f.d with
       | true=>simp
       | false=>
        simp only[yar,if_false,Bool.false_or];rw[q189];refine w189 _ _ _ _ ?_
        simp only[t189,qA,q210];have hn':=hn
        have hd':=hd
        rw[hg]at hd'
        refine gcd_ok (n:=f.n) (d:=⟨false,f.d.limbs⟩) hu hv (by omega) (by show f.d.limbs.length<_;omega) h2 h3 hn' hd' fun t' g rv k1 k2 k3 k4 k5=>?_
        have eG:rK [(.bool false),.nilslice] (.agg [.bool false,rv])=some (cellsOf [.bool false,rv]):=yQ (by
         show(true&&(zug .nilslice rv&&true))=true
         rw[vV k2];rfl)
        have hone:tC zA.one [.bool false,rv]=true:=by
         show(bif zA.one (.bool false)then(bif zA.one rv then true else false)else false)=true
         rw[k2.one];rfl
        simp only[sB,zA.asTup,uA,pF,yaa,yab,tA,qB,eG,cellsOf,cQ,zi9,hone,if_true];rw[q188,zh8 k2];simp only[tA,bT,ybm,ybo]
        refine⟨?_,k1⟩
        congr 1
        rw[decide_eq_decide,<- k5];constructor
        ·intro e;subst e;rfl
        ·intro e
         exact z2q (B:=65536) (by decide) k3 (fun x hx=>by rw[yce.1 hx];decide) k4 (fun _=>by simp) (by rw[e];rfl)
  ·simp[g2]
 ·simp[g1]
theorem zi8{f:uE}{u v:zA}(hu:jA t 1 (cD f.n.limbs) u)(hv:jA t 1 (cD f.d.limbs) v)(hf:uE.fit f):wC yA F 141 [.agg [.bool f.n.neg,u,.bool f.d.neg,v]] t=some (.bool (rN f)):=by
 refine fC.2 (w141 _ _ _ _ ?_)
 simp only[t141,qA,q166,zhc hu hv hf,tA,bT,if_true];exact⟨trivial,trivial⟩
end Go.Proofs
namespace Go.Proofs
open Go Go.Am
variable [nC]
variable {t:Tr rA}
theorem bK{a b:List Nat}(h:a.length+b.length<4611686018427387904):uJ a b=some (.str (a++b)):=by
 unfold uJ;rw[jC,jC,dB.2 h,jF];rfl
theorem zpq{s:List Nat}{k:Nat}(h:k<=s.length):aF yA 9 H0A (.str s) (some (.int .i64 (k:Int))) none=some (.str (s.drop k)):=by
 unfold aF zK;rw[ty9,uA];simp only[zA.asStr];rw[show qD.isString .string=true from rfl,nD];unfold zbz xM zek dQ;have e:aI (k:Int)=some k:=rfl
 simp only[uA,zA.asNat,zA.asInt,e,jC,eD.2 h,eD.2 (yal _),nD,iM,jN,List.take_length]
theorem zhj{s:List Nat}{k:Nat}(h:k<=s.length):aF yA 9 H0A (.str s) none (some (.int .i64 (k:Int)))=some (.str (s.take k)):=by
 unfold aF zK;rw[ty9,uA];simp only[zA.asStr];rw[show qD.isString .string=true from rfl,nD];unfold zbz xM zek dQ;have e:aI (k:Int)=some k:=rfl
 simp only[uA,zA.asNat,zA.asInt,e,jC,eD.2 h,eD.2 (Nat.zero_le _),nD,iM,jN,ybs]
def zn3 (a b:List Nat):Bool:=decide (b.length<=a.length)&&iF (a.take b.length) b
theorem zbl{a b:List Nat}:wC yA F 194 [.str a,.str b] t=some (.bool (zn3 a b)):=by
 refine fC.2 (w194 _ _ ?_)
 simp only[t194,qA,yL,dF];unfold zn3;by_cases h:b.length<=a.length
 ·rw[if_pos (by omega),zhj h,tA]
  simp[zA.asStr,h]
 ·rw[if_neg (by omega)]
  simp[h]
theorem zhb{a b:List Nat}:wC yA F 143 [.str a,.str b] t=some (.str (if zn3 a b then a.drop b.length else a)):=by
 have h:wC yA F 169 [.str a,.str b] t=some (.str (if zn3 a b then a.drop b.length else a)):=by
  refine fC.2 (w169 _ _ ?_)
  simp only[t169,qA,q194,zbl,tA,zA.asBool,yL]
  cases hp:zn3 a b with
  | true=>
   simp only[if_true];have:b.length<=a.length:=by unfold zn3 at hp;simp at hp;exact hp.1
   rw[zpq this,tA];simp[zA.asStr]
  | false=>simp
 refine fC.2 (w143 _ _ ?_)
 simp only[t143,qA,q169,h,tA,zA.asStr];first | exact⟨rfl,rfl⟩ | exact⟨trivial,trivial⟩ | exact⟨rfl,trivial⟩
theorem zli{a b:List Nat}:wC yA F 195 [.str a,.str b] t=some (.tup [.str (if zn3 a b then a.drop b.length else a),.bool (zn3 a b)]):=by
 have h:wC yA F 215 [.str a,.str b] t=some (.tup [.str (if zn3 a b then a.drop b.length else a),.bool (zn3 a b)]):=by
  refine fC.2 (w215 _ _ ?_)
  simp only[t215,qA,q194,zbl,tA,zA.asBool,yL]
  cases hp:zn3 a b with
  | true=>
   simp only[Bool.not_true,yar,if_false];have:b.length<=a.length:=by unfold zn3 at hp;simp at hp;exact hp.1
   rw[zpq this,tA];simp[zA.asStr]
  | false=>simp
 refine fC.2 (w195 _ _ ?_)
 have x0:∀u v,sB 0 (.tup [u,v])=some u:=fun _ _=>rfl
 have x1:∀u v,sB 1 (.tup [u,v])=some v:=fun _ _=>rfl
 simp only[t195,qA,q215,h,tA,x0,x1,zA.asStr,zA.asBool];first | exact⟨rfl,rfl⟩ | exact⟨trivial,trivial⟩ | exact⟨rfl,trivial⟩
def yK(s:List Nat):List Nat:=if zn3 s [45]then [109,105,110,117,115,32]++s.drop 1 else s
theorem zjo{s:List Nat}(h:s.length<4000000000000000000):wC yA F 172 [.str s] t=some (.str (yK s)):=by
 refine fC.2 (w172 _ ?_)
 have x0:∀u v,sB 0 (.tup [u,v])=some u:=fun _ _=>rfl
 have x1:∀u v,sB 1 (.tup [u,v])=some v:=fun _ _=>rfl
 simp only[t172,qA,q195,zli,tA,x0,x1,zA.asStr,zA.asBool];unfold yK
 cases hp:zn3 s [45]with
 | true=>
  simp only[if_true];rw[bK (by simp;omega),tA]
  simp[zA.asStr]
 | false=>simp
theorem z8r{n:Int}(h0 : -9223372036854775808<=n)(h1:n<9223372036854775808):wC yA F 175 [.int .i64 n] t=some (.str (rJ n)):=by
 have hg:yA.prims.get 175=some (xK zsu):=by kernel_rfl
 refine zhq hg fun H=>?_
 unfold zsu;simp only[];rw[dF.2 h0,zD.2 h1];rfl
theorem zh7{n:Int}(h0 : -9223372036854775808<=n)(h1:n<9223372036854775808):(rJ n).length<=21:=by
 by_cases h:n<0
 ·obtain⟨u,rfl⟩:∃u:Nat,n = -(u:Int):=⟨n.natAbs,by omega⟩
  rw[zkx (by omega)]
  have:=zef (u:=u) (k:=20) (by decide) (by rw[show(10:Nat)^20=100000000000000000000 by decide];omega)
  simp;omega
 ·obtain⟨u,rfl⟩:∃u:Nat,n=(u:Int):=⟨n.toNat,by omega⟩
  rw[zdy];have:=zef (u:=u) (k:=20) (by decide) (by rw[show(10:Nat)^20=100000000000000000000 by decide];omega)
  omega
theorem zgf{n:Int}(h0 : -9223372036854775808<=n)(h1:n<9223372036854775808):wC yA F 148 [.int .i64 n] t=some (.str (yK (rJ n))):=by
 have:=zh7 h0 h1
 refine fC.2 (w148 _ ?_)
 simp only[t148,qA,q175,z8r h0 h1,tA,zA.asStr,q172,zjo (s:=rJ n) (by omega)]
 first | exact⟨rfl,rfl⟩ | exact⟨trivial,trivial⟩ | exact⟨rfl,trivial⟩
def gJ(f:uE):List Nat:=zcj f.n.neg f.n.limbs++(if zge f.d then []else 47::zcj f.d.neg f.d.limbs)
theorem zol{u:Nat}:∀ {k:Nat},u<10^k->(yG u).length<=k+1:=by
 intro k h;have:=zef (u:=u) (k:=k+1) (by omega) (by rw[Nat.pow_succ];omega)
 exact this
theorem zX{neg:Bool}{l:List Nat}(hlt:tB 65536 l)(hl:l.length<=1024):(zcj neg l).length<=10000:=by
 unfold zcj intN;have h1:=oK (B:=65536) (by decide) hlt
 have h2:(65536:Nat)^l.length<=10^(5*l.length):=by
  rw[Nat.pow_mul];exact Nat.pow_le_pow_left (by decide) _
 have:=zol (u:=val 65536 l) (k:=5*l.length) (by omega)
 rw[yah];have:(if neg=true then [45]else([]:List Nat)).length<=1:=by cases neg<;>simp
 omega
theorem zbc{f:uE}(h:rN f=true):wJ f.n.neg f.n.limbs=true/\wJ f.d.neg f.d.limbs=true/\f.n.limbs.length<=1024/\f.d.limbs.length<=1024:=by
 unfold rN at h;simp only[yac,decide_eq_true_eq]at h;obtain⟨⟨⟨⟨⟨⟨h1,h2⟩,h3⟩,h4⟩,_⟩,_⟩,_⟩:=h
 exact⟨h3,h4,by omega,by omega⟩
theorem zd6{f:uE}(hf:f.fit)(h:rN f=true):(gJ f).length<=20001:=by
 obtain⟨_,_,h3,h4⟩:=zbc h
 have a:=zX (neg:=f.n.neg) hf.2.1 h3
 have b:=zX (neg:=f.d.neg) hf.2.2 h4
 unfold gJ;rw[yah];split
 ·simp;omega
 ·simp;omega
theorem zd4{f:uE}{u v:zA}(hu:jA t 1 (cD f.n.limbs) u)(hv:jA t 1 (cD f.d.limbs) v)(hf:uE.fit f):wC yA F 142 [.agg [.bool f.n.neg,u,.bool f.d.neg,v]] t=some (if rN f then .tup [.str (gJ f),.int .i64 0]else .tup [.str [],.int .i64 2]):=by
 refine fC.2 (w142 _ _ _ _ ?_)
 have x0:∀u v,sB 0 (.tup [u,v])=some u:=fun _ _=>rfl
 have x1:∀u v,sB 1 (.tup [u,v])=some v:=fun _ _=>rfl
 simp only[t142,qA,q141,zi8 hu hv hf,tA,zA.asBool]
 cases hval:rN f with
 | false=>simp
 | true=>
  obtain⟨h1,h2,h3,h4⟩:=zbc hval
  have a:=zX (neg:=f.n.neg) hf.2.1 h3
  have b:=zX (neg:=f.d.neg) hf.2.2 h4
  have c1:wC yA F 168 [.agg [.bool f.n.neg,u,.bool f.d.neg,v]] t=some (.bool (zge f.d)):=by
   refine fC.2 (w168 _ _ _ _ ?_)
   simp only[t168,qA,q188,zh8 hv,tA,zA.asBool];first | exact⟨rfl,rfl⟩ | exact⟨trivial,trivial⟩ | exact⟨rfl,trivial⟩
  simp only[Bool.not_true,yar,if_false,q167,zvd hu hf.2.1 h1,tA,x0,x1,zA.asStr,qB,if_true,q168,c1,zA.asBool];unfold gJ
  cases hone:zge f.d with
  | true=>simp
  | false=>
   simp only[ybm,if_true,zvd hv hf.2.2 h2,tA,x0,x1,zA.asStr,qB];rw[bK (by simp;omega),tA]
   simp only[zA.asStr,tA];rw[bK (by simp;omega),tA]
   simp[zA.asStr]
theorem zd5{f:uE}{u v:zA}(hu:jA t 1 (cD f.n.limbs) u)(hv:jA t 1 (cD f.d.limbs) v)(hf:uE.fit f)(hval:rN f=true):wC yA F 146 [.agg [.bool f.n.neg,u,.bool f.d.neg,v]] t=some (.str (yK (gJ f))):=by
 have:=zd6 hf hval
 refine fC.2 (w146 _ _ _ _ ?_)
 have x0:∀u v,sB 0 (.tup [u,v])=some u:=fun _ _=>rfl
 have x1:∀u v,sB 1 (.tup [u,v])=some v:=fun _ _=>rfl
 simp only[t146,qA,q142,zd4 hu hv hf,hval,if_true,tA,x0,x1,zA.asStr,qB,q172,zjo (s:=gJ f) (by omega)]
 first | exact⟨rfl,rfl⟩ | exact⟨trivial,trivial⟩ | exact⟨rfl,trivial⟩
def zp5(f:uE):Bool:=decide (f.n.limbs.length<=42)&&decide (f.d.limbs.length<=42)&&rN f&&decide ((if zn3 (gJ f) [45]then(gJ f).drop 1 else gJ f).length<=200)
theorem zbs{f:uE}{u v:zA}(hu:jA t 1 (cD f.n.limbs) u)(hv:jA t 1 (cD f.d.limbs) v)(hf:uE.fit f):wC yA F 115 [.agg [.bool f.n.neg,u,.bool f.d.neg,v]] t=some (.bool (zp5 f)):=by
 refine fC.2 (w115 _ _ _ _ ?_)
 have x0:∀u v,sB 0 (.tup [u,v])=some u:=fun _ _=>rfl
 have x1:∀u v,sB 1 (.tup [u,v])=some v:=fun _ _=>rfl
 simp only[t115,qA,hu.len,hv.len,tV,tA,qB,zD];unfold zp5;by_cases h1:f.n.limbs.length<=42
 ·rw[if_neg (by omega)]
  by_cases h2:f.d.limbs.length<=42
  ·rw[if_neg (by omega)]
   simp only[q141,zi8 hu hv hf,tA,zA.asBool]
   cases hval:rN f with
   | false=>simp
   | true=>
    simp only[Bool.not_true,yar,if_false,q142,zd4 hu hv hf,hval,if_true,tA,x0,x1,zA.asStr,qB,cH,q143,zhb,yL];simp[h1,h2,z3j]
    constructor<;>intro h<;>omega
  ·rw[if_pos (by omega)];simp[h2]
 ·rw[if_pos (by omega)];simp[h1]
def zey(f:uE):Bool := !f.n.neg && !f.d.neg&&decide (f.n.limbs.length+f.d.limbs.length=0)
theorem zce{f:uE}{u v:zA}(hu:jA t 1 (cD f.n.limbs) u)(hv:jA t 1 (cD f.d.limbs) v)(hf:f.ok):wC yA F 116 [.agg [.bool f.n.neg,u,.bool f.d.neg,v]] t=some (.bool (zey f)):=by
 unfold uE.ok iD at hf;refine fC.2 (w116 _ _ _ _ ?_)
 simp only[t116,qA,hu.len,hv.len,tV,tA,qB];unfold zey;rw[wrap_i64 (by omega) (by omega),yN]
 have e:decide ((f.n.limbs.length:Int)+(f.d.limbs.length:Int)=0)=decide (f.n.limbs.length+f.d.limbs.length=0):=by
  by_cases h:f.n.limbs.length+f.d.limbs.length=0
  ·rw[decide_eq_true h,decide_eq_true (by omega)]
  ·rw[decide_eq_false h,decide_eq_false (by omega)]
 rw[e]
 cases f.n.neg<;>cases f.d.neg<;>simp
theorem z3d{n:Int}:wC yA F 117 [.int .i64 n] t=some (.bool (decide (0<=n)&&decide (n<65536))):=by
 refine fC.2 (w117 _ ?_)
 simp only[t117,qA,dF];by_cases h:0<=n
 ·rw[if_pos h];simp[h,iLt_b]
 ·rw[if_neg h];simp[h]
def wO(v:gF):Bool:=
 if v.kind=2\/v.kind=3 then decide (v.i=0)&&zp5 v.f
 else if v.kind=1 then zey v.f&&(decide (v.i=0)||decide (v.i=1))
 else if v.kind=4 then zey v.f&&(decide (0<=v.i)&&decide (v.i<65536))
 else if v.kind=5\/v.kind=6 then zey v.f&&(decide (-1048576<=v.i)&&decide (v.i<=1048576))
 else false
theorem zaw{a:gF}{u v:zA}(hu:jA t 1 (cD a.f.n.limbs) u)(hv:jA t 1 (cD a.f.d.limbs) v)(hf:uE.fit a.f):wC yA F 85 [.agg [.int .u8 a.kind,.bool a.f.n.neg,u,.bool a.f.d.neg,v,.int .i64 a.i]] t=some (.bool (wO a)):=by
 refine fC.2 (w85 _ _ _ _ _ _ ?_)
 simp only[t85,qA,q115,zbs hu hv hf,q116,zce hu hv hf.1,q117,z3d,tA,zA.asBool];unfold wO;have kk:∀j:Int,lA (a.kind:Int) j=decide ((a.kind:Int)=j):=fun j=>yN
 simp only[kk];by_cases k2:a.kind=2
 ·have e:(a.kind:Int)=2:=by omega
  by_cases h0:a.i=0<;>simp[e,k2,h0,yN]
 by_cases k3:a.kind=3
 ·have e:(a.kind:Int)=3:=by omega
  by_cases h0:a.i=0<;>simp[e,k3,h0,yN]
 have e2:¬ (a.kind:Int)=2:=by omega
 have e3:¬ (a.kind:Int)=3:=by omega
 by_cases k1:a.kind=1
 ·have e:(a.kind:Int)=1:=by omega
  cases zey a.f<;>by_cases h0:a.i=0<;>simp[e,k1,h0,yN]
 have e1:¬ (a.kind:Int)=1:=by omega
 by_cases k4:a.kind=4
 ·have e:(a.kind:Int)=4:=by omega
  cases zey a.f<;>simp[e,k4]
 have e4:¬ (a.kind:Int)=4:=by omega
 by_cases k5:a.kind=5
 ·have e:(a.kind:Int)=5:=by omega
  cases zey a.f<;>by_cases h0:(-1048576:Int)<=a.i<;>simp[e,k5,h0,z3j]
 have e5:¬ (a.kind:Int)=5:=by omega
 by_cases k6:a.kind=6
 ·have e:(a.kind:Int)=6:=by omega
  cases zey a.f<;>by_cases h0:(-1048576:Int)<=a.i<;>simp[e,k6,h0,z3j]
 have e6:¬ (a.kind:Int)=6:=by omega
 simp[e1,e2,e3,e4,e5,e6,k1,k2,k3,k4,k5,k6]
end Go.Proofs
namespace Go.Am
open Go Go.RowKit
section
variable {t tf:Tr rA}{C:pA}
theorem pE.pushL{T el sz n:Nat}(hT:zuh C T el sz){A B:List Thg}{l:List D}{d:D}{cs:List zA}{v x:zA}(h:pE C.base tf t (A++kL C.base sz l v::B))(hx:yJ t sz x [cs])(hd:RD tf d cs)(hone:∀a∈cs,zA.one a=true)(hl:l.length<300000)(hn:t.get n=none)(hbase:C.base<=n) :
  ∃v2 k t2,zG C T T v x ⟨n,t⟩=some (v2,⟨k,t2⟩)/\pE C.base tf t2 (A++kL C.base sz (l++[d]) v2::B):=by
 have hv:zfa C.base tf t sz l v:=h.ok (kL C.base sz l v) (by simp)
 obtain⟨t2,c1,c2,c3,c4⟩:=zlv hT (m:=[d]) hv hx (vF.2 ⟨cs,[],rfl,hd,sH.2 rfl⟩) (by intro a ha;simp at ha;exact hone a ha) (by simp) (by simp;omega) hn hbase h.tle
 refine⟨_,_,t2,c1,?_⟩
 refine pE.upd (o:=kL C.base sz l v) h (fun k k1 k2=>c4 k ?_ (fun e=>k1 (zb3.2 e))) (fun k hk=>?_) c2 (by simp[kL,z6r]) c3
 ·intro e;subst e;exact k2 (by simp[kL,z6r])
 ·have:k=n:=by simpa[kL,z6r]using hk
  subst this;exact .inr ⟨hn,hbase⟩
end
end Go.Am
namespace Go.Am
open Go Go.RowKit
section
variable {t tf tf0:Tr rA}{C:pA}
mutual
theorem RD.ones:∀(d:D) (cs:List zA),RD t d cs->∀a∈cs,zA.one a=true
 | .int _ _,cs,h,a,ha=>by rw[RD]at h;subst h;simp at ha;subst ha;rfl
 | .bool _,cs,h,a,ha=>by rw[RD]at h;subst h;simp at ha;subst ha;rfl
 | .str _,cs,h,a,ha=>by rw[RD]at h;subst h;simp at ha;subst ha;rfl
 | .sl sz l,cs,h,a,ha=>by
  rw[fK]at h;obtain⟨v,rfl,h⟩:=h
  simp at ha;subst ha;exact h.one
 | .st l,cs,h,a,ha=>by
  rw[wI]at h;obtain⟨cl,rfl,h⟩:=h
  exact lC.ones l cl h a ha
theorem lC.ones:∀(l:List D) (cl:List (List zA)),lC t l cl->∀a∈cl.flatten,zA.one a=true
 | [],cl,h,a,ha=>by rw[lC]at h;subst h;cases ha
 | d::l,cl,h,a,ha=>by
  rw[lC]at h;obtain⟨c,r,rfl,h1,h2⟩:=h
  rw[List.flatten_cons,List.mem_append]at ha;rcases ha with ha | ha
  ·exact RD.ones d c h1 a ha
  ·exact lC.ones l r h2 a ha
end
theorem RD.all{d:D}{cs:List zA}(h:RD t d cs):tC zA.one cs=true:=by
 rw[gG,ybc];exact RD.ones d cs h
theorem RD.mk{d:D}{cs zs:List zA}(h:RD t d cs)(hz:d.zs=zs):jL zs (cellsOf cs) 0=cs:=by
 have:=zd8 zs cs [] (by rw[<- hz];exact zn7 d cs h)
 simpa using this
theorem lit1{S el sz b:Nat}{cs:List zA}(hT:zuh C S el sz)(hc:cs.length=sz)(hs:sz<1000000)(hb:t.get b=none) :
  ∃t',jH C S 1 [(0,.agg cs)] ⟨b,t⟩=some (.slice b 0 1 1,⟨b+1,t'⟩)/\yJ t' sz (.slice b 0 1 1) [cs]/\zB t t'/\mD b t t':=by
 obtain⟨⟨y,hy1,hy2,_⟩,⟨z,hz1,hz2,hz3,_,_⟩⟩:=hT
 refine zkj (n:=1) (cl:=[cs]) hy1 hy2 hz1 hz2 hz3 (by omega) ?_ (fun i q hq=>?_) rfl hb
 ·have e:gI z.zero 1=z.zero:=by show eC z.zero []=z.zero;rw[jF,ybe]
  rw[e];unfold fJ wN;have e1:(zA.agg cs).cells=cs:=rfl
  rw[jC]at hz3;simp only[uA,e1,jC,hc,hz3,Nat.zero_mul,yax,iM,jN,jF,List.take_zero,List.nil_append];rw[mB.2 rfl,eD.2 (yal sz)]
  simp only[Bool.and_self,nD,uA,fJ];rw[yau (by omega)]
  simp
 ·rcases i with _ | i
  ·simp at hq;subst hq;exact hc
  ·simp at hq
def z4g(C:pA)(S el g p:Nat)(zs:List zA)(v0 v:zA)(i:Int):T:=
 .opt (xC v0) fun a0=>.asI .i64 a0 fun n1=>.ite (vC i n1)
  (.opt (lB C S v0 (.int .i64 i)) fun a2=>.light (fun m=>oA C el ⟨0,m⟩ a2) fun a3=>.asG zs a3 fun X=>
   .call g [.agg (jL zs X 0)] fun a5=>.asG zs a5 fun Y=>
   .ite (tC zA.one (jL zs Y 0)) (.heavy (jH C S 1 [(0,.agg (jL zs Y 0))]) fun a7=>.heavy (zG C S S v a7) fun a8=>.jump p [v0,a8,.int .i64 (wA .i64 (i+1))]) .fail)
  (.ret v)
def zo7(base:Nat)(W:rH)(g:Nat)(d:D):Prop:=∀ ⦃L:List Thg⦄ ⦃tf t:Tr rA⦄ ⦃cs:List zA⦄ ⦃Q:aB⦄,pE base tf t L->RD tf d cs->(∀tf' t' cs',zB tf tf'->pE base tf' t' L->RD tf' d cs'->Q (.agg cs') t')->W g [.agg cs] t Q
def z44(base:Nat)(tf:Tr rA)(L:List Thg)(sz:Nat)(l:List D)(Q:aB):Prop:=∀tf' t' v,zB tf tf'->pE base tf' t' L->jA tf' sz l v->Q v t'
theorem zz4{W J:rH}{S el sz g p:Nat}(hT:zuh C S el sz)(hS:lF C S el sz true)(hsz:sz<1000000){zs:List zA}{L:List Thg}{ds:List D}{v0:zA}{Q:aB}
  (hz:∀d∈ds,d.zs=zs) (hg:∀d∈ds,zo7 C.base W g d) (hlen:ds.length<300000)
  (hj:∀v i t,qA C.base W J (z4g C S el g p zs v0 v i) t Q->J p [v0,v,.int .i64 i] t Q) (hQ:z44 C.base tf0 L sz ds Q) (h0:jA tf0 sz ds v0) :
  ∀(m i:Nat) (tf t:Tr rA) (v:zA),i+m=ds.length->zB tf0 tf->pE C.base tf t (kL C.base sz (ds.take i) v::L)->J p [v0,v,.int .i64 (i:Int)] t Q:=by
 intro m;induction m with
 | zero=>
  intro i tf t v hi hf ho;refine hj _ _ _ ?_
  simp only[z4g,qA];rw[h0.len,tA,qB,tA,if_neg (fun e=>by have:=zD.1 e;omega)]
  rw[ybb (by omega)]at ho
  obtain⟨tf',k1,k2,k3⟩:=pE.freezeL (A:=[]) ho
  exact hQ tf' t v (hf.trans k1) k2 k3
 | succ m ih=>
  intro i tf t v hi hf ho;have hlt:i<ds.length:=by omega
  have hd:ds[i]?=some ds[i]:=yae hlt
  have hm:ds[i]∈ds:=ybk hlt
  obtain⟨b,off,cs,g1,g2,g3,g4,g5⟩:=lF.at (t:=tf) hS (by simp) (h0.mono hf) hd
  have g1':=g1
  obtain⟨b',off',cs',f1,f2,f3,f4,f5⟩:=lF.at (t:=t) hS (by simp) (h0.mono (hf.trans ho.tle)) hd
  rw[g1]at f1;cases f1
  have ecs:cs'=cs:=by
   obtain⟨c,n,lo,q1,q2⟩:=g3
   obtain⟨c',n',lo',q3,q4⟩:=f3
   rw[ho.tle _ _ q1]at q3
   cases q3
   refine List.ext_getElem? fun j=>?_
   rcases Nat.lt_or_ge j sz with hjs | hjs
   ·have a1:cs[j]?=some cs[j]:=yae (by omega)
    have a2:cs'[j]?=some cs'[j]:=yae (by omega)
    have b1:=q2 _ _ a1
    have b2:=q4 _ _ a2
    rw[b1]at b2;rw[a1,a2,ybj b2]
   ·rw[List.getElem?_eq_none (by omega),List.getElem?_eq_none (by omega)]
  subst ecs;refine hj _ _ _ ?_
  simp only[z4g,qA];rw[h0.len,tA,qB,tA,if_pos (zD.2 (by omega)),g1,tA,f2,tA]
  have hzz:=hz _ hm
  show rE (rK zs (.agg cs')) _
  rw[rI g5 hzz,tA,g5.mk hzz];refine hg _ hm ho g5 fun tf' t' cs2 k1 k2 k3=>?_
  rw[rI k3 hzz,tA,k3.mk hzz,if_pos k3.all];intro n hn _;have hl2:cs2.length=sz:=by
   have e1:=g5.mk hzz
   have e2:=k3.mk hzz
   have key:∀(zs:List zA) (X Y:yP) (j:Nat),(jL zs X j).length=(jL zs Y j).length:=by
    intro zs;induction zs with
    | nil=>intro X Y j;rfl
    | cons z zs ih=>
     intro X Y j;show(zkd z X j::jL zs X (j+1)).length=(zkd z Y j::jL zs Y (j+1)).length
     rw[yao,yao,ih X Y (j+1)]
   have:=key zs (cellsOf cs2) (cellsOf cs') 0
   rw[e1,e2]at this;omega
  obtain⟨t1,a1,a2,a3,a4⟩:=lit1 (C:=C) hT hl2 hsz hn
  rw[a1,tA];intro n2 hn2 hb2;obtain⟨v2,k,t2,c1,c2⟩:=pE.pushL (A:=[]) (n:=n2) hT (k2.junk hn a4) a2 k3 (RD.ones _ _ k3) (by rw[ycb];omega) hn2 hb2
  rw[c1,tA,wrap_i64 (by omega) (by omega)]
  have e:ds.take i++[ds[i]]=ds.take (i+1):=by rw[List.take_succ,hd];rfl
  rw[e]at c2;exact ih (i+1) tf' t2 v2 (by omega) (hf.trans k1) c2
theorem zz5{W J:rH}{S el sz g p:Nat}(hT:zuh C S el sz)(hS:lF C S el sz true)(hsz:sz<1000000){zs:List zA}{L:List Thg}{ds:List D}{v0:zA}{Q:aB}
  (hz:∀d∈ds,d.zs=zs) (hg:∀d∈ds,zo7 C.base W g d) (hlen:ds.length<300000)
  (hj:∀v i t,qA C.base W J (z4g C S el g p zs v0 v i) t Q->J p [v0,v,.int .i64 i] t Q) (hQ:z44 C.base tf L sz ds Q) (h0:jA tf sz ds v0) (ho:pE C.base tf t L):J p [v0,.nilslice,.int .i64 0] t Q:=by
 refine zz4 hT hS hsz hz hg hlen hj hQ h0 ds.length 0 tf t .nilslice (by omega) (zB.refl _) ?_
 rw[List.take_zero];exact pE.add (A:=[]) (o':=kL C.base sz ([]:List D) .nilslice) ho (fun _ _=>rfl) (fun k hk=>by simp[kL,z6r]at hk) (.inl ⟨rfl,rfl⟩) (by simp[kL,z6r]) ho.tle
theorem z4f{W J:rH}{S el sz:Nat}(hT:zuh C S el sz){L:List Thg}{l:List D}{x:zA}{Q:aB}(hx:jA tf sz l x)(ho:pE C.base tf t L)(hl:l.length<1000000)(hQ:z44 C.base tf L sz l Q) :
  qA C.base W J (.heavy (zG C S S .nilslice x) fun a0=>.ret a0) t Q:=by
 simp only[qA];intro n hn _;obtain⟨v,k,t',tf',a1,a2,a3,a4,a5,a6,a7⟩:=zlw hT hx ho.tle hl hn
 rw[a1,tA];refine hQ tf' t' v a3 (ho.keep a3 a4 fun k hk=>?_) a2
 have hne:k≠n:=fun e=>by
  obtain⟨y,hy⟩:=ho.live hk
  rw[e,hn]at hy;cases hy
 exact⟨a6 k hne,by rw[a7 k hne];exact(ho.low k hk).2⟩
end
end Go.Am
namespace Go.Am
open Go Go.RowKit
section
variable {C:pA}{t:Tr rA}
def bM(C:pA)(T:Nat)(k:zA):Bool:=
 match ob (C.tys.get T) fun ty=>ob ty.desc.asMap fun ke=>ob (C.tys.get ke.1) fun kty=>iA (iN C kty&&fL C kty k) (some ())with | some _=>true | none=>false
theorem uY{T:Nat}{k:zA}(h:bM C T k=true):∃ty ke kty,C.tys.get T=some ty/\ty.desc.asMap=some ke/\C.tys.get ke.1=some kty/\iN C kty=true/\fL C kty k=true:=by
 unfold bM at h;split at h
 case h_2=>cases h
 rename_i u hu;simp only[sA,xB,yac]at hu;obtain⟨ty,h1,ke,h2,kty,h3,⟨h4,h5⟩,_⟩:=hu
 exact⟨ty,ke,kty,h1,h2,h3,h4,h5⟩
theorem zuw{T b n:Nat}{k v:zA}{l l':List (zA × zA)}(hk:bM C T k=true)(hb:C.base<=b)(hm:t.get b=some (.map l))(hs:kG k v l=some l') :
  vI C T (.map b) k v ⟨n,t⟩=some (pD,⟨n,t.set b (.map l')⟩):=by
 obtain⟨ty,ke,kty,h1,h2,h3,h4,h5⟩:=uY hk
 have e2:(!Nat.blt b C.base)=true:=by
  cases hq:Nat.blt b C.base with
  | true=>have:=dB.1 hq;omega
  | false=>rfl
 have e3:oG ⟨n,t⟩ b=some l:=by unfold oG;rw[hm];rfl
 unfold vI;rw[h1,uA,h2,uA,h3,uA,h4,nD];simp only[zA.asMap,uA];rw[e2,nD,e3,uA,h5,nD,hs];rfl
theorem zqk{T b n:Nat}{k v:zA}{l:List (zA × zA)}(hk:bM C T k=true)(hm:t.get b=some (.map l))(hs:nH k l=some (some v)){ty:uC}(hT:C.tys.get T=some ty){ke:Nat × Nat}(hd:ty.desc.asMap=some ke){ety:uC}(he:C.tys.get ke.2=some ety)(ok:Bool) :
  kH C T ⟨n,t⟩ (.map b) k ok=some (bif ok then .tup [v,.bool true]else v):=by
 obtain⟨ty,ke,kty,h1,h2,h3,h4,h5⟩:=uY hk
 rw[hT]at h1;cases h1;rw[hd]at h2;cases h2;have e3:oG ⟨n,t⟩ b=some l:=by unfold oG;rw[hm];rfl
 unfold kH;rw[hT,uA,hd,uA,h3,uA,h4,nD,he,uA];have e4:jM ⟨n,t⟩ (.map b)=some l:=by unfold jM;simp only[zA.asMap];exact e3
 rw[e4,uA,h5,nD,hs,uA]
theorem zxq{T b n:Nat}{k:zA}{l:List (zA × zA)}(hk:bM C T k=true)(hm:t.get b=some (.map l))(hs:nH k l=some none){ty:uC}(hT:C.tys.get T=some ty){ke:Nat × Nat}(hd:ty.desc.asMap=some ke){ety:uC}(he:C.tys.get ke.2=some ety)(ok:Bool) :
  kH C T ⟨n,t⟩ (.map b) k ok=some (bif ok then .tup [sN ety,.bool false]else sN ety):=by
 obtain⟨ty,ke,kty,h1,h2,h3,h4,h5⟩:=uY hk
 rw[hT]at h1;cases h1;rw[hd]at h2;cases h2;have e3:oG ⟨n,t⟩ b=some l:=by unfold oG;rw[hm];rfl
 unfold kH;rw[hT,uA,hd,uA,h3,uA,h4,nD,he,uA];have e4:jM ⟨n,t⟩ (.map b)=some l:=by unfold jM;simp only[zA.asMap];exact e3
 rw[e4,uA,h5,nD,hs,uA]
mutual
theorem RD.sames1:∀(d:D) (cs:List zA),RD t d cs->∀a∈cs,∀k,Am.same k a a=true
 | .int _ _,cs,h,a,ha,k=>by rw[RD]at h;subst h;simp at ha;subst ha;exact aV
 | .bool _,cs,h,a,ha,k=>by rw[RD]at h;subst h;simp at ha;subst ha;exact zwf
 | .str _,cs,h,a,ha,k=>by rw[RD]at h;subst h;simp at ha;subst ha;exact zhn
 | .sl sz l,cs,h,a,ha,k=>by
  rw[fK]at h;obtain⟨v,rfl,h⟩:=h
  simp at ha;subst ha;exact h.same
 | .st l,cs,h,a,ha,k=>by
  rw[wI]at h;obtain⟨cl,rfl,h⟩:=h
  exact lC.sames1 l cl h a ha k
theorem lC.sames1:∀(l:List D) (cl:List (List zA)),lC t l cl->∀a∈cl.flatten,∀k,Am.same k a a=true
 | [],cl,h,a,ha,k=>by rw[lC]at h;subst h;cases ha
 | d::l,cl,h,a,ha,k=>by
  rw[lC]at h;obtain⟨c,r,rfl,h1,h2⟩:=h
  rw[List.flatten_cons,List.mem_append]at ha;rcases ha with ha | ha
  ·exact RD.sames1 d c h1 a ha k
  ·exact lC.sames1 l r h2 a ha k
end
theorem zju:∀ {l:List zA} {k:Nat},(∀a∈l,∀k,Am.same k a a=true)->Am.same.sames k l l=true
 | [],_,_=>rfl
 | a::l,k,h=>by
  rw[Am.same.sames,h a (.head _) k,zju fun b hb=>h b (.tail _ hb)];rfl
theorem RD.sameA{d:D}{cs:List zA}(h:RD t d cs){k:Nat}:Am.same (k+1) (.agg cs) (.agg cs)=true:=zju (RD.sames1 d cs h)
theorem zgx{b:Nat}(hb:C.base<=b):∀(l:List (zA × zA)) (m:List (zA × zA)) (n:Nat) (t:Tr rA),t.get b=some (.map m) →
  ∃t',yR C (l.map fun e=>RE.up b e.1 e.2) ⟨n,t⟩=some ⟨n,t'⟩/\t'.get b=some (.map (m++l))/\mD b t t'
 | [],m,n,t,h=>⟨t,rfl,by rw[ybe];exact h,fun _ _=>rfl⟩
 | e::l,m,n,t,h=>by
  obtain⟨t',h1,h2,h3⟩:=zgx hb l (m++[e]) n (t.set b (.map (m++[e]))) (by rw[Tr.get_set,if_pos rfl])
  refine⟨t',?_,by rw[h2,yba];rfl,fun c hc=>by rw[h3 c hc,Tr.get_set,if_neg hc]⟩
  have e2:(!Nat.blt b C.base)=true:=by
   cases hq:Nat.blt b C.base with
   | true=>have:=dB.1 hq;omega
   | false=>rfl
  have e3:oG ⟨n,t⟩ b=some m:=by unfold oG;rw[h];rfl
  have e4:bP C ⟨n,t⟩ (.up b e.1 e.2)=some ⟨n,t.set b (.map (m++[e]))⟩:=by
   show iA (!Nat.blt b C.base) (ob (oG ⟨n,t⟩ b) fun m=>some (setBlk ⟨n,t⟩ b (.map (eC m [(e.1,e.2)]))))=_
   rw[e2,nD,e3,uA,jF];rfl
  rw[ybn];unfold yR;rw[e4,uA];exact h1
theorem zjy{T b:Nat}:∀(l:List (zA × zA)),(∀e∈l,bM C T e.1=true)->qF (zpx C) (l.map fun e=>Eff.upd T (.map b) e.1 e.2)=some (l.map fun e=>RE.up b e.1 e.2)
 | [],_=>rfl
 | e::l,h=>by
  obtain⟨ty,ke,kty,h1,h2,h3,h4,h5⟩:=uY (h e (.head _))
  have e1:zpx C (.upd T (.map b) e.1 e.2)=some (.up b e.1 e.2):=by
   unfold zpx;simp only[];rw[h1,uA,h2,uA,h3,uA,h4,h5];rfl
  rw[ybn,wK,e1,uA,zjy l fun x hx=>h x (.tail _ hx),uA]
  rfl
def vY:List (zA × zA)->Bool
 | []=>true
 | e::l=>tC (fun x=>zh1 e.1 x.1) l&&vY l
theorem zlx{b:Nat}:∀(l:List (zA × zA)),vY l=true->zgz (l.map fun e=>RE.up b e.1 e.2)=true
 | [],_=>rfl
 | e::l,h=>by
  unfold vY at h;rw[yac,gG,ybc]at h;rw[ybn];unfold zgz;rw[yac,gG,ybc];refine⟨fun x hx=>?_,zlx l h.2⟩
  obtain⟨y,hy,rfl⟩:=List.mem_map.1 hx
  show(bif Nat.beq b b then zh1 e.1 y.1 else true)=true
  rw[mB.2 rfl];exact h.1 y hy
theorem ztf{T b n:Nat}{l:List (zA × zA)}(hk:∀e∈l,bM C T e.1=true)(ha:vY l=true)(hb:C.base<=b)(hm:t.get b=some (.map [])) :
  ∃t',uP C (l.map fun e=>Eff.upd T (.map b) e.1 e.2) ⟨n,t⟩=some (pD,⟨n,t'⟩)/\t'.get b=some (.map l)/\mD b t t':=by
 obtain⟨t',h1,h2,h3⟩:=zgx (C:=C) hb l [] n t hm
 refine⟨t',?_,by simpa using h2,h3⟩
 unfold uP fP;rw[zjy l hk,uA,zlx l ha];have hr:tC (zc8 C ⟨n,t⟩) (l.map fun e=>RE.up b e.1 e.2)=true:=by
  rw[gG,ybc];intro x hx;obtain⟨e,_,rfl⟩:=List.mem_map.1 hx
  have e2:(!Nat.blt b C.base)=true:=by
   cases hq:Nat.blt b C.base with
   | true=>have:=dB.1 hq;omega
   | false=>rfl
  have e3:oG ⟨n,t⟩ b=some []:=by unfold oG;rw[hm];rfl
  show(!Nat.blt b C.base&&(match oG ⟨n,t⟩ b with | some []=>true | _=>false))=true
  rw[e2,e3];rfl
 rw[hr];simp only[Bool.and_self,nD,h1,uA]
theorem jD.up{t':Tr rA}{b:Nat}{lo:Option Lo}{cs:List zA}(h:jD t b lo cs)(k:zB t t'):jD t' b lo cs:=by
 obtain⟨c,h1,h2⟩:=h
 exact⟨c,k _ _ h1,h2⟩
end
end Go.Am
namespace Go.Proofs
open Go Go.Am
variable [nC]
variable {t:Tr rA}
def iQ(n:Nat):Bool:=(decide (65<=n)&&decide (n<=90))||(decide (97<=n)&&decide (n<=122))
def zqy(n:Nat):Bool:=decide (48<=n)&&decide (n<=57)
def zd0(n:Nat):Bool:=iQ n||zqy n||decide (n=95)
theorem z8w{a b:Int}:rC a b=decide (a<=b):=by
 by_cases h:a<=b
 ·rw[decide_eq_true h,dF.2 h]
 ·rw[decide_eq_false h]
  cases hq:rC a b with
  | true=>exact absurd (dF.1 hq) h
  | false=>rfl
theorem nZ{n:Nat}:wC yA F 111 [.int .u8 (n:Int)] t=some (.bool (iQ n)):=by
 refine fC.2 (w111 _ ?_)
 simp only[t111,qA,z8w,decide_eq_true_eq];unfold iQ;by_cases h1:65<=n
 ·rw[if_pos (by omega)]
  by_cases h2:n<=90
  ·rw[if_pos (by omega)];simp[h1,h2]
  ·rw[if_neg (by omega)]
   by_cases h3:97<=n
   ·rw[if_pos (by omega)]
    have:decide ((n:Int)<=122)=decide (n<=122):=by congr 1;exact propext (by omega)
    simp[h1,h2,h3,this]
   ·rw[if_neg (by omega)];simp[h2,h3]
 ·rw[if_neg (by omega),if_neg (by omega)]
  have:¬ 97<=n:=by omega
  simp[h1,this]
theorem zta{n:Nat}:wC yA F 139 [.int .u8 (n:Int)] t=some (.bool (zqy n)):=by
 refine fC.2 (w139 _ ?_)
 simp only[t139,qA,z8w,decide_eq_true_eq];unfold zqy;by_cases h1:48<=n
 ·rw[if_pos (by omega)]
  have:decide ((n:Int)<=57)=decide (n<=57):=by congr 1;exact propext (by omega)
  simp[h1,this]
 ·rw[if_neg (by omega)];simp[h1]
theorem zyw{n:Nat}:wC yA F 113 [.int .u8 (n:Int)] t=some (.bool (zd0 n)):=by
 refine fC.2 (w113 _ ?_)
 simp only[t113,qA,q111,nZ,tA,zA.asBool];unfold zd0
 cases h:iQ n with
 | true=>simp
 | false=>
  simp only[yar,if_false,q139,zta,tA,zA.asBool]
  cases h2:zqy n with
  | true=>simp
  | false=>
   simp only[yar,if_false,yN];have:decide ((n:Int)=95)=decide (n=95):=by congr 1;exact propext (by omega)
   simp[this]
theorem zkz{s:List Nat}{i x:Nat}(h:s[i]?=some x):aJ yA 9 (.str s) (.int .i64 (i:Int))=some (.int .u8 (x:Int)):=by
 unfold aJ;rw[ty9,uA];simp only[zA.asNat,zA.asInt,zA.asStr];have e:ob (some (i:Int)) aI=some i:=rfl
 rw[e,uA,show qD.isString .string=true from rfl,nD,pF,h,uA];rfl
def z16 (p:Nat->Bool)(s:List Nat):List Nat:=s.takeWhile p
theorem zpt{p:Nat->Bool}{g:Nat}(hg:∀n:Nat,wC yA F g [.int .u8 (n:Int)] t=some (.bool (p n)))(hq:∀ {a:List zA} {m:Tr rA} {R:aB},Wq yA F sJ g a m R=rE (wC yA F g a m) (fun v=>R v m))(hy:Nat.blt g yo=true){s:List Nat}(hs:s.length<4000000000000000000) :
  ∀(k i:Nat),i+k=s.length->(∀j x,j<i->s[j]?=some x->p x=true)->jp 112 2 [.str s,.func (.func g) [] [],.int .i64 (i:Int)] t (fun v t'=>v=.str (z16 p s)/\t'=t):=by
 have key:∀i,i<=s.length->(∀j x,j<i->s[j]?=some x->p x=true)->(∀x,s[i]?=some x->p x=false)->z16 p s=s.take i:=by
  intro i hi h1 h2;unfold z16;induction s generalizing i with
  | nil=>simp
  | cons a s ih=>
   cases i with
   | zero=>rw[List.takeWhile_cons,h2 a rfl];simp
   | succ i=>
    rw[List.takeWhile_cons,h1 0 a (by omega) rfl,if_pos rfl,List.take_succ_cons]
    rw[ih (by simp at hs;omega) i (by simpa using hi) (fun j x hj hx=>h1 (j+1) x (by omega) (by simpa using hx)) (fun x hx=>h2 x (by simpa using hx))]
 intro k;induction k with
 | zero=>
  intro i hi hp;refine z6j _ _ _ ?_
  simp only[zv6,qA,zD,yL];rw[if_neg (by omega),zhj (by omega),tA]
  simp only[zA.asStr,tA];rw[key i (by omega) hp (fun x hx=>by have:=(yad.1 hx).1;omega)]
  first | exact⟨rfl,rfl⟩ | exact⟨rfl,trivial⟩ | exact⟨trivial,trivial⟩
 | succ k ih=>
  intro i hi hp;have hx:s[i]?=some s[i]:=yae (by omega)
  refine z6j _ _ _ ?_
  simp only[zv6,qA,zD,yL];rw[if_pos (by omega),zkz hx,tA,qB,tA]
  have e:bO (.func (.func g) [] []) [.int .u8 (s[i]:Int)]=some (g,[.int .u8 (s[i]:Int)]):=by
   unfold bO;simp only[zA.asFunc,uA,hy,nD];rfl
  rw[e,tA];simp only[];rw[hq,hg,tA];simp only[zA.asBool,tA]
  cases hb:p s[i]with
  | true=>
   rw[if_pos rfl,wrap_i64 (by omega) (by omega),show(i:Int)+1=((i+1:Nat):Int) by omega]
   refine ih (i+1) (by omega) fun j x hj hjx=>?_
   by_cases e:j=i
   ·subst e;rw[hx]at hjx;cases hjx;exact hb
   ·exact hp j x (by omega) hjx
  | false=>
   rw[if_neg (by simp),zhj (by omega),tA]
   simp only[zA.asStr,tA];rw[key i (by omega) hp (fun x hx'=>by rw[hx]at hx';cases hx';exact hb)]
   first | exact⟨rfl,rfl⟩ | exact⟨rfl,trivial⟩ | exact⟨trivial,trivial⟩
theorem z15{s:List Nat}(hs:s.length<4000000000000000000):wC yA F 112 [.str s,.func (.func 113) [] []] t=some (.str (z16 zd0 s)):=by
 refine fC.2 (w112 _ _ ?_)
 simp only[t112,qA];exact zpt (fun n=>zyw) (fun {a m R}=>by rw[q113]) rfl hs s.length 0 (by omega) (fun j x hj=>by omega)
theorem z7n{s:List Nat}(hs:s.length<4000000000000000000):wC yA F 112 [.str s,.func (.func 111) [] []] t=some (.str (z16 iQ s)):=by
 refine fC.2 (w112 _ _ ?_)
 simp only[t112,qA];exact zpt (fun n=>nZ) (fun {a m R}=>by rw[q111]) rfl hs s.length 0 (by omega) (fun j x hj=>by omega)
def resW:Nat->List Nat
 | 2=>[32,116,111,32,105,115,32,97,116,32,105,102,32,111,114,32,117,112,32]
 | 3=>[32,100,101,102,32,114,111,119,32,111,110,101,32,116,119,111,32,101,110,100,32,111,102,102,32,104,97,115,32,109,105,110,32,109,97,120,32,97,110,100,32,110,111,116,32]
 | 4=>[32,112,108,97,110,32,102,97,99,116,32,102,114,111,109,32,119,104,101,110,32,116,104,101,110,32,100,97,116,101,32,100,97,121,115,32,116,114,117,101,32,108,111,111,107,32,98,101,115,116,32,103,114,111,119,32,100,111,119,110,32,99,101,105,108,32,104,97,108,102,32,101,118,101,110,32]
 | 5=>[32,116,97,98,108,101,32,107,110,111,119,110,32,116,114,117,116,104,32,109,111,110,101,121,32,102,97,108,115,101,32,109,105,110,117,115,32,116,111,100,97,121,32,114,111,117,110,100,32,115,116,97,114,116,32,102,108,111,111,114,32]
 | 6=>[32,99,108,97,117,115,101,32,110,117,109,98,101,114,32,109,111,110,116,104,115,32]
 | 7=>[32,98,101,116,119,101,101,110,32,115,101,114,118,105,99,101,32]
 | _=>[]
def zc6(s:List Nat):Bool:=decide (2<=s.length)&&decide (s.length<=7)&&iF (z16 iQ s) s&&jT ([32]++s++[32]) (resW s.length)
def vH (n:Nat):zA × zA:=(.int .i64 (n:Int),.str (resW n))
theorem zop{a b:List Nat}(h:a.length<4294967281):wC yA F 140 [.str a,.str b] t=some (.bool (jT b a)):=by
 have hg:yA.prims.get 140=some (xK jU):=by kernel_rfl
 refine zhq hg fun H=>?_
 unfold jU;simp only[];rw[jC,dB.2 h];rfl
theorem zm7{s:List Nat}(hs:s.length<4000000000000000000):wC yA F 114 [.str s] t=some (.bool (zc6 s)):=by
 refine oN (w114 _ ?_)
 simp only[t114,qA,zD,yL];unfold zc6;by_cases h1:2<=s.length
 ·rw[if_neg (by omega)]
  by_cases h2:s.length<=7
  ·rw[if_neg (by omega)]
   simp only[q112,z7n hs,tA,zA.asStr]
   cases h3:iF (z16 iQ s) s with
   | false=>simp
   | true=>
    simp only[Bool.not_true,yar,if_false];intro b hb hbase;have hmk:mV ⟨b,t⟩=some (.map b,⟨b+1,t.set b (.map [])⟩):=rfl
    rw[hmk,tA];simp only[];have h0:(t.set b (.map [])).get b=some (.map []):=by rw[Tr.get_set,if_pos rfl]
    have ho:mD b t (t.set b (.map [])):=fun c hc=>by rw[Tr.get_set,if_neg hc]
    generalize t.set b (.map [])=t1 at h0 ho
    have hstep:∀(l:List (zA × zA)) (k:Nat) (s':List Nat) (l':List (zA × zA)) (Q:(zA × xA)->Prop) (t1:Tr rA),t1.get b=some (.map l)->mD b t t1->kG (.int .i64 (k:Int)) (.str s') l=some l'->bM yA 213 (.int .i64 (k:Int))=true →
      (∀n t2,t2.get b=some (.map l')->mD b t t2->Q (pD,⟨n,t2⟩))->∀n,t1.get n=none->yA.base<=n->rE (vI yA 213 (.map b) (.int .i64 (k:Int)) (.str s') ⟨n,t1⟩) Q:=by
     intro l k s' l' Q t1 g1 g2 h1 h2 h3 n _ _;rw[zuw h2 hbase g1 h1,tA];exact h3 n _ (by rw[Tr.get_set,if_pos rfl]) fun c hc=>by rw[Tr.get_set,if_neg hc];exact g2 c hc
    refine hstep [] 2 _ [vH 2] _ t1 h0 ho rfl (by kernel_rfl) fun n t2 g o=>?_
    refine hstep _ 3 _ [vH 2,vH 3] _ t2 g o rfl (by kernel_rfl) fun n t2 g o=>?_
    refine hstep _ 4 _ [vH 2,vH 3,vH 4] _ t2 g o rfl (by kernel_rfl) fun n t2 g o=>?_
    refine hstep _ 5 _ [vH 2,vH 3,vH 4,vH 5] _ t2 g o rfl (by kernel_rfl) fun n t2 g o=>?_
    refine hstep _ 6 _ [vH 2,vH 3,vH 4,vH 5,vH 6] _ t2 g o rfl (by kernel_rfl) fun n t2 g o=>?_
    refine hstep _ 7 _ [vH 2,vH 3,vH 4,vH 5,vH 6,vH 7] _ t2 g o rfl (by kernel_rfl) fun n t2 g o=>?_
    have hle:zB t t2:=fun c u hc=>by
     have:c≠b:=fun e=>by rw[e,hb]at hc;cases hc
     rw[o c this];exact hc
    have hl:kH yA 213 ⟨0,t2⟩ (.map b) (.int .i64 (s.length:Int)) false=some (.str (resW s.length)):=by
     have hk:bM yA 213 (.int .i64 (s.length:Int))=true/\nH (.int .i64 (s.length:Int)) [vH 2,vH 3,vH 4,vH 5,vH 6,vH 7]=some (some (.str (resW s.length))):=by
      have:s.length=2\/s.length=3\/s.length=4\/s.length=5\/s.length=6\/s.length=7:=by omega
      rcases this with e | e | e | e | e | e<;>rw[e]<;>exact⟨by kernel_rfl,rfl⟩
     exact zqk hk.1 g hk.2 ty213 rfl ty9 false
    rw[hl,tA];simp only[zA.asStr,tA];rw[bK (by simp;omega),tA]
    simp only[zA.asStr,tA];rw[bK (by simp;omega),tA]
    simp only[zA.asStr,tA];have hr:(resW s.length).length<4294967281:=by
     have:s.length=2\/s.length=3\/s.length=4\/s.length=5\/s.length=6\/s.length=7:=by omega
     rcases this with e | e | e | e | e | e<;>rw[e]<;>decide
    rw[q140,zop hr,tA];simp only[zA.asBool,tA];refine⟨?_,hle⟩
    simp[h1,h2]
  ·rw[if_pos (by omega)];simp[h2]
 ·rw[if_pos (by omega)];simp[h1]
def znn(s:List Nat):Bool:=match s with
 | []=>false
 | x::r=>decide ((x::r).length<=24)&&iQ x&&iF (z16 zd0 (x::r)) (x::r) && !zc6 (x::r)
theorem z75{s:List Nat}:wC yA F 84 [.str s] t=some (.bool (znn s)):=by
 refine fC.2 (w84 _ ?_)
 simp only[t84,qA,zD,yL]
 cases s with
 | nil=>simp[znn,cL]
 | cons x r=>
  have h0:iF (x::r) []=false:=by
   cases h:iF (x::r) []with
   | true=>rw[cL]at h;cases h
   | false=>rfl
  rw[h0];simp only[yar,if_false];unfold znn;by_cases h1:(x::r).length<=24
  ·rw[if_neg (by omega)]
   have hx:=zkz (s:=x::r) (i:=0) (x:=x) rfl
   rw[show((0:Nat):Int)=0 from rfl]at hx
   rw[hx,tA,qB,tA,q111,nZ,tA];simp only[zA.asBool,tA]
   cases h2:iQ x with
   | false=>simp
   | true=>
    simp only[Bool.not_true,yar,if_false];rw[q112,z15 (by omega),tA]
    simp only[zA.asStr,tA]
    cases h3:iF (z16 zd0 (x::r)) (x::r)with
    | false=>simp
    | true=>
     simp only[if_true,q114,zm7 (s:=x::r) (by omega),tA,zA.asBool]
     simp only[decide_eq_true h1,ybo,Bool.and_self];first | exact⟨rfl,rfl⟩ | exact⟨rfl,trivial⟩ | exact⟨trivial,trivial⟩
  ·rw[if_pos (by omega)]
   simp only[decide_eq_false h1,Bool.false_and];first | exact⟨rfl,rfl⟩ | exact⟨rfl,trivial⟩ | exact⟨trivial,trivial⟩
end Go.Proofs
namespace Go.Am
open Go Go.RowKit
section
variable {base:Nat}{W J:rH}{t:Tr rA}{Q:aB}
theorem wB{b:Bool}{x y:T}(h:b=true)(k:qA base W J x t Q):qA base W J (.ite b x y) t Q:=by
 show if b=true then _ else _;rw[if_pos h];exact k
theorem zC{b:Bool}{x y:T}(h:b≠true)(k:qA base W J y t Q):qA base W J (.ite b x y) t Q:=by
 show if b=true then _ else _;rw[if_neg h];exact k
theorem cA{x:Option zA}{K:zA->T}{v:zA}(h:x=some v)(k:qA base W J (K v) t Q):qA base W J (.opt x K) t Q:=by
 show rE x _;rw[h];exact k
theorem rD{x:Tr rA->Option zA}{K:zA->T}{v:zA}(h:x t=some v)(k:qA base W J (K v) t Q):qA base W J (.light x K) t Q:=by
 show rE (x t) _;rw[h];exact k
theorem cC{f:Nat}{a:List zA}{K:zA->T}(k:W f a t (fun v t'=>qA base W J (K v) t' Q)):qA base W J (.call f a K) t Q:=k
theorem iC{n:Int}{i:IntKind}{K:Int->T}(k:qA base W J (K n) t Q):qA base W J (.asI i (.int i n) K) t Q:=by
 show rE (z8t i (.int i n)) _;rw[qB];exact k
theorem iG{b:Bool}{K:Bool->T}(k:qA base W J (K b) t Q):qA base W J (.asB (.bool b) K) t Q:=k
theorem vJ{s:List Nat}{K:List Nat->T}(k:qA base W J (K s) t Q):qA base W J (.asS (.str s) K) t Q:=k
theorem eH{zs:List zA}{a:zA}{K:yP->T}{X:yP}(h:rK zs a=some X)(k:qA base W J (K X) t Q):qA base W J (.asG zs a K) t Q:=by
 show rE (rK zs a) _;rw[h];exact k
theorem fH{x:xA->Option (zA × xA)}{K:zA->T}(k:∀b,t.get b=none->base<=b->∃v H,x ⟨b,t⟩=some (v,H)/\qA base W J (K v) H.t Q):qA base W J (.heavy x K) t Q:=by
 intro b h1 h2;obtain⟨v,H,h3,h4⟩:=k b h1 h2
 rw[h3];exact h4
theorem xF{i:Nat}{a:List zA}(k:J i a t Q):qA base W J (.jump i a) t Q:=k
end
section
variable {t:Tr rA}{C:pA}
end
end Go.Am
namespace Go.Proofs
open Go Go.Am
variable [nC]
variable {t:Tr rA}
def zmd(v:gF):Bool:=decide (v.kind=0)&&decide (v.i=0)&&zey v.f
theorem ziz{a:gF}{u v:zA}(hu:jA t 1 (cD a.f.n.limbs) u)(hv:jA t 1 (cD a.f.d.limbs) v)(hf:a.f.ok):wC yA F 86 [.agg [.int .u8 a.kind,.bool a.f.n.neg,u,.bool a.f.d.neg,v,.int .i64 a.i]] t=some (.bool (zmd a)):=by
 refine fC.2 (w86 _ _ _ _ _ _ ?_)
 simp only[t86,qA,cH];unfold zmd;by_cases h1:a.kind=0
 ·rw[if_pos (by omega)]
  by_cases h2:a.i=0
  ·rw[if_pos h2,q116,zce hu hv hf,tA]
   simp only[zA.asBool,tA,decide_eq_true h1,decide_eq_true h2,ybo];first | exact⟨rfl,rfl⟩ | exact⟨rfl,trivial⟩ | exact⟨trivial,trivial⟩
  ·rw[if_neg h2];simp[h2]
 ·rw[if_neg (by omega)];simp[h1]
structure FM where
 style:Nat
 word:List Nat
 named:Bool
 least:Nat
 most:Nat
 level:Nat
 left:Nat
 right:Nat
def FM.cs(f:FM):List zA:=[.int .u8 f.style,.str f.word,.bool f.named,.int .i64 f.least,.int .i64 f.most,.int .i64 f.level,.int .i64 f.left,.int .i64 f.right]
def atF (w:List Nat):FM:=⟨3,w,true,1,1,7,7,7⟩
def zM(w:List Nat)(n:Bool)(a b:Nat):FM:=⟨6,w,n,a,b,7,1,1⟩
def ze4(w:List Nat)(a b c:Nat):FM:=⟨4,w,false,2,2,a,b,c⟩
def z82:List FM:=[⟨0,[],false,0,0,0,0,0⟩,⟨1,[],false,0,0,7,0,0⟩,⟨2,[116,111,100,97,121],false,0,0,7,0,0⟩,atF [102,97,99,116,32],atF [104,97,115,32],atF [],zM [108,111,111,107] true 1 2,ze4 [43] 5 5 6,ze4 [45] 5 5 6,ze4 [42] 6 6 7,ze4 [47] 6 6 7,
 zM [109,105,110] false 2 2,zM [109,97,120] false 2 2,ze4 [60] 4 5 5,ze4 [61] 4 5 5,ze4 [97,110,100] 2 2 3,ze4 [111,114] 1 1 2,⟨5,[110,111,116,32],false,1,1,3,3,3⟩,zM [105,102] false 3 3,zM [114,111,117,110,100] false 2 2,zM [98,101,116,119,101,101,110] false 2 2,
 zM [115,101,114,118,105,99,101] true 2 2,zM [98,101,115,116] true 3 3,zM [103,114,111,119] true 2 2,zM [109,111,110,116,104,115] false 1 1,zM [110,117,109,98,101,114] false 1 1,zM [115,116,97,114,116] false 1 1]
def xN:List zA:=(z82.map FM.cs).flatten
abbrev z8:List zA:=[.int .u8 0,.str [],.bool false,.int .i64 0,.int .i64 0,.int .i64 0,.int .i64 0,.int .i64 0]
theorem cv76{w:List Nat}{n:Bool}{a b:Nat}{K:yP->T}{Q:aB}(h:wp 83 (K (cellsOf (zM w n a b).cs)) t Q):wp 83 (.callv (.func (.func 108) [] []) [.str w,.bool n,.int .i64 (a:Int),.int .i64 (b:Int)] fun a=>.asG z8 a K) t Q:=by
 have e:wC yA F 108 [.str w,.bool n,.int .i64 (a:Int),.int .i64 (b:Int)] t=some (.agg (zM w n a b).cs):=by
  refine fC.2 (w108 _ _ _ _ ?_)
  simp only[t108,qA,if_true];constructor<;>trivial
 show rE (some (108,[zA.str w,.bool n,.int .i64 (a:Int),.int .i64 (b:Int)])) _
 rw[tA];simp only[];rw[q108,e,tA];exact h
theorem cv77{w:List Nat}{K:yP->T}{Q:aB}(h:wp 83 (K (cellsOf (atF w).cs)) t Q):wp 83 (.callv (.func (.func 109) [] []) [.str w] fun a=>.asG z8 a K) t Q:=by
 have e:wC yA F 109 [.str w] t=some (.agg (atF w).cs):=by
  refine fC.2 (w109 _ ?_)
  simp only[t109,qA,if_true];constructor<;>trivial
 show rE (some (109,[zA.str w])) _
 rw[tA];simp only[];rw[q109,e,tA];exact h
theorem cv78{w:List Nat}{a b c:Nat}{K:yP->T}{Q:aB}(h:wp 83 (K (cellsOf (ze4 w a b c).cs)) t Q):wp 83 (.callv (.func (.func 110) [] []) [.str w,.int .i64 (a:Int),.int .i64 (b:Int),.int .i64 (c:Int)] fun a=>.asG z8 a K) t Q:=by
 have e:wC yA F 110 [.str w,.int .i64 (a:Int),.int .i64 (b:Int),.int .i64 (c:Int)] t=some (.agg (ze4 w a b c).cs):=by
  refine fC.2 (w110 _ _ _ _ ?_)
  simp only[t110,qA,if_true];constructor<;>trivial
 show rE (some (110,[zA.str w,.int .i64 (a:Int),.int .i64 (b:Int),.int .i64 (c:Int)])) _
 rw[tA];simp only[];rw[q110,e,tA];exact h
theorem zdg{Q:aB}(h:∀b t',t.get b=none->yA.base<=b->jD t' b none xN->zB t t'->mD b t t'->Q (.ptr b 0) t'):Wc yA F 83 [] t Q:=by
 refine w83 ?_
 unfold t83;repeat (first | refine cv76 ?_ | refine cv77 ?_ | refine cv78 ?_ | refine wB rfl ?_)
 intro b hb hbase;obtain⟨t',h1,h2,h3,h4⟩:=iU hb xN none
 have e:∀l:List zA,l=xN->zpc (.agg l) ⟨b,t⟩=some (.ptr b 0,⟨b+1,t'⟩):=by
  intro l hl;show some (zA.ptr b 0,dD ⟨b,t⟩ l none)=_
  rw[hl,h1]
 rw[e _ (by rfl),tA]
 exact h b t' hb hbase h2 h3 h4
theorem zh3{Q:aB}(h:∀b t',t.get b=none->yA.base<=b->jD t' b none xN->zB t t'->mD b t t'->Q (.agg [.ptr b 0]) t'):Wc yA F 63 [] t Q:=by
 refine w63 ?_
 unfold t63;refine cC ?_
 rw[q83];refine zdg fun b t' h1 h2 h3 h4 h5=>?_
 refine wB rfl (wB rfl ?_)
 exact h b t' h1 h2 h3 h4 h5
end Go.Proofs
namespace Go.Proofs
open Go Go.Am
variable [nC]
variable {t:Tr rA}
def xD(op:Nat):FM:=z82.getD op ⟨0,[],false,0,0,0,0,0⟩
theorem wV{f:FM->List zA}(hf:∀x,(f x).length=8):∀(l:List FM) (i k:Nat),i<l.length->k<8->(l.map f).flatten[i*8+k]?=(f (l.getD i ⟨0,[],false,0,0,0,0,0⟩))[k]?
 | [],i,k,h,_=>by simp at h
 | x::l,0,k,h,hk=>by
  rw[ybn,List.flatten_cons,ybp (by rw[hf];omega)]
  simp
 | x::l,i+1,k,h,hk=>by
  rw[ybn,List.flatten_cons,yaq (by rw[hf];omega),hf,show(i+1)*8+k-8=i*8+k by omega]
  rw[wV hf l i k (by simpa using h) hk]
  simp
theorem wS{op k:Nat}(h:op<27)(hk:k<8):xN[op*8+k]?=(xD op).cs[k]?:=wV (f:=FM.cs) (fun _=>rfl) z82 op k h hk
theorem zyx{b op:Nat}(h:op<27):lB yA 188 (.ptr b 0) (.int .u8 (op:Int))=some (.ptr b (op*8)):=by
 have hA:ob (yA.tys.get 188) (fun y=>y.desc.asArr)=some (27,159):=by kernel_rfl
 rw[sA]at hA;obtain⟨y,hy,hd⟩:=hA
 unfold lB;rw[hy,uA];have e:(zA.int .u8 (op:Int)).asNat=some op:=rfl
 rw[e,uA];simp only[zA.asSlice,zA.asPtr,uA,hd];rw[ty159,uA,dB.2 h,nD];simp
theorem sL{b o k:Nat}(hk:k<8):rB yA 159 k (.ptr b o)=some (.ptr b (o+k)):=by
 have h:kV yA 159 k=some k:=by
  unfold kV;rw[ty159,uA];simp only[qD.asStruct,uA];have:k=0\/k=1\/k=2\/k=3\/k=4\/k=5\/k=6\/k=7:=by omega
  rcases this with e | e | e | e | e | e | e | e<;>rw[e]<;>rfl
 unfold rB;rw[h];rfl
section
variable {b op:Nat}(hF:jD t b none xN)(h:op<27)
include hF h
theorem zqp:oA yA 5 ⟨0,t⟩ (.ptr b (op*8+0))=some (.int .u8 (xD op).style):=hF.load1 ty5 rfl (by rw[wS h (by decide)];rfl)
theorem zxz:oA yA 9 ⟨0,t⟩ (.ptr b (op*8+1))=some (.str (xD op).word):=hF.load1 ty9 rfl (by rw[wS h (by decide)];rfl)
theorem zqq:oA yA 4 ⟨0,t⟩ (.ptr b (op*8+2))=some (.bool (xD op).named):=hF.load1 ty4 rfl (by rw[wS h (by decide)];rfl)
theorem z25:oA yA 3 ⟨0,t⟩ (.ptr b (op*8+3))=some (.int .i64 (xD op).least):=hF.load1 ty3 rfl (by rw[wS h (by decide)];rfl)
theorem z8g:oA yA 3 ⟨0,t⟩ (.ptr b (op*8+4))=some (.int .i64 (xD op).most):=hF.load1 ty3 rfl (by rw[wS h (by decide)];rfl)
theorem z24:oA yA 3 ⟨0,t⟩ (.ptr b (op*8+5))=some (.int .i64 (xD op).level):=hF.load1 ty3 rfl (by rw[wS h (by decide)];rfl)
theorem znx:oA yA 3 ⟨0,t⟩ (.ptr b (op*8+6))=some (.int .i64 (xD op).left):=hF.load1 ty3 rfl (by rw[wS h (by decide)];rfl)
theorem z23:oA yA 3 ⟨0,t⟩ (.ptr b (op*8+7))=some (.int .i64 (xD op).right):=hF.load1 ty3 rfl (by rw[wS h (by decide)];rfl)
end
theorem wF{a b:Int}(h:a≠b):lA a b≠true:=fun e=>h (cH.1 e)
theorem nLt{a b:Int}(h:¬ a<b):vC a b≠true:=fun e=>h (zD.1 e)
theorem nLe{a b:Int}(h:¬ a<=b):rC a b≠true:=fun e=>h (dF.1 e)
theorem yF{a b:Int}(h:a=b):lA a b=true:=cH.2 h
theorem yLt{a b:Int}(h:a<b):vC a b=true:=zD.2 h
theorem yLe{a b:Int}(h:a<=b):rC a b=true:=dF.2 h
theorem gE{b o:Nat}:qC (.ptr b o)=some (.ptr b o):=rfl
def dN(op:Nat)(name:List Nat)(n:Nat):Bool:=
 decide (op<27) && !decide ((xD op).style=0)&&decide ((xD op).least<=n)&&decide (n<=(xD op).most)&&(if (xD op).named=true then znn name else iF name [])
def zgo(op:Nat)(v:gF):Bool:=if op=19 then decide (1<=v.i)&&decide (v.i<=6)&&zmd { v with i:=0 } else zmd v
mutual
/-- is an expression printable at a depth? -/
def zE:mA->Nat->Bool
 | .mk op name v args,d=>decide (d<=24)&&dN op name args.length&&(if op=1 then wO v else zgo op v&&sK args (d+1))
def sK:List mA->Nat->Bool
 | [],_=>true
 | x::l,d=>zE x d&&sK l d
end
theorem zao:∀ {l:List mA} {d:Nat},sK l d=l.all fun x=>zE x d
 | [],d=>by rw[sK];rfl
 | x::l,d=>by rw[sK,zao];rfl
def z49(p0_0:zA)(p1_0:Int)(p1_1:List Nat)(p1_2:Int)(p1_3:Bool)(p1_4:zA)(p1_5:Bool)(p1_6:zA)(p1_7:Int)(p1_8:zA)(p2:Int):T:=
 .ite (tC zA.one [(.int .u8 p1_2),(.bool p1_3),p1_4,(.bool p1_5),p1_6,(.int .i64 p1_7)]) (.ite (lA p1_0 1)
 (.call 85 [(.agg [(.int .u8 p1_2),(.bool p1_3),p1_4,(.bool p1_5),p1_6,(.int .i64 p1_7)])] fun a28=>
 .asB a28 fun b29=>.ret (.bool b29))
 (.ite (lA p1_0 19)
 (.ite (vC p1_7 1)
 (.ret (.bool false))
 (.ite (vC 6 p1_7)
 (.ret (.bool false))
 (.ite true (.jump 33 [(.int .i64 p2),p0_0,(.int .u8 p1_0),(.str p1_1),(.int .u8 p1_2),(.bool p1_3),p1_4,(.bool p1_5),p1_6,(.int .i64 p1_7),p1_8,(.int .u8 p1_2),(.bool p1_3),p1_4,(.bool p1_5),p1_6,(.int .i64 0)]) .fail)))
 (.jump 33 [(.int .i64 p2),p0_0,(.int .u8 p1_0),(.str p1_1),(.int .u8 p1_2),(.bool p1_3),p1_4,(.bool p1_5),p1_6,(.int .i64 p1_7),p1_8,(.int .u8 p1_2),(.bool p1_3),p1_4,(.bool p1_5),p1_6,(.int .i64 p1_7)]))) .fail
section
variable {op:Nat}{name:List Nat}{v:gF}{a b c:zA}{bf d:Nat}
theorem zrk{v2:Int}{v':gF}{R:Bool}{n:Nat}{c3:zA}(ha:jA t 1 (cD v'.f.n.limbs) a)(hb:jA t 1 (cD v'.f.d.limbs) b)(hf:v'.f.ok)(hc:xC c=some (.int .i64 (n:Int)))
  (hargs:jp 64 4 [.int .i64 v2,c,.int .i64 (n:Int),.int .i64 0,c3] t (fun x t'=>x=.bool R/\t'=t)) (p3:Bool) (p5:Bool) (p2 p7:Int) (p4 p6:zA) :
  jp 64 33 [.int .i64 v2,c3,.int .u8 (op:Int),.str name,.int .u8 p2,.bool p3,p4,.bool p5,p6,.int .i64 p7,c,.int .u8 v'.kind,.bool v'.f.n.neg,a,.bool v'.f.d.neg,b,.int .i64 v'.i] t (fun x t'=>x=.bool (zmd v'&&R)/\t'=t):=by
 refine j64_33 _ _ _ _ _ _ _ _ _ _ _ _ _ _ _ _ _ ?_
 simp only[z5e,qA,q86,ziz ha hb hf,tA,zA.asBool]
 cases hz:zmd v' with
 | false=>simp
 | true=>
  simp only[Bool.not_true,yar,if_false,hc,tA,qB,ybo];exact hargs
theorem z7a{n:Nat}{R:Bool}(ha:jA t 1 (cD v.f.n.limbs) a)(hb:jA t 1 (cD v.f.d.limbs) b)(hf:uE.fit v.f)(hc:xC c=some (.int .i64 (n:Int)))
  (hargs:jp 64 4 [.int .i64 (d:Int),c,.int .i64 (n:Int),.int .i64 0,.ptr bf 0] t (fun x t'=>x=.bool R/\t'=t)) :
  wp 64 (z49 (.ptr bf 0) (op:Int) name (v.kind:Int) v.f.n.neg a v.f.d.neg b v.i c (d:Int)) t (fun x t'=>x=.bool (if op=1 then wO v else zgo op v&&R)/\t'=t):=by
 unfold z49;refine wB ?_ ?_
 ·rw[gG];simp only[ybh,ybl,ha.one,hb.one];rfl
 by_cases h1:op=1
 ·refine wB (yF (by omega)) ?_
  simp only[qA,q85,zaw ha hb hf,tA,zA.asBool,if_pos h1];constructor<;>trivial
 ·refine zC (wF (by omega)) ?_
  simp only[if_neg h1];unfold zgo;by_cases h2:op=19
  ·refine wB (yF (by omega)) ?_
   simp only[if_pos h2];by_cases h3:1<=v.i
   ·refine zC (nLt (by omega)) ?_
    by_cases h4:v.i<=6
    ·refine zC (nLt (by omega)) (wB rfl ?_)
     have:=zrk (op:=op) (name:=name) (v':={ v with i:=0 }) ha hb hf.1 hc hargs v.f.n.neg v.f.d.neg v.kind v.i a b
     simp only[decide_eq_true h3,decide_eq_true h4,ybo];exact this
    ·refine wB (yLt (by omega)) ?_
     simp[qA,h4]
   ·refine wB (yLt (by omega)) ?_
    simp[qA,h3]
  ·refine zC (wF (by omega)) ?_
   simp only[if_neg h2];exact zrk (op:=op) (name:=name) (v':=v) ha hb hf.1 hc hargs v.f.n.neg v.f.d.neg v.kind v.i a b
theorem z3l{n:Nat}{R:Bool}(hF:jD t bf none xN)(hop:op<256)(hn:n<iD)(hnl:name.length<iD)(ha:jA t 1 (cD v.f.n.limbs) a)(hb:jA t 1 (cD v.f.d.limbs) b)(hf:uE.fit v.f)(hc:xC c=some (.int .i64 (n:Int)))
  (hargs:d<=24->jp 64 4 [.int .i64 (d:Int),c,.int .i64 (n:Int),.int .i64 0,.ptr bf 0] t (fun x t'=>x=.bool R/\t'=t)) :
  wC yA F 64 [.agg [.ptr bf 0],.agg [.int .u8 op,.str name,.int .u8 v.kind,.bool v.f.n.neg,a,.bool v.f.d.neg,b,.int .i64 v.i,c],.int .i64 (d:Int)] t=some (.bool (decide (d<=24)&&dN op name n&&(if op=1 then wO v else zgo op v&&R))):=by
 refine fC.2 (w64 _ _ _ _ _ _ _ _ _ _ _ ?_)
 unfold t64 dN;by_cases hd:d<=24
 case neg=>
  refine wB (yLt (by omega)) ?_
  simp[qA,hd]
 refine zC (nLt (by omega)) ?_
 have htail:=z7a (op:=op) (name:=name) (d:=d) (bf:=bf) ha hb hf hc (hargs hd)
 by_cases h27:op<27
 case neg=>
  refine wB (by rw[wrap_i64 (by omega) (by omega)];exact yLe (by omega)) ?_
  simp[qA,h27]
 refine zC (by rw[wrap_i64 (by omega) (by omega)];exact nLe (by omega)) ?_
 refine cA gE (cA (zyx h27) (cA gE (cA (sL (by decide)) (rD (zqp hF h27) (iC ?_)))))
 by_cases hs:(xD op).style=0
 ·refine wB (yF (by omega)) ?_
  simp[qA,hs]
 refine zC (wF (by omega)) ?_
 refine cA hc (iC (cA gE (cA (sL (by decide)) (rD (z25 hF h27) (iC ?_)))))
 by_cases hl:(xD op).least<=n
 case neg=>
  refine wB (yLt (by omega)) ?_
  simp[qA,hl]
 refine zC (nLt (by omega)) ?_
 refine cA hc (iC (cA gE (cA (sL (by decide)) (rD (z8g hF h27) (iC ?_)))))
 by_cases hm:n<=(xD op).most
 case neg=>
  refine wB (yLt (by omega)) ?_
  simp[qA,hm]
 refine zC (nLt (by omega)) ?_
 have hld:=zqq hF h27
 refine cA gE (cA (sL (by decide)) (rD hld (iG ?_)))
 simp only[decide_eq_true hd,decide_eq_true h27,decide_eq_false hs,decide_eq_true hl,decide_eq_true hm,ybo,ybm]
 cases hnm:(xD op).named with
 | true=>
  rw[hnm]at hld;simp only[if_true];refine wB rfl (cC ?_)
  rw[q84,z75,tA];refine iG ?_
  cases hN:znn name with
  | false=>
   refine wB rfl ?_
   simp[qA]
  | true=>
   refine zC (by simp) (cA gE (cA (sL (by decide)) (rD hld (iG (zC (by simp) ?_)))))
   simp only[ybo];exact htail
 | false=>
  rw[hnm]at hld;simp only[yar,if_false];refine zC (by simp) (cA gE (cA (sL (by decide)) (rD hld (iG (wB rfl ?_)))))
  cases hN:iF name []with
  | false=>
   refine wB rfl ?_
   simp[qA]
  | true=>
   refine zC (by simp) ?_
   simp only[ybo];exact htail
end
mutual
theorem zzi{bf:Nat}(hF:jD t bf none xN):∀(x:mA) (d:Nat) (cs:List zA),x.fit->d<1000->RD t x.d cs->wC yA F 64 [.agg [.ptr bf 0],.agg cs,.int .i64 (d:Int)] t=some (.bool (zE x d))
 | .mk op name v args,d,cs,hx,hd,h=>by
  obtain⟨a,b,c,rfl,ha,hb,hc⟩:=bI h
  simp only[mA.op,mA.name,mA.v,mA.args]at ha hb hc ⊢
  have hx':=hx
  unfold mA.fit at hx';unfold zE;refine z3l hF hx'.1 (n:=args.length) hx'.2.2.2.2.1 hx'.2.1 ha hb hx'.2.2.2.1.2.1 (by rw[hc.len,yag]) fun hd'=>?_
  have:=zrp hF args args d c 0 hc rfl hx'.2.2.2.2.2 hx'.2.2.2.2.1 hd'
  exact this
theorem zrp{bf:Nat}(hF:jD t bf none xN):∀(l args:List mA) (d:Nat) (c:zA) (i:Nat),jA t 9 (args.map mA.d) c->args.drop i=l->mA.fits l->args.length<iD->d<=24 →
  jp 64 4 [.int .i64 (d:Int),c,.int .i64 (args.length:Int),.int .i64 (i:Int),.ptr bf 0] t (fun x t'=>x=.bool (sK l (d+1))/\t'=t)
 | [],args,d,c,i,hc,hl,hok,hsz,hd=>by
  have:=zee hl
  refine j64_4 _ _ _ _ _ ?_
  unfold z7f;refine zC (nLt (by omega)) ?_
  unfold sK;simp[qA]
 | x::l,args,d,c,i,hc,hl,hok,hsz,hd=>by
  obtain⟨h1,h2,h3⟩:=pY hl
  unfold iD at hsz;have hok':=hok
  unfold mA.fits at hok';refine j64_4 _ _ _ _ _ ?_
  obtain⟨pb,po,cs,g1,g2,g3,g4,g5⟩:=lF.at z7l (by simp) hc (i:=i) (d:=x.d) (by simp[h1])
  unfold z7f;refine wB (yLt (by omega)) (cA g1 (rD g2 ?_))
  rw[vP];refine eH (rI g5 x.zs) ?_
  have hmk:=g5.mk x.zs
  have hcs:[zA.int .u8 ((cellsOf cs).i 0),.str ((cellsOf cs).s 1),.int .u8 ((cellsOf cs).i 2),.bool ((cellsOf cs).b 3),(cellsOf cs).v 4,.bool ((cellsOf cs).b 5),(cellsOf cs).v 6,.int .i64 ((cellsOf cs).i 7),(cellsOf cs).v 8]=cs:=hmk
  rw[hcs];refine wB g5.all (cC ?_)
  rw[wrap_i64 (by omega) (by omega),show(d:Int)+1=((d+1:Nat):Int) by omega,q64,zzi hF x (d+1) cs hok'.1 (by omega) g5,tA]
  refine iG ?_
  unfold sK
  cases hE:zE x (d+1)with
  | false=>
   refine wB rfl ?_
   simp[qA]
  | true=>
   refine zC (by simp) (xF ?_)
   rw[wrap_i64 (by omega) (by omega),show(i:Int)+1=((i+1:Nat):Int) by omega]
   have:=zrp hF l args d c (i+1) hc h2 hok'.2 hsz hd
   simp only[ybo];exact this
end
end Go.Proofs
namespace Go.Proofs
open Go Go.Am
variable [nC]
variable {t:Tr rA}
def kR:List Int:=[31,28,31,30,31,30,31,31,30,31,30,31]
def mJ(t:Tr rA):Prop:=At t 3 0 (kR.map fun n=>zA.int .i64 n)
theorem mJ.mono{t':Tr rA}(h:mJ t)(k:zB t t'):mJ t':=At.mono k h
theorem zcq(x:Int){k:Nat}(hk:0<k) : -(k:Int)<Int.tmod x k/\Int.tmod x k<k:=by
 have h:=Int.natAbs_tmod x k
 have h2:=ybz x.natAbs (show 0<(k:Int).natAbs by simpa using hk)
 omega
def z22(y:Int):Bool:=decide (Int.tmod y 4=0)&&(!decide (Int.tmod y 100=0)||decide (Int.tmod y 400=0))
def lenD (y m:Int):Int:=if m<1 then 0 else if 12<m then 0 else if m=2/\z22 y=true then 29 else kR.getD (m-1).toNat 0
def zxy(y:Int):Int:=wA .i64 ((wA .i64 ((wA .i64 (Int.tdiv y 4))-(wA .i64 (Int.tdiv y 100))))+(wA .i64 (Int.tdiv y 400)))
def zpo(v0 v3:Int):Nat->Int->Int->Int
 | 0,_,v4=>v4
 | k+1,v5,v4=>if v5<=Int.tmod v0 12 then zpo v0 v3 k (v5+1) (wA .i64 (v4+lenD v3 v5))else v4
def zfm(m:Int):Int:=zpo m (wA .i64 (1900+(wA .i64 (Int.tdiv m 12)))) 11 1 (wA .i64 ((wA .i64 ((wA .i64 (365*(wA .i64 ((wA .i64 (1900+(wA .i64 (Int.tdiv m 12))))-1900))))+zxy (wA .i64 ((wA .i64 (1900+(wA .i64 (Int.tdiv m 12))))-1))))-zxy 1899))
def zc3(P:Int->Bool):Nat->Nat->Nat->Int
 | 0,i,_=>(i:Int)
 | k+1,i,j=>if i<j then(if P (((i+j) / 2:Nat):Int)=true then zc3 P k i ((i+j) / 2)else zc3 P k ((i+j) / 2+1) j)else(i:Int)
theorem z8f(y:Int):wC yA F 231 [.int .i64 y] t=some (.bool (z22 y)):=by
 refine fC.2 (w231 _ ?_)
 unfold t231 z22;by_cases h1:Int.tmod y 4=0
 ·refine wB (yF h1) ?_
  by_cases h2:Int.tmod y 100=0
  ·refine zC (by rw[yF h2];simp) ?_
   simp[qA,h1,h2,yN]
  ·refine wB ?_ ?_
   ·cases hq:lA (Int.tmod y 100) 0 with
    | true=>exact absurd hq (wF h2)
    | false=>rfl
   ·simp[qA,h1,h2]
 ·refine zC (wF h1) ?_
  simp[qA,h1]
theorem len_at(hG:mJ t){m:Int}(h1:1<=m)(h2:m<=12):∃b o,lB yA 275 (.ptr 3 0) (.int .i64 (wA .i64 (m-1)))=some (.ptr b o)/\oA yA 3 ⟨0,t⟩ (.ptr b o)=some (.int .i64 (kR.getD (m-1).toNat 0)):=by
 obtain⟨k,rfl⟩:∃k:Nat,m=(k:Int)+1:=⟨(m-1).toNat,by omega⟩
 have hk:k<12:=by omega
 have e0:((k:Int)+1-1).toNat=k:=by omega
 rw[wrap_i64 (by omega) (by omega),e0,show(k:Int)+1-1=(k:Int) by omega]
 have hx:(kR.map fun n=>zA.int .i64 n)[k]?=some (.int .i64 (kR.getD k 0)):=by
  have:k<kR.length:=hk
  simp[yae this]
 refine⟨3,0+k,?_,hG.load1 ty3 rfl hx⟩
 unfold lB;rw[ty275,uA];have e:(zA.int .i64 (k:Int)).asNat=some k:=rfl
 rw[e,uA];simp only[zA.asSlice,zA.asPtr,uA,qD.asArr];rw[ty3,uA,dB.2 hk,nD];simp
theorem znp(hG:mJ t)(y m:Int):wC yA F 219 [.int .i64 y,.int .i64 m] t=some (.int .i64 (lenD y m)):=by
 refine fC.2 (w219 _ _ ?_)
 unfold t219 lenD;by_cases h1:m<1
 ·rw[if_pos h1];exact wB (yLt h1) ⟨rfl,rfl⟩
 rw[if_neg h1];refine zC (nLt h1) ?_
 by_cases h2:12<m
 ·rw[if_pos h2];exact wB (yLt h2) ⟨rfl,rfl⟩
 rw[if_neg h2];refine zC (nLt h2) ?_
 obtain⟨b,o,g1,g2⟩:=len_at hG (m:=m) (by omega) (by omega)
 by_cases h3:m=2
 ·refine wB (yF h3) (cC ?_)
  rw[q231,z8f,tA];refine iG ?_
  cases hl:z22 y with
  | true=>rw[if_pos ⟨h3,rfl⟩];exact wB rfl ⟨rfl,rfl⟩
  | false=>rw[if_neg (by simp)];exact zC (by simp) (cA g1 (rD g2 (iC ⟨rfl,rfl⟩)))
 ·rw[if_neg (by simp[h3])]
  exact zC (wF h3) (cA g1 (rD g2 (iC ⟨rfl,rfl⟩)))
theorem zsf(hG:mJ t)(v0 v3:Int):∀(k:Nat) (v5 v4:Int),v5+k=12->1<=v5->jp 198 2 [.int .i64 v0,.int .i64 v3,.int .i64 v4,.int .i64 v5] t (fun v t'=>v=.int .i64 (zpo v0 v3 k v5 v4)/\t'=t):=by
 have hb:=zcq v0 (k:=12) (by omega)
 rw[show((12:Nat):Int)=12 from rfl]at hb
 intro k;induction k with
 | zero=>
  intro v5 v4 h1 h2;exact zyr _ _ _ _ (zC (nLe (by omega)) ⟨rfl,rfl⟩)
 | succ k ih=>
  intro v5 v4 h1 h2;unfold zpo;by_cases h3:v5<=Int.tmod v0 12
  ·rw[if_pos h3]
   refine zyr _ _ _ _ (wB (yLe h3) (cC ?_))
   rw[q219,znp hG,tA];refine iC (xF ?_)
   rw[wrap_i64 (n:=v5+1) (by omega) (by omega)]
   exact ih _ _ (by omega) (by omega)
  ·rw[if_neg h3]
   exact zyr _ _ _ _ (zC (nLe h3) ⟨rfl,rfl⟩)
theorem zqo(y:Int):wC yA F 218 [.int .i64 y] t=some (.int .i64 (zxy y)):=fC.2 (w218 _ ⟨rfl,rfl⟩)
theorem zby(hG:mJ t)(m:Int):wC yA F 198 [.int .i64 m] t=some (.int .i64 (zfm m)):=by
 refine fC.2 (w198 _ (cC ?_))
 rw[q218,zqo,tA];refine iC (cC ?_)
 rw[q218,zqo,tA];exact iC (xF (zsf hG m _ 11 1 _ (by omega) (by omega)))
theorem zm3{v1:zA}{P:Int->Bool}(hcall:∀n:Int,∀(R:aB),R (.bool (P n)) t->rE (bO v1 [.int .i64 n]) fun p=>Wq yA F sJ p.1 p.2 t R) :
  ∀(k i j:Nat),j-i<=k->j<=100000->jp 216 2 [v1,.int .i64 (i:Int),.int .i64 (j:Int)] t (fun v t'=>v=.int .i64 (zc3 P k i j)/\t'=t):=by
 intro k;induction k with
 | zero=>
  intro i j h1 h2;exact zyp _ _ _ (zC (nLt (by omega)) ⟨rfl,rfl⟩)
 | succ k ih=>
  intro i j h1 h2;unfold zc3;by_cases h3:i<j
  ·have e1:wA .i64 (Int.fdiv (wA .u64 (wA .i64 ((i:Int)+(j:Int)))) 2)=(((i+j) / 2:Nat):Int):=by
    rw[wrap_i64 (n:=(i:Int)+(j:Int)) (by omega) (by omega),mE (by omega) (by omega),Int.fdiv_eq_ediv_of_nonneg _ (by decide),wrap_i64 (by omega) (by omega)]
    omega
   rw[if_pos h3];refine zyp _ _ _ (wB (yLt (by omega)) ?_)
   show rE _ _
   rw[e1];refine hcall _ _ (iG ?_)
   cases hP:P (((i+j) / 2:Nat):Int)with
   | false=>
    rw[if_neg (by simp)]
    refine wB rfl (xF ?_)
    rw[wrap_i64 (by omega) (by omega),show(((i+j) / 2:Nat):Int)+1=(((i+j) / 2+1:Nat):Int) by omega]
    exact ih _ _ (by omega) h2
   | true=>
    rw[if_pos rfl];exact zC (by simp) (xF (ih _ _ (by omega) (by omega)))
  ·rw[if_neg h3]
   exact zyp _ _ _ (zC (nLt (by omega)) ⟨rfl,rfl⟩)
def kM(d:Int):Int:=zc3 (fun n=>vC d (zfm (wA .i64 (n+1)))) 2154 0 2154
theorem zs1(hG:mJ t)(d:Int):wC yA F 197 [.int .i64 d] t=some (.int .i64 (kM d)):=by
 refine oN (w197 _ ?_)
 unfold t197;refine fH fun b hb hbase=>?_
 obtain⟨t',e,hc,hle,_⟩:=iU hb [.int .i64 d] none
 refine⟨.ptr b 0,⟨b+1,t'⟩,by show some (zA.ptr b 0,dD ⟨b,t⟩ [.int .i64 d] none)=_;rw[e],cC ?_⟩
 have hld:oA yA 3 ⟨0,t'⟩ (.ptr b 0)=some (.int .i64 d):=hc.load1 (j:=0) ty3 rfl rfl
 have:wC yA F 216 [.int .i64 2154,.func (.func 217) [] [.ptr b 0]] t'=some (.int .i64 (kM d)):=by
  refine fC.2 (w216 _ _ (xF ?_))
  refine zm3 (fun n R hR=>?_) 2154 0 2154 (by omega) (by omega)
  show rE (some (217,[zA.int .i64 n,.ptr b 0])) _
  rw[tA];simp only[];have:wC yA F 217 [zA.int .i64 n,.ptr b 0] t'=some (.bool (vC d (zfm (wA .i64 (n+1))))):=by
   refine fC.2 (w217 _ _ (rD hld (iC (cC ?_))))
   rw[q198,zby (hG.mono hle),tA]
   exact iC (rD hld (wB aV ⟨rfl,rfl⟩))
  rw[q217,this,tA];exact hR
 rw[q216];exact Wc_pv this (iC ⟨rfl,hle⟩)
def ymdD (d:Int):zA:=.tup [.int .i64 (wA .i64 (1900+(wA .i64 (Int.tdiv (kM d) 12)))),.int .i64 (wA .i64 ((Int.tmod (kM d) 12)+1)),.int .i64 (wA .i64 ((wA .i64 (d-zfm (kM d)))+1)),.int .i64 0]
theorem ymd_ok(hG:mJ t){d:Int}(h0:0<=d)(h1:d<65536):wC yA F 173 [.int .i64 d] t=some (ymdD d):=by
 have hd:wC yA F 196 [.int .i64 d] t=some (.bool true):=by
  refine fC.2 (w196 _ (wB (yLe h0) ?_))
  rw[yLt h1];exact⟨rfl,rfl⟩
 refine fC.2 (w173 _ (cC ?_))
 rw[q196,hd,tA];refine iG (zC (by simp) (cC ?_))
 rw[q197,zs1 hG,tA];refine iC (cC ?_)
 rw[q198,zby hG,tA];exact iC ⟨rfl,rfl⟩
def cB (l:List Nat):List zA:=l.map fun(n:Nat)=>zA.int .u8 (n:Int)
theorem ten{l:List Nat}(h:l.length=10):∃a b c d e f g h i j,l=[a,b,c,d,e,f,g,h,i,j]:=by
 match l,h with
 | [a,b,c,d,e,f,g,h,i,j],_=>exact⟨a,b,c,d,e,f,g,h,i,j,rfl⟩
theorem tS{l:List Nat}:(cB l).length=l.length:=by simp[cB]
theorem cB_set{l:List Nat}{i x:Nat}:(cB l).set i (.int .u8 (x:Int))=cB (l.set i x):=by simp[cB,List.map_set]
theorem idx164{b i:Nat}(h:i<10):lB yA 236 (.ptr b 0) (.int .i64 (i:Int))=some (.ptr b i):=by
 unfold lB;rw[zu4,uA];have e:(zA.int .i64 (i:Int)).asNat=some i:=rfl
 rw[e,uA];simp only[zA.asSlice,zA.asPtr,uA,qD.asArr];rw[ty5,uA,dB.2 h,nD];simp
theorem iY{b:Nat}{l:List Nat}(h:jD t b none (cB l))(hl:l.length=10):oA yA 236 ⟨0,t⟩ (.ptr b 0)=some (.agg (cB l)):=by
 have:=h.at.load (C:=yA) (ty:=236) zu4 rfl (n:=10) rfl (j:=0) (by rw[tS];omega)
 rw[yax]at this;rw[this];congr 2
 rw[ybs,ybb (by rw[tS];omega)]
theorem zbn{b:Nat}{l m:List Nat}(h:jD t b none (cB l))(hb:yA.base<=b)(hl:l.length=10)(hm:m.length=10):∃t',(∀n,dC yA 236 (.ptr b 0) (.agg (cB m)) ⟨n,t⟩=some (pD,⟨n,t'⟩))/\jD t' b none (cB m)/\mD b t t':=by
 obtain⟨t',h1,h2,h3⟩:=h.store (C:=yA) hb (T:=236) (v:=.agg (cB m)) (j:=0) zu4 (by show(cB m).length=10;rw[tS,hm]) (by show 0+(cB m).length<=_;rw[tS,tS];omega) (by
  show tC zA.one (cB m)=true
  rw[gG,ybc];intro a ha;unfold cB at ha;obtain⟨n,_,rfl⟩:=List.mem_map.1 ha
  rfl)
 refine⟨t',h1,?_,h3⟩
 have e:lN (cB l) 0 (zA.agg (cB m)).cells=cB m:=by
  show lN (cB l) 0 (cB m)=cB m
  unfold lN;rw[List.take_zero,List.nil_append,yau (by rw[tS,tS];omega),ybe]
 rw[e]at h2;exact h2
abbrev z10:List zA:=[.int .u8 0,.int .u8 0,.int .u8 0,.int .u8 0,.int .u8 0,.int .u8 0,.int .u8 0,.int .u8 0,.int .u8 0,.int .u8 0]
theorem zlp{l:List Nat}(hl:l.length=10):rK z10 (.agg (cB l))=some (cellsOf (cB l)):=by
 obtain⟨a,b,c,d,e,f,g,h,i,j,rfl⟩:=ten hl
 exact yQ rfl
theorem zit{l:List Nat}(hl:l.length=10):[zA.int .u8 ((cellsOf (cB l)).i 0),.int .u8 ((cellsOf (cB l)).i 1),.int .u8 ((cellsOf (cB l)).i 2),.int .u8 ((cellsOf (cB l)).i 3),.int .u8 ((cellsOf (cB l)).i 4),.int .u8 ((cellsOf (cB l)).i 5),.int .u8 ((cellsOf (cB l)).i 6),.int .u8 ((cellsOf (cB l)).i 7),.int .u8 ((cellsOf (cB l)).i 8),.int .u8 ((cellsOf (cB l)).i 9)]=cB l:=by
 obtain⟨a,b,c,d,e,f,g,h,i,j,rfl⟩:=ten hl
 rfl
def z9f (x:Int):Nat:=(48+Int.tmod x 10).toNat
theorem zzx(x:Int):wA .u8 (wA .i64 (48+Int.tmod x 10))=((z9f x:Nat):Int)/\z9f x<256:=by
 have:=zcq x (k:=10) (by omega)
 rw[show((10:Nat):Int)=10 from rfl]at this
 unfold z9f;rw[wrap_i64 (by omega) (by omega),zch (by omega) (by omega)]
 omega
def wrL:Nat->Int->Nat->List Nat->List Nat
 | 0,_,_,l=>l
 | k+1,x,i,l=>wrL k (wA .i64 (Int.tdiv x 10)) (i-1) (l.set i (z9f x))
theorem zci:∀(k:Nat) (x:Int) (i:Nat) (l:List Nat),tB 256 l->(wrL k x i l).length=l.length/\tB 256 (wrL k x i l)
 | 0,x,i,l,h=>⟨rfl,h⟩
 | k+1,x,i,l,h=>by
  unfold wrL;have:=zci k (wA .i64 (Int.tdiv x 10)) (i-1) (l.set i (z9f x)) (fun y hy=>by
   rcases List.mem_or_eq_of_mem_set hy with h1 | h1
   ·exact h y h1
   ·rw[h1];exact(zzx x).2)
  rw[yci]at this;exact this
theorem zi3{b:Nat}(hb:yA.base<=b){c0 c1 c2 c3 c4 c5 c6 c7 c8 c9:Int}:∀(k:Nat) (from_:Nat) (x:Int) (i:Int) (l:List Nat) (t:Tr rA),i+1=(from_:Int)+k->from_+k<=10->l.length=10->jD t b none (cB l) →
  jp 174 2 [.int .i64 (from_:Int),.int .i64 x,.ptr b 0,.int .i64 i,.int .u8 c0,.int .u8 c1,.int .u8 c2,.int .u8 c3,.int .u8 c4,.int .u8 c5,.int .u8 c6,.int .u8 c7,.int .u8 c8,.int .u8 c9] t (fun v t'=>v=.agg (cB (wrL k x i.toNat l))/\mD b t t'):=by
 intro k;induction k with
 | zero=>
  intro from_ x i l t h1 h2 h3 h4;refine z6e _ _ _ _ _ _ _ _ _ _ _ _ _ _ (zC (nLe (by omega)) (rD (iY h4 h3) (eH (zlp h3) (wB rfl ?_))))
  show zA.agg _=_/\_
  rw[zit h3];exact⟨rfl,fun _ _=>rfl⟩
 | succ k ih=>
  intro from_ x i l t h1 h2 h3 h4;obtain⟨n,rfl⟩:∃n:Nat,i=(n:Int):=⟨i.toNat,by omega⟩
  refine z6e _ _ _ _ _ _ _ _ _ _ _ _ _ _ (wB (yLe (by omega)) (cA (idx164 (by omega)) (fH fun m _ _=>?_)))
  rw[(zzx x).1]
  obtain⟨t',g1,g2,g3⟩:=h4.store1 (v:=.int .u8 ((z9f x:Nat):Int)) hb ty5 rfl rfl rfl (j:=n) (by rw[tS];omega)
  refine⟨_,_,g1 m,xF ?_⟩
  rw[cB_set]at g2;rw[wrap_i64 (n:=(n:Int)-1) (by omega) (by omega)]
  have:=ih from_ (wA .i64 (Int.tdiv x 10)) ((n:Int)-1) (l.set n (z9f x)) t' (by omega) (by omega) (by rw[yci];exact h3) g2
  refine Jq.mono this fun v t2 hh=>⟨?_,fun c hc=>by rw[hh.2 c hc,g3 c hc]⟩
  rw[hh.1];have e1:((n:Int)-1).toNat=n-1:=by omega
  have e2:((n:Int)).toNat=n:=by omega
  rw[e1,e2];rfl
theorem zry{l:List Nat}(hl:l.length=10){from_ k:Nat}(hk:from_+k<=10)(h1:1<=from_+k)(x:Int):wC yA F 174 [.agg (cB l),.int .i64 (from_:Int),.int .i64 (k:Int),.int .i64 x] t=some (.agg (cB (wrL k x (from_+k-1) l))):=by
 obtain⟨a,b,c,d,e,f,g,h,i,j,rfl⟩:=ten hl
 refine oN ?_
 show Wf 174 [.agg [.int .u8 a,.int .u8 b,.int .u8 c,.int .u8 d,.int .u8 e,.int .u8 f,.int .u8 g,.int .u8 h,.int .u8 i,.int .u8 j],.int .i64 (from_:Int),.int .i64 (k:Int),.int .i64 x] t _
 refine w174 _ _ _ _ _ _ _ _ _ _ _ _ _ ?_
 unfold t174;refine fH fun n hn hbase=>?_
 obtain⟨t',e1,hc,hle,ho⟩:=iU hn (cB [a,b,c,d,e,f,g,h,i,j]) none
 refine⟨.ptr n 0,⟨n+1,t'⟩,by show some (zA.ptr n 0,dD ⟨n,t⟩ (cB [a,b,c,d,e,f,g,h,i,j]) none)=_;rw[e1],xF ?_⟩
 rw[wrap_i64 (n:=(from_:Int)+(k:Int)) (by omega) (by omega),wrap_i64 (by omega) (by omega)]
 have:=zi3 (c0:=0) (c1:=0) (c2:=0) (c3:=0) (c4:=0) (c5:=0) (c6:=0) (c7:=0) (c8:=0) (c9:=0) hbase k from_ x ((from_:Int)+(k:Int)-1) _ t' (by omega) hk hl hc
 refine Jq.mono this fun v t2 hh=>⟨?_,fun b' y hy=>?_⟩
 ·rw[hh.1,show((from_:Int)+(k:Int)-1).toNat=from_+k-1 by omega]
 ·have:b'≠n:=fun e=>by rw[e,hn]at hy;cases hy
  rw[hh.2 b' this];exact hle _ _ hy
def z0g (d:Int):List Nat:=
 wrL 2 (wA .i64 ((wA .i64 (d-zfm (kM d)))+1)) 9 (wrL 2 (wA .i64 ((Int.tmod (kM d) 12)+1)) 6 (wrL 4 (wA .i64 (1900+(wA .i64 (Int.tdiv (kM d) 12)))) 3 [0,0,0,0,45,0,0,45,0,0]))
theorem zrn(d:Int):(z0g d).length=10/\tB 256 (z0g d):=by
 have h0:tB 256 [0,0,0,0,45,0,0,45,0,0]:=by intro x hx;simp at hx;omega
 have h1:=zci 4 (wA .i64 (1900+(wA .i64 (Int.tdiv (kM d) 12)))) 3 _ h0
 have h2:=zci 2 (wA .i64 ((Int.tmod (kM d) 12)+1)) 6 _ h1.2
 have h3:=zci 2 (wA .i64 ((wA .i64 (d-zfm (kM d)))+1)) 9 _ h2.2
 exact⟨by unfold z0g;rw[h3.1,h2.1,h1.1];rfl,h3.2⟩
theorem z7m{K:zA->T}{Q:aB}{l:List Nat}{p from_ k:Nat}{x:Int}(hl:l.length=10)(hlt:tB 256 l)(hp:yA.base<=p)(hc:jD t p none (cB l))(hk:from_+k<=10)(h1:1<=from_+k)
  (h:∀t',jD t' p none (cB (wrL k x (from_+k-1) l))->mD p t t'->∀u,wp 147 (K u) t' Q) :
  wp 147 (.call 174 [.agg [(.int .u8 ((cellsOf (cB l)).i 0)),(.int .u8 ((cellsOf (cB l)).i 1)),(.int .u8 ((cellsOf (cB l)).i 2)),(.int .u8 ((cellsOf (cB l)).i 3)),(.int .u8 ((cellsOf (cB l)).i 4)),(.int .u8 ((cellsOf (cB l)).i 5)),(.int .u8 ((cellsOf (cB l)).i 6)),(.int .u8 ((cellsOf (cB l)).i 7)),(.int .u8 ((cellsOf (cB l)).i 8)),(.int .u8 ((cellsOf (cB l)).i 9))],.int .i64 (from_:Int),.int .i64 (k:Int),.int .i64 x] fun a=>.asG z10 a fun X=>
   .heavy (dC yA 236 (.ptr p 0) (.agg [(.int .u8 (X.i 0)),(.int .u8 (X.i 1)),(.int .u8 (X.i 2)),(.int .u8 (X.i 3)),(.int .u8 (X.i 4)),(.int .u8 (X.i 5)),(.int .u8 (X.i 6)),(.int .u8 (X.i 7)),(.int .u8 (X.i 8)),(.int .u8 (X.i 9))])) K) t Q:=by
 have hw:=zci k x (from_+k-1) l hlt
 refine cC ?_
 rw[zit hl,q174,zry hl hk h1,tA];refine eH (zlp (by rw[hw.1,hl])) (fH fun n _ _=>?_)
 rw[zit (by rw[hw.1,hl])]
 obtain⟨t',g1,g2,g3⟩:=zbn hc hp hl (m:=wrL k x (from_+k-1) l) (by rw[hw.1,hl])
 exact⟨_,_,g1 n,h t' g2 g3 _⟩
theorem cal_ok(hG:mJ t){d:Int}(h0:0<=d)(h1:d<65536):wC yA F 147 [.int .i64 d] t=some (.str (z0g d)):=by
 refine oN (w147 _ ?_)
 unfold t147;refine cC ?_
 rw[q173,ymd_ok hG h0 h1,tA];unfold ymdD;refine cA rfl (iC (cA rfl (iC (cA rfl (iC (cA rfl (iC (zC (by rw[yF rfl];simp) (wB rfl ?_)))))))))
 refine fH fun p hp hbase=>?_
 obtain⟨t1,e1,c1,l1,o1⟩:=aT (C:=yA) zu4 hp
 refine⟨_,_,e1,?_⟩
 have c1':jD t1 p none (cB [0,0,0,0,0,0,0,0,0,0]):=c1
 refine fH fun n _ _=>?_
 obtain⟨t2,e2,c2,o2⟩:=zbn c1' hbase rfl (m:=[0,0,0,0,45,0,0,45,0,0]) rfl
 refine⟨_,_,e2 n,?_⟩
 have h0':tB 256 [0,0,0,0,45,0,0,45,0,0]:=by intro x hx;simp at hx;omega
 refine rD (iY c2 rfl) (eH (zlp rfl) ?_)
 refine z7m (from_:=0) (k:=4) rfl h0' hbase c2 (by omega) (by omega) fun t3 c3 o3 _=>?_
 have w3:=zci 4 (wA .i64 (1900+(wA .i64 (Int.tdiv (kM d) 12)))) 3 _ h0'
 refine rD (iY c3 w3.1) (eH (zlp w3.1) ?_)
 refine z7m (from_:=5) (k:=2) w3.1 w3.2 hbase c3 (by omega) (by omega) fun t4 c4 o4 _=>?_
 have w4:=zci 2 (wA .i64 ((Int.tmod (kM d) 12)+1)) 6 _ w3.2
 rw[w3.1]at w4;refine rD (iY c4 w4.1) (eH (zlp w4.1) ?_)
 refine z7m (from_:=8) (k:=2) w4.1 w4.2 hbase c4 (by omega) (by omega) fun t5 c5 o5 _=>?_
 have hL:=zrn d
 have c5':jD t5 p none (cB (z0g d)):=c5
 have hs:aF yA 236 ⟨0,t5⟩ (.ptr p 0) none none=some (.slice p 0 10 10):=by
  obtain⟨c,g,_⟩:=c5'
  have hk:uD ⟨0,t5⟩ p=some (c,(cB (z0g d)).length,none):=by unfold uD;rw[g];rfl
  unfold aF;rw[zu4,uA];unfold zK;simp only[zA.asStr,zA.asSlice,zA.asPtr,qD.asArr,uA];unfold dK;rw[ty5,uA];have hb2:xM 10 10 none none=some (0,10):=rfl
  rw[hb2,uA];unfold kI pH;rw[hk];rfl
 have hv:nK yA 38 9 ⟨0,t5⟩ (.slice p 0 10 10)=some (.str (z0g d)):=ztt zu3 ty9 rfl rfl rfl ty5 rfl c5' hL.1 (fun j x hj=>by
  unfold cB;rw[yav,hj];rfl) hL.2
 refine rD hs (rD hv (vJ ⟨rfl,fun b y hy=>?_⟩))
 have:b≠p:=fun e=>by rw[e,hp]at hy;cases hy
 rw[o5 b this,o4 b this,o3 b this,o2 b this];exact l1 _ _ hy
end Go.Proofs
namespace Go.Am
open Go Go.RowKit
theorem z0v{C:pA}{F:Tr uB}{f:Nat}{args:List zA}{t:Tr rA}{Q:aB}{g:List zA->xA->Option (zA × xA)}(hg:C.prims.get f=some g)(h:∀X HA,Ov C.base t X HA->∃v t' HA',g args HA=some (v,HA')/\Ov C.base t' X HA'/\Q v t')(hf:Nat.blt f yo=true:=by rfl):Wc C F f args t Q:=by
 intro X HA ho;rw[sV hf,hg];obtain⟨v,t',HA',h1,h2,h3⟩:=h X HA ho
 exact⟨v,t',HA',X,h1,h2,XLe.refl _,h3⟩
end Go.Am
namespace Go.Proofs
open Go Go.Am
variable [nC]
variable {t tf:Tr rA}{bx T:Nat}{s m:List Nat}{ex:List zA}
def BX (T:Nat)(ex:List zA)(tf t:Tr rA)(bx:Nat)(s:List Nat):Prop:=
 yA.base<=bx/\tf.get bx=none/\zB tf t/\tB 256 s/\zf8 fU T (ex.length+2)=true/\∃p tv,(p=zA.nilptr\/p=.ptr bx 0)/\jD t bx (some (.ty T)) (p::tv::ex)/\bF (.ty 5) yA.base tf t 1 (pB .u8 s) tv/\¬ zJ tv bx
theorem BX.le(h:BX T ex tf t bx s):zB tf t:=h.2.2.1
theorem BX.check{Q:aB}(h:BX T ex tf t bx s)(hQ:∀t',BX T ex tf t' bx s->Q (.tup []) t'):Wc yA F 144 [.ptr bx 0] t Q:=by
 have h0:=h
 obtain⟨h1,h2,h3,ha,hM,p,tv,hp,⟨c,h4,h4'⟩,h5,h6⟩:=h
 have hg:yA.prims.get 144=some pChk:=by kernel_rfl
 refine z0v hg fun X HA ho=>?_
 have hk:uD HA bx=some (c,(p::tv::ex).length,some (.ty T)):=by unfold uD;rw[ho.up h4];rfl
 have hc0:c.get 0=some p:=h4' 0 p rfl
 rcases hp with rfl | rfl
 ·refine⟨.tup [],t.set bx (.cells (c.set 0 (.ptr bx 0)) (zA.nilptr::tv::ex).length (some (.ty T))),setBlk HA bx (.cells (c.set 0 (.ptr bx 0)) (zA.nilptr::tv::ex).length (some (.ty T))),?_,ho.setBlk h4 _,hQ _ ?_⟩
  ·unfold pChk zdc
   simp only[];rw[hk,uA,hc0,uA];simp only[];have e1:(!Nat.blt bx (256+nC.n))=true:=by
    cases hq:Nat.blt bx (256+nC.n)with
    | true=>
     have h3:=dB.1 hq
     have h1':256+nC.n<=bx:=h1
     omega
    | false=>rfl
   have e2:zf8 fU T (zA.nilptr::tv::ex).length=true:=hM
   rw[e1,e2];rfl
  ·refine⟨h1,h2,fun b u hb=>?_,ha,hM,.ptr bx 0,tv,.inr rfl,⟨_,by rw[Tr.get_set,if_pos rfl];rfl,fun j a hj=>?_⟩,h5.keep' fun b hb=>?_,h6⟩
   ·have:b≠bx:=fun e=>by rw[e,h2]at hb;cases hb
    rw[Tr.get_set,if_neg this];exact h3 _ _ hb
   ·rw[Tr.get_set]
    split
    ·rename_i e;subst e;exact hj
    ·rename_i e
     refine h4' j a ?_
     cases j with
     | zero=>exact absurd rfl e
     | succ j=>exact hj
   ·have:b≠bx:=fun e=>h6 (e ▸ hb)
    rw[Tr.get_set,if_neg this]
 ·refine⟨.tup [],t,HA,?_,ho,hQ _ h0⟩
  unfold pChk zdc;simp only[];rw[hk,uA,hc0,uA];simp only[];rw[mB.2 rfl,mB.2 rfl];rfl
theorem fa77{b:Nat}:rB yA 164 1 (.ptr b 0)=some (.ptr b 1):=by kernel_rfl
theorem BX.write{Q:aB}(h:BX T ex tf t bx s)(hm:m≠[])(hlt:tB 256 m)(hl:s.length+m.length<400000)(hQ:∀v t',BX T ex tf t' bx (s++m)->Q v t'):Wc yA F 119 [.ptr bx 0,.str m] t Q:=by
 refine w119 _ _ ?_
 unfold t119;refine cC ?_
 rw[q144];refine h.check fun t' h'=>?_
 obtain⟨h1,h2,h3,ha,hM,p,tv,hp,h4,h5,h6⟩:=h'
 refine cA gE (cA fa77 (rD (h4.load1 (j:=1) zu3 rfl rfl) (fH fun n hn hbase=>?_)))
 have hbn:n≠bx:=by intro e;obtain⟨c,hh,_⟩:=h4;rw[<- e,hn]at hh;cases hh
 obtain⟨t1,g1,g2,g3,g4⟩:=zgy el32 ⟨_,ty9,rfl⟩ co5 h5 hm hl hn hbase h3
 refine⟨_,_,g1,cA gE (cA fa77 (fH fun n2 _ _=>?_))⟩
 have h4':jD t1 bx (some (.ty T)) (p::tv::ex):=h4.off (g4 bx hbn.symm h6)
 obtain⟨t2,e1,e2,e3⟩:=h4'.store1 (v:=.slice n 0 (s.length+m.length) (s.length+m.length)) h1 zu3 rfl rfl rfl (j:=1) (by simp)
 refine⟨_,_,e1 n2,hQ _ _ ⟨h1,h2,g3.off h2 e3,fun x hx=>?_,hM,p,_,hp,e2,g2.keep' fun b hb=>e3 b fun e=>?_,fun e=>?_⟩⟩
 ·rcases List.mem_append.1 hx with hx | hx
  ·exact ha x hx
  ·exact hlt x hx
 ·rw[kP]at hb;exact hbn (hb.symm.trans e)
 ·rw[kP]at e;exact hbn e.symm
theorem BX.len(h:BX T ex tf t bx s):wC yA F 118 [.ptr bx 0] t=some (.int .i64 (s.length:Int)):=by
 obtain⟨h1,h2,h3,ha,hM,p,tv,hp,h4,h5,h6⟩:=h
 refine fC.2 (w118 _ ?_)
 unfold t118;have hlen:=h5.len
 rw[lE]at hlen;exact cA gE (cA fa77 (rD (h4.load1 (j:=1) zu3 rfl rfl) (cA hlen (iC ⟨rfl,rfl⟩))))
theorem zdm:∀ {l:List Nat},tB 256 l->qF Go.Am.byteOf (l.map fun(n:Nat)=>zA.int .u8 (n:Int))=some l
 | [],_=>rfl
 | x::l,h=>by
  have hx:Go.Am.byteOf (.int .u8 (x:Int))=some x:=by
   show iA (Nat.blt x 256) (some x)=_
   rw[dB.2 (h x (.head _))];rfl
  rw[ybn,wK,hx,uA,zdm fun y hy=>h y (.tail _ hy)]
  rfl
theorem BX.string{Q:aB}(h:BX T ex tf t bx s)(hs:s≠[])(hl:s.length<400000)(hQ:∀t',zB tf t'->Q (.str s) t'):Wc yA F 88 [.ptr bx 0] t Q:=by
 obtain⟨h1,h2,h3,ha,hM,p,tv,hp,⟨c,h4,h4'⟩,h5,h6⟩:=h
 have hg:yA.prims.get 88=some pStr:=by kernel_rfl
 rcases h5 with⟨rfl,h5⟩ | ⟨b,cl,d,rfl,k0,k1,k2,k3,k4⟩
 ·exact absurd (ybd.1 (by rw[<- lE (k:=.u8),h5];rfl)) hs
 have hpos:0<s.length:=List.length_pos_iff.2 hs
 rw[lE,Nat.mul_one]at k2;rw[lS]at k4;subst k4;have hbytes:∀j a,(s.map fun(n:Nat)=>zA.int .u8 (n:Int))[j]?=some a->d.get j=some a:=by
  intro j a hj;have hj':(aL .u8 s)[j]?=some [a]:=by
   unfold aL;rw[yav]at hj ⊢
   cases hx:s[j]? with
   | none=>rw[hx]at hj;cases hj
   | some x=>rw[hx]at hj;cases hj;rfl
  have:=(k3 j _ hj').2 0 a rfl
  rw[Nat.mul_one,ybu]at this;exact this
 refine z0v hg fun X HA ho=>?_
 have hk:uD HA bx=some (c,(p::zA.slice b 0 (pB .u8 s).length (pB .u8 s).length::ex).length,some (.ty T)):=by unfold uD;rw[ho.up h4];rfl
 have hk2:uD HA b=some (d,s.length,some (.ty 5)):=by unfold uD;rw[ho.up k2];rfl
 have hc1:=h4' 1 _ rfl
 refine⟨.str s,t.del b,⟨HA.next,HA.t.del b⟩,?_,ho.delBlk k2,hQ _ fun e u he=>?_⟩
 ·unfold pStr kU
  simp only[];rw[hk,uA,hc1,uA];simp only[zA.asSlice,uA,lE];rw[hk2,uA];simp only[];have hm:=zxl hbytes s.length 0 (by simp)
  rw[ybs,ybb (by simp)]at hm
  rw[hm,uA,zdm ha,uA];have e1:(!Nat.blt b (256+nC.n))=true:=by
   cases hq:Nat.blt b (256+nC.n)with
   | true=>
    have h3:=dB.1 hq
    have h1':256+nC.n<=b:=k0
    omega
   | false=>rfl
  rw[e1,mB.2 rfl,dB.2 hpos,eD.2 (yal _),dB.2 (show s.length<1000000000 by omega),mB.2 rfl]
  rfl
 ·have:e≠b:=fun h=>by rw[h,k1]at he;cases he
  rw[Tr.get_del,if_neg this];exact h3 _ _ he
end Go.Proofs
namespace Go.Proofs
open Go Go.Am
variable [nC]
variable {t:Tr rA}
def zfe(date:List Nat)(v:gF):List Nat:=
 if v.kind=1 then(if v.i=1 then [116,114,117,101]else [102,97,108,115,101])
 else if v.kind=2 then yK (gJ v.f)
 else if v.kind=3 then [109,111,110,101,121,32]++yK (gJ v.f)
 else if v.kind=4 then date
 else if v.kind=5 then yK (rJ v.i)++[32,100,97,121,115]
 else if v.kind=6 then yK (rJ v.i)++[32,109,111,110,116,104,115]
 else []
theorem rX(s:List Nat):(yK s).length<=s.length+6:=by
 unfold yK;split
 ·rw[yah,yck]
  show 6+(s.length-1)<=_
  omega
 ·omega
theorem zb1{v:gF}(h:wO v=true)(hk:v.kind=2\/v.kind=3):rN v.f=true:=by
 unfold wO at h;rw[if_pos hk]at h;simp only[yac]at h;have:=h.2
 unfold zp5 at this;simp only[yac]at this;exact this.1.2
theorem zi7{a:gF}{u v:zA}{date:List Nat}(hu:jA t 1 (cD a.f.n.limbs) u)(hv:jA t 1 (cD a.f.d.limbs) v)(hf:gF.fit a)(hp:wO a=true)(hd:a.kind=4->wC yA F 147 [.int .i64 a.i] t=some (.str date)):wC yA F 120 [.agg [.int .u8 a.kind,.bool a.f.n.neg,u,.bool a.f.d.neg,v,.int .i64 a.i]] t=some (.str (zfe date a)):=by
 obtain⟨_,hff,hi1,hi2⟩:=hf
 have hil:=zh7 hi1 hi2
 have hsl:=rX (rJ a.i)
 have kk:∀j:Int,lA (a.kind:Int) j=decide ((a.kind:Int)=j):=fun j=>yN
 refine fC.2 (w120 _ _ _ _ _ _ ?_)
 simp only[t120,qA,kk];unfold zfe;by_cases k1:a.kind=1
 ·have e:(a.kind:Int)=1:=by omega
  have hb:wC yA F 145 [.bool (lA a.i 1)] t=some (.str (if a.i=1 then [116,114,117,101]else [102,97,108,115,101])):=by
   refine fC.2 (w145 _ ?_)
   have h94:wC yA F 171 [.bool (lA a.i 1)] t=some (.str (if a.i=1 then [116,114,117,101]else [102,97,108,115,101])):=by
    refine fC.2 (w171 _ ?_)
    by_cases h:a.i=1<;>simp[t171,qA,yN,h]
   simp only[t145,qA,q171,h94,tA,zA.asStr];first | exact⟨rfl,rfl⟩ | exact⟨trivial,trivial⟩ | exact⟨rfl,trivial⟩
  simp[e,k1,q145,hb,zA.asStr]
 have e1:¬ (a.kind:Int)=1:=by omega
 by_cases k2:a.kind=2
 ·have e:(a.kind:Int)=2:=by omega
  simp[e,k2,q146,zd5 hu hv hff (zb1 hp (.inl k2)),zA.asStr]
 have e2:¬ (a.kind:Int)=2:=by omega
 by_cases k3:a.kind=3
 ·have e:(a.kind:Int)=3:=by omega
  have hl:=zd6 hff (zb1 hp (.inr k3))
  have hl2:=rX (gJ a.f)
  have:=bK (a:=[109,111,110,101,121,32]) (b:=yK (gJ a.f)) (by simp;omega)
  simp[e,k3,q146,zd5 hu hv hff (zb1 hp (.inr k3)),zA.asStr,this]
 have e3:¬ (a.kind:Int)=3:=by omega
 by_cases k4:a.kind=4
 ·have e:(a.kind:Int)=4:=by omega
  simp[e,k4,q147,hd k4,zA.asStr]
 have e4:¬ (a.kind:Int)=4:=by omega
 by_cases k5:a.kind=5
 ·have e:(a.kind:Int)=5:=by omega
  have:=bK (a:=yK (rJ a.i)) (b:=[32,100,97,121,115]) (by simp;omega)
  simp[e,k5,q148,zgf hi1 hi2,zA.asStr,this]
 have e5:¬ (a.kind:Int)=5:=by omega
 by_cases k6:a.kind=6
 ·have e:(a.kind:Int)=6:=by omega
  have:=bK (a:=yK (rJ a.i)) (b:=[32,109,111,110,116,104,115]) (by simp;omega)
  simp[e,k6,q148,zgf hi1 hi2,zA.asStr,this]
 have e6:¬ (a.kind:Int)=6:=by omega
 simp[e1,e2,e3,e4,e5,e6,k1,k2,k3,k4,k5,k6]
end Go.Proofs
