/- simulate, whole. -/
import Derived.Test.YtfijloeeppcipaaGreatDoorG21
set_option linter.all false
noncomputable section
set_option maxRecDepth 100000
namespace Go.Proofs
open Go Go.Am
variable [lC]
variable {t:Tr rA}
def zoa{la lb:List Nat}{pa pb:zA}{m top:Nat}{Q:cB}(ha:lA t 1 (iB .u32 la) pa)(hb:lA t 1 (iB .u32 lb) pb)(hal:jB BB la)(hbl:jB BB lb)(hla:la.length=m+3)(hm:m<700000)(hlb:lb.length<=m+3)(htop:la[m+2]?=some top)(ht0:0<top)(hle:val BB lb<=val BB la)
  (hQ:∀u0 u1 v0 v1 ev W,0<W->val BB la / W<18446744073709551616->val BB lb / W<18446744073709551616->(v0=0\/z6r (val BB la / W) (val BB lb / W) u0 u1 v0 v1 ev)->Q (.agg [.int .u64 (u0:Int),.int .u64 (u1:Int),.int .u64 (v0:Int),.int .u64 (v1:Int),.bool ev]) t) :
  Wc yA F 237 [pa,pb] t Q:=by
 have hBB:=dK
 have htlt:top<4294967296:=by have:=gI hal htop;omega
 obtain⟨s,hs,hs1,hs2,hs3⟩:=zy2 (t:=t) htlt ht0
 obtain⟨c,off,g1,g2⟩:=ha.idx fF htop
 have hK:BB=2^(32-s)*2^s:=by rw[<- Nat.pow_add,show 32-s+s=32 by omega,hBB]
 have hp:0<2^(32-s):=Nat.pow_pos (by decide)
 have va:=zsf hK hp aG hal (m:=m) (by omega)
 have vb:=zsf hK hp aG hbl hlb
 have hW:0<BB^m*2^(32-s):=Nat.mul_pos (Nat.pow_pos aG) hp
 have hdiv:val BB lb / (BB^m*2^(32-s))<=val BB la / (BB^m*2^(32-s)):=Nat.div_le_div_right hle
 have hwt:wd la (m+2)=top:=by unfold wd;rw[htop];rfl
 have wa1:=zno aG hal (m+1)
 have wa0:=zno aG hal m
 have hz:wd la m / 2^(32-s)<2^s:=ycu (by rw[<- hK];exact wa0)
 rw[hBB]at va vb;have bigA:(wd la (m+2)*4294967296+wd la (m+1))*2^s+wd la m / 2^(32-s)<18446744073709551616:=by
  rw[hwt];have q1:top+1<=2^(32-s):=by
   have:top*2^s<2^(32-s)*2^s:=by rw[<- hK,hBB];exact hs2
   exact Nat.lt_of_mul_lt_mul_right this
  have q2:(top*4294967296+wd la (m+1))+1<=2^(32-s)*4294967296:=by
   have:=ybi 4294967296 q1
   omega
  have q3:=ybi (2^s) q2
  have q4:2^(32-s)*4294967296*2^s=18446744073709551616:=by
   have:2^(32-s)*2^s=4294967296:=by rw[<- hK,hBB]
   rw[Nat.mul_right_comm,this]
  rw[ybo,Nat.one_mul]at q3;omega
 have hBB':∀l,val 4294967296 l=val BB l:=fun l=>by rw[hBB]
 have hPP:(4294967296:Nat)^m=BB^m:=by rw[hBB]
 rw[hBB',hPP]at va vb;have mC:(wd lb (m+2)*4294967296+wd lb (m+1))*2^s+wd lb m / 2^(32-s)<18446744073709551616:=by
  rw[va]at bigA;rw[vb];exact yam hdiv bigA
 have h1:=z0b (n:=m+3) (s:=s) ha hal (by omega) (by omega) hs (yam (Nat.le_add_right _ _) bigA)
 have h2:=z0b (n:=m+3) (s:=s) hb hbl (by omega) (by omega) hs (yam (Nat.le_add_right _ _) mC)
 rw[show m+3-1=m+2 by omega,show m+3-2=m+1 by omega,show m+3-3=m by omega]at h1 h2;rw[va]at h1 bigA;rw[vb]at h2 mC;generalize hw:BB^m*2^(32-s)=W at *
 have e1:((m+3:Nat):Int)-1=((m+2:Nat):Int):=by omega
 refine w237 _ _ ?_
 simp only[t237,qA,ha.len,wA,sB,nF,hla,e1];rw[wrap_i64 (by omega) (by omega),g1,wA,g2,wA,sB,wA,q249,hs3,wA,sB,wA,q250,h1,wA,sB,wA,q250,h2,wA,sB,wA]
 simp only[if_true];exact zif (P:=Lsim (val BB la / W) (val BB lb / W)) bigA mC (fun x y u0 u1 u2 v0 v1 v2 ev hP hy k1 k2=>z2e hP hy k1 k2) (fun x y u0 u1 u2 v0 v1 v2 ev hP=>hQ u0 u1 v0 v1 ev W hW bigA mC hP.2.2.2.2) _ _ 0 1 0 0 0 1 false 0 0 0 0 false (z2f _ _) (by omega) (by omega) hdiv (by omega) (by omega)
end Go.Proofs
namespace Go.Am
def z0j{A B X Y u0 u1 v0 v1:Nat}{ev:Bool}(h1:ev=true->X+v0*B=u0*A/\Y+u1*A=v1*B)(h2:ev=false->X+u0*A=v0*B/\Y+v1*B=u1*A)(hA:A=v1*X+v0*Y)(hB:B=u1*X+u0*Y):Nat.gcd X Y=Nat.gcd A B:=by
 have gX:=Nat.gcd_dvd_left X Y
 have gY:=Nat.gcd_dvd_right X Y
 have gA:=Nat.gcd_dvd_left A B
 have gB:=Nat.gcd_dvd_right A B
 refine Nat.dvd_antisymm (Nat.dvd_gcd ?_ ?_) (Nat.dvd_gcd ?_ ?_)
 ·generalize Nat.gcd X Y=g at *
  rw[hA];exact Nat.dvd_add (yce gX _) (yce gY _)
 ·generalize Nat.gcd X Y=g at *
  rw[hB];exact Nat.dvd_add (yce gX _) (yce gY _)
 ·generalize Nat.gcd A B=g at *
  cases ev with
  | true=>
   have:=(h1 rfl).1
   exact(Nat.dvd_add_left (yce gB v0)).1 (this ▸ yce gA u0)
  | false=>
   have:=(h2 rfl).1
   exact(Nat.dvd_add_left (yce gA u0)).1 (this ▸ yce gB v0)
 ·generalize Nat.gcd A B=g at *
  cases ev with
  | true=>
   have:=(h1 rfl).2
   exact(Nat.dvd_add_left (yce gA u1)).1 (this ▸ yce gB v1)
  | false=>
   have:=(h2 rfl).2
   exact(Nat.dvd_add_left (yce gB v1)).1 (this ▸ yce gA u1)
def z0k{a b q r:Nat}(h:a=b*q+r):Nat.gcd b r=Nat.gcd a b:=by
 subst h;rw[Nat.gcd_comm (b*q+r) b,ybh,Nat.gcd_comm b (q*b+r),Nat.gcd_mul_right_add_left]
 exact Nat.gcd_comm _ _
def zzav{x y:Nat}:Nat.gcd y (x%y)=Nat.gcd x y:=by
 rw[Nat.gcd_comm y (x%y),<- Nat.gcd_rec,Nat.gcd_comm]
def zkh{B:Nat}{l:List Nat}(hB:0<B)(h:jB B l)(hl:l.length<=2):val B l<B*B:=by
 have h1:=bK hB h
 have h2:B^l.length<=B^2:=yao hB hl
 rw[Nat.pow_two]at h2;omega
end Go.Am
namespace Go.Proofs
open Go Go.Am
variable [lC]
variable {t:Tr rA}
def cG{c:Prop}{d:Decidable c}{P Q:Prop}(h:c)(k:P):@ite Prop c d P Q:=by rw[yab h];exact k
def zr2{c:Prop}{d:Decidable c}{P Q:Prop}(h:¬ c)(k:Q):@ite Prop c d P Q:=by rw[yaa h];exact k
def zph{Q:cB}:∀(y x:Nat),x<18446744073709551616->y<18446744073709551616->(∀t' r rv,dA t t'->lA t' 1 (iB .u32 r) rv->jB BB r->norm r->val BB r=Nat.gcd x y->Q rv t')->jp 226 6 [.int .u64 (x:Int),.int .u64 (y:Int)] t Q:=by
 have hBB:=dK
 intro y;induction y using Nat.strongRecOn with
 | ind y ih=>
  intro x hx hy hQ;refine j226_6 _ _ ?_
  simp only[z65,qA,bT];by_cases h0:y=0
  ·subst h0
   rw[yaa (by simp)]
   simp only[q241];refine z3p hx fun t' v' h1 h2=>?_
   have a1:=zm8 hx
   have a2:=zs9 x
   rw[<- hBB]at a1 a2;exact hQ t' (zgb x) v' h1 h2 a1 (zow x) (by rw[a2,Nat.gcd_zero_right])
  ·rw[yab (by omega),zcq (by omega),wA,sB,wA]
   have hm:=ycy x (show 0<y by omega)
   have hg:=zzav (x:=x) (y:=y)
   generalize x%y=z at *
   exact ih z hm y hy (by omega) fun t' r rv k1 k2 k3 k4 k5=>hQ t' r rv k1 k2 k3 k4 (by rw[k5,hg])
def zy4{l:List Nat}{v:zA}(hv:lA t 1 (iB .u32 l) v)(hl:l.length<=2)(hlt:jB BB l):uC yA F 240 [v] t=some (.int .u64 ((val BB l:Nat):Int)):=by
 have hBB:=dK
 rw[hBB]at hlt ⊢
 exact z96 hv hl hlt
def z1s{la lb:List Nat}{pa pb:zA}{Q:cB}(ha:lA t 1 (iB .u32 la) pa)(hb:lA t 1 (iB .u32 lb) pb)(hal:jB BB la)(hbl:jB BB lb)(hla:la.length<=2)(hlb:lb.length<=2)
  (hQ:∀t' r rv,dA t t'->lA t' 1 (iB .u32 r) rv->jB BB r->norm r->val BB r=Nat.gcd (val BB la) (val BB lb)->Q rv t'):jp 226 33 [pa,pb] t Q:=by
 have hBB:=dK
 have b1:=zkh aG hal hla
 have b2:=zkh aG hbl hlb
 refine zzak _ _ ?_
 simp only[zw8,qA,q240,zy4 ha hla hal,zy4 hb hlb hbl,wA,sB];rw[hBB]at b1 b2;have hBB':∀l,val 4294967296 l=val BB l:=fun l=>by rw[hBB]
 rw[hBB']at b1 b2;exact zph _ _ b1 b2 hQ
def z1t{Q:cB}{t0:Tr rA}{G:Nat}(hQ:∀t' r rv,dA t0 t'->lA t' 1 (iB .u32 r) rv->jB BB r->norm r->val BB r=G->Q rv t'):∀(n:Nat) (la lb:List Nat) (pa pb:zA) (t:Tr rA),val BB la+val BB lb=n->dA t0 t->lA t 1 (iB .u32 la) pa->lA t 1 (iB .u32 lb) pb->jB BB la->jB BB lb->norm la->norm lb->val BB lb<=val BB la->la.length<700000->Nat.gcd (val BB la) (val BB lb)=G->jp 226 2 [pa,pb] t Q:=by
 have hBB:=dK
 have hB1:1<BB:=by omega
 intro n;induction n using Nat.strongRecOn with
 | ind n ih=>
  intro la lb pa pb t hn ht ha hb hal hbl han hbn hle hlen hg;have hlb:lb.length<=la.length:=gO hB1 hal hbn hle
  refine j226_2 _ _ ?_
  simp only[z66,qA,hb.len,wA,sB,nF,zD];by_cases h2:2<lb.length
  ·rw[yab (by omega)]
   have hb0:lb≠[]:=by intro e;subst e;simp at h2
   have hbpos:0<val BB lb:=by
    rcases yav (val BB lb)with h | h
    ·exact absurd (cX aG hbn h) hb0
    ·exact h
   obtain⟨m,hm⟩:∃m,la.length=m+3:=⟨la.length-3,by omega⟩
   obtain⟨top,htop⟩:=getElem?_of_lt (l:=la) (i:=m+2) (by omega)
   have ha0:la≠[]:=by intro e;subst e;simp at hm
   have ht0:0<top:=by
    have:=han ha0
    have hlast:la.getLast ha0=top:=by
     rw[List.getLast_eq_getElem];have:la[la.length-1]?=some top:=by rw[hm];exact htop
     rw[ybd (by omega)]at this
     exact yci this
    rw[hlast]at this;omega
   rw[q237];refine zoa ha hb hal hbl hm (by omega) (by omega) htop ht0 hle fun u0 u1 v0 v1 ev W hW hA hB hL=>?_
   have eG:zK [(.int .u64 0),(.int .u64 0),(.int .u64 0),(.int .u64 0),(.bool false)] (.agg [.int .u64 (u0:Int),.int .u64 (u1:Int),.int .u64 (v0:Int),.int .u64 (v1:Int),.bool ev])=some (cellsOf [.int .u64 (u0:Int),.int .u64 (u1:Int),.int .u64 (v0:Int),.int .u64 (v1:Int),.bool ev]):=jN rfl
   rw[eG];simp only[wA,cellsOf,zz6,jR,yaz,yba,if_true,zck];by_cases hv0:v0=0
   ·refine cG (mG.2 (by omega)) ?_
    rw[q238];refine zmk ha hb hlen hal hbl han hbn hb0 fun t' q r qv rv k1 k2 k3 k4 k5 k6 k7 k8 k9=>?_
    simp only[mB,zA.asTup,sA,eF,yaz,yba,wA];refine ih (val BB lb+val BB r) (by omega) lb r pb rv t' rfl (ht.trans k1) (hb.mono k1) k3 hbl k5 hbn k7 (by omega) (by omega) ?_
    rw[z0k k8];exact hg
   ·refine zr2 (fun e=>absurd (mG.1 e) (by omega)) ?_
    rcases hL with h | hL
    ·exact absurd h hv0
    obtain⟨s1,s2,s3,s4⟩:=zqe hA hB hL
    have eA:val BB la=W*(val BB la / W)+val BB la%W:=(ych _ _).symm
    have eB:val BB lb=W*(val BB lb / W)+val BB lb%W:=(ych _ _).symm
    obtain⟨X,Y,l1,l2,l3,l4,l5,l6⟩:=lehmer eA eB (ycy _ hW) (ycy _ hW) hL
    have hgg:=z0j l1 l2 l4 l5
    have hXA:X<=val BB la:=by
     have:X<=v1*X:=yan _ (by
      obtain⟨x,y,_,_,_,_,_,_,w2,w3⟩:=hL;omega)
     omega
    cases ev with
    | true=>
     obtain⟨m1,m2⟩:=l1 rfl
     simp only[if_true];rw[q239];refine pY ha hb hal hbl s1 s3 hlen (by omega) (by omega) fun t1 r1 rv1 k1 k2 k3 k4 k5=>?_
     rw[q239];refine pY (hb.mono k1) (ha.mono k1) hbl hal s4 s2 (by omega) hlen (by omega) fun t2 r2 rv2 j1 j2 j3 j4 j5=>?_
     have e1:val BB r1=X:=by omega
     have e2:val BB r2=Y:=by omega
     refine ih (val BB r1+val BB r2) (by omega) r1 r2 rv1 rv2 t2 rfl (ht.trans (k1.trans j1)) (k2.mono j1) j2 k3 j3 k4 j4 (by omega) ?_ (by rw[e1,e2,hgg];exact hg)
     have:=gO hB1 hal k4 (by rw[e1];exact hXA)
     omega
    | false=>
     obtain⟨m1,m2⟩:=l2 rfl
     simp only[if_true,ybq,if_false];rw[q239];refine pY hb ha hbl hal s3 s1 (by omega) hlen (by omega) fun t1 r1 rv1 k1 k2 k3 k4 k5=>?_
     rw[q239];refine pY (ha.mono k1) (hb.mono k1) hal hbl s2 s4 hlen (by omega) (by omega) fun t2 r2 rv2 j1 j2 j3 j4 j5=>?_
     have e1:val BB r1=X:=by omega
     have e2:val BB r2=Y:=by omega
     refine ih (val BB r1+val BB r2) (by omega) r1 r2 rv1 rv2 t2 rfl (ht.trans (k1.trans j1)) (k2.mono j1) j2 k3 j3 k4 j4 (by omega) ?_ (by rw[e1,e2,hgg];exact hg)
     have:=gO hB1 hal k4 (by rw[e1];exact hXA)
     omega
  ·rw[yaa (by omega)]
   simp only[mG];by_cases h0:lb.length=0
   ·rw[yab (by omega)]
    have:lb=[]:=ycc.1 h0
    subst this;refine hQ t la pa ht ha hal han ?_
    rw[<- hg];simp only[val];rw[Nat.gcd_zero_right]
   ·rw[yaa (by omega)]
    simp only[ha.len,wA,sB,nF,zD];have hb0:lb≠[]:=by intro e;subst e;simp at h0
    by_cases h3:2<la.length
    ·rw[yab (by omega),q238]
     refine zmk ha hb hlen hal hbl han hbn hb0 fun t' q r qv rv k1 k2 k3 k4 k5 k6 k7 k8 k9=>?_
     simp only[mB,zA.asTup,sA,eF,yaz,yba,wA];have:=gO hB1 hbl k7 (Nat.le_of_lt k9)
     refine z1s (hb.mono k1) k3 hbl k5 (by omega) (by omega) fun t2 r2 rv2 j1 j2 j3 j4 j5=>?_
     exact hQ t2 r2 rv2 (ht.trans (k1.trans j1)) j2 j3 j4 (by rw[j5,z0k k8];exact hg)
    ·rw[yaa (by omega)]
     refine z1s ha hb hal hbl (by omega) (by omega) fun t2 r2 rv2 j1 j2 j3 j4 j5=>?_
     exact hQ t2 r2 rv2 (ht.trans j1) j2 j3 j4 (by rw[j5];exact hg)
def cd_ok{la lb:List Nat}{pa pb:zA}{Q:cB}(ha:lA t 1 (iB .u32 la) pa)(hb:lA t 1 (iB .u32 lb) pb)(hal:jB BB la)(hbl:jB BB lb)(han:norm la)(hbn:norm lb)(hla:la.length<700000)(hlb:lb.length<700000)
  (hQ:∀t' r rv,dA t t'->lA t' 1 (iB .u32 r) rv->jB BB r->norm r->val BB r=Nat.gcd (val BB la) (val BB lb)->Q rv t'):Wc yA F 226 [pa,pb] t Q:=by
 have hBB:=dK
 have hB1:1<BB:=by omega
 have hlt:=z1n hB1 hal hbl han hbn
 refine w226 _ _ ?_
 simp only[t226,qA,q236,z8h (by omega) ha hb,wA,sB,zD]
 by_cases hc:bJ la lb<0
 ·rw[yab hc]
  have:=hlt.1 hc
  exact z1t hQ _ lb la pb pa t rfl (dA.refl _) hb ha hbl hal hbn han (by omega) hlb (Nat.gcd_comm _ _)
 ·rw[yaa hc]
  have:val BB lb<=val BB la:=Nat.le_of_not_lt fun h=>hc (hlt.2 h)
  exact z1t hQ _ la lb pa pb t rfl (dA.refl _) ha hb hal hbl han hbn this hla rfl
end Go.Proofs
namespace Go.Proofs
open Go Go.Am
variable [lC]
variable {t:Tr rA}
def zak{neg:Bool}{l:List Nat}(h:jJ neg l=true):norm l:=by
 intro hne;unfold jJ at h;rw[yaa hne,ybb]at h;have:=of_decide_eq_true h.2
 intro e;exact this (by rw[List.getLast?_eq_some_getLast hne,e])
def zj0{l:List uI}{v:zA}(hv:lA t 2 (l.map uI.d) v)(hb:∀w∈l,w.limbs.length<1125899906842624)(hn:l.length<1125899906842624):∀(k i:Nat),i+k=l.length->jp 224 2 [v,.int .i64 (l.length:Int),.int .i64 (i:Int)] t (fun r m=>r=.bool ((l.drop i).all fun w=>jJ w.neg w.limbs)/\m=t):=by
 intro k;induction k with
 | zero=>
  intro i hi;refine z7z _ _ _ ?_
  simp only[zxa,qA,zD];rw[yaa (by omega),ybt (by omega)]
  (first | exact⟨rfl,rfl⟩ | exact⟨rfl,trivial⟩ | trivial)
 | succ k ih=>
  intro i hi;have hlt:i<l.length:=by omega
  have hx:l[i]?=some l[i]:=ybd hlt
  obtain⟨b,off,cs,g1,g2,_,_,g5⟩:=oE.at sl279 (by simp) hv (i:=i) (d:=l[i].d) (by simp[hx])
  obtain⟨u,rfl,hu⟩:=xV g5
  have hv1:=zcf (neg:=l[i].neg) (hb _ (ycj hlt)) hu
  refine z7z _ _ _ ?_
  simp only[zxa,qA,zD];rw[yab (by omega),g1,wA,g2,iM,wA,vF g5 (uI.zs _)]
  simp only[wA,cellsOf,jR,zhx,yaz,yba];have hone:kB zA.one [.bool l[i].neg,u]=true:=by
   show(bif zA.one (.bool l[i].neg)then(bif zA.one u then true else false)else false)=true
   rw[hu.one];rfl
  refine cG hone ?_
  rw[q187,hv1];simp only[wA,pO,zix];rw[ybl hlt,ycg]
  cases hq:jJ l[i].neg l[i].limbs with
  | false=>simp
  | true=>
   simp only[ycn,Bool.true_eq_false,if_false];rw[wrap_i64 (by omega) (by omega)]
   exact ih (i+1) (by omega)
def zqb{l:List uI}{v:zA}(hv:lA t 2 (l.map uI.d) v)(hb:∀w∈l,w.limbs.length<1125899906842624)(hn:l.length<1125899906842624):uC yA F 224 [v] t=some (.bool (l.all fun w=>jJ w.neg w.limbs)):=by
 refine mD.2 (w224 _ ?_)
 simp only[t224,qA,hv.len,wA,sB,ybf];have:=zj0 hv hb hn l.length 0 (by omega)
 rw[ycr]at this;exact this
def gcd_ok{n d:uI}{u v:zA}{Q:cB}(hu:lA t 1 (oD n.limbs) u)(hv:lA t 1 (oD d.limbs) v)(hn:n.limbs.length<700000)(hd:d.limbs.length<700000)(hnl:jB 65536 n.limbs)(hdl:jB 65536 d.limbs)(hnv:jJ n.neg n.limbs=true)(hdv:jJ d.neg d.limbs=true)
  (hQ:∀t' g rv,dA t t'->lA t' 1 (oD g) rv->jB 65536 g->norm g->val 65536 g=Nat.gcd (val 65536 n.limbs) (val 65536 d.limbs)->Q (.tup [.agg [.bool false,rv],.int .i64 0]) t'):Wc yA F 210 [.agg [.bool n.neg,u],.agg [.bool d.neg,v]] t Q:=by
 have hBB:=dK
 refine w210 _ _ _ _ ?_
 simp only[t210,qA];intro b hb hbase;obtain⟨t1,g1,g2,g3,g4⟩:=zlq (C:=yA) (T:=279) (el:=29) (sz:=2) (n:=2) (cl:=[[.bool n.neg,u],[.bool d.neg,v]]) (ps:=[(0,.agg [.bool n.neg,u]),(1,.agg [.bool d.neg,v])]) ty279 rfl ty29 rfl rfl (by decide) rfl (fun i cs hi=>by
  rcases i with _ | _ | i
  ·simp at hi;subst hi;rfl
  ·simp at hi;subst hi;rfl
  ·simp at hi) rfl hb
 rw[g1,wA];have hw:lA t1 2 ([n,d].map uI.d) (.slice b 0 2 2):=⟨_,g2,by
  simp only[ycm,List.map_nil,uF,kG];refine⟨_,_,rfl,?_,_,_,rfl,?_,rfl⟩
  ·unfold uI.d
   rw[tI];refine⟨[[.bool n.neg],[u]],rfl,?_⟩
   simp only[uF,kG,gP,kJ];exact⟨_,_,rfl,rfl,_,_,rfl,⟨u,rfl,hu.mono g3⟩,rfl⟩
  ·unfold uI.d
   rw[tI];refine⟨[[.bool d.neg],[v]],rfl,?_⟩
   simp only[uF,kG,gP,kJ];exact⟨_,_,rfl,rfl,_,_,rfl,⟨v,rfl,hv.mono g3⟩,rfl⟩⟩
 have hall:=zqb hw (fun w hw=>by
  rcases ybs.1 hw with rfl | hw
  ·omega
  ·rw[ydd.1 hw];omega) (by simp)
 rw[q224,hall];simp only[wA,pO,zix,ycg,yck,hnv,hdv,Bool.and_self,Bool.true_eq_false,if_false];rw[q190];refine zop (hu.mono g3) (by omega) hnl fun t2 v2 k1 k2=>?_
 rw[yab hv.same,q190];refine zop ((hv.mono g3).mono k1) (by omega) hdl fun t3 v3 m1 m2=>?_
 have an:=tX hnl
 have ad:=tX hdl
 rw[<- hBB]at an ad;rw[q226];refine cd_ok (k2.mono m1) m2 an ad (dX (zak hnv)) (dX (zak hdv)) (by rw[zO];omega) (by rw[zO];omega) fun t4 r rv p1 p2 p3 p4 p5=>?_
 rw[hBB]at p3;have vn:∀l,val BB (gF l)=val 65536 l:=fun l=>by rw[hBB];exact zc5 l
 rw[vn,vn]at p5;have hrl:r.length<400000:=by
  have hB1:1<BB:=by omega
  rcases yav (val 65536 n.limbs)with h0 | h0
  ·rw[h0,Nat.gcd_zero_left,<- vn]at p5
   have:=gO hB1 ad p4 (Nat.le_of_eq p5)
   rw[zO]at this;omega
  ·have h1:=Nat.gcd_le_left (val 65536 d.limbs) h0
   rw[<- p5,<- vn]at h1;have:=gO hB1 an p4 h1
   rw[zO]at this;omega
 rw[q225];refine zwd p2 hrl p3 fun t5 v5 s1 s2=>?_
 rw[bV p4]at s2 ⊢
 have eG:zK [(.bool false),.nilslice] (.agg [.bool (if r=[]then false else false),v5])=some (cellsOf [.bool (if r=[]then false else false),v5]):=jN (by
  show(true&&(zpb .nilslice v5&&true))=true
  rw[oR s2];rfl)
 rw[eG];have hone:kB zA.one [.bool false,v5]=true:=by
  show(bif zA.one (.bool false)then(bif zA.one v5 then true else false)else false)=true
  rw[s2.one];rfl
 simp only[wA,cellsOf,jR,zhx,yaz,yba,ite_self,hone,if_true];refine hQ t5 (iE (qG r)) v5 (g3.trans (k1.trans (m1.trans (p1.trans s1)))) s2 (lQ (za0 p3)) (xQ _) ?_
 rw[jM,<- p5,zc4,hBB]
end Go.Proofs
namespace Go.Am
def yF.fit(f:yF):Prop:=f.ok/\jB 65536 f.n.limbs/\jB 65536 f.d.limbs
def lG.fit(v:lG):Prop:=v.kind<256/\v.f.fit /\ -9223372036854775808<=v.i/\v.i<9223372036854775808
mutual
def pA.fit:pA->Prop
 | .mk op name v args=>op<256/\name.length<mC/\(∀c∈name,c<256)/\v.fit/\args.length<mC/\pA.fits args
def pA.fits:List pA->Prop
 | []=>True
 | x::l=>x.fit/\pA.fits l
end
def pA.fits_mem:∀ {l:List pA},pA.fits l->∀x∈l,x.fit
 | [],_,_,h=>by cases h
 | y::l,h,x,hx=>by
  unfold pA.fits at h;rcases ybs.1 hx with rfl | hx
  ·exact h.1
  ·exact pA.fits_mem h.2 x hx
mutual
def pA.fit_ok:∀ {x:pA},x.fit->x.ok
 | .mk op name v args,h=>by
  unfold pA.fit at h;unfold pA.ok;exact⟨h.2.1,h.2.2.2.1.2.1.1,h.2.2.2.2.1,pA.fits_oks h.2.2.2.2.2⟩
def pA.fits_oks:∀ {l:List pA},pA.fits l->pA.oks l
 | [],_=>by unfold pA.oks;trivial
 | x::l,h=>by
  unfold pA.fits at h;unfold pA.oks;exact⟨pA.fit_ok h.1,pA.fits_oks h.2⟩
end
def i64 (n:Int):Prop := -9223372036854775808<=n/\n<9223372036854775808
def mH.fit(r:mH):Prop:=i64 r.a/\i64 r.b/\i64 r.known/\r.f.fit
def uE.fit(x:uE):Prop:=x.name.length<mC/\x.rows.length<mC/\∀r∈x.rows,r.fit
def oC.fit(x:oC):Prop:=x.name.length<mC/\x.kind<256
def nC.fit(x:nC):Prop:=x.name.length<mC/\x.label.length<mC/\i64 x.from_/\i64 x.to/\i64 x.known/\x.when_.fit/\x.then_.fit
structure fC.fit (p:fC):Prop where
 name:p.name.length<mC
 ndefs:p.defs.length<mC
 ntables:p.tables.length<mC
 nclauses:p.clauses.length<mC
 defs:∀d∈p.defs,d.fit
 tables:∀d∈p.tables,d.fit
 clauses:∀d∈p.clauses,d.fit
end Go.Am
namespace Go.Proofs
open Go Go.Am
variable [lC]
variable {t:Tr rA}
def sameW(a b:uI):Bool:=(a.neg == b.neg)&&decide (a.limbs=b.limbs)
def sameF(a b:yF):Bool:=sameW a.n b.n&&sameW a.d b.d
def sameV(a b:lG):Bool:=decide (a.kind=b.kind)&&decide (a.i=b.i)&&sameF a.f b.f
def zg7(w:uI):Bool := !w.neg&&decide (w.limbs=[1])
def eQ(f:yF):Bool:=decide (f.n.limbs.length<=256)&&decide (f.d.limbs.length<=256)&&jJ f.n.neg f.n.limbs&&jJ f.d.neg f.d.limbs && !f.d.neg&&decide (f.d.limbs≠[])&&(zg7 f.d||decide (Nat.gcd (val 65536 f.n.limbs) (val 65536 f.d.limbs)=1))
def zz9{a b:Int}:bB a b=decide (a<b):=by
 cases h:bB a b with
 | true=>rw[decide_eq_true (zD.1 h)]
 | false=>rw[decide_eq_false (fun k=>by rw[zD.2 k]at h;cases h)]
def zzaq{a b:Int}:jC a b=decide (a<=b):=by
 cases h:jC a b with
 | true=>rw[decide_eq_true (tG.1 h)]
 | false=>rw[decide_eq_false (fun k=>by rw[tG.2 k]at h;cases h)]
def zfs{a b:Int}:jA a b=decide (a=b):=by
 cases h:jA a b with
 | true=>rw[decide_eq_true (mG.1 h)]
 | false=>rw[decide_eq_false (fun k=>by rw[mG.2 k]at h;cases h)]
def zh7{f:yF}{u v:zA}(hu:lA t 1 (oD f.n.limbs) u)(hv:lA t 1 (oD f.d.limbs) v)(hf:yF.fit f):uC yA F 166 [.agg [.bool f.n.neg,u,.bool f.d.neg,v]] t=some (.bool (eQ f)):=by
 obtain⟨h1,h2,h3⟩:=hf
 unfold yF.ok mC at h1;have c1:uC yA F 186 [.agg [.bool f.n.neg,u,.bool f.d.neg,v]] t=some (.bool (!(decide (f.n.limbs.length<=256)&&decide (f.d.limbs.length<=256)))):=by
  refine mD.2 (w186 _ _ _ _ ?_)
  simp only[t186,qA,hu.len,hv.len,wA,sB,mR];have e:bB 256 (f.d.limbs.length:Int) = !decide (f.d.limbs.length<=256):=by
   rw[zz9,<- decide_not];congr 1;exact propext ⟨by omega,by omega⟩
  by_cases g1:f.n.limbs.length<=256
  ·rw[yaa (fun h=>absurd (zD.1 h) (by omega)),e]
   simp[g1]
  ·rw[yab (zD.2 (by omega))];simp[g1]
 have c2:=zcf (neg:=f.n.neg) (by omega) hu
 have c3:=zcf (neg:=f.d.neg) (by omega) hv
 have c4:uC yA F 168 [.agg [.bool f.n.neg,u,.bool f.d.neg,v]] t=some (.bool (zg7 f.d)):=by
  refine mD.2 (w168 _ _ _ _ ?_)
  simp only[t168,qA,q188,zjb hv,wA,pO]; (first | exact⟨rfl,rfl⟩ | exact⟨rfl,trivial⟩ | trivial)
 refine zN (w166 _ _ _ _ ?_)
 simp only[t166,qA,q186,c1,q187,c2,c3,q168,c4,wA,pO,hv.len,sB,mR,mG,zix];unfold eQ;by_cases g1:f.n.limbs.length<=256
 ·by_cases g2:f.d.limbs.length<=256
  ·simp only[g1,g2,decide_true,ycn,Bool.not_true,ybq,if_false]
   cases hn:jJ f.n.neg f.n.limbs with
   | false=>simp
   | true=>
    cases hd:jJ f.d.neg f.d.limbs with
    | false=>simp
    | true=>
     simp only[Bool.true_eq_false,if_false,ycn]
     cases hg:f.d.neg with
     | true=>simp
     | false=>
      simp only[ybq,if_false,ycl,ycn];by_cases h0:f.d.limbs=[]
      ·rw[yab (by rw[h0];rfl)];simp[h0]
      ·have:f.d.limbs.length≠0:=fun e=>h0 (ycc.1 e)
       rw[yaa (by omega)]
       simp only[h0,ne_eq,not_false_eq_true,decide_true,ycn]
       cases ho:zg7 f.d with
       | true=>simp
       | false=>
        simp only[ybq,if_false,Bool.false_or];rw[q189];refine w189 _ _ _ _ ?_
        simp only[t189,qA,q210];have hn':=hn
        have hd':=hd
        rw[hg]at hd'
        refine gcd_ok (n:=f.n) (d:=⟨false,f.d.limbs⟩) hu hv (by omega) (by show f.d.limbs.length<_;omega) h2 h3 hn' hd' fun t' g rv k1 k2 k3 k4 k5=>?_
        have eG:zK [(.bool false),.nilslice] (.agg [.bool false,rv])=some (cellsOf [.bool false,rv]):=jN (by
         show(true&&(zpb .nilslice rv&&true))=true
         rw[oR k2];rfl)
        have hone:kB zA.one [.bool false,rv]=true:=by
         show(bif zA.one (.bool false)then(bif zA.one rv then true else false)else false)=true
         rw[k2.one];rfl
        simp only[mB,zA.asTup,sA,eF,yaz,yba,wA,sB,eG,cellsOf,jR,zhx,hone,if_true];rw[q188,zjb k2];simp only[wA,pO,ycl,ycn]
        refine⟨?_,k1⟩
        congr 1
        rw[decide_eq_decide,<- k5];constructor
        ·intro e;subst e;rfl
        ·intro e
         exact z4l (B:=65536) (by decide) k3 (fun x hx=>by rw[ydd.1 hx];decide) k4 (fun _=>by simp) (by rw[e];rfl)
  ·simp[g2]
 ·simp[g1]
def zj8{f:yF}{u v:zA}(hu:lA t 1 (oD f.n.limbs) u)(hv:lA t 1 (oD f.d.limbs) v)(hf:yF.fit f):uC yA F 141 [.agg [.bool f.n.neg,u,.bool f.d.neg,v]] t=some (.bool (eQ f)):=by
 refine mD.2 (w141 _ _ _ _ ?_)
 simp only[t141,qA,q166,zh7 hu hv hf,wA,pO,if_true];exact⟨trivial,trivial⟩
end Go.Proofs
namespace Go.Proofs
open Go Go.Am
variable [lC]
variable {t:Tr rA}
def zcl{a b:List Nat}(h:a.length+b.length<4611686018427387904):z7b a b=some (.str (a++b)):=by
 unfold z7b;rw[bC,bC,vC.2 h,iG];rfl
def z3k{s:List Nat}{k:Nat}(h:k<=s.length):zH yA 9 H0A (.str s) (some (.int .i64 (k:Int))) none=some (.str (s.drop k)):=by
 unfold zH aK;rw[ty9,sA];simp only[zA.asStr];rw[show bD.isString .string=true from rfl,lE];unfold zcj lN ze2 kR;have e:fJ (k:Int)=some k:=rfl
 simp only[sA,zA.asNat,zA.asInt,e,bC,kE.2 h,kE.2 (ybk _),lE,eO,vQ,List.take_length]
def zie{s:List Nat}{k:Nat}(h:k<=s.length):zH yA 9 H0A (.str s) none (some (.int .i64 (k:Int)))=some (.str (s.take k)):=by
 unfold zH aK;rw[ty9,sA];simp only[zA.asStr];rw[show bD.isString .string=true from rfl,lE];unfold zcj lN ze2 kR;have e:fJ (k:Int)=some k:=rfl
 simp only[sA,zA.asNat,zA.asInt,e,bC,kE.2 h,kE.2 (yaw _),lE,eO,vQ,ycr]
def zzas (a b:List Nat):Bool:=decide (b.length<=a.length)&&wE (a.take b.length) b
def zl6{a b:List Nat}:uC yA F 194 [.str a,.str b] t=some (.bool (zzas a b)):=by
 refine mD.2 (w194 _ _ ?_)
 simp only[t194,qA,xO,tG];unfold zzas;by_cases h:b.length<=a.length
 ·rw[yab (by omega),zie h,wA]
  simp[zA.asStr,h]
 ·rw[yaa (by omega)]
  simp[h]
def zh6{a b:List Nat}:uC yA F 143 [.str a,.str b] t=some (.str (if zzas a b then a.drop b.length else a)):=by
 have h:uC yA F 169 [.str a,.str b] t=some (.str (if zzas a b then a.drop b.length else a)):=by
  refine mD.2 (w169 _ _ ?_)
  simp only[t169,qA,q194,zl6,wA,zA.asBool,xO]
  cases hp:zzas a b with
  | true=>
   simp only[if_true];have:b.length<=a.length:=by unfold zzas at hp;simp at hp;exact hp.1
   rw[z3k this,wA];simp[zA.asStr]
  | false=>simp
 refine mD.2 (w143 _ _ ?_)
 simp only[t143,qA,q169,h,wA,zA.asStr];first | exact⟨rfl,rfl⟩ | exact⟨trivial,trivial⟩ | exact⟨rfl,trivial⟩
def z0l(f:yF):List Nat:=zfy f.n.neg f.n.limbs++(if zg7 f.d then []else 47::zfy f.d.neg f.d.limbs)
def zpq{u:Nat}:∀ {k:Nat},u<10^k->(fG u).length<=k+1:=by
 intro k h;have:=zpr (u:=u) (k:=k+1) (by omega) (by rw[yag];omega)
 exact this
def zfx{neg:Bool}{l:List Nat}(hlt:jB 65536 l)(hl:l.length<=1024):(zfy neg l).length<=10000:=by
 unfold zfy intN;have h1:=bK (B:=65536) (by decide) hlt
 have h2:(65536:Nat)^l.length<=10^(5*l.length):=by
  rw[Nat.pow_mul];exact Nat.pow_le_pow_left (by decide) _
 have:=zpq (u:=val 65536 l) (k:=5*l.length) (by omega)
 rw[ybg];have:(if neg=true then [45]else([]:List Nat)).length<=1:=by cases neg<;>simp
 omega
def zj7{f:yF}(h:eQ f=true):jJ f.n.neg f.n.limbs=true/\jJ f.d.neg f.d.limbs=true/\f.n.limbs.length<=1024/\f.d.limbs.length<=1024:=by
 unfold eQ at h;simp only[ybb,decide_eq_true_eq]at h;obtain⟨⟨⟨⟨⟨⟨h1,h2⟩,h3⟩,h4⟩,_⟩,_⟩,_⟩:=h
 exact⟨h3,h4,by omega,by omega⟩
def zo9{f:yF}{u v:zA}(hu:lA t 1 (oD f.n.limbs) u)(hv:lA t 1 (oD f.d.limbs) v)(hf:yF.fit f):uC yA F 142 [.agg [.bool f.n.neg,u,.bool f.d.neg,v]] t=some (if eQ f then .tup [.str (z0l f),.int .i64 0]else .tup [.str [],.int .i64 2]):=by
 refine mD.2 (w142 _ _ _ _ ?_)
 have x0:∀u v,mB 0 (.tup [u,v])=some u:=fun _ _=>rfl
 have x1:∀u v,mB 1 (.tup [u,v])=some v:=fun _ _=>rfl
 simp only[t142,qA,q141,zj8 hu hv hf,wA,zA.asBool]
 cases hval:eQ f with
 | false=>simp
 | true=>
  obtain⟨h1,h2,h3,h4⟩:=zj7 hval
  have a:=zfx (neg:=f.n.neg) hf.2.1 h3
  have b:=zfx (neg:=f.d.neg) hf.2.2 h4
  have c1:uC yA F 168 [.agg [.bool f.n.neg,u,.bool f.d.neg,v]] t=some (.bool (zg7 f.d)):=by
   refine mD.2 (w168 _ _ _ _ ?_)
   simp only[t168,qA,q188,zjb hv,wA,zA.asBool];first | exact⟨rfl,rfl⟩ | exact⟨trivial,trivial⟩ | exact⟨rfl,trivial⟩
  simp only[Bool.not_true,ybq,if_false,q167,zwq hu hf.2.1 h1,wA,x0,x1,zA.asStr,sB,if_true,q168,c1,zA.asBool];unfold z0l
  cases hone:zg7 f.d with
  | true=>simp
  | false=>
   simp only[ycl,if_true,zwq hv hf.2.2 h2,wA,x0,x1,zA.asStr,sB];rw[zcl (by simp;omega),wA]
   simp only[zA.asStr,wA];rw[zcl (by simp;omega),wA]
   simp[zA.asStr]
def zk3(f:yF):Bool:=decide (f.n.limbs.length<=42)&&decide (f.d.limbs.length<=42)&&eQ f&&decide ((if zzas (z0l f) [45]then(z0l f).drop 1 else z0l f).length<=200)
def fZ{f:yF}{u v:zA}(hu:lA t 1 (oD f.n.limbs) u)(hv:lA t 1 (oD f.d.limbs) v)(hf:yF.fit f):uC yA F 115 [.agg [.bool f.n.neg,u,.bool f.d.neg,v]] t=some (.bool (zk3 f)):=by
 refine mD.2 (w115 _ _ _ _ ?_)
 have x0:∀u v,mB 0 (.tup [u,v])=some u:=fun _ _=>rfl
 have x1:∀u v,mB 1 (.tup [u,v])=some v:=fun _ _=>rfl
 simp only[t115,qA,hu.len,hv.len,mR,wA,sB,zD];unfold zk3;by_cases h1:f.n.limbs.length<=42
 ·rw[yaa (by omega)]
  by_cases h2:f.d.limbs.length<=42
  ·rw[yaa (by omega)]
   simp only[q141,zj8 hu hv hf,wA,zA.asBool]
   cases hval:eQ f with
   | false=>simp
   | true=>
    simp only[Bool.not_true,ybq,if_false,q142,zo9 hu hv hf,hval,if_true,wA,x0,x1,zA.asStr,sB,mG,q143,zh6,xO];simp[h1,h2,zzaq]
    constructor<;>intro h<;>omega
  ·rw[yab (by omega)];simp[h2]
 ·rw[yab (by omega)];simp[h1]
def zfg(f:yF):Bool := !f.n.neg && !f.d.neg&&decide (f.n.limbs.length+f.d.limbs.length=0)
def zcz{f:yF}{u v:zA}(hu:lA t 1 (oD f.n.limbs) u)(hv:lA t 1 (oD f.d.limbs) v)(hf:f.ok):uC yA F 116 [.agg [.bool f.n.neg,u,.bool f.d.neg,v]] t=some (.bool (zfg f)):=by
 unfold yF.ok mC at hf;refine mD.2 (w116 _ _ _ _ ?_)
 simp only[t116,qA,hu.len,hv.len,mR,wA,sB];unfold zfg;rw[wrap_i64 (by omega) (by omega),zfs]
 have e:decide ((f.n.limbs.length:Int)+(f.d.limbs.length:Int)=0)=decide (f.n.limbs.length+f.d.limbs.length=0):=by
  by_cases h:f.n.limbs.length+f.d.limbs.length=0
  ·rw[decide_eq_true h,decide_eq_true (by omega)]
  ·rw[decide_eq_false h,decide_eq_false (by omega)]
 rw[e]
 cases f.n.neg<;>cases f.d.neg<;>simp
def zr5{n:Int}:uC yA F 117 [.int .i64 n] t=some (.bool (decide (0<=n)&&decide (n<65536))):=by
 refine mD.2 (w117 _ ?_)
 simp only[t117,qA,tG];by_cases h:0<=n
 ·rw[yab h];simp[h,zz9]
 ·rw[yaa h];simp[h]
def zk2(v:lG):Bool:=
 if v.kind=2\/v.kind=3 then decide (v.i=0)&&zk3 v.f
 else if v.kind=1 then zfg v.f&&(decide (v.i=0)||decide (v.i=1))
 else if v.kind=4 then zfg v.f&&(decide (0<=v.i)&&decide (v.i<65536))
 else if v.kind=5\/v.kind=6 then zfg v.f&&(decide (-1048576<=v.i)&&decide (v.i<=1048576))
 else false
def za7{a:lG}{u v:zA}(hu:lA t 1 (oD a.f.n.limbs) u)(hv:lA t 1 (oD a.f.d.limbs) v)(hf:yF.fit a.f):uC yA F 85 [.agg [.int .u8 a.kind,.bool a.f.n.neg,u,.bool a.f.d.neg,v,.int .i64 a.i]] t=some (.bool (zk2 a)):=by
 refine mD.2 (w85 _ _ _ _ _ _ ?_)
 simp only[t85,qA,q115,fZ hu hv hf,q116,zcz hu hv hf.1,q117,zr5,wA,zA.asBool];unfold zk2;have kk:∀j:Int,jA (a.kind:Int) j=decide ((a.kind:Int)=j):=fun j=>zfs
 simp only[kk];by_cases k2:a.kind=2
 ·have e:(a.kind:Int)=2:=by omega
  by_cases h0:a.i=0<;>simp[e,k2,h0,zfs]
 by_cases k3:a.kind=3
 ·have e:(a.kind:Int)=3:=by omega
  by_cases h0:a.i=0<;>simp[e,k3,h0,zfs]
 have e2:¬ (a.kind:Int)=2:=by omega
 have e3:¬ (a.kind:Int)=3:=by omega
 by_cases k1:a.kind=1
 ·have e:(a.kind:Int)=1:=by omega
  cases zfg a.f<;>by_cases h0:a.i=0<;>simp[e,k1,h0,zfs]
 have e1:¬ (a.kind:Int)=1:=by omega
 by_cases k4:a.kind=4
 ·have e:(a.kind:Int)=4:=by omega
  cases zfg a.f<;>simp[e,k4]
 have e4:¬ (a.kind:Int)=4:=by omega
 by_cases k5:a.kind=5
 ·have e:(a.kind:Int)=5:=by omega
  cases zfg a.f<;>by_cases h0:(-1048576:Int)<=a.i<;>simp[e,k5,h0,zzaq]
 have e5:¬ (a.kind:Int)=5:=by omega
 by_cases k6:a.kind=6
 ·have e:(a.kind:Int)=6:=by omega
  cases zfg a.f<;>by_cases h0:(-1048576:Int)<=a.i<;>simp[e,k6,h0,zzaq]
 have e6:¬ (a.kind:Int)=6:=by omega
 simp[e1,e2,e3,e4,e5,e6,k1,k2,k3,k4,k5,k6]
end Go.Proofs
namespace Go.Am
open Go Go.RowKit
section
variable {t tf:Tr rA}{C:oA}
def rB.addLoose{A B:List cD}{sz n:Nat}{l:List D}{t':Tr rA}(h:rB C.base tf t (A++B))(hn:t.get n=none)(hbase:C.base<=n)(hl:nM C.base tf t' sz l (.slice n 0 l.length l.length))(ht:dA t t')(ho:iD n t t') :
  rB C.base tf t' (A++jH C.base sz l (.slice n 0 l.length l.length)::B):=
 rB.add (o':=jH C.base sz l (.slice n 0 l.length l.length)) h (fun k hk=>ho k (fun e=>hk (by simp[jH,yI,e]))) (fun k hk=>by
  have:k=n:=by simpa[jH,yI]using hk
  subst this;exact⟨hn,hbase⟩) hl (by simp[jH,yI]) (h.tle.trans ht)
def rB.pushL{T el sz n:Nat}(hT:wK C T el sz){A B:List cD}{l:List D}{d:D}{cs:List zA}{v x:zA}(h:rB C.base tf t (A++jH C.base sz l v::B))(hx:mJ t sz x [cs])(hd:RD tf d cs)(hone:∀a∈cs,zA.one a=true)(hl:l.length<300000)(hn:t.get n=none)(hbase:C.base<=n) :
  ∃v2 k t2,pF C T T v x ⟨n,t⟩=some (v2,⟨k,t2⟩)/\rB C.base tf t2 (A++jH C.base sz (l++[d]) v2::B):=by
 have hv:nM C.base tf t sz l v:=h.ok (jH C.base sz l v) (by simp)
 obtain⟨t2,c1,c2,c3,c4⟩:=zb9 hT (m:=[d]) hv hx (uF.2 ⟨cs,[],rfl,hd,kG.2 rfl⟩) (by intro a ha;simp at ha;exact hone a ha) (by simp) (by simp;omega) hn hbase h.tle
 refine⟨_,_,t2,c1,?_⟩
 refine rB.upd (o:=jH C.base sz l v) h (fun k k1 k2=>c4 k ?_ (fun e=>k1 (zcn.2 e))) (fun k hk=>?_) c2 (by simp[jH,yI]) c3
 ·intro e;subst e;exact k2 (by simp[jH,yI])
 ·have:k=n:=by simpa[jH,yI]using hk
  subst this;exact .inr ⟨hn,hbase⟩
end
end Go.Am
namespace Go.Am
open Go Go.RowKit
section
section
variable {t tf tf0:Tr rA}{C:oA}
mutual
def RD.ones:∀(d:D) (cs:List zA),RD t d cs->∀a∈cs,zA.one a=true
 | .int _ _,cs,h,a,ha=>by rw[RD]at h;subst h;simp at ha;subst ha;rfl
 | .bool _,cs,h,a,ha=>by rw[RD]at h;subst h;simp at ha;subst ha;rfl
 | .str _,cs,h,a,ha=>by rw[RD]at h;subst h;simp at ha;subst ha;rfl
 | .sl sz l,cs,h,a,ha=>by
  rw[kJ]at h;obtain⟨v,rfl,h⟩:=h
  simp at ha;subst ha;exact h.one
 | .st l,cs,h,a,ha=>by
  rw[tI]at h;obtain⟨cl,rfl,h⟩:=h
  exact sC.ones l cl h a ha
def sC.ones:∀(l:List D) (cl:List (List zA)),sC t l cl->∀a∈cl.flatten,zA.one a=true
 | [],cl,h,a,ha=>by rw[sC]at h;subst h;cases ha
 | d::l,cl,h,a,ha=>by
  rw[sC]at h;obtain⟨c,r,rfl,h1,h2⟩:=h
  rw[yas,yaf]at ha;rcases ha with ha | ha
  ·exact RD.ones d c h1 a ha
  ·exact sC.ones l r h2 a ha
end
def RD.all{d:D}{cs:List zA}(h:RD t d cs):kB zA.one cs=true:=by
 rw[yG,ycb];exact RD.ones d cs h
def RD.mk{d:D}{cs zs:List zA}(h:RD t d cs)(hz:d.zs=zs):pI zs (cellsOf cs) 0=cs:=by
 have:=dW zs cs [] (by rw[<- hz];exact zeq d cs h)
 simpa using this
def lit1{S el sz b:Nat}{cs:List zA}(hT:wK C S el sz)(hc:cs.length=sz)(hs:sz<1000000)(hb:t.get b=none) :
  ∃t',cH C S 1 [(0,.agg cs)] ⟨b,t⟩=some (.slice b 0 1 1,⟨b+1,t'⟩)/\mJ t' sz (.slice b 0 1 1) [cs]/\dA t t'/\iD b t t':=by
 obtain⟨⟨y,hy1,hy2,_⟩,⟨z,hz1,hz2,hz3,_,_⟩⟩:=hT
 refine zlq (n:=1) (cl:=[cs]) hy1 hy2 hz1 hz2 hz3 (by omega) ?_ (fun i q hq=>?_) rfl hb
 ·have e:gJ z.zero 1=z.zero:=by show xD z.zero []=z.zero;rw[iG,ycd]
  rw[e];unfold tM sU;have e1:(zA.agg cs).cells=cs:=rfl
  rw[bC]at hz3;simp only[sA,e1,bC,hc,hz3,Nat.zero_mul,ybw,eO,vQ,iG,List.take_zero,yah];rw[fB.2 rfl,kE.2 (ybk sz)]
  simp only[Bool.and_self,lE,sA,tM];rw[ybt (by omega)]
  simp
 ·rcases i with _ | i
  ·simp at hq;subst hq;exact hc
  ·simp at hq
def zmo(C:oA)(S el g p:Nat)(zs:List zA)(v0 v:zA)(i:Int):T:=
 .opt (oB v0) fun a0=>.asI .i64 a0 fun n1=>.ite (bB i n1)
  (.opt (qB C S v0 (.int .i64 i)) fun a2=>.light (fun m=>mA C el ⟨0,m⟩ a2) fun a3=>.asG zs a3 fun X=>
   .call g [.agg (pI zs X 0)] fun a5=>.asG zs a5 fun Y=>
   .ite (kB zA.one (pI zs Y 0)) (.heavy (cH C S 1 [(0,.agg (pI zs Y 0))]) fun a7=>.heavy (pF C S S v a7) fun a8=>.jump p [v0,a8,.int .i64 (tA .i64 (i+1))]) .fail)
  (.ret v)
def oO(base:Nat)(W:vH)(g:Nat)(d:D):Prop:=∀ ⦃L:List cD⦄ ⦃tf t:Tr rA⦄ ⦃cs:List zA⦄ ⦃Q:cB⦄,rB base tf t L->RD tf d cs->(∀tf' t' cs',dA tf tf'->rB base tf' t' L->RD tf' d cs'->Q (.agg cs') t')->W g [.agg cs] t Q
def z6s(base:Nat)(tf:Tr rA)(L:List cD)(sz:Nat)(l:List D)(Q:cB):Prop:=∀tf' t' v,dA tf tf'->rB base tf' t' L->lA tf' sz l v->Q v t'
def z1g{W J:vH}{S el sz g p:Nat}(hT:wK C S el sz)(hS:oE C S el sz true)(hsz:sz<1000000){zs:List zA}{L:List cD}{ds:List D}{v0:zA}{Q:cB}
  (hz:∀d∈ds,d.zs=zs) (hg:∀d∈ds,oO C.base W g d) (hlen:ds.length<300000)
  (hj:∀v i t,qA C.base W J (zmo C S el g p zs v0 v i) t Q->J p [v0,v,.int .i64 i] t Q) (hQ:z6s C.base tf0 L sz ds Q) (h0:lA tf0 sz ds v0) :
  ∀(m i:Nat) (tf t:Tr rA) (v:zA),i+m=ds.length->dA tf0 tf->rB C.base tf t (jH C.base sz (ds.take i) v::L)->J p [v0,v,.int .i64 (i:Int)] t Q:=by
 intro m;induction m with
 | zero=>
  intro i tf t v hi hf ho;refine hj _ _ _ ?_
  simp only[zmo,qA];rw[h0.len,wA,sB,wA,yaa (fun e=>by have:=zD.1 e;omega)]
  rw[yca (by omega)]at ho
  obtain⟨tf',k1,k2,k3⟩:=rB.freezeL (A:=[]) ho
  exact hQ tf' t v (hf.trans k1) k2 k3
 | succ m ih=>
  intro i tf t v hi hf ho;have hlt:i<ds.length:=by omega
  have hd:ds[i]?=some ds[i]:=ybd hlt
  have hm:ds[i]∈ds:=ycj hlt
  obtain⟨b,off,cs,g1,g2,g3,g4,g5⟩:=oE.at (t:=tf) hS (by simp) (h0.mono hf) hd
  have g1':=g1
  obtain⟨b',off',cs',f1,f2,f3,f4,f5⟩:=oE.at (t:=t) hS (by simp) (h0.mono (hf.trans ho.tle)) hd
  rw[g1]at f1;cases f1
  have ecs:cs'=cs:=by
   obtain⟨c,n,lo,q1,q2⟩:=g3
   obtain⟨c',n',lo',q3,q4⟩:=f3
   rw[ho.tle _ _ q1]at q3
   cases q3
   refine List.ext_getElem? fun j=>?_
   rcases yau j sz with hjs | hjs
   ·have a1:cs[j]?=some cs[j]:=ybd (by omega)
    have a2:cs'[j]?=some cs'[j]:=ybd (by omega)
    have b1:=q2 _ _ a1
    have b2:=q4 _ _ a2
    rw[b1]at b2;rw[a1,a2,yci b2]
   ·rw[List.getElem?_eq_none (by omega),List.getElem?_eq_none (by omega)]
  subst ecs;refine hj _ _ _ ?_
  simp only[zmo,qA];rw[h0.len,wA,sB,wA,yab (zD.2 (by omega)),g1,wA,f2,wA]
  have hzz:=hz _ hm
  show dD (zK zs (.agg cs')) _
  rw[vF g5 hzz,wA,g5.mk hzz];refine hg _ hm ho g5 fun tf' t' cs2 k1 k2 k3=>?_
  rw[vF k3 hzz,wA,k3.mk hzz,yab k3.all];intro n hn _;have hl2:cs2.length=sz:=by
   have e1:=g5.mk hzz
   have e2:=k3.mk hzz
   have key:∀(zs:List zA) (X Y:iL) (j:Nat),(pI zs X j).length=(pI zs Y j).length:=by
    intro zs;induction zs with
    | nil=>intro X Y j;rfl
    | cons z zs ih=>
     intro X Y j;show(zd3 z X j::pI zs X (j+1)).length=(zd3 z Y j::pI zs Y (j+1)).length
     rw[ybn,ybn,ih X Y (j+1)]
   have:=key zs (cellsOf cs2) (cellsOf cs') 0
   rw[e1,e2]at this;omega
  obtain⟨t1,a1,a2,a3,a4⟩:=lit1 (C:=C) hT hl2 hsz hn
  rw[a1,wA];intro n2 hn2 hb2;obtain⟨v2,k,t2,c1,c2⟩:=rB.pushL (A:=[]) (n:=n2) hT (k2.junk hn a4) a2 k3 (RD.ones _ _ k3) (by rw[yda];omega) hn2 hb2
  rw[c1,wA,wrap_i64 (by omega) (by omega)]
  have e:ds.take i++[ds[i]]=ds.take (i+1):=by rw[List.take_succ,hd];rfl
  rw[e]at c2;exact ih (i+1) tf' t2 v2 (by omega) (hf.trans k1) c2
def zey{W J:vH}{S el sz g p:Nat}(hT:wK C S el sz)(hS:oE C S el sz true)(hsz:sz<1000000){zs:List zA}{L:List cD}{ds:List D}{v0:zA}{Q:cB}
  (hz:∀d∈ds,d.zs=zs) (hg:∀d∈ds,oO C.base W g d) (hlen:ds.length<300000)
  (hj:∀v i t,qA C.base W J (zmo C S el g p zs v0 v i) t Q->J p [v0,v,.int .i64 i] t Q) (hQ:z6s C.base tf L sz ds Q) (h0:lA tf sz ds v0) (ho:rB C.base tf t L):J p [v0,.nilslice,.int .i64 0] t Q:=by
 refine z1g hT hS hsz hz hg hlen hj hQ h0 ds.length 0 tf t .nilslice (by omega) (dA.refl _) ?_
 rw[List.take_zero];exact rB.add (A:=[]) (o':=jH C.base sz ([]:List D) .nilslice) ho (fun _ _=>rfl) (fun k hk=>by simp[jH,yI]at hk) (.inl ⟨rfl,rfl⟩) (by simp[jH,yI]) ho.tle
def z56{W J:vH}{S el sz:Nat}(hT:wK C S el sz){L:List cD}{l:List D}{x:zA}{Q:cB}(hx:lA tf sz l x)(ho:rB C.base tf t L)(hl:l.length<1000000)(hQ:z6s C.base tf L sz l Q) :
  qA C.base W J (.heavy (pF C S S .nilslice x) fun a0=>.ret a0) t Q:=by
 simp only[qA];intro n hn _;obtain⟨v,k,t',tf',a1,a2,a3,a4,a5,a6,a7⟩:=zm4 hT hx ho.tle hl hn
 rw[a1,wA];refine hQ tf' t' v a3 (ho.keep a3 a4 fun k hk=>?_) a2
 have hne:k≠n:=fun e=>by
  obtain⟨y,hy⟩:=ho.live hk
  rw[e,hn]at hy;cases hy
 exact⟨a6 k hne,by rw[a7 k hne];exact(ho.low k hk).2⟩
end
end
section
section
variable {C:oA}{t:Tr rA}
def wM(C:oA)(T:Nat)(k:zA):Bool:=
 match ob (C.tys.get T) fun ty=>ob ty.desc.asMap fun ke=>ob (C.tys.get ke.1) fun kty=>cA (wO C kty&&vM C kty k) (some ())with | some _=>true | none=>false
def vY{T:Nat}{k:zA}(h:wM C T k=true):∃ty ke kty,C.tys.get T=some ty/\ty.desc.asMap=some ke/\C.tys.get ke.1=some kty/\wO C kty=true/\vM C kty k=true:=by
 unfold wM at h;split at h
 case h_2=>cases h
 rename_i u hu;simp only[uA,wB,ybb]at hu;obtain⟨ty,h1,ke,h2,kty,h3,⟨h4,h5⟩,_⟩:=hu
 exact⟨ty,ke,kty,h1,h2,h3,h4,h5⟩
def zh1{T b n:Nat}{k v:zA}{l l':List (zA × zA)}(hk:wM C T k=true)(hb:C.base<=b)(hm:t.get b=some (.map l))(hs:nG k v l=some l') :
  rI C T (.map b) k v ⟨n,t⟩=some (nD,⟨n,t.set b (.map l')⟩):=by
 obtain⟨ty,ke,kty,h1,h2,h3,h4,h5⟩:=vY hk
 have e2:(!Nat.blt b C.base)=true:=by
  cases hq:Nat.blt b C.base with
  | true=>have:=vC.1 hq;omega
  | false=>rfl
 have e3:bG ⟨n,t⟩ b=some l:=by unfold bG;rw[hm];rfl
 unfold rI;rw[h1,sA,h2,sA,h3,sA,h4,lE];simp only[zA.asMap,sA];rw[e2,lE,e3,sA,h5,lE,hs];rfl
def zi7{T b n:Nat}{k v:zA}{l:List (zA × zA)}(hk:wM C T k=true)(hm:t.get b=some (.map l))(hs:pH k l=some (some v)){ty:tC}(hT:C.tys.get T=some ty){ke:Nat × Nat}(hd:ty.desc.asMap=some ke){ety:tC}(he:C.tys.get ke.2=some ety)(ok:Bool) :
  oH C T ⟨n,t⟩ (.map b) k ok=some (bif ok then .tup [v,.bool true]else v):=by
 obtain⟨ty,ke,kty,h1,h2,h3,h4,h5⟩:=vY hk
 rw[hT]at h1;cases h1;rw[hd]at h2;cases h2;have e3:bG ⟨n,t⟩ b=some l:=by unfold bG;rw[hm];rfl
 unfold oH;rw[hT,sA,hd,sA,h3,sA,h4,lE,he,sA];have e4:xN ⟨n,t⟩ (.map b)=some l:=by unfold xN;simp only[zA.asMap];exact e3
 rw[e4,sA,h5,lE,hs,sA]
def zlo{T b n:Nat}{k:zA}{l:List (zA × zA)}(hk:wM C T k=true)(hm:t.get b=some (.map l))(hs:pH k l=some none){ty:tC}(hT:C.tys.get T=some ty){ke:Nat × Nat}(hd:ty.desc.asMap=some ke){ety:tC}(he:C.tys.get ke.2=some ety)(ok:Bool) :
  oH C T ⟨n,t⟩ (.map b) k ok=some (bif ok then .tup [gN ety,.bool false]else gN ety):=by
 obtain⟨ty,ke,kty,h1,h2,h3,h4,h5⟩:=vY hk
 rw[hT]at h1;cases h1;rw[hd]at h2;cases h2;have e3:bG ⟨n,t⟩ b=some l:=by unfold bG;rw[hm];rfl
 unfold oH;rw[hT,sA,hd,sA,h3,sA,h4,lE,he,sA];have e4:xN ⟨n,t⟩ (.map b)=some l:=by unfold xN;simp only[zA.asMap];exact e3
 rw[e4,sA,h5,lE,hs,sA]
mutual
def RD.sames1:∀(d:D) (cs:List zA),RD t d cs->∀a∈cs,∀k,Am.same k a a=true
 | .int _ _,cs,h,a,ha,k=>by rw[RD]at h;subst h;simp at ha;subst ha;exact zck
 | .bool _,cs,h,a,ha,k=>by rw[RD]at h;subst h;simp at ha;subst ha;exact zxr
 | .str _,cs,h,a,ha,k=>by rw[RD]at h;subst h;simp at ha;subst ha;exact zij
 | .sl sz l,cs,h,a,ha,k=>by
  rw[kJ]at h;obtain⟨v,rfl,h⟩:=h
  simp at ha;subst ha;exact h.same
 | .st l,cs,h,a,ha,k=>by
  rw[tI]at h;obtain⟨cl,rfl,h⟩:=h
  exact sC.sames1 l cl h a ha k
def sC.sames1:∀(l:List D) (cl:List (List zA)),sC t l cl->∀a∈cl.flatten,∀k,Am.same k a a=true
 | [],cl,h,a,ha,k=>by rw[sC]at h;subst h;cases ha
 | d::l,cl,h,a,ha,k=>by
  rw[sC]at h;obtain⟨c,r,rfl,h1,h2⟩:=h
  rw[yas,yaf]at ha;rcases ha with ha | ha
  ·exact RD.sames1 d c h1 a ha k
  ·exact sC.sames1 l r h2 a ha k
end
def zks:∀ {l:List zA} {k:Nat},(∀a∈l,∀k,Am.same k a a=true)->Am.same.sames k l l=true
 | [],_,_=>rfl
 | a::l,k,h=>by
  rw[Am.same.sames,h a (.head _) k,zks fun b hb=>h b (.tail _ hb)];rfl
def RD.sameA{d:D}{cs:List zA}(h:RD t d cs){k:Nat}:Am.same (k+1) (.agg cs) (.agg cs)=true:=zks (RD.sames1 d cs h)
def zhr{b:Nat}(hb:C.base<=b):∀(l:List (zA × zA)) (m:List (zA × zA)) (n:Nat) (t:Tr rA),t.get b=some (.map m) →
  ∃t',eR C (l.map fun e=>RE.up b e.1 e.2) ⟨n,t⟩=some ⟨n,t'⟩/\t'.get b=some (.map (m++l))/\iD b t t'
 | [],m,n,t,h=>⟨t,rfl,by rw[ycd];exact h,fun _ _=>rfl⟩
 | e::l,m,n,t,h=>by
  obtain⟨t',h1,h2,h3⟩:=zhr hb l (m++[e]) n (t.set b (.map (m++[e]))) (by rw[Tr.get_set,yab rfl])
  refine⟨t',?_,by rw[h2,ybz];rfl,fun c hc=>by rw[h3 c hc,Tr.get_set,yaa hc]⟩
  have e2:(!Nat.blt b C.base)=true:=by
   cases hq:Nat.blt b C.base with
   | true=>have:=vC.1 hq;omega
   | false=>rfl
  have e3:bG ⟨n,t⟩ b=some m:=by unfold bG;rw[h];rfl
  have e4:mQ C ⟨n,t⟩ (.up b e.1 e.2)=some ⟨n,t.set b (.map (m++[e]))⟩:=by
   show cA (!Nat.blt b C.base) (ob (bG ⟨n,t⟩ b) fun m=>some (setBlk ⟨n,t⟩ b (.map (xD m [(e.1,e.2)]))))=_
   rw[e2,lE,e3,sA,iG];rfl
  rw[ycm];unfold eR;rw[e4,sA];exact h1
def zkw{T b:Nat}:∀(l:List (zA × zA)),(∀e∈l,wM C T e.1=true)->uG (zq7 C) (l.map fun e=>Eff.upd T (.map b) e.1 e.2)=some (l.map fun e=>RE.up b e.1 e.2)
 | [],_=>rfl
 | e::l,h=>by
  obtain⟨ty,ke,kty,h1,h2,h3,h4,h5⟩:=vY (h e (.head _))
  have e1:zq7 C (.upd T (.map b) e.1 e.2)=some (.up b e.1 e.2):=by
   unfold zq7;simp only[];rw[h1,sA,h2,sA,h3,sA,h4,h5];rfl
  rw[ycm,mL,e1,sA,zkw l fun x hx=>h x (.tail _ hx),sA]
  rfl
def zap:List (zA × zA)->Bool
 | []=>true
 | e::l=>kB (fun x=>ziy e.1 x.1) l&&zap l
def zm5{b:Nat}:∀(l:List (zA × zA)),zap l=true->zhs (l.map fun e=>RE.up b e.1 e.2)=true
 | [],_=>rfl
 | e::l,h=>by
  unfold zap at h;rw[ybb,yG,ycb]at h;rw[ycm];unfold zhs;rw[ybb,yG,ycb];refine⟨fun x hx=>?_,zm5 l h.2⟩
  obtain⟨y,hy,rfl⟩:=yaq.1 hx
  show(bif Nat.beq b b then ziy e.1 y.1 else true)=true
  rw[fB.2 rfl];exact h.1 y hy
def zul{T b n:Nat}{l:List (zA × zA)}(hk:∀e∈l,wM C T e.1=true)(ha:zap l=true)(hb:C.base<=b)(hm:t.get b=some (.map [])) :
  ∃t',dP C (l.map fun e=>Eff.upd T (.map b) e.1 e.2) ⟨n,t⟩=some (nD,⟨n,t'⟩)/\t'.get b=some (.map l)/\iD b t t':=by
 obtain⟨t',h1,h2,h3⟩:=zhr (C:=C) hb l [] n t hm
 refine⟨t',?_,by simpa using h2,h3⟩
 unfold dP qQ;rw[zkw l hk,sA,zm5 l ha];have hr:kB (zdp C ⟨n,t⟩) (l.map fun e=>RE.up b e.1 e.2)=true:=by
  rw[yG,ycb];intro x hx;obtain⟨e,_,rfl⟩:=yaq.1 hx
  have e2:(!Nat.blt b C.base)=true:=by
   cases hq:Nat.blt b C.base with
   | true=>have:=vC.1 hq;omega
   | false=>rfl
  have e3:bG ⟨n,t⟩ b=some []:=by unfold bG;rw[hm];rfl
  show(!Nat.blt b C.base&&(match bG ⟨n,t⟩ b with | some []=>true | _=>false))=true
  rw[e2,e3];rfl
 rw[hr];simp only[Bool.and_self,lE,h1,sA]
def gD.up{t':Tr rA}{b:Nat}{lo:Option Lo}{cs:List zA}(h:gD t b lo cs)(k:dA t t'):gD t' b lo cs:=by
 obtain⟨c,h1,h2⟩:=h
 exact⟨c,k _ _ h1,h2⟩
end
end
end Go.Am
namespace Go.Proofs
open Go Go.Am
variable [lC]
variable {t:Tr rA}
def sR(n:Nat):Bool:=(decide (65<=n)&&decide (n<=90))||(decide (97<=n)&&decide (n<=122))
def zr4(n:Nat):Bool:=decide (48<=n)&&decide (n<=57)
def zel(n:Nat):Bool:=sR n||zr4 n||decide (n=95)
def z5a{a b:Int}:jC a b=decide (a<=b):=by
 by_cases h:a<=b
 ·rw[decide_eq_true h,tG.2 h]
 ·rw[decide_eq_false h]
  cases hq:jC a b with
  | true=>exact absurd (tG.1 hq) h
  | false=>rfl
def sZ{n:Nat}:uC yA F 111 [.int .u8 (n:Int)] t=some (.bool (sR n)):=by
 refine mD.2 (w111 _ ?_)
 simp only[t111,qA,z5a,decide_eq_true_eq];unfold sR;by_cases h1:65<=n
 ·rw[yab (by omega)]
  by_cases h2:n<=90
  ·rw[yab (by omega)];simp[h1,h2]
  ·rw[yaa (by omega)]
   by_cases h3:97<=n
   ·rw[yab (by omega)]
    have:decide ((n:Int)<=122)=decide (n<=122):=by congr 1;exact propext (by omega)
    simp[h1,h2,h3,this]
   ·rw[yaa (by omega)];simp[h2,h3]
 ·rw[yaa (by omega),yaa (by omega)]
  have:¬ 97<=n:=by omega
  simp[h1,this]
def zug{n:Nat}:uC yA F 139 [.int .u8 (n:Int)] t=some (.bool (zr4 n)):=by
 refine mD.2 (w139 _ ?_)
 simp only[t139,qA,z5a,decide_eq_true_eq];unfold zr4;by_cases h1:48<=n
 ·rw[yab (by omega)]
  have:decide ((n:Int)<=57)=decide (n<=57):=by congr 1;exact propext (by omega)
  simp[h1,this]
 ·rw[yaa (by omega)];simp[h1]
def zz7{n:Nat}:uC yA F 113 [.int .u8 (n:Int)] t=some (.bool (zel n)):=by
 refine mD.2 (w113 _ ?_)
 simp only[t113,qA,q111,sZ,wA,zA.asBool];unfold zel
 cases h:sR n with
 | true=>simp
 | false=>
  simp only[ybq,if_false,q139,zug,wA,zA.asBool]
  cases h2:zr4 n with
  | true=>simp
  | false=>
   simp only[ybq,if_false,zfs];have:decide ((n:Int)=95)=decide (n=95):=by congr 1;exact propext (by omega)
   simp[this]
def zl5{s:List Nat}{i x:Nat}(h:s[i]?=some x):sJ yA 9 (.str s) (.int .i64 (i:Int))=some (.int .u8 (x:Int)):=by
 unfold sJ;rw[ty9,sA];simp only[zA.asNat,zA.asInt,zA.asStr];have e:ob (some (i:Int)) fJ=some i:=rfl
 rw[e,sA,show bD.isString .string=true from rfl,lE,eF,h,sA];rfl
def z3v (p:Nat->Bool)(s:List Nat):List Nat:=s.takeWhile p
def zq2{p:Nat->Bool}{g:Nat}(hg:∀n:Nat,uC yA F g [.int .u8 (n:Int)] t=some (.bool (p n)))(hq:∀ {a:List zA} {m:Tr rA} {R:cB},Wq yA F aH g a m R=dD (uC yA F g a m) (fun v=>R v m))(hy:Nat.blt g yo=true){s:List Nat}(hs:s.length<4000000000000000000) :
  ∀(k i:Nat),i+k=s.length->(∀j x,j<i->s[j]?=some x->p x=true)->jp 112 2 [.str s,.func (.func g) [] [],.int .i64 (i:Int)] t (fun v t'=>v=.str (z3v p s)/\t'=t):=by
 have key:∀i,i<=s.length->(∀j x,j<i->s[j]?=some x->p x=true)->(∀x,s[i]?=some x->p x=false)->z3v p s=s.take i:=by
  intro i hi h1 h2;unfold z3v;induction s generalizing i with
  | nil=>simp
  | cons a s ih=>
   cases i with
   | zero=>rw[List.takeWhile_cons,h2 a rfl];simp
   | succ i=>
    rw[List.takeWhile_cons,h1 0 a (by omega) rfl,yab rfl,List.take_succ_cons]
    rw[ih (by simp at hs;omega) i (by simpa using hi) (fun j x hj hx=>h1 (j+1) x (by omega) (by simpa using hx)) (fun x hx=>h2 x (by simpa using hx))]
 intro k;induction k with
 | zero=>
  intro i hi hp;refine z78 _ _ _ ?_
  simp only[zxi,qA,zD,xO];rw[yaa (by omega),zie (by omega),wA]
  simp only[zA.asStr,wA];rw[key i (by omega) hp (fun x hx=>by have:=(ybc.1 hx).1;omega)]
  first | exact⟨rfl,rfl⟩ | exact⟨rfl,trivial⟩ | exact⟨trivial,trivial⟩
 | succ k ih=>
  intro i hi hp;have hx:s[i]?=some s[i]:=ybd (by omega)
  refine z78 _ _ _ ?_
  simp only[zxi,qA,zD,xO];rw[yab (by omega),zl5 hx,wA,sB,wA]
  have e:kN (.func (.func g) [] []) [.int .u8 (s[i]:Int)]=some (g,[.int .u8 (s[i]:Int)]):=by
   unfold kN;simp only[zA.asFunc,sA,hy,lE];rfl
  rw[e,wA];simp only[];rw[hq,hg,wA];simp only[zA.asBool,wA]
  cases hb:p s[i]with
  | true=>
   rw[yab rfl,wrap_i64 (by omega) (by omega),show(i:Int)+1=((i+1:Nat):Int) by omega]
   refine ih (i+1) (by omega) fun j x hj hjx=>?_
   by_cases e:j=i
   ·subst e;rw[hx]at hjx;cases hjx;exact hb
   ·exact hp j x (by omega) hjx
  | false=>
   rw[yaa (by simp),zie (by omega),wA]
   simp only[zA.asStr,wA];rw[key i (by omega) hp (fun x hx'=>by rw[hx]at hx';cases hx';exact hb)]
   first | exact⟨rfl,rfl⟩ | exact⟨rfl,trivial⟩ | exact⟨trivial,trivial⟩
def z3u{s:List Nat}(hs:s.length<4000000000000000000):uC yA F 112 [.str s,.func (.func 113) [] []] t=some (.str (z3v zel s)):=by
 refine mD.2 (w112 _ _ ?_)
 simp only[t112,qA];exact zq2 (fun n=>zz7) (fun {a m R}=>by rw[q113]) rfl hs s.length 0 (by omega) (fun j x hj=>by omega)
def z9f{s:List Nat}(hs:s.length<4000000000000000000):uC yA F 112 [.str s,.func (.func 111) [] []] t=some (.str (z3v sR s)):=by
 refine mD.2 (w112 _ _ ?_)
 simp only[t112,qA];exact zq2 (fun n=>sZ) (fun {a m R}=>by rw[q111]) rfl hs s.length 0 (by omega) (fun j x hj=>by omega)
def resW:Nat->List Nat
 | 2=>[32,116,111,32,105,115,32,97,116,32,105,102,32,111,114,32,117,112,32]
 | 3=>[32,100,101,102,32,114,111,119,32,111,110,101,32,116,119,111,32,101,110,100,32,111,102,102,32,104,97,115,32,109,105,110,32,109,97,120,32,97,110,100,32,110,111,116,32]
 | 4=>[32,112,108,97,110,32,102,97,99,116,32,102,114,111,109,32,119,104,101,110,32,116,104,101,110,32,100,97,116,101,32,100,97,121,115,32,116,114,117,101,32,108,111,111,107,32,98,101,115,116,32,103,114,111,119,32,100,111,119,110,32,99,101,105,108,32,104,97,108,102,32,101,118,101,110,32]
 | 5=>[32,116,97,98,108,101,32,107,110,111,119,110,32,116,114,117,116,104,32,109,111,110,101,121,32,102,97,108,115,101,32,109,105,110,117,115,32,116,111,100,97,121,32,114,111,117,110,100,32,115,116,97,114,116,32,102,108,111,111,114,32]
 | 6=>[32,99,108,97,117,115,101,32,110,117,109,98,101,114,32,109,111,110,116,104,115,32]
 | 7=>[32,98,101,116,119,101,101,110,32,115,101,114,118,105,99,101,32]
 | _=>[]
def zdn(s:List Nat):Bool:=decide (2<=s.length)&&decide (s.length<=7)&&wE (z3v sR s) s&&pU ([32]++s++[32]) (resW s.length)
def dH (n:Nat):zA × zA:=(.int .i64 (n:Int),.str (resW n))
def zpw{a b:List Nat}(h:a.length<4294967281):uC yA F 140 [.str a,.str b] t=some (.bool (pU b a)):=by
 have hg:yA.prims.get 140=some (xL tV):=by kernel_rfl
 refine zoj hg fun H=>?_
 unfold tV;simp only[];rw[bC,vC.2 h];rfl
def zoe{s:List Nat}(hs:s.length<4000000000000000000):uC yA F 114 [.str s] t=some (.bool (zdn s)):=by
 refine zN (w114 _ ?_)
 simp only[t114,qA,zD,xO];unfold zdn;by_cases h1:2<=s.length
 ·rw[yaa (by omega)]
  by_cases h2:s.length<=7
  ·rw[yaa (by omega)]
   simp only[q112,z9f hs,wA,zA.asStr]
   cases h3:wE (z3v sR s) s with
   | false=>simp
   | true=>
    simp only[Bool.not_true,ybq,if_false];intro b hb hbase;have hmk:lT ⟨b,t⟩=some (.map b,⟨b+1,t.set b (.map [])⟩):=rfl
    rw[hmk,wA];simp only[];have h0:(t.set b (.map [])).get b=some (.map []):=by rw[Tr.get_set,yab rfl]
    have ho:iD b t (t.set b (.map [])):=fun c hc=>by rw[Tr.get_set,yaa hc]
    generalize t.set b (.map [])=t1 at h0 ho
    have hstep:∀(l:List (zA × zA)) (k:Nat) (s':List Nat) (l':List (zA × zA)) (Q:(zA × xA)->Prop) (t1:Tr rA),t1.get b=some (.map l)->iD b t t1->nG (.int .i64 (k:Int)) (.str s') l=some l'->wM yA 213 (.int .i64 (k:Int))=true →
      (∀n t2,t2.get b=some (.map l')->iD b t t2->Q (nD,⟨n,t2⟩))->∀n,t1.get n=none->yA.base<=n->dD (rI yA 213 (.map b) (.int .i64 (k:Int)) (.str s') ⟨n,t1⟩) Q:=by
     intro l k s' l' Q t1 g1 g2 h1 h2 h3 n _ _;rw[zh1 h2 hbase g1 h1,wA];exact h3 n _ (by rw[Tr.get_set,yab rfl]) fun c hc=>by rw[Tr.get_set,yaa hc];exact g2 c hc
    refine hstep [] 2 _ [dH 2] _ t1 h0 ho rfl (by kernel_rfl) fun n t2 g o=>?_
    refine hstep _ 3 _ [dH 2,dH 3] _ t2 g o rfl (by kernel_rfl) fun n t2 g o=>?_
    refine hstep _ 4 _ [dH 2,dH 3,dH 4] _ t2 g o rfl (by kernel_rfl) fun n t2 g o=>?_
    refine hstep _ 5 _ [dH 2,dH 3,dH 4,dH 5] _ t2 g o rfl (by kernel_rfl) fun n t2 g o=>?_
    refine hstep _ 6 _ [dH 2,dH 3,dH 4,dH 5,dH 6] _ t2 g o rfl (by kernel_rfl) fun n t2 g o=>?_
    refine hstep _ 7 _ [dH 2,dH 3,dH 4,dH 5,dH 6,dH 7] _ t2 g o rfl (by kernel_rfl) fun n t2 g o=>?_
    have hle:dA t t2:=fun c u hc=>by
     have:c≠b:=fun e=>by rw[e,hb]at hc;cases hc
     rw[o c this];exact hc
    have hl:oH yA 213 ⟨0,t2⟩ (.map b) (.int .i64 (s.length:Int)) false=some (.str (resW s.length)):=by
     have hk:wM yA 213 (.int .i64 (s.length:Int))=true/\pH (.int .i64 (s.length:Int)) [dH 2,dH 3,dH 4,dH 5,dH 6,dH 7]=some (some (.str (resW s.length))):=by
      have:s.length=2\/s.length=3\/s.length=4\/s.length=5\/s.length=6\/s.length=7:=by omega
      rcases this with e | e | e | e | e | e<;>rw[e]<;>exact⟨by kernel_rfl,rfl⟩
     exact zi7 hk.1 g hk.2 ty213 rfl ty9 false
    rw[hl,wA];simp only[zA.asStr,wA];rw[zcl (by simp;omega),wA]
    simp only[zA.asStr,wA];rw[zcl (by simp;omega),wA]
    simp only[zA.asStr,wA];have hr:(resW s.length).length<4294967281:=by
     have:s.length=2\/s.length=3\/s.length=4\/s.length=5\/s.length=6\/s.length=7:=by omega
     rcases this with e | e | e | e | e | e<;>rw[e]<;>decide
    rw[q140,zpw hr,wA];simp only[zA.asBool,wA];refine⟨?_,hle⟩
    simp[h1,h2]
  ·rw[yab (by omega)];simp[h2]
 ·rw[yab (by omega)];simp[h1]
def kI(s:List Nat):Bool:=match s with
 | []=>false
 | x::r=>decide ((x::r).length<=24)&&sR x&&wE (z3v zel (x::r)) (x::r) && !zdn (x::r)
def zbc{s:List Nat}:uC yA F 84 [.str s] t=some (.bool (kI s)):=by
 refine mD.2 (w84 _ ?_)
 simp only[t84,qA,zD,xO]
 cases s with
 | nil=>simp[kI,dJ]
 | cons x r=>
  have h0:wE (x::r) []=false:=by
   cases h:wE (x::r) []with
   | true=>rw[dJ]at h;cases h
   | false=>rfl
  rw[h0];simp only[ybq,if_false];unfold kI;by_cases h1:(x::r).length<=24
  ·rw[yaa (by omega)]
   have hx:=zl5 (s:=x::r) (i:=0) (x:=x) rfl
   rw[show((0:Nat):Int)=0 from rfl]at hx
   rw[hx,wA,sB,wA,q111,sZ,wA];simp only[zA.asBool,wA]
   cases h2:sR x with
   | false=>simp
   | true=>
    simp only[Bool.not_true,ybq,if_false];rw[q112,z3u (by omega),wA]
    simp only[zA.asStr,wA]
    cases h3:wE (z3v zel (x::r)) (x::r)with
    | false=>simp
    | true=>
     simp only[if_true,q114,zoe (s:=x::r) (by omega),wA,zA.asBool]
     simp only[decide_eq_true h1,ycn,Bool.and_self];first | exact⟨rfl,rfl⟩ | exact⟨rfl,trivial⟩ | exact⟨trivial,trivial⟩
  ·rw[yab (by omega)]
   simp only[decide_eq_false h1,Bool.false_and];first | exact⟨rfl,rfl⟩ | exact⟨rfl,trivial⟩ | exact⟨trivial,trivial⟩
end Go.Proofs
namespace Go.Am
open Go Go.RowKit
section
variable {base:Nat}{W J:vH}{t:Tr rA}{Q:cB}
def iA{b:Bool}{x y:T}(h:b=true)(k:qA base W J x t Q):qA base W J (.ite b x y) t Q:=by
 show if b=true then _ else _;rw[yab h];exact k
def lB{b:Bool}{x y:T}(h:b≠true)(k:qA base W J y t Q):qA base W J (.ite b x y) t Q:=by
 show if b=true then _ else _;rw[yaa h];exact k
def xB{x:Option zA}{K:zA->T}{v:zA}(h:x=some v)(k:qA base W J (K v) t Q):qA base W J (.opt x K) t Q:=by
 show dD x _;rw[h];exact k
def uD{x:Tr rA->Option zA}{K:zA->T}{v:zA}(h:x t=some v)(k:qA base W J (K v) t Q):qA base W J (.light x K) t Q:=by
 show dD (x t) _;rw[h];exact k
def kD{f:Nat}{a:List zA}{K:zA->T}(k:W f a t (fun v t'=>qA base W J (K v) t' Q)):qA base W J (.call f a K) t Q:=k
def pC{n:Int}{i:IntKind}{K:Int->T}(k:qA base W J (K n) t Q):qA base W J (.asI i (.int i n) K) t Q:=by
 show dD (zzan i (.int i n)) _;rw[sB];exact k
def pD{b:Bool}{K:Bool->T}(k:qA base W J (K b) t Q):qA base W J (.asB (.bool b) K) t Q:=k
def sS{s:List Nat}{K:List Nat->T}(k:qA base W J (K s) t Q):qA base W J (.asS (.str s) K) t Q:=k
def oF{zs:List zA}{a:zA}{K:iL->T}{X:iL}(h:zK zs a=some X)(k:qA base W J (K X) t Q):qA base W J (.asG zs a K) t Q:=by
 show dD (zK zs a) _;rw[h];exact k
def oG{x:xA->Option (zA × xA)}{K:zA->T}(k:∀b,t.get b=none->base<=b->∃v H,x ⟨b,t⟩=some (v,H)/\qA base W J (K v) H.t Q):qA base W J (.heavy x K) t Q:=by
 intro b h1 h2;obtain⟨v,H,h3,h4⟩:=k b h1 h2
 rw[h3];exact h4
def lD{i:Nat}{a:List zA}(k:J i a t Q):qA base W J (.jump i a) t Q:=k
end
section
variable {t:Tr rA}{C:oA}
end
end Go.Am
namespace Go.Proofs
open Go Go.Am
variable [lC]
variable {t:Tr rA}
def znk(v:lG):Bool:=decide (v.kind=0)&&decide (v.i=0)&&zfg v.f
def zbv{a:lG}{u v:zA}(hu:lA t 1 (oD a.f.n.limbs) u)(hv:lA t 1 (oD a.f.d.limbs) v)(hf:a.f.ok):uC yA F 86 [.agg [.int .u8 a.kind,.bool a.f.n.neg,u,.bool a.f.d.neg,v,.int .i64 a.i]] t=some (.bool (znk a)):=by
 refine mD.2 (w86 _ _ _ _ _ _ ?_)
 simp only[t86,qA,mG];unfold znk;by_cases h1:a.kind=0
 ·rw[yab (by omega)]
  by_cases h2:a.i=0
  ·rw[yab h2,q116,zcz hu hv hf,wA]
   simp only[zA.asBool,wA,decide_eq_true h1,decide_eq_true h2,ycn];first | exact⟨rfl,rfl⟩ | exact⟨rfl,trivial⟩ | exact⟨trivial,trivial⟩
  ·rw[yaa h2];simp[h2]
 ·rw[yaa (by omega)];simp[h1]
structure FM where
 style:Nat
 word:List Nat
 named:Bool
 least:Nat
 most:Nat
 level:Nat
 left:Nat
 right:Nat
def FM.cs(f:FM):List zA:=[.int .u8 f.style,.str f.word,.bool f.named,.int .i64 f.least,.int .i64 f.most,.int .i64 f.level,.int .i64 f.left,.int .i64 f.right]
def atF (w:List Nat):FM:=⟨3,w,true,1,1,7,7,7⟩
def rM(w:List Nat)(n:Bool)(a b:Nat):FM:=⟨6,w,n,a,b,7,1,1⟩
def zfo(w:List Nat)(a b c:Nat):FM:=⟨4,w,false,2,2,a,b,c⟩
def zzaw:List FM:=[⟨0,[],false,0,0,0,0,0⟩,⟨1,[],false,0,0,7,0,0⟩,⟨2,[116,111,100,97,121],false,0,0,7,0,0⟩,atF [102,97,99,116,32],atF [104,97,115,32],atF [],rM [108,111,111,107] true 1 2,zfo [43] 5 5 6,zfo [45] 5 5 6,zfo [42] 6 6 7,zfo [47] 6 6 7,
 rM [109,105,110] false 2 2,rM [109,97,120] false 2 2,zfo [60] 4 5 5,zfo [61] 4 5 5,zfo [97,110,100] 2 2 3,zfo [111,114] 1 1 2,⟨5,[110,111,116,32],false,1,1,3,3,3⟩,rM [105,102] false 3 3,rM [114,111,117,110,100] false 2 2,rM [98,101,116,119,101,101,110] false 2 2,
 rM [115,101,114,118,105,99,101] true 2 2,rM [98,101,115,116] true 3 3,rM [103,114,111,119] true 2 2,rM [109,111,110,116,104,115] false 1 1,rM [110,117,109,98,101,114] false 1 1,rM [115,116,97,114,116] false 1 1]
def tO:List zA:=(zzaw.map FM.cs).flatten
abbrev z8:List zA:=[.int .u8 0,.str [],.bool false,.int .i64 0,.int .i64 0,.int .i64 0,.int .i64 0,.int .i64 0]
def cv76{w:List Nat}{n:Bool}{a b:Nat}{K:iL->T}{Q:cB}(h:wp 83 (K (cellsOf (rM w n a b).cs)) t Q):wp 83 (.callv (.func (.func 108) [] []) [.str w,.bool n,.int .i64 (a:Int),.int .i64 (b:Int)] fun a=>.asG z8 a K) t Q:=by
 have e:uC yA F 108 [.str w,.bool n,.int .i64 (a:Int),.int .i64 (b:Int)] t=some (.agg (rM w n a b).cs):=by
  refine mD.2 (w108 _ _ _ _ ?_)
  simp only[t108,qA,if_true];constructor<;>trivial
 show dD (some (108,[zA.str w,.bool n,.int .i64 (a:Int),.int .i64 (b:Int)])) _
 rw[wA];simp only[];rw[q108,e,wA];exact h
def cv77{w:List Nat}{K:iL->T}{Q:cB}(h:wp 83 (K (cellsOf (atF w).cs)) t Q):wp 83 (.callv (.func (.func 109) [] []) [.str w] fun a=>.asG z8 a K) t Q:=by
 have e:uC yA F 109 [.str w] t=some (.agg (atF w).cs):=by
  refine mD.2 (w109 _ ?_)
  simp only[t109,qA,if_true];constructor<;>trivial
 show dD (some (109,[zA.str w])) _
 rw[wA];simp only[];rw[q109,e,wA];exact h
def cv78{w:List Nat}{a b c:Nat}{K:iL->T}{Q:cB}(h:wp 83 (K (cellsOf (zfo w a b c).cs)) t Q):wp 83 (.callv (.func (.func 110) [] []) [.str w,.int .i64 (a:Int),.int .i64 (b:Int),.int .i64 (c:Int)] fun a=>.asG z8 a K) t Q:=by
 have e:uC yA F 110 [.str w,.int .i64 (a:Int),.int .i64 (b:Int),.int .i64 (c:Int)] t=some (.agg (zfo w a b c).cs):=by
  refine mD.2 (w110 _ _ _ _ ?_)
  simp only[t110,qA,if_true];constructor<;>trivial
 show dD (some (110,[zA.str w,.int .i64 (a:Int),.int .i64 (b:Int),.int .i64 (c:Int)])) _
 rw[wA];simp only[];rw[q110,e,wA];exact h
def zox{Q:cB}(h:∀b t',t.get b=none->yA.base<=b->gD t' b none tO->dA t t'->iD b t t'->Q (.ptr b 0) t'):Wc yA F 83 [] t Q:=by
 refine w83 ?_
 unfold t83;repeat (first | refine cv76 ?_ | refine cv77 ?_ | refine cv78 ?_ | refine iA rfl ?_)
 intro b hb hbase;obtain⟨t',h1,h2,h3,h4⟩:=zi0 hb tO none
 have e:∀l:List zA,l=tO->ztb (.agg l) ⟨b,t⟩=some (.ptr b 0,⟨b+1,t'⟩):=by
  intro l hl;show some (zA.ptr b 0,mE ⟨b,t⟩ l none)=_
  rw[hl,h1]
 rw[e _ (by rfl),wA]
 exact h b t' hb hbase h2 h3 h4
def zi1{Q:cB}(h:∀b t',t.get b=none->yA.base<=b->gD t' b none tO->dA t t'->iD b t t'->Q (.agg [.ptr b 0]) t'):Wc yA F 63 [] t Q:=by
 refine w63 ?_
 unfold t63;refine kD ?_
 rw[q83];refine zox fun b t' h1 h2 h3 h4 h5=>?_
 refine iA rfl (iA rfl ?_)
 exact h b t' h1 h2 h3 h4 h5
end Go.Proofs
namespace Go.Proofs
open Go Go.Am
section
variable [lC]
variable {t:Tr rA}
def zF(op:Nat):FM:=zzaw.getD op ⟨0,[],false,0,0,0,0,0⟩
def rN{f:FM->List zA}(hf:∀x,(f x).length=8):∀(l:List FM) (i k:Nat),i<l.length->k<8->(l.map f).flatten[i*8+k]?=(f (l.getD i ⟨0,[],false,0,0,0,0,0⟩))[k]?
 | [],i,k,h,_=>by simp at h
 | x::l,0,k,h,hk=>by
  rw[ycm,yas,yco (by rw[hf];omega)]
  simp
 | x::l,i+1,k,h,hk=>by
  rw[ycm,yas,ybp (by rw[hf];omega),hf,show(i+1)*8+k-8=i*8+k by omega]
  rw[rN hf l i k (by simpa using h) hk]
  simp
def zar{op k:Nat}(h:op<27)(hk:k<8):tO[op*8+k]?=(zF op).cs[k]?:=rN (f:=FM.cs) (fun _=>rfl) zzaw op k h hk
def idx147{b op:Nat}(h:op<27):qB yA 188 (.ptr b 0) (.int .u8 (op:Int))=some (.ptr b (op*8)):=by
 have hA:ob (yA.tys.get 188) (fun y=>y.desc.asArr)=some (27,159):=by kernel_rfl
 rw[uA]at hA;obtain⟨y,hy,hd⟩:=hA
 unfold qB;rw[hy,sA];have e:(zA.int .u8 (op:Int)).asNat=some op:=rfl
 rw[e,sA];simp only[zA.asSlice,zA.asPtr,sA,hd];rw[ty159,sA,vC.2 h,lE];simp
def zuw{b o k:Nat}(hk:k<8):tB yA 159 k (.ptr b o)=some (.ptr b (o+k)):=by
 have h:dQ yA 159 k=some k:=by
  unfold dQ;rw[ty159,sA];simp only[bD.asStruct,sA];have:k=0\/k=1\/k=2\/k=3\/k=4\/k=5\/k=6\/k=7:=by omega
  rcases this with e | e | e | e | e | e | e | e<;>rw[e]<;>rfl
 unfold tB;rw[h];rfl
section
variable {b op:Nat}(hF:gD t b none tO)(h:op<27)
include hF h
def z4w:mA yA 5 ⟨0,t⟩ (.ptr b (op*8+0))=some (.int .u8 (zF op).style):=hF.load1 ty5 rfl (by rw[zar h (by decide)];rfl)
def z4x:mA yA 4 ⟨0,t⟩ (.ptr b (op*8+2))=some (.bool (zF op).named):=hF.load1 ty4 rfl (by rw[zar h (by decide)];rfl)
def z4y:mA yA 3 ⟨0,t⟩ (.ptr b (op*8+3))=some (.int .i64 (zF op).least):=hF.load1 ty3 rfl (by rw[zar h (by decide)];rfl)
def z98:mA yA 3 ⟨0,t⟩ (.ptr b (op*8+4))=some (.int .i64 (zF op).most):=hF.load1 ty3 rfl (by rw[zar h (by decide)];rfl)
end
def nEq{a b:Int}(h:a≠b):jA a b≠true:=fun e=>h (mG.1 e)
def nLt{a b:Int}(h:¬ a<b):bB a b≠true:=fun e=>h (zD.1 e)
def nLe{a b:Int}(h:¬ a<=b):jC a b≠true:=fun e=>h (tG.1 e)
def yEq{a b:Int}(h:a=b):jA a b=true:=mG.2 h
def yLt{a b:Int}(h:a<b):bB a b=true:=zD.2 h
def yLe{a b:Int}(h:a<=b):jC a b=true:=tG.2 h
def gM{b o:Nat}:cC (.ptr b o)=some (.ptr b o):=rfl
def uP(op:Nat)(name:List Nat)(n:Nat):Bool:=
 decide (op<27) && !decide ((zF op).style=0)&&decide ((zF op).least<=n)&&decide (n<=(zF op).most)&&(if (zF op).named=true then kI name else wE name [])
def zsv(op:Nat)(v:lG):Bool:=if op=19 then decide (1<=v.i)&&decide (v.i<=6)&&znk { v with i:=0 } else znk v
mutual
/-- is an expression printable at a depth? -/
def kF:pA->Nat->Bool
 | .mk op name v args,d=>decide (d<=24)&&uP op name args.length&&(if op=1 then zk2 v else zsv op v&&pK args (d+1))
def pK:List pA->Nat->Bool
 | [],_=>true
 | x::l,d=>kF x d&&pK l d
end
def zm2:∀ {l:List pA} {d:Nat},pK l d=l.all fun x=>kF x d
 | [],d=>by rw[pK];rfl
 | x::l,d=>by rw[pK,zm2];rfl
def z6w(p0_0:zA)(p1_0:Int)(p1_1:List Nat)(p1_2:Int)(p1_3:Bool)(p1_4:zA)(p1_5:Bool)(p1_6:zA)(p1_7:Int)(p1_8:zA)(p2:Int):T:=
 .ite (kB zA.one [(.int .u8 p1_2),(.bool p1_3),p1_4,(.bool p1_5),p1_6,(.int .i64 p1_7)]) (.ite (jA p1_0 1)
 (.call 85 [(.agg [(.int .u8 p1_2),(.bool p1_3),p1_4,(.bool p1_5),p1_6,(.int .i64 p1_7)])] fun a28=>
 .asB a28 fun b29=>.ret (.bool b29))
 (.ite (jA p1_0 19)
 (.ite (bB p1_7 1)
 (.ret (.bool false))
 (.ite (bB 6 p1_7)
 (.ret (.bool false))
 (.ite true (.jump 33 [(.int .i64 p2),p0_0,(.int .u8 p1_0),(.str p1_1),(.int .u8 p1_2),(.bool p1_3),p1_4,(.bool p1_5),p1_6,(.int .i64 p1_7),p1_8,(.int .u8 p1_2),(.bool p1_3),p1_4,(.bool p1_5),p1_6,(.int .i64 0)]) .fail)))
 (.jump 33 [(.int .i64 p2),p0_0,(.int .u8 p1_0),(.str p1_1),(.int .u8 p1_2),(.bool p1_3),p1_4,(.bool p1_5),p1_6,(.int .i64 p1_7),p1_8,(.int .u8 p1_2),(.bool p1_3),p1_4,(.bool p1_5),p1_6,(.int .i64 p1_7)]))) .fail
section
variable {op:Nat}{name:List Nat}{v:lG}{a b c:zA}{bf d:Nat}
def zsu{v2:Int}{v':lG}{R:Bool}{n:Nat}{c3:zA}(ha:lA t 1 (oD v'.f.n.limbs) a)(hb:lA t 1 (oD v'.f.d.limbs) b)(hf:v'.f.ok)(hc:oB c=some (.int .i64 (n:Int)))
  (hargs:jp 64 4 [.int .i64 v2,c,.int .i64 (n:Int),.int .i64 0,c3] t (fun x t'=>x=.bool R/\t'=t)) (p3:Bool) (p5:Bool) (p2 p7:Int) (p4 p6:zA) :
  jp 64 33 [.int .i64 v2,c3,.int .u8 (op:Int),.str name,.int .u8 p2,.bool p3,p4,.bool p5,p6,.int .i64 p7,c,.int .u8 v'.kind,.bool v'.f.n.neg,a,.bool v'.f.d.neg,b,.int .i64 v'.i] t (fun x t'=>x=.bool (znk v'&&R)/\t'=t):=by
 refine j64_33 _ _ _ _ _ _ _ _ _ _ _ _ _ _ _ _ _ ?_
 simp only[z61,qA,q86,zbv ha hb hf,wA,zA.asBool]
 cases hz:znk v' with
 | false=>simp
 | true=>
  simp only[Bool.not_true,ybq,if_false,hc,wA,sB,ycn];exact hargs
def z80{n:Nat}{R:Bool}(ha:lA t 1 (oD v.f.n.limbs) a)(hb:lA t 1 (oD v.f.d.limbs) b)(hf:yF.fit v.f)(hc:oB c=some (.int .i64 (n:Int)))
  (hargs:jp 64 4 [.int .i64 (d:Int),c,.int .i64 (n:Int),.int .i64 0,.ptr bf 0] t (fun x t'=>x=.bool R/\t'=t)) :
  wp 64 (z6w (.ptr bf 0) (op:Int) name (v.kind:Int) v.f.n.neg a v.f.d.neg b v.i c (d:Int)) t (fun x t'=>x=.bool (if op=1 then zk2 v else zsv op v&&R)/\t'=t):=by
 unfold z6w;refine iA ?_ ?_
 ·rw[yG];simp only[ycg,yck,ha.one,hb.one];rfl
 by_cases h1:op=1
 ·refine iA (yEq (by omega)) ?_
  simp only[qA,q85,za7 ha hb hf,wA,zA.asBool,yab h1];constructor<;>trivial
 ·refine lB (nEq (by omega)) ?_
  simp only[yaa h1];unfold zsv;by_cases h2:op=19
  ·refine iA (yEq (by omega)) ?_
   simp only[yab h2];by_cases h3:1<=v.i
   ·refine lB (nLt (by omega)) ?_
    by_cases h4:v.i<=6
    ·refine lB (nLt (by omega)) (iA rfl ?_)
     have:=zsu (op:=op) (name:=name) (v':={ v with i:=0 }) ha hb hf.1 hc hargs v.f.n.neg v.f.d.neg v.kind v.i a b
     simp only[decide_eq_true h3,decide_eq_true h4,ycn];exact this
    ·refine iA (yLt (by omega)) ?_
     simp[qA,h4]
   ·refine iA (yLt (by omega)) ?_
    simp[qA,h3]
  ·refine lB (nEq (by omega)) ?_
   simp only[yaa h2];exact zsu (op:=op) (name:=name) (v':=v) ha hb hf.1 hc hargs v.f.n.neg v.f.d.neg v.kind v.i a b
def z5c{n:Nat}{R:Bool}(hF:gD t bf none tO)(hop:op<256)(hn:n<mC)(hnl:name.length<mC)(ha:lA t 1 (oD v.f.n.limbs) a)(hb:lA t 1 (oD v.f.d.limbs) b)(hf:yF.fit v.f)(hc:oB c=some (.int .i64 (n:Int)))
  (hargs:d<=24->jp 64 4 [.int .i64 (d:Int),c,.int .i64 (n:Int),.int .i64 0,.ptr bf 0] t (fun x t'=>x=.bool R/\t'=t)) :
  uC yA F 64 [.agg [.ptr bf 0],.agg [.int .u8 op,.str name,.int .u8 v.kind,.bool v.f.n.neg,a,.bool v.f.d.neg,b,.int .i64 v.i,c],.int .i64 (d:Int)] t=some (.bool (decide (d<=24)&&uP op name n&&(if op=1 then zk2 v else zsv op v&&R))):=by
 refine mD.2 (w64 _ _ _ _ _ _ _ _ _ _ _ ?_)
 unfold t64 uP;by_cases hd:d<=24
 case neg=>
  refine iA (yLt (by omega)) ?_
  simp[qA,hd]
 refine lB (nLt (by omega)) ?_
 have htail:=z80 (op:=op) (name:=name) (d:=d) (bf:=bf) ha hb hf hc (hargs hd)
 by_cases h27:op<27
 case neg=>
  refine iA (by rw[wrap_i64 (by omega) (by omega)];exact yLe (by omega)) ?_
  simp[qA,h27]
 refine lB (by rw[wrap_i64 (by omega) (by omega)];exact nLe (by omega)) ?_
 refine xB gM (xB (idx147 h27) (xB gM (xB (zuw (by decide)) (uD (z4w hF h27) (pC ?_)))))
 by_cases hs:(zF op).style=0
 ·refine iA (yEq (by omega)) ?_
  simp[qA,hs]
 refine lB (nEq (by omega)) ?_
 refine xB hc (pC (xB gM (xB (zuw (by decide)) (uD (z4y hF h27) (pC ?_)))))
 by_cases hl:(zF op).least<=n
 case neg=>
  refine iA (yLt (by omega)) ?_
  simp[qA,hl]
 refine lB (nLt (by omega)) ?_
 refine xB hc (pC (xB gM (xB (zuw (by decide)) (uD (z98 hF h27) (pC ?_)))))
 by_cases hm:n<=(zF op).most
 case neg=>
  refine iA (yLt (by omega)) ?_
  simp[qA,hm]
 refine lB (nLt (by omega)) ?_
 have hld:=z4x hF h27
 refine xB gM (xB (zuw (by decide)) (uD hld (pD ?_)))
 simp only[decide_eq_true hd,decide_eq_true h27,decide_eq_false hs,decide_eq_true hl,decide_eq_true hm,ycn,ycl]
 cases hnm:(zF op).named with
 | true=>
  rw[hnm]at hld;simp only[if_true];refine iA rfl (kD ?_)
  rw[q84,zbc,wA];refine pD ?_
  cases hN:kI name with
  | false=>
   refine iA rfl ?_
   simp[qA]
  | true=>
   refine lB (by simp) (xB gM (xB (zuw (by decide)) (uD hld (pD (lB (by simp) ?_)))))
   simp only[ycn];exact htail
 | false=>
  rw[hnm]at hld;simp only[ybq,if_false];refine lB (by simp) (xB gM (xB (zuw (by decide)) (uD hld (pD (iA rfl ?_)))))
  cases hN:wE name []with
  | false=>
   refine iA rfl ?_
   simp[qA]
  | true=>
   refine lB (by simp) ?_
   simp only[ycn];exact htail
end
mutual
def zpf{bf:Nat}(hF:gD t bf none tO):∀(x:pA) (d:Nat) (cs:List zA),x.fit->d<1000->RD t x.d cs->uC yA F 64 [.agg [.ptr bf 0],.agg cs,.int .i64 (d:Int)] t=some (.bool (kF x d))
 | .mk op name v args,d,cs,hx,hd,h=>by
  obtain⟨a,b,c,rfl,ha,hb,hc⟩:=kH h
  simp only[pA.op,pA.name,pA.v,pA.args]at ha hb hc ⊢
  have hx':=hx
  unfold pA.fit at hx';unfold kF;refine z5c hF hx'.1 (n:=args.length) hx'.2.2.2.2.1 hx'.2.1 ha hb hx'.2.2.2.1.2.1 (by rw[hc.len,ybf]) fun hd'=>?_
  have:=zs0 hF args args d c 0 hc rfl hx'.2.2.2.2.2 hx'.2.2.2.2.1 hd'
  exact this
def zs0{bf:Nat}(hF:gD t bf none tO):∀(l args:List pA) (d:Nat) (c:zA) (i:Nat),lA t 9 (args.map pA.d) c->args.drop i=l->pA.fits l->args.length<mC->d<=24 →
  jp 64 4 [.int .i64 (d:Int),c,.int .i64 (args.length:Int),.int .i64 (i:Int),.ptr bf 0] t (fun x t'=>x=.bool (pK l (d+1))/\t'=t)
 | [],args,d,c,i,hc,hl,hok,hsz,hd=>by
  have:=zat hl
  refine j64_4 _ _ _ _ _ ?_
  unfold z87;refine lB (nLt (by omega)) ?_
  unfold pK;simp[qA]
 | x::l,args,d,c,i,hc,hl,hok,hsz,hd=>by
  obtain⟨h1,h2,h3⟩:=zX hl
  unfold mC at hsz;have hok':=hok
  unfold pA.fits at hok';refine j64_4 _ _ _ _ _ ?_
  obtain⟨pb,po,cs,g1,g2,g3,g4,g5⟩:=oE.at z3l (by simp) hc (i:=i) (d:=x.d) (by simp[h1])
  unfold z87;refine iA (yLt (by omega)) (xB g1 (uD g2 ?_))
  rw[iM];refine oF (vF g5 x.zs) ?_
  have hmk:=g5.mk x.zs
  have hcs:[zA.int .u8 ((cellsOf cs).i 0),.str ((cellsOf cs).s 1),.int .u8 ((cellsOf cs).i 2),.bool ((cellsOf cs).b 3),(cellsOf cs).v 4,.bool ((cellsOf cs).b 5),(cellsOf cs).v 6,.int .i64 ((cellsOf cs).i 7),(cellsOf cs).v 8]=cs:=hmk
  rw[hcs];refine iA g5.all (kD ?_)
  rw[wrap_i64 (by omega) (by omega),show(d:Int)+1=((d+1:Nat):Int) by omega,q64,zpf hF x (d+1) cs hok'.1 (by omega) g5,wA]
  refine pD ?_
  unfold pK
  cases hE:kF x (d+1)with
  | false=>
   refine iA rfl ?_
   simp[qA]
  | true=>
   refine lB (by simp) (lD ?_)
   rw[wrap_i64 (by omega) (by omega),show(i:Int)+1=((i+1:Nat):Int) by omega]
   have:=zs0 hF l args d c (i+1) hc h2 hok'.2 hsz hd
   simp only[ycn];exact this
end
end
section
variable [lC]
variable {t:Tr rA}
def zzbs (S el f:Nat)(zs:List zA)(cond:iL->Bool)(v1 v7:zA)(n i:Int):T:=
 .ite (bB i n)
  (.opt (qB yA S v7 (.int .i64 i)) fun a0=>.light (fun m=>mA yA el ⟨0,m⟩ a0) fun a1=>.asG zs a1 fun X=>
   .ite (cond X) (.callv v1 [.agg (pI zs X 0)] fun a3=>.asB a3 fun b4=>.ite (!b4) (.ret (.bool false)) (.jump 2 [v1,v7,.int .i64 n,.int .i64 (tA .i64 (i+1))])) .fail)
  (.ret (.bool true))
def zcy{α:Type}{dd:α->D}{P:α->Bool}{S el sz f:Nat}{zs:List zA}{cond:iL->Bool}{v1 v7:zA}(hS:oE yA S el sz true){l:List α}(hz:∀x∈l,(dd x).zs=zs)(hr:lA t sz (l.map dd) v7)(hlen:l.length<1000000000000000000)
  (hj:∀i t Q,wp f (zzbs S el f zs cond v1 v7 l.length i) t Q->jp f 2 [v1,v7,.int .i64 (l.length:Int),.int .i64 i] t Q)
  (hc:∀cs,kB zA.one cs=true->fK zs cs=true->cond (cellsOf cs)=true)
  (hcall:∀x∈l,∀cs,RD t (dd x) cs->∀(R:cB),R (.bool (P x)) t->dD (kN v1 [.agg cs]) fun p=>Wq yA F aH p.1 p.2 t R) :
  ∀(k i:Nat),i+k=l.length->jp f 2 [v1,v7,.int .i64 (l.length:Int),.int .i64 (i:Int)] t (fun x t'=>x=.bool ((l.drop i).all P)/\t'=t):=by
 intro k;induction k with
 | zero=>
  intro i hi;refine hj _ _ _ (lB (nLt (by omega)) ?_)
  rw[ybt (by omega)]
  exact⟨rfl,rfl⟩
 | succ k ih=>
  intro i hi;have hlt:i<l.length:=by omega
  have hm:l[i]∈l:=ycj hlt
  obtain⟨b,off,cs,g1,g2,g3,g4,g5⟩:=oE.at hS (by simp) hr (i:=i) (d:=dd l[i]) (by simp[hlt])
  refine hj _ _ _ (iA (yLt (by omega)) (xB g1 (uD g2 ?_)))
  rw[iM];have hzz:=hz _ hm
  refine oF (vF g5 hzz) (iA (hc cs g5.all (by rw[<- hzz];exact zeq _ _ g5)) ?_)
  rw[g5.mk hzz];refine hcall _ hm cs g5 _ ?_
  refine pD ?_
  have hd:l.drop i=l[i]::l.drop (i+1):=ybl hlt
  rw[hd,ycg]
  cases hP:P l[i]with
  | false=>exact iA rfl ⟨rfl,rfl⟩
  | true=>
   refine lB (by simp) (lD ?_)
   rw[wrap_i64 (by omega) (by omega),show(i:Int)+1=((i+1:Nat):Int) by omega,ycn]
   exact ih (i+1) (by omega)
def z2t (n:Int):Bool:=decide (0<=n)&&decide (n<65536)
def zzab (n:Int):Bool:=decide (-2147483648<=n)&&decide (n<2147483648)
def z8f (d:oC):Bool:=kI d.name&&(decide (1<=d.kind)&&decide (d.kind<=6))
def rowP (two:Bool)(r:mH):Bool:=zzab r.a&&(zzab r.b&&((two||decide (r.b=0))&&(z2t r.known&&zk3 r.f)))
def zf5(x:uE):Bool:=kI x.name&&x.rows.all (rowP x.two)
def jK(x:pA):Bool:=decide (x.op=0)&&(wE x.name []&&(decide (x.args.length=0)&&znk x.v))
def jL(x:nC):Bool:=
 kI x.name&&(kI x.label&&(z2t x.from_&&(z2t x.known&&((z2t x.to||decide (x.to=65536))&&(if x.off=true then jK x.when_&&jK x.then_ else kF x.when_ 1&&kF x.then_ 1)))))
def aN(p:fC):Bool:=kI p.name&&(p.defs.all z8f&&(p.tables.all zf5&&p.clauses.all jL))
def zqh{x:pA}{a b c:zA}(hx:x.fit)(ha:lA t 1 (oD x.v.f.n.limbs) a)(hb:lA t 1 (oD x.v.f.d.limbs) b)(hc:lA t 9 (x.args.map pA.d) c):uC yA F 126 [.agg (xE x a b c)] t=some (.bool (jK x)):=by
 obtain⟨op,name,v,args⟩:=x
 simp only[pA.op,pA.name,pA.v,pA.args,jK,xE]at ha hb hc ⊢
 unfold pA.fit at hx;have hl:oB c=some (.int .i64 (args.length:Int)):=by rw[hc.len,ybf]
 refine mD.2 (w126 _ _ _ _ _ _ _ _ _ ?_)
 unfold t126;by_cases h1:op=0
 case neg=>refine lB (nEq (by omega)) ?_;simp[qA,h1]
 refine iA (yEq (by omega)) ?_
 cases h2:wE name []with
 | false=>refine lB (by simp) ?_;simp[qA]
 | true=>
  refine iA rfl (xB hl (pC ?_))
  by_cases h3:args.length=0
  case neg=>refine lB (nEq (by omega)) ?_;simp[qA,h3]
  refine iA (yEq (by omega)) (kD ?_)
  rw[q86,zbv ha hb hx.2.2.2.1.2.1.1,wA];refine pD ?_
  simp[qA,h1,h3]
def z6j{l:List oC}{v:zA}(hr:lA t 3 (l.map oC.d) v)(hlen:l.length<mC):uC yA F 91 [v,.func (.func 90) [] []] t=some (.bool (l.all z8f)):=by
 unfold mC at hlen;refine mD.2 (w91 _ _ ?_)
 unfold t91;refine xB hr.len (pC (lD ?_))
 rw[ybf];refine zcy (dd:=oC.d) (P:=z8f) (S:=22) (el:=59) (zs:=[.str [],.int .u8 0,.bool false]) (cond:=fun _=>true) sl22 (fun x _=>x.zs) hr (by omega) (fun i t Q h=>j91_2 _ _ _ _ h) (fun _ _ _=>rfl) ?_ l.length 0 (by omega)
 intro x hx cs hcs R hR;have:=zgm hcs
 subst this;show dD (some (90,[zA.agg [.str x.name,.int .u8 x.kind,.bool x.fact]])) _
 rw[wA];have:uC yA F 90 [zA.agg [.str x.name,.int .u8 x.kind,.bool x.fact]] t=some (.bool (z8f x)):=by
  refine mD.2 (w90 _ _ _ ?_)
  unfold t90 z8f;refine kD ?_
  rw[q84,zbc,wA];refine pD ?_
  cases h1:kI x.name with
  | false=>refine lB (by simp) ?_;simp[qA]
  | true=>
   refine iA rfl ?_
   by_cases h2:1<=x.kind
   ·refine iA (yLe (by omega)) ?_
    have:jC (x.kind:Int) 6=decide (x.kind<=6):=by rw[z5a];congr 1;exact propext (by omega)
    simp[qA,h2,this]
   ·refine lB (nLe (by omega)) ?_
    simp[qA,h2]
 rw[q90,this,wA];exact hR
def key_ok{n:Int}:uC yA F 123 [.int .i64 n] t=some (.bool (zzab n)):=by
 refine mD.2 (w123 _ ?_)
 unfold t123 zzab;by_cases h : -2147483648<=n
 ·refine iA (yLe h) ?_
  rw[decide_eq_true h,ycn,<- zz9];exact⟨rfl,rfl⟩
 ·refine lB (nLe h) ?_
  rw[decide_eq_false h,Bool.false_and];exact⟨rfl,rfl⟩
def zsr{n:Int}:uC yA F 117 [.int .i64 n] t=some (.bool (z2t n)):=zr5
def row_ok{two:Bool}{r:mH}{u v:zA}{k b:Nat}{s:zA}{nm:List Nat}(hu:lA t 1 (oD r.f.n.limbs) u)(hv:lA t 1 (oD r.f.d.limbs) v)(hf:r.f.fit)(hk:gD t k none [.func (.func 123) [] []])(hb:gD t b none [.str nm,.bool two,s]) :
  uC yA F 124 [.agg [.int .i64 r.a,.int .i64 r.b,.int .i64 r.known,.bool r.f.n.neg,u,.bool r.f.d.neg,v],.ptr k 0,.ptr b 0] t=some (.bool (rowP two r)):=by
 refine mD.2 (w124 _ _ _ _ _ _ _ _ _ ?_)
 have hld:mA yA 191 ⟨0,t⟩ (.ptr k 0)=some (.func (.func 123) [] []):=hk.load1 (j:=0) z8x rfl rfl
 have hl2:mA yA 4 ⟨0,t⟩ (.ptr b 1)=some (.bool two):=hb.load1 (j:=1) ty4 rfl rfl
 have hfa:tB yA 81 1 (.ptr b 0)=some (.ptr b 1):=by kernel_rfl
 have hc:∀(n:Int) (K:zA->T) (Q:cB),wp 124 (K (.bool (zzab n))) t Q->wp 124 (.callv (.func (.func 123) [] []) [.int .i64 n] K) t Q:=by
  intro n K Q h;show dD (some (123,[zA.int .i64 n])) _
  rw[wA];simp only[];rw[q123,key_ok,wA];exact h
 have aC:∀(K2:Bool),(wp 124 (.call 117 [(.int .i64 r.known)] fun a9=>
 .asB a9 fun b10=>.ite b10
 (.call 115 [(.agg [(.bool r.f.n.neg),u,(.bool r.f.d.neg),v])] fun a11=>
 .asB a11 fun b12=>.ret (.bool b12))
 (.ret (.bool false))) t (fun x t'=>x=.bool (z2t r.known&&zk3 r.f)/\t'=t)):=by
  intro _;refine kD ?_
  rw[q117,zsr,wA];refine pD ?_
  cases h:z2t r.known with
  | false=>exact lB (by simp) ⟨rfl,rfl⟩
  | true=>
   refine iA rfl (kD ?_)
   rw[q115,fZ hu hv hf,wA];exact pD ⟨rfl,rfl⟩
 unfold t124 rowP;refine uD hld (hc _ _ _ (pD ?_))
 cases h1:zzab r.a with
 | false=>exact lB (by simp) ⟨rfl,rfl⟩
 | true=>
  refine iA rfl (uD hld (hc _ _ _ (pD ?_)))
  cases h2:zzab r.b with
  | false=>exact lB (by simp) ⟨rfl,rfl⟩
  | true=>
   refine iA rfl (xB hfa (uD hl2 (pD ?_)))
   cases two with
   | true=>
    refine iA rfl ?_
    simp only[Bool.true_or,ycn];exact aC true
   | false=>
    refine lB (by simp) ?_
    by_cases h3:r.b=0
    ·refine iA (yEq h3) ?_
     simp only[decide_eq_true h3,Bool.or_true,ycn];exact aC true
    ·refine lB (nEq h3) ?_
     simp only[decide_eq_false h3,Bool.or_false,Bool.false_and,yay];exact⟨rfl,rfl⟩
def z24{x:uE}{a:zA}(hr:lA t 7 (x.rows.map mH.d) a)(hx:x.fit):uC yA F 93 [.agg [.str x.name,.bool x.two,a]] t=some (.bool (zf5 x)):=by
 have hlen:=hx.2.1
 unfold mC at hlen;refine zN (w93 _ _ _ ?_)
 unfold t93;refine oG fun b hb hbase=>?_
 obtain⟨t1,e1,c1,l1,o1⟩:=zi0 hb [.str x.name,.bool x.two,a] none
 refine⟨.ptr b 0,⟨b+1,t1⟩,by rw[<- e1];rfl,?_⟩
 refine oG fun k hk kbase=>?_
 obtain⟨t2,e2,c2,l2,o2⟩:=bR (C:=yA) z8x hk
 refine⟨_,_,e2,?_⟩
 refine oG fun n _ _=>?_
 obtain⟨t3,e3,c3,o3⟩:=c2.store1 (v:=.func (.func 123) [] []) kbase z8x rfl rfl rfl (j:=0) (by simp)
 refine⟨_,_,e3 n,?_⟩
 have hbk:b≠k:=by intro e;obtain⟨c,h,_⟩:=c1;rw[e,hk]at h;cases h
 have cb:gD t3 b none [.str x.name,.bool x.two,a]:=c1.off (by rw[o3 b hbk,o2 b hbk])
 have hle:dA t t3:=fun c u hc=>by
  have h1:=l1 _ _ hc
  have h2:c≠k:=fun e=>by rw[e,hk]at h1;cases h1
  rw[o3 c h2];exact l2 _ _ h1
 have hfa0:tB yA 81 0 (.ptr b 0)=some (.ptr b 0):=by kernel_rfl
 have hfa2:tB yA 81 2 (.ptr b 0)=some (.ptr b 2):=by kernel_rfl
 refine xB hfa0 (uD (cb.load1 (j:=0) ty9 rfl rfl) (sS (kD ?_)))
 rw[q84,zbc,wA];refine pD ?_
 unfold zf5
 cases h1:kI x.name with
 | false=>exact lB (by simp) ⟨rfl,hle⟩
 | true=>
  refine iA rfl (xB hfa2 (uD (cb.load1 (j:=2) ty79 rfl rfl) (kD ?_)))
  have hall:uC yA F 125 [a,.func (.func 124) [] [.ptr k 0,.ptr b 0]] t3=some (.bool (x.rows.all (rowP x.two))):=by
   refine mD.2 (w125 _ _ ?_)
   unfold t125;refine xB (hr.mono hle).len (pC (lD ?_))
   rw[ybf];refine zcy (dd:=mH.d) (P:=rowP x.two) (S:=79) (el:=84) (zs:=[.int .i64 0,.int .i64 0,.int .i64 0,.bool false,.nilslice,.bool false,.nilslice]) (cond:=fun X=>kB zA.one [(.int .i64 (X.i 0)),(.int .i64 (X.i 1)),(.int .i64 (X.i 2)),(.bool (X.b 3)),(X.v 4),(.bool (X.b 5)),(X.v 6)]) sl79 (fun x _=>x.zs) (hr.mono hle) (by omega) (fun i t Q h=>j125_2 _ _ _ _ h) ?_ ?_ x.rows.length 0 (by omega)
   ·intro cs h1 h2
    have h3:pI [.int .i64 0,.int .i64 0,.int .i64 0,.bool false,.nilslice,.bool false,.nilslice] (cellsOf cs) 0=cs:=by simpa using dW _ cs [] h2
    have e:[zA.int .i64 ((cellsOf cs).i 0),.int .i64 ((cellsOf cs).i 1),.int .i64 ((cellsOf cs).i 2),.bool ((cellsOf cs).b 3),(cellsOf cs).v 4,.bool ((cellsOf cs).b 5),(cellsOf cs).v 6]=cs:=h3
    show kB zA.one [_,_,_,_,_,_,_]=true
    rw[e];exact h1
   ·intro r hr' cs hcs R hR
    obtain⟨u,v,rfl,hu,hv⟩:=zx0 hcs
    show dD (some (124,[zA.agg [.int .i64 r.a,.int .i64 r.b,.int .i64 r.known,.bool r.f.n.neg,u,.bool r.f.d.neg,v],.ptr k 0,.ptr b 0])) _
    rw[wA];simp only[];rw[q124,row_ok hu hv (hx.2.2 r hr').2.2.2 c3 cb,wA]
    exact hR
  rw[q125,hall,wA];exact pD ⟨rfl,hle⟩
def zvj{l:List uE}{v:zA}(hr:lA t 3 (l.map uE.d) v)(hlen:l.length<mC)(hx:∀x∈l,x.fit):uC yA F 92 [v,.func (.func 93) [] []] t=some (.bool (l.all zf5)):=by
 unfold mC at hlen;refine mD.2 (w92 _ _ ?_)
 unfold t92;refine xB hr.len (pC (lD ?_))
 rw[ybf];refine zcy (dd:=uE.d) (P:=zf5) (S:=23) (el:=81) (zs:=[.str [],.bool false,.nilslice]) (cond:=fun X=>kB zA.one [(.str (X.s 0)),(.bool (X.b 1)),(X.v 2)]) sl23 (fun x _=>x.zs) hr (by omega) (fun i t Q h=>j92_2 _ _ _ _ h) ?_ ?_ l.length 0 (by omega)
 ·intro cs h1 h2
  have h3:pI [.str [],.bool false,.nilslice] (cellsOf cs) 0=cs:=by simpa using dW _ cs [] h2
  have e:[zA.str ((cellsOf cs).s 0),.bool ((cellsOf cs).b 1),(cellsOf cs).v 2]=cs:=h3
  show kB zA.one [_,_,_]=true
  rw[e];exact h1
 ·intro x hm cs hcs R hR
  obtain⟨a,rfl,ha⟩:=wV hcs
  show dD (some (93,[zA.agg [.str x.name,.bool x.two,a]])) _
  rw[wA];simp only[];rw[q93,z24 ha (hx x hm),wA]
  exact hR
def z1p{bf:Nat}(hF:gD t bf none tO){x:nC}{cs:List zA}(hx:x.fit)(hr:RD t x.d cs):uC yA F 95 [.agg [.ptr bf 0],.agg cs] t=some (.bool (jL x)):=by
 obtain⟨a,b,c,a',b',c',rfl,hw,ht⟩:=xR hr
 have hxw:=hx.2.2.2.2.2.1
 have hxt:=hx.2.2.2.2.2.2
 obtain⟨a1,b1,c1,e1,ha,hb,hc⟩:=kH hw
 obtain⟨a2,b2,c2,e2,ha',hb',hc'⟩:=kH ht
 simp only[xE,List.cons.injEq,true_and,and_true]at e1 e2;obtain⟨rfl,rfl,rfl⟩:=e1
 obtain⟨rfl,rfl,rfl⟩:=e2
 have aC:∀(cw ct:List zA),cw=xE x.when_ a b c->ct=xE x.then_ a' b' c'->wp 95 (.ite x.off
 (.call 126 [(.agg cw)] fun a10=>
 .asB a10 fun b11=>.ite b11
 (.call 126 [(.agg ct)] fun jD=>
 .asB jD fun b13=>.ret (.bool b13))
 (.ret (.bool false)))
 (.call 64 [(.agg [.ptr bf 0]),(.agg cw),(.int .i64 1)] fun a14=>
 .asB a14 fun b15=>.ite b15
 (.call 64 [(.agg [.ptr bf 0]),(.agg ct),(.int .i64 1)] fun a16=>
 .asB a16 fun b17=>.ret (.bool b17))
 (.ret (.bool false)))) t (fun v t'=>v=.bool (if x.off=true then jK x.when_&&jK x.then_ else kF x.when_ 1&&kF x.then_ 1)/\t'=t):=by
  intro cw ct ew et;subst ew;subst et
  cases hoff:x.off with
  | true=>
   refine iA rfl (kD ?_)
   rw[q126,zqh hxw ha hb hc,wA];refine pD ?_
   rw[yab rfl]
   cases h:jK x.when_ with
   | false=>exact lB (by simp) ⟨rfl,rfl⟩
   | true=>
    refine iA rfl (kD ?_)
    rw[q126,zqh hxt ha' hb' hc',wA];exact pD ⟨rfl,rfl⟩
  | false=>
   refine lB (by simp) (kD ?_)
   have e1:=zpf hF x.when_ 1 _ hxw (by omega) hw
   have e2:=zpf hF x.then_ 1 _ hxt (by omega) ht
   rw[show((1:Nat):Int)=1 from rfl]at e1 e2
   rw[q64,e1,wA];refine pD ?_
   rw[yaa (by simp)]
   cases h:kF x.when_ 1 with
   | false=>exact lB (by simp) ⟨rfl,rfl⟩
   | true=>
    refine iA rfl (kD ?_)
    rw[q64,e2,wA];exact pD ⟨rfl,rfl⟩
 refine mD.2 ?_
 unfold xE;refine w95 _ _ _ _ _ _ _ _ _ _ _ _ _ _ _ _ _ _ _ _ _ _ _ _ _ ?_
 unfold t95 jL;refine kD ?_
 rw[q84,zbc,wA];refine pD ?_
 cases h1:kI x.name with
 | false=>exact iA rfl ⟨rfl,rfl⟩
 | true=>
  refine lB (by simp) (kD ?_)
  rw[q84,zbc,wA];refine pD ?_
  cases h2:kI x.label with
  | false=>exact iA rfl ⟨rfl,rfl⟩
  | true=>
   refine lB (by simp) (kD ?_)
   rw[q117,zsr,wA];refine pD ?_
   cases h3:z2t x.from_ with
   | false=>exact iA rfl ⟨rfl,rfl⟩
   | true=>
    refine lB (by simp) (kD ?_)
    rw[q117,zsr,wA];refine pD ?_
    cases h4:z2t x.known with
    | false=>exact iA rfl ⟨rfl,rfl⟩
    | true=>
     refine lB (by simp) (kD ?_)
     rw[q117,zsr,wA];refine pD ?_
     simp only[ycn]
     cases h5:z2t x.to with
     | false=>
      refine iA rfl ?_
      by_cases h6:x.to=65536
      ·refine lB (by rw[yEq h6];simp) ?_
       simp only[decide_eq_true h6,Bool.or_true,ycn];exact aC _ _ rfl rfl
      ·have:jA x.to 65536=false:=by
        cases hq:jA x.to 65536 with
        | true=>exact absurd hq (nEq h6)
        | false=>rfl
       refine iA (by rw[this];rfl) ?_
       simp only[decide_eq_false h6,Bool.or_false,Bool.false_and];exact⟨rfl,rfl⟩
     | true=>
      refine lB (by simp) ?_
      simp only[Bool.true_or,ycn];exact aC _ _ rfl rfl
def zqa{bf:Nat}(hF:gD t bf none tO){l:List nC}{v:zA}(hr:lA t 24 (l.map nC.d) v)(hlen:l.length<mC)(hx:∀x∈l,x.fit):uC yA F 94 [v,.func (.func 95) [.agg [.ptr bf 0]] []] t=some (.bool (l.all jL)):=by
 unfold mC at hlen;refine mD.2 (w94 _ _ ?_)
 unfold t94;refine xB hr.len (pC (lD ?_))
 rw[ybf];refine zcy (dd:=nC.d) (P:=jL) (S:=24) (el:=56) (zs:=[(.str []),(.str []),(.int .i64 0),(.int .i64 0),(.int .i64 0),(.bool false),(.int .u8 0),(.str []),(.int .u8 0),(.bool false),.nilslice,(.bool false),.nilslice,(.int .i64 0),.nilslice,(.int .u8 0),(.str []),(.int .u8 0),(.bool false),.nilslice,(.bool false),.nilslice,(.int .i64 0),.nilslice])
  (cond:=fun X2=>kB zA.one [(.str (X2.s 0)),(.str (X2.s 1)),(.int .i64 (X2.i 2)),(.int .i64 (X2.i 3)),(.int .i64 (X2.i 4)),(.bool (X2.b 5)),(.int .u8 (X2.i 6)),(.str (X2.s 7)),(.int .u8 (X2.i 8)),(.bool (X2.b 9)),(X2.v 10),(.bool (X2.b 11)),(X2.v 12),(.int .i64 (X2.i 13)),(X2.v 14),(.int .u8 (X2.i 15)),(.str (X2.s 16)),(.int .u8 (X2.i 17)),(.bool (X2.b 18)),(X2.v 19),(.bool (X2.b 20)),(X2.v 21),(.int .i64 (X2.i 22)),(X2.v 23)]) z3m (fun x _=>x.zs) hr (by omega) (fun i t Q h=>j94_2 _ _ _ _ h) ?_ ?_ l.length 0 (by omega)
 ·intro cs h1 h2
  have h3:=dW _ cs [] h2
  rw[yah,ybx]at h3;show kB zA.one (pI [(.str []),(.str []),(.int .i64 0),(.int .i64 0),(.int .i64 0),(.bool false),(.int .u8 0),(.str []),(.int .u8 0),(.bool false),.nilslice,(.bool false),.nilslice,(.int .i64 0),.nilslice,(.int .u8 0),(.str []),(.int .u8 0),(.bool false),.nilslice,(.bool false),.nilslice,(.int .i64 0),.nilslice] (cellsOf cs) 0)=true
  rw[h3];exact h1
 ·intro x hm cs hcs R hR
  show dD (some (95,[.agg [.ptr bf 0],zA.agg cs])) _
  rw[wA];simp only[];rw[q95,z1p hF (hx x hm) hcs,wA]
  exact hR
def z9m{bf:Nat}(hF:gD t bf none tO){p:fC}{cs:List zA}(hp:p.fit)(hr:RD t p.d cs):uC yA F 68 [.agg [.ptr bf 0],.agg cs] t=some (.bool (aN p)):=by
 obtain⟨a,b,c,rfl,ha,hb,hc⟩:=iO hr
 refine mD.2 (w68 _ _ _ _ _ ?_)
 unfold t68 aN;refine kD ?_
 rw[q84,zbc,wA];refine pD ?_
 cases h1:kI p.name with
 | false=>exact lB (by simp) ⟨rfl,rfl⟩
 | true=>
  refine iA rfl (kD ?_)
  rw[q91,z6j ha hp.ndefs,wA];refine pD ?_
  cases h2:p.defs.all z8f with
  | false=>exact lB (by simp) ⟨rfl,rfl⟩
  | true=>
   refine iA rfl (kD ?_)
   rw[q92,zvj hb hp.ntables hp.tables,wA];refine pD ?_
   cases h3:p.tables.all zf5 with
   | false=>exact lB (by simp) ⟨rfl,rfl⟩
   | true=>
    refine iA rfl (kD ?_)
    rw[q94,zqa hF hc hp.nclauses hp.clauses,wA];exact pD ⟨rfl,rfl⟩
def zb0{p:fC}{cs:List zA}(hp:p.fit)(hr:RD t p.d cs):uC yA F 46 [.agg cs] t=some (.bool (aN p)):=by
 have hr':=hr
 obtain⟨a,b,c,rfl,ha,hb,hc⟩:=iO hr
 refine zN (w46 _ _ _ _ ?_)
 unfold t46;refine kD ?_
 rw[q63];refine zi1 fun bf t' h1 h2 h3 h4 h5=>?_
 refine oF (jN rfl) (iA ?_ (kD ?_))
 ·exact hr'.sameA
 ·have e:(cellsOf [zA.ptr bf 0]).v 0=.ptr bf 0:=rfl
  rw[q68,e,z9m h3 hp (hr'.mono h4),wA]
  exact pD ⟨rfl,h4⟩
end
section
variable [lC]
variable {t:Tr rA}
abbrev z10:List zA:=[.int .u8 0,.int .u8 0,.int .u8 0,.int .u8 0,.int .u8 0,.int .u8 0,.int .u8 0,.int .u8 0,.int .u8 0,.int .u8 0]
end
section
variable [lC]
variable {t tf:Tr rA}
def zyw:List (List Nat):=[[],[100,111,119,110],[117,112],[102,108,111,111,114],[99,101,105,108],[104,97,108,102],[101,118,101,110]]
def GlobW(t:Tr rA):Prop:=At t 0 0 (zyw.map zA.str)
def zum{op:Nat}(h:op<27):((zF op).style=1->op=1)/\((zF op).style=2->(zF op).word≠[])/\((zF op).style=3->1<=(zF op).least)/\((zF op).style=4->2<=(zF op).least)/\((zF op).style=5->1<=(zF op).least/\(zF op).word≠[])/\(zF op).style<=6/\(zF op).most<=3/\(op=1->(zF op).style=1):=by
 have:∀k,k<27->((zF k).style=1->k=1)/\((zF k).style=2->(zF k).word≠[])/\((zF k).style=3->1<=(zF k).least)/\((zF k).style=4->2<=(zF k).least)/\((zF k).style=5->1<=(zF k).least/\(zF k).word≠[])/\(zF k).style<=6/\(zF k).most<=3/\(k=1->(zF k).style=1):=by decide +kernel
 exact this op h
section
variable {bf bx:Nat}{s:List Nat}{Q:cB}
end
end
section
variable [lC]
variable {t tf:Tr rA}
def wH (l:List oC)(s:List Nat):Option oC:=l.find? fun d=>wE d.name s
def z2p (l:List uE)(s:List Nat):Option uE:=l.find? fun d=>wE d.name s
def defV:Option oC->zA
 | some d=>.tup [.agg [.str d.name,.int .u8 d.kind,.bool d.fact],.bool true]
 | none=>.tup [.agg [.str [],.int .u8 0,.bool false],.bool false]
def uJ{α:Type}{l:List α}{i:Nat}(h:i<l.length):l.drop i=l[i]::l.drop (i+1):=ybl h
def z54{l:List oC}{s:List Nat}{v:zA}(hr:lA t 3 (l.map oC.d) v)(hlen:l.length<mC):∀(k i:Nat),i+k=l.length->jp 19 2 [.str s,v,.int .i64 (l.length:Int),.int .i64 (i:Int),.str [],.int .u8 0,.bool false] t (fun x t'=>x=defV (wH (l.drop i) s)/\t'=t):=by
 unfold mC at hlen;intro k;induction k with
 | zero=>
  intro i hi;refine j19_2 _ _ _ _ _ _ _ (lB (nLt (by omega)) (iA rfl (iA rfl ?_)))
  rw[ybt (by omega)]
  exact⟨rfl,rfl⟩
 | succ k ih=>
  intro i hi;have hlt:i<l.length:=by omega
  obtain⟨b,off,cs,g1,g2,_,_,g5⟩:=oE.at sl22 (by simp) hr (i:=i) (d:=l[i].d) (by simp[hlt])
  refine j19_2 _ _ _ _ _ _ _ (iA (yLt (by omega)) (xB g1 (uD g2 ?_)))
  rw[iM];have hcs:=zgm g5
  subst hcs;refine oF (vF g5 (oC.zs _)) (iA rfl ?_)
  rw[uJ hlt];unfold wH;rw[List.find?_cons]
  cases he:wE l[i].name s with
  | true=>exact iA he (iA rfl ⟨rfl,rfl⟩)
  | false=>
   refine lB (by show ¬ (wE l[i].name s=true);rw[he];simp) (lD ?_)
   rw[wrap_i64 (by omega) (by omega),show(i:Int)+1=((i+1:Nat):Int) by omega]
   exact ih (i+1) (by omega)
def z09{p:fC}{cs:List zA}{s:List Nat}(hp:p.fit)(hr:RD t p.d cs):uC yA F 19 [.agg cs,.str s] t=some (defV (wH p.defs s)):=by
 obtain⟨a,b,c,rfl,ha,hb,hc⟩:=iO hr
 refine mD.2 (w19 _ _ _ _ _ (xB ha.len (pC (lD ?_))))
 rw[ybf];have:=z54 (s:=s) ha hp.ndefs p.defs.length 0 (by omega)
 rw[ycr]at this;exact this
def TabV (t:Tr rA)(o:Option uE)(v:zA):Prop:=
 match o with
 | some x=>∃a,v=.tup [.agg [.str x.name,.bool x.two,a],.bool true]/\lA t 7 (x.rows.map mH.d) a
 | none=>v=.tup [.agg [.str [],.bool false,.nilslice],.bool false]
def z25{l:List uE}{s:List Nat}{v:zA}(hr:lA t 3 (l.map uE.d) v)(hlen:l.length<mC):∀(k i:Nat),i+k=l.length->∃r,TabV t (z2p (l.drop i) s) r/\jp 54 2 [.str s,v,.int .i64 (l.length:Int),.int .i64 (i:Int),.str [],.bool false,.nilslice] t (fun x t'=>x=r/\t'=t):=by
 unfold mC at hlen;intro k;induction k with
 | zero=>
  intro i hi;rw[ybt (by omega)]
  exact⟨_,rfl,zzad _ _ _ _ _ _ _ (lB (nLt (by omega)) (iA rfl (iA rfl ⟨rfl,rfl⟩)))⟩
 | succ k ih=>
  intro i hi;have hlt:i<l.length:=by omega
  obtain⟨b,off,cs,g1,g2,_,_,g5⟩:=oE.at sl23 (by simp) hr (i:=i) (d:=l[i].d) (by simp[hlt])
  have g50:=g5
  obtain⟨a,rfl,ha⟩:=wV g5
  rw[uJ hlt];have hone:kB zA.one [.str l[i].name,.bool l[i].two,a]=true:=g50.all
  unfold z2p;rw[List.find?_cons]
  cases he:wE l[i].name s with
  | true=>
   refine⟨_,⟨a,rfl,ha⟩,zzad _ _ _ _ _ _ _ (iA (yLt (by omega)) (xB g1 (uD g2 ?_)))⟩
   rw[iM];exact oF (vF g50 (uE.zs _)) (iA hone (iA he (iA hone ⟨rfl,rfl⟩)))
  | false=>
   obtain⟨r,h1,h2⟩:=ih (i+1) (by omega)
   refine⟨r,h1,zzad _ _ _ _ _ _ _ (iA (yLt (by omega)) (xB g1 (uD g2 ?_)))⟩
   rw[iM];refine oF (vF g50 (uE.zs _)) (iA hone (lB (by show ¬ (wE l[i].name s=true);rw[he];simp) (lD ?_)))
   rw[wrap_i64 (by omega) (by omega),show(i:Int)+1=((i+1:Nat):Int) by omega]
   exact h2
def tab_ok{p:fC}{cs:List zA}(hp:p.fit)(hr:RD t p.d cs)(s:List Nat):∃r,TabV t (z2p p.tables s) r/\uC yA F 54 [.agg cs,.str s] t=some r:=by
 obtain⟨a,b,c,rfl,ha,hb,hc⟩:=iO hr
 obtain⟨r,h1,h2⟩:=z25 (s:=s) hb hp.ntables p.tables.length 0 (by omega)
 rw[ycr]at h1;refine⟨r,h1,mD.2 (w54 _ _ _ _ _ (xB hb.len (pC (lD ?_))))⟩
 rw[ybf];exact h2
def lI(p:fC)(op:Nat)(name:List Nat)(n:Nat):Nat × Bool:=
 if op=3\/op=4\/op=21\/op=22\/op=5 then
  match wH p.defs name with
  | some d=>(d.kind,bEq d.fact (!decide (op=5))&&(decide (1<=d.kind)&&decide (d.kind<=6)))
  | none=>(0,false)
 else if op=6 then
  match z2p p.tables name with
  | some x=>(0,bEq x.two (decide (n=2)))
  | none=>(0,false)
 else if op=23 then
  match z2p p.tables name with
  | some x=>(0,!x.two)
  | none=>(0,false)
 else(0,true)
def nmV (r:Nat × Bool):zA:=.tup [.int .u8 (r.1:Nat),.bool r.2]
def D66 (p0:zA)(p1_0:Int)(p1_1:List Nat):T:=
 (.opt (cC p0) fun a0=>.opt (tB yA 104 0 a0) fun a1=>.light (fun m=>mA yA 26 ⟨0,m⟩ a1) fun a2=>.asG [(.str []),.nilslice,.nilslice,.nilslice] a2 fun X3=>
 .heavy (yH yA 59) fun a4=>
 .call 19 [(.agg [(.str (X3.s 0)),(X3.v 1),(X3.v 2),(X3.v 3)]),(.str p1_1)] fun a5=>
 .opt (mB 0 a5) fun a6=>.asG [(.str []),(.int .u8 0),(.bool false)] a6 fun X7=>
 .opt (mB 1 a5) fun a8=>.asB a8 fun b9=>.heavy (rC yA 59 a4 (.agg [(.str (X7.s 0)),(.int .u8 (X7.i 1)),(.bool (X7.b 2))])) fun _=>
 .ite b9
 (.opt (tB yA 59 2 a4) fun a10=>.light (fun m=>mA yA 4 ⟨0,m⟩ a10) fun a11=>.asB a11 fun b12=>.opt (tB yA 59 1 a4) fun a13=>.light (fun m=>mA yA 5 ⟨0,m⟩ a13) fun a14=>.asI .u8 a14 fun n15=>.ite (bEq b12 (!jA p1_0 5))
 (.opt (tB yA 59 1 a4) fun a16=>.light (fun m=>mA yA 5 ⟨0,m⟩ a16) fun a17=>.asI .u8 a17 fun n18=>.ite (jC 1 n18)
 (.opt (tB yA 59 1 a4) fun a19=>.light (fun m=>mA yA 5 ⟨0,m⟩ a19) fun a20=>.asI .u8 a20 fun n21=>.ret (.tup [(.int .u8 n15),(.bool (jC n21 6))]))
 (.ret (.tup [(.int .u8 n15),(.bool false)])))
 (.ret (.tup [(.int .u8 n15),(.bool false)])))
 (.opt (tB yA 59 1 a4) fun a22=>.light (fun m=>mA yA 5 ⟨0,m⟩ a22) fun a23=>.asI .u8 a23 fun n24=>.ret (.tup [(.int .u8 n24),(.bool false)])))
def T66 (p0:zA)(p1_1:List Nat)(K:zA->zA->T):T:=
 (.opt (cC p0) fun a25=>.opt (tB yA 104 0 a25) fun a26=>.light (fun m=>mA yA 26 ⟨0,m⟩ a26) fun a27=>.asG [(.str []),.nilslice,.nilslice,.nilslice] a27 fun X28=>
 .heavy (yH yA 81) fun a29=>
 .call 54 [(.agg [(.str (X28.s 0)),(X28.v 1),(X28.v 2),(X28.v 3)]),(.str p1_1)] fun a30=>
 .opt (mB 0 a30) fun a31=>.asG [(.str []),(.bool false),.nilslice] a31 fun X32=>
 .opt (mB 1 a30) fun a33=>.asB a33 fun b34=>.heavy (rC yA 81 a29 (.agg [(.str (X32.s 0)),(.bool (X32.b 1)),(X32.v 2)])) fun _=>
 .ite b34
 (.opt (tB yA 81 1 a29) fun a35=>.light (fun m=>mA yA 4 ⟨0,m⟩ a35) fun a36=>K a36 a29)
 (.ret (.tup [(.int .u8 0),(.bool false)])))
def qL(t:Tr rA)(b m:Nat)(p:fC):Prop:=∃cs,RD t p.d cs/\gD t b none (cs++[.map m])
def zpe{b:Nat}:tB yA 104 0 (.ptr b 0)=some (.ptr b 0):=by kernel_rfl
def zpd{b:Nat}:tB yA 104 1 (.ptr b 0)=some (.ptr b 4):=by kernel_rfl
def qL.plan{b m:Nat}{p:fC}(h:qL t b m p):∃cs,RD t p.d cs/\cs.length=4/\mA yA 26 ⟨0,t⟩ (.ptr b 0)=some (.agg cs)/\gD t b none (cs++[.map m]):=by
 obtain⟨cs,h1,h2⟩:=h
 have hlen:cs.length=4:=by obtain⟨a,b,c,rfl,_⟩:=iO h1;rfl
 refine⟨cs,h1,hlen,?_,h2⟩
 have:=h2.at.load (C:=yA) (ty:=26) ty26 rfl (n:=4) rfl (j:=0) (by simp[hlen])
 rw[ybw]at this;rw[this];congr 2
 rw[ycr,List.take_left' hlen]
def lV{b T n:Nat}{l m:List zA}{y:tC}(h:gD t b none l)(hb:yA.base<=b)(hT:yA.tys.get T=some y)(hy:y.size=n)(hl:l.length=n)(hm:m.length=n)(hone:kB zA.one m=true):∃t',(∀k,rC yA T (.ptr b 0) (.agg m) ⟨k,t⟩=some (nD,⟨k,t'⟩))/\gD t' b none m/\iD b t t':=by
 obtain⟨t',h1,h2,h3⟩:=h.store (C:=yA) hb (T:=T) (v:=.agg m) (j:=0) hT (by show m.length=_;rw[hm,hy]) (by show 0+m.length<=_;omega) hone
 refine⟨t',h1,?_,h3⟩
 have e:qI l 0 (zA.agg m).cells=m:=by
  show qI l 0 m=m
  unfold qI;rw[List.take_zero,yah,ybt (by omega),ycd]
 rw[e]at h2;exact h2
def zir{p:fC}{cs:List zA}(h:RD t p.d cs):zK [.str [],.nilslice,.nilslice,.nilslice] (.agg cs)=some (cellsOf cs)/\[zA.str ((cellsOf cs).s 0),(cellsOf cs).v 1,(cellsOf cs).v 2,(cellsOf cs).v 3]=cs:=⟨vF h (fC.zs _),h.mk (fC.zs p)⟩
section
variable {b m:Nat}{p:fC}{op:Nat}{name:List Nat}{n:Nat}
def D_ok(hC:qL t b m p)(hp:p.fit)(hop:op=3\/op=4\/op=21\/op=22\/op=5):wp 66 (D66 (.ptr b 0) (op:Int) name) t (fun v t'=>v=nmV (lI p op name n)/\dA t t'):=by
 obtain⟨cs,h1,h2,h3,h4⟩:=hC.plan
 obtain⟨e1,e2⟩:=zir h1
 unfold D66 lI;rw[yab hop];refine xB gM (xB zpe (uD h3 (oF e1 (oG fun bd hbd hbase=>?_))))
 obtain⟨t1,g1,g2,g3,g4⟩:=bR (C:=yA) z2n hbd
 refine⟨_,_,g1,kD ?_⟩
 rw[e2,q19,z09 hp (h1.mono g3),wA]
 have f1:tB yA 59 1 (.ptr bd 0)=some (.ptr bd 1):=by kernel_rfl
 have f2:tB yA 59 2 (.ptr bd 0)=some (.ptr bd 2):=by kernel_rfl
 have hb5:(!jA (op:Int) 5) = !decide (op=5):=by
  rw[zfs];congr 2;exact propext (by omega)
 cases hd:wH p.defs name with
 | none=>
  refine xB rfl (oF (jN rfl) (xB rfl (pD (oG fun k _ _=>?_))))
  obtain⟨t2,k1,k2,k3⟩:=lV g2 hbase z2n rfl rfl (m:=[.str [],.int .u8 0,.bool false]) rfl rfl
  refine⟨_,_,k1 k,lB (by simp) (xB f1 (uD (k2.load1 (j:=1) ty5 rfl rfl) (pC ⟨rfl,fun c u hc=>?_⟩)))⟩
  have:c≠bd:=fun e=>by rw[e,hbd]at hc;cases hc
  rw[k3 c this];exact g3 _ _ hc
 | some d=>
  refine xB rfl (oF (jN rfl) (xB rfl (pD (oG fun k _ _=>?_))))
  obtain⟨t2,k1,k2,k3⟩:=lV g2 hbase z2n rfl rfl (m:=[.str d.name,.int .u8 d.kind,.bool d.fact]) rfl rfl
  have hle:dA t t2:=fun c u hc=>by
   have:c≠bd:=fun e=>by rw[e,hbd]at hc;cases hc
   rw[k3 c this];exact g3 _ _ hc
  have ld1:mA yA 5 ⟨0,t2⟩ (.ptr bd 1)=some (.int .u8 (d.kind:Int)):=k2.load1 (j:=1) ty5 rfl rfl
  have ld2:mA yA 4 ⟨0,t2⟩ (.ptr bd 2)=some (.bool d.fact):=k2.load1 (j:=2) ty4 rfl rfl
  refine⟨_,_,k1 k,iA rfl (xB f2 (uD ld2 (pD (xB f1 (uD ld1 (pC ?_))))))⟩
  rw[hb5];show wp 66 _ t2 _
  cases hf:bEq d.fact (!decide (op=5))with
  | false=>exact lB (by simp) ⟨by simp[nmV,hf],hle⟩
  | true=>
   refine iA rfl (xB f1 (uD ld1 (pC ?_)))
   by_cases h6:1<=d.kind
   ·refine iA (yLe (by omega)) (xB f1 (uD ld1 (pC ⟨?_,hle⟩)))
    have:jC (d.kind:Int) 6=decide (d.kind<=6):=by rw[z5a];congr 1;exact propext (by omega)
    simp[nmV,hf,h6,this]
   ·refine lB (nLe (by omega)) ⟨?_,hle⟩
    simp[nmV,hf,h6]
def T_ok{R:Bool}{K:zA->zA->T}(hC:qL t b m p)(hp:p.fit)(hK:∀x bd t',z2p p.tables name=some x->dA t t'->wp 66 (K (.bool x.two) bd) t' (fun v t'=>v=nmV (0,R)/\dA t t'))(hN:z2p p.tables name=none->R=false):wp 66 (T66 (.ptr b 0) name K) t (fun v t'=>v=nmV (0,R)/\dA t t'):=by
 obtain⟨cs,h1,h2,h3,h4⟩:=hC.plan
 obtain⟨e1,e2⟩:=zir h1
 unfold T66;refine xB gM (xB zpe (uD h3 (oF e1 (oG fun bd hbd hbase=>?_))))
 obtain⟨t1,g1,g2,g3,g4⟩:=bR (C:=yA) ty81 hbd
 refine⟨_,_,g1,kD ?_⟩
 obtain⟨r,r1,r2⟩:=tab_ok hp (h1.mono g3) name
 rw[e2,q54,r2,wA];have f1:tB yA 81 1 (.ptr bd 0)=some (.ptr bd 1):=by kernel_rfl
 cases hd:z2p p.tables name with
 | none=>
  rw[hd]at r1;unfold TabV at r1;subst r1;refine xB rfl (oF (jN rfl) (xB rfl (pD (oG fun k _ _=>?_))))
  obtain⟨t2,k1,k2,k3⟩:=lV g2 hbase ty81 rfl rfl (m:=[.str [],.bool false,.nilslice]) rfl rfl
  rw[hN hd];refine⟨_,_,k1 k,lB (by simp) ⟨rfl,fun c u hc=>?_⟩⟩
  have:c≠bd:=fun e=>by rw[e,hbd]at hc;cases hc
  rw[k3 c this];exact g3 _ _ hc
 | some x=>
  rw[hd]at r1;obtain⟨a,rfl,ha⟩:=r1
  have hfz:fK [.str [],.bool false,.nilslice] [zA.str x.name,.bool x.two,a]=true:=by
   show(true&&(true&&(zpb .nilslice a&&true)))=true
   rw[oR ha];rfl
  have hone:kB zA.one [zA.str x.name,.bool x.two,a]=true:=by
   rw[yG];simp only[ycg,yck,ha.one];rfl
  refine xB rfl (oF (jN hfz) (xB rfl (pD (oG fun k _ _=>?_))))
  obtain⟨t2,k1,k2,k3⟩:=lV g2 hbase ty81 rfl rfl (m:=[.str x.name,.bool x.two,a]) rfl hone
  have hle:dA t t2:=fun c u hc=>by
   have:c≠bd:=fun e=>by rw[e,hbd]at hc;cases hc
   rw[k3 c this];exact g3 _ _ hc
  refine⟨_,_,k1 k,iA rfl (xB f1 (uD (k2.load1 (j:=1) ty4 rfl rfl) ?_))⟩
  exact hK x _ t2 hd hle
def z4m{a c d:zA}{kd:Int}{n1 n2:Bool}{vi:Int}(hC:qL t b m p)(hp:p.fit)(hc:oB d=some (.int .i64 (n:Int))):uC yA F 66 [.ptr b 0,.agg [.int .u8 op,.str name,.int .u8 kd,.bool n1,a,.bool n2,c,.int .i64 vi,d]] t=some (nmV (lI p op name n)):=by
 refine zN ?_
 refine w66 _ _ _ _ _ _ _ _ _ _ ?_
 unfold t66;have rest:∀(Y:T),(op=3\/op=4\/op=21\/op=22\/op=5)->wp 66 (D66 (.ptr b 0) (op:Int) name) t (fun v t'=>v=nmV (lI p op name n)/\dA t t'):=fun Y h=>D_ok hC hp h
 by_cases h3:op=3
 ·exact iA (yEq (by omega)) (iA (yEq (by omega)) (D_ok hC hp (.inl h3)))
 refine lB (nEq (by omega)) ?_
 by_cases h4:op=4
 ·exact iA (yEq (by omega)) (iA (yEq (by omega)) (D_ok hC hp (.inr (.inl h4))))
 refine lB (nEq (by omega)) ?_
 by_cases h21:op=21
 ·exact iA (yEq (by omega)) (iA (yEq (by omega)) (D_ok hC hp (.inr (.inr (.inl h21)))))
 refine lB (nEq (by omega)) ?_
 by_cases h22:op=22
 ·exact iA (yEq (by omega)) (iA (yEq (by omega)) (D_ok hC hp (.inr (.inr (.inr (.inl h22))))))
 refine lB (nEq (by omega)) ?_
 by_cases h5:op=5
 ·exact iA (yEq (by omega)) (D_ok hC hp (.inr (.inr (.inr (.inr h5)))))
 refine lB (nEq (by omega)) ?_
 have hno:¬ (op=3\/op=4\/op=21\/op=22\/op=5):=by omega
 by_cases h6:op=6
 ·refine iA (yEq (by omega)) ?_
  unfold lI;rw[yaa hno,yab h6]
  cases hd:z2p p.tables name with
  | none=>
   exact T_ok (R:=false) (K:=fun a36 _=>.asB a36 fun b37=>.opt (oB d) fun a38=>.asI .i64 a38 fun n39=>.ret (.tup [(.int .u8 0),(.bool (bEq b37 (jA n39 2)))])) hC hp (fun x bd t' h _=>by rw[hd]at h;cases h) (fun _=>rfl)
  | some x=>
   refine T_ok (R:=bEq x.two (decide (n=2))) (K:=fun a36 _=>.asB a36 fun b37=>.opt (oB d) fun a38=>.asI .i64 a38 fun n39=>.ret (.tup [(.int .u8 0),(.bool (bEq b37 (jA n39 2)))])) hC hp (fun y bd t' h hle=>?_) (fun h=>by rw[hd]at h;cases h)
   rw[hd]at h
   cases h;refine pD (xB hc (pC ⟨?_,hle⟩))
   have:jA (n:Int) 2=decide (n=2):=by rw[zfs];congr 1;exact propext (by omega)
   rw[this];rfl
 refine lB (nEq (by omega)) ?_
 by_cases h23:op=23
 ·refine iA (yEq (by omega)) ?_
  unfold lI;rw[yaa hno,yaa h6,yab h23]
  cases hd:z2p p.tables name with
  | none=>
   exact T_ok (R:=false) (K:=fun a36 _=>.asB a36 fun b52=>.ret (.tup [(.int .u8 0),(.bool (!b52))])) hC hp (fun x bd t' h _=>by rw[hd]at h;cases h) (fun _=>rfl)
  | some x=>
   refine T_ok (R := !x.two) (K:=fun a36 _=>.asB a36 fun b52=>.ret (.tup [(.int .u8 0),(.bool (!b52))])) hC hp (fun y bd t' h hle=>?_) (fun h=>by rw[hd]at h;cases h)
   rw[hd]at h
   cases h;exact pD ⟨rfl,hle⟩
 refine lB (nEq (by omega)) ?_
 unfold lI;rw[yaa hno,yaa h6,yaa h23];exact⟨rfl,dA.refl _⟩
end
end
section
variable [lC]
variable {t tf:Tr rA}
structure KE where
 op:Nat
 a:Nat
 b:Nat
 c:Nat
 k:Nat
def zzr:List KE:=[⟨2,0,0,0,4⟩,⟨4,4,0,0,1⟩,⟨6,2,0,0,2⟩,⟨6,2,2,0,2⟩,⟨8,4,4,0,5⟩,⟨9,2,2,0,2⟩,⟨9,3,2,0,3⟩,⟨9,2,3,0,3⟩,⟨10,2,2,0,2⟩,⟨10,3,2,0,3⟩,⟨10,3,3,0,2⟩,⟨15,1,1,0,1⟩,⟨16,1,1,0,1⟩,⟨17,1,0,0,1⟩,
 ⟨19,2,2,0,2⟩,⟨19,3,3,0,3⟩,⟨20,4,4,0,6⟩,⟨21,4,4,0,2⟩,⟨22,4,4,6,3⟩,⟨23,4,4,0,2⟩,⟨24,2,0,0,6⟩,⟨25,5,0,0,2⟩,⟨25,6,0,0,2⟩,⟨25,3,0,0,2⟩,⟨26,4,0,0,4⟩,
 ⟨7,2,2,0,2⟩,⟨7,3,3,0,3⟩,⟨7,5,5,0,5⟩,⟨7,6,6,0,6⟩,⟨7,4,5,0,4⟩,⟨7,4,6,0,4⟩,⟨8,2,2,0,2⟩,⟨8,3,3,0,3⟩,⟨8,5,5,0,5⟩,⟨8,6,6,0,6⟩,⟨8,4,5,0,4⟩,⟨8,4,6,0,4⟩,
 ⟨14,1,1,0,1⟩,⟨18,1,1,1,1⟩,⟨14,2,2,0,1⟩,⟨18,1,2,2,2⟩,⟨11,2,2,0,2⟩,⟨12,2,2,0,2⟩,⟨13,2,2,0,1⟩,⟨14,3,3,0,1⟩,⟨18,1,3,3,3⟩,⟨11,3,3,0,3⟩,⟨12,3,3,0,3⟩,⟨13,3,3,0,1⟩,
 ⟨14,4,4,0,1⟩,⟨18,1,4,4,4⟩,⟨11,4,4,0,4⟩,⟨12,4,4,0,4⟩,⟨13,4,4,0,1⟩,⟨14,5,5,0,1⟩,⟨18,1,5,5,5⟩,⟨11,5,5,0,5⟩,⟨12,5,5,0,5⟩,⟨13,5,5,0,1⟩,
 ⟨14,6,6,0,1⟩,⟨18,1,6,6,6⟩,⟨11,6,6,0,6⟩,⟨12,6,6,0,6⟩,⟨13,6,6,0,1⟩]
def z7p (op a b c:Nat):zA:=.agg [.int .u8 op,.int .u8 a,.int .u8 b,.int .u8 c]
def KE.e (x:KE):zA × zA:=(z7p x.op x.a x.b x.c,.int .u8 x.k)
def vD (n:Nat):List (zA × zA):=(zzr.take n).map KE.e
def jS{w x y z:Int}:wM yA 100 (.agg [.int .u8 w,.int .u8 x,.int .u8 y,.int .u8 z])=true:=by kernel_rfl
def KI (t0:Tr rA)(b n:Nat)(t:Tr rA):Prop:=t.get b=some (.map (vD n))/\iD b t0 t
def zuc{t0:Tr rA}{b n i:Nat}{k v:zA}{K:T}{Q:cB}(hb:yA.base<=b)(hI:KI t0 b n t)(hs:nG k v (vD n)=some (vD (n+1)))(hk:wM yA 100 k=true)(next:∀t',KI t0 b (n+1) t'->wp i K t' Q):wp i (.heavy (rI yA 100 (.map b) k v) fun _=>K) t Q:=by
 refine oG fun m _ _=>?_
 refine⟨_,_,zh1 hk hb hI.1 hs,next _ ⟨by show(t.set b _).get b=_;rw[Tr.get_set,yab rfl],fun c hc=>?_⟩⟩
 show(t.set b _).get c=_
 rw[Tr.get_set,yaa hc];exact hI.2 c hc
section
variable {t0:Tr rA}{b:Nat}{name:List Nat}{c1 c2 c3:zA}{Q:cB}
abbrev ag2:zA:=.agg [.int .u8 7,.int .u8 8]
abbrev ag4:zA:=.agg [.int .u8 2,.int .u8 3,.int .u8 5,.int .u8 6]
def zyk{n:Nat}{op i:Int}(hb:yA.base<=b)(hI:KI t0 b n t)
  (h1:nG (.agg [.int .u8 op,.int .u8 2,.int .u8 2,.int .u8 0]) (.int .u8 2) (vD n)=some (vD (n+1))) (h2:nG (.agg [.int .u8 op,.int .u8 3,.int .u8 3,.int .u8 0]) (.int .u8 3) (vD (n+1))=some (vD (n+1+1)))
  (h3:nG (.agg [.int .u8 op,.int .u8 5,.int .u8 5,.int .u8 0]) (.int .u8 5) (vD (n+1+1))=some (vD (n+1+1+1))) (h4:nG (.agg [.int .u8 op,.int .u8 6,.int .u8 6,.int .u8 0]) (.int .u8 6) (vD (n+1+1+1))=some (vD (n+1+1+1+1)))
  (h5:nG (.agg [.int .u8 op,.int .u8 4,.int .u8 5,.int .u8 0]) (.int .u8 4) (vD (n+1+1+1+1))=some (vD (n+1+1+1+1+1))) (h6:nG (.agg [.int .u8 op,.int .u8 4,.int .u8 6,.int .u8 0]) (.int .u8 4) (vD (n+1+1+1+1+1))=some (vD (n+1+1+1+1+1+1)))
  (hk:∀x y:Nat,x<10->y<10->wM yA 100 (.agg [.int .u8 op,.int .u8 (x:Int),.int .u8 (y:Int),.int .u8 0])=true)
  (next:∀t',KI t0 b (n+1+1+1+1+1+1) t'->jp 28 2 [.map b,ag2,.int .i64 (tA .i64 (i+1)),.str name,c1,c2,c3] t' Q) :
  jp 28 6 [.map b,.int .u8 op,ag2,.int .i64 i,ag4,.int .i64 0,.str name,c1,c2,c3] t Q:=by
 have i0:sJ yA 102 ag4 (.int .i64 0)=some (.int .u8 2):=by kernel_rfl
 have i1:sJ yA 102 ag4 (.int .i64 1)=some (.int .u8 3):=by kernel_rfl
 have i2:sJ yA 102 ag4 (.int .i64 2)=some (.int .u8 5):=by kernel_rfl
 have i3:sJ yA 102 ag4 (.int .i64 3)=some (.int .u8 6):=by kernel_rfl
 have w1:tA .i64 (0+1)=1:=rfl
 have w2:tA .i64 (1+1)=2:=rfl
 have w3:tA .i64 (2+1)=3:=rfl
 have w4:tA .i64 (3+1)=4:=rfl
 refine zzx _ _ _ _ _ _ _ _ _ _ _ _ _ _ (iA rfl (xB i0 (pC (iA rfl (zuc hb hI h1 (hk 2 2 (by omega) (by omega)) fun t' hI=>lD ?_)))))
 rw[w1];refine zzx _ _ _ _ _ _ _ _ _ _ _ _ _ _ (iA rfl (xB i1 (pC (iA rfl (zuc hb hI h2 (hk 3 3 (by omega) (by omega)) fun t' hI=>lD ?_)))))
 rw[w2];refine zzx _ _ _ _ _ _ _ _ _ _ _ _ _ _ (iA rfl (xB i2 (pC (iA rfl (zuc hb hI h3 (hk 5 5 (by omega) (by omega)) fun t' hI=>lD ?_)))))
 rw[w3];refine zzx _ _ _ _ _ _ _ _ _ _ _ _ _ _ (iA rfl (xB i3 (pC (iA rfl (zuc hb hI h4 (hk 6 6 (by omega) (by omega)) fun t' hI=>lD ?_)))))
 rw[w4];refine zzx _ _ _ _ _ _ _ _ _ _ _ _ _ _ (lB (by show ¬ (false=true);simp) (iA rfl (zuc hb hI h5 (hk 4 5 (by omega) (by omega)) fun t' hI=>iA rfl (zuc hb hI h6 (hk 4 6 (by omega) (by omega)) fun t' hI=>lD ?_))))
 exact next t' hI
def zl3{n:Nat}{k:Nat}(hk0:2<=k/\k<=6)(hb:yA.base<=b)(hI:KI t0 b n t)
  (h1:nG (.agg [.int .u8 14,.int .u8 k,.int .u8 k,.int .u8 0]) (.int .u8 1) (vD n)=some (vD (n+1))) (h2:nG (.agg [.int .u8 18,.int .u8 1,.int .u8 k,.int .u8 k]) (.int .u8 k) (vD (n+1))=some (vD (n+1+1)))
  (h3:nG (.agg [.int .u8 11,.int .u8 k,.int .u8 k,.int .u8 0]) (.int .u8 k) (vD (n+1+1))=some (vD (n+1+1+1))) (h4:nG (.agg [.int .u8 12,.int .u8 k,.int .u8 k,.int .u8 0]) (.int .u8 k) (vD (n+1+1+1))=some (vD (n+1+1+1+1)))
  (h5:nG (.agg [.int .u8 13,.int .u8 k,.int .u8 k,.int .u8 0]) (.int .u8 1) (vD (n+1+1+1+1))=some (vD (n+1+1+1+1+1)))
  (next:∀t',KI t0 b (n+1+1+1+1+1) t'->jp 28 10 [.map b,.int .u8 ((k+1:Nat):Int),.str name,c1,c2,c3] t' Q) :
  jp 28 10 [.map b,.int .u8 (k:Int),.str name,c1,c2,c3] t Q:=by
 have hk:∀w x y z:Nat,w<30->x<10->y<10->z<10->wM yA 100 (z7p w x y z)=true:=fun w x y z _ _ _ _=>jS
 refine zzy _ _ _ _ _ _ (iA (yLe (by omega)) (iA rfl (zuc hb hI h1 (hk 14 k k 0 (by omega) (by omega) (by omega) (by omega)) fun t' hI=>iA rfl (zuc hb hI h2 (hk 18 1 k k (by omega) (by omega) (by omega) (by omega)) fun t' hI=>iA ?_ (iA rfl (zuc hb hI h3 (hk 11 k k 0 (by omega) (by omega) (by omega) (by omega)) fun t' hI=>iA rfl (zuc hb hI h4 (hk 12 k k 0 (by omega) (by omega) (by omega) (by omega)) fun t' hI=>iA rfl (zuc hb hI h5 (hk 13 k k 0 (by omega) (by omega) (by omega) (by omega)) fun t' hI=>lD ?_))))))))
 ·cases hq:jA (k:Int) 1 with
  | true=>exact absurd (mG.1 hq) (by omega)
  | false=>rfl
 ·rw[zv1 (by omega) (by omega),show(k:Int)+1=((k+1:Nat):Int) by omega]
  exact next t' hI
def zd1{p:fC}{cs:List zA}(hr:RD t p.d cs)(hQ:∀b m t',dA t t'->qL t' b m p->t'.get m=some (.map (vD 64))->Q (.ptr b 0) t'):Wc yA F 28 [.agg cs] t Q:=by
 have hr0:=hr
 obtain⟨u1,u2,u3,rfl,h1,h2,h3⟩:=iO hr
 refine w28 _ _ _ _ ?_
 unfold t28;repeat refine iA rfl ?_
 refine oG fun b hb hbase=>?_
 refine⟨.map b,⟨b+1,t.set b (.map [])⟩,rfl,oG fun n _ _=>?_⟩
 have hm0:(t.set b (.map [])).get b=some (.map []):=by rw[Tr.get_set,yab rfl]
 have ho0:iD b t (t.set b (.map [])):=fun c hc=>by rw[Tr.get_set,yaa hc]
 obtain⟨t1,g1,g2,g3⟩:=zul (C:=yA) (T:=100) (b:=b) (n:=n) (l:=vD 25) (t:=t.set b (.map [])) (fun e he=>by
  obtain⟨x,_,rfl⟩:=yaq.1 he
  exact jS) (by kernel_rfl) hbase hm0
 have g1':dP yA ((vD 25).map fun e=>Eff.upd 100 (.map b) e.1 e.2) ⟨n,t.set b (.map [])⟩=some (nD,⟨n,t1⟩):=g1
 have hI:KI t b 25 t1:=⟨g2,fun c hc=>by rw[g3 c hc,ho0 c hc]⟩
 refine⟨nD,⟨n,t1⟩,g1',iA rfl (lD ?_)⟩
 have j0:sJ yA 101 ag2 (.int .i64 0)=some (.int .u8 7):=by kernel_rfl
 have j1:sJ yA 101 ag2 (.int .i64 1)=some (.int .u8 8):=by kernel_rfl
 have w1:tA .i64 (0+1)=1:=rfl
 have w2:tA .i64 (1+1)=2:=rfl
 refine zzaf _ _ _ _ _ _ _ _ (iA rfl (xB j0 (pC (iA rfl (lD ?_)))))
 refine zyk hbase hI (by kernel_rfl) (by kernel_rfl) (by kernel_rfl) (by kernel_rfl) (by kernel_rfl) (by kernel_rfl) (fun x y _ _=>jS) fun t2 hI=>?_
 rw[w1];refine zzaf _ _ _ _ _ _ _ _ (iA rfl (xB j1 (pC (iA rfl (lD ?_)))))
 refine zyk hbase hI (by kernel_rfl) (by kernel_rfl) (by kernel_rfl) (by kernel_rfl) (by kernel_rfl) (by kernel_rfl) (fun x y _ _=>jS) fun t3 hI=>?_
 rw[w2];refine zzaf _ _ _ _ _ _ _ _ (lB (by show ¬ (false=true);simp) (lD ?_))
 refine zzy _ _ _ _ _ _ (iA rfl (iA rfl (zuc hbase hI (by kernel_rfl) jS fun t4 hI=>iA rfl (zuc hbase hI (by kernel_rfl) jS fun t5 hI=>lB (by show ¬ (false=true);simp) (lD ?_)))))
 have uw:tA .u8 (1+1)=((2:Nat):Int):=rfl
 rw[uw];refine zl3 (by omega) hbase hI (by kernel_rfl) (by kernel_rfl) (by kernel_rfl) (by kernel_rfl) (by kernel_rfl) fun t6 hI=>?_
 refine zl3 (by omega) hbase hI (by kernel_rfl) (by kernel_rfl) (by kernel_rfl) (by kernel_rfl) (by kernel_rfl) fun t7 hI=>?_
 refine zl3 (by omega) hbase hI (by kernel_rfl) (by kernel_rfl) (by kernel_rfl) (by kernel_rfl) (by kernel_rfl) fun t8 hI=>?_
 refine zl3 (by omega) hbase hI (by kernel_rfl) (by kernel_rfl) (by kernel_rfl) (by kernel_rfl) (by kernel_rfl) fun t9 hI=>?_
 refine zl3 (by omega) hbase hI (by kernel_rfl) (by kernel_rfl) (by kernel_rfl) (by kernel_rfl) (by kernel_rfl) fun t10 hI=>?_
 refine zzy _ _ _ _ _ _ (lB (nLe (by omega)) (iA rfl (oG fun bc hbc _=>?_)))
 have hle:dA t t10:=fun c u hc=>by
  have:c≠b:=fun e=>by rw[e,hb]at hc;cases hc
  rw[hI.2 c this];exact hc
 obtain⟨t11,e1,e2,e3,e4⟩:=zi0 hbc [.str p.name,u1,u2,u3,.map b] none
 have hb:ztb (.agg [.str p.name,u1,u2,u3,.map b]) ⟨bc,t10⟩=some (.ptr bc 0,⟨bc+1,t11⟩):=by
  show some (zA.ptr bc 0,mE ⟨bc,t10⟩ [.str p.name,u1,u2,u3,.map b] none)=_
  rw[e1]
 refine⟨_,_,hb,hQ bc b t11 (hle.trans e3) ⟨_,hr0.mono (hle.trans e3),e2⟩ ?_⟩
 exact e3 _ _ hI.1
end
end
end Go.Proofs
