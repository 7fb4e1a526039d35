/- Gcd, and the validity of fractions. -/
import Derived.Test.YtbgilkcahebbfaaGreatDoorF21
set_option linter.all false
noncomputable section
set_option maxRecDepth 100000
namespace Go.Proofs
open Go Go.Am
variable [jC]
variable {t:Tr qA}
def zad{neg:Bool}{l:List Nat}(h:gI neg l=true):norm l:=by
 intro hne;unfold gI at h;rw[yaa hne,ybb]at h;have:=of_decide_eq_true h.2
 intro e;exact this (by rw[List.getLast?_eq_some_getLast hne,e])
def zib{l:List oH}{v:zA}(hv:lA t 2 (l.map oH.d) v)(hb:∀w∈l,w.limbs.length<1125899906842624)(hn:l.length<1125899906842624):∀(k i:Nat),i+k=l.length->jp 192 2 [v,.int .i64 (l.length:Int),.int .i64 (i:Int)] t (fun r m=>r=.bool ((l.drop i).all fun w=>gI w.neg w.limbs)/\m=t):=by
 intro k;induction k with
 | zero=>
  intro i hi;refine z4e _ _ _ ?_
  simp only[zuw,pA,iD];rw[yaa (by omega),ybt (by omega)]
  (first | exact⟨rfl,rfl⟩ | exact⟨rfl,trivial⟩ | trivial)
 | succ k ih=>
  intro i hi;have hlt:i<l.length:=by omega
  have hx:l[i]?=some l[i]:=ybd hlt
  obtain⟨b,off,cs,g1,g2,_,_,g5⟩:=wG.at sl237 (by simp) hv (i:=i) (d:=l[i].d) (by simp[hx])
  obtain⟨u,rfl,hu⟩:=wU g5
  have hv1:=zbh (neg:=l[i].neg) (hb _ (ycj hlt)) hu
  refine z4e _ _ _ ?_
  simp only[zuw,pA,iD];rw[yab (by omega),g1,sA,g2,dT,sA,kK g5 (oH.zs _)]
  simp only[sA,cellsOf,zd7,zqx,yaz,yba];have hone:tC zA.one [.bool l[i].neg,u]=true:=by
   show(bif zA.one (.bool l[i].neg)then(bif zA.one u then true else false)else false)=true
   rw[hu.one];rfl
  refine tN hone ?_
  rw[q148,hv1];simp only[sA,jT,zhh];rw[ybl hlt,ycg]
  cases hq:gI l[i].neg l[i].limbs with
  | false=>simp
  | true=>
   simp only[ycn,Bool.true_eq_false,if_false];rw[wrap_i64 (by omega) (by omega)]
   exact ih (i+1) (by omega)
def zn0{l:List oH}{v:zA}(hv:lA t 2 (l.map oH.d) v)(hb:∀w∈l,w.limbs.length<1125899906842624)(hn:l.length<1125899906842624):wC yA F 192 [v] t=some (.bool (l.all fun w=>gI w.neg w.limbs)):=by
 refine kC.2 (w192 _ ?_)
 simp only[t192,pA,hv.len,sA,qB,ybf];have:=zib hv hb hn l.length 0 (by omega)
 rw[ycr]at this;exact this
def gcd_ok{n d:oH}{u v:zA}{Q:bB}(hu:lA t 1 (pD n.limbs) u)(hv:lA t 1 (pD d.limbs) v)(hn:n.limbs.length<700000)(hd:d.limbs.length<700000)(hnl:tB 65536 n.limbs)(hdl:tB 65536 d.limbs)(hnv:gI n.neg n.limbs=true)(hdv:gI d.neg d.limbs=true)
  (hQ:∀t' g rv,dA t t'->lA t' 1 (pD g) rv->tB 65536 g->norm g->val 65536 g=Nat.gcd (val 65536 n.limbs) (val 65536 d.limbs)->Q (.tup [.agg [.bool false,rv],.int .i64 0]) t'):Wc yA F 172 [.agg [.bool n.neg,u],.agg [.bool d.neg,v]] t Q:=by
 have hBB:=aJ
 refine w172 _ _ _ _ ?_
 simp only[t172,pA];intro b hb hbase;obtain⟨t1,g1,g2,g3,g4⟩:=zjv (C:=yA) (T:=237) (el:=24) (sz:=2) (n:=2) (cl:=[[.bool n.neg,u],[.bool d.neg,v]]) (ps:=[(0,.agg [.bool n.neg,u]),(1,.agg [.bool d.neg,v])]) ty237 rfl ty24 rfl rfl (by decide) rfl (fun i cs hi=>by
  rcases i with _ | _ | i
  ·simp at hi;subst hi;rfl
  ·simp at hi;subst hi;rfl
  ·simp at hi) rfl hb
 rw[g1,sA];have hw:lA t1 2 ([n,d].map oH.d) (.slice b 0 2 2):=⟨_,g2,by
  simp only[ycm,List.map_nil,lE,dF];refine⟨_,_,rfl,?_,_,_,rfl,?_,rfl⟩
  ·unfold oH.d
   rw[kH];refine⟨[[.bool n.neg],[u]],rfl,?_⟩
   simp only[lE,dF,aQ,wJ];exact⟨_,_,rfl,rfl,_,_,rfl,⟨u,rfl,hu.mono g3⟩,rfl⟩
  ·unfold oH.d
   rw[kH];refine⟨[[.bool d.neg],[v]],rfl,?_⟩
   simp only[lE,dF,aQ,wJ];exact⟨_,_,rfl,rfl,_,_,rfl,⟨v,rfl,hv.mono g3⟩,rfl⟩⟩
 have hall:=zn0 hw (fun w hw=>by
  rcases ybs.1 hw with rfl | hw
  ·omega
  ·rw[ydd.1 hw];omega) (by simp)
 rw[q192,hall];simp only[sA,jT,zhh,ycg,yck,hnv,hdv,Bool.and_self,Bool.true_eq_false,if_false];rw[q151];refine zmf (hu.mono g3) (by omega) hnl fun t2 v2 k1 k2=>?_
 rw[yab hv.same,q151];refine zmf ((hv.mono g3).mono k1) (by omega) hdl fun t3 v3 m1 m2=>?_
 have an:=jW hnl
 have ad:=jW hdl
 rw[<- hBB]at an ad;rw[q194];refine cd_ok (k2.mono m1) m2 an ad (oX (zad hnv)) (oX (zad hdv)) (by rw[wN];omega) (by rw[wN];omega) fun t4 r rv p1 p2 p3 p4 p5=>?_
 rw[hBB]at p3;have vn:∀l,val BB (uF l)=val 65536 l:=fun l=>by rw[hBB];exact zcb l
 rw[vn,vn]at p5;have hrl:r.length<400000:=by
  have hB1:1<BB:=by omega
  rcases yav (val 65536 n.limbs)with h0 | h0
  ·rw[h0,Nat.gcd_zero_left,<- vn]at p5
   have:=bN hB1 ad p4 (Nat.le_of_eq p5)
   rw[wN]at this;omega
  ·have h1:=Nat.gcd_le_left (val 65536 d.limbs) h0
   rw[<- p5,<- vn]at h1;have:=bN hB1 an p4 h1
   rw[wN]at this;omega
 rw[q193];refine zty p2 hrl p3 fun t5 v5 s1 s2=>?_
 rw[pV p4]at s2 ⊢
 have eG:zs7 [(.bool false),.nilslice] (.agg [.bool (if r=[]then false else false),v5])=some (cellsOf [.bool (if r=[]then false else false),v5]):=aU (by
  show(true&&(z15 .nilslice v5&&true))=true
  rw[zdx s2];rfl)
 rw[eG];have hone:tC zA.one [.bool false,v5]=true:=by
  show(bif zA.one (.bool false)then(bif zA.one v5 then true else false)else false)=true
  rw[s2.one];rfl
 simp only[sA,cellsOf,zd7,zqx,yaz,yba,ite_self,hone,if_true];refine hQ t5 (pE (aF r)) v5 (g3.trans (k1.trans (m1.trans (p1.trans s1)))) s2 (eP (zaj p3)) (vP _) ?_
 rw[xM,<- p5,zca,hBB]
end Go.Proofs
namespace Go.Am
def sE.fit(f:sE):Prop:=f.ok/\tB 65536 f.n.limbs/\tB 65536 f.d.limbs
def dE.fit(v:dE):Prop:=v.kind<256/\v.f.fit /\ -9223372036854775808<=v.i/\v.i<9223372036854775808
mutual
def rA.fit:rA->Prop
 | .mk op name v args=>op<256/\name.length<mD/\(∀c∈name,c<256)/\v.fit/\args.length<mD/\rA.fits args
def rA.fits:List rA->Prop
 | []=>True
 | x::l=>x.fit/\rA.fits l
end
def rA.fits_mem:∀ {l:List rA},rA.fits l->∀x∈l,x.fit
 | [],_,_,h=>by cases h
 | y::l,h,x,hx=>by
  unfold rA.fits at h;rcases ybs.1 hx with rfl | hx
  ·exact h.1
  ·exact rA.fits_mem h.2 x hx
mutual
def rA.fit_ok:∀ {x:rA},x.fit->x.ok
 | .mk op name v args,h=>by
  unfold rA.fit at h;unfold rA.ok;exact⟨h.2.1,h.2.2.2.1.2.1.1,h.2.2.2.2.1,rA.fits_oks h.2.2.2.2.2⟩
def rA.fits_oks:∀ {l:List rA},rA.fits l->rA.oks l
 | [],_=>by unfold rA.oks;trivial
 | x::l,h=>by
  unfold rA.fits at h;unfold rA.oks;exact⟨rA.fit_ok h.1,rA.fits_oks h.2⟩
end
def i64 (n:Int):Prop := -9223372036854775808<=n/\n<9223372036854775808
def zn2.fit(r:zn2):Prop:=i64 r.a/\i64 r.b/\i64 r.known/\r.f.fit
def jK.fit(x:jK):Prop:=x.name.length<mD/\x.rows.length<mD/\∀r∈x.rows,r.fit
def zn3.fit(x:zn3):Prop:=x.name.length<mD/\x.kind<256
def yJ.fit(x:yJ):Prop:=x.name.length<mD/\x.label.length<mD/\i64 x.from_/\i64 x.to/\i64 x.known/\x.when_.fit/\x.then_.fit
structure lN.fit (p:lN):Prop where
 name:p.name.length<mD
 ndefs:p.defs.length<mD
 ntables:p.tables.length<mD
 nclauses:p.clauses.length<mD
 defs:∀d∈p.defs,d.fit
 tables:∀d∈p.tables,d.fit
 clauses:∀d∈p.clauses,d.fit
end Go.Am
namespace Go.Proofs
open Go Go.Am
variable [jC]
variable {t:Tr qA}
def sameW(a b:oH):Bool:=(a.neg == b.neg)&&decide (a.limbs=b.limbs)
def sameF(a b:sE):Bool:=sameW a.n b.n&&sameW a.d b.d
def sameV(a b:dE):Bool:=decide (a.kind=b.kind)&&decide (a.i=b.i)&&sameF a.f b.f
def zf0(w:oH):Bool := !w.neg&&decide (w.limbs=[1])
def aM(f:sE):Bool:=decide (f.n.limbs.length<=256)&&decide (f.d.limbs.length<=256)&&gI f.n.neg f.n.limbs&&gI f.d.neg f.d.limbs && !f.d.neg&&decide (f.d.limbs≠[])&&(zf0 f.d||decide (Nat.gcd (val 65536 f.n.limbs) (val 65536 f.d.limbs)=1))
def z6h{a b:Int}:vC a b=decide (a<b):=by
 cases h:vC a b with
 | true=>rw[decide_eq_true (iD.1 h)]
 | false=>rw[decide_eq_false (fun k=>by rw[iD.2 k]at h;cases h)]
def z6j{a b:Int}:sD a b=decide (a<=b):=by
 cases h:sD a b with
 | true=>rw[decide_eq_true (jG.1 h)]
 | false=>rw[decide_eq_false (fun k=>by rw[jG.2 k]at h;cases h)]
def zhs{a b:Int}:uB a b=decide (a=b):=by
 cases h:uB a b with
 | true=>rw[decide_eq_true (xI.1 h)]
 | false=>rw[decide_eq_false (fun k=>by rw[xI.2 k]at h;cases h)]
def zgv{f:sE}{u v:zA}(hu:lA t 1 (pD f.n.limbs) u)(hv:lA t 1 (pD f.d.limbs) v)(hf:sE.fit f):wC yA F 116 [.agg [.bool f.n.neg,u,.bool f.d.neg,v]] t=some (.bool (aM f)):=by
 obtain⟨h1,h2,h3⟩:=hf
 unfold sE.ok mD at h1;have c1:wC yA F 147 [.agg [.bool f.n.neg,u,.bool f.d.neg,v]] t=some (.bool (!(decide (f.n.limbs.length<=256)&&decide (f.d.limbs.length<=256)))):=by
  refine kC.2 (w147 _ _ _ _ ?_)
  simp only[t147,pA,hu.len,hv.len,sA,qB,eU];have e:vC 256 (f.d.limbs.length:Int) = !decide (f.d.limbs.length<=256):=by
   rw[z6h,<- decide_not];congr 1;exact propext ⟨by omega,by omega⟩
  by_cases g1:f.n.limbs.length<=256
  ·rw[yaa (fun h=>absurd (iD.1 h) (by omega)),e]
   simp[g1]
  ·rw[yab (iD.2 (by omega))];simp[g1]
 have c2:=zbh (neg:=f.n.neg) (by omega) hu
 have c3:=zbh (neg:=f.d.neg) (by omega) hv
 have c4:wC yA F 118 [.agg [.bool f.n.neg,u,.bool f.d.neg,v]] t=some (.bool (zf0 f.d)):=by
  refine kC.2 (w118 _ _ _ _ ?_)
  simp only[t118,pA,q149,zhm hv,sA,jT]; (first | exact⟨rfl,rfl⟩ | exact⟨rfl,trivial⟩ | trivial)
 refine zen (w116 _ _ _ _ ?_)
 simp only[t116,pA,q147,c1,q148,c2,c3,q118,c4,sA,jT,hv.len,qB,eU,xI,zhh];unfold aM;by_cases g1:f.n.limbs.length<=256
 ·by_cases g2:f.d.limbs.length<=256
  ·simp only[g1,g2,decide_true,ycn,Bool.not_true,ybq,if_false]
   cases hn:gI f.n.neg f.n.limbs with
   | false=>simp
   | true=>
    cases hd:gI f.d.neg f.d.limbs with
    | false=>simp
    | true=>
     simp only[Bool.true_eq_false,if_false,ycn]
     cases hg:f.d.neg with
     | true=>simp
     | false=>
      simp only[ybq,if_false,ycl,ycn];by_cases h0:f.d.limbs=[]
      ·rw[yab (by rw[h0];rfl)];simp[h0]
      ·have:f.d.limbs.length≠0:=fun e=>h0 (ycc.1 e)
       rw[yaa (by omega)]
       simp only[h0,ne_eq,not_false_eq_true,decide_true,ycn]
       cases ho:zf0 f.d with
       | true=>simp
       | false=>
        simp only[ybq,if_false,Bool.false_or];rw[q150];refine w150 _ _ _ _ ?_
        simp only[t150,pA,q172];have hn':=hn
        have hd':=hd
        rw[hg]at hd'
        refine gcd_ok (n:=f.n) (d:=⟨false,f.d.limbs⟩) hu hv (by omega) (by show f.d.limbs.length<_;omega) h2 h3 hn' hd' fun t' g rv k1 k2 k3 k4 k5=>?_
        have eG:zs7 [(.bool false),.nilslice] (.agg [.bool false,rv])=some (cellsOf [.bool false,rv]):=aU (by
         show(true&&(z15 .nilslice rv&&true))=true
         rw[zdx k2];rfl)
        have hone:tC zA.one [.bool false,rv]=true:=by
         show(bif zA.one (.bool false)then(bif zA.one rv then true else false)else false)=true
         rw[k2.one];rfl
        simp only[zD,zA.asTup,vA,oF,yaz,yba,sA,qB,eG,cellsOf,zd7,zqx,hone,if_true];rw[q149,zhm k2];simp only[sA,jT,ycl,ycn]
        refine⟨?_,k1⟩
        congr 1
        rw[decide_eq_decide,<- k5];constructor
        ·intro e;subst e;rfl
        ·intro e
         exact z02 (B:=65536) (by decide) k3 (fun x hx=>by rw[ydd.1 hx];decide) k4 (fun _=>by simp) (by rw[e];rfl)
  ·simp[g2]
 ·simp[g1]
def zim{f:sE}{u v:zA}(hu:lA t 1 (pD f.n.limbs) u)(hv:lA t 1 (pD f.d.limbs) v)(hf:sE.fit f):wC yA F 91 [.agg [.bool f.n.neg,u,.bool f.d.neg,v]] t=some (.bool (aM f)):=by
 refine kC.2 (w91 _ _ _ _ ?_)
 simp only[t91,pA,q116,zgv hu hv hf,sA,jT,if_true];exact⟨trivial,trivial⟩
end Go.Proofs
namespace Go.Proofs
open Go Go.Am
section
variable [jC]
variable {t:Tr qA}
def vK{a b:List Nat}(h:a.length+b.length<4611686018427387904):zI a b=some (.str (a++b)):=by
 unfold zI;rw[gC,gC,dB.2 h,oG];rfl
def zoq{s:List Nat}{k:Nat}(h:k<=s.length):gF yA 9 H0A (.str s) (some (.int .i64 (k:Int))) none=some (.str (s.drop k)):=by
 unfold gF iJ;rw[ty9,vA];simp only[zA.asStr];rw[show rD.isString .string=true from rfl,qD];unfold zbn dL zd6 iQ;have e:jI (k:Int)=some k:=rfl
 simp only[vA,zA.asNat,zA.asInt,e,gC,vE.2 h,vE.2 (ybk _),qD,yO,rP,List.take_length]
def zg3{s:List Nat}{k:Nat}(h:k<=s.length):gF yA 9 H0A (.str s) none (some (.int .i64 (k:Int)))=some (.str (s.take k)):=by
 unfold gF iJ;rw[ty9,vA];simp only[zA.asStr];rw[show rD.isString .string=true from rfl,qD];unfold zbn dL zd6 iQ;have e:jI (k:Int)=some k:=rfl
 simp only[vA,zA.asNat,zA.asInt,e,gC,vE.2 h,vE.2 (yaw _),qD,yO,rP,ycr]
def zm3 (a b:List Nat):Bool:=decide (b.length<=a.length)&&xG (a.take b.length) b
def za9{a b:List Nat}:wC yA F 155 [.str a,.str b] t=some (.bool (zm3 a b)):=by
 refine kC.2 (w155 _ _ ?_)
 simp only[t155,pA,xO,jG];unfold zm3;by_cases h:b.length<=a.length
 ·rw[yab (by omega),zg3 h,sA]
  simp[zA.asStr,h]
 ·rw[yaa (by omega)]
  simp[h]
def zgu{a b:List Nat}:wC yA F 93 [.str a,.str b] t=some (.str (if zm3 a b then a.drop b.length else a)):=by
 have h:wC yA F 119 [.str a,.str b] t=some (.str (if zm3 a b then a.drop b.length else a)):=by
  refine kC.2 (w119 _ _ ?_)
  simp only[t119,pA,q155,za9,sA,zA.asBool,xO]
  cases hp:zm3 a b with
  | true=>
   simp only[if_true];have:b.length<=a.length:=by unfold zm3 at hp;simp at hp;exact hp.1
   rw[zoq this,sA];simp[zA.asStr]
  | false=>simp
 refine kC.2 (w93 _ _ ?_)
 simp only[t93,pA,q119,h,sA,zA.asStr];first | exact⟨rfl,rfl⟩ | exact⟨trivial,trivial⟩ | exact⟨rfl,trivial⟩
def zkm{a b:List Nat}:wC yA F 120 [.str a,.str b] t=some (.tup [.str (if zm3 a b then a.drop b.length else a),.bool (zm3 a b)]):=by
 have h:wC yA F 156 [.str a,.str b] t=some (.tup [.str (if zm3 a b then a.drop b.length else a),.bool (zm3 a b)]):=by
  refine kC.2 (w156 _ _ ?_)
  simp only[t156,pA,q155,za9,sA,zA.asBool,xO]
  cases hp:zm3 a b with
  | true=>
   simp only[Bool.not_true,ybq,if_false];have:b.length<=a.length:=by unfold zm3 at hp;simp at hp;exact hp.1
   rw[zoq this,sA];simp[zA.asStr]
  | false=>simp
 refine kC.2 (w120 _ _ ?_)
 have x0:∀u v,zD 0 (.tup [u,v])=some u:=fun _ _=>rfl
 have x1:∀u v,zD 1 (.tup [u,v])=some v:=fun _ _=>rfl
 simp only[t120,pA,q156,h,sA,x0,x1,zA.asStr,zA.asBool];first | exact⟨rfl,rfl⟩ | exact⟨trivial,trivial⟩ | exact⟨rfl,trivial⟩
def gJ(s:List Nat):List Nat:=if zm3 s [45]then [109,105,110,117,115,32]++s.drop 1 else s
def zi0{s:List Nat}(h:s.length<4000000000000000000):wC yA F 95 [.str s] t=some (.str (gJ s)):=by
 refine kC.2 (w95 _ ?_)
 have x0:∀u v,zD 0 (.tup [u,v])=some u:=fun _ _=>rfl
 have x1:∀u v,zD 1 (.tup [u,v])=some v:=fun _ _=>rfl
 simp only[t95,pA,q120,zkm,sA,x0,x1,zA.asStr,zA.asBool];unfold gJ
 cases hp:zm3 s [45]with
 | true=>
  simp only[if_true];rw[vK (by simp;omega),sA]
  simp[zA.asStr]
 | false=>simp
def z6d{n:Int}(h0 : -9223372036854775808<=n)(h1:n<9223372036854775808):wC yA F 98 [.int .i64 n] t=some (.str (cI n)):=by
 have hg:yA.prims.get 98=some (tK zru):=by kernel_rfl
 refine zha hg fun H=>?_
 unfold zru;simp only[];rw[jG.2 h0,iD.2 h1];rfl
def zhl{n:Int}(h0 : -9223372036854775808<=n)(h1:n<9223372036854775808):(cI n).length<=21:=by
 by_cases h:n<0
 ·obtain⟨u,rfl⟩:∃u:Nat,n = -(u:Int):=⟨n.natAbs,by omega⟩
  rw[zj6 (by omega)]
  have:=zd2 (u:=u) (k:=20) (by decide) (by rw[show(10:Nat)^20=100000000000000000000 by decide];omega)
  simp;omega
 ·obtain⟨u,rfl⟩:∃u:Nat,n=(u:Int):=⟨n.toNat,by omega⟩
  rw[zdp];have:=zd2 (u:=u) (k:=20) (by decide) (by rw[show(10:Nat)^20=100000000000000000000 by decide];omega)
  omega
def zf1{n:Int}(h0 : -9223372036854775808<=n)(h1:n<9223372036854775808):wC yA F 59 [.int .i64 n] t=some (.str (gJ (cI n))):=by
 have:=zhl h0 h1
 refine kC.2 (w59 _ ?_)
 simp only[t59,pA,q98,z6d h0 h1,sA,zA.asStr,q95,zi0 (s:=cI n) (by omega)]
 first | exact⟨rfl,rfl⟩ | exact⟨trivial,trivial⟩ | exact⟨rfl,trivial⟩
def oJ(f:sE):List Nat:=zb8 f.n.neg f.n.limbs++(if zf0 f.d then []else 47::zb8 f.d.neg f.d.limbs)
def znk{u:Nat}:∀ {k:Nat},u<10^k->(fF u).length<=k+1:=by
 intro k h;have:=zd2 (u:=u) (k:=k+1) (by omega) (by rw[yag];omega)
 exact this
def gW{neg:Bool}{l:List Nat}(hlt:tB 65536 l)(hl:l.length<=1024):(zb8 neg l).length<=10000:=by
 unfold zb8 intN;have h1:=yK (B:=65536) (by decide) hlt
 have h2:(65536:Nat)^l.length<=10^(5*l.length):=by
  rw[Nat.pow_mul];exact Nat.pow_le_pow_left (by decide) _
 have:=znk (u:=val 65536 l) (k:=5*l.length) (by omega)
 rw[ybg];have:(if neg=true then [45]else([]:List Nat)).length<=1:=by cases neg<;>simp
 omega
def za0{f:sE}(h:aM f=true):gI f.n.neg f.n.limbs=true/\gI f.d.neg f.d.limbs=true/\f.n.limbs.length<=1024/\f.d.limbs.length<=1024:=by
 unfold aM at h;simp only[ybb,decide_eq_true_eq]at h;obtain⟨⟨⟨⟨⟨⟨h1,h2⟩,h3⟩,h4⟩,_⟩,_⟩,_⟩:=h
 exact⟨h3,h4,by omega,by omega⟩
def zdv{f:sE}(hf:f.fit)(h:aM f=true):(oJ f).length<=20001:=by
 obtain⟨_,_,h3,h4⟩:=za0 h
 have a:=gW (neg:=f.n.neg) hf.2.1 h3
 have b:=gW (neg:=f.d.neg) hf.2.2 h4
 unfold oJ;rw[ybg];split
 ·simp;omega
 ·simp;omega
def zdt{f:sE}{u v:zA}(hu:lA t 1 (pD f.n.limbs) u)(hv:lA t 1 (pD f.d.limbs) v)(hf:sE.fit f):wC yA F 92 [.agg [.bool f.n.neg,u,.bool f.d.neg,v]] t=some (if aM f then .tup [.str (oJ f),.int .i64 0]else .tup [.str [],.int .i64 2]):=by
 refine kC.2 (w92 _ _ _ _ ?_)
 have x0:∀u v,zD 0 (.tup [u,v])=some u:=fun _ _=>rfl
 have x1:∀u v,zD 1 (.tup [u,v])=some v:=fun _ _=>rfl
 simp only[t92,pA,q91,zim hu hv hf,sA,zA.asBool]
 cases hval:aM f with
 | false=>simp
 | true=>
  obtain⟨h1,h2,h3,h4⟩:=za0 hval
  have a:=gW (neg:=f.n.neg) hf.2.1 h3
  have b:=gW (neg:=f.d.neg) hf.2.2 h4
  have c1:wC yA F 118 [.agg [.bool f.n.neg,u,.bool f.d.neg,v]] t=some (.bool (zf0 f.d)):=by
   refine kC.2 (w118 _ _ _ _ ?_)
   simp only[t118,pA,q149,zhm hv,sA,zA.asBool];first | exact⟨rfl,rfl⟩ | exact⟨trivial,trivial⟩ | exact⟨rfl,trivial⟩
  simp only[Bool.not_true,ybq,if_false,q117,zue hu hf.2.1 h1,sA,x0,x1,zA.asStr,qB,if_true,q118,c1,zA.asBool];unfold oJ
  cases hone:zf0 f.d with
  | true=>simp
  | false=>
   simp only[ycl,if_true,zue hv hf.2.2 h2,sA,x0,x1,zA.asStr,qB];rw[vK (by simp;omega),sA]
   simp only[zA.asStr,sA];rw[vK (by simp;omega),sA]
   simp[zA.asStr]
def zdu{f:sE}{u v:zA}(hu:lA t 1 (pD f.n.limbs) u)(hv:lA t 1 (pD f.d.limbs) v)(hf:sE.fit f)(hval:aM f=true):wC yA F 57 [.agg [.bool f.n.neg,u,.bool f.d.neg,v]] t=some (.str (gJ (oJ f))):=by
 have:=zdv hf hval
 refine kC.2 (w57 _ _ _ _ ?_)
 have x0:∀u v,zD 0 (.tup [u,v])=some u:=fun _ _=>rfl
 have x1:∀u v,zD 1 (.tup [u,v])=some v:=fun _ _=>rfl
 simp only[t57,pA,q92,zdt hu hv hf,hval,if_true,sA,x0,x1,zA.asStr,qB,q95,zi0 (s:=oJ f) (by omega)]
 first | exact⟨rfl,rfl⟩ | exact⟨trivial,trivial⟩ | exact⟨rfl,trivial⟩
def zfo(f:sE):Bool:=decide (f.n.limbs.length<=42)&&decide (f.d.limbs.length<=42)&&aM f&&decide ((if zm3 (oJ f) [45]then(oJ f).drop 1 else oJ f).length<=200)
def fZ{f:sE}{u v:zA}(hu:lA t 1 (pD f.n.limbs) u)(hv:lA t 1 (pD f.d.limbs) v)(hf:sE.fit f):wC yA F 53 [.agg [.bool f.n.neg,u,.bool f.d.neg,v]] t=some (.bool (zfo f)):=by
 refine kC.2 (w53 _ _ _ _ ?_)
 have x0:∀u v,zD 0 (.tup [u,v])=some u:=fun _ _=>rfl
 have x1:∀u v,zD 1 (.tup [u,v])=some v:=fun _ _=>rfl
 simp only[t53,pA,hu.len,hv.len,eU,sA,qB,iD];unfold zfo;by_cases h1:f.n.limbs.length<=42
 ·rw[yaa (by omega)]
  by_cases h2:f.d.limbs.length<=42
  ·rw[yaa (by omega)]
   simp only[q91,zim hu hv hf,sA,zA.asBool]
   cases hval:aM f with
   | false=>simp
   | true=>
    simp only[Bool.not_true,ybq,if_false,q92,zdt hu hv hf,hval,if_true,sA,x0,x1,zA.asStr,qB,xI,q93,zgu,xO];simp[h1,h2,z6j]
    constructor<;>intro h<;>omega
  ·rw[yab (by omega)];simp[h2]
 ·rw[yab (by omega)];simp[h1]
def cO(f:sE):Bool := !f.n.neg && !f.d.neg&&decide (f.n.limbs.length+f.d.limbs.length=0)
def zb3{f:sE}{u v:zA}(hu:lA t 1 (pD f.n.limbs) u)(hv:lA t 1 (pD f.d.limbs) v)(hf:f.ok):wC yA F 54 [.agg [.bool f.n.neg,u,.bool f.d.neg,v]] t=some (.bool (cO f)):=by
 unfold sE.ok mD at hf;refine kC.2 (w54 _ _ _ _ ?_)
 simp only[t54,pA,hu.len,hv.len,eU,sA,qB];unfold cO;rw[wrap_i64 (by omega) (by omega),zhs]
 have e:decide ((f.n.limbs.length:Int)+(f.d.limbs.length:Int)=0)=decide (f.n.limbs.length+f.d.limbs.length=0):=by
  by_cases h:f.n.limbs.length+f.d.limbs.length=0
  ·rw[decide_eq_true h,decide_eq_true (by omega)]
  ·rw[decide_eq_false h,decide_eq_false (by omega)]
 rw[e]
 cases f.n.neg<;>cases f.d.neg<;>simp
def zpq{n:Int}:wC yA F 55 [.int .i64 n] t=some (.bool (decide (0<=n)&&decide (n<65536))):=by
 refine kC.2 (w55 _ ?_)
 simp only[t55,pA,jG];by_cases h:0<=n
 ·rw[yab h];simp[h,z6h]
 ·rw[yaa h];simp[h]
def eJ(v:dE):Bool:=
 if v.kind=2\/v.kind=3 then decide (v.i=0)&&zfo v.f
 else if v.kind=1 then cO v.f&&(decide (v.i=0)||decide (v.i=1))
 else if v.kind=4 then cO v.f&&(decide (0<=v.i)&&decide (v.i<65536))
 else if v.kind=5\/v.kind=6 then cO v.f&&(decide (-1048576<=v.i)&&decide (v.i<=1048576))
 else false
def zao{a:dE}{u v:zA}(hu:lA t 1 (pD a.f.n.limbs) u)(hv:lA t 1 (pD a.f.d.limbs) v)(hf:sE.fit a.f):wC yA F 27 [.agg [.int .u8 a.kind,.bool a.f.n.neg,u,.bool a.f.d.neg,v,.int .i64 a.i]] t=some (.bool (eJ a)):=by
 refine kC.2 (w27 _ _ _ _ _ _ ?_)
 simp only[t27,pA,q53,fZ hu hv hf,q54,zb3 hu hv hf.1,q55,zpq,sA,zA.asBool];unfold eJ;have kk:∀j:Int,uB (a.kind:Int) j=decide ((a.kind:Int)=j):=fun j=>zhs
 simp only[kk];by_cases k2:a.kind=2
 ·have e:(a.kind:Int)=2:=by omega
  by_cases h0:a.i=0<;>simp[e,k2,h0,zhs]
 by_cases k3:a.kind=3
 ·have e:(a.kind:Int)=3:=by omega
  by_cases h0:a.i=0<;>simp[e,k3,h0,zhs]
 have e2:¬ (a.kind:Int)=2:=by omega
 have e3:¬ (a.kind:Int)=3:=by omega
 by_cases k1:a.kind=1
 ·have e:(a.kind:Int)=1:=by omega
  cases cO a.f<;>by_cases h0:a.i=0<;>simp[e,k1,h0,zhs]
 have e1:¬ (a.kind:Int)=1:=by omega
 by_cases k4:a.kind=4
 ·have e:(a.kind:Int)=4:=by omega
  cases cO a.f<;>simp[e,k4]
 have e4:¬ (a.kind:Int)=4:=by omega
 by_cases k5:a.kind=5
 ·have e:(a.kind:Int)=5:=by omega
  cases cO a.f<;>by_cases h0:(-1048576:Int)<=a.i<;>simp[e,k5,h0,z6j]
 have e5:¬ (a.kind:Int)=5:=by omega
 by_cases k6:a.kind=6
 ·have e:(a.kind:Int)=6:=by omega
  cases cO a.f<;>by_cases h0:(-1048576:Int)<=a.i<;>simp[e,k6,h0,z6j]
 have e6:¬ (a.kind:Int)=6:=by omega
 simp[e1,e2,e3,e4,e5,e6,k1,k2,k3,k4,k5,k6]
end
section
variable [jC]
variable {t:Tr qA}
def ze0(date:List Nat)(v:dE):List Nat:=
 if v.kind=1 then(if v.i=1 then [116,114,117,101]else [102,97,108,115,101])
 else if v.kind=2 then gJ (oJ v.f)
 else if v.kind=3 then [109,111,110,101,121,32]++gJ (oJ v.f)
 else if v.kind=4 then date
 else if v.kind=5 then gJ (cI v.i)++[32,100,97,121,115]
 else if v.kind=6 then gJ (cI v.i)++[32,109,111,110,116,104,115]
 else []
def xX(s:List Nat):(gJ s).length<=s.length+6:=by
 unfold gJ;split
 ·rw[ybg,ydj]
  show 6+(s.length-1)<=_
  omega
 ·omega
def zbo{v:dE}(h:eJ v=true)(hk:v.kind=2\/v.kind=3):aM v.f=true:=by
 unfold eJ at h;rw[yab hk]at h;simp only[ybb]at h;have:=h.2
 unfold zfo at this;simp only[ybb]at this;exact this.1.2
def zil{a:dE}{u v:zA}{date:List Nat}(hu:lA t 1 (pD a.f.n.limbs) u)(hv:lA t 1 (pD a.f.d.limbs) v)(hf:dE.fit a)(hp:eJ a=true)(hd:a.kind=4->wC yA F 58 [.int .i64 a.i] t=some (.str date)):wC yA F 28 [.agg [.int .u8 a.kind,.bool a.f.n.neg,u,.bool a.f.d.neg,v,.int .i64 a.i]] t=some (.str (ze0 date a)):=by
 obtain⟨_,hff,hi1,hi2⟩:=hf
 have hil:=zhl hi1 hi2
 have hsl:=xX (cI a.i)
 have kk:∀j:Int,uB (a.kind:Int) j=decide ((a.kind:Int)=j):=fun j=>zhs
 refine kC.2 (w28 _ _ _ _ _ _ ?_)
 simp only[t28,pA,kk];unfold ze0;by_cases k1:a.kind=1
 ·have e:(a.kind:Int)=1:=by omega
  have hb:wC yA F 56 [.bool (uB a.i 1)] t=some (.str (if a.i=1 then [116,114,117,101]else [102,97,108,115,101])):=by
   refine kC.2 (w56 _ ?_)
   have h94:wC yA F 94 [.bool (uB a.i 1)] t=some (.str (if a.i=1 then [116,114,117,101]else [102,97,108,115,101])):=by
    refine kC.2 (w94 _ ?_)
    by_cases h:a.i=1<;>simp[t94,pA,zhs,h]
   simp only[t56,pA,q94,h94,sA,zA.asStr];first | exact⟨rfl,rfl⟩ | exact⟨trivial,trivial⟩ | exact⟨rfl,trivial⟩
  simp[e,k1,q56,hb,zA.asStr]
 have e1:¬ (a.kind:Int)=1:=by omega
 by_cases k2:a.kind=2
 ·have e:(a.kind:Int)=2:=by omega
  simp[e,k2,q57,zdu hu hv hff (zbo hp (.inl k2)),zA.asStr]
 have e2:¬ (a.kind:Int)=2:=by omega
 by_cases k3:a.kind=3
 ·have e:(a.kind:Int)=3:=by omega
  have hl:=zdv hff (zbo hp (.inr k3))
  have hl2:=xX (oJ a.f)
  have:=vK (a:=[109,111,110,101,121,32]) (b:=gJ (oJ a.f)) (by simp;omega)
  simp[e,k3,q57,zdu hu hv hff (zbo hp (.inr k3)),zA.asStr,this]
 have e3:¬ (a.kind:Int)=3:=by omega
 by_cases k4:a.kind=4
 ·have e:(a.kind:Int)=4:=by omega
  simp[e,k4,q58,hd k4,zA.asStr]
 have e4:¬ (a.kind:Int)=4:=by omega
 by_cases k5:a.kind=5
 ·have e:(a.kind:Int)=5:=by omega
  have:=vK (a:=gJ (cI a.i)) (b:=[32,100,97,121,115]) (by simp;omega)
  simp[e,k5,q59,zf1 hi1 hi2,zA.asStr,this]
 have e5:¬ (a.kind:Int)=5:=by omega
 by_cases k6:a.kind=6
 ·have e:(a.kind:Int)=6:=by omega
  have:=vK (a:=gJ (cI a.i)) (b:=[32,109,111,110,116,104,115]) (by simp;omega)
  simp[e,k6,q59,zf1 hi1 hi2,zA.asStr,this]
 have e6:¬ (a.kind:Int)=6:=by omega
 simp[e1,e2,e3,e4,e5,e6,k1,k2,k3,k4,k5,k6]
end
section
variable [jC]
variable {t:Tr qA}
structure Said (m:Int) (L:List Nat):Prop where
 val:val 65536 L=m.natAbs
 lt:tB 65536 L
 len:L.length<=3
 norm:L=[]\/L.getLast?≠some 0
end
end Go.Proofs
namespace Go.Am
open Go Go.RowKit
section
variable {t tf tf0:Tr qA}{C:oA}
mutual
def RD.ones:∀(d:D) (cs:List zA),RD t d cs->∀a∈cs,zA.one a=true
 | .int _ _,cs,h,a,ha=>by rw[RD]at h;subst h;simp at ha;subst ha;rfl
 | .bool _,cs,h,a,ha=>by rw[RD]at h;subst h;simp at ha;subst ha;rfl
 | .str _,cs,h,a,ha=>by rw[RD]at h;subst h;simp at ha;subst ha;rfl
 | .sl sz l,cs,h,a,ha=>by
  rw[wJ]at h;obtain⟨v,rfl,h⟩:=h
  simp at ha;subst ha;exact h.one
 | .st l,cs,h,a,ha=>by
  rw[kH]at h;obtain⟨cl,rfl,h⟩:=h
  exact oC.ones l cl h a ha
def oC.ones:∀(l:List D) (cl:List (List zA)),oC t l cl->∀a∈cl.flatten,zA.one a=true
 | [],cl,h,a,ha=>by rw[oC]at h;subst h;cases ha
 | d::l,cl,h,a,ha=>by
  rw[oC]at h;obtain⟨c,r,rfl,h1,h2⟩:=h
  rw[yas,yaf]at ha;rcases ha with ha | ha
  ·exact RD.ones d c h1 a ha
  ·exact oC.ones l r h2 a ha
end
def RD.all{d:D}{cs:List zA}(h:RD t d cs):tC zA.one cs=true:=by
 rw[cG,ycb];exact RD.ones d cs h
def RD.mk{d:D}{cs zs:List zA}(h:RD t d cs)(hz:d.zs=zs):pL zs (cellsOf cs) 0=cs:=by
 have:=qW zs cs [] (by rw[<- hz];exact zhu d cs h)
 simpa using this
def lit1{S el sz b:Nat}{cs:List zA}(hT:ztd C S el sz)(hc:cs.length=sz)(hs:sz<1000000)(hb:t.get b=none) :
  ∃t',dG C S 1 [(0,.agg cs)] ⟨b,t⟩=some (.slice b 0 1 1,⟨b+1,t'⟩)/\elems t' sz (.slice b 0 1 1) [cs]/\dA t t'/\lD b t t':=by
 obtain⟨⟨y,hy1,hy2,_⟩,⟨z,hz1,hz2,hz3,_,_⟩⟩:=hT
 refine zjv (n:=1) (cl:=[cs]) hy1 hy2 hz1 hz2 hz3 (by omega) ?_ (fun i q hq=>?_) rfl hb
 ·have e:dI z.zero 1=z.zero:=by show eC z.zero []=z.zero;rw[oG,ycd]
  rw[e];unfold kL xT;have e1:(zA.agg cs).cells=cs:=rfl
  rw[gC]at hz3;simp only[vA,e1,gC,hc,hz3,Nat.zero_mul,ybw,yO,rP,oG,List.take_zero,yah];rw[pB.2 rfl,vE.2 (ybk sz)]
  simp only[Bool.and_self,qD,vA,kL];rw[ybt (by omega)]
  simp
 ·rcases i with _ | i
  ·simp at hq;subst hq;exact hc
  ·simp at hq
def z2m(C:oA)(S el g p:Nat)(zs:List zA)(v0 v:zA)(i:Int):T:=
 .opt (yC v0) fun a0=>.asI .i64 a0 fun n1=>.ite (vC i n1)
  (.opt (zC C S v0 (.int .i64 i)) fun a2=>.light (fun m=>mA C el ⟨0,m⟩ a2) fun a3=>.asG zs a3 fun X=>
   .call g [.agg (pL zs X 0)] fun a5=>.asG zs a5 fun Y=>
   .ite (tC zA.one (pL zs Y 0)) (.heavy (dG C S 1 [(0,.agg (pL zs Y 0))]) fun a7=>.heavy (bE C S S v a7) fun a8=>.jump p [v0,a8,.int .i64 (tA .i64 (i+1))]) .fail)
  (.ret v)
def z7l(base:Nat)(W:fG)(g:Nat)(d:D):Prop:=∀ ⦃L:List zF⦄ ⦃tf t:Tr qA⦄ ⦃cs:List zA⦄ ⦃Q:bB⦄,wD base tf t L->RD tf d cs->(∀tf' t' cs',dA tf tf'->wD base tf' t' L->RD tf' d cs'->Q (.agg cs') t')->W g [.agg cs] t Q
def CopyQ(base:Nat)(tf:Tr qA)(L:List zF)(sz:Nat)(l:List D)(Q:bB):Prop:=∀tf' t' v,dA tf tf'->wD base tf' t' L->lA tf' sz l v->Q v t'
def z2l{W J:fG}{S el sz:Nat}(hT:ztd C S el sz){L:List zF}{l:List D}{x:zA}{Q:bB}(hx:lA tf sz l x)(ho:wD C.base tf t L)(hl:l.length<1000000)(hQ:CopyQ C.base tf L sz l Q) :
  pA C.base W J (.heavy (bE C S S .nilslice x) fun a0=>.ret a0) t Q:=by
 simp only[pA];intro n hn _;obtain⟨v,k,t',tf',a1,a2,a3,a4,a5,a6,a7⟩:=zky hT hx ho.tle hl hn
 rw[a1,sA];refine hQ tf' t' v a3 (ho.keep a3 a4 fun k hk=>?_) a2
 have hne:k≠n:=fun e=>by
  obtain⟨y,hy⟩:=ho.live hk
  rw[e,hn]at hy;cases hy
 exact⟨a6 k hne,by rw[a7 k hne];exact(ho.low k hk).2⟩
end
end Go.Am
namespace Go.Am
open Go Go.RowKit
section
variable {C:oA}{t:Tr qA}
def zfy(C:oA)(T:Nat)(k:zA):Bool:=
 match ob (C.tys.get T) fun ty=>ob ty.desc.asMap fun ke=>ob (C.tys.get ke.1) fun kty=>jA (sN C kty&&mL C kty k) (some ())with | some _=>true | none=>false
def zdj{T:Nat}{k:zA}(h:zfy C T k=true):∃ty ke kty,C.tys.get T=some ty/\ty.desc.asMap=some ke/\C.tys.get ke.1=some kty/\sN C kty=true/\mL C kty k=true:=by
 unfold zfy at h;split at h
 case h_2=>cases h
 rename_i u hu;simp only[uA,zB,ybb]at hu;obtain⟨ty,h1,ke,h2,kty,h3,⟨h4,h5⟩,_⟩:=hu
 exact⟨ty,ke,kty,h1,h2,h3,h4,h5⟩
def z43{T b n:Nat}{k v:zA}{l l':List (zA × zA)}(hk:zfy C T k=true)(hb:C.base<=b)(hm:t.get b=some (.map l))(hs:sJ k v l=some l') :
  wM C T (.map b) k v ⟨n,t⟩=some (tD,⟨n,t.set b (.map l')⟩):=by
 obtain⟨ty,ke,kty,h1,h2,h3,h4,h5⟩:=zdj hk
 have e2:(!Nat.blt b C.base)=true:=by
  cases hq:Nat.blt b C.base with
  | true=>have:=dB.1 hq;omega
  | false=>rfl
 have e3:bH ⟨n,t⟩ b=some l:=by unfold bH;rw[hm];rfl
 unfold wM;rw[h1,vA,h2,vA,h3,vA,h4,qD];simp only[zA.asMap,vA];rw[e2,qD,e3,vA,h5,qD,hs];rfl
def z05{T b n:Nat}{k v:zA}{l:List (zA × zA)}(hk:zfy C T k=true)(hm:t.get b=some (.map l))(hs:cH k l=some (some v)){ty:uC}(hT:C.tys.get T=some ty){ke:Nat × Nat}(hd:ty.desc.asMap=some ke){ety:uC}(he:C.tys.get ke.2=some ety)(ok:Bool) :
  zP C T ⟨n,t⟩ (.map b) k ok=some (bif ok then .tup [v,.bool true]else v):=by
 obtain⟨ty,ke,kty,h1,h2,h3,h4,h5⟩:=zdj hk
 rw[hT]at h1;cases h1;rw[hd]at h2;cases h2;have e3:bH ⟨n,t⟩ b=some l:=by unfold bH;rw[hm];rfl
 unfold zP;rw[hT,vA,hd,vA,h3,vA,h4,qD,he,vA];have e4:zO ⟨n,t⟩ (.map b)=some l:=by unfold zO;simp only[zA.asMap];exact e3
 rw[e4,vA,h5,qD,hs,vA]
mutual
def RD.sames1:∀(d:D) (cs:List zA),RD t d cs->∀a∈cs,∀k,Am.same k a a=true
 | .int _ _,cs,h,a,ha,k=>by rw[RD]at h;subst h;simp at ha;subst ha;exact lV
 | .bool _,cs,h,a,ha,k=>by rw[RD]at h;subst h;simp at ha;subst ha;exact zu7
 | .str _,cs,h,a,ha,k=>by rw[RD]at h;subst h;simp at ha;subst ha;exact zos
 | .sl sz l,cs,h,a,ha,k=>by
  rw[wJ]at h;obtain⟨v,rfl,h⟩:=h
  simp at ha;subst ha;exact h.same
 | .st l,cs,h,a,ha,k=>by
  rw[kH]at h;obtain⟨cl,rfl,h⟩:=h
  exact oC.sames1 l cl h a ha k
def oC.sames1:∀(l:List D) (cl:List (List zA)),oC t l cl->∀a∈cl.flatten,∀k,Am.same k a a=true
 | [],cl,h,a,ha,k=>by rw[oC]at h;subst h;cases ha
 | d::l,cl,h,a,ha,k=>by
  rw[oC]at h;obtain⟨c,r,rfl,h1,h2⟩:=h
  rw[yas,yaf]at ha;rcases ha with ha | ha
  ·exact RD.sames1 d c h1 a ha k
  ·exact oC.sames1 l r h2 a ha k
end
def zi6:∀ {l:List zA} {k:Nat},(∀a∈l,∀k,Am.same k a a=true)->Am.same.sames k l l=true
 | [],_,_=>rfl
 | a::l,k,h=>by
  rw[Am.same.sames,h a (.head _) k,zi6 fun b hb=>h b (.tail _ hb)];rfl
def RD.sameA{d:D}{cs:List zA}(h:RD t d cs){k:Nat}:Am.same (k+1) (.agg cs) (.agg cs)=true:=zi6 (RD.sames1 d cs h)
def vD.up{t':Tr qA}{b:Nat}{lo:Option Lo}{cs:List zA}(h:vD t b lo cs)(k:dA t t'):vD t' b lo cs:=by
 obtain⟨c,h1,h2⟩:=h
 exact⟨c,k _ _ h1,h2⟩
end
end Go.Am
namespace Go.Proofs
open Go Go.Am
variable [jC]
variable {t:Tr qA}
def pP(n:Nat):Bool:=(decide (65<=n)&&decide (n<=90))||(decide (97<=n)&&decide (n<=122))
def zpp(n:Nat):Bool:=decide (48<=n)&&decide (n<=57)
def nP(n:Nat):Bool:=pP n||zpp n||decide (n=95)
def z6i{a b:Int}:sD a b=decide (a<=b):=by
 by_cases h:a<=b
 ·rw[decide_eq_true h,jG.2 h]
 ·rw[decide_eq_false h]
  cases hq:sD a b with
  | true=>exact absurd (jG.1 hq) h
  | false=>rfl
def sZ{n:Nat}:wC yA F 79 [.int .u8 (n:Int)] t=some (.bool (pP n)):=by
 refine kC.2 (w79 _ ?_)
 simp only[t79,pA,z6i,decide_eq_true_eq];unfold pP;by_cases h1:65<=n
 ·rw[yab (by omega)]
  by_cases h2:n<=90
  ·rw[yab (by omega)];simp[h1,h2]
  ·rw[yaa (by omega)]
   by_cases h3:97<=n
   ·rw[yab (by omega)]
    have:decide ((n:Int)<=122)=decide (n<=122):=by congr 1;exact propext (by omega)
    simp[h1,h2,h3,this]
   ·rw[yaa (by omega)];simp[h2,h3]
 ·rw[yaa (by omega),yaa (by omega)]
  have:¬ 97<=n:=by omega
  simp[h1,this]
def zr8{n:Nat}:wC yA F 112 [.int .u8 (n:Int)] t=some (.bool (zpp n)):=by
 refine kC.2 (w112 _ ?_)
 simp only[t112,pA,z6i,decide_eq_true_eq];unfold zpp;by_cases h1:48<=n
 ·rw[yab (by omega)]
  have:decide ((n:Int)<=57)=decide (n<=57):=by congr 1;exact propext (by omega)
  simp[h1,this]
 ·rw[yaa (by omega)];simp[h1]
def zxf{n:Nat}:wC yA F 81 [.int .u8 (n:Int)] t=some (.bool (nP n)):=by
 refine kC.2 (w81 _ ?_)
 simp only[t81,pA,q79,sZ,sA,zA.asBool];unfold nP
 cases h:pP n with
 | true=>simp
 | false=>
  simp only[ybq,if_false,q112,zr8,sA,zA.asBool]
  cases h2:zpp n with
  | true=>simp
  | false=>
   simp only[ybq,if_false,zhs];have:decide ((n:Int)=95)=decide (n=95):=by congr 1;exact propext (by omega)
   simp[this]
def zj8{s:List Nat}{i x:Nat}(h:s[i]?=some x):xQ yA 9 (.str s) (.int .i64 (i:Int))=some (.int .u8 (x:Int)):=by
 unfold xQ;rw[ty9,vA];simp only[zA.asNat,zA.asInt,zA.asStr];have e:ob (some (i:Int)) jI=some i:=rfl
 rw[e,vA,show rD.isString .string=true from rfl,qD,oF,h,vA];rfl
def zzm (p:Nat->Bool)(s:List Nat):List Nat:=s.takeWhile p
def zot{p:Nat->Bool}{g:Nat}(hg:∀n:Nat,wC yA F g [.int .u8 (n:Int)] t=some (.bool (p n)))(hq:∀ {a:List zA} {m:Tr qA} {R:bB},Wq yA F lI g a m R=cD (wC yA F g a m) (fun v=>R v m))(hy:Nat.blt g yo=true){s:List Nat}(hs:s.length<4000000000000000000) :
  ∀(k i:Nat),i+k=s.length->(∀j x,j<i->s[j]?=some x->p x=true)->jp 80 2 [.str s,.func (.func g) [] [],.int .i64 (i:Int)] t (fun v t'=>v=.str (zzm p s)/\t'=t):=by
 have key:∀i,i<=s.length->(∀j x,j<i->s[j]?=some x->p x=true)->(∀x,s[i]?=some x->p x=false)->zzm p s=s.take i:=by
  intro i hi h1 h2;unfold zzm;induction s generalizing i with
  | nil=>simp
  | cons a s ih=>
   cases i with
   | zero=>rw[List.takeWhile_cons,h2 a rfl];simp
   | succ i=>
    rw[List.takeWhile_cons,h1 0 a (by omega) rfl,yab rfl,List.take_succ_cons]
    rw[ih (by simp at hs;omega) i (by simpa using hi) (fun j x hj hx=>h1 (j+1) x (by omega) (by simpa using hx)) (fun x hx=>h2 x (by simpa using hx))]
 intro k;induction k with
 | zero=>
  intro i hi hp;refine j80_2 _ _ _ ?_
  simp only[z5e,pA,iD,xO];rw[yaa (by omega),zg3 (by omega),sA]
  simp only[zA.asStr,sA];rw[key i (by omega) hp (fun x hx=>by have:=(ybc.1 hx).1;omega)]
  first | exact⟨rfl,rfl⟩ | exact⟨rfl,trivial⟩ | exact⟨trivial,trivial⟩
 | succ k ih=>
  intro i hi hp;have hx:s[i]?=some s[i]:=ybd (by omega)
  refine j80_2 _ _ _ ?_
  simp only[z5e,pA,iD,xO];rw[yab (by omega),zj8 hx,sA,qB,sA]
  have e:mN (.func (.func g) [] []) [.int .u8 (s[i]:Int)]=some (g,[.int .u8 (s[i]:Int)]):=by
   unfold mN;simp only[zA.asFunc,vA,hy,qD];rfl
  rw[e,sA];simp only[];rw[hq,hg,sA];simp only[zA.asBool,sA]
  cases hb:p s[i]with
  | true=>
   rw[yab rfl,wrap_i64 (by omega) (by omega),show(i:Int)+1=((i+1:Nat):Int) by omega]
   refine ih (i+1) (by omega) fun j x hj hjx=>?_
   by_cases e:j=i
   ·subst e;rw[hx]at hjx;cases hjx;exact hb
   ·exact hp j x (by omega) hjx
  | false=>
   rw[yaa (by simp),zg3 (by omega),sA]
   simp only[zA.asStr,sA];rw[key i (by omega) hp (fun x hx'=>by rw[hx]at hx';cases hx';exact hb)]
   first | exact⟨rfl,rfl⟩ | exact⟨rfl,trivial⟩ | exact⟨trivial,trivial⟩
def z0i{s:List Nat}(hs:s.length<4000000000000000000):wC yA F 80 [.str s,.func (.func 81) [] []] t=some (.str (zzm nP s)):=by
 refine kC.2 (w80 _ _ ?_)
 simp only[t80,pA];exact zot (fun n=>zxf) (fun {a m R}=>by rw[q81]) rfl hs s.length 0 (by omega) (fun j x hj=>by omega)
def z5i{s:List Nat}(hs:s.length<4000000000000000000):wC yA F 80 [.str s,.func (.func 79) [] []] t=some (.str (zzm pP s)):=by
 refine kC.2 (w80 _ _ ?_)
 simp only[t80,pA];exact zot (fun n=>sZ) (fun {a m R}=>by rw[q79]) rfl hs s.length 0 (by omega) (fun j x hj=>by omega)
def resW:Nat->List Nat
 | 2=>[32,116,111,32,105,115,32,97,116,32,105,102,32,111,114,32,117,112,32]
 | 3=>[32,100,101,102,32,114,111,119,32,111,110,101,32,116,119,111,32,101,110,100,32,111,102,102,32,104,97,115,32,109,105,110,32,109,97,120,32,97,110,100,32,110,111,116,32]
 | 4=>[32,112,108,97,110,32,102,97,99,116,32,102,114,111,109,32,119,104,101,110,32,116,104,101,110,32,100,97,116,101,32,100,97,121,115,32,116,114,117,101,32,108,111,111,107,32,98,101,115,116,32,103,114,111,119,32,100,111,119,110,32,99,101,105,108,32,104,97,108,102,32,101,118,101,110,32]
 | 5=>[32,116,97,98,108,101,32,107,110,111,119,110,32,116,114,117,116,104,32,109,111,110,101,121,32,102,97,108,115,101,32,109,105,110,117,115,32,116,111,100,97,121,32,114,111,117,110,100,32,115,116,97,114,116,32,102,108,111,111,114,32]
 | 6=>[32,99,108,97,117,115,101,32,110,117,109,98,101,114,32,109,111,110,116,104,115,32]
 | 7=>[32,98,101,116,119,101,101,110,32,115,101,114,118,105,99,101,32]
 | _=>[]
def zcx(s:List Nat):Bool:=decide (2<=s.length)&&decide (s.length<=7)&&xG (zzm pP s) s&&tT ([32]++s++[32]) (resW s.length)
def vH (n:Nat):zA × zA:=(.int .i64 (n:Int),.str (resW n))
def znn{a b:List Nat}(h:a.length<4294967281):wC yA F 113 [.str a,.str b] t=some (.bool (tT b a)):=by
 have hg:yA.prims.get 113=some (tK tU):=by kernel_rfl
 refine zha hg fun H=>?_
 unfold tU;simp only[];rw[gC,dB.2 h];rfl
def zl7{s:List Nat}(hs:s.length<4000000000000000000):wC yA F 82 [.str s] t=some (.bool (zcx s)):=by
 refine zen (w82 _ ?_)
 simp only[t82,pA,iD,xO];unfold zcx;by_cases h1:2<=s.length
 ·rw[yaa (by omega)]
  by_cases h2:s.length<=7
  ·rw[yaa (by omega)]
   simp only[q80,z5i hs,sA,zA.asStr]
   cases h3:xG (zzm pP s) s with
   | false=>simp
   | true=>
    simp only[Bool.not_true,ybq,if_false];intro b hb hbase;have hmk:zbi ⟨b,t⟩=some (.map b,⟨b+1,t.set b (.map [])⟩):=rfl
    rw[hmk,sA];simp only[];have h0:(t.set b (.map [])).get b=some (.map []):=by rw[Tr.get_set,yab rfl]
    have ho:lD b t (t.set b (.map [])):=fun c hc=>by rw[Tr.get_set,yaa hc]
    generalize t.set b (.map [])=t1 at h0 ho
    have hstep:∀(l:List (zA × zA)) (k:Nat) (s':List Nat) (l':List (zA × zA)) (Q:(zA × xA)->Prop) (t1:Tr qA),t1.get b=some (.map l)->lD b t t1->sJ (.int .i64 (k:Int)) (.str s') l=some l'->zfy yA 180 (.int .i64 (k:Int))=true →
      (∀n t2,t2.get b=some (.map l')->lD b t t2->Q (tD,⟨n,t2⟩))->∀n,t1.get n=none->yA.base<=n->cD (wM yA 180 (.map b) (.int .i64 (k:Int)) (.str s') ⟨n,t1⟩) Q:=by
     intro l k s' l' Q t1 g1 g2 h1 h2 h3 n _ _;rw[z43 h2 hbase g1 h1,sA];exact h3 n _ (by rw[Tr.get_set,yab rfl]) fun c hc=>by rw[Tr.get_set,yaa hc];exact g2 c hc
    refine hstep [] 2 _ [vH 2] _ t1 h0 ho rfl (by kernel_rfl) fun n t2 g o=>?_
    refine hstep _ 3 _ [vH 2,vH 3] _ t2 g o rfl (by kernel_rfl) fun n t2 g o=>?_
    refine hstep _ 4 _ [vH 2,vH 3,vH 4] _ t2 g o rfl (by kernel_rfl) fun n t2 g o=>?_
    refine hstep _ 5 _ [vH 2,vH 3,vH 4,vH 5] _ t2 g o rfl (by kernel_rfl) fun n t2 g o=>?_
    refine hstep _ 6 _ [vH 2,vH 3,vH 4,vH 5,vH 6] _ t2 g o rfl (by kernel_rfl) fun n t2 g o=>?_
    refine hstep _ 7 _ [vH 2,vH 3,vH 4,vH 5,vH 6,vH 7] _ t2 g o rfl (by kernel_rfl) fun n t2 g o=>?_
    have hle:dA t t2:=fun c u hc=>by
     have:c≠b:=fun e=>by rw[e,hb]at hc;cases hc
     rw[o c this];exact hc
    have hl:zP yA 180 ⟨0,t2⟩ (.map b) (.int .i64 (s.length:Int)) false=some (.str (resW s.length)):=by
     have hk:zfy yA 180 (.int .i64 (s.length:Int))=true/\cH (.int .i64 (s.length:Int)) [vH 2,vH 3,vH 4,vH 5,vH 6,vH 7]=some (some (.str (resW s.length))):=by
      have:s.length=2\/s.length=3\/s.length=4\/s.length=5\/s.length=6\/s.length=7:=by omega
      rcases this with e | e | e | e | e | e<;>rw[e]<;>exact⟨by kernel_rfl,rfl⟩
     exact z05 hk.1 g hk.2 ty180 rfl ty9 false
    rw[hl,sA];simp only[zA.asStr,sA];rw[vK (by simp;omega),sA]
    simp only[zA.asStr,sA];rw[vK (by simp;omega),sA]
    simp only[zA.asStr,sA];have hr:(resW s.length).length<4294967281:=by
     have:s.length=2\/s.length=3\/s.length=4\/s.length=5\/s.length=6\/s.length=7:=by omega
     rcases this with e | e | e | e | e | e<;>rw[e]<;>decide
    rw[q113,znn hr,sA];simp only[zA.asBool,sA];refine⟨?_,hle⟩
    simp[h1,h2]
  ·rw[yab (by omega)];simp[h2]
 ·rw[yab (by omega)];simp[h1]
def yI(s:List Nat):Bool:=match s with
 | []=>false
 | x::r=>decide ((x::r).length<=24)&&pP x&&xG (zzm nP (x::r)) (x::r) && !zcx (x::r)
def rU{s:List Nat}:wC yA F 38 [.str s] t=some (.bool (yI s)):=by
 refine kC.2 (w38 _ ?_)
 simp only[t38,pA,iD,xO]
 cases s with
 | nil=>simp[yI,mK]
 | cons x r=>
  have h0:xG (x::r) []=false:=by
   cases h:xG (x::r) []with
   | true=>rw[mK]at h;cases h
   | false=>rfl
  rw[h0];simp only[ybq,if_false];unfold yI;by_cases h1:(x::r).length<=24
  ·rw[yaa (by omega)]
   have hx:=zj8 (s:=x::r) (i:=0) (x:=x) rfl
   rw[show((0:Nat):Int)=0 from rfl]at hx
   rw[hx,sA,qB,sA,q79,sZ,sA];simp only[zA.asBool,sA]
   cases h2:pP x with
   | false=>simp
   | true=>
    simp only[Bool.not_true,ybq,if_false];rw[q80,z0i (by omega),sA]
    simp only[zA.asStr,sA]
    cases h3:xG (zzm nP (x::r)) (x::r)with
    | false=>simp
    | true=>
     simp only[if_true,q82,zl7 (s:=x::r) (by omega),sA,zA.asBool]
     simp only[decide_eq_true h1,ycn,Bool.and_self];first | exact⟨rfl,rfl⟩ | exact⟨rfl,trivial⟩ | exact⟨trivial,trivial⟩
  ·rw[yab (by omega)]
   simp only[decide_eq_false h1,Bool.false_and];first | exact⟨rfl,rfl⟩ | exact⟨rfl,trivial⟩ | exact⟨trivial,trivial⟩
end Go.Proofs
namespace Go.Am
open Go Go.RowKit
section
variable {base:Nat}{W J:fG}{t:Tr qA}{Q:bB}
def mB{b:Bool}{x y:T}(h:b=true)(k:pA base W J x t Q):pA base W J (.ite b x y) t Q:=by
 show if b=true then _ else _;rw[yab h];exact k
def jB{b:Bool}{x y:T}(h:b≠true)(k:pA base W J y t Q):pA base W J (.ite b x y) t Q:=by
 show if b=true then _ else _;rw[yaa h];exact k
def iA{x:Option zA}{K:zA->T}{v:zA}(h:x=some v)(k:pA base W J (K v) t Q):pA base W J (.opt x K) t Q:=by
 show cD x _;rw[h];exact k
def uD{x:Tr qA->Option zA}{K:zA->T}{v:zA}(h:x t=some v)(k:pA base W J (K v) t Q):pA base W J (.light x K) t Q:=by
 show cD (x t) _;rw[h];exact k
def mC{f:Nat}{a:List zA}{K:zA->T}(k:W f a t (fun v t'=>pA base W J (K v) t' Q)):pA base W J (.call f a K) t Q:=k
def eD{n:Int}{i:IntKind}{K:Int->T}(k:pA base W J (K n) t Q):pA base W J (.asI i (.int i n) K) t Q:=by
 show cD (z6f i (.int i n)) _;rw[qB];exact k
def rF{b:Bool}{K:Bool->T}(k:pA base W J (K b) t Q):pA base W J (.asB (.bool b) K) t Q:=k
def iH{s:List Nat}{K:List Nat->T}(k:pA base W J (K s) t Q):pA base W J (.asS (.str s) K) t Q:=k
def jJ{zs:List zA}{a:zA}{K:jN->T}{X:jN}(h:zs7 zs a=some X)(k:pA base W J (K X) t Q):pA base W J (.asG zs a K) t Q:=by
 show cD (zs7 zs a) _;rw[h];exact k
def qG{x:xA->Option (zA × xA)}{K:zA->T}(k:∀b,t.get b=none->base<=b->∃v H,x ⟨b,t⟩=some (v,H)/\pA base W J (K v) H.t Q):pA base W J (.heavy x K) t Q:=by
 intro b h1 h2;obtain⟨v,H,h3,h4⟩:=k b h1 h2
 rw[h3];exact h4
def rG{i:Nat}{a:List zA}(k:J i a t Q):pA base W J (.jump i a) t Q:=k
end
section
variable {t:Tr qA}{C:oA}
end
end Go.Am
namespace Go.Proofs
open Go Go.Am
variable [jC]
variable {t:Tr qA}
def zgn(v:dE):Bool:=decide (v.kind=0)&&decide (v.i=0)&&cO v.f
def zaz{a:dE}{u v:zA}(hu:lA t 1 (pD a.f.n.limbs) u)(hv:lA t 1 (pD a.f.d.limbs) v)(hf:a.f.ok):wC yA F 39 [.agg [.int .u8 a.kind,.bool a.f.n.neg,u,.bool a.f.d.neg,v,.int .i64 a.i]] t=some (.bool (zgn a)):=by
 refine kC.2 (w39 _ _ _ _ _ _ ?_)
 simp only[t39,pA,xI];unfold zgn;by_cases h1:a.kind=0
 ·rw[yab (by omega)]
  by_cases h2:a.i=0
  ·rw[yab h2,q54,zb3 hu hv hf,sA]
   simp only[zA.asBool,sA,decide_eq_true h1,decide_eq_true h2,ycn];first | exact⟨rfl,rfl⟩ | exact⟨rfl,trivial⟩ | exact⟨trivial,trivial⟩
  ·rw[yaa h2];simp[h2]
 ·rw[yaa (by omega)];simp[h1]
structure FM where
 style:Nat
 word:List Nat
 named:Bool
 least:Nat
 most:Nat
 level:Nat
 left:Nat
 right:Nat
def FM.cs(f:FM):List zA:=[.int .u8 f.style,.str f.word,.bool f.named,.int .i64 f.least,.int .i64 f.most,.int .i64 f.level,.int .i64 f.left,.int .i64 f.right]
def atF (w:List Nat):FM:=⟨3,w,true,1,1,7,7,7⟩
def eL(w:List Nat)(n:Bool)(a b:Nat):FM:=⟨6,w,n,a,b,7,1,1⟩
def zeo(w:List Nat)(a b c:Nat):FM:=⟨4,w,false,2,2,a,b,c⟩
def z6p:List FM:=[⟨0,[],false,0,0,0,0,0⟩,⟨1,[],false,0,0,7,0,0⟩,⟨2,[116,111,100,97,121],false,0,0,7,0,0⟩,atF [102,97,99,116,32],atF [104,97,115,32],atF [],eL [108,111,111,107] true 1 2,zeo [43] 5 5 6,zeo [45] 5 5 6,zeo [42] 6 6 7,zeo [47] 6 6 7,
 eL [109,105,110] false 2 2,eL [109,97,120] false 2 2,zeo [60] 4 5 5,zeo [61] 4 5 5,zeo [97,110,100] 2 2 3,zeo [111,114] 1 1 2,⟨5,[110,111,116,32],false,1,1,3,3,3⟩,eL [105,102] false 3 3,eL [114,111,117,110,100] false 2 2,eL [98,101,116,119,101,101,110] false 2 2,
 eL [115,101,114,118,105,99,101] true 2 2,eL [98,101,115,116] true 3 3,eL [103,114,111,119] true 2 2,eL [109,111,110,116,104,115] false 1 1,eL [110,117,109,98,101,114] false 1 1,eL [115,116,97,114,116] false 1 1]
def nK:List zA:=(z6p.map FM.cs).flatten
abbrev z8:List zA:=[.int .u8 0,.str [],.bool false,.int .i64 0,.int .i64 0,.int .i64 0,.int .i64 0,.int .i64 0]
def cv76{w:List Nat}{n:Bool}{a b:Nat}{K:jN->T}{Q:bB}(h:wp 37 (K (cellsOf (eL w n a b).cs)) t Q):wp 37 (.callv (.func (.func 76) [] []) [.str w,.bool n,.int .i64 (a:Int),.int .i64 (b:Int)] fun a=>.asG z8 a K) t Q:=by
 have e:wC yA F 76 [.str w,.bool n,.int .i64 (a:Int),.int .i64 (b:Int)] t=some (.agg (eL w n a b).cs):=by
  refine kC.2 (w76 _ _ _ _ ?_)
  simp only[t76,pA,if_true];constructor<;>trivial
 show cD (some (76,[zA.str w,.bool n,.int .i64 (a:Int),.int .i64 (b:Int)])) _
 rw[sA];simp only[];rw[q76,e,sA];exact h
def cv77{w:List Nat}{K:jN->T}{Q:bB}(h:wp 37 (K (cellsOf (atF w).cs)) t Q):wp 37 (.callv (.func (.func 77) [] []) [.str w] fun a=>.asG z8 a K) t Q:=by
 have e:wC yA F 77 [.str w] t=some (.agg (atF w).cs):=by
  refine kC.2 (w77 _ ?_)
  simp only[t77,pA,if_true];constructor<;>trivial
 show cD (some (77,[zA.str w])) _
 rw[sA];simp only[];rw[q77,e,sA];exact h
def cv78{w:List Nat}{a b c:Nat}{K:jN->T}{Q:bB}(h:wp 37 (K (cellsOf (zeo w a b c).cs)) t Q):wp 37 (.callv (.func (.func 78) [] []) [.str w,.int .i64 (a:Int),.int .i64 (b:Int),.int .i64 (c:Int)] fun a=>.asG z8 a K) t Q:=by
 have e:wC yA F 78 [.str w,.int .i64 (a:Int),.int .i64 (b:Int),.int .i64 (c:Int)] t=some (.agg (zeo w a b c).cs):=by
  refine kC.2 (w78 _ _ _ _ ?_)
  simp only[t78,pA,if_true];constructor<;>trivial
 show cD (some (78,[zA.str w,.int .i64 (a:Int),.int .i64 (b:Int),.int .i64 (c:Int)])) _
 rw[sA];simp only[];rw[q78,e,sA];exact h
def zc7{Q:bB}(h:∀b t',t.get b=none->yA.base<=b->vD t' b none nK->dA t t'->lD b t t'->Q (.ptr b 0) t'):Wc yA F 37 [] t Q:=by
 refine w37 ?_
 unfold t37;repeat (first | refine cv76 ?_ | refine cv77 ?_ | refine cv78 ?_ | refine mB rfl ?_)
 intro b hb hbase;obtain⟨t',h1,h2,h3,h4⟩:=sU hb nK none
 have e:∀l:List zA,l=nK->zq0 (.agg l) ⟨b,t⟩=some (.ptr b 0,⟨b+1,t'⟩):=by
  intro l hl;show some (zA.ptr b 0,bD ⟨b,t⟩ l none)=_
  rw[hl,h1]
 rw[e _ (by rfl),sA]
 exact h b t' hb hbase h2 h3 h4
def zae{Q:bB}(h:∀b t',t.get b=none->yA.base<=b->vD t' b none nK->dA t t'->lD b t t'->Q (.agg [.ptr b 0]) t'):Wc yA F 17 [] t Q:=by
 refine w17 ?_
 unfold t17;refine mC ?_
 rw[q37];refine zc7 fun b t' h1 h2 h3 h4 h5=>?_
 refine mB rfl (mB rfl ?_)
 exact h b t' h1 h2 h3 h4 h5
end Go.Proofs
namespace Go.Proofs
open Go Go.Am
section
variable [jC]
variable {t:Tr qA}
def pC(op:Nat):FM:=z6p.getD op ⟨0,[],false,0,0,0,0,0⟩
def iR{f:FM->List zA}(hf:∀x,(f x).length=8):∀(l:List FM) (i k:Nat),i<l.length->k<8->(l.map f).flatten[i*8+k]?=(f (l.getD i ⟨0,[],false,0,0,0,0,0⟩))[k]?
 | [],i,k,h,_=>by simp at h
 | x::l,0,k,h,hk=>by
  rw[ycm,yas,yco (by rw[hf];omega)]
  simp
 | x::l,i+1,k,h,hk=>by
  rw[ycm,yas,ybp (by rw[hf];omega),hf,show(i+1)*8+k-8=i*8+k by omega]
  rw[iR hf l i k (by simpa using h) hk]
  simp
def jR{op k:Nat}(h:op<27)(hk:k<8):nK[op*8+k]?=(pC op).cs[k]?:=iR (f:=FM.cs) (fun _=>rfl) z6p op k h hk
def zxh{b op:Nat}(h:op<27):zC yA 147 (.ptr b 0) (.int .u8 (op:Int))=some (.ptr b (op*8)):=by
 have hA:ob (yA.tys.get 147) (fun y=>y.desc.asArr)=some (27,106):=by kernel_rfl
 rw[uA]at hA;obtain⟨y,hy,hd⟩:=hA
 unfold zC;rw[hy,vA];have e:(zA.int .u8 (op:Int)).asNat=some op:=rfl
 rw[e,vA];simp only[zA.asSlice,zA.asPtr,vA,hd];rw[ty106,vA,dB.2 h,qD];simp
def yL{b o k:Nat}(hk:k<8):vB yA 106 k (.ptr b o)=some (.ptr b (o+k)):=by
 have h:gN yA 106 k=some k:=by
  unfold gN;rw[ty106,vA];simp only[rD.asStruct,vA];have:k=0\/k=1\/k=2\/k=3\/k=4\/k=5\/k=6\/k=7:=by omega
  rcases this with e | e | e | e | e | e | e | e<;>rw[e]<;>rfl
 unfold vB;rw[h];rfl
section
variable {b op:Nat}(hF:vD t b none nK)(h:op<27)
include hF h
def zpg:mA yA 5 ⟨0,t⟩ (.ptr b (op*8+0))=some (.int .u8 (pC op).style):=hF.load1 ty5 rfl (by rw[jR h (by decide)];rfl)
def zwm:mA yA 9 ⟨0,t⟩ (.ptr b (op*8+1))=some (.str (pC op).word):=hF.load1 ty9 rfl (by rw[jR h (by decide)];rfl)
def zph:mA yA 4 ⟨0,t⟩ (.ptr b (op*8+2))=some (.bool (pC op).named):=hF.load1 ty4 rfl (by rw[jR h (by decide)];rfl)
def z1f:mA yA 3 ⟨0,t⟩ (.ptr b (op*8+3))=some (.int .i64 (pC op).least):=hF.load1 ty3 rfl (by rw[jR h (by decide)];rfl)
def z52:mA yA 3 ⟨0,t⟩ (.ptr b (op*8+4))=some (.int .i64 (pC op).most):=hF.load1 ty3 rfl (by rw[jR h (by decide)];rfl)
def z1e:mA yA 3 ⟨0,t⟩ (.ptr b (op*8+5))=some (.int .i64 (pC op).level):=hF.load1 ty3 rfl (by rw[jR h (by decide)];rfl)
def zmy:mA yA 3 ⟨0,t⟩ (.ptr b (op*8+6))=some (.int .i64 (pC op).left):=hF.load1 ty3 rfl (by rw[jR h (by decide)];rfl)
def z1d:mA yA 3 ⟨0,t⟩ (.ptr b (op*8+7))=some (.int .i64 (pC op).right):=hF.load1 ty3 rfl (by rw[jR h (by decide)];rfl)
end
def oE{a b:Int}(h:a≠b):uB a b≠true:=fun e=>h (xI.1 e)
def nLt{a b:Int}(h:¬ a<b):vC a b≠true:=fun e=>h (iD.1 e)
def nLe{a b:Int}(h:¬ a<=b):sD a b≠true:=fun e=>h (jG.1 e)
def yEq{a b:Int}(h:a=b):uB a b=true:=xI.2 h
def yLt{a b:Int}(h:a<b):vC a b=true:=iD.2 h
def yLe{a b:Int}(h:a<=b):sD a b=true:=jG.2 h
def sF{b o:Nat}:oB (.ptr b o)=some (.ptr b o):=rfl
def gM(op:Nat)(name:List Nat)(n:Nat):Bool:=
 decide (op<27) && !decide ((pC op).style=0)&&decide ((pC op).least<=n)&&decide (n<=(pC op).most)&&(if (pC op).named=true then yI name else xG name [])
def eM(op:Nat)(v:dE):Bool:=if op=19 then decide (1<=v.i)&&decide (v.i<=6)&&zgn { v with i:=0 } else zgn v
mutual
/-- is an expression printable at a depth? -/
def gD:rA->Nat->Bool
 | .mk op name v args,d=>decide (d<=24)&&gM op name args.length&&(if op=1 then eJ v else eM op v&&zew args (d+1))
def zew:List rA->Nat->Bool
 | [],_=>true
 | x::l,d=>gD x d&&zew l d
end
def iY:∀ {l:List rA} {d:Nat},zew l d=l.all fun x=>gD x d
 | [],d=>by rw[zew];rfl
 | x::l,d=>by rw[zew,iY];rfl
def z3f(p0_0:zA)(p1_0:Int)(p1_1:List Nat)(p1_2:Int)(p1_3:Bool)(p1_4:zA)(p1_5:Bool)(p1_6:zA)(p1_7:Int)(p1_8:zA)(p2:Int):T:=
 .ite (tC zA.one [(.int .u8 p1_2),(.bool p1_3),p1_4,(.bool p1_5),p1_6,(.int .i64 p1_7)]) (.ite (uB p1_0 1)
 (.call 27 [(.agg [(.int .u8 p1_2),(.bool p1_3),p1_4,(.bool p1_5),p1_6,(.int .i64 p1_7)])] fun a28=>
 .asB a28 fun b29=>.ret (.bool b29))
 (.ite (uB p1_0 19)
 (.ite (vC p1_7 1)
 (.ret (.bool false))
 (.ite (vC 6 p1_7)
 (.ret (.bool false))
 (.ite true (.jump 33 [(.int .i64 p2),p0_0,(.int .u8 p1_0),(.str p1_1),(.int .u8 p1_2),(.bool p1_3),p1_4,(.bool p1_5),p1_6,(.int .i64 p1_7),p1_8,(.int .u8 p1_2),(.bool p1_3),p1_4,(.bool p1_5),p1_6,(.int .i64 0)]) .fail)))
 (.jump 33 [(.int .i64 p2),p0_0,(.int .u8 p1_0),(.str p1_1),(.int .u8 p1_2),(.bool p1_3),p1_4,(.bool p1_5),p1_6,(.int .i64 p1_7),p1_8,(.int .u8 p1_2),(.bool p1_3),p1_4,(.bool p1_5),p1_6,(.int .i64 p1_7)]))) .fail
section
variable {op:Nat}{name:List Nat}{v:dE}{a b c:zA}{bf d:Nat}
def zqf{v2:Int}{v':dE}{R:Bool}{n:Nat}{c3:zA}(ha:lA t 1 (pD v'.f.n.limbs) a)(hb:lA t 1 (pD v'.f.d.limbs) b)(hf:v'.f.ok)(hc:yC c=some (.int .i64 (n:Int)))
  (hargs:jp 18 4 [.int .i64 v2,c,.int .i64 (n:Int),.int .i64 0,c3] t (fun x t'=>x=.bool R/\t'=t)) (p3:Bool) (p5:Bool) (p2 p7:Int) (p4 p6:zA) :
  jp 18 33 [.int .i64 v2,c3,.int .u8 (op:Int),.str name,.int .u8 p2,.bool p3,p4,.bool p5,p6,.int .i64 p7,c,.int .u8 v'.kind,.bool v'.f.n.neg,a,.bool v'.f.d.neg,b,.int .i64 v'.i] t (fun x t'=>x=.bool (zgn v'&&R)/\t'=t):=by
 refine j18_33 _ _ _ _ _ _ _ _ _ _ _ _ _ _ _ _ _ ?_
 simp only[z3o,pA,q39,zaz ha hb hf,sA,zA.asBool]
 cases hz:zgn v' with
 | false=>simp
 | true=>
  simp only[Bool.not_true,ybq,if_false,hc,sA,qB,ycn];exact hargs
def z48{n:Nat}{R:Bool}(ha:lA t 1 (pD v.f.n.limbs) a)(hb:lA t 1 (pD v.f.d.limbs) b)(hf:sE.fit v.f)(hc:yC c=some (.int .i64 (n:Int)))
  (hargs:jp 18 4 [.int .i64 (d:Int),c,.int .i64 (n:Int),.int .i64 0,.ptr bf 0] t (fun x t'=>x=.bool R/\t'=t)) :
  wp 18 (z3f (.ptr bf 0) (op:Int) name (v.kind:Int) v.f.n.neg a v.f.d.neg b v.i c (d:Int)) t (fun x t'=>x=.bool (if op=1 then eJ v else eM op v&&R)/\t'=t):=by
 unfold z3f;refine mB ?_ ?_
 ·rw[cG];simp only[ycg,yck,ha.one,hb.one];rfl
 by_cases h1:op=1
 ·refine mB (yEq (by omega)) ?_
  simp only[pA,q27,zao ha hb hf,sA,zA.asBool,yab h1];constructor<;>trivial
 ·refine jB (oE (by omega)) ?_
  simp only[yaa h1];unfold eM;by_cases h2:op=19
  ·refine mB (yEq (by omega)) ?_
   simp only[yab h2];by_cases h3:1<=v.i
   ·refine jB (nLt (by omega)) ?_
    by_cases h4:v.i<=6
    ·refine jB (nLt (by omega)) (mB rfl ?_)
     have:=zqf (op:=op) (name:=name) (v':={ v with i:=0 }) ha hb hf.1 hc hargs v.f.n.neg v.f.d.neg v.kind v.i a b
     simp only[decide_eq_true h3,decide_eq_true h4,ycn];exact this
    ·refine mB (yLt (by omega)) ?_
     simp[pA,h4]
   ·refine mB (yLt (by omega)) ?_
    simp[pA,h3]
  ·refine jB (oE (by omega)) ?_
   simp only[yaa h2];exact zqf (op:=op) (name:=name) (v':=v) ha hb hf.1 hc hargs v.f.n.neg v.f.d.neg v.kind v.i a b
def z1u{n:Nat}{R:Bool}(hF:vD t bf none nK)(hop:op<256)(hn:n<mD)(hnl:name.length<mD)(ha:lA t 1 (pD v.f.n.limbs) a)(hb:lA t 1 (pD v.f.d.limbs) b)(hf:sE.fit v.f)(hc:yC c=some (.int .i64 (n:Int)))
  (hargs:d<=24->jp 18 4 [.int .i64 (d:Int),c,.int .i64 (n:Int),.int .i64 0,.ptr bf 0] t (fun x t'=>x=.bool R/\t'=t)) :
  wC yA F 18 [.agg [.ptr bf 0],.agg [.int .u8 op,.str name,.int .u8 v.kind,.bool v.f.n.neg,a,.bool v.f.d.neg,b,.int .i64 v.i,c],.int .i64 (d:Int)] t=some (.bool (decide (d<=24)&&gM op name n&&(if op=1 then eJ v else eM op v&&R))):=by
 refine kC.2 (w18 _ _ _ _ _ _ _ _ _ _ _ ?_)
 unfold t18 gM;by_cases hd:d<=24
 case neg=>
  refine mB (yLt (by omega)) ?_
  simp[pA,hd]
 refine jB (nLt (by omega)) ?_
 have htail:=z48 (op:=op) (name:=name) (d:=d) (bf:=bf) ha hb hf hc (hargs hd)
 by_cases h27:op<27
 case neg=>
  refine mB (by rw[wrap_i64 (by omega) (by omega)];exact yLe (by omega)) ?_
  simp[pA,h27]
 refine jB (by rw[wrap_i64 (by omega) (by omega)];exact nLe (by omega)) ?_
 refine iA sF (iA (zxh h27) (iA sF (iA (yL (by decide)) (uD (zpg hF h27) (eD ?_)))))
 by_cases hs:(pC op).style=0
 ·refine mB (yEq (by omega)) ?_
  simp[pA,hs]
 refine jB (oE (by omega)) ?_
 refine iA hc (eD (iA sF (iA (yL (by decide)) (uD (z1f hF h27) (eD ?_)))))
 by_cases hl:(pC op).least<=n
 case neg=>
  refine mB (yLt (by omega)) ?_
  simp[pA,hl]
 refine jB (nLt (by omega)) ?_
 refine iA hc (eD (iA sF (iA (yL (by decide)) (uD (z52 hF h27) (eD ?_)))))
 by_cases hm:n<=(pC op).most
 case neg=>
  refine mB (yLt (by omega)) ?_
  simp[pA,hm]
 refine jB (nLt (by omega)) ?_
 have hld:=zph hF h27
 refine iA sF (iA (yL (by decide)) (uD hld (rF ?_)))
 simp only[decide_eq_true hd,decide_eq_true h27,decide_eq_false hs,decide_eq_true hl,decide_eq_true hm,ycn,ycl]
 cases hnm:(pC op).named with
 | true=>
  rw[hnm]at hld;simp only[if_true];refine mB rfl (mC ?_)
  rw[q38,rU,sA];refine rF ?_
  cases hN:yI name with
  | false=>
   refine mB rfl ?_
   simp[pA]
  | true=>
   refine jB (by simp) (iA sF (iA (yL (by decide)) (uD hld (rF (jB (by simp) ?_)))))
   simp only[ycn];exact htail
 | false=>
  rw[hnm]at hld;simp only[ybq,if_false];refine jB (by simp) (iA sF (iA (yL (by decide)) (uD hld (rF (mB rfl ?_)))))
  cases hN:xG name []with
  | false=>
   refine mB rfl ?_
   simp[pA]
  | true=>
   refine jB (by simp) ?_
   simp only[ycn];exact htail
end
mutual
def zhz{bf:Nat}(hF:vD t bf none nK):∀(x:rA) (d:Nat) (cs:List zA),x.fit->d<1000->RD t x.d cs->wC yA F 18 [.agg [.ptr bf 0],.agg cs,.int .i64 (d:Int)] t=some (.bool (gD x d))
 | .mk op name v args,d,cs,hx,hd,h=>by
  obtain⟨a,b,c,rfl,ha,hb,hc⟩:=fJ h
  simp only[rA.op,rA.name,rA.v,rA.args]at ha hb hc ⊢
  have hx':=hx
  unfold rA.fit at hx';unfold gD;refine z1u hF hx'.1 (n:=args.length) hx'.2.2.2.2.1 hx'.2.1 ha hb hx'.2.2.2.1.2.1 (by rw[hc.len,ybf]) fun hd'=>?_
  have:=zqj hF args args d c 0 hc rfl hx'.2.2.2.2.2 hx'.2.2.2.2.1 hd'
  exact this
def zqj{bf:Nat}(hF:vD t bf none nK):∀(l args:List rA) (d:Nat) (c:zA) (i:Nat),lA t 9 (args.map rA.d) c->args.drop i=l->rA.fits l->args.length<mD->d<=24 →
  jp 18 4 [.int .i64 (d:Int),c,.int .i64 (args.length:Int),.int .i64 (i:Int),.ptr bf 0] t (fun x t'=>x=.bool (zew l (d+1))/\t'=t)
 | [],args,d,c,i,hc,hl,hok,hsz,hd=>by
  have:=zki hl
  refine j18_4 _ _ _ _ _ ?_
  unfold z5f;refine jB (nLt (by omega)) ?_
  unfold zew;simp[pA]
 | x::l,args,d,c,i,hc,hl,hok,hsz,hd=>by
  obtain⟨h1,h2,h3⟩:=zf7 hl
  unfold mD at hsz;have hok':=hok
  unfold rA.fits at hok';refine j18_4 _ _ _ _ _ ?_
  obtain⟨pb,po,cs,g1,g2,g3,g4,g5⟩:=wG.at z0d (by simp) hc (i:=i) (d:=x.d) (by simp[h1])
  unfold z5f;refine mB (yLt (by omega)) (iA g1 (uD g2 ?_))
  rw[dT];refine jJ (kK g5 x.zs) ?_
  have hmk:=g5.mk x.zs
  have hcs:[zA.int .u8 ((cellsOf cs).i 0),.str ((cellsOf cs).s 1),.int .u8 ((cellsOf cs).i 2),.bool ((cellsOf cs).b 3),(cellsOf cs).v 4,.bool ((cellsOf cs).b 5),(cellsOf cs).v 6,.int .i64 ((cellsOf cs).i 7),(cellsOf cs).v 8]=cs:=hmk
  rw[hcs];refine mB g5.all (mC ?_)
  rw[wrap_i64 (by omega) (by omega),show(d:Int)+1=((d+1:Nat):Int) by omega,q18,zhz hF x (d+1) cs hok'.1 (by omega) g5,sA]
  refine rF ?_
  unfold zew
  cases hE:gD x (d+1)with
  | false=>
   refine mB rfl ?_
   simp[pA]
  | true=>
   refine jB (by simp) (rG ?_)
   rw[wrap_i64 (by omega) (by omega),show(i:Int)+1=((i+1:Nat):Int) by omega]
   have:=zqj hF l args d c (i+1) hc h2 hok'.2 hsz hd
   simp only[ycn];exact this
end
end
section
variable [jC]
variable {t:Tr qA}
def z7f (S el f:Nat)(zs:List zA)(cond:jN->Bool)(v1 v7:zA)(n i:Int):T:=
 .ite (vC i n)
  (.opt (zC yA S v7 (.int .i64 i)) fun a0=>.light (fun m=>mA yA el ⟨0,m⟩ a0) fun a1=>.asG zs a1 fun X=>
   .ite (cond X) (.callv v1 [.agg (pL zs X 0)] fun a3=>.asB a3 fun b4=>.ite (!b4) (.ret (.bool false)) (.jump 2 [v1,v7,.int .i64 n,.int .i64 (tA .i64 (i+1))])) .fail)
  (.ret (.bool true))
def zb2{α:Type}{dd:α->D}{P:α->Bool}{S el sz f:Nat}{zs:List zA}{cond:jN->Bool}{v1 v7:zA}(hS:wG yA S el sz true){l:List α}(hz:∀x∈l,(dd x).zs=zs)(hr:lA t sz (l.map dd) v7)(hlen:l.length<1000000000000000000)
  (hj:∀i t Q,wp f (z7f S el f zs cond v1 v7 l.length i) t Q->jp f 2 [v1,v7,.int .i64 (l.length:Int),.int .i64 i] t Q)
  (hc:∀cs,tC zA.one cs=true->aK zs cs=true->cond (cellsOf cs)=true)
  (hcall:∀x∈l,∀cs,RD t (dd x) cs->∀(R:bB),R (.bool (P x)) t->cD (mN v1 [.agg cs]) fun p=>Wq yA F lI p.1 p.2 t R) :
  ∀(k i:Nat),i+k=l.length->jp f 2 [v1,v7,.int .i64 (l.length:Int),.int .i64 (i:Int)] t (fun x t'=>x=.bool ((l.drop i).all P)/\t'=t):=by
 intro k;induction k with
 | zero=>
  intro i hi;refine hj _ _ _ (jB (nLt (by omega)) ?_)
  rw[ybt (by omega)]
  exact⟨rfl,rfl⟩
 | succ k ih=>
  intro i hi;have hlt:i<l.length:=by omega
  have hm:l[i]∈l:=ycj hlt
  obtain⟨b,off,cs,g1,g2,g3,g4,g5⟩:=wG.at hS (by simp) hr (i:=i) (d:=dd l[i]) (by simp[hlt])
  refine hj _ _ _ (mB (yLt (by omega)) (iA g1 (uD g2 ?_)))
  rw[dT];have hzz:=hz _ hm
  refine jJ (kK g5 hzz) (mB (hc cs g5.all (by rw[<- hzz];exact zhu _ _ g5)) ?_)
  rw[g5.mk hzz];refine hcall _ hm cs g5 _ ?_
  refine rF ?_
  have hd:l.drop i=l[i]::l.drop (i+1):=ybl hlt
  rw[hd,ycg]
  cases hP:P l[i]with
  | false=>exact mB rfl ⟨rfl,rfl⟩
  | true=>
   refine jB (by simp) (rG ?_)
   rw[wrap_i64 (by omega) (by omega),show(i:Int)+1=((i+1:Nat):Int) by omega,ycn]
   exact ih (i+1) (by omega)
def zzp (n:Int):Bool:=decide (0<=n)&&decide (n<65536)
def z56 (n:Int):Bool:=decide (-2147483648<=n)&&decide (n<2147483648)
def defP (d:zn3):Bool:=yI d.name&&(decide (1<=d.kind)&&decide (d.kind<=6))
def rowP (two:Bool)(r:zn2):Bool:=z56 r.a&&(z56 r.b&&((two||decide (r.b=0))&&(zzp r.known&&zfo r.f)))
def ze4(x:jK):Bool:=yI x.name&&x.rows.all (rowP x.two)
def zk9(x:rA):Bool:=decide (x.op=0)&&(xG x.name []&&(decide (x.args.length=0)&&zgn x.v))
def qT(x:yJ):Bool:=
 yI x.name&&(yI x.label&&(zzp x.from_&&(zzp x.known&&((zzp x.to||decide (x.to=65536))&&(if x.off=true then zk9 x.when_&&zk9 x.then_ else gD x.when_ 1&&gD x.then_ 1)))))
def zrq(p:lN):Bool:=yI p.name&&(p.defs.all defP&&(p.tables.all ze4&&p.clauses.all qT))
def zn8{x:rA}{a b c:zA}(hx:x.fit)(ha:lA t 1 (pD x.v.f.n.limbs) a)(hb:lA t 1 (pD x.v.f.d.limbs) b)(hc:lA t 9 (x.args.map rA.d) c):wC yA F 90 [.agg (eF x a b c)] t=some (.bool (zk9 x)):=by
 obtain⟨op,name,v,args⟩:=x
 simp only[rA.op,rA.name,rA.v,rA.args,zk9,eF]at ha hb hc ⊢
 unfold rA.fit at hx;have hl:yC c=some (.int .i64 (args.length:Int)):=by rw[hc.len,ybf]
 refine kC.2 (w90 _ _ _ _ _ _ _ _ _ ?_)
 unfold t90;by_cases h1:op=0
 case neg=>refine jB (oE (by omega)) ?_;simp[pA,h1]
 refine mB (yEq (by omega)) ?_
 cases h2:xG name []with
 | false=>refine jB (by simp) ?_;simp[pA]
 | true=>
  refine mB rfl (iA hl (eD ?_))
  by_cases h3:args.length=0
  case neg=>refine jB (oE (by omega)) ?_;simp[pA,h3]
  refine mB (yEq (by omega)) (mC ?_)
  rw[q39,zaz ha hb hx.2.2.2.1.2.1.1,sA];refine rF ?_
  simp[pA,h1,h3]
def z21{l:List zn3}{v:zA}(hr:lA t 3 (l.map zn3.d) v)(hlen:l.length<mD):wC yA F 48 [v,.func (.func 47) [] []] t=some (.bool (l.all defP)):=by
 unfold mD at hlen;refine kC.2 (w48 _ _ ?_)
 unfold t48;refine iA hr.len (eD (rG ?_))
 rw[ybf];refine zb2 (dd:=zn3.d) (P:=defP) (S:=43) (el:=114) (zs:=[.str [],.int .u8 0,.bool false]) (cond:=fun _=>true) sl43 (fun x _=>x.zs) hr (by omega) (fun i t Q h=>j48_2 _ _ _ _ h) (fun _ _ _=>rfl) ?_ l.length 0 (by omega)
 intro x hx cs hcs R hR;have:=rd_def hcs
 subst this;show cD (some (47,[zA.agg [.str x.name,.int .u8 x.kind,.bool x.fact]])) _
 rw[sA];have:wC yA F 47 [zA.agg [.str x.name,.int .u8 x.kind,.bool x.fact]] t=some (.bool (defP x)):=by
  refine kC.2 (w47 _ _ _ ?_)
  unfold t47 defP;refine mC ?_
  rw[q38,rU,sA];refine rF ?_
  cases h1:yI x.name with
  | false=>refine jB (by simp) ?_;simp[pA]
  | true=>
   refine mB rfl ?_
   by_cases h2:1<=x.kind
   ·refine mB (yLe (by omega)) ?_
    have:sD (x.kind:Int) 6=decide (x.kind<=6):=by rw[z6i];congr 1;exact propext (by omega)
    simp[pA,h2,this]
   ·refine jB (nLe (by omega)) ?_
    simp[pA,h2]
 rw[q47,this,sA];exact hR
def key_ok{n:Int}:wC yA F 87 [.int .i64 n] t=some (.bool (z56 n)):=by
 refine kC.2 (w87 _ ?_)
 unfold t87 z56;by_cases h : -2147483648<=n
 ·refine mB (yLe h) ?_
  rw[decide_eq_true h,ycn,<- z6h];exact⟨rfl,rfl⟩
 ·refine jB (nLe h) ?_
  rw[decide_eq_false h,Bool.false_and];exact⟨rfl,rfl⟩
def zqc{n:Int}:wC yA F 55 [.int .i64 n] t=some (.bool (zzp n)):=zpq
def row_ok{two:Bool}{r:zn2}{u v:zA}{k b:Nat}{s:zA}{nm:List Nat}(hu:lA t 1 (pD r.f.n.limbs) u)(hv:lA t 1 (pD r.f.d.limbs) v)(hf:r.f.fit)(hk:vD t k none [.func (.func 87) [] []])(hb:vD t b none [.str nm,.bool two,s]) :
  wC yA F 88 [.agg [.int .i64 r.a,.int .i64 r.b,.int .i64 r.known,.bool r.f.n.neg,u,.bool r.f.d.neg,v],.ptr k 0,.ptr b 0] t=some (.bool (rowP two r)):=by
 refine kC.2 (w88 _ _ _ _ _ _ _ _ _ ?_)
 have hld:mA yA 59 ⟨0,t⟩ (.ptr k 0)=some (.func (.func 87) [] []):=hk.load1 (j:=0) ty59 rfl rfl
 have hl2:mA yA 4 ⟨0,t⟩ (.ptr b 1)=some (.bool two):=hb.load1 (j:=1) ty4 rfl rfl
 have hfa:vB yA 53 1 (.ptr b 0)=some (.ptr b 1):=by kernel_rfl
 have hc:∀(n:Int) (K:zA->T) (Q:bB),wp 88 (K (.bool (z56 n))) t Q->wp 88 (.callv (.func (.func 87) [] []) [.int .i64 n] K) t Q:=by
  intro n K Q h;show cD (some (87,[zA.int .i64 n])) _
  rw[sA];simp only[];rw[q87,key_ok,sA];exact h
 have uE:∀(K2:Bool),(wp 88 (.call 55 [(.int .i64 r.known)] fun a9=>
 .asB a9 fun b10=>.ite b10
 (.call 53 [(.agg [(.bool r.f.n.neg),u,(.bool r.f.d.neg),v])] fun tE=>
 .asB tE fun b12=>.ret (.bool b12))
 (.ret (.bool false))) t (fun x t'=>x=.bool (zzp r.known&&zfo r.f)/\t'=t)):=by
  intro _;refine mC ?_
  rw[q55,zqc,sA];refine rF ?_
  cases h:zzp r.known with
  | false=>exact jB (by simp) ⟨rfl,rfl⟩
  | true=>
   refine mB rfl (mC ?_)
   rw[q53,fZ hu hv hf,sA];exact rF ⟨rfl,rfl⟩
 unfold t88 rowP;refine uD hld (hc _ _ _ (rF ?_))
 cases h1:z56 r.a with
 | false=>exact jB (by simp) ⟨rfl,rfl⟩
 | true=>
  refine mB rfl (uD hld (hc _ _ _ (rF ?_)))
  cases h2:z56 r.b with
  | false=>exact jB (by simp) ⟨rfl,rfl⟩
  | true=>
   refine mB rfl (iA hfa (uD hl2 (rF ?_)))
   cases two with
   | true=>
    refine mB rfl ?_
    simp only[Bool.true_or,ycn];exact uE true
   | false=>
    refine jB (by simp) ?_
    by_cases h3:r.b=0
    ·refine mB (yEq h3) ?_
     simp only[decide_eq_true h3,Bool.or_true,ycn];exact uE true
    ·refine jB (oE h3) ?_
     simp only[decide_eq_false h3,Bool.or_false,Bool.false_and,yay];exact⟨rfl,rfl⟩
def zz0{x:jK}{a:zA}(hr:lA t 7 (x.rows.map zn2.d) a)(hx:x.fit):wC yA F 50 [.agg [.str x.name,.bool x.two,a]] t=some (.bool (ze4 x)):=by
 have hlen:=hx.2.1
 unfold mD at hlen;refine zen (w50 _ _ _ ?_)
 unfold t50;refine qG fun b hb hbase=>?_
 obtain⟨t1,e1,c1,l1,o1⟩:=sU hb [.str x.name,.bool x.two,a] none
 refine⟨.ptr b 0,⟨b+1,t1⟩,by rw[<- e1];rfl,?_⟩
 refine qG fun k hk kbase=>?_
 obtain⟨t2,e2,c2,l2,o2⟩:=iT (C:=yA) ty59 hk
 refine⟨_,_,e2,?_⟩
 refine qG fun n _ _=>?_
 obtain⟨t3,e3,c3,o3⟩:=c2.store1 (v:=.func (.func 87) [] []) kbase ty59 rfl rfl rfl (j:=0) (by simp)
 refine⟨_,_,e3 n,?_⟩
 have hbk:b≠k:=by intro e;obtain⟨c,h,_⟩:=c1;rw[e,hk]at h;cases h
 have cb:vD t3 b none [.str x.name,.bool x.two,a]:=c1.off (by rw[o3 b hbk,o2 b hbk])
 have hle:dA t t3:=fun c u hc=>by
  have h1:=l1 _ _ hc
  have h2:c≠k:=fun e=>by rw[e,hk]at h1;cases h1
  rw[o3 c h2];exact l2 _ _ h1
 have hfa0:vB yA 53 0 (.ptr b 0)=some (.ptr b 0):=by kernel_rfl
 have hfa2:vB yA 53 2 (.ptr b 0)=some (.ptr b 2):=by kernel_rfl
 refine iA hfa0 (uD (cb.load1 (j:=0) ty9 rfl rfl) (iH (mC ?_)))
 rw[q38,rU,sA];refine rF ?_
 unfold ze4
 cases h1:yI x.name with
 | false=>exact jB (by simp) ⟨rfl,hle⟩
 | true=>
  refine mB rfl (iA hfa2 (uD (cb.load1 (j:=2) ty51 rfl rfl) (mC ?_)))
  have hall:wC yA F 89 [a,.func (.func 88) [] [.ptr k 0,.ptr b 0]] t3=some (.bool (x.rows.all (rowP x.two))):=by
   refine kC.2 (w89 _ _ ?_)
   unfold t89;refine iA (hr.mono hle).len (eD (rG ?_))
   rw[ybf];refine zb2 (dd:=zn2.d) (P:=rowP x.two) (S:=51) (el:=55) (zs:=[.int .i64 0,.int .i64 0,.int .i64 0,.bool false,.nilslice,.bool false,.nilslice]) (cond:=fun X=>tC zA.one [(.int .i64 (X.i 0)),(.int .i64 (X.i 1)),(.int .i64 (X.i 2)),(.bool (X.b 3)),(X.v 4),(.bool (X.b 5)),(X.v 6)]) sl51 (fun x _=>x.zs) (hr.mono hle) (by omega) (fun i t Q h=>j89_2 _ _ _ _ h) ?_ ?_ x.rows.length 0 (by omega)
   ·intro cs h1 h2
    have h3:pL [.int .i64 0,.int .i64 0,.int .i64 0,.bool false,.nilslice,.bool false,.nilslice] (cellsOf cs) 0=cs:=by simpa using qW _ cs [] h2
    have e:[zA.int .i64 ((cellsOf cs).i 0),.int .i64 ((cellsOf cs).i 1),.int .i64 ((cellsOf cs).i 2),.bool ((cellsOf cs).b 3),(cellsOf cs).v 4,.bool ((cellsOf cs).b 5),(cellsOf cs).v 6]=cs:=h3
    show tC zA.one [_,_,_,_,_,_,_]=true
    rw[e];exact h1
   ·intro r hr' cs hcs R hR
    obtain⟨u,v,rfl,hu,hv⟩:=rd_row hcs
    show cD (some (88,[zA.agg [.int .i64 r.a,.int .i64 r.b,.int .i64 r.known,.bool r.f.n.neg,u,.bool r.f.d.neg,v],.ptr k 0,.ptr b 0])) _
    rw[sA];simp only[];rw[q88,row_ok hu hv (hx.2.2 r hr').2.2.2 c3 cb,sA]
    exact hR
  rw[q89,hall,sA];exact rF ⟨rfl,hle⟩
def zs6{l:List jK}{v:zA}(hr:lA t 3 (l.map jK.d) v)(hlen:l.length<mD)(hx:∀x∈l,x.fit):wC yA F 49 [v,.func (.func 50) [] []] t=some (.bool (l.all ze4)):=by
 unfold mD at hlen;refine kC.2 (w49 _ _ ?_)
 unfold t49;refine iA hr.len (eD (rG ?_))
 rw[ybf];refine zb2 (dd:=jK.d) (P:=ze4) (S:=44) (el:=53) (zs:=[.str [],.bool false,.nilslice]) (cond:=fun X=>tC zA.one [(.str (X.s 0)),(.bool (X.b 1)),(X.v 2)]) sl44 (fun x _=>x.zs) hr (by omega) (fun i t Q h=>j49_2 _ _ _ _ h) ?_ ?_ l.length 0 (by omega)
 ·intro cs h1 h2
  have h3:pL [.str [],.bool false,.nilslice] (cellsOf cs) 0=cs:=by simpa using qW _ cs [] h2
  have e:[zA.str ((cellsOf cs).s 0),.bool ((cellsOf cs).b 1),(cellsOf cs).v 2]=cs:=h3
  show tC zA.one [_,_,_]=true
  rw[e];exact h1
 ·intro x hm cs hcs R hR
  obtain⟨a,rfl,ha⟩:=z0o hcs
  show cD (some (50,[zA.agg [.str x.name,.bool x.two,a]])) _
  rw[sA];simp only[];rw[q50,zz0 ha (hx x hm),sA]
  exact hR
def zyp{bf:Nat}(hF:vD t bf none nK){x:yJ}{cs:List zA}(hx:x.fit)(hr:RD t x.d cs):wC yA F 52 [.agg [.ptr bf 0],.agg cs] t=some (.bool (qT x)):=by
 obtain⟨a,b,c,a',b',c',rfl,hw,ht⟩:=zvg hr
 have hxw:=hx.2.2.2.2.2.1
 have hxt:=hx.2.2.2.2.2.2
 obtain⟨a1,b1,c1,e1,ha,hb,hc⟩:=fJ hw
 obtain⟨a2,b2,c2,e2,ha',hb',hc'⟩:=fJ ht
 simp only[eF,List.cons.injEq,true_and,and_true]at e1 e2;obtain⟨rfl,rfl,rfl⟩:=e1
 obtain⟨rfl,rfl,rfl⟩:=e2
 have uE:∀(cw ct:List zA),cw=eF x.when_ a b c->ct=eF x.then_ a' b' c'->wp 52 (.ite x.off
 (.call 90 [(.agg cw)] fun xD=>
 .asB xD fun b11=>.ite b11
 (.call 90 [(.agg ct)] fun a12=>
 .asB a12 fun b13=>.ret (.bool b13))
 (.ret (.bool false)))
 (.call 18 [(.agg [.ptr bf 0]),(.agg cw),(.int .i64 1)] fun a14=>
 .asB a14 fun b15=>.ite b15
 (.call 18 [(.agg [.ptr bf 0]),(.agg ct),(.int .i64 1)] fun a16=>
 .asB a16 fun b17=>.ret (.bool b17))
 (.ret (.bool false)))) t (fun v t'=>v=.bool (if x.off=true then zk9 x.when_&&zk9 x.then_ else gD x.when_ 1&&gD x.then_ 1)/\t'=t):=by
  intro cw ct ew et;subst ew;subst et
  cases hoff:x.off with
  | true=>
   refine mB rfl (mC ?_)
   rw[q90,zn8 hxw ha hb hc,sA];refine rF ?_
   rw[yab rfl]
   cases h:zk9 x.when_ with
   | false=>exact jB (by simp) ⟨rfl,rfl⟩
   | true=>
    refine mB rfl (mC ?_)
    rw[q90,zn8 hxt ha' hb' hc',sA];exact rF ⟨rfl,rfl⟩
  | false=>
   refine jB (by simp) (mC ?_)
   have e1:=zhz hF x.when_ 1 _ hxw (by omega) hw
   have e2:=zhz hF x.then_ 1 _ hxt (by omega) ht
   rw[show((1:Nat):Int)=1 from rfl]at e1 e2
   rw[q18,e1,sA];refine rF ?_
   rw[yaa (by simp)]
   cases h:gD x.when_ 1 with
   | false=>exact jB (by simp) ⟨rfl,rfl⟩
   | true=>
    refine mB rfl (mC ?_)
    rw[q18,e2,sA];exact rF ⟨rfl,rfl⟩
 refine kC.2 ?_
 unfold eF;refine w52 _ _ _ _ _ _ _ _ _ _ _ _ _ _ _ _ _ _ _ _ _ _ _ _ _ ?_
 unfold t52 qT;refine mC ?_
 rw[q38,rU,sA];refine rF ?_
 cases h1:yI x.name with
 | false=>exact mB rfl ⟨rfl,rfl⟩
 | true=>
  refine jB (by simp) (mC ?_)
  rw[q38,rU,sA];refine rF ?_
  cases h2:yI x.label with
  | false=>exact mB rfl ⟨rfl,rfl⟩
  | true=>
   refine jB (by simp) (mC ?_)
   rw[q55,zqc,sA];refine rF ?_
   cases h3:zzp x.from_ with
   | false=>exact mB rfl ⟨rfl,rfl⟩
   | true=>
    refine jB (by simp) (mC ?_)
    rw[q55,zqc,sA];refine rF ?_
    cases h4:zzp x.known with
    | false=>exact mB rfl ⟨rfl,rfl⟩
    | true=>
     refine jB (by simp) (mC ?_)
     rw[q55,zqc,sA];refine rF ?_
     simp only[ycn]
     cases h5:zzp x.to with
     | false=>
      refine mB rfl ?_
      by_cases h6:x.to=65536
      ·refine jB (by rw[yEq h6];simp) ?_
       simp only[decide_eq_true h6,Bool.or_true,ycn];exact uE _ _ rfl rfl
      ·have:uB x.to 65536=false:=by
        cases hq:uB x.to 65536 with
        | true=>exact absurd hq (oE h6)
        | false=>rfl
       refine mB (by rw[this];rfl) ?_
       simp only[decide_eq_false h6,Bool.or_false,Bool.false_and];exact⟨rfl,rfl⟩
     | true=>
      refine jB (by simp) ?_
      simp only[Bool.true_or,ycn];exact uE _ _ rfl rfl
def znz{bf:Nat}(hF:vD t bf none nK){l:List yJ}{v:zA}(hr:lA t 24 (l.map yJ.d) v)(hlen:l.length<mD)(hx:∀x∈l,x.fit):wC yA F 51 [v,.func (.func 52) [.agg [.ptr bf 0]] []] t=some (.bool (l.all qT)):=by
 unfold mD at hlen;refine kC.2 (w51 _ _ ?_)
 unfold t51;refine iA hr.len (eD (rG ?_))
 rw[ybf];refine zb2 (dd:=yJ.d) (P:=qT) (S:=42) (el:=41) (zs:=[(.str []),(.str []),(.int .i64 0),(.int .i64 0),(.int .i64 0),(.bool false),(.int .u8 0),(.str []),(.int .u8 0),(.bool false),.nilslice,(.bool false),.nilslice,(.int .i64 0),.nilslice,(.int .u8 0),(.str []),(.int .u8 0),(.bool false),.nilslice,(.bool false),.nilslice,(.int .i64 0),.nilslice])
  (cond:=fun X2=>tC zA.one [(.str (X2.s 0)),(.str (X2.s 1)),(.int .i64 (X2.i 2)),(.int .i64 (X2.i 3)),(.int .i64 (X2.i 4)),(.bool (X2.b 5)),(.int .u8 (X2.i 6)),(.str (X2.s 7)),(.int .u8 (X2.i 8)),(.bool (X2.b 9)),(X2.v 10),(.bool (X2.b 11)),(X2.v 12),(.int .i64 (X2.i 13)),(X2.v 14),(.int .u8 (X2.i 15)),(.str (X2.s 16)),(.int .u8 (X2.i 17)),(.bool (X2.b 18)),(X2.v 19),(.bool (X2.b 20)),(X2.v 21),(.int .i64 (X2.i 22)),(X2.v 23)]) sl42 (fun x _=>x.zs) hr (by omega) (fun i t Q h=>j51_2 _ _ _ _ h) ?_ ?_ l.length 0 (by omega)
 ·intro cs h1 h2
  have h3:=qW _ cs [] h2
  rw[yah,ybx]at h3;show tC zA.one (pL [(.str []),(.str []),(.int .i64 0),(.int .i64 0),(.int .i64 0),(.bool false),(.int .u8 0),(.str []),(.int .u8 0),(.bool false),.nilslice,(.bool false),.nilslice,(.int .i64 0),.nilslice,(.int .u8 0),(.str []),(.int .u8 0),(.bool false),.nilslice,(.bool false),.nilslice,(.int .i64 0),.nilslice] (cellsOf cs) 0)=true
  rw[h3];exact h1
 ·intro x hm cs hcs R hR
  show cD (some (52,[.agg [.ptr bf 0],zA.agg cs])) _
  rw[sA];simp only[];rw[q52,zyp hF (hx x hm) hcs,sA]
  exact hR
def z5n{bf:Nat}(hF:vD t bf none nK){p:lN}{cs:List zA}(hp:p.fit)(hr:RD t p.d cs):wC yA F 26 [.agg [.ptr bf 0],.agg cs] t=some (.bool (zrq p)):=by
 obtain⟨a,b,c,rfl,ha,hb,hc⟩:=zma hr
 refine kC.2 (w26 _ _ _ _ _ ?_)
 unfold t26 zrq;refine mC ?_
 rw[q38,rU,sA];refine rF ?_
 cases h1:yI p.name with
 | false=>exact jB (by simp) ⟨rfl,rfl⟩
 | true=>
  refine mB rfl (mC ?_)
  rw[q48,z21 ha hp.ndefs,sA];refine rF ?_
  cases h2:p.defs.all defP with
  | false=>exact jB (by simp) ⟨rfl,rfl⟩
  | true=>
   refine mB rfl (mC ?_)
   rw[q49,zs6 hb hp.ntables hp.tables,sA];refine rF ?_
   cases h3:p.tables.all ze4 with
   | false=>exact jB (by simp) ⟨rfl,rfl⟩
   | true=>
    refine mB rfl (mC ?_)
    rw[q51,znz hF hc hp.nclauses hp.clauses,sA];exact rF ⟨rfl,rfl⟩
def za4{p:lN}{cs:List zA}(hp:p.fit)(hr:RD t p.d cs):wC yA F 11 [.agg cs] t=some (.bool (zrq p)):=by
 have hr':=hr
 obtain⟨a,b,c,rfl,ha,hb,hc⟩:=zma hr
 refine zen (w11 _ _ _ _ ?_)
 unfold t11;refine mC ?_
 rw[q17];refine zae fun bf t' h1 h2 h3 h4 h5=>?_
 refine jJ (aU rfl) (mB ?_ (mC ?_))
 ·exact hr'.sameA
 ·have e:(cellsOf [zA.ptr bf 0]).v 0=.ptr bf 0:=rfl
  rw[q26,e,z5n h3 hp (hr'.mono h4),sA]
  exact rF ⟨rfl,h4⟩
end
section
variable [jC]
variable {t:Tr qA}
def rR:List Int:=[31,28,31,30,31,30,31,31,30,31,30,31]
def vJ(t:Tr qA):Prop:=At t 2 0 (rR.map fun n=>zA.int .i64 n)
def vJ.mono{t':Tr qA}(h:vJ t)(k:dA t t'):vJ t':=At.mono k h
def zcg(x:Int){k:Nat}(hk:0<k) : -(k:Int)<Int.tmod x k/\Int.tmod x k<k:=by
 have h:=Int.natAbs_tmod x k
 have h2:=ycy x.natAbs (show 0<(k:Int).natAbs by simpa using hk)
 omega
def z1c(y:Int):Bool:=decide (Int.tmod y 4=0)&&(!decide (Int.tmod y 100=0)||decide (Int.tmod y 400=0))
def lenD (y m:Int):Int:=if m<1 then 0 else if 12<m then 0 else if m=2/\z1c y=true then 29 else rR.getD (m-1).toNat 0
def zwl(y:Int):Int:=tA .i64 ((tA .i64 ((tA .i64 (Int.tdiv y 4))-(tA .i64 (Int.tdiv y 100))))+(tA .i64 (Int.tdiv y 400)))
def zop(v0 v3:Int):Nat->Int->Int->Int
 | 0,_,v4=>v4
 | k+1,v5,v4=>if v5<=Int.tmod v0 12 then zop v0 v3 k (v5+1) (tA .i64 (v4+lenD v3 v5))else v4
def ze9(m:Int):Int:=zop m (tA .i64 (1900+(tA .i64 (Int.tdiv m 12)))) 11 1 (tA .i64 ((tA .i64 ((tA .i64 (365*(tA .i64 ((tA .i64 (1900+(tA .i64 (Int.tdiv m 12))))-1900))))+zwl (tA .i64 ((tA .i64 (1900+(tA .i64 (Int.tdiv m 12))))-1))))-zwl 1899))
def zcu(P:Int->Bool):Nat->Nat->Nat->Int
 | 0,i,_=>(i:Int)
 | k+1,i,j=>if i<j then(if P (((i+j) / 2:Nat):Int)=true then zcu P k i ((i+j) / 2)else zcu P k ((i+j) / 2+1) j)else(i:Int)
def z50(y:Int):wC yA F 177 [.int .i64 y] t=some (.bool (z1c y)):=by
 refine kC.2 (w177 _ ?_)
 unfold t177 z1c;by_cases h1:Int.tmod y 4=0
 ·refine mB (yEq h1) ?_
  by_cases h2:Int.tmod y 100=0
  ·refine jB (by rw[yEq h2];simp) ?_
   simp[pA,h1,h2,zhs]
  ·refine mB ?_ ?_
   ·cases hq:uB (Int.tmod y 100) 0 with
    | true=>exact absurd hq (oE h2)
    | false=>rfl
   ·simp[pA,h1,h2]
 ·refine jB (oE h1) ?_
  simp[pA,h1]
def len_at(hG:vJ t){m:Int}(h1:1<=m)(h2:m<=12):∃b o,zC yA 220 (.ptr 2 0) (.int .i64 (tA .i64 (m-1)))=some (.ptr b o)/\mA yA 3 ⟨0,t⟩ (.ptr b o)=some (.int .i64 (rR.getD (m-1).toNat 0)):=by
 obtain⟨k,rfl⟩:∃k:Nat,m=(k:Int)+1:=⟨(m-1).toNat,by omega⟩
 have hk:k<12:=by omega
 have e0:((k:Int)+1-1).toNat=k:=by omega
 rw[wrap_i64 (by omega) (by omega),e0,show(k:Int)+1-1=(k:Int) by omega]
 have hx:(rR.map fun n=>zA.int .i64 n)[k]?=some (.int .i64 (rR.getD k 0)):=by
  have:k<rR.length:=hk
  simp[ybd this]
 refine⟨2,0+k,?_,hG.load1 ty3 rfl hx⟩
 unfold zC;rw[ty220,vA];have e:(zA.int .i64 (k:Int)).asNat=some k:=rfl
 rw[e,vA];simp only[zA.asSlice,zA.asPtr,vA,rD.asArr];rw[ty3,vA,dB.2 hk,qD];simp
def zmp(hG:vJ t)(y m:Int):wC yA F 160 [.int .i64 y,.int .i64 m] t=some (.int .i64 (lenD y m)):=by
 refine kC.2 (w160 _ _ ?_)
 unfold t160 lenD;by_cases h1:m<1
 ·rw[yab h1];exact mB (yLt h1) ⟨rfl,rfl⟩
 rw[yaa h1];refine jB (nLt h1) ?_
 by_cases h2:12<m
 ·rw[yab h2];exact mB (yLt h2) ⟨rfl,rfl⟩
 rw[yaa h2];refine jB (nLt h2) ?_
 obtain⟨b,o,g1,g2⟩:=len_at hG (m:=m) (by omega) (by omega)
 by_cases h3:m=2
 ·refine mB (yEq h3) (mC ?_)
  rw[q177,z50,sA];refine rF ?_
  cases hl:z1c y with
  | true=>rw[yab ⟨h3,rfl⟩];exact mB rfl ⟨rfl,rfl⟩
  | false=>rw[yaa (by simp)];exact jB (by simp) (iA g1 (uD g2 (eD ⟨rfl,rfl⟩)))
 ·rw[yaa (by simp[h3])]
  exact jB (oE h3) (iA g1 (uD g2 (eD ⟨rfl,rfl⟩)))
def zre(hG:vJ t)(v0 v3:Int):∀(k:Nat) (v5 v4:Int),v5+k=12->1<=v5->jp 123 2 [.int .i64 v0,.int .i64 v3,.int .i64 v4,.int .i64 v5] t (fun v t'=>v=.int .i64 (zop v0 v3 k v5 v4)/\t'=t):=by
 have hb:=zcg v0 (k:=12) (by omega)
 rw[show((12:Nat):Int)=12 from rfl]at hb
 intro k;induction k with
 | zero=>
  intro v5 v4 h1 h2;exact zxb _ _ _ _ (jB (nLe (by omega)) ⟨rfl,rfl⟩)
 | succ k ih=>
  intro v5 v4 h1 h2;unfold zop;by_cases h3:v5<=Int.tmod v0 12
  ·rw[yab h3]
   refine zxb _ _ _ _ (mB (yLe h3) (mC ?_))
   rw[q160,zmp hG,sA];refine eD (rG ?_)
   rw[wrap_i64 (n:=v5+1) (by omega) (by omega)]
   exact ih _ _ (by omega) (by omega)
  ·rw[yaa h3]
   exact zxb _ _ _ _ (jB (nLe h3) ⟨rfl,rfl⟩)
def zpf(y:Int):wC yA F 159 [.int .i64 y] t=some (.int .i64 (zwl y)):=kC.2 (w159 _ ⟨rfl,rfl⟩)
def zbm(hG:vJ t)(m:Int):wC yA F 123 [.int .i64 m] t=some (.int .i64 (ze9 m)):=by
 refine kC.2 (w123 _ (mC ?_))
 rw[q159,zpf,sA];refine eD (mC ?_)
 rw[q159,zpf,sA];exact eD (rG (zre hG m _ 11 1 _ (by omega) (by omega)))
def zl3{v1:zA}{P:Int->Bool}(hcall:∀n:Int,∀(R:bB),R (.bool (P n)) t->cD (mN v1 [.int .i64 n]) fun p=>Wq yA F lI p.1 p.2 t R) :
  ∀(k i j:Nat),j-i<=k->j<=100000->jp 157 2 [v1,.int .i64 (i:Int),.int .i64 (j:Int)] t (fun v t'=>v=.int .i64 (zcu P k i j)/\t'=t):=by
 intro k;induction k with
 | zero=>
  intro i j h1 h2;exact zxa _ _ _ (jB (nLt (by omega)) ⟨rfl,rfl⟩)
 | succ k ih=>
  intro i j h1 h2;unfold zcu;by_cases h3:i<j
  ·have e1:tA .i64 (Int.fdiv (tA .u64 (tA .i64 ((i:Int)+(j:Int)))) 2)=(((i+j) / 2:Nat):Int):=by
    rw[wrap_i64 (n:=(i:Int)+(j:Int)) (by omega) (by omega),gE (by omega) (by omega),Int.fdiv_eq_ediv_of_nonneg _ (by decide),wrap_i64 (by omega) (by omega)]
    omega
   rw[yab h3];refine zxa _ _ _ (mB (yLt (by omega)) ?_)
   show cD _ _
   rw[e1];refine hcall _ _ (rF ?_)
   cases hP:P (((i+j) / 2:Nat):Int)with
   | false=>
    rw[yaa (by simp)]
    refine mB rfl (rG ?_)
    rw[wrap_i64 (by omega) (by omega),show(((i+j) / 2:Nat):Int)+1=(((i+j) / 2+1:Nat):Int) by omega]
    exact ih _ _ (by omega) h2
   | true=>
    rw[yab rfl];exact jB (by simp) (rG (ih _ _ (by omega) (by omega)))
  ·rw[yaa h3]
   exact zxa _ _ _ (jB (nLt (by omega)) ⟨rfl,rfl⟩)
def oM(d:Int):Int:=zcu (fun n=>vC d (ze9 (tA .i64 (n+1)))) 2154 0 2154
def zr0(hG:vJ t)(d:Int):wC yA F 122 [.int .i64 d] t=some (.int .i64 (oM d)):=by
 refine zen (w122 _ ?_)
 unfold t122;refine qG fun b hb hbase=>?_
 obtain⟨t',e,hc,hle,_⟩:=sU hb [.int .i64 d] none
 refine⟨.ptr b 0,⟨b+1,t'⟩,by show some (zA.ptr b 0,bD ⟨b,t⟩ [.int .i64 d] none)=_;rw[e],mC ?_⟩
 have hld:mA yA 3 ⟨0,t'⟩ (.ptr b 0)=some (.int .i64 d):=hc.load1 (j:=0) ty3 rfl rfl
 have:wC yA F 157 [.int .i64 2154,.func (.func 158) [] [.ptr b 0]] t'=some (.int .i64 (oM d)):=by
  refine kC.2 (w157 _ _ (rG ?_))
  refine zl3 (fun n R hR=>?_) 2154 0 2154 (by omega) (by omega)
  show cD (some (158,[zA.int .i64 n,.ptr b 0])) _
  rw[sA];simp only[];have:wC yA F 158 [zA.int .i64 n,.ptr b 0] t'=some (.bool (vC d (ze9 (tA .i64 (n+1))))):=by
   refine kC.2 (w158 _ _ (uD hld (eD (mC ?_))))
   rw[q123,zbm (hG.mono hle),sA]
   exact eD (uD hld (mB lV ⟨rfl,rfl⟩))
  rw[q158,this,sA];exact hR
 rw[q157];exact Wc_pv this (eD ⟨rfl,hle⟩)
def ymdD (d:Int):zA:=.tup [.int .i64 (tA .i64 (1900+(tA .i64 (Int.tdiv (oM d) 12)))),.int .i64 (tA .i64 ((Int.tmod (oM d) 12)+1)),.int .i64 (tA .i64 ((tA .i64 (d-ze9 (oM d)))+1)),.int .i64 0]
def ymd_ok(hG:vJ t){d:Int}(h0:0<=d)(h1:d<65536):wC yA F 96 [.int .i64 d] t=some (ymdD d):=by
 have hd:wC yA F 121 [.int .i64 d] t=some (.bool true):=by
  refine kC.2 (w121 _ (mB (yLe h0) ?_))
  rw[yLt h1];exact⟨rfl,rfl⟩
 refine kC.2 (w96 _ (mC ?_))
 rw[q121,hd,sA];refine rF (jB (by simp) (mC ?_))
 rw[q122,zr0 hG,sA];refine eD (mC ?_)
 rw[q123,zbm hG,sA];exact eD ⟨rfl,rfl⟩
def cB (l:List Nat):List zA:=l.map fun(n:Nat)=>zA.int .u8 (n:Int)
def ten{l:List Nat}(h:l.length=10):∃a b c d e f g h i j,l=[a,b,c,d,e,f,g,h,i,j]:=by
 match l,h with
 | [a,b,c,d,e,f,g,h,i,j],_=>exact⟨a,b,c,d,e,f,g,h,i,j,rfl⟩
def eR{l:List Nat}:(cB l).length=l.length:=by simp[cB]
def cB_set{l:List Nat}{i x:Nat}:(cB l).set i (.int .u8 (x:Int))=cB (l.set i x):=by simp[cB,List.map_set]
def idx164{b i:Nat}(h:i<10):zC yA 164 (.ptr b 0) (.int .i64 (i:Int))=some (.ptr b i):=by
 unfold zC;rw[zt7,vA];have e:(zA.int .i64 (i:Int)).asNat=some i:=rfl
 rw[e,vA];simp only[zA.asSlice,zA.asPtr,vA,rD.asArr];rw[ty5,vA,dB.2 h,qD];simp
def pY{b:Nat}{l:List Nat}(h:vD t b none (cB l))(hl:l.length=10):mA yA 164 ⟨0,t⟩ (.ptr b 0)=some (.agg (cB l)):=by
 have:=h.at.load (C:=yA) (ty:=164) zt7 rfl (n:=10) rfl (j:=0) (by rw[eR];omega)
 rw[ybw]at this;rw[this];congr 2
 rw[ycr,yca (by rw[eR];omega)]
def zbb{b:Nat}{l m:List Nat}(h:vD t b none (cB l))(hb:yA.base<=b)(hl:l.length=10)(hm:m.length=10):∃t',(∀n,sC yA 164 (.ptr b 0) (.agg (cB m)) ⟨n,t⟩=some (tD,⟨n,t'⟩))/\vD t' b none (cB m)/\lD b t t':=by
 obtain⟨t',h1,h2,h3⟩:=h.store (C:=yA) hb (T:=164) (v:=.agg (cB m)) (j:=0) zt7 (by show(cB m).length=10;rw[eR,hm]) (by show 0+(cB m).length<=_;rw[eR,eR];omega) (by
  show tC zA.one (cB m)=true
  rw[cG,ycb];intro a ha;unfold cB at ha;obtain⟨n,_,rfl⟩:=yaq.1 ha
  rfl)
 refine⟨t',h1,?_,h3⟩
 have e:dN (cB l) 0 (zA.agg (cB m)).cells=cB m:=by
  show dN (cB l) 0 (cB m)=cB m
  unfold dN;rw[List.take_zero,yah,ybt (by rw[eR,eR];omega),ycd]
 rw[e]at h2;exact h2
abbrev z10:List zA:=[.int .u8 0,.int .u8 0,.int .u8 0,.int .u8 0,.int .u8 0,.int .u8 0,.int .u8 0,.int .u8 0,.int .u8 0,.int .u8 0]
def zkt{l:List Nat}(hl:l.length=10):zs7 z10 (.agg (cB l))=some (cellsOf (cB l)):=by
 obtain⟨a,b,c,d,e,f,g,h,i,j,rfl⟩:=ten hl
 exact aU rfl
def zh6{l:List Nat}(hl:l.length=10):[zA.int .u8 ((cellsOf (cB l)).i 0),.int .u8 ((cellsOf (cB l)).i 1),.int .u8 ((cellsOf (cB l)).i 2),.int .u8 ((cellsOf (cB l)).i 3),.int .u8 ((cellsOf (cB l)).i 4),.int .u8 ((cellsOf (cB l)).i 5),.int .u8 ((cellsOf (cB l)).i 6),.int .u8 ((cellsOf (cB l)).i 7),.int .u8 ((cellsOf (cB l)).i 8),.int .u8 ((cellsOf (cB l)).i 9)]=cB l:=by
 obtain⟨a,b,c,d,e,f,g,h,i,j,rfl⟩:=ten hl
 rfl
def z60 (x:Int):Nat:=(48+Int.tmod x 10).toNat
def zye(x:Int):tA .u8 (tA .i64 (48+Int.tmod x 10))=((z60 x:Nat):Int)/\z60 x<256:=by
 have:=zcg x (k:=10) (by omega)
 rw[show((10:Nat):Int)=10 from rfl]at this
 unfold z60;rw[wrap_i64 (by omega) (by omega),zb6 (by omega) (by omega)]
 omega
def wrL:Nat->Int->Nat->List Nat->List Nat
 | 0,_,_,l=>l
 | k+1,x,i,l=>wrL k (tA .i64 (Int.tdiv x 10)) (i-1) (l.set i (z60 x))
def zb7:∀(k:Nat) (x:Int) (i:Nat) (l:List Nat),tB 256 l->(wrL k x i l).length=l.length/\tB 256 (wrL k x i l)
 | 0,x,i,l,h=>⟨rfl,h⟩
 | k+1,x,i,l,h=>by
  unfold wrL;have:=zb7 k (tA .i64 (Int.tdiv x 10)) (i-1) (l.set i (z60 x)) (fun y hy=>by
   rcases List.mem_or_eq_of_mem_set hy with h1 | h1
   ·exact h y h1
   ·rw[h1];exact(zye x).2)
  rw[ydh]at this;exact this
def zih{b:Nat}(hb:yA.base<=b){c0 c1 c2 c3 c4 c5 c6 c7 c8 c9:Int}:∀(k:Nat) (from_:Nat) (x:Int) (i:Int) (l:List Nat) (t:Tr qA),i+1=(from_:Int)+k->from_+k<=10->l.length=10->vD t b none (cB l) →
  jp 97 2 [.int .i64 (from_:Int),.int .i64 x,.ptr b 0,.int .i64 i,.int .u8 c0,.int .u8 c1,.int .u8 c2,.int .u8 c3,.int .u8 c4,.int .u8 c5,.int .u8 c6,.int .u8 c7,.int .u8 c8,.int .u8 c9] t (fun v t'=>v=.agg (cB (wrL k x i.toNat l))/\lD b t t'):=by
 intro k;induction k with
 | zero=>
  intro from_ x i l t h1 h2 h3 h4;refine j97_2 _ _ _ _ _ _ _ _ _ _ _ _ _ _ (jB (nLe (by omega)) (uD (pY h4 h3) (jJ (zkt h3) (mB rfl ?_))))
  show zA.agg _=_/\_
  rw[zh6 h3];exact⟨rfl,fun _ _=>rfl⟩
 | succ k ih=>
  intro from_ x i l t h1 h2 h3 h4;obtain⟨n,rfl⟩:∃n:Nat,i=(n:Int):=⟨i.toNat,by omega⟩
  refine j97_2 _ _ _ _ _ _ _ _ _ _ _ _ _ _ (mB (yLe (by omega)) (iA (idx164 (by omega)) (qG fun m _ _=>?_)))
  rw[(zye x).1]
  obtain⟨t',g1,g2,g3⟩:=h4.store1 (v:=.int .u8 ((z60 x:Nat):Int)) hb ty5 rfl rfl rfl (j:=n) (by rw[eR];omega)
  refine⟨_,_,g1 m,rG ?_⟩
  rw[cB_set]at g2;rw[wrap_i64 (n:=(n:Int)-1) (by omega) (by omega)]
  have:=ih from_ (tA .i64 (Int.tdiv x 10)) ((n:Int)-1) (l.set n (z60 x)) t' (by omega) (by omega) (by rw[ydh];exact h3) g2
  refine Jq.mono this fun v t2 hh=>⟨?_,fun c hc=>by rw[hh.2 c hc,g3 c hc]⟩
  rw[hh.1];have e1:((n:Int)-1).toNat=n-1:=by omega
  have e2:((n:Int)).toNat=n:=by omega
  rw[e1,e2];rfl
def zqs{l:List Nat}(hl:l.length=10){from_ k:Nat}(hk:from_+k<=10)(h1:1<=from_+k)(x:Int):wC yA F 97 [.agg (cB l),.int .i64 (from_:Int),.int .i64 (k:Int),.int .i64 x] t=some (.agg (cB (wrL k x (from_+k-1) l))):=by
 obtain⟨a,b,c,d,e,f,g,h,i,j,rfl⟩:=ten hl
 refine zen ?_
 show Wf 97 [.agg [.int .u8 a,.int .u8 b,.int .u8 c,.int .u8 d,.int .u8 e,.int .u8 f,.int .u8 g,.int .u8 h,.int .u8 i,.int .u8 j],.int .i64 (from_:Int),.int .i64 (k:Int),.int .i64 x] t _
 refine w97 _ _ _ _ _ _ _ _ _ _ _ _ _ ?_
 unfold t97;refine qG fun n hn hbase=>?_
 obtain⟨t',e1,hc,hle,ho⟩:=sU hn (cB [a,b,c,d,e,f,g,h,i,j]) none
 refine⟨.ptr n 0,⟨n+1,t'⟩,by show some (zA.ptr n 0,bD ⟨n,t⟩ (cB [a,b,c,d,e,f,g,h,i,j]) none)=_;rw[e1],rG ?_⟩
 rw[wrap_i64 (n:=(from_:Int)+(k:Int)) (by omega) (by omega),wrap_i64 (by omega) (by omega)]
 have:=zih (c0:=0) (c1:=0) (c2:=0) (c3:=0) (c4:=0) (c5:=0) (c6:=0) (c7:=0) (c8:=0) (c9:=0) hbase k from_ x ((from_:Int)+(k:Int)-1) _ t' (by omega) hk hl hc
 refine Jq.mono this fun v t2 hh=>⟨?_,fun b' y hy=>?_⟩
 ·rw[hh.1,show((from_:Int)+(k:Int)-1).toNat=from_+k-1 by omega]
 ·have:b'≠n:=fun e=>by rw[e,hn]at hy;cases hy
  rw[hh.2 b' this];exact hle _ _ hy
def zyu (d:Int):List Nat:=
 wrL 2 (tA .i64 ((tA .i64 (d-ze9 (oM d)))+1)) 9 (wrL 2 (tA .i64 ((Int.tmod (oM d) 12)+1)) 6 (wrL 4 (tA .i64 (1900+(tA .i64 (Int.tdiv (oM d) 12)))) 3 [0,0,0,0,45,0,0,45,0,0]))
def zqi(d:Int):(zyu d).length=10/\tB 256 (zyu d):=by
 have h0:tB 256 [0,0,0,0,45,0,0,45,0,0]:=by intro x hx;simp at hx;omega
 have h1:=zb7 4 (tA .i64 (1900+(tA .i64 (Int.tdiv (oM d) 12)))) 3 _ h0
 have h2:=zb7 2 (tA .i64 ((Int.tmod (oM d) 12)+1)) 6 _ h1.2
 have h3:=zb7 2 (tA .i64 ((tA .i64 (d-ze9 (oM d)))+1)) 9 _ h2.2
 exact⟨by unfold zyu;rw[h3.1,h2.1,h1.1];rfl,h3.2⟩
def z5h{K:zA->T}{Q:bB}{l:List Nat}{p from_ k:Nat}{x:Int}(hl:l.length=10)(hlt:tB 256 l)(hp:yA.base<=p)(hc:vD t p none (cB l))(hk:from_+k<=10)(h1:1<=from_+k)
  (h:∀t',vD t' p none (cB (wrL k x (from_+k-1) l))->lD p t t'->∀u,wp 58 (K u) t' Q) :
  wp 58 (.call 97 [.agg [(.int .u8 ((cellsOf (cB l)).i 0)),(.int .u8 ((cellsOf (cB l)).i 1)),(.int .u8 ((cellsOf (cB l)).i 2)),(.int .u8 ((cellsOf (cB l)).i 3)),(.int .u8 ((cellsOf (cB l)).i 4)),(.int .u8 ((cellsOf (cB l)).i 5)),(.int .u8 ((cellsOf (cB l)).i 6)),(.int .u8 ((cellsOf (cB l)).i 7)),(.int .u8 ((cellsOf (cB l)).i 8)),(.int .u8 ((cellsOf (cB l)).i 9))],.int .i64 (from_:Int),.int .i64 (k:Int),.int .i64 x] fun a=>.asG z10 a fun X=>
   .heavy (sC yA 164 (.ptr p 0) (.agg [(.int .u8 (X.i 0)),(.int .u8 (X.i 1)),(.int .u8 (X.i 2)),(.int .u8 (X.i 3)),(.int .u8 (X.i 4)),(.int .u8 (X.i 5)),(.int .u8 (X.i 6)),(.int .u8 (X.i 7)),(.int .u8 (X.i 8)),(.int .u8 (X.i 9))])) K) t Q:=by
 have hw:=zb7 k x (from_+k-1) l hlt
 refine mC ?_
 rw[zh6 hl,q97,zqs hl hk h1,sA];refine jJ (zkt (by rw[hw.1,hl])) (qG fun n _ _=>?_)
 rw[zh6 (by rw[hw.1,hl])]
 obtain⟨t',g1,g2,g3⟩:=zbb hc hp hl (m:=wrL k x (from_+k-1) l) (by rw[hw.1,hl])
 exact⟨_,_,g1 n,h t' g2 g3 _⟩
def cal_ok(hG:vJ t){d:Int}(h0:0<=d)(h1:d<65536):wC yA F 58 [.int .i64 d] t=some (.str (zyu d)):=by
 refine zen (w58 _ ?_)
 unfold t58;refine mC ?_
 rw[q96,ymd_ok hG h0 h1,sA];unfold ymdD;refine iA rfl (eD (iA rfl (eD (iA rfl (eD (iA rfl (eD (jB (by rw[yEq rfl];simp) (mB rfl ?_)))))))))
 refine qG fun p hp hbase=>?_
 obtain⟨t1,e1,c1,l1,o1⟩:=iT (C:=yA) zt7 hp
 refine⟨_,_,e1,?_⟩
 have c1':vD t1 p none (cB [0,0,0,0,0,0,0,0,0,0]):=c1
 refine qG fun n _ _=>?_
 obtain⟨t2,e2,c2,o2⟩:=zbb c1' hbase rfl (m:=[0,0,0,0,45,0,0,45,0,0]) rfl
 refine⟨_,_,e2 n,?_⟩
 have h0':tB 256 [0,0,0,0,45,0,0,45,0,0]:=by intro x hx;simp at hx;omega
 refine uD (pY c2 rfl) (jJ (zkt rfl) ?_)
 refine z5h (from_:=0) (k:=4) rfl h0' hbase c2 (by omega) (by omega) fun t3 c3 o3 _=>?_
 have w3:=zb7 4 (tA .i64 (1900+(tA .i64 (Int.tdiv (oM d) 12)))) 3 _ h0'
 refine uD (pY c3 w3.1) (jJ (zkt w3.1) ?_)
 refine z5h (from_:=5) (k:=2) w3.1 w3.2 hbase c3 (by omega) (by omega) fun t4 c4 o4 _=>?_
 have w4:=zb7 2 (tA .i64 ((Int.tmod (oM d) 12)+1)) 6 _ w3.2
 rw[w3.1]at w4;refine uD (pY c4 w4.1) (jJ (zkt w4.1) ?_)
 refine z5h (from_:=8) (k:=2) w4.1 w4.2 hbase c4 (by omega) (by omega) fun t5 c5 o5 _=>?_
 have hL:=zqi d
 have c5':vD t5 p none (cB (zyu d)):=c5
 have hs:gF yA 164 ⟨0,t5⟩ (.ptr p 0) none none=some (.slice p 0 10 10):=by
  obtain⟨c,g,_⟩:=c5'
  have hk:fC ⟨0,t5⟩ p=some (c,(cB (zyu d)).length,none):=by unfold fC;rw[g];rfl
  unfold gF;rw[zt7,vA];unfold iJ;simp only[zA.asStr,zA.asSlice,zA.asPtr,rD.asArr,vA];unfold fK;rw[ty5,vA];have hb2:dL 10 10 none none=some (0,10):=rfl
  rw[hb2,vA];unfold rI sH;rw[hk];rfl
 have hv:xK yA 32 9 ⟨0,t5⟩ (.slice p 0 10 10)=some (.str (zyu d)):=zsv zt5 ty9 rfl rfl rfl ty5 rfl c5' hL.1 (fun j x hj=>by
  unfold cB;rw[ybu,hj];rfl) hL.2
 refine uD hs (uD hv (iH ⟨rfl,fun b y hy=>?_⟩))
 have:b≠p:=fun e=>by rw[e,hp]at hy;cases hy
 rw[o5 b this,o4 b this,o3 b this,o2 b this];exact l1 _ _ hy
end
end Go.Proofs
namespace Go.Am
open Go Go.RowKit
def zza{C:oA}{F:Tr xB}{f:Nat}{args:List zA}{t:Tr qA}{Q:bB}{g:List zA->xA->Option (zA × xA)}(hg:C.prims.get f=some g)(h:∀X HA,Ov C.base t X HA->∃v t' HA',g args HA=some (v,HA')/\Ov C.base t' X HA'/\Q v t')(hf:Nat.blt f yo=true:=by rfl):Wc C F f args t Q:=by
 intro X HA ho;rw[dU hf,hg];obtain⟨v,t',HA',h1,h2,h3⟩:=h X HA ho
 exact⟨v,t',HA',X,h1,h2,XLe.refl _,h3⟩
end Go.Am
namespace Go.Proofs
open Go Go.Am
variable [jC]
variable {t tf:Tr qA}{bx T:Nat}{s m:List Nat}{ex:List zA}
def BX (T:Nat)(ex:List zA)(tf t:Tr qA)(bx:Nat)(s:List Nat):Prop:=
 yA.base<=bx/\tf.get bx=none/\dA tf t/\tB 256 s/\zfu pU T (ex.length+2)=true/\∃p tv,(p=zA.nilptr\/p=.ptr bx 0)/\vD t bx (some (.ty T)) (p::tv::ex)/\bF (.ty 5) yA.base tf t 1 (sB .u8 s) tv/\¬ pJ tv bx
def BX.le(h:BX T ex tf t bx s):dA tf t:=h.2.2.1
def BX.check{Q:bB}(h:BX T ex tf t bx s)(hQ:∀t',BX T ex tf t' bx s->Q (.tup []) t'):Wc yA F 46 [.ptr bx 0] t Q:=by
 have h0:=h
 obtain⟨h1,h2,h3,ha,hM,p,tv,hp,⟨c,h4,h4'⟩,h5,h6⟩:=h
 have hg:yA.prims.get 46=some pChk:=by kernel_rfl
 refine zza hg fun X HA ho=>?_
 have hk:fC HA bx=some (c,(p::tv::ex).length,some (.ty T)):=by unfold fC;rw[ho.up h4];rfl
 have hc0:c.get 0=some p:=h4' 0 p rfl
 rcases hp with rfl | rfl
 ·refine⟨.tup [],t.set bx (.cells (c.set 0 (.ptr bx 0)) (zA.nilptr::tv::ex).length (some (.ty T))),setBlk HA bx (.cells (c.set 0 (.ptr bx 0)) (zA.nilptr::tv::ex).length (some (.ty T))),?_,ho.setBlk h4 _,hQ _ ?_⟩
  ·unfold pChk zc3
   simp only[];rw[hk,vA,hc0,vA];simp only[];have e1:(!Nat.blt bx (256+jC.n))=true:=by
    cases hq:Nat.blt bx (256+jC.n)with
    | true=>
     have h3:=dB.1 hq
     have h1':256+jC.n<=bx:=h1
     omega
    | false=>rfl
   have e2:zfu pU T (zA.nilptr::tv::ex).length=true:=hM
   rw[e1,e2];rfl
  ·refine⟨h1,h2,fun b u hb=>?_,ha,hM,.ptr bx 0,tv,.inr rfl,⟨_,by rw[Tr.get_set,yab rfl];rfl,fun j a hj=>?_⟩,h5.keep' fun b hb=>?_,h6⟩
   ·have:b≠bx:=fun e=>by rw[e,h2]at hb;cases hb
    rw[Tr.get_set,yaa this];exact h3 _ _ hb
   ·rw[Tr.get_set]
    split
    ·rename_i e;subst e;exact hj
    ·rename_i e
     refine h4' j a ?_
     cases j with
     | zero=>exact absurd rfl e
     | succ j=>exact hj
   ·have:b≠bx:=fun e=>h6 (e ▸ hb)
    rw[Tr.get_set,yaa this]
 ·refine⟨.tup [],t,HA,?_,ho,hQ _ h0⟩
  unfold pChk zc3;simp only[];rw[hk,vA,hc0,vA];simp only[];rw[pB.2 rfl,pB.2 rfl];rfl
def fa77{b:Nat}:vB yA 77 1 (.ptr b 0)=some (.ptr b 1):=by kernel_rfl
def BX.write{Q:bB}(h:BX T ex tf t bx s)(hm:m≠[])(hlt:tB 256 m)(hl:s.length+m.length<400000)(hQ:∀v t',BX T ex tf t' bx (s++m)->Q v t'):Wc yA F 23 [.ptr bx 0,.str m] t Q:=by
 refine w23 _ _ ?_
 unfold t23;refine mC ?_
 rw[q46];refine h.check fun t' h'=>?_
 obtain⟨h1,h2,h3,ha,hM,p,tv,hp,h4,h5,h6⟩:=h'
 refine iA sF (iA fa77 (uD (h4.load1 (j:=1) zt5 rfl rfl) (qG fun n hn hbase=>?_)))
 have hbn:n≠bx:=by intro e;obtain⟨c,hh,_⟩:=h4;rw[<- e,hn]at hh;cases hh
 obtain⟨t1,g1,g2,g3,g4⟩:=zgh el32 ⟨_,ty9,rfl⟩ co5 h5 hm hl hn hbase h3
 refine⟨_,_,g1,iA sF (iA fa77 (qG fun n2 _ _=>?_))⟩
 have h4':vD t1 bx (some (.ty T)) (p::tv::ex):=h4.off (g4 bx hbn.symm h6)
 obtain⟨t2,e1,e2,e3⟩:=h4'.store1 (v:=.slice n 0 (s.length+m.length) (s.length+m.length)) h1 zt5 rfl rfl rfl (j:=1) (by simp)
 refine⟨_,_,e1 n2,hQ _ _ ⟨h1,h2,g3.off h2 e3,fun x hx=>?_,hM,p,_,hp,e2,g2.keep' fun b hb=>e3 b fun e=>?_,fun e=>?_⟩⟩
 ·rcases yaf.1 hx with hx | hx
  ·exact ha x hx
  ·exact hlt x hx
 ·rw[oP]at hb;exact hbn (hb.symm.trans e)
 ·rw[oP]at e;exact hbn e.symm
def BX.len(h:BX T ex tf t bx s):wC yA F 24 [.ptr bx 0] t=some (.int .i64 (s.length:Int)):=by
 obtain⟨h1,h2,h3,ha,hM,p,tv,hp,h4,h5,h6⟩:=h
 refine kC.2 (w24 _ ?_)
 unfold t24;have hlen:=h5.len
 rw[iE]at hlen;exact iA sF (iA fa77 (uD (h4.load1 (j:=1) zt5 rfl rfl) (iA hlen (eD ⟨rfl,rfl⟩))))
def zdc:∀ {l:List Nat},tB 256 l->tF Go.Am.byteOf (l.map fun(n:Nat)=>zA.int .u8 (n:Int))=some l
 | [],_=>rfl
 | x::l,h=>by
  have hx:Go.Am.byteOf (.int .u8 (x:Int))=some x:=by
   show jA (Nat.blt x 256) (some x)=_
   rw[dB.2 (h x (.head _))];rfl
  rw[ycm,pK,hx,vA,zdc fun y hy=>h y (.tail _ hy)]
  rfl
def BX.string{Q:bB}(h:BX T ex tf t bx s)(hs:s≠[])(hl:s.length<400000)(hQ:∀t',dA tf t'->Q (.str s) t'):Wc yA F 25 [.ptr bx 0] t Q:=by
 obtain⟨h1,h2,h3,ha,hM,p,tv,hp,⟨c,h4,h4'⟩,h5,h6⟩:=h
 have hg:yA.prims.get 25=some pStr:=by kernel_rfl
 rcases h5 with⟨rfl,h5⟩ | ⟨b,cl,d,rfl,k0,k1,k2,k3,k4⟩
 ·exact absurd (ycc.1 (by rw[<- iE (k:=.u8),h5];rfl)) hs
 have hpos:0<s.length:=List.length_pos_iff.2 hs
 rw[iE,Nat.mul_one]at k2;rw[tS]at k4;subst k4;have hbytes:∀j a,(s.map fun(n:Nat)=>zA.int .u8 (n:Int))[j]?=some a->d.get j=some a:=by
  intro j a hj;have hj':(fL .u8 s)[j]?=some [a]:=by
   unfold fL;rw[ybu]at hj ⊢
   cases hx:s[j]? with
   | none=>rw[hx]at hj;cases hj
   | some x=>rw[hx]at hj;cases hj;rfl
  have:=(k3 j _ hj').2 0 a rfl
  rw[Nat.mul_one,yct]at this;exact this
 refine zza hg fun X HA ho=>?_
 have hk:fC HA bx=some (c,(p::zA.slice b 0 (sB .u8 s).length (sB .u8 s).length::ex).length,some (.ty T)):=by unfold fC;rw[ho.up h4];rfl
 have hk2:fC HA b=some (d,s.length,some (.ty 5)):=by unfold fC;rw[ho.up k2];rfl
 have hc1:=h4' 1 _ rfl
 refine⟨.str s,t.del b,⟨HA.next,HA.t.del b⟩,?_,ho.delBlk k2,hQ _ fun e u he=>?_⟩
 ·unfold pStr uU
  simp only[];rw[hk,vA,hc1,vA];simp only[zA.asSlice,vA,iE];rw[hk2,vA];simp only[];have hm:=zwb hbytes s.length 0 (by simp)
  rw[ycr,yca (by simp)]at hm
  rw[hm,vA,zdc ha,vA];have e1:(!Nat.blt b (256+jC.n))=true:=by
   cases hq:Nat.blt b (256+jC.n)with
   | true=>
    have h3:=dB.1 hq
    have h1':256+jC.n<=b:=k0
    omega
   | false=>rfl
  rw[e1,pB.2 rfl,dB.2 hpos,vE.2 (ybk _),dB.2 (show s.length<1000000000 by omega),pB.2 rfl]
  rfl
 ·have:e≠b:=fun h=>by rw[h,k1]at he;cases he
  rw[Tr.get_del,yaa this];exact h3 _ _ he
end Go.Proofs
namespace Go.Am
open Go Go.RowKit
def zer{α:Type}(f:Nat->Option α):Nat->Tr α
 | 0=>.leaf
 | n+1=>match f n with
  | some v=>(zer f n).set n v
  | none=>zer f n
def pN{α:Type}(f:Nat->Option α):∀(n a:Nat),(zer f n).get a=if a<n then f a else none:=by
 intro n;induction n with
 | zero=>intro a;rw[yaa (by omega)];exact Tr.get_leaf _
 | succ n ih=>
  intro a;unfold zer
  cases hf:f n with
  | some v=>
   simp only[];rw[Tr.get_set,ih];by_cases h:a=n
   ·subst h;rw[yab rfl,yab (by omega),hf]
   ·rw[yaa h]
    by_cases h2:a<n
    ·rw[yab h2,yab (by omega)]
    ·rw[yaa h2,yaa (by omega)]
  | none=>
   simp only[];rw[ih];by_cases h:a=n
   ·subst h;rw[yaa (by omega),yab (by omega),hf]
   ·by_cases h2:a<n
    ·rw[yab h2,yab (by omega)]
    ·rw[yaa h2,yaa (by omega)]
def zqk (N:Nat):Value->Option zA
 | .bool b=>some (.bool b)
 | .int k n=>some (.int k n)
 | .string s=>some (.str (aD s))
 | .slice none 0 0=>some .nilslice
 | .slice (some _) 0 0=>some (.slice 0 0 0 0)
 | .slice (some ⟨b,off,none⟩) len cap=>if b<N then some (.slice (256+b) off len cap)else none
 | _=>none
def absB (N:Nat):Obj->Option qA
 | .cells cs _ _=>some (.cells (zer (fun j=>(cs[j]?).bind (zqk N)) cs.size) cs.size none)
 | _=>none
def nG (w:World):Tr qA:=zer (fun a=>if a<256 then(w.heap[a]?).bind (absB w.heap.size)else(w.heap[a-256]?).bind (absB w.heap.size)) (256+w.heap.size)
def muW (w:World):Mu:=⟨fun a=>if a<256 then some ⟨a,true,0,0,true⟩else if a<256+w.heap.size then some ⟨a-256,true,0,0,true⟩else none,fun _=>none⟩
section
variable {w:World}
def zic{v:Value}{a:zA}(h:zqk w.heap.size v=some a):wA (muW w) a v:=by
 unfold zqk at h;split at h
 ·cases h;rw[wA]
 ·cases h;rw[wA]
 ·cases h;rw[wA];exact⟨_,rfl,rfl⟩
 ·cases h;rw[wA]
 ·cases h;rw[wA];exact .inr ⟨rfl,rfl,rfl,_,_,rfl,.inl ⟨rfl,rfl⟩⟩
 ·split at h
  ·rename_i hb
   cases h;rename_i b off len cap _;rw[wA];refine .inl ⟨⟨b,true,0,0,true⟩,cap,?_,rfl,ybk _,fun _=>rfl,fun h=>by cases h⟩
   show(if 256+b<256 then some (⟨256+b,true,0,0,true⟩:BI)else if 256+b<256+w.heap.size then some ⟨256+b-256,true,0,0,true⟩else none)=_
   rw[yaa (by omega),yab (by omega),show 256+b-256=b by omega]
  ·cases h
 ·cases h
def zqm{o:Obj}{x:qA}(h:absB w.heap.size o=some x)(b:Nat):aG (muW w) ⟨b,true,0,0,true⟩ x o/\x.asLoop=none/\x.asDeferred=none:=by
 cases o<;>first | (cases h;done) | skip
 rename_i cs elem fr
 cases h;refine⟨⟨cs,elem,fr,rfl,ybk _,.inl rfl,fun j v hv=>?_,rfl⟩,rfl,rfl⟩
 rw[pN]at hv;split at hv
 case isFalse=>cases hv
 rename_i hj
 cases hc:cs[j]? with
 | none=>rw[hc]at hv;cases hv
 | some u=>
  rw[hc]at hv;exact⟨hj,u,rfl,zic hv⟩
def hrelW:cA (256+w.heap.size) w.heap.size (muW w) ⟨256+w.heap.size,nG w⟩ w:=by
 have hget:∀a x,(nG w).get a=some x->∃b o,b<w.heap.size/\w.heap[b]?=some o/\absB w.heap.size o=some x/\a<256+w.heap.size/\b=(if a<256 then a else a-256):=by
  intro a x hx;unfold nG at hx;rw[pN]at hx;split at hx
  case isFalse=>cases hx
  rename_i hlt;split at hx
  ·rename_i h
   cases ho:w.heap[a]? with
   | none=>rw[ho]at hx;cases hx
   | some o=>rw[ho]at hx;exact⟨a,o,(ybe.1 ho).1,ho,hx,hlt,by rw[yab h]⟩
  ·rename_i h
   cases ho:w.heap[a-256]? with
   | none=>rw[ho]at hx;cases hx
   | some o=>rw[ho]at hx;exact⟨a-256,o,(ybe.1 ho).1,ho,hx,hlt,by rw[yaa h]⟩
 have hmu:∀a,(muW w) a=if a<256 then some ⟨a,true,0,0,true⟩else if a<256+w.heap.size then some ⟨a-256,true,0,0,true⟩else none:=fun _=>rfl
 have big:∀a,256+w.heap.size<=a->(muW w) a=none:=fun a h=>by rw[hmu,yaa (by omega),yaa (by omega)]
 have same:∀a x i,(nG w).get a=some x->(muW w) a=some i->∃o,w.heap[i.b]?=some o/\i.b<w.heap.size/\absB w.heap.size o=some x/\i=⟨i.b,true,0,0,true⟩:=by
  intro a x i hx hi;obtain⟨b,o,h1,h2,h3,h4,h5⟩:=hget a x hx
  rw[hmu]at hi;split at hi
  ·rename_i h
   cases hi;rw[yab h]at h5;subst h5;exact⟨o,h2,h1,h3,rfl⟩
  ·rename_i h
   rw[yaa h]at h5;have hi:=yci hi
   have hb:i.b=b:=by rw[<- hi,h5]
   refine⟨o,by rw[hb];exact h2,by rw[hb];exact h1,h3,by rw[<- hi]⟩
 refine⟨by omega,fun g hg=>by rw[hmu,yab hg],fun a x i _ hx hi=>?_,ybk _,ybk _,fun a ha=>⟨big a ha,?_⟩,fun a x i hx hi=>?_,fun a i ha hi=>?_,fun a b x y i j hx _ hi _ ha _ _=>?_,fun a x t h=>by cases h⟩
 ·obtain⟨o,_,h2,h3,_⟩:=same a x i hx hi
  exact⟨h2,(zqm h3 0).2⟩
 ·show(nG w).get a=none
  unfold nG;have ha:256+w.heap.size<=a:=ha
  rw[pN,yaa (by omega)]
 ·obtain⟨o,h1,_,h3,h4⟩:=same a x i hx hi
  exact⟨o,h1,by rw[h4];exact(zqm h3 _).1⟩
 ·rw[big a ha]at hi;cases hi
 ·rw[big a ha]at hi;cases hi
end
end Go.Am
