/- Gcd, and the validity of fractions. -/
import Derived.Test.YtfijloeeppcipaaGreatDoorD21
set_option linter.all false
noncomputable section
set_option maxRecDepth 100000
namespace Go.Proofs
open Go Go.Am
variable [fC]
variable {t:Tr rA}
def zai{neg:Bool}{l:List Nat}(h:qJ neg l=true):norm l:=by
 intro hne;unfold qJ at h;rw[yaa hne,ybb]at h;have:=of_decide_eq_true h.2
 intro e;exact this (by rw[List.getLast?_eq_some_getLast hne,e])
def zjr{l:List cH}{v:zA}(hv:cA t 2 (l.map cH.d) v)(hb:∀w∈l,w.limbs.length<1125899906842624)(hn:l.length<1125899906842624):∀(k i:Nat),i+k=l.length->jp 224 2 [v,.int .i64 (l.length:Int),.int .i64 (i:Int)] t (fun r m=>r=.bool ((l.drop i).all fun w=>qJ w.neg w.limbs)/\m=t):=by
 intro k;induction k with
 | zero=>
  intro i hi;refine z7e _ _ _ ?_
  simp only[zw7,qA,kD];rw[yaa (by omega),ybt (by omega)]
  (first | exact⟨rfl,rfl⟩ | exact⟨rfl,trivial⟩ | trivial)
 | succ k ih=>
  intro i hi;have hlt:i<l.length:=by omega
  have hx:l[i]?=some l[i]:=ybd hlt
  obtain⟨b,off,cs,g1,g2,_,_,g5⟩:=zF.at sl279 (by simp) hv (i:=i) (d:=l[i].d) (by simp[hx])
  obtain⟨u,rfl,hu⟩:=eU g5
  have hv1:=zcb (neg:=l[i].neg) (hb _ (ycj hlt)) hu
  refine z7e _ _ _ ?_
  simp only[zw7,qA,kD];rw[yab (by omega),g1,vA,g2,sK,vA,lI g5 (cH.zs _)]
  simp only[vA,cellsOf,sP,zfh,yaz,yba];have hone:tC zA.one [.bool l[i].neg,u]=true:=by
   show(bif zA.one (.bool l[i].neg)then(bif zA.one u then true else false)else false)=true
   rw[hu.one];rfl
  refine zo2 hone ?_
  rw[q187,hv1];simp only[vA,qU,zis];rw[ybl hlt,ycg]
  cases hq:qJ l[i].neg l[i].limbs with
  | false=>simp
  | true=>
   simp only[ycn,Bool.true_eq_false,if_false];rw[wrap_i64 (by omega) (by omega)]
   exact ih (i+1) (by omega)
def zp3{l:List cH}{v:zA}(hv:cA t 2 (l.map cH.d) v)(hb:∀w∈l,w.limbs.length<1125899906842624)(hn:l.length<1125899906842624):lB yA F 224 [v] t=some (.bool (l.all fun w=>qJ w.neg w.limbs)):=by
 refine jC.2 (w224 _ ?_)
 simp only[t224,qA,hv.len,vA,oB,ybf];have:=zjr hv hb hn l.length 0 (by omega)
 rw[ycr]at this;exact this
def gcd_ok{n d:cH}{u v:zA}{Q:uC}(hu:cA t 1 (lE n.limbs) u)(hv:cA t 1 (lE d.limbs) v)(hn:n.limbs.length<700000)(hd:d.limbs.length<700000)(hnl:qB 65536 n.limbs)(hdl:qB 65536 d.limbs)(hnv:qJ n.neg n.limbs=true)(hdv:qJ d.neg d.limbs=true)
  (hQ:∀t' g rv,zB t t'->cA t' 1 (lE g) rv->qB 65536 g->norm g->val 65536 g=Nat.gcd (val 65536 n.limbs) (val 65536 d.limbs)->Q (.tup [.agg [.bool false,rv],.int .i64 0]) t'):Wc yA F 210 [.agg [.bool n.neg,u],.agg [.bool d.neg,v]] t Q:=by
 have hBB:=gK
 refine w210 _ _ _ _ ?_
 simp only[t210,qA];intro b hb hbase;obtain⟨t1,g1,g2,g3,g4⟩:=zle (C:=yA) (T:=279) (el:=29) (sz:=2) (n:=2) (cl:=[[.bool n.neg,u],[.bool d.neg,v]]) (ps:=[(0,.agg [.bool n.neg,u]),(1,.agg [.bool d.neg,v])]) ty279 rfl ty29 rfl rfl (by decide) rfl (fun i cs hi=>by
  rcases i with _ | _ | i
  ·simp at hi;subst hi;rfl
  ·simp at hi;subst hi;rfl
  ·simp at hi) rfl hb
 rw[g1,vA];have hw:cA t1 2 ([n,d].map cH.d) (.slice b 0 2 2):=⟨_,g2,by
  simp only[ycm,List.map_nil,eH,pI];refine⟨_,_,rfl,?_,_,_,rfl,?_,rfl⟩
  ·unfold cH.d
   rw[gJ];refine⟨[[.bool n.neg],[u]],rfl,?_⟩
   simp only[eH,pI,kR,fJ];exact⟨_,_,rfl,rfl,_,_,rfl,⟨u,rfl,hu.mono g3⟩,rfl⟩
  ·unfold cH.d
   rw[gJ];refine⟨[[.bool d.neg],[v]],rfl,?_⟩
   simp only[eH,pI,kR,fJ];exact⟨_,_,rfl,rfl,_,_,rfl,⟨v,rfl,hv.mono g3⟩,rfl⟩⟩
 have hall:=zp3 hw (fun w hw=>by
  rcases ybs.1 hw with rfl | hw
  ·omega
  ·rw[ydd.1 hw];omega) (by simp)
 rw[q224,hall];simp only[vA,qU,zis,ycg,yck,hnv,hdv,Bool.and_self,Bool.true_eq_false,if_false];rw[q190];refine zog (hu.mono g3) (by omega) hnl fun t2 v2 k1 k2=>?_
 rw[yab hv.same,q190];refine zog ((hv.mono g3).mono k1) (by omega) hdl fun t3 v3 m1 m2=>?_
 have an:=xX hnl
 have ad:=xX hdl
 rw[<- hBB]at an ad;rw[q226];refine cd_ok (k2.mono m1) m2 an ad (eX (zai hnv)) (eX (zai hdv)) (by rw[dN];omega) (by rw[dN];omega) fun t4 r rv p1 p2 p3 p4 p5=>?_
 rw[hBB]at p3;have vn:∀l,val BB (nF l)=val 65536 l:=fun l=>by rw[hBB];exact zc2 l
 rw[vn,vn]at p5;have hrl:r.length<400000:=by
  have hB1:1<BB:=by omega
  rcases yav (val 65536 n.limbs)with h0 | h0
  ·rw[h0,Nat.gcd_zero_left,<- vn]at p5
   have:=lO hB1 ad p4 (Nat.le_of_eq p5)
   rw[dN]at this;omega
  ·have h1:=Nat.gcd_le_left (val 65536 d.limbs) h0
   rw[<- p5,<- vn]at h1;have:=lO hB1 an p4 h1
   rw[dN]at this;omega
 rw[q225];refine zv8 p2 hrl p3 fun t5 v5 s1 s2=>?_
 rw[eV p4]at s2 ⊢
 have eG:zm8 [(.bool false),.nilslice] (.agg [.bool (if r=[]then false else false),v5])=some (cellsOf [.bool (if r=[]then false else false),v5]):=dL (by
  show(true&&(zsd .nilslice v5&&true))=true
  rw[uV s2];rfl)
 rw[eG];have hone:tC zA.one [.bool false,v5]=true:=by
  show(bif zA.one (.bool false)then(bif zA.one v5 then true else false)else false)=true
  rw[s2.one];rfl
 simp only[vA,cellsOf,sP,zfh,yaz,yba,ite_self,hone,if_true];refine hQ t5 (mE (pG r)) v5 (g3.trans (k1.trans (m1.trans (p1.trans s1)))) s2 (rQ (zaw p3)) (gP _) ?_
 rw[cM,<- p5,zc1,hBB]
end Go.Proofs
namespace Go.Am
def qF.fit(f:qF):Prop:=f.ok/\qB 65536 f.n.limbs/\qB 65536 f.d.limbs
def mH.fit(v:mH):Prop:=v.kind<256/\v.f.fit /\ -9223372036854775808<=v.i/\v.i<9223372036854775808
mutual
def dA.fit:dA->Prop
 | .mk op name v args=>op<256/\name.length<cC/\(∀c∈name,c<256)/\v.fit/\args.length<cC/\dA.fits args
def dA.fits:List dA->Prop
 | []=>True
 | x::l=>x.fit/\dA.fits l
end
def dA.fits_mem:∀ {l:List dA},dA.fits l->∀x∈l,x.fit
 | [],_,_,h=>by cases h
 | y::l,h,x,hx=>by
  unfold dA.fits at h;rcases ybs.1 hx with rfl | hx
  ·exact h.1
  ·exact dA.fits_mem h.2 x hx
mutual
def dA.fit_ok:∀ {x:dA},x.fit->x.ok
 | .mk op name v args,h=>by
  unfold dA.fit at h;unfold dA.ok;exact⟨h.2.1,h.2.2.2.1.2.1.1,h.2.2.2.2.1,dA.fits_oks h.2.2.2.2.2⟩
def dA.fits_oks:∀ {l:List dA},dA.fits l->dA.oks l
 | [],_=>by unfold dA.oks;trivial
 | x::l,h=>by
  unfold dA.fits at h;unfold dA.oks;exact⟨dA.fit_ok h.1,dA.fits_oks h.2⟩
end
def i64 (n:Int):Prop := -9223372036854775808<=n/\n<9223372036854775808
def vH.fit(r:vH):Prop:=i64 r.a/\i64 r.b/\i64 r.known/\r.f.fit
def qE.fit(x:qE):Prop:=x.name.length<cC/\x.rows.length<cC/\∀r∈x.rows,r.fit
def jE.fit(x:jE):Prop:=x.name.length<cC/\x.kind<256
def vF.fit(x:vF):Prop:=x.name.length<cC/\x.label.length<cC/\i64 x.from_/\i64 x.to/\i64 x.known/\x.when_.fit/\x.then_.fit
structure eC.fit (p:eC):Prop where
 name:p.name.length<cC
 ndefs:p.defs.length<cC
 ntables:p.tables.length<cC
 nclauses:p.clauses.length<cC
 defs:∀d∈p.defs,d.fit
 tables:∀d∈p.tables,d.fit
 clauses:∀d∈p.clauses,d.fit
end Go.Am
namespace Go.Proofs
open Go Go.Am
variable [fC]
variable {t:Tr rA}
def sameW(a b:cH):Bool:=(a.neg == b.neg)&&decide (a.limbs=b.limbs)
def sameF(a b:qF):Bool:=sameW a.n b.n&&sameW a.d b.d
def sameV(a b:mH):Bool:=decide (a.kind=b.kind)&&decide (a.i=b.i)&&sameF a.f b.f
def zg4(w:cH):Bool := !w.neg&&decide (w.limbs=[1])
def iN(f:qF):Bool:=decide (f.n.limbs.length<=256)&&decide (f.d.limbs.length<=256)&&qJ f.n.neg f.n.limbs&&qJ f.d.neg f.d.limbs && !f.d.neg&&decide (f.d.limbs≠[])&&(zg4 f.d||decide (Nat.gcd (val 65536 f.n.limbs) (val 65536 f.d.limbs)=1))
def zz6{a b:Int}:iB a b=decide (a<b):=by
 cases h:iB a b with
 | true=>rw[decide_eq_true (kD.1 h)]
 | false=>rw[decide_eq_false (fun k=>by rw[kD.2 k]at h;cases h)]
def z97{a b:Int}:nC a b=decide (a<=b):=by
 cases h:nC a b with
 | true=>rw[decide_eq_true (vG.1 h)]
 | false=>rw[decide_eq_false (fun k=>by rw[vG.2 k]at h;cases h)]
def jL{a b:Int}:iA a b=decide (a=b):=by
 cases h:iA a b with
 | true=>rw[decide_eq_true (rH.1 h)]
 | false=>rw[decide_eq_false (fun k=>by rw[rH.2 k]at h;cases h)]
def zh2{f:qF}{u v:zA}(hu:cA t 1 (lE f.n.limbs) u)(hv:cA t 1 (lE f.d.limbs) v)(hf:qF.fit f):lB yA F 166 [.agg [.bool f.n.neg,u,.bool f.d.neg,v]] t=some (.bool (iN f)):=by
 obtain⟨h1,h2,h3⟩:=hf
 unfold qF.ok cC at h1;have c1:lB yA F 186 [.agg [.bool f.n.neg,u,.bool f.d.neg,v]] t=some (.bool (!(decide (f.n.limbs.length<=256)&&decide (f.d.limbs.length<=256)))):=by
  refine jC.2 (w186 _ _ _ _ ?_)
  simp only[t186,qA,hu.len,hv.len,vA,oB,sV];have e:iB 256 (f.d.limbs.length:Int) = !decide (f.d.limbs.length<=256):=by
   rw[zz6,<- decide_not];congr 1;exact propext ⟨by omega,by omega⟩
  by_cases g1:f.n.limbs.length<=256
  ·rw[yaa (fun h=>absurd (kD.1 h) (by omega)),e]
   simp[g1]
  ·rw[yab (kD.2 (by omega))];simp[g1]
 have c2:=zcb (neg:=f.n.neg) (by omega) hu
 have c3:=zcb (neg:=f.d.neg) (by omega) hv
 have c4:lB yA F 168 [.agg [.bool f.n.neg,u,.bool f.d.neg,v]] t=some (.bool (zg4 f.d)):=by
  refine jC.2 (w168 _ _ _ _ ?_)
  simp only[t168,qA,q188,zi0 hv,vA,qU]; (first | exact⟨rfl,rfl⟩ | exact⟨rfl,trivial⟩ | trivial)
 refine nJ (w166 _ _ _ _ ?_)
 simp only[t166,qA,q186,c1,q187,c2,c3,q168,c4,vA,qU,hv.len,oB,sV,rH,zis];unfold iN;by_cases g1:f.n.limbs.length<=256
 ·by_cases g2:f.d.limbs.length<=256
  ·simp only[g1,g2,decide_true,ycn,Bool.not_true,ybq,if_false]
   cases hn:qJ f.n.neg f.n.limbs with
   | false=>simp
   | true=>
    cases hd:qJ f.d.neg f.d.limbs with
    | false=>simp
    | true=>
     simp only[Bool.true_eq_false,if_false,ycn]
     cases hg:f.d.neg with
     | true=>simp
     | false=>
      simp only[ybq,if_false,ycl,ycn];by_cases h0:f.d.limbs=[]
      ·rw[yab (by rw[h0];rfl)];simp[h0]
      ·have:f.d.limbs.length≠0:=fun e=>h0 (ycc.1 e)
       rw[yaa (by omega)]
       simp only[h0,ne_eq,not_false_eq_true,decide_true,ycn]
       cases ho:zg4 f.d with
       | true=>simp
       | false=>
        simp only[ybq,if_false,Bool.false_or];rw[q189];refine w189 _ _ _ _ ?_
        simp only[t189,qA,q210];have hn':=hn
        have hd':=hd
        rw[hg]at hd'
        refine gcd_ok (n:=f.n) (d:=⟨false,f.d.limbs⟩) hu hv (by omega) (by show f.d.limbs.length<_;omega) h2 h3 hn' hd' fun t' g rv k1 k2 k3 k4 k5=>?_
        have eG:zm8 [(.bool false),.nilslice] (.agg [.bool false,rv])=some (cellsOf [.bool false,rv]):=dL (by
         show(true&&(zsd .nilslice rv&&true))=true
         rw[uV k2];rfl)
        have hone:tC zA.one [.bool false,rv]=true:=by
         show(bif zA.one (.bool false)then(bif zA.one rv then true else false)else false)=true
         rw[k2.one];rfl
        simp only[rB,zA.asTup,tA,iF,yaz,yba,vA,oB,eG,cellsOf,sP,zfh,hone,if_true];rw[q188,zi0 k2];simp only[vA,qU,ycl,ycn]
        refine⟨?_,k1⟩
        congr 1
        rw[decide_eq_decide,<- k5];constructor
        ·intro e;subst e;rfl
        ·intro e
         exact z3z (B:=65536) (by decide) k3 (fun x hx=>by rw[ydd.1 hx];decide) k4 (fun _=>by simp) (by rw[e];rfl)
  ·simp[g2]
 ·simp[g1]
def zj1{f:qF}{u v:zA}(hu:cA t 1 (lE f.n.limbs) u)(hv:cA t 1 (lE f.d.limbs) v)(hf:qF.fit f):lB yA F 141 [.agg [.bool f.n.neg,u,.bool f.d.neg,v]] t=some (.bool (iN f)):=by
 refine jC.2 (w141 _ _ _ _ ?_)
 simp only[t141,qA,q166,zh2 hu hv hf,vA,qU,if_true];exact⟨trivial,trivial⟩
end Go.Proofs
namespace Go.Proofs
open Go Go.Am
variable [fC]
variable {t:Tr rA}
def oL{a b:List Nat}(h:a.length+b.length<4611686018427387904):pJ a b=some (.str (a++b)):=by
 unfold pJ;rw[zD,zD,xC.2 h,mG];rfl
def zqr{s:List Nat}{k:Nat}(h:k<=s.length):uG yA 9 H0A (.str s) (some (.int .i64 (k:Int))) none=some (.str (s.drop k)):=by
 unfold uG rK;rw[ty9,tA];simp only[zA.asStr];rw[show jD.isString .string=true from rfl,zE];unfold zcg lM ze1 tR;have e:tJ (k:Int)=some k:=rfl
 simp only[tA,zA.asNat,zA.asInt,e,zD,uE.2 h,uE.2 (ybk _),zE,jO,dP,List.take_length]
def zh9{s:List Nat}{k:Nat}(h:k<=s.length):uG yA 9 H0A (.str s) none (some (.int .i64 (k:Int)))=some (.str (s.take k)):=by
 unfold uG rK;rw[ty9,tA];simp only[zA.asStr];rw[show jD.isString .string=true from rfl,zE];unfold zcg lM ze1 tR;have e:tJ (k:Int)=some k:=rfl
 simp only[tA,zA.asNat,zA.asInt,e,zD,uE.2 h,uE.2 (yaw _),zE,jO,dP,ycr]
def zo3 (a b:List Nat):Bool:=decide (b.length<=a.length)&&xF (a.take b.length) b
def zb2{a b:List Nat}:lB yA F 194 [.str a,.str b] t=some (.bool (zo3 a b)):=by
 refine jC.2 (w194 _ _ ?_)
 simp only[t194,qA,kL,vG];unfold zo3;by_cases h:b.length<=a.length
 ·rw[yab (by omega),zh9 h,vA]
  simp[zA.asStr,h]
 ·rw[yaa (by omega)]
  simp[h]
def zh1{a b:List Nat}:lB yA F 143 [.str a,.str b] t=some (.str (if zo3 a b then a.drop b.length else a)):=by
 have h:lB yA F 169 [.str a,.str b] t=some (.str (if zo3 a b then a.drop b.length else a)):=by
  refine jC.2 (w169 _ _ ?_)
  simp only[t169,qA,q194,zb2,vA,zA.asBool,kL]
  cases hp:zo3 a b with
  | true=>
   simp only[if_true];have:b.length<=a.length:=by unfold zo3 at hp;simp at hp;exact hp.1
   rw[zqr this,vA];simp[zA.asStr]
  | false=>simp
 refine jC.2 (w143 _ _ ?_)
 simp only[t143,qA,q169,h,vA,zA.asStr];first | exact⟨rfl,rfl⟩ | exact⟨trivial,trivial⟩ | exact⟨rfl,trivial⟩
def zme{a b:List Nat}:lB yA F 195 [.str a,.str b] t=some (.tup [.str (if zo3 a b then a.drop b.length else a),.bool (zo3 a b)]):=by
 have h:lB yA F 215 [.str a,.str b] t=some (.tup [.str (if zo3 a b then a.drop b.length else a),.bool (zo3 a b)]):=by
  refine jC.2 (w215 _ _ ?_)
  simp only[t215,qA,q194,zb2,vA,zA.asBool,kL]
  cases hp:zo3 a b with
  | true=>
   simp only[Bool.not_true,ybq,if_false];have:b.length<=a.length:=by unfold zo3 at hp;simp at hp;exact hp.1
   rw[zqr this,vA];simp[zA.asStr]
  | false=>simp
 refine jC.2 (w195 _ _ ?_)
 have x0:∀u v,rB 0 (.tup [u,v])=some u:=fun _ _=>rfl
 have x1:∀u v,rB 1 (.tup [u,v])=some v:=fun _ _=>rfl
 simp only[t195,qA,q215,h,vA,x0,x1,zA.asStr,zA.asBool];first | exact⟨rfl,rfl⟩ | exact⟨trivial,trivial⟩ | exact⟨rfl,trivial⟩
def pK(s:List Nat):List Nat:=if zo3 s [45]then [109,105,110,117,115,32]++s.drop 1 else s
def zkf{s:List Nat}(h:s.length<4000000000000000000):lB yA F 172 [.str s] t=some (.str (pK s)):=by
 refine jC.2 (w172 _ ?_)
 have x0:∀u v,rB 0 (.tup [u,v])=some u:=fun _ _=>rfl
 have x1:∀u v,rB 1 (.tup [u,v])=some v:=fun _ _=>rfl
 simp only[t172,qA,q195,zme,vA,x0,x1,zA.asStr,zA.asBool];unfold pK
 cases hp:zo3 s [45]with
 | true=>
  simp only[if_true];rw[oL (by simp;omega),vA]
  simp[zA.asStr]
 | false=>simp
def z92{n:Int}(h0 : -9223372036854775808<=n)(h1:n<9223372036854775808):lB yA F 175 [.int .i64 n] t=some (.str (mJ n)):=by
 have hg:yA.prims.get 175=some (oK zt2):=by kernel_rfl
 refine zig hg fun H=>?_
 unfold zt2;simp only[];rw[vG.2 h0,kD.2 h1];rfl
def ziz{n:Int}(h0 : -9223372036854775808<=n)(h1:n<9223372036854775808):(mJ n).length<=21:=by
 by_cases h:n<0
 ·obtain⟨u,rfl⟩:∃u:Nat,n = -(u:Int):=⟨n.natAbs,by omega⟩
  rw[zlr (by omega)]
  have:=zex (u:=u) (k:=20) (by decide) (by rw[show(10:Nat)^20=100000000000000000000 by decide];omega)
  simp;omega
 ·obtain⟨u,rfl⟩:∃u:Nat,n=(u:Int):=⟨n.toNat,by omega⟩
  rw[zeg];have:=zex (u:=u) (k:=20) (by decide) (by rw[show(10:Nat)^20=100000000000000000000 by decide];omega)
  omega
def zg5{n:Int}(h0 : -9223372036854775808<=n)(h1:n<9223372036854775808):lB yA F 148 [.int .i64 n] t=some (.str (pK (mJ n))):=by
 have:=ziz h0 h1
 refine jC.2 (w148 _ ?_)
 simp only[t148,qA,q175,z92 h0 h1,vA,zA.asStr,q172,zkf (s:=mJ n) (by omega)]
 first | exact⟨rfl,rfl⟩ | exact⟨trivial,trivial⟩ | exact⟨rfl,trivial⟩
def yK(f:qF):List Nat:=zcy f.n.neg f.n.limbs++(if zg4 f.d then []else 47::zcy f.d.neg f.d.limbs)
def zpl{u:Nat}:∀ {k:Nat},u<10^k->(tG u).length<=k+1:=by
 intro k h;have:=zex (u:=u) (k:=k+1) (by omega) (by rw[yag];omega)
 exact this
def vX{neg:Bool}{l:List Nat}(hlt:qB 65536 l)(hl:l.length<=1024):(zcy neg l).length<=10000:=by
 unfold zcy intN;have h1:=eK (B:=65536) (by decide) hlt
 have h2:(65536:Nat)^l.length<=10^(5*l.length):=by
  rw[Nat.pow_mul];exact Nat.pow_le_pow_left (by decide) _
 have:=zpl (u:=val 65536 l) (k:=5*l.length) (by omega)
 rw[ybg];have:(if neg=true then [45]else([]:List Nat)).length<=1:=by cases neg<;>simp
 omega
def zbr{f:qF}(h:iN f=true):qJ f.n.neg f.n.limbs=true/\qJ f.d.neg f.d.limbs=true/\f.n.limbs.length<=1024/\f.d.limbs.length<=1024:=by
 unfold iN at h;simp only[ybb,decide_eq_true_eq]at h;obtain⟨⟨⟨⟨⟨⟨h1,h2⟩,h3⟩,h4⟩,_⟩,_⟩,_⟩:=h
 exact⟨h3,h4,by omega,by omega⟩
def zeo{f:qF}(hf:f.fit)(h:iN f=true):(yK f).length<=20001:=by
 obtain⟨_,_,h3,h4⟩:=zbr h
 have a:=vX (neg:=f.n.neg) hf.2.1 h3
 have b:=vX (neg:=f.d.neg) hf.2.2 h4
 unfold yK;rw[ybg];split
 ·simp;omega
 ·simp;omega
def zem{f:qF}{u v:zA}(hu:cA t 1 (lE f.n.limbs) u)(hv:cA t 1 (lE f.d.limbs) v)(hf:qF.fit f):lB yA F 142 [.agg [.bool f.n.neg,u,.bool f.d.neg,v]] t=some (if iN f then .tup [.str (yK f),.int .i64 0]else .tup [.str [],.int .i64 2]):=by
 refine jC.2 (w142 _ _ _ _ ?_)
 have x0:∀u v,rB 0 (.tup [u,v])=some u:=fun _ _=>rfl
 have x1:∀u v,rB 1 (.tup [u,v])=some v:=fun _ _=>rfl
 simp only[t142,qA,q141,zj1 hu hv hf,vA,zA.asBool]
 cases hval:iN f with
 | false=>simp
 | true=>
  obtain⟨h1,h2,h3,h4⟩:=zbr hval
  have a:=vX (neg:=f.n.neg) hf.2.1 h3
  have b:=vX (neg:=f.d.neg) hf.2.2 h4
  have c1:lB yA F 168 [.agg [.bool f.n.neg,u,.bool f.d.neg,v]] t=some (.bool (zg4 f.d)):=by
   refine jC.2 (w168 _ _ _ _ ?_)
   simp only[t168,qA,q188,zi0 hv,vA,zA.asBool];first | exact⟨rfl,rfl⟩ | exact⟨trivial,trivial⟩ | exact⟨rfl,trivial⟩
  simp only[Bool.not_true,ybq,if_false,q167,zwn hu hf.2.1 h1,vA,x0,x1,zA.asStr,oB,if_true,q168,c1,zA.asBool];unfold yK
  cases hone:zg4 f.d with
  | true=>simp
  | false=>
   simp only[ycl,if_true,zwn hv hf.2.2 h2,vA,x0,x1,zA.asStr,oB];rw[oL (by simp;omega),vA]
   simp only[zA.asStr,vA];rw[oL (by simp;omega),vA]
   simp[zA.asStr]
def zen{f:qF}{u v:zA}(hu:cA t 1 (lE f.n.limbs) u)(hv:cA t 1 (lE f.d.limbs) v)(hf:qF.fit f)(hval:iN f=true):lB yA F 146 [.agg [.bool f.n.neg,u,.bool f.d.neg,v]] t=some (.str (pK (yK f))):=by
 have:=zeo hf hval
 refine jC.2 (w146 _ _ _ _ ?_)
 have x0:∀u v,rB 0 (.tup [u,v])=some u:=fun _ _=>rfl
 have x1:∀u v,rB 1 (.tup [u,v])=some v:=fun _ _=>rfl
 simp only[t146,qA,q142,zem hu hv hf,hval,if_true,vA,x0,x1,zA.asStr,oB,q172,zkf (s:=yK f) (by omega)]
 first | exact⟨rfl,rfl⟩ | exact⟨trivial,trivial⟩ | exact⟨rfl,trivial⟩
def zgo(f:qF):Bool:=decide (f.n.limbs.length<=42)&&decide (f.d.limbs.length<=42)&&iN f&&decide ((if zo3 (yK f) [45]then(yK f).drop 1 else yK f).length<=200)
def gZ{f:qF}{u v:zA}(hu:cA t 1 (lE f.n.limbs) u)(hv:cA t 1 (lE f.d.limbs) v)(hf:qF.fit f):lB yA F 115 [.agg [.bool f.n.neg,u,.bool f.d.neg,v]] t=some (.bool (zgo f)):=by
 refine jC.2 (w115 _ _ _ _ ?_)
 have x0:∀u v,rB 0 (.tup [u,v])=some u:=fun _ _=>rfl
 have x1:∀u v,rB 1 (.tup [u,v])=some v:=fun _ _=>rfl
 simp only[t115,qA,hu.len,hv.len,sV,vA,oB,kD];unfold zgo;by_cases h1:f.n.limbs.length<=42
 ·rw[yaa (by omega)]
  by_cases h2:f.d.limbs.length<=42
  ·rw[yaa (by omega)]
   simp only[q141,zj1 hu hv hf,vA,zA.asBool]
   cases hval:iN f with
   | false=>simp
   | true=>
    simp only[Bool.not_true,ybq,if_false,q142,zem hu hv hf,hval,if_true,vA,x0,x1,zA.asStr,oB,rH,q143,zh1,kL];simp[h1,h2,z97]
    constructor<;>intro h<;>omega
  ·rw[yab (by omega)];simp[h2]
 ·rw[yab (by omega)];simp[h1]
def zfg(f:qF):Bool := !f.n.neg && !f.d.neg&&decide (f.n.limbs.length+f.d.limbs.length=0)
def zcu{f:qF}{u v:zA}(hu:cA t 1 (lE f.n.limbs) u)(hv:cA t 1 (lE f.d.limbs) v)(hf:f.ok):lB yA F 116 [.agg [.bool f.n.neg,u,.bool f.d.neg,v]] t=some (.bool (zfg f)):=by
 unfold qF.ok cC at hf;refine jC.2 (w116 _ _ _ _ ?_)
 simp only[t116,qA,hu.len,hv.len,sV,vA,oB];unfold zfg;rw[wrap_i64 (by omega) (by omega),jL]
 have e:decide ((f.n.limbs.length:Int)+(f.d.limbs.length:Int)=0)=decide (f.n.limbs.length+f.d.limbs.length=0):=by
  by_cases h:f.n.limbs.length+f.d.limbs.length=0
  ·rw[decide_eq_true h,decide_eq_true (by omega)]
  ·rw[decide_eq_false h,decide_eq_false (by omega)]
 rw[e]
 cases f.n.neg<;>cases f.d.neg<;>simp
def zrz{n:Int}:lB yA F 117 [.int .i64 n] t=some (.bool (decide (0<=n)&&decide (n<65536))):=by
 refine jC.2 (w117 _ ?_)
 simp only[t117,qA,vG];by_cases h:0<=n
 ·rw[yab h];simp[h,zz6]
 ·rw[yaa h];simp[h]
def nO(v:mH):Bool:=
 if v.kind=2\/v.kind=3 then decide (v.i=0)&&zgo v.f
 else if v.kind=1 then zfg v.f&&(decide (v.i=0)||decide (v.i=1))
 else if v.kind=4 then zfg v.f&&(decide (0<=v.i)&&decide (v.i<65536))
 else if v.kind=5\/v.kind=6 then zfg v.f&&(decide (-1048576<=v.i)&&decide (v.i<=1048576))
 else false
def za3{a:mH}{u v:zA}(hu:cA t 1 (lE a.f.n.limbs) u)(hv:cA t 1 (lE a.f.d.limbs) v)(hf:qF.fit a.f):lB yA F 85 [.agg [.int .u8 a.kind,.bool a.f.n.neg,u,.bool a.f.d.neg,v,.int .i64 a.i]] t=some (.bool (nO a)):=by
 refine jC.2 (w85 _ _ _ _ _ _ ?_)
 simp only[t85,qA,q115,gZ hu hv hf,q116,zcu hu hv hf.1,q117,zrz,vA,zA.asBool];unfold nO;have kk:∀j:Int,iA (a.kind:Int) j=decide ((a.kind:Int)=j):=fun j=>jL
 simp only[kk];by_cases k2:a.kind=2
 ·have e:(a.kind:Int)=2:=by omega
  by_cases h0:a.i=0<;>simp[e,k2,h0,jL]
 by_cases k3:a.kind=3
 ·have e:(a.kind:Int)=3:=by omega
  by_cases h0:a.i=0<;>simp[e,k3,h0,jL]
 have e2:¬ (a.kind:Int)=2:=by omega
 have e3:¬ (a.kind:Int)=3:=by omega
 by_cases k1:a.kind=1
 ·have e:(a.kind:Int)=1:=by omega
  cases zfg a.f<;>by_cases h0:a.i=0<;>simp[e,k1,h0,jL]
 have e1:¬ (a.kind:Int)=1:=by omega
 by_cases k4:a.kind=4
 ·have e:(a.kind:Int)=4:=by omega
  cases zfg a.f<;>simp[e,k4]
 have e4:¬ (a.kind:Int)=4:=by omega
 by_cases k5:a.kind=5
 ·have e:(a.kind:Int)=5:=by omega
  cases zfg a.f<;>by_cases h0:(-1048576:Int)<=a.i<;>simp[e,k5,h0,z97]
 have e5:¬ (a.kind:Int)=5:=by omega
 by_cases k6:a.kind=6
 ·have e:(a.kind:Int)=6:=by omega
  cases zfg a.f<;>by_cases h0:(-1048576:Int)<=a.i<;>simp[e,k6,h0,z97]
 have e6:¬ (a.kind:Int)=6:=by omega
 simp[e1,e2,e3,e4,e5,e6,k1,k2,k3,k4,k5,k6]
end Go.Proofs
namespace Go.Am
open Go Go.RowKit
section
variable {t tf tf0:Tr rA}{C:pA}
mutual
def RD.ones:∀(d:D) (cs:List zA),RD t d cs->∀a∈cs,zA.one a=true
 | .int _ _,cs,h,a,ha=>by rw[RD]at h;subst h;simp at ha;subst ha;rfl
 | .bool _,cs,h,a,ha=>by rw[RD]at h;subst h;simp at ha;subst ha;rfl
 | .str _,cs,h,a,ha=>by rw[RD]at h;subst h;simp at ha;subst ha;rfl
 | .sl sz l,cs,h,a,ha=>by
  rw[fJ]at h;obtain⟨v,rfl,h⟩:=h
  simp at ha;subst ha;exact h.one
 | .st l,cs,h,a,ha=>by
  rw[gJ]at h;obtain⟨cl,rfl,h⟩:=h
  exact aC.ones l cl h a ha
def aC.ones:∀(l:List D) (cl:List (List zA)),aC t l cl->∀a∈cl.flatten,zA.one a=true
 | [],cl,h,a,ha=>by rw[aC]at h;subst h;cases ha
 | d::l,cl,h,a,ha=>by
  rw[aC]at h;obtain⟨c,r,rfl,h1,h2⟩:=h
  rw[yas,yaf]at ha;rcases ha with ha | ha
  ·exact RD.ones d c h1 a ha
  ·exact aC.ones l r h2 a ha
end
def RD.all{d:D}{cs:List zA}(h:RD t d cs):tC zA.one cs=true:=by
 rw[lG,ycb];exact RD.ones d cs h
def RD.mk{d:D}{cs zs:List zA}(h:RD t d cs)(hz:d.zs=zs):uN zs (cellsOf cs) 0=cs:=by
 have:=eW zs cs [] (by rw[<- hz];exact zeq d cs h)
 simpa using this
def lit1{S el sz b:Nat}{cs:List zA}(hT:zza7 C S el sz)(hc:cs.length=sz)(hs:sz<1000000)(hb:t.get b=none) :
  ∃t',gI C S 1 [(0,.agg cs)] ⟨b,t⟩=some (.slice b 0 1 1,⟨b+1,t'⟩)/\iK t' sz (.slice b 0 1 1) [cs]/\zB t t'/\cD b t t':=by
 obtain⟨⟨y,hy1,hy2,_⟩,⟨z,hz1,hz2,hz3,_,_⟩⟩:=hT
 refine zle (n:=1) (cl:=[cs]) hy1 hy2 hz1 hz2 hz3 (by omega) ?_ (fun i q hq=>?_) rfl hb
 ·have e:tI z.zero 1=z.zero:=by show tD z.zero []=z.zero;rw[mG,ycd]
  rw[e];unfold qM aT;have e1:(zA.agg cs).cells=cs:=rfl
  rw[zD]at hz3;simp only[tA,e1,zD,hc,hz3,Nat.zero_mul,ybw,jO,dP,mG,List.take_zero,yah];rw[fB.2 rfl,uE.2 (ybk sz)]
  simp only[Bool.and_self,zE,tA,qM];rw[ybt (by omega)]
  simp
 ·rcases i with _ | i
  ·simp at hq;subst hq;exact hc
  ·simp at hq
def CopyF(base:Nat)(W:vI)(g:Nat)(d:D):Prop:=∀ ⦃L:List Thg⦄ ⦃tf t:Tr rA⦄ ⦃cs:List zA⦄ ⦃Q:uC⦄,zp6 base tf t L->RD tf d cs->(∀tf' t' cs',zB tf tf'->zp6 base tf' t' L->RD tf' d cs'->Q (.agg cs') t')->W g [.agg cs] t Q
end
end Go.Am
namespace Go.Am
open Go Go.RowKit
section
variable {C:pA}{t:Tr rA}
def uM(C:pA)(T:Nat)(k:zA):Bool:=
 match ob (C.tys.get T) fun ty=>ob ty.desc.asMap fun ke=>ob (C.tys.get ke.1) fun kty=>aA (aN C kty&&tM C kty k) (some ())with | some _=>true | none=>false
def wY{T:Nat}{k:zA}(h:uM C T k=true):∃ty ke kty,C.tys.get T=some ty/\ty.desc.asMap=some ke/\C.tys.get ke.1=some kty/\aN C kty=true/\tM C kty k=true:=by
 unfold uM at h;split at h
 case h_2=>cases h
 rename_i u hu;simp only[sA,vB,ybb]at hu;obtain⟨ty,h1,ke,h2,kty,h3,⟨h4,h5⟩,_⟩:=hu
 exact⟨ty,ke,kty,h1,h2,h3,h4,h5⟩
def zhw{T b n:Nat}{k v:zA}{l l':List (zA × zA)}(hk:uM C T k=true)(hb:C.base<=b)(hm:t.get b=some (.map l))(hs:nG k v l=some l') :
  aH C T (.map b) k v ⟨n,t⟩=some (gD,⟨n,t.set b (.map l')⟩):=by
 obtain⟨ty,ke,kty,h1,h2,h3,h4,h5⟩:=wY hk
 have e2:(!Nat.blt b C.base)=true:=by
  cases hq:Nat.blt b C.base with
  | true=>have:=xC.1 hq;omega
  | false=>rfl
 have e3:gG ⟨n,t⟩ b=some l:=by unfold gG;rw[hm];rfl
 unfold aH;rw[h1,tA,h2,tA,h3,tA,h4,zE];simp only[zA.asMap,tA];rw[e2,zE,e3,tA,h5,zE,hs];rfl
def ziw{T b n:Nat}{k v:zA}{l:List (zA × zA)}(hk:uM C T k=true)(hm:t.get b=some (.map l))(hs:yH k l=some (some v)){ty:pC}(hT:C.tys.get T=some ty){ke:Nat × Nat}(hd:ty.desc.asMap=some ke){ety:pC}(he:C.tys.get ke.2=some ety)(ok:Bool) :
  xH C T ⟨n,t⟩ (.map b) k ok=some (bif ok then .tup [v,.bool true]else v):=by
 obtain⟨ty,ke,kty,h1,h2,h3,h4,h5⟩:=wY hk
 rw[hT]at h1;cases h1;rw[hd]at h2;cases h2;have e3:gG ⟨n,t⟩ b=some l:=by unfold gG;rw[hm];rfl
 unfold xH;rw[hT,tA,hd,tA,h3,tA,h4,zE,he,tA];have e4:tN ⟨n,t⟩ (.map b)=some l:=by unfold tN;simp only[zA.asMap];exact e3
 rw[e4,tA,h5,zE,hs,tA]
def zlc{T b n:Nat}{k:zA}{l:List (zA × zA)}(hk:uM C T k=true)(hm:t.get b=some (.map l))(hs:yH k l=some none){ty:pC}(hT:C.tys.get T=some ty){ke:Nat × Nat}(hd:ty.desc.asMap=some ke){ety:pC}(he:C.tys.get ke.2=some ety)(ok:Bool) :
  xH C T ⟨n,t⟩ (.map b) k ok=some (bif ok then .tup [jN ety,.bool false]else jN ety):=by
 obtain⟨ty,ke,kty,h1,h2,h3,h4,h5⟩:=wY hk
 rw[hT]at h1;cases h1;rw[hd]at h2;cases h2;have e3:gG ⟨n,t⟩ b=some l:=by unfold gG;rw[hm];rfl
 unfold xH;rw[hT,tA,hd,tA,h3,tA,h4,zE,he,tA];have e4:tN ⟨n,t⟩ (.map b)=some l:=by unfold tN;simp only[zA.asMap];exact e3
 rw[e4,tA,h5,zE,hs,tA]
mutual
def RD.sames1:∀(d:D) (cs:List zA),RD t d cs->∀a∈cs,∀k,Am.same k a a=true
 | .int _ _,cs,h,a,ha,k=>by rw[RD]at h;subst h;simp at ha;subst ha;exact zW
 | .bool _,cs,h,a,ha,k=>by rw[RD]at h;subst h;simp at ha;subst ha;exact zxp
 | .str _,cs,h,a,ha,k=>by rw[RD]at h;subst h;simp at ha;subst ha;exact zie
 | .sl sz l,cs,h,a,ha,k=>by
  rw[fJ]at h;obtain⟨v,rfl,h⟩:=h
  simp at ha;subst ha;exact h.same
 | .st l,cs,h,a,ha,k=>by
  rw[gJ]at h;obtain⟨cl,rfl,h⟩:=h
  exact aC.sames1 l cl h a ha k
def aC.sames1:∀(l:List D) (cl:List (List zA)),aC t l cl->∀a∈cl.flatten,∀k,Am.same k a a=true
 | [],cl,h,a,ha,k=>by rw[aC]at h;subst h;cases ha
 | d::l,cl,h,a,ha,k=>by
  rw[aC]at h;obtain⟨c,r,rfl,h1,h2⟩:=h
  rw[yas,yaf]at ha;rcases ha with ha | ha
  ·exact RD.sames1 d c h1 a ha k
  ·exact aC.sames1 l r h2 a ha k
end
def zkl:∀ {l:List zA} {k:Nat},(∀a∈l,∀k,Am.same k a a=true)->Am.same.sames k l l=true
 | [],_,_=>rfl
 | a::l,k,h=>by
  rw[Am.same.sames,h a (.head _) k,zkl fun b hb=>h b (.tail _ hb)];rfl
def RD.sameA{d:D}{cs:List zA}(h:RD t d cs){k:Nat}:Am.same (k+1) (.agg cs) (.agg cs)=true:=zkl (RD.sames1 d cs h)
def zhl{b:Nat}(hb:C.base<=b):∀(l:List (zA × zA)) (m:List (zA × zA)) (n:Nat) (t:Tr rA),t.get b=some (.map m) →
  ∃t',qR C (l.map fun e=>RE.up b e.1 e.2) ⟨n,t⟩=some ⟨n,t'⟩/\t'.get b=some (.map (m++l))/\cD b t t'
 | [],m,n,t,h=>⟨t,rfl,by rw[ycd];exact h,fun _ _=>rfl⟩
 | e::l,m,n,t,h=>by
  obtain⟨t',h1,h2,h3⟩:=zhl hb l (m++[e]) n (t.set b (.map (m++[e]))) (by rw[Tr.get_set,yab rfl])
  refine⟨t',?_,by rw[h2,ybz];rfl,fun c hc=>by rw[h3 c hc,Tr.get_set,yaa hc]⟩
  have e2:(!Nat.blt b C.base)=true:=by
   cases hq:Nat.blt b C.base with
   | true=>have:=xC.1 hq;omega
   | false=>rfl
  have e3:gG ⟨n,t⟩ b=some m:=by unfold gG;rw[h];rfl
  have e4:tQ C ⟨n,t⟩ (.up b e.1 e.2)=some ⟨n,t.set b (.map (m++[e]))⟩:=by
   show aA (!Nat.blt b C.base) (ob (gG ⟨n,t⟩ b) fun m=>some (setBlk ⟨n,t⟩ b (.map (tD m [(e.1,e.2)]))))=_
   rw[e2,zE,e3,tA,mG];rfl
  rw[ycm];unfold qR;rw[e4,tA];exact h1
def zkp{T b:Nat}:∀(l:List (zA × zA)),(∀e∈l,uM C T e.1=true)->jF (zqz C) (l.map fun e=>Eff.upd T (.map b) e.1 e.2)=some (l.map fun e=>RE.up b e.1 e.2)
 | [],_=>rfl
 | e::l,h=>by
  obtain⟨ty,ke,kty,h1,h2,h3,h4,h5⟩:=wY (h e (.head _))
  have e1:zqz C (.upd T (.map b) e.1 e.2)=some (.up b e.1 e.2):=by
   unfold zqz;simp only[];rw[h1,tA,h2,tA,h3,tA,h4,h5];rfl
  rw[ycm,nK,e1,tA,zkp l fun x hx=>h x (.tail _ hx),tA]
  rfl
def zan:List (zA × zA)->Bool
 | []=>true
 | e::l=>tC (fun x=>zit e.1 x.1) l&&zan l
def zmv{b:Nat}:∀(l:List (zA × zA)),zan l=true->zhn (l.map fun e=>RE.up b e.1 e.2)=true
 | [],_=>rfl
 | e::l,h=>by
  unfold zan at h;rw[ybb,lG,ycb]at h;rw[ycm];unfold zhn;rw[ybb,lG,ycb];refine⟨fun x hx=>?_,zmv l h.2⟩
  obtain⟨y,hy,rfl⟩:=yaq.1 hx
  show(bif Nat.beq b b then zit e.1 y.1 else true)=true
  rw[fB.2 rfl];exact h.1 y hy
def zup{T b n:Nat}{l:List (zA × zA)}(hk:∀e∈l,uM C T e.1=true)(ha:zan l=true)(hb:C.base<=b)(hm:t.get b=some (.map [])) :
  ∃t',nP C (l.map fun e=>Eff.upd T (.map b) e.1 e.2) ⟨n,t⟩=some (gD,⟨n,t'⟩)/\t'.get b=some (.map l)/\cD b t t':=by
 obtain⟨t',h1,h2,h3⟩:=zhl (C:=C) hb l [] n t hm
 refine⟨t',?_,by simpa using h2,h3⟩
 unfold nP yQ;rw[zkp l hk,tA,zmv l ha];have hr:tC (zdo C ⟨n,t⟩) (l.map fun e=>RE.up b e.1 e.2)=true:=by
  rw[lG,ycb];intro x hx;obtain⟨e,_,rfl⟩:=yaq.1 hx
  have e2:(!Nat.blt b C.base)=true:=by
   cases hq:Nat.blt b C.base with
   | true=>have:=xC.1 hq;omega
   | false=>rfl
  have e3:gG ⟨n,t⟩ b=some []:=by unfold gG;rw[hm];rfl
  show(!Nat.blt b C.base&&(match gG ⟨n,t⟩ b with | some []=>true | _=>false))=true
  rw[e2,e3];rfl
 rw[hr];simp only[Bool.and_self,zE,h1,tA]
def lD.up{t':Tr rA}{b:Nat}{lo:Option Lo}{cs:List zA}(h:lD t b lo cs)(k:zB t t'):lD t' b lo cs:=by
 obtain⟨c,h1,h2⟩:=h
 exact⟨c,k _ _ h1,h2⟩
end
end Go.Am
namespace Go.Proofs
open Go Go.Am
variable [fC]
variable {t:Tr rA}
def aQ(n:Nat):Bool:=(decide (65<=n)&&decide (n<=90))||(decide (97<=n)&&decide (n<=122))
def zry(n:Nat):Bool:=decide (48<=n)&&decide (n<=57)
def zei(n:Nat):Bool:=aQ n||zry n||decide (n=95)
def z4r{a b:Int}:nC a b=decide (a<=b):=by
 by_cases h:a<=b
 ·rw[decide_eq_true h,vG.2 h]
 ·rw[decide_eq_false h]
  cases hq:nC a b with
  | true=>exact absurd (vG.1 hq) h
  | false=>rfl
def rZ{n:Nat}:lB yA F 111 [.int .u8 (n:Int)] t=some (.bool (aQ n)):=by
 refine jC.2 (w111 _ ?_)
 simp only[t111,qA,z4r,decide_eq_true_eq];unfold aQ;by_cases h1:65<=n
 ·rw[yab (by omega)]
  by_cases h2:n<=90
  ·rw[yab (by omega)];simp[h1,h2]
  ·rw[yaa (by omega)]
   by_cases h3:97<=n
   ·rw[yab (by omega)]
    have:decide ((n:Int)<=122)=decide (n<=122):=by congr 1;exact propext (by omega)
    simp[h1,h2,h3,this]
   ·rw[yaa (by omega)];simp[h2,h3]
 ·rw[yaa (by omega),yaa (by omega)]
  have:¬ 97<=n:=by omega
  simp[h1,this]
def zuk{n:Nat}:lB yA F 139 [.int .u8 (n:Int)] t=some (.bool (zry n)):=by
 refine jC.2 (w139 _ ?_)
 simp only[t139,qA,z4r,decide_eq_true_eq];unfold zry;by_cases h1:48<=n
 ·rw[yab (by omega)]
  have:decide ((n:Int)<=57)=decide (n<=57):=by congr 1;exact propext (by omega)
  simp[h1,this]
 ·rw[yaa (by omega)];simp[h1]
def zz3{n:Nat}:lB yA F 113 [.int .u8 (n:Int)] t=some (.bool (zei n)):=by
 refine jC.2 (w113 _ ?_)
 simp only[t113,qA,q111,rZ,vA,zA.asBool];unfold zei
 cases h:aQ n with
 | true=>simp
 | false=>
  simp only[ybq,if_false,q139,zuk,vA,zA.asBool]
  cases h2:zry n with
  | true=>simp
  | false=>
   simp only[ybq,if_false,jL];have:decide ((n:Int)=95)=decide (n=95):=by congr 1;exact propext (by omega)
   simp[this]
def zlt{s:List Nat}{i x:Nat}(h:s[i]?=some x):xJ yA 9 (.str s) (.int .i64 (i:Int))=some (.int .u8 (x:Int)):=by
 unfold xJ;rw[ty9,tA];simp only[zA.asNat,zA.asInt,zA.asStr];have e:ob (some (i:Int)) tJ=some i:=rfl
 rw[e,tA,show jD.isString .string=true from rfl,zE,iF,h,tA];rfl
def z3d (p:Nat->Bool)(s:List Nat):List Nat:=s.takeWhile p
def zqu{p:Nat->Bool}{g:Nat}(hg:∀n:Nat,lB yA F g [.int .u8 (n:Int)] t=some (.bool (p n)))(hq:∀ {a:List zA} {m:Tr rA} {R:uC},Wq yA F uJ g a m R=uD (lB yA F g a m) (fun v=>R v m))(hy:Nat.blt g yo=true){s:List Nat}(hs:s.length<4000000000000000000) :
  ∀(k i:Nat),i+k=s.length->(∀j x,j<i->s[j]?=some x->p x=true)->jp 112 2 [.str s,.func (.func g) [] [],.int .i64 (i:Int)] t (fun v t'=>v=.str (z3d p s)/\t'=t):=by
 have key:∀i,i<=s.length->(∀j x,j<i->s[j]?=some x->p x=true)->(∀x,s[i]?=some x->p x=false)->z3d p s=s.take i:=by
  intro i hi h1 h2;unfold z3d;induction s generalizing i with
  | nil=>simp
  | cons a s ih=>
   cases i with
   | zero=>rw[List.takeWhile_cons,h2 a rfl];simp
   | succ i=>
    rw[List.takeWhile_cons,h1 0 a (by omega) rfl,yab rfl,List.take_succ_cons]
    rw[ih (by simp at hs;omega) i (by simpa using hi) (fun j x hj hx=>h1 (j+1) x (by omega) (by simpa using hx)) (fun x hx=>h2 x (by simpa using hx))]
 intro k;induction k with
 | zero=>
  intro i hi hp;refine z7n _ _ _ ?_
  simp only[zxg,qA,kD,kL];rw[yaa (by omega),zh9 (by omega),vA]
  simp only[zA.asStr,vA];rw[key i (by omega) hp (fun x hx=>by have:=(ybc.1 hx).1;omega)]
  first | exact⟨rfl,rfl⟩ | exact⟨rfl,trivial⟩ | exact⟨trivial,trivial⟩
 | succ k ih=>
  intro i hi hp;have hx:s[i]?=some s[i]:=ybd (by omega)
  refine z7n _ _ _ ?_
  simp only[zxg,qA,kD,kL];rw[yab (by omega),zlt hx,vA,oB,vA]
  have e:iM (.func (.func g) [] []) [.int .u8 (s[i]:Int)]=some (g,[.int .u8 (s[i]:Int)]):=by
   unfold iM;simp only[zA.asFunc,tA,hy,zE];rfl
  rw[e,vA];simp only[];rw[hq,hg,vA];simp only[zA.asBool,vA]
  cases hb:p s[i]with
  | true=>
   rw[yab rfl,wrap_i64 (by omega) (by omega),show(i:Int)+1=((i+1:Nat):Int) by omega]
   refine ih (i+1) (by omega) fun j x hj hjx=>?_
   by_cases e:j=i
   ·subst e;rw[hx]at hjx;cases hjx;exact hb
   ·exact hp j x (by omega) hjx
  | false=>
   rw[yaa (by simp),zh9 (by omega),vA]
   simp only[zA.asStr,vA];rw[key i (by omega) hp (fun x hx'=>by rw[hx]at hx';cases hx';exact hb)]
   first | exact⟨rfl,rfl⟩ | exact⟨rfl,trivial⟩ | exact⟨trivial,trivial⟩
def z3c{s:List Nat}(hs:s.length<4000000000000000000):lB yA F 112 [.str s,.func (.func 113) [] []] t=some (.str (z3d zei s)):=by
 refine jC.2 (w112 _ _ ?_)
 simp only[t112,qA];exact zqu (fun n=>zz3) (fun {a m R}=>by rw[q113]) rfl hs s.length 0 (by omega) (fun j x hj=>by omega)
def z8v{s:List Nat}(hs:s.length<4000000000000000000):lB yA F 112 [.str s,.func (.func 111) [] []] t=some (.str (z3d aQ s)):=by
 refine jC.2 (w112 _ _ ?_)
 simp only[t112,qA];exact zqu (fun n=>rZ) (fun {a m R}=>by rw[q111]) rfl hs s.length 0 (by omega) (fun j x hj=>by omega)
def resW:Nat->List Nat
 | 2=>[32,116,111,32,105,115,32,97,116,32,105,102,32,111,114,32,117,112,32]
 | 3=>[32,100,101,102,32,114,111,119,32,111,110,101,32,116,119,111,32,101,110,100,32,111,102,102,32,104,97,115,32,109,105,110,32,109,97,120,32,97,110,100,32,110,111,116,32]
 | 4=>[32,112,108,97,110,32,102,97,99,116,32,102,114,111,109,32,119,104,101,110,32,116,104,101,110,32,100,97,116,101,32,100,97,121,115,32,116,114,117,101,32,108,111,111,107,32,98,101,115,116,32,103,114,111,119,32,100,111,119,110,32,99,101,105,108,32,104,97,108,102,32,101,118,101,110,32]
 | 5=>[32,116,97,98,108,101,32,107,110,111,119,110,32,116,114,117,116,104,32,109,111,110,101,121,32,102,97,108,115,101,32,109,105,110,117,115,32,116,111,100,97,121,32,114,111,117,110,100,32,115,116,97,114,116,32,102,108,111,111,114,32]
 | 6=>[32,99,108,97,117,115,101,32,110,117,109,98,101,114,32,109,111,110,116,104,115,32]
 | 7=>[32,98,101,116,119,101,101,110,32,115,101,114,118,105,99,101,32]
 | _=>[]
def zdm(s:List Nat):Bool:=decide (2<=s.length)&&decide (s.length<=7)&&xF (z3d aQ s) s&&wU ([32]++s++[32]) (resW s.length)
def nH (n:Nat):zA × zA:=(.int .i64 (n:Int),.str (resW n))
def zpp{a b:List Nat}(h:a.length<4294967281):lB yA F 140 [.str a,.str b] t=some (.bool (wU b a)):=by
 have hg:yA.prims.get 140=some (oK bU):=by kernel_rfl
 refine zig hg fun H=>?_
 unfold bU;simp only[];rw[zD,xC.2 h];rfl
def zn6{s:List Nat}(hs:s.length<4000000000000000000):lB yA F 114 [.str s] t=some (.bool (zdm s)):=by
 refine nJ (w114 _ ?_)
 simp only[t114,qA,kD,kL];unfold zdm;by_cases h1:2<=s.length
 ·rw[yaa (by omega)]
  by_cases h2:s.length<=7
  ·rw[yaa (by omega)]
   simp only[q112,z8v hs,vA,zA.asStr]
   cases h3:xF (z3d aQ s) s with
   | false=>simp
   | true=>
    simp only[Bool.not_true,ybq,if_false];intro b hb hbase;have hmk:tT ⟨b,t⟩=some (.map b,⟨b+1,t.set b (.map [])⟩):=rfl
    rw[hmk,vA];simp only[];have h0:(t.set b (.map [])).get b=some (.map []):=by rw[Tr.get_set,yab rfl]
    have ho:cD b t (t.set b (.map [])):=fun c hc=>by rw[Tr.get_set,yaa hc]
    generalize t.set b (.map [])=t1 at h0 ho
    have hstep:∀(l:List (zA × zA)) (k:Nat) (s':List Nat) (l':List (zA × zA)) (Q:(zA × xA)->Prop) (t1:Tr rA),t1.get b=some (.map l)->cD b t t1->nG (.int .i64 (k:Int)) (.str s') l=some l'->uM yA 213 (.int .i64 (k:Int))=true →
      (∀n t2,t2.get b=some (.map l')->cD b t t2->Q (gD,⟨n,t2⟩))->∀n,t1.get n=none->yA.base<=n->uD (aH yA 213 (.map b) (.int .i64 (k:Int)) (.str s') ⟨n,t1⟩) Q:=by
     intro l k s' l' Q t1 g1 g2 h1 h2 h3 n _ _;rw[zhw h2 hbase g1 h1,vA];exact h3 n _ (by rw[Tr.get_set,yab rfl]) fun c hc=>by rw[Tr.get_set,yaa hc];exact g2 c hc
    refine hstep [] 2 _ [nH 2] _ t1 h0 ho rfl (by kernel_rfl) fun n t2 g o=>?_
    refine hstep _ 3 _ [nH 2,nH 3] _ t2 g o rfl (by kernel_rfl) fun n t2 g o=>?_
    refine hstep _ 4 _ [nH 2,nH 3,nH 4] _ t2 g o rfl (by kernel_rfl) fun n t2 g o=>?_
    refine hstep _ 5 _ [nH 2,nH 3,nH 4,nH 5] _ t2 g o rfl (by kernel_rfl) fun n t2 g o=>?_
    refine hstep _ 6 _ [nH 2,nH 3,nH 4,nH 5,nH 6] _ t2 g o rfl (by kernel_rfl) fun n t2 g o=>?_
    refine hstep _ 7 _ [nH 2,nH 3,nH 4,nH 5,nH 6,nH 7] _ t2 g o rfl (by kernel_rfl) fun n t2 g o=>?_
    have hle:zB t t2:=fun c u hc=>by
     have:c≠b:=fun e=>by rw[e,hb]at hc;cases hc
     rw[o c this];exact hc
    have hl:xH yA 213 ⟨0,t2⟩ (.map b) (.int .i64 (s.length:Int)) false=some (.str (resW s.length)):=by
     have hk:uM yA 213 (.int .i64 (s.length:Int))=true/\yH (.int .i64 (s.length:Int)) [nH 2,nH 3,nH 4,nH 5,nH 6,nH 7]=some (some (.str (resW s.length))):=by
      have:s.length=2\/s.length=3\/s.length=4\/s.length=5\/s.length=6\/s.length=7:=by omega
      rcases this with e | e | e | e | e | e<;>rw[e]<;>exact⟨by kernel_rfl,rfl⟩
     exact ziw hk.1 g hk.2 ty213 rfl ty9 false
    rw[hl,vA];simp only[zA.asStr,vA];rw[oL (by simp;omega),vA]
    simp only[zA.asStr,vA];rw[oL (by simp;omega),vA]
    simp only[zA.asStr,vA];have hr:(resW s.length).length<4294967281:=by
     have:s.length=2\/s.length=3\/s.length=4\/s.length=5\/s.length=6\/s.length=7:=by omega
     rcases this with e | e | e | e | e | e<;>rw[e]<;>decide
    rw[q140,zpp hr,vA];simp only[zA.asBool,vA];refine⟨?_,hle⟩
    simp[h1,h2]
  ·rw[yab (by omega)];simp[h2]
 ·rw[yab (by omega)];simp[h1]
def zK(s:List Nat):Bool:=match s with
 | []=>false
 | x::r=>decide ((x::r).length<=24)&&aQ x&&xF (z3d zei (x::r)) (x::r) && !zdm (x::r)
def za8{s:List Nat}:lB yA F 84 [.str s] t=some (.bool (zK s)):=by
 refine jC.2 (w84 _ ?_)
 simp only[t84,qA,kD,kL]
 cases s with
 | nil=>simp[zK,jK]
 | cons x r=>
  have h0:xF (x::r) []=false:=by
   cases h:xF (x::r) []with
   | true=>rw[jK]at h;cases h
   | false=>rfl
  rw[h0];simp only[ybq,if_false];unfold zK;by_cases h1:(x::r).length<=24
  ·rw[yaa (by omega)]
   have hx:=zlt (s:=x::r) (i:=0) (x:=x) rfl
   rw[show((0:Nat):Int)=0 from rfl]at hx
   rw[hx,vA,oB,vA,q111,rZ,vA];simp only[zA.asBool,vA]
   cases h2:aQ x with
   | false=>simp
   | true=>
    simp only[Bool.not_true,ybq,if_false];rw[q112,z3c (by omega),vA]
    simp only[zA.asStr,vA]
    cases h3:xF (z3d zei (x::r)) (x::r)with
    | false=>simp
    | true=>
     simp only[if_true,q114,zn6 (s:=x::r) (by omega),vA,zA.asBool]
     simp only[decide_eq_true h1,ycn,Bool.and_self];first | exact⟨rfl,rfl⟩ | exact⟨rfl,trivial⟩ | exact⟨trivial,trivial⟩
  ·rw[yab (by omega)]
   simp only[decide_eq_false h1,Bool.false_and];first | exact⟨rfl,rfl⟩ | exact⟨rfl,trivial⟩ | exact⟨trivial,trivial⟩
end Go.Proofs
namespace Go.Am
open Go Go.RowKit
section
variable {base:Nat}{W J:vI}{t:Tr rA}{Q:uC}
def mA{b:Bool}{x y:T}(h:b=true)(k:qA base W J x t Q):qA base W J (.ite b x y) t Q:=by
 show if b=true then _ else _;rw[yab h];exact k
def lA{b:Bool}{x y:T}(h:b≠true)(k:qA base W J y t Q):qA base W J (.ite b x y) t Q:=by
 show if b=true then _ else _;rw[yaa h];exact k
def jA{x:Option zA}{K:zA->T}{v:zA}(h:x=some v)(k:qA base W J (K v) t Q):qA base W J (.opt x K) t Q:=by
 show uD x _;rw[h];exact k
def lC{x:Tr rA->Option zA}{K:zA->T}{v:zA}(h:x t=some v)(k:qA base W J (K v) t Q):qA base W J (.light x K) t Q:=by
 show uD (x t) _;rw[h];exact k
def vC{f:Nat}{a:List zA}{K:zA->T}(k:W f a t (fun v t'=>qA base W J (K v) t' Q)):qA base W J (.call f a K) t Q:=k
def wC{n:Int}{i:IntKind}{K:Int->T}(k:qA base W J (K n) t Q):qA base W J (.asI i (.int i n) K) t Q:=by
 show uD (z94 i (.int i n)) _;rw[oB];exact k
def xD{b:Bool}{K:Bool->T}(k:qA base W J (K b) t Q):qA base W J (.asB (.bool b) K) t Q:=k
def kH{s:List Nat}{K:List Nat->T}(k:qA base W J (K s) t Q):qA base W J (.asS (.str s) K) t Q:=k
def sF{zs:List zA}{a:zA}{K:uO->T}{X:uO}(h:zm8 zs a=some X)(k:qA base W J (K X) t Q):qA base W J (.asG zs a K) t Q:=by
 show uD (zm8 zs a) _;rw[h];exact k
def yG{x:xA->Option (zA × xA)}{K:zA->T}(k:∀b,t.get b=none->base<=b->∃v H,x ⟨b,t⟩=some (v,H)/\qA base W J (K v) H.t Q):qA base W J (.heavy x K) t Q:=by
 intro b h1 h2;obtain⟨v,H,h3,h4⟩:=k b h1 h2
 rw[h3];exact h4
def oC{i:Nat}{a:List zA}(k:J i a t Q):qA base W J (.jump i a) t Q:=k
end
section
variable {t:Tr rA}{C:pA}
end
end Go.Am
namespace Go.Proofs
open Go Go.Am
variable [fC]
variable {t:Tr rA}
def znb(v:mH):Bool:=decide (v.kind=0)&&decide (v.i=0)&&zfg v.f
def zbq{a:mH}{u v:zA}(hu:cA t 1 (lE a.f.n.limbs) u)(hv:cA t 1 (lE a.f.d.limbs) v)(hf:a.f.ok):lB yA F 86 [.agg [.int .u8 a.kind,.bool a.f.n.neg,u,.bool a.f.d.neg,v,.int .i64 a.i]] t=some (.bool (znb a)):=by
 refine jC.2 (w86 _ _ _ _ _ _ ?_)
 simp only[t86,qA,rH];unfold znb;by_cases h1:a.kind=0
 ·rw[yab (by omega)]
  by_cases h2:a.i=0
  ·rw[yab h2,q116,zcu hu hv hf,vA]
   simp only[zA.asBool,vA,decide_eq_true h1,decide_eq_true h2,ycn];first | exact⟨rfl,rfl⟩ | exact⟨rfl,trivial⟩ | exact⟨trivial,trivial⟩
  ·rw[yaa h2];simp[h2]
 ·rw[yaa (by omega)];simp[h1]
structure FM where
 style:Nat
 word:List Nat
 named:Bool
 least:Nat
 most:Nat
 level:Nat
 left:Nat
 right:Nat
def FM.cs(f:FM):List zA:=[.int .u8 f.style,.str f.word,.bool f.named,.int .i64 f.least,.int .i64 f.most,.int .i64 f.level,.int .i64 f.left,.int .i64 f.right]
def atF (w:List Nat):FM:=⟨3,w,true,1,1,7,7,7⟩
def mM(w:List Nat)(n:Bool)(a b:Nat):FM:=⟨6,w,n,a,b,7,1,1⟩
def zfp(w:List Nat)(a b c:Nat):FM:=⟨4,w,false,2,2,a,b,c⟩
def zzad:List FM:=[⟨0,[],false,0,0,0,0,0⟩,⟨1,[],false,0,0,7,0,0⟩,⟨2,[116,111,100,97,121],false,0,0,7,0,0⟩,atF [102,97,99,116,32],atF [104,97,115,32],atF [],mM [108,111,111,107] true 1 2,zfp [43] 5 5 6,zfp [45] 5 5 6,zfp [42] 6 6 7,zfp [47] 6 6 7,
 mM [109,105,110] false 2 2,mM [109,97,120] false 2 2,zfp [60] 4 5 5,zfp [61] 4 5 5,zfp [97,110,100] 2 2 3,zfp [111,114] 1 1 2,⟨5,[110,111,116,32],false,1,1,3,3,3⟩,mM [105,102] false 3 3,mM [114,111,117,110,100] false 2 2,mM [98,101,116,119,101,101,110] false 2 2,
 mM [115,101,114,118,105,99,101] true 2 2,mM [98,101,115,116] true 3 3,mM [103,114,111,119] true 2 2,mM [109,111,110,116,104,115] false 1 1,mM [110,117,109,98,101,114] false 1 1,mM [115,116,97,114,116] false 1 1]
def vL:List zA:=(zzad.map FM.cs).flatten
abbrev z8:List zA:=[.int .u8 0,.str [],.bool false,.int .i64 0,.int .i64 0,.int .i64 0,.int .i64 0,.int .i64 0]
def cv76{w:List Nat}{n:Bool}{a b:Nat}{K:uO->T}{Q:uC}(h:wp 83 (K (cellsOf (mM w n a b).cs)) t Q):wp 83 (.callv (.func (.func 108) [] []) [.str w,.bool n,.int .i64 (a:Int),.int .i64 (b:Int)] fun a=>.asG z8 a K) t Q:=by
 have e:lB yA F 108 [.str w,.bool n,.int .i64 (a:Int),.int .i64 (b:Int)] t=some (.agg (mM w n a b).cs):=by
  refine jC.2 (w108 _ _ _ _ ?_)
  simp only[t108,qA,if_true];constructor<;>trivial
 show uD (some (108,[zA.str w,.bool n,.int .i64 (a:Int),.int .i64 (b:Int)])) _
 rw[vA];simp only[];rw[q108,e,vA];exact h
def cv77{w:List Nat}{K:uO->T}{Q:uC}(h:wp 83 (K (cellsOf (atF w).cs)) t Q):wp 83 (.callv (.func (.func 109) [] []) [.str w] fun a=>.asG z8 a K) t Q:=by
 have e:lB yA F 109 [.str w] t=some (.agg (atF w).cs):=by
  refine jC.2 (w109 _ ?_)
  simp only[t109,qA,if_true];constructor<;>trivial
 show uD (some (109,[zA.str w])) _
 rw[vA];simp only[];rw[q109,e,vA];exact h
def cv78{w:List Nat}{a b c:Nat}{K:uO->T}{Q:uC}(h:wp 83 (K (cellsOf (zfp w a b c).cs)) t Q):wp 83 (.callv (.func (.func 110) [] []) [.str w,.int .i64 (a:Int),.int .i64 (b:Int),.int .i64 (c:Int)] fun a=>.asG z8 a K) t Q:=by
 have e:lB yA F 110 [.str w,.int .i64 (a:Int),.int .i64 (b:Int),.int .i64 (c:Int)] t=some (.agg (zfp w a b c).cs):=by
  refine jC.2 (w110 _ _ _ _ ?_)
  simp only[t110,qA,if_true];constructor<;>trivial
 show uD (some (110,[zA.str w,.int .i64 (a:Int),.int .i64 (b:Int),.int .i64 (c:Int)])) _
 rw[vA];simp only[];rw[q110,e,vA];exact h
def zdy{Q:uC}(h:∀b t',t.get b=none->yA.base<=b->lD t' b none vL->zB t t'->cD b t t'->Q (.ptr b 0) t'):Wc yA F 83 [] t Q:=by
 refine w83 ?_
 unfold t83;repeat (first | refine cv76 ?_ | refine cv77 ?_ | refine cv78 ?_ | refine mA rfl ?_)
 intro b hb hbase;obtain⟨t',h1,h2,h3,h4⟩:=zS hb vL none
 have e:∀l:List zA,l=vL->znk (.agg l) ⟨b,t⟩=some (.ptr b 0,⟨b+1,t'⟩):=by
  intro l hl;show some (zA.ptr b 0,vE ⟨b,t⟩ l none)=_
  rw[hl,h1]
 rw[e _ (by rfl),vA]
 exact h b t' hb hbase h2 h3 h4
def zaj{Q:uC}(h:∀b t',t.get b=none->yA.base<=b->lD t' b none vL->zB t t'->cD b t t'->Q (.agg [.ptr b 0]) t'):Wc yA F 63 [] t Q:=by
 refine w63 ?_
 unfold t63;refine vC ?_
 rw[q83];refine zdy fun b t' h1 h2 h3 h4 h5=>?_
 refine mA rfl (mA rfl ?_)
 exact h b t' h1 h2 h3 h4 h5
end Go.Proofs
namespace Go.Proofs
open Go Go.Am
section
variable [fC]
variable {t:Tr rA}
def mD(op:Nat):FM:=zzad.getD op ⟨0,[],false,0,0,0,0,0⟩
def vV{f:FM->List zA}(hf:∀x,(f x).length=8):∀(l:List FM) (i k:Nat),i<l.length->k<8->(l.map f).flatten[i*8+k]?=(f (l.getD i ⟨0,[],false,0,0,0,0,0⟩))[k]?
 | [],i,k,h,_=>by simp at h
 | x::l,0,k,h,hk=>by
  rw[ycm,yas,yco (by rw[hf];omega)]
  simp
 | x::l,i+1,k,h,hk=>by
  rw[ycm,yas,ybp (by rw[hf];omega),hf,show(i+1)*8+k-8=i*8+k by omega]
  rw[vV hf l i k (by simpa using h) hk]
  simp
def nS{op k:Nat}(h:op<27)(hk:k<8):vL[op*8+k]?=(mD op).cs[k]?:=vV (f:=FM.cs) (fun _=>rfl) zzad op k h hk
def zz4{b op:Nat}(h:op<27):mB yA 188 (.ptr b 0) (.int .u8 (op:Int))=some (.ptr b (op*8)):=by
 have hA:ob (yA.tys.get 188) (fun y=>y.desc.asArr)=some (27,159):=by kernel_rfl
 rw[sA]at hA;obtain⟨y,hy,hd⟩:=hA
 unfold mB;rw[hy,tA];have e:(zA.int .u8 (op:Int)).asNat=some op:=rfl
 rw[e,tA];simp only[zA.asSlice,zA.asPtr,tA,hd];rw[ty159,tA,xC.2 h,zE];simp
def fL{b o k:Nat}(hk:k<8):tB yA 159 k (.ptr b o)=some (.ptr b (o+k)):=by
 have h:jV yA 159 k=some k:=by
  unfold jV;rw[ty159,tA];simp only[jD.asStruct,tA];have:k=0\/k=1\/k=2\/k=3\/k=4\/k=5\/k=6\/k=7:=by omega
  rcases this with e | e | e | e | e | e | e | e<;>rw[e]<;>rfl
 unfold tB;rw[h];rfl
section
variable {b op:Nat}(hF:lD t b none vL)(h:op<27)
include hF h
def zro:oA yA 5 ⟨0,t⟩ (.ptr b (op*8+0))=some (.int .u8 (mD op).style):=hF.load1 ty5 rfl (by rw[nS h (by decide)];rfl)
def zy4:oA yA 9 ⟨0,t⟩ (.ptr b (op*8+1))=some (.str (mD op).word):=hF.load1 ty9 rfl (by rw[nS h (by decide)];rfl)
def zrp:oA yA 4 ⟨0,t⟩ (.ptr b (op*8+2))=some (.bool (mD op).named):=hF.load1 ty4 rfl (by rw[nS h (by decide)];rfl)
def z4e:oA yA 3 ⟨0,t⟩ (.ptr b (op*8+3))=some (.int .i64 (mD op).least):=hF.load1 ty3 rfl (by rw[nS h (by decide)];rfl)
def z9o:oA yA 3 ⟨0,t⟩ (.ptr b (op*8+4))=some (.int .i64 (mD op).most):=hF.load1 ty3 rfl (by rw[nS h (by decide)];rfl)
def z4d:oA yA 3 ⟨0,t⟩ (.ptr b (op*8+5))=some (.int .i64 (mD op).level):=hF.load1 ty3 rfl (by rw[nS h (by decide)];rfl)
def zow:oA yA 3 ⟨0,t⟩ (.ptr b (op*8+6))=some (.int .i64 (mD op).left):=hF.load1 ty3 rfl (by rw[nS h (by decide)];rfl)
def z4c:oA yA 3 ⟨0,t⟩ (.ptr b (op*8+7))=some (.int .i64 (mD op).right):=hF.load1 ty3 rfl (by rw[nS h (by decide)];rfl)
end
def sC{a b:Int}(h:a≠b):iA a b≠true:=fun e=>h (rH.1 e)
def dF{a b:Int}(h:¬ a<b):iB a b≠true:=fun e=>h (kD.1 e)
def nLe{a b:Int}(h:¬ a<=b):nC a b≠true:=fun e=>h (vG.1 e)
def iD{a b:Int}(h:a=b):iA a b=true:=rH.2 h
def zG{a b:Int}(h:a<b):iB a b=true:=kD.2 h
def yLe{a b:Int}(h:a<=b):nC a b=true:=vG.2 h
def bE{b o:Nat}:iC (.ptr b o)=some (.ptr b o):=rfl
def zlu(op:Nat)(name:List Nat)(n:Nat):Bool:=
 decide (op<27) && !decide ((mD op).style=0)&&decide ((mD op).least<=n)&&decide (n<=(mD op).most)&&(if (mD op).named=true then zK name else xF name [])
def zmg(op:Nat)(v:mH):Bool:=if op=19 then decide (1<=v.i)&&decide (v.i<=6)&&znb { v with i:=0 } else znb v
mutual
/-- is an expression printable at a depth? -/
def rF:dA->Nat->Bool
 | .mk op name v args,d=>decide (d<=24)&&zlu op name args.length&&(if op=1 then nO v else zmg op v&&zjp args (d+1))
def zjp:List dA->Nat->Bool
 | [],_=>true
 | x::l,d=>rF x d&&zjp l d
end
def zau:∀ {l:List dA} {d:Nat},zjp l d=l.all fun x=>rF x d
 | [],d=>by rw[zjp];rfl
 | x::l,d=>by rw[zjp,zau];rfl
def z6e(p0_0:zA)(p1_0:Int)(p1_1:List Nat)(p1_2:Int)(p1_3:Bool)(p1_4:zA)(p1_5:Bool)(p1_6:zA)(p1_7:Int)(p1_8:zA)(p2:Int):T:=
 .ite (tC zA.one [(.int .u8 p1_2),(.bool p1_3),p1_4,(.bool p1_5),p1_6,(.int .i64 p1_7)]) (.ite (iA p1_0 1)
 (.call 85 [(.agg [(.int .u8 p1_2),(.bool p1_3),p1_4,(.bool p1_5),p1_6,(.int .i64 p1_7)])] fun a28=>
 .asB a28 fun b29=>.ret (.bool b29))
 (.ite (iA p1_0 19)
 (.ite (iB p1_7 1)
 (.ret (.bool false))
 (.ite (iB 6 p1_7)
 (.ret (.bool false))
 (.ite true (.jump 33 [(.int .i64 p2),p0_0,(.int .u8 p1_0),(.str p1_1),(.int .u8 p1_2),(.bool p1_3),p1_4,(.bool p1_5),p1_6,(.int .i64 p1_7),p1_8,(.int .u8 p1_2),(.bool p1_3),p1_4,(.bool p1_5),p1_6,(.int .i64 0)]) .fail)))
 (.jump 33 [(.int .i64 p2),p0_0,(.int .u8 p1_0),(.str p1_1),(.int .u8 p1_2),(.bool p1_3),p1_4,(.bool p1_5),p1_6,(.int .i64 p1_7),p1_8,(.int .u8 p1_2),(.bool p1_3),p1_4,(.bool p1_5),p1_6,(.int .i64 p1_7)]))) .fail
section
variable {op:Nat}{name:List Nat}{v:mH}{a b c:zA}{bf d:Nat}
def zso{v2:Int}{v':mH}{R:Bool}{n:Nat}{c3:zA}(ha:cA t 1 (lE v'.f.n.limbs) a)(hb:cA t 1 (lE v'.f.d.limbs) b)(hf:v'.f.ok)(hc:bB c=some (.int .i64 (n:Int)))
  (hargs:jp 64 4 [.int .i64 v2,c,.int .i64 (n:Int),.int .i64 0,c3] t (fun x t'=>x=.bool R/\t'=t)) (p3:Bool) (p5:Bool) (p2 p7:Int) (p4 p6:zA) :
  jp 64 33 [.int .i64 v2,c3,.int .u8 (op:Int),.str name,.int .u8 p2,.bool p3,p4,.bool p5,p6,.int .i64 p7,c,.int .u8 v'.kind,.bool v'.f.n.neg,a,.bool v'.f.d.neg,b,.int .i64 v'.i] t (fun x t'=>x=.bool (znb v'&&R)/\t'=t):=by
 refine j64_33 _ _ _ _ _ _ _ _ _ _ _ _ _ _ _ _ _ ?_
 simp only[z6k,qA,q86,zbq ha hb hf,vA,zA.asBool]
 cases hz:znb v' with
 | false=>simp
 | true=>
  simp only[Bool.not_true,ybq,if_false,hc,vA,oB,ycn];exact hargs
def z8f{n:Nat}{R:Bool}(ha:cA t 1 (lE v.f.n.limbs) a)(hb:cA t 1 (lE v.f.d.limbs) b)(hf:qF.fit v.f)(hc:bB c=some (.int .i64 (n:Int)))
  (hargs:jp 64 4 [.int .i64 (d:Int),c,.int .i64 (n:Int),.int .i64 0,.ptr bf 0] t (fun x t'=>x=.bool R/\t'=t)) :
  wp 64 (z6e (.ptr bf 0) (op:Int) name (v.kind:Int) v.f.n.neg a v.f.d.neg b v.i c (d:Int)) t (fun x t'=>x=.bool (if op=1 then nO v else zmg op v&&R)/\t'=t):=by
 unfold z6e;refine mA ?_ ?_
 ·rw[lG];simp only[ycg,yck,ha.one,hb.one];rfl
 by_cases h1:op=1
 ·refine mA (iD (by omega)) ?_
  simp only[qA,q85,za3 ha hb hf,vA,zA.asBool,yab h1];constructor<;>trivial
 ·refine lA (sC (by omega)) ?_
  simp only[yaa h1];unfold zmg;by_cases h2:op=19
  ·refine mA (iD (by omega)) ?_
   simp only[yab h2];by_cases h3:1<=v.i
   ·refine lA (dF (by omega)) ?_
    by_cases h4:v.i<=6
    ·refine lA (dF (by omega)) (mA rfl ?_)
     have:=zso (op:=op) (name:=name) (v':={ v with i:=0 }) ha hb hf.1 hc hargs v.f.n.neg v.f.d.neg v.kind v.i a b
     simp only[decide_eq_true h3,decide_eq_true h4,ycn];exact this
    ·refine mA (zG (by omega)) ?_
     simp[qA,h4]
   ·refine mA (zG (by omega)) ?_
    simp[qA,h3]
  ·refine lA (sC (by omega)) ?_
   simp only[yaa h2];exact zso (op:=op) (name:=name) (v':=v) ha hb hf.1 hc hargs v.f.n.neg v.f.d.neg v.kind v.i a b
def z4t{n:Nat}{R:Bool}(hF:lD t bf none vL)(hop:op<256)(hn:n<cC)(hnl:name.length<cC)(ha:cA t 1 (lE v.f.n.limbs) a)(hb:cA t 1 (lE v.f.d.limbs) b)(hf:qF.fit v.f)(hc:bB c=some (.int .i64 (n:Int)))
  (hargs:d<=24->jp 64 4 [.int .i64 (d:Int),c,.int .i64 (n:Int),.int .i64 0,.ptr bf 0] t (fun x t'=>x=.bool R/\t'=t)) :
  lB yA F 64 [.agg [.ptr bf 0],.agg [.int .u8 op,.str name,.int .u8 v.kind,.bool v.f.n.neg,a,.bool v.f.d.neg,b,.int .i64 v.i,c],.int .i64 (d:Int)] t=some (.bool (decide (d<=24)&&zlu op name n&&(if op=1 then nO v else zmg op v&&R))):=by
 refine jC.2 (w64 _ _ _ _ _ _ _ _ _ _ _ ?_)
 unfold t64 zlu;by_cases hd:d<=24
 case neg=>
  refine mA (zG (by omega)) ?_
  simp[qA,hd]
 refine lA (dF (by omega)) ?_
 have htail:=z8f (op:=op) (name:=name) (d:=d) (bf:=bf) ha hb hf hc (hargs hd)
 by_cases h27:op<27
 case neg=>
  refine mA (by rw[wrap_i64 (by omega) (by omega)];exact yLe (by omega)) ?_
  simp[qA,h27]
 refine lA (by rw[wrap_i64 (by omega) (by omega)];exact nLe (by omega)) ?_
 refine jA bE (jA (zz4 h27) (jA bE (jA (fL (by decide)) (lC (zro hF h27) (wC ?_)))))
 by_cases hs:(mD op).style=0
 ·refine mA (iD (by omega)) ?_
  simp[qA,hs]
 refine lA (sC (by omega)) ?_
 refine jA hc (wC (jA bE (jA (fL (by decide)) (lC (z4e hF h27) (wC ?_)))))
 by_cases hl:(mD op).least<=n
 case neg=>
  refine mA (zG (by omega)) ?_
  simp[qA,hl]
 refine lA (dF (by omega)) ?_
 refine jA hc (wC (jA bE (jA (fL (by decide)) (lC (z9o hF h27) (wC ?_)))))
 by_cases hm:n<=(mD op).most
 case neg=>
  refine mA (zG (by omega)) ?_
  simp[qA,hm]
 refine lA (dF (by omega)) ?_
 have hld:=zrp hF h27
 refine jA bE (jA (fL (by decide)) (lC hld (xD ?_)))
 simp only[decide_eq_true hd,decide_eq_true h27,decide_eq_false hs,decide_eq_true hl,decide_eq_true hm,ycn,ycl]
 cases hnm:(mD op).named with
 | true=>
  rw[hnm]at hld;simp only[if_true];refine mA rfl (vC ?_)
  rw[q84,za8,vA];refine xD ?_
  cases hN:zK name with
  | false=>
   refine mA rfl ?_
   simp[qA]
  | true=>
   refine lA (by simp) (jA bE (jA (fL (by decide)) (lC hld (xD (lA (by simp) ?_)))))
   simp only[ycn];exact htail
 | false=>
  rw[hnm]at hld;simp only[ybq,if_false];refine lA (by simp) (jA bE (jA (fL (by decide)) (lC hld (xD (mA rfl ?_)))))
  cases hN:xF name []with
  | false=>
   refine mA rfl ?_
   simp[qA]
  | true=>
   refine lA (by simp) ?_
   simp only[ycn];exact htail
end
mutual
def zjd{bf:Nat}(hF:lD t bf none vL):∀(x:dA) (d:Nat) (cs:List zA),x.fit->d<1000->RD t x.d cs->lB yA F 64 [.agg [.ptr bf 0],.agg cs,.int .i64 (d:Int)] t=some (.bool (rF x d))
 | .mk op name v args,d,cs,hx,hd,h=>by
  obtain⟨a,b,c,rfl,ha,hb,hc⟩:=cJ h
  simp only[dA.op,dA.name,dA.v,dA.args]at ha hb hc ⊢
  have hx':=hx
  unfold dA.fit at hx';unfold rF;refine z4t hF hx'.1 (n:=args.length) hx'.2.2.2.2.1 hx'.2.1 ha hb hx'.2.2.2.1.2.1 (by rw[hc.len,ybf]) fun hd'=>?_
  have:=zsx hF args args d c 0 hc rfl hx'.2.2.2.2.2 hx'.2.2.2.2.1 hd'
  exact this
def zsx{bf:Nat}(hF:lD t bf none vL):∀(l args:List dA) (d:Nat) (c:zA) (i:Nat),cA t 9 (args.map dA.d) c->args.drop i=l->dA.fits l->args.length<cC->d<=24 →
  jp 64 4 [.int .i64 (d:Int),c,.int .i64 (args.length:Int),.int .i64 (i:Int),.ptr bf 0] t (fun x t'=>x=.bool (zjp l (d+1))/\t'=t)
 | [],args,d,c,i,hc,hl,hok,hsz,hd=>by
  have:=zap hl
  refine j64_4 _ _ _ _ _ ?_
  unfold z8l;refine lA (dF (by omega)) ?_
  unfold zjp;simp[qA]
 | x::l,args,d,c,i,hc,hl,hok,hsz,hd=>by
  obtain⟨h1,h2,h3⟩:=aW hl
  unfold cC at hsz;have hok':=hok
  unfold dA.fits at hok';refine j64_4 _ _ _ _ _ ?_
  obtain⟨pb,po,cs,g1,g2,g3,g4,g5⟩:=zF.at z8t (by simp) hc (i:=i) (d:=x.d) (by simp[h1])
  unfold z8l;refine mA (zG (by omega)) (jA g1 (lC g2 ?_))
  rw[sK];refine sF (lI g5 x.zs) ?_
  have hmk:=g5.mk x.zs
  have hcs:[zA.int .u8 ((cellsOf cs).i 0),.str ((cellsOf cs).s 1),.int .u8 ((cellsOf cs).i 2),.bool ((cellsOf cs).b 3),(cellsOf cs).v 4,.bool ((cellsOf cs).b 5),(cellsOf cs).v 6,.int .i64 ((cellsOf cs).i 7),(cellsOf cs).v 8]=cs:=hmk
  rw[hcs];refine mA g5.all (vC ?_)
  rw[wrap_i64 (by omega) (by omega),show(d:Int)+1=((d+1:Nat):Int) by omega,q64,zjd hF x (d+1) cs hok'.1 (by omega) g5,vA]
  refine xD ?_
  unfold zjp
  cases hE:rF x (d+1)with
  | false=>
   refine mA rfl ?_
   simp[qA]
  | true=>
   refine lA (by simp) (oC ?_)
   rw[wrap_i64 (by omega) (by omega),show(i:Int)+1=((i+1:Nat):Int) by omega]
   have:=zsx hF l args d c (i+1) hc h2 hok'.2 hsz hd
   simp only[ycn];exact this
end
end
section
variable [fC]
variable {t:Tr rA}
def zza2 (S el f:Nat)(zs:List zA)(cond:uO->Bool)(v1 v7:zA)(n i:Int):T:=
 .ite (iB i n)
  (.opt (mB yA S v7 (.int .i64 i)) fun a0=>.light (fun m=>oA yA el ⟨0,m⟩ a0) fun a1=>.asG zs a1 fun X=>
   .ite (cond X) (.callv v1 [.agg (uN zs X 0)] fun a3=>.asB a3 fun b4=>.ite (!b4) (.ret (.bool false)) (.jump 2 [v1,v7,.int .i64 n,.int .i64 (wA .i64 (i+1))])) .fail)
  (.ret (.bool true))
def zct{α:Type}{dd:α->D}{P:α->Bool}{S el sz f:Nat}{zs:List zA}{cond:uO->Bool}{v1 v7:zA}(hS:zF yA S el sz true){l:List α}(hz:∀x∈l,(dd x).zs=zs)(hr:cA t sz (l.map dd) v7)(hlen:l.length<1000000000000000000)
  (hj:∀i t Q,wp f (zza2 S el f zs cond v1 v7 l.length i) t Q->jp f 2 [v1,v7,.int .i64 (l.length:Int),.int .i64 i] t Q)
  (hc:∀cs,tC zA.one cs=true->lK zs cs=true->cond (cellsOf cs)=true)
  (hcall:∀x∈l,∀cs,RD t (dd x) cs->∀(R:uC),R (.bool (P x)) t->uD (iM v1 [.agg cs]) fun p=>Wq yA F uJ p.1 p.2 t R) :
  ∀(k i:Nat),i+k=l.length->jp f 2 [v1,v7,.int .i64 (l.length:Int),.int .i64 (i:Int)] t (fun x t'=>x=.bool ((l.drop i).all P)/\t'=t):=by
 intro k;induction k with
 | zero=>
  intro i hi;refine hj _ _ _ (lA (dF (by omega)) ?_)
  rw[ybt (by omega)]
  exact⟨rfl,rfl⟩
 | succ k ih=>
  intro i hi;have hlt:i<l.length:=by omega
  have hm:l[i]∈l:=ycj hlt
  obtain⟨b,off,cs,g1,g2,g3,g4,g5⟩:=zF.at hS (by simp) hr (i:=i) (d:=dd l[i]) (by simp[hlt])
  refine hj _ _ _ (mA (zG (by omega)) (jA g1 (lC g2 ?_)))
  rw[sK];have hzz:=hz _ hm
  refine sF (lI g5 hzz) (mA (hc cs g5.all (by rw[<- hzz];exact zeq _ _ g5)) ?_)
  rw[g5.mk hzz];refine hcall _ hm cs g5 _ ?_
  refine xD ?_
  have hd:l.drop i=l[i]::l.drop (i+1):=ybl hlt
  rw[hd,ycg]
  cases hP:P l[i]with
  | false=>exact mA rfl ⟨rfl,rfl⟩
  | true=>
   refine lA (by simp) (oC ?_)
   rw[wrap_i64 (by omega) (by omega),show(i:Int)+1=((i+1:Nat):Int) by omega,ycn]
   exact ih (i+1) (by omega)
def z2f (n:Int):Bool:=decide (0<=n)&&decide (n<65536)
def z9r (n:Int):Bool:=decide (-2147483648<=n)&&decide (n<2147483648)
def defP (d:jE):Bool:=zK d.name&&(decide (1<=d.kind)&&decide (d.kind<=6))
def rowP (two:Bool)(r:vH):Bool:=z9r r.a&&(z9r r.b&&((two||decide (r.b=0))&&(z2f r.known&&zgo r.f)))
def zf4(x:qE):Bool:=zK x.name&&x.rows.all (rowP x.two)
def tO(x:dA):Bool:=decide (x.op=0)&&(xF x.name []&&(decide (x.args.length=0)&&znb x.v))
def uP(x:vF):Bool:=
 zK x.name&&(zK x.label&&(z2f x.from_&&(z2f x.known&&((z2f x.to||decide (x.to=65536))&&(if x.off=true then tO x.when_&&tO x.then_ else rF x.when_ 1&&rF x.then_ 1)))))
def zod(p:eC):Bool:=zK p.name&&(p.defs.all defP&&(p.tables.all zf4&&p.clauses.all uP))
def zqa{x:dA}{a b c:zA}(hx:x.fit)(ha:cA t 1 (lE x.v.f.n.limbs) a)(hb:cA t 1 (lE x.v.f.d.limbs) b)(hc:cA t 9 (x.args.map dA.d) c):lB yA F 126 [.agg (sG x a b c)] t=some (.bool (tO x)):=by
 obtain⟨op,name,v,args⟩:=x
 simp only[dA.op,dA.name,dA.v,dA.args,tO,sG]at ha hb hc ⊢
 unfold dA.fit at hx;have hl:bB c=some (.int .i64 (args.length:Int)):=by rw[hc.len,ybf]
 refine jC.2 (w126 _ _ _ _ _ _ _ _ _ ?_)
 unfold t126;by_cases h1:op=0
 case neg=>refine lA (sC (by omega)) ?_;simp[qA,h1]
 refine mA (iD (by omega)) ?_
 cases h2:xF name []with
 | false=>refine lA (by simp) ?_;simp[qA]
 | true=>
  refine mA rfl (jA hl (wC ?_))
  by_cases h3:args.length=0
  case neg=>refine lA (sC (by omega)) ?_;simp[qA,h3]
  refine mA (iD (by omega)) (vC ?_)
  rw[q86,zbq ha hb hx.2.2.2.1.2.1.1,vA];refine xD ?_
  simp[qA,h1,h3]
def z5z{l:List jE}{v:zA}(hr:cA t 3 (l.map jE.d) v)(hlen:l.length<cC):lB yA F 91 [v,.func (.func 90) [] []] t=some (.bool (l.all defP)):=by
 unfold cC at hlen;refine jC.2 (w91 _ _ ?_)
 unfold t91;refine jA hr.len (wC (oC ?_))
 rw[ybf];refine zct (dd:=jE.d) (P:=defP) (S:=22) (el:=59) (zs:=[.str [],.int .u8 0,.bool false]) (cond:=fun _=>true) sl22 (fun x _=>x.zs) hr (by omega) (fun i t Q h=>j91_2 _ _ _ _ h) (fun _ _ _=>rfl) ?_ l.length 0 (by omega)
 intro x hx cs hcs R hR;have:=zkr hcs
 subst this;show uD (some (90,[zA.agg [.str x.name,.int .u8 x.kind,.bool x.fact]])) _
 rw[vA];have:lB yA F 90 [zA.agg [.str x.name,.int .u8 x.kind,.bool x.fact]] t=some (.bool (defP x)):=by
  refine jC.2 (w90 _ _ _ ?_)
  unfold t90 defP;refine vC ?_
  rw[q84,za8,vA];refine xD ?_
  cases h1:zK x.name with
  | false=>refine lA (by simp) ?_;simp[qA]
  | true=>
   refine mA rfl ?_
   by_cases h2:1<=x.kind
   ·refine mA (yLe (by omega)) ?_
    have:nC (x.kind:Int) 6=decide (x.kind<=6):=by rw[z4r];congr 1;exact propext (by omega)
    simp[qA,h2,this]
   ·refine lA (nLe (by omega)) ?_
    simp[qA,h2]
 rw[q90,this,vA];exact hR
def key_ok{n:Int}:lB yA F 123 [.int .i64 n] t=some (.bool (z9r n)):=by
 refine jC.2 (w123 _ ?_)
 unfold t123 z9r;by_cases h : -2147483648<=n
 ·refine mA (yLe h) ?_
  rw[decide_eq_true h,ycn,<- zz6];exact⟨rfl,rfl⟩
 ·refine lA (nLe h) ?_
  rw[decide_eq_false h,Bool.false_and];exact⟨rfl,rfl⟩
def zsl{n:Int}:lB yA F 117 [.int .i64 n] t=some (.bool (z2f n)):=zrz
def row_ok{two:Bool}{r:vH}{u v:zA}{k b:Nat}{s:zA}{nm:List Nat}(hu:cA t 1 (lE r.f.n.limbs) u)(hv:cA t 1 (lE r.f.d.limbs) v)(hf:r.f.fit)(hk:lD t k none [.func (.func 123) [] []])(hb:lD t b none [.str nm,.bool two,s]) :
  lB yA F 124 [.agg [.int .i64 r.a,.int .i64 r.b,.int .i64 r.known,.bool r.f.n.neg,u,.bool r.f.d.neg,v],.ptr k 0,.ptr b 0] t=some (.bool (rowP two r)):=by
 refine jC.2 (w124 _ _ _ _ _ _ _ _ _ ?_)
 have hld:oA yA 191 ⟨0,t⟩ (.ptr k 0)=some (.func (.func 123) [] []):=hk.load1 (j:=0) z8c rfl rfl
 have hl2:oA yA 4 ⟨0,t⟩ (.ptr b 1)=some (.bool two):=hb.load1 (j:=1) ty4 rfl rfl
 have hfa:tB yA 81 1 (.ptr b 0)=some (.ptr b 1):=by kernel_rfl
 have hc:∀(n:Int) (K:zA->T) (Q:uC),wp 124 (K (.bool (z9r n))) t Q->wp 124 (.callv (.func (.func 123) [] []) [.int .i64 n] K) t Q:=by
  intro n K Q h;show uD (some (123,[zA.int .i64 n])) _
  rw[vA];simp only[];rw[q123,key_ok,vA];exact h
 have bD:∀(K2:Bool),(wp 124 (.call 117 [(.int .i64 r.known)] fun a9=>
 .asB a9 fun b10=>.ite b10
 (.call 115 [(.agg [(.bool r.f.n.neg),u,(.bool r.f.d.neg),v])] fun lF=>
 .asB lF fun b12=>.ret (.bool b12))
 (.ret (.bool false))) t (fun x t'=>x=.bool (z2f r.known&&zgo r.f)/\t'=t)):=by
  intro _;refine vC ?_
  rw[q117,zsl,vA];refine xD ?_
  cases h:z2f r.known with
  | false=>exact lA (by simp) ⟨rfl,rfl⟩
  | true=>
   refine mA rfl (vC ?_)
   rw[q115,gZ hu hv hf,vA];exact xD ⟨rfl,rfl⟩
 unfold t124 rowP;refine lC hld (hc _ _ _ (xD ?_))
 cases h1:z9r r.a with
 | false=>exact lA (by simp) ⟨rfl,rfl⟩
 | true=>
  refine mA rfl (lC hld (hc _ _ _ (xD ?_)))
  cases h2:z9r r.b with
  | false=>exact lA (by simp) ⟨rfl,rfl⟩
  | true=>
   refine mA rfl (jA hfa (lC hl2 (xD ?_)))
   cases two with
   | true=>
    refine mA rfl ?_
    simp only[Bool.true_or,ycn];exact bD true
   | false=>
    refine lA (by simp) ?_
    by_cases h3:r.b=0
    ·refine mA (iD h3) ?_
     simp only[decide_eq_true h3,Bool.or_true,ycn];exact bD true
    ·refine lA (sC h3) ?_
     simp only[decide_eq_false h3,Bool.or_false,Bool.false_and,yay];exact⟨rfl,rfl⟩
def z2p{x:qE}{a:zA}(hr:cA t 7 (x.rows.map vH.d) a)(hx:x.fit):lB yA F 93 [.agg [.str x.name,.bool x.two,a]] t=some (.bool (zf4 x)):=by
 have hlen:=hx.2.1
 unfold cC at hlen;refine nJ (w93 _ _ _ ?_)
 unfold t93;refine yG fun b hb hbase=>?_
 obtain⟨t1,e1,c1,l1,o1⟩:=zS hb [.str x.name,.bool x.two,a] none
 refine⟨.ptr b 0,⟨b+1,t1⟩,by rw[<- e1];rfl,?_⟩
 refine yG fun k hk kbase=>?_
 obtain⟨t2,e2,c2,l2,o2⟩:=eS (C:=yA) z8c hk
 refine⟨_,_,e2,?_⟩
 refine yG fun n _ _=>?_
 obtain⟨t3,e3,c3,o3⟩:=c2.store1 (v:=.func (.func 123) [] []) kbase z8c rfl rfl rfl (j:=0) (by simp)
 refine⟨_,_,e3 n,?_⟩
 have hbk:b≠k:=by intro e;obtain⟨c,h,_⟩:=c1;rw[e,hk]at h;cases h
 have cb:lD t3 b none [.str x.name,.bool x.two,a]:=c1.off (by rw[o3 b hbk,o2 b hbk])
 have hle:zB t t3:=fun c u hc=>by
  have h1:=l1 _ _ hc
  have h2:c≠k:=fun e=>by rw[e,hk]at h1;cases h1
  rw[o3 c h2];exact l2 _ _ h1
 have hfa0:tB yA 81 0 (.ptr b 0)=some (.ptr b 0):=by kernel_rfl
 have hfa2:tB yA 81 2 (.ptr b 0)=some (.ptr b 2):=by kernel_rfl
 refine jA hfa0 (lC (cb.load1 (j:=0) ty9 rfl rfl) (kH (vC ?_)))
 rw[q84,za8,vA];refine xD ?_
 unfold zf4
 cases h1:zK x.name with
 | false=>exact lA (by simp) ⟨rfl,hle⟩
 | true=>
  refine mA rfl (jA hfa2 (lC (cb.load1 (j:=2) ty79 rfl rfl) (vC ?_)))
  have hall:lB yA F 125 [a,.func (.func 124) [] [.ptr k 0,.ptr b 0]] t3=some (.bool (x.rows.all (rowP x.two))):=by
   refine jC.2 (w125 _ _ ?_)
   unfold t125;refine jA (hr.mono hle).len (wC (oC ?_))
   rw[ybf];refine zct (dd:=vH.d) (P:=rowP x.two) (S:=79) (el:=84) (zs:=[.int .i64 0,.int .i64 0,.int .i64 0,.bool false,.nilslice,.bool false,.nilslice]) (cond:=fun X=>tC zA.one [(.int .i64 (X.i 0)),(.int .i64 (X.i 1)),(.int .i64 (X.i 2)),(.bool (X.b 3)),(X.v 4),(.bool (X.b 5)),(X.v 6)]) sl79 (fun x _=>x.zs) (hr.mono hle) (by omega) (fun i t Q h=>j125_2 _ _ _ _ h) ?_ ?_ x.rows.length 0 (by omega)
   ·intro cs h1 h2
    have h3:uN [.int .i64 0,.int .i64 0,.int .i64 0,.bool false,.nilslice,.bool false,.nilslice] (cellsOf cs) 0=cs:=by simpa using eW _ cs [] h2
    have e:[zA.int .i64 ((cellsOf cs).i 0),.int .i64 ((cellsOf cs).i 1),.int .i64 ((cellsOf cs).i 2),.bool ((cellsOf cs).b 3),(cellsOf cs).v 4,.bool ((cellsOf cs).b 5),(cellsOf cs).v 6]=cs:=h3
    show tC zA.one [_,_,_,_,_,_,_]=true
    rw[e];exact h1
   ·intro r hr' cs hcs R hR
    obtain⟨u,v,rfl,hu,hv⟩:=zxw hcs
    show uD (some (124,[zA.agg [.int .i64 r.a,.int .i64 r.b,.int .i64 r.known,.bool r.f.n.neg,u,.bool r.f.d.neg,v],.ptr k 0,.ptr b 0])) _
    rw[vA];simp only[];rw[q124,row_ok hu hv (hx.2.2 r hr').2.2.2 c3 cb,vA]
    exact hR
  rw[q125,hall,vA];exact xD ⟨rfl,hle⟩
def zvg{l:List qE}{v:zA}(hr:cA t 3 (l.map qE.d) v)(hlen:l.length<cC)(hx:∀x∈l,x.fit):lB yA F 92 [v,.func (.func 93) [] []] t=some (.bool (l.all zf4)):=by
 unfold cC at hlen;refine jC.2 (w92 _ _ ?_)
 unfold t92;refine jA hr.len (wC (oC ?_))
 rw[ybf];refine zct (dd:=qE.d) (P:=zf4) (S:=23) (el:=81) (zs:=[.str [],.bool false,.nilslice]) (cond:=fun X=>tC zA.one [(.str (X.s 0)),(.bool (X.b 1)),(X.v 2)]) sl23 (fun x _=>x.zs) hr (by omega) (fun i t Q h=>j92_2 _ _ _ _ h) ?_ ?_ l.length 0 (by omega)
 ·intro cs h1 h2
  have h3:uN [.str [],.bool false,.nilslice] (cellsOf cs) 0=cs:=by simpa using eW _ cs [] h2
  have e:[zA.str ((cellsOf cs).s 0),.bool ((cellsOf cs).b 1),(cellsOf cs).v 2]=cs:=h3
  show tC zA.one [_,_,_]=true
  rw[e];exact h1
 ·intro x hm cs hcs R hR
  obtain⟨a,rfl,ha⟩:=uW hcs
  show uD (some (93,[zA.agg [.str x.name,.bool x.two,a]])) _
  rw[vA];simp only[];rw[q93,z2p ha (hx x hm),vA]
  exact hR
def z1e{bf:Nat}(hF:lD t bf none vL){x:vF}{cs:List zA}(hx:x.fit)(hr:RD t x.d cs):lB yA F 95 [.agg [.ptr bf 0],.agg cs] t=some (.bool (uP x)):=by
 obtain⟨a,b,c,a',b',c',rfl,hw,ht⟩:=zdp hr
 have hxw:=hx.2.2.2.2.2.1
 have hxt:=hx.2.2.2.2.2.2
 obtain⟨a1,b1,c1,e1,ha,hb,hc⟩:=cJ hw
 obtain⟨a2,b2,c2,e2,ha',hb',hc'⟩:=cJ ht
 simp only[sG,List.cons.injEq,true_and,and_true]at e1 e2;obtain⟨rfl,rfl,rfl⟩:=e1
 obtain⟨rfl,rfl,rfl⟩:=e2
 have bD:∀(cw ct:List zA),cw=sG x.when_ a b c->ct=sG x.then_ a' b' c'->wp 95 (.ite x.off
 (.call 126 [(.agg cw)] fun a10=>
 .asB a10 fun b11=>.ite b11
 (.call 126 [(.agg ct)] fun a12=>
 .asB a12 fun b13=>.ret (.bool b13))
 (.ret (.bool false)))
 (.call 64 [(.agg [.ptr bf 0]),(.agg cw),(.int .i64 1)] fun a14=>
 .asB a14 fun b15=>.ite b15
 (.call 64 [(.agg [.ptr bf 0]),(.agg ct),(.int .i64 1)] fun a16=>
 .asB a16 fun b17=>.ret (.bool b17))
 (.ret (.bool false)))) t (fun v t'=>v=.bool (if x.off=true then tO x.when_&&tO x.then_ else rF x.when_ 1&&rF x.then_ 1)/\t'=t):=by
  intro cw ct ew et;subst ew;subst et
  cases hoff:x.off with
  | true=>
   refine mA rfl (vC ?_)
   rw[q126,zqa hxw ha hb hc,vA];refine xD ?_
   rw[yab rfl]
   cases h:tO x.when_ with
   | false=>exact lA (by simp) ⟨rfl,rfl⟩
   | true=>
    refine mA rfl (vC ?_)
    rw[q126,zqa hxt ha' hb' hc',vA];exact xD ⟨rfl,rfl⟩
  | false=>
   refine lA (by simp) (vC ?_)
   have e1:=zjd hF x.when_ 1 _ hxw (by omega) hw
   have e2:=zjd hF x.then_ 1 _ hxt (by omega) ht
   rw[show((1:Nat):Int)=1 from rfl]at e1 e2
   rw[q64,e1,vA];refine xD ?_
   rw[yaa (by simp)]
   cases h:rF x.when_ 1 with
   | false=>exact lA (by simp) ⟨rfl,rfl⟩
   | true=>
    refine mA rfl (vC ?_)
    rw[q64,e2,vA];exact xD ⟨rfl,rfl⟩
 refine jC.2 ?_
 unfold sG;refine w95 _ _ _ _ _ _ _ _ _ _ _ _ _ _ _ _ _ _ _ _ _ _ _ _ _ ?_
 unfold t95 uP;refine vC ?_
 rw[q84,za8,vA];refine xD ?_
 cases h1:zK x.name with
 | false=>exact mA rfl ⟨rfl,rfl⟩
 | true=>
  refine lA (by simp) (vC ?_)
  rw[q84,za8,vA];refine xD ?_
  cases h2:zK x.label with
  | false=>exact mA rfl ⟨rfl,rfl⟩
  | true=>
   refine lA (by simp) (vC ?_)
   rw[q117,zsl,vA];refine xD ?_
   cases h3:z2f x.from_ with
   | false=>exact mA rfl ⟨rfl,rfl⟩
   | true=>
    refine lA (by simp) (vC ?_)
    rw[q117,zsl,vA];refine xD ?_
    cases h4:z2f x.known with
    | false=>exact mA rfl ⟨rfl,rfl⟩
    | true=>
     refine lA (by simp) (vC ?_)
     rw[q117,zsl,vA];refine xD ?_
     simp only[ycn]
     cases h5:z2f x.to with
     | false=>
      refine mA rfl ?_
      by_cases h6:x.to=65536
      ·refine lA (by rw[iD h6];simp) ?_
       simp only[decide_eq_true h6,Bool.or_true,ycn];exact bD _ _ rfl rfl
      ·have:iA x.to 65536=false:=by
        cases hq:iA x.to 65536 with
        | true=>exact absurd hq (sC h6)
        | false=>rfl
       refine mA (by rw[this];rfl) ?_
       simp only[decide_eq_false h6,Bool.or_false,Bool.false_and];exact⟨rfl,rfl⟩
     | true=>
      refine lA (by simp) ?_
      simp only[Bool.true_or,ycn];exact bD _ _ rfl rfl
def zp2{bf:Nat}(hF:lD t bf none vL){l:List vF}{v:zA}(hr:cA t 24 (l.map vF.d) v)(hlen:l.length<cC)(hx:∀x∈l,x.fit):lB yA F 94 [v,.func (.func 95) [.agg [.ptr bf 0]] []] t=some (.bool (l.all uP)):=by
 unfold cC at hlen;refine jC.2 (w94 _ _ ?_)
 unfold t94;refine jA hr.len (wC (oC ?_))
 rw[ybf];refine zct (dd:=vF.d) (P:=uP) (S:=24) (el:=56) (zs:=[(.str []),(.str []),(.int .i64 0),(.int .i64 0),(.int .i64 0),(.bool false),(.int .u8 0),(.str []),(.int .u8 0),(.bool false),.nilslice,(.bool false),.nilslice,(.int .i64 0),.nilslice,(.int .u8 0),(.str []),(.int .u8 0),(.bool false),.nilslice,(.bool false),.nilslice,(.int .i64 0),.nilslice])
  (cond:=fun X2=>tC zA.one [(.str (X2.s 0)),(.str (X2.s 1)),(.int .i64 (X2.i 2)),(.int .i64 (X2.i 3)),(.int .i64 (X2.i 4)),(.bool (X2.b 5)),(.int .u8 (X2.i 6)),(.str (X2.s 7)),(.int .u8 (X2.i 8)),(.bool (X2.b 9)),(X2.v 10),(.bool (X2.b 11)),(X2.v 12),(.int .i64 (X2.i 13)),(X2.v 14),(.int .u8 (X2.i 15)),(.str (X2.s 16)),(.int .u8 (X2.i 17)),(.bool (X2.b 18)),(X2.v 19),(.bool (X2.b 20)),(X2.v 21),(.int .i64 (X2.i 22)),(X2.v 23)]) sl24 (fun x _=>x.zs) hr (by omega) (fun i t Q h=>j94_2 _ _ _ _ h) ?_ ?_ l.length 0 (by omega)
 ·intro cs h1 h2
  have h3:=eW _ cs [] h2
  rw[yah,ybx]at h3;show tC zA.one (uN [(.str []),(.str []),(.int .i64 0),(.int .i64 0),(.int .i64 0),(.bool false),(.int .u8 0),(.str []),(.int .u8 0),(.bool false),.nilslice,(.bool false),.nilslice,(.int .i64 0),.nilslice,(.int .u8 0),(.str []),(.int .u8 0),(.bool false),.nilslice,(.bool false),.nilslice,(.int .i64 0),.nilslice] (cellsOf cs) 0)=true
  rw[h3];exact h1
 ·intro x hm cs hcs R hR
  show uD (some (95,[.agg [.ptr bf 0],zA.agg cs])) _
  rw[vA];simp only[];rw[q95,z1e hF (hx x hm) hcs,vA]
  exact hR
def z81{bf:Nat}(hF:lD t bf none vL){p:eC}{cs:List zA}(hp:p.fit)(hr:RD t p.d cs):lB yA F 68 [.agg [.ptr bf 0],.agg cs] t=some (.bool (zod p)):=by
 obtain⟨a,b,c,rfl,ha,hb,hc⟩:=xN hr
 refine jC.2 (w68 _ _ _ _ _ ?_)
 unfold t68 zod;refine vC ?_
 rw[q84,za8,vA];refine xD ?_
 cases h1:zK p.name with
 | false=>exact lA (by simp) ⟨rfl,rfl⟩
 | true=>
  refine mA rfl (vC ?_)
  rw[q91,z5z ha hp.ndefs,vA];refine xD ?_
  cases h2:p.defs.all defP with
  | false=>exact lA (by simp) ⟨rfl,rfl⟩
  | true=>
   refine mA rfl (vC ?_)
   rw[q92,zvg hb hp.ntables hp.tables,vA];refine xD ?_
   cases h3:p.tables.all zf4 with
   | false=>exact lA (by simp) ⟨rfl,rfl⟩
   | true=>
    refine mA rfl (vC ?_)
    rw[q94,zp2 hF hc hp.nclauses hp.clauses,vA];exact xD ⟨rfl,rfl⟩
def zbw{p:eC}{cs:List zA}(hp:p.fit)(hr:RD t p.d cs):lB yA F 46 [.agg cs] t=some (.bool (zod p)):=by
 have hr':=hr
 obtain⟨a,b,c,rfl,ha,hb,hc⟩:=xN hr
 refine nJ (w46 _ _ _ _ ?_)
 unfold t46;refine vC ?_
 rw[q63];refine zaj fun bf t' h1 h2 h3 h4 h5=>?_
 refine sF (dL rfl) (mA ?_ (vC ?_))
 ·exact hr'.sameA
 ·have e:(cellsOf [zA.ptr bf 0]).v 0=.ptr bf 0:=rfl
  rw[q68,e,z81 h3 hp (hr'.mono h4),vA]
  exact xD ⟨rfl,h4⟩
end
section
variable [fC]
variable {t:Tr rA}
def xS:List Int:=[31,28,31,30,31,30,31,31,30,31,30,31]
def rJ(t:Tr rA):Prop:=At t 3 0 (xS.map fun n=>zA.int .i64 n)
def rJ.mono{t':Tr rA}(h:rJ t)(k:zB t t'):rJ t':=At.mono k h
def zc5(x:Int){k:Nat}(hk:0<k) : -(k:Int)<Int.tmod x k/\Int.tmod x k<k:=by
 have h:=Int.natAbs_tmod x k
 have h2:=ycy x.natAbs (show 0<(k:Int).natAbs by simpa using hk)
 omega
def z4b(y:Int):Bool:=decide (Int.tmod y 4=0)&&(!decide (Int.tmod y 100=0)||decide (Int.tmod y 400=0))
def lenD (y m:Int):Int:=if m<1 then 0 else if 12<m then 0 else if m=2/\z4b y=true then 29 else xS.getD (m-1).toNat 0
def zy3(y:Int):Int:=wA .i64 ((wA .i64 ((wA .i64 (Int.tdiv y 4))-(wA .i64 (Int.tdiv y 100))))+(wA .i64 (Int.tdiv y 400)))
def zqq(v0 v3:Int):Nat->Int->Int->Int
 | 0,_,v4=>v4
 | k+1,v5,v4=>if v5<=Int.tmod v0 12 then zqq v0 v3 k (v5+1) (wA .i64 (v4+lenD v3 v5))else v4
def zf9(m:Int):Int:=zqq m (wA .i64 (1900+(wA .i64 (Int.tdiv m 12)))) 11 1 (wA .i64 ((wA .i64 ((wA .i64 (365*(wA .i64 ((wA .i64 (1900+(wA .i64 (Int.tdiv m 12))))-1900))))+zy3 (wA .i64 ((wA .i64 (1900+(wA .i64 (Int.tdiv m 12))))-1))))-zy3 1899))
def zdj(P:Int->Bool):Nat->Nat->Nat->Int
 | 0,i,_=>(i:Int)
 | k+1,i,j=>if i<j then(if P (((i+j) / 2:Nat):Int)=true then zdj P k i ((i+j) / 2)else zdj P k ((i+j) / 2+1) j)else(i:Int)
def z9n(y:Int):lB yA F 231 [.int .i64 y] t=some (.bool (z4b y)):=by
 refine jC.2 (w231 _ ?_)
 unfold t231 z4b;by_cases h1:Int.tmod y 4=0
 ·refine mA (iD h1) ?_
  by_cases h2:Int.tmod y 100=0
  ·refine lA (by rw[iD h2];simp) ?_
   simp[qA,h1,h2,jL]
  ·refine mA ?_ ?_
   ·cases hq:iA (Int.tmod y 100) 0 with
    | true=>exact absurd hq (sC h2)
    | false=>rfl
   ·simp[qA,h1,h2]
 ·refine lA (sC h1) ?_
  simp[qA,h1]
def len_at(hG:rJ t){m:Int}(h1:1<=m)(h2:m<=12):∃b o,mB yA 275 (.ptr 3 0) (.int .i64 (wA .i64 (m-1)))=some (.ptr b o)/\oA yA 3 ⟨0,t⟩ (.ptr b o)=some (.int .i64 (xS.getD (m-1).toNat 0)):=by
 obtain⟨k,rfl⟩:∃k:Nat,m=(k:Int)+1:=⟨(m-1).toNat,by omega⟩
 have hk:k<12:=by omega
 have e0:((k:Int)+1-1).toNat=k:=by omega
 rw[wrap_i64 (by omega) (by omega),e0,show(k:Int)+1-1=(k:Int) by omega]
 have hx:(xS.map fun n=>zA.int .i64 n)[k]?=some (.int .i64 (xS.getD k 0)):=by
  have:k<xS.length:=hk
  simp[ybd this]
 refine⟨3,0+k,?_,hG.load1 ty3 rfl hx⟩
 unfold mB;rw[ty275,tA];have e:(zA.int .i64 (k:Int)).asNat=some k:=rfl
 rw[e,tA];simp only[zA.asSlice,zA.asPtr,tA,jD.asArr];rw[ty3,tA,xC.2 hk,zE];simp
def zop(hG:rJ t)(y m:Int):lB yA F 219 [.int .i64 y,.int .i64 m] t=some (.int .i64 (lenD y m)):=by
 refine jC.2 (w219 _ _ ?_)
 unfold t219 lenD;by_cases h1:m<1
 ·rw[yab h1];exact mA (zG h1) ⟨rfl,rfl⟩
 rw[yaa h1];refine lA (dF h1) ?_
 by_cases h2:12<m
 ·rw[yab h2];exact mA (zG h2) ⟨rfl,rfl⟩
 rw[yaa h2];refine lA (dF h2) ?_
 obtain⟨b,o,g1,g2⟩:=len_at hG (m:=m) (by omega) (by omega)
 by_cases h3:m=2
 ·refine mA (iD h3) (vC ?_)
  rw[q231,z9n,vA];refine xD ?_
  cases hl:z4b y with
  | true=>rw[yab ⟨h3,rfl⟩];exact mA rfl ⟨rfl,rfl⟩
  | false=>rw[yaa (by simp)];exact lA (by simp) (jA g1 (lC g2 (wC ⟨rfl,rfl⟩)))
 ·rw[yaa (by simp[h3])]
  exact lA (sC h3) (jA g1 (lC g2 (wC ⟨rfl,rfl⟩)))
def zto(hG:rJ t)(v0 v3:Int):∀(k:Nat) (v5 v4:Int),v5+k=12->1<=v5->jp 198 2 [.int .i64 v0,.int .i64 v3,.int .i64 v4,.int .i64 v5] t (fun v t'=>v=.int .i64 (zqq v0 v3 k v5 v4)/\t'=t):=by
 have hb:=zc5 v0 (k:=12) (by omega)
 rw[show((12:Nat):Int)=12 from rfl]at hb
 intro k;induction k with
 | zero=>
  intro v5 v4 h1 h2;exact zzy _ _ _ _ (lA (nLe (by omega)) ⟨rfl,rfl⟩)
 | succ k ih=>
  intro v5 v4 h1 h2;unfold zqq;by_cases h3:v5<=Int.tmod v0 12
  ·rw[yab h3]
   refine zzy _ _ _ _ (mA (yLe h3) (vC ?_))
   rw[q219,zop hG,vA];refine wC (oC ?_)
   rw[wrap_i64 (n:=v5+1) (by omega) (by omega)]
   exact ih _ _ (by omega) (by omega)
  ·rw[yaa h3]
   exact zzy _ _ _ _ (lA (nLe h3) ⟨rfl,rfl⟩)
def zrn(y:Int):lB yA F 218 [.int .i64 y] t=some (.int .i64 (zy3 y)):=jC.2 (w218 _ ⟨rfl,rfl⟩)
def zcf(hG:rJ t)(m:Int):lB yA F 198 [.int .i64 m] t=some (.int .i64 (zf9 m)):=by
 refine jC.2 (w198 _ (vC ?_))
 rw[q218,zrn,vA];refine wC (vC ?_)
 rw[q218,zrn,vA];exact wC (oC (zto hG m _ 11 1 _ (by omega) (by omega)))
def zn2{v1:zA}{P:Int->Bool}(hcall:∀n:Int,∀(R:uC),R (.bool (P n)) t->uD (iM v1 [.int .i64 n]) fun p=>Wq yA F uJ p.1 p.2 t R) :
  ∀(k i j:Nat),j-i<=k->j<=100000->jp 216 2 [v1,.int .i64 (i:Int),.int .i64 (j:Int)] t (fun v t'=>v=.int .i64 (zdj P k i j)/\t'=t):=by
 intro k;induction k with
 | zero=>
  intro i j h1 h2;exact zzw _ _ _ (lA (dF (by omega)) ⟨rfl,rfl⟩)
 | succ k ih=>
  intro i j h1 h2;unfold zdj;by_cases h3:i<j
  ·have e1:wA .i64 (Int.fdiv (wA .u64 (wA .i64 ((i:Int)+(j:Int)))) 2)=(((i+j) / 2:Nat):Int):=by
    rw[wrap_i64 (n:=(i:Int)+(j:Int)) (by omega) (by omega),fE (by omega) (by omega),Int.fdiv_eq_ediv_of_nonneg _ (by decide),wrap_i64 (by omega) (by omega)]
    omega
   rw[yab h3];refine zzw _ _ _ (mA (zG (by omega)) ?_)
   show uD _ _
   rw[e1];refine hcall _ _ (xD ?_)
   cases hP:P (((i+j) / 2:Nat):Int)with
   | false=>
    rw[yaa (by simp)]
    refine mA rfl (oC ?_)
    rw[wrap_i64 (by omega) (by omega),show(((i+j) / 2:Nat):Int)+1=(((i+j) / 2+1:Nat):Int) by omega]
    exact ih _ _ (by omega) h2
   | true=>
    rw[yab rfl];exact lA (by simp) (oC (ih _ _ (by omega) (by omega)))
  ·rw[yaa h3]
   exact zzw _ _ _ (lA (dF (by omega)) ⟨rfl,rfl⟩)
def vN(d:Int):Int:=zdj (fun n=>iB d (zf9 (wA .i64 (n+1)))) 2154 0 2154
def zt9(hG:rJ t)(d:Int):lB yA F 197 [.int .i64 d] t=some (.int .i64 (vN d)):=by
 refine nJ (w197 _ ?_)
 unfold t197;refine yG fun b hb hbase=>?_
 obtain⟨t',e,hc,hle,_⟩:=zS hb [.int .i64 d] none
 refine⟨.ptr b 0,⟨b+1,t'⟩,by show some (zA.ptr b 0,vE ⟨b,t⟩ [.int .i64 d] none)=_;rw[e],vC ?_⟩
 have hld:oA yA 3 ⟨0,t'⟩ (.ptr b 0)=some (.int .i64 d):=hc.load1 (j:=0) ty3 rfl rfl
 have:lB yA F 216 [.int .i64 2154,.func (.func 217) [] [.ptr b 0]] t'=some (.int .i64 (vN d)):=by
  refine jC.2 (w216 _ _ (oC ?_))
  refine zn2 (fun n R hR=>?_) 2154 0 2154 (by omega) (by omega)
  show uD (some (217,[zA.int .i64 n,.ptr b 0])) _
  rw[vA];simp only[];have:lB yA F 217 [zA.int .i64 n,.ptr b 0] t'=some (.bool (iB d (zf9 (wA .i64 (n+1))))):=by
   refine jC.2 (w217 _ _ (lC hld (wC (vC ?_))))
   rw[q198,zcf (hG.mono hle),vA]
   exact wC (lC hld (mA zW ⟨rfl,rfl⟩))
  rw[q217,this,vA];exact hR
 rw[q216];exact Wc_pv this (wC ⟨rfl,hle⟩)
def ymdD (d:Int):zA:=.tup [.int .i64 (wA .i64 (1900+(wA .i64 (Int.tdiv (vN d) 12)))),.int .i64 (wA .i64 ((Int.tmod (vN d) 12)+1)),.int .i64 (wA .i64 ((wA .i64 (d-zf9 (vN d)))+1)),.int .i64 0]
def ymd_ok(hG:rJ t){d:Int}(h0:0<=d)(h1:d<65536):lB yA F 173 [.int .i64 d] t=some (ymdD d):=by
 have hd:lB yA F 196 [.int .i64 d] t=some (.bool true):=by
  refine jC.2 (w196 _ (mA (yLe h0) ?_))
  rw[zG h1];exact⟨rfl,rfl⟩
 refine jC.2 (w173 _ (vC ?_))
 rw[q196,hd,vA];refine xD (lA (by simp) (vC ?_))
 rw[q197,zt9 hG,vA];refine wC (vC ?_)
 rw[q198,zcf hG,vA];exact wC ⟨rfl,rfl⟩
def cB (l:List Nat):List zA:=l.map fun(n:Nat)=>zA.int .u8 (n:Int)
def ten{l:List Nat}(h:l.length=10):∃a b c d e f g h i j,l=[a,b,c,d,e,f,g,h,i,j]:=by
 match l,h with
 | [a,b,c,d,e,f,g,h,i,j],_=>exact⟨a,b,c,d,e,f,g,h,i,j,rfl⟩
def jS{l:List Nat}:(cB l).length=l.length:=by simp[cB]
def cB_set{l:List Nat}{i x:Nat}:(cB l).set i (.int .u8 (x:Int))=cB (l.set i x):=by simp[cB,List.map_set]
def idx164{b i:Nat}(h:i<10):mB yA 236 (.ptr b 0) (.int .i64 (i:Int))=some (.ptr b i):=by
 unfold mB;rw[zwd,tA];have e:(zA.int .i64 (i:Int)).asNat=some i:=rfl
 rw[e,tA];simp only[zA.asSlice,zA.asPtr,tA,jD.asArr];rw[ty5,tA,xC.2 h,zE];simp
def lY{b:Nat}{l:List Nat}(h:lD t b none (cB l))(hl:l.length=10):oA yA 236 ⟨0,t⟩ (.ptr b 0)=some (.agg (cB l)):=by
 have:=h.at.load (C:=yA) (ty:=236) zwd rfl (n:=10) rfl (j:=0) (by rw[jS];omega)
 rw[ybw]at this;rw[this];congr 2
 rw[ycr,yca (by rw[jS];omega)]
def zb4{b:Nat}{l m:List Nat}(h:lD t b none (cB l))(hb:yA.base<=b)(hl:l.length=10)(hm:m.length=10):∃t',(∀n,wD yA 236 (.ptr b 0) (.agg (cB m)) ⟨n,t⟩=some (gD,⟨n,t'⟩))/\lD t' b none (cB m)/\cD b t t':=by
 obtain⟨t',h1,h2,h3⟩:=h.store (C:=yA) hb (T:=236) (v:=.agg (cB m)) (j:=0) zwd (by show(cB m).length=10;rw[jS,hm]) (by show 0+(cB m).length<=_;rw[jS,jS];omega) (by
  show tC zA.one (cB m)=true
  rw[lG,ycb];intro a ha;unfold cB at ha;obtain⟨n,_,rfl⟩:=yaq.1 ha
  rfl)
 refine⟨t',h1,?_,h3⟩
 have e:cN (cB l) 0 (zA.agg (cB m)).cells=cB m:=by
  show cN (cB l) 0 (cB m)=cB m
  unfold cN;rw[List.take_zero,yah,ybt (by rw[jS,jS];omega),ycd]
 rw[e]at h2;exact h2
abbrev z10:List zA:=[.int .u8 0,.int .u8 0,.int .u8 0,.int .u8 0,.int .u8 0,.int .u8 0,.int .u8 0,.int .u8 0,.int .u8 0,.int .u8 0]
def zmo{l:List Nat}(hl:l.length=10):zm8 z10 (.agg (cB l))=some (cellsOf (cB l)):=by
 obtain⟨a,b,c,d,e,f,g,h,i,j,rfl⟩:=ten hl
 exact dL rfl
def zjl{l:List Nat}(hl:l.length=10):[zA.int .u8 ((cellsOf (cB l)).i 0),.int .u8 ((cellsOf (cB l)).i 1),.int .u8 ((cellsOf (cB l)).i 2),.int .u8 ((cellsOf (cB l)).i 3),.int .u8 ((cellsOf (cB l)).i 4),.int .u8 ((cellsOf (cB l)).i 5),.int .u8 ((cellsOf (cB l)).i 6),.int .u8 ((cellsOf (cB l)).i 7),.int .u8 ((cellsOf (cB l)).i 8),.int .u8 ((cellsOf (cB l)).i 9)]=cB l:=by
 obtain⟨a,b,c,d,e,f,g,h,i,j,rfl⟩:=ten hl
 rfl
def zzaq (x:Int):Nat:=(48+Int.tmod x 10).toNat
def z02(x:Int):wA .u8 (wA .i64 (48+Int.tmod x 10))=((zzaq x:Nat):Int)/\zzaq x<256:=by
 have:=zc5 x (k:=10) (by omega)
 rw[show((10:Nat):Int)=10 from rfl]at this
 unfold zzaq;rw[wrap_i64 (by omega) (by omega),zhs (by omega) (by omega)]
 omega
def wrL:Nat->Int->Nat->List Nat->List Nat
 | 0,_,_,l=>l
 | k+1,x,i,l=>wrL k (wA .i64 (Int.tdiv x 10)) (i-1) (l.set i (zzaq x))
def zcx:∀(k:Nat) (x:Int) (i:Nat) (l:List Nat),qB 256 l->(wrL k x i l).length=l.length/\qB 256 (wrL k x i l)
 | 0,x,i,l,h=>⟨rfl,h⟩
 | k+1,x,i,l,h=>by
  unfold wrL;have:=zcx k (wA .i64 (Int.tdiv x 10)) (i-1) (l.set i (zzaq x)) (fun y hy=>by
   rcases List.mem_or_eq_of_mem_set hy with h1 | h1
   ·exact h y h1
   ·rw[h1];exact(z02 x).2)
  rw[ydh]at this;exact this
def zjw{b:Nat}(hb:yA.base<=b){c0 c1 c2 c3 c4 c5 c6 c7 c8 c9:Int}:∀(k:Nat) (from_:Nat) (x:Int) (i:Int) (l:List Nat) (t:Tr rA),i+1=(from_:Int)+k->from_+k<=10->l.length=10->lD t b none (cB l) →
  jp 174 2 [.int .i64 (from_:Int),.int .i64 x,.ptr b 0,.int .i64 i,.int .u8 c0,.int .u8 c1,.int .u8 c2,.int .u8 c3,.int .u8 c4,.int .u8 c5,.int .u8 c6,.int .u8 c7,.int .u8 c8,.int .u8 c9] t (fun v t'=>v=.agg (cB (wrL k x i.toNat l))/\cD b t t'):=by
 intro k;induction k with
 | zero=>
  intro from_ x i l t h1 h2 h3 h4;refine z7i _ _ _ _ _ _ _ _ _ _ _ _ _ _ (lA (nLe (by omega)) (lC (lY h4 h3) (sF (zmo h3) (mA rfl ?_))))
  show zA.agg _=_/\_
  rw[zjl h3];exact⟨rfl,fun _ _=>rfl⟩
 | succ k ih=>
  intro from_ x i l t h1 h2 h3 h4;obtain⟨n,rfl⟩:∃n:Nat,i=(n:Int):=⟨i.toNat,by omega⟩
  refine z7i _ _ _ _ _ _ _ _ _ _ _ _ _ _ (mA (yLe (by omega)) (jA (idx164 (by omega)) (yG fun m _ _=>?_)))
  rw[(z02 x).1]
  obtain⟨t',g1,g2,g3⟩:=h4.store1 (v:=.int .u8 ((zzaq x:Nat):Int)) hb ty5 rfl rfl rfl (j:=n) (by rw[jS];omega)
  refine⟨_,_,g1 m,oC ?_⟩
  rw[cB_set]at g2;rw[wrap_i64 (n:=(n:Int)-1) (by omega) (by omega)]
  have:=ih from_ (wA .i64 (Int.tdiv x 10)) ((n:Int)-1) (l.set n (zzaq x)) t' (by omega) (by omega) (by rw[ydh];exact h3) g2
  refine Jq.mono this fun v t2 hh=>⟨?_,fun c hc=>by rw[hh.2 c hc,g3 c hc]⟩
  rw[hh.1];have e1:((n:Int)-1).toNat=n-1:=by omega
  have e2:((n:Int)).toNat=n:=by omega
  rw[e1,e2];rfl
def zs5{l:List Nat}(hl:l.length=10){from_ k:Nat}(hk:from_+k<=10)(h1:1<=from_+k)(x:Int):lB yA F 174 [.agg (cB l),.int .i64 (from_:Int),.int .i64 (k:Int),.int .i64 x] t=some (.agg (cB (wrL k x (from_+k-1) l))):=by
 obtain⟨a,b,c,d,e,f,g,h,i,j,rfl⟩:=ten hl
 refine nJ ?_
 show Wf 174 [.agg [.int .u8 a,.int .u8 b,.int .u8 c,.int .u8 d,.int .u8 e,.int .u8 f,.int .u8 g,.int .u8 h,.int .u8 i,.int .u8 j],.int .i64 (from_:Int),.int .i64 (k:Int),.int .i64 x] t _
 refine w174 _ _ _ _ _ _ _ _ _ _ _ _ _ ?_
 unfold t174;refine yG fun n hn hbase=>?_
 obtain⟨t',e1,hc,hle,ho⟩:=zS hn (cB [a,b,c,d,e,f,g,h,i,j]) none
 refine⟨.ptr n 0,⟨n+1,t'⟩,by show some (zA.ptr n 0,vE ⟨n,t⟩ (cB [a,b,c,d,e,f,g,h,i,j]) none)=_;rw[e1],oC ?_⟩
 rw[wrap_i64 (n:=(from_:Int)+(k:Int)) (by omega) (by omega),wrap_i64 (by omega) (by omega)]
 have:=zjw (c0:=0) (c1:=0) (c2:=0) (c3:=0) (c4:=0) (c5:=0) (c6:=0) (c7:=0) (c8:=0) (c9:=0) hbase k from_ x ((from_:Int)+(k:Int)-1) _ t' (by omega) hk hl hc
 refine Jq.mono this fun v t2 hh=>⟨?_,fun b' y hy=>?_⟩
 ·rw[hh.1,show((from_:Int)+(k:Int)-1).toNat=from_+k-1 by omega]
 ·have:b'≠n:=fun e=>by rw[e,hn]at hy;cases hy
  rw[hh.2 b' this];exact hle _ _ hy
def z1j (d:Int):List Nat:=
 wrL 2 (wA .i64 ((wA .i64 (d-zf9 (vN d)))+1)) 9 (wrL 2 (wA .i64 ((Int.tmod (vN d) 12)+1)) 6 (wrL 4 (wA .i64 (1900+(wA .i64 (Int.tdiv (vN d) 12)))) 3 [0,0,0,0,45,0,0,45,0,0]))
def zst(d:Int):(z1j d).length=10/\qB 256 (z1j d):=by
 have h0:qB 256 [0,0,0,0,45,0,0,45,0,0]:=by intro x hx;simp at hx;omega
 have h1:=zcx 4 (wA .i64 (1900+(wA .i64 (Int.tdiv (vN d) 12)))) 3 _ h0
 have h2:=zcx 2 (wA .i64 ((Int.tmod (vN d) 12)+1)) 6 _ h1.2
 have h3:=zcx 2 (wA .i64 ((wA .i64 (d-zf9 (vN d)))+1)) 9 _ h2.2
 exact⟨by unfold z1j;rw[h3.1,h2.1,h1.1];rfl,h3.2⟩
def z8u{K:zA->T}{Q:uC}{l:List Nat}{p from_ k:Nat}{x:Int}(hl:l.length=10)(hlt:qB 256 l)(hp:yA.base<=p)(hc:lD t p none (cB l))(hk:from_+k<=10)(h1:1<=from_+k)
  (h:∀t',lD t' p none (cB (wrL k x (from_+k-1) l))->cD p t t'->∀u,wp 147 (K u) t' Q) :
  wp 147 (.call 174 [.agg [(.int .u8 ((cellsOf (cB l)).i 0)),(.int .u8 ((cellsOf (cB l)).i 1)),(.int .u8 ((cellsOf (cB l)).i 2)),(.int .u8 ((cellsOf (cB l)).i 3)),(.int .u8 ((cellsOf (cB l)).i 4)),(.int .u8 ((cellsOf (cB l)).i 5)),(.int .u8 ((cellsOf (cB l)).i 6)),(.int .u8 ((cellsOf (cB l)).i 7)),(.int .u8 ((cellsOf (cB l)).i 8)),(.int .u8 ((cellsOf (cB l)).i 9))],.int .i64 (from_:Int),.int .i64 (k:Int),.int .i64 x] fun a=>.asG z10 a fun X=>
   .heavy (wD yA 236 (.ptr p 0) (.agg [(.int .u8 (X.i 0)),(.int .u8 (X.i 1)),(.int .u8 (X.i 2)),(.int .u8 (X.i 3)),(.int .u8 (X.i 4)),(.int .u8 (X.i 5)),(.int .u8 (X.i 6)),(.int .u8 (X.i 7)),(.int .u8 (X.i 8)),(.int .u8 (X.i 9))])) K) t Q:=by
 have hw:=zcx k x (from_+k-1) l hlt
 refine vC ?_
 rw[zjl hl,q174,zs5 hl hk h1,vA];refine sF (zmo (by rw[hw.1,hl])) (yG fun n _ _=>?_)
 rw[zjl (by rw[hw.1,hl])]
 obtain⟨t',g1,g2,g3⟩:=zb4 hc hp hl (m:=wrL k x (from_+k-1) l) (by rw[hw.1,hl])
 exact⟨_,_,g1 n,h t' g2 g3 _⟩
def cal_ok(hG:rJ t){d:Int}(h0:0<=d)(h1:d<65536):lB yA F 147 [.int .i64 d] t=some (.str (z1j d)):=by
 refine nJ (w147 _ ?_)
 unfold t147;refine vC ?_
 rw[q173,ymd_ok hG h0 h1,vA];unfold ymdD;refine jA rfl (wC (jA rfl (wC (jA rfl (wC (jA rfl (wC (lA (by rw[iD rfl];simp) (mA rfl ?_)))))))))
 refine yG fun p hp hbase=>?_
 obtain⟨t1,e1,c1,l1,o1⟩:=eS (C:=yA) zwd hp
 refine⟨_,_,e1,?_⟩
 have c1':lD t1 p none (cB [0,0,0,0,0,0,0,0,0,0]):=c1
 refine yG fun n _ _=>?_
 obtain⟨t2,e2,c2,o2⟩:=zb4 c1' hbase rfl (m:=[0,0,0,0,45,0,0,45,0,0]) rfl
 refine⟨_,_,e2 n,?_⟩
 have h0':qB 256 [0,0,0,0,45,0,0,45,0,0]:=by intro x hx;simp at hx;omega
 refine lC (lY c2 rfl) (sF (zmo rfl) ?_)
 refine z8u (from_:=0) (k:=4) rfl h0' hbase c2 (by omega) (by omega) fun t3 c3 o3 _=>?_
 have w3:=zcx 4 (wA .i64 (1900+(wA .i64 (Int.tdiv (vN d) 12)))) 3 _ h0'
 refine lC (lY c3 w3.1) (sF (zmo w3.1) ?_)
 refine z8u (from_:=5) (k:=2) w3.1 w3.2 hbase c3 (by omega) (by omega) fun t4 c4 o4 _=>?_
 have w4:=zcx 2 (wA .i64 ((Int.tmod (vN d) 12)+1)) 6 _ w3.2
 rw[w3.1]at w4;refine lC (lY c4 w4.1) (sF (zmo w4.1) ?_)
 refine z8u (from_:=8) (k:=2) w4.1 w4.2 hbase c4 (by omega) (by omega) fun t5 c5 o5 _=>?_
 have hL:=zst d
 have c5':lD t5 p none (cB (z1j d)):=c5
 have hs:uG yA 236 ⟨0,t5⟩ (.ptr p 0) none none=some (.slice p 0 10 10):=by
  obtain⟨c,g,_⟩:=c5'
  have hk:oD ⟨0,t5⟩ p=some (c,(cB (z1j d)).length,none):=by unfold oD;rw[g];rfl
  unfold uG;rw[zwd,tA];unfold rK;simp only[zA.asStr,zA.asSlice,zA.asPtr,jD.asArr,tA];unfold pL;rw[ty5,tA];have hb2:lM 10 10 none none=some (0,10):=rfl
  rw[hb2,tA];unfold dI jH;rw[hk];rfl
 have hv:dK yA 38 9 ⟨0,t5⟩ (.slice p 0 10 10)=some (.str (z1j d)):=zu4 zwc ty9 rfl rfl rfl ty5 rfl c5' hL.1 (fun j x hj=>by
  unfold cB;rw[ybu,hj];rfl) hL.2
 refine lC hs (lC hv (kH ⟨rfl,fun b y hy=>?_⟩))
 have:b≠p:=fun e=>by rw[e,hp]at hy;cases hy
 rw[o5 b this,o4 b this,o3 b this,o2 b this];exact l1 _ _ hy
end
end Go.Proofs
namespace Go.Am
open Go Go.RowKit
def z1y{C:pA}{F:Tr uB}{f:Nat}{args:List zA}{t:Tr rA}{Q:uC}{g:List zA->xA->Option (zA × xA)}(hg:C.prims.get f=some g)(h:∀X HA,Ov C.base t X HA->∃v t' HA',g args HA=some (v,HA')/\Ov C.base t' X HA'/\Q v t')(hf:Nat.blt f yo=true:=by rfl):Wc C F f args t Q:=by
 intro X HA ho;rw[qV hf,hg];obtain⟨v,t',HA',h1,h2,h3⟩:=h X HA ho
 exact⟨v,t',HA',X,h1,h2,XLe.refl _,h3⟩
end Go.Am
namespace Go.Proofs
open Go Go.Am
variable [fC]
variable {t tf:Tr rA}{bx T:Nat}{s m:List Nat}{ex:List zA}
def BX (T:Nat)(ex:List zA)(tf t:Tr rA)(bx:Nat)(s:List Nat):Prop:=
 yA.base<=bx/\tf.get bx=none/\zB tf t/\qB 256 s/\zgy zba T (ex.length+2)=true/\∃p tv,(p=zA.nilptr\/p=.ptr bx 0)/\lD t bx (some (.ty T)) (p::tv::ex)/\qG (.ty 5) yA.base tf t 1 (kB .u8 s) tv/\¬ sM tv bx
def BX.le(h:BX T ex tf t bx s):zB tf t:=h.2.2.1
def BX.check{Q:uC}(h:BX T ex tf t bx s)(hQ:∀t',BX T ex tf t' bx s->Q (.tup []) t'):Wc yA F 144 [.ptr bx 0] t Q:=by
 have h0:=h
 obtain⟨h1,h2,h3,ha,hM,p,tv,hp,⟨c,h4,h4'⟩,h5,h6⟩:=h
 have hg:yA.prims.get 144=some pChk:=by kernel_rfl
 refine z1y hg fun X HA ho=>?_
 have hk:oD HA bx=some (c,(p::tv::ex).length,some (.ty T)):=by unfold oD;rw[ho.up h4];rfl
 have hc0:c.get 0=some p:=h4' 0 p rfl
 rcases hp with rfl | rfl
 ·refine⟨.tup [],t.set bx (.cells (c.set 0 (.ptr bx 0)) (zA.nilptr::tv::ex).length (some (.ty T))),setBlk HA bx (.cells (c.set 0 (.ptr bx 0)) (zA.nilptr::tv::ex).length (some (.ty T))),?_,ho.setBlk h4 _,hQ _ ?_⟩
  ·unfold pChk zdu
   simp only[];rw[hk,tA,hc0,tA];simp only[];have e1:(!Nat.blt bx (256+fC.n))=true:=by
    cases hq:Nat.blt bx (256+fC.n)with
    | true=>
     have h3:=xC.1 hq
     have h1':256+fC.n<=bx:=h1
     omega
    | false=>rfl
   have e2:zgy zba T (zA.nilptr::tv::ex).length=true:=hM
   rw[e1,e2];rfl
  ·refine⟨h1,h2,fun b u hb=>?_,ha,hM,.ptr bx 0,tv,.inr rfl,⟨_,by rw[Tr.get_set,yab rfl];rfl,fun j a hj=>?_⟩,h5.keep' fun b hb=>?_,h6⟩
   ·have:b≠bx:=fun e=>by rw[e,h2]at hb;cases hb
    rw[Tr.get_set,yaa this];exact h3 _ _ hb
   ·rw[Tr.get_set]
    split
    ·rename_i e;subst e;exact hj
    ·rename_i e
     refine h4' j a ?_
     cases j with
     | zero=>exact absurd rfl e
     | succ j=>exact hj
   ·have:b≠bx:=fun e=>h6 (e ▸ hb)
    rw[Tr.get_set,yaa this]
 ·refine⟨.tup [],t,HA,?_,ho,hQ _ h0⟩
  unfold pChk zdu;simp only[];rw[hk,tA,hc0,tA];simp only[];rw[fB.2 rfl,fB.2 rfl];rfl
def fa77{b:Nat}:tB yA 164 1 (.ptr b 0)=some (.ptr b 1):=by kernel_rfl
def BX.write{Q:uC}(h:BX T ex tf t bx s)(hm:m≠[])(hlt:qB 256 m)(hl:s.length+m.length<400000)(hQ:∀v t',BX T ex tf t' bx (s++m)->Q v t'):Wc yA F 119 [.ptr bx 0,.str m] t Q:=by
 refine w119 _ _ ?_
 unfold t119;refine vC ?_
 rw[q144];refine h.check fun t' h'=>?_
 obtain⟨h1,h2,h3,ha,hM,p,tv,hp,h4,h5,h6⟩:=h'
 refine jA bE (jA fa77 (lC (h4.load1 (j:=1) zwc rfl rfl) (yG fun n hn hbase=>?_)))
 have hbn:n≠bx:=by intro e;obtain⟨c,hh,_⟩:=h4;rw[<- e,hn]at hh;cases hh
 obtain⟨t1,g1,g2,g3,g4⟩:=zhm el32 ⟨_,ty9,rfl⟩ co5 h5 hm hl hn hbase h3
 refine⟨_,_,g1,jA bE (jA fa77 (yG fun n2 _ _=>?_))⟩
 have h4':lD t1 bx (some (.ty T)) (p::tv::ex):=h4.off (g4 bx hbn.symm h6)
 obtain⟨t2,e1,e2,e3⟩:=h4'.store1 (v:=.slice n 0 (s.length+m.length) (s.length+m.length)) h1 zwc rfl rfl rfl (j:=1) (by simp)
 refine⟨_,_,e1 n2,hQ _ _ ⟨h1,h2,g3.off h2 e3,fun x hx=>?_,hM,p,_,hp,e2,g2.keep' fun b hb=>e3 b fun e=>?_,fun e=>?_⟩⟩
 ·rcases yaf.1 hx with hx | hx
  ·exact ha x hx
  ·exact hlt x hx
 ·rw[zR]at hb;exact hbn (hb.symm.trans e)
 ·rw[zR]at e;exact hbn e.symm
def BX.len(h:BX T ex tf t bx s):lB yA F 118 [.ptr bx 0] t=some (.int .i64 (s.length:Int)):=by
 obtain⟨h1,h2,h3,ha,hM,p,tv,hp,h4,h5,h6⟩:=h
 refine jC.2 (w118 _ ?_)
 unfold t118;have hlen:=h5.len
 rw[eE]at hlen;exact jA bE (jA fa77 (lC (h4.load1 (j:=1) zwc rfl rfl) (jA hlen (wC ⟨rfl,rfl⟩))))
def zd3:∀ {l:List Nat},qB 256 l->jF Go.Am.byteOf (l.map fun(n:Nat)=>zA.int .u8 (n:Int))=some l
 | [],_=>rfl
 | x::l,h=>by
  have hx:Go.Am.byteOf (.int .u8 (x:Int))=some x:=by
   show aA (Nat.blt x 256) (some x)=_
   rw[xC.2 (h x (.head _))];rfl
  rw[ycm,nK,hx,tA,zd3 fun y hy=>h y (.tail _ hy)]
  rfl
def BX.string{Q:uC}(h:BX T ex tf t bx s)(hs:s≠[])(hl:s.length<400000)(hQ:∀t',zB tf t'->Q (.str s) t'):Wc yA F 88 [.ptr bx 0] t Q:=by
 obtain⟨h1,h2,h3,ha,hM,p,tv,hp,⟨c,h4,h4'⟩,h5,h6⟩:=h
 have hg:yA.prims.get 88=some pStr:=by kernel_rfl
 rcases h5 with⟨rfl,h5⟩ | ⟨b,cl,d,rfl,k0,k1,k2,k3,k4⟩
 ·exact absurd (ycc.1 (by rw[<- eE (k:=.u8),h5];rfl)) hs
 have hpos:0<s.length:=List.length_pos_iff.2 hs
 rw[eE,Nat.mul_one]at k2;rw[zT]at k4;subst k4;have hbytes:∀j a,(s.map fun(n:Nat)=>zA.int .u8 (n:Int))[j]?=some a->d.get j=some a:=by
  intro j a hj;have hj':(nM .u8 s)[j]?=some [a]:=by
   unfold nM;rw[ybu]at hj ⊢
   cases hx:s[j]? with
   | none=>rw[hx]at hj;cases hj
   | some x=>rw[hx]at hj;cases hj;rfl
  have:=(k3 j _ hj').2 0 a rfl
  rw[Nat.mul_one,yct]at this;exact this
 refine z1y hg fun X HA ho=>?_
 have hk:oD HA bx=some (c,(p::zA.slice b 0 (kB .u8 s).length (kB .u8 s).length::ex).length,some (.ty T)):=by unfold oD;rw[ho.up h4];rfl
 have hk2:oD HA b=some (d,s.length,some (.ty 5)):=by unfold oD;rw[ho.up k2];rfl
 have hc1:=h4' 1 _ rfl
 refine⟨.str s,t.del b,⟨HA.next,HA.t.del b⟩,?_,ho.delBlk k2,hQ _ fun e u he=>?_⟩
 ·unfold pStr za5
  simp only[];rw[hk,tA,hc1,tA];simp only[zA.asSlice,tA,eE];rw[hk2,tA];simp only[];have hm:=zyr hbytes s.length 0 (by simp)
  rw[ycr,yca (by simp)]at hm
  rw[hm,tA,zd3 ha,tA];have e1:(!Nat.blt b (256+fC.n))=true:=by
   cases hq:Nat.blt b (256+fC.n)with
   | true=>
    have h3:=xC.1 hq
    have h1':256+fC.n<=b:=k0
    omega
   | false=>rfl
  rw[e1,fB.2 rfl,xC.2 hpos,uE.2 (ybk _),xC.2 (show s.length<1000000000 by omega),fB.2 rfl]
  rfl
 ·have:e≠b:=fun h=>by rw[h,k1]at he;cases he
  rw[Tr.get_del,yaa this];exact h3 _ _ he
end Go.Proofs
namespace Go.Proofs
open Go Go.Am
variable [fC]
variable {t:Tr rA}
def zfy(date:List Nat)(v:mH):List Nat:=
 if v.kind=1 then(if v.i=1 then [116,114,117,101]else [102,97,108,115,101])
 else if v.kind=2 then pK (yK v.f)
 else if v.kind=3 then [109,111,110,101,121,32]++pK (yK v.f)
 else if v.kind=4 then date
 else if v.kind=5 then pK (mJ v.i)++[32,100,97,121,115]
 else if v.kind=6 then pK (mJ v.i)++[32,109,111,110,116,104,115]
 else []
def pX(s:List Nat):(pK s).length<=s.length+6:=by
 unfold pK;split
 ·rw[ybg,ydj]
  show 6+(s.length-1)<=_
  omega
 ·omega
def zch{v:mH}(h:nO v=true)(hk:v.kind=2\/v.kind=3):iN v.f=true:=by
 unfold nO at h;rw[yab hk]at h;simp only[ybb]at h;have:=h.2
 unfold zgo at this;simp only[ybb]at this;exact this.1.2
def zj0{a:mH}{u v:zA}{date:List Nat}(hu:cA t 1 (lE a.f.n.limbs) u)(hv:cA t 1 (lE a.f.d.limbs) v)(hf:mH.fit a)(hp:nO a=true)(hd:a.kind=4->lB yA F 147 [.int .i64 a.i] t=some (.str date)):lB yA F 120 [.agg [.int .u8 a.kind,.bool a.f.n.neg,u,.bool a.f.d.neg,v,.int .i64 a.i]] t=some (.str (zfy date a)):=by
 obtain⟨_,hff,hi1,hi2⟩:=hf
 have hil:=ziz hi1 hi2
 have hsl:=pX (mJ a.i)
 have kk:∀j:Int,iA (a.kind:Int) j=decide ((a.kind:Int)=j):=fun j=>jL
 refine jC.2 (w120 _ _ _ _ _ _ ?_)
 simp only[t120,qA,kk];unfold zfy;by_cases k1:a.kind=1
 ·have e:(a.kind:Int)=1:=by omega
  have hb:lB yA F 145 [.bool (iA a.i 1)] t=some (.str (if a.i=1 then [116,114,117,101]else [102,97,108,115,101])):=by
   refine jC.2 (w145 _ ?_)
   have h94:lB yA F 171 [.bool (iA a.i 1)] t=some (.str (if a.i=1 then [116,114,117,101]else [102,97,108,115,101])):=by
    refine jC.2 (w171 _ ?_)
    by_cases h:a.i=1<;>simp[t171,qA,jL,h]
   simp only[t145,qA,q171,h94,vA,zA.asStr];first | exact⟨rfl,rfl⟩ | exact⟨trivial,trivial⟩ | exact⟨rfl,trivial⟩
  simp[e,k1,q145,hb,zA.asStr]
 have e1:¬ (a.kind:Int)=1:=by omega
 by_cases k2:a.kind=2
 ·have e:(a.kind:Int)=2:=by omega
  simp[e,k2,q146,zen hu hv hff (zch hp (.inl k2)),zA.asStr]
 have e2:¬ (a.kind:Int)=2:=by omega
 by_cases k3:a.kind=3
 ·have e:(a.kind:Int)=3:=by omega
  have hl:=zeo hff (zch hp (.inr k3))
  have hl2:=pX (yK a.f)
  have:=oL (a:=[109,111,110,101,121,32]) (b:=pK (yK a.f)) (by simp;omega)
  simp[e,k3,q146,zen hu hv hff (zch hp (.inr k3)),zA.asStr,this]
 have e3:¬ (a.kind:Int)=3:=by omega
 by_cases k4:a.kind=4
 ·have e:(a.kind:Int)=4:=by omega
  simp[e,k4,q147,hd k4,zA.asStr]
 have e4:¬ (a.kind:Int)=4:=by omega
 by_cases k5:a.kind=5
 ·have e:(a.kind:Int)=5:=by omega
  have:=oL (a:=pK (mJ a.i)) (b:=[32,100,97,121,115]) (by simp;omega)
  simp[e,k5,q148,zg5 hi1 hi2,zA.asStr,this]
 have e5:¬ (a.kind:Int)=5:=by omega
 by_cases k6:a.kind=6
 ·have e:(a.kind:Int)=6:=by omega
  have:=oL (a:=pK (mJ a.i)) (b:=[32,109,111,110,116,104,115]) (by simp;omega)
  simp[e,k6,q148,zg5 hi1 hi2,zA.asStr,this]
 have e6:¬ (a.kind:Int)=6:=by omega
 simp[e1,e2,e3,e4,e5,e6,k1,k2,k3,k4,k5,k6]
end Go.Proofs
