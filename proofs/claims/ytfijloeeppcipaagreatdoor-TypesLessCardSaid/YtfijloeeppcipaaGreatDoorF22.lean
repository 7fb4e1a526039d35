/- Gcd, and the validity of fractions. -/
import Derived.Test.YtfijloeeppcipaaGreatDoorF21
set_option linter.all false
noncomputable section
set_option maxRecDepth 100000
namespace Go.Proofs
open Go Go.Am
variable [nC]
variable {t:Tr rA}
def zag{neg:Bool}{l:List Nat}(h:oJ neg l=true):norm l:=by
 intro hne;unfold oJ at h;rw[yaa hne,ybb]at h;have:=of_decide_eq_true h.2
 intro e;exact this (by rw[List.getLast?_eq_some_getLast hne,e])
def zir{l:List zI}{v:zA}(hv:lA t 2 (l.map zI.d) v)(hb:∀w∈l,w.limbs.length<1125899906842624)(hn:l.length<1125899906842624):∀(k i:Nat),i+k=l.length->jp 224 2 [v,.int .i64 (l.length:Int),.int .i64 (i:Int)] t (fun r m=>r=.bool ((l.drop i).all fun w=>oJ w.neg w.limbs)/\m=t):=by
 intro k;induction k with
 | zero=>
  intro i hi;refine z5n _ _ _ ?_
  simp only[zvl,qA,cC];rw[yaa (by omega),ybt (by omega)]
  (first | exact⟨rfl,rfl⟩ | exact⟨rfl,trivial⟩ | trivial)
 | succ k ih=>
  intro i hi;have hlt:i<l.length:=by omega
  have hx:l[i]?=some l[i]:=ybd hlt
  obtain⟨b,off,cs,g1,g2,_,_,g5⟩:=zE.at sl279 (by simp) hv (i:=i) (d:=l[i].d) (by simp[hx])
  obtain⟨u,rfl,hu⟩:=nU g5
  have hv1:=zbr (neg:=l[i].neg) (hb _ (ycj hlt)) hu
  refine z5n _ _ _ ?_
  simp only[zvl,qA,cC];rw[yab (by omega),g1,wA,g2,kL,wA,lH g5 (zI.zs _)]
  simp only[wA,cellsOf,xR,aN,yaz,yba];have hone:rB zA.one [.bool l[i].neg,u]=true:=by
   show(bif zA.one (.bool l[i].neg)then(bif zA.one u then true else false)else false)=true
   rw[hu.one];rfl
  refine uI hone ?_
  rw[q187,hv1];simp only[wA,bT,zhv];rw[ybl hlt,ycg]
  cases hq:oJ l[i].neg l[i].limbs with
  | false=>simp
  | true=>
   simp only[ycn,Bool.true_eq_false,if_false];rw[wrap_i64 (by omega) (by omega)]
   exact ih (i+1) (by omega)
def zor{l:List zI}{v:zA}(hv:lA t 2 (l.map zI.d) v)(hb:∀w∈l,w.limbs.length<1125899906842624)(hn:l.length<1125899906842624):wC yA F 224 [v] t=some (.bool (l.all fun w=>oJ w.neg w.limbs)):=by
 refine wD.2 (w224 _ ?_)
 simp only[t224,qA,hv.len,wA,tB,ybf];have:=zir hv hb hn l.length 0 (by omega)
 rw[ycr]at this;exact this
def gcd_ok{n d:zI}{u v:zA}{Q:xC}(hu:lA t 1 (cD n.limbs) u)(hv:lA t 1 (cD d.limbs) v)(hn:n.limbs.length<700000)(hd:d.limbs.length<700000)(hnl:pB 65536 n.limbs)(hdl:pB 65536 d.limbs)(hnv:oJ n.neg n.limbs=true)(hdv:oJ d.neg d.limbs=true)
  (hQ:∀t' g rv,cA t t'->lA t' 1 (cD g) rv->pB 65536 g->norm g->val 65536 g=Nat.gcd (val 65536 n.limbs) (val 65536 d.limbs)->Q (.tup [.agg [.bool false,rv],.int .i64 0]) t'):Wc yA F 210 [.agg [.bool n.neg,u],.agg [.bool d.neg,v]] t Q:=by
 have hBB:=nK
 refine w210 _ _ _ _ ?_
 simp only[t210,qA];intro b hb hbase;obtain⟨t1,g1,g2,g3,g4⟩:=zke (C:=yA) (T:=279) (el:=29) (sz:=2) (n:=2) (cl:=[[.bool n.neg,u],[.bool d.neg,v]]) (ps:=[(0,.agg [.bool n.neg,u]),(1,.agg [.bool d.neg,v])]) ty279 rfl ty29 rfl rfl (by decide) rfl (fun i cs hi=>by
  rcases i with _ | _ | i
  ·simp at hi;subst hi;rfl
  ·simp at hi;subst hi;rfl
  ·simp at hi) rfl hb
 rw[g1,wA];have hw:lA t1 2 ([n,d].map zI.d) (.slice b 0 2 2):=⟨_,g2,by
  simp only[ycm,List.map_nil,jE,sG];refine⟨_,_,rfl,?_,_,_,rfl,?_,rfl⟩
  ·unfold zI.d
   rw[rI];refine⟨[[.bool n.neg],[u]],rfl,?_⟩
   simp only[jE,sG,wQ,pJ];exact⟨_,_,rfl,rfl,_,_,rfl,⟨u,rfl,hu.mono g3⟩,rfl⟩
  ·unfold zI.d
   rw[rI];refine⟨[[.bool d.neg],[v]],rfl,?_⟩
   simp only[jE,sG,wQ,pJ];exact⟨_,_,rfl,rfl,_,_,rfl,⟨v,rfl,hv.mono g3⟩,rfl⟩⟩
 have hall:=zor hw (fun w hw=>by
  rcases ybs.1 hw with rfl | hw
  ·omega
  ·rw[ydd.1 hw];omega) (by simp)
 rw[q224,hall];simp only[wA,bT,zhv,ycg,yck,hnv,hdv,Bool.and_self,Bool.true_eq_false,if_false];rw[q190];refine zna (hu.mono g3) (by omega) hnl fun t2 v2 k1 k2=>?_
 rw[yab hv.same,q190];refine zna ((hv.mono g3).mono k1) (by omega) hdl fun t3 v3 m1 m2=>?_
 have an:=cW hnl
 have ad:=cW hdl
 rw[<- hBB]at an ad;rw[q226];refine cd_ok (k2.mono m1) m2 an ad (lX (zag hnv)) (lX (zag hdv)) (by rw[oN];omega) (by rw[oN];omega) fun t4 r rv p1 p2 p3 p4 p5=>?_
 rw[hBB]at p3;have vn:∀l,val BB (oF l)=val 65536 l:=fun l=>by rw[hBB];exact zcg l
 rw[vn,vn]at p5;have hrl:r.length<400000:=by
  have hB1:1<BB:=by omega
  rcases yav (val 65536 n.limbs)with h0 | h0
  ·rw[h0,Nat.gcd_zero_left,<- vn]at p5
   have:=uO hB1 ad p4 (Nat.le_of_eq p5)
   rw[oN]at this;omega
  ·have h1:=Nat.gcd_le_left (val 65536 d.limbs) h0
   rw[<- p5,<- vn]at h1;have:=uO hB1 an p4 h1
   rw[oN]at this;omega
 rw[q225];refine zuo p2 hrl p3 fun t5 v5 s1 s2=>?_
 rw[jV p4]at s2 ⊢
 have eG:rJ [(.bool false),.nilslice] (.agg [.bool (if r=[]then false else false),v5])=some (cellsOf [.bool (if r=[]then false else false),v5]):=mL (by
  show(true&&(tI .nilslice v5&&true))=true
  rw[gN s2];rfl)
 rw[eG];have hone:rB zA.one [.bool false,v5]=true:=by
  show(bif zA.one (.bool false)then(bif zA.one v5 then true else false)else false)=true
  rw[s2.one];rfl
 simp only[wA,cellsOf,xR,aN,yaz,yba,ite_self,hone,if_true];refine hQ t5 (pE (vG r)) v5 (g3.trans (k1.trans (m1.trans (p1.trans s1)))) s2 (bP (zao p3)) (pP _) ?_
 rw[pM,<- p5,zcf,hBB]
end Go.Proofs
namespace Go.Am
def eE.fit(f:eE):Prop:=f.ok/\pB 65536 f.n.limbs/\pB 65536 f.d.limbs
def kH.fit(v:kH):Prop:=v.kind<256/\v.f.fit /\ -9223372036854775808<=v.i/\v.i<9223372036854775808
mutual
def jA.fit:jA->Prop
 | .mk op name v args=>op<256/\name.length<jC/\(∀c∈name,c<256)/\v.fit/\args.length<jC/\jA.fits args
def jA.fits:List jA->Prop
 | []=>True
 | x::l=>x.fit/\jA.fits l
end
def jA.fits_mem:∀ {l:List jA},jA.fits l->∀x∈l,x.fit
 | [],_,_,h=>by cases h
 | y::l,h,x,hx=>by
  unfold jA.fits at h;rcases ybs.1 hx with rfl | hx
  ·exact h.1
  ·exact jA.fits_mem h.2 x hx
mutual
def jA.fit_ok:∀ {x:jA},x.fit->x.ok
 | .mk op name v args,h=>by
  unfold jA.fit at h;unfold jA.ok;exact⟨h.2.1,h.2.2.2.1.2.1.1,h.2.2.2.2.1,jA.fits_oks h.2.2.2.2.2⟩
def jA.fits_oks:∀ {l:List jA},jA.fits l->jA.oks l
 | [],_=>by unfold jA.oks;trivial
 | x::l,h=>by
  unfold jA.fits at h;unfold jA.oks;exact⟨jA.fit_ok h.1,jA.fits_oks h.2⟩
end
def i64 (n:Int):Prop := -9223372036854775808<=n/\n<9223372036854775808
def vH.fit(r:vH):Prop:=i64 r.a/\i64 r.b/\i64 r.known/\r.f.fit
def fD.fit(x:fD):Prop:=x.name.length<jC/\x.rows.length<jC/\∀r∈x.rows,r.fit
def cE.fit(x:cE):Prop:=x.name.length<jC/\x.kind<256
def zC.fit(x:zC):Prop:=x.name.length<jC/\x.label.length<jC/\i64 x.from_/\i64 x.to/\i64 x.known/\x.when_.fit/\x.then_.fit
structure oC.fit (p:oC):Prop where
 name:p.name.length<jC
 ndefs:p.defs.length<jC
 ntables:p.tables.length<jC
 nclauses:p.clauses.length<jC
 defs:∀d∈p.defs,d.fit
 tables:∀d∈p.tables,d.fit
 clauses:∀d∈p.clauses,d.fit
end Go.Am
namespace Go.Proofs
open Go Go.Am
variable [nC]
variable {t:Tr rA}
def sameW(a b:zI):Bool:=(a.neg == b.neg)&&decide (a.limbs=b.limbs)
def sameF(a b:eE):Bool:=sameW a.n b.n&&sameW a.d b.d
def sameV(a b:kH):Bool:=decide (a.kind=b.kind)&&decide (a.i=b.i)&&sameF a.f b.f
def zga(w:zI):Bool := !w.neg&&decide (w.limbs=[1])
def tQ(f:eE):Bool:=decide (f.n.limbs.length<=256)&&decide (f.d.limbs.length<=256)&&oJ f.n.neg f.n.limbs&&oJ f.d.neg f.d.limbs && !f.d.neg&&decide (f.d.limbs≠[])&&(zga f.d||decide (Nat.gcd (val 65536 f.n.limbs) (val 65536 f.d.limbs)=1))
def zyg{a b:Int}:iB a b=decide (a<b):=by
 cases h:iB a b with
 | true=>rw[decide_eq_true (cC.1 h)]
 | false=>rw[decide_eq_false (fun k=>by rw[cC.2 k]at h;cases h)]
def z8a{a b:Int}:pC a b=decide (a<=b):=by
 cases h:pC a b with
 | true=>rw[decide_eq_true (yG.1 h)]
 | false=>rw[decide_eq_false (fun k=>by rw[yG.2 k]at h;cases h)]
def ze2{a b:Int}:mA a b=decide (a=b):=by
 cases h:mA a b with
 | true=>rw[decide_eq_true (yH.1 h)]
 | false=>rw[decide_eq_false (fun k=>by rw[yH.2 k]at h;cases h)]
def zg5{f:eE}{u v:zA}(hu:lA t 1 (cD f.n.limbs) u)(hv:lA t 1 (cD f.d.limbs) v)(hf:eE.fit f):wC yA F 166 [.agg [.bool f.n.neg,u,.bool f.d.neg,v]] t=some (.bool (tQ f)):=by
 obtain⟨h1,h2,h3⟩:=hf
 unfold eE.ok jC at h1;have c1:wC yA F 186 [.agg [.bool f.n.neg,u,.bool f.d.neg,v]] t=some (.bool (!(decide (f.n.limbs.length<=256)&&decide (f.d.limbs.length<=256)))):=by
  refine wD.2 (w186 _ _ _ _ ?_)
  simp only[t186,qA,hu.len,hv.len,wA,tB,wV];have e:iB 256 (f.d.limbs.length:Int) = !decide (f.d.limbs.length<=256):=by
   rw[zyg,<- decide_not];congr 1;exact propext ⟨by omega,by omega⟩
  by_cases g1:f.n.limbs.length<=256
  ·rw[yaa (fun h=>absurd (cC.1 h) (by omega)),e]
   simp[g1]
  ·rw[yab (cC.2 (by omega))];simp[g1]
 have c2:=zbr (neg:=f.n.neg) (by omega) hu
 have c3:=zbr (neg:=f.d.neg) (by omega) hv
 have c4:wC yA F 168 [.agg [.bool f.n.neg,u,.bool f.d.neg,v]] t=some (.bool (zga f.d)):=by
  refine wD.2 (w168 _ _ _ _ ?_)
  simp only[t168,qA,q188,zh4 hv,wA,bT]; (first | exact⟨rfl,rfl⟩ | exact⟨rfl,trivial⟩ | trivial)
 refine gM (w166 _ _ _ _ ?_)
 simp only[t166,qA,q186,c1,q187,c2,c3,q168,c4,wA,bT,hv.len,tB,wV,yH,zhv];unfold tQ;by_cases g1:f.n.limbs.length<=256
 ·by_cases g2:f.d.limbs.length<=256
  ·simp only[g1,g2,decide_true,ycn,Bool.not_true,ybq,if_false]
   cases hn:oJ f.n.neg f.n.limbs with
   | false=>simp
   | true=>
    cases hd:oJ f.d.neg f.d.limbs with
    | false=>simp
    | true=>
     simp only[Bool.true_eq_false,if_false,ycn]
     cases hg:f.d.neg with
     | true=>simp
     | false=>
      simp only[ybq,if_false,ycl,ycn];by_cases h0:f.d.limbs=[]
      ·rw[yab (by rw[h0];rfl)];simp[h0]
      ·have:f.d.limbs.length≠0:=fun e=>h0 (ycc.1 e)
       rw[yaa (by omega)]
       simp only[h0,ne_eq,not_false_eq_true,decide_true,ycn]
       cases ho:zga f.d with
       | true=>simp
       | false=>
        simp only[ybq,if_false,Bool.false_or];rw[q189];refine w189 _ _ _ _ ?_
        simp only[t189,qA,q210];have hn':=hn
        have hd':=hd
        rw[hg]at hd'
        refine gcd_ok (n:=f.n) (d:=⟨false,f.d.limbs⟩) hu hv (by omega) (by show f.d.limbs.length<_;omega) h2 h3 hn' hd' fun t' g rv k1 k2 k3 k4 k5=>?_
        have eG:rJ [(.bool false),.nilslice] (.agg [.bool false,rv])=some (cellsOf [.bool false,rv]):=mL (by
         show(true&&(tI .nilslice rv&&true))=true
         rw[gN k2];rfl)
        have hone:rB zA.one [.bool false,rv]=true:=by
         show(bif zA.one (.bool false)then(bif zA.one rv then true else false)else false)=true
         rw[k2.one];rfl
        simp only[sB,zA.asTup,tA,kF,yaz,yba,wA,tB,eG,cellsOf,xR,aN,hone,if_true];rw[q188,zh4 k2];simp only[wA,bT,ycl,ycn]
        refine⟨?_,k1⟩
        congr 1
        rw[decide_eq_decide,<- k5];constructor
        ·intro e;subst e;rfl
        ·intro e
         exact z2e (B:=65536) (by decide) k3 (fun x hx=>by rw[ydd.1 hx];decide) k4 (fun _=>by simp) (by rw[e];rfl)
  ·simp[g2]
 ·simp[g1]
def ziz{f:eE}{u v:zA}(hu:lA t 1 (cD f.n.limbs) u)(hv:lA t 1 (cD f.d.limbs) v)(hf:eE.fit f):wC yA F 141 [.agg [.bool f.n.neg,u,.bool f.d.neg,v]] t=some (.bool (tQ f)):=by
 refine wD.2 (w141 _ _ _ _ ?_)
 simp only[t141,qA,q166,zg5 hu hv hf,wA,bT,if_true];exact⟨trivial,trivial⟩
end Go.Proofs
namespace Go.Proofs
open Go Go.Am
variable [nC]
variable {t:Tr rA}
def zbx{a b:List Nat}(h:a.length+b.length<4611686018427387904):z42 a b=some (.str (a++b)):=by
 unfold z42;rw[fC,fC,tC.2 h,pG];rfl
def z1l{s:List Nat}{k:Nat}(h:k<=s.length):qF yA 9 H0A (.str s) (some (.int .i64 (k:Int))) none=some (.str (s.drop k)):=by
 unfold qF bJ;rw[ty9,tA];simp only[zA.asStr];rw[show kD.isString .string=true from rfl,gD];unfold zbv nL yR dO;have e:lJ (k:Int)=some k:=rfl
 simp only[tA,zA.asNat,zA.asInt,e,fC,lD.2 h,lD.2 (ybk _),gD,sO,nP,List.take_length]
def zhc{s:List Nat}{k:Nat}(h:k<=s.length):qF yA 9 H0A (.str s) none (some (.int .i64 (k:Int)))=some (.str (s.take k)):=by
 unfold qF bJ;rw[ty9,tA];simp only[zA.asStr];rw[show kD.isString .string=true from rfl,gD];unfold zbv nL yR dO;have e:lJ (k:Int)=some k:=rfl
 simp only[tA,zA.asNat,zA.asInt,e,fC,lD.2 h,lD.2 (yaw _),gD,sO,nP,ycr]
def z8c (a b:List Nat):Bool:=decide (b.length<=a.length)&&zF (a.take b.length) b
def zku{a b:List Nat}:wC yA F 194 [.str a,.str b] t=some (.bool (z8c a b)):=by
 refine wD.2 (w194 _ _ ?_)
 simp only[t194,qA,mN,yG];unfold z8c;by_cases h:b.length<=a.length
 ·rw[yab (by omega),zhc h,wA]
  simp[zA.asStr,h]
 ·rw[yaa (by omega)]
  simp[h]
def zg4{a b:List Nat}:wC yA F 143 [.str a,.str b] t=some (.str (if z8c a b then a.drop b.length else a)):=by
 have h:wC yA F 169 [.str a,.str b] t=some (.str (if z8c a b then a.drop b.length else a)):=by
  refine wD.2 (w169 _ _ ?_)
  simp only[t169,qA,q194,zku,wA,zA.asBool,mN]
  cases hp:z8c a b with
  | true=>
   simp only[if_true];have:b.length<=a.length:=by unfold z8c at hp;simp at hp;exact hp.1
   rw[z1l this,wA];simp[zA.asStr]
  | false=>simp
 refine wD.2 (w143 _ _ ?_)
 simp only[t143,qA,q169,h,wA,zA.asStr];first | exact⟨rfl,rfl⟩ | exact⟨trivial,trivial⟩ | exact⟨rfl,trivial⟩
def zyt(f:eE):List Nat:=ze8 f.n.neg f.n.limbs++(if zga f.d then []else 47::ze8 f.d.neg f.d.limbs)
def zn9{u:Nat}:∀ {k:Nat},u<10^k->(nG u).length<=k+1:=by
 intro k h;have:=zoa (u:=u) (k:=k+1) (by omega) (by rw[yag];omega)
 exact this
def ze7{neg:Bool}{l:List Nat}(hlt:pB 65536 l)(hl:l.length<=1024):(ze8 neg l).length<=10000:=by
 unfold ze8 intN;have h1:=lK (B:=65536) (by decide) hlt
 have h2:(65536:Nat)^l.length<=10^(5*l.length):=by
  rw[Nat.pow_mul];exact Nat.pow_le_pow_left (by decide) _
 have:=zn9 (u:=val 65536 l) (k:=5*l.length) (by omega)
 rw[ybg];have:(if neg=true then [45]else([]:List Nat)).length<=1:=by cases neg<;>simp
 omega
def ziy{f:eE}(h:tQ f=true):oJ f.n.neg f.n.limbs=true/\oJ f.d.neg f.d.limbs=true/\f.n.limbs.length<=1024/\f.d.limbs.length<=1024:=by
 unfold tQ at h;simp only[ybb,decide_eq_true_eq]at h;obtain⟨⟨⟨⟨⟨⟨h1,h2⟩,h3⟩,h4⟩,_⟩,_⟩,_⟩:=h
 exact⟨h3,h4,by omega,by omega⟩
def znt{f:eE}{u v:zA}(hu:lA t 1 (cD f.n.limbs) u)(hv:lA t 1 (cD f.d.limbs) v)(hf:eE.fit f):wC yA F 142 [.agg [.bool f.n.neg,u,.bool f.d.neg,v]] t=some (if tQ f then .tup [.str (zyt f),.int .i64 0]else .tup [.str [],.int .i64 2]):=by
 refine wD.2 (w142 _ _ _ _ ?_)
 have x0:∀u v,sB 0 (.tup [u,v])=some u:=fun _ _=>rfl
 have x1:∀u v,sB 1 (.tup [u,v])=some v:=fun _ _=>rfl
 simp only[t142,qA,q141,ziz hu hv hf,wA,zA.asBool]
 cases hval:tQ f with
 | false=>simp
 | true=>
  obtain⟨h1,h2,h3,h4⟩:=ziy hval
  have a:=ze7 (neg:=f.n.neg) hf.2.1 h3
  have b:=ze7 (neg:=f.d.neg) hf.2.2 h4
  have c1:wC yA F 168 [.agg [.bool f.n.neg,u,.bool f.d.neg,v]] t=some (.bool (zga f.d)):=by
   refine wD.2 (w168 _ _ _ _ ?_)
   simp only[t168,qA,q188,zh4 hv,wA,zA.asBool];first | exact⟨rfl,rfl⟩ | exact⟨trivial,trivial⟩ | exact⟨rfl,trivial⟩
  simp only[Bool.not_true,ybq,if_false,q167,zu1 hu hf.2.1 h1,wA,x0,x1,zA.asStr,tB,if_true,q168,c1,zA.asBool];unfold zyt
  cases hone:zga f.d with
  | true=>simp
  | false=>
   simp only[ycl,if_true,zu1 hv hf.2.2 h2,wA,x0,x1,zA.asStr,tB];rw[zbx (by simp;omega),wA]
   simp only[zA.asStr,wA];rw[zbx (by simp;omega),wA]
   simp[zA.asStr]
def zjt(f:eE):Bool:=decide (f.n.limbs.length<=42)&&decide (f.d.limbs.length<=42)&&tQ f&&decide ((if z8c (zyt f) [45]then(zyt f).drop 1 else zyt f).length<=200)
def fZ{f:eE}{u v:zA}(hu:lA t 1 (cD f.n.limbs) u)(hv:lA t 1 (cD f.d.limbs) v)(hf:eE.fit f):wC yA F 115 [.agg [.bool f.n.neg,u,.bool f.d.neg,v]] t=some (.bool (zjt f)):=by
 refine wD.2 (w115 _ _ _ _ ?_)
 have x0:∀u v,sB 0 (.tup [u,v])=some u:=fun _ _=>rfl
 have x1:∀u v,sB 1 (.tup [u,v])=some v:=fun _ _=>rfl
 simp only[t115,qA,hu.len,hv.len,wV,wA,tB,cC];unfold zjt;by_cases h1:f.n.limbs.length<=42
 ·rw[yaa (by omega)]
  by_cases h2:f.d.limbs.length<=42
  ·rw[yaa (by omega)]
   simp only[q141,ziz hu hv hf,wA,zA.asBool]
   cases hval:tQ f with
   | false=>simp
   | true=>
    simp only[Bool.not_true,ybq,if_false,q142,znt hu hv hf,hval,if_true,wA,x0,x1,zA.asStr,tB,yH,q143,zg4,mN];simp[h1,h2,z8a]
    constructor<;>intro h<;>omega
  ·rw[yab (by omega)];simp[h2]
 ·rw[yab (by omega)];simp[h1]
def zep(f:eE):Bool := !f.n.neg && !f.d.neg&&decide (f.n.limbs.length+f.d.limbs.length=0)
def zca{f:eE}{u v:zA}(hu:lA t 1 (cD f.n.limbs) u)(hv:lA t 1 (cD f.d.limbs) v)(hf:f.ok):wC yA F 116 [.agg [.bool f.n.neg,u,.bool f.d.neg,v]] t=some (.bool (zep f)):=by
 unfold eE.ok jC at hf;refine wD.2 (w116 _ _ _ _ ?_)
 simp only[t116,qA,hu.len,hv.len,wV,wA,tB];unfold zep;rw[wrap_i64 (by omega) (by omega),ze2]
 have e:decide ((f.n.limbs.length:Int)+(f.d.limbs.length:Int)=0)=decide (f.n.limbs.length+f.d.limbs.length=0):=by
  by_cases h:f.n.limbs.length+f.d.limbs.length=0
  ·rw[decide_eq_true h,decide_eq_true (by omega)]
  ·rw[decide_eq_false h,decide_eq_false (by omega)]
 rw[e]
 cases f.n.neg<;>cases f.d.neg<;>simp
def zqg{n:Int}:wC yA F 117 [.int .i64 n] t=some (.bool (decide (0<=n)&&decide (n<65536))):=by
 refine wD.2 (w117 _ ?_)
 simp only[t117,qA,yG];by_cases h:0<=n
 ·rw[yab h];simp[h,zyg]
 ·rw[yaa h];simp[h]
def zjs(v:kH):Bool:=
 if v.kind=2\/v.kind=3 then decide (v.i=0)&&zjt v.f
 else if v.kind=1 then zep v.f&&(decide (v.i=0)||decide (v.i=1))
 else if v.kind=4 then zep v.f&&(decide (0<=v.i)&&decide (v.i<65536))
 else if v.kind=5\/v.kind=6 then zep v.f&&(decide (-1048576<=v.i)&&decide (v.i<=1048576))
 else false
def zau{a:kH}{u v:zA}(hu:lA t 1 (cD a.f.n.limbs) u)(hv:lA t 1 (cD a.f.d.limbs) v)(hf:eE.fit a.f):wC yA F 85 [.agg [.int .u8 a.kind,.bool a.f.n.neg,u,.bool a.f.d.neg,v,.int .i64 a.i]] t=some (.bool (zjs a)):=by
 refine wD.2 (w85 _ _ _ _ _ _ ?_)
 simp only[t85,qA,q115,fZ hu hv hf,q116,zca hu hv hf.1,q117,zqg,wA,zA.asBool];unfold zjs;have kk:∀j:Int,mA (a.kind:Int) j=decide ((a.kind:Int)=j):=fun j=>ze2
 simp only[kk];by_cases k2:a.kind=2
 ·have e:(a.kind:Int)=2:=by omega
  by_cases h0:a.i=0<;>simp[e,k2,h0,ze2]
 by_cases k3:a.kind=3
 ·have e:(a.kind:Int)=3:=by omega
  by_cases h0:a.i=0<;>simp[e,k3,h0,ze2]
 have e2:¬ (a.kind:Int)=2:=by omega
 have e3:¬ (a.kind:Int)=3:=by omega
 by_cases k1:a.kind=1
 ·have e:(a.kind:Int)=1:=by omega
  cases zep a.f<;>by_cases h0:a.i=0<;>simp[e,k1,h0,ze2]
 have e1:¬ (a.kind:Int)=1:=by omega
 by_cases k4:a.kind=4
 ·have e:(a.kind:Int)=4:=by omega
  cases zep a.f<;>simp[e,k4]
 have e4:¬ (a.kind:Int)=4:=by omega
 by_cases k5:a.kind=5
 ·have e:(a.kind:Int)=5:=by omega
  cases zep a.f<;>by_cases h0:(-1048576:Int)<=a.i<;>simp[e,k5,h0,z8a]
 have e5:¬ (a.kind:Int)=5:=by omega
 by_cases k6:a.kind=6
 ·have e:(a.kind:Int)=6:=by omega
  cases zep a.f<;>by_cases h0:(-1048576:Int)<=a.i<;>simp[e,k6,h0,z8a]
 have e6:¬ (a.kind:Int)=6:=by omega
 simp[e1,e2,e3,e4,e5,e6,k1,k2,k3,k4,k5,k6]
end Go.Proofs
namespace Go.Am
open Go Go.RowKit
section
variable {t tf:Tr rA}{C:pA}
def dD.pushL{T el sz n:Nat}(hT:eJ C T el sz){A B:List cF}{l:List D}{d:D}{cs:List zA}{v x:zA}(h:dD C.base tf t (A++zH C.base sz l v::B))(hx:sJ t sz x [cs])(hd:RD tf d cs)(hone:∀a∈cs,zA.one a=true)(hl:l.length<300000)(hn:t.get n=none)(hbase:C.base<=n) :
  ∃v2 k t2,gE C T T v x ⟨n,t⟩=some (v2,⟨k,t2⟩)/\dD C.base tf t2 (A++zH C.base sz (l++[d]) v2::B):=by
 have hv:jH C.base tf t sz l v:=h.ok (zH C.base sz l v) (by simp)
 obtain⟨t2,c1,c2,c3,c4⟩:=zls hT (m:=[d]) hv hx (jE.2 ⟨cs,[],rfl,hd,sG.2 rfl⟩) (by intro a ha;simp at ha;exact hone a ha) (by simp) (by simp;omega) hn hbase h.tle
 refine⟨_,_,t2,c1,?_⟩
 refine dD.upd (o:=zH C.base sz l v) h (fun k k1 k2=>c4 k ?_ (fun e=>k1 (zbz.2 e))) (fun k hk=>?_) c2 (by simp[zH,zzx]) c3
 ·intro e;subst e;exact k2 (by simp[zH,zzx])
 ·have:k=n:=by simpa[zH,zzx]using hk
  subst this;exact .inr ⟨hn,hbase⟩
end
end Go.Am
namespace Go.Am
open Go Go.RowKit
section
section
variable {t tf tf0:Tr rA}{C:pA}
mutual
def RD.ones:∀(d:D) (cs:List zA),RD t d cs->∀a∈cs,zA.one a=true
 | .int _ _,cs,h,a,ha=>by rw[RD]at h;subst h;simp at ha;subst ha;rfl
 | .bool _,cs,h,a,ha=>by rw[RD]at h;subst h;simp at ha;subst ha;rfl
 | .str _,cs,h,a,ha=>by rw[RD]at h;subst h;simp at ha;subst ha;rfl
 | .sl sz l,cs,h,a,ha=>by
  rw[pJ]at h;obtain⟨v,rfl,h⟩:=h
  simp at ha;subst ha;exact h.one
 | .st l,cs,h,a,ha=>by
  rw[rI]at h;obtain⟨cl,rfl,h⟩:=h
  exact uC.ones l cl h a ha
def uC.ones:∀(l:List D) (cl:List (List zA)),uC t l cl->∀a∈cl.flatten,zA.one a=true
 | [],cl,h,a,ha=>by rw[uC]at h;subst h;cases ha
 | d::l,cl,h,a,ha=>by
  rw[uC]at h;obtain⟨c,r,rfl,h1,h2⟩:=h
  rw[yas,yaf]at ha;rcases ha with ha | ha
  ·exact RD.ones d c h1 a ha
  ·exact uC.ones l r h2 a ha
end
def RD.all{d:D}{cs:List zA}(h:RD t d cs):rB zA.one cs=true:=by
 rw[nF,ycb];exact RD.ones d cs h
def RD.mk{d:D}{cs zs:List zA}(h:RD t d cs)(hz:d.zs=zs):vI zs (cellsOf cs) 0=cs:=by
 have:=lW zs cs [] (by rw[<- hz];exact zdz d cs h)
 simpa using this
def lit1{S el sz b:Nat}{cs:List zA}(hT:eJ C S el sz)(hc:cs.length=sz)(hs:sz<1000000)(hb:t.get b=none) :
  ∃t',sH C S 1 [(0,.agg cs)] ⟨b,t⟩=some (.slice b 0 1 1,⟨b+1,t'⟩)/\sJ t' sz (.slice b 0 1 1) [cs]/\cA t t'/\oD b t t':=by
 obtain⟨⟨y,hy1,hy2,_⟩,⟨z,hz1,hz2,hz3,_,_⟩⟩:=hT
 refine zke (n:=1) (cl:=[cs]) hy1 hy2 hz1 hz2 hz3 (by omega) ?_ (fun i q hq=>?_) rfl hb
 ·have e:mJ z.zero 1=z.zero:=by show eC z.zero []=z.zero;rw[pG,ycd]
  rw[e];unfold yM nT;have e1:(zA.agg cs).cells=cs:=rfl
  rw[fC]at hz3;simp only[tA,e1,fC,hc,hz3,Nat.zero_mul,ybw,sO,nP,pG,List.take_zero,yah];rw[qB.2 rfl,lD.2 (ybk sz)]
  simp only[Bool.and_self,gD,tA,yM];rw[ybt (by omega)]
  simp
 ·rcases i with _ | i
  ·simp at hq;subst hq;exact hc
  ·simp at hq
def zlb(C:pA)(S el g p:Nat)(zs:List zA)(v0 v:zA)(i:Int):T:=
 .opt (oB v0) fun a0=>.asI .i64 a0 fun n1=>.ite (iB i n1)
  (.opt (jB C S v0 (.int .i64 i)) fun a2=>.light (fun m=>oA C el ⟨0,m⟩ a2) fun a3=>.asG zs a3 fun X=>
   .call g [.agg (vI zs X 0)] fun a5=>.asG zs a5 fun Y=>
   .ite (rB zA.one (vI zs Y 0)) (.heavy (sH C S 1 [(0,.agg (vI zs Y 0))]) fun a7=>.heavy (gE C S S v a7) fun a8=>.jump p [v0,a8,.int .i64 (sA .i64 (i+1))]) .fail)
  (.ret v)
def dN(base:Nat)(W:cG)(g:Nat)(d:D):Prop:=∀ ⦃L:List cF⦄ ⦃tf t:Tr rA⦄ ⦃cs:List zA⦄ ⦃Q:xC⦄,dD base tf t L->RD tf d cs->(∀tf' t' cs',cA tf tf'->dD base tf' t' L->RD tf' d cs'->Q (.agg cs') t')->W g [.agg cs] t Q
def z4j(base:Nat)(tf:Tr rA)(L:List cF)(sz:Nat)(l:List D)(Q:xC):Prop:=∀tf' t' v,cA tf tf'->dD base tf' t' L->lA tf' sz l v->Q v t'
def zzj{W J:cG}{S el sz g p:Nat}(hT:eJ C S el sz)(hS:zE C S el sz true)(hsz:sz<1000000){zs:List zA}{L:List cF}{ds:List D}{v0:zA}{Q:xC}
  (hz:∀d∈ds,d.zs=zs) (hg:∀d∈ds,dN C.base W g d) (hlen:ds.length<300000)
  (hj:∀v i t,qA C.base W J (zlb C S el g p zs v0 v i) t Q->J p [v0,v,.int .i64 i] t Q) (hQ:z4j C.base tf0 L sz ds Q) (h0:lA tf0 sz ds v0) :
  ∀(m i:Nat) (tf t:Tr rA) (v:zA),i+m=ds.length->cA tf0 tf->dD C.base tf t (zH C.base sz (ds.take i) v::L)->J p [v0,v,.int .i64 (i:Int)] t Q:=by
 intro m;induction m with
 | zero=>
  intro i tf t v hi hf ho;refine hj _ _ _ ?_
  simp only[zlb,qA];rw[h0.len,wA,tB,wA,yaa (fun e=>by have:=cC.1 e;omega)]
  rw[yca (by omega)]at ho
  obtain⟨tf',k1,k2,k3⟩:=dD.freezeL (A:=[]) ho
  exact hQ tf' t v (hf.trans k1) k2 k3
 | succ m ih=>
  intro i tf t v hi hf ho;have hlt:i<ds.length:=by omega
  have hd:ds[i]?=some ds[i]:=ybd hlt
  have hm:ds[i]∈ds:=ycj hlt
  obtain⟨b,off,cs,g1,g2,g3,g4,g5⟩:=zE.at (t:=tf) hS (by simp) (h0.mono hf) hd
  have g1':=g1
  obtain⟨b',off',cs',f1,f2,f3,f4,f5⟩:=zE.at (t:=t) hS (by simp) (h0.mono (hf.trans ho.tle)) hd
  rw[g1]at f1;cases f1
  have ecs:cs'=cs:=by
   obtain⟨c,n,lo,q1,q2⟩:=g3
   obtain⟨c',n',lo',q3,q4⟩:=f3
   rw[ho.tle _ _ q1]at q3
   cases q3
   refine List.ext_getElem? fun j=>?_
   rcases yau j sz with hjs | hjs
   ·have a1:cs[j]?=some cs[j]:=ybd (by omega)
    have a2:cs'[j]?=some cs'[j]:=ybd (by omega)
    have b1:=q2 _ _ a1
    have b2:=q4 _ _ a2
    rw[b1]at b2;rw[a1,a2,yci b2]
   ·rw[List.getElem?_eq_none (by omega),List.getElem?_eq_none (by omega)]
  subst ecs;refine hj _ _ _ ?_
  simp only[zlb,qA];rw[h0.len,wA,tB,wA,yab (cC.2 (by omega)),g1,wA,f2,wA]
  have hzz:=hz _ hm
  show vD (rJ zs (.agg cs')) _
  rw[lH g5 hzz,wA,g5.mk hzz];refine hg _ hm ho g5 fun tf' t' cs2 k1 k2 k3=>?_
  rw[lH k3 hzz,wA,k3.mk hzz,yab k3.all];intro n hn _;have hl2:cs2.length=sz:=by
   have e1:=g5.mk hzz
   have e2:=k3.mk hzz
   have key:∀(zs:List zA) (X Y:tM) (j:Nat),(vI zs X j).length=(vI zs Y j).length:=by
    intro zs;induction zs with
    | nil=>intro X Y j;rfl
    | cons z zs ih=>
     intro X Y j;show(zde z X j::vI zs X (j+1)).length=(zde z Y j::vI zs Y (j+1)).length
     rw[ybn,ybn,ih X Y (j+1)]
   have:=key zs (cellsOf cs2) (cellsOf cs') 0
   rw[e1,e2]at this;omega
  obtain⟨t1,a1,a2,a3,a4⟩:=lit1 (C:=C) hT hl2 hsz hn
  rw[a1,wA];intro n2 hn2 hb2;obtain⟨v2,k,t2,c1,c2⟩:=dD.pushL (A:=[]) (n:=n2) hT (k2.junk hn a4) a2 k3 (RD.ones _ _ k3) (by rw[yda];omega) hn2 hb2
  rw[c1,wA,wrap_i64 (by omega) (by omega)]
  have e:ds.take i++[ds[i]]=ds.take (i+1):=by rw[List.take_succ,hd];rfl
  rw[e]at c2;exact ih (i+1) tf' t2 v2 (by omega) (hf.trans k1) c2
def zd8{W J:cG}{S el sz g p:Nat}(hT:eJ C S el sz)(hS:zE C S el sz true)(hsz:sz<1000000){zs:List zA}{L:List cF}{ds:List D}{v0:zA}{Q:xC}
  (hz:∀d∈ds,d.zs=zs) (hg:∀d∈ds,dN C.base W g d) (hlen:ds.length<300000)
  (hj:∀v i t,qA C.base W J (zlb C S el g p zs v0 v i) t Q->J p [v0,v,.int .i64 i] t Q) (hQ:z4j C.base tf L sz ds Q) (h0:lA tf sz ds v0) (ho:dD C.base tf t L):J p [v0,.nilslice,.int .i64 0] t Q:=by
 refine zzj hT hS hsz hz hg hlen hj hQ h0 ds.length 0 tf t .nilslice (by omega) (cA.refl _) ?_
 rw[List.take_zero];exact dD.add (A:=[]) (o':=zH C.base sz ([]:List D) .nilslice) ho (fun _ _=>rfl) (fun k hk=>by simp[zH,zzx]at hk) (.inl ⟨rfl,rfl⟩) (by simp[zH,zzx]) ho.tle
def zq4{W J:cG}{S el sz:Nat}(hT:eJ C S el sz){L:List cF}{l:List D}{x:zA}{Q:xC}(hx:lA tf sz l x)(ho:dD C.base tf t L)(hl:l.length<1000000)(hQ:z4j C.base tf L sz l Q) :
  qA C.base W J (.heavy (gE C S S .nilslice x) fun a0=>.ret a0) t Q:=by
 simp only[qA];intro n hn _;obtain⟨v,k,t',tf',a1,a2,a3,a4,a5,a6,a7⟩:=zlt hT hx ho.tle hl hn
 rw[a1,wA];refine hQ tf' t' v a3 (ho.keep a3 a4 fun k hk=>?_) a2
 have hne:k≠n:=fun e=>by
  obtain⟨y,hy⟩:=ho.live hk
  rw[e,hn]at hy;cases hy
 exact⟨a6 k hne,by rw[a7 k hne];exact(ho.low k hk).2⟩
end
end
section
section
variable {C:pA}{t:Tr rA}
def bL(C:pA)(T:Nat)(k:zA):Bool:=
 match ob (C.tys.get T) fun ty=>ob ty.desc.asMap fun ke=>ob (C.tys.get ke.1) fun kty=>dA (lN C kty&&aL C kty k) (some ())with | some _=>true | none=>false
def zY{T:Nat}{k:zA}(h:bL C T k=true):∃ty ke kty,C.tys.get T=some ty/\ty.desc.asMap=some ke/\C.tys.get ke.1=some kty/\lN C kty=true/\aL C kty k=true:=by
 unfold bL at h;split at h
 case h_2=>cases h
 rename_i u hu;simp only[uA,xB,ybb]at hu;obtain⟨ty,h1,ke,h2,kty,h3,⟨h4,h5⟩,_⟩:=hu
 exact⟨ty,ke,kty,h1,h2,h3,h4,h5⟩
def zgz{T b n:Nat}{k v:zA}{l l':List (zA × zA)}(hk:bL C T k=true)(hb:C.base<=b)(hm:t.get b=some (.map l))(hs:tG k v l=some l') :
  xI C T (.map b) k v ⟨n,t⟩=some (pD,⟨n,t.set b (.map l')⟩):=by
 obtain⟨ty,ke,kty,h1,h2,h3,h4,h5⟩:=zY hk
 have e2:(!Nat.blt b C.base)=true:=by
  cases hq:Nat.blt b C.base with
  | true=>have:=tC.1 hq;omega
  | false=>rfl
 have e3:lG ⟨n,t⟩ b=some l:=by unfold lG;rw[hm];rfl
 unfold xI;rw[h1,tA,h2,tA,h3,tA,h4,gD];simp only[zA.asMap,tA];rw[e2,gD,e3,tA,h5,gD,hs];rfl
def zh1{T b n:Nat}{k v:zA}{l:List (zA × zA)}(hk:bL C T k=true)(hm:t.get b=some (.map l))(hs:dG k l=some (some v)){ty:rC}(hT:C.tys.get T=some ty){ke:Nat × Nat}(hd:ty.desc.asMap=some ke){ety:rC}(he:C.tys.get ke.2=some ety)(ok:Bool) :
  bG C T ⟨n,t⟩ (.map b) k ok=some (bif ok then .tup [v,.bool true]else v):=by
 obtain⟨ty,ke,kty,h1,h2,h3,h4,h5⟩:=zY hk
 rw[hT]at h1;cases h1;rw[hd]at h2;cases h2;have e3:lG ⟨n,t⟩ b=some l:=by unfold lG;rw[hm];rfl
 unfold bG;rw[hT,tA,hd,tA,h3,tA,h4,gD,he,tA];have e4:eM ⟨n,t⟩ (.map b)=some l:=by unfold eM;simp only[zA.asMap];exact e3
 rw[e4,tA,h5,gD,hs,tA]
def zkc{T b n:Nat}{k:zA}{l:List (zA × zA)}(hk:bL C T k=true)(hm:t.get b=some (.map l))(hs:dG k l=some none){ty:rC}(hT:C.tys.get T=some ty){ke:Nat × Nat}(hd:ty.desc.asMap=some ke){ety:rC}(he:C.tys.get ke.2=some ety)(ok:Bool) :
  bG C T ⟨n,t⟩ (.map b) k ok=some (bif ok then .tup [tN ety,.bool false]else tN ety):=by
 obtain⟨ty,ke,kty,h1,h2,h3,h4,h5⟩:=zY hk
 rw[hT]at h1;cases h1;rw[hd]at h2;cases h2;have e3:lG ⟨n,t⟩ b=some l:=by unfold lG;rw[hm];rfl
 unfold bG;rw[hT,tA,hd,tA,h3,tA,h4,gD,he,tA];have e4:eM ⟨n,t⟩ (.map b)=some l:=by unfold eM;simp only[zA.asMap];exact e3
 rw[e4,tA,h5,gD,hs,tA]
mutual
def RD.sames1:∀(d:D) (cs:List zA),RD t d cs->∀a∈cs,∀k,Am.same k a a=true
 | .int _ _,cs,h,a,ha,k=>by rw[RD]at h;subst h;simp at ha;subst ha;exact zbw
 | .bool _,cs,h,a,ha,k=>by rw[RD]at h;subst h;simp at ha;subst ha;exact zv1
 | .str _,cs,h,a,ha,k=>by rw[RD]at h;subst h;simp at ha;subst ha;exact zhi
 | .sl sz l,cs,h,a,ha,k=>by
  rw[pJ]at h;obtain⟨v,rfl,h⟩:=h
  simp at ha;subst ha;exact h.same
 | .st l,cs,h,a,ha,k=>by
  rw[rI]at h;obtain⟨cl,rfl,h⟩:=h
  exact uC.sames1 l cl h a ha k
def uC.sames1:∀(l:List D) (cl:List (List zA)),uC t l cl->∀a∈cl.flatten,∀k,Am.same k a a=true
 | [],cl,h,a,ha,k=>by rw[uC]at h;subst h;cases ha
 | d::l,cl,h,a,ha,k=>by
  rw[uC]at h;obtain⟨c,r,rfl,h1,h2⟩:=h
  rw[yas,yaf]at ha;rcases ha with ha | ha
  ·exact RD.sames1 d c h1 a ha k
  ·exact uC.sames1 l r h2 a ha k
end
def zjj:∀ {l:List zA} {k:Nat},(∀a∈l,∀k,Am.same k a a=true)->Am.same.sames k l l=true
 | [],_,_=>rfl
 | a::l,k,h=>by
  rw[Am.same.sames,h a (.head _) k,zjj fun b hb=>h b (.tail _ hb)];rfl
def RD.sameA{d:D}{cs:List zA}(h:RD t d cs){k:Nat}:Am.same (k+1) (.agg cs) (.agg cs)=true:=zjj (RD.sames1 d cs h)
def zgq{b:Nat}(hb:C.base<=b):∀(l:List (zA × zA)) (m:List (zA × zA)) (n:Nat) (t:Tr rA),t.get b=some (.map m) →
  ∃t',tR C (l.map fun e=>RE.up b e.1 e.2) ⟨n,t⟩=some ⟨n,t'⟩/\t'.get b=some (.map (m++l))/\oD b t t'
 | [],m,n,t,h=>⟨t,rfl,by rw[ycd];exact h,fun _ _=>rfl⟩
 | e::l,m,n,t,h=>by
  obtain⟨t',h1,h2,h3⟩:=zgq hb l (m++[e]) n (t.set b (.map (m++[e]))) (by rw[Tr.get_set,yab rfl])
  refine⟨t',?_,by rw[h2,ybz];rfl,fun c hc=>by rw[h3 c hc,Tr.get_set,yaa hc]⟩
  have e2:(!Nat.blt b C.base)=true:=by
   cases hq:Nat.blt b C.base with
   | true=>have:=tC.1 hq;omega
   | false=>rfl
  have e3:lG ⟨n,t⟩ b=some m:=by unfold lG;rw[h];rfl
  have e4:cP C ⟨n,t⟩ (.up b e.1 e.2)=some ⟨n,t.set b (.map (m++[e]))⟩:=by
   show dA (!Nat.blt b C.base) (ob (lG ⟨n,t⟩ b) fun m=>some (setBlk ⟨n,t⟩ b (.map (eC m [(e.1,e.2)]))))=_
   rw[e2,gD,e3,tA,pG];rfl
  rw[ycm];unfold tR;rw[e4,tA];exact h1
def zjn{T b:Nat}:∀(l:List (zA × zA)),(∀e∈l,bL C T e.1=true)->zG (zpk C) (l.map fun e=>Eff.upd T (.map b) e.1 e.2)=some (l.map fun e=>RE.up b e.1 e.2)
 | [],_=>rfl
 | e::l,h=>by
  obtain⟨ty,ke,kty,h1,h2,h3,h4,h5⟩:=zY (h e (.head _))
  have e1:zpk C (.upd T (.map b) e.1 e.2)=some (.up b e.1 e.2):=by
   unfold zpk;simp only[];rw[h1,tA,h2,tA,h3,tA,h4,h5];rfl
  rw[ycm,sL,e1,tA,zjn l fun x hx=>h x (.tail _ hx),tA]
  rfl
def aX:List (zA × zA)->Bool
 | []=>true
 | e::l=>rB (fun x=>zhw e.1 x.1) l&&aX l
def zlu{b:Nat}:∀(l:List (zA × zA)),aX l=true->zgr (l.map fun e=>RE.up b e.1 e.2)=true
 | [],_=>rfl
 | e::l,h=>by
  unfold aX at h;rw[ybb,nF,ycb]at h;rw[ycm];unfold zgr;rw[ybb,nF,ycb];refine⟨fun x hx=>?_,zlu l h.2⟩
  obtain⟨y,hy,rfl⟩:=yaq.1 hx
  show(bif Nat.beq b b then zhw e.1 y.1 else true)=true
  rw[qB.2 rfl];exact h.1 y hy
def zs0{T b n:Nat}{l:List (zA × zA)}(hk:∀e∈l,bL C T e.1=true)(ha:aX l=true)(hb:C.base<=b)(hm:t.get b=some (.map [])) :
  ∃t',vP C (l.map fun e=>Eff.upd T (.map b) e.1 e.2) ⟨n,t⟩=some (pD,⟨n,t'⟩)/\t'.get b=some (.map l)/\oD b t t':=by
 obtain⟨t',h1,h2,h3⟩:=zgq (C:=C) hb l [] n t hm
 refine⟨t',?_,by simpa using h2,h3⟩
 unfold vP gP;rw[zjn l hk,tA,zlu l ha];have hr:rB (zc0 C ⟨n,t⟩) (l.map fun e=>RE.up b e.1 e.2)=true:=by
  rw[nF,ycb];intro x hx;obtain⟨e,_,rfl⟩:=yaq.1 hx
  have e2:(!Nat.blt b C.base)=true:=by
   cases hq:Nat.blt b C.base with
   | true=>have:=tC.1 hq;omega
   | false=>rfl
  have e3:lG ⟨n,t⟩ b=some []:=by unfold lG;rw[hm];rfl
  show(!Nat.blt b C.base&&(match lG ⟨n,t⟩ b with | some []=>true | _=>false))=true
  rw[e2,e3];rfl
 rw[hr];simp only[Bool.and_self,gD,h1,tA]
def bE.up{t':Tr rA}{b:Nat}{lo:Option Lo}{cs:List zA}(h:bE t b lo cs)(k:cA t t'):bE t' b lo cs:=by
 obtain⟨c,h1,h2⟩:=h
 exact⟨c,k _ _ h1,h2⟩
end
end
end Go.Am
namespace Go.Proofs
open Go Go.Am
variable [nC]
variable {t:Tr rA}
def gQ(n:Nat):Bool:=(decide (65<=n)&&decide (n<=90))||(decide (97<=n)&&decide (n<=122))
def zqf(n:Nat):Bool:=decide (48<=n)&&decide (n<=57)
def zdu(n:Nat):Bool:=gQ n||zqf n||decide (n=95)
def z25{a b:Int}:pC a b=decide (a<=b):=by
 by_cases h:a<=b
 ·rw[decide_eq_true h,yG.2 h]
 ·rw[decide_eq_false h]
  cases hq:pC a b with
  | true=>exact absurd (yG.1 hq) h
  | false=>rfl
def rZ{n:Nat}:wC yA F 111 [.int .u8 (n:Int)] t=some (.bool (gQ n)):=by
 refine wD.2 (w111 _ ?_)
 simp only[t111,qA,z25,decide_eq_true_eq];unfold gQ;by_cases h1:65<=n
 ·rw[yab (by omega)]
  by_cases h2:n<=90
  ·rw[yab (by omega)];simp[h1,h2]
  ·rw[yaa (by omega)]
   by_cases h3:97<=n
   ·rw[yab (by omega)]
    have:decide ((n:Int)<=122)=decide (n<=122):=by congr 1;exact propext (by omega)
    simp[h1,h2,h3,this]
   ·rw[yaa (by omega)];simp[h2,h3]
 ·rw[yaa (by omega),yaa (by omega)]
  have:¬ 97<=n:=by omega
  simp[h1,this]
def zsv{n:Nat}:wC yA F 139 [.int .u8 (n:Int)] t=some (.bool (zqf n)):=by
 refine wD.2 (w139 _ ?_)
 simp only[t139,qA,z25,decide_eq_true_eq];unfold zqf;by_cases h1:48<=n
 ·rw[yab (by omega)]
  have:decide ((n:Int)<=57)=decide (n<=57):=by congr 1;exact propext (by omega)
  simp[h1,this]
 ·rw[yaa (by omega)];simp[h1]
def zye{n:Nat}:wC yA F 113 [.int .u8 (n:Int)] t=some (.bool (zdu n)):=by
 refine wD.2 (w113 _ ?_)
 simp only[t113,qA,q111,rZ,wA,zA.asBool];unfold zdu
 cases h:gQ n with
 | true=>simp
 | false=>
  simp only[ybq,if_false,q139,zsv,wA,zA.asBool]
  cases h2:zqf n with
  | true=>simp
  | false=>
   simp only[ybq,if_false,ze2];have:decide ((n:Int)=95)=decide (n=95):=by congr 1;exact propext (by omega)
   simp[this]
def zkt{s:List Nat}{i x:Nat}(h:s[i]?=some x):yJ yA 9 (.str s) (.int .i64 (i:Int))=some (.int .u8 (x:Int)):=by
 unfold yJ;rw[ty9,tA];simp only[zA.asNat,zA.asInt,zA.asStr];have e:ob (some (i:Int)) lJ=some i:=rfl
 rw[e,tA,show kD.isString .string=true from rfl,gD,kF,h,tA];rfl
def z1s (p:Nat->Bool)(s:List Nat):List Nat:=s.takeWhile p
def zpf{p:Nat->Bool}{g:Nat}(hg:∀n:Nat,wC yA F g [.int .u8 (n:Int)] t=some (.bool (p n)))(hq:∀ {a:List zA} {m:Tr rA} {R:xC},Wq yA F eH g a m R=vD (wC yA F g a m) (fun v=>R v m))(hy:Nat.blt g yo=true){s:List Nat}(hs:s.length<4000000000000000000) :
  ∀(k i:Nat),i+k=s.length->(∀j x,j<i->s[j]?=some x->p x=true)->jp 112 2 [.str s,.func (.func g) [] [],.int .i64 (i:Int)] t (fun v t'=>v=.str (z1s p s)/\t'=t):=by
 have key:∀i,i<=s.length->(∀j x,j<i->s[j]?=some x->p x=true)->(∀x,s[i]?=some x->p x=false)->z1s p s=s.take i:=by
  intro i hi h1 h2;unfold z1s;induction s generalizing i with
  | nil=>simp
  | cons a s ih=>
   cases i with
   | zero=>rw[List.takeWhile_cons,h2 a rfl];simp
   | succ i=>
    rw[List.takeWhile_cons,h1 0 a (by omega) rfl,yab rfl,List.take_succ_cons]
    rw[ih (by simp at hs;omega) i (by simpa using hi) (fun j x hj hx=>h1 (j+1) x (by omega) (by simpa using hx)) (fun x hx=>h2 x (by simpa using hx))]
 intro k;induction k with
 | zero=>
  intro i hi hp;refine z5u _ _ _ ?_
  simp only[zvt,qA,cC,mN];rw[yaa (by omega),zhc (by omega),wA]
  simp only[zA.asStr,wA];rw[key i (by omega) hp (fun x hx=>by have:=(ybc.1 hx).1;omega)]
  first | exact⟨rfl,rfl⟩ | exact⟨rfl,trivial⟩ | exact⟨trivial,trivial⟩
 | succ k ih=>
  intro i hi hp;have hx:s[i]?=some s[i]:=ybd (by omega)
  refine z5u _ _ _ ?_
  simp only[zvt,qA,cC,mN];rw[yab (by omega),zkt hx,wA,tB,wA]
  have e:wN (.func (.func g) [] []) [.int .u8 (s[i]:Int)]=some (g,[.int .u8 (s[i]:Int)]):=by
   unfold wN;simp only[zA.asFunc,tA,hy,gD];rfl
  rw[e,wA];simp only[];rw[hq,hg,wA];simp only[zA.asBool,wA]
  cases hb:p s[i]with
  | true=>
   rw[yab rfl,wrap_i64 (by omega) (by omega),show(i:Int)+1=((i+1:Nat):Int) by omega]
   refine ih (i+1) (by omega) fun j x hj hjx=>?_
   by_cases e:j=i
   ·subst e;rw[hx]at hjx;cases hjx;exact hb
   ·exact hp j x (by omega) hjx
  | false=>
   rw[yaa (by simp),zhc (by omega),wA]
   simp only[zA.asStr,wA];rw[key i (by omega) hp (fun x hx'=>by rw[hx]at hx';cases hx';exact hb)]
   first | exact⟨rfl,rfl⟩ | exact⟨rfl,trivial⟩ | exact⟨trivial,trivial⟩
def z1r{s:List Nat}(hs:s.length<4000000000000000000):wC yA F 112 [.str s,.func (.func 113) [] []] t=some (.str (z1s zdu s)):=by
 refine wD.2 (w112 _ _ ?_)
 simp only[t112,qA];exact zpf (fun n=>zye) (fun {a m R}=>by rw[q113]) rfl hs s.length 0 (by omega) (fun j x hj=>by omega)
def z6y{s:List Nat}(hs:s.length<4000000000000000000):wC yA F 112 [.str s,.func (.func 111) [] []] t=some (.str (z1s gQ s)):=by
 refine wD.2 (w112 _ _ ?_)
 simp only[t112,qA];exact zpf (fun n=>rZ) (fun {a m R}=>by rw[q111]) rfl hs s.length 0 (by omega) (fun j x hj=>by omega)
def resW:Nat->List Nat
 | 2=>[32,116,111,32,105,115,32,97,116,32,105,102,32,111,114,32,117,112,32]
 | 3=>[32,100,101,102,32,114,111,119,32,111,110,101,32,116,119,111,32,101,110,100,32,111,102,102,32,104,97,115,32,109,105,110,32,109,97,120,32,97,110,100,32,110,111,116,32]
 | 4=>[32,112,108,97,110,32,102,97,99,116,32,102,114,111,109,32,119,104,101,110,32,116,104,101,110,32,100,97,116,101,32,100,97,121,115,32,116,114,117,101,32,108,111,111,107,32,98,101,115,116,32,103,114,111,119,32,100,111,119,110,32,99,101,105,108,32,104,97,108,102,32,101,118,101,110,32]
 | 5=>[32,116,97,98,108,101,32,107,110,111,119,110,32,116,114,117,116,104,32,109,111,110,101,121,32,102,97,108,115,101,32,109,105,110,117,115,32,116,111,100,97,121,32,114,111,117,110,100,32,115,116,97,114,116,32,102,108,111,111,114,32]
 | 6=>[32,99,108,97,117,115,101,32,110,117,109,98,101,114,32,109,111,110,116,104,115,32]
 | 7=>[32,98,101,116,119,101,101,110,32,115,101,114,118,105,99,101,32]
 | _=>[]
def zcy(s:List Nat):Bool:=decide (2<=s.length)&&decide (s.length<=7)&&zF (z1s gQ s) s&&kT ([32]++s++[32]) (resW s.length)
def nH (n:Nat):zA × zA:=(.int .i64 (n:Int),.str (resW n))
def zof{a b:List Nat}(h:a.length<4294967281):wC yA F 140 [.str a,.str b] t=some (.bool (kT b a)):=by
 have hg:yA.prims.get 140=some (gK jU):=by kernel_rfl
 refine zc3 hg fun H=>?_
 unfold jU;simp only[];rw[fC,tC.2 h];rfl
def zm2{s:List Nat}(hs:s.length<4000000000000000000):wC yA F 114 [.str s] t=some (.bool (zcy s)):=by
 refine gM (w114 _ ?_)
 simp only[t114,qA,cC,mN];unfold zcy;by_cases h1:2<=s.length
 ·rw[yaa (by omega)]
  by_cases h2:s.length<=7
  ·rw[yaa (by omega)]
   simp only[q112,z6y hs,wA,zA.asStr]
   cases h3:zF (z1s gQ s) s with
   | false=>simp
   | true=>
    simp only[Bool.not_true,ybq,if_false];intro b hb hbase;have hmk:fS ⟨b,t⟩=some (.map b,⟨b+1,t.set b (.map [])⟩):=rfl
    rw[hmk,wA];simp only[];have h0:(t.set b (.map [])).get b=some (.map []):=by rw[Tr.get_set,yab rfl]
    have ho:oD b t (t.set b (.map [])):=fun c hc=>by rw[Tr.get_set,yaa hc]
    generalize t.set b (.map [])=t1 at h0 ho
    have hstep:∀(l:List (zA × zA)) (k:Nat) (s':List Nat) (l':List (zA × zA)) (Q:(zA × xA)->Prop) (t1:Tr rA),t1.get b=some (.map l)->oD b t t1->tG (.int .i64 (k:Int)) (.str s') l=some l'->bL yA 213 (.int .i64 (k:Int))=true →
      (∀n t2,t2.get b=some (.map l')->oD b t t2->Q (pD,⟨n,t2⟩))->∀n,t1.get n=none->yA.base<=n->vD (xI yA 213 (.map b) (.int .i64 (k:Int)) (.str s') ⟨n,t1⟩) Q:=by
     intro l k s' l' Q t1 g1 g2 h1 h2 h3 n _ _;rw[zgz h2 hbase g1 h1,wA];exact h3 n _ (by rw[Tr.get_set,yab rfl]) fun c hc=>by rw[Tr.get_set,yaa hc];exact g2 c hc
    refine hstep [] 2 _ [nH 2] _ t1 h0 ho rfl (by kernel_rfl) fun n t2 g o=>?_
    refine hstep _ 3 _ [nH 2,nH 3] _ t2 g o rfl (by kernel_rfl) fun n t2 g o=>?_
    refine hstep _ 4 _ [nH 2,nH 3,nH 4] _ t2 g o rfl (by kernel_rfl) fun n t2 g o=>?_
    refine hstep _ 5 _ [nH 2,nH 3,nH 4,nH 5] _ t2 g o rfl (by kernel_rfl) fun n t2 g o=>?_
    refine hstep _ 6 _ [nH 2,nH 3,nH 4,nH 5,nH 6] _ t2 g o rfl (by kernel_rfl) fun n t2 g o=>?_
    refine hstep _ 7 _ [nH 2,nH 3,nH 4,nH 5,nH 6,nH 7] _ t2 g o rfl (by kernel_rfl) fun n t2 g o=>?_
    have hle:cA t t2:=fun c u hc=>by
     have:c≠b:=fun e=>by rw[e,hb]at hc;cases hc
     rw[o c this];exact hc
    have hl:bG yA 213 ⟨0,t2⟩ (.map b) (.int .i64 (s.length:Int)) false=some (.str (resW s.length)):=by
     have hk:bL yA 213 (.int .i64 (s.length:Int))=true/\dG (.int .i64 (s.length:Int)) [nH 2,nH 3,nH 4,nH 5,nH 6,nH 7]=some (some (.str (resW s.length))):=by
      have:s.length=2\/s.length=3\/s.length=4\/s.length=5\/s.length=6\/s.length=7:=by omega
      rcases this with e | e | e | e | e | e<;>rw[e]<;>exact⟨by kernel_rfl,rfl⟩
     exact zh1 hk.1 g hk.2 ty213 rfl ty9 false
    rw[hl,wA];simp only[zA.asStr,wA];rw[zbx (by simp;omega),wA]
    simp only[zA.asStr,wA];rw[zbx (by simp;omega),wA]
    simp only[zA.asStr,wA];have hr:(resW s.length).length<4294967281:=by
     have:s.length=2\/s.length=3\/s.length=4\/s.length=5\/s.length=6\/s.length=7:=by omega
     rcases this with e | e | e | e | e | e<;>rw[e]<;>decide
    rw[q140,zof hr,wA];simp only[zA.asBool,wA];refine⟨?_,hle⟩
    simp[h1,h2]
  ·rw[yab (by omega)];simp[h2]
 ·rw[yab (by omega)];simp[h1]
def dK(s:List Nat):Bool:=match s with
 | []=>false
 | x::r=>decide ((x::r).length<=24)&&gQ x&&zF (z1s zdu (x::r)) (x::r) && !zcy (x::r)
def iU{s:List Nat}:wC yA F 84 [.str s] t=some (.bool (dK s)):=by
 refine wD.2 (w84 _ ?_)
 simp only[t84,qA,cC,mN]
 cases s with
 | nil=>simp[dK,pL]
 | cons x r=>
  have h0:zF (x::r) []=false:=by
   cases h:zF (x::r) []with
   | true=>rw[pL]at h;cases h
   | false=>rfl
  rw[h0];simp only[ybq,if_false];unfold dK;by_cases h1:(x::r).length<=24
  ·rw[yaa (by omega)]
   have hx:=zkt (s:=x::r) (i:=0) (x:=x) rfl
   rw[show((0:Nat):Int)=0 from rfl]at hx
   rw[hx,wA,tB,wA,q111,rZ,wA];simp only[zA.asBool,wA]
   cases h2:gQ x with
   | false=>simp
   | true=>
    simp only[Bool.not_true,ybq,if_false];rw[q112,z1r (by omega),wA]
    simp only[zA.asStr,wA]
    cases h3:zF (z1s zdu (x::r)) (x::r)with
    | false=>simp
    | true=>
     simp only[if_true,q114,zm2 (s:=x::r) (by omega),wA,zA.asBool]
     simp only[decide_eq_true h1,ycn,Bool.and_self];first | exact⟨rfl,rfl⟩ | exact⟨rfl,trivial⟩ | exact⟨trivial,trivial⟩
  ·rw[yab (by omega)]
   simp only[decide_eq_false h1,Bool.false_and];first | exact⟨rfl,rfl⟩ | exact⟨rfl,trivial⟩ | exact⟨trivial,trivial⟩
end Go.Proofs
namespace Go.Am
open Go Go.RowKit
section
variable {base:Nat}{W J:cG}{t:Tr rA}{Q:xC}
def iA{b:Bool}{x y:T}(h:b=true)(k:qA base W J x t Q):qA base W J (.ite b x y) t Q:=by
 show if b=true then _ else _;rw[yab h];exact k
def mB{b:Bool}{x y:T}(h:b≠true)(k:qA base W J y t Q):qA base W J (.ite b x y) t Q:=by
 show if b=true then _ else _;rw[yaa h];exact k
def uB{x:Option zA}{K:zA->T}{v:zA}(h:x=some v)(k:qA base W J (K v) t Q):qA base W J (.opt x K) t Q:=by
 show vD x _;rw[h];exact k
def aD{x:Tr rA->Option zA}{K:zA->T}{v:zA}(h:x t=some v)(k:qA base W J (K v) t Q):qA base W J (.light x K) t Q:=by
 show vD (x t) _;rw[h];exact k
def sD{f:Nat}{a:List zA}{K:zA->T}(k:W f a t (fun v t'=>qA base W J (K v) t' Q)):qA base W J (.call f a K) t Q:=k
def sC{n:Int}{i:IntKind}{K:Int->T}(k:qA base W J (K n) t Q):qA base W J (.asI i (.int i n) K) t Q:=by
 show vD (z77 i (.int i n)) _;rw[tB];exact k
def nD{b:Bool}{K:Bool->T}(k:qA base W J (K b) t Q):qA base W J (.asB (.bool b) K) t Q:=k
def zjc{s:List Nat}{K:List Nat->T}(k:qA base W J (K s) t Q):qA base W J (.asS (.str s) K) t Q:=k
def fH{zs:List zA}{a:zA}{K:tM->T}{X:tM}(h:rJ zs a=some X)(k:qA base W J (K X) t Q):qA base W J (.asG zs a K) t Q:=by
 show vD (rJ zs a) _;rw[h];exact k
def gH{x:xA->Option (zA × xA)}{K:zA->T}(k:∀b,t.get b=none->base<=b->∃v H,x ⟨b,t⟩=some (v,H)/\qA base W J (K v) H.t Q):qA base W J (.heavy x K) t Q:=by
 intro b h1 h2;obtain⟨v,H,h3,h4⟩:=k b h1 h2
 rw[h3];exact h4
def rE{i:Nat}{a:List zA}(k:J i a t Q):qA base W J (.jump i a) t Q:=k
end
section
variable {t:Tr rA}{C:pA}
end
end Go.Am
namespace Go.Proofs
open Go Go.Am
variable [nC]
variable {t:Tr rA}
def zl8(v:kH):Bool:=decide (v.kind=0)&&decide (v.i=0)&&zep v.f
def za9{a:kH}{u v:zA}(hu:lA t 1 (cD a.f.n.limbs) u)(hv:lA t 1 (cD a.f.d.limbs) v)(hf:a.f.ok):wC yA F 86 [.agg [.int .u8 a.kind,.bool a.f.n.neg,u,.bool a.f.d.neg,v,.int .i64 a.i]] t=some (.bool (zl8 a)):=by
 refine wD.2 (w86 _ _ _ _ _ _ ?_)
 simp only[t86,qA,yH];unfold zl8;by_cases h1:a.kind=0
 ·rw[yab (by omega)]
  by_cases h2:a.i=0
  ·rw[yab h2,q116,zca hu hv hf,wA]
   simp only[zA.asBool,wA,decide_eq_true h1,decide_eq_true h2,ycn];first | exact⟨rfl,rfl⟩ | exact⟨rfl,trivial⟩ | exact⟨trivial,trivial⟩
  ·rw[yaa h2];simp[h2]
 ·rw[yaa (by omega)];simp[h1]
structure FM where
 style:Nat
 word:List Nat
 named:Bool
 least:Nat
 most:Nat
 level:Nat
 left:Nat
 right:Nat
def FM.cs(f:FM):List zA:=[.int .u8 f.style,.str f.word,.bool f.named,.int .i64 f.least,.int .i64 f.most,.int .i64 f.level,.int .i64 f.left,.int .i64 f.right]
def atF (w:List Nat):FM:=⟨3,w,true,1,1,7,7,7⟩
def wM(w:List Nat)(n:Bool)(a b:Nat):FM:=⟨6,w,n,a,b,7,1,1⟩
def zey(w:List Nat)(a b c:Nat):FM:=⟨4,w,false,2,2,a,b,c⟩
def z8g:List FM:=[⟨0,[],false,0,0,0,0,0⟩,⟨1,[],false,0,0,7,0,0⟩,⟨2,[116,111,100,97,121],false,0,0,7,0,0⟩,atF [102,97,99,116,32],atF [104,97,115,32],atF [],wM [108,111,111,107] true 1 2,zey [43] 5 5 6,zey [45] 5 5 6,zey [42] 6 6 7,zey [47] 6 6 7,
 wM [109,105,110] false 2 2,wM [109,97,120] false 2 2,zey [60] 4 5 5,zey [61] 4 5 5,zey [97,110,100] 2 2 3,zey [111,114] 1 1 2,⟨5,[110,111,116,32],false,1,1,3,3,3⟩,wM [105,102] false 3 3,wM [114,111,117,110,100] false 2 2,wM [98,101,116,119,101,101,110] false 2 2,
 wM [115,101,114,118,105,99,101] true 2 2,wM [98,101,115,116] true 3 3,wM [103,114,111,119] true 2 2,wM [109,111,110,116,104,115] false 1 1,wM [110,117,109,98,101,114] false 1 1,wM [115,116,97,114,116] false 1 1]
def iN:List zA:=(z8g.map FM.cs).flatten
abbrev z8:List zA:=[.int .u8 0,.str [],.bool false,.int .i64 0,.int .i64 0,.int .i64 0,.int .i64 0,.int .i64 0]
def cv76{w:List Nat}{n:Bool}{a b:Nat}{K:tM->T}{Q:xC}(h:wp 83 (K (cellsOf (wM w n a b).cs)) t Q):wp 83 (.callv (.func (.func 108) [] []) [.str w,.bool n,.int .i64 (a:Int),.int .i64 (b:Int)] fun a=>.asG z8 a K) t Q:=by
 have e:wC yA F 108 [.str w,.bool n,.int .i64 (a:Int),.int .i64 (b:Int)] t=some (.agg (wM w n a b).cs):=by
  refine wD.2 (w108 _ _ _ _ ?_)
  simp only[t108,qA,if_true];constructor<;>trivial
 show vD (some (108,[zA.str w,.bool n,.int .i64 (a:Int),.int .i64 (b:Int)])) _
 rw[wA];simp only[];rw[q108,e,wA];exact h
def cv77{w:List Nat}{K:tM->T}{Q:xC}(h:wp 83 (K (cellsOf (atF w).cs)) t Q):wp 83 (.callv (.func (.func 109) [] []) [.str w] fun a=>.asG z8 a K) t Q:=by
 have e:wC yA F 109 [.str w] t=some (.agg (atF w).cs):=by
  refine wD.2 (w109 _ ?_)
  simp only[t109,qA,if_true];constructor<;>trivial
 show vD (some (109,[zA.str w])) _
 rw[wA];simp only[];rw[q109,e,wA];exact h
def cv78{w:List Nat}{a b c:Nat}{K:tM->T}{Q:xC}(h:wp 83 (K (cellsOf (zey w a b c).cs)) t Q):wp 83 (.callv (.func (.func 110) [] []) [.str w,.int .i64 (a:Int),.int .i64 (b:Int),.int .i64 (c:Int)] fun a=>.asG z8 a K) t Q:=by
 have e:wC yA F 110 [.str w,.int .i64 (a:Int),.int .i64 (b:Int),.int .i64 (c:Int)] t=some (.agg (zey w a b c).cs):=by
  refine wD.2 (w110 _ _ _ _ ?_)
  simp only[t110,qA,if_true];constructor<;>trivial
 show vD (some (110,[zA.str w,.int .i64 (a:Int),.int .i64 (b:Int),.int .i64 (c:Int)])) _
 rw[wA];simp only[];rw[q110,e,wA];exact h
def znh{Q:xC}(h:∀b t',t.get b=none->yA.base<=b->bE t' b none iN->cA t t'->oD b t t'->Q (.ptr b 0) t'):Wc yA F 83 [] t Q:=by
 refine w83 ?_
 unfold t83;repeat (first | refine cv76 ?_ | refine cv77 ?_ | refine cv78 ?_ | refine iA rfl ?_)
 intro b hb hbase;obtain⟨t',h1,h2,h3,h4⟩:=zhy hb iN none
 have e:∀l:List zA,l=iN->zrn (.agg l) ⟨b,t⟩=some (.ptr b 0,⟨b+1,t'⟩):=by
  intro l hl;show some (zA.ptr b 0,sE ⟨b,t⟩ l none)=_
  rw[hl,h1]
 rw[e _ (by rfl),wA]
 exact h b t' hb hbase h2 h3 h4
def zhz{Q:xC}(h:∀b t',t.get b=none->yA.base<=b->bE t' b none iN->cA t t'->oD b t t'->Q (.agg [.ptr b 0]) t'):Wc yA F 63 [] t Q:=by
 refine w63 ?_
 unfold t63;refine sD ?_
 rw[q83];refine znh fun b t' h1 h2 h3 h4 h5=>?_
 refine iA rfl (iA rfl ?_)
 exact h b t' h1 h2 h3 h4 h5
end Go.Proofs
namespace Go.Proofs
open Go Go.Am
section
variable [nC]
variable {t:Tr rA}
def uF(op:Nat):FM:=z8g.getD op ⟨0,[],false,0,0,0,0,0⟩
def qT{f:FM->List zA}(hf:∀x,(f x).length=8):∀(l:List FM) (i k:Nat),i<l.length->k<8->(l.map f).flatten[i*8+k]?=(f (l.getD i ⟨0,[],false,0,0,0,0,0⟩))[k]?
 | [],i,k,h,_=>by simp at h
 | x::l,0,k,h,hk=>by
  rw[ycm,yas,yco (by rw[hf];omega)]
  simp
 | x::l,i+1,k,h,hk=>by
  rw[ycm,yas,ybp (by rw[hf];omega),hf,show(i+1)*8+k-8=i*8+k by omega]
  rw[qT hf l i k (by simpa using h) hk]
  simp
def vY{op k:Nat}(h:op<27)(hk:k<8):iN[op*8+k]?=(uF op).cs[k]?:=qT (f:=FM.cs) (fun _=>rfl) z8g op k h hk
def idx147{b op:Nat}(h:op<27):jB yA 188 (.ptr b 0) (.int .u8 (op:Int))=some (.ptr b (op*8)):=by
 have hA:ob (yA.tys.get 188) (fun y=>y.desc.asArr)=some (27,159):=by kernel_rfl
 rw[uA]at hA;obtain⟨y,hy,hd⟩:=hA
 unfold jB;rw[hy,tA];have e:(zA.int .u8 (op:Int)).asNat=some op:=rfl
 rw[e,tA];simp only[zA.asSlice,zA.asPtr,tA,hd];rw[ty159,tA,tC.2 h,gD];simp
def zta{b o k:Nat}(hk:k<8):fB yA 159 k (.ptr b o)=some (.ptr b (o+k)):=by
 have h:nV yA 159 k=some k:=by
  unfold nV;rw[ty159,tA];simp only[kD.asStruct,tA];have:k=0\/k=1\/k=2\/k=3\/k=4\/k=5\/k=6\/k=7:=by omega
  rcases this with e | e | e | e | e | e | e | e<;>rw[e]<;>rfl
 unfold fB;rw[h];rfl
section
variable {b op:Nat}(hF:bE t b none iN)(h:op<27)
include hF h
def z2q:oA yA 5 ⟨0,t⟩ (.ptr b (op*8+0))=some (.int .u8 (uF op).style):=hF.load1 ty5 rfl (by rw[vY h (by decide)];rfl)
def z2r:oA yA 4 ⟨0,t⟩ (.ptr b (op*8+2))=some (.bool (uF op).named):=hF.load1 ty4 rfl (by rw[vY h (by decide)];rfl)
def z2s:oA yA 3 ⟨0,t⟩ (.ptr b (op*8+3))=some (.int .i64 (uF op).least):=hF.load1 ty3 rfl (by rw[vY h (by decide)];rfl)
def z7r:oA yA 3 ⟨0,t⟩ (.ptr b (op*8+4))=some (.int .i64 (uF op).most):=hF.load1 ty3 rfl (by rw[vY h (by decide)];rfl)
end
def nEq{a b:Int}(h:a≠b):mA a b≠true:=fun e=>h (yH.1 e)
def nLt{a b:Int}(h:¬ a<b):iB a b≠true:=fun e=>h (cC.1 e)
def nLe{a b:Int}(h:¬ a<=b):pC a b≠true:=fun e=>h (yG.1 e)
def sF{a b:Int}(h:a=b):mA a b=true:=yH.2 h
def yLt{a b:Int}(h:a<b):iB a b=true:=cC.2 h
def yLe{a b:Int}(h:a<=b):pC a b=true:=yG.2 h
def oM{b o:Nat}:aE (.ptr b o)=some (.ptr b o):=rfl
def zyj(op:Nat)(name:List Nat)(n:Nat):Bool:=
 decide (op<27) && !decide ((uF op).style=0)&&decide ((uF op).least<=n)&&decide (n<=(uF op).most)&&(if (uF op).named=true then dK name else zF name [])
def zq6(op:Nat)(v:kH):Bool:=if op=19 then decide (1<=v.i)&&decide (v.i<=6)&&zl8 { v with i:=0 } else zl8 v
mutual
/-- is an expression printable at a depth? -/
def oH:jA->Nat->Bool
 | .mk op name v args,d=>decide (d<=24)&&zyj op name args.length&&(if op=1 then zjs v else zq6 op v&&zlq args (d+1))
def zlq:List jA->Nat->Bool
 | [],_=>true
 | x::l,d=>oH x d&&zlq l d
end
def zlp:∀ {l:List jA} {d:Nat},zlq l d=l.all fun x=>oH x d
 | [],d=>by rw[zlq];rfl
 | x::l,d=>by rw[zlq,zlp];rfl
def z4o(p0_0:zA)(p1_0:Int)(p1_1:List Nat)(p1_2:Int)(p1_3:Bool)(p1_4:zA)(p1_5:Bool)(p1_6:zA)(p1_7:Int)(p1_8:zA)(p2:Int):T:=
 .ite (rB zA.one [(.int .u8 p1_2),(.bool p1_3),p1_4,(.bool p1_5),p1_6,(.int .i64 p1_7)]) (.ite (mA p1_0 1)
 (.call 85 [(.agg [(.int .u8 p1_2),(.bool p1_3),p1_4,(.bool p1_5),p1_6,(.int .i64 p1_7)])] fun a28=>
 .asB a28 fun b29=>.ret (.bool b29))
 (.ite (mA p1_0 19)
 (.ite (iB p1_7 1)
 (.ret (.bool false))
 (.ite (iB 6 p1_7)
 (.ret (.bool false))
 (.ite true (.jump 33 [(.int .i64 p2),p0_0,(.int .u8 p1_0),(.str p1_1),(.int .u8 p1_2),(.bool p1_3),p1_4,(.bool p1_5),p1_6,(.int .i64 p1_7),p1_8,(.int .u8 p1_2),(.bool p1_3),p1_4,(.bool p1_5),p1_6,(.int .i64 0)]) .fail)))
 (.jump 33 [(.int .i64 p2),p0_0,(.int .u8 p1_0),(.str p1_1),(.int .u8 p1_2),(.bool p1_3),p1_4,(.bool p1_5),p1_6,(.int .i64 p1_7),p1_8,(.int .u8 p1_2),(.bool p1_3),p1_4,(.bool p1_5),p1_6,(.int .i64 p1_7)]))) .fail
section
variable {op:Nat}{name:List Nat}{v:kH}{a b c:zA}{bf d:Nat}
def zq5{v2:Int}{v':kH}{R:Bool}{n:Nat}{c3:zA}(ha:lA t 1 (cD v'.f.n.limbs) a)(hb:lA t 1 (cD v'.f.d.limbs) b)(hf:v'.f.ok)(hc:oB c=some (.int .i64 (n:Int)))
  (hargs:jp 64 4 [.int .i64 v2,c,.int .i64 (n:Int),.int .i64 0,c3] t (fun x t'=>x=.bool R/\t'=t)) (p3:Bool) (p5:Bool) (p2 p7:Int) (p4 p6:zA) :
  jp 64 33 [.int .i64 v2,c3,.int .u8 (op:Int),.str name,.int .u8 p2,.bool p3,p4,.bool p5,p6,.int .i64 p7,c,.int .u8 v'.kind,.bool v'.f.n.neg,a,.bool v'.f.d.neg,b,.int .i64 v'.i] t (fun x t'=>x=.bool (zl8 v'&&R)/\t'=t):=by
 refine j64_33 _ _ _ _ _ _ _ _ _ _ _ _ _ _ _ _ _ ?_
 simp only[z4t,qA,q86,za9 ha hb hf,wA,zA.asBool]
 cases hz:zl8 v' with
 | false=>simp
 | true=>
  simp only[Bool.not_true,ybq,if_false,hc,wA,tB,ycn];exact hargs
def z6n{n:Nat}{R:Bool}(ha:lA t 1 (cD v.f.n.limbs) a)(hb:lA t 1 (cD v.f.d.limbs) b)(hf:eE.fit v.f)(hc:oB c=some (.int .i64 (n:Int)))
  (hargs:jp 64 4 [.int .i64 (d:Int),c,.int .i64 (n:Int),.int .i64 0,.ptr bf 0] t (fun x t'=>x=.bool R/\t'=t)) :
  wp 64 (z4o (.ptr bf 0) (op:Int) name (v.kind:Int) v.f.n.neg a v.f.d.neg b v.i c (d:Int)) t (fun x t'=>x=.bool (if op=1 then zjs v else zq6 op v&&R)/\t'=t):=by
 unfold z4o;refine iA ?_ ?_
 ·rw[nF];simp only[ycg,yck,ha.one,hb.one];rfl
 by_cases h1:op=1
 ·refine iA (sF (by omega)) ?_
  simp only[qA,q85,zau ha hb hf,wA,zA.asBool,yab h1];constructor<;>trivial
 ·refine mB (nEq (by omega)) ?_
  simp only[yaa h1];unfold zq6;by_cases h2:op=19
  ·refine iA (sF (by omega)) ?_
   simp only[yab h2];by_cases h3:1<=v.i
   ·refine mB (nLt (by omega)) ?_
    by_cases h4:v.i<=6
    ·refine mB (nLt (by omega)) (iA rfl ?_)
     have:=zq5 (op:=op) (name:=name) (v':={ v with i:=0 }) ha hb hf.1 hc hargs v.f.n.neg v.f.d.neg v.kind v.i a b
     simp only[decide_eq_true h3,decide_eq_true h4,ycn];exact this
    ·refine iA (yLt (by omega)) ?_
     simp[qA,h4]
   ·refine iA (yLt (by omega)) ?_
    simp[qA,h3]
  ·refine mB (nEq (by omega)) ?_
   simp only[yaa h2];exact zq5 (op:=op) (name:=name) (v':=v) ha hb hf.1 hc hargs v.f.n.neg v.f.d.neg v.kind v.i a b
def z27{n:Nat}{R:Bool}(hF:bE t bf none iN)(hop:op<256)(hn:n<jC)(hnl:name.length<jC)(ha:lA t 1 (cD v.f.n.limbs) a)(hb:lA t 1 (cD v.f.d.limbs) b)(hf:eE.fit v.f)(hc:oB c=some (.int .i64 (n:Int)))
  (hargs:d<=24->jp 64 4 [.int .i64 (d:Int),c,.int .i64 (n:Int),.int .i64 0,.ptr bf 0] t (fun x t'=>x=.bool R/\t'=t)) :
  wC yA F 64 [.agg [.ptr bf 0],.agg [.int .u8 op,.str name,.int .u8 v.kind,.bool v.f.n.neg,a,.bool v.f.d.neg,b,.int .i64 v.i,c],.int .i64 (d:Int)] t=some (.bool (decide (d<=24)&&zyj op name n&&(if op=1 then zjs v else zq6 op v&&R))):=by
 refine wD.2 (w64 _ _ _ _ _ _ _ _ _ _ _ ?_)
 unfold t64 zyj;by_cases hd:d<=24
 case neg=>
  refine iA (yLt (by omega)) ?_
  simp[qA,hd]
 refine mB (nLt (by omega)) ?_
 have htail:=z6n (op:=op) (name:=name) (d:=d) (bf:=bf) ha hb hf hc (hargs hd)
 by_cases h27:op<27
 case neg=>
  refine iA (by rw[wrap_i64 (by omega) (by omega)];exact yLe (by omega)) ?_
  simp[qA,h27]
 refine mB (by rw[wrap_i64 (by omega) (by omega)];exact nLe (by omega)) ?_
 refine uB oM (uB (idx147 h27) (uB oM (uB (zta (by decide)) (aD (z2q hF h27) (sC ?_)))))
 by_cases hs:(uF op).style=0
 ·refine iA (sF (by omega)) ?_
  simp[qA,hs]
 refine mB (nEq (by omega)) ?_
 refine uB hc (sC (uB oM (uB (zta (by decide)) (aD (z2s hF h27) (sC ?_)))))
 by_cases hl:(uF op).least<=n
 case neg=>
  refine iA (yLt (by omega)) ?_
  simp[qA,hl]
 refine mB (nLt (by omega)) ?_
 refine uB hc (sC (uB oM (uB (zta (by decide)) (aD (z7r hF h27) (sC ?_)))))
 by_cases hm:n<=(uF op).most
 case neg=>
  refine iA (yLt (by omega)) ?_
  simp[qA,hm]
 refine mB (nLt (by omega)) ?_
 have hld:=z2r hF h27
 refine uB oM (uB (zta (by decide)) (aD hld (nD ?_)))
 simp only[decide_eq_true hd,decide_eq_true h27,decide_eq_false hs,decide_eq_true hl,decide_eq_true hm,ycn,ycl]
 cases hnm:(uF op).named with
 | true=>
  rw[hnm]at hld;simp only[if_true];refine iA rfl (sD ?_)
  rw[q84,iU,wA];refine nD ?_
  cases hN:dK name with
  | false=>
   refine iA rfl ?_
   simp[qA]
  | true=>
   refine mB (by simp) (uB oM (uB (zta (by decide)) (aD hld (nD (mB (by simp) ?_)))))
   simp only[ycn];exact htail
 | false=>
  rw[hnm]at hld;simp only[ybq,if_false];refine mB (by simp) (uB oM (uB (zta (by decide)) (aD hld (nD (iA rfl ?_)))))
  cases hN:zF name []with
  | false=>
   refine iA rfl ?_
   simp[qA]
  | true=>
   refine mB (by simp) ?_
   simp only[ycn];exact htail
end
mutual
def zny{bf:Nat}(hF:bE t bf none iN):∀(x:jA) (d:Nat) (cs:List zA),x.fit->d<1000->RD t x.d cs->wC yA F 64 [.agg [.ptr bf 0],.agg cs,.int .i64 (d:Int)] t=some (.bool (oH x d))
 | .mk op name v args,d,cs,hx,hd,h=>by
  obtain⟨a,b,c,rfl,ha,hb,hc⟩:=wL h
  simp only[jA.op,jA.name,jA.v,jA.args]at ha hb hc ⊢
  have hx':=hx
  unfold jA.fit at hx';unfold oH;refine z27 hF hx'.1 (n:=args.length) hx'.2.2.2.2.1 hx'.2.1 ha hb hx'.2.2.2.1.2.1 (by rw[hc.len,ybf]) fun hd'=>?_
  have:=zrc hF args args d c 0 hc rfl hx'.2.2.2.2.2 hx'.2.2.2.2.1 hd'
  exact this
def zrc{bf:Nat}(hF:bE t bf none iN):∀(l args:List jA) (d:Nat) (c:zA) (i:Nat),lA t 9 (args.map jA.d) c->args.drop i=l->jA.fits l->args.length<jC->d<=24 →
  jp 64 4 [.int .i64 (d:Int),c,.int .i64 (args.length:Int),.int .i64 (i:Int),.ptr bf 0] t (fun x t'=>x=.bool (zlq l (d+1))/\t'=t)
 | [],args,d,c,i,hc,hl,hok,hsz,hd=>by
  have:=zd7 hl
  refine j64_4 _ _ _ _ _ ?_
  unfold z6s;refine mB (nLt (by omega)) ?_
  unfold zlq;simp[qA]
 | x::l,args,d,c,i,hc,hl,hok,hsz,hd=>by
  obtain⟨h1,h2,h3⟩:=rY hl
  unfold jC at hsz;have hok':=hok
  unfold jA.fits at hok';refine j64_4 _ _ _ _ _ ?_
  obtain⟨pb,po,cs,g1,g2,g3,g4,g5⟩:=zE.at sl34 (by simp) hc (i:=i) (d:=x.d) (by simp[h1])
  unfold z6s;refine iA (yLt (by omega)) (uB g1 (aD g2 ?_))
  rw[kL];refine fH (lH g5 x.zs) ?_
  have hmk:=g5.mk x.zs
  have hcs:[zA.int .u8 ((cellsOf cs).i 0),.str ((cellsOf cs).s 1),.int .u8 ((cellsOf cs).i 2),.bool ((cellsOf cs).b 3),(cellsOf cs).v 4,.bool ((cellsOf cs).b 5),(cellsOf cs).v 6,.int .i64 ((cellsOf cs).i 7),(cellsOf cs).v 8]=cs:=hmk
  rw[hcs];refine iA g5.all (sD ?_)
  rw[wrap_i64 (by omega) (by omega),show(d:Int)+1=((d+1:Nat):Int) by omega,q64,zny hF x (d+1) cs hok'.1 (by omega) g5,wA]
  refine nD ?_
  unfold zlq
  cases hE:oH x (d+1)with
  | false=>
   refine iA rfl ?_
   simp[qA]
  | true=>
   refine mB (by simp) (rE ?_)
   rw[wrap_i64 (by omega) (by omega),show(i:Int)+1=((i+1:Nat):Int) by omega]
   have:=zrc hF l args d c (i+1) hc h2 hok'.2 hsz hd
   simp only[ycn];exact this
end
end
section
variable [nC]
variable {t:Tr rA}
def z89 (S el f:Nat)(zs:List zA)(cond:tM->Bool)(v1 v7:zA)(n i:Int):T:=
 .ite (iB i n)
  (.opt (jB yA S v7 (.int .i64 i)) fun a0=>.light (fun m=>oA yA el ⟨0,m⟩ a0) fun a1=>.asG zs a1 fun X=>
   .ite (cond X) (.callv v1 [.agg (vI zs X 0)] fun a3=>.asB a3 fun b4=>.ite (!b4) (.ret (.bool false)) (.jump 2 [v1,v7,.int .i64 n,.int .i64 (sA .i64 (i+1))])) .fail)
  (.ret (.bool true))
def zb9{α:Type}{dd:α->D}{P:α->Bool}{S el sz f:Nat}{zs:List zA}{cond:tM->Bool}{v1 v7:zA}(hS:zE yA S el sz true){l:List α}(hz:∀x∈l,(dd x).zs=zs)(hr:lA t sz (l.map dd) v7)(hlen:l.length<1000000000000000000)
  (hj:∀i t Q,wp f (z89 S el f zs cond v1 v7 l.length i) t Q->jp f 2 [v1,v7,.int .i64 (l.length:Int),.int .i64 i] t Q)
  (hc:∀cs,rB zA.one cs=true->pK zs cs=true->cond (cellsOf cs)=true)
  (hcall:∀x∈l,∀cs,RD t (dd x) cs->∀(R:xC),R (.bool (P x)) t->vD (wN v1 [.agg cs]) fun p=>Wq yA F eH p.1 p.2 t R) :
  ∀(k i:Nat),i+k=l.length->jp f 2 [v1,v7,.int .i64 (l.length:Int),.int .i64 (i:Int)] t (fun x t'=>x=.bool ((l.drop i).all P)/\t'=t):=by
 intro k;induction k with
 | zero=>
  intro i hi;refine hj _ _ _ (mB (nLt (by omega)) ?_)
  rw[ybt (by omega)]
  exact⟨rfl,rfl⟩
 | succ k ih=>
  intro i hi;have hlt:i<l.length:=by omega
  have hm:l[i]∈l:=ycj hlt
  obtain⟨b,off,cs,g1,g2,g3,g4,g5⟩:=zE.at hS (by simp) hr (i:=i) (d:=dd l[i]) (by simp[hlt])
  refine hj _ _ _ (iA (yLt (by omega)) (uB g1 (aD g2 ?_)))
  rw[kL];have hzz:=hz _ hm
  refine fH (lH g5 hzz) (iA (hc cs g5.all (by rw[<- hzz];exact zdz _ _ g5)) ?_)
  rw[g5.mk hzz];refine hcall _ hm cs g5 _ ?_
  refine nD ?_
  have hd:l.drop i=l[i]::l.drop (i+1):=ybl hlt
  rw[hd,ycg]
  cases hP:P l[i]with
  | false=>exact iA rfl ⟨rfl,rfl⟩
  | true=>
   refine mB (by simp) (rE ?_)
   rw[wrap_i64 (by omega) (by omega),show(i:Int)+1=((i+1:Nat):Int) by omega,ycn]
   exact ih (i+1) (by omega)
def z0t (n:Int):Bool:=decide (0<=n)&&decide (n<65536)
def z7u (n:Int):Bool:=decide (-2147483648<=n)&&decide (n<2147483648)
def defP (d:cE):Bool:=dK d.name&&(decide (1<=d.kind)&&decide (d.kind<=6))
def rowP (two:Bool)(r:vH):Bool:=z7u r.a&&(z7u r.b&&((two||decide (r.b=0))&&(z0t r.known&&zjt r.f)))
def zfe(x:fD):Bool:=dK x.name&&x.rows.all (rowP x.two)
def cN(x:jA):Bool:=decide (x.op=0)&&(zF x.name []&&(decide (x.args.length=0)&&zl8 x.v))
def bQ(x:zC):Bool:=
 dK x.name&&(dK x.label&&(z0t x.from_&&(z0t x.known&&((z0t x.to||decide (x.to=65536))&&(if x.off=true then cN x.when_&&cN x.then_ else oH x.when_ 1&&oH x.then_ 1)))))
def zex(p:oC):Bool:=dK p.name&&(p.defs.all defP&&(p.tables.all zfe&&p.clauses.all bQ))
def zox{x:jA}{a b c:zA}(hx:x.fit)(ha:lA t 1 (cD x.v.f.n.limbs) a)(hb:lA t 1 (cD x.v.f.d.limbs) b)(hc:lA t 9 (x.args.map jA.d) c):wC yA F 126 [.agg (iG x a b c)] t=some (.bool (cN x)):=by
 obtain⟨op,name,v,args⟩:=x
 simp only[jA.op,jA.name,jA.v,jA.args,cN,iG]at ha hb hc ⊢
 unfold jA.fit at hx;have hl:oB c=some (.int .i64 (args.length:Int)):=by rw[hc.len,ybf]
 refine wD.2 (w126 _ _ _ _ _ _ _ _ _ ?_)
 unfold t126;by_cases h1:op=0
 case neg=>refine mB (nEq (by omega)) ?_;simp[qA,h1]
 refine iA (sF (by omega)) ?_
 cases h2:zF name []with
 | false=>refine mB (by simp) ?_;simp[qA]
 | true=>
  refine iA rfl (uB hl (sC ?_))
  by_cases h3:args.length=0
  case neg=>refine mB (nEq (by omega)) ?_;simp[qA,h3]
  refine iA (sF (by omega)) (sD ?_)
  rw[q86,za9 ha hb hx.2.2.2.1.2.1.1,wA];refine nD ?_
  simp[qA,h1,h3]
def z4a{l:List cE}{v:zA}(hr:lA t 3 (l.map cE.d) v)(hlen:l.length<jC):wC yA F 91 [v,.func (.func 90) [] []] t=some (.bool (l.all defP)):=by
 unfold jC at hlen;refine wD.2 (w91 _ _ ?_)
 unfold t91;refine uB hr.len (sC (rE ?_))
 rw[ybf];refine zb9 (dd:=cE.d) (P:=defP) (S:=22) (el:=59) (zs:=[.str [],.int .u8 0,.bool false]) (cond:=fun _=>true) sl22 (fun x _=>x.zs) hr (by omega) (fun i t Q h=>j91_2 _ _ _ _ h) (fun _ _ _=>rfl) ?_ l.length 0 (by omega)
 intro x hx cs hcs R hR;have:=zpm hcs
 subst this;show vD (some (90,[zA.agg [.str x.name,.int .u8 x.kind,.bool x.fact]])) _
 rw[wA];have:wC yA F 90 [zA.agg [.str x.name,.int .u8 x.kind,.bool x.fact]] t=some (.bool (defP x)):=by
  refine wD.2 (w90 _ _ _ ?_)
  unfold t90 defP;refine sD ?_
  rw[q84,iU,wA];refine nD ?_
  cases h1:dK x.name with
  | false=>refine mB (by simp) ?_;simp[qA]
  | true=>
   refine iA rfl ?_
   by_cases h2:1<=x.kind
   ·refine iA (yLe (by omega)) ?_
    have:pC (x.kind:Int) 6=decide (x.kind<=6):=by rw[z25];congr 1;exact propext (by omega)
    simp[qA,h2,this]
   ·refine mB (nLe (by omega)) ?_
    simp[qA,h2]
 rw[q90,this,wA];exact hR
def key_ok{n:Int}:wC yA F 123 [.int .i64 n] t=some (.bool (z7u n)):=by
 refine wD.2 (w123 _ ?_)
 unfold t123 z7u;by_cases h : -2147483648<=n
 ·refine iA (yLe h) ?_
  rw[decide_eq_true h,ycn,<- zyg];exact⟨rfl,rfl⟩
 ·refine mB (nLe h) ?_
  rw[decide_eq_false h,Bool.false_and];exact⟨rfl,rfl⟩
def zq1{n:Int}:wC yA F 117 [.int .i64 n] t=some (.bool (z0t n)):=zqg
def row_ok{two:Bool}{r:vH}{u v:zA}{k b:Nat}{s:zA}{nm:List Nat}(hu:lA t 1 (cD r.f.n.limbs) u)(hv:lA t 1 (cD r.f.d.limbs) v)(hf:r.f.fit)(hk:bE t k none [.func (.func 123) [] []])(hb:bE t b none [.str nm,.bool two,s]) :
  wC yA F 124 [.agg [.int .i64 r.a,.int .i64 r.b,.int .i64 r.known,.bool r.f.n.neg,u,.bool r.f.d.neg,v],.ptr k 0,.ptr b 0] t=some (.bool (rowP two r)):=by
 refine wD.2 (w124 _ _ _ _ _ _ _ _ _ ?_)
 have hld:oA yA 191 ⟨0,t⟩ (.ptr k 0)=some (.func (.func 123) [] []):=hk.load1 (j:=0) z6k rfl rfl
 have hl2:oA yA 4 ⟨0,t⟩ (.ptr b 1)=some (.bool two):=hb.load1 (j:=1) ty4 rfl rfl
 have hfa:fB yA 81 1 (.ptr b 0)=some (.ptr b 1):=by kernel_rfl
 have hc:∀(n:Int) (K:zA->T) (Q:xC),wp 124 (K (.bool (z7u n))) t Q->wp 124 (.callv (.func (.func 123) [] []) [.int .i64 n] K) t Q:=by
  intro n K Q h;show vD (some (123,[zA.int .i64 n])) _
  rw[wA];simp only[];rw[q123,key_ok,wA];exact h
 have mD:∀(K2:Bool),(wp 124 (.call 117 [(.int .i64 r.known)] fun a9=>
 .asB a9 fun b10=>.ite b10
 (.call 115 [(.agg [(.bool r.f.n.neg),u,(.bool r.f.d.neg),v])] fun a11=>
 .asB a11 fun b12=>.ret (.bool b12))
 (.ret (.bool false))) t (fun x t'=>x=.bool (z0t r.known&&zjt r.f)/\t'=t)):=by
  intro _;refine sD ?_
  rw[q117,zq1,wA];refine nD ?_
  cases h:z0t r.known with
  | false=>exact mB (by simp) ⟨rfl,rfl⟩
  | true=>
   refine iA rfl (sD ?_)
   rw[q115,fZ hu hv hf,wA];exact nD ⟨rfl,rfl⟩
 unfold t124 rowP;refine aD hld (hc _ _ _ (nD ?_))
 cases h1:z7u r.a with
 | false=>exact mB (by simp) ⟨rfl,rfl⟩
 | true=>
  refine iA rfl (aD hld (hc _ _ _ (nD ?_)))
  cases h2:z7u r.b with
  | false=>exact mB (by simp) ⟨rfl,rfl⟩
  | true=>
   refine iA rfl (uB hfa (aD hl2 (nD ?_)))
   cases two with
   | true=>
    refine iA rfl ?_
    simp only[Bool.true_or,ycn];exact mD true
   | false=>
    refine mB (by simp) ?_
    by_cases h3:r.b=0
    ·refine iA (sF h3) ?_
     simp only[decide_eq_true h3,Bool.or_true,ycn];exact mD true
    ·refine mB (nEq h3) ?_
     simp only[decide_eq_false h3,Bool.or_false,Bool.false_and,yay];exact⟨rfl,rfl⟩
def z05{x:fD}{a:zA}(hr:lA t 7 (x.rows.map vH.d) a)(hx:x.fit):wC yA F 93 [.agg [.str x.name,.bool x.two,a]] t=some (.bool (zfe x)):=by
 have hlen:=hx.2.1
 unfold jC at hlen;refine gM (w93 _ _ _ ?_)
 unfold t93;refine gH fun b hb hbase=>?_
 obtain⟨t1,e1,c1,l1,o1⟩:=zhy hb [.str x.name,.bool x.two,a] none
 refine⟨.ptr b 0,⟨b+1,t1⟩,by rw[<- e1];rfl,?_⟩
 refine gH fun k hk kbase=>?_
 obtain⟨t2,e2,c2,l2,o2⟩:=aT (C:=yA) z6k hk
 refine⟨_,_,e2,?_⟩
 refine gH fun n _ _=>?_
 obtain⟨t3,e3,c3,o3⟩:=c2.store1 (v:=.func (.func 123) [] []) kbase z6k rfl rfl rfl (j:=0) (by simp)
 refine⟨_,_,e3 n,?_⟩
 have hbk:b≠k:=by intro e;obtain⟨c,h,_⟩:=c1;rw[e,hk]at h;cases h
 have cb:bE t3 b none [.str x.name,.bool x.two,a]:=c1.off (by rw[o3 b hbk,o2 b hbk])
 have hle:cA t t3:=fun c u hc=>by
  have h1:=l1 _ _ hc
  have h2:c≠k:=fun e=>by rw[e,hk]at h1;cases h1
  rw[o3 c h2];exact l2 _ _ h1
 have hfa0:fB yA 81 0 (.ptr b 0)=some (.ptr b 0):=by kernel_rfl
 have hfa2:fB yA 81 2 (.ptr b 0)=some (.ptr b 2):=by kernel_rfl
 refine uB hfa0 (aD (cb.load1 (j:=0) ty9 rfl rfl) (zjc (sD ?_)))
 rw[q84,iU,wA];refine nD ?_
 unfold zfe
 cases h1:dK x.name with
 | false=>exact mB (by simp) ⟨rfl,hle⟩
 | true=>
  refine iA rfl (uB hfa2 (aD (cb.load1 (j:=2) ty79 rfl rfl) (sD ?_)))
  have hall:wC yA F 125 [a,.func (.func 124) [] [.ptr k 0,.ptr b 0]] t3=some (.bool (x.rows.all (rowP x.two))):=by
   refine wD.2 (w125 _ _ ?_)
   unfold t125;refine uB (hr.mono hle).len (sC (rE ?_))
   rw[ybf];refine zb9 (dd:=vH.d) (P:=rowP x.two) (S:=79) (el:=84) (zs:=[.int .i64 0,.int .i64 0,.int .i64 0,.bool false,.nilslice,.bool false,.nilslice]) (cond:=fun X=>rB zA.one [(.int .i64 (X.i 0)),(.int .i64 (X.i 1)),(.int .i64 (X.i 2)),(.bool (X.b 3)),(X.v 4),(.bool (X.b 5)),(X.v 6)]) sl79 (fun x _=>x.zs) (hr.mono hle) (by omega) (fun i t Q h=>j125_2 _ _ _ _ h) ?_ ?_ x.rows.length 0 (by omega)
   ·intro cs h1 h2
    have h3:vI [.int .i64 0,.int .i64 0,.int .i64 0,.bool false,.nilslice,.bool false,.nilslice] (cellsOf cs) 0=cs:=by simpa using lW _ cs [] h2
    have e:[zA.int .i64 ((cellsOf cs).i 0),.int .i64 ((cellsOf cs).i 1),.int .i64 ((cellsOf cs).i 2),.bool ((cellsOf cs).b 3),(cellsOf cs).v 4,.bool ((cellsOf cs).b 5),(cellsOf cs).v 6]=cs:=h3
    show rB zA.one [_,_,_,_,_,_,_]=true
    rw[e];exact h1
   ·intro r hr' cs hcs R hR
    obtain⟨u,v,rfl,hu,hv⟩:=zv9 hcs
    show vD (some (124,[zA.agg [.int .i64 r.a,.int .i64 r.b,.int .i64 r.known,.bool r.f.n.neg,u,.bool r.f.d.neg,v],.ptr k 0,.ptr b 0])) _
    rw[wA];simp only[];rw[q124,row_ok hu hv (hx.2.2 r hr').2.2.2 c3 cb,wA]
    exact hR
  rw[q125,hall,wA];exact nD ⟨rfl,hle⟩
def ztw{l:List fD}{v:zA}(hr:lA t 3 (l.map fD.d) v)(hlen:l.length<jC)(hx:∀x∈l,x.fit):wC yA F 92 [v,.func (.func 93) [] []] t=some (.bool (l.all zfe)):=by
 unfold jC at hlen;refine wD.2 (w92 _ _ ?_)
 unfold t92;refine uB hr.len (sC (rE ?_))
 rw[ybf];refine zb9 (dd:=fD.d) (P:=zfe) (S:=23) (el:=81) (zs:=[.str [],.bool false,.nilslice]) (cond:=fun X=>rB zA.one [(.str (X.s 0)),(.bool (X.b 1)),(X.v 2)]) sl23 (fun x _=>x.zs) hr (by omega) (fun i t Q h=>j92_2 _ _ _ _ h) ?_ ?_ l.length 0 (by omega)
 ·intro cs h1 h2
  have h3:vI [.str [],.bool false,.nilslice] (cellsOf cs) 0=cs:=by simpa using lW _ cs [] h2
  have e:[zA.str ((cellsOf cs).s 0),.bool ((cellsOf cs).b 1),(cellsOf cs).v 2]=cs:=h3
  show rB zA.one [_,_,_]=true
  rw[e];exact h1
 ·intro x hm cs hcs R hR
  obtain⟨a,rfl,ha⟩:=mU hcs
  show vD (some (93,[zA.agg [.str x.name,.bool x.two,a]])) _
  rw[wA];simp only[];rw[q93,z05 ha (hx x hm),wA]
  exact hR
def zzq{bf:Nat}(hF:bE t bf none iN){x:zC}{cs:List zA}(hx:x.fit)(hr:RD t x.d cs):wC yA F 95 [.agg [.ptr bf 0],.agg cs] t=some (.bool (bQ x)):=by
 obtain⟨a,b,c,a',b',c',rfl,hw,ht⟩:=zW hr
 have hxw:=hx.2.2.2.2.2.1
 have hxt:=hx.2.2.2.2.2.2
 obtain⟨a1,b1,c1,e1,ha,hb,hc⟩:=wL hw
 obtain⟨a2,b2,c2,e2,ha',hb',hc'⟩:=wL ht
 simp only[iG,List.cons.injEq,true_and,and_true]at e1 e2;obtain⟨rfl,rfl,rfl⟩:=e1
 obtain⟨rfl,rfl,rfl⟩:=e2
 have mD:∀(cw ct:List zA),cw=iG x.when_ a b c->ct=iG x.then_ a' b' c'->wp 95 (.ite x.off
 (.call 126 [(.agg cw)] fun a10=>
 .asB a10 fun b11=>.ite b11
 (.call 126 [(.agg ct)] fun xF=>
 .asB xF fun b13=>.ret (.bool b13))
 (.ret (.bool false)))
 (.call 64 [(.agg [.ptr bf 0]),(.agg cw),(.int .i64 1)] fun a14=>
 .asB a14 fun b15=>.ite b15
 (.call 64 [(.agg [.ptr bf 0]),(.agg ct),(.int .i64 1)] fun a16=>
 .asB a16 fun b17=>.ret (.bool b17))
 (.ret (.bool false)))) t (fun v t'=>v=.bool (if x.off=true then cN x.when_&&cN x.then_ else oH x.when_ 1&&oH x.then_ 1)/\t'=t):=by
  intro cw ct ew et;subst ew;subst et
  cases hoff:x.off with
  | true=>
   refine iA rfl (sD ?_)
   rw[q126,zox hxw ha hb hc,wA];refine nD ?_
   rw[yab rfl]
   cases h:cN x.when_ with
   | false=>exact mB (by simp) ⟨rfl,rfl⟩
   | true=>
    refine iA rfl (sD ?_)
    rw[q126,zox hxt ha' hb' hc',wA];exact nD ⟨rfl,rfl⟩
  | false=>
   refine mB (by simp) (sD ?_)
   have e1:=zny hF x.when_ 1 _ hxw (by omega) hw
   have e2:=zny hF x.then_ 1 _ hxt (by omega) ht
   rw[show((1:Nat):Int)=1 from rfl]at e1 e2
   rw[q64,e1,wA];refine nD ?_
   rw[yaa (by simp)]
   cases h:oH x.when_ 1 with
   | false=>exact mB (by simp) ⟨rfl,rfl⟩
   | true=>
    refine iA rfl (sD ?_)
    rw[q64,e2,wA];exact nD ⟨rfl,rfl⟩
 refine wD.2 ?_
 unfold iG;refine w95 _ _ _ _ _ _ _ _ _ _ _ _ _ _ _ _ _ _ _ _ _ _ _ _ _ ?_
 unfold t95 bQ;refine sD ?_
 rw[q84,iU,wA];refine nD ?_
 cases h1:dK x.name with
 | false=>exact iA rfl ⟨rfl,rfl⟩
 | true=>
  refine mB (by simp) (sD ?_)
  rw[q84,iU,wA];refine nD ?_
  cases h2:dK x.label with
  | false=>exact iA rfl ⟨rfl,rfl⟩
  | true=>
   refine mB (by simp) (sD ?_)
   rw[q117,zq1,wA];refine nD ?_
   cases h3:z0t x.from_ with
   | false=>exact iA rfl ⟨rfl,rfl⟩
   | true=>
    refine mB (by simp) (sD ?_)
    rw[q117,zq1,wA];refine nD ?_
    cases h4:z0t x.known with
    | false=>exact iA rfl ⟨rfl,rfl⟩
    | true=>
     refine mB (by simp) (sD ?_)
     rw[q117,zq1,wA];refine nD ?_
     simp only[ycn]
     cases h5:z0t x.to with
     | false=>
      refine iA rfl ?_
      by_cases h6:x.to=65536
      ·refine mB (by rw[sF h6];simp) ?_
       simp only[decide_eq_true h6,Bool.or_true,ycn];exact mD _ _ rfl rfl
      ·have:mA x.to 65536=false:=by
        cases hq:mA x.to 65536 with
        | true=>exact absurd hq (nEq h6)
        | false=>rfl
       refine iA (by rw[this];rfl) ?_
       simp only[decide_eq_false h6,Bool.or_false,Bool.false_and];exact⟨rfl,rfl⟩
     | true=>
      refine mB (by simp) ?_
      simp only[Bool.true_or,ycn];exact mD _ _ rfl rfl
def zoq{bf:Nat}(hF:bE t bf none iN){l:List zC}{v:zA}(hr:lA t 24 (l.map zC.d) v)(hlen:l.length<jC)(hx:∀x∈l,x.fit):wC yA F 94 [v,.func (.func 95) [.agg [.ptr bf 0]] []] t=some (.bool (l.all bQ)):=by
 unfold jC at hlen;refine wD.2 (w94 _ _ ?_)
 unfold t94;refine uB hr.len (sC (rE ?_))
 rw[ybf];refine zb9 (dd:=zC.d) (P:=bQ) (S:=24) (el:=56) (zs:=[(.str []),(.str []),(.int .i64 0),(.int .i64 0),(.int .i64 0),(.bool false),(.int .u8 0),(.str []),(.int .u8 0),(.bool false),.nilslice,(.bool false),.nilslice,(.int .i64 0),.nilslice,(.int .u8 0),(.str []),(.int .u8 0),(.bool false),.nilslice,(.bool false),.nilslice,(.int .i64 0),.nilslice])
  (cond:=fun X2=>rB zA.one [(.str (X2.s 0)),(.str (X2.s 1)),(.int .i64 (X2.i 2)),(.int .i64 (X2.i 3)),(.int .i64 (X2.i 4)),(.bool (X2.b 5)),(.int .u8 (X2.i 6)),(.str (X2.s 7)),(.int .u8 (X2.i 8)),(.bool (X2.b 9)),(X2.v 10),(.bool (X2.b 11)),(X2.v 12),(.int .i64 (X2.i 13)),(X2.v 14),(.int .u8 (X2.i 15)),(.str (X2.s 16)),(.int .u8 (X2.i 17)),(.bool (X2.b 18)),(X2.v 19),(.bool (X2.b 20)),(X2.v 21),(.int .i64 (X2.i 22)),(X2.v 23)]) z1m (fun x _=>x.zs) hr (by omega) (fun i t Q h=>j94_2 _ _ _ _ h) ?_ ?_ l.length 0 (by omega)
 ·intro cs h1 h2
  have h3:=lW _ cs [] h2
  rw[yah,ybx]at h3;show rB zA.one (vI [(.str []),(.str []),(.int .i64 0),(.int .i64 0),(.int .i64 0),(.bool false),(.int .u8 0),(.str []),(.int .u8 0),(.bool false),.nilslice,(.bool false),.nilslice,(.int .i64 0),.nilslice,(.int .u8 0),(.str []),(.int .u8 0),(.bool false),.nilslice,(.bool false),.nilslice,(.int .i64 0),.nilslice] (cellsOf cs) 0)=true
  rw[h3];exact h1
 ·intro x hm cs hcs R hR
  show vD (some (95,[.agg [.ptr bf 0],zA.agg cs])) _
  rw[wA];simp only[];rw[q95,zzq hF (hx x hm) hcs,wA]
  exact hR
def z64{bf:Nat}(hF:bE t bf none iN){p:oC}{cs:List zA}(hp:p.fit)(hr:RD t p.d cs):wC yA F 68 [.agg [.ptr bf 0],.agg cs] t=some (.bool (zex p)):=by
 obtain⟨a,b,c,rfl,ha,hb,hc⟩:=jM hr
 refine wD.2 (w68 _ _ _ _ _ ?_)
 unfold t68 zex;refine sD ?_
 rw[q84,iU,wA];refine nD ?_
 cases h1:dK p.name with
 | false=>exact mB (by simp) ⟨rfl,rfl⟩
 | true=>
  refine iA rfl (sD ?_)
  rw[q91,z4a ha hp.ndefs,wA];refine nD ?_
  cases h2:p.defs.all defP with
  | false=>exact mB (by simp) ⟨rfl,rfl⟩
  | true=>
   refine iA rfl (sD ?_)
   rw[q92,ztw hb hp.ntables hp.tables,wA];refine nD ?_
   cases h3:p.tables.all zfe with
   | false=>exact mB (by simp) ⟨rfl,rfl⟩
   | true=>
    refine iA rfl (sD ?_)
    rw[q94,zoq hF hc hp.nclauses hp.clauses,wA];exact nD ⟨rfl,rfl⟩
def zbe{p:oC}{cs:List zA}(hp:p.fit)(hr:RD t p.d cs):wC yA F 46 [.agg cs] t=some (.bool (zex p)):=by
 have hr':=hr
 obtain⟨a,b,c,rfl,ha,hb,hc⟩:=jM hr
 refine gM (w46 _ _ _ _ ?_)
 unfold t46;refine sD ?_
 rw[q63];refine zhz fun bf t' h1 h2 h3 h4 h5=>?_
 refine fH (mL rfl) (iA ?_ (sD ?_))
 ·exact hr'.sameA
 ·have e:(cellsOf [zA.ptr bf 0]).v 0=.ptr bf 0:=rfl
  rw[q68,e,z64 h3 hp (hr'.mono h4),wA]
  exact nD ⟨rfl,h4⟩
end
section
variable [nC]
variable {t:Tr rA}
abbrev z10:List zA:=[.int .u8 0,.int .u8 0,.int .u8 0,.int .u8 0,.int .u8 0,.int .u8 0,.int .u8 0,.int .u8 0,.int .u8 0,.int .u8 0]
end
section
variable [nC]
variable {t tf:Tr rA}
def zw3:List (List Nat):=[[],[100,111,119,110],[117,112],[102,108,111,111,114],[99,101,105,108],[104,97,108,102],[101,118,101,110]]
def zl3(t:Tr rA):Prop:=At t 0 0 (zw3.map zA.str)
def zl3.mono{t':Tr rA}(h:zl3 t)(k:cA t t'):zl3 t':=At.mono k h
def zs1{op:Nat}(h:op<27):((uF op).style=1->op=1)/\((uF op).style=2->(uF op).word≠[])/\((uF op).style=3->1<=(uF op).least)/\((uF op).style=4->2<=(uF op).least)/\((uF op).style=5->1<=(uF op).least/\(uF op).word≠[])/\(uF op).style<=6/\(uF op).most<=3/\(op=1->(uF op).style=1):=by
 have:∀k,k<27->((uF k).style=1->k=1)/\((uF k).style=2->(uF k).word≠[])/\((uF k).style=3->1<=(uF k).least)/\((uF k).style=4->2<=(uF k).least)/\((uF k).style=5->1<=(uF k).least/\(uF k).word≠[])/\(uF k).style<=6/\(uF k).most<=3/\(k=1->(uF k).style=1):=by decide +kernel
 exact this op h
section
variable {bf bx:Nat}{s:List Nat}{Q:xC}
end
end
section
variable [nC]
variable {t tf:Tr rA}
def z8s (l:List cE)(s:List Nat):Option cE:=l.find? fun d=>zF d.name s
def z0p (l:List fD)(s:List Nat):Option fD:=l.find? fun d=>zF d.name s
def defV:Option cE->zA
 | some d=>.tup [.agg [.str d.name,.int .u8 d.kind,.bool d.fact],.bool true]
 | none=>.tup [.agg [.str [],.int .u8 0,.bool false],.bool false]
def aI{α:Type}{l:List α}{i:Nat}(h:i<l.length):l.drop i=l[i]::l.drop (i+1):=ybl h
def z3w{l:List cE}{s:List Nat}{v:zA}(hr:lA t 3 (l.map cE.d) v)(hlen:l.length<jC):∀(k i:Nat),i+k=l.length->jp 19 2 [.str s,v,.int .i64 (l.length:Int),.int .i64 (i:Int),.str [],.int .u8 0,.bool false] t (fun x t'=>x=defV (z8s (l.drop i) s)/\t'=t):=by
 unfold jC at hlen;intro k;induction k with
 | zero=>
  intro i hi;refine j19_2 _ _ _ _ _ _ _ (mB (nLt (by omega)) (iA rfl (iA rfl ?_)))
  rw[ybt (by omega)]
  exact⟨rfl,rfl⟩
 | succ k ih=>
  intro i hi;have hlt:i<l.length:=by omega
  obtain⟨b,off,cs,g1,g2,_,_,g5⟩:=zE.at sl22 (by simp) hr (i:=i) (d:=l[i].d) (by simp[hlt])
  refine j19_2 _ _ _ _ _ _ _ (iA (yLt (by omega)) (uB g1 (aD g2 ?_)))
  rw[kL];have hcs:=zpm g5
  subst hcs;refine fH (lH g5 (cE.zs _)) (iA rfl ?_)
  rw[aI hlt];unfold z8s;rw[List.find?_cons]
  cases he:zF l[i].name s with
  | true=>exact iA he (iA rfl ⟨rfl,rfl⟩)
  | false=>
   refine mB (by show ¬ (zF l[i].name s=true);rw[he];simp) (rE ?_)
   rw[wrap_i64 (by omega) (by omega),show(i:Int)+1=((i+1:Nat):Int) by omega]
   exact ih (i+1) (by omega)
def z50{p:oC}{cs:List zA}{s:List Nat}(hp:p.fit)(hr:RD t p.d cs):wC yA F 19 [.agg cs,.str s] t=some (defV (z8s p.defs s)):=by
 obtain⟨a,b,c,rfl,ha,hb,hc⟩:=jM hr
 refine wD.2 (w19 _ _ _ _ _ (uB ha.len (sC (rE ?_))))
 rw[ybf];have:=z3w (s:=s) ha hp.ndefs p.defs.length 0 (by omega)
 rw[ycr]at this;exact this
def TabV (t:Tr rA)(o:Option fD)(v:zA):Prop:=
 match o with
 | some x=>∃a,v=.tup [.agg [.str x.name,.bool x.two,a],.bool true]/\lA t 7 (x.rows.map vH.d) a
 | none=>v=.tup [.agg [.str [],.bool false,.nilslice],.bool false]
def z06{l:List fD}{s:List Nat}{v:zA}(hr:lA t 3 (l.map fD.d) v)(hlen:l.length<jC):∀(k i:Nat),i+k=l.length->∃r,TabV t (z0p (l.drop i) s) r/\jp 54 2 [.str s,v,.int .i64 (l.length:Int),.int .i64 (i:Int),.str [],.bool false,.nilslice] t (fun x t'=>x=r/\t'=t):=by
 unfold jC at hlen;intro k;induction k with
 | zero=>
  intro i hi;rw[ybt (by omega)]
  exact⟨_,rfl,z7v _ _ _ _ _ _ _ (mB (nLt (by omega)) (iA rfl (iA rfl ⟨rfl,rfl⟩)))⟩
 | succ k ih=>
  intro i hi;have hlt:i<l.length:=by omega
  obtain⟨b,off,cs,g1,g2,_,_,g5⟩:=zE.at sl23 (by simp) hr (i:=i) (d:=l[i].d) (by simp[hlt])
  have g50:=g5
  obtain⟨a,rfl,ha⟩:=mU g5
  rw[aI hlt];have hone:rB zA.one [.str l[i].name,.bool l[i].two,a]=true:=g50.all
  unfold z0p;rw[List.find?_cons]
  cases he:zF l[i].name s with
  | true=>
   refine⟨_,⟨a,rfl,ha⟩,z7v _ _ _ _ _ _ _ (iA (yLt (by omega)) (uB g1 (aD g2 ?_)))⟩
   rw[kL];exact fH (lH g50 (fD.zs _)) (iA hone (iA he (iA hone ⟨rfl,rfl⟩)))
  | false=>
   obtain⟨r,h1,h2⟩:=ih (i+1) (by omega)
   refine⟨r,h1,z7v _ _ _ _ _ _ _ (iA (yLt (by omega)) (uB g1 (aD g2 ?_)))⟩
   rw[kL];refine fH (lH g50 (fD.zs _)) (iA hone (mB (by show ¬ (zF l[i].name s=true);rw[he];simp) (rE ?_)))
   rw[wrap_i64 (by omega) (by omega),show(i:Int)+1=((i+1:Nat):Int) by omega]
   exact h2
def tab_ok{p:oC}{cs:List zA}(hp:p.fit)(hr:RD t p.d cs)(s:List Nat):∃r,TabV t (z0p p.tables s) r/\wC yA F 54 [.agg cs,.str s] t=some r:=by
 obtain⟨a,b,c,rfl,ha,hb,hc⟩:=jM hr
 obtain⟨r,h1,h2⟩:=z06 (s:=s) hb hp.ntables p.tables.length 0 (by omega)
 rw[ycr]at h1;refine⟨r,h1,wD.2 (w54 _ _ _ _ _ (uB hb.len (sC (rE ?_))))⟩
 rw[ybf];exact h2
def fM(p:oC)(op:Nat)(name:List Nat)(n:Nat):Nat × Bool:=
 if op=3\/op=4\/op=21\/op=22\/op=5 then
  match z8s p.defs name with
  | some d=>(d.kind,bEq d.fact (!decide (op=5))&&(decide (1<=d.kind)&&decide (d.kind<=6)))
  | none=>(0,false)
 else if op=6 then
  match z0p p.tables name with
  | some x=>(0,bEq x.two (decide (n=2)))
  | none=>(0,false)
 else if op=23 then
  match z0p p.tables name with
  | some x=>(0,!x.two)
  | none=>(0,false)
 else(0,true)
def nmV (r:Nat × Bool):zA:=.tup [.int .u8 (r.1:Nat),.bool r.2]
def D66 (p0:zA)(p1_0:Int)(p1_1:List Nat):T:=
 (.opt (aE p0) fun a0=>.opt (fB yA 104 0 a0) fun a1=>.light (fun m=>oA yA 26 ⟨0,m⟩ a1) fun a2=>.asG [(.str []),.nilslice,.nilslice,.nilslice] a2 fun X3=>
 .heavy (aG yA 59) fun a4=>
 .call 19 [(.agg [(.str (X3.s 0)),(X3.v 1),(X3.v 2),(X3.v 3)]),(.str p1_1)] fun a5=>
 .opt (sB 0 a5) fun a6=>.asG [(.str []),(.int .u8 0),(.bool false)] a6 fun X7=>
 .opt (sB 1 a5) fun a8=>.asB a8 fun b9=>.heavy (qD yA 59 a4 (.agg [(.str (X7.s 0)),(.int .u8 (X7.i 1)),(.bool (X7.b 2))])) fun _=>
 .ite b9
 (.opt (fB yA 59 2 a4) fun a10=>.light (fun m=>oA yA 4 ⟨0,m⟩ a10) fun a11=>.asB a11 fun b12=>.opt (fB yA 59 1 a4) fun a13=>.light (fun m=>oA yA 5 ⟨0,m⟩ a13) fun a14=>.asI .u8 a14 fun n15=>.ite (bEq b12 (!mA p1_0 5))
 (.opt (fB yA 59 1 a4) fun a16=>.light (fun m=>oA yA 5 ⟨0,m⟩ a16) fun a17=>.asI .u8 a17 fun n18=>.ite (pC 1 n18)
 (.opt (fB yA 59 1 a4) fun a19=>.light (fun m=>oA yA 5 ⟨0,m⟩ a19) fun a20=>.asI .u8 a20 fun n21=>.ret (.tup [(.int .u8 n15),(.bool (pC n21 6))]))
 (.ret (.tup [(.int .u8 n15),(.bool false)])))
 (.ret (.tup [(.int .u8 n15),(.bool false)])))
 (.opt (fB yA 59 1 a4) fun a22=>.light (fun m=>oA yA 5 ⟨0,m⟩ a22) fun a23=>.asI .u8 a23 fun n24=>.ret (.tup [(.int .u8 n24),(.bool false)])))
def T66 (p0:zA)(p1_1:List Nat)(K:zA->zA->T):T:=
 (.opt (aE p0) fun a25=>.opt (fB yA 104 0 a25) fun a26=>.light (fun m=>oA yA 26 ⟨0,m⟩ a26) fun a27=>.asG [(.str []),.nilslice,.nilslice,.nilslice] a27 fun X28=>
 .heavy (aG yA 81) fun a29=>
 .call 54 [(.agg [(.str (X28.s 0)),(X28.v 1),(X28.v 2),(X28.v 3)]),(.str p1_1)] fun a30=>
 .opt (sB 0 a30) fun a31=>.asG [(.str []),(.bool false),.nilslice] a31 fun X32=>
 .opt (sB 1 a30) fun a33=>.asB a33 fun b34=>.heavy (qD yA 81 a29 (.agg [(.str (X32.s 0)),(.bool (X32.b 1)),(X32.v 2)])) fun _=>
 .ite b34
 (.opt (fB yA 81 1 a29) fun a35=>.light (fun m=>oA yA 4 ⟨0,m⟩ a35) fun a36=>K a36 a29)
 (.ret (.tup [(.int .u8 0),(.bool false)])))
def yL(t:Tr rA)(b m:Nat)(p:oC):Prop:=∃cs,RD t p.d cs/\bE t b none (cs++[.map m])
def znx{b:Nat}:fB yA 104 0 (.ptr b 0)=some (.ptr b 0):=by kernel_rfl
def znw{b:Nat}:fB yA 104 1 (.ptr b 0)=some (.ptr b 4):=by kernel_rfl
def yL.plan{b m:Nat}{p:oC}(h:yL t b m p):∃cs,RD t p.d cs/\cs.length=4/\oA yA 26 ⟨0,t⟩ (.ptr b 0)=some (.agg cs)/\bE t b none (cs++[.map m]):=by
 obtain⟨cs,h1,h2⟩:=h
 have hlen:cs.length=4:=by obtain⟨a,b,c,rfl,_⟩:=jM h1;rfl
 refine⟨cs,h1,hlen,?_,h2⟩
 have:=h2.at.load (C:=yA) (ty:=26) ty26 rfl (n:=4) rfl (j:=0) (by simp[hlen])
 rw[ybw]at this;rw[this];congr 2
 rw[ycr,List.take_left' hlen]
def uV{b T n:Nat}{l m:List zA}{y:rC}(h:bE t b none l)(hb:yA.base<=b)(hT:yA.tys.get T=some y)(hy:y.size=n)(hl:l.length=n)(hm:m.length=n)(hone:rB zA.one m=true):∃t',(∀k,qD yA T (.ptr b 0) (.agg m) ⟨k,t⟩=some (pD,⟨k,t'⟩))/\bE t' b none m/\oD b t t':=by
 obtain⟨t',h1,h2,h3⟩:=h.store (C:=yA) hb (T:=T) (v:=.agg m) (j:=0) hT (by show m.length=_;rw[hm,hy]) (by show 0+m.length<=_;omega) hone
 refine⟨t',h1,?_,h3⟩
 have e:zhr l 0 (zA.agg m).cells=m:=by
  show zhr l 0 m=m
  unfold zhr;rw[List.take_zero,yah,ybt (by omega),ycd]
 rw[e]at h2;exact h2
def zho{p:oC}{cs:List zA}(h:RD t p.d cs):rJ [.str [],.nilslice,.nilslice,.nilslice] (.agg cs)=some (cellsOf cs)/\[zA.str ((cellsOf cs).s 0),(cellsOf cs).v 1,(cellsOf cs).v 2,(cellsOf cs).v 3]=cs:=⟨lH h (oC.zs _),h.mk (oC.zs p)⟩
section
variable {b m:Nat}{p:oC}{op:Nat}{name:List Nat}{n:Nat}
def D_ok(hC:yL t b m p)(hp:p.fit)(hop:op=3\/op=4\/op=21\/op=22\/op=5):wp 66 (D66 (.ptr b 0) (op:Int) name) t (fun v t'=>v=nmV (fM p op name n)/\cA t t'):=by
 obtain⟨cs,h1,h2,h3,h4⟩:=hC.plan
 obtain⟨e1,e2⟩:=zho h1
 unfold D66 fM;rw[yab hop];refine uB oM (uB znx (aD h3 (fH e1 (gH fun bd hbd hbase=>?_))))
 obtain⟨t1,g1,g2,g3,g4⟩:=aT (C:=yA) z00 hbd
 refine⟨_,_,g1,sD ?_⟩
 rw[e2,q19,z50 hp (h1.mono g3),wA]
 have f1:fB yA 59 1 (.ptr bd 0)=some (.ptr bd 1):=by kernel_rfl
 have f2:fB yA 59 2 (.ptr bd 0)=some (.ptr bd 2):=by kernel_rfl
 have hb5:(!mA (op:Int) 5) = !decide (op=5):=by
  rw[ze2];congr 2;exact propext (by omega)
 cases hd:z8s p.defs name with
 | none=>
  refine uB rfl (fH (mL rfl) (uB rfl (nD (gH fun k _ _=>?_))))
  obtain⟨t2,k1,k2,k3⟩:=uV g2 hbase z00 rfl rfl (m:=[.str [],.int .u8 0,.bool false]) rfl rfl
  refine⟨_,_,k1 k,mB (by simp) (uB f1 (aD (k2.load1 (j:=1) ty5 rfl rfl) (sC ⟨rfl,fun c u hc=>?_⟩)))⟩
  have:c≠bd:=fun e=>by rw[e,hbd]at hc;cases hc
  rw[k3 c this];exact g3 _ _ hc
 | some d=>
  refine uB rfl (fH (mL rfl) (uB rfl (nD (gH fun k _ _=>?_))))
  obtain⟨t2,k1,k2,k3⟩:=uV g2 hbase z00 rfl rfl (m:=[.str d.name,.int .u8 d.kind,.bool d.fact]) rfl rfl
  have hle:cA t t2:=fun c u hc=>by
   have:c≠bd:=fun e=>by rw[e,hbd]at hc;cases hc
   rw[k3 c this];exact g3 _ _ hc
  have ld1:oA yA 5 ⟨0,t2⟩ (.ptr bd 1)=some (.int .u8 (d.kind:Int)):=k2.load1 (j:=1) ty5 rfl rfl
  have ld2:oA yA 4 ⟨0,t2⟩ (.ptr bd 2)=some (.bool d.fact):=k2.load1 (j:=2) ty4 rfl rfl
  refine⟨_,_,k1 k,iA rfl (uB f2 (aD ld2 (nD (uB f1 (aD ld1 (sC ?_))))))⟩
  rw[hb5];show wp 66 _ t2 _
  cases hf:bEq d.fact (!decide (op=5))with
  | false=>exact mB (by simp) ⟨by simp[nmV,hf],hle⟩
  | true=>
   refine iA rfl (uB f1 (aD ld1 (sC ?_)))
   by_cases h6:1<=d.kind
   ·refine iA (yLe (by omega)) (uB f1 (aD ld1 (sC ⟨?_,hle⟩)))
    have:pC (d.kind:Int) 6=decide (d.kind<=6):=by rw[z25];congr 1;exact propext (by omega)
    simp[nmV,hf,h6,this]
   ·refine mB (nLe (by omega)) ⟨?_,hle⟩
    simp[nmV,hf,h6]
def T_ok{R:Bool}{K:zA->zA->T}(hC:yL t b m p)(hp:p.fit)(hK:∀x bd t',z0p p.tables name=some x->cA t t'->wp 66 (K (.bool x.two) bd) t' (fun v t'=>v=nmV (0,R)/\cA t t'))(hN:z0p p.tables name=none->R=false):wp 66 (T66 (.ptr b 0) name K) t (fun v t'=>v=nmV (0,R)/\cA t t'):=by
 obtain⟨cs,h1,h2,h3,h4⟩:=hC.plan
 obtain⟨e1,e2⟩:=zho h1
 unfold T66;refine uB oM (uB znx (aD h3 (fH e1 (gH fun bd hbd hbase=>?_))))
 obtain⟨t1,g1,g2,g3,g4⟩:=aT (C:=yA) ty81 hbd
 refine⟨_,_,g1,sD ?_⟩
 obtain⟨r,r1,r2⟩:=tab_ok hp (h1.mono g3) name
 rw[e2,q54,r2,wA];have f1:fB yA 81 1 (.ptr bd 0)=some (.ptr bd 1):=by kernel_rfl
 cases hd:z0p p.tables name with
 | none=>
  rw[hd]at r1;unfold TabV at r1;subst r1;refine uB rfl (fH (mL rfl) (uB rfl (nD (gH fun k _ _=>?_))))
  obtain⟨t2,k1,k2,k3⟩:=uV g2 hbase ty81 rfl rfl (m:=[.str [],.bool false,.nilslice]) rfl rfl
  rw[hN hd];refine⟨_,_,k1 k,mB (by simp) ⟨rfl,fun c u hc=>?_⟩⟩
  have:c≠bd:=fun e=>by rw[e,hbd]at hc;cases hc
  rw[k3 c this];exact g3 _ _ hc
 | some x=>
  rw[hd]at r1;obtain⟨a,rfl,ha⟩:=r1
  have hfz:pK [.str [],.bool false,.nilslice] [zA.str x.name,.bool x.two,a]=true:=by
   show(true&&(true&&(tI .nilslice a&&true)))=true
   rw[gN ha];rfl
  have hone:rB zA.one [zA.str x.name,.bool x.two,a]=true:=by
   rw[nF];simp only[ycg,yck,ha.one];rfl
  refine uB rfl (fH (mL hfz) (uB rfl (nD (gH fun k _ _=>?_))))
  obtain⟨t2,k1,k2,k3⟩:=uV g2 hbase ty81 rfl rfl (m:=[.str x.name,.bool x.two,a]) rfl hone
  have hle:cA t t2:=fun c u hc=>by
   have:c≠bd:=fun e=>by rw[e,hbd]at hc;cases hc
   rw[k3 c this];exact g3 _ _ hc
  refine⟨_,_,k1 k,iA rfl (uB f1 (aD (k2.load1 (j:=1) ty4 rfl rfl) ?_))⟩
  exact hK x _ t2 hd hle
def z2f{a c d:zA}{kd:Int}{n1 n2:Bool}{vi:Int}(hC:yL t b m p)(hp:p.fit)(hc:oB d=some (.int .i64 (n:Int))):wC yA F 66 [.ptr b 0,.agg [.int .u8 op,.str name,.int .u8 kd,.bool n1,a,.bool n2,c,.int .i64 vi,d]] t=some (nmV (fM p op name n)):=by
 refine gM ?_
 refine w66 _ _ _ _ _ _ _ _ _ _ ?_
 unfold t66;have rest:∀(Y:T),(op=3\/op=4\/op=21\/op=22\/op=5)->wp 66 (D66 (.ptr b 0) (op:Int) name) t (fun v t'=>v=nmV (fM p op name n)/\cA t t'):=fun Y h=>D_ok hC hp h
 by_cases h3:op=3
 ·exact iA (sF (by omega)) (iA (sF (by omega)) (D_ok hC hp (.inl h3)))
 refine mB (nEq (by omega)) ?_
 by_cases h4:op=4
 ·exact iA (sF (by omega)) (iA (sF (by omega)) (D_ok hC hp (.inr (.inl h4))))
 refine mB (nEq (by omega)) ?_
 by_cases h21:op=21
 ·exact iA (sF (by omega)) (iA (sF (by omega)) (D_ok hC hp (.inr (.inr (.inl h21)))))
 refine mB (nEq (by omega)) ?_
 by_cases h22:op=22
 ·exact iA (sF (by omega)) (iA (sF (by omega)) (D_ok hC hp (.inr (.inr (.inr (.inl h22))))))
 refine mB (nEq (by omega)) ?_
 by_cases h5:op=5
 ·exact iA (sF (by omega)) (D_ok hC hp (.inr (.inr (.inr (.inr h5)))))
 refine mB (nEq (by omega)) ?_
 have hno:¬ (op=3\/op=4\/op=21\/op=22\/op=5):=by omega
 by_cases h6:op=6
 ·refine iA (sF (by omega)) ?_
  unfold fM;rw[yaa hno,yab h6]
  cases hd:z0p p.tables name with
  | none=>
   exact T_ok (R:=false) (K:=fun a36 _=>.asB a36 fun b37=>.opt (oB d) fun a38=>.asI .i64 a38 fun n39=>.ret (.tup [(.int .u8 0),(.bool (bEq b37 (mA n39 2)))])) hC hp (fun x bd t' h _=>by rw[hd]at h;cases h) (fun _=>rfl)
  | some x=>
   refine T_ok (R:=bEq x.two (decide (n=2))) (K:=fun a36 _=>.asB a36 fun b37=>.opt (oB d) fun a38=>.asI .i64 a38 fun n39=>.ret (.tup [(.int .u8 0),(.bool (bEq b37 (mA n39 2)))])) hC hp (fun y bd t' h hle=>?_) (fun h=>by rw[hd]at h;cases h)
   rw[hd]at h
   cases h;refine nD (uB hc (sC ⟨?_,hle⟩))
   have:mA (n:Int) 2=decide (n=2):=by rw[ze2];congr 1;exact propext (by omega)
   rw[this];rfl
 refine mB (nEq (by omega)) ?_
 by_cases h23:op=23
 ·refine iA (sF (by omega)) ?_
  unfold fM;rw[yaa hno,yaa h6,yab h23]
  cases hd:z0p p.tables name with
  | none=>
   exact T_ok (R:=false) (K:=fun a36 _=>.asB a36 fun b52=>.ret (.tup [(.int .u8 0),(.bool (!b52))])) hC hp (fun x bd t' h _=>by rw[hd]at h;cases h) (fun _=>rfl)
  | some x=>
   refine T_ok (R := !x.two) (K:=fun a36 _=>.asB a36 fun b52=>.ret (.tup [(.int .u8 0),(.bool (!b52))])) hC hp (fun y bd t' h hle=>?_) (fun h=>by rw[hd]at h;cases h)
   rw[hd]at h
   cases h;exact nD ⟨rfl,hle⟩
 refine mB (nEq (by omega)) ?_
 unfold fM;rw[yaa hno,yaa h6,yaa h23];exact⟨rfl,cA.refl _⟩
end
end
section
variable [nC]
variable {t tf:Tr rA}
structure KE where
 op:Nat
 a:Nat
 b:Nat
 c:Nat
 k:Nat
def zxy:List KE:=[⟨2,0,0,0,4⟩,⟨4,4,0,0,1⟩,⟨6,2,0,0,2⟩,⟨6,2,2,0,2⟩,⟨8,4,4,0,5⟩,⟨9,2,2,0,2⟩,⟨9,3,2,0,3⟩,⟨9,2,3,0,3⟩,⟨10,2,2,0,2⟩,⟨10,3,2,0,3⟩,⟨10,3,3,0,2⟩,⟨15,1,1,0,1⟩,⟨16,1,1,0,1⟩,⟨17,1,0,0,1⟩,
 ⟨19,2,2,0,2⟩,⟨19,3,3,0,3⟩,⟨20,4,4,0,6⟩,⟨21,4,4,0,2⟩,⟨22,4,4,6,3⟩,⟨23,4,4,0,2⟩,⟨24,2,0,0,6⟩,⟨25,5,0,0,2⟩,⟨25,6,0,0,2⟩,⟨25,3,0,0,2⟩,⟨26,4,0,0,4⟩,
 ⟨7,2,2,0,2⟩,⟨7,3,3,0,3⟩,⟨7,5,5,0,5⟩,⟨7,6,6,0,6⟩,⟨7,4,5,0,4⟩,⟨7,4,6,0,4⟩,⟨8,2,2,0,2⟩,⟨8,3,3,0,3⟩,⟨8,5,5,0,5⟩,⟨8,6,6,0,6⟩,⟨8,4,5,0,4⟩,⟨8,4,6,0,4⟩,
 ⟨14,1,1,0,1⟩,⟨18,1,1,1,1⟩,⟨14,2,2,0,1⟩,⟨18,1,2,2,2⟩,⟨11,2,2,0,2⟩,⟨12,2,2,0,2⟩,⟨13,2,2,0,1⟩,⟨14,3,3,0,1⟩,⟨18,1,3,3,3⟩,⟨11,3,3,0,3⟩,⟨12,3,3,0,3⟩,⟨13,3,3,0,1⟩,
 ⟨14,4,4,0,1⟩,⟨18,1,4,4,4⟩,⟨11,4,4,0,4⟩,⟨12,4,4,0,4⟩,⟨13,4,4,0,1⟩,⟨14,5,5,0,1⟩,⟨18,1,5,5,5⟩,⟨11,5,5,0,5⟩,⟨12,5,5,0,5⟩,⟨13,5,5,0,1⟩,
 ⟨14,6,6,0,1⟩,⟨18,1,6,6,6⟩,⟨11,6,6,0,6⟩,⟨12,6,6,0,6⟩,⟨13,6,6,0,1⟩]
def z5d (op a b c:Nat):zA:=.agg [.int .u8 op,.int .u8 a,.int .u8 b,.int .u8 c]
def KE.e (x:KE):zA × zA:=(z5d x.op x.a x.b x.c,.int .u8 x.k)
def dC (n:Nat):List (zA × zA):=(zxy.take n).map KE.e
def dR{w x y z:Int}:bL yA 100 (.agg [.int .u8 w,.int .u8 x,.int .u8 y,.int .u8 z])=true:=by kernel_rfl
def KI (t0:Tr rA)(b n:Nat)(t:Tr rA):Prop:=t.get b=some (.map (dC n))/\oD b t0 t
def zsq{t0:Tr rA}{b n i:Nat}{k v:zA}{K:T}{Q:xC}(hb:yA.base<=b)(hI:KI t0 b n t)(hs:tG k v (dC n)=some (dC (n+1)))(hk:bL yA 100 k=true)(next:∀t',KI t0 b (n+1) t'->wp i K t' Q):wp i (.heavy (xI yA 100 (.map b) k v) fun _=>K) t Q:=by
 refine gH fun m _ _=>?_
 refine⟨_,_,zgz hk hb hI.1 hs,next _ ⟨by show(t.set b _).get b=_;rw[Tr.get_set,yab rfl],fun c hc=>?_⟩⟩
 show(t.set b _).get c=_
 rw[Tr.get_set,yaa hc];exact hI.2 c hc
section
variable {t0:Tr rA}{b:Nat}{name:List Nat}{c1 c2 c3:zA}{Q:xC}
abbrev ag2:zA:=.agg [.int .u8 7,.int .u8 8]
abbrev ag4:zA:=.agg [.int .u8 2,.int .u8 3,.int .u8 5,.int .u8 6]
def zwt{n:Nat}{op i:Int}(hb:yA.base<=b)(hI:KI t0 b n t)
  (h1:tG (.agg [.int .u8 op,.int .u8 2,.int .u8 2,.int .u8 0]) (.int .u8 2) (dC n)=some (dC (n+1))) (h2:tG (.agg [.int .u8 op,.int .u8 3,.int .u8 3,.int .u8 0]) (.int .u8 3) (dC (n+1))=some (dC (n+1+1)))
  (h3:tG (.agg [.int .u8 op,.int .u8 5,.int .u8 5,.int .u8 0]) (.int .u8 5) (dC (n+1+1))=some (dC (n+1+1+1))) (h4:tG (.agg [.int .u8 op,.int .u8 6,.int .u8 6,.int .u8 0]) (.int .u8 6) (dC (n+1+1+1))=some (dC (n+1+1+1+1)))
  (h5:tG (.agg [.int .u8 op,.int .u8 4,.int .u8 5,.int .u8 0]) (.int .u8 4) (dC (n+1+1+1+1))=some (dC (n+1+1+1+1+1))) (h6:tG (.agg [.int .u8 op,.int .u8 4,.int .u8 6,.int .u8 0]) (.int .u8 4) (dC (n+1+1+1+1+1))=some (dC (n+1+1+1+1+1+1)))
  (hk:∀x y:Nat,x<10->y<10->bL yA 100 (.agg [.int .u8 op,.int .u8 (x:Int),.int .u8 (y:Int),.int .u8 0])=true)
  (next:∀t',KI t0 b (n+1+1+1+1+1+1) t'->jp 28 2 [.map b,ag2,.int .i64 (sA .i64 (i+1)),.str name,c1,c2,c3] t' Q) :
  jp 28 6 [.map b,.int .u8 op,ag2,.int .i64 i,ag4,.int .i64 0,.str name,c1,c2,c3] t Q:=by
 have i0:yJ yA 102 ag4 (.int .i64 0)=some (.int .u8 2):=by kernel_rfl
 have i1:yJ yA 102 ag4 (.int .i64 1)=some (.int .u8 3):=by kernel_rfl
 have i2:yJ yA 102 ag4 (.int .i64 2)=some (.int .u8 5):=by kernel_rfl
 have i3:yJ yA 102 ag4 (.int .i64 3)=some (.int .u8 6):=by kernel_rfl
 have w1:sA .i64 (0+1)=1:=rfl
 have w2:sA .i64 (1+1)=2:=rfl
 have w3:sA .i64 (2+1)=3:=rfl
 have w4:sA .i64 (3+1)=4:=rfl
 refine zx4 _ _ _ _ _ _ _ _ _ _ _ _ _ _ (iA rfl (uB i0 (sC (iA rfl (zsq hb hI h1 (hk 2 2 (by omega) (by omega)) fun t' hI=>rE ?_)))))
 rw[w1];refine zx4 _ _ _ _ _ _ _ _ _ _ _ _ _ _ (iA rfl (uB i1 (sC (iA rfl (zsq hb hI h2 (hk 3 3 (by omega) (by omega)) fun t' hI=>rE ?_)))))
 rw[w2];refine zx4 _ _ _ _ _ _ _ _ _ _ _ _ _ _ (iA rfl (uB i2 (sC (iA rfl (zsq hb hI h3 (hk 5 5 (by omega) (by omega)) fun t' hI=>rE ?_)))))
 rw[w3];refine zx4 _ _ _ _ _ _ _ _ _ _ _ _ _ _ (iA rfl (uB i3 (sC (iA rfl (zsq hb hI h4 (hk 6 6 (by omega) (by omega)) fun t' hI=>rE ?_)))))
 rw[w4];refine zx4 _ _ _ _ _ _ _ _ _ _ _ _ _ _ (mB (by show ¬ (false=true);simp) (iA rfl (zsq hb hI h5 (hk 4 5 (by omega) (by omega)) fun t' hI=>iA rfl (zsq hb hI h6 (hk 4 6 (by omega) (by omega)) fun t' hI=>rE ?_))))
 exact next t' hI
def zkq{n:Nat}{k:Nat}(hk0:2<=k/\k<=6)(hb:yA.base<=b)(hI:KI t0 b n t)
  (h1:tG (.agg [.int .u8 14,.int .u8 k,.int .u8 k,.int .u8 0]) (.int .u8 1) (dC n)=some (dC (n+1))) (h2:tG (.agg [.int .u8 18,.int .u8 1,.int .u8 k,.int .u8 k]) (.int .u8 k) (dC (n+1))=some (dC (n+1+1)))
  (h3:tG (.agg [.int .u8 11,.int .u8 k,.int .u8 k,.int .u8 0]) (.int .u8 k) (dC (n+1+1))=some (dC (n+1+1+1))) (h4:tG (.agg [.int .u8 12,.int .u8 k,.int .u8 k,.int .u8 0]) (.int .u8 k) (dC (n+1+1+1))=some (dC (n+1+1+1+1)))
  (h5:tG (.agg [.int .u8 13,.int .u8 k,.int .u8 k,.int .u8 0]) (.int .u8 1) (dC (n+1+1+1+1))=some (dC (n+1+1+1+1+1)))
  (next:∀t',KI t0 b (n+1+1+1+1+1) t'->jp 28 10 [.map b,.int .u8 ((k+1:Nat):Int),.str name,c1,c2,c3] t' Q) :
  jp 28 10 [.map b,.int .u8 (k:Int),.str name,c1,c2,c3] t Q:=by
 have hk:∀w x y z:Nat,w<30->x<10->y<10->z<10->bL yA 100 (z5d w x y z)=true:=fun w x y z _ _ _ _=>dR
 refine zx5 _ _ _ _ _ _ (iA (yLe (by omega)) (iA rfl (zsq hb hI h1 (hk 14 k k 0 (by omega) (by omega) (by omega) (by omega)) fun t' hI=>iA rfl (zsq hb hI h2 (hk 18 1 k k (by omega) (by omega) (by omega) (by omega)) fun t' hI=>iA ?_ (iA rfl (zsq hb hI h3 (hk 11 k k 0 (by omega) (by omega) (by omega) (by omega)) fun t' hI=>iA rfl (zsq hb hI h4 (hk 12 k k 0 (by omega) (by omega) (by omega) (by omega)) fun t' hI=>iA rfl (zsq hb hI h5 (hk 13 k k 0 (by omega) (by omega) (by omega) (by omega)) fun t' hI=>rE ?_))))))))
 ·cases hq:mA (k:Int) 1 with
  | true=>exact absurd (yH.1 hq) (by omega)
  | false=>rfl
 ·rw[zuc (by omega) (by omega),show(k:Int)+1=((k+1:Nat):Int) by omega]
  exact next t' hI
def zdc{p:oC}{cs:List zA}(hr:RD t p.d cs)(hQ:∀b m t',cA t t'->yL t' b m p->t'.get m=some (.map (dC 64))->Q (.ptr b 0) t'):Wc yA F 28 [.agg cs] t Q:=by
 have hr0:=hr
 obtain⟨u1,u2,u3,rfl,h1,h2,h3⟩:=jM hr
 refine w28 _ _ _ _ ?_
 unfold t28;repeat refine iA rfl ?_
 refine gH fun b hb hbase=>?_
 refine⟨.map b,⟨b+1,t.set b (.map [])⟩,rfl,gH fun n _ _=>?_⟩
 have hm0:(t.set b (.map [])).get b=some (.map []):=by rw[Tr.get_set,yab rfl]
 have ho0:oD b t (t.set b (.map [])):=fun c hc=>by rw[Tr.get_set,yaa hc]
 obtain⟨t1,g1,g2,g3⟩:=zs0 (C:=yA) (T:=100) (b:=b) (n:=n) (l:=dC 25) (t:=t.set b (.map [])) (fun e he=>by
  obtain⟨x,_,rfl⟩:=yaq.1 he
  exact dR) (by kernel_rfl) hbase hm0
 have g1':vP yA ((dC 25).map fun e=>Eff.upd 100 (.map b) e.1 e.2) ⟨n,t.set b (.map [])⟩=some (pD,⟨n,t1⟩):=g1
 have hI:KI t b 25 t1:=⟨g2,fun c hc=>by rw[g3 c hc,ho0 c hc]⟩
 refine⟨pD,⟨n,t1⟩,g1',iA rfl (rE ?_)⟩
 have j0:yJ yA 101 ag2 (.int .i64 0)=some (.int .u8 7):=by kernel_rfl
 have j1:yJ yA 101 ag2 (.int .i64 1)=some (.int .u8 8):=by kernel_rfl
 have w1:sA .i64 (0+1)=1:=rfl
 have w2:sA .i64 (1+1)=2:=rfl
 refine z7x _ _ _ _ _ _ _ _ (iA rfl (uB j0 (sC (iA rfl (rE ?_)))))
 refine zwt hbase hI (by kernel_rfl) (by kernel_rfl) (by kernel_rfl) (by kernel_rfl) (by kernel_rfl) (by kernel_rfl) (fun x y _ _=>dR) fun t2 hI=>?_
 rw[w1];refine z7x _ _ _ _ _ _ _ _ (iA rfl (uB j1 (sC (iA rfl (rE ?_)))))
 refine zwt hbase hI (by kernel_rfl) (by kernel_rfl) (by kernel_rfl) (by kernel_rfl) (by kernel_rfl) (by kernel_rfl) (fun x y _ _=>dR) fun t3 hI=>?_
 rw[w2];refine z7x _ _ _ _ _ _ _ _ (mB (by show ¬ (false=true);simp) (rE ?_))
 refine zx5 _ _ _ _ _ _ (iA rfl (iA rfl (zsq hbase hI (by kernel_rfl) dR fun t4 hI=>iA rfl (zsq hbase hI (by kernel_rfl) dR fun t5 hI=>mB (by show ¬ (false=true);simp) (rE ?_)))))
 have uw:sA .u8 (1+1)=((2:Nat):Int):=rfl
 rw[uw];refine zkq (by omega) hbase hI (by kernel_rfl) (by kernel_rfl) (by kernel_rfl) (by kernel_rfl) (by kernel_rfl) fun t6 hI=>?_
 refine zkq (by omega) hbase hI (by kernel_rfl) (by kernel_rfl) (by kernel_rfl) (by kernel_rfl) (by kernel_rfl) fun t7 hI=>?_
 refine zkq (by omega) hbase hI (by kernel_rfl) (by kernel_rfl) (by kernel_rfl) (by kernel_rfl) (by kernel_rfl) fun t8 hI=>?_
 refine zkq (by omega) hbase hI (by kernel_rfl) (by kernel_rfl) (by kernel_rfl) (by kernel_rfl) (by kernel_rfl) fun t9 hI=>?_
 refine zkq (by omega) hbase hI (by kernel_rfl) (by kernel_rfl) (by kernel_rfl) (by kernel_rfl) (by kernel_rfl) fun t10 hI=>?_
 refine zx5 _ _ _ _ _ _ (mB (nLe (by omega)) (iA rfl (gH fun bc hbc _=>?_)))
 have hle:cA t t10:=fun c u hc=>by
  have:c≠b:=fun e=>by rw[e,hb]at hc;cases hc
  rw[hI.2 c this];exact hc
 obtain⟨t11,e1,e2,e3,e4⟩:=zhy hbc [.str p.name,u1,u2,u3,.map b] none
 have hb:zrn (.agg [.str p.name,u1,u2,u3,.map b]) ⟨bc,t10⟩=some (.ptr bc 0,⟨bc+1,t11⟩):=by
  show some (zA.ptr bc 0,sE ⟨bc,t10⟩ [.str p.name,u1,u2,u3,.map b] none)=_
  rw[e1]
 refine⟨_,_,hb,hQ bc b t11 (hle.trans e3) ⟨_,hr0.mono (hle.trans e3),e2⟩ ?_⟩
 exact e3 _ _ hI.1
end
end
end Go.Proofs
