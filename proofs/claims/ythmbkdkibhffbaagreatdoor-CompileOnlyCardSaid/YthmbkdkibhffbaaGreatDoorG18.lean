/- CompileApart. -/
import Derived.Test.YthmbkdkibhffbaaGreatDoorG17
set_option linter.all false
noncomputable section
set_option maxRecDepth 100000
namespace Go.Proofs
open Go Go.Am
variable [dC]
variable {t tf:Tr jA}
theorem z7l{p:cH}{a b c vn vc vw vt:zA}(h1:oA tf 3 (p.defs.map dJ.d) a)(h2:oA tf 3 (p.tables.map vF.d) b)(h3:oA tf 24 ((p.clauses.map xM).map jD.d) c)(h4:oA tf 1 ((tI p).1.names.map D.str) vn)(h5:oA tf 6 ((tI p).1.consts.map aA.d) vc)
  (h6:oA tf 1 ((tI p).2.map fun q=>aD q.1) vw) (h7:oA tf 1 ((tI p).2.map fun q=>aD q.2) vt) {nm:List Nat}:qG [(.str []),.nilslice,.nilslice,.nilslice,.nilslice,.nilslice,.nilslice,.nilslice] (.agg [.str nm,a,b,c,vn,vc,vw,vt])=some (cellsOf [.str nm,a,b,c,vn,vc,vw,vt]) ∧
   bB zA.one [.str nm,a,b,c,vn,vc,vw,vt]=true:=by
 refine⟨iL ?_,?_⟩
 ·show(true&&(gG .nilslice a&&(gG .nilslice b&&(gG .nilslice c&&(gG .nilslice vn&&(gG .nilslice vc&&(gG .nilslice vw&&(gG .nilslice vt&&true))))))))=true
  rw[yI h1,yI h2,yI h3,yI h4,yI h5,yI h6,yI h7];rfl
 ·rw[oG];simp only[ybh,ybl,h1.one,h2.one,h3.one,h4.one,h5.one,h6.one,h7.one];rfl
theorem bV{l:List (List XIns)}{v:zA}(hv:oA tf 1 (l.map aD) v)(ht:cA tf t){i:Nat}{x:List XIns}(hx:l[i]?=some x) :
  ∃b off u,zB yA 32 v (.int .i64 (i:Int))=some (.ptr b off)/\mA yA 37 ⟨0,t⟩ (.ptr b off)=some u/\oA tf 3 (x.map XIns.d) u/\uB u=some (.int .i64 (x.length:Int)):=by
 obtain⟨b,off,u,h1,h2,h3⟩:=z7a hv ht hx
 exact⟨b,off,u,h1,h2,h3,by rw[h3.len,yag]⟩
end Go.Proofs
namespace Go.Proofs
open Go Go.Am
variable [dC]
variable {t tf:Tr jA}
def vH:List Nat->Int->Int
 | [],n=>n
 | w::l,n=>if n<=2000 then vH l (n+w)else n
theorem xV:∀(l:List Nat) (n:Int),n<=vH l n/\(vH l n<=2000->n+(l.sum:Nat)<=2000)
 | [],n=>by unfold vH;exact⟨by omega,fun h=>by simpa using h⟩
 | w::l,n=>by
  obtain⟨h1,h2⟩:=xV l (n+w)
  unfold vH;split
  ·exact⟨by omega,fun h=>by have:=h2 h;simp only[List.sum_cons];omega⟩
  ·exact⟨by omega,fun h=>by omega⟩
theorem zbp{ws:List Nat}(hw:∀w∈ws,w<4503599627370496){J:Nat->Int->Prop}{E:Int->Prop}(hend:∀n i,0<=n->n<1152921504606846976->ws.length=i->E n->J i n)(hstop:∀n i,0<=n->n<1152921504606846976->i<ws.length->¬ n<=2000->E n->J i n)
  (hstep:∀(n:Int) (i w:Nat),ws[i]?=some w->0<=n->n<=2000->J (i+1) (n+w)->J i n):∀(m i:Nat) (n:Int),i+m=ws.length->0<=n->n<1152921504606846976->E (vH (ws.drop i) n)->J i n:=by
 intro m;induction m with
 | zero=>
  intro i n hi h0 h1 hE;rw[yau (by omega)]at hE
  exact hend n i h0 h1 (by omega) hE
 | succ m ih=>
  intro i n hi h0 h1 hE;have hlt:i<ws.length:=by omega
  rw[yam hlt]at hE;unfold vH at hE;by_cases h2:n<=2000
  ·rw[if_pos h2]at hE
   have:=hw _ (ybk hlt)
   exact hstep n i _ (yae hlt) h0 h2 (ih (i+1) _ (by omega) (by omega) (by omega) hE)
  ·rw[if_neg h2]at hE
   exact hstop n i h0 h1 hlt h2 hE
structure aM where
 plan:cH
 names:List (List Nat)
 consts:List aA
 whens:List (List XIns)
 thens:List (List XIns)
def aM.d(g:aM):D:=.st [g.plan.d,.sl 1 (g.names.map D.str),.sl 6 (g.consts.map aA.d),.sl 1 (g.whens.map aD),.sl 1 (g.thens.map aD)]
structure aM.fit (g:aM):Prop where
 plan:g.plan.fit
 names:∀n∈g.names,n.length<qC/\∀c∈n,c<256
 consts:∀v∈g.consts,v.fit
 ins:∀l,l∈g.whens\/l∈g.thens->l.length<qC/\∀x∈l,x.op<256/\i64 x.a/\i64 x.b
 lens:g.names.length<qC/\g.consts.length<qC/\g.whens.length<qC/\g.thens.length<qC
theorem zup{g:aM}{cs:List zA}(h:RD t g.d cs):∃a b c vn vc vw vt,cs=[.str g.plan.name,a,b,c,vn,vc,vw,vt]/\RD t g.plan.d [.str g.plan.name,a,b,c] ∧
  oA t 1 (g.names.map D.str) vn/\oA t 6 (g.consts.map aA.d) vc/\oA t 1 (g.whens.map aD) vw/\oA t 1 (g.thens.map aD) vt:=by
 unfold aM.d at h;simp only[kI,zE,oE,aJ]at h;obtain⟨cl,rfl,c1,r1,rfl,h1,c2,r2,rfl,⟨v2,rfl,h2⟩,c3,r3,rfl,⟨v3,rfl,h3⟩,c4,r4,rfl,⟨v4,rfl,h4⟩,c5,r5,rfl,⟨v5,rfl,h5⟩,rfl⟩:=h
 have h1':=h1
 obtain⟨a,b,c,rfl,_⟩:=oV h1'
 exact⟨a,b,c,v2,v3,v4,v5,rfl,h1,h2,h3,h4,h5⟩
def wtC (v:aA):Nat:=nK v.f
def wtN (n:List Nat):Nat:=n.length / 30
def zub(g:aM):Int:=vH (g.thens.map List.length) (vH (g.whens.map List.length) (vH (g.consts.map wtC) (vH (g.names.map wtN) (dO g.plan+g.names.length+g.whens.length+g.thens.length))))
theorem zt0{B:Int}:∀(l:List Nat) (n:Int),(∀w∈l,w<4503599627370496)->n<=B->4503599627372496<=B->vH l n<=B
 | [],n,_,h,_=>h
 | w::l,n,hw,h,hB=>by
  unfold vH;have:=hw w (by simp)
  split
  ·exact zt0 l _ (fun x hx=>hw x (by simp[hx])) (by omega) hB
  ·exact h
theorem znz{p:cH}(hp:p.fit):0<=dO p/\dO p<288230376151711744:=by
 have h2:=hp.ndefs
 have h3:=hp.ntables
 have h4:=hp.nclauses
 have h5:=hp.name
 unfold qC at h2 h3 h4 h5;have dl:∀(l:List dJ) (n:Int),(∀d∈l,d.fit)->n<=36028797018963968->cO l n<=36028797018963968:=by
  intro l;induction l with
  | nil=>intro n _ h;exact h
  | cons d l ih=>
   intro n hf h;have:=(hf d (by simp)).1
   unfold qC at this;unfold cO;split
   ·exact ih _ (fun x hx=>hf x (by simp[hx])) (by omega)
   ·exact h
 have tl:∀(l:List vF) (n:Int),(∀d∈l,d.fit)->0<=n->n<=36028797018963968->tN l n<=36028797018963968:=by
  intro l;induction l with
  | nil=>intro n _ _ h;exact h
  | cons d l ih=>
   intro n hf h0 h;have hd:=hf d (by simp)
   have:=hd.1
   unfold qC at this;unfold tN;split
   ·have h1:=wZ d.rows (n+(d.name.length:Int) / 30) hd.2.2 (by omega)
    exact ih _ (fun x hx=>hf x (by simp[hx])) h1.1 (by omega)
   ·exact h
 have cl:∀(l:List jD) (n:Int),(∀d∈l,d.fit)->0<=n->n<=36028797018963968->bL l n<=36028797018963968:=by
  intro l;induction l with
  | nil=>intro n _ _ h;exact h
  | cons d l ih=>
   intro n hf h0 h;have hd:=hf d (by simp)
   have q1:=hd.1
   have q2:=hd.2.1
   unfold qC at q1 q2;have s1:=uV d.when_ (2000-n) (uA.fit_ok hd.2.2.2.2.2.1)
   have s2:=uV d.then_ (2000-tJ d n) (uA.fit_ok hd.2.2.2.2.2.2)
   have hw:0<=tJ d n/\tJ d n<=n+2*37529996894754+(max (2000-n) 0+9007199254740992):=by unfold tJ;omega
   unfold bL;split
   ·split
    ·exact ih _ (fun x hx=>hf x (by simp[hx])) (by omega) (by omega)
    ·exact ih _ (fun x hx=>hf x (by simp[hx])) (by omega) (by omega)
   ·exact h
 have h1:=zcs p.defs (1+(p.name.length:Int) / 30+p.defs.length+p.tables.length+p.clauses.length)
 have g1:=dl p.defs (1+(p.name.length:Int) / 30+p.defs.length+p.tables.length+p.clauses.length) hp.defs (by omega)
 have h6:=(ze0 p.tables (cO p.defs (1+(p.name.length:Int) / 30+p.defs.length+p.tables.length+p.clauses.length))).1
 have g2:=tl p.tables _ hp.tables (by omega) g1
 have h7:=(mZ p.clauses (tN p.tables (cO p.defs (1+(p.name.length:Int) / 30+p.defs.length+p.tables.length+p.clauses.length))) hp.clauses (by omega)).1
 have g3:=cl p.clauses _ hp.clauses (by omega) g2
 unfold dO;omega
theorem zuc{g:aM}{cs:List zA}{Q:cB}(hg:g.fit)(h:RD t g.d cs)(hQ:Q (.int .i64 (zub g)) t):Wc yA F 16 [.agg cs,.int .i64 2000] t Q:=by
 obtain⟨a,b,c,vn,vc,vw,vt,rfl,h1,h2,h3,h4,h5⟩:=zup h
 have hs:=zzo hg.plan h1
 have hb:=znz hg.plan
 obtain⟨n1,n2,n3,n4⟩:=hg.lens
 unfold qC at n1 n2 n3 n4;have i1:∀ {i:Nat},i<1125899906842624->vA .i64 ((i:Int)+1)=((i+1:Nat):Int):=fun h=>by rw[fB (by omega) (by omega)];omega
 have lw:∀w∈g.whens.map List.length,w<4503599627370496:=fun w hw=>by
  obtain⟨l,hl,rfl⟩:=List.mem_map.1 hw
  have:=(hg.ins l (.inl hl)).1
  unfold qC at this;omega
 have lt:∀w∈g.thens.map List.length,w<4503599627370496:=fun w hw=>by
  obtain⟨l,hl,rfl⟩:=List.mem_map.1 hw
  have:=(hg.ins l (.inr hl)).1
  unfold qC at this;omega
 have lc:∀w∈g.consts.map wtC,w<4503599627370496:=fun w hw=>by
  obtain⟨v,hv,rfl⟩:=List.mem_map.1 hw
  exact aT (hg.consts v hv).2.1.1
 have ln:∀w∈g.names.map wtN,w<4503599627370496:=fun w hw=>by
  obtain⟨v,hv,rfl⟩:=List.mem_map.1 hw
  have:=(hg.names v hv).1
  unfold qC at this;unfold wtN;omega
 refine w16 _ _ _ _ _ _ _ _ _ ?_
 simp only[t16];refine pD h2.len (aE (pD h4.len (aE (pD h5.len (aE (zO ?_))))))
 rw[q13,hs,xA];refine aE (qE h2.same (pD h2.len (qE aL (qE h4.same (pD h4.len (qE aL (qE h5.same (pD h5.len (qE aL (sR ?_))))))))))
 simp only[yag];rw[fB (n:=dO g.plan+(g.names.length:Int)) (by omega) (by omega),fB (n:=dO g.plan+(g.names.length:Int)+(g.whens.length:Int)) (by omega) (by omega),fB (by omega) (by omega)]
 have b2:∀ {l:List Nat} {n:Int},(∀w∈l,w<4503599627370496)->0<=n->n<1152921504606846976->0<=vH l n/\vH l n<1152921504606846976:=fun {l n} hw h0 h1=>by
  have:=(xV l n).1
  have:=zt0 (B:=1152921504606846975) l n hw (by omega) (by decide)
  omega
 have f14:∀n:Int,0<=n->n<1152921504606846976->Q (.int .i64 (vH (g.thens.map List.length) n)) t->jp 16 14 [.int .i64 2000,.int .i64 n,.int .i64 0,.str g.plan.name,a,b,c,vn,vc,vw,vt] t Q:=by
  intro n h0 h1 hE;refine zbp (ws:=g.thens.map List.length) lt (J:=fun i n=>jp 16 14 [.int .i64 2000,.int .i64 n,.int .i64 (i:Int),.str g.plan.name,a,b,c,vn,vc,vw,vt] t Q) (E:=fun n=>Q (.int .i64 n) t) (fun n i _ _ hi hE=>?_) (fun n i _ _ hi hn hE=>?_) (fun n i w hw _ hn hJ=>?_) g.thens.length 0 n (by simp) h0 h1 hE
  ·refine zwo _ _ _ _ _ _ _ _ _ _ _ ?_
   simp only[znq];rw[yag]at hi;exact pD h5.len (aE (qH (fun e=>by have:=mB.1 e;rw[yag]at this;omega) hE))
  ·refine zwo _ _ _ _ _ _ _ _ _ _ _ ?_
   simp only[znq];rw[yag]at hi;exact pD h5.len (aE (qE (mB.2 (by rw[yag];omega)) (qH (fun e=>hn (xF.1 e)) hE)))
  ·rw[yav]at hw
   cases hx:g.thens[i]? with
   | none=>rw[hx]at hw;cases hw
   | some x=>
    rw[hx]at hw;cases hw;have hi:=(yad.1 hx).1
    have hxl:=(hg.ins x (.inr (ybw hx))).1
    unfold qC at hxl;obtain⟨q,o,u,k1,k2,_,k3⟩:=bV h5 (cA.refl t) hx
    refine zwo _ _ _ _ _ _ _ _ _ _ _ ?_
    simp only[znq];refine pD h5.len (aE (qE (mB.2 (by rw[yag];omega)) (qE (xF.2 hn) (pD k1 (bH k2 (pD k3 (aE (sR ?_))))))))
    rw[i1 (by omega),fB (by omega) (by omega)]
    exact hJ
 have f10:∀n:Int,0<=n->n<1152921504606846976->Q (.int .i64 (vH (g.thens.map List.length) (vH (g.whens.map List.length) n))) t->jp 16 10 [.int .i64 2000,.int .i64 n,.int .i64 0,.str g.plan.name,a,b,c,vn,vc,vw,vt] t Q:=by
  intro n h0 h1 hE;refine zbp (ws:=g.whens.map List.length) lw (J:=fun i n=>jp 16 10 [.int .i64 2000,.int .i64 n,.int .i64 (i:Int),.str g.plan.name,a,b,c,vn,vc,vw,vt] t Q) (E:=fun n=>Q (.int .i64 (vH (g.thens.map List.length) n)) t) (fun n i a0 a1 hi hE=>?_) (fun n i a0 a1 hi hn hE=>?_) (fun n i w hw _ hn hJ=>?_) g.whens.length 0 n (by simp) h0 h1 hE
  ·refine zwp _ _ _ _ _ _ _ _ _ _ _ ?_
   simp only[znr];rw[yag]at hi;exact pD h4.len (aE (qH (fun e=>by have:=mB.1 e;rw[yag]at this;omega) (f14 n a0 a1 hE)))
  ·refine zwp _ _ _ _ _ _ _ _ _ _ _ ?_
   simp only[znr];rw[yag]at hi;exact pD h4.len (aE (qE (mB.2 (by rw[yag];omega)) (qH (fun e=>hn (xF.1 e)) (f14 n a0 a1 hE))))
  ·rw[yav]at hw
   cases hx:g.whens[i]? with
   | none=>rw[hx]at hw;cases hw
   | some x=>
    rw[hx]at hw;cases hw;have hi:=(yad.1 hx).1
    have hxl:=(hg.ins x (.inl (ybw hx))).1
    unfold qC at hxl;obtain⟨q,o,u,k1,k2,_,k3⟩:=bV h4 (cA.refl t) hx
    refine zwp _ _ _ _ _ _ _ _ _ _ _ ?_
    simp only[znr];refine pD h4.len (aE (qE (mB.2 (by rw[yag];omega)) (qE (xF.2 hn) (pD k1 (bH k2 (pD k3 (aE (sR ?_))))))))
    rw[i1 (by omega),fB (by omega) (by omega)]
    exact hJ
 have f6:∀n:Int,0<=n->n<1152921504606846976->Q (.int .i64 (vH (g.thens.map List.length) (vH (g.whens.map List.length) (vH (g.consts.map wtC) n)))) t->jp 16 6 [.int .i64 2000,.int .i64 n,.int .i64 0,.str g.plan.name,a,b,c,vn,vc,vw,vt] t Q:=by
  intro n h0 h1 hE;refine zbp (ws:=g.consts.map wtC) lc (J:=fun i n=>jp 16 6 [.int .i64 2000,.int .i64 n,.int .i64 (i:Int),.str g.plan.name,a,b,c,vn,vc,vw,vt] t Q) (E:=fun n=>Q (.int .i64 (vH (g.thens.map List.length) (vH (g.whens.map List.length) n))) t) (fun n i a0 a1 hi hE=>?_) (fun n i a0 a1 hi hn hE=>?_) (fun n i w hw _ hn hJ=>?_) g.consts.length 0 n (by simp) h0 h1 hE
  ·refine z6f _ _ _ _ _ _ _ _ _ _ _ ?_
   simp only[zzb];rw[yag]at hi;exact pD h3.len (aE (qH (fun e=>by have:=mB.1 e;rw[yag]at this;omega) (f10 n a0 a1 hE)))
  ·refine z6f _ _ _ _ _ _ _ _ _ _ _ ?_
   simp only[zzb];rw[yag]at hi;exact pD h3.len (aE (qE (mB.2 (by rw[yag];omega)) (qH (fun e=>hn (xF.1 e)) (f10 n a0 a1 hE))))
  ·rw[yav]at hw
   cases hx:g.consts[i]? with
   | none=>rw[hx]at hw;cases hw
   | some x=>
    rw[hx]at hw;cases hw;have hi:=(yad.1 hx).1
    have hxf:=(hg.consts x (ybw hx)).2.1.1
    have hxl:=aT hxf
    obtain⟨q,o,cs,k1,k2,k3,k4,k5⟩:=jE.at sl31 (by simp) h3 (i:=i) (d:=x.d) (by simp[hx])
    obtain⟨u,v,rfl,hu,hv⟩:=zc1 k5
    have fa:pB yA 47 1 (.ptr q o)=some (.ptr q (o+1)):=by kernel_rfl
    have ld:mA yA 45 ⟨0,t⟩ (.ptr q (o+1))=some (.agg [.bool x.f.n.neg,u,.bool x.f.d.neg,v]):=by
     have:=k3.load (C:=yA) (j:=1) (n:=4) ty45 rfl rfl (by show 1+4<=6;decide)
     rw[this];rfl
    refine z6f _ _ _ _ _ _ _ _ _ _ _ ?_
    simp only[zzb];refine pD h3.len (aE (qE (mB.2 (by rw[yag];omega)) (qE (xF.2 hn) (pD k1 (pD fa (bH ld (yQ (jL (zl3 (f:=x.f) hu hv) (gF.zs _)) (zO ?_))))))))
    have e:=pv36 hu hv hxf
    show Wq yA F pI 36 [.agg [.bool x.f.n.neg,u,.bool x.f.d.neg,v]] t _
    rw[q36,e,xA];refine aE (sR ?_)
    rw[i1 (by omega),fB (by omega) (by omega)]
    exact hJ
 refine zbp (ws:=g.names.map wtN) ln (J:=fun i n=>jp 16 2 [.int .i64 2000,.int .i64 n,.int .i64 (i:Int),.str g.plan.name,a,b,c,vn,vc,vw,vt] t Q) (E:=fun n=>Q (.int .i64 (vH (g.thens.map List.length) (vH (g.whens.map List.length) (vH (g.consts.map wtC) n)))) t) (fun n i a0 a1 hi hE=>?_) (fun n i a0 a1 hi hn hE=>?_) (fun n i w hw _ hn hJ=>?_) g.names.length 0 _ (by simp) (by omega) (by omega) (by unfold zub at hQ;exact hQ)
 ·refine z6g _ _ _ _ _ _ _ _ _ _ _ ?_
  simp only[zzc];rw[yag]at hi;exact pD h2.len (aE (qH (fun e=>by have:=mB.1 e;rw[yag]at this;omega) (f6 n a0 a1 hE)))
 ·refine z6g _ _ _ _ _ _ _ _ _ _ _ ?_
  simp only[zzc];rw[yag]at hi;exact pD h2.len (aE (qE (mB.2 (by rw[yag];omega)) (qH (fun e=>hn (xF.1 e)) (f6 n a0 a1 hE))))
 ·rw[yav]at hw
  cases hx:g.names[i]? with
  | none=>rw[hx]at hw;cases hw
  | some x=>
   rw[hx]at hw;cases hw;have hi:=(yad.1 hx).1
   have hxl:=(hg.names x (ybw hx)).1
   unfold qC at hxl;obtain⟨q,o,cs,k1,k2,_,_,k5⟩:=jE.at sl30 (fun _=>rfl) h2 (i:=i) (d:=.str x) (by simp[hx])
   rw[zN]at k5;subst k5;refine z6g _ _ _ _ _ _ _ _ _ _ _ ?_
   simp only[zzc];refine pD h2.len (aE (qE (mB.2 (by rw[yag];omega)) (qE (xF.2 hn) (pD k1 (bH k2 (zt4 (sR ?_)))))))
   rw[mR,zxm,i1 (by omega),fB (n:=(x.length:Int) / 30) (by omega) (by omega),fB (by omega) (by omega)]
   exact hJ
theorem zla:∀ {l:List Nat} {w:Nat},w∈l->w<=l.sum
 | [],_,h=>by cases h
 | x::l,w,h=>by
  rw[List.sum_cons];rcases yat.1 h with rfl | h
  ·omega
  ·have:=zla h;omega
theorem zlk{g:aM}(hg:g.fit)(h:zub g<=2000):g.whens.length<=2000/\(∀l∈g.whens,l.length<=2000)/\∀v∈g.consts,aA.mid v:=by
 have hb:=znz hg.plan
 unfold zub at h;obtain⟨a1,_⟩:=xV (g.thens.map List.length) (vH (g.whens.map List.length) (vH (g.consts.map wtC) (vH (g.names.map wtN) (dO g.plan+g.names.length+g.whens.length+g.thens.length))))
 obtain⟨a2,b2⟩:=xV (g.whens.map List.length) (vH (g.consts.map wtC) (vH (g.names.map wtN) (dO g.plan+g.names.length+g.whens.length+g.thens.length)))
 obtain⟨a3,b3⟩:=xV (g.consts.map wtC) (vH (g.names.map wtN) (dO g.plan+g.names.length+g.whens.length+g.thens.length))
 obtain⟨a4,_⟩:=xV (g.names.map wtN) (dO g.plan+g.names.length+g.whens.length+g.thens.length)
 have c2:=b2 (by omega)
 have c3:=b3 (by omega)
 refine⟨by omega,fun l hl=>?_,fun v hv=>?_⟩
 ·have:=zla (List.mem_map_of_mem (f:=List.length) hl)
  omega
 ·have q1:=zla (List.mem_map_of_mem (f:=wtC) hv)
  have q2:=zb1 v.f
  have q3:wtC v=nK v.f:=rfl
  unfold aA.mid;omega
mutual
theorem ze8:∀(x:uA) (deep c:Nat),jQ x+deep<=25->c+cC x<=200->(eK x deep c).1=true
 | .mk op name v args,deep,c,h1,h2=>by
  unfold jQ at h1;unfold cC at h2;unfold eK;have hp:=h1
  rw[if_neg (by omega),if_neg (by omega)]
  exact zcq args (deep+1) (c+1) (by omega) (by omega)
theorem zcq:∀(l:List uA) (deep c:Nat),iQ l+deep<=25->c+wG l<=200->(oK l deep c).1=true
 | [],deep,c,_,_=>by unfold oK;rfl
 | x::l,deep,c,h1,h2=>by
  unfold iQ at h1;unfold wG at h2;unfold oK;have e:=ze8 x deep c (by omega) (by omega)
  rw[if_pos e,xZ x deep c e];exact zcq l deep _ (by omega) (by omega)
end
end Go.Proofs
namespace Go.Am
theorem zcy:∀(fs gs:List Tr1) (s:Nt) (p:Nat),uD (fs++gs) s p=((uD gs (uD fs s p).1 (p+(uD fs s p).2.length)).1,(uD fs s p).2++(uD gs (uD fs s p).1 (p+(uD fs s p).2.length)).2)
 | [],gs,s,p=>by simp[uD]
 | f::fs,gs,s,p=>by
  have ih:=zcy fs gs (f s p).1 (p+(f s p).2.length)
  simp only[List.cons_append,uD,ih,yah,yba,Nat.add_assoc]
theorem zey(key:aA->List Nat)(valid:aA->Bool):∀(l m:List uA),eC key valid (l++m)=eC key valid l++eC key valid m
 | [],m=>rfl
 | x::l,m=>by simp only[List.cons_append,eC,zey key valid l m]
def fL(N N':List (List Nat))(K K':List aA)(code:List XIns)(p:Nat)(l:List XIns):Prop:=∀(k:Nat) (j:XIns),l[k]?=some j->∃x,code[p+k]?=some x/\z4a N N' K K' x j
section
variable {N N':List (List Nat)}{K K':List aA}{code:List XIns}{p:Nat}
theorem fL.nil:fL N N' K K' code p []:=fun k j h=>by simp at h
theorem fL.cons{x j:XIns}{l:List XIns}(hx:code[p]?=some x)(h:z4a N N' K K' x j)(k:fL N N' K K' code (p+1) l):fL N N' K K' code p (j::l):=by
 intro i y hy;rcases i with _ | i
 ·have hy:j=y:=by simpa using hy
  subst hy;exact⟨x,hx,h⟩
 ·obtain⟨z,h1,h2⟩:=k i y (by simpa using hy)
  exact⟨z,by rw[show p+(i+1)=p+1+i by omega];exact h1,h2⟩
theorem fL.append{l m:List XIns}(h:fL N N' K K' code p l)(k:fL N N' K K' code (p+l.length) m):fL N N' K K' code p (l++m):=by
 intro i y hy;rw[List.getElem?_append]at hy;split at hy
 ·exact h i y hy
 ·obtain⟨z,h1,h2⟩:=k (i-l.length) y hy
  exact⟨z,by rw[show p+i=p+l.length+(i-l.length) by omega];exact h1,h2⟩
end
section
variable {key:aA->List Nat}{valid:aA->Bool}{P:aA->Prop}{same:aA->aA->Bool}{N:List (List Nat)}{K:List aA}{code:List XIns}
structure Rdb (valid:aA->Bool) (N:List (List Nat)) (K:List aA) (code:List XIns):Prop where
 names:∀n∈N,n.length<qC/\∀c∈n,c<256
 consts:∀v∈K,v.fit
 sound:∀(i:Nat) x,code[i]?=some x->aF N.length K.length x i code.length=true
 good:∀x∈code,x.op≠13/\(x.op=1->valid (K.getD x.a.toNat eF)=true)
 nums:∀x∈code,i64 x.b
structure xI (key:aA->List Nat) (valid:aA->Bool) (P:aA->Prop) (N:List (List Nat)) (K:List aA) (code:List XIns) (a i:Nat) (st:List uA):Prop where
 fit:uA.fits st
 parts:wG st+a<=i
 rel:∀s,tK key P s->a+(uD (eC key valid st) s a).2.length=i/\∀r,Ext (uD (eC key valid st) s a).1 r->fL N r.names K r.consts code a (uD (eC key valid st) s a).2
theorem uX:∀ {l m:List uA},uA.fits (l++m) ↔ uA.fits l/\uA.fits m
 | [],m=>by simp only[List.nil_append,uA.fits,true_and]
 | x::l,m=>by simp only[List.cons_append,uA.fits,uX (l:=l),and_assoc]
theorem sZ:∀ {l m:List uA},wG (l++m)=wG l+wG m
 | [],m=>by simp[wG]
 | x::l,m=>by simp only[List.cons_append,wG,sZ (l:=l)];omega
theorem zi5{x:uA}:wG [x]=cC x:=by simp[wG]
theorem vX{x:uA}:uA.fits [x] ↔ x.fit:=by simp only[uA.fits,and_true]
theorem vS:eF.fit:=⟨by decide,⟨⟨by decide,by decide⟩,(fun _ h=>by cases h),(fun _ h=>by cases h)⟩,by decide,by decide⟩
structure SgOk (valid:aA->Bool) (op n:Nat) (name:List Nat) (v:aA):Prop where
 hop:op<256
 hname:name.length<qC/\∀c∈name,c<256
 hv:v.fit
 formed:fI valid op v n=true
 n15:op≠15
 n16:op≠16
 n18:op≠18
theorem kS{α:Type}{l:List α}{i:Nat}(h:i<l.length):∃a,l[i]?=some a/\a∈l:=⟨l[i],yae h,ybk h⟩
theorem zct(hr:Rdb valid N K code){i:Nat}{x:XIns}(hx:code[i]?=some x)(hj:¬ (x.op=9\/x.op=10\/x.op=11))(h12:x.op≠12){args:List uA}(hn:(args.length:Int)=dF x) :
  ∃op name v,zG N K x args=.mk op name v args/\SgOk valid op args.length name v ∧
   (∀(s r:Nt),tK key P s->(∀v,v.fit->valid v=true->P v)->(∀u v,P u->P v->key u=key v->u=v)->Ext (dE key op name v args.length s).1 r->z4a N r.names K r.consts x (dE key op name v args.length s).2):=by
 have hs:=hr.sound i x hx
 have hm:=ybw hx
 have hg:=hr.good x hm
 have hi:=hr.nums x hm
 have nm:∀ {n:Nat},n<N.length->∃y,N[n]?=some y/\(y.length<qC/\∀c∈y,c<256):=fun h=>by
  obtain⟨y,h1,h2⟩:=kS h
  exact⟨y,h1,hr.names y h2⟩
 have e0:([]:List Nat).length<qC/\∀c∈([]:List Nat),c<256:=⟨by decide,fun _ h=>by cases h⟩
 unfold aF at hs;unfold dF at hn;unfold zG;by_cases h1:x.op=1
 ·rw[if_pos h1]at hs
  simp only[yac,decide_eq_true_eq]at hs;obtain⟨⟨q1,q2⟩,q3⟩:=hs
  rw[if_neg (by omega),if_neg (by omega),if_neg (by omega),if_neg (by omega)]at hn
  have hl:args.length=0:=by omega
  obtain⟨v,hv1,hv2⟩:=kS (l:=K) (i:=x.a.toNat) (by omega)
  have hval:=hg.2 h1
  rw[qU hv1]at hval;refine⟨1,[],v,by rw[if_pos h1,qU hv1],⟨by decide,e0,hr.consts v hv2,by unfold fI;rw[hl,hval];simp[nG],by decide,by decide,by decide⟩,fun s r hN hP hinj he=>?_⟩
  have he:Ext (s.const key v) r:=he
  refine⟨h1.symm,q3.symm,fun h=>absurd h1 h,fun _=>⟨x.a.toNat,s.constI key v,v,by omega,rfl,hv1,he.constAt (zb6 hinj hN (hP v (hr.consts v hv2) hval))⟩,fun h=>absurd h (by unfold sD;omega)⟩
 rw[if_neg h1]at hs ⊢
 by_cases h3:x.op=3\/x.op=4\/x.op=5
 ·rw[if_pos h3]at hs
  simp only[yac,decide_eq_true_eq]at hs;obtain⟨⟨q1,q2⟩,q3⟩:=hs
  rw[if_neg (by omega),if_neg (by omega),if_neg (by omega),if_pos (by omega)]at hn
  have hl:args.length=1:=by omega
  obtain⟨y,hy1,hy2⟩:=nm (n:=x.a.toNat) (by omega)
  refine⟨x.op,y,eF,by rw[if_pos (by omega),qU hy1],⟨by omega,hy2,vS,?_,by omega,by omega,by omega⟩,fun s r hN hP hinj he=>?_⟩
  ·unfold fI
   rw[hl];rcases h3 with e | e | e<;>rw[e]<;>simp[nG]
  ·unfold dE at he ⊢
   rw[if_neg h1,if_neg (by omega),if_pos h3]at he ⊢
   exact⟨rfl,q3.symm,fun _ h=>absurd (by unfold sD;omega) h,fun h=>absurd h h1,fun _=>⟨x.a.toNat,s.nameI y,y,by omega,rfl,hy1,he.nameAt (zdd s y)⟩⟩
 rw[if_neg h3]at hs;by_cases h6:x.op=6
 ·rw[if_pos h6]at hs
  simp only[yac,ybr,decide_eq_true_eq]at hs;obtain⟨⟨q1,q2⟩,q3⟩:=hs
  rw[if_pos h6]at hn;obtain⟨y,hy1,hy2⟩:=nm (n:=x.a.toNat) (by omega)
  refine⟨6,y,eF,by rw[if_pos (by omega),qU hy1,h6],⟨by decide,hy2,vS,?_,by decide,by decide,by decide⟩,fun s r hN hP hinj he=>?_⟩
  ·unfold fI
   simp[nG];omega
  ·have he:Ext (s.name y) r:=he
   exact⟨h6.symm,hn,fun _ h=>absurd (by unfold sD;omega) h,fun h=>absurd h h1,fun _=>⟨x.a.toNat,s.nameI y,y,by omega,rfl,hy1,he.nameAt (zdd s y)⟩⟩
 rw[if_neg h6]at hs hn;rw[if_neg (by omega)]
 by_cases h8:x.op=8
 ·rw[if_pos h8]at hs
  simp only[yac,decide_eq_true_eq,zay]at hs;obtain⟨⟨q1,q2⟩,q3,q4⟩:=hs
  rw[if_neg (by omega),if_pos h8]at hn
  obtain⟨y,hy1,hy2⟩:=nm (n:=x.a.toNat) (by omega)
  have hb:((x.b%256).toNat:Int)=x.b:=by omega
  rw[if_pos h8,qU hy1];generalize hw:(x.b%256).toNat=w at hn hb ⊢
  have hw2:w=21\/w=22\/w=23:=by omega
  refine⟨w,y,eF,rfl,⟨by omega,hy2,vS,?_,by omega,by omega,by omega⟩,fun s r hN hP hinj he=>?_⟩
  ·unfold fI
   rcases hw2 with e | e | e<;>subst e<;>simp[nG]at hn ⊢<;>omega
  ·unfold dE at he ⊢
   rw[if_neg (by omega),if_neg (by omega),if_neg (by omega),if_neg (by omega),if_pos hw2]at he ⊢
   exact⟨h8.symm,hb,fun _ h=>absurd (by unfold sD;omega) h,fun h=>absurd h h1,fun _=>⟨x.a.toNat,s.nameI y,y,by omega,rfl,hy1,he.nameAt (zdd s y)⟩⟩
 rw[if_neg h8]at hs ⊢
 by_cases h7:x.op=7
 ·rw[if_pos h7]at hs
  simp only[yac,ybr,decide_eq_true_eq,z01]at hs;obtain⟨q1,q2⟩:=hs
  rw[if_pos h7]at hn;have ha:((x.a%256).toNat:Int)=x.a:=by omega
  rw[if_pos h7];generalize hw:(x.a%256).toNat=w at hn ha ⊢
  have hw2:(7<=w/\w<=14)\/w=17\/w=19\/w=20\/(24<=w/\w<=26):=by omega
  refine⟨w,[],⟨0,zpw,x.b⟩,rfl,⟨by omega,e0,⟨by show 0<256;decide,vS.2.1,hi⟩,?_,by omega,by omega,by omega⟩,fun s r hN hP hinj he=>?_⟩
  ·unfold fI
   have key2:∀w:Nat,w<27->((7<=w/\w<=14)\/w=17\/w=19\/w=20\/(24<=w/\w<=26))->(nG w).1=(nG w).2:=by decide
   have:=key2 w (by omega) hw2
   rw[hn,<- this];simp;omega
  ·have hrf:¬ sD x.op:=by unfold sD;omega
   unfold dE;rw[if_neg (by omega),if_neg (by omega),if_neg (by omega),if_neg (by omega),if_neg (by omega)]
   by_cases h19:w=19
   ·rw[if_pos h19]
    exact⟨h7.symm,rfl,fun _ _=>by rw[<- ha,h19];rfl,fun h=>absurd h h1,fun h=>absurd h hrf⟩
   ·rw[if_neg h19]
    exact⟨h7.symm,by show(0:Int)=x.b;omega,fun _ _=>by rw[<- ha],fun h=>absurd h h1,fun h=>absurd h hrf⟩
 rw[if_neg h7]at hs ⊢
 rw[if_neg h7,if_neg h8]at hn;rw[if_neg hj]at hs;split at hs
 ·rename_i h2
  simp only[yac,decide_eq_true_eq]at hs;have h2:x.op=2:=by have:=hg.1;omega
  rw[if_neg (by omega)]at hn
  have hl:args.length=0:=by omega
  refine⟨2,[],eF,rfl,⟨by decide,e0,vS,by unfold fI;rw[hl];simp[nG],by decide,by decide,by decide⟩,fun s r hN hP hinj he=>?_⟩
  exact⟨h2.symm,hs.2.symm,fun _ _=>hs.1.symm,fun h=>absurd h h1,fun h=>absurd h (by unfold sD;omega)⟩
 ·cases hs
theorem z4n(a b:uA)(s:Nt)(p:Nat):vB key valid (.mk 15 [] eF [a,b]) s p=kK key (vB key valid a) (vB key valid b) 10 0 s p:=by
 rw[vB,eC,eC,eC];rfl
theorem trX_or(a b:uA)(s:Nt)(p:Nat):vB key valid (.mk 16 [] eF [a,b]) s p=kK key (vB key valid a) (vB key valid b) 11 1 s p:=by
 rw[vB,eC,eC,eC];rfl
theorem trX_if(a b c:uA)(s:Nt)(p:Nat):vB key valid (.mk 18 [] eF [a,b,c]) s p=ifT (vB key valid a) (vB key valid b) (vB key valid c) s p:=by
 rw[vB,eC,eC,eC,eC];rfl
section
variable (hr:Rdb valid N K code)(hsame:∀a b,same a b=true->a=b)(hinj:∀u v,P u->P v->key u=key v->u=v)(h0:P (rF 0))(h1:P (rF 1))(hP:∀v:aA,v.fit->valid v=true->P v)
include hr hsame hinj h0 h1 hP
theorem xI.nil(a:Nat):xI key valid P N K code a a []:=⟨by unfold uA.fits;trivial,by unfold wG;omega,fun s _=>⟨rfl,fun _ _=>.nil⟩⟩
theorem xI.put{a i i':Nat}{A B:List uA}{y:uA}(h:xI key valid P N K code a i (A++B))(hy:y.fit)(hpa:cC y+i<=wG B+i')
  (hrel:∀s p,tK key P s->p+(uD (eC key valid B) s p).2.length=i->p+(vB key valid y s p).2.length=i'/\∀r,Ext (vB key valid y s p).1 r->(Ext (uD (eC key valid B) s p).1 r)/\(fL N r.names K r.consts code p (uD (eC key valid B) s p).2->fL N r.names K r.consts code p (vB key valid y s p).2)) :
  xI key valid P N K code a i' (A++[y]):=by
 have hf:=uX.1 h.fit
 refine⟨uX.2 ⟨hf.1,vX.2 hy⟩,by have h1:=h.parts;rw[sZ]at h1;rw[sZ,zi5];omega,fun s hs=>?_⟩
 obtain⟨q1,q2⟩:=h.rel s hs
 rw[zey,zcy]at q1 q2 ⊢
 simp only[yah]at q1 q2 ⊢
 have n1:=(zjf (zig (key:=key) (valid:=valid) h0 h1 hP A hf.1) s a hs).1
 obtain⟨g1,g2⟩:=hrel _ (a+(uD (eC key valid A) s a).2.length) n1 (by omega)
 have e:∀(S:Nt) (p:Nat),uD (eC key valid [y]) S p=((vB key valid y S p).1,(vB key valid y S p).2):=fun S p=>by simp[eC,uD]
 rw[e];simp only[];refine⟨by omega,fun r hr=>?_⟩
 obtain⟨g3,g4⟩:=g2 r hr
 have g5:=q2 r g3
 have l1:fL N r.names K r.consts code a (uD (eC key valid A) s a).2:=fun k j hk=>g5 k j (by rw[ybp (yad.1 hk).1];exact hk)
 refine l1.append (g4 fun k j hk=>?_)
 have:=g5 ((uD (eC key valid A) s a).2.length+k) j (by rw[yaq (by omega)];rw[show(uD (eC key valid A) s a).2.length+k-(uD (eC key valid A) s a).2.length=k by omega];exact hk)
 rw[Nat.add_assoc];exact this
theorem xI.single{a i:Nat}{st:List uA}{x:XIns}(h:xI key valid P N K code a i st)(hx:code[i]?=some x)(hj:¬ (x.op=9\/x.op=10\/x.op=11))(h12:x.op≠12)(hp:dF x<=(st.length:Int))(hp0:0<=dF x) :
  xI key valid P N K code a (i+1) (st.take (st.length-(dF x).toNat)++[zG N K x (st.drop (st.length-(dF x).toNat))]):=by
 have hst:st=st.take (st.length-(dF x).toNat)++st.drop (st.length-(dF x).toNat):=(List.take_append_drop _ _).symm
 have hlen:((st.drop (st.length-(dF x).toNat)).length:Int)=dF x:=by rw[yck];omega
 obtain⟨op,name,v,e1,e2,e3⟩:=zct (key:=key) (P:=P) hr hx hj h12 hlen
 rw[hst]at h;rw[e1];have hf:=(uX.1 h.fit).2
 generalize st.drop (st.length-(dF x).toNat)=B at hst h hlen e1 e2 e3 hf ⊢
 generalize st.take (st.length-(dF x).toNat)=A at hst h ⊢
 refine xI.put hr hsame hinj h0 h1 hP h ?_ (by unfold cC;omega) fun s p hs hpl=>?_
 ·unfold uA.fit
  refine⟨e2.hop,e2.hname.1,e2.hname.2,e2.hv,?_,hf⟩
  have hpop:dF x<=3:=by
   have hso:=hr.sound i x hx
   have hh:=e2.formed
   unfold fI at hh;simp only[yac,decide_eq_true_eq]at hh;have h2:=hh.2
   have key2:∀o:Nat,(nG o).2<=3:=by
    intro o;unfold nG;split
    ·decide
    ·split
     ·decide
     ·split
      ·decide
      ·split
       ·decide
       ·split
        ·decide
        ·split
         ·decide
         ·split
          ·decide
          ·split<;>decide
   have:=key2 op
   omega
  show B.length<qC
  unfold qC;omega
 ·have et:vB key valid (.mk op name v B) s p=((dE key op name v B.length (uD (eC key valid B) s p).1).1,(uD (eC key valid B) s p).2++[(dE key op name v B.length (uD (eC key valid B) s p).1).2]):=by
   have hfm:=e2.formed
   unfold vB mI;rw[zgi];rw[if_neg (by rw[hfm];simp),if_neg e2.n15,if_neg e2.n16,if_neg e2.n18]
  rw[et];simp only[yah,yao,yay];have n2:=(zjf (zig (key:=key) (valid:=valid) h0 h1 hP B hf) s p hs).1
  refine⟨by omega,fun r hr2=>⟨(zpb _ _ _ _ _).trans hr2,fun hc=>hc.append (.cons (x:=x) (by rw[hpl];exact hx) (e3 _ r n2 hP hinj hr2) .nil)⟩⟩
theorem xI.one{a i:Nat}{y:uA}(h:xI key valid P N K code a i [y]):(y.fit/\cC y+a<=i)/\∀s,tK key P s->a+(vB key valid y s a).2.length=i/\∀r,Ext (vB key valid y s a).1 r->fL N r.names K r.consts code a (vB key valid y s a).2:=by
 refine⟨⟨vX.1 h.fit,by have:=h.parts;rw[zi5]at this;exact this⟩,fun s hs=>?_⟩
 obtain⟨q1,q2⟩:=h.rel s hs
 have e:uD (eC key valid [y]) s a=((vB key valid y s a).1,(vB key valid y s a).2):=by simp[eC,uD]
 rw[e]at q1 q2;exact⟨q1,q2⟩
theorem zy6{y:uA}(hy:y.fit):cJ key P (vB key valid y):=z2f h0 h1 hP y hy
theorem zsv{y:uA}(hy:y.fit)(s:Nt)(p:Nat):Ext s (vB key valid y s p).1:=(zk7 hinj h0 h1 hP y hy).ext s p
theorem z5j{r:Option (List uA)}{y:uA}(h:bK r=some y):r=some [y]:=by
 unfold bK at h;split at h
 ·cases h;rfl
 ·cases h
theorem sY:∀(f i to:Nat) (st st':List uA) (a:Nat),gH N K code same f i to st=some st'->to<=code.length->i<=to->xI key valid P N K code a i st->xI key valid P N K code a to st'
 | 0,_,_,_,_,_,h,_,_,_=>by unfold gH at h;cases h
 | f+1,i,to,st,st',a,h,hto,hle,hrel=>by
  have sub:∀ {b c:Nat} {y:uA},bK (gH N K code same f b c [])=some y->c<=code.length->b<=c/\xI key valid P N K code b c [y]:=fun {b c y} e hc=>by
   have e:=z5j hr hsame hinj h0 h1 hP e
   have hbc:b<=c:=by
    rcases Nat.lt_or_ge c b with hlt | hge
    ·cases f with
     | zero=>unfold gH at e;cases e
     | succ f=>unfold gH at e;rw[if_pos (by omega)]at e;cases e
    ·exact hge
   exact⟨hbc,sY f b c [] [y] b e hc hbc (xI.nil hr hsame hinj h0 h1 hP b)⟩
  unfold gH at h;by_cases c:to<=i
  ·rw[if_pos c]at h
   cases h;rw[show to=i by omega];exact hrel
  rw[if_neg c]at h
  cases hx:code[i]? with
  | none=>rw[hx]at h;cases h
  | some x=>
   rw[hx]at h;simp only[]at h;have hso:=hr.sound i x hx
   by_cases hj:x.op=9\/x.op=10\/x.op=11
   ·rw[if_pos hj]at h
    cases ht:st.getLast? with
    | none=>rw[ht]at h;cases h
    | some top=>
     rw[ht]at h;simp only[]at h;have hst:st=st.dropLast++[top]:=by
      have hne:st≠[]:=by intro e;rw[e]at ht;cases ht
      have:=List.dropLast_concat_getLast hne
      rw[List.getLast?_eq_some_getLast hne]at ht;rw[<- ybj ht];exact this.symm
     cases hb:fQ K code same (fun a b=>bK (gH N K code same f a b [])) top i to with
     | none=>rw[hb]at h;cases h
     | some q=>
      rw[hb]at h;simp only[]at h;rw[hst]at hrel;suffices hh:xI key valid P N K code a q.2 (st.dropLast++[q.1])/\q.2<=to by
       exact sY f q.2 to _ st' a h hto hh.2 hh.1
      have htop:=vX.1 (uX.1 hrel.fit).2
      have hxa:(i:Int)<x.a/\x.a<=code.length/\x.b=0:=by
       unfold aF at hso;rw[if_neg (by omega),if_neg (by omega),if_neg (by omega),if_neg (by omega),if_neg (by omega),if_pos hj]at hso
       simpa[and_assoc]using hso
      have hrx:¬ sD x.op:=by unfold sD;omega
      unfold fQ at hb;rw[hx]at hb;simp only[]at hb;by_cases c9:x.op=9
      ·rw[if_pos c9]at hb;cases hb
      rw[if_neg c9]at hb;by_cases c2:x.a<(i:Int)+2
      ·rw[if_pos c2]at hb;cases hb
      rw[if_neg c2]at hb;by_cases c3:(to:Int)<=x.a
      ·rw[if_pos c3]at hb;cases hb
      rw[if_neg c3]at hb;obtain⟨T,hT⟩:∃T:Nat,x.a=(T:Int):=⟨x.a.toNat,by omega⟩
      have hTn:x.a.toNat=T:=by omega
      rw[hTn]at hb;obtain⟨j,hj1,_⟩:=kS (l:=code) (i:=T-1) (by omega)
      obtain⟨k,hk1,_⟩:=kS (l:=code) (i:=T-2) (by omega)
      obtain⟨l,hl1,_⟩:=kS (l:=code) (i:=T) (by omega)
      rw[hj1,hk1,hl1]at hb;simp only[]at hb;by_cases d1:j.op≠9
      ·rw[if_pos d1]at hb;cases hb
      rw[if_neg d1]at hb;have d1:j.op=9:=by omega
      by_cases d2:(to:Int)<j.a
      ·rw[if_pos d2]at hb;cases hb
      rw[if_neg d2]at hb;have hjs:=hr.sound _ j hj1
      have hja:((T-1:Nat):Int)<j.a/\j.a<=code.length/\j.b=0:=by
       unfold aF at hjs;rw[if_neg (by omega),if_neg (by omega),if_neg (by omega),if_neg (by omega),if_neg (by omega),if_pos (by omega)]at hjs
       simpa[and_assoc]using hjs
      have eqT:∀(S:Nt) (p:Nat),uD (eC key valid [top]) S p=((vB key valid top S p).1,(vB key valid top S p).2):=fun S p=>by simp[eC,uD]
      by_cases d3:k.op=12
      ·rw[if_pos d3]at hb
       have hks:=hr.sound _ k hk1
       have hka:k.a=0/\k.b=0:=by
        unfold aF at hks;rw[if_neg (by omega),if_neg (by omega),if_neg (by omega),if_neg (by omega),if_neg (by omega),if_neg (by omega),if_pos (by omega)]at hks
        simpa using hks
       cases hy:bK (gH N K code same f (i+1) (T-2) [])with
       | none=>rw[hy]at hb;cases hb
       | some y=>
        rw[hy]at hb;simp only[]at hb;obtain⟨g1,g2⟩:=sub hy (by omega)
        obtain⟨⟨g3,gp⟩,g4⟩:=xI.one hr hsame hinj h0 h1 hP g2
        by_cases hc:j.a=x.a+1/\l.op=1/\same (K.getD l.a.toNat eF) (rF (if x.op=11 then 1 else 0))=true
        ·rw[if_pos hc]at hb
         cases hb;obtain⟨hc1,hc2,hc3⟩:=hc
         have hls:=hr.sound _ l hl1
         have hla:0<=l.a/\l.a<K.length/\l.b=0:=by
          unfold aF at hls;rw[if_pos hc2]at hls;simpa[and_assoc]using hls
         obtain⟨v,hv1,hv2⟩:=kS (l:=K) (i:=l.a.toNat) (by omega)
         rw[qU hv1]at hc3;have hv:=hsame _ _ hc3
         refine⟨?_,by show j.a.toNat<=to;omega⟩
         have e2:j.a.toNat=T+1:=by omega
         show xI key valid P N K code a j.a.toNat (st.dropLast++[.mk (if x.op=11 then 16 else 15) [] eF [top,y]])
         rw[e2];have conn:∀(o skip:Nat) (truth:Int),(∀s p,vB key valid (.mk o [] eF [top,y]) s p=kK key (vB key valid top) (vB key valid y) skip truth s p)->o<256->x.op=skip->skip=10\/skip=11->v=rF truth->P (rF truth)->xI key valid P N K code a (T+1) (st.dropLast++[.mk o [] eF [top,y]]):=by
          intro o skip truth he ho hsk hsk2 hvt hPt;refine xI.put hr hsame hinj h0 h1 hP hrel ?_ (by simp only[cC,wG];omega) fun s p hs hpl=>?_
          ·unfold uA.fit uA.fits
           exact⟨ho,by decide,(fun _ h=>by cases h),vS,by show 2<qC;decide,htop,vX.2 g3⟩
          rw[eqT]at hpl ⊢
          simp only[]at hpl ⊢
          rw[he];have n1:=(zy6 hr hsame hinj h0 h1 hP htop s p hs).1
          have hpl2:p+(vB key valid top s p).2.length+1=i+1:=by omega
          obtain⟨g5,g6⟩:=g4 (vB key valid top s p).1 n1
          have n2:=(zy6 hr hsame hinj h0 h1 hP g3 _ (i+1) n1).1
          unfold kK;simp only[hpl2];simp only[yah,yao,yay];refine⟨by omega,fun r hr2=>?_⟩
          have x1:=(tX (key:=key) (vB key valid y (vB key valid top s p).1 (i+1)).1 (rF truth)).trans hr2
          have x2:=(zsv hr hsame hinj h0 h1 hP g3 (vB key valid top s p).1 (i+1)).trans x1
          refine⟨x2,fun hcd=>hcd.append ?_⟩
          have r3:¬ sD 12:=by unfold sD;decide
          have r4:¬ sD 9:=by unfold sD;decide
          refine .cons (x:=x) (by rw[hpl];exact hx) ⟨hsk.symm,hxa.2.2.symm,fun _ _=>by show((i+1+(vB key valid y (vB key valid top s p).1 (i+1)).2.length+2:Nat):Int)=x.a;omega,fun h=>by omega,fun h=>absurd h hrx⟩ ?_
          rw[show p+(vB key valid top s p).2.length+1=i+1 by omega]
          refine(g6 r x1).append ?_
          rw[g5];refine .cons (x:=k) hk1 ⟨d3.symm,hka.2.symm,fun _ _=>hka.1.symm,fun h=>by omega,fun h=>absurd h (by rw[d3];exact r3)⟩ ?_
          refine .cons (x:=j) (by rw[show T-2+1=T-1 by omega];exact hj1) ⟨d1.symm,hja.2.2.symm,fun _ _=>by show((T-2+3:Nat):Int)=j.a;omega,fun h=>by omega,fun h=>absurd h (by rw[d1];exact r4)⟩ ?_
          refine .cons (x:=l) (by rw[show T-2+1+1=T by omega];exact hl1) ⟨hc2.symm,hla.2.2.symm,fun h=>absurd hc2 h,fun _=>⟨l.a.toNat,_,v,by omega,rfl,hv1,?_⟩,fun h=>absurd h (by rw[hc2];unfold sD;decide)⟩ .nil
          rw[hvt];exact hr2.constAt (zb6 hinj n2 hPt)
         by_cases c11:x.op=11
         ·rw[if_pos c11]at hv ⊢
          exact conn 16 11 1 (fun s p=>trX_or top y s p) (by decide) c11 (.inr rfl) hv h1
         ·rw[if_neg c11]at hv ⊢
          exact conn 15 10 0 (fun s p=>z4n top y s p) (by decide) (by omega) (.inl rfl) hv h0
        ·rw[if_neg hc]at hb;cases hb
      ·rw[if_neg d3]at hb
       cases hy:bK (gH N K code same f (i+1) (T-1) [])with
       | none=>rw[hy]at hb;cases hb
       | some y=>
        rw[hy]at hb;simp only[]at hb;by_cases c10:x.op≠10
        ·rw[if_pos c10]at hb;cases hb
        rw[if_neg c10]at hb;have c10:x.op=10:=by omega
        cases hz:bK (gH N K code same f T j.a.toNat [])with
        | none=>rw[hz]at hb;cases hb
        | some z=>
         rw[hz]at hb
         cases hb;obtain⟨g1,g2⟩:=sub hy (by omega)
         obtain⟨⟨g3,gp⟩,g4⟩:=xI.one hr hsame hinj h0 h1 hP g2
         obtain⟨m1,m2⟩:=sub hz (by omega)
         obtain⟨⟨m3,mp⟩,m4⟩:=xI.one hr hsame hinj h0 h1 hP m2
         refine⟨?_,by show j.a.toNat<=to;omega⟩
         show xI key valid P N K code a j.a.toNat (st.dropLast++[.mk 18 [] eF [top,y,z]])
         refine xI.put hr hsame hinj h0 h1 hP hrel ?_ (by simp only[cC,wG];omega) fun s p hs hpl=>?_
         ·unfold uA.fit uA.fits
          exact⟨by decide,by decide,(fun _ h=>by cases h),vS,by show 3<qC;decide,htop,by unfold uA.fits;exact⟨g3,vX.2 m3⟩⟩
         rw[eqT]at hpl ⊢
         simp only[]at hpl ⊢
         rw[trX_if];have n1:=(zy6 hr hsame hinj h0 h1 hP htop s p hs).1
         have hpl2:p+(vB key valid top s p).2.length+1=i+1:=by omega
         obtain⟨g5,g6⟩:=g4 (vB key valid top s p).1 n1
         have n2:=(zy6 hr hsame hinj h0 h1 hP g3 _ (i+1) n1).1
         unfold ifT;simp only[hpl2];have hpl3:i+1+(vB key valid y (vB key valid top s p).1 (i+1)).2.length+1=T:=by omega
         simp only[hpl3];obtain⟨m5,m6⟩:=m4 (vB key valid y (vB key valid top s p).1 (i+1)).1 n2
         simp only[yah,yao];refine⟨by omega,fun r hr2=>?_⟩
         have x1:=(zsv hr hsame hinj h0 h1 hP m3 (vB key valid y (vB key valid top s p).1 (i+1)).1 T).trans hr2
         have x2:=(zsv hr hsame hinj h0 h1 hP g3 (vB key valid top s p).1 (i+1)).trans x1
         refine⟨x2,fun hcd=>hcd.append ?_⟩
         refine .cons (x:=x) (by rw[hpl];exact hx) ⟨c10.symm,hxa.2.2.symm,fun _ _=>hT.symm,fun h=>by omega,fun h=>absurd h hrx⟩ ?_
         rw[show p+(vB key valid top s p).2.length+1=i+1 by omega]
         refine(g6 r x1).append ?_
         rw[g5];refine .cons (x:=j) hj1 ⟨d1.symm,hja.2.2.symm,fun _ _=>by show((T+(vB key valid z (vB key valid y (vB key valid top s p).1 (i+1)).1 T).2.length:Nat):Int)=j.a;omega,fun h=>by omega,fun h=>absurd h (by rw[d1];unfold sD;decide)⟩ ?_
         rw[show T-1+1=T by omega];exact m6 r hr2
   ·rw[if_neg hj]at h
    by_cases hp:x.op=12\/(st.length:Int)<dF x
    ·rw[if_pos hp]at h;cases h
    rw[if_neg hp]at h;have hp0:0<=dF x:=by
     unfold dF;have key2:∀o:Nat,0<=(nG o).1:=by
      intro o;unfold nG;split
      ·decide
      ·split
       ·decide
       ·split
        ·decide
        ·split
         ·decide
         ·split
          ·decide
          ·split
           ·decide
           ·split
            ·decide
            ·split<;>decide
     by_cases h6:x.op=6
     ·rw[if_pos h6]
      unfold aF at hso;rw[if_neg (by omega),if_neg (by omega),if_pos h6]at hso
      simp only[yac,ybr,decide_eq_true_eq]at hso;omega
     ·rw[if_neg h6]
      split
      ·exact key2 _
      ·split
       ·exact key2 _
       ·split<;>omega
    exact sY f (i+1) to _ st' a h hto (by omega) (xI.single hr hsame hinj h0 h1 hP hrel hx hj (by omega) (by omega) hp0)
end
end
end Go.Am
namespace Go.Proofs
open Go Go.Am
variable [dC]
variable {t tf:Tr jA}
mutual
theorem z31:∀(x:uA) (cs:List zA) (d:Nat) (t:Tr jA) (Q:cB),uA.cpy x->d<1000000->RD t x.d cs->Q (.bool (decide (d<jQ x))) t->Wc yA F 32 [.agg cs,.int .i64 (d:Int)] t Q
 | .mk op name v args,cs,d,t,Q,h,hd,hr,hQ=>by
  obtain⟨a,b,c,rfl,ha,hb,hc⟩:=cK hr
  simp only[uA.op,uA.name,uA.v,uA.args]at ha hb hc ⊢
  unfold uA.cpy at h;refine w32 _ _ _ _ _ _ _ _ _ _ ?_
  simp only[t32];unfold jQ at hQ;by_cases h0:d=0
  ·refine qE (xF.2 (by omega)) ?_
   rw[decide_eq_true (by omega:d<1+iQ args)]at hQ
   exact hQ
  ·refine qH (fun e=>by have:=xF.1 e;omega) (sR ?_)
   exact zxs args args op name v a b c 0 d t Q hc rfl h.2.2 h.2.1 (by omega) hd hQ
theorem zxs:∀(l args:List uA) (op:Nat) (name:List Nat) (v:aA) (a b c:zA) (i d:Nat) (t:Tr jA) (Q:cB),oA t 9 (args.map uA.d) c->args.drop i=l->uA.cpys l->args.length<300000->0<d->d<1000000->Q (.bool (decide (d<1+iQ l))) t →
  jp 32 2 [.int .i64 (d:Int),.int .i64 (i:Int),.int .u8 (op:Int),.str name,.int .u8 (v.kind:Int),.bool v.f.n.neg,a,.bool v.f.d.neg,b,.int .i64 v.i,c] t Q
 | [],args,op,name,v,a,b,c,i,d,t,Q,hc,hl,_,hn,h0,hd,hQ=>by
  have:=lU hl
  refine j32_2 _ _ _ _ _ _ _ _ _ _ _ ?_
  simp only[z40];refine pD hc.len (aE (qH (fun e=>by have:=mB.1 e;rw[yag]at this;omega) ?_))
  unfold iQ at hQ;rw[decide_eq_false (by omega:¬ d<1+0)]at hQ
  exact hQ
 | x::l,args,op,name,v,a,b,c,i,d,t,Q,hc,hl,hcp,hn,h0,hd,hQ=>by
  obtain⟨h1,h2,h3⟩:=kU hl
  unfold uA.cpys at hcp;obtain⟨q,off,a1,b1,c1,g1,g2,g3,g4,_⟩:=mU hc h1
  refine j32_2 _ _ _ _ _ _ _ _ _ _ _ ?_
  simp only[z40];refine pD hc.len (aE (qE (mB.2 (by rw[yag];omega)) (pD g1 (bH g2 (yQ g4 (zO ?_))))))
  rw[q32,fB (n:=(d:Int)-1) (by omega) (by omega),show(d:Int)-1=((d-1:Nat):Int) by omega]
  refine z31 x _ (d-1) t _ hcp.1 (by omega) g3 (zcm ?_)
  unfold iQ at hQ;by_cases hx:d-1<jQ x
  ·refine qE (decide_eq_true hx) ?_
   rw[decide_eq_true (by omega)]at hQ
   exact hQ
  ·refine qH (by simpa using hx) (sR ?_)
   rw[fB (by omega) (by omega),show(i:Int)+1=((i+1:Nat):Int) by omega]
   refine zxs l args op name v a b c (i+1) d t Q hc h2 hcp.2 hn h0 hd ?_
   have e:decide (d<1+iQ l)=decide (d<1+max (jQ x) (iQ l)):=by
    congr 1
    apply propext
    omega
   rw[e];exact hQ
end
theorem zrb{g:aM}(hg:g.fit){code:List XIns}(hcode:code∈g.whens){x:uA}(h:zrc g.names g.consts code=some x) :
  (x.fit/\cC x<=code.length)/\(vB dA rB x ⟨[],[]⟩ 0).2.length=code.length/\∀r,Ext (vB dA rB x ⟨[],[]⟩ 0).1 r->fL g.names r.names g.consts r.consts code 0 (vB dA rB x ⟨[],[]⟩ 0).2:=by
 have h0:zmd (rF 0):=fX (by decide) (by decide)
 have h1:zmd (rF 1):=fX (by decide) (by decide)
 have hP:∀v:aA,v.fit->rB v=true->zmd v:=fun v a b=>⟨b,a⟩
 unfold zrc at h;split at h
 ·cases h
 rename_i hs;split at h
 ·cases h
 rename_i hb;have hs:rS g.names.length g.consts.length code=true:=by simpa using hs
 obtain⟨_,hs2⟩:=zao hs
 have hr:Rdb rB g.names g.consts code:=by
  refine⟨hg.names,hg.consts,hs2,fun y hy=>?_,fun y hy=>((hg.ins code (.inl hcode)).2 y hy).2.2⟩
  have hb2:zro g.consts y=false:=by
   cases hq:zro g.consts y with
   | false=>rfl
   | true=>exact absurd (List.any_eq_true.2 ⟨y,hy,hq⟩) hb
  unfold zro at hb2;rw[Bool.or_eq_false_iff]at hb2;refine⟨by simpa using hb2.1,fun e=>?_⟩
  have:=hb2.2
  rw[e]at this;simpa using this
 have hsm:∀a b,kJ a b=true->a=b:=fun a b e=>zzw e
 have e:=zc9 h
 have rel:=sY (key:=dA) (P:=zmd) hr hsm zb0 h0 h1 hP _ 0 code.length [] [x] 0 e (yal _) (Nat.zero_le _) (xI.nil hr hsm zb0 h0 h1 hP 0)
 obtain⟨f1,f2⟩:=xI.one hr hsm zb0 h0 h1 hP rel
 obtain⟨f3,f4⟩:=f2 ⟨[],[]⟩ ⟨by simp,by simp,fun _ h=>(by cases h)⟩
 exact⟨⟨f1.1,by have:=f1.2;omega⟩,by omega,f4⟩
theorem za5{b:Nat}{x:XIns}(h:xD t b none x.cells):(pB yA 54 0 (.ptr b 0)=some (.ptr b 0)/\mA yA 5 ⟨0,t⟩ (.ptr b 0)=some (.int .u8 x.op))/\(pB yA 54 1 (.ptr b 0)=some (.ptr b 1)/\mA yA 3 ⟨0,t⟩ (.ptr b 1)=some (.int .i64 x.a)) ∧
  (pB yA 54 2 (.ptr b 0)=some (.ptr b 2)/\mA yA 3 ⟨0,t⟩ (.ptr b 2)=some (.int .i64 x.b)):=
 ⟨⟨by kernel_rfl,h.load1 ty5 rfl rfl⟩,⟨by kernel_rfl,h.load1 ty3 rfl rfl⟩,⟨by kernel_rfl,h.load1 ty3 rfl rfl⟩⟩
section
variable {b1 b2:Nat}{x y:XIns}{K:T}{Q:cB}{N N':List (List Nat)}{u u':zA}
theorem fW(h1:xD t b1 none x.cells)(h2:xD t b2 none y.cells)(hn:oA t 1 (N.map D.str) u)(hn':oA t 1 (N'.map D.str) u'){k k':Nat}{n:List Nat}(e1:x.a=(k:Int))(e2:y.a=(k':Int))(e3:N[k]?=some n)(e4:N'[k']?=some n)(hK:wp 11 K t Q) :
  wp 11 (.opt (pB yA 54 1 (.ptr b1 0)) fun a43=>.light (fun m=>mA yA 3 ⟨0,m⟩ a43) fun a44=>.asI .i64 a44 fun n45=>.opt (zB yA 30 u (.int .i64 n45)) fun a46=>.light (fun m=>mA yA 9 ⟨0,m⟩ a46) fun a47=>.asS a47 fun s48=>.opt (pB yA 54 1 (.ptr b2 0)) fun a49=>.light (fun m=>mA yA 3 ⟨0,m⟩ a49) fun a50=>.asI .i64 a50 fun n51=>.opt (zB yA 30 u' (.int .i64 n51)) fun a52=>.light (fun m=>mA yA 9 ⟨0,m⟩ a52) fun a53=>.asS a53 fun s54=>.ite (!eI s48 s54)
 (.ret (.bool false)) K) t Q:=by
 obtain⟨_,⟨f1,f2⟩,_⟩:=za5 h1
 obtain⟨_,⟨f3,f4⟩,_⟩:=za5 h2
 obtain⟨p,o,cs,g1,g2,_,_,g5⟩:=jE.at sl30 (fun _=>rfl) hn (i:=k) (d:=.str n) (by simp[e3])
 obtain⟨p',o',cs',g1',g2',_,_,g5'⟩:=jE.at sl30 (fun _=>rfl) hn' (i:=k') (d:=.str n) (by simp[e4])
 rw[zN]at g5 g5'
 subst g5 g5'
 refine pD f1 (bH f2 (aE ?_))
 rw[e1];refine pD g1 (bH g2 (zt4 (pD f3 (bH f4 (aE ?_)))))
 rw[e2];exact pD g1' (bH g2' (zt4 (qH (by rw[(lO _ _).2 rfl];simp) hK)))
theorem z0f(h1:xD t b1 none x.cells)(h2:xD t b2 none y.cells)(e:y.a=x.a)(hK:wp 11 K t Q) :
  wp 11 (.opt (pB yA 54 1 (.ptr b1 0)) fun a55=>.light (fun m=>mA yA 3 ⟨0,m⟩ a55) fun a56=>.asI .i64 a56 fun n57=>.opt (pB yA 54 1 (.ptr b2 0)) fun a58=>.light (fun m=>mA yA 3 ⟨0,m⟩ a58) fun a59=>.asI .i64 a59 fun n60=>.ite (!wA n57 n60)
 (.ret (.bool false)) K) t Q:=by
 obtain⟨_,⟨f1,f2⟩,_⟩:=za5 h1
 obtain⟨_,⟨f3,f4⟩,_⟩:=za5 h2
 refine pD f1 (bH f2 (aE (pD f3 (bH f4 (aE (qH (fun h=>?_) hK))))))
 rw[e]at h;exact zI.1 h rfl
end
theorem zu8{code code':List XIns}{names names':List (List Nat)}{consts consts':List aA}{whens':List (List XIns)}{nm nm':List Nat}{a b c a' b' c' vn vc vw vt vn' vc' vw' vt' v5:zA}
  (h5:oA tf 3 (code.map XIns.d) v5) (hn:oA tf 1 (names.map D.str) vn) (hc:oA tf 6 (consts.map aA.d) vc) (hn':oA tf 1 (names'.map D.str) vn') (hc':oA tf 6 (consts'.map aA.d) vc') (hw':oA tf 1 (whens'.map aD) vw') (h0:whens'[0]?=some code')
  (hl:code'.length=code.length) (hsz:code.length<1000000) (hfit:∀v∈consts,gF.fit v.f) (hat:fL names names' consts consts' code 0 code') :
  ∀(m i:Nat) (t:Tr jA),i+m=code.length->cA tf t->jp 11 2 [v5,.int .i64 (i:Int),.str nm,a,b,c,vn,vc,vw,vt,.str nm',a',b',c',vn',vc',vw',vt'] t (fun v _=>v=.bool true):=by
 intro m;induction m with
 | zero=>
  intro i t hi ht;refine j11_2 _ _ _ _ _ _ _ _ _ _ _ _ _ _ _ _ _ _ ?_
  simp only[z47];exact pD (h5.mono ht).len (aE (qH (fun e=>by have:=mB.1 e;rw[yag]at this;omega) rfl))
 | succ m ih=>
  intro i t hi ht;have hlt:i<code.length:=by omega
  obtain⟨y,hy,_⟩:=kS (l:=code') (i:=i) (by omega)
  obtain⟨x,hx,hr⟩:=hat i y hy
  rw[yax]at hx;refine j11_2 _ _ _ _ _ _ _ _ _ _ _ _ _ _ _ _ _ _ ?_
  simp only[z47];obtain⟨p1,o1,x1,x2,_⟩:=rQ (h5.mono ht) hx
  obtain⟨p2,o2,u2,x3,x4,x5,_⟩:=bV hw' ht h0
  obtain⟨p3,o3,x6,x7,_⟩:=rQ (x5.mono ht) hy
  have zi:∀z:XIns,qG [(.int .u8 0),(.int .i64 0),(.int .i64 0)] (.agg z.cells)=some (cellsOf z.cells):=fun z=>jL (t:=t) (zoe.2 rfl) rfl
  refine pD (h5.mono ht).len (aE (qE (mB.2 (by rw[yag];omega)) (pD x1 (bH x2 (yQ (zi x) (pD x3 (bH x4 (pD x6 (bH x7 (yQ (zi y) ?_))))))))))
  refine rW fun b1 hb1 hbb1=>?_
  obtain⟨t1,k1,k2,k3,k4⟩:=uT (C:=yA) z2c hb1
  refine⟨_,_,k1,rW fun b2 hb2 hbb2=>?_⟩
  obtain⟨t2,m1,m2,m3,m4⟩:=uT (C:=yA) z2c hb2
  have hne:b1≠b2:=by
   intro e;obtain⟨q,hq,_⟩:=k2
   rw[<- e]at hb2;have hb2:t1.get b1=none:=hb2
   rw[hq]at hb2;cases hb2
  refine⟨_,_,m1,rW fun n1 _ _=>?_⟩
  have c1:xD t2 b1 none [.int .u8 0,.int .i64 0,.int .i64 0]:=k2.off (m4 b1 hne)
  obtain⟨t3,s1,s2,s3⟩:=c1.store (C:=yA) hbb1 (j:=0) (v:=.agg x.cells) z2c rfl (by show 0+3<=3;decide) (by rfl)
  refine⟨_,_,s1 n1,?_⟩
  have e1:zJ [.int .u8 0,.int .i64 0,.int .i64 0] 0 (zA.agg x.cells).cells=x.cells:=rfl
  rw[e1]at s2;have T2:cA tf t2:=ht.trans (k3.trans m3)
  have n1f:tf.get b1=none:=by
   cases hq:tf.get b1 with
   | none=>rfl
   | some z=>rw[ht _ _ hq]at hb1;cases hb1
  have n2f:tf.get b2=none:=by
   cases hq:tf.get b2 with
   | none=>rfl
   | some z=>rw[(ht.trans k3) _ _ hq]at hb2;cases hb2
  have T3:cA tf t3:=T2.off n1f s3
  have c2:xD t3 b2 none [.int .u8 0,.int .i64 0,.int .i64 0]:=m2.off (s3 b2 (Ne.symm hne))
  obtain⟨p2',o2',u2',y3,y4,_⟩:=bV hw' (cA.refl tf) h0
  have L3:mA yA 37 ⟨0,t3⟩ (.ptr p2 o2)=some u2:=by
   rw[x3]at y3;cases y3
   have e:=wN (H:=⟨0,tf⟩) (HA:=⟨0,t⟩) (fun _ _ h=>ht _ _ h) y4
   rw[x4]at e;cases e
   exact wN (H:=⟨0,tf⟩) (HA:=⟨0,t3⟩) (fun _ _ h=>T3 _ _ h) y4
  have L4:mA yA 54 ⟨0,t3⟩ (.ptr p3 o3)=some (.agg y.cells):=by
   obtain⟨p3',o3',z6,z7,_⟩:=rQ x5 hy
   rw[x6]at z6;cases z6
   exact wN (H:=⟨0,tf⟩) (HA:=⟨0,t3⟩) (fun _ _ h=>T3 _ _ h) z7
  refine qE hw'.same (bH L3 (qE x5.same (bH L4 (qE (zzv fun z hz d=>?_) ?_))))
  ·simp only[XIns.cells,yat,List.not_mem_nil,or_false]at hz
   rcases hz with rfl | rfl | rfl<;>exact aL
  refine rW fun n2 _ _=>?_
  obtain⟨t4,r1,r2,r3⟩:=c2.store (C:=yA) hbb2 (j:=0) (v:=.agg y.cells) z2c rfl (by show 0+3<=3;decide) (by rfl)
  refine⟨_,_,r1 n2,?_⟩
  have e2:zJ [.int .u8 0,.int .i64 0,.int .i64 0] 0 (zA.agg y.cells).cells=y.cells:=rfl
  rw[e2]at r2;have T4:cA tf t4:=T3.off n2f r3
  have C1:xD t4 b1 none x.cells:=s2.off (r3 b1 hne)
  have C2:xD t4 b2 none y.cells:=r2
  obtain⟨⟨f1,f2⟩,⟨f3,f4⟩,⟨f5,f6⟩⟩:=za5 C1
  obtain⟨⟨g1,g2⟩,⟨g3,g4⟩,⟨g5,g6⟩⟩:=za5 C2
  have next:wp 11 (.jump 2 [v5,.int .i64 (vA .i64 ((i:Int)+1)),.str nm,a,b,c,vn,vc,vw,vt,.str nm',a',b',c',vn',vc',vw',vt']) t4 (fun v _=>v=.bool true):=by
   refine sR ?_
   rw[fB (by omega) (by omega)]
   exact ih (i+1) t4 (by omega) T4
  refine pD f1 (bH f2 (aE (pD g1 (bH g2 (aE (qH (fun h=>?_) ?_))))))
  ·rw[hr.op]at h;exact zI.1 h rfl
  refine pD f5 (bH f6 (aE (pD g5 (bH g6 (aE (qH (fun h=>?_) ?_))))))
  ·rw[hr.b]at h;exact zI.1 h rfl
  refine pD f1 (bH f2 (aE ?_))
  have nam:sD x.op->∃(k k':Nat) (n:List Nat),x.a=(k:Int)/\y.a=(k':Int)/\names[k]?=some n/\names'[k']?=some n:=hr.name
  have hN:=hn.mono T4
  have hN':=hn'.mono T4
  by_cases q1:x.op=1
  ·refine qE (cD.2 (by omega)) ?_
   obtain⟨k,k',v,e3,e4,e5,e6⟩:=hr.const q1
   obtain⟨pa,oa,ca,w1,w2,_,_,w5⟩:=jE.at sl31 (by simp) (hc.mono T4) (i:=k) (d:=v.d) (by simp[e5])
   obtain⟨pb,ob,cb,w6,w7,_,_,w8⟩:=jE.at sl31 (by simp) (hc'.mono T4) (i:=k') (d:=v.d) (by simp[e6])
   have z1:=jL w5 (aA.zs v)
   have z2:=jL w8 (aA.zs v)
   obtain⟨va,vb,rfl,hva,hvb⟩:=zc1 w5
   obtain⟨va',vb',rfl,hva',hvb'⟩:=zc1 w8
   refine pD f3 (bH f4 (aE ?_))
   rw[e3];refine pD w1 (bH w2 (yQ z1 (pD g3 (bH g4 (aE ?_)))))
   rw[e4];refine pD w6 (bH w7 (yQ z2 (zO ?_)))
   have sv:=zn3 (a:=v) (b:=v) hva hvb hva' hvb' (hfit v (ybw e5)).1
   have sr:kJ v v=true:=by unfold kJ zln ziy;simp
   rw[sr]at sv;show Wq yA F pI 24 [.agg [.int .u8 v.kind,.bool v.f.n.neg,va,.bool v.f.d.neg,vb,.int .i64 v.i],.agg [.int .u8 v.kind,.bool v.f.n.neg,va',.bool v.f.d.neg,vb',.int .i64 v.i]] t4 _
   rw[q24,sv,xA];exact zcm (qH (by simp) next)
  refine qH (gE (by omega)) ?_
  by_cases q3:x.op=3
  ·obtain⟨k,k',n,e3,e4,e5,e6⟩:=nam (by unfold sD;omega)
   exact qE (cD.2 (by omega)) (qE (cD.2 (by omega)) (fW C1 C2 hN hN' e3 e4 e5 e6 next))
  refine qH (gE (by omega)) ?_
  by_cases q4:x.op=4
  ·obtain⟨k,k',n,e3,e4,e5,e6⟩:=nam (by unfold sD;omega)
   exact qE (cD.2 (by omega)) (qE (cD.2 (by omega)) (fW C1 C2 hN hN' e3 e4 e5 e6 next))
  refine qH (gE (by omega)) ?_
  by_cases q5:x.op=5
  ·obtain⟨k,k',n,e3,e4,e5,e6⟩:=nam (by unfold sD;omega)
   exact qE (cD.2 (by omega)) (qE (cD.2 (by omega)) (fW C1 C2 hN hN' e3 e4 e5 e6 next))
  refine qH (gE (by omega)) ?_
  by_cases q6:x.op=6
  ·obtain⟨k,k',n,e3,e4,e5,e6⟩:=nam (by unfold sD;omega)
   exact qE (cD.2 (by omega)) (qE (cD.2 (by omega)) (fW C1 C2 hN hN' e3 e4 e5 e6 next))
  refine qH (gE (by omega)) ?_
  by_cases q8:x.op=8
  ·obtain⟨k,k',n,e3,e4,e5,e6⟩:=nam (by unfold sD;omega)
   exact qE (cD.2 (by omega)) (fW C1 C2 hN hN' e3 e4 e5 e6 next)
  refine qH (gE (by omega)) (z0f C1 C2 (hr.a q1 (by unfold sD;omega)) next)
def aO(x:uA):cH:=⟨[],[],[],[⟨[],[],0,0,0,false,x,mH⟩]⟩
theorem zh2:mH.fit:=by unfold mH uA.fit uA.fits;exact⟨by decide,by decide,(fun _ h=>by cases h),vS,by decide,trivial⟩
theorem zu9{x:uA}(h:x.fit):(aO x).fit:=by
 have z:i64 0:=⟨by decide,by decide⟩
 have e:([]:List Nat).length<qC:=by decide
 refine⟨e,by show 0<qC;decide,by show 0<qC;decide,by show 1<qC;decide,(fun _ h=>by cases h),(fun _ h=>by cases h),fun d hd=>?_⟩
 have:d=⟨[],[],0,0,0,false,x,mH⟩:=by simpa[aO]using hd
 subst this;exact⟨e,e,z,z,z,h,zh2⟩
theorem zg1{x:uA}(h:dN (aO x)=false):200<cC x\/24<jQ x:=by
 have hz:eO mH=true:=by decide
 have e:dN (aO x)=eO x:=by
  unfold dN aO iR;simp[hz]
 rw[e]at h;by_cases h1:200<cC x
 ·exact .inl h1
 ·by_cases h2:24<jQ x
  ·exact .inr h2
  ·have:=ze8 x 1 0 (by omega) (by omega)
   unfold eO at h;rw[this]at h;cases h
theorem zeq{g:aM}{cs:List zA}{n:Int}(hg:g.fit)(hgl:sK t)(hz0:∃c n,t.get 0=some (.cells c n none))(hrd:RD t g.d cs):Wc yA F 11 [.agg cs,.int .i64 n] t (fun v _=>v=.bool true):=by
 have hrd0:=hrd
 obtain⟨a,b,c,vn,vc,vw,vt,rfl,h1,h2,h3,h4,h5⟩:=zup hrd
 obtain⟨n1,n2,n3,n4⟩:=hg.lens
 refine w11 _ _ _ _ _ _ _ _ _ ?_
 simp only[t11];refine zO ?_
 rw[q14,z1z,xA];refine zcm (qH (by simp) (zO ?_))
 rw[q16];refine zuc hg hrd0 (aE ?_)
 by_cases hs:(2000:Int)<zub g
 ·exact qE (mB.2 hs) (by trivial)
 obtain⟨s1,s2,s3⟩:=zlk hg (by omega)
 have hlw:uB vw=some (.int .i64 (g.whens.length:Int)):=by rw[h4.len,yag]
 refine qH (fun e=>hs (mB.1 e)) (pD hlw (aE ?_))
 by_cases h0:g.whens.length=0
 ·exact qE (cD.2 (by omega)) (by trivial)
 refine qH (gE (by omega)) (pD hlw (aE (zO ?_)))
 rw[q26];refine z5f (by omega) (by omega) fun k hk=>aE (qE h4.same ?_)
 obtain⟨code,hcx,hcm⟩:=kS hk
 obtain⟨p,o,v1,y1,y2,y3,y4⟩:=bV h4 (cA.refl t) hcx
 have hcl:=s2 _ hcm
 obtain⟨ra,rb,rc,e0,ra1,rb1,rc1⟩:=oV h1
 cases e0
 refine pD y1 (bH y2 (zO ?_))
 rw[q28];refine zxd (L:=[]) (zon (cA.refl t)) h2 h3 y3 (by omega) s3 (fun v hv=>(hg.consts v hv).2.1) hgl hz0 ra1.one rb1.one rc1.one h4.one h5.one ⟨fun x tf1 t1 cs1 e k1 k2 k3=>?_,fun e tf1 t1 k1 k2=>?_⟩
 ·obtain⟨⟨xf,xp⟩,xl,xc⟩:=zrb hg hcm e
  have xcpy:=zxc s3 e
  have hone:=k3.all
  have hz:=jL k3 (uA.zs _)
  have k3t:=RD.mono k2.tle _ _ k3
  have k3':=k3
  obtain⟨u1,u2,u3,rfl,_⟩:=cK k3'
  refine pD (v:=.agg (mC x u1 u2 u3)) rfl (yQ hz (pD (v:=.int .i64 0) rfl (aE (qE hone (qH (fun h=>zI.1 h rfl) (qE rfl ?_))))))
  have T1:cA t t1:=k1.trans k2.tle
  refine rW fun b0 hb0 _=>?_
  have hcl24:RD t1 (jD.d ⟨[],[],0,0,0,false,x,mH⟩) ([.str [],.str [],.int .i64 0,.int .i64 0,.int .i64 0,.bool false]++(mC x u1 u2 u3++sG)):=zde (x:=⟨[],[],0,0,0,false,x,mH⟩) k3t pN
  obtain⟨t2,l1,l2,l3,l4⟩:=lit1 (C:=yA) el24 (cs:=[.str [],.str [],.int .i64 0,.int .i64 0,.int .i64 0,.bool false]++(mC x u1 u2 u3++sG)) rfl (by decide) hb0
  refine⟨_,_,l1,qE rfl (zO ?_)⟩
  have hnil:∀ {sz:Nat},oA t2 sz [] .nilslice:=fun {sz}=>⟨[],.inl ⟨rfl,rfl⟩,oE.2 rfl⟩
  have hsl:oA t2 24 ((aO x).clauses.map jD.d) (.slice b0 0 1 1):=⟨_,l2,zE.2 ⟨_,[],rfl,RD.mono l3 _ _ hcl24,oE.2 rfl⟩⟩
  have hpl:RD t2 (aO x).d [.str [],.nilslice,.nilslice,.slice b0 0 1 1]:=z5t (p:=aO x) hnil hnil hsl
  have hzf:=zh2
  have hpf:=zu9 xf
  rw[q22];refine zri hpf (cA.refl t2) (hgl.mono (T1.trans l3)) hpl (fun hbp=>?_) (fun hbp tf3 t3 a3 b3 c3 vn3 vc3 vw3 vt3 m1 m2 m3 m4 m5 m6 m7 m8 m9=>?_)
  ·have hzP:qG [(.str []),.nilslice,.nilslice,.nilslice,.nilslice,.nilslice,.nilslice,.nilslice] (.agg zyx)=some (cellsOf zyx):=iL rfl
   refine pD (v:=.agg zyx) rfl (yQ hzP (pD (v:=.int .i64 2) rfl (aE (qE rfl (qE (zI.2 (by decide)) (qE (cD.2 rfl) (zO ?_)))))))
   have x2:RD t2 x.d (mC x u1 u2 u3):=RD.mono l3 _ _ k3t
   have hpv:=zok x _ (uA.fit_ok xf) (by omega) x2
   show Wq yA F pI 31 [.agg (mC x u1 u2 u3)] t2 _
   rw[q31,hpv,xA];refine aE ?_
   rcases zg1 hbp with hq | hq
   ·exact qE (mB.2 (by omega)) (by trivial)
   ·by_cases hq2:200<cC x
    ·exact qE (mB.2 (by omega)) (by trivial)
    refine qH (fun e=>by have:=mB.1 e;omega) (zO ?_)
    rw[q32];refine z31 x _ 24 t2 _ xcpy (by decide) x2 (zcm ?_)
    show zA.bool (decide (24<jQ x))=.bool true
    rw[decide_eq_true hq]
  ·obtain⟨e1,e2⟩:=z7l m3 m4 m5 m6 m7 m8 m9 (nm:=[])
   refine pD (v:=.agg [.str [],a3,b3,c3,vn3,vc3,vw3,vt3]) rfl (yQ e1 (pD (v:=.int .i64 0) rfl (aE (qE e2 (qH (fun h=>zI.1 h rfl) ?_)))))
   have hw3:oA tf3 1 (((tI (aO x)).2.map Prod.fst).map aD) vw3:=by rw[List.map_map];exact m8
   have ew:(tI (aO x)).2.map Prod.fst=[(vB dA rB x ⟨[],[]⟩ 0).2]:=by rfl
   rw[ew]at hw3;refine pD (v:=.int .i64 1) (by show uB vw3=_;rw[(hw3.mono m2).len];rfl) (aE (qH (fun h=>zI.1 h rfl) ?_))
   obtain⟨_,_,w1,j1,j2,_,j3⟩:=bV hw3 m2 (i:=0) (x:=(vB dA rB x ⟨[],[]⟩ 0).2) rfl
   refine pD j1 (bH j2 (pD j3 (aE (pD y4 (aE (qH (fun h=>?_) (sR ?_)))))))
   ·rw[xl]at h;exact zI.1 h rfl
   have TT:cA t tf3:=T1.trans (l3.trans m1)
   have hext:Ext (vB dA rB x ⟨[],[]⟩ 0).1 (tI (aO x)).1:=by
    have:=(zk7 zb0 (fX (by decide) (by decide)) (fX (by decide) (by decide)) (fun v h1 h2=>⟨h2,h1⟩) mH hzf (valid:=rB)).ext (vB dA rB x ⟨[],[]⟩ 0).1 0
    exact this
   exact zu8 (y3.mono TT) (h2.mono TT) (h3.mono TT) m6 m7 hw3 rfl xl (by omega) (fun v hv=>(hg.consts v hv).2.1) (xc _ hext) code.length 0 t3 (by omega) m2
 ·have hz:=jL (pN (t:=t1)) (uA.zs _)
  refine pD (v:=.agg sG) rfl (yQ hz (pD (v:=.int .i64 190) rfl (aE (qE rfl (qE (zI.2 (by decide)) (qE (cD.2 rfl) (qE rfl (zO ?_))))))))
  show Wq yA F pI 29 [.agg sG,.agg sG] t1 _
  rw[q29];refine z2u mH sG sG t1 _ (zdx (by decide) (by decide) (fun _ h=>by cases h)) pN pN (zcm ?_)
  rfl
end Go.Proofs
namespace Go.Proofs.YthmbkdkibhffbaaGreatDoor
open Go Go.Am Go.RowKit Go.ChangeShapes Go.WideShapes Go.ChangeAt Go.Proofs
def zyt:TypeId:=34
theorem hprog:∃fs,Tryz.prog.underlying zyt=some (.struct fs)/\fs.toList.map (·.type)=[26,30,31,32,32]:=⟨_,Tryz.underlying34,rfl⟩
theorem hins:∃fs,Tryz.prog.underlying 54=some (.struct fs)/\fs.toList.map (·.type)=[5,3,3]:=⟨_,Tryz.underlying54,rfl⟩
theorem rY:Tryz.prog.cellsOf 9=1/\Tryz.prog.cellsOf 47=6/\Tryz.prog.cellsOf 37=1/\Tryz.prog.cellsOf 54=3:=⟨by kernel_rfl,by kernel_rfl,by kernel_rfl,by kernel_rfl⟩
theorem qY:1<=Tryz.prog.bytesOf 9/\1<=Tryz.prog.bytesOf 47/\1<=Tryz.prog.bytesOf 37/\1<=Tryz.prog.bytesOf 54:=⟨of_decide_eq_true (by kernel_rfl),of_decide_eq_true (by kernel_rfl),of_decide_eq_true (by kernel_rfl),of_decide_eq_true (by kernel_rfl)⟩
theorem dIns{f:Nat}{x:D}(h:uG Tryz.prog f 54 x):∃w:XIns,x=w.d/\(w.op<256/\i64 w.a/\i64 w.b):=by
 obtain⟨l,g,rfl,rfl,k⟩:=hO hins h
 obtain⟨d1,r,rfl,h1,k⟩:=k.cons_inv
 obtain⟨d2,r,rfl,h2,k⟩:=k.cons_inv
 obtain⟨d3,r,rfl,h3,k⟩:=k.cons_inv
 obtain rfl:=k.nil_inv
 obtain⟨o,rfl,ho⟩:=zbo Tryz.underlying5 h1
 obtain⟨a,rfl,ha⟩:=xR Tryz.underlying3 h2
 obtain⟨b,rfl,hb⟩:=xR Tryz.underlying3 h3
 exact⟨⟨o,a,b⟩,rfl,ho,ha,hb⟩
theorem z32{f:Nat}{x:D}(h:uG Tryz.prog f 32 x):∃m:List (List XIns),x=.sl 1 (m.map aD)/\m.length<qC/\∀l∈m,l.length<qC/\∀w∈l,w.op<256/\i64 w.a/\i64 w.b:=by
 obtain⟨l,g,rfl,rfl,hl,hm⟩:=bP Tryz.underlying32 rY.2.2.1 qY.2.2.1 h
 obtain⟨m,rfl,hq⟩:=yP (g:=aD) (Q:=fun l=>l.length<qC/\∀w∈l,w.op<256/\i64 w.a/\i64 w.b) fun y hy=>by
  obtain⟨l2,g2,_,rfl,hl2,hm2⟩:=bP Tryz.underlying37 rY.2.2.2 qY.2.2.2 (hm y hy)
  obtain⟨m2,rfl,hq2⟩:=yP (g:=XIns.d) (Q:=fun w=>w.op<256/\i64 w.a/\i64 w.b) fun z hz=>dIns (hm2 z hz)
  exact⟨m2,rfl,by simpa using hl2,hq2⟩
 exact⟨m,rfl,by simpa using hl,hq⟩
theorem dProg{f:Nat}{x:D}(h:uG Tryz.prog f zyt x):∃g:aM,x=g.d/\g.fit:=by
 obtain⟨l,n,rfl,rfl,k⟩:=hO hprog h
 obtain⟨d1,r,rfl,h1,k⟩:=k.cons_inv
 obtain⟨d2,r,rfl,h2,k⟩:=k.cons_inv
 obtain⟨d3,r,rfl,h3,k⟩:=k.cons_inv
 obtain⟨d4,r,rfl,h4,k⟩:=k.cons_inv
 obtain⟨d5,r,rfl,h5,k⟩:=k.cons_inv
 obtain rfl:=k.nil_inv
 obtain⟨p,rfl,hp⟩:=api19.dPlan h1
 obtain⟨l2,g2,_,rfl,hl2,hm2⟩:=bP Tryz.underlying30 rY.1 qY.1 h2
 obtain⟨m2,rfl,hq2⟩:=yP (g:=D.str) (Q:=fun n=>n.length<qC/\∀c∈n,c<256) fun z hz=>by
  obtain⟨l,rfl,a,b⟩:=iT Tryz.underlying9 (hm2 z hz)
  exact⟨l,rfl,a,b⟩
 obtain⟨l3,g3,_,rfl,hl3,hm3⟩:=bP Tryz.underlying31 rY.2.1 qY.2.1 h3
 obtain⟨m3,rfl,hq3⟩:=yP (g:=aA.d) (Q:=aA.fit) fun z hz=>api19.dVal (hm3 z hz)
 obtain⟨m4,rfl,hl4,hq4⟩:=z32 h4
 obtain⟨m5,rfl,hl5,hq5⟩:=z32 h5
 refine⟨⟨p,m2,m3,m4,m5⟩,rfl,hp,hq2,hq3,fun l hl=>?_,by simpa using hl2,by simpa using hl3,hl4,hl5⟩
 rcases hl with hl | hl
 ·exact hq4 l hl
 ·exact hq5 l hl
def zz5:List Nat:=zyt::30::31::32::37::54::planTs
def partP(t:TypeId):Bool:=match Tryz.prog.underlying t with
 | some .bool=>true
 | some (.int _)=>true
 | some .string=>true
 | some (.slice e)=>zz5.contains e&&Nat.blt 0 (Tryz.prog.cellsOf e)
 | some (.struct fs)=>fs.toList.all (fun f=>zz5.contains f.type)&&zp8 Tryz.prog 0 fs.toList (Tryz.prog.cellsOf t)
 | _=>false
theorem zi6:zz5.all partP=true:=by kernel_rfl
theorem plainP:Plain Tryz.prog (fun t=>t∈zz5):=⟨fun t ht=>by
 have h:=ybc.1 zi6 t ht
 unfold partP at h
 cases hu:Tryz.prog.underlying t with
 | none=>rw[hu]at h;cases h
 | some d=>
  rw[hu]at h
  cases d with
  | bool=>trivial
  | int k=>trivial
  | string=>trivial
  | slice e=>
   simp only[yac]at h;exact⟨by simpa using h.1,by simpa using h.2⟩
  | struct fs=>
   simp only[yac]at h;exact⟨fun f hf=>by simpa using ybc.1 h.1 f hf,h.2⟩
  | _=>cases h⟩
theorem open_prog{H:Type}{enc:TypeId × Value->H}{W:World}{base:Nat}{v:Value}{d:DataW H}{ps:List MemPlace}(hL:aI W)(hok:Value.okWide Tryz.prog W .any base zyt v)(h:DataW.Trod enc Tryz.prog W 0 (fun _=>true) true zyt v d ps)(hw:(DataW.weights Tryz.prog zyt d).all (· <= reachBytes)=true) :
  ∃(cs:Array Value) (g:aM),v=.agg cs/\g.fit/\Has W.heap.size cs.toList/\RD (rI W) g.d (cs.toList.map (av W.heap.size)):=by
 obtain⟨cs,rfl,_,_⟩:∃cs,v=.agg cs/\cs.size=Tryz.prog.cellsOf zyt/\Row.okWide Tryz.prog W .any base zyt cs:=by
  unfold Value.okWide at hok;rw[show Tryz.prog.underlying zyt=_ from Tryz.underlying34]at hok;exact hok
 obtain⟨fuel,h⟩:=h
 obtain⟨c,n,lo,hc,_⟩:=zw1 hL
 obtain⟨h1,x,h2,h3⟩:=z5b plainP ⟨c,n,lo,hc⟩ fuel zyt cs.toList (d,ps) (by decide) h hw
 obtain⟨g,rfl,hg⟩:=dProg h3
 exact⟨cs,g,rfl,hg,h1,h2⟩
theorem only11{w:World}(hL:aI w){cs:Array Value}{g:aM}{n:Int}(hg:g.fit)(hh:Has w.heap.size cs.toList)(hrd:RD (rI w) g.d (cs.toList.map (av w.heap.size))) :
  Calls Tryz.prog 11 #[.agg cs,.int .i64 n] w fun e w'=>e=.returned (.bool true)/\Below w.heap.size w w':=
 zp5 hL 11 [.agg (cs.toList.map (av w.heap.size)),.int .i64 n] _ (by intro _;kernel_rfl) (.cons (zz6 hh) (.single (by rw[rA])))
  ⟨_,zeq hg (zw1 hL) (block0 hL) hrd,fun v t h=>h⟩
end Go.Proofs.YthmbkdkibhffbaaGreatDoor
