/- The simulation: leaving, rounds, regions in order, heavy operations. -/
import Derived.Test.YthibiocejpbmgaaGreatDoorA03
set_option linter.all false
noncomputable section
namespace Go.Am
open Go Go.RowKit
section
variable {m:Option Nat}{D id:Nat}{o:Oper}{olds:List (Nat × List Nat)}{anc:Tr Nat}{old:Tm}{S:Nat->Bool}{order:List Nat}{st:fG}{stages:List fG}
section
variable {P:Program}{C:fA}{B N:Nat}{I:World->Prop}{μ ν:Mu}{H H':pA}{w:World}{tm:Tm}{R:nK}{acs:List lC}{base cs:List Frame}
variable {b:Frame}{tmps:Array Value}{ds:List Deferred}{k:List iE}{k':List Item}{all:Array Oper}
def EH (h:Bp μ none m):m=none:=by
 cases m with
 | none=>rfl
 | some l=>exact h.elim
theorem Vw{l:Nat} (h:Bp μ (some l) m):∃i,μ l=some i/\m=some i.b:=by
 cases m with
 | none=>exact h.elim
 | some m=>obtain⟨i,h1,h2⟩:=h;simp_all
theorem Xl(hH:rB B N μ H w)(hcs:pG C μ acs cs)(hR:kH μ R (b.atR ⟨tmps,ds⟩ []))(ht:fE μ R.n tm tmps){todo:List iE}{btodo:List Item}{jump:Option Code}
  (h0:b.roundOf=none->Vy jump=true->step P (lone (b.atR ⟨tmps,ds⟩ btodo) (cs++base) w)=.next (lone { b.atR ⟨tmps,ds⟩ btodo with mode:=.returning } (cs++base) w))
  (h1:∀l c rest v w',b.roundOf=some l->b.kind=.normal->(Instr.endRound l jump).run P w=.ok v w'->step P (lone (b.atR ⟨tmps,ds⟩ btodo) (c::rest) w)=.next (lone (c.finish v) rest w')) :
  iD P C B N μ base (lone (b.atR ⟨tmps,ds⟩ btodo) (cs++base) w) w (pS jump C ⟨todo,tm,R⟩ acs H):=by
 unfold pS;simp only[]
 cases hr:R.roundOf with
 | none=>
  have hb:b.roundOf=none:=by
   have:=hR.round;rw[hr]at this;exact EH this
  cases hj:Vy jump with
  | false=>exact trivial
  | true=>exact STzx hH hcs hR ht (.one (h0 hb hj))
 | some l=>
  obtain⟨i,hi,hb⟩:∃i,μ l=some i/\b.roundOf=some i.b:=by
   have:=hR.round;rw[hr]at this;exact Vw this
  simp only[]
  cases hx:eK H l with
  | none=>exact trivial
  | some r=>
   rw[uA]
   cases hcs with
   | nil=>exact trivial
   | @cons c b1 acs1 cs1 hc hcs1=>
    simp only[]
    cases hd:R.deferred with
    | true=>exact trivial
    | false=>
     have hkind:b.kind=.normal:=by have:=hR.kind;rw[hd]at this;exact this
     cases hf:wI c (.bool jump.isNone)with
     | none=>exact trivial
     | some c'=>
      obtain⟨hl,r',hg,hw,rel⟩:=Ls hH hx hi;have run:(Instr.endRound i.b jump).run P w=.ok (.bool jump.isNone) (World.setBlk w i.b (.loop { r' with state:=if jump.isNone then .ready else .done,pending:=jump })):=by
       simp_all [Instr.endRound,Kr,Gs]
      refine⟨μ,_,cs1,_,.one (h1 i.b b1 (cs1++base) _ _ hb hkind run),fun _ _ h=>h,tX (hH.own l i hl hi).1,?_,El hc hf (by rw[rA]),hcs1⟩;refine hH.upd hg hi hl ?_;rw[vJ];exact⟨_,rfl,rfl,rfl,rel.fn,rel.tm,rel.params,rel.assign,rel.body,rel.defers⟩
theorem XE  : ∀ {k:List iE} {k':List Item},dC (dG μ) k k'->jS id k=none->exitTo id k'=none:=by
 intro k k' h;induction h with
 | nil=>intro _;rfl
 | cons a l ih=>
  intro e
  cases a with
  | inBlock i=>
   grind [jS,iE.blockId,exitTo,gC]
  | _=>
   grind [jS,exitTo]
def zi1(hH:rB B N μ H w)(hcs:pG C μ acs cs)(hR:kH μ R (b.atR ⟨tmps,ds⟩ []))(ht:fE μ R.n tm tmps)(hk:dC (dG μ) k k')  :
  iD P C B N μ base (lone (b.atR ⟨tmps,ds⟩ (.code (.exit id)::k')) (cs++base) w) w (bZ id C k tm R acs H):=by
 unfold bZ
 cases he:jS id k with
 | some r=>
  obtain⟨r',h1,h2⟩:=zar hk he;exact sY hH hcs hR ht h2 (.one (stepR_exit h1))
 | none=>
  exact Xl hH hcs hR ht (fun _ h=>by cases h) fun l c rest v w' hb hkd hr=>stepR_round_exit hb hkd (XE hk he) hr
def ret_ok(hH:rB B N μ H w)(hcs:pG C μ acs cs)(hR:kH μ R (b.atR ⟨tmps,ds⟩ []))(ht:fE μ R.n tm tmps) :
  iD P C B N μ base (lone (b.atR ⟨tmps,ds⟩ (.code .ret::k')) (cs++base) w) w (xRet C k tm R acs H):=
 Xl hH hcs hR ht (fun hb _=>stepR_ret hb) fun _ _ _ _ _ hb hkd hr=>stepR_round_ret hb hkd hr
def end_ok(hH:rB B N μ H w)(hcs:pG C μ acs cs)(hR:kH μ R (b.atR ⟨tmps,ds⟩ []))(ht:fE μ R.n tm tmps) :
  iD P C B N μ base (lone (b.atR ⟨tmps,ds⟩ []) (cs++base) w) w (pS none C ⟨[],tm,R⟩ acs H):=
 Xl hH hcs hR ht (fun hb _=>stepR_end hb) fun _ _ _ _ _ hb hkd hr=>stepR_round_end hb hkd hr
theorem Vv {rest:List Oper}:pU C all k R acs (o::rest) tm H=match aF o.guard all tm with
  | none=>.fail 20
  | some false=>pU C all k R acs rest (putA R.n tm o.dst kD) H
  | some true=>match ((qG o.op).f C (.now tm) H).asVal with
   | some p=>pU C all k R acs rest (putA R.n tm o.dst p.1) p.2
   | none=>Iq ((qG o.op).f C (.now tm) H) C ⟨.ops all (o::rest)::k,tm,R⟩ acs H:=by
 show(match aF o.guard all tm with
  | some w=>Bool.rec (motive:=fun _=>bF) (pU C all k R acs rest (putA R.n tm o.dst kD) H)
     (let r:=(qG o.op).f C (.now tm) H
     match r.asVal with
     | some p=>pU C all k R acs rest (putA R.n tm o.dst p.1) p.2
     | none=>Iq r C ⟨.ops all (o::rest)::k,tm,R⟩ acs H) w
  | none=>.fail 20)=_
 grind
theorem ET{n i:Nat}(h:i<n):(List.range n).drop i=i::(List.range n).drop (i+1):=by
 grind [List.drop_eq_getElem_cons]
theorem EF(hS:pK P C B N I):∀(rest:List Oper) (i:Nat) (tm:Tm) (H:pA) (w:World) (μ:Mu) (tmps:Array Value),rest=all.toList.drop i->i<=all.size->I w->rB B N μ H w->pG C μ acs cs →
  kH μ R (b.atR ⟨tmps,ds⟩ [])->fE μ R.n tm tmps->dC (dG μ) k k' →
  iD P C B N μ base (lone (b.atR ⟨tmps,ds⟩ (.inRegion all ((List.range all.size).drop i)::k')) (cs++base) w) w (pU C all k R acs rest tm H):=by
 intro rest;induction rest with
 | nil=>
  intro i tm H w μ tmps hi hle hI hH hcs hR ht hk;have:all.size<=i:=by
   simp_all
  rw[ybt (by simp_all)];exact sY hH hcs hR ht hk (.one stepR_region_end)
 | cons o rest ih=>
  intro i tm H w μ tmps hi hle hI hH hcs hR ht hk;obtain⟨h1,h2⟩:=oV hi;have hlt:i<all.size:=by grind
  have ho:all[i]?=some o:=by simp_all
  rw[Vv,ET hlt]
  cases hw:aF o.guard all tm with
  | none=>exact trivial
  | some wn=>
   have hwn:=ht.wanted (all:=all) hw
   cases wn with
   | false=>
    refine iD.of_steps (.one (Vf ho hwn)) (fun _ _ h=>h) (Below.refl N w) ?_;rw[Ha];have t:=ht.put (ds:=ds) (dst:=o.dst) Ns;exact ih (i+1) _ _ _ _ _ h2 hlt hI hH hcs (hR.slots t.1) t hk
   | true=>
    have hop:=zgj hS.tys hS.base hS.fns hS.prims hH hI (ht.erel (ds:=ds) hH.glob) o;simp only[];generalize hr:(qG o.op).f C (.now tm) H=r at hop;have hdef:(∃c,o.op=.defer c)->r=.fail\/∃d,r=.defer d:=fun h=>by grind [OH]
    have hfr:eJ C μ acs.length none ⟨.ops all (o::rest)::k,tm,R⟩ (b.atR ⟨tmps,ds⟩ (.inRegion all (i::(List.range all.size).drop (i+1))::k')):=by
     refine⟨hR.todo,?_⟩;rw[yab hR.running,<- ET hlt,hi];exact .plain (.cons (.ops all i hle) hk) ht
    cases hv:r.asVal with
    | none=>grind [ON]
    | some p=>
     have:r=.val p.1 p.2:=by cases r<;>simp[zM.asVal]at hv;rw[<- hv]
     subst this;simp only[];have hd:∀c,o.op≠.defer c:=fun c e=>by
      rcases hdef ⟨c,e⟩with h | ⟨d,h⟩<;>cases h
     rcases hop with h | ⟨f,args',h3,h4⟩
     ·obtain⟨v',w',μ',s,hm,hH',hb,hv⟩:=Ti (b:=b) (k':=k') (rest:=(List.range all.size).drop (i+1)) (cs:=cs++base) ho hwn hd h;refine iD.of_steps (.one s) hm.f hb ?_;have t:=(ht.mono hm).put (ds:=ds) (dst:=o.dst) hv;exact ih (i+1) _ _ _ _ _ h2 hlt (hS.inv _ _ hb hI) hH' (hcs.mono hm) ((hR.mono hm).slots t.1) t (hk.mono fun _ _ r=>r.mono hm)
     ·obtain⟨v',w',s,μ',hm,hH',hb,hv⟩:=MY (b:=b) (k':=k') (rest:=(List.range all.size).drop (i+1)) (cs:=cs++base) (R:=fun v' w'=>∃ μ',μ.le μ'/\rB B N μ' p.2 w'/\Below N w w'/\rA μ' p.1 v') ho hwn hd h3 (h4.mono fun e w' hh=>by simp_all);refine iD.of_steps s hm.f hb ?_;have t:=(ht.mono hm).put (ds:=ds) (dst:=o.dst) hv;exact ih (i+1) _ _ _ _ _ h2 hlt (hS.inv _ _ hb hI) hH' (hcs.mono hm) ((hR.mono hm).slots t.1) t (hk.mono fun _ _ r=>r.mono hm)
theorem zdi(hS:pK P C B N I)(hI:I w)(hH:rB B N μ H w)(hcs:pG C μ acs cs)(hR:kH μ R (b.atR ⟨tmps,ds⟩ []))(hk:dC (dG μ) k k')
  (hr:xG μ all olds anc R.n old tm D S order tmps) (hst:iJ all.toList anc (st::stages) D=true) (hp:dH C μ acs.length H all olds R.n old tm D S) (ho:all[st.heavy]?=some o) :
  iD P C B N μ base (lone (b.atR ⟨tmps,ds⟩ (.inRegion all order::k')) (cs++base) w) w (Nk all old olds st stages o C k tm R acs H):=by
 have hlt:st.heavy<=all.size:=Nat.le_of_lt (ybe.1 ho).1;obtain⟨S',order',tmps',μ',w',s,g,r1,p1⟩:=reach (b:=b) (k:=k') (cs:=cs++base) (ds:=ds) hS.tys hst hlt order S tmps μ w hH hr hp;refine iD.of_steps s g.le g.below ?_
 replace hI:=hS.inv _ _ g.below hI
 replace hH:=g.heap
 replace hcs:=hcs.monoD fun d hd=>g.pd d (by omega)
 replace hR:=hR.mono g.le
 replace hk:dC (dG μ') k k':=hk.mono fun _ _ r=>r.mono g.le
 unfold Nk
 cases hw:aF o.guard all tm with
 | none=>exact trivial
 | some wn=>
  obtain⟨o',ho',hS',hb',_⟩:=r1.sched;rw[ho]at ho';cases ho';have hwn:=r1.wanted ho hb' hw;have hfr:eJ C μ' acs.length none ⟨.reg all old olds (st::stages)::k,tm,R⟩ (b.atR ⟨tmps',ds⟩ (.inRegion all (st.heavy::order')::k')):=by
   refine⟨(hR.slots r1.size).todo,?_⟩;rw[yab hR.running];exact .wait r1 hst hlt (toWeak hst hlt r1 p1) hk
  cases wn with
  | false=>
   refine Wg (H:=H) hfr hcs μ'.le_refl hH (Below.refl N w') Ns ?_;rw[Frame.finish_atR,ho,yai];exact .one (Vf ho hwn)
  | true=>
   have hop:=zgj hS.tys hS.base hS.fns hS.prims hH hI (r1.erel (ds:=ds) hH.glob ho hS' hb') o;exact ON hS hH hcs hfr ho hwn (fun h=>OH h _ _ _) hop
theorem WR(hS:pK P C B N I)(hH:rB B N μ H w)(hcs:pG C μ acs cs)(hR:kH μ R (b.atR ⟨tmps,ds⟩ []))(hk:dC (dG μ) k k')
  (hr:xG μ all olds anc R.n old tm D S order tmps) (hst:iJ all.toList anc (st::stages) D=true) (hp:dH C μ acs.length H all olds R.n old tm D S) (hlt:all.size<st.heavy) (hle2:st.heavy<=all.size+all.size) :
  iD P C B N μ base (lone (b.atR ⟨tmps,ds⟩ (.inRegion all order::k')) (cs++base) w) w (Nm all old olds st stages (st.heavy-(all.size+1)) C k tm R acs H):=by
 obtain⟨o,D1,D2,ho,hf,h1,h2,h3⟩:=UP hst hlt hle2;generalize st.heavy-(all.size+1)=i at *;obtain⟨o',ho',hi,hb,hD1⟩:=Lf h1;rw[ho]at ho';cases ho';unfold Nm;generalize hx:(ob (tD all.toList i) fun o=>ob (aF o.guard all tm) fun w=>vB (w&&aH (jY C o.op)) (ob ((qG o.op).f C (.mixed tm old (rF i olds) (bH o.op)) H).asVal fun p=>
  ob (eQ C p.2 all R.n old olds st.lights (putA R.n tm o.dst p.1)) fun tm'=>some (⟨⟨.reg all old olds stages::k,tm',R⟩,acs,p.2⟩:kR)))=x
 cases x with
 | none=>exact trivial
 | some x=>
  simp only[lA,oB,vE,ybb]at hx;obtain⟨o',ho',wn,hw,⟨hwn,hlo⟩,p,hv,tm',hl,hx⟩:=hx;have hlo:jY C o'.op=none:=by
   cases hx:jY C o'.op with
   | none=>rfl
   | some _=>rw[hx]at hlo;cases hlo
  have:o'=o:=by
   simp_all
  subst this;subst hwn;cases hx;have hop:(qG o'.op).f C (gQ tm old olds i o') H=.val p.1 p.2:=by
   show(qG o'.op).f C (.mixed tm old (rF i olds) (bH o'.op)) H=_;generalize (qG o'.op).f C (.mixed tm old (rF i olds) (bH o'.op)) H=r at hv;cases r<;>simp[zM.asVal]at hv;rw[<- hv]
  obtain⟨l,hl2⟩:∃l,p.2=lF H l none:=WS hf hlo hop;have hH':rB B N (μ.wait H.next (.cells (Tr.ofList l) (wB l) none,acs.length,i)) p.2 w:=by rw[hl2];exact hH.early
  have hle:μ.lw (μ.wait H.next (.cells (Tr.ofList l) (wB l) none,acs.length,i)):=fun _ _ h=>h;have hpd:∀d,μ.ln d (μ.wait H.next (.cells (Tr.ofList l) (wB l) none,acs.length,i)):=fun d=>⟨hle,fun a x j ha=>by
   show(if a=H.next then _ else μ.pd a)=_;rw[yaa]
   ·exact ha
   ·intro e;have:=(hH.pnd _ _ _ ha).2.1;rw[e,(hH.fresh _ (ybk _)).2]at this;cases this⟩
  have hgrow:HM.HLe H p.2:=by
   intro b y hb;rw[hl2];show(H.t.set H.next _).get b=some y;rw[Tr.get_set,yaa]
   ·exact hb
   ·intro e;rw[e,(hH.fresh _ (ybk _)).2]at hb;cases hb
  have r1:=(hr.light (v:=p.1) ho hi hb hD1).mono hle;have p1:dH C (μ.wait H.next (.cells (Tr.ofList l) (wB l) none,acs.length,i)) acs.length p.2 all olds R.n old (putA R.n tm o'.dst p.1) D1 S:=by
   intro j hj hSj;rw[hD1]at hj;simp only[ycq,beq_iff_eq]at hj;rcases hj with hj | rfl
   ·rcases hp j hj hSj with⟨u,wu,vu,pu⟩ | ⟨u,vu,pu⟩
    ·exact .inl ⟨u,wu,vu,(pu.keep hr.reg hr.dclosed hj ho hi).grow hgrow⟩
    ·exact .inr ⟨u,vu,(pu.keep hr.reg hr.dclosed hj ho hi).mono (hpd _)⟩
   ·refine .inr ⟨o',p.1,fV.fresh hr.reg hr.dclosed ho hb hi hf hlo hw ⟨H,l,by rw[hop,hl2],?_⟩⟩;show(if H.next=H.next then _ else μ.pd H.next)=_;rw[yab rfl]
  obtain⟨r2,p2⟩:=Qx _ _ _ hl h2 r1 p1;exact⟨_,_,cs,w,.refl _ _,hle,Below.refl N w,hH',⟨(hR.mono hle).todo,by rw[yab hR.running];exact .reg r2 h3 p2 (hk.mono fun _ _ r=>r.mono hle)⟩,hcs.monoD fun d _=>hpd d⟩
theorem Xf{α β:Type}{f:α->Option β}(d:β):∀ {l:List α} {r:List β},oH f l=some r->(∀x∈l,f x=some ((f x).getD d))/\r=l.map fun x=>(f x).getD d
 | [],r,h=>by grind [Dy]
 | a::l,r,h=>by
  rw[dO,lA]at h;obtain⟨v,hv,h⟩:=h;rw[lA]at h;obtain⟨m,hm,h⟩:=h;cases h;obtain⟨h1,h2⟩:=Xf d hm
  grind
theorem WQ(hS:pK P C B N I)(hH:rB B N μ H w)(hcs:pG C μ acs cs)(hR:kH μ R (b.atR ⟨tmps,ds⟩ []))(hk:dC (dG μ) k k')
  (hr:xG μ all olds anc R.n old tm D S order tmps) (hst:iJ all.toList anc (st::stages) D=true) (hp:dH C μ acs.length H all olds R.n old tm D S) (hlt:all.size+all.size<st.heavy) :
  iD P C B N μ base (lone (b.atR ⟨tmps,ds⟩ (.inRegion all order::k')) (cs++base) w) w (Nl all old olds st stages C k tm R acs H):=by
 obtain⟨D1,D2,hG,h2,h3⟩:=UO hst hlt;unfold Nl;generalize hx:(vB (jW C all) (ob (Ic all old olds tm st.again) fun es=>ob (vZ C es H) fun H'=>ob (eQ C H' all R.n old olds st.lights tm) fun tm'=>some (⟨⟨.reg all old olds stages::k,tm',R⟩,acs,H'⟩:kR)))=x
 cases x with
 | none=>exact trivial
 | some x=>
  simp only[lA,oB]at hx;obtain⟨hlen,es,he,H1,hg,tm',hl,hx⟩:=hx;cases hx;unfold vZ at hg;simp only[lA,oB,ybb]at hg;obtain⟨rs,hrs,⟨hap,hrd⟩,hg⟩:=hg;obtain⟨e1,e2⟩:=Xf (vN.store 0 .nilptr .nilptr) he;obtain⟨e3,e4⟩:=Xf (RE.st 0 0 []) hrs;have hef:∀i∈st.again,cW all old olds tm i=some ((cW all old olds tm i).getD (vN.store 0 .nilptr .nilptr))/\nU C ((cW all old olds tm i).getD (vN.store 0 .nilptr .nilptr))=some ((nU C ((cW all old olds tm i).getD (vN.store 0 .nilptr .nilptr))).getD (RE.st 0 0 [])):=
   fun i hi=>⟨e1 i hi,e3 _ (by grind)⟩
  generalize hE:(fun i=>(cW all old olds tm i).getD (vN.store 0 .nilptr .nilptr))=ef at e2;have hef:∀i∈st.again,cW all old olds tm i=some (ef i)/\nU C (ef i)=some ((fun i=>(nU C (ef i)).getD (RE.st 0 0 [])) i):=by
   grind
  have hrs':rs=st.again.map fun i=>(nU C (ef i)).getD (RE.st 0 0 []):=by rw[e4,e2,List.map_map];rfl
  generalize (fun i=>(nU C (ef i)).getD (RE.st 0 0 []))=re at hef hrs';subst hrs';have hap:=OG hap;have hrd:∀i∈st.again,Na C H (re i):=by
   grind [cE,TD]
  have hd1:uN C H (st.again.map re) H1:=by
   have:=uN.list uN.nil (l:=st.again.map re) (fun e he=>by grind) (by grind) hg
   rwa [yah]at this
  obtain⟨S',order',tmps',μ',w',seq,Hs,s1,b1,l1,d1,pm,dn,hm,hH',r1,p1,hin⟩:=zdm (b:=b) (k:=k') (cs:=cs++base) (ds:=ds) (H:=H) hS.tys hS.base hG hlen hef hap hrd order S tmps μ w [] H D List.nodup_nil (fun i hi=>by cases hi) uN.nil (fun i hi=>by cases hi) (fun k=>by simp) hH hr hp;have hapS:(seq.map re).Pairwise lR:=((pm.map re).symm.pairwise_iff (fun h=>lR.symm h)).1 hap;have heq:HEq' μ' Hs H1:=dn.perm hd1 (pm.map re) hapS fun e he=>by grind
  have hH1:=hH'.congr' heq;have p2:dH C μ' acs.length H1 all olds R.n old tm D1 S':=by
   cases hG0:st.again with
   | nil=>
    rw[hG0]at pm hd1;have hs0:seq=[]:=List.Perm.eq_nil pm;subst hs0;have hle:HM.HLe Hs H1:=fun a y hy=>by rw[hd1.no a (fun e he=>by cases he),<- dn.no a (fun e he=>by cases he)];exact hy
    intro j hj hSj;rcases p1 j hj hSj with⟨u,wu,vu,pu⟩ | h
    ·exact .inl ⟨u,wu,vu,pu.grow hle⟩
    grind
   | cons g l=>
    have hg:g∈st.again:=by grind
    have hSg:S' g=true:=hin g (pm.mem_iff.2 hg);obtain⟨o,ho,_⟩:=hG.op g hg;refine FF hG hlen (seq:=st.again) hG.done (fun i hi=>hin i (pm.mem_iff.2 hi)) hg (fun k hk=>r1.reg.up r1.closed ho (fun j hj=>r1.closed g o ho hSg j hj) hk) p1 H1
  obtain⟨r2,p3⟩:=Qx _ _ _ hl h2 r1 p2;exact⟨_,_,cs,w',s1,l1,b1,hH1,⟨((hR.mono l1).slots r1.size).todo,by rw[yab hR.running];exact .reg r2 h3 p3 (hk.mono fun _ _ r=>r.mono l1)⟩,hcs.monoD fun d hd=>d1 d (by omega)⟩
end
end
section
variable {l:Nat}{i:BI}{f:Operand}{params:Array Nat}{assign body c:Code}{v:zA}{h:lC}
section
variable {P:Program}{C:fA}{B N:Nat}{I:World->Prop}{μ ν:Mu}{H H':pA}{w:World}{tm:Tm}{R:nK}{acs:List lC}{base cs:List Frame}
variable {b:Frame}{tmps:Array Value}{ds:List Deferred}{k:List iE}{k':List Item}{all:Array Oper}
theorem zeg(hH:rB B N μ H w)(hcs:pG C μ acs cs)(hR:kH μ R (b.atR ⟨tmps,ds⟩ []))(ht:fE μ R.n tm tmps)(hk:dC (dG μ) k k') :
  iD P C B N μ base (lone (b.atR ⟨tmps,ds⟩ (.beginRound::k')) (cs++base) w) w (Jg C k tm R acs H):=by
 unfold Jg
 cases hr:R.roundOf with
 | none=>exact trivial
 | some l=>
  obtain⟨i,hi,hb⟩:∃i,μ l=some i/\b.roundOf=some i.b:=by
   have:=hR.round;rw[hr]at this;exact Vw this
  rw[uA]
  cases hx:eK H l with
  | none=>exact trivial
  | some r=>
   rw[uA]
   cases hst:Nat.beq (LoopState.tag r.state) 0 with
   | false=>exact trivial
   | true=>
    obtain⟨hl,r',hg,hw,rel⟩:=Ls hH hx hi;have ready:r'.state=.ready:=by
     rw[rel.state];cases hs:r.state<;>rw[hs]at hst<;>first | rfl | grind [LoopState.tag,Nat.beq]
    have run:(Instr.beginRound i.b).run P w=.ok () (World.setBlk w i.b (.loop { r' with state:=.busy })):=by
     simp_all [Instr.beginRound,Kr,Gs]
    refine⟨μ,_,cs,_,.one (stepR_beginRound hb run),fun _ _ h=>h,tX (hH.own l i hl hi).1,?_,⟨?_,?_⟩,hcs⟩
    ·refine hH.upd hg hi hl ?_;rw[vJ];exact⟨_,rfl,rfl,rel.pending,rel.fn,rel.tm,rel.params,rel.assign,rel.body,rel.defers⟩
    ·refine⟨hR.fn,hR.size,hR.defers,hR.mode,hR.kind,?_⟩;exact hR.round
    ·show if R.mode.running=true then tN C μ acs.length R.n _ k tm k' tmps else fE μ R.n tm tmps;rw[yab hR.running];exact .plain hk ht
theorem RI {jump:Option Code}{w':World}{cs:List Frame}(hr:(Instr.endLoop l).run P w=.ok jump w') :
  step P (lone (b.atR ⟨tmps,ds⟩ (.endRangeFunc l::k')) cs w)=.next (lone (b.atR ⟨tmps,ds⟩ ((jump.map Item.code).toList++k')) cs w'):=
 step_lone_go (by simp_all [stepG,stepG.exec,Frame.atR])
theorem XM(hH:rB B N μ H w)(hcs:pG C μ acs cs)(hR:kH μ R (b.atR ⟨tmps,ds⟩ []))(ht:fE μ R.n tm tmps)(hk:dC (dG μ) k k')  (hi:μ l=some i) :
  iD P C B N μ base (lone (b.atR ⟨tmps,ds⟩ (.endRangeFunc i.b::k')) (cs++base) w) w (Jd l C k tm R acs H):=by
 unfold Jd
 cases hx:eK H l with
 | none=>exact trivial
 | some r=>
  rw[uA]
  cases hst:Nat.beq (LoopState.tag r.state) 1 with
  | true=>exact trivial
  | false=>
   obtain⟨hl,r',hg,hw,rel⟩:=Ls hH hx hi;have busy:r'.state≠.busy:=by
    intro e;rw[rel.state]at e;rw[e]at hst;cases hst
   have run:(Instr.endLoop i.b).run P w=.ok r'.pending (World.setBlk w i.b (.loop { r' with state:=.exhausted })):=by
    simp_all [Instr.endLoop,Kr,Gs]
   refine⟨μ,_,cs,_,.one (RI run),fun _ _ h=>h,tX (hH.own l i hl hi).1,?_,⟨?_,?_⟩,hcs⟩
   ·refine hH.upd hg hi hl ?_;rw[vJ];exact⟨_,rfl,rfl,rel.pending,rel.fn,rel.tm,rel.params,rel.assign,rel.body,rel.defers⟩
   ·exact⟨hR.fn,hR.size,hR.defers,hR.mode,hR.kind,hR.round⟩
   ·show if R.mode.running=true then tN C μ acs.length R.n _ (match r.pending with | some c=>.code c::k | none=>k) tm ((r'.pending.map Item.code).toList++k') tmps else fE μ R.n tm tmps
    rw[yab hR.running,rel.pending]
    cases r.pending with
    | none=>exact .plain hk ht
    | some c=>exact .plain (.cons (.code c) hk) ht
theorem CM    {mark:List Deferred}{w1:World}{g:Nat}{args':Array Value}{cs:List Frame}
  (hE:(Instr.enterLoop b.fn tmps params assign body b.roundOf).run P w=.ok (l,mark) w1)
  (hA:(do let d <- resolve (Act.eval ⟨tmps,ds⟩) { callee:=.value f,args := #[.const (.func (.yield l) #[] #[])],argTypes := #[] } 0;invoke d.target d.args:Sem Next).run P w1=.ok (.enter g args') w1) :
  step P (lone (b.atR ⟨tmps,ds⟩ (.code (.rangeFunc f params assign body)::k')) cs w)=.next (lone (Frame.enter P g args' .normal) (b.atR ⟨tmps,mark++ds⟩ (.inRangeFunc l::k')::cs) w1):=by
 refine step_lone_go ?_;have he:(Frame.eval { b.atR ⟨tmps,ds⟩ (.code (.rangeFunc f params assign body)::k')with todo:=.inRangeFunc l::k',defers:=mark++ds })=Act.eval ⟨tmps,ds⟩:=funext fun x=>by cases x<;>rfl
 simp_all [Frame.atR,stepG,stepG.exec,stepG.apply]
theorem TG   (e:tY C l v=some h):∃g first cap,v=.func (.func g) first cap/\C.prims.get g=none/\bM C g (tE first (.func (.yld l) [] []::cap)) false=some h:=by
 grind [tY,lA,NW]
def EV{dp:Nat}(hS:pK P C B N I)    (e:tY C l v=some h)(hi:μ l=some i) (hv:rA μ v (Act.eval ⟨tmps,ds⟩ f)){cur:Option pA} :
  ∃g args',(∀w,(do let d <- resolve (Act.eval ⟨tmps,ds⟩) { callee:=.value f,args := #[.const (.func (.yield i.b) #[] #[])],argTypes := #[] } 0;invoke d.target d.args:Sem Next).run P w=.ok (.enter g args') w) ∧
   eJ C μ dp cur h (Frame.enter P g args' .normal):=by
 obtain⟨g,first,cap,rfl,hp,he⟩:=TG e
 rw[rA]at hv;obtain⟨fn,a',c',hv,hf,h1,h2⟩:=hv;cases hf;have hl:pB μ (tE first (.func (.yld l) [] []::cap)) (a' ++ #[Value.func (.yield i.b) #[] #[]]++c').toList:=by
  rw[fH];have:pB μ (zA.func (.yld l) [] []::cap) (Value.func (.yield i.b) #[] #[]::c'.toList):=.cons (by rw[rA];exact⟨_,_,_,rfl,⟨i,hi,rfl⟩,.nil,.nil⟩) h2;simpa using h1.append this
 obtain⟨fr,fn,hfn,hb⟩:=Mm (cur:=cur) hS.fns he hl;refine⟨g,_,fun w=>?_,fr⟩;simp only[yad,resolve,hv,Deferred.ofValue,yae,yac,invoke];have:Array.map (Act.eval ⟨tmps,ds⟩) #[Operand.const (Value.func (.yield i.b) #[] #[])] = #[Value.func (.yield i.b) #[] #[]]:=by simp[Act.eval]
 rw[this];exact Pe hS.fns hfn hb
theorem zco(hS:pK P C B N I)(hH:rB B N μ H w)(hcs:pG C μ acs cs)(hR:kH μ R (b.atR ⟨tmps,ds⟩ []))(ht:fE μ R.n tm tmps)(hk:dC (dG μ) k k')    :
  iD P C B N μ base (lone (b.atR ⟨tmps,ds⟩ (.code (.rangeFunc f params assign body)::k')) (cs++base) w) w (Jb f params assign body C k tm R acs H):=by
 unfold Jb
 cases hv:ev f (.now tm)with
 | none=>exact trivial
 | some v=>
  have hvr:=ht.erel (ds:=ds) hH.glob f _ hv;rw[uA]
  cases hr:R.roundOf with
  | none=>
   have hb:b.roundOf=none:=by
    have:=hR.round;rw[hr]at this;exact EH this
   simp only[]
   cases hx:tY C (H.next+1) v with
   | none=>exact trivial
   | some h=>
    have h1:=hH.newBlk (x:=.deferred (some [])) (o:=.deferred (some [])) (i:=⟨w.heap.size,true,0,0,false⟩) rfl rfl (by rw[vJ];exact⟨_,rfl,.nil⟩);have le1:μ.le (μ.ext H.next ⟨w.heap.size,true,0,0,false⟩):=hH.ext_le;have le2:(μ.ext H.next ⟨w.heap.size,true,0,0,false⟩).le ((μ.ext H.next ⟨w.heap.size,true,0,0,false⟩).ext (newBlk H (.deferred (some []))).next ⟨w.heap.size+1,true,0,0,false⟩):=h1.ext_le
    have sz:(w.alloc (.deferred (some []))).heap.size=w.heap.size+1:=Array.size_push ..;have h2:=h1.newBlk (x:=.loop ⟨.ready,none,R.fn,R.n,tm,params.toList,assign,body,H.next⟩) (o:=.loop { state:=.ready,pending:=none,fn:=b.fn,tmps,params,assign,body,defers:=w.heap.size })
     (i:=⟨w.heap.size+1,true,0,0,false⟩) sz.symm rfl (by
      rw[vJ];exact⟨_,rfl,rfl,rfl,hR.fn,(ht.mono le1.f).mono le2.f,rfl,rfl,rfl,⟨_,le2 _ _ Mu.ext_same,rfl⟩⟩)
    have le:=Mu.le_trans le1 le2;have hi2:((μ.ext H.next ⟨w.heap.size,true,0,0,false⟩).ext (newBlk H (.deferred (some []))).next ⟨w.heap.size+1,true,0,0,false⟩) (H.next+1)=some ⟨w.heap.size+1,true,0,0,false⟩:=Mu.ext_same;obtain⟨g,args',hA,hfr⟩:=EV (ds:=ds) hS hx hi2 (hvr.mono le.f _ _) (cur:=some (newBlk (newBlk H (.deferred (some []))) (.loop ⟨.ready,none,R.fn,R.n,tm,params.toList,assign,body,H.next⟩)))
    have run:(Instr.enterLoop b.fn tmps params assign body b.roundOf).run P w=.ok (w.heap.size+1,[{ target:=.collected w.heap.size,args := #[] }]) ((w.alloc (.deferred (some []))).alloc (.loop { state:=.ready,pending:=none,fn:=b.fn,tmps,params,assign,body,defers:=w.heap.size })):=by
     simp_all [Instr.enterLoop]
    refine⟨_,_,b.atR ⟨tmps,{ target:=.collected w.heap.size,args := #[] }::ds⟩ (.inRangeFunc (w.heap.size+1)::k')::cs,_,.one (CM run (hA _)),le,?_,h2,hfr,.cons ⟨?_,?_⟩ (hcs.mono le)⟩
    ·refine(qR hH.size _).trans (qR ?_ _);rw[sz];have:=hH.size;omega
    ·have:=hR.mono le.f;exact⟨this.fn,this.size,.cons ⟨⟨_,le2 _ _ Mu.ext_same,rfl⟩⟩ this.defers,this.mode,this.kind,by have:=this.round;rw[hr]at this;exact this⟩
    ·show if R.mode.running=true then tN C _ acs.length R.n none (.inRange (H.next+1)::k) tm (.inRangeFunc (w.heap.size+1)::k') tmps else _;rw[yab hR.running];exact .plain (.cons (.inRange _ ⟨w.heap.size+1,true,0,0,false⟩ hi2) (hk.mono fun _ _ r=>r.mono le.f)) (ht.mono le.f)
  | some outer=>
   obtain⟨io,hio,hb⟩:∃i,μ outer=some i/\b.roundOf=some i.b:=by
    have:=hR.round;rw[hr]at this;exact Vw this
   simp only[]
   cases hlo:eK H outer with
   | none=>exact trivial
   | some o=>
    rw[uA]
    cases hx:tY C H.next v with
    | none=>exact trivial
    | some h=>
     obtain⟨hl,r',hg,hw,rel⟩:=Ls hH hlo hio;obtain⟨idf,hdf,hdf'⟩:=rel.defers;have le:μ.le (μ.ext H.next ⟨w.heap.size,true,0,0,false⟩):=hH.ext_le;have h2:=hH.newBlk (x:=.loop ⟨.ready,none,R.fn,R.n,tm,params.toList,assign,body,o.defers⟩) (o:=.loop { state:=.ready,pending:=none,fn:=b.fn,tmps,params,assign,body,defers:=r'.defers })
      (i:=⟨w.heap.size,true,0,0,false⟩) rfl rfl (by
       rw[vJ];exact⟨_,rfl,rfl,rfl,hR.fn,ht.mono le,rfl,rfl,rfl,⟨idf,le _ _ hdf,hdf'⟩⟩)
     have hi2:(μ.ext H.next ⟨w.heap.size,true,0,0,false⟩) H.next=some ⟨w.heap.size,true,0,0,false⟩:=Mu.ext_same;obtain⟨g,args',hA,hfr⟩:=EV (ds:=ds) hS hx hi2 (hvr.mono le.f _ _) (cur:=some (newBlk H (.loop ⟨.ready,none,R.fn,R.n,tm,params.toList,assign,body,o.defers⟩)));have run:(Instr.enterLoop b.fn tmps params assign body b.roundOf).run P w=.ok (w.heap.size,[]) (w.alloc (.loop { state:=.ready,pending:=none,fn:=b.fn,tmps,params,assign,body,defers:=r'.defers })):=by
      simp_all [Instr.enterLoop,Kr]
     refine⟨_,_,b.atR ⟨tmps,ds⟩ (.inRangeFunc w.heap.size::k')::cs,_,.one (CM run (hA _)),le,qR hH.size _,h2,hfr,.cons ⟨?_,?_⟩ (hcs.mono le)⟩
     ·have:=hR.mono le.f;exact⟨this.fn,this.size,this.defers,this.mode,this.kind,this.round⟩
     ·show if R.mode.running=true then tN C _ acs.length R.n none (.inRange H.next::k) tm (.inRangeFunc w.heap.size::k') tmps else _;rw[yab hR.running];exact .plain (.cons (.inRange _ ⟨w.heap.size,true,0,0,false⟩ hi2) (hk.mono fun _ _ r=>r.mono le.f)) (ht.mono le.f)
def RA  : step P (lone (b.atR ⟨tmps,ds⟩ (.code (.scope c)::k')) cs w)=.next (lone (b.atR ⟨tmps,ds⟩ (.code c::.inScope c::k')) cs w):=
 step_lone_go (by simp[stepG,stepG.exec,Frame.atR])
def RH  : step P (lone (b.atR ⟨tmps,ds⟩ (.inScope c::k')) cs w)=.next (lone (b.atR ⟨tmps,ds⟩ k') cs w):=
 step_lone_go (by simp[stepG,stepG.exec,Frame.atR])
def zjj(hS:pK P C B N I)(hI:I w)(hH:rB B N μ H w)(hcs:pG C μ acs cs)(hR:kH μ R (b.atR ⟨tmps,ds⟩ []))(ht:fE μ R.n tm tmps):∀(c:Code) {k:List iE} {k':List Item},dC (dG μ) k k' →
  iD P C B N μ base (lone (b.atR ⟨tmps,ds⟩ (.code c::k')) (cs++base) w) w ((zgq c).f C k tm R acs H):=by
 intro c;induction c with
 | skip=>intro k k' hk;exact Pt hH hcs hR ht hk stepR_skip
 | region id ops d=>
  intro k k' hk
  cases d with
  | true=>exact zi7 hS hH hcs hR ht hk
  | false=>
   refine iD.of_steps (.one stepR_region) (fun _ _ h=>h) (Below.refl N w) ?_;have:=EF (base:=base) (all:=ops) hS ops.toList 0 tm.cut H w μ tmps (by simp) (yaw _) hI hH hcs hR ht.cut hk;rw[ycr]at this;exact this
 | seq x y ihx _=>
  intro k k' hk;exact iD.of_steps (.one stepR_seq) (fun _ _ h=>h) (Below.refl N w) (ihx (.cons (.code y) hk))
 | cond c x y _ _=>intro k k' hk;exact zjh hH hcs hR ht hk
 | block id c _=>intro k k' hk;exact zef hH hcs hR ht hk
 | loop c _=>intro k k' hk;exact zh5 hH hcs hR ht hk
 | rangeFunc f ps a c _ _=>intro k k' hk;exact zco hS hH hcs hR ht hk
 | exit id=>intro k k' hk;exact zi1 hH hcs hR ht hk
 | scope c _=>intro k k' hk;exact sY hH hcs hR ht (.cons (.code _) (.cons (.inScope _) hk)) (.one RA)
 | label l=>intro k k' hk;exact Pt hH hcs hR ht hk stepR_label
 | goto l=>intro k k' _;exact trivial
 | ret=>intro k k' _;exact ret_ok hH hcs hR ht
 | refuse s=>intro k k' _;exact trivial
theorem zi2(hS:pK P C B N I)(hI:I w)(hH:rB B N μ H w)(hcs:pG C μ acs cs)(hR:kH μ R (b.atR ⟨tmps,ds⟩ [])){todo:List iE}{btodo:List Item}(hb:tN C μ acs.length R.n (some H) todo tm btodo tmps) :
  iD P C B N μ base (lone (b.atR ⟨tmps,ds⟩ btodo) (cs++base) w) w (wR C todo tm R acs H):=by
 generalize hc:some H=cur at hb
 cases hb with
 | plain a t=>
  cases a with
  | nil=>exact end_ok hH hcs hR t
  | cons i hk=>
   cases i with
   | code c=>exact zjj hS hI hH hcs hR t c hk
   | inBlock id=>exact Pt hH hcs hR t hk stepR_inBlock
   | inLoop c=>exact sY hH hcs hR t (.cons (.code _) (.cons (.inLoop _) hk)) (.one stepR_inLoop)
   | inScope c=>exact Pt hH hcs hR t hk RH
   | ops all i hi=>exact EF hS _ i _ _ _ _ _ rfl hi hI hH hcs hR t hk
   | inRange l i hl=>exact trivial
   | endRange l i hl=>exact XM hH hcs hR t hk hl
   | beginRound=>exact zeg hH hcs hR t hk
 | @reg _ all old _ olds stages _ order _ _ anc D S hr hst hp hk=>
  cases hc;show iD P C B N μ base _ w (jR all old olds stages C _ tm R acs H);unfold jR
  cases stages with
  | nil=>grind [TA]
  | cons st stages=>
   by_cases hlt:st.heavy<=all.size
   ·obtain⟨_,_,D1,D2,h1,_⟩:=Px hst hlt;obtain⟨o,ho,_⟩:=Lf h1;have:tD all.toList st.heavy=some o:=by grind [vE]
    simp only[this];grind [zdi]
   ·have:tD all.toList st.heavy=none:=by grind [vE]
    simp only[this];grind [sC,oD,WQ,WR]
 | @mid _ all old _ olds lights again stages _ order _ _ anc D D2 S hr h1 h2 hw hk=>
  show iD P C B N μ base _ w (jR all old olds (⟨all.size,lights,again⟩::stages) C _ tm R acs H);unfold jR;have:tD all.toList all.size=none:=by rw[vE];simp
  simp only[this];grind [sC,oD,VV]
 | wait _ _ _ _ _=>cases hc
end
end
section
variable {es:List Deferred}{dp f n:Nat}{fn:Func}{m:Machine}{fr:lC}
section
variable {P:Program}{C:fA}{B N:Nat}{I:World->Prop}{μ ν:Mu}{H H':pA}{w:World}{tm:Tm}{R:nK}{acs:List lC}{base cs:List Frame}
variable {b:Frame}{tmps:Array Value}
theorem QX{block:Nat}{calls:List Deferred}{w':World}(hm:b.mode≠.run)(hd:b.defers={ target:=.collected block,args := #[] }::es)(hr:(Instr.takeDeferred block).run P w=.ok calls w') :
  step P (lone b cs w)=.next (lone { b with defers:=calls++es } cs w'):=by
 obtain⟨fn,tmps,todo,defers,mode,kind,round⟩:=b;simp only at hm hd;subst hd;refine step_lone_go ?_
 simp_all [stepG,unwind]
theorem QY {cap as:Array Value} (hm:b.mode≠.run)(hd:b.defers={ target:=.fn (.func f) cap,args:=as }::es)(hr:(callFunc f (as++cap)).run P w=.ok (.enter f (as++cap)) w) :
  step P (lone b cs w)=.next (lone (Frame.enter P f (as++cap) .deferred) ({ b with defers:=es }::cs) w):=by
 obtain⟨fn,tmps,todo,defers,mode,kind,round⟩:=b;simp only at hm hd;subst hd;refine step_lone_go ?_
 simp_all [stepG,unwind,callDeferred,invoke]
def lZ(c:Frame):Frame:=
 match c.mode with
 | .panicking ({ recovered:=true,.. }::older)=>
  match older.dropWhile (!·.goexit)with
  | []=>{ c with mode:=.returning }
  | rest=>{ c with mode:=.panicking rest }
 | _=>c
def QW {v:Value}{c:Frame}(hm:b.mode=.returning)(hd:b.defers=[])(hk:b.kind=.deferred)(hf:P.funcs[b.fn]?=some fn)(hr:(results fn b.tmps).run P w=.ok v w) :
  step P (lone b (c::cs) w)=.next (lone (lZ c) cs w):=by
 refine step_lone_go ?_;simp only[stepG,unwind,doReturn,hm,hd,hk,hf,Sem.runT_eq,hr,GStep.bare_after];rfl
def Pj(tmps:Array Value)(r:ResultVar):Sem Value:=
 match r with
 | .tmp t=>pure (tmps.getD t undef)
 | .cell a t=>do loadVar t (<- asAddr (tmps.getD a undef))
theorem SU(fn:Func)(tmps:Array Value):results fn tmps=(do let vs <- fn.results.mapM (Pj tmps);pure (if h:vs.size=1 then vs[0]else .tuple vs)):=rfl
theorem SO(hT:jF P C)(hH:rB B N μ H w) (ht:fE μ n tm tmps):∀(rs:List ResultVar) (l:List zA),oH (Ag C H tm) rs=some l →
  ∃vs,(rs.mapM (Pj tmps)).run P w=.ok vs w/\pB μ l vs:=by
 intro rs;induction rs with
 | nil=>intro l h;rw[Dy]at h;cases h;exact⟨[],by simp_all,.nil⟩
 | cons r rs ih=>
  intro l h;rw[dO,lA]at h;obtain⟨a,ha,h⟩:=h;rw[lA]at h;obtain⟨m,hm,h⟩:=h;cases h;obtain⟨vs,h1,h2⟩:=ih m hm;rw[List.mapM_cons]
  cases r with
  | tmp t=>
   refine⟨_,?_,.cons (ht.2 t a ha) h2⟩
   grind [Pj,Sem.run_bind,Sem.run_pure,Result.andThen_ok]
  | cell x t=>
   simp only[Ag,lA,Fh]at ha;obtain⟨p,⟨av,hav,rfl⟩,ty,hty,c,hc,hl⟩:=ha;have hv:=ht.2 x _ hav;rw[rA]at hv;obtain⟨i,hi,hv⟩:=hv;obtain⟨v',h3,h4⟩:=GW (P:=P) hH (hT.facts hty) hc hi hl;refine⟨_,?_,.cons h4 h2⟩
   grind [asAddr,Pj,Sem.run_bind,Sem.run_pure,Result.andThen_ok]
theorem EI(hT:jF P C)(hH:rB B N μ H w) (ht:fE μ n tm tmps) {l:List zA}(h:wY C H tm fn.results.toList=some l) :
  ∃v,(results fn tmps).run P w=.ok v w/\rA μ (Cs l) v:=by
 obtain⟨vs,h1,h2⟩:=SO hT hH ht _ _ h;refine⟨if h:vs.toArray.size=1 then vs.toArray[0]else .tuple vs.toArray,?_,?_⟩
 ·grind [SU,Array.mapM_eq_mapM_toList,Sem.run_bind,map_eq_pure_bind,Result.andThen_ok,Sem.run_pure]
 ·have hl:=h2.length
  cases l with
  | nil=>
   rw[pB]at h2;subst h2;rw[dif_neg (by simp)];show rA μ (.tup []) _;rw[rA];exact⟨_,rfl,.nil⟩
  | cons a m=>
   cases m with
   | nil=>
    rw[pB]at h2;obtain⟨v,r,rfl,hv,hr⟩:=h2;rw[pB]at hr;subst hr;rw[dif_pos (by simp)];exact hv
   | cons a2 m=>
    rw[dif_neg (by simp[hl])];show rA μ (.tup (a::a2::m)) _
    grind [rA]
def DefRel(μ:Mu):Option (List zK)->Option (List Deferred)->Prop
 | none,none=>True
 | some a,some b=>dC (eZ μ) a b
 | _,_=>False
def XX(hH:rB B N μ H w){l:Nat}{x:Option (List zK)}(h:bW H l=some x){i:BI}(h4:μ l=some i):B<=l/\∃x',H.t.get l=some (.deferred x)/\w.heap[i.b]?=some (.deferred x')/\DefRel μ x x':=by
 unfold bW at h;rw[oB,pE,lA]at h;obtain⟨h1,y,h2,h3⟩:=h;have:y=.deferred x:=by cases y<;>simp[qA.asDeferred]at h3;rw[h3]
 subst this;obtain⟨o,h5,h6⟩:=hH.blk l _ i h2 h4;rw[vJ]at h6;obtain⟨r',rfl,h7⟩:=h6;refine⟨Nat.le_of_not_lt fun hlt=>?_,r',h2,h5,?_⟩
 ·have:=(hH.low l _ i hlt h2 h4).2.2;cases this
 cases x<;>cases r'<;>exact h7
def UX{μ:Mu}{m:kX}{m':FrameMode}(h:Nc μ m m')(hm:m.running=false):m'≠.run:=by
 rintro rfl;cases m<;>first | exact h.elim | cases hm
theorem QF(hS:pK P C B N I)(hH:rB B N μ H w)(hcs:pG C μ acs cs) (hr:kH μ fr.R b)(hm:fr.R.mode.running=false)(ht:fE μ fr.R.n fr.tm b.tmps){d:zK}{l:List zK}(hd:fr.R.defers=d::l) :
  iD P C B N μ base (lone b (cs++base) w) w (Jp C d l fr acs H):=by
 have hrun:=UX hr.mode hm;have hds:=hr.defers;rw[hd]at hds;generalize hbd:b.defers=bd at hds
 cases hds with
 | @cons _ e _ es h1 h2=>
  obtain⟨dfn,dr,dargs⟩:=d;have h1:=h1.rel;unfold Jp
  cases dfn with
  | none=>
   obtain⟨i,hi,rfl⟩:=h1;simp only[]
   cases hx:bW H dr with
   | none=>exact trivial
   | some x=>
    rw[uA]
    cases x with
    | none=>exact trivial
    | some calls=>
     obtain⟨hl,x',hg,hw,rel⟩:=XX hH hx hi
     cases x' with
     | none=>exact rel.elim
     | some calls'=>
      have run:(Instr.takeDeferred i.b).run P w=.ok calls' (World.setBlk w i.b (.deferred none)):=by
       simp_all [Gs,getObj,Sem.run,Instr.takeDeferred]
      refine⟨μ,_,cs,_,.one (QX hrun hbd run),fun _ _ h=>h,tX (hH.own dr i hl hi).1,?_,⟨?_,?_⟩,hcs⟩
      ·refine hH.upd hg hi hl ?_
       grind [vJ]
      ·refine⟨hr.fn,hr.size,?_,hr.mode,hr.kind,hr.round⟩;show dC (eZ μ) (tE calls l) (calls'++es);rw[fH];exact dC.append rel h2
      ·show if fr.R.mode.running=true then tN C _ _ _ _ _ _ _ _ else _;rw[yaa (by grind)];exact ht
  | some fn=>
   cases fn with
   | yld m=>exact trivial
   | func f=>
    obtain⟨fn,cap,as,rfl,hfn,hl⟩:=h1;cases hfn;simp only[]
    cases hp:C.prims.get f with
    | some x=>exact trivial
    | none=>
     simp only[]
     cases he:bM C f dargs true with
     | none=>exact trivial
     | some g=>
      obtain⟨h3,fn,hfn,hb⟩:=Mm (cur:=some H) hS.fns he hl;refine⟨μ,_,{ b with defers:=es }::cs,w,.one (QY hrun hbd (Pe hS.fns hfn hb)),fun _ _ h=>h,Below.refl N w,hH,h3,.cons ⟨⟨hr.fn,hr.size,h2,hr.mode,hr.kind,hr.round⟩,?_⟩ hcs⟩;show if fr.R.mode.running=true then tN C _ _ _ _ _ _ _ _ else _;rw[yaa (by grind)];exact ht
theorem eJ.still {cur cur':Option pA} (h:eJ C μ dp cur fr b)(hm:fr.R.mode.running=false):eJ C μ dp cur' fr b:=by
 refine⟨h.rest,?_⟩;have:=h.body
 simp_all
theorem XS{l:List PanicEntry}{m:List Bv}(h:dC (Br μ) m l):l.dropWhile (!·.goexit)=[]:=by
 induction h with
 | nil=>rfl
 | cons a _ ih=>simp[a.goexit,ih]
def Sq(c:lC)(rest:List lC)(H:pA):Option kR:=
 match c.R.mode with
 | .panicking (⟨_,true⟩::_)=>some (⟨Kl c .returning,rest,H⟩:kR)
 | _=>vB (!c.R.mode.running) (some ⟨c,rest,H⟩)
def FA(C:fA)(fr:lC)(ch:List Bv)(cs:List lC)(H:pA):bF:=
 gL (ob (C.fns.get fr.R.fn) fun _=>match cs with | c::rest=>some ⟨Po c ch,rest,H⟩ | []=>none) 19
theorem zjr {c:lC}{c':Frame}(hc:eJ C μ dp none c c'){x:kR}{rest:List lC}(h:Sq c rest H=some x):x.cs=rest/\x.H=H/\eJ C μ dp (some H) x.fr (lZ c'):=by
 have hm:=hc.rest.mode;have stay:c'.mode=c'.mode->(lZ c'=c')->c.R.mode.running=false->x=⟨c,rest,H⟩->x.cs=rest/\x.H=H/\eJ C μ dp (some H) x.fr (lZ c'):=by
  intro _ h1 h2 h3;subst h3;rw[h1];exact⟨rfl,rfl,hc.still h2⟩
 obtain⟨ct,ctm,cR⟩:=c;obtain⟨f,n,de,mode,dd,ro⟩:=cR;unfold Sq at h;simp only at h hm
 cases mode with
 | run=>cases h
 | returning=>
  cases hcm:c'.mode with
  | returning=>exact stay rfl (by unfold lZ;rw[hcm]) rfl (yci h).symm
  | _=>rw[hcm]at hm;exact hm.elim
 | panicking ch=>
  cases hcm:c'.mode with
  | run=>rw[hcm]at hm;exact hm.elim
  | returning=>rw[hcm]at hm;exact hm.elim
  | panicking ch'=>
   rw[hcm]at hm
   cases hm with
   | nil=>exact stay rfl (by unfold lZ;rw[hcm]) rfl (yci h).symm
   | @cons p e older older' hp hold=>
    obtain⟨pv,pr⟩:=p;obtain⟨ev',er,eg⟩:=e;obtain⟨q1,q2,q3⟩:=hp;simp only at q1 q2 q3;subst q2 q3
    cases er with
    | false=>exact stay rfl (by unfold lZ;rw[hcm]) rfl (yci h).symm
    | true=>
     cases yci h;refine⟨rfl,rfl,?_⟩;have:lZ c'={ c' with mode:=.returning }:=by
      grind [lZ,XS]
     rw[this];have hb:=hc.body;exact⟨⟨hc.rest.fn,hc.rest.size,hc.rest.defers,trivial,hc.rest.kind,hc.rest.round⟩,hb⟩
theorem QE(hS:pK P C B N I)(hH:rB B N μ H w)(hcs:pG C μ acs cs) (hr:kH μ fr.R b)(hm:b.mode=.returning)(hd:b.defers=[])(ht:fE μ fr.R.n fr.tm b.tmps) :
  iD P C B N μ base (lone b (cs++base) w) w (Jo C fr acs H):=by
 unfold Jo
 cases hx:ob (C.fns.get fr.R.fn) fun fn=>wY C H fr.tm fn.results.toList with
 | none=>exact trivial
 | some l=>
  rw[lA]at hx;obtain⟨fn,hfn,hres⟩:=hx;obtain⟨v,h1,h2⟩:=EI hS.tys hH ht hres;have hf:P.funcs[b.fn]?=some fn:=by rw[hr.fn];exact(hS.fns _ _ hfn).1
  have hk:=hr.kind;simp only[]
  cases hcs with
  | nil=>
   simp only[nD]
   cases hdf:fr.R.deferred with
   | true=>exact trivial
   | false=>
    rw[hdf]at hk;rw[yaa (by simp)];split
    ·rename_i hroot;exact⟨μ,b,w,v,.refl _ _,fun _ _ h=>h,Below.refl N w,hH,h2,by rw[hr.fn];simp_all,hm,hd,hk,fn,hf,h1⟩
    ·exact trivial
  | @cons c c' acs1 cs1 hc hcs1=>
   simp only[]
   cases hdf:fr.R.deferred with
   | true=>
    rw[hdf]at hk;simp only[cond_true];show iD P C B N μ base _ w (gL (Sq c acs1 H) 18);generalize hx:Sq c acs1 H=x
    cases x with
    | none=>exact trivial
    | some x=>
     obtain⟨h3,h4,h5⟩:=zjr hc hx;obtain⟨xf,xc,xh⟩:=x;simp only at h3 h4 h5;subst h3 h4;exact⟨μ,_,cs1,w,.one (QW hm hd hk hf h1),fun _ _ h=>h,Below.refl N w,hH,h5,hcs1⟩
   | false=>
    rw[hdf]at hk;simp only[cond_false]
    cases hfi:wI c (Cs l)with
    | none=>exact trivial
    | some g=>
     exact⟨μ,_,cs1,w,.one (step_leave_returned ⟨hm,hd,hk,fn,hf,h1⟩),fun _ _ h=>h,Below.refl N w,hH,El hc hfi h2,hcs1⟩
theorem PX(hS:pK P C B N I)(hH:rB B N μ H w)(hcs:pG C μ acs cs) (hfr:eJ C μ acs.length (some H) fr b)(hm:fr.R.mode.running=false) :
  iD P C B N μ base (lone b (cs++base) w) w (Oa C fr acs H):=by
 have ht:fE μ fr.R.n fr.tm b.tmps:=by
  have:=hfr.body
  simp_all
 have hr:=hfr.rest;unfold Oa
 cases hd:fr.R.defers with
 | cons d l=>grind [QF]
 | nil=>
  have hbd:b.defers=[]:=by
   have:=hr.defers;rw[hd]at this;generalize hbd:b.defers=bd at this;cases this;rfl
  have hmode:=hr.mode;simp only[]
  cases hmo:fr.R.mode with
  | run=>rw[hmo]at hm;cases hm
  | returning=>
   rw[hmo]at hmode;have:b.mode=.returning:=by
    cases hb:b.mode with
    | returning=>rfl
    | _=>rw[hb]at hmode;exact hmode.elim
   exact QE hS hH hcs hr this hbd ht
  | panicking ch=>
   rw[hmo]at hmode
   cases hb:b.mode with
   | run=>rw[hb]at hmode;exact hmode.elim
   | returning=>rw[hb]at hmode;exact hmode.elim
   | panicking ch'=>
    rw[hb]at hmode;show iD P C B N μ base _ w (FA C fr ch acs H);unfold FA
    cases hfn:C.fns.get fr.R.fn with
    | none=>exact trivial
    | some fn=>
     rw[uA];have hf:P.funcs[b.fn]?=some fn:=by rw[hr.fn];exact(hS.fns _ _ hfn).1
     cases hcs with
     | nil=>exact trivial
     | @cons c c' acs1 cs1 hc hcs1=>
      exact⟨μ,_,cs1,w,.one (step_leave_panicked ⟨hb,hbd,fn,hf⟩),fun _ _ h=>h,Below.refl N w,hH,EZ hc hmode,hcs1⟩
theorem zb1(hS:pK P C B N I)(hI:I w){s:kR}(hH:rB B N μ s.H w)(hcs:pG C μ s.cs cs)(hfr:eJ C μ s.cs.length (some s.H) s.fr b):iD P C B N μ base (lone b (cs++base) w) w (stepA C s):=by
 obtain⟨⟨todo,tm,R⟩,acs,H⟩:=s;show iD P C B N μ base _ w (bif R.mode.running then wR C todo tm R acs H else Oa C ⟨todo,tm,R⟩ acs H)
 cases hm:R.mode.running with
 | false=>grind [PX]
 | true=>
  have hb:=hfr.body;have hr:=hfr.rest;simp only at hb hr;rw[yab hm]at hb;have hbm:b.mode=.run:=by
   have h:=hr.mode
   cases hmo:R.mode with
   | run=>
    rw[hmo]at h
    cases hb:b.mode with
    | run=>rfl
    | _=>rw[hb]at h;exact h.elim
   | _=>rw[hmo]at hm;cases hm
  have e:=zej hbm;have:=zi2 (b:=b) (tmps:=b.tmps) (ds:=b.defers) (base:=base) hS hI hH hcs ⟨hr.fn,hr.size,hr.defers,by have:=hr.mode;rw[hbm]at this;exact this,hr.kind,hr.round⟩ hb
  simp_all
theorem CO(hS:pK P C B N I)(hI:I w) {o:bF}(h:iD P C B N μ base m w o):iD P C B N μ base m w (Gg C o):=by
 cases o with
 | fail n=>exact trivial
 | done v H=>exact h
 | next s=>
  obtain⟨μ',b,cs,w',h1,h2,h3,h4,h5,h6⟩:=h;exact iD.of_steps h1 h2 h3 (zb1 hS (hS.inv _ _ h3 hI) h4 h6 h5)
def zhm(hS:pK P C B N I)(hI:I w)  : ∀(n:Nat) {o:bF},iD P C B N μ base m w o->iD P C B N μ base m w (Dc C n o):=by
 intro n;induction n with
 | zero=>intro o h;exact CO hS hI h
 | succ n ih=>intro o h;exact ih (ih h)
def YP(hS:pK P C B N I)(hI:I w) (hroot:C.root=f){args:List zA}{args':Array Value}(hH:rB B N μ H w)(hl:pB μ args args'.toList){g:lC}(he:bM C f args false=some g) {v:zA}{H':pA}
  (hrun:Dc C n (.next ⟨g,[],H⟩)=.done v H') :
  Calls P f args' w fun e w'=>∃v' μ',e=.returned v'/\μ.lw μ'/\rA μ' v v'/\rB B N μ' H' w'/\Below N w w':=by
 intro base;have h0:iD P C B N μ base (lone (Frame.enter P f args' .normal) base w) w (.next ⟨g,[],H⟩):=
  ⟨μ,_,[],w,.refl _ _,fun _ _ h=>h,Below.refl N w,hH,(Mm (cur:=some H) hS.fns he hl).1,.nil⟩
 have h1:=zhm hS hI n h0;rw[hrun]at h1;obtain⟨μ',b,w',v',h2,h3,h4,h5,h6,h7,h8⟩:=h1;exact⟨.returned v',w',b,⟨v',μ',rfl,h3,h6,h5,h4⟩,h2,by rw[h7,hroot],h8⟩
end
end
section
variable {α:Type}{v:zA}{x:zA × pA}
abbrev dB:=Option (zA × pA)
abbrev xJ:=AFn->List zA->pA->dB
structure Kt where
 norm:Tm->pA->dB
 exit:Nat->Tm->pA->dB
 ret:Tm->pA->dB
structure PI where
 id:Nat
 pl:List Nat
 ll:List (Nat × Nat)
def PI.kept(p:PI):List Nat:=tE p.pl (List.rec (motive:=fun _=>List Nat) [] (fun a _ r=>a.1::r) p.ll)
inductive dD where
 | skip
 | region (id:Nat) (ops:Array Oper) (draw:Bool)
 | seq (a b:dD)
 | cond (c:Operand) (x y:dD)
 | block (id:Nat) (c:dD)
 | loop (p:PI) (c:dD)
 | exit (id:Nat)
 | ret
 | cut (p:PI) (c:dD)
 | range (i:Nat) (pl:List Nat) (f:Operand) (ps:Array Nat) (id:Nat) (ops:Array Oper) (c:dD)
def sG:dD->Code
 | .skip=>.skip
 | .region id ops d=>.region id ops d
 | .seq a b=>.seq (sG a) (sG b)
 | .cond c x y=>.cond c (sG x) (sG y)
 | .block id c=>.block id (sG c)
 | .loop _ c=>.loop (sG c)
 | .exit id=>.exit id
 | .ret=>.ret
 | .cut _ c=>sG c
 | .range _ _ f ps id ops c=>.rangeFunc f ps (.region id ops false) (sG c)
def lim {α:Type}(f:Nat->Option α):Option α:=@dite _ (∃n r,f n=some r) (Classical.propDecidable _) (fun h=>f h.choose) (fun _=>none)
def Mono {α:Type}(f:Nat->Option α):Prop:=∀n r,f n=some r->f (n+1)=some r
def Mono.le {f:Nat->Option α}(h:Mono f){n m:Nat}{r:α}(hr:f n=some r)(hnm:n<=m):f m=some r:=by
 induction hnm with
 | refl=>exact hr
 | step _ ih=>exact h _ _ ih
def Qt {f:Nat->Option α}(h:Mono f){r:α}:lim f=some r ↔ ∃n,f n=some r:=by
 unfold lim;by_cases hx:∃n r,f n=some r
 ·rw[dif_pos hx];obtain⟨r0,h0⟩:=hx.choose_spec;constructor
  ·grind
  ·rintro⟨n,hn⟩;have a:=h.le h0 (Nat.le_max_left hx.choose n);have b:=h.le hn (Nat.le_max_right hx.choose n)
   simp_all
 simp_all
def zhz:fD->zA->(zA->dB)->dB
 | .bool,v,K=>ob v.asBool fun b=>K (.bool b)
 | .int k,v,K=>ob v.asIntK fun p=>vB (bO p.1 k) (K (.int k p.2))
 | .string,v,K=>ob v.asStr fun l=>K (.str l)
 | .ptr _,v,K=>K v
 | .slice _,v,K=>K v
 | .arr _ _,v,K=>K v
 | .map _ _,v,K=>K v
 | .struct _,v,K=>K v
 | .func,v,K=>K v
 | .iface,v,K=>K v
 | .other,v,K=>K v
def fitD:fD->zA->Prop
 | .bool,v=>∃b,v=.bool b
 | .int k,v=>∃n,v=.int k n
 | .string,v=>∃l,v=.str l
 | _,_=>True
theorem UZ{d:fD} {K:zA->dB}  : zhz d v K=some x ↔ fitD d v/\K v=some x:=by
 cases d<;>simp only[zhz,fitD,lA,oB,true_and]
 case bool=>
  grind [Bi]
 case int k=>
  constructor
  ·grind [lV,eL]
  ·rintro⟨⟨n,rfl⟩,h⟩;exact⟨(k,n),rfl,eL.2 rfl,h⟩
 grind [mV]
def iL(C:fA)(t:Nat)(v:zA)(K:zA->dB):dB:=
 match C.tys.get t with
 | some ty=>zhz ty.desc v K
 | none=>K v
def sZ (C:fA)(t:Nat)(v:zA):Prop:=
 match C.tys.get t with
 | some ty=>fitD ty.desc v
 | none=>True
theorem fQ{C:fA}{t:Nat} {K:zA->dB}  : iL C t v K=some x ↔ sZ C t v/\K v=some x:=by
 grind [iL,sZ,UZ]
def cG (φ:xJ)(r:zM)(H:pA)(k:zA->pA->dB):dB:=
 match r with
 | .val v H'=>k v H'
 | .enter f args=>ob (φ (.func f) args H) fun p=>k p.1 p.2
 | .round l args=>ob (φ (.yld l) args H) fun p=>k p.1 p.2
 | _=>none
def eO (C:fA)(φ:xJ)(all:Array Oper)(n:Nat)(κ:Tm->pA->dB)(l:List Oper):Tm->pA->dB:=
 List.rec (motive:=fun _=>Tm->pA->dB) κ
  (fun o _ g tm H=>ob (aF o.guard all tm) fun w=>Bool.rec (motive:=fun _=>dB) (g (putA n tm o.dst kD) H)
   (cG φ ((qG o.op).f C (.now tm) H) H fun v H'=>iL C o.type v fun v=>g (putA n tm o.dst v) H') w) l
def pI(C:fA)(H:pA)(all:Array Oper)(n:Nat)(old:Tm)(olds:List (Nat × List Nat))(k:Tm->dB)(l:List Nat):Tm->dB:=
 List.rec (motive:=fun _=>Tm->dB) k
  (fun i _ g tm=>ob (tD all.toList i) fun o=>ob (aF o.guard all tm) fun w=>Bool.rec (motive:=fun _=>dB) (g (putA n tm o.dst kD))
   (ob ((fF o.op).f C (.mixed tm old (rF i olds) (bH o.op)) H) fun v=>iL C o.type v fun v=>g (putA n tm o.dst v)) w) l
def nM(C:fA)(H:pA)(all:Array Oper)(old:Tm)(olds:List (Nat × List Nat))(tm:Tm)(k:dB)(l:List Nat):dB:=
 List.rec (motive:=fun _=>dB) k
  (fun i _ g=>ob (tD all.toList i) fun o=>ob o.dst fun d=>ob (aF o.guard all tm) fun w=>Bool.rec (motive:=fun _=>dB) g
   (ob ((fF o.op).f C (.mixed tm old (rF i olds) (bH o.op)) H) fun v=>iL C o.type v fun v=>ob (tm.get d) fun u=>vB (same 10 v u) g) w) l
def dM (all:Array Oper)(h:Nat):Nat:=bif Nat.blt (wB all.toList) h then Nat.sub h (Nat.succ (wB all.toList))else h
def sU(C:fA)(all:Array Oper)(h:Nat)(o:Oper)(tm:Tm):Option Bool:=ob (aF o.guard all tm) fun w=>bif Nat.blt (wB all.toList) h then vB (w&&xL o.op&&aH (jY C o.op)) (some w)else some w
def jT(all:Array Oper)(st:fG):Bool:=Nat.blt (wB all.toList+wB all.toList) st.heavy
def Mh(C:fA)(all:Array Oper)(n:Nat)(old:Tm)(olds:List (Nat × List Nat))(st:fG)(g:Tm->pA->dB)(tm:Tm)(H:pA):dB:=
 vB (jW C all) (ob (Ic all old olds tm st.again) fun es=>ob (vZ C es H) fun H'=>pI C H' all n old olds (fun tm=>g tm H') st.lights tm)
def tJ(C:fA)(φ:xJ)(all:Array Oper)(n:Nat)(old:Tm)(olds:List (Nat × List Nat))(κ:Tm->pA->dB)(l:List fG):Tm->pA->dB:=
 List.rec (motive:=fun _=>Tm->pA->dB) κ
  (fun st _ g tm H=>Bool.rec (motive:=fun _=>dB) (ob (tD all.toList (dM all st.heavy)) fun o=>ob (sU C all st.heavy o tm) fun w=>
   (fun cont:zA->pA->dB=>Bool.rec (motive:=fun _=>dB) (cont kD H)
    (cG φ ((qG o.op).f C (.mixed tm old (rF (dM all st.heavy) olds) (bH o.op)) H) H fun v H'=>iL C o.type v fun v=>cont v H') w)
   (fun v H'=>nM C H' all old olds (putA n tm o.dst v) (pI C H' all n old olds (fun tm=>g tm H') st.lights (putA n tm o.dst v)) st.again)) (Mh C all n old olds st g tm H) (jT all st)) l
def Gw(C:fA)(φ:xJ)(fn n:Nat)(κ:Tm->pA->dB)(id:Nat)(all:Array Oper)(draw:Bool):Tm->pA->dB:=
 Bool.rec (motive:=fun _=>Tm->pA->dB) (fun tm H=>eO C φ all n κ all.toList tm.cut H)
  (fun tm H=>ob (ob (C.plans.get fn) fun t=>t.get id) fun p=>vB (qT all p) (pI C H all n tm.cut p.olds (fun tm'=>tJ C φ all n tm.cut p.olds κ p.stages tm' H) p.first tm.cut)) draw
def Hl(tm:Tm)(live:List Nat):Tr zA:=
 List.rec (motive:=fun _=>Tr zA) .leaf (fun i _ t=>match tm.get i with | some v=>t.set i v | none=>t) live
def keep (live:List Nat)(tm:Tm):Tm:=⟨tm.k,Hl tm live,[]⟩
def isDef0:Option (List zK)->Bool
 | some []=>true
 | _=>false
def hZ(κ:Kt)(p:Option Code)(tm:Tm)(H:pA):dB:=
 match p with
 | none=>κ.norm tm H
 | some .ret=>κ.ret tm H
 | _=>none
def endLoop(H:pA)(l:Nat)(r:vQ):pA:=setBlk H l (.loop ⟨.exhausted,r.pending,r.fn,r.n,r.tm,r.params,r.assign,r.body,r.defers⟩)
def lQ(C:fA)(φ:xJ)(fn n:Nat)(κ:Kt)(f:Operand)(ps:List Nat)(a b:Code)(tm:Tm)(H:pA):dB:=
 ob (ev f (.now tm)) fun v=>ob v.asFunc fun q=>match q.1 with
  | .yld _=>none
  | .func g=>vB (aH (C.prims.get g)) (ob (φ (.func g) (tE q.2.1 (.func (.yld (H.next+1)) [] []::q.2.2)) (newBlk (newBlk H (.deferred (some []))) (.loop ⟨.ready,none,fn,n,tm,ps,a,b,H.next⟩))) fun y=>
   ob (eK y.2 (H.next+1)) fun r=>vB (!Nat.beq (LoopState.tag r.state) 1) (ob (hZ κ r.pending tm (endLoop y.2 (H.next+1) r)) fun z=>
    ob (bW z.2 H.next) fun d=>vB (isDef0 d) (some (z.1,setBlk z.2 H.next (.deferred none)))))
def aD (C:fA)(φ:xJ)(fn n:Nat)(c:dD):Kt->Tm->pA->dB:=
 dD.rec (motive:=fun _=>Kt->Tm->pA->dB)
  (fun κ tm H=>κ.norm tm H)
  (fun id all draw κ=>Gw C φ fn n κ.norm id all draw)
  (fun _ _ ga gb κ=>ga ⟨gb κ,κ.exit,κ.ret⟩)
  (fun c _ _ gx gy κ tm H=>ob (ob (ev c (.now tm)) zA.asBool) fun b=>Bool.rec (motive:=fun _=>dB) (gy κ tm H) (gx κ tm H) b)
  (fun id _ g κ=>g ⟨κ.norm,fun i tm H=>Bool.rec (motive:=fun _=>dB) (κ.exit i tm H) (κ.norm tm H) (Nat.beq id i),κ.ret⟩)
  (fun live _ g κ tm H=>lim fun m=>Nat.rec (motive:=fun _=>Tm->pA->dB) (fun _ _=>none) (fun _ r tm H=>g ⟨r,κ.exit,κ.ret⟩ (keep live.kept tm) H) m tm H)
  (fun id κ tm H=>κ.exit id tm H)
  (fun κ tm H=>κ.ret tm H)
  (fun live _ g κ tm H=>g κ (keep live.kept tm) H)
  (fun _ _ f ps id ops c _ κ tm H=>lQ C φ fn n κ f ps.toList (.region id ops false) (sG c) tm H) c
end
section
variable {k:dB}{k':zA->pA->dB}{κ κ':Tm->pA->dB}{l:List Nat}{tm:Tm}{fn i:Nat}{st:fG}
def oK {α β γ:Type}(k k':α->β->Option γ):Prop:=∀a b x,k a b=some x->k' a b=some x
def nR (φ φ':xJ):Prop:=∀f a H x,φ f a H=some x->φ' f a H=some x
structure uP (κ κ':Kt):Prop where
 norm:oK κ.norm κ'.norm
 exit:∀i,oK (κ.exit i) (κ'.exit i)
 ret:oK κ.ret κ'.ret
section
variable {C:fA}{φ φ':xJ}{all:Array Oper}{n:Nat}{x:zA × pA}
def EM(hφ:nR φ φ'){r:zM}{H:pA}{k:zA->pA->dB}(hk:oK k k')(h:cG φ r H k=some x):cG φ' r H k'=some x:=by
 cases r<;>simp only[cG]at h ⊢<;>try (cases h;done)
 case val v H'=>exact hk _ _ _ h
 case enter f args=>
  rw[lA]at h ⊢;obtain⟨p,h1,h2⟩:=h;exact⟨p,hφ _ _ _ _ h1,hk _ _ _ h2⟩
 case round l args=>
  rw[lA]at h ⊢;obtain⟨p,h1,h2⟩:=h;exact⟨p,hφ _ _ _ _ h1,hk _ _ _ h2⟩
def Wx{t:Nat}{k:zA->pA->dB}(hk:oK k k'):oK (fun v H=>iL C t v fun v=>k v H) (fun v H=>iL C t v fun v=>k' v H):=by
 intro v H x h;rw[fQ]at h ⊢;exact⟨h.1,hk _ _ _ h.2⟩
theorem Dp {o:Oper}{l:List Oper} {H:pA}:eO C φ all n κ (o::l) tm H=ob (aF o.guard all tm) fun w=>if w=true then
   (cG φ ((qG o.op).f C (.now tm) H) H fun v H'=>iL C o.type v fun v=>eO C φ all n κ l (putA n tm o.dst v) H')else eO C φ all n κ l (putA n tm o.dst kD) H:=by
 show(ob (aF o.guard all tm) fun w=>Bool.rec (motive:=fun _=>dB) _ _ w)=_;congr 1;funext w;rw[sK];rfl
def Ws(hφ:nR φ φ') (hκ:oK κ κ'):∀(l:List Oper),oK (eO C φ all n κ l) (eO C φ' all n κ' l):=by
 intro l;induction l with
 | nil=>exact hκ
 | cons o l ih=>
  intro tm H x h;rw[Dp,lA]at h ⊢;obtain⟨w,h1,h2⟩:=h;refine⟨w,h1,?_⟩;split at h2
  ·rename_i e;rw[yab e];exact EM hφ (Wx (k:=fun v H'=>eO C φ all n κ l (putA n tm o.dst v) H') (k':=fun v H'=>eO C φ' all n κ' l (putA n tm o.dst v) H') fun v H' y hy=>ih _ _ _ hy) h2
  ·rename_i e;rw[yaa e];exact ih _ _ _ h2
variable {H:pA}{old:Tm}{olds:List (Nat × List Nat)}
theorem Qw{k:Tm->dB}    : pI C H all n old olds k (i::l) tm=ob (tD all.toList i) fun o=>ob (aF o.guard all tm) fun w=>if w=true then
   (ob ((fF o.op).f C (.mixed tm old (rF i olds) (bH o.op)) H) fun v=>iL C o.type v fun v=>pI C H all n old olds k l (putA n tm o.dst v))else pI C H all n old olds k l (putA n tm o.dst kD):=by
 show(ob (tD all.toList i) fun o=>ob (aF o.guard all tm) fun w=>Bool.rec (motive:=fun _=>dB) _ _ w)=_;congr 1;funext o;congr 1;funext w;rw[sK];rfl
theorem Qv{k k':Tm->dB}(hk:∀tm x,k tm=some x->k' tm=some x):∀(l:List Nat) tm x,pI C H all n old olds k l tm=some x->pI C H all n old olds k' l tm=some x:=by
 intro l;induction l with
 | nil=>exact hk
 | cons i l ih=>
  grind [Qw,lA,fQ]
def Zv     : nM C H all old olds tm k (i::l)=ob (tD all.toList i) fun o=>ob o.dst fun d=>ob (aF o.guard all tm) fun w=>if w=true then
   (ob ((fF o.op).f C (.mixed tm old (rF i olds) (bH o.op)) H) fun v=>iL C o.type v fun v=>ob (tm.get d) fun u=>vB (same 10 v u) (nM C H all old olds tm k l))else nM C H all old olds tm k l:=by
 show(ob (tD all.toList i) fun o=>ob o.dst fun d=>ob (aF o.guard all tm) fun w=>Bool.rec (motive:=fun _=>dB) _ _ w)=_;congr 1;funext o;congr 1;funext d;congr 1;funext w;rw[sK];rfl
theorem Mx   : ∀(l:List Nat),nM C H all old olds tm k l=some x->Bn C H all old olds tm l=true/\k=some x:=by
 intro l;induction l with
 | nil=>intro h;exact⟨rfl,h⟩
 | cons i l ih=>
  intro h;rw[Zv,lA]at h;obtain⟨o,h1,h⟩:=h;rw[lA]at h;grind [lA,Bn,fQ,oB]
theorem Zu {k':dB}(hk:k'=some x):∀(l:List Nat),nM C H all old olds tm k l=some x->nM C H all old olds tm k' l=some x:=by
 intro l;induction l with
 | nil=>intro _;exact hk
 | cons i l ih=>
  intro h;rw[Zv,lA]at h ⊢;obtain⟨o,h1,h⟩:=h;refine⟨o,h1,?_⟩;rw[lA]at h ⊢
  grind [lA,fQ,oB]
theorem Gi  {l:List fG} (hg:jT all st=false):tJ C φ all n old olds κ (st::l) tm H=ob (tD all.toList (dM all st.heavy)) fun o=>ob (sU C all st.heavy o tm) fun w=>
   (fun cont:zA->pA->dB=>if w=true then(cG φ ((qG o.op).f C (.mixed tm old (rF (dM all st.heavy) olds) (bH o.op)) H) H fun v H'=>iL C o.type v fun v=>cont v H')else cont kD H)
   (fun v H'=>nM C H' all old olds (putA n tm o.dst v) (pI C H' all n old olds (fun tm=>tJ C φ all n old olds κ l tm H') st.lights (putA n tm o.dst v)) st.again):=by
 show Bool.rec (motive:=fun _=>dB) _ _ (jT all st)=_;rw[hg];show(ob (tD all.toList (dM all st.heavy)) fun o=>ob (sU C all st.heavy o tm) fun w=>(fun cont:zA->pA->dB=>Bool.rec (motive:=fun _=>dB) _ _ w) _)=_;congr 1;funext o;congr 1;funext w;cases w<;>rfl
theorem Kc  {l:List fG} (hg:jT all st=true):tJ C φ all n old olds κ (st::l) tm H=Mh C all n old olds st (tJ C φ all n old olds κ l) tm H:=by
 show Bool.rec (motive:=fun _=>dB) _ _ (jT all st)=_;rw[hg];rfl
theorem Rn {g:Tm->pA->dB} {x:zA × pA}:Mh C all n old olds st g tm H=some x ↔ jW C all=true/\∃es H',Ic all old olds tm st.again=some es/\vZ C es H=some H'/\pI C H' all n old olds (fun tm=>g tm H') st.lights tm=some x:=by
 grind [Mh,lA,oB]
theorem Vh(hφ:nR φ φ') (hκ:oK κ κ'):∀(l:List fG),oK (tJ C φ all n old olds κ l) (tJ C φ' all n old olds κ' l):=by
 intro l;induction l with
 | nil=>exact hκ
 | cons st l ih=>
  intro tm H x h
  cases hg:jT all st with
  | true=>
   rw[Kc hg,Rn]at h ⊢;obtain⟨h0,es,H',h1,h2,h3⟩:=h;exact⟨h0,es,H',h1,h2,Qv (fun tm x hx=>ih _ _ _ hx) _ _ _ h3⟩
  | false=>
  rw[Gi hg,lA]at h ⊢;obtain⟨o,h1,h⟩:=h;refine⟨o,h1,?_⟩;rw[lA]at h ⊢;obtain⟨w,h2,h⟩:=h;refine⟨w,h2,?_⟩;have cont:∀v H' y,nM C H' all old olds (putA n tm o.dst v) (pI C H' all n old olds (fun tm=>tJ C φ all n old olds κ l tm H') st.lights (putA n tm o.dst v)) st.again=some y →
    nM C H' all old olds (putA n tm o.dst v) (pI C H' all n old olds (fun tm=>tJ C φ' all n old olds κ' l tm H') st.lights (putA n tm o.dst v)) st.again=some y:=by
   intro v H' y hy;exact Zu (Qv (fun tm x hx=>ih _ _ _ hx) _ _ _ (Mx _ hy).2) _ hy
  simp only[]at h ⊢;split at h
  ·rename_i e;rw[yab e];exact EM hφ (Wx cont) h
  grind
def EN(hφ:nR φ φ') (hκ:oK κ κ'){id:Nat}{draw:Bool}:oK (Gw C φ fn n κ id all draw) (Gw C φ' fn n κ' id all draw):=by
 intro tm H x h
 cases draw with
 | false=>exact Ws hφ hκ _ _ _ _ h
 | true=>
  have h:(ob (ob (C.plans.get fn) fun t=>t.get id) fun p=>vB (qT all p) (pI C H all n tm.cut p.olds (fun tm'=>tJ C φ all n tm.cut p.olds κ p.stages tm' H) p.first tm.cut))=some x:=h;show(ob (ob (C.plans.get fn) fun t=>t.get id) fun p=>vB (qT all p) (pI C H all n tm.cut p.olds (fun tm'=>tJ C φ' all n tm.cut p.olds κ' p.stages tm' H) p.first tm.cut))=some x;rw[lA]at h ⊢
  obtain⟨p,h1,h⟩:=h;refine⟨p,h1,?_⟩;rw[oB]at h ⊢;exact⟨h.1,Qv (fun tm x hx=>Vh hφ hκ _ _ _ _ hx) _ _ _ h.2⟩
def OO{κ κ':Kt}(hκ:uP κ κ'){p:Option Code}:oK (hZ κ p) (hZ κ' p):=by
 intro tm H x h;unfold hZ at h ⊢;split at h
 ·exact hκ.norm _ _ _ h
 ·exact hκ.ret _ _ _ h
 ·cases h
def EY(hφ:nR φ φ'){κ κ':Kt}(hκ:uP κ κ') {f:Operand}{ps:List Nat}{a b:Code}:oK (lQ C φ fn n κ f ps a b) (lQ C φ' fn n κ' f ps a b):=by
 intro tm H x h;unfold lQ at h ⊢;rw[lA]at h ⊢;obtain⟨v,h1,h⟩:=h;refine⟨v,h1,?_⟩;rw[lA]at h ⊢;obtain⟨q,h2,h⟩:=h;refine⟨q,h2,?_⟩;split at h
 ·cases h
 ·rw[oB,lA]at h ⊢;obtain⟨h3,y,h4,h⟩:=h;refine⟨h3,y,hφ _ _ _ _ h4,?_⟩;rw[lA]at h ⊢;obtain⟨r,h5,h⟩:=h;refine⟨r,h5,?_⟩;rw[oB,lA]at h ⊢;obtain⟨h6,z,h7,h⟩:=h;exact⟨h6,z,OO hκ _ _ _ h7,h⟩
end
end
section
variable {α:Type}{m n:Nat}{g:Kt->Tm->pA->dB}{κ:Kt}{H:pA}{ks:Nat->zA->pA->dB}{k:zA->pA->dB}{κs:Nat->Tm->pA->dB}
theorem Xh {f:Nat->Option α}{r:α}(h:lim f=some r):∃n,f n=some r:=by
 unfold lim at h;by_cases hx:∃n r,f n=some r
 all_goals grind
structure wP {α β γ:Type} (ks:Nat->α->β->Option γ) (k:α->β->Option γ):Prop where
 up:∀n,oK (ks n) (ks (n+1))
 ex:∀a b x,k a b=some x->∃n,ks n a b=some x
def Jm{β γ:Type}{ks:Nat->α->β->Option γ}(h:∀n,oK (ks n) (ks (n+1))) (hnm:n<=m):oK (ks n) (ks m):=by
 induction hnm with
 | refl=>exact fun _ _ _ h=>h
 | step _ ih=>exact fun a b x hx=>h _ _ _ _ (ih a b x hx)
structure gZ (φs:Nat->xJ) (φ:xJ):Prop where
 up:∀n,nR (φs n) (φs (n+1))
 ex:∀f a H x,φ f a H=some x->∃n,φs n f a H=some x
def gZ.le{φs:Nat->xJ}{φ:xJ}(h:gZ φs φ) (hnm:n<=m):nR (φs n) (φs m):=by
 induction hnm with
 | refl=>exact fun _ _ _ _ h=>h
 | step _ ih=>exact fun f a H x hx=>h.up _ _ _ _ _ (ih f a H x hx)
structure Fj (κs:Nat->Kt) (κ:Kt):Prop where
 norm:wP (fun n=>(κs n).norm) κ.norm
 exit:∀i,wP (fun n=>(κs n).exit i) (κ.exit i)
 ret:wP (fun n=>(κs n).ret) κ.ret
section
variable {C:fA}{φ φ':xJ}{φs:Nat->xJ}{all:Array Oper}{N fn:Nat}
def zad{g':Kt->Tm->pA->dB}{κ':Kt}(hκ:uP κ κ')(hg:∀ κ κ',uP κ κ'->oK (g κ) (g' κ'))(live:List Nat):∀m,oK (Nat.rec (motive:=fun _=>Tm->pA->dB) (fun _ _=>none) (fun _ r tm H=>g ⟨r,κ.exit,κ.ret⟩ (keep live tm) H) m)
  (Nat.rec (motive:=fun _=>Tm->pA->dB) (fun _ _=>none) (fun _ r tm H=>g' ⟨r,κ'.exit,κ'.ret⟩ (keep live tm) H) m):=by
 intro m;induction m with
 | zero=>intro a b x h;cases h
 | succ m ih=>exact fun a b x h=>hg ⟨_,_,_⟩ ⟨_,_,_⟩ ⟨ih,hκ.exit,hκ.ret⟩ _ _ _ h
theorem uP.refl(κ:Kt):uP κ κ:=⟨fun _ _ _ h=>h,fun _ _ _ _ h=>h,fun _ _ _ h=>h⟩
def Yb  (hg:∀ κ κ',uP κ κ'->oK (g κ) (g κ'))(live:List Nat):∀m,oK (Nat.rec (motive:=fun _=>Tm->pA->dB) (fun _ _=>none) (fun _ r tm H=>g ⟨r,κ.exit,κ.ret⟩ (keep live tm) H) m)
  (Nat.rec (motive:=fun _=>Tm->pA->dB) (fun _ _=>none) (fun _ r tm H=>g ⟨r,κ.exit,κ.ret⟩ (keep live tm) H) (m+1)):=by
 intro m;induction m with
 | zero=>intro a b x h;cases h
 | succ m ih=>exact fun a b x h=>hg ⟨_,_,_⟩ ⟨_,_,_⟩ ⟨ih,(uP.refl κ).exit,(uP.refl κ).ret⟩ _ _ _ h
def Ew(hφ:nR φ φ'):∀(c:dD) (κ κ':Kt),uP κ κ'->oK (aD C φ fn N c κ) (aD C φ' fn N c κ'):=by
 have self:∀(ψ:xJ),nR ψ ψ:=fun _ _ _ _ _ h=>h;intro c;suffices h:∀ φ φ',nR φ φ'->∀(κ κ':Kt),uP κ κ'->oK (aD C φ fn N c κ) (aD C φ' fn N c κ') from h φ φ' hφ
 induction c with
 | skip=>exact fun _ _ _ κ κ' hκ=>hκ.norm
 | region id ops d=>exact fun _ _ hφ κ κ' hκ=>EN hφ hκ.norm
 | seq a b iha ihb=>exact fun _ _ hφ κ κ' hκ=>iha _ _ hφ _ _ ⟨ihb _ _ hφ _ _ hκ,hκ.exit,hκ.ret⟩
 | cond c a b iha ihb=>
  intro φ φ' hφ κ κ' hκ tm H x h;have h:(ob (ob (ev c (.now tm)) zA.asBool) fun t=>Bool.rec (motive:=fun _=>dB) (aD C φ fn N b κ tm H) (aD C φ fn N a κ tm H) t)=some x:=h;show(ob (ob (ev c (.now tm)) zA.asBool) fun t=>Bool.rec (motive:=fun _=>dB) (aD C φ' fn N b κ' tm H) (aD C φ' fn N a κ' tm H) t)=some x;rw[lA]at h ⊢;obtain⟨t,h1,h2⟩:=h;refine⟨t,h1,?_⟩
  cases t with
  | true=>exact iha _ _ hφ _ _ hκ _ _ _ h2
  | false=>exact ihb _ _ hφ _ _ hκ _ _ _ h2
 | block id c ih=>
  intro φ φ' hφ κ κ' hκ;refine ih _ _ hφ _ _ ⟨hκ.norm,fun i tm H x h=>?_,hκ.ret⟩;simp only[sK]at h ⊢;split at h
  ·rename_i e;rw[yab e];exact hκ.norm _ _ _ h
  ·rename_i e;rw[yaa e];exact hκ.exit _ _ _ _ h
 | loop live c ih=>
  intro φ φ' hφ κ κ' hκ tm H x h;obtain⟨m,hm⟩:=Xh h;refine(Qt fun m y hy=>Yb (ih _ _ (self φ')) live.kept m _ _ _ hy).2 ⟨m,?_⟩;exact zad hκ (ih _ _ hφ) live.kept m _ _ _ hm
 | exit id=>exact fun _ _ _ κ κ' hκ=>hκ.exit id
 | ret=>exact fun _ _ _ κ κ' hκ=>hκ.ret
 | cut live c ih=>exact fun _ _ hφ κ κ' hκ tm H x h=>ih _ _ hφ _ _ hκ _ _ _ h
 | range i pl f ps id ops c ih=>exact fun _ _ hφ κ κ' hκ tm H x h=>EY hφ hκ _ _ _ h
def EK(hφ:gZ φs φ){r:zM}   (hk:wP ks k){x:zA × pA}(h:cG φ r H k=some x):∃n,cG (φs n) r H (ks n)=some x:=by
 cases r<;>simp only[cG]at h ⊢<;>try (cases h;done)
 case val v H'=>exact hk.ex _ _ _ h
 case enter f args=>
  rw[lA]at h;obtain⟨p,h1,h2⟩:=h;obtain⟨n,hn⟩:=hφ.ex _ _ _ _ h1;obtain⟨m,hm⟩:=hk.ex _ _ _ h2;exact⟨max n m,by rw[lA];exact⟨p,hφ.le (Nat.le_max_left n m) _ _ _ _ hn,Jm hk.up (Nat.le_max_right n m) _ _ _ hm⟩⟩
 case round l args=>
  rw[lA]at h;obtain⟨p,h1,h2⟩:=h;obtain⟨n,hn⟩:=hφ.ex _ _ _ _ h1;obtain⟨m,hm⟩:=hk.ex _ _ _ h2;exact⟨max n m,by rw[lA];exact⟨p,hφ.le (Nat.le_max_left n m) _ _ _ _ hn,Jm hk.up (Nat.le_max_right n m) _ _ _ hm⟩⟩
theorem GG{t:Nat}  (hk:wP ks k):wP (fun n v H=>iL C t v fun v=>ks n v H) (fun v H=>iL C t v fun v=>k v H):=by
 refine⟨fun n=>Wx (hk.up n),fun v H x h=>?_⟩;rw[fQ]at h;obtain⟨n,hn⟩:=hk.ex _ _ _ h.2;exact⟨n,by grind [fQ]⟩
theorem zct(hφ:gZ φs φ) {κ:Tm->pA->dB}(hκ:wP κs κ):∀(l:List Oper),wP (fun n=>eO C (φs n) all N (κs n) l) (eO C φ all N κ l):=by
 intro l;refine⟨fun n=>Ws (hφ.up n) (hκ.up n) l,?_⟩
 induction l with
 | nil=>exact hκ.ex
 | cons o l ih=>
  intro tm H x h;rw[Dp,lA]at h;obtain⟨w,h1,h2⟩:=h;split at h2
  ·rename_i e;obtain⟨n,hn⟩:=EK hφ (GG (ks:=fun n v H'=>eO C (φs n) all N (κs n) l (putA N tm o.dst v) H') (k:=fun v H'=>eO C φ all N κ l (putA N tm o.dst v) H') ⟨fun n v H' y hy=>Ws (hφ.up n) (hκ.up n) l _ _ _ hy,fun v H' y hy=>ih _ _ _ hy⟩) h2
   grind [Dp,lA]
  grind [Dp,lA]
variable {old:Tm}{olds:List (Nat × List Nat)}
theorem Xi {ks:Nat->Tm->dB}{k:Tm->dB}(hk:∀tm x,k tm=some x->∃n,ks n tm=some x):∀(l:List Nat) tm x,pI C H all N old olds k l tm=some x->∃n,pI C H all N old olds (ks n) l tm=some x:=by
 intro l;induction l with
 | nil=>exact hk
 | cons i l ih=>
  intro tm x h;simp only[Qw]at h ⊢;rw[lA]at h;obtain⟨o,h1,h⟩:=h;rw[lA]at h;obtain⟨w,h3,h4⟩:=h;split at h4
  ·rename_i e;rw[lA]at h4;obtain⟨v,h5,h6⟩:=h4
   simp_all [fQ]
  simp_all
theorem RM(hφ:gZ φs φ) {κ:Tm->pA->dB}(hκ:wP κs κ):∀(l:List fG),wP (fun n=>tJ C (φs n) all N old olds (κs n) l) (tJ C φ all N old olds κ l):=by
 intro l;refine⟨fun n=>Vh (hφ.up n) (hκ.up n) l,?_⟩
 induction l with
 | nil=>exact hκ.ex
 | cons st l ih=>
  intro tm H x h
  cases hg:jT all st with
  | true=>
   rw[Kc hg,Rn]at h;obtain⟨h0,es,H',h1,h2,h3⟩:=h;obtain⟨n,hn⟩:=Xi (fun tm x hx=>ih tm H' x hx) _ _ _ h3;exact⟨n,by grind [Kc,Rn]⟩
  | false=>
  rw[Gi hg,lA]at h;obtain⟨o,h1,h⟩:=h;rw[lA]at h;obtain⟨w,h2,h⟩:=h;have cont:wP (fun n v H'=>nM C H' all old olds (putA N tm o.dst v) (pI C H' all N old olds (fun tm=>tJ C (φs n) all N old olds (κs n) l tm H') st.lights (putA N tm o.dst v)) st.again)
    (fun v H'=>nM C H' all old olds (putA N tm o.dst v) (pI C H' all N old olds (fun tm=>tJ C φ all N old olds κ l tm H') st.lights (putA N tm o.dst v)) st.again):=by
   refine⟨fun n v H' y hy=>Zu (Qv (fun tm x hx=>Vh (hφ.up n) (hκ.up n) l _ _ _ hx) _ _ _ (Mx _ hy).2) _ hy,fun v H' y hy=>?_⟩;obtain⟨n,hn⟩:=Xi (fun tm x hx=>ih tm H' x hx) _ _ _ (Mx _ hy).2;exact⟨n,Zu hn _ hy⟩
  simp only[]at h;split at h
  ·rename_i e;obtain⟨n,hn⟩:=EK hφ (GG cont) h
   grind [Gi,uA]
  ·rename_i e;obtain⟨n,hn⟩:=cont.ex _ _ _ h;exact⟨n,by grind [Gi,uA]⟩
theorem SZ(hφ:gZ φs φ) {κ:Tm->pA->dB}(hκ:wP κs κ){id:Nat}{draw:Bool}:wP (fun n=>Gw C (φs n) fn N (κs n) id all draw) (Gw C φ fn N κ id all draw):=by
 refine⟨fun n=>EN (hφ.up n) (hκ.up n),fun tm H x h=>?_⟩
 cases draw with
 | false=>exact(zct hφ hκ _).ex _ _ _ h
 | true=>
  have h:(ob (ob (C.plans.get fn) fun t=>t.get id) fun p=>vB (qT all p) (pI C H all N tm.cut p.olds (fun tm'=>tJ C φ all N tm.cut p.olds κ p.stages tm' H) p.first tm.cut))=some x:=h;rw[lA]at h;obtain⟨p,h1,h⟩:=h;rw[oB]at h;obtain⟨n,hn⟩:=Xi (fun tm' x hx=>(RM hφ hκ p.stages).ex tm' H x hx) _ _ _ h.2;refine⟨n,?_⟩;show(ob (ob (C.plans.get fn) fun t=>t.get id) fun p=>vB (qT all p) (pI C H all N tm.cut p.olds (fun tm'=>tJ C (φs n) all N tm.cut p.olds (κs n) p.stages tm' H) p.first tm.cut))=some x
  grind [uA,oB]
theorem EX(hφ:gZ φs φ){κs:Nat->Kt} (hκ:Fj κs κ){f:Operand}{ps:List Nat}{a b:Code}:wP (fun n=>lQ C (φs n) fn N (κs n) f ps a b) (lQ C φ fn N κ f ps a b):=by
 have kle:∀n,uP (κs n) (κs (n+1)):=fun n=>⟨hκ.norm.up n,fun i=>(hκ.exit i).up n,hκ.ret.up n⟩;have klm:∀n m,n<=m->uP (κs n) (κs m):=fun n m h=>⟨Jm hκ.norm.up h,fun i=>Jm (hκ.exit i).up h,Jm hκ.ret.up h⟩;refine⟨fun n=>EY (hφ.up n) (kle n),fun tm H x h=>?_⟩;unfold lQ at h;rw[lA]at h;obtain⟨v,h1,h⟩:=h;rw[lA]at h;obtain⟨q,h2,h⟩:=h;split at h
 ·cases h
 ·rename_i g hg;rw[oB,lA]at h;obtain⟨h3,y,h4,h⟩:=h;rw[lA]at h;obtain⟨r,h5,h⟩:=h;rw[oB,lA]at h;obtain⟨h6,z,h7,h⟩:=h;obtain⟨n,hn⟩:=hφ.ex _ _ _ _ h4;have:∃m,hZ (κs m) r.pending (tm) (endLoop y.2 (H.next+1) r)=some z:=by
   unfold hZ at h7 ⊢;split at h7
   ·exact hκ.norm.ex _ _ _ h7
   ·exact hκ.ret.ex _ _ _ h7
   grind
  obtain⟨m,hm⟩:=this;refine⟨max n m,?_⟩;show lQ C (φs (max n m)) fn N (κs (max n m)) f ps a b tm H=some x;unfold lQ;rw[h1,uA,h2,uA,hg];simp only[];rw[oB,lA];refine⟨h3,y,hφ.le (Nat.le_max_left n m) _ _ _ _ hn,?_⟩;rw[h5,uA,oB,lA];exact⟨h6,z,OO (klm _ _ (Nat.le_max_right n m)) _ _ _ hm,h⟩
theorem Zc(hφ:gZ φs φ):∀(c:dD) (κs:Nat->Kt) (κ:Kt),Fj κs κ->wP (fun n=>aD C (φs n) fn N c (κs n)) (aD C φ fn N c κ):=by
 have kle:∀ {κs:Nat->Kt} {κ:Kt},Fj κs κ->∀n,uP (κs n) (κs (n+1)):=fun h n=>⟨h.norm.up n,fun i=>(h.exit i).up n,h.ret.up n⟩
 intro c;induction c with
 | skip=>exact fun κs κ hκ=>hκ.norm
 | region id ops d=>exact fun κs κ hκ=>SZ hφ hκ.norm
 | seq a b iha ihb=>exact fun κs κ hκ=>iha (fun n=>⟨aD C (φs n) fn N b (κs n),(κs n).exit,(κs n).ret⟩) _ ⟨ihb _ _ hκ,hκ.exit,hκ.ret⟩
 | cond c a b iha ihb=>
  intro κs κ hκ;refine⟨fun n=>Ew (hφ.up n) (.cond c a b) _ _ (kle hκ n),fun tm H x h=>?_⟩;have h:(ob (ob (ev c (.now tm)) zA.asBool) fun t=>Bool.rec (motive:=fun _=>dB) (aD C φ fn N b κ tm H) (aD C φ fn N a κ tm H) t)=some x:=h;rw[lA]at h;obtain⟨t,h1,h2⟩:=h;have key:∀n,(Bool.rec (motive:=fun _=>dB) (aD C (φs n) fn N b (κs n) tm H) (aD C (φs n) fn N a (κs n) tm H) t:dB)=some x->aD C (φs n) fn N (.cond c a b) (κs n) tm H=some x:=by
   simp_all [aD]
  cases t with
  | true=>obtain⟨n,hn⟩:=(iha _ _ hκ).ex _ _ _ h2;grind
  | false=>obtain⟨n,hn⟩:=(ihb _ _ hκ).ex _ _ _ h2;grind
 | block id c ih=>
  intro κs κ hκ;refine ih (fun n=>⟨(κs n).norm,fun i tm H=>Bool.rec (motive:=fun _=>dB) ((κs n).exit i tm H) ((κs n).norm tm H) (Nat.beq id i),(κs n).ret⟩) _ ⟨hκ.norm,fun i=>⟨fun n tm H x h=>?_,fun tm H x h=>?_⟩,hκ.ret⟩
  ·simp only[sK]at h ⊢;split at h
   ·rename_i e;rw[yab e];exact hκ.norm.up n _ _ _ h
   ·rename_i e;rw[yaa e];exact(hκ.exit i).up n _ _ _ h
  ·simp only[sK]at h ⊢;split at h
   ·rename_i e;obtain⟨n,hn⟩:=hκ.norm.ex _ _ _ h;grind
   ·rename_i e;obtain⟨n,hn⟩:=(hκ.exit i).ex _ _ _ h;grind
 | loop live c ih=>
  intro κs κ hκ;refine⟨fun n=>Ew (hφ.up n) (.loop live c) _ _ (kle hκ n),fun tm H x h=>?_⟩;obtain⟨m,hm⟩:=Xh h;have it:∀m,wP (fun n=>(Nat.rec (motive:=fun _=>Tm->pA->dB) (fun _ _=>none) (fun _ r tm H=>aD C (φs n) fn N c ⟨r,(κs n).exit,(κs n).ret⟩ (keep live.kept tm) H) m:Tm->pA->dB))
    (Nat.rec (motive:=fun _=>Tm->pA->dB) (fun _ _=>none) (fun _ r tm H=>aD C φ fn N c ⟨r,κ.exit,κ.ret⟩ (keep live.kept tm) H) m):=by
   intro m;induction m with
   | zero=>exact⟨fun _ _ _ _ h=>h,fun _ _ _ h=>by cases h⟩
   | succ m ihm=>
    have:=ih _ _ (⟨ihm,hκ.exit,hκ.ret⟩:Fj (fun n=>⟨(Nat.rec (motive:=fun _=>Tm->pA->dB) (fun _ _=>none) (fun _ r tm H=>aD C (φs n) fn N c ⟨r,(κs n).exit,(κs n).ret⟩ (keep live.kept tm) H) m:Tm->pA->dB),(κs n).exit,(κs n).ret⟩) ⟨(Nat.rec (motive:=fun _=>Tm->pA->dB) (fun _ _=>none) (fun _ r tm H=>aD C φ fn N c ⟨r,κ.exit,κ.ret⟩ (keep live.kept tm) H) m:Tm->pA->dB),κ.exit,κ.ret⟩)
    exact⟨fun n tm H x h=>this.up n _ _ _ h,fun tm H x h=>this.ex _ _ _ h⟩
  obtain⟨n,hn⟩:=(it m).ex _ _ _ hm;exact⟨n,(Qt fun m y hy=>Yb (fun κ κ' h=>Ew (fun _ _ _ _ h=>h) c κ κ' h) live.kept m _ _ _ hy).2 ⟨m,hn⟩⟩
 | exit id=>exact fun κs κ hκ=>hκ.exit id
 | ret=>exact fun κs κ hκ=>hκ.ret
 | cut live c ih=>exact fun κs κ hκ=>⟨fun n tm H x h=>(ih _ _ hκ).up n _ _ _ h,fun tm H x h=>(ih _ _ hκ).ex _ _ _ h⟩
 | range i pl f ps id ops c ih=>exact fun κs κ hκ=>⟨fun n tm H x h=>(EX hφ hκ).up n _ _ _ h,fun tm H x h=>(EX hφ hκ).ex _ _ _ h⟩
theorem zd5{live:PI}{c:dD} {tm:Tm}  : aD C φ fn N (.loop live c) κ tm H=aD C φ fn N c ⟨aD C φ fn N (.loop live c) κ,κ.exit,κ.ret⟩ (keep live.kept tm) H:=by
 have self:nR φ φ:=fun _ _ _ _ h=>h;have up:∀m,oK (Nat.rec (motive:=fun _=>Tm->pA->dB) (fun _ _=>none) (fun _ r tm H=>aD C φ fn N c ⟨r,κ.exit,κ.ret⟩ (keep live.kept tm) H) m)
   (Nat.rec (motive:=fun _=>Tm->pA->dB) (fun _ _=>none) (fun _ r tm H=>aD C φ fn N c ⟨r,κ.exit,κ.ret⟩ (keep live.kept tm) H) (m+1)):=Yb (Ew self c) live.kept
 have some_iff:∀tm H x,aD C φ fn N (.loop live c) κ tm H=some x ↔ ∃m,(Nat.rec (motive:=fun _=>Tm->pA->dB) (fun _ _=>none) (fun _ r tm H=>aD C φ fn N c ⟨r,κ.exit,κ.ret⟩ (keep live.kept tm) H) m:Tm->pA->dB) tm H=some x:=
  fun tm H x=>Qt fun m y hy=>up m _ _ _ hy
 have sup:Fj (fun m=>⟨(Nat.rec (motive:=fun _=>Tm->pA->dB) (fun _ _=>none) (fun _ r tm H=>aD C φ fn N c ⟨r,κ.exit,κ.ret⟩ (keep live.kept tm) H) m:Tm->pA->dB),κ.exit,κ.ret⟩) ⟨aD C φ fn N (.loop live c) κ,κ.exit,κ.ret⟩:=
  ⟨⟨up,fun tm H x h=>(some_iff tm H x).1 h⟩,fun i=>⟨fun _ _ _ _ h=>h,fun _ _ _ h=>⟨0,h⟩⟩,⟨fun _ _ _ _ h=>h,fun _ _ _ h=>⟨0,h⟩⟩⟩
 have key:∀x,aD C φ fn N (.loop live c) κ tm H=some x ↔ aD C φ fn N c ⟨aD C φ fn N (.loop live c) κ,κ.exit,κ.ret⟩ (keep live.kept tm) H=some x:=by
  intro x;rw[some_iff];constructor
  ·rintro⟨m,hm⟩
   cases m with
   | zero=>cases hm
   | succ m=>exact Ew self c ⟨(Nat.rec (motive:=fun _=>Tm->pA->dB) (fun _ _=>none) (fun _ r tm H=>aD C φ fn N c ⟨r,κ.exit,κ.ret⟩ (keep live.kept tm) H) m:Tm->pA->dB),κ.exit,κ.ret⟩ ⟨aD C φ fn N (.loop live c) κ,κ.exit,κ.ret⟩ ⟨fun tm H y hy=>(some_iff tm H y).2 ⟨m,hy⟩,fun _ _ _ _ h=>h,fun _ _ _ h=>h⟩ _ _ _ hm
  ·intro h;obtain⟨m,hm⟩:=(Zc (φs:=fun _=>φ) ⟨fun _=>self,fun _ _ _ _ h=>⟨0,h⟩⟩ c _ _ sup).ex _ _ _ h;exact⟨m+1,hm⟩
 cases h:aD C φ fn N (.loop live c) κ tm H with
 | some x=>grind
 | none=>
  cases h2:aD C φ fn N c ⟨aD C φ fn N (.loop live c) κ,κ.exit,κ.ret⟩ (keep live.kept tm) H with
  | none=>rfl
  | some x=>simp_all
end
end
section
def Re:List iE->Bool
 | .reg .. :: _=>true
 | _=>false
section
variable {P:Program}{C:fA}{B N:Nat}{I:World->Prop}{μ:Mu}{w:World}{base:List Frame}{m:Machine}
def Ot(hF:Bs P C){f:Nat}{args:List zA}{args':Array Value}{H:pA}(hH:rB B N μ H w)(hl:pB μ args args'.toList){g:lC}(he:bM C f args false=some g) :
  iD P C B N μ base (lone (Frame.enter P f args' .normal) base w) w (.next ⟨g,[],H⟩):=
 ⟨μ,_,[],w,.refl _ _,fun _ _ h=>h,Below.refl N w,hH,(Mm (cur:=some H) hF he hl).1,.nil⟩
end
end
section
variable {old tm tm':Tm}{t1 t2 todo:List iE}{H:pA}{o o':bF}{fr:lC}{v:zA}{r:zM}{κn:Tm->pA->dB}{olds:List (Nat × List Nat)}{live:List Nat}{i:Nat}
inductive xN (C:fA):bF->bF->Prop
 | refl (o:bF):xN C o o
 | step {o o':bF}:xN C (Gg C o) o'->xN C o o'
 | forget {todo:List iE} {tm tm':Tm} {R:nK} {cs:List lC} {H:pA} {o':bF}:Re todo=false->(∀i v,tm'.get i=some v->tm.get i=some v)->xN C (.next ⟨⟨todo,tm',R⟩,cs,H⟩) o'->xN C (.next ⟨⟨todo,tm,R⟩,cs,H⟩) o'
def xN.trans{C:fA}{a b c:bF}(h:xN C a b)(k:xN C b c):xN C a c:=by
 induction h with
 | refl=>exact k
 | step _ ih=>exact .step (ih k)
 | forget h1 h2 _ ih=>exact .forget h1 h2 (ih k)
section
variable {P:Program}{C:fA}{B N:Nat}{I:World->Prop}{μ:Mu}{w:World}{base:List Frame}{m:Machine}
def fE.forget{n:Nat} {tmps:Array Value}(h:fE μ n tm tmps)(hs:∀i v,tm'.get i=some v->tm.get i=some v):fE μ n tm' tmps:=⟨h.1,fun i v hv=>h.2 i v (hs i v hv)⟩
theorem zan  {R:nK}{acs:List lC} (hr:Re todo=false)(hs:∀i v,tm'.get i=some v->tm.get i=some v)(h:iD P C B N μ base m w (.next ⟨⟨todo,tm,R⟩,acs,H⟩)) :
  iD P C B N μ base m w (.next ⟨⟨todo,tm',R⟩,acs,H⟩):=by
 obtain⟨μ',b,cs,w',h1,h2,h3,h4,h5,h6⟩:=h;obtain⟨bfn,btmps,btodo,bdefers,bmode,bkind,bround⟩:=b;refine⟨μ',_,cs,w',h1,h2,h3,h4,⟨h5.rest,?_⟩,h6⟩;have hb:=h5.body;simp only at hb ⊢;split at hb
 ·rename_i hm;rw[yab hm]
  cases hb with
  | plain a t=>exact .plain a (t.forget hs)
  | reg _ _ _ _=>cases hr
  | mid _ _ _ _ _=>cases hr
 ·rename_i hm;rw[yaa hm];exact hb.forget hs
theorem iD.reach(hS:pK P C B N I)(hI:I w) (h:xN C o o'):iD P C B N μ base m w o->iD P C B N μ base m w o':=by
 induction h with
 | refl=>exact id
 | step _ ih=>grind [CO]
 | forget hr hs _ ih=>grind [zan]
end
def Zw(C:fA)(f:Nat)(ds:List zK)(fr:lC)(H:pA)(v:zA):Prop:=
 fr.R.mode=.returning/\fr.R.defers=ds/\fr.R.deferred=false/\fr.R.fn=f/\∃fn l,C.fns.get f=some fn/\wY C H fr.tm fn.results.toList=some l/\v=Cs l
def Vx(r:vQ)(l:Nat)(tm:Tm):lC:=⟨[.code r.assign,.beginRound,.code r.body],tm,⟨r.fn,r.n,[],.run,false,some l⟩⟩
structure pX (C:fA) (φ:xJ):Prop where
 fn:∀f args H x,φ (.func f) args H=some x->∃g,bM C f args false=some g/\∀acs,∃fr',xN C (.next ⟨g,acs,H⟩) (.next ⟨fr',acs,x.2⟩)/\Zw C f [] fr' x.2 x.1
 rd:∀l args H x,φ (.yld l) args H=some x->∃r tm,eK H l=some r/\zY r.n r.params args r.tm=some tm/\∀c acs c',wI c x.1=some c'->xN C (.next ⟨Vx r l tm,c::acs,H⟩) (.next ⟨c',acs,x.2⟩)
abbrev Bt:=List zK->bF->zA × pA->Prop
def Fin (C:fA)(E:Bt)(ds:List zK)(o:bF)(x:zA × pA):Prop:=∃o',xN C o o'/\E ds o' x
theorem Fin.step{C:fA}{E:Bt}{ds:List zK} {x:zA × pA}(h:Fin C E ds (Gg C o) x):Fin C E ds o x:=by
 obtain⟨fr,h1,h2⟩:=h;exact⟨fr,.step h1,h2⟩
def Fin.of{C:fA}{E:Bt}{ds:List zK} {x:zA × pA}(hr:xN C o o')(h:Fin C E ds o' x):Fin C E ds o x:=by
 obtain⟨fr,h1,h2⟩:=h;exact⟨fr,hr.trans h1,h2⟩
abbrev RR(f N:Nat)(ro:Option Nat)(ds:List zK):nK:=⟨f,N,ds,.run,false,ro⟩
structure Ix (C:fA) (E:Bt) (G:zA × pA->Prop) (f N:Nat) (ro:Option Nat) (acs:List lC):Prop where
 not:∀ds todo tm H x,¬ E ds (.next ⟨⟨todo,tm,RR f N ro ds⟩,acs,H⟩) x
 all:ro=none->∀x,G x
 pop:ro=none->∀r ds o x,E (⟨none,r,[]⟩::ds) o x->bW x.2 r=some (some [])->∃o',xN C o o'/\E ds o' (x.1,setBlk x.2 r (.deferred none))
structure Sx (C:fA) (E:Bt) (G:zA × pA->Prop) (f N:Nat) (ro:Option Nat) (acs:List lC) (κ:Kt) (k:List iE):Prop where
 norm:∀ds x tm H,G x->κ.norm tm H=some x->Fin C E ds (.next ⟨⟨k,tm,RR f N ro ds⟩,acs,H⟩) x
 exit:∀ds x i tm H,G x->κ.exit i tm H=some x->Fin C E ds (.next ⟨⟨.code (.exit i)::k,tm,RR f N ro ds⟩,acs,H⟩) x
 ret:∀ds x tm H,G x->κ.ret tm H=some x->∀k',Fin C E ds (.next ⟨⟨.code .ret::k',tm,RR f N ro ds⟩,acs,H⟩) x
structure Fk where
 i:Nat
 pl:List Nat
 f:Operand
 ps:Array Nat
 id:Nat
 ops:Array Oper
 c:dD
def mU(c:dD):List Fk:=
 dD.rec (motive:=fun _=>List Fk) [] (fun _ _ _=>[]) (fun _ _ a b=>tE a b) (fun _ _ _ a b=>tE a b) (fun _ _ a=>a) (fun _ _ a=>a) (fun _=>[]) [] (fun _ _ a=>a)
  (fun i pl f ps id ops c a=>⟨i,pl,f,ps,id,ops,c⟩::a) c
section
variable {C:fA}{φ:xJ}{E:Bt}{G:zA × pA->Prop}{ds:List zK}{ro:Option Nat}{f N:Nat}{acs:List lC}{R:nK}{κ:Kt}{k:List iE}{x:zA × pA}{all:Array Oper}
theorem kL(hR:R.mode.running=true)    : Gg C (.next ⟨⟨todo,tm,R⟩,acs,H⟩)=wR C todo tm R acs H:=by
 show(bif R.mode.running then wR C todo tm R acs H else _)=_
 grind
def JU{c c':lC}  (hr:Zw C f [] fr H v)(hf:wI c v=some c'):Gg C (.next ⟨fr,c::acs,H⟩)=.next ⟨c',acs,H⟩:=by
 obtain⟨h1,h2,h3,h4,fn,l,h5,h6,rfl⟩:=hr;obtain⟨todo,tm,ffn,n,defers,mode,deferred,round⟩:=fr;simp only at h1 h2 h3 h4 h6;subst h1 h2 h3 h4;show Jo C ⟨todo,tm,_⟩ (c::acs) H=_;unfold Jo;rw[h5,uA,h6];simp only[cond_false];rw[hf];rfl
def EL(hφ:pX C φ)  {K:zA->pA->dB}(h:cG φ r H K=some x)
  (hK:∀v H' c',wI fr v=some c'->K v H'=some x->Fin C E ds (.next ⟨c',acs,H'⟩) x) (hfin:∀v,∃c',wI fr v=some c'):Fin C E ds (Iq r C fr acs H) x:=by
 cases r<;>simp only[cG]at h<;>try (cases h;done)
 case val v H'=>
  have h2:K v H'=some x:=h;obtain⟨c',hc⟩:=hfin v;show Fin C E ds (Di v H' C fr acs H) x;unfold Di;rw[hc];exact hK _ _ _ hc h2
 case enter g args=>
  rw[lA]at h;obtain⟨p,h1,h4⟩:=h;obtain⟨c',hc⟩:=hfin p.1;show Fin C E ds (Kw g args C fr acs H) x;unfold Kw;obtain⟨ge,he,r0⟩:=hφ.fn _ _ _ _ h1;obtain⟨fr',r1,r2⟩:=r0 (fr::acs);rw[he];refine Fin.of (r1.trans (.step ?_)) (hK _ _ _ hc h4);rw[JU r2 hc];exact .refl _
 case round l args=>
  rw[lA]at h;obtain⟨p,h1,h4⟩:=h;obtain⟨c',hc⟩:=hfin p.1;obtain⟨r,tm,e1,e2,r0⟩:=hφ.rd _ _ _ _ h1;show Fin C E ds (Kv l args C fr acs H) x;unfold Kv;rw[e1,uA,e2,uA];exact Fin.of (r0 _ _ _ hc) (hK _ _ _ hc h4)
theorem UJ(hφ:pX C φ)(hR:R.mode.running=true)(hN:R.n=N) (hκ:∀tm H,κn tm H=some x->Fin C E ds (.next ⟨⟨k,tm,R⟩,acs,H⟩) x) :
  ∀(l:List Oper) (tm:Tm) (H:pA),eO C φ all N κn l tm H=some x->Fin C E ds (pU C all k R acs l tm H) x:=by
 intro l;induction l with
 | nil=>exact fun tm H h=>hκ tm H h
 | cons o l ih=>
  intro tm H h;rw[Dp,lA]at h;obtain⟨w,h1,h⟩:=h;rw[Vv,h1]
  cases w with
  | false=>simp_all
  | true=>
   rw[yab rfl]at h;simp only[];generalize (qG o.op).f C (.now tm) H=r at h
   cases hv:r.asVal with
   | some p=>
    have:r=.val p.1 p.2:=by cases r<;>simp[zM.asVal]at hv;rw[<- hv]
    grind [cG,fQ]
   | none=>
    refine EL hφ h (fun v H' c' hc hK=>?_) fun v=>⟨⟨.ops all l::k,putA R.n tm o.dst v,R⟩,by unfold wI;simp only[hR,cond_true];rfl⟩;unfold wI at hc;simp only[hR,cond_true]at hc;have hc:some (⟨.ops all l::k,putA R.n tm o.dst v,R⟩:lC)=some c':=hc;cases hc;refine .step ?_;rw[kL hR,hN];rw[fQ]at hK;exact ih _ _ hK.2
theorem Qu   {K:Tm->dB}:∀(l:List Nat) (tm:Tm),pI C H all N old olds K l tm=some x->∃tm',eQ C H all N old olds l tm=some tm'/\K tm'=some x:=by
 intro l;induction l with
 | nil=>exact fun tm h=>⟨tm,rfl,h⟩
 | cons i l ih=>
  intro tm h;rw[Qw,lA]at h;obtain⟨o,h1,h⟩:=h;rw[lA]at h;grind [eQ,uA,lA,fQ]
def KI{C:fA}{o:Op}{e:vD}  (hf:xL o=true)(h:(qG o).f C e H=r)(h1:∀q,r≠fM q):False:=by
 have key:∀q:Option (zA × pA),fM q=r->False:=fun q e=>h1 q e.symm;cases o<;>simp only[xL]at hf<;>first
  | (cases hf;done)
  | exact key _ h
theorem RN(hφ:pX C φ)(hR:R.mode.running=true)(hN:R.n=N) (hκ:∀tm H,κn tm H=some x->Fin C E ds (.next ⟨⟨k,tm,R⟩,acs,H⟩) x)   :
  ∀(l:List fG) (tm:Tm) (H:pA),tJ C φ all N old olds κn l tm H=some x->Fin C E ds (.next ⟨⟨.reg all old olds l::k,tm,R⟩,acs,H⟩) x:=by
 intro l;induction l with
 | nil=>
  intro tm H h;refine .step ?_;rw[kL hR];exact hκ tm H h
 | cons st l ih=>
  intro tm H h
  cases hg:jT all st with
  | true=>
   rw[Kc hg,Rn]at h;obtain⟨h0,es,H',h1,h2,h3⟩:=h;obtain⟨tm',hl1,hl2⟩:=Qu _ _ h3;refine .step ?_;rw[kL hR];show Fin C E ds (jR all old olds (st::l) C k tm R acs H) x;unfold jR;have hg0:=sC.1 hg;rw[oD]at hg0;have hnone:tD all.toList st.heavy=none:=by
    grind [vE]
   simp only[hnone];rw[nD,yab (sC.2 (by rw[oD];omega)),nD,yab (show Nat.blt (wB all.toList+wB all.toList) st.heavy=true from hg)];unfold Nl;rw[h0,show ∀(x:Option kR),vB true x=x from fun _=>rfl,h1,uA,h2,uA,hN,hl1,uA];exact ih _ _ hl2
  | false=>
  rw[Gi hg,lA]at h;obtain⟨o,h1,h⟩:=h;rw[lA]at h;obtain⟨w,h2',h⟩:=h;have hgn:Nat.blt (wB all.toList+wB all.toList) st.heavy=false:=hg;by_cases hfl:Nat.blt (wB all.toList) st.heavy=true
  ·-- an operation that is done early
   unfold sU at h2';unfold dM at h1 h;rw[hfl]at h1 h2' h;simp only[cond_true,lA,oB,ybb]at h1 h2';obtain⟨w',h2,⟨⟨hw,hfo⟩,hlo⟩,h2'⟩:=h2';cases h2';subst hw;simp only[if_true,cond_true]at h;have hval:∃v H',(qG o.op).f C (.mixed tm old (rF (Nat.sub st.heavy (Nat.succ (wB all.toList))) olds) (bH o.op)) H=.val v H':=by
    cases hr:(qG o.op).f C (.mixed tm old (rF (Nat.sub st.heavy (Nat.succ (wB all.toList))) olds) (bH o.op)) H with
    | val v H'=>simp_all
    | enter g args=>exact(KI hfo hr fun q=>by cases q<;>simp[fM]).elim
    | round g args=>exact(KI hfo hr fun q=>by cases q<;>simp[fM]).elim
    | _=>rw[hr]at h;cases h
   obtain⟨v,H',hv⟩:=hval;rw[hv]at h;have h:(iL C o.type v fun v=>nM C H' all old olds (putA N tm o.dst v) (pI C H' all N old olds (fun tm=>tJ C φ all N old olds κn l tm H') st.lights (putA N tm o.dst v)) st.again)=some x:=h;rw[fQ]at h;obtain⟨ha,hl⟩:=Mx _ h.2;obtain⟨tm',hl1,hl2⟩:=Qu _ _ hl;refine .step ?_;rw[kL hR];show Fin C E ds (jR all old olds (st::l) C k tm R acs H) x
   unfold jR;have hnone:tD all.toList st.heavy=none:=by
    grind [vE,sC,oD]
   simp only[hnone];rw[hfl,cond_true,hgn,cond_false];unfold Nm;rw[h1,uA,h2,uA,hv,hlo];show Fin C E ds (gL (ob (eQ C H' all R.n old olds st.lights (putA R.n tm o.dst v)) fun tm'=>some ⟨⟨.reg all old olds l::k,tm',R⟩,acs,H'⟩) 23) x;rw[hN,hl1,uA];exact ih _ _ hl2
  have hfl:Nat.blt (wB all.toList) st.heavy=false:=Bool.eq_false_iff.2 hfl;unfold sU at h2';unfold dM at h1 h;rw[hfl]at h1 h2' h;simp only[cond_false,lA]at h1 h2';obtain⟨w',h2,h2'⟩:=h2';cases h2';simp only[cond_false]at h;have back0:∀v H' c',wI (⟨.reg all old olds (st::l)::k,tm,R⟩:lC) v=some c' →
    nM C H' all old olds (putA N tm o.dst v) (pI C H' all N old olds (fun tm=>tJ C φ all N old olds κn l tm H') st.lights (putA N tm o.dst v)) st.again=some x->Fin C E ds (.next ⟨c',acs,H'⟩) x:=by
   intro v H' c' hc hK;unfold wI at hc;simp only[hR,cond_true]at hc;have hc:(ob (tD all.toList st.heavy) fun o=>some (⟨.reg all old olds (⟨all.size,st.lights,st.again⟩::l)::k,putA R.n tm o.dst v,R⟩:lC))=some c':=hc;rw[h1,uA]at hc;cases hc;refine .step ?_;rw[kL hR,hN];obtain⟨ha,hl⟩:=Mx _ hK;obtain⟨tm',hl1,hl2⟩:=Qu _ _ hl;show Fin C E ds (jR all old olds (⟨all.size,st.lights,st.again⟩::l) C k (putA N tm o.dst v) R acs H') x
   unfold jR;have:tD all.toList all.size=none:=by rw[vE];simp
   simp only[this];rw[nD,yaa fun e=>by grind [sC,oD]];show Fin C E ds (Jc all old olds ⟨all.size,st.lights,st.again⟩ l C k (putA N tm o.dst v) R acs H') x;unfold Jc;simp only[ha,hN,hl1,uA];exact ih _ _ hl2
  have back:∀v H' c',wI (⟨.reg all old olds (st::l)::k,tm,R⟩:lC) v=some c' →
    (iL C o.type v fun v=>nM C H' all old olds (putA N tm o.dst v) (pI C H' all N old olds (fun tm=>tJ C φ all N old olds κn l tm H') st.lights (putA N tm o.dst v)) st.again)=some x->Fin C E ds (.next ⟨c',acs,H'⟩) x:=by
   grind [fQ]
  refine .step ?_;rw[kL hR];show Fin C E ds (jR all old olds (st::l) C k tm R acs H) x;unfold jR;simp only[h1];unfold Nk;rw[h2];simp only[];have hfin:∀v,∃c',wI (⟨.reg all old olds (st::l)::k,tm,R⟩:lC) v=some c':=fun v=>⟨⟨.reg all old olds (⟨all.size,st.lights,st.again⟩::l)::k,putA R.n tm o.dst v,R⟩,by
   unfold wI;simp only[hR,cond_true];show(ob (tD all.toList st.heavy) fun o=>some (⟨.reg all old olds (⟨all.size,st.lights,st.again⟩::l)::k,putA R.n tm o.dst v,R⟩:lC))=_;rw[h1];rfl⟩
  cases w with
  | true=>
   simp only[if_true]at h;exact EL hφ h back hfin
  | false=>
   simp only[ybq,if_false]at h;obtain⟨c',hc⟩:=hfin kD;show Fin C E ds (Di kD H C _ acs H) x;unfold Di;rw[hc];exact back0 _ _ _ hc h
theorem zde    (h:(keep live tm).get i=some v):tm.get i=some v:=by
 unfold keep Tm.get at h;simp only[sK]at h;split at h
 case isFalse=>cases h
 rename_i hk;have key:∀live:List Nat,(Hl tm live).get i=some v->tm.get i=some v:=by
  intro live;induction live with
  | nil=>grind [Hl,Tr.get_leaf]
  | cons j live ih=>
   grind [Hl,Tr.get_set]
 grind
def KW (hr:Re todo=false)   (h:Fin C E ds (.next ⟨⟨todo,keep live tm,R⟩,acs,H⟩) x):Fin C E ds (.next ⟨⟨todo,tm,R⟩,acs,H⟩) x:=
 Fin.of (.forget hr (fun _ _=>zde) (.refl _)) h
def Yt(hE:Ix C E G f N ro acs) (h1:Re t1=false)(hs:∀tm H,wR C t1 tm (RR f N ro ds) acs H=wR C t2 tm (RR f N ro ds) acs H)  (h:Fin C E ds (.next ⟨⟨t2,tm,RR f N ro ds⟩,acs,H⟩) x):Fin C E ds (.next ⟨⟨t1,tm,RR f N ro ds⟩,acs,H⟩) x:=by
 obtain⟨o',hr,hv⟩:=h;refine⟨o',?_,hv⟩;generalize ho:(.next ⟨⟨t2,tm,RR f N ro ds⟩,acs,H⟩:bF)=o at hr
 induction hr generalizing tm with
 | refl=>
  subst ho;exact(hE.not _ _ _ _ _ hv).elim
 | step h ih=>
  subst ho;refine .step ?_;rw[kL rfl,hs,<- kL rfl];exact h
 | forget hr2 hs2 h ih=>
  cases ho;exact .forget h1 hs2 (ih hv rfl)
theorem VY     : pS (some (.exit i)) C ⟨t1,tm,R⟩ acs H=pS (some (.exit i)) C ⟨t2,tm,R⟩ acs H:=by
 obtain⟨a,b,c,d,e,ro⟩:=R;unfold pS;cases ro<;>rfl
theorem Yx(hE:Ix C E G f N ro acs) {y:iE}(hy:∀j,y.blockId=some j->Nat.beq j i=false)  (h:Fin C E ds (.next ⟨⟨.code (.exit i)::k,tm,RR f N ro ds⟩,acs,H⟩) x):Fin C E ds (.next ⟨⟨.code (.exit i)::y::k,tm,RR f N ro ds⟩,acs,H⟩) x:=by
 refine Yt hE rfl (fun tm H=>?_) h;show bZ i C (y::k) tm (RR f N ro ds) acs H=bZ i C k tm (RR f N ro ds) acs H
 grind [jS,bZ,VY]
theorem TH(hφ:pX C φ)(hE:Ix C E G f N none acs){κ:Kt}(hκ:Sx C E G f N none acs κ k){fo:Operand}{ps:Array Nat}{a b:Code}  (h:lQ C φ f N κ fo ps.toList a b tm H=some x):Fin C E ds (.next ⟨⟨.code (.rangeFunc fo ps a b)::k,tm,RR f N none ds⟩,acs,H⟩) x:=by
 unfold lQ at h;rw[lA]at h;obtain⟨v,h1,h⟩:=h;rw[lA]at h;obtain⟨⟨qf,q1,q2⟩,h2,h⟩:=h
 cases qf with
 | yld l=>cases h
 | func g=>
  simp only[oB,lA]at h;obtain⟨h3,y,h4,r,h5,h6,z,h7,d,h8,h9,h10⟩:=h;have hp:C.prims.get g=none:=by
   cases hx:C.prims.get g with
   | none=>rfl
   | some u=>rw[hx]at h3;cases h3
  obtain⟨ge,he,r0⟩:=hφ.fn _ _ _ _ h4;obtain⟨fr',r1,r2⟩:=r0 (⟨.inRange (H.next+1)::k,tm,RR f N none (⟨none,H.next,[]⟩::ds)⟩::acs);refine .step ?_;rw[kL rfl];show Fin C E ds (Jb fo ps a b C k tm (RR f N none ds) acs H) x;have hin:tY C (H.next+1) v=some ge:=by
   grind [tY,uA]
  unfold Jb;rw[h1,uA];simp only[hin,uA];refine Fin.of (r1.trans (.step ?_)) (?_:Fin C E ds (.next ⟨⟨.endRange (H.next+1)::k,tm,RR f N none (⟨none,H.next,[]⟩::ds)⟩,acs,y.2⟩) x)
  ·rw[JU r2 (c':=⟨.endRange (H.next+1)::k,tm,RR f N none (⟨none,H.next,[]⟩::ds)⟩) rfl];exact .refl _
  refine .step ?_;rw[kL rfl];show Fin C E ds (Jd (H.next+1) C k tm (RR f N none (⟨none,H.next,[]⟩::ds)) acs y.2) x;unfold Jd;rw[h5,uA,h6];have key:Fin C E (⟨none,H.next,[]⟩::ds) (.next ⟨⟨(match r.pending with | some c=>.code c::k | none=>k),tm,RR f N none (⟨none,H.next,[]⟩::ds)⟩,acs,endLoop y.2 (H.next+1) r⟩) z:=by
   unfold hZ at h7;split at h7
   ·rename_i e;rw[e];exact hκ.norm _ _ _ _ (hE.all rfl _) h7
   ·rename_i e;rw[e];exact hκ.ret _ _ _ _ (hE.all rfl _) h7 k
   grind
  obtain⟨o',k1,k2⟩:=key;have hd:bW z.2 H.next=some (some []):=by
   rw[h8]
   cases d with
   | none=>cases h9
   | some l=>cases l with | nil=>rfl | cons _ _=>cases h9
  obtain⟨o'',k3,k4⟩:=hE.pop rfl _ _ _ _ k2 hd;cases h10;exact⟨o'',k1.trans k3,k4⟩
theorem Pm{α:Type}{a b:List α}(h:tE a b=[]):a=[]/\b=[]:=by grind [fH,List.append_eq_nil_iff]
theorem LS(hφ:pX C φ)(hE:Ix C E G f N ro acs):∀(c:dD) (κ:Kt) (k:List iE),(ro=none\/mU c=[])->Sx C E G f N ro acs κ k->∀ds x tm H,G x->aD C φ f N c κ tm H=some x->Fin C E ds (.next ⟨⟨.code (sG c)::k,tm,RR f N ro ds⟩,acs,H⟩) x:=by
 intro c;induction c with
 | skip=>
  intro κ k _ hκ ds x tm H hG h;refine .step ?_;rw[kL rfl];exact hκ.norm _ _ _ _ hG h
 | region id ops d=>
  intro κ k _ hκ ds x tm H hG h;refine .step ?_;rw[kL rfl]
  cases d with
  | false=>exact UJ hφ rfl rfl (fun tm H h=>hκ.norm _ _ _ _ hG h) _ _ _ h
  | true=>
   have h:(ob (ob (C.plans.get f) fun t=>t.get id) fun p=>vB (qT ops p) (pI C H ops N tm.cut p.olds (fun tm'=>tJ C φ ops N tm.cut p.olds κ.norm p.stages tm' H) p.first tm.cut))=some x:=h;rw[lA]at h;obtain⟨p,h1,h⟩:=h;rw[oB]at h;obtain⟨tm',hl1,hl2⟩:=Qu _ _ h.2;show Fin C E ds (Je id ops C k tm (RR f N ro ds) acs H) x;unfold Je;rw[h1,uA,h.1,hl1];exact RN hφ rfl rfl (fun tm H h=>hκ.norm _ _ _ _ hG h) _ _ _ hl2
 | seq a b iha ihb=>
  intro κ k hn hκ ds x tm H hG h;have hna:ro=none\/mU a=[]:=hn.imp id fun e=>(Pm e).1;have hnb:ro=none\/mU b=[]:=hn.imp id fun e=>(Pm e).2;refine Yt hE (t1:=.code (sG (.seq a b))::k) rfl (t2:=.code (sG a)::.code (sG b)::k) (fun _ _=>rfl) ?_;exact iha ⟨aD C φ f N b κ,κ.exit,κ.ret⟩ _ hna ⟨fun ds x tm H hG h=>ihb _ _ hnb hκ ds x tm H hG h,fun ds x i tm H hG h=>Yx hE (fun _ e=>by cases e) (hκ.exit _ _ _ _ _ hG h),hκ.ret⟩ ds x tm H hG h
 | cond c a b iha ihb=>
  intro κ k hn hκ ds x tm H hG h;have hna:ro=none\/mU a=[]:=hn.imp id fun e=>(Pm e).1;have hnb:ro=none\/mU b=[]:=hn.imp id fun e=>(Pm e).2;have h:(ob (ob (ev c (.now tm)) zA.asBool) fun t=>Bool.rec (motive:=fun _=>dB) (aD C φ f N b κ tm H) (aD C φ f N a κ tm H) t)=some x:=h;rw[lA]at h;obtain⟨t,h1,h⟩:=h;refine .step ?_;rw[kL rfl];show Fin C E ds (Jf c (sG a) (sG b) C k tm (RR f N ro ds) acs H) x
  unfold Jf;rw[h1]
  cases t with
  | true=>exact iha _ _ hna hκ _ _ _ _ hG h
  | false=>exact ihb _ _ hnb hκ _ _ _ _ hG h
 | block id c ih=>
  intro κ k hn hκ ds x tm H hG h;refine .step ?_;rw[kL rfl];have nx:∀ds x tm H,G x->κ.norm tm H=some x->Fin C E ds (.next ⟨⟨.inBlock id::k,tm,RR f N ro ds⟩,acs,H⟩) x:=by
   intro ds x tm H hG h;refine .step ?_;rw[kL rfl];exact hκ.norm _ _ _ _ hG h
  refine ih ⟨κ.norm,fun i tm H=>Bool.rec (motive:=fun _=>dB) (κ.exit i tm H) (κ.norm tm H) (Nat.beq id i),κ.ret⟩ _ hn ⟨nx,fun ds x i tm H hG h=>?_,hκ.ret⟩ ds x tm H hG h;dsimp only at h
  cases hb:Nat.beq id i with
  | true=>
   rw[hb]at h;refine .step ?_;rw[kL rfl];show Fin C E ds (bZ i C (.inBlock id::k) tm (RR f N ro ds) acs H) x;have e:jS i (.inBlock id::k)=some k:=by
    show(bif Nat.beq id i then some k else jS i k)=_
    grind
   unfold bZ;rw[e];exact hκ.norm _ _ _ _ hG h
  | false=>
   rw[hb]at h;exact Yx hE (fun j e=>by cases e;exact hb) (hκ.exit _ _ _ _ _ hG h)
 | loop live c ih=>
  intro κ k hn hκ ds x tm H hG h;obtain⟨m,hm⟩:=Xh h;have it:∀(m:Nat) ds x tm H,G x->(Nat.rec (motive:=fun _=>Tm->pA->dB) (fun _ _=>none) (fun _ r tm H=>aD C φ f N c ⟨r,κ.exit,κ.ret⟩ (keep live.kept tm) H) m:Tm->pA->dB) tm H=some x->Fin C E ds (.next ⟨⟨.inLoop (sG c)::k,tm,RR f N ro ds⟩,acs,H⟩) x:=by
   intro m;induction m with
   | zero=>simp_all
   | succ m ihm=>
    intro ds x tm H hG h;refine KW (live:=live.kept) rfl (.step ?_);rw[kL rfl];exact ih ⟨_,κ.exit,κ.ret⟩ _ hn ⟨ihm,fun ds x i tm H hG h=>Yx hE (fun _ e=>by cases e) (hκ.exit _ _ _ _ _ hG h),hκ.ret⟩ _ _ _ _ hG h
  exact Yt hE (t1:=.code (sG (.loop live c))::k) rfl (t2:=.inLoop (sG c)::k) (fun _ _=>rfl) (it m _ _ tm H hG hm)
 | exit id=>exact fun κ k _ hκ ds x tm H hG h=>hκ.exit _ _ _ _ _ hG h
 | ret=>exact fun κ k _ hκ ds x tm H hG h=>hκ.ret _ _ _ _ hG h k
 | cut live c ih=>exact fun κ k hn hκ ds x tm H hG h=>KW rfl (ih κ k hn hκ _ _ _ _ hG h)
 | range i pl fo ps id ops c ih=>
  intro κ k hn hκ ds x tm H hG h;rcases hn with rfl | e
  ·exact TH hφ hE hκ h
  ·cases e
end
end
section
variable {φ:xJ}{N f l:Nat}{args:List zA}{H:pA}{x:zA × pA}{tm:Tm}{acs:List lC}
def endK (C:fA)(fn:Func)(tm:Tm)(H:pA):dB:=ob (wY C H tm fn.results.toList) fun l=>some (Cs l,H)
def vW (C:fA)(fn:Func):Kt:=⟨endK C fn,fun _ _ _=>none,endK C fn⟩
def Ky(ops:List Oper):Bool:=zD (fun o=>match o.op with | .move _=>aH o.guard | .assign _=>aH o.guard | _=>false) ops
def Le(c:dD):Option Fk:=match mU c with | [q]=>some q | _=>none
def rdOk (r:vQ)(q:Fk):Prop:=r.assign=.region q.id q.ops false/\r.body=sG q.c/\r.params=q.ps.toList/\LoopState.tag r.state=0/\Ky q.ops.toList=true/\mU q.c=[]
def Fdzx(r:vQ):vQ:=⟨.busy,r.pending,r.fn,r.n,r.tm,r.params,r.assign,r.body,r.defers⟩
def iY(b:Bool)(r:vQ):vQ:=⟨if b then .ready else .done,if b then none else some .ret,r.fn,r.n,r.tm,r.params,r.assign,r.body,r.defers⟩
def rdK:Kt:=⟨fun _ H=>some (.bool true,H),fun _ _ _=>none,fun _ H=>some (.bool false,H)⟩
def Sn(C:fA)(φ:xJ)(fn n:Nat)(q:Fk)(tm:Tm)(H:pA):dB:=aD C φ fn n (.seq (.region q.id q.ops false) q.c) rdK tm H
def Dd(C:fA)(A:Tr dD)(φ:xJ)(l:Nat)(args:List zA)(H:pA):dB:=
 ob (eK H l) fun r=>ob (zY r.n r.params args r.tm) fun tm=>ob (A.get r.fn) fun c=>ob (Le c) fun q=>@ite _ (rdOk r q) (Classical.propDecidable _)
  (ob (Sn C φ r.fn r.n q tm (setBlk H l (.loop (Fdzx r)))) fun x=>ob (eK x.2 l) fun r2=>ob x.1.asBool fun b=>some (.bool b,setBlk x.2 l (.loop (iY b r2)))) none
def dT (C:fA)(A:Tr dD)(φ:xJ)(f:Nat)(args:List zA)(H:pA):dB:=
 ob (A.get f) fun c=>ob (C.fns.get f) fun fn=>ob (bM C f args false) fun g=>aD C φ f fn.ntmps c (vW C fn) g.tm H
def Cv(C:fA)(A:Tr dD)(φ:xJ):xJ
 | .func f=>dT C A φ f
 | .yld l=>Dd C A φ l
def An (C:fA)(A:Tr dD):Nat->xJ
 | 0=>fun _ _ _=>none
 | n+1=>Cv C A (An C A n)
def jD (C:fA)(A:Tr dD):xJ:=fun f args H=>lim fun n=>An C A n f args H
section
variable {C:fA}{A:Tr dD}
theorem Gu      : Dd C A φ l args H=some x ↔ ∃r tm c q y r2 b,eK H l=some r/\zY r.n r.params args r.tm=some tm/\A.get r.fn=some c/\Le c=some q/\rdOk r q/\Sn C φ r.fn r.n q tm (setBlk H l (.loop (Fdzx r)))=some y/\eK y.2 l=some r2/\y.1=.bool b/\x=(.bool b,setBlk y.2 l (.loop (iY b r2))):=by
 unfold Dd;grind [lA,Bi]
def CP{φ':xJ}(h:nR φ φ'):nR (Cv C A φ) (Cv C A φ'):=by
 intro f args H x hx
 cases f with
 | yld l=>
  have hx:Dd C A φ l args H=some x:=hx;obtain⟨r,tm,c,q,y,r2,b,h1,h2,h3,h4,hq,h5,h6,h7,h8⟩:=Gu.1 hx;exact Gu.2 ⟨r,tm,c,q,y,r2,b,h1,h2,h3,h4,hq,Ew h _ _ _ (uP.refl _) _ _ _ h5,h6,h7,h8⟩
 | func f=>
 have hx:dT C A φ f args H=some x:=hx;show dT C A φ' f args H=some x;unfold dT at hx ⊢;rw[lA]at hx ⊢;obtain⟨c,h1,hx⟩:=hx;refine⟨c,h1,?_⟩;rw[lA]at hx ⊢;obtain⟨fn,h2,hx⟩:=hx;refine⟨fn,h2,?_⟩;rw[lA]at hx ⊢;obtain⟨g,h3,hx⟩:=hx;exact⟨g,h3,Ew h c _ _ (uP.refl _) _ _ _ hx⟩
def FZ:∀n,nR (An C A n) (An C A (n+1)):=by
 intro n;induction n with
 | zero=>intro f args H x h;cases h
 | succ n ih=>exact CP ih
def Ek{f:AFn}    : jD C A f args H=some x ↔ ∃n,An C A n f args H=some x:=
 Qt fun n _ hy=>FZ n _ _ _ _ hy
def KH:gZ (An C A) (jD C A):=⟨FZ,fun _ _ _ _ h=>Ek.1 h⟩
theorem zgb(f:AFn)(args:List zA)(H:pA):jD C A f args H=Cv C A (jD C A) f args H:=by
 have key:∀x,jD C A f args H=some x ↔ Cv C A (jD C A) f args H=some x:=by
  intro x;constructor
  ·intro h;obtain⟨n,hn⟩:=Ek.1 h
   cases n with
   | zero=>cases hn
   | succ n=>exact CP (fun f a H y hy=>Ek.2 ⟨n,hy⟩) _ _ _ _ hn
  ·intro h
   cases f with
   | yld l=>
    have h:Dd C A (jD C A) l args H=some x:=h;obtain⟨r,tm,c,q,y,r2,b,h1,h2,h3,h4,hq,h5,h6,h7,h8⟩:=Gu.1 h;have sup:Fj (fun _=>rdK) rdK:=⟨⟨fun _ _ _ _ h=>h,fun _ _ _ h=>⟨0,h⟩⟩,fun i=>⟨fun _ _ _ _ h=>h,fun _ _ _ h=>⟨0,h⟩⟩,⟨fun _ _ _ _ h=>h,fun _ _ _ h=>⟨0,h⟩⟩⟩;obtain⟨n,hn⟩:=(Zc KH _ _ _ sup).ex _ _ _ h5;exact Ek.2 ⟨n+1,Gu.2 ⟨r,tm,c,q,y,r2,b,h1,h2,h3,h4,hq,hn,h6,h7,h8⟩⟩
   | func f=>
   have h:dT C A (jD C A) f args H=some x:=h;unfold dT at h;rw[lA]at h;obtain⟨c,h1,h⟩:=h;rw[lA]at h;obtain⟨fn,h2,h⟩:=h;rw[lA]at h;obtain⟨g,h3,h⟩:=h;have sup:Fj (fun _=>vW C fn) (vW C fn):=⟨⟨fun _ _ _ _ h=>h,fun _ _ _ h=>⟨0,h⟩⟩,fun i=>⟨fun _ _ _ _ h=>h,fun _ _ _ h=>⟨0,h⟩⟩,⟨fun _ _ _ _ h=>h,fun _ _ _ h=>⟨0,h⟩⟩⟩;obtain⟨n,hn⟩:=(Zc KH c _ _ sup).ex _ _ _ h;refine Ek.2 ⟨n+1,?_⟩
   show dT C A (An C A n) f args H=some x
   grind [dT,uA]
 cases h:jD C A f args H with
 | some x=>grind
 | none=>
  cases h2:Cv C A (jD C A) f args H with
  | none=>rfl
  | some x=>simp_all
def Fl(C:fA)(A:Tr dD):Prop:=∀f c,A.get f=some c->∃fn,C.fns.get f=some fn/\fn.body=some (sG c)
theorem XL  {g:lC}(h:bM C f args false=some g):∃fn c,C.fns.get f=some fn/\fn.body=some c/\g.todo=[.code c]/\g.R=⟨f,fn.ntmps,[],.run,false,none⟩:=by
 grind [bM,lA,oB]
theorem Qq{α β:Type}{f g:α->Option β}:∀(l:List α) {r:List β},(∀a b,f a=some b->g a=some b)->oH f l=some r->oH g l=some r:=by
 intro l;induction l with
 | nil=>intro r _ h;exact h
 | cons a l ih=>
  grind [dO,lA]
def zjy(C:fA)(f:Nat)(acs:List lC):Bt:=fun ds o x=>∃fr',o=.next ⟨fr',acs,x.2⟩/\Zw C f ds fr' x.2 x.1
def SV  {r:Nat}{d e:Option (List zK)}(hr:H.t.get r=some (.deferred d)):∀(l:List ResultVar) vs,wY C H tm l=some vs->wY C (setBlk H r (.deferred e)) tm l=some vs:=by
 intro l vs h;refine Qq l (fun rv v h=>?_) h
 cases rv with
 | tmp t=>exact h
 | cell a t=>
  have h:(ob (ob (tm.get a) zA.asPtr) fun p=>ob (C.tys.get t) fun ty=>ob (rD H p.1) fun c=>qS ty c.1 p.2)=some v:=h;show(ob (ob (tm.get a) zA.asPtr) fun p=>ob (C.tys.get t) fun ty=>ob (rD (setBlk H r (.deferred e)) p.1) fun c=>qS ty c.1 p.2)=some v;simp only[lA]at h ⊢;obtain⟨p,hp,ty,ht,c,hc,hv⟩:=h;refine⟨p,hp,ty,ht,c,?_,hv⟩;unfold rD at hc ⊢;rw[lA]at hc ⊢;obtain⟨y,h1,h2⟩:=hc
  refine⟨y,?_,h2⟩;show(H.t.set r (.deferred e)).get p.1=some y;rw[Tr.get_set,yaa fun e=>by rw[e,hr]at h1;cases h1;cases h2];exact h1
def zdr   : Ix C (zjy C f acs) (fun _=>True) f N none acs:=by
 refine⟨?_,fun _ _=>trivial,?_⟩
 ·rintro ds todo tm H x ⟨fr',h1,h2⟩;cases h1;have:=h2.1;cases this
 ·rintro _ r ds o x ⟨fr',rfl,h1,h2,h3,h4,fn,l,h5,h6,h7⟩ hd;obtain⟨todo,tm,ffn,n,defers,mode,deferred,round⟩:=fr';simp only at h1 h2 h3 h4 h6;subst h1 h2 h3 h4;have hr:x.2.t.get r=some (.deferred (some [])):=by
   unfold bW at hd;rw[oB,lA]at hd;obtain⟨_,y,e1,e2⟩:=hd;cases y<;>cases e2;exact e1
  refine⟨_,.step ?_,⟨⟨todo,tm,⟨ffn,n,ds,.returning,false,round⟩⟩,rfl,rfl,rfl,rfl,rfl,fn,l,h5,SV hr _ _ h6,h7⟩⟩;show xN C (Jp C ⟨none,r,[]⟩ ds ⟨todo,tm,⟨ffn,n,⟨none,r,[]⟩::ds,.returning,false,round⟩⟩ acs x.2) _;unfold Jp;simp only[hd,uA];exact .refl _
def LL {fn:Func}  {ds:List zK}(hf:C.fns.get f=some fn)  (h:endK C fn tm H=some x){todo:List iE}
  (hs:wR C todo tm (RR f N none ds) acs H=.next ⟨Kl ⟨todo,tm,RR f N none ds⟩ .returning,acs,H⟩):Fin C (zjy C f acs) ds (.next ⟨⟨todo,tm,RR f N none ds⟩,acs,H⟩) x:=by
 unfold endK at h;rw[lA]at h;obtain⟨l,h1,h2⟩:=h;cases h2;refine .step ?_;rw[kL rfl,hs];exact⟨_,.refl _,_,rfl,rfl,rfl,rfl,rfl,fn,l,hf,h1,rfl⟩
def RdG (l:Nat)(c:lC):zA × pA->Prop:=fun x=>∃b r2 c',x.1=.bool b/\eK x.2 l=some r2/\wI c (.bool b)=some c'
def RdEnd(l:Nat)(c:lC)(acs:List lC):Bt:=fun _ o x=>∃b r2 c',x.1=.bool b/\eK x.2 l=some r2/\wI c (.bool b)=some c'/\o=.next ⟨c',acs,setBlk x.2 l (.loop (iY b r2))⟩
theorem ZG{C:fA} {all:Array Oper}{n:Nat}{κn:Tm->pA->dB}:∀(l:List Oper) (tm:Tm) (H1:pA) (x:zA × pA),Ky l=true->eO C φ all n κn l tm H1=some x->∃tm',κn tm' H1=some x/\∀(k:List iE) (R:nK) (cs:List lC) (H:pA),R.n=n->pU C all k R cs l tm H=xGo k tm' R cs H:=by
 intro l;induction l with
 | nil=>intro tm H1 x _ h;exact⟨tm,h,fun _ _ _ _ _=>rfl⟩
 | cons o l ih=>
  intro tm H1 x hp h;have hp:(bif (match o.op with | .move _=>aH o.guard | .assign _=>aH o.guard | _=>false)then Ky l else false)=true:=hp
  have hp1:(match o.op with | .move _=>aH o.guard | .assign _=>aH o.guard | _=>false)=true:=by
   simp_all
  rw[hp1]at hp;have hp:Ky l=true:=hp;have hmv:∃u,(∀H,(qG o.op).f C (.now tm) H=lv (iW u) C (.now tm) H)/\aH o.guard=true:=by
   cases ho:o.op<;>rw[ho]at hp1<;>first
    | (cases hp1;done)
    | exact⟨_,fun _=>rfl,hp1⟩
  obtain⟨u,hu,hg⟩:=hmv;have hw:aF o.guard all tm=some true:=by
   cases hx:o.guard with
   | none=>rfl
   | some g=>rw[hx]at hg;cases hg
  rw[Dp,hw,uA,yab rfl,hu]at h
  cases hv:ev u (.now tm)with
  | none=>
   have:lv (iW u) C (.now tm) H1=.fail:=by unfold lv iW;rw[hv]
   rw[this]at h;cases h
  | some v=>
   simp_all [lv,iW,cG,fQ,Vv,zM.asVal]
theorem SR (hφ:pX C φ)    (h:Dd C A φ l args H=some x) :
  ∃r tm,eK H l=some r/\zY r.n r.params args r.tm=some tm/\∀c acs c',wI c x.1=some c'->xN C (.next ⟨Vx r l tm,c::acs,H⟩) (.next ⟨c',acs,x.2⟩):=by
 obtain⟨r,tm,cc,q,y,r2,b,h1,h2,h3,h4,⟨q1,q2,q3,q4,q5,q6⟩,h5,h6,h7,rfl⟩:=Gu.1 h;refine⟨r,tm,h1,h2,fun c acs c' hc=>?_⟩;have h5:eO C φ q.ops r.n (aD C φ r.fn r.n q.c rdK) q.ops.toList tm.cut (setBlk H l (.loop (Fdzx r)))=some y:=h5;obtain⟨tm',h8,h9⟩:=ZG _ _ _ _ q5 h5;unfold Vx;rw[q1,q2];refine .step ?_;rw[kL rfl];show xN C (pU C q.ops _ _ _ q.ops.toList tm.cut H) _
 rw[h9 _ _ _ _ rfl];refine .step ?_;show xN C (wR C (.beginRound::[.code (sG q.c)]) tm' ⟨r.fn,r.n,[],.run,false,some l⟩ (c::acs) H) _;have hb:wR C (.beginRound::[.code (sG q.c)]) tm' ⟨r.fn,r.n,[],.run,false,some l⟩ (c::acs) H=.next ⟨⟨[.code (sG q.c)],tm',RR r.fn r.n (some l) []⟩,c::acs,setBlk H l (.loop (Fdzx r))⟩:=by
  show Jg C [.code (sG q.c)] tm' _ (c::acs) H=_;unfold Jg;simp only[uA];rw[h1,uA,q4];rfl
 rw[hb];have hc:wI c (.bool b)=some c':=hc;have hE:Ix C (RdEnd l c acs) (RdG l c) r.fn r.n (some l) (c::acs):=by
  refine⟨?_,fun e=>(by cases e),fun e=>(by cases e)⟩;rintro ds todo tm H x ⟨b,r2,c',_,_,_,e⟩
  simp_all
 have hK:Sx C (RdEnd l c acs) (RdG l c) r.fn r.n (some l) (c::acs) rdK []:=by
  refine⟨?_,fun _ _ _ _ _ _ h=>(by cases h),?_⟩
  ·rintro ds x tm H ⟨b,r2,c',g1,g2,g3⟩ h;cases h;cases g1;refine .step ?_;rw[kL rfl];have:wR C [] tm (RR r.fn r.n (some l) ds) (c::acs) H=.next ⟨c',acs,setBlk H l (.loop (iY true r2))⟩:=by
    have e0:wR C [] tm (RR r.fn r.n (some l) ds) (c::acs) H=pS none C ⟨[],tm,RR r.fn r.n (some l) ds⟩ (c::acs) H:=rfl;rw[e0];unfold pS;simp only[g2,uA];show gL (ob (wI c (.bool true)) _) 7=_;rw[g3];rfl
   rw[this];exact⟨_,.refl _,true,r2,c',rfl,g2,g3,rfl⟩
  ·rintro ds x tm H ⟨b,r2,c',g1,g2,g3⟩ h k';cases h;cases g1;refine .step ?_;rw[kL rfl];have:wR C (.code .ret::k') tm (RR r.fn r.n (some l) ds) (c::acs) H=.next ⟨c',acs,setBlk H l (.loop (iY false r2))⟩:=by
    have e0:wR C (.code .ret::k') tm (RR r.fn r.n (some l) ds) (c::acs) H=pS (some .ret) C ⟨.code .ret::k',tm,RR r.fn r.n (some l) ds⟩ (c::acs) H:=rfl;rw[e0];unfold pS;simp only[g2,uA];show gL (ob (wI c (.bool false)) _) 7=_;rw[g3];rfl
   rw[this];exact⟨_,.refl _,false,r2,c',rfl,g2,g3,rfl⟩
 obtain⟨o',k1,b',r2',c'',k2,k3,k4,rfl⟩:=LS hφ hE q.c rdK [] (Or.inr q6) hK [] y tm' _ ⟨b,r2,c',h7,h6,hc⟩ h8
 simp_all
theorem RK(hA:Fl C A) (hφ:pX C φ):pX C (Cv C A φ):=by
 refine⟨fun f args H x h=>?_,fun l args H x h=>SR hφ h⟩;have h:dT C A φ f args H=some x:=h;unfold dT at h;rw[lA]at h;obtain⟨c,h1,h⟩:=h;rw[lA]at h;obtain⟨fn,h2,h⟩:=h;rw[lA]at h;obtain⟨g,h3,h⟩:=h;refine⟨g,h3,fun acs=>?_⟩;obtain⟨fn',c',e1,e2,e3,e4⟩:=XL h3;rw[h2]at e1;cases e1;obtain⟨fn',e5,e6⟩:=hA f c h1;rw[h2]at e5;cases e5;rw[e2]at e6;cases e6;obtain⟨gt,gtm,gR⟩:=g
 simp only at e3 e4 h;subst e3 e4;have hK:Sx C (zjy C f acs) (fun _=>True) f fn.ntmps none acs (vW C fn) []:=⟨fun ds x tm H _ h=>LL h2 h rfl,fun ds x i tm H _ h=>(by cases h),fun ds x tm H _ h k'=>LL h2 h rfl⟩;obtain⟨o',k1,fr',rfl,k2⟩:=LS hφ zdr c (vW C fn) [] (Or.inl rfl) hK [] x gtm H trivial h
 grind
def GA(hA:Fl C A):∀n,pX C (An C A n):=by
 intro n;induction n with
 | zero=>exact⟨fun f args H x h=>(by cases h),fun l args H x h=>(by cases h)⟩
 | succ n ih=>exact RK hA ih
def zao(hA:Fl C A):pX C (jD C A):=by
 refine⟨fun f args H x h=>?_,fun f args H x h=>?_⟩
 ·obtain⟨n,hn⟩:=Ek.1 h;exact(GA hA n).fn _ _ _ _ hn
 ·obtain⟨n,hn⟩:=Ek.1 h;exact(GA hA n).rd _ _ _ _ hn
theorem YO{P:Program}{B:Nat}{I:World->Prop}{μ:Mu}{w:World}(hS:pK P C B N I)(hI:I w)(hA:Fl C A)  {args':Array Value}{H':pA}{v:zA}(hH:rB B N μ H w)(hl:pB μ args args'.toList)
  (h:jD C A (.func f) args H=some (v,H')):Calls P f args' w fun e w'=>∃v' μ',e=.returned v'/\μ.lw μ'/\rA μ' v v'/\rB B N μ' H' w'/\Below N w w':=by
 intro base;obtain⟨g,he,hr⟩:=(zao hA).fn _ _ _ _ h;obtain⟨fr',r1,h1,h2,h3,h4,fn,l,h5,h6,rfl⟩:=hr [];have h0:iD P C B N μ base (lone (Frame.enter P f args' .normal) base w) w (.next ⟨g,[],H⟩):=Ot hS.fns hH hl he;obtain⟨μ',b,cs,w',s1,s2,s3,s4,s5,s6⟩:=iD.reach hS hI r1 h0;cases s6;have hb:=s5.body;rw[yaa (by grind [kX.running])]at hb;obtain⟨v',q1,q2⟩:=EI hS.tys s4 hb h6;have hm:=s5.rest.mode
 rw[h1]at hm;have hbm:b.mode=.returning:=by
  cases hb:b.mode with
  | returning=>rfl
  | _=>rw[hb]at hm;exact hm.elim
 have hd:=s5.rest.defers;rw[h2]at hd;have hbd:b.defers=[]:=by
  generalize hx:b.defers=bd at hd;cases hd;rfl
 have hk:=s5.rest.kind;rw[h3]at hk;have hfn:b.fn=f:=by rw[s5.rest.fn,h4]
 exact⟨.returned v',w',b,⟨v',μ',rfl,s2,q2,s4,s3⟩,s1,hfn,hbm,hbd,hk,fn,by rw[hfn];exact(hS.fns _ _ h5).1,q1⟩
end
end
end Go.Am
