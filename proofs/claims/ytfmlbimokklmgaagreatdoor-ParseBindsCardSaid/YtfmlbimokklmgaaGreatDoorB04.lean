/- The simulation: leaving, rounds, regions in order, heavy operations. -/
import Derived.Test.YtfmlbimokklmgaaGreatDoorB03
set_option linter.all false
noncomputable section
namespace Go.Am
open Go Go.RowKit
section
variable {P:Program}{C:rA}{B N:Nat}{I:World->Prop}{μ ν:Mu}{H H':xA}{w:World}{tm:Tm}{R:kI}{acs:List pB}{base cs:List Frame}
variable {b:Frame}{tmps:Array Value}{ds:List Deferred}{k:List mD}{k':List Item}{all:Array Oper}
theorem CT{m:Option Nat}(h:Ba μ none m):m=none:=by
 cases m with
 | none=>rfl
 | some l=>exact h.elim
theorem Ur{l:Nat}{m:Option Nat}(h:Ba μ (some l) m):∃i,μ l=some i/\m=some i.b:=by
 cases m with
 | none=>exact h.elim
 | some m=>obtain⟨i,h1,h2⟩:=h;simp_all
theorem Wo(hH:wB B N μ H w)(hcs:mF C μ acs cs)(hR:pG μ R (b.atR ⟨tmps,ds⟩ []))(ht:lE μ R.n tm tmps){todo:List mD}{btodo:List Item}{jump:Option Code}
  (h0:b.roundOf=none->Uu jump=true->step P (lone (b.atR ⟨tmps,ds⟩ btodo) (cs++base) w)=.next (lone { b.atR ⟨tmps,ds⟩ btodo with mode:=.returning } (cs++base) w))
  (h1:∀l c rest v w',b.roundOf=some l->b.kind=.normal->(Instr.endRound l jump).run P w=.ok v w'->step P (lone (b.atR ⟨tmps,ds⟩ btodo) (c::rest) w)=.next (lone (c.finish v) rest w')) :
  pD P C B N μ base (lone (b.atR ⟨tmps,ds⟩ btodo) (cs++base) w) w (oR jump C ⟨todo,tm,R⟩ acs H):=by
 unfold oR;simp only[]
 cases hr:R.roundOf with
 | none=>
  have hb:b.roundOf=none:=by
   have:=hR.round
   rw[hr]at this;exact CT this
  cases hj:Uu jump with
  | false=>exact trivial
  | true=>exact QM hH hcs hR ht (.one (h0 hb hj))
 | some l=>
  obtain⟨i,hi,hb⟩:∃i,μ l=some i/\b.roundOf=some i.b:=by
   have:=hR.round
   rw[hr]at this;exact Ur this
  simp only[]
  cases hx:eH H l with
  | none=>exact trivial
  | some r=>
   rw[qA]
   cases hcs with
   | nil=>exact trivial
   | @cons c b1 acs1 cs1 hc hcs1=>
    simp only[]
    cases hd:R.deferred with
    | true=>exact trivial
    | false=>
     have hkind:b.kind=.normal:=by have:=hR.kind;rw[hd]at this;exact this
     cases hf:iG c (.bool jump.isNone)with
     | none=>exact trivial
     | some c'=>
      obtain⟨hl,r',hg,hw,rel⟩:=Jk hH hx hi
      have run:(Instr.endRound i.b jump).run P w=.ok (.bool jump.isNone) (World.setBlk w i.b (.loop { r' with state:=if jump.isNone then .ready else .done,pending:=jump })):=by
       simp_all [Instr.endRound,Ie,Ea]
      refine⟨μ,_,cs1,_,.one (h1 i.b b1 (cs1++base) _ _ hb hkind run),fun _ _ h=>h,qW (hH.own l i hl hi).1,?_,Cs hc hf (by rw[uA]),hcs1⟩
      refine hH.upd hg hi hl ?_
      rw[yI];exact⟨_,rfl,rfl,rfl,rel.fn,rel.tm,rel.params,rel.assign,rel.body,rel.defers⟩
theorem WE{id:Nat}:∀ {k:List mD} {k':List Item},uD (gF μ) k k'->lR id k=none->exitTo id k'=none:=by
 intro k k' h;induction h with
 | nil=>intro _;rfl
 | cons a l ih=>
  intro e
  cases a with
  | inBlock i=>
   grind [lR,mD.blockId,exitTo,sC]
  | _=>
   grind [lR,exitTo]
theorem zdk(hH:wB B N μ H w)(hcs:mF C μ acs cs)(hR:pG μ R (b.atR ⟨tmps,ds⟩ []))(ht:lE μ R.n tm tmps)(hk:uD (gF μ) k k'){id:Nat} :
  pD P C B N μ base (lone (b.atR ⟨tmps,ds⟩ (.code (.exit id)::k')) (cs++base) w) w (tZ id C k tm R acs H):=by
 unfold tZ
 cases he:lR id k with
 | some r=>
  obtain⟨r',h1,h2⟩:=WD hk he
  exact sX hH hcs hR ht h2 (.one (stepR_exit h1))
 | none=>
  exact Wo hH hcs hR ht (fun _ h=>by cases h) fun l c rest v w' hb hkd hr=>stepR_round_exit hb hkd (WE hk he) hr
theorem ret_ok(hH:wB B N μ H w)(hcs:mF C μ acs cs)(hR:pG μ R (b.atR ⟨tmps,ds⟩ []))(ht:lE μ R.n tm tmps) :
  pD P C B N μ base (lone (b.atR ⟨tmps,ds⟩ (.code .ret::k')) (cs++base) w) w (xRet C k tm R acs H):=
 Wo hH hcs hR ht (fun hb _=>stepR_ret hb) fun _ _ _ _ _ hb hkd hr=>stepR_round_ret hb hkd hr
theorem Yb(hH:wB B N μ H w)(hcs:mF C μ acs cs)(hR:pG μ R (b.atR ⟨tmps,ds⟩ []))(ht:lE μ R.n tm tmps) :
  pD P C B N μ base (lone (b.atR ⟨tmps,ds⟩ []) (cs++base) w) w (oR none C ⟨[],tm,R⟩ acs H):=
 Wo hH hcs hR ht (fun hb _=>stepR_end hb) fun _ _ _ _ _ hb hkd hr=>stepR_round_end hb hkd hr
theorem kZ{o:Oper}{rest:List Oper}:lK C all k R acs (o::rest) tm H=match tF o.guard all tm with
  | none=>.fail 20
  | some false=>lK C all k R acs rest (putA R.n tm o.dst rD) H
  | some true=>match ((rE o.op).f C (.now tm) H).asVal with
   | some p=>lK C all k R acs rest (putA R.n tm o.dst p.1) p.2
   | none=>Gb ((rE o.op).f C (.now tm) H) C ⟨.ops all (o::rest)::k,tm,R⟩ acs H:=by
 show(match tF o.guard all tm with
  | some w=>Bool.rec (motive:=fun _=>yF) (lK C all k R acs rest (putA R.n tm o.dst rD) H)
     (let r:=(rE o.op).f C (.now tm) H
     match r.asVal with
     | some p=>lK C all k R acs rest (putA R.n tm o.dst p.1) p.2
     | none=>Gb r C ⟨.ops all (o::rest)::k,tm,R⟩ acs H) w
  | none=>.fail 20)=_
 grind
theorem DB{n i:Nat}(h:i<n):(List.range n).drop i=i::(List.range n).drop (i+1):=by
 grind [List.drop_eq_getElem_cons]
theorem CS(hS:vJ P C B N I):∀(rest:List Oper) (i:Nat) (tm:Tm) (H:xA) (w:World) (μ:Mu) (tmps:Array Value),rest=all.toList.drop i->i<=all.size->I w->wB B N μ H w->mF C μ acs cs →
  pG μ R (b.atR ⟨tmps,ds⟩ [])->lE μ R.n tm tmps->uD (gF μ) k k' →
  pD P C B N μ base (lone (b.atR ⟨tmps,ds⟩ (.inRegion all ((List.range all.size).drop i)::k')) (cs++base) w) w (lK C all k R acs rest tm H):=by
 intro rest;induction rest with
 | nil=>
  intro i tm H w μ tmps hi hle hI hH hcs hR ht hk;have:all.size<=i:=by
   simp_all
  rw[ybt (by simp_all)]
  exact sX hH hcs hR ht hk (.one stepR_region_end)
 | cons o rest ih=>
  intro i tm H w μ tmps hi hle hI hH hcs hR ht hk;obtain⟨h1,h2⟩:=iU hi
  have hlt:i<all.size:=by grind
  have ho:all[i]?=some o:=by simp_all
  rw[kZ,DB hlt]
  cases hw:tF o.guard all tm with
  | none=>exact trivial
  | some wn=>
   have hwn:=ht.wanted (all:=all) hw
   cases wn with
   | false=>
    refine pD.of_steps (.one (Ue ho hwn)) (fun _ _ h=>h) (Below.refl N w) ?_
    rw[Ei];have t:=ht.put (ds:=ds) (dst:=o.dst) Lz
    exact ih (i+1) _ _ _ _ _ h2 hlt hI hH hcs (hR.slots t.1) t hk
   | true=>
    have hop:=zbl hS.tys hS.base hS.fns hS.prims hH hI (ht.erel (ds:=ds) hH.glob) o
    simp only[];generalize hr:(rE o.op).f C (.now tm) H=r at hop
    have hdef:(∃c,o.op=.defer c)->r=.fail\/∃d,r=.defer d:=fun h=>by grind [LQ]
    have hfr:lI C μ acs.length none ⟨.ops all (o::rest)::k,tm,R⟩ (b.atR ⟨tmps,ds⟩ (.inRegion all (i::(List.range all.size).drop (i+1))::k')):=by
     refine⟨hR.todo,?_⟩
     rw[yab hR.running,<- DB hlt,hi];exact .plain (.cons (.ops all i hle) hk) ht
    cases hv:r.asVal with
    | none=>grind [LU]
    | some p=>
     have:r=.val p.1 p.2:=by cases r<;>simp[iI.asVal]at hv;rw[<- hv]
     subst this;simp only[];have hd:∀c,o.op≠.defer c:=fun c e=>by
      rcases hdef ⟨c,e⟩with h | ⟨d,h⟩<;>cases h
     rcases hop with h | ⟨f,args',h3,h4⟩
     ·obtain⟨v',w',μ',s,hm,hH',hb,hv⟩:=Rn (b:=b) (k':=k') (rest:=(List.range all.size).drop (i+1)) (cs:=cs++base) ho hwn hd h
      refine pD.of_steps (.one s) hm.f hb ?_
      have t:=(ht.mono hm).put (ds:=ds) (dst:=o.dst) hv
      exact ih (i+1) _ _ _ _ _ h2 hlt (hS.inv _ _ hb hI) hH' (hcs.mono hm) ((hR.mono hm).slots t.1) t (hk.mono fun _ _ r=>r.mono hm)
     ·obtain⟨v',w',s,μ',hm,hH',hb,hv⟩:=KZ (b:=b) (k':=k') (rest:=(List.range all.size).drop (i+1)) (cs:=cs++base) (R:=fun v' w'=>∃ μ',μ.le μ'/\wB B N μ' p.2 w'/\Below N w w'/\uA μ' p.1 v') ho hwn hd h3 (h4.mono fun e w' hh=>by simp_all)
      refine pD.of_steps s hm.f hb ?_
      have t:=(ht.mono hm).put (ds:=ds) (dst:=o.dst) hv
      exact ih (i+1) _ _ _ _ _ h2 hlt (hS.inv _ _ hb hI) hH' (hcs.mono hm) ((hR.mono hm).slots t.1) t (hk.mono fun _ _ r=>r.mono hm)
theorem VC(hS:vJ P C B N I)(hI:I w)(hH:wB B N μ H w)(hcs:mF C μ acs cs)(hR:pG μ R (b.atR ⟨tmps,ds⟩ []))(hk:uD (gF μ) k k'){olds:List (Nat × List Nat)}{anc:Tr Nat}{old:Tm}{D:Nat}{S:Nat->Bool}{order:List Nat}{st:iE}{stages:List iE}{o:Oper}
  (hr:rF μ all olds anc R.n old tm D S order tmps) (hst:pI all.toList anc (st::stages) D=true) (hp:gG C μ acs.length H all olds R.n old tm D S) (ho:all[st.heavy]?=some o) :
  pD P C B N μ base (lone (b.atR ⟨tmps,ds⟩ (.inRegion all order::k')) (cs++base) w) w (Ll all old olds st stages o C k tm R acs H):=by
 have hlt:st.heavy<=all.size:=Nat.le_of_lt (ybe.1 ho).1
 obtain⟨S',order',tmps',μ',w',s,g,r1,p1⟩:=reach (b:=b) (k:=k') (cs:=cs++base) (ds:=ds) hS.tys hst hlt order S tmps μ w hH hr hp
 refine pD.of_steps s g.le g.below ?_
 replace hI:=hS.inv _ _ g.below hI
 replace hH:=g.heap
 replace hcs:=hcs.monoD fun d hd=>g.pd d (by omega)
 replace hR:=hR.mono g.le
 replace hk:uD (gF μ') k k':=hk.mono fun _ _ r=>r.mono g.le
 unfold Ll
 cases hw:tF o.guard all tm with
 | none=>exact trivial
 | some wn=>
  obtain⟨o',ho',hS',hb',_⟩:=r1.sched
  rw[ho]at ho';cases ho'
  have hwn:=r1.wanted ho hb' hw
  have hfr:lI C μ' acs.length none ⟨.reg all old olds (st::stages)::k,tm,R⟩ (b.atR ⟨tmps',ds⟩ (.inRegion all (st.heavy::order')::k')):=by
   refine⟨(hR.slots r1.size).todo,?_⟩
   rw[yab hR.running];exact .wait r1 hst hlt (toWeak hst hlt r1 p1) hk
  cases wn with
  | false=>
   refine Vd (H:=H) hfr hcs μ'.le_refl hH (Below.refl N w') Lz ?_
   rw[Frame.finish_atR,ho,yai];exact .one (Ue ho hwn)
  | true=>
   have hop:=zbl hS.tys hS.base hS.fns hS.prims hH hI (r1.erel (ds:=ds) hH.glob ho hS' hb') o
   exact LU hS hH hcs hfr ho hwn (fun h=>LQ h _ _ _) hop
theorem VS(hS:vJ P C B N I)(hH:wB B N μ H w)(hcs:mF C μ acs cs)(hR:pG μ R (b.atR ⟨tmps,ds⟩ []))(hk:uD (gF μ) k k'){olds:List (Nat × List Nat)}{anc:Tr Nat}{old:Tm}{D:Nat}{S:Nat->Bool}{order:List Nat}{st:iE}{stages:List iE}
  (hr:rF μ all olds anc R.n old tm D S order tmps) (hst:pI all.toList anc (st::stages) D=true) (hp:gG C μ acs.length H all olds R.n old tm D S) (hlt:all.size<st.heavy) (hle2:st.heavy<=all.size+all.size) :
  pD P C B N μ base (lone (b.atR ⟨tmps,ds⟩ (.inRegion all order::k')) (cs++base) w) w (Ln all old olds st stages (st.heavy-(all.size+1)) C k tm R acs H):=by
 obtain⟨o,D1,D2,ho,hf,h1,h2,h3⟩:=SM hst hlt hle2
 generalize st.heavy-(all.size+1)=i at *
 obtain⟨o',ho',hi,hb,hD1⟩:=Jb h1
 rw[ho]at ho';cases ho'
 unfold Ln;generalize hx:(ob (fC all.toList i) fun o=>ob (tF o.guard all tm) fun w=>yB (w&&jD (jX C o.op)) (ob ((rE o.op).f C (.mixed tm old (eE i olds) (cG o.op)) H).asVal fun p=>
  ob (rQ C p.2 all R.n old olds st.lights (putA R.n tm o.dst p.1)) fun tm'=>some (⟨⟨.reg all old olds stages::k,tm',R⟩,acs,p.2⟩:iP)))=x
 cases x with
 | none=>exact trivial
 | some x=>
  simp only[tA,xB,zG,ybb]at hx;obtain⟨o',ho',wn,hw,⟨hwn,hlo⟩,p,hv,tm',hl,hx⟩:=hx
  have hlo:jX C o'.op=none:=by
   cases hx:jX C o'.op with
   | none=>rfl
   | some _=>rw[hx]at hlo;cases hlo
  have:o'=o:=by
   simp_all
  subst this;subst hwn
  cases hx;have hop:(rE o'.op).f C (vQ tm old olds i o') H=.val p.1 p.2:=by
   show(rE o'.op).f C (.mixed tm old (eE i olds) (cG o'.op)) H=_
   generalize (rE o'.op).f C (.mixed tm old (eE i olds) (cG o'.op)) H=r at hv
   cases r<;>simp[iI.asVal]at hv
   rw[<- hv]
  obtain⟨l,hl2⟩:∃l,p.2=dE H l none:=VT hf hlo hop
  have hH':wB B N (μ.wait H.next (.cells (Tr.ofList l) (bA l) none,acs.length,i)) p.2 w:=by rw[hl2];exact hH.early
  have hle:μ.lw (μ.wait H.next (.cells (Tr.ofList l) (bA l) none,acs.length,i)):=fun _ _ h=>h
  have hpd:∀d,μ.ln d (μ.wait H.next (.cells (Tr.ofList l) (bA l) none,acs.length,i)):=fun d=>⟨hle,fun a x j ha=>by
   show(if a=H.next then _ else μ.pd a)=_
   rw[yaa]
   ·exact ha
   ·intro e
    have:=(hH.pnd _ _ _ ha).2.1
    rw[e,(hH.fresh _ (ybk _)).2]at this
    cases this⟩
  have hgrow:HM.HLe H p.2:=by
   intro b y hb;rw[hl2];show(H.t.set H.next _).get b=some y
   rw[Tr.get_set,yaa]
   ·exact hb
   ·intro e
    rw[e,(hH.fresh _ (ybk _)).2]at hb
    cases hb
  have r1:=(hr.light (v:=p.1) ho hi hb hD1).mono hle
  have p1:gG C (μ.wait H.next (.cells (Tr.ofList l) (bA l) none,acs.length,i)) acs.length p.2 all olds R.n old (putA R.n tm o'.dst p.1) D1 S:=by
   intro j hj hSj;rw[hD1]at hj;simp only[ycq,beq_iff_eq]at hj;rcases hj with hj | rfl
   ·rcases hp j hj hSj with⟨u,wu,vu,pu⟩ | ⟨u,vu,pu⟩
    ·exact .inl ⟨u,wu,vu,(pu.keep hr.reg hr.dclosed hj ho hi).grow hgrow⟩
    ·exact .inr ⟨u,vu,(pu.keep hr.reg hr.dclosed hj ho hi).mono (hpd _)⟩
   ·refine .inr ⟨o',p.1,xV.fresh hr.reg hr.dclosed ho hb hi hf hlo hw ⟨H,l,by rw[hop,hl2],?_⟩⟩
    show(if H.next=H.next then _ else μ.pd H.next)=_
    rw[yab rfl]
  obtain⟨r2,p2⟩:=Pb _ _ _ hl h2 r1 p1
  exact⟨_,_,cs,w,.refl _ _,hle,Below.refl N w,hH',⟨(hR.mono hle).todo,by rw[yab hR.running];exact .reg r2 h3 p2 (hk.mono fun _ _ r=>r.mono hle)⟩,hcs.monoD fun d _=>hpd d⟩
theorem Wi{α β:Type}{f:α->Option β}(d:β):∀ {l:List α} {r:List β},lG f l=some r->(∀x∈l,f x=some ((f x).getD d))/\r=l.map fun x=>(f x).getD d
 | [],r,h=>by grind [Ck]
 | a::l,r,h=>by
  rw[zP,tA]at h;obtain⟨v,hv,h⟩:=h
  rw[tA]at h;obtain⟨m,hm,h⟩:=h
  cases h;obtain⟨h1,h2⟩:=Wi d hm
  grind
theorem VN(hS:vJ P C B N I)(hH:wB B N μ H w)(hcs:mF C μ acs cs)(hR:pG μ R (b.atR ⟨tmps,ds⟩ []))(hk:uD (gF μ) k k'){olds:List (Nat × List Nat)}{anc:Tr Nat}{old:Tm}{D:Nat}{S:Nat->Bool}{order:List Nat}{st:iE}{stages:List iE}
  (hr:rF μ all olds anc R.n old tm D S order tmps) (hst:pI all.toList anc (st::stages) D=true) (hp:gG C μ acs.length H all olds R.n old tm D S) (hlt:all.size+all.size<st.heavy) :
  pD P C B N μ base (lone (b.atR ⟨tmps,ds⟩ (.inRegion all order::k')) (cs++base) w) w (Lm all old olds st stages C k tm R acs H):=by
 obtain⟨D1,D2,hG,h2,h3⟩:=SL hst hlt
 unfold Lm;generalize hx:(yB (iV C all) (ob (Fl all old olds tm st.again) fun es=>ob (tY C es H) fun H'=>ob (rQ C H' all R.n old olds st.lights tm) fun tm'=>some (⟨⟨.reg all old olds stages::k,tm',R⟩,acs,H'⟩:iP)))=x
 cases x with
 | none=>exact trivial
 | some x=>
  simp only[tA,xB]at hx;obtain⟨hlen,es,he,H1,hg,tm',hl,hx⟩:=hx
  cases hx;unfold tY at hg;simp only[tA,xB,ybb]at hg;obtain⟨rs,hrs,⟨hap,hrd⟩,hg⟩:=hg
  obtain⟨e1,e2⟩:=Wi (mL.store 0 .nilptr .nilptr) he
  obtain⟨e3,e4⟩:=Wi (RE.st 0 0 []) hrs
  have hef:∀i∈st.again,xW all old olds tm i=some ((xW all old olds tm i).getD (mL.store 0 .nilptr .nilptr))/\cT C ((xW all old olds tm i).getD (mL.store 0 .nilptr .nilptr))=some ((cT C ((xW all old olds tm i).getD (mL.store 0 .nilptr .nilptr))).getD (RE.st 0 0 [])):=
   fun i hi=>⟨e1 i hi,e3 _ (by grind)⟩
  generalize hE:(fun i=>(xW all old olds tm i).getD (mL.store 0 .nilptr .nilptr))=ef at e2
  have hef:∀i∈st.again,xW all old olds tm i=some (ef i)/\cT C (ef i)=some ((fun i=>(cT C (ef i)).getD (RE.st 0 0 [])) i):=by
   grind
  have hrs':rs=st.again.map fun i=>(cT C (ef i)).getD (RE.st 0 0 []):=by rw[e4,e2,List.map_map];rfl
  generalize (fun i=>(cT C (ef i)).getD (RE.st 0 0 []))=re at hef hrs'
  subst hrs'
  have hap:=LP hap
  have hrd:∀i∈st.again,Ld C H (re i):=by
   grind [dH,RF]
  have hd1:xM C H (st.again.map re) H1:=by
   have:=xM.list xM.nil (l:=st.again.map re) (fun e he=>by grind) (by grind) hg
   rwa [yah]at this
  obtain⟨S',order',tmps',μ',w',seq,Hs,s1,b1,l1,d1,pm,dn,hm,hH',r1,p1,hin⟩:=zac (b:=b) (k:=k') (cs:=cs++base) (ds:=ds) (H:=H) hS.tys hS.base hG hlen hef hap hrd order S tmps μ w [] H D List.nodup_nil (fun i hi=>by cases hi) xM.nil (fun i hi=>by cases hi) (fun k=>by simp) hH hr hp
  have hapS:(seq.map re).Pairwise eQ:=((pm.map re).symm.pairwise_iff (fun h=>eQ.symm h)).1 hap
  have heq:HEq' μ' Hs H1:=dn.perm hd1 (pm.map re) hapS fun e he=>by grind
  have hH1:=hH'.congr' heq
  have p2:gG C μ' acs.length H1 all olds R.n old tm D1 S':=by
   cases hG0:st.again with
   | nil=>
    rw[hG0]at pm hd1;have hs0:seq=[]:=List.Perm.eq_nil pm
    subst hs0;have hle:HM.HLe Hs H1:=fun a y hy=>by rw[hd1.no a (fun e he=>by cases he),<- dn.no a (fun e he=>by cases he)];exact hy
    intro j hj hSj;rcases p1 j hj hSj with⟨u,wu,vu,pu⟩ | h
    ·exact .inl ⟨u,wu,vu,pu.grow hle⟩
    grind
   | cons g l=>
    have hg:g∈st.again:=by grind
    have hSg:S' g=true:=hin g (pm.mem_iff.2 hg)
    obtain⟨o,ho,_⟩:=hG.op g hg
    refine DS hG hlen (seq:=st.again) hG.done (fun i hi=>hin i (pm.mem_iff.2 hi)) hg (fun k hk=>r1.reg.up r1.closed ho (fun j hj=>r1.closed g o ho hSg j hj) hk) p1 H1
  obtain⟨r2,p3⟩:=Pb _ _ _ hl h2 r1 p2
  exact⟨_,_,cs,w',s1,l1,b1,hH1,⟨((hR.mono l1).slots r1.size).todo,by rw[yab hR.running];exact .reg r2 h3 p3 (hk.mono fun _ _ r=>r.mono l1)⟩,hcs.monoD fun d hd=>d1 d (by omega)⟩
end
end Go.Am
namespace Go.Am
open Go Go.RowKit
section
variable {P:Program}{C:rA}{B N:Nat}{I:World->Prop}{μ ν:Mu}{H H':xA}{w:World}{tm:Tm}{R:kI}{acs:List pB}{base cs:List Frame}
variable {b:Frame}{tmps:Array Value}{ds:List Deferred}{k:List mD}{k':List Item}{all:Array Oper}
theorem za4(hH:wB B N μ H w)(hcs:mF C μ acs cs)(hR:pG μ R (b.atR ⟨tmps,ds⟩ []))(ht:lE μ R.n tm tmps)(hk:uD (gF μ) k k') :
  pD P C B N μ base (lone (b.atR ⟨tmps,ds⟩ (.beginRound::k')) (cs++base) w) w (Gw C k tm R acs H):=by
 unfold Gw
 cases hr:R.roundOf with
 | none=>exact trivial
 | some l=>
  obtain⟨i,hi,hb⟩:∃i,μ l=some i/\b.roundOf=some i.b:=by
   have:=hR.round
   rw[hr]at this;exact Ur this
  rw[qA]
  cases hx:eH H l with
  | none=>exact trivial
  | some r=>
   rw[qA]
   cases hst:Nat.beq (LoopState.tag r.state) 0 with
   | false=>exact trivial
   | true=>
    obtain⟨hl,r',hg,hw,rel⟩:=Jk hH hx hi
    have ready:r'.state=.ready:=by
     rw[rel.state]
     cases hs:r.state<;>rw[hs]at hst<;>first | rfl | grind [LoopState.tag,Nat.beq]
    have run:(Instr.beginRound i.b).run P w=.ok () (World.setBlk w i.b (.loop { r' with state:=.busy })):=by
     simp_all [Instr.beginRound,Ie,Ea]
    refine⟨μ,_,cs,_,.one (stepR_beginRound hb run),fun _ _ h=>h,qW (hH.own l i hl hi).1,?_,⟨?_,?_⟩,hcs⟩
    ·refine hH.upd hg hi hl ?_
     rw[yI];exact⟨_,rfl,rfl,rel.pending,rel.fn,rel.tm,rel.params,rel.assign,rel.body,rel.defers⟩
    ·refine⟨hR.fn,hR.size,hR.defers,hR.mode,hR.kind,?_⟩
     exact hR.round
    ·show if R.mode.running=true then wM C μ acs.length R.n _ k tm k' tmps else lE μ R.n tm tmps
     rw[yab hR.running];exact .plain hk ht
theorem OU{l:Nat}{jump:Option Code}{w':World}{cs:List Frame}(hr:(Instr.endLoop l).run P w=.ok jump w') :
  step P (lone (b.atR ⟨tmps,ds⟩ (.endRangeFunc l::k')) cs w)=.next (lone (b.atR ⟨tmps,ds⟩ ((jump.map Item.code).toList++k')) cs w'):=
 step_lone_go (by simp_all [stepG,stepG.exec,Frame.atR])
theorem WQ(hH:wB B N μ H w)(hcs:mF C μ acs cs)(hR:pG μ R (b.atR ⟨tmps,ds⟩ []))(ht:lE μ R.n tm tmps)(hk:uD (gF μ) k k'){l:Nat}{i:BI}(hi:μ l=some i) :
  pD P C B N μ base (lone (b.atR ⟨tmps,ds⟩ (.endRangeFunc i.b::k')) (cs++base) w) w (Gt l C k tm R acs H):=by
 unfold Gt
 cases hx:eH H l with
 | none=>exact trivial
 | some r=>
  rw[qA]
  cases hst:Nat.beq (LoopState.tag r.state) 1 with
  | true=>exact trivial
  | false=>
   obtain⟨hl,r',hg,hw,rel⟩:=Jk hH hx hi
   have busy:r'.state≠.busy:=by
    intro e;rw[rel.state]at e;rw[e]at hst
    cases hst
   have run:(Instr.endLoop i.b).run P w=.ok r'.pending (World.setBlk w i.b (.loop { r' with state:=.exhausted })):=by
    simp_all [Instr.endLoop,Ie,Ea]
   refine⟨μ,_,cs,_,.one (OU run),fun _ _ h=>h,qW (hH.own l i hl hi).1,?_,⟨?_,?_⟩,hcs⟩
   ·refine hH.upd hg hi hl ?_
    rw[yI];exact⟨_,rfl,rfl,rel.pending,rel.fn,rel.tm,rel.params,rel.assign,rel.body,rel.defers⟩
   ·exact⟨hR.fn,hR.size,hR.defers,hR.mode,hR.kind,hR.round⟩
   ·show if R.mode.running=true then wM C μ acs.length R.n _ (match r.pending with | some c=>.code c::k | none=>k) tm ((r'.pending.map Item.code).toList++k') tmps else lE μ R.n tm tmps
    rw[yab hR.running,rel.pending]
    cases r.pending with
    | none=>exact .plain hk ht
    | some c=>exact .plain (.cons (.code c) hk) ht
theorem BM{f:Operand}{params:Array Nat}{assign body:Code}{l:Nat}{mark:List Deferred}{w1:World}{g:Nat}{args':Array Value}{cs:List Frame}
  (hE:(Instr.enterLoop b.fn tmps params assign body b.roundOf).run P w=.ok (l,mark) w1)
  (hA:(do let d <- resolve (Act.eval ⟨tmps,ds⟩) { callee:=.value f,args := #[.const (.func (.yield l) #[] #[])],argTypes := #[] } 0;invoke d.target d.args:Sem Next).run P w1=.ok (.enter g args') w1) :
  step P (lone (b.atR ⟨tmps,ds⟩ (.code (.rangeFunc f params assign body)::k')) cs w)=.next (lone (Frame.enter P g args' .normal) (b.atR ⟨tmps,mark++ds⟩ (.inRangeFunc l::k')::cs) w1):=by
 refine step_lone_go ?_
 have he:(Frame.eval { b.atR ⟨tmps,ds⟩ (.code (.rangeFunc f params assign body)::k')with todo:=.inRangeFunc l::k',defers:=mark++ds })=Act.eval ⟨tmps,ds⟩:=funext fun x=>by cases x<;>rfl
 simp_all [Frame.atR,stepG,stepG.exec,stepG.apply]
theorem RL{l:Nat}{v:zA}{h:pB}(e:wX C l v=some h):∃g first cap,v=.func (.func g) first cap/\C.prims.get g=none/\eI C g (qD first (.func (.yld l) [] []::cap)) false=some h:=by
 grind [wX,tA,LM]
theorem DC{dp:Nat}(hS:vJ P C B N I){l:Nat}{i:BI}{v:zA}{h:pB}(e:wX C l v=some h)(hi:μ l=some i){f:Operand}(hv:uA μ v (Act.eval ⟨tmps,ds⟩ f)){cur:Option xA} :
  ∃g args',(∀w,(do let d <- resolve (Act.eval ⟨tmps,ds⟩) { callee:=.value f,args := #[.const (.func (.yield i.b) #[] #[])],argTypes := #[] } 0;invoke d.target d.args:Sem Next).run P w=.ok (.enter g args') w) ∧
   lI C μ dp cur h (Frame.enter P g args' .normal):=by
 obtain⟨g,first,cap,rfl,hp,he⟩:=RL e
 rw[uA]at hv;obtain⟨fn,a',c',hv,hf,h1,h2⟩:=hv
 cases hf;have hl:rB μ (qD first (.func (.yld l) [] []::cap)) (a' ++ #[Value.func (.yield i.b) #[] #[]]++c').toList:=by
  rw[xG];have:rB μ (zA.func (.yld l) [] []::cap) (Value.func (.yield i.b) #[] #[]::c'.toList):=.cons (by rw[uA];exact⟨_,_,_,rfl,⟨i,hi,rfl⟩,.nil,.nil⟩) h2
  simpa using h1.append this
 obtain⟨fr,fn,hfn,hb⟩:=Ko (cur:=cur) hS.fns he hl
 refine⟨g,_,fun w=>?_,fr⟩
 simp only[yad,resolve,hv,Deferred.ofValue,yae,yac,invoke];have:Array.map (Act.eval ⟨tmps,ds⟩) #[Operand.const (Value.func (.yield i.b) #[] #[])] = #[Value.func (.yield i.b) #[] #[]]:=by simp[Act.eval]
 rw[this];exact Ni hS.fns hfn hb
theorem RH(hS:vJ P C B N I)(hH:wB B N μ H w)(hcs:mF C μ acs cs)(hR:pG μ R (b.atR ⟨tmps,ds⟩ []))(ht:lE μ R.n tm tmps)(hk:uD (gF μ) k k'){f:Operand}{params:Array Nat}{assign body:Code} :
  pD P C B N μ base (lone (b.atR ⟨tmps,ds⟩ (.code (.rangeFunc f params assign body)::k')) (cs++base) w) w (Gr f params assign body C k tm R acs H):=by
 unfold Gr
 cases hv:ev f (.now tm)with
 | none=>exact trivial
 | some v=>
  have hvr:=ht.erel (ds:=ds) hH.glob f _ hv
  rw[qA]
  cases hr:R.roundOf with
  | none=>
   have hb:b.roundOf=none:=by
    have:=hR.round
    rw[hr]at this;exact CT this
   simp only[]
   cases hx:wX C (H.next+1) v with
   | none=>exact trivial
   | some h=>
    have h1:=hH.newBlk (x:=.deferred (some [])) (o:=.deferred (some [])) (i:=⟨w.heap.size,true,0,0,false⟩) rfl rfl (by rw[yI];exact⟨_,rfl,.nil⟩)
    have le1:μ.le (μ.ext H.next ⟨w.heap.size,true,0,0,false⟩):=hH.ext_le
    have le2:(μ.ext H.next ⟨w.heap.size,true,0,0,false⟩).le ((μ.ext H.next ⟨w.heap.size,true,0,0,false⟩).ext (newBlk H (.deferred (some []))).next ⟨w.heap.size+1,true,0,0,false⟩):=h1.ext_le
    have sz:(w.alloc (.deferred (some []))).heap.size=w.heap.size+1:=Array.size_push ..
    have h2:=h1.newBlk (x:=.loop ⟨.ready,none,R.fn,R.n,tm,params.toList,assign,body,H.next⟩) (o:=.loop { state:=.ready,pending:=none,fn:=b.fn,tmps,params,assign,body,defers:=w.heap.size })
     (i:=⟨w.heap.size+1,true,0,0,false⟩) sz.symm rfl (by
      rw[yI];exact⟨_,rfl,rfl,rfl,hR.fn,(ht.mono le1.f).mono le2.f,rfl,rfl,rfl,⟨_,le2 _ _ Mu.ext_same,rfl⟩⟩)
    have le:=Mu.le_trans le1 le2
    have hi2:((μ.ext H.next ⟨w.heap.size,true,0,0,false⟩).ext (newBlk H (.deferred (some []))).next ⟨w.heap.size+1,true,0,0,false⟩) (H.next+1)=some ⟨w.heap.size+1,true,0,0,false⟩:=Mu.ext_same
    obtain⟨g,args',hA,hfr⟩:=DC (ds:=ds) hS hx hi2 (hvr.mono le.f _ _) (cur:=some (newBlk (newBlk H (.deferred (some []))) (.loop ⟨.ready,none,R.fn,R.n,tm,params.toList,assign,body,H.next⟩)))
    have run:(Instr.enterLoop b.fn tmps params assign body b.roundOf).run P w=.ok (w.heap.size+1,[{ target:=.collected w.heap.size,args := #[] }]) ((w.alloc (.deferred (some []))).alloc (.loop { state:=.ready,pending:=none,fn:=b.fn,tmps,params,assign,body,defers:=w.heap.size })):=by
     simp_all [Instr.enterLoop]
    refine⟨_,_,b.atR ⟨tmps,{ target:=.collected w.heap.size,args := #[] }::ds⟩ (.inRangeFunc (w.heap.size+1)::k')::cs,_,.one (BM run (hA _)),le,?_,h2,hfr,.cons ⟨?_,?_⟩ (hcs.mono le)⟩
    ·refine(jQ hH.size _).trans (jQ ?_ _)
     rw[sz];have:=hH.size;omega
    ·have:=hR.mono le.f
     exact⟨this.fn,this.size,.cons ⟨⟨_,le2 _ _ Mu.ext_same,rfl⟩⟩ this.defers,this.mode,this.kind,by have:=this.round;rw[hr]at this;exact this⟩
    ·show if R.mode.running=true then wM C _ acs.length R.n none (.inRange (H.next+1)::k) tm (.inRangeFunc (w.heap.size+1)::k') tmps else _
     rw[yab hR.running];exact .plain (.cons (.inRange _ ⟨w.heap.size+1,true,0,0,false⟩ hi2) (hk.mono fun _ _ r=>r.mono le.f)) (ht.mono le.f)
  | some outer=>
   obtain⟨io,hio,hb⟩:∃i,μ outer=some i/\b.roundOf=some i.b:=by
    have:=hR.round
    rw[hr]at this;exact Ur this
   simp only[]
   cases hlo:eH H outer with
   | none=>exact trivial
   | some o=>
    rw[qA]
    cases hx:wX C H.next v with
    | none=>exact trivial
    | some h=>
     obtain⟨hl,r',hg,hw,rel⟩:=Jk hH hlo hio
     obtain⟨idf,hdf,hdf'⟩:=rel.defers
     have le:μ.le (μ.ext H.next ⟨w.heap.size,true,0,0,false⟩):=hH.ext_le
     have h2:=hH.newBlk (x:=.loop ⟨.ready,none,R.fn,R.n,tm,params.toList,assign,body,o.defers⟩) (o:=.loop { state:=.ready,pending:=none,fn:=b.fn,tmps,params,assign,body,defers:=r'.defers })
      (i:=⟨w.heap.size,true,0,0,false⟩) rfl rfl (by
       rw[yI];exact⟨_,rfl,rfl,rfl,hR.fn,ht.mono le,rfl,rfl,rfl,⟨idf,le _ _ hdf,hdf'⟩⟩)
     have hi2:(μ.ext H.next ⟨w.heap.size,true,0,0,false⟩) H.next=some ⟨w.heap.size,true,0,0,false⟩:=Mu.ext_same
     obtain⟨g,args',hA,hfr⟩:=DC (ds:=ds) hS hx hi2 (hvr.mono le.f _ _) (cur:=some (newBlk H (.loop ⟨.ready,none,R.fn,R.n,tm,params.toList,assign,body,o.defers⟩)))
     have run:(Instr.enterLoop b.fn tmps params assign body b.roundOf).run P w=.ok (w.heap.size,[]) (w.alloc (.loop { state:=.ready,pending:=none,fn:=b.fn,tmps,params,assign,body,defers:=r'.defers })):=by
      simp_all [Instr.enterLoop,Ie]
     refine⟨_,_,b.atR ⟨tmps,ds⟩ (.inRangeFunc w.heap.size::k')::cs,_,.one (BM run (hA _)),le,jQ hH.size _,h2,hfr,.cons ⟨?_,?_⟩ (hcs.mono le)⟩
     ·have:=hR.mono le.f
      exact⟨this.fn,this.size,this.defers,this.mode,this.kind,this.round⟩
     ·show if R.mode.running=true then wM C _ acs.length R.n none (.inRange H.next::k) tm (.inRangeFunc w.heap.size::k') tmps else _
      rw[yab hR.running];exact .plain (.cons (.inRange _ ⟨w.heap.size,true,0,0,false⟩ hi2) (hk.mono fun _ _ r=>r.mono le.f)) (ht.mono le.f)
theorem OP{c:Code}:step P (lone (b.atR ⟨tmps,ds⟩ (.code (.scope c)::k')) cs w)=.next (lone (b.atR ⟨tmps,ds⟩ (.code c::.inScope c::k')) cs w):=
 step_lone_go (by simp[stepG,stepG.exec,Frame.atR])
theorem OT{c:Code}:step P (lone (b.atR ⟨tmps,ds⟩ (.inScope c::k')) cs w)=.next (lone (b.atR ⟨tmps,ds⟩ k') cs w):=
 step_lone_go (by simp[stepG,stepG.exec,Frame.atR])
theorem zd3(hS:vJ P C B N I)(hI:I w)(hH:wB B N μ H w)(hcs:mF C μ acs cs)(hR:pG μ R (b.atR ⟨tmps,ds⟩ []))(ht:lE μ R.n tm tmps):∀(c:Code) {k:List mD} {k':List Item},uD (gF μ) k k' →
  pD P C B N μ base (lone (b.atR ⟨tmps,ds⟩ (.code c::k')) (cs++base) w) w ((Rk c).f C k tm R acs H):=by
 intro c;induction c with
 | skip=>intro k k' hk;exact Np hH hcs hR ht hk stepR_skip
 | region id ops d=>
  intro k k' hk
  cases d with
  | true=>exact zds hS hH hcs hR ht hk
  | false=>
   refine pD.of_steps (.one stepR_region) (fun _ _ h=>h) (Below.refl N w) ?_
   have:=CS (base:=base) (all:=ops) hS ops.toList 0 tm.cut H w μ tmps (by simp) (yaw _) hI hH hcs hR ht.cut hk
   rw[ycr]at this;exact this
 | seq x y ihx _=>
  intro k k' hk;exact pD.of_steps (.one stepR_seq) (fun _ _ h=>h) (Below.refl N w) (ihx (.cons (.code y) hk))
 | cond c x y _ _=>intro k k' hk;exact zd0 hH hcs hR ht hk
 | block id c _=>intro k k' hk;exact za2 hH hcs hR ht hk
 | loop c _=>intro k k' hk;exact zcl hH hcs hR ht hk
 | rangeFunc f ps a c _ _=>intro k k' hk;exact RH hS hH hcs hR ht hk
 | exit id=>intro k k' hk;exact zdk hH hcs hR ht hk
 | scope c _=>intro k k' hk;exact sX hH hcs hR ht (.cons (.code _) (.cons (.inScope _) hk)) (.one OP)
 | label l=>intro k k' hk;exact Np hH hcs hR ht hk stepR_label
 | goto l=>intro k k' _;exact trivial
 | ret=>intro k k' _;exact ret_ok hH hcs hR ht
 | refuse s=>intro k k' _;exact trivial
theorem zdl(hS:vJ P C B N I)(hI:I w)(hH:wB B N μ H w)(hcs:mF C μ acs cs)(hR:pG μ R (b.atR ⟨tmps,ds⟩ [])){todo:List mD}{btodo:List Item}(hb:wM C μ acs.length R.n (some H) todo tm btodo tmps) :
  pD P C B N μ base (lone (b.atR ⟨tmps,ds⟩ btodo) (cs++base) w) w (lQ C todo tm R acs H):=by
 generalize hc:some H=cur at hb
 cases hb with
 | plain a t=>
  cases a with
  | nil=>exact Yb hH hcs hR t
  | cons i hk=>
   cases i with
   | code c=>exact zd3 hS hI hH hcs hR t c hk
   | inBlock id=>exact Np hH hcs hR t hk stepR_inBlock
   | inLoop c=>exact sX hH hcs hR t (.cons (.code _) (.cons (.inLoop _) hk)) (.one stepR_inLoop)
   | inScope c=>exact Np hH hcs hR t hk OT
   | ops all i hi=>exact CS hS _ i _ _ _ _ _ rfl hi hI hH hcs hR t hk
   | inRange l i hl=>exact trivial
   | endRange l i hl=>exact WQ hH hcs hR t hk hl
   | beginRound=>exact za4 hH hcs hR t hk
 | @reg _ all old _ olds stages _ order _ _ anc D S hr hst hp hk=>
  cases hc;show pD P C B N μ base _ w (cQ all old olds stages C _ tm R acs H)
  unfold cQ
  cases stages with
  | nil=>grind [QX]
  | cons st stages=>
   by_cases hlt:st.heavy<=all.size
   ·obtain⟨_,_,D1,D2,h1,_⟩:=Nw hst hlt
    obtain⟨o,ho,_⟩:=Jb h1
    have:fC all.toList st.heavy=some o:=by grind [zG]
    simp only[this];grind [VC]
   ·have:fC all.toList st.heavy=none:=by grind [zG]
    simp only[this];grind [vC,sD,VN,VS]
 | @mid _ all old _ olds lights again stages _ order _ _ anc D D2 S hr h1 h2 hw hk=>
  show pD P C B N μ base _ w (cQ all old olds (⟨all.size,lights,again⟩::stages) C _ tm R acs H)
  unfold cQ;have:fC all.toList all.size=none:=by rw[zG];simp
  simp only[this];grind [vC,sD,TX]
 | wait _ _ _ _ _=>cases hc
end
end Go.Am
namespace Go.Am
open Go Go.RowKit
section
variable {P:Program}{C:rA}{B N:Nat}{I:World->Prop}{μ ν:Mu}{H H':xA}{w:World}{tm:Tm}{R:kI}{acs:List pB}{base cs:List Frame}
variable {b:Frame}{tmps:Array Value}
theorem OM{block:Nat}{es calls:List Deferred}{w':World}(hm:b.mode≠.run)(hd:b.defers={ target:=.collected block,args := #[] }::es)(hr:(Instr.takeDeferred block).run P w=.ok calls w') :
  step P (lone b cs w)=.next (lone { b with defers:=calls++es } cs w'):=by
 obtain⟨fn,tmps,todo,defers,mode,kind,round⟩:=b
 simp only at hm hd
 subst hd;refine step_lone_go ?_
 simp_all [stepG,unwind]
theorem ON{f:Nat}{cap as:Array Value}{es:List Deferred}(hm:b.mode≠.run)(hd:b.defers={ target:=.fn (.func f) cap,args:=as }::es)(hr:(callFunc f (as++cap)).run P w=.ok (.enter f (as++cap)) w) :
  step P (lone b cs w)=.next (lone (Frame.enter P f (as++cap) .deferred) ({ b with defers:=es }::cs) w):=by
 obtain⟨fn,tmps,todo,defers,mode,kind,round⟩:=b
 simp only at hm hd
 subst hd;refine step_lone_go ?_
 simp_all [stepG,unwind,callDeferred,invoke]
def aY(c:Frame):Frame:=
 match c.mode with
 | .panicking ({ recovered:=true,.. }::older)=>
  match older.dropWhile (!·.goexit)with
  | []=>{ c with mode:=.returning }
  | rest=>{ c with mode:=.panicking rest }
 | _=>c
theorem OL{fn:Func}{v:Value}{c:Frame}(hm:b.mode=.returning)(hd:b.defers=[])(hk:b.kind=.deferred)(hf:P.funcs[b.fn]?=some fn)(hr:(results fn b.tmps).run P w=.ok v w) :
  step P (lone b (c::cs) w)=.next (lone (aY c) cs w):=by
 refine step_lone_go ?_
 simp only[stepG,unwind,doReturn,hm,hd,hk,hf,Sem.runT_eq,hr,GStep.bare_after];rfl
def Nl(tmps:Array Value)(r:ResultVar):Sem Value:=
 match r with
 | .tmp t=>pure (tmps.getD t undef)
 | .cell a t=>do loadVar t (<- asAddr (tmps.getD a undef))
theorem QO(fn:Func)(tmps:Array Value):results fn tmps=(do let vs <- fn.results.mapM (Nl tmps);pure (if h:vs.size=1 then vs[0]else .tuple vs)):=rfl
theorem QE(hT:zF P C)(hH:wB B N μ H w){n:Nat}(ht:lE μ n tm tmps):∀(rs:List ResultVar) (l:List zA),lG (zQ C H tm) rs=some l →
  ∃vs,(rs.mapM (Nl tmps)).run P w=.ok vs w/\rB μ l vs:=by
 intro rs;induction rs with
 | nil=>intro l h;rw[Ck]at h;cases h;exact⟨[],by simp_all,.nil⟩
 | cons r rs ih=>
  intro l h;rw[zP,tA]at h;obtain⟨a,ha,h⟩:=h
  rw[tA]at h;obtain⟨m,hm,h⟩:=h
  cases h;obtain⟨vs,h1,h2⟩:=ih m hm
  rw[List.mapM_cons]
  cases r with
  | tmp t=>
   refine⟨_,?_,.cons (ht.2 t a ha) h2⟩
   grind [Nl,Sem.run_bind,Sem.run_pure,Result.andThen_ok]
  | cell x t=>
   simp only[zQ,tA,Dd]at ha;obtain⟨p,⟨av,hav,rfl⟩,ty,hty,c,hc,hl⟩:=ha
   have hv:=ht.2 x _ hav
   rw[uA]at hv;obtain⟨i,hi,hv⟩:=hv
   obtain⟨v',h3,h4⟩:=FA (P:=P) hH (hT.facts hty) hc hi hl
   refine⟨_,?_,.cons h4 h2⟩
   grind [asAddr,Nl,Sem.run_bind,Sem.run_pure,Result.andThen_ok]
theorem CU(hT:zF P C)(hH:wB B N μ H w){n:Nat}(ht:lE μ n tm tmps){fn:Func}{l:List zA}(h:rS C H tm fn.results.toList=some l) :
  ∃v,(results fn tmps).run P w=.ok v w/\uA μ (Bt l) v:=by
 obtain⟨vs,h1,h2⟩:=QE hT hH ht _ _ h
 refine⟨if h:vs.toArray.size=1 then vs.toArray[0]else .tuple vs.toArray,?_,?_⟩
 ·grind [QO,Array.mapM_eq_mapM_toList,Sem.run_bind,map_eq_pure_bind,Result.andThen_ok,Sem.run_pure]
 ·have hl:=h2.length
  cases l with
  | nil=>
   rw[rB]at h2;subst h2;rw[dif_neg (by simp)]
   show uA μ (.tup []) _
   rw[uA];exact⟨_,rfl,.nil⟩
  | cons a m=>
   cases m with
   | nil=>
    rw[rB]at h2;obtain⟨v,r,rfl,hv,hr⟩:=h2
    rw[rB]at hr;subst hr;rw[dif_pos (by simp)]
    exact hv
   | cons a2 m=>
    rw[dif_neg (by simp[hl])]
    show uA μ (.tup (a::a2::m)) _
    grind [uA]
def DefRel(μ:Mu):Option (List jG)->Option (List Deferred)->Prop
 | none,none=>True
 | some a,some b=>uD (vZ μ) a b
 | _,_=>False
theorem XI(hH:wB B N μ H w){l:Nat}{x:Option (List jG)}(h:gU H l=some x){i:BI}(h4:μ l=some i):B<=l/\∃x',H.t.get l=some (.deferred x)/\w.heap[i.b]?=some (.deferred x')/\DefRel μ x x':=by
 unfold gU at h;rw[xB,qE,tA]at h;obtain⟨h1,y,h2,h3⟩:=h
 have:y=.deferred x:=by cases y<;>simp[vA.asDeferred]at h3;rw[h3]
 subst this;obtain⟨o,h5,h6⟩:=hH.blk l _ i h2 h4
 rw[yI]at h6;obtain⟨r',rfl,h7⟩:=h6
 refine⟨Nat.le_of_not_lt fun hlt=>?_,r',h2,h5,?_⟩
 ·have:=(hH.low l _ i hlt h2 h4).2.2
  cases this
 cases x<;>cases r'<;>exact h7
theorem TB{μ:Mu}{m:qT}{m':FrameMode}(h:Lg μ m m')(hm:m.running=false):m'≠.run:=by
 rintro rfl
 cases m<;>first | exact h.elim | cases hm
theorem NH(hS:vJ P C B N I)(hH:wB B N μ H w)(hcs:mF C μ acs cs){fr:pB}(hr:pG μ fr.R b)(hm:fr.R.mode.running=false)(ht:lE μ fr.R.n fr.tm b.tmps){d:jG}{l:List jG}(hd:fr.R.defers=d::l) :
  pD P C B N μ base (lone b (cs++base) w) w (Bs C d l fr acs H):=by
 have hrun:=TB hr.mode hm
 have hds:=hr.defers
 rw[hd]at hds;generalize hbd:b.defers=bd at hds
 cases hds with
 | @cons _ e _ es h1 h2=>
  obtain⟨dfn,dr,dargs⟩:=d
  have h1:=h1.rel
  unfold Bs
  cases dfn with
  | none=>
   obtain⟨i,hi,rfl⟩:=h1
   simp only[]
   cases hx:gU H dr with
   | none=>exact trivial
   | some x=>
    rw[qA]
    cases x with
    | none=>exact trivial
    | some calls=>
     obtain⟨hl,x',hg,hw,rel⟩:=XI hH hx hi
     cases x' with
     | none=>exact rel.elim
     | some calls'=>
      have run:(Instr.takeDeferred i.b).run P w=.ok calls' (World.setBlk w i.b (.deferred none)):=by
       simp_all [Ea,getObj,Sem.run,Instr.takeDeferred]
      refine⟨μ,_,cs,_,.one (OM hrun hbd run),fun _ _ h=>h,qW (hH.own dr i hl hi).1,?_,⟨?_,?_⟩,hcs⟩
      ·refine hH.upd hg hi hl ?_
       grind [yI]
      ·refine⟨hr.fn,hr.size,?_,hr.mode,hr.kind,hr.round⟩
       show uD (vZ μ) (qD calls l) (calls'++es)
       rw[xG];exact uD.append rel h2
      ·show if fr.R.mode.running=true then wM C _ _ _ _ _ _ _ _ else _
       rw[yaa (by grind)]
       exact ht
  | some fn=>
   cases fn with
   | yld m=>exact trivial
   | func f=>
    obtain⟨fn,cap,as,rfl,hfn,hl⟩:=h1
    cases hfn;simp only[]
    cases hp:C.prims.get f with
    | some x=>exact trivial
    | none=>
     simp only[]
     cases he:eI C f dargs true with
     | none=>exact trivial
     | some g=>
      obtain⟨h3,fn,hfn,hb⟩:=Ko (cur:=some H) hS.fns he hl
      refine⟨μ,_,{ b with defers:=es }::cs,w,.one (ON hrun hbd (Ni hS.fns hfn hb)),fun _ _ h=>h,Below.refl N w,hH,h3,.cons ⟨⟨hr.fn,hr.size,h2,hr.mode,hr.kind,hr.round⟩,?_⟩ hcs⟩
      show if fr.R.mode.running=true then wM C _ _ _ _ _ _ _ _ else _
      rw[yaa (by grind)]
      exact ht
theorem lI.still{dp:Nat}{cur cur':Option xA}{fr:pB}(h:lI C μ dp cur fr b)(hm:fr.R.mode.running=false):lI C μ dp cur' fr b:=by
 refine⟨h.rest,?_⟩
 have:=h.body
 simp_all
theorem WW{l:List PanicEntry}{m:List Bf}(h:uD (Bc μ) m l):l.dropWhile (!·.goexit)=[]:=by
 induction h with
 | nil=>rfl
 | cons a _ ih=>simp[a.goexit,ih]
def Qt(c:pB)(rest:List pB)(H:xA):Option iP:=
 match c.R.mode with
 | .panicking (⟨_,true⟩::_)=>some (⟨zX c .returning,rest,H⟩:iP)
 | _=>yB (!c.R.mode.running) (some ⟨c,rest,H⟩)
def DH(C:rA)(fr:pB)(ch:List Bf)(cs:List pB)(H:xA):yF:=
 bJ (ob (C.fns.get fr.R.fn) fun _=>match cs with | c::rest=>some ⟨aT c ch,rest,H⟩ | []=>none) 19
theorem zd9{dp:Nat}{c:pB}{c':Frame}(hc:lI C μ dp none c c'){x:iP}{rest:List pB}(h:Qt c rest H=some x):x.cs=rest/\x.H=H/\lI C μ dp (some H) x.fr (aY c'):=by
 have hm:=hc.rest.mode
 have stay:c'.mode=c'.mode->(aY c'=c')->c.R.mode.running=false->x=⟨c,rest,H⟩->x.cs=rest/\x.H=H/\lI C μ dp (some H) x.fr (aY c'):=by
  intro _ h1 h2 h3;subst h3;rw[h1];exact⟨rfl,rfl,hc.still h2⟩
 obtain⟨ct,ctm,cR⟩:=c
 obtain⟨f,n,de,mode,dd,ro⟩:=cR
 unfold Qt at h;simp only at h hm
 cases mode with
 | run=>cases h
 | returning=>
  cases hcm:c'.mode with
  | returning=>exact stay rfl (by unfold aY;rw[hcm]) rfl (yci h).symm
  | _=>rw[hcm]at hm;exact hm.elim
 | panicking ch=>
  cases hcm:c'.mode with
  | run=>rw[hcm]at hm;exact hm.elim
  | returning=>rw[hcm]at hm;exact hm.elim
  | panicking ch'=>
   rw[hcm]at hm
   cases hm with
   | nil=>exact stay rfl (by unfold aY;rw[hcm]) rfl (yci h).symm
   | @cons p e older older' hp hold=>
    obtain⟨pv,pr⟩:=p
    obtain⟨ev',er,eg⟩:=e
    obtain⟨q1,q2,q3⟩:=hp
    simp only at q1 q2 q3
    subst q2 q3
    cases er with
    | false=>exact stay rfl (by unfold aY;rw[hcm]) rfl (yci h).symm
    | true=>
     cases yci h
     refine⟨rfl,rfl,?_⟩
     have:aY c'={ c' with mode:=.returning }:=by
      grind [aY,WW]
     rw[this];have hb:=hc.body
     exact⟨⟨hc.rest.fn,hc.rest.size,hc.rest.defers,trivial,hc.rest.kind,hc.rest.round⟩,hb⟩
theorem NG(hS:vJ P C B N I)(hH:wB B N μ H w)(hcs:mF C μ acs cs){fr:pB}(hr:pG μ fr.R b)(hm:b.mode=.returning)(hd:b.defers=[])(ht:lE μ fr.R.n fr.tm b.tmps) :
  pD P C B N μ base (lone b (cs++base) w) w (Br C fr acs H):=by
 unfold Br
 cases hx:ob (C.fns.get fr.R.fn) fun fn=>rS C H fr.tm fn.results.toList with
 | none=>exact trivial
 | some l=>
  rw[tA]at hx;obtain⟨fn,hfn,hres⟩:=hx
  obtain⟨v,h1,h2⟩:=CU hS.tys hH ht hres
  have hf:P.funcs[b.fn]?=some fn:=by rw[hr.fn];exact(hS.fns _ _ hfn).1
  have hk:=hr.kind
  simp only[]
  cases hcs with
  | nil=>
   simp only[dC]
   cases hdf:fr.R.deferred with
   | true=>exact trivial
   | false=>
    rw[hdf]at hk;rw[yaa (by simp)]
    split
    ·rename_i hroot
     exact⟨μ,b,w,v,.refl _ _,fun _ _ h=>h,Below.refl N w,hH,h2,by rw[hr.fn];simp_all,hm,hd,hk,fn,hf,h1⟩
    ·exact trivial
  | @cons c c' acs1 cs1 hc hcs1=>
   simp only[]
   cases hdf:fr.R.deferred with
   | true=>
    rw[hdf]at hk;simp only[cond_true];show pD P C B N μ base _ w (bJ (Qt c acs1 H) 18)
    generalize hx:Qt c acs1 H=x
    cases x with
    | none=>exact trivial
    | some x=>
     obtain⟨h3,h4,h5⟩:=zd9 hc hx
     obtain⟨xf,xc,xh⟩:=x
     simp only at h3 h4 h5
     subst h3 h4
     exact⟨μ,_,cs1,w,.one (OL hm hd hk hf h1),fun _ _ h=>h,Below.refl N w,hH,h5,hcs1⟩
   | false=>
    rw[hdf]at hk;simp only[cond_false]
    cases hfi:iG c (Bt l)with
    | none=>exact trivial
    | some g=>
     exact⟨μ,_,cs1,w,.one (step_leave_returned ⟨hm,hd,hk,fn,hf,h1⟩),fun _ _ h=>h,Below.refl N w,hH,Cs hc hfi h2,hcs1⟩
theorem NC(hS:vJ P C B N I)(hH:wB B N μ H w)(hcs:mF C μ acs cs){fr:pB}(hfr:lI C μ acs.length (some H) fr b)(hm:fr.R.mode.running=false) :
  pD P C B N μ base (lone b (cs++base) w) w (Md C fr acs H):=by
 have ht:lE μ fr.R.n fr.tm b.tmps:=by
  have:=hfr.body
  simp_all
 have hr:=hfr.rest
 unfold Md
 cases hd:fr.R.defers with
 | cons d l=>grind [NH]
 | nil=>
  have hbd:b.defers=[]:=by
   have:=hr.defers
   rw[hd]at this;generalize hbd:b.defers=bd at this
   cases this
   rfl
  have hmode:=hr.mode
  simp only[]
  cases hmo:fr.R.mode with
  | run=>rw[hmo]at hm;cases hm
  | returning=>
   rw[hmo]at hmode;have:b.mode=.returning:=by
    cases hb:b.mode with
    | returning=>rfl
    | _=>rw[hb]at hmode;exact hmode.elim
   exact NG hS hH hcs hr this hbd ht
  | panicking ch=>
   rw[hmo]at hmode
   cases hb:b.mode with
   | run=>rw[hb]at hmode;exact hmode.elim
   | returning=>rw[hb]at hmode;exact hmode.elim
   | panicking ch'=>
    rw[hb]at hmode;show pD P C B N μ base _ w (DH C fr ch acs H)
    unfold DH
    cases hfn:C.fns.get fr.R.fn with
    | none=>exact trivial
    | some fn=>
     rw[qA];have hf:P.funcs[b.fn]?=some fn:=by rw[hr.fn];exact(hS.fns _ _ hfn).1
     cases hcs with
     | nil=>exact trivial
     | @cons c c' acs1 cs1 hc hcs1=>
      exact⟨μ,_,cs1,w,.one (step_leave_panicked ⟨hb,hbd,fn,hf⟩),fun _ _ h=>h,Below.refl N w,hH,DG hc hmode,hcs1⟩
theorem OX(hS:vJ P C B N I)(hI:I w){s:iP}(hH:wB B N μ s.H w)(hcs:mF C μ s.cs cs)(hfr:lI C μ s.cs.length (some s.H) s.fr b):pD P C B N μ base (lone b (cs++base) w) w (stepA C s):=by
 obtain⟨⟨todo,tm,R⟩,acs,H⟩:=s
 show pD P C B N μ base _ w (bif R.mode.running then lQ C todo tm R acs H else Md C ⟨todo,tm,R⟩ acs H)
 cases hm:R.mode.running with
 | false=>grind [NC]
 | true=>
  have hb:=hfr.body
  have hr:=hfr.rest
  simp only at hb hr
  rw[yab hm]at hb;have hbm:b.mode=.run:=by
   have h:=hr.mode
   cases hmo:R.mode with
   | run=>
    rw[hmo]at h
    cases hb:b.mode with
    | run=>rfl
    | _=>rw[hb]at h;exact h.elim
   | _=>rw[hmo]at hm;cases hm
  have e:=za5 hbm
  have:=zdl (b:=b) (tmps:=b.tmps) (ds:=b.defers) (base:=base) hS hI hH hcs ⟨hr.fn,hr.size,hr.defers,by have:=hr.mode;rw[hbm]at this;exact this,hr.kind,hr.round⟩ hb
  simp_all
theorem BO(hS:vJ P C B N I)(hI:I w){m:Machine}{o:yF}(h:pD P C B N μ base m w o):pD P C B N μ base m w (tS C o):=by
 cases o with
 | fail n=>exact trivial
 | done v H=>exact h
 | next s=>
  obtain⟨μ',b,cs,w',h1,h2,h3,h4,h5,h6⟩:=h
  exact pD.of_steps h1 h2 h3 (OX hS (hS.inv _ _ h3 hI) h4 h6 h5)
theorem zb6(hS:vJ P C B N I)(hI:I w){m:Machine}:∀(n:Nat) {o:yF},pD P C B N μ base m w o->pD P C B N μ base m w (Cc C n o):=by
 intro n;induction n with
 | zero=>intro o h;exact BO hS hI h
 | succ n ih=>intro o h;exact ih (ih h)
theorem YG(hS:vJ P C B N I)(hI:I w){f:Nat}(hroot:C.root=f){args:List zA}{args':Array Value}(hH:wB B N μ H w)(hl:rB μ args args'.toList){g:pB}(he:eI C f args false=some g){n:Nat}{v:zA}{H':xA}
  (hrun:Cc C n (.next ⟨g,[],H⟩)=.done v H') :
  Calls P f args' w fun e w'=>∃v' μ',e=.returned v'/\μ.lw μ'/\uA μ' v v'/\wB B N μ' H' w'/\Below N w w':=by
 intro base;have h0:pD P C B N μ base (lone (Frame.enter P f args' .normal) base w) w (.next ⟨g,[],H⟩):=
  ⟨μ,_,[],w,.refl _ _,fun _ _ h=>h,Below.refl N w,hH,(Ko (cur:=some H) hS.fns he hl).1,.nil⟩
 have h1:=zb6 hS hI n h0
 rw[hrun]at h1;obtain⟨μ',b,w',v',h2,h3,h4,h5,h6,h7,h8⟩:=h1
 exact⟨.returned v',w',b,⟨v',μ',rfl,h3,h6,h5,h4⟩,h2,by rw[h7,hroot],h8⟩
end
end Go.Am
namespace Go.Am
open Go Go.RowKit
structure kG where
 v:zA
 p:Bool
abbrev sB:=Option (kG × xA)
abbrev aD:=oT->List zA->xA->sB
structure Kt where
 norm:Tm->xA->sB
 exit:Nat->Tm->xA->sB
 ret:Tm->xA->sB
structure PI where
 id:Nat
 pl:List Nat
 ll:List (Nat × Nat)
def PI.kept(p:PI):List Nat:=qD p.pl (List.rec (motive:=fun _=>List Nat) [] (fun a _ r=>a.1::r) p.ll)
inductive zC where
 | skip
 | region (id:Nat) (ops:Array Oper) (draw:Bool)
 | seq (a b:zC)
 | cond (c:Operand) (x y:zC)
 | block (id:Nat) (c:zC)
 | loop (p:PI) (c:zC)
 | exit (id:Nat)
 | ret
 | cut (p:PI) (c:zC)
 | range (i:Nat) (pl:List Nat) (f:Operand) (ps:Array Nat) (as:List (Nat × Array Oper)) (c:zC)
def asC (l:List (Nat × Array Oper)):Code:=List.rec (motive:=fun _=>Code) .skip (fun x r g=>match r with | []=>.region x.1 x.2 false | _::_=>.seq (.region x.1 x.2 false) g) l
def asA (c:zC)(l:List (Nat × Array Oper)):zC:=List.rec (motive:=fun _=>zC) c (fun x _ g=>.seq (.region x.1 x.2 false) g) l
def lD:zC->Code
 | .skip=>.skip
 | .region id ops d=>.region id ops d
 | .seq a b=>.seq (lD a) (lD b)
 | .cond c x y=>.cond c (lD x) (lD y)
 | .block id c=>.block id (lD c)
 | .loop _ c=>.loop (lD c)
 | .exit id=>.exit id
 | .ret=>.ret
 | .cut _ c=>lD c
 | .range _ _ f ps as c=>.rangeFunc f ps (asC as) (lD c)
def lim {α:Type}(f:Nat->Option α):Option α:=@dite _ (∃n r,f n=some r) (Classical.propDecidable _) (fun h=>f h.choose) (fun _=>none)
def Mono {α:Type}(f:Nat->Option α):Prop:=∀n r,f n=some r->f (n+1)=some r
theorem Mono.le{α:Type}{f:Nat->Option α}(h:Mono f){n m:Nat}{r:α}(hr:f n=some r)(hnm:n<=m):f m=some r:=by
 induction hnm with
 | refl=>exact hr
 | step _ ih=>exact h _ _ ih
theorem Ox{α:Type}{f:Nat->Option α}(h:Mono f){r:α}:lim f=some r ↔ ∃n,f n=some r:=by
 unfold lim;by_cases hx:∃n r,f n=some r
 ·rw[dif_pos hx]
  obtain⟨r0,h0⟩:=hx.choose_spec
  constructor
  ·grind
  ·rintro⟨n,hn⟩
   have a:=h.le h0 (Nat.le_max_left hx.choose n)
   have b:=h.le hn (Nat.le_max_right hx.choose n)
   simp_all
 simp_all
def Vx:yE->zA->(zA->sB)->sB
 | .bool,v,K=>ob v.asBool fun b=>K (.bool b)
 | .int k,v,K=>ob v.asIntK fun p=>yB (eL p.1 k) (K (.int k p.2))
 | .string,v,K=>ob v.asStr fun l=>K (.str l)
 | .ptr _,v,K=>K v
 | .slice _,v,K=>K v
 | .arr _ _,v,K=>K v
 | .map _ _,v,K=>K v
 | .struct _,v,K=>K v
 | .func,v,K=>K v
 | .iface,v,K=>K v
 | .other,v,K=>K v
def Fh:yE->zA->Prop
 | .bool,v=>∃b,v=.bool b
 | .int k,v=>∃n,v=.int k n
 | .string,v=>∃l,v=.str l
 | _,_=>True
theorem TE{d:yE}{v:zA}{K:zA->sB}{x:kG × xA}:Vx d v K=some x ↔ Fh d v/\K v=some x:=by
 cases d<;>simp only[Vx,Fh,tA,xB,true_and]
 case bool=>
  grind [Au]
 case int k=>
  constructor
  ·grind [bU,qN]
  ·rintro⟨⟨n,rfl⟩,h⟩;exact⟨(k,n),rfl,qN.2 rfl,h⟩
 grind [cU]
def cJ(C:rA)(t:Nat)(v:zA)(K:zA->sB):sB:=
 match C.tys.get t with
 | some ty=>Vx ty.desc v K
 | none=>K v
def qY (C:rA)(t:Nat)(v:zA):Prop:=
 match C.tys.get t with
 | some ty=>Fh ty.desc v
 | none=>True
theorem fN{C:rA}{t:Nat}{v:zA}{K:zA->sB}{x:kG × xA}:cJ C t v K=some x ↔ qY C t v/\K v=some x:=by
 grind [cJ,qY,TE]
def jF (φ:aD)(r:iI)(H:xA)(k:zA->xA->sB):sB:=
 match r with
 | .val v H'=>k v H'
 | .enter f args=>ob (φ (.func f) args H) fun p=>bif p.1.p then some p else k p.1.v p.2
 | .round l args=>ob (φ (.yld l) args H) fun p=>yB (!p.1.p) (k p.1.v p.2)
 | .panic v=>some (⟨v,true⟩,H)
 | _=>none
def kK (C:rA)(φ:aD)(all:Array Oper)(n:Nat)(κ:Tm->xA->sB)(l:List Oper):Tm->xA->sB:=
 List.rec (motive:=fun _=>Tm->xA->sB) κ
  (fun o _ g tm H=>ob (tF o.guard all tm) fun w=>Bool.rec (motive:=fun _=>sB) (g (putA n tm o.dst rD) H)
   (jF φ ((rE o.op).f C (.now tm) H) H fun v H'=>cJ C o.type v fun v=>g (putA n tm o.dst v) H') w) l
def sH(C:rA)(H:xA)(all:Array Oper)(n:Nat)(old:Tm)(olds:List (Nat × List Nat))(k:Tm->sB)(l:List Nat):Tm->sB:=
 List.rec (motive:=fun _=>Tm->sB) k
  (fun i _ g tm=>ob (fC all.toList i) fun o=>ob (tF o.guard all tm) fun w=>Bool.rec (motive:=fun _=>sB) (g (putA n tm o.dst rD))
   (ob ((vF o.op).f C (.mixed tm old (eE i olds) (cG o.op)) H) fun v=>cJ C o.type v fun v=>g (putA n tm o.dst v)) w) l
def rL(C:rA)(H:xA)(all:Array Oper)(old:Tm)(olds:List (Nat × List Nat))(tm:Tm)(k:sB)(l:List Nat):sB:=
 List.rec (motive:=fun _=>sB) k
  (fun i _ g=>ob (fC all.toList i) fun o=>ob o.dst fun d=>ob (tF o.guard all tm) fun w=>Bool.rec (motive:=fun _=>sB) g
   (ob ((vF o.op).f C (.mixed tm old (eE i olds) (cG o.op)) H) fun v=>cJ C o.type v fun v=>ob (tm.get d) fun u=>yB (same 10 v u) g) w) l
def dL (all:Array Oper)(h:Nat):Nat:=bif Nat.blt (bA all.toList) h then Nat.sub h (Nat.succ (bA all.toList))else h
def nT(C:rA)(all:Array Oper)(h:Nat)(o:Oper)(tm:Tm):Option Bool:=ob (tF o.guard all tm) fun w=>bif Nat.blt (bA all.toList) h then yB (w&&zK o.op&&jD (jX C o.op)) (some w)else some w
def gS(all:Array Oper)(st:iE):Bool:=Nat.blt (bA all.toList+bA all.toList) st.heavy
def Kf(C:rA)(all:Array Oper)(n:Nat)(old:Tm)(olds:List (Nat × List Nat))(st:iE)(g:Tm->xA->sB)(tm:Tm)(H:xA):sB:=
 yB (iV C all) (ob (Fl all old olds tm st.again) fun es=>ob (tY C es H) fun H'=>sH C H' all n old olds (fun tm=>g tm H') st.lights tm)
def vI(C:rA)(φ:aD)(all:Array Oper)(n:Nat)(old:Tm)(olds:List (Nat × List Nat))(κ:Tm->xA->sB)(l:List iE):Tm->xA->sB:=
 List.rec (motive:=fun _=>Tm->xA->sB) κ
  (fun st _ g tm H=>Bool.rec (motive:=fun _=>sB) (ob (fC all.toList (dL all st.heavy)) fun o=>ob (nT C all st.heavy o tm) fun w=>
   (fun cont:zA->xA->sB=>Bool.rec (motive:=fun _=>sB) (cont rD H)
    (jF φ ((rE o.op).f C (.mixed tm old (eE (dL all st.heavy) olds) (cG o.op)) H) H fun v H'=>cJ C o.type v fun v=>cont v H') w)
   (fun v H'=>rL C H' all old olds (putA n tm o.dst v) (sH C H' all n old olds (fun tm=>g tm H') st.lights (putA n tm o.dst v)) st.again)) (Kf C all n old olds st g tm H) (gS all st)) l
def Eg(C:rA)(φ:aD)(fn n:Nat)(κ:Tm->xA->sB)(id:Nat)(all:Array Oper)(draw:Bool):Tm->xA->sB:=
 Bool.rec (motive:=fun _=>Tm->xA->sB) (fun tm H=>kK C φ all n κ all.toList tm.cut H)
  (fun tm H=>ob (ob (C.plans.get fn) fun t=>t.get id) fun p=>yB (nS all p) (sH C H all n tm.cut p.olds (fun tm'=>vI C φ all n tm.cut p.olds κ p.stages tm' H) p.first tm.cut)) draw
def Ez(tm:Tm)(live:List Nat):Tr zA:=
 List.rec (motive:=fun _=>Tr zA) .leaf (fun i _ t=>match tm.get i with | some v=>t.set i v | none=>t) live
def keep (live:List Nat)(tm:Tm):Tm:=⟨tm.k,Ez tm live,[]⟩
def isDef0:Option (List jG)->Bool
 | some []=>true
 | _=>false
def xZ(κ:Kt)(p:Option Code)(tm:Tm)(H:xA):sB:=
 match p with
 | none=>κ.norm tm H
 | some .ret=>κ.ret tm H
 | _=>none
def endLoop(H:xA)(l:Nat)(r:lL):xA:=setBlk H l (.loop ⟨.exhausted,r.pending,r.fn,r.n,r.tm,r.params,r.assign,r.body,r.defers⟩)
def wQ(C:rA)(φ:aD)(fn n:Nat)(κ:Kt)(f:Operand)(ps:List Nat)(a b:Code)(tm:Tm)(H:xA):sB:=
 ob (ev f (.now tm)) fun v=>ob v.asFunc fun q=>match q.1 with
  | .yld _=>none
  | .func g=>yB (jD (C.prims.get g)) (ob (φ (.func g) (qD q.2.1 (.func (.yld (H.next+1)) [] []::q.2.2)) (newBlk (newBlk H (.deferred (some []))) (.loop ⟨.ready,none,fn,n,tm,ps,a,b,H.next⟩))) fun y=>
   yB (!y.1.p) (ob (eH y.2 (H.next+1)) fun r=>yB (!Nat.beq (LoopState.tag r.state) 1) (ob (xZ κ r.pending tm (endLoop y.2 (H.next+1) r)) fun z=>
    yB (!z.1.p) (ob (gU z.2 H.next) fun d=>yB (isDef0 d) (some (z.1,setBlk z.2 H.next (.deferred none)))))))
def aC (C:rA)(φ:aD)(fn n:Nat)(c:zC):Kt->Tm->xA->sB:=
 zC.rec (motive:=fun _=>Kt->Tm->xA->sB)
  (fun κ tm H=>κ.norm tm H)
  (fun id all draw κ=>Eg C φ fn n κ.norm id all draw)
  (fun _ _ ga gb κ=>ga ⟨gb κ,κ.exit,κ.ret⟩)
  (fun c _ _ gx gy κ tm H=>ob (ob (ev c (.now tm)) zA.asBool) fun b=>Bool.rec (motive:=fun _=>sB) (gy κ tm H) (gx κ tm H) b)
  (fun id _ g κ=>g ⟨κ.norm,fun i tm H=>Bool.rec (motive:=fun _=>sB) (κ.exit i tm H) (κ.norm tm H) (Nat.beq id i),κ.ret⟩)
  (fun live _ g κ tm H=>lim fun m=>Nat.rec (motive:=fun _=>Tm->xA->sB) (fun _ _=>none) (fun _ r tm H=>g ⟨r,κ.exit,κ.ret⟩ (keep live.kept tm) H) m tm H)
  (fun id κ tm H=>κ.exit id tm H)
  (fun κ tm H=>κ.ret tm H)
  (fun live _ g κ tm H=>g κ (keep live.kept tm) H)
  (fun _ _ f ps as c _ κ tm H=>wQ C φ fn n κ f ps.toList (asC as) (lD c) tm H) c
end Go.Am
namespace Go.Am
open Go Go.RowKit
def nI {α β γ:Type}(k k':α->β->Option γ):Prop:=∀a b x,k a b=some x->k' a b=some x
def eM (φ φ':aD):Prop:=∀f a H x,φ f a H=some x->φ' f a H=some x
structure lN (κ κ':Kt):Prop where
 norm:nI κ.norm κ'.norm
 exit:∀i,nI (κ.exit i) (κ'.exit i)
 ret:nI κ.ret κ'.ret
section
variable {C:rA}{φ φ':aD}{all:Array Oper}{n:Nat}{x:kG × xA}
theorem CX(hφ:eM φ φ'){r:iI}{H:xA}{k k':zA->xA->sB}(hk:nI k k')(h:jF φ r H k=some x):jF φ' r H k'=some x:=by
 cases r<;>simp only[jF]at h ⊢<;>try (cases h;done)
 case val v H'=>exact hk _ _ _ h
 case enter f args=>
  rw[tA]at h ⊢
  obtain⟨p,h1,h2⟩:=h
  refine⟨p,hφ _ _ _ _ h1,?_⟩
  cases hp:p.1.p with
  | true=>rw[hp]at h2;exact h2
  | false=>rw[hp]at h2;exact hk _ _ _ h2
 case round l args=>
  rw[tA]at h ⊢
  obtain⟨p,h1,h2⟩:=h
  rw[xB]at h2;exact⟨p,hφ _ _ _ _ h1,xB.2 ⟨h2.1,hk _ _ _ h2.2⟩⟩
 case panic v=>exact h
theorem Vw{t:Nat}{k k':zA->xA->sB}(hk:nI k k'):nI (fun v H=>cJ C t v fun v=>k v H) (fun v H=>cJ C t v fun v=>k' v H):=by
 intro v H x h;rw[fN]at h ⊢
 exact⟨h.1,hk _ _ _ h.2⟩
theorem cZ{κ:Tm->xA->sB}{o:Oper}{l:List Oper}{tm:Tm}{H:xA}:kK C φ all n κ (o::l) tm H=ob (tF o.guard all tm) fun w=>if w=true then
   (jF φ ((rE o.op).f C (.now tm) H) H fun v H'=>cJ C o.type v fun v=>kK C φ all n κ l (putA n tm o.dst v) H')else kK C φ all n κ l (putA n tm o.dst rD) H:=by
 show(ob (tF o.guard all tm) fun w=>Bool.rec (motive:=fun _=>sB) _ _ w)=_
 congr 1;funext w;rw[bI];rfl
theorem Iy(hφ:eM φ φ'){κ κ':Tm->xA->sB}(hκ:nI κ κ'):∀(l:List Oper),nI (kK C φ all n κ l) (kK C φ' all n κ' l):=by
 intro l;induction l with
 | nil=>exact hκ
 | cons o l ih=>
  intro tm H x h;rw[cZ,tA]at h ⊢
  obtain⟨w,h1,h2⟩:=h
  refine⟨w,h1,?_⟩
  split at h2
  ·rename_i e;rw[yab e];exact CX hφ (Vw (k:=fun v H'=>kK C φ all n κ l (putA n tm o.dst v) H') (k':=fun v H'=>kK C φ' all n κ' l (putA n tm o.dst v) H') fun v H' y hy=>ih _ _ _ hy) h2
  ·rename_i e;rw[yaa e];exact ih _ _ _ h2
variable {H:xA}{old:Tm}{olds:List (Nat × List Nat)}
theorem Pa{k:Tm->sB}{i:Nat}{l:List Nat}{tm:Tm}:sH C H all n old olds k (i::l) tm=ob (fC all.toList i) fun o=>ob (tF o.guard all tm) fun w=>if w=true then
   (ob ((vF o.op).f C (.mixed tm old (eE i olds) (cG o.op)) H) fun v=>cJ C o.type v fun v=>sH C H all n old olds k l (putA n tm o.dst v))else sH C H all n old olds k l (putA n tm o.dst rD):=by
 show(ob (fC all.toList i) fun o=>ob (tF o.guard all tm) fun w=>Bool.rec (motive:=fun _=>sB) _ _ w)=_
 congr 1;funext o;congr 1;funext w;rw[bI];rfl
theorem Oz{k k':Tm->sB}(hk:∀tm x,k tm=some x->k' tm=some x):∀(l:List Nat) tm x,sH C H all n old olds k l tm=some x->sH C H all n old olds k' l tm=some x:=by
 intro l;induction l with
 | nil=>exact hk
 | cons i l ih=>
  grind [Pa,tA,fN]
theorem Yy{tm:Tm}{k:sB}{i:Nat}{l:List Nat}:rL C H all old olds tm k (i::l)=ob (fC all.toList i) fun o=>ob o.dst fun d=>ob (tF o.guard all tm) fun w=>if w=true then
   (ob ((vF o.op).f C (.mixed tm old (eE i olds) (cG o.op)) H) fun v=>cJ C o.type v fun v=>ob (tm.get d) fun u=>yB (same 10 v u) (rL C H all old olds tm k l))else rL C H all old olds tm k l:=by
 show(ob (fC all.toList i) fun o=>ob o.dst fun d=>ob (tF o.guard all tm) fun w=>Bool.rec (motive:=fun _=>sB) _ _ w)=_
 congr 1;funext o;congr 1;funext d;congr 1;funext w;rw[bI];rfl
theorem La{tm:Tm}{k:sB}:∀(l:List Nat),rL C H all old olds tm k l=some x->Ax C H all old olds tm l=true/\k=some x:=by
 intro l;induction l with
 | nil=>intro h;exact⟨rfl,h⟩
 | cons i l ih=>
  intro h;rw[Yy,tA]at h;obtain⟨o,h1,h⟩:=h
  rw[tA]at h;grind [tA,Ax,fN,xB]
theorem Yx{tm:Tm}{k k':sB}(hk:k'=some x):∀(l:List Nat),rL C H all old olds tm k l=some x->rL C H all old olds tm k' l=some x:=by
 intro l;induction l with
 | nil=>intro _;exact hk
 | cons i l ih=>
  intro h;rw[Yy,tA]at h ⊢
  obtain⟨o,h1,h⟩:=h
  refine⟨o,h1,?_⟩
  rw[tA]at h ⊢
  grind [tA,fN,xB]
theorem Dy{κ:Tm->xA->sB}{st:iE}{l:List iE}{tm:Tm}(hg:gS all st=false):vI C φ all n old olds κ (st::l) tm H=ob (fC all.toList (dL all st.heavy)) fun o=>ob (nT C all st.heavy o tm) fun w=>
   (fun cont:zA->xA->sB=>if w=true then(jF φ ((rE o.op).f C (.mixed tm old (eE (dL all st.heavy) olds) (cG o.op)) H) H fun v H'=>cJ C o.type v fun v=>cont v H')else cont rD H)
   (fun v H'=>rL C H' all old olds (putA n tm o.dst v) (sH C H' all n old olds (fun tm=>vI C φ all n old olds κ l tm H') st.lights (putA n tm o.dst v)) st.again):=by
 show Bool.rec (motive:=fun _=>sB) _ _ (gS all st)=_
 rw[hg];show(ob (fC all.toList (dL all st.heavy)) fun o=>ob (nT C all st.heavy o tm) fun w=>(fun cont:zA->xA->sB=>Bool.rec (motive:=fun _=>sB) _ _ w) _)=_
 congr 1;funext o;congr 1;funext w;cases w<;>rfl
theorem Hv{κ:Tm->xA->sB}{st:iE}{l:List iE}{tm:Tm}(hg:gS all st=true):vI C φ all n old olds κ (st::l) tm H=Kf C all n old olds st (vI C φ all n old olds κ l) tm H:=by
 show Bool.rec (motive:=fun _=>sB) _ _ (gS all st)=_
 rw[hg];rfl
theorem Pq{st:iE}{g:Tm->xA->sB}{tm:Tm}{x:kG × xA}:Kf C all n old olds st g tm H=some x ↔ iV C all=true/\∃es H',Fl all old olds tm st.again=some es/\tY C es H=some H'/\sH C H' all n old olds (fun tm=>g tm H') st.lights tm=some x:=by
 grind [Kf,tA,xB]
theorem Uh(hφ:eM φ φ'){κ κ':Tm->xA->sB}(hκ:nI κ κ'):∀(l:List iE),nI (vI C φ all n old olds κ l) (vI C φ' all n old olds κ' l):=by
 intro l;induction l with
 | nil=>exact hκ
 | cons st l ih=>
  intro tm H x h
  cases hg:gS all st with
  | true=>
   rw[Hv hg,Pq]at h ⊢
   obtain⟨h0,es,H',h1,h2,h3⟩:=h
   exact⟨h0,es,H',h1,h2,Oz (fun tm x hx=>ih _ _ _ hx) _ _ _ h3⟩
  | false=>
  rw[Dy hg,tA]at h ⊢
  obtain⟨o,h1,h⟩:=h
  refine⟨o,h1,?_⟩
  rw[tA]at h ⊢
  obtain⟨w,h2,h⟩:=h
  refine⟨w,h2,?_⟩
  have cont:∀v H' y,rL C H' all old olds (putA n tm o.dst v) (sH C H' all n old olds (fun tm=>vI C φ all n old olds κ l tm H') st.lights (putA n tm o.dst v)) st.again=some y →
    rL C H' all old olds (putA n tm o.dst v) (sH C H' all n old olds (fun tm=>vI C φ' all n old olds κ' l tm H') st.lights (putA n tm o.dst v)) st.again=some y:=by
   intro v H' y hy;exact Yx (Oz (fun tm x hx=>ih _ _ _ hx) _ _ _ (La _ hy).2) _ hy
  simp only[]at h ⊢
  split at h
  ·rename_i e;rw[yab e];exact CX hφ (Vw cont) h
  grind
theorem CY(hφ:eM φ φ'){κ κ':Tm->xA->sB}(hκ:nI κ κ'){fn id:Nat}{draw:Bool}:nI (Eg C φ fn n κ id all draw) (Eg C φ' fn n κ' id all draw):=by
 intro tm H x h
 cases draw with
 | false=>exact Iy hφ hκ _ _ _ _ h
 | true=>
  have h:(ob (ob (C.plans.get fn) fun t=>t.get id) fun p=>yB (nS all p) (sH C H all n tm.cut p.olds (fun tm'=>vI C φ all n tm.cut p.olds κ p.stages tm' H) p.first tm.cut))=some x:=h
  show(ob (ob (C.plans.get fn) fun t=>t.get id) fun p=>yB (nS all p) (sH C H all n tm.cut p.olds (fun tm'=>vI C φ' all n tm.cut p.olds κ' p.stages tm' H) p.first tm.cut))=some x
  rw[tA]at h ⊢
  obtain⟨p,h1,h⟩:=h
  refine⟨p,h1,?_⟩
  rw[xB]at h ⊢
  exact⟨h.1,Oz (fun tm x hx=>Uh hφ hκ _ _ _ _ hx) _ _ _ h.2⟩
theorem LV{κ κ':Kt}(hκ:lN κ κ'){p:Option Code}:nI (xZ κ p) (xZ κ' p):=by
 intro tm H x h;unfold xZ at h ⊢
 split at h
 ·exact hκ.norm _ _ _ h
 ·exact hκ.ret _ _ _ h
 ·cases h
theorem DF(hφ:eM φ φ'){κ κ':Kt}(hκ:lN κ κ'){fn:Nat}{f:Operand}{ps:List Nat}{a b:Code}:nI (wQ C φ fn n κ f ps a b) (wQ C φ' fn n κ' f ps a b):=by
 intro tm H x h;unfold wQ at h ⊢
 rw[tA]at h ⊢
 obtain⟨v,h1,h⟩:=h
 refine⟨v,h1,?_⟩
 rw[tA]at h ⊢
 obtain⟨q,h2,h⟩:=h
 refine⟨q,h2,?_⟩
 split at h
 ·cases h
 ·rw[xB,tA]at h ⊢
  obtain⟨h3,y,h4,h⟩:=h
  refine⟨h3,y,hφ _ _ _ _ h4,?_⟩
  rw[xB,tA]at h ⊢
  obtain⟨hy,r,h5,h⟩:=h
  refine⟨hy,r,h5,?_⟩
  rw[xB,tA]at h ⊢
  obtain⟨h6,z,h7,h⟩:=h
  exact⟨h6,z,LV hκ _ _ _ h7,h⟩
end
end Go.Am
namespace Go.Am
open Go Go.RowKit
theorem Wj{α:Type}{f:Nat->Option α}{r:α}(h:lim f=some r):∃n,f n=some r:=by
 unfold lim at h;by_cases hx:∃n r,f n=some r
 all_goals grind
structure iM {α β γ:Type} (ks:Nat->α->β->Option γ) (k:α->β->Option γ):Prop where
 up:∀n,nI (ks n) (ks (n+1))
 ex:∀a b x,k a b=some x->∃n,ks n a b=some x
theorem Hh{α β γ:Type}{ks:Nat->α->β->Option γ}(h:∀n,nI (ks n) (ks (n+1))){n m:Nat}(hnm:n<=m):nI (ks n) (ks m):=by
 induction hnm with
 | refl=>exact fun _ _ _ h=>h
 | step _ ih=>exact fun a b x hx=>h _ _ _ _ (ih a b x hx)
structure xT (φs:Nat->aD) (φ:aD):Prop where
 up:∀n,eM (φs n) (φs (n+1))
 ex:∀f a H x,φ f a H=some x->∃n,φs n f a H=some x
theorem xT.le{φs:Nat->aD}{φ:aD}(h:xT φs φ){n m:Nat}(hnm:n<=m):eM (φs n) (φs m):=by
 induction hnm with
 | refl=>exact fun _ _ _ _ h=>h
 | step _ ih=>exact fun f a H x hx=>h.up _ _ _ _ _ (ih f a H x hx)
structure Az (κs:Nat->Kt) (κ:Kt):Prop where
 norm:iM (fun n=>(κs n).norm) κ.norm
 exit:∀i,iM (fun n=>(κs n).exit i) (κ.exit i)
 ret:iM (fun n=>(κs n).ret) κ.ret
section
variable {C:rA}{φ φ':aD}{φs:Nat->aD}{all:Array Oper}{N fn:Nat}
theorem UU{g g':Kt->Tm->xA->sB}{κ κ':Kt}(hκ:lN κ κ')(hg:∀ κ κ',lN κ κ'->nI (g κ) (g' κ'))(live:List Nat):∀m,nI (Nat.rec (motive:=fun _=>Tm->xA->sB) (fun _ _=>none) (fun _ r tm H=>g ⟨r,κ.exit,κ.ret⟩ (keep live tm) H) m)
  (Nat.rec (motive:=fun _=>Tm->xA->sB) (fun _ _=>none) (fun _ r tm H=>g' ⟨r,κ'.exit,κ'.ret⟩ (keep live tm) H) m):=by
 intro m;induction m with
 | zero=>intro a b x h;cases h
 | succ m ih=>exact fun a b x h=>hg ⟨_,_,_⟩ ⟨_,_,_⟩ ⟨ih,hκ.exit,hκ.ret⟩ _ _ _ h
theorem lN.refl(κ:Kt):lN κ κ:=⟨fun _ _ _ h=>h,fun _ _ _ _ h=>h,fun _ _ _ h=>h⟩
theorem Wz{g:Kt->Tm->xA->sB}{κ:Kt}(hg:∀ κ κ',lN κ κ'->nI (g κ) (g κ'))(live:List Nat):∀m,nI (Nat.rec (motive:=fun _=>Tm->xA->sB) (fun _ _=>none) (fun _ r tm H=>g ⟨r,κ.exit,κ.ret⟩ (keep live tm) H) m)
  (Nat.rec (motive:=fun _=>Tm->xA->sB) (fun _ _=>none) (fun _ r tm H=>g ⟨r,κ.exit,κ.ret⟩ (keep live tm) H) (m+1)):=by
 intro m;induction m with
 | zero=>intro a b x h;cases h
 | succ m ih=>exact fun a b x h=>hg ⟨_,_,_⟩ ⟨_,_,_⟩ ⟨ih,(lN.refl κ).exit,(lN.refl κ).ret⟩ _ _ _ h
theorem mY(hφ:eM φ φ'):∀(c:zC) (κ κ':Kt),lN κ κ'->nI (aC C φ fn N c κ) (aC C φ' fn N c κ'):=by
 have self:∀(ψ:aD),eM ψ ψ:=fun _ _ _ _ _ h=>h
 intro c;suffices h:∀ φ φ',eM φ φ'->∀(κ κ':Kt),lN κ κ'->nI (aC C φ fn N c κ) (aC C φ' fn N c κ') from h φ φ' hφ
 induction c with
 | skip=>exact fun _ _ _ κ κ' hκ=>hκ.norm
 | region id ops d=>exact fun _ _ hφ κ κ' hκ=>CY hφ hκ.norm
 | seq a b iha ihb=>exact fun _ _ hφ κ κ' hκ=>iha _ _ hφ _ _ ⟨ihb _ _ hφ _ _ hκ,hκ.exit,hκ.ret⟩
 | cond c a b iha ihb=>
  intro φ φ' hφ κ κ' hκ tm H x h;have h:(ob (ob (ev c (.now tm)) zA.asBool) fun t=>Bool.rec (motive:=fun _=>sB) (aC C φ fn N b κ tm H) (aC C φ fn N a κ tm H) t)=some x:=h
  show(ob (ob (ev c (.now tm)) zA.asBool) fun t=>Bool.rec (motive:=fun _=>sB) (aC C φ' fn N b κ' tm H) (aC C φ' fn N a κ' tm H) t)=some x
  rw[tA]at h ⊢
  obtain⟨t,h1,h2⟩:=h
  refine⟨t,h1,?_⟩
  cases t with
  | true=>exact iha _ _ hφ _ _ hκ _ _ _ h2
  | false=>exact ihb _ _ hφ _ _ hκ _ _ _ h2
 | block id c ih=>
  intro φ φ' hφ κ κ' hκ;refine ih _ _ hφ _ _ ⟨hκ.norm,fun i tm H x h=>?_,hκ.ret⟩
  simp only[bI]at h ⊢
  split at h
  ·rename_i e;rw[yab e];exact hκ.norm _ _ _ h
  ·rename_i e;rw[yaa e];exact hκ.exit _ _ _ _ h
 | loop live c ih=>
  intro φ φ' hφ κ κ' hκ tm H x h;obtain⟨m,hm⟩:=Wj h
  refine(Ox fun m y hy=>Wz (ih _ _ (self φ')) live.kept m _ _ _ hy).2 ⟨m,?_⟩
  exact UU hκ (ih _ _ hφ) live.kept m _ _ _ hm
 | exit id=>exact fun _ _ _ κ κ' hκ=>hκ.exit id
 | ret=>exact fun _ _ _ κ κ' hκ=>hκ.ret
 | cut live c ih=>exact fun _ _ hφ κ κ' hκ tm H x h=>ih _ _ hφ _ _ hκ _ _ _ h
 | range i pl f ps as c ih=>exact fun _ _ hφ κ κ' hκ tm H x h=>DF hφ hκ _ _ _ h
theorem CW(hφ:xT φs φ){r:iI}{H:xA}{ks:Nat->zA->xA->sB}{k:zA->xA->sB}(hk:iM ks k){x:kG × xA}(h:jF φ r H k=some x):∃n,jF (φs n) r H (ks n)=some x:=by
 cases r<;>simp only[jF]at h ⊢<;>try (cases h;done)
 case val v H'=>exact hk.ex _ _ _ h
 case enter f args=>
  rw[tA]at h;obtain⟨p,h1,h2⟩:=h
  obtain⟨n,hn⟩:=hφ.ex _ _ _ _ h1
  cases hp:p.1.p with
  | true=>
   rw[hp]at h2;exact⟨n,by rw[tA];exact⟨p,hn,by rw[hp];exact h2⟩⟩
  | false=>
  rw[hp]at h2;obtain⟨m,hm⟩:=hk.ex _ _ _ h2
  exact⟨max n m,by rw[tA];exact⟨p,hφ.le (Nat.le_max_left n m) _ _ _ _ hn,by rw[hp];exact Hh hk.up (Nat.le_max_right n m) _ _ _ hm⟩⟩
 case round l args=>
  rw[tA]at h;obtain⟨p,h1,h2⟩:=h
  rw[xB]at h2;obtain⟨n,hn⟩:=hφ.ex _ _ _ _ h1
  obtain⟨m,hm⟩:=hk.ex _ _ _ h2.2
  exact⟨max n m,by rw[tA];exact⟨p,hφ.le (Nat.le_max_left n m) _ _ _ _ hn,xB.2 ⟨h2.1,Hh hk.up (Nat.le_max_right n m) _ _ _ hm⟩⟩⟩
 case panic v=>exact⟨0,h⟩
theorem EO{t:Nat}{ks:Nat->zA->xA->sB}{k:zA->xA->sB}(hk:iM ks k):iM (fun n v H=>cJ C t v fun v=>ks n v H) (fun v H=>cJ C t v fun v=>k v H):=by
 refine⟨fun n=>Vw (hk.up n),fun v H x h=>?_⟩
 rw[fN]at h;obtain⟨n,hn⟩:=hk.ex _ _ _ h.2
 exact⟨n,by grind [fN]⟩
theorem DZ(hφ:xT φs φ){κs:Nat->Tm->xA->sB}{κ:Tm->xA->sB}(hκ:iM κs κ):∀(l:List Oper),iM (fun n=>kK C (φs n) all N (κs n) l) (kK C φ all N κ l):=by
 intro l;refine⟨fun n=>Iy (hφ.up n) (hκ.up n) l,?_⟩
 induction l with
 | nil=>exact hκ.ex
 | cons o l ih=>
  intro tm H x h;rw[cZ,tA]at h;obtain⟨w,h1,h2⟩:=h
  split at h2
  ·rename_i e
   obtain⟨n,hn⟩:=CW hφ (EO (ks:=fun n v H'=>kK C (φs n) all N (κs n) l (putA N tm o.dst v) H') (k:=fun v H'=>kK C φ all N κ l (putA N tm o.dst v) H') ⟨fun n v H' y hy=>Iy (hφ.up n) (hκ.up n) l _ _ _ hy,fun v H' y hy=>ih _ _ _ hy⟩) h2
   grind [cZ,tA]
  grind [cZ,tA]
variable {old:Tm}{olds:List (Nat × List Nat)}
theorem Wk{H:xA}{ks:Nat->Tm->sB}{k:Tm->sB}(hk:∀tm x,k tm=some x->∃n,ks n tm=some x):∀(l:List Nat) tm x,sH C H all N old olds k l tm=some x->∃n,sH C H all N old olds (ks n) l tm=some x:=by
 intro l;induction l with
 | nil=>exact hk
 | cons i l ih=>
  intro tm x h;simp only[Pa]at h ⊢
  rw[tA]at h;obtain⟨o,h1,h⟩:=h
  rw[tA]at h;obtain⟨w,h3,h4⟩:=h
  split at h4
  ·rename_i e
   rw[tA]at h4;obtain⟨v,h5,h6⟩:=h4
   simp_all [fN]
  simp_all
theorem OY(hφ:xT φs φ){κs:Nat->Tm->xA->sB}{κ:Tm->xA->sB}(hκ:iM κs κ):∀(l:List iE),iM (fun n=>vI C (φs n) all N old olds (κs n) l) (vI C φ all N old olds κ l):=by
 intro l;refine⟨fun n=>Uh (hφ.up n) (hκ.up n) l,?_⟩
 induction l with
 | nil=>exact hκ.ex
 | cons st l ih=>
  intro tm H x h
  cases hg:gS all st with
  | true=>
   rw[Hv hg,Pq]at h;obtain⟨h0,es,H',h1,h2,h3⟩:=h
   obtain⟨n,hn⟩:=Wk (fun tm x hx=>ih tm H' x hx) _ _ _ h3
   exact⟨n,by grind [Hv,Pq]⟩
  | false=>
  rw[Dy hg,tA]at h;obtain⟨o,h1,h⟩:=h
  rw[tA]at h;obtain⟨w,h2,h⟩:=h
  have cont:iM (fun n v H'=>rL C H' all old olds (putA N tm o.dst v) (sH C H' all N old olds (fun tm=>vI C (φs n) all N old olds (κs n) l tm H') st.lights (putA N tm o.dst v)) st.again)
    (fun v H'=>rL C H' all old olds (putA N tm o.dst v) (sH C H' all N old olds (fun tm=>vI C φ all N old olds κ l tm H') st.lights (putA N tm o.dst v)) st.again):=by
   refine⟨fun n v H' y hy=>Yx (Oz (fun tm x hx=>Uh (hφ.up n) (hκ.up n) l _ _ _ hx) _ _ _ (La _ hy).2) _ hy,fun v H' y hy=>?_⟩
   obtain⟨n,hn⟩:=Wk (fun tm x hx=>ih tm H' x hx) _ _ _ (La _ hy).2
   exact⟨n,Yx hn _ hy⟩
  simp only[]at h;split at h
  ·rename_i e
   obtain⟨n,hn⟩:=CW hφ (EO cont) h
   grind [Dy,qA]
  ·rename_i e
   obtain⟨n,hn⟩:=cont.ex _ _ _ h
   exact⟨n,by grind [Dy,qA]⟩
theorem QV(hφ:xT φs φ){κs:Nat->Tm->xA->sB}{κ:Tm->xA->sB}(hκ:iM κs κ){id:Nat}{draw:Bool}:iM (fun n=>Eg C (φs n) fn N (κs n) id all draw) (Eg C φ fn N κ id all draw):=by
 refine⟨fun n=>CY (hφ.up n) (hκ.up n),fun tm H x h=>?_⟩
 cases draw with
 | false=>exact(DZ hφ hκ _).ex _ _ _ h
 | true=>
  have h:(ob (ob (C.plans.get fn) fun t=>t.get id) fun p=>yB (nS all p) (sH C H all N tm.cut p.olds (fun tm'=>vI C φ all N tm.cut p.olds κ p.stages tm' H) p.first tm.cut))=some x:=h
  rw[tA]at h;obtain⟨p,h1,h⟩:=h
  rw[xB]at h;obtain⟨n,hn⟩:=Wk (fun tm' x hx=>(OY hφ hκ p.stages).ex tm' H x hx) _ _ _ h.2
  refine⟨n,?_⟩
  show(ob (ob (C.plans.get fn) fun t=>t.get id) fun p=>yB (nS all p) (sH C H all N tm.cut p.olds (fun tm'=>vI C (φs n) all N tm.cut p.olds (κs n) p.stages tm' H) p.first tm.cut))=some x
  grind [qA,xB]
theorem DE(hφ:xT φs φ){κs:Nat->Kt}{κ:Kt}(hκ:Az κs κ){f:Operand}{ps:List Nat}{a b:Code}:iM (fun n=>wQ C (φs n) fn N (κs n) f ps a b) (wQ C φ fn N κ f ps a b):=by
 have kle:∀n,lN (κs n) (κs (n+1)):=fun n=>⟨hκ.norm.up n,fun i=>(hκ.exit i).up n,hκ.ret.up n⟩
 have klm:∀n m,n<=m->lN (κs n) (κs m):=fun n m h=>⟨Hh hκ.norm.up h,fun i=>Hh (hκ.exit i).up h,Hh hκ.ret.up h⟩
 refine⟨fun n=>DF (hφ.up n) (kle n),fun tm H x h=>?_⟩
 unfold wQ at h;rw[tA]at h;obtain⟨v,h1,h⟩:=h
 rw[tA]at h;obtain⟨q,h2,h⟩:=h
 split at h
 ·cases h
 ·rename_i g hg
  rw[xB,tA]at h;obtain⟨h3,y,h4,h⟩:=h
  rw[xB,tA]at h;obtain⟨hy,r,h5,h⟩:=h
  rw[xB,tA]at h;obtain⟨h6,z,h7,h⟩:=h
  obtain⟨n,hn⟩:=hφ.ex _ _ _ _ h4
  have:∃m,xZ (κs m) r.pending (tm) (endLoop y.2 (H.next+1) r)=some z:=by
   unfold xZ at h7 ⊢
   split at h7
   ·exact hκ.norm.ex _ _ _ h7
   ·exact hκ.ret.ex _ _ _ h7
   grind
  obtain⟨m,hm⟩:=this
  refine⟨max n m,?_⟩
  show wQ C (φs (max n m)) fn N (κs (max n m)) f ps a b tm H=some x
  unfold wQ;rw[h1,qA,h2,qA,hg];simp only[];rw[xB,tA];refine⟨h3,y,hφ.le (Nat.le_max_left n m) _ _ _ _ hn,?_⟩
  rw[xB];refine⟨hy,?_⟩
  rw[h5,qA,xB,tA];exact⟨h6,z,LV (klm _ _ (Nat.le_max_right n m)) _ _ _ hm,h⟩
theorem Ks(hφ:xT φs φ):∀(c:zC) (κs:Nat->Kt) (κ:Kt),Az κs κ->iM (fun n=>aC C (φs n) fn N c (κs n)) (aC C φ fn N c κ):=by
 have kle:∀ {κs:Nat->Kt} {κ:Kt},Az κs κ->∀n,lN (κs n) (κs (n+1)):=fun h n=>⟨h.norm.up n,fun i=>(h.exit i).up n,h.ret.up n⟩
 intro c;induction c with
 | skip=>exact fun κs κ hκ=>hκ.norm
 | region id ops d=>exact fun κs κ hκ=>QV hφ hκ.norm
 | seq a b iha ihb=>exact fun κs κ hκ=>iha (fun n=>⟨aC C (φs n) fn N b (κs n),(κs n).exit,(κs n).ret⟩) _ ⟨ihb _ _ hκ,hκ.exit,hκ.ret⟩
 | cond c a b iha ihb=>
  intro κs κ hκ;refine⟨fun n=>mY (hφ.up n) (.cond c a b) _ _ (kle hκ n),fun tm H x h=>?_⟩
  have h:(ob (ob (ev c (.now tm)) zA.asBool) fun t=>Bool.rec (motive:=fun _=>sB) (aC C φ fn N b κ tm H) (aC C φ fn N a κ tm H) t)=some x:=h
  rw[tA]at h;obtain⟨t,h1,h2⟩:=h
  have key:∀n,(Bool.rec (motive:=fun _=>sB) (aC C (φs n) fn N b (κs n) tm H) (aC C (φs n) fn N a (κs n) tm H) t:sB)=some x->aC C (φs n) fn N (.cond c a b) (κs n) tm H=some x:=by
   simp_all [aC]
  cases t with
  | true=>obtain⟨n,hn⟩:=(iha _ _ hκ).ex _ _ _ h2;grind
  | false=>obtain⟨n,hn⟩:=(ihb _ _ hκ).ex _ _ _ h2;grind
 | block id c ih=>
  intro κs κ hκ;refine ih (fun n=>⟨(κs n).norm,fun i tm H=>Bool.rec (motive:=fun _=>sB) ((κs n).exit i tm H) ((κs n).norm tm H) (Nat.beq id i),(κs n).ret⟩) _ ⟨hκ.norm,fun i=>⟨fun n tm H x h=>?_,fun tm H x h=>?_⟩,hκ.ret⟩
  ·simp only[bI]at h ⊢
   split at h
   ·rename_i e;rw[yab e];exact hκ.norm.up n _ _ _ h
   ·rename_i e;rw[yaa e];exact(hκ.exit i).up n _ _ _ h
  ·simp only[bI]at h ⊢
   split at h
   ·rename_i e;obtain⟨n,hn⟩:=hκ.norm.ex _ _ _ h;grind
   ·rename_i e;obtain⟨n,hn⟩:=(hκ.exit i).ex _ _ _ h;grind
 | loop live c ih=>
  intro κs κ hκ;refine⟨fun n=>mY (hφ.up n) (.loop live c) _ _ (kle hκ n),fun tm H x h=>?_⟩
  obtain⟨m,hm⟩:=Wj h
  have it:∀m,iM (fun n=>(Nat.rec (motive:=fun _=>Tm->xA->sB) (fun _ _=>none) (fun _ r tm H=>aC C (φs n) fn N c ⟨r,(κs n).exit,(κs n).ret⟩ (keep live.kept tm) H) m:Tm->xA->sB))
    (Nat.rec (motive:=fun _=>Tm->xA->sB) (fun _ _=>none) (fun _ r tm H=>aC C φ fn N c ⟨r,κ.exit,κ.ret⟩ (keep live.kept tm) H) m):=by
   intro m;induction m with
   | zero=>exact⟨fun _ _ _ _ h=>h,fun _ _ _ h=>by cases h⟩
   | succ m ihm=>
    have:=ih _ _ (⟨ihm,hκ.exit,hκ.ret⟩:Az (fun n=>⟨(Nat.rec (motive:=fun _=>Tm->xA->sB) (fun _ _=>none) (fun _ r tm H=>aC C (φs n) fn N c ⟨r,(κs n).exit,(κs n).ret⟩ (keep live.kept tm) H) m:Tm->xA->sB),(κs n).exit,(κs n).ret⟩) ⟨(Nat.rec (motive:=fun _=>Tm->xA->sB) (fun _ _=>none) (fun _ r tm H=>aC C φ fn N c ⟨r,κ.exit,κ.ret⟩ (keep live.kept tm) H) m:Tm->xA->sB),κ.exit,κ.ret⟩)
    exact⟨fun n tm H x h=>this.up n _ _ _ h,fun tm H x h=>this.ex _ _ _ h⟩
  obtain⟨n,hn⟩:=(it m).ex _ _ _ hm
  exact⟨n,(Ox fun m y hy=>Wz (fun κ κ' h=>mY (fun _ _ _ _ h=>h) c κ κ' h) live.kept m _ _ _ hy).2 ⟨m,hn⟩⟩
 | exit id=>exact fun κs κ hκ=>hκ.exit id
 | ret=>exact fun κs κ hκ=>hκ.ret
 | cut live c ih=>exact fun κs κ hκ=>⟨fun n tm H x h=>(ih _ _ hκ).up n _ _ _ h,fun tm H x h=>(ih _ _ hκ).ex _ _ _ h⟩
 | range i pl f ps as c ih=>exact fun κs κ hκ=>⟨fun n tm H x h=>(DE hφ hκ).up n _ _ _ h,fun tm H x h=>(DE hφ hκ).ex _ _ _ h⟩
theorem zao{live:PI}{c:zC}{κ:Kt}{tm:Tm}{H:xA}:aC C φ fn N (.loop live c) κ tm H=aC C φ fn N c ⟨aC C φ fn N (.loop live c) κ,κ.exit,κ.ret⟩ (keep live.kept tm) H:=by
 have self:eM φ φ:=fun _ _ _ _ h=>h
 have up:∀m,nI (Nat.rec (motive:=fun _=>Tm->xA->sB) (fun _ _=>none) (fun _ r tm H=>aC C φ fn N c ⟨r,κ.exit,κ.ret⟩ (keep live.kept tm) H) m)
   (Nat.rec (motive:=fun _=>Tm->xA->sB) (fun _ _=>none) (fun _ r tm H=>aC C φ fn N c ⟨r,κ.exit,κ.ret⟩ (keep live.kept tm) H) (m+1)):=Wz (mY self c) live.kept
 have some_iff:∀tm H x,aC C φ fn N (.loop live c) κ tm H=some x ↔ ∃m,(Nat.rec (motive:=fun _=>Tm->xA->sB) (fun _ _=>none) (fun _ r tm H=>aC C φ fn N c ⟨r,κ.exit,κ.ret⟩ (keep live.kept tm) H) m:Tm->xA->sB) tm H=some x:=
  fun tm H x=>Ox fun m y hy=>up m _ _ _ hy
 have sup:Az (fun m=>⟨(Nat.rec (motive:=fun _=>Tm->xA->sB) (fun _ _=>none) (fun _ r tm H=>aC C φ fn N c ⟨r,κ.exit,κ.ret⟩ (keep live.kept tm) H) m:Tm->xA->sB),κ.exit,κ.ret⟩) ⟨aC C φ fn N (.loop live c) κ,κ.exit,κ.ret⟩:=
  ⟨⟨up,fun tm H x h=>(some_iff tm H x).1 h⟩,fun i=>⟨fun _ _ _ _ h=>h,fun _ _ _ h=>⟨0,h⟩⟩,⟨fun _ _ _ _ h=>h,fun _ _ _ h=>⟨0,h⟩⟩⟩
 have key:∀x,aC C φ fn N (.loop live c) κ tm H=some x ↔ aC C φ fn N c ⟨aC C φ fn N (.loop live c) κ,κ.exit,κ.ret⟩ (keep live.kept tm) H=some x:=by
  intro x;rw[some_iff];constructor
  ·rintro⟨m,hm⟩
   cases m with
   | zero=>cases hm
   | succ m=>exact mY self c ⟨(Nat.rec (motive:=fun _=>Tm->xA->sB) (fun _ _=>none) (fun _ r tm H=>aC C φ fn N c ⟨r,κ.exit,κ.ret⟩ (keep live.kept tm) H) m:Tm->xA->sB),κ.exit,κ.ret⟩ ⟨aC C φ fn N (.loop live c) κ,κ.exit,κ.ret⟩ ⟨fun tm H y hy=>(some_iff tm H y).2 ⟨m,hy⟩,fun _ _ _ _ h=>h,fun _ _ _ h=>h⟩ _ _ _ hm
  ·intro h
   obtain⟨m,hm⟩:=(Ks (φs:=fun _=>φ) ⟨fun _=>self,fun _ _ _ _ h=>⟨0,h⟩⟩ c _ _ sup).ex _ _ _ h
   exact⟨m+1,hm⟩
 cases h:aC C φ fn N (.loop live c) κ tm H with
 | some x=>grind
 | none=>
  cases h2:aC C φ fn N c ⟨aC C φ fn N (.loop live c) κ,κ.exit,κ.ret⟩ (keep live.kept tm) H with
  | none=>rfl
  | some x=>simp_all
end
end Go.Am
namespace Go.Am
open Go Go.RowKit
def Pf:List mD->Bool
 | .reg .. :: _=>true
 | _=>false
section
variable {P:Program}{C:rA}{B N:Nat}{I:World->Prop}{μ:Mu}{w:World}{base:List Frame}{m:Machine}
theorem Uf(hF:Be P C){f:Nat}{args:List zA}{args':Array Value}{H:xA}(hH:wB B N μ H w)(hl:rB μ args args'.toList){g:pB}(he:eI C f args false=some g) :
  pD P C B N μ base (lone (Frame.enter P f args' .normal) base w) w (.next ⟨g,[],H⟩):=
 ⟨μ,_,[],w,.refl _ _,fun _ _ h=>h,Below.refl N w,hH,(Ko (cur:=some H) hF he hl).1,.nil⟩
end
end Go.Am
namespace Go.Am
open Go Go.RowKit
inductive uJ (C:rA):yF->yF->Prop
 | refl (o:yF):uJ C o o
 | step {o o':yF}:uJ C (tS C o) o'->uJ C o o'
 | forget {todo:List mD} {tm tm':Tm} {R:kI} {cs:List pB} {H:xA} {o':yF}:Pf todo=false->(∀i v,tm'.get i=some v->tm.get i=some v)->uJ C (.next ⟨⟨todo,tm',R⟩,cs,H⟩) o'->uJ C (.next ⟨⟨todo,tm,R⟩,cs,H⟩) o'
theorem uJ.trans{C:rA}{a b c:yF}(h:uJ C a b)(k:uJ C b c):uJ C a c:=by
 induction h with
 | refl=>exact k
 | step _ ih=>exact .step (ih k)
 | forget h1 h2 _ ih=>exact .forget h1 h2 (ih k)
section
variable {P:Program}{C:rA}{B N:Nat}{I:World->Prop}{μ:Mu}{w:World}{base:List Frame}{m:Machine}
theorem lE.forget{n:Nat}{tm tm':Tm}{tmps:Array Value}(h:lE μ n tm tmps)(hs:∀i v,tm'.get i=some v->tm.get i=some v):lE μ n tm' tmps:=⟨h.1,fun i v hv=>h.2 i v (hs i v hv)⟩
theorem VQ{todo:List mD}{tm tm':Tm}{R:kI}{acs:List pB}{H:xA}(hr:Pf todo=false)(hs:∀i v,tm'.get i=some v->tm.get i=some v)(h:pD P C B N μ base m w (.next ⟨⟨todo,tm,R⟩,acs,H⟩)) :
  pD P C B N μ base m w (.next ⟨⟨todo,tm',R⟩,acs,H⟩):=by
 obtain⟨μ',b,cs,w',h1,h2,h3,h4,h5,h6⟩:=h
 obtain⟨bfn,btmps,btodo,bdefers,bmode,bkind,bround⟩:=b
 refine⟨μ',_,cs,w',h1,h2,h3,h4,⟨h5.rest,?_⟩,h6⟩
 have hb:=h5.body
 simp only at hb ⊢
 split at hb
 ·rename_i hm
  rw[yab hm]
  cases hb with
  | plain a t=>exact .plain a (t.forget hs)
  | reg _ _ _ _=>cases hr
  | mid _ _ _ _ _=>cases hr
 ·rename_i hm
  rw[yaa hm];exact hb.forget hs
theorem pD.reach(hS:vJ P C B N I)(hI:I w){o o':yF}(h:uJ C o o'):pD P C B N μ base m w o->pD P C B N μ base m w o':=by
 induction h with
 | refl=>exact id
 | step _ ih=>grind [BO]
 | forget hr hs _ ih=>grind [VQ]
end
def Dg(C:rA)(f:Nat)(ds:List jG)(fr:pB)(H:xA)(v:zA)(fl:Bool:=false):Prop:=
 fr.R.mode=.returning/\fr.R.defers=ds/\fr.R.deferred=fl/\fr.R.fn=f/\∃fn l,C.fns.get f=some fn/\rS C H fr.tm fn.results.toList=some l/\v=Bt l
def Us(r:lL)(l:Nat)(tm:Tm):pB:=⟨[.code r.assign,.beginRound,.code r.body],tm,⟨r.fn,r.n,[],.run,false,some l⟩⟩
def zbn(f:Nat)(ds:List jG)(fr:pB)(v:zA)(fl:Bool:=false):Prop:=fr.R.mode=.panicking [⟨v,false⟩]/\fr.R.defers=ds/\fr.R.deferred=fl/\fr.R.fn=f
def tO(C:rA)(f:Nat)(ds:List jG)(fr:pB)(H:xA)(o:kG)(fl:Bool:=false):Prop:=if o.p=true then zbn f ds fr o.v fl/\∃fn,C.fns.get f=some fn else Dg C f ds fr H o.v fl
structure nP (C:rA) (φ:aD):Prop where
 fn:∀f args H x,φ (.func f) args H=some x->∃g,eI C f args false=some g/\∀acs,∃fr',uJ C (.next ⟨g,acs,H⟩) (.next ⟨fr',acs,x.2⟩)/\tO C f [] fr' x.2 x.1
 rd:∀l args H x,φ (.yld l) args H=some x->∃r tm,eH H l=some r/\aW r.n r.params args r.tm=some tm/\x.1.p=false/\∀c acs c',iG c x.1.v=some c'->uJ C (.next ⟨Us r l tm,c::acs,H⟩) (.next ⟨c',acs,x.2⟩)
abbrev wV:=List jG->yF->kG × xA->Prop
def Fin (C:rA)(E:wV)(ds:List jG)(o:yF)(x:kG × xA):Prop:=∃o',uJ C o o'/\E ds o' x
theorem Fin.step{C:rA}{E:wV}{ds:List jG}{o:yF}{x:kG × xA}(h:Fin C E ds (tS C o) x):Fin C E ds o x:=by
 obtain⟨fr,h1,h2⟩:=h;exact⟨fr,.step h1,h2⟩
theorem Fin.of{C:rA}{E:wV}{ds:List jG}{o o':yF}{x:kG × xA}(hr:uJ C o o')(h:Fin C E ds o' x):Fin C E ds o x:=by
 obtain⟨fr,h1,h2⟩:=h;exact⟨fr,hr.trans h1,h2⟩
abbrev RR(f N:Nat)(ro:Option Nat)(ds:List jG)(fl:Bool:=false):kI:=⟨f,N,ds,.run,fl,ro⟩
structure Gm (C:rA) (E:wV) (G:kG × xA->Prop) (f N:Nat) (ro:Option Nat) (acs:List pB) (fl:Bool:=false):Prop where
 not:∀ds todo tm H x,¬ E ds (.next ⟨⟨todo,tm,RR f N ro ds fl⟩,acs,H⟩) x
 all:ro=none->∀x,G x
 pop:ro=none->∀r ds o x,x.1.p=false->E (⟨none,r,[]⟩::ds) o x->gU x.2 r=some (some [])->∃o',uJ C o o'/\E ds o' (x.1,setBlk x.2 r (.deferred none))
 pan:∀ds todo tm x,G x->x.1.p=true->E ds (.next ⟨aT ⟨todo,tm,RR f N ro ds fl⟩ [⟨x.1.v,false⟩],acs,x.2⟩) x
structure Gi (C:rA) (E:wV) (G:kG × xA->Prop) (f N:Nat) (ro:Option Nat) (acs:List pB) (κ:Kt) (k:List mD) (fl:Bool:=false):Prop where
 norm:∀ds x tm H,G x->κ.norm tm H=some x->Fin C E ds (.next ⟨⟨k,tm,RR f N ro ds fl⟩,acs,H⟩) x
 exit:∀ds x i tm H,G x->κ.exit i tm H=some x->Fin C E ds (.next ⟨⟨.code (.exit i)::k,tm,RR f N ro ds fl⟩,acs,H⟩) x
 ret:∀ds x tm H,G x->κ.ret tm H=some x->∀k',Fin C E ds (.next ⟨⟨.code .ret::k',tm,RR f N ro ds fl⟩,acs,H⟩) x
structure Dh where
 i:Nat
 pl:List Nat
 f:Operand
 ps:Array Nat
 as:List (Nat × Array Oper)
 c:zC
def dJ(c:zC):List Dh:=
 zC.rec (motive:=fun _=>List Dh) [] (fun _ _ _=>[]) (fun _ _ a b=>qD a b) (fun _ _ _ a b=>qD a b) (fun _ _ a=>a) (fun _ _ a=>a) (fun _=>[]) [] (fun _ _ a=>a)
  (fun i pl f ps as c a=>⟨i,pl,f,ps,as,c⟩::a) c
section
variable {C:rA}{φ:aD}{E:wV}{G:kG × xA->Prop}{ds:List jG}{ro:Option Nat}{f N:Nat}{acs:List pB}{R:kI}{κ:Kt}{k:List mD}{x:kG × xA}{all:Array Oper}{fl:Bool}
theorem fH(hR:R.mode.running=true){todo:List mD}{tm:Tm}{H:xA}:tS C (.next ⟨⟨todo,tm,R⟩,acs,H⟩)=lQ C todo tm R acs H:=by
 show(bif R.mode.running then lQ C todo tm R acs H else _)=_
 grind
theorem IX{fr c c':pB}{H:xA}{v:zA}(hr:Dg C f [] fr H v)(hf:iG c v=some c'):tS C (.next ⟨fr,c::acs,H⟩)=.next ⟨c',acs,H⟩:=by
 obtain⟨h1,h2,h3,h4,fn,l,h5,h6,rfl⟩:=hr
 obtain⟨todo,tm,ffn,n,defers,mode,deferred,round⟩:=fr
 simp only at h1 h2 h3 h4 h6
 subst h1 h2 h3 h4
 show Br C ⟨todo,tm,_⟩ (c::acs) H=_
 unfold Br;rw[h5,qA,h6];simp only[cond_false];rw[hf];rfl
theorem RN{fr c:pB}{H:xA}{v:zA}{g:Nat}{fn:Func}(hrun:c.R.mode=.run)(hr:zbn g [] fr v)(hf:C.fns.get g=some fn):tS C (.next ⟨fr,c::acs,H⟩)=.next ⟨aT c [⟨v,false⟩],acs,H⟩:=by
 obtain⟨h1,h2,h3,h4⟩:=hr
 obtain⟨todo,tm,ffn,n,defers,mode,deferred,round⟩:=fr
 simp only at h1 h2 h3 h4
 subst h1 h2 h3 h4
 show bJ (ob (C.fns.get ffn) fun _=>some (⟨aT c [⟨v,false⟩],acs,H⟩:iP)) 19=_
 rw[hf];rfl
theorem Uv(hφ:nP C φ){r:iI}{H:xA}{K:zA->xA->sB}(h:jF φ r H K=some x){fr:pB}
  (hK:∀v H' c',iG fr v=some c'->K v H'=some x->Fin C E ds (.next ⟨c',acs,H'⟩) x) (hfin:∀v,∃c',iG fr v=some c') (hrun:fr.R.mode=.run) (hP:x.1.p=true->E ds (.next ⟨aT fr [⟨x.1.v,false⟩],acs,x.2⟩) x):Fin C E ds (Gb r C fr acs H) x:=by
 cases r<;>simp only[jF]at h<;>try (cases h;done)
 case val v H'=>
  have h2:K v H'=some x:=h
  obtain⟨c',hc⟩:=hfin v
  show Fin C E ds (Ce v H' C fr acs H) x
  unfold Ce;rw[hc];exact hK _ _ _ hc h2
 case enter g args=>
  rw[tA]at h;obtain⟨p,h1,h4⟩:=h
  obtain⟨c',hc⟩:=hfin p.1.v
  show Fin C E ds (Io g args C fr acs H) x
  unfold Io;obtain⟨ge,he,r0⟩:=hφ.fn _ _ _ _ h1
  obtain⟨fr',r1,r2⟩:=r0 (fr::acs)
  rw[he]
  cases hp:p.1.p with
  | true=>
   rw[hp]at h4;have h4:some p=some x:=h4
   cases h4;unfold tO at r2;rw[yab hp]at r2;obtain⟨r2,fn,hfn⟩:=r2
   refine Fin.of (r1.trans (.step ?_)) ⟨_,.refl _,hP hp⟩
   rw[RN hrun r2 hfn];exact .refl _
  | false=>
   rw[hp]at h4;have h4:K p.1.v p.2=some x:=h4
   unfold tO at r2;rw[hp,yaa (by simp)]at r2
   refine Fin.of (r1.trans (.step ?_)) (hK _ _ _ hc h4)
   rw[IX r2 hc];exact .refl _
 case round l args=>
  rw[tA]at h;obtain⟨p,h1,h4⟩:=h
  rw[xB]at h4;obtain⟨c',hc⟩:=hfin p.1.v
  obtain⟨r,tm,e1,e2,e3,r0⟩:=hφ.rd _ _ _ _ h1
  show Fin C E ds (Il l args C fr acs H) x
  unfold Il;rw[e1,qA,e2,qA];exact Fin.of (r0 _ _ _ hc) (hK _ _ _ hc h4.2)
 case panic v=>
  cases h;exact⟨_,.refl _,hP rfl⟩
theorem lZ{m:qT}(h:m.running=true):m=.run:=by cases m<;>first | rfl | cases h
theorem SI(hφ:nP C φ)(hR:R.mode.running=true)(hN:R.n=N)(hP:∀todo tm,x.1.p=true->E ds (.next ⟨aT ⟨todo,tm,R⟩ [⟨x.1.v,false⟩],acs,x.2⟩) x){κn:Tm->xA->sB}(hκ:∀tm H,κn tm H=some x->Fin C E ds (.next ⟨⟨k,tm,R⟩,acs,H⟩) x) :
  ∀(l:List Oper) (tm:Tm) (H:xA),kK C φ all N κn l tm H=some x->Fin C E ds (lK C all k R acs l tm H) x:=by
 intro l;induction l with
 | nil=>exact fun tm H h=>hκ tm H h
 | cons o l ih=>
  intro tm H h;rw[cZ,tA]at h;obtain⟨w,h1,h⟩:=h
  rw[kZ,h1]
  cases w with
  | false=>simp_all
  | true=>
   rw[yab rfl]at h;simp only[];generalize (rE o.op).f C (.now tm) H=r at h
   cases hv:r.asVal with
   | some p=>
    have:r=.val p.1 p.2:=by cases r<;>simp[iI.asVal]at hv;rw[<- hv]
    grind [jF,fN]
   | none=>
    refine Uv hφ h (fun v H' c' hc hK=>?_) (fun v=>⟨⟨.ops all l::k,putA R.n tm o.dst v,R⟩,by unfold iG;simp only[hR,cond_true];rfl⟩) (lZ hR) (hP _ _)
    unfold iG at hc;simp only[hR,cond_true]at hc;have hc:some (⟨.ops all l::k,putA R.n tm o.dst v,R⟩:pB)=some c':=hc
    cases hc;refine .step ?_
    rw[fH hR,hN];rw[fN]at hK;exact ih _ _ hK.2
theorem Oy{H:xA}{old:Tm}{olds:List (Nat × List Nat)}{K:Tm->sB}:∀(l:List Nat) (tm:Tm),sH C H all N old olds K l tm=some x->∃tm',rQ C H all N old olds l tm=some tm'/\K tm'=some x:=by
 intro l;induction l with
 | nil=>exact fun tm h=>⟨tm,rfl,h⟩
 | cons i l ih=>
  intro tm h;rw[Pa,tA]at h;obtain⟨o,h1,h⟩:=h
  rw[tA]at h;grind [rQ,qA,tA,fN]
theorem Xn{C:rA}{o:Op}{e:kC}{H:xA}{r:iI}(hf:zK o=true)(h:(rE o).f C e H=r)(h1:∀q,r≠fJ q):False:=by
 have key:∀q:Option (zA × xA),fJ q=r->False:=fun q e=>h1 q e.symm
 cases o<;>simp only[zK]at hf<;>first
  | (cases hf;done)
  | exact key _ h
theorem OZ(hφ:nP C φ)(hR:R.mode.running=true)(hN:R.n=N)(hP:∀todo tm,x.1.p=true->E ds (.next ⟨aT ⟨todo,tm,R⟩ [⟨x.1.v,false⟩],acs,x.2⟩) x){κn:Tm->xA->sB}(hκ:∀tm H,κn tm H=some x->Fin C E ds (.next ⟨⟨k,tm,R⟩,acs,H⟩) x){old:Tm}{olds:List (Nat × List Nat)} :
  ∀(l:List iE) (tm:Tm) (H:xA),vI C φ all N old olds κn l tm H=some x->Fin C E ds (.next ⟨⟨.reg all old olds l::k,tm,R⟩,acs,H⟩) x:=by
 intro l;induction l with
 | nil=>
  intro tm H h;refine .step ?_
  rw[fH hR];exact hκ tm H h
 | cons st l ih=>
  intro tm H h
  cases hg:gS all st with
  | true=>
   rw[Hv hg,Pq]at h;obtain⟨h0,es,H',h1,h2,h3⟩:=h
   obtain⟨tm',hl1,hl2⟩:=Oy _ _ h3
   refine .step ?_
   rw[fH hR];show Fin C E ds (cQ all old olds (st::l) C k tm R acs H) x
   unfold cQ;have hg0:=vC.1 hg
   rw[sD]at hg0;have hnone:fC all.toList st.heavy=none:=by
    grind [zG]
   simp only[hnone];rw[dC,yab (vC.2 (by rw[sD];omega)),dC,yab (show Nat.blt (bA all.toList+bA all.toList) st.heavy=true from hg)]
   unfold Lm;rw[h0,show ∀(x:Option iP),yB true x=x from fun _=>rfl,h1,qA,h2,qA,hN,hl1,qA]
   exact ih _ _ hl2
  | false=>
  rw[Dy hg,tA]at h;obtain⟨o,h1,h⟩:=h
  rw[tA]at h;obtain⟨w,h2',h⟩:=h
  have hgn:Nat.blt (bA all.toList+bA all.toList) st.heavy=false:=hg
  by_cases hfl:Nat.blt (bA all.toList) st.heavy=true
  ·-- an operation that is done early
   unfold nT at h2';unfold dL at h1 h;rw[hfl]at h1 h2' h
   simp only[cond_true,tA,xB,ybb]at h1 h2'
   obtain⟨w',h2,⟨⟨hw,hfo⟩,hlo⟩,h2'⟩:=h2'
   cases h2'
   subst hw;simp only[if_true,cond_true]at h;have hval:∃v H',(rE o.op).f C (.mixed tm old (eE (Nat.sub st.heavy (Nat.succ (bA all.toList))) olds) (cG o.op)) H=.val v H':=by
    cases hr:(rE o.op).f C (.mixed tm old (eE (Nat.sub st.heavy (Nat.succ (bA all.toList))) olds) (cG o.op)) H with
    | val v H'=>simp_all
    | enter g args=>exact(Xn hfo hr fun q=>by cases q<;>simp[fJ]).elim
    | round g args=>exact(Xn hfo hr fun q=>by cases q<;>simp[fJ]).elim
    | panic v=>exact(Xn hfo hr fun q=>by cases q<;>simp[fJ]).elim
    | _=>rw[hr]at h;cases h
   obtain⟨v,H',hv⟩:=hval
   rw[hv]at h;have h:(cJ C o.type v fun v=>rL C H' all old olds (putA N tm o.dst v) (sH C H' all N old olds (fun tm=>vI C φ all N old olds κn l tm H') st.lights (putA N tm o.dst v)) st.again)=some x:=h
   rw[fN]at h;obtain⟨ha,hl⟩:=La _ h.2
   obtain⟨tm',hl1,hl2⟩:=Oy _ _ hl
   refine .step ?_
   rw[fH hR];show Fin C E ds (cQ all old olds (st::l) C k tm R acs H) x
   unfold cQ;have hnone:fC all.toList st.heavy=none:=by
    grind [zG,vC,sD]
   simp only[hnone];rw[hfl,cond_true,hgn,cond_false];unfold Ln;rw[h1,qA,h2,qA,hv,hlo];show Fin C E ds (bJ (ob (rQ C H' all R.n old olds st.lights (putA R.n tm o.dst v)) fun tm'=>some ⟨⟨.reg all old olds l::k,tm',R⟩,acs,H'⟩) 23) x
   rw[hN,hl1,qA];exact ih _ _ hl2
  have hfl:Nat.blt (bA all.toList) st.heavy=false:=Bool.eq_false_iff.2 hfl
  unfold nT at h2';unfold dL at h1 h;rw[hfl]at h1 h2' h
  simp only[cond_false,tA]at h1 h2'
  obtain⟨w',h2,h2'⟩:=h2'
  cases h2'
  simp only[cond_false]at h;have back0:∀v H' c',iG (⟨.reg all old olds (st::l)::k,tm,R⟩:pB) v=some c' →
    rL C H' all old olds (putA N tm o.dst v) (sH C H' all N old olds (fun tm=>vI C φ all N old olds κn l tm H') st.lights (putA N tm o.dst v)) st.again=some x->Fin C E ds (.next ⟨c',acs,H'⟩) x:=by
   intro v H' c' hc hK;unfold iG at hc;simp only[hR,cond_true]at hc;have hc:(ob (fC all.toList st.heavy) fun o=>some (⟨.reg all old olds (⟨all.size,st.lights,st.again⟩::l)::k,putA R.n tm o.dst v,R⟩:pB))=some c':=hc
   rw[h1,qA]at hc
   cases hc;refine .step ?_
   rw[fH hR,hN];obtain⟨ha,hl⟩:=La _ hK
   obtain⟨tm',hl1,hl2⟩:=Oy _ _ hl
   show Fin C E ds (cQ all old olds (⟨all.size,st.lights,st.again⟩::l) C k (putA N tm o.dst v) R acs H') x
   unfold cQ;have:fC all.toList all.size=none:=by rw[zG];simp
   simp only[this];rw[dC,yaa fun e=>by grind [vC,sD]];show Fin C E ds (Gs all old olds ⟨all.size,st.lights,st.again⟩ l C k (putA N tm o.dst v) R acs H') x
   unfold Gs;simp only[ha,hN,hl1,qA];exact ih _ _ hl2
  have back:∀v H' c',iG (⟨.reg all old olds (st::l)::k,tm,R⟩:pB) v=some c' →
    (cJ C o.type v fun v=>rL C H' all old olds (putA N tm o.dst v) (sH C H' all N old olds (fun tm=>vI C φ all N old olds κn l tm H') st.lights (putA N tm o.dst v)) st.again)=some x->Fin C E ds (.next ⟨c',acs,H'⟩) x:=by
   grind [fN]
  refine .step ?_
  rw[fH hR];show Fin C E ds (cQ all old olds (st::l) C k tm R acs H) x
  unfold cQ;simp only[h1];unfold Ll;rw[h2];simp only[];have hfin:∀v,∃c',iG (⟨.reg all old olds (st::l)::k,tm,R⟩:pB) v=some c':=fun v=>⟨⟨.reg all old olds (⟨all.size,st.lights,st.again⟩::l)::k,putA R.n tm o.dst v,R⟩,by
   unfold iG;simp only[hR,cond_true];show(ob (fC all.toList st.heavy) fun o=>some (⟨.reg all old olds (⟨all.size,st.lights,st.again⟩::l)::k,putA R.n tm o.dst v,R⟩:pB))=_
   rw[h1];rfl⟩
  cases w with
  | true=>
   simp only[if_true]at h;exact Uv hφ h back hfin (lZ hR) (hP _ _)
  | false=>
   simp only[ybq,if_false]at h;obtain⟨c',hc⟩:=hfin rD
   show Fin C E ds (Ce rD H C _ acs H) x
   unfold Ce;rw[hc];exact back0 _ _ _ hc h
theorem US{live:List Nat}{tm:Tm}{i:Nat}{v:zA}(h:(keep live tm).get i=some v):tm.get i=some v:=by
 unfold keep Tm.get at h;simp only[bI]at h;split at h
 case isFalse=>cases h
 rename_i hk;have key:∀live:List Nat,(Ez tm live).get i=some v->tm.get i=some v:=by
  intro live;induction live with
  | nil=>grind [Ez,Tr.get_leaf]
  | cons j live ih=>
   grind [Ez,Tr.get_set]
 grind
theorem JM{todo:List mD}(hr:Pf todo=false){live:List Nat}{tm:Tm}{H:xA}(h:Fin C E ds (.next ⟨⟨todo,keep live tm,R⟩,acs,H⟩) x):Fin C E ds (.next ⟨⟨todo,tm,R⟩,acs,H⟩) x:=
 Fin.of (.forget hr (fun _ _=>US) (.refl _)) h
theorem Pu(hE:Gm C E G f N ro acs fl){t1 t2:List mD}(h1:Pf t1=false)(hs:∀tm H,lQ C t1 tm (RR f N ro ds fl) acs H=lQ C t2 tm (RR f N ro ds fl) acs H){tm:Tm}{H:xA}(h:Fin C E ds (.next ⟨⟨t2,tm,RR f N ro ds fl⟩,acs,H⟩) x):Fin C E ds (.next ⟨⟨t1,tm,RR f N ro ds fl⟩,acs,H⟩) x:=by
 obtain⟨o',hr,hv⟩:=h
 refine⟨o',?_,hv⟩
 generalize ho:(.next ⟨⟨t2,tm,RR f N ro ds fl⟩,acs,H⟩:yF)=o at hr
 induction hr generalizing tm with
 | refl=>
  subst ho;exact(hE.not _ _ _ _ _ hv).elim
 | step h ih=>
  subst ho;refine .step ?_
  rw[fH rfl,hs,<- fH rfl];exact h
 | forget hr2 hs2 h ih=>
  cases ho;exact .forget h1 hs2 (ih hv rfl)
theorem UG{i:Nat}{t1 t2:List mD}{tm:Tm}{H:xA}:oR (some (.exit i)) C ⟨t1,tm,R⟩ acs H=oR (some (.exit i)) C ⟨t2,tm,R⟩ acs H:=by
 obtain⟨a,b,c,d,e,ro⟩:=R
 unfold oR
 cases ro<;>rfl
theorem Xw(hE:Gm C E G f N ro acs fl){i:Nat}{y:mD}(hy:∀j,y.blockId=some j->Nat.beq j i=false){tm:Tm}{H:xA}(h:Fin C E ds (.next ⟨⟨.code (.exit i)::k,tm,RR f N ro ds fl⟩,acs,H⟩) x):Fin C E ds (.next ⟨⟨.code (.exit i)::y::k,tm,RR f N ro ds fl⟩,acs,H⟩) x:=by
 refine Pu hE rfl (fun tm H=>?_) h
 show tZ i C (y::k) tm (RR f N ro ds fl) acs H=tZ i C k tm (RR f N ro ds fl) acs H
 grind [lR,tZ,UG]
theorem RM(hφ:nP C φ)(hE:Gm C E G f N none acs fl){κ:Kt}(hκ:Gi C E G f N none acs κ k fl){fo:Operand}{ps:Array Nat}{a b:Code}{tm:Tm}{H:xA}(h:wQ C φ f N κ fo ps.toList a b tm H=some x):Fin C E ds (.next ⟨⟨.code (.rangeFunc fo ps a b)::k,tm,RR f N none ds fl⟩,acs,H⟩) x:=by
 unfold wQ at h;rw[tA]at h;obtain⟨v,h1,h⟩:=h
 rw[tA]at h;obtain⟨⟨qf,q1,q2⟩,h2,h⟩:=h
 cases qf with
 | yld l=>cases h
 | func g=>
  simp only[xB,tA]at h;obtain⟨h3,y,h4,hy,r,h5,h6,z,h7,hz,d,h8,h9,h10⟩:=h
  have hy:y.1.p=false:=by simpa using hy
  have hz:z.1.p=false:=by simpa using hz
  have hp:C.prims.get g=none:=by
   cases hx:C.prims.get g with
   | none=>rfl
   | some u=>rw[hx]at h3;cases h3
  obtain⟨ge,he,r0⟩:=hφ.fn _ _ _ _ h4
  obtain⟨fr',r1,r2⟩:=r0 (⟨.inRange (H.next+1)::k,tm,RR f N none (⟨none,H.next,[]⟩::ds) fl⟩::acs)
  unfold tO at r2;rw[hy,yaa (by simp)]at r2
  refine .step ?_
  rw[fH rfl];show Fin C E ds (Gr fo ps a b C k tm (RR f N none ds fl) acs H) x
  have hin:wX C (H.next+1) v=some ge:=by
   grind [wX,qA]
  unfold Gr;rw[h1,qA];simp only[hin,qA];refine Fin.of (r1.trans (.step ?_)) (?_:Fin C E ds (.next ⟨⟨.endRange (H.next+1)::k,tm,RR f N none (⟨none,H.next,[]⟩::ds) fl⟩,acs,y.2⟩) x)
  ·rw[IX r2 (c':=⟨.endRange (H.next+1)::k,tm,RR f N none (⟨none,H.next,[]⟩::ds) fl⟩) rfl]
   exact .refl _
  refine .step ?_
  rw[fH rfl];show Fin C E ds (Gt (H.next+1) C k tm (RR f N none (⟨none,H.next,[]⟩::ds) fl) acs y.2) x
  unfold Gt;rw[h5,qA,h6];have key:Fin C E (⟨none,H.next,[]⟩::ds) (.next ⟨⟨(match r.pending with | some c=>.code c::k | none=>k),tm,RR f N none (⟨none,H.next,[]⟩::ds) fl⟩,acs,endLoop y.2 (H.next+1) r⟩) z:=by
   unfold xZ at h7;split at h7
   ·rename_i e;rw[e];exact hκ.norm _ _ _ _ (hE.all rfl _) h7
   ·rename_i e;rw[e];exact hκ.ret _ _ _ _ (hE.all rfl _) h7 k
   grind
  obtain⟨o',k1,k2⟩:=key
  have hd:gU z.2 H.next=some (some []):=by
   rw[h8]
   cases d with
   | none=>cases h9
   | some l=>cases l with | nil=>rfl | cons _ _=>cases h9
  obtain⟨o'',k3,k4⟩:=hE.pop rfl _ _ _ _ hz k2 hd
  cases h10;exact⟨o'',k1.trans k3,k4⟩
theorem Nm{α:Type}{a b:List α}(h:qD a b=[]):a=[]/\b=[]:=by grind [xG,List.append_eq_nil_iff]
theorem Qf(hφ:nP C φ)(hE:Gm C E G f N ro acs fl):∀(c:zC) (κ:Kt) (k:List mD),(ro=none\/dJ c=[])->Gi C E G f N ro acs κ k fl->∀ds x tm H,G x->aC C φ f N c κ tm H=some x->Fin C E ds (.next ⟨⟨.code (lD c)::k,tm,RR f N ro ds fl⟩,acs,H⟩) x:=by
 intro c;induction c with
 | skip=>
  intro κ k _ hκ ds x tm H hG h;refine .step ?_
  rw[fH rfl];exact hκ.norm _ _ _ _ hG h
 | region id ops d=>
  intro κ k _ hκ ds x tm H hG h;refine .step ?_
  rw[fH rfl]
  cases d with
  | false=>exact SI hφ rfl rfl (fun todo tm hp=>hE.pan _ _ _ _ hG hp) (fun tm H h=>hκ.norm _ _ _ _ hG h) _ _ _ h
  | true=>
   have h:(ob (ob (C.plans.get f) fun t=>t.get id) fun p=>yB (nS ops p) (sH C H ops N tm.cut p.olds (fun tm'=>vI C φ ops N tm.cut p.olds κ.norm p.stages tm' H) p.first tm.cut))=some x:=h
   rw[tA]at h;obtain⟨p,h1,h⟩:=h
   rw[xB]at h;obtain⟨tm',hl1,hl2⟩:=Oy _ _ h.2
   show Fin C E ds (Gu id ops C k tm (RR f N ro ds fl) acs H) x
   unfold Gu;rw[h1,qA,h.1,hl1];exact OZ hφ rfl rfl (fun todo tm hp=>hE.pan _ _ _ _ hG hp) (fun tm H h=>hκ.norm _ _ _ _ hG h) _ _ _ hl2
 | seq a b iha ihb=>
  intro κ k hn hκ ds x tm H hG h;have hna:ro=none\/dJ a=[]:=hn.imp id fun e=>(Nm e).1
  have hnb:ro=none\/dJ b=[]:=hn.imp id fun e=>(Nm e).2
  refine Pu hE (t1:=.code (lD (.seq a b))::k) rfl (t2:=.code (lD a)::.code (lD b)::k) (fun _ _=>rfl) ?_
  exact iha ⟨aC C φ f N b κ,κ.exit,κ.ret⟩ _ hna ⟨fun ds x tm H hG h=>ihb _ _ hnb hκ ds x tm H hG h,fun ds x i tm H hG h=>Xw hE (fun _ e=>by cases e) (hκ.exit _ _ _ _ _ hG h),hκ.ret⟩ ds x tm H hG h
 | cond c a b iha ihb=>
  intro κ k hn hκ ds x tm H hG h;have hna:ro=none\/dJ a=[]:=hn.imp id fun e=>(Nm e).1
  have hnb:ro=none\/dJ b=[]:=hn.imp id fun e=>(Nm e).2
  have h:(ob (ob (ev c (.now tm)) zA.asBool) fun t=>Bool.rec (motive:=fun _=>sB) (aC C φ f N b κ tm H) (aC C φ f N a κ tm H) t)=some x:=h
  rw[tA]at h;obtain⟨t,h1,h⟩:=h
  refine .step ?_
  rw[fH rfl];show Fin C E ds (Gv c (lD a) (lD b) C k tm (RR f N ro ds fl) acs H) x
  unfold Gv;rw[h1]
  cases t with
  | true=>exact iha _ _ hna hκ _ _ _ _ hG h
  | false=>exact ihb _ _ hnb hκ _ _ _ _ hG h
 | block id c ih=>
  intro κ k hn hκ ds x tm H hG h;refine .step ?_
  rw[fH rfl];have nx:∀ds x tm H,G x->κ.norm tm H=some x->Fin C E ds (.next ⟨⟨.inBlock id::k,tm,RR f N ro ds fl⟩,acs,H⟩) x:=by
   intro ds x tm H hG h;refine .step ?_
   rw[fH rfl];exact hκ.norm _ _ _ _ hG h
  refine ih ⟨κ.norm,fun i tm H=>Bool.rec (motive:=fun _=>sB) (κ.exit i tm H) (κ.norm tm H) (Nat.beq id i),κ.ret⟩ _ hn ⟨nx,fun ds x i tm H hG h=>?_,hκ.ret⟩ ds x tm H hG h
  dsimp only at h
  cases hb:Nat.beq id i with
  | true=>
   rw[hb]at h;refine .step ?_
   rw[fH rfl];show Fin C E ds (tZ i C (.inBlock id::k) tm (RR f N ro ds fl) acs H) x
   have e:lR i (.inBlock id::k)=some k:=by
    show(bif Nat.beq id i then some k else lR i k)=_
    grind
   unfold tZ;rw[e];exact hκ.norm _ _ _ _ hG h
  | false=>
   rw[hb]at h;exact Xw hE (fun j e=>by cases e;exact hb) (hκ.exit _ _ _ _ _ hG h)
 | loop live c ih=>
  intro κ k hn hκ ds x tm H hG h;obtain⟨m,hm⟩:=Wj h
  have it:∀(m:Nat) ds x tm H,G x->(Nat.rec (motive:=fun _=>Tm->xA->sB) (fun _ _=>none) (fun _ r tm H=>aC C φ f N c ⟨r,κ.exit,κ.ret⟩ (keep live.kept tm) H) m:Tm->xA->sB) tm H=some x->Fin C E ds (.next ⟨⟨.inLoop (lD c)::k,tm,RR f N ro ds fl⟩,acs,H⟩) x:=by
   intro m;induction m with
   | zero=>simp_all
   | succ m ihm=>
    intro ds x tm H hG h;refine JM (live:=live.kept) rfl (.step ?_)
    rw[fH rfl];exact ih ⟨_,κ.exit,κ.ret⟩ _ hn ⟨ihm,fun ds x i tm H hG h=>Xw hE (fun _ e=>by cases e) (hκ.exit _ _ _ _ _ hG h),hκ.ret⟩ _ _ _ _ hG h
  exact Pu hE (t1:=.code (lD (.loop live c))::k) rfl (t2:=.inLoop (lD c)::k) (fun _ _=>rfl) (it m _ _ tm H hG hm)
 | exit id=>exact fun κ k _ hκ ds x tm H hG h=>hκ.exit _ _ _ _ _ hG h
 | ret=>exact fun κ k _ hκ ds x tm H hG h=>hκ.ret _ _ _ _ hG h k
 | cut live c ih=>exact fun κ k hn hκ ds x tm H hG h=>JM rfl (ih κ k hn hκ _ _ _ _ hG h)
 | range i pl fo ps as c ih=>
  intro κ k hn hκ ds x tm H hG h;rcases hn with rfl | e
  ·exact RM hφ hE hκ h
  ·cases e
end
end Go.Am
