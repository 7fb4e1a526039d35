/- The simulation: leaving, rounds, regions in order, heavy operations. -/
import Derived.Test.YtefajchlhjcgpaaGreatDoorA03
set_option linter.all false
noncomputable section
namespace Go.Am
open Go Go.RowKit
section
variable {m:Option Nat}{D id:Nat}{o:Oper}{olds:List (Nat × List Nat)}{anc:Tr Nat}{old:Tm}{S:Nat->Bool}{order:List Nat}{st:lG}{stages:List lG}
section
variable {P:Program}{C:iA}{B N:Nat}{I:World->Prop}{μ ν:Mu}{H H':xA}{w:World}{tm:Tm}{R:bJ}{acs:List xC}{base cs:List Frame}
variable {b:Frame}{tmps:Array Value}{ds:List Deferred}{k:List oE}{k':List Item}{all:Array Oper}
def HQ (h:Fq μ none m):m=none:=by
 cases m with
 | none=>rfl
 | some l=>exact h.elim
theorem Zj{l:Nat} (h:Fq μ (some l) m):∃i,μ l=some i/\m=some i.b:=by
 cases m with
 | none=>exact h.elim
 | some m=>obtain⟨i,h1,h2⟩:=h;simp_all
theorem BC(hH:rB B N μ H w)(hcs:qG C μ acs cs)(hR:wH μ R (b.atR ⟨tmps,ds⟩ []))(ht:yF μ R.n tm tmps){todo:List oE}{btodo:List Item}{jump:Option Code}
  (h0:b.roundOf=none->Zm jump=true->step P (lone (b.atR ⟨tmps,ds⟩ btodo) (cs++base) w)=.next (lone { b.atR ⟨tmps,ds⟩ btodo with mode:=.returning } (cs++base) w))
  (h1:∀l c rest v w',b.roundOf=some l->b.kind=.normal->(Instr.endRound l jump).run P w=.ok v w'->step P (lone (b.atR ⟨tmps,ds⟩ btodo) (c::rest) w)=.next (lone (c.finish v) rest w')) :
  aD P C B N μ base (lone (b.atR ⟨tmps,ds⟩ btodo) (cs++base) w) w (fU jump C ⟨todo,tm,R⟩ acs H):=by
 unfold fU;simp only[]
 cases hr:R.roundOf with
 | none=>
  have hb:b.roundOf=none:=by
   have:=hR.round
   rw[hr]at this;exact HQ this
  cases hj:Zm jump with
  | false=>exact trivial
  | true=>exact UF hH hcs hR ht (.one (h0 hb hj))
 | some l=>
  obtain⟨i,hi,hb⟩:∃i,μ l=some i/\b.roundOf=some i.b:=by
   have:=hR.round
   rw[hr]at this;exact Zj this
  simp only[]
  cases hx:xJ H l with
  | none=>exact trivial
  | some r=>
   rw[pA]
   cases hcs with
   | nil=>exact trivial
   | @cons c b1 acs1 cs1 hc hcs1=>
    simp only[]
    cases hd:R.deferred with
    | true=>exact trivial
    | false=>
     have hkind:b.kind=.normal:=by have:=hR.kind;rw[hd]at this;exact this
     cases hf:kH c (.bool jump.isNone)with
     | none=>exact trivial
     | some c'=>
      obtain⟨hl,r',hg,hw,rel⟩:=Ot hH hx hi
      have run:(Instr.endRound i.b jump).run P w=.ok (.bool jump.isNone) (World.setBlk w i.b (.loop { r' with state:=if jump.isNone then .ready else .done,pending:=jump })):=by
       simp_all [Instr.endRound,Nq,Jr]
      refine⟨μ,_,cs1,_,.one (h1 i.b b1 (cs1++base) _ _ hb hkind run),fun _ _ h=>h,bZ (hH.own l i hl hi).1,?_,Hv hc hf (by rw[vA]),hcs1⟩
      refine hH.upd hg hi hl ?_
      rw[uJ];exact⟨_,rfl,rfl,rfl,rel.fn,rel.tm,rel.params,rel.assign,rel.body,rel.defers⟩
theorem XG  : ∀ {k:List oE} {k':List Item},xD (jG μ) k k'->yV id k=none->exitTo id k'=none:=by
 intro k k' h;induction h with
 | nil=>intro _;rfl
 | cons a l ih=>
  intro e
  cases a with
  | inBlock i=>
   grind [yV,oE.blockId,exitTo,gC]
  | _=>
   grind [yV,exitTo]
def zp5(hH:rB B N μ H w)(hcs:qG C μ acs cs)(hR:wH μ R (b.atR ⟨tmps,ds⟩ []))(ht:yF μ R.n tm tmps)(hk:xD (jG μ) k k')  :
  aD P C B N μ base (lone (b.atR ⟨tmps,ds⟩ (.code (.exit id)::k')) (cs++base) w) w (Df id C k tm R acs H):=by
 unfold Df
 cases he:yV id k with
 | some r=>
  obtain⟨r',h1,h2⟩:=zef hk he
  exact Bd hH hcs hR ht h2 (.one (stepR_exit h1))
 | none=>
  exact BC hH hcs hR ht (fun _ h=>by cases h) fun l c rest v w' hb hkd hr=>stepR_round_exit hb hkd (XG hk he) hr
def ret_ok(hH:rB B N μ H w)(hcs:qG C μ acs cs)(hR:wH μ R (b.atR ⟨tmps,ds⟩ []))(ht:yF μ R.n tm tmps) :
  aD P C B N μ base (lone (b.atR ⟨tmps,ds⟩ (.code .ret::k')) (cs++base) w) w (xRet C k tm R acs H):=
 BC hH hcs hR ht (fun hb _=>stepR_ret hb) fun _ _ _ _ _ hb hkd hr=>stepR_round_ret hb hkd hr
theorem CZ(hH:rB B N μ H w)(hcs:qG C μ acs cs)(hR:wH μ R (b.atR ⟨tmps,ds⟩ []))(ht:yF μ R.n tm tmps) :
  aD P C B N μ base (lone (b.atR ⟨tmps,ds⟩ []) (cs++base) w) w (fU none C ⟨[],tm,R⟩ acs H):=
 BC hH hcs hR ht (fun hb _=>stepR_end hb) fun _ _ _ _ _ hb hkd hr=>stepR_round_end hb hkd hr
theorem Dy {rest:List Oper}:pM C all k R acs (o::rest) tm H=match cF o.guard all tm with
  | none=>.fail 20
  | some false=>pM C all k R acs rest (putA R.n tm o.dst pD) H
  | some true=>match ((eE o.op).f C (.now tm) H).asVal with
   | some p=>pM C all k R acs rest (putA R.n tm o.dst p.1) p.2
   | none=>Lr ((eE o.op).f C (.now tm) H) C ⟨.ops all (o::rest)::k,tm,R⟩ acs H:=by
 show(match cF o.guard all tm with
  | some w=>Bool.rec (motive:=fun _=>dF) (pM C all k R acs rest (putA R.n tm o.dst pD) H)
     (let r:=(eE o.op).f C (.now tm) H
     match r.asVal with
     | some p=>pM C all k R acs rest (putA R.n tm o.dst p.1) p.2
     | none=>Lr r C ⟨.ops all (o::rest)::k,tm,R⟩ acs H) w
  | none=>.fail 20)=_
 grind
theorem HX{n i:Nat}(h:i<n):(List.range n).drop i=i::(List.range n).drop (i+1):=by
 grind [List.drop_eq_getElem_cons]
theorem HP(hS:uK P C B N I):∀(rest:List Oper) (i:Nat) (tm:Tm) (H:xA) (w:World) (μ:Mu) (tmps:Array Value),rest=all.toList.drop i->i<=all.size->I w->rB B N μ H w->qG C μ acs cs →
  wH μ R (b.atR ⟨tmps,ds⟩ [])->yF μ R.n tm tmps->xD (jG μ) k k' →
  aD P C B N μ base (lone (b.atR ⟨tmps,ds⟩ (.inRegion all ((List.range all.size).drop i)::k')) (cs++base) w) w (pM C all k R acs rest tm H):=by
 intro rest;induction rest with
 | nil=>
  intro i tm H w μ tmps hi hle hI hH hcs hR ht hk;have:all.size<=i:=by
   simp_all
  rw[ybt (by simp_all)]
  exact Bd hH hcs hR ht hk (.one stepR_region_end)
 | cons o rest ih=>
  intro i tm H w μ tmps hi hle hI hH hcs hR ht hk;obtain⟨h1,h2⟩:=qY hi
  have hlt:i<all.size:=by grind
  have ho:all[i]?=some o:=by simp_all
  rw[Dy,HX hlt]
  cases hw:cF o.guard all tm with
  | none=>exact trivial
  | some wn=>
   have hwn:=ht.wanted (all:=all) hw
   cases wn with
   | false=>
    refine aD.of_steps (.one (Yt ho hwn)) (fun _ _ h=>h) (Below.refl N w) ?_
    rw[Jy];have t:=ht.put (ds:=ds) (dst:=o.dst) Ri
    exact ih (i+1) _ _ _ _ _ h2 hlt hI hH hcs (hR.slots t.1) t hk
   | true=>
    have hop:=zm0 hS.tys hS.base hS.fns hS.prims hH hI (ht.erel (ds:=ds) hH.glob) o
    simp only[];generalize hr:(eE o.op).f C (.now tm) H=r at hop
    have hdef:(∃c,o.op=.defer c)->r=.fail\/∃d,r=.defer d:=fun h=>by grind [QQ]
    have hfr:cJ C μ acs.length none ⟨.ops all (o::rest)::k,tm,R⟩ (b.atR ⟨tmps,ds⟩ (.inRegion all (i::(List.range all.size).drop (i+1))::k')):=by
     refine⟨hR.todo,?_⟩
     rw[yab hR.running,<- HX hlt,hi];exact .plain (.cons (.ops all i hle) hk) ht
    cases hv:r.asVal with
    | none=>grind [QU]
    | some p=>
     have:r=.val p.1 p.2:=by cases r<;>simp[sK.asVal]at hv;rw[<- hv]
     subst this;simp only[];have hd:∀c,o.op≠.defer c:=fun c e=>by
      rcases hdef ⟨c,e⟩with h | ⟨d,h⟩<;>cases h
     rcases hop with h | ⟨f,args',h3,h4⟩
     ·obtain⟨v',w',μ',s,hm,hH',hb,hv⟩:=Wh (b:=b) (k':=k') (rest:=(List.range all.size).drop (i+1)) (cs:=cs++base) ho hwn hd h
      refine aD.of_steps (.one s) hm.f hb ?_
      have t:=(ht.mono hm).put (ds:=ds) (dst:=o.dst) hv
      exact ih (i+1) _ _ _ _ _ h2 hlt (hS.inv _ _ hb hI) hH' (hcs.mono hm) ((hR.mono hm).slots t.1) t (hk.mono fun _ _ r=>r.mono hm)
     ·obtain⟨v',w',s,μ',hm,hH',hb,hv⟩:=PT (b:=b) (k':=k') (rest:=(List.range all.size).drop (i+1)) (cs:=cs++base) (R:=fun v' w'=>∃ μ',μ.le μ'/\rB B N μ' p.2 w'/\Below N w w'/\vA μ' p.1 v') ho hwn hd h3 (h4.mono fun e w' hh=>by simp_all)
      refine aD.of_steps s hm.f hb ?_
      have t:=(ht.mono hm).put (ds:=ds) (dst:=o.dst) hv
      exact ih (i+1) _ _ _ _ _ h2 hlt (hS.inv _ _ hb hI) hH' (hcs.mono hm) ((hR.mono hm).slots t.1) t (hk.mono fun _ _ r=>r.mono hm)
theorem ziv(hS:uK P C B N I)(hI:I w)(hH:rB B N μ H w)(hcs:qG C μ acs cs)(hR:wH μ R (b.atR ⟨tmps,ds⟩ []))(hk:xD (jG μ) k k')
  (hr:aF μ all olds anc R.n old tm D S order tmps) (hst:lJ all.toList anc (st::stages) D=true) (hp:iH C μ acs.length H all olds R.n old tm D S) (ho:all[st.heavy]?=some o) :
  aD P C B N μ base (lone (b.atR ⟨tmps,ds⟩ (.inRegion all order::k')) (cs++base) w) w (Rd all old olds st stages o C k tm R acs H):=by
 have hlt:st.heavy<=all.size:=Nat.le_of_lt (ybe.1 ho).1
 obtain⟨S',order',tmps',μ',w',s,g,r1,p1⟩:=reach (b:=b) (k:=k') (cs:=cs++base) (ds:=ds) hS.tys hst hlt order S tmps μ w hH hr hp
 refine aD.of_steps s g.le g.below ?_
 replace hI:=hS.inv _ _ g.below hI
 replace hH:=g.heap
 replace hcs:=hcs.monoD fun d hd=>g.pd d (by omega)
 replace hR:=hR.mono g.le
 replace hk:xD (jG μ') k k':=hk.mono fun _ _ r=>r.mono g.le
 unfold Rd
 cases hw:cF o.guard all tm with
 | none=>exact trivial
 | some wn=>
  obtain⟨o',ho',hS',hb',_⟩:=r1.sched
  rw[ho]at ho';cases ho'
  have hwn:=r1.wanted ho hb' hw
  have hfr:cJ C μ' acs.length none ⟨.reg all old olds (st::stages)::k,tm,R⟩ (b.atR ⟨tmps',ds⟩ (.inRegion all (st.heavy::order')::k')):=by
   refine⟨(hR.slots r1.size).todo,?_⟩
   rw[yab hR.running];exact .wait r1 hst hlt (toWeak hst hlt r1 p1) hk
  cases wn with
  | false=>
   refine Zr (H:=H) hfr hcs μ'.le_refl hH (Below.refl N w') Ri ?_
   rw[Frame.finish_atR,ho,yai];exact .one (Yt ho hwn)
  | true=>
   have hop:=zm0 hS.tys hS.base hS.fns hS.prims hH hI (r1.erel (ds:=ds) hH.glob ho hS' hb') o
   exact QU hS hH hcs hfr ho hwn (fun h=>QQ h _ _ _) hop
theorem WT(hS:uK P C B N I)(hH:rB B N μ H w)(hcs:qG C μ acs cs)(hR:wH μ R (b.atR ⟨tmps,ds⟩ []))(hk:xD (jG μ) k k')
  (hr:aF μ all olds anc R.n old tm D S order tmps) (hst:lJ all.toList anc (st::stages) D=true) (hp:iH C μ acs.length H all olds R.n old tm D S) (hlt:all.size<st.heavy) (hle2:st.heavy<=all.size+all.size) :
  aD P C B N μ base (lone (b.atR ⟨tmps,ds⟩ (.inRegion all order::k')) (cs++base) w) w (Rf all old olds st stages (st.heavy-(all.size+1)) C k tm R acs H):=by
 obtain⟨o,D1,D2,ho,hf,h1,h2,h3⟩:=VJ hst hlt hle2
 generalize st.heavy-(all.size+1)=i at *
 obtain⟨o',ho',hi,hb,hD1⟩:=Oe h1
 rw[ho]at ho';cases ho'
 unfold Rf;generalize hx:(ob (tD all.toList i) fun o=>ob (cF o.guard all tm) fun w=>tB (w&&rE (Bn C o.op)) (ob ((eE o.op).f C (.mixed tm old (sF i olds) (eH o.op)) H).asVal fun p=>
  ob (vT C p.2 all R.n old olds st.lights (putA R.n tm o.dst p.1)) fun tm'=>some (⟨⟨.reg all old olds stages::k,tm',R⟩,acs,p.2⟩:oS)))=x
 cases x with
 | none=>exact trivial
 | some x=>
  simp only[sA,sB,bG,ybb]at hx;obtain⟨o',ho',wn,hw,⟨hwn,hlo⟩,p,hv,tm',hl,hx⟩:=hx
  have hlo:Bn C o'.op=none:=by
   cases hx:Bn C o'.op with
   | none=>rfl
   | some _=>rw[hx]at hlo;cases hlo
  have:o'=o:=by
   simp_all
  subst this;subst hwn
  cases hx;have hop:(eE o'.op).f C (aS tm old olds i o') H=.val p.1 p.2:=by
   show(eE o'.op).f C (.mixed tm old (sF i olds) (eH o'.op)) H=_
   generalize (eE o'.op).f C (.mixed tm old (sF i olds) (eH o'.op)) H=r at hv
   cases r<;>simp[sK.asVal]at hv
   rw[<- hv]
  obtain⟨l,hl2⟩:∃l,p.2=rF H l none:=WU hf hlo hop
  have hH':rB B N (μ.wait H.next (.cells (Tr.ofList l) (yB l) none,acs.length,i)) p.2 w:=by rw[hl2];exact hH.early
  have hle:μ.lw (μ.wait H.next (.cells (Tr.ofList l) (yB l) none,acs.length,i)):=fun _ _ h=>h
  have hpd:∀d,μ.ln d (μ.wait H.next (.cells (Tr.ofList l) (yB l) none,acs.length,i)):=fun d=>⟨hle,fun a x j ha=>by
   show(if a=H.next then _ else μ.pd a)=_
   rw[yaa]
   ·exact ha
   ·intro e
    have:=(hH.pnd _ _ _ ha).2.1
    rw[e,(hH.fresh _ (ybk _)).2]at this
    cases this⟩
  have hgrow:HM.HLe H p.2:=by
   intro b y hb;rw[hl2];show(H.t.set H.next _).get b=some y
   rw[Tr.get_set,yaa]
   ·exact hb
   ·intro e
    rw[e,(hH.fresh _ (ybk _)).2]at hb
    cases hb
  have r1:=(hr.light (v:=p.1) ho hi hb hD1).mono hle
  have p1:iH C (μ.wait H.next (.cells (Tr.ofList l) (yB l) none,acs.length,i)) acs.length p.2 all olds R.n old (putA R.n tm o'.dst p.1) D1 S:=by
   intro j hj hSj;rw[hD1]at hj;simp only[ycq,beq_iff_eq]at hj;rcases hj with hj | rfl
   ·rcases hp j hj hSj with⟨u,wu,vu,pu⟩ | ⟨u,vu,pu⟩
    ·exact .inl ⟨u,wu,vu,(pu.keep hr.reg hr.dclosed hj ho hi).grow hgrow⟩
    ·exact .inr ⟨u,vu,(pu.keep hr.reg hr.dclosed hj ho hi).mono (hpd _)⟩
   ·refine .inr ⟨o',p.1,fY.fresh hr.reg hr.dclosed ho hb hi hf hlo hw ⟨H,l,by rw[hop,hl2],?_⟩⟩
    show(if H.next=H.next then _ else μ.pd H.next)=_
    rw[yab rfl]
  obtain⟨r2,p2⟩:=Tn _ _ _ hl h2 r1 p1
  exact⟨_,_,cs,w,.refl _ _,hle,Below.refl N w,hH',⟨(hR.mono hle).todo,by rw[yab hR.running];exact .reg r2 h3 p2 (hk.mono fun _ _ r=>r.mono hle)⟩,hcs.monoD fun d _=>hpd d⟩
theorem AU{α β:Type}{f:α->Option β}(d:β):∀ {l:List α} {r:List β},pG f l=some r->(∀x∈l,f x=some ((f x).getD d))/\r=l.map fun x=>(f x).getD d
 | [],r,h=>by grind [Hh]
 | a::l,r,h=>by
  rw[lO,sA]at h;obtain⟨v,hv,h⟩:=h
  rw[sA]at h;obtain⟨m,hm,h⟩:=h
  cases h;obtain⟨h1,h2⟩:=AU d hm
  grind
theorem WR(hS:uK P C B N I)(hH:rB B N μ H w)(hcs:qG C μ acs cs)(hR:wH μ R (b.atR ⟨tmps,ds⟩ []))(hk:xD (jG μ) k k')
  (hr:aF μ all olds anc R.n old tm D S order tmps) (hst:lJ all.toList anc (st::stages) D=true) (hp:iH C μ acs.length H all olds R.n old tm D S) (hlt:all.size+all.size<st.heavy) :
  aD P C B N μ base (lone (b.atR ⟨tmps,ds⟩ (.inRegion all order::k')) (cs++base) w) w (Re all old olds st stages C k tm R acs H):=by
 obtain⟨D1,D2,hG,h2,h3⟩:=VI hst hlt
 unfold Re;generalize hx:(tB (mZ C all) (ob (La all old olds tm st.again) fun es=>ob (Cb C es H) fun H'=>ob (vT C H' all R.n old olds st.lights tm) fun tm'=>some (⟨⟨.reg all old olds stages::k,tm',R⟩,acs,H'⟩:oS)))=x
 cases x with
 | none=>exact trivial
 | some x=>
  simp only[sA,sB]at hx;obtain⟨hlen,es,he,H1,hg,tm',hl,hx⟩:=hx
  cases hx;unfold Cb at hg;simp only[sA,sB,ybb]at hg;obtain⟨rs,hrs,⟨hap,hrd⟩,hg⟩:=hg
  obtain⟨e1,e2⟩:=AU (wO.store 0 .nilptr .nilptr) he
  obtain⟨e3,e4⟩:=AU (RE.st 0 0 []) hrs
  have hef:∀i∈st.again,iZ all old olds tm i=some ((iZ all old olds tm i).getD (wO.store 0 .nilptr .nilptr))/\qX C ((iZ all old olds tm i).getD (wO.store 0 .nilptr .nilptr))=some ((qX C ((iZ all old olds tm i).getD (wO.store 0 .nilptr .nilptr))).getD (RE.st 0 0 [])):=
   fun i hi=>⟨e1 i hi,e3 _ (by grind)⟩
  generalize hE:(fun i=>(iZ all old olds tm i).getD (wO.store 0 .nilptr .nilptr))=ef at e2
  have hef:∀i∈st.again,iZ all old olds tm i=some (ef i)/\qX C (ef i)=some ((fun i=>(qX C (ef i)).getD (RE.st 0 0 [])) i):=by
   grind
  have hrs':rs=st.again.map fun i=>(qX C (ef i)).getD (RE.st 0 0 []):=by rw[e4,e2,List.map_map];rfl
  generalize (fun i=>(qX C (ef i)).getD (RE.st 0 0 []))=re at hef hrs'
  subst hrs'
  have hap:=QP hap
  have hrd:∀i∈st.again,Qv C H (re i):=by
   grind [mI,zbz]
  have hd1:vO C H (st.again.map re) H1:=by
   have:=vO.list vO.nil (l:=st.again.map re) (fun e he=>by grind) (by grind) hg
   rwa [yah]at this
  obtain⟨S',order',tmps',μ',w',seq,Hs,s1,b1,l1,d1,pm,dn,hm,hH',r1,p1,hin⟩:=zi0 (b:=b) (k:=k') (cs:=cs++base) (ds:=ds) (H:=H) hS.tys hS.base hG hlen hef hap hrd order S tmps μ w [] H D List.nodup_nil (fun i hi=>by cases hi) vO.nil (fun i hi=>by cases hi) (fun k=>by simp) hH hr hp
  have hapS:(seq.map re).Pairwise wU:=((pm.map re).symm.pairwise_iff (fun h=>wU.symm h)).1 hap
  have heq:HEq' μ' Hs H1:=dn.perm hd1 (pm.map re) hapS fun e he=>by grind
  have hH1:=hH'.congr' heq
  have p2:iH C μ' acs.length H1 all olds R.n old tm D1 S':=by
   cases hG0:st.again with
   | nil=>
    rw[hG0]at pm hd1;have hs0:seq=[]:=List.Perm.eq_nil pm
    subst hs0;have hle:HM.HLe Hs H1:=fun a y hy=>by rw[hd1.no a (fun e he=>by cases he),<- dn.no a (fun e he=>by cases he)];exact hy
    intro j hj hSj;rcases p1 j hj hSj with⟨u,wu,vu,pu⟩ | h
    ·exact .inl ⟨u,wu,vu,pu.grow hle⟩
    grind
   | cons g l=>
    have hg:g∈st.again:=by grind
    have hSg:S' g=true:=hin g (pm.mem_iff.2 hg)
    obtain⟨o,ho,_⟩:=hG.op g hg
    refine IT hG hlen (seq:=st.again) hG.done (fun i hi=>hin i (pm.mem_iff.2 hi)) hg (fun k hk=>r1.reg.up r1.closed ho (fun j hj=>r1.closed g o ho hSg j hj) hk) p1 H1
  obtain⟨r2,p3⟩:=Tn _ _ _ hl h2 r1 p2
  exact⟨_,_,cs,w',s1,l1,b1,hH1,⟨((hR.mono l1).slots r1.size).todo,by rw[yab hR.running];exact .reg r2 h3 p3 (hk.mono fun _ _ r=>r.mono l1)⟩,hcs.monoD fun d hd=>d1 d (by omega)⟩
end
end
section
variable {l:Nat}{i:BI}{f:Operand}{params:Array Nat}{assign body c:Code}{v:zA}{h:xC}
section
variable {P:Program}{C:iA}{B N:Nat}{I:World->Prop}{μ ν:Mu}{H H':xA}{w:World}{tm:Tm}{R:bJ}{acs:List xC}{base cs:List Frame}
variable {b:Frame}{tmps:Array Value}{ds:List Deferred}{k:List oE}{k':List Item}{all:Array Oper}
theorem zj5(hH:rB B N μ H w)(hcs:qG C μ acs cs)(hR:wH μ R (b.atR ⟨tmps,ds⟩ []))(ht:yF μ R.n tm tmps)(hk:xD (jG μ) k k') :
  aD P C B N μ base (lone (b.atR ⟨tmps,ds⟩ (.beginRound::k')) (cs++base) w) w (Ml C k tm R acs H):=by
 unfold Ml
 cases hr:R.roundOf with
 | none=>exact trivial
 | some l=>
  obtain⟨i,hi,hb⟩:∃i,μ l=some i/\b.roundOf=some i.b:=by
   have:=hR.round
   rw[hr]at this;exact Zj this
  rw[pA]
  cases hx:xJ H l with
  | none=>exact trivial
  | some r=>
   rw[pA]
   cases hst:Nat.beq (LoopState.tag r.state) 0 with
   | false=>exact trivial
   | true=>
    obtain⟨hl,r',hg,hw,rel⟩:=Ot hH hx hi
    have ready:r'.state=.ready:=by
     rw[rel.state]
     cases hs:r.state<;>rw[hs]at hst<;>first | rfl | grind [LoopState.tag,Nat.beq]
    have run:(Instr.beginRound i.b).run P w=.ok () (World.setBlk w i.b (.loop { r' with state:=.busy })):=by
     simp_all [Instr.beginRound,Nq,Jr]
    refine⟨μ,_,cs,_,.one (stepR_beginRound hb run),fun _ _ h=>h,bZ (hH.own l i hl hi).1,?_,⟨?_,?_⟩,hcs⟩
    ·refine hH.upd hg hi hl ?_
     rw[uJ];exact⟨_,rfl,rfl,rel.pending,rel.fn,rel.tm,rel.params,rel.assign,rel.body,rel.defers⟩
    ·refine⟨hR.fn,hR.size,hR.defers,hR.mode,hR.kind,?_⟩
     exact hR.round
    ·show if R.mode.running=true then uO C μ acs.length R.n _ k tm k' tmps else yF μ R.n tm tmps
     rw[yab hR.running];exact .plain hk ht
theorem TF {jump:Option Code}{w':World}{cs:List Frame}(hr:(Instr.endLoop l).run P w=.ok jump w') :
  step P (lone (b.atR ⟨tmps,ds⟩ (.endRangeFunc l::k')) cs w)=.next (lone (b.atR ⟨tmps,ds⟩ ((jump.map Item.code).toList++k')) cs w'):=
 step_lone_go (by simp_all [stepG,stepG.exec,Frame.atR])
theorem XN(hH:rB B N μ H w)(hcs:qG C μ acs cs)(hR:wH μ R (b.atR ⟨tmps,ds⟩ []))(ht:yF μ R.n tm tmps)(hk:xD (jG μ) k k')  (hi:μ l=some i) :
  aD P C B N μ base (lone (b.atR ⟨tmps,ds⟩ (.endRangeFunc i.b::k')) (cs++base) w) w (Mi l C k tm R acs H):=by
 unfold Mi
 cases hx:xJ H l with
 | none=>exact trivial
 | some r=>
  rw[pA]
  cases hst:Nat.beq (LoopState.tag r.state) 1 with
  | true=>exact trivial
  | false=>
   obtain⟨hl,r',hg,hw,rel⟩:=Ot hH hx hi
   have busy:r'.state≠.busy:=by
    intro e;rw[rel.state]at e;rw[e]at hst
    cases hst
   have run:(Instr.endLoop i.b).run P w=.ok r'.pending (World.setBlk w i.b (.loop { r' with state:=.exhausted })):=by
    simp_all [Instr.endLoop,Nq,Jr]
   refine⟨μ,_,cs,_,.one (TF run),fun _ _ h=>h,bZ (hH.own l i hl hi).1,?_,⟨?_,?_⟩,hcs⟩
   ·refine hH.upd hg hi hl ?_
    rw[uJ];exact⟨_,rfl,rfl,rel.pending,rel.fn,rel.tm,rel.params,rel.assign,rel.body,rel.defers⟩
   ·exact⟨hR.fn,hR.size,hR.defers,hR.mode,hR.kind,hR.round⟩
   ·show if R.mode.running=true then uO C μ acs.length R.n _ (match r.pending with | some c=>.code c::k | none=>k) tm ((r'.pending.map Item.code).toList++k') tmps else yF μ R.n tm tmps
    rw[yab hR.running,rel.pending]
    cases r.pending with
    | none=>exact .plain hk ht
    | some c=>exact .plain (.cons (.code c) hk) ht
theorem GA    {mark:List Deferred}{w1:World}{g:Nat}{args':Array Value}{cs:List Frame}
  (hE:(Instr.enterLoop b.fn tmps params assign body b.roundOf).run P w=.ok (l,mark) w1)
  (hA:(do let d <- resolve (Act.eval ⟨tmps,ds⟩) { callee:=.value f,args := #[.const (.func (.yield l) #[] #[])],argTypes := #[] } 0;invoke d.target d.args:Sem Next).run P w1=.ok (.enter g args') w1) :
  step P (lone (b.atR ⟨tmps,ds⟩ (.code (.rangeFunc f params assign body)::k')) cs w)=.next (lone (Frame.enter P g args' .normal) (b.atR ⟨tmps,mark++ds⟩ (.inRangeFunc l::k')::cs) w1):=by
 refine step_lone_go ?_
 have he:(Frame.eval { b.atR ⟨tmps,ds⟩ (.code (.rangeFunc f params assign body)::k')with todo:=.inRangeFunc l::k',defers:=mark++ds })=Act.eval ⟨tmps,ds⟩:=funext fun x=>by cases x<;>rfl
 simp_all [Frame.atR,stepG,stepG.exec,stepG.apply]
theorem UR   (e:Bb C l v=some h):∃g first cap,v=.func (.func g) first cap/\C.prims.get g=none/\yK C g (fD first (.func (.yld l) [] []::cap)) false=some h:=by
 grind [Bb,sA,QG]
def HZ{dp:Nat}(hS:uK P C B N I)    (e:Bb C l v=some h)(hi:μ l=some i) (hv:vA μ v (Act.eval ⟨tmps,ds⟩ f)){cur:Option xA} :
  ∃g args',(∀w,(do let d <- resolve (Act.eval ⟨tmps,ds⟩) { callee:=.value f,args := #[.const (.func (.yield i.b) #[] #[])],argTypes := #[] } 0;invoke d.target d.args:Sem Next).run P w=.ok (.enter g args') w) ∧
   cJ C μ dp cur h (Frame.enter P g args' .normal):=by
 obtain⟨g,first,cap,rfl,hp,he⟩:=UR e
 rw[vA]at hv;obtain⟨fn,a',c',hv,hf,h1,h2⟩:=hv
 cases hf;have hl:pB μ (fD first (.func (.yld l) [] []::cap)) (a' ++ #[Value.func (.yield i.b) #[] #[]]++c').toList:=by
  rw[aG];have:pB μ (zA.func (.yld l) [] []::cap) (Value.func (.yield i.b) #[] #[]::c'.toList):=.cons (by rw[vA];exact⟨_,_,_,rfl,⟨i,hi,rfl⟩,.nil,.nil⟩) h2
  simpa using h1.append this
 obtain⟨fr,fn,hfn,hb⟩:=Pw (cur:=cur) hS.fns he hl
 refine⟨g,_,fun w=>?_,fr⟩
 simp only[yad,resolve,hv,Deferred.ofValue,yae,yac,invoke];have:Array.map (Act.eval ⟨tmps,ds⟩) #[Operand.const (Value.func (.yield i.b) #[] #[])] = #[Value.func (.yield i.b) #[] #[]]:=by simp[Act.eval]
 rw[this];exact Sg hS.fns hfn hb
theorem zhg(hS:uK P C B N I)(hH:rB B N μ H w)(hcs:qG C μ acs cs)(hR:wH μ R (b.atR ⟨tmps,ds⟩ []))(ht:yF μ R.n tm tmps)(hk:xD (jG μ) k k')    :
  aD P C B N μ base (lone (b.atR ⟨tmps,ds⟩ (.code (.rangeFunc f params assign body)::k')) (cs++base) w) w (Mg f params assign body C k tm R acs H):=by
 unfold Mg
 cases hv:ev f (.now tm)with
 | none=>exact trivial
 | some v=>
  have hvr:=ht.erel (ds:=ds) hH.glob f _ hv
  rw[pA]
  cases hr:R.roundOf with
  | none=>
   have hb:b.roundOf=none:=by
    have:=hR.round
    rw[hr]at this;exact HQ this
   simp only[]
   cases hx:Bb C (H.next+1) v with
   | none=>exact trivial
   | some h=>
    have h1:=hH.newBlk (x:=.deferred (some [])) (o:=.deferred (some [])) (i:=⟨w.heap.size,true,0,0,false⟩) rfl rfl (by rw[uJ];exact⟨_,rfl,.nil⟩)
    have le1:μ.le (μ.ext H.next ⟨w.heap.size,true,0,0,false⟩):=hH.ext_le
    have le2:(μ.ext H.next ⟨w.heap.size,true,0,0,false⟩).le ((μ.ext H.next ⟨w.heap.size,true,0,0,false⟩).ext (newBlk H (.deferred (some []))).next ⟨w.heap.size+1,true,0,0,false⟩):=h1.ext_le
    have sz:(w.alloc (.deferred (some []))).heap.size=w.heap.size+1:=Array.size_push ..
    have h2:=h1.newBlk (x:=.loop ⟨.ready,none,R.fn,R.n,tm,params.toList,assign,body,H.next⟩) (o:=.loop { state:=.ready,pending:=none,fn:=b.fn,tmps,params,assign,body,defers:=w.heap.size })
     (i:=⟨w.heap.size+1,true,0,0,false⟩) sz.symm rfl (by
      rw[uJ];exact⟨_,rfl,rfl,rfl,hR.fn,(ht.mono le1.f).mono le2.f,rfl,rfl,rfl,⟨_,le2 _ _ Mu.ext_same,rfl⟩⟩)
    have le:=Mu.le_trans le1 le2
    have hi2:((μ.ext H.next ⟨w.heap.size,true,0,0,false⟩).ext (newBlk H (.deferred (some []))).next ⟨w.heap.size+1,true,0,0,false⟩) (H.next+1)=some ⟨w.heap.size+1,true,0,0,false⟩:=Mu.ext_same
    obtain⟨g,args',hA,hfr⟩:=HZ (ds:=ds) hS hx hi2 (hvr.mono le.f _ _) (cur:=some (newBlk (newBlk H (.deferred (some []))) (.loop ⟨.ready,none,R.fn,R.n,tm,params.toList,assign,body,H.next⟩)))
    have run:(Instr.enterLoop b.fn tmps params assign body b.roundOf).run P w=.ok (w.heap.size+1,[{ target:=.collected w.heap.size,args := #[] }]) ((w.alloc (.deferred (some []))).alloc (.loop { state:=.ready,pending:=none,fn:=b.fn,tmps,params,assign,body,defers:=w.heap.size })):=by
     simp_all [Instr.enterLoop]
    refine⟨_,_,b.atR ⟨tmps,{ target:=.collected w.heap.size,args := #[] }::ds⟩ (.inRangeFunc (w.heap.size+1)::k')::cs,_,.one (GA run (hA _)),le,?_,h2,hfr,.cons ⟨?_,?_⟩ (hcs.mono le)⟩
    ·refine(aT hH.size _).trans (aT ?_ _)
     rw[sz];have:=hH.size;omega
    ·have:=hR.mono le.f
     exact⟨this.fn,this.size,.cons ⟨⟨_,le2 _ _ Mu.ext_same,rfl⟩⟩ this.defers,this.mode,this.kind,by have:=this.round;rw[hr]at this;exact this⟩
    ·show if R.mode.running=true then uO C _ acs.length R.n none (.inRange (H.next+1)::k) tm (.inRangeFunc (w.heap.size+1)::k') tmps else _
     rw[yab hR.running];exact .plain (.cons (.inRange _ ⟨w.heap.size+1,true,0,0,false⟩ hi2) (hk.mono fun _ _ r=>r.mono le.f)) (ht.mono le.f)
  | some outer=>
   obtain⟨io,hio,hb⟩:∃i,μ outer=some i/\b.roundOf=some i.b:=by
    have:=hR.round
    rw[hr]at this;exact Zj this
   simp only[]
   cases hlo:xJ H outer with
   | none=>exact trivial
   | some o=>
    rw[pA]
    cases hx:Bb C H.next v with
    | none=>exact trivial
    | some h=>
     obtain⟨hl,r',hg,hw,rel⟩:=Ot hH hlo hio
     obtain⟨idf,hdf,hdf'⟩:=rel.defers
     have le:μ.le (μ.ext H.next ⟨w.heap.size,true,0,0,false⟩):=hH.ext_le
     have h2:=hH.newBlk (x:=.loop ⟨.ready,none,R.fn,R.n,tm,params.toList,assign,body,o.defers⟩) (o:=.loop { state:=.ready,pending:=none,fn:=b.fn,tmps,params,assign,body,defers:=r'.defers })
      (i:=⟨w.heap.size,true,0,0,false⟩) rfl rfl (by
       rw[uJ];exact⟨_,rfl,rfl,rfl,hR.fn,ht.mono le,rfl,rfl,rfl,⟨idf,le _ _ hdf,hdf'⟩⟩)
     have hi2:(μ.ext H.next ⟨w.heap.size,true,0,0,false⟩) H.next=some ⟨w.heap.size,true,0,0,false⟩:=Mu.ext_same
     obtain⟨g,args',hA,hfr⟩:=HZ (ds:=ds) hS hx hi2 (hvr.mono le.f _ _) (cur:=some (newBlk H (.loop ⟨.ready,none,R.fn,R.n,tm,params.toList,assign,body,o.defers⟩)))
     have run:(Instr.enterLoop b.fn tmps params assign body b.roundOf).run P w=.ok (w.heap.size,[]) (w.alloc (.loop { state:=.ready,pending:=none,fn:=b.fn,tmps,params,assign,body,defers:=r'.defers })):=by
      simp_all [Instr.enterLoop,Nq]
     refine⟨_,_,b.atR ⟨tmps,ds⟩ (.inRangeFunc w.heap.size::k')::cs,_,.one (GA run (hA _)),le,aT hH.size _,h2,hfr,.cons ⟨?_,?_⟩ (hcs.mono le)⟩
     ·have:=hR.mono le.f
      exact⟨this.fn,this.size,this.defers,this.mode,this.kind,this.round⟩
     ·show if R.mode.running=true then uO C _ acs.length R.n none (.inRange H.next::k) tm (.inRangeFunc w.heap.size::k') tmps else _
      rw[yab hR.running];exact .plain (.cons (.inRange _ ⟨w.heap.size,true,0,0,false⟩ hi2) (hk.mono fun _ _ r=>r.mono le.f)) (ht.mono le.f)
def TA  : step P (lone (b.atR ⟨tmps,ds⟩ (.code (.scope c)::k')) cs w)=.next (lone (b.atR ⟨tmps,ds⟩ (.code c::.inScope c::k')) cs w):=
 step_lone_go (by simp[stepG,stepG.exec,Frame.atR])
def TE  : step P (lone (b.atR ⟨tmps,ds⟩ (.inScope c::k')) cs w)=.next (lone (b.atR ⟨tmps,ds⟩ k') cs w):=
 step_lone_go (by simp[stepG,stepG.exec,Frame.atR])
def zqm(hS:uK P C B N I)(hI:I w)(hH:rB B N μ H w)(hcs:qG C μ acs cs)(hR:wH μ R (b.atR ⟨tmps,ds⟩ []))(ht:yF μ R.n tm tmps):∀(c:Code) {k:List oE} {k':List Item},xD (jG μ) k k' →
  aD P C B N μ base (lone (b.atR ⟨tmps,ds⟩ (.code c::k')) (cs++base) w) w ((znc c).f C k tm R acs H):=by
 intro c;induction c with
 | skip=>intro k k' hk;exact Ss hH hcs hR ht hk stepR_skip
 | region id ops d=>
  intro k k' hk
  cases d with
  | true=>exact zqb hS hH hcs hR ht hk
  | false=>
   refine aD.of_steps (.one stepR_region) (fun _ _ h=>h) (Below.refl N w) ?_
   have:=HP (base:=base) (all:=ops) hS ops.toList 0 tm.cut H w μ tmps (by simp) (yaw _) hI hH hcs hR ht.cut hk
   rw[ycr]at this;exact this
 | seq x y ihx _=>
  intro k k' hk;exact aD.of_steps (.one stepR_seq) (fun _ _ h=>h) (Below.refl N w) (ihx (.cons (.code y) hk))
 | cond c x y _ _=>intro k k' hk;exact zqi hH hcs hR ht hk
 | block id c _=>intro k k' hk;exact zj4 hH hcs hR ht hk
 | loop c _=>intro k k' hk;exact zoz hH hcs hR ht hk
 | rangeFunc f ps a c _ _=>intro k k' hk;exact zhg hS hH hcs hR ht hk
 | exit id=>intro k k' hk;exact zp5 hH hcs hR ht hk
 | scope c _=>intro k k' hk;exact Bd hH hcs hR ht (.cons (.code _) (.cons (.inScope _) hk)) (.one TA)
 | label l=>intro k k' hk;exact Ss hH hcs hR ht hk stepR_label
 | goto l=>intro k k' _;exact trivial
 | ret=>intro k k' _;exact ret_ok hH hcs hR ht
 | refuse s=>intro k k' _;exact trivial
theorem zp6(hS:uK P C B N I)(hI:I w)(hH:rB B N μ H w)(hcs:qG C μ acs cs)(hR:wH μ R (b.atR ⟨tmps,ds⟩ [])){todo:List oE}{btodo:List Item}(hb:uO C μ acs.length R.n (some H) todo tm btodo tmps) :
  aD P C B N μ base (lone (b.atR ⟨tmps,ds⟩ btodo) (cs++base) w) w (iT C todo tm R acs H):=by
 generalize hc:some H=cur at hb
 cases hb with
 | plain a t=>
  cases a with
  | nil=>exact CZ hH hcs hR t
  | cons i hk=>
   cases i with
   | code c=>exact zqm hS hI hH hcs hR t c hk
   | inBlock id=>exact Ss hH hcs hR t hk stepR_inBlock
   | inLoop c=>exact Bd hH hcs hR t (.cons (.code _) (.cons (.inLoop _) hk)) (.one stepR_inLoop)
   | inScope c=>exact Ss hH hcs hR t hk TE
   | ops all i hi=>exact HP hS _ i _ _ _ _ _ rfl hi hI hH hcs hR t hk
   | inRange l i hl=>exact trivial
   | endRange l i hl=>exact XN hH hcs hR t hk hl
   | beginRound=>exact zj5 hH hcs hR t hk
 | @reg _ all old _ olds stages _ order _ _ anc D S hr hst hp hk=>
  cases hc;show aD P C B N μ base _ w (tU all old olds stages C _ tm R acs H)
  unfold tU
  cases stages with
  | nil=>grind [zbv]
  | cons st stages=>
   by_cases hlt:st.heavy<=all.size
   ·obtain⟨_,_,D1,D2,h1,_⟩:=Sx hst hlt
    obtain⟨o,ho,_⟩:=Oe h1
    have:tD all.toList st.heavy=some o:=by grind [bG]
    simp only[this];grind [ziv]
   ·have:tD all.toList st.heavy=none:=by grind [bG]
    simp only[this];grind [qC,kD,WR,WT]
 | @mid _ all old _ olds lights again stages _ order _ _ anc D D2 S hr h1 h2 hw hk=>
  show aD P C B N μ base _ w (tU all old olds (⟨all.size,lights,again⟩::stages) C _ tm R acs H)
  unfold tU;have:tD all.toList all.size=none:=by rw[bG];simp
  simp only[this];grind [qC,kD,zc0]
 | wait _ _ _ _ _=>cases hc
end
end
section
variable {es:List Deferred}{dp f n:Nat}{fn:Func}{m:Machine}{fr:xC}
section
variable {P:Program}{C:iA}{B N:Nat}{I:World->Prop}{μ ν:Mu}{H H':xA}{w:World}{tm:Tm}{R:bJ}{acs:List xC}{base cs:List Frame}
variable {b:Frame}{tmps:Array Value}
theorem SX{block:Nat}{calls:List Deferred}{w':World}(hm:b.mode≠.run)(hd:b.defers={ target:=.collected block,args := #[] }::es)(hr:(Instr.takeDeferred block).run P w=.ok calls w') :
  step P (lone b cs w)=.next (lone { b with defers:=calls++es } cs w'):=by
 obtain⟨fn,tmps,todo,defers,mode,kind,round⟩:=b
 simp only at hm hd
 subst hd;refine step_lone_go ?_
 simp_all [stepG,unwind]
theorem SY {cap as:Array Value} (hm:b.mode≠.run)(hd:b.defers={ target:=.fn (.func f) cap,args:=as }::es)(hr:(callFunc f (as++cap)).run P w=.ok (.enter f (as++cap)) w) :
  step P (lone b cs w)=.next (lone (Frame.enter P f (as++cap) .deferred) ({ b with defers:=es }::cs) w):=by
 obtain⟨fn,tmps,todo,defers,mode,kind,round⟩:=b
 simp only at hm hd
 subst hd;refine step_lone_go ?_
 simp_all [stepG,unwind,callDeferred,invoke]
def Cv(c:Frame):Frame:=
 match c.mode with
 | .panicking ({ recovered:=true,.. }::older)=>
  match older.dropWhile (!·.goexit)with
  | []=>{ c with mode:=.returning }
  | rest=>{ c with mode:=.panicking rest }
 | _=>c
def SW {v:Value}{c:Frame}(hm:b.mode=.returning)(hd:b.defers=[])(hk:b.kind=.deferred)(hf:P.funcs[b.fn]?=some fn)(hr:(results fn b.tmps).run P w=.ok v w) :
  step P (lone b (c::cs) w)=.next (lone (Cv c) cs w):=by
 refine step_lone_go ?_
 simp only[stepG,unwind,doReturn,hm,hd,hk,hf,Sem.runT_eq,hr,GStep.bare_after];rfl
def Sk(tmps:Array Value)(r:ResultVar):Sem Value:=
 match r with
 | .tmp t=>pure (tmps.getD t undef)
 | .cell a t=>do loadVar t (<- asAddr (tmps.getD a undef))
theorem UH(fn:Func)(tmps:Array Value):results fn tmps=(do let vs <- fn.results.mapM (Sk tmps);pure (if h:vs.size=1 then vs[0]else .tuple vs)):=rfl
theorem UC(hT:mF P C)(hH:rB B N μ H w) (ht:yF μ n tm tmps):∀(rs:List ResultVar) (l:List zA),pG (fS C H tm) rs=some l →
  ∃vs,(rs.mapM (Sk tmps)).run P w=.ok vs w/\pB μ l vs:=by
 intro rs;induction rs with
 | nil=>intro l h;rw[Hh]at h;cases h;exact⟨[],by simp_all,.nil⟩
 | cons r rs ih=>
  intro l h;rw[lO,sA]at h;obtain⟨a,ha,h⟩:=h
  rw[sA]at h;obtain⟨m,hm,h⟩:=h
  cases h;obtain⟨vs,h1,h2⟩:=ih m hm
  rw[List.mapM_cons]
  cases r with
  | tmp t=>
   refine⟨_,?_,.cons (ht.2 t a ha) h2⟩
   grind [Sk,Sem.run_bind,Sem.run_pure,Result.andThen_ok]
  | cell x t=>
   simp only[fS,sA,Il]at ha;obtain⟨p,⟨av,hav,rfl⟩,ty,hty,c,hc,hl⟩:=ha
   have hv:=ht.2 x _ hav
   rw[vA]at hv;obtain⟨i,hi,hv⟩:=hv
   obtain⟨v',h3,h4⟩:=KG (P:=P) hH (hT.facts hty) hc hi hl
   refine⟨_,?_,.cons h4 h2⟩
   grind [asAddr,Sk,Sem.run_bind,Sem.run_pure,Result.andThen_ok]
theorem HR(hT:mF P C)(hH:rB B N μ H w) (ht:yF μ n tm tmps) {l:List zA}(h:rX C H tm fn.results.toList=some l) :
  ∃v,(results fn tmps).run P w=.ok v w/\vA μ (Gm l) v:=by
 obtain⟨vs,h1,h2⟩:=UC hT hH ht _ _ h
 refine⟨if h:vs.toArray.size=1 then vs.toArray[0]else .tuple vs.toArray,?_,?_⟩
 ·grind [UH,Array.mapM_eq_mapM_toList,Sem.run_bind,map_eq_pure_bind,Result.andThen_ok,Sem.run_pure]
 ·have hl:=h2.length
  cases l with
  | nil=>
   rw[pB]at h2;subst h2;rw[dif_neg (by simp)]
   show vA μ (.tup []) _
   rw[vA];exact⟨_,rfl,.nil⟩
  | cons a m=>
   cases m with
   | nil=>
    rw[pB]at h2;obtain⟨v,r,rfl,hv,hr⟩:=h2
    rw[pB]at hr;subst hr;rw[dif_pos (by simp)]
    exact hv
   | cons a2 m=>
    rw[dif_neg (by simp[hl])]
    show vA μ (.tup (a::a2::m)) _
    grind [vA]
def DefRel(μ:Mu):Option (List mH)->Option (List Deferred)->Prop
 | none,none=>True
 | some a,some b=>xD (Dc μ) a b
 | _,_=>False
def XY(hH:rB B N μ H w){l:Nat}{x:Option (List mH)}(h:pY H l=some x){i:BI}(h4:μ l=some i):B<=l/\∃x',H.t.get l=some (.deferred x)/\w.heap[i.b]?=some (.deferred x')/\DefRel μ x x':=by
 unfold pY at h;rw[sB,aE,sA]at h;obtain⟨h1,y,h2,h3⟩:=h
 have:y=.deferred x:=by cases y<;>simp[tA.asDeferred]at h3;rw[h3]
 subst this;obtain⟨o,h5,h6⟩:=hH.blk l _ i h2 h4
 rw[uJ]at h6;obtain⟨r',rfl,h7⟩:=h6
 refine⟨Nat.le_of_not_lt fun hlt=>?_,r',h2,h5,?_⟩
 ·have:=(hH.low l _ i hlt h2 h4).2.2
  cases this
 cases x<;>cases r'<;>exact h7
def VO{μ:Mu}{m:bW}{m':FrameMode}(h:Qx μ m m')(hm:m.running=false):m'≠.run:=by
 rintro rfl
 cases m<;>first | exact h.elim | cases hm
theorem zal(hS:uK P C B N I)(hH:rB B N μ H w)(hcs:qG C μ acs cs) (hr:wH μ fr.R b)(hm:fr.R.mode.running=false)(ht:yF μ fr.R.n fr.tm b.tmps){d:mH}{l:List mH}(hd:fr.R.defers=d::l) :
  aD P C B N μ base (lone b (cs++base) w) w (Gl C d l fr acs H):=by
 have hrun:=VO hr.mode hm
 have hds:=hr.defers
 rw[hd]at hds;generalize hbd:b.defers=bd at hds
 cases hds with
 | @cons _ e _ es h1 h2=>
  obtain⟨dfn,dr,dargs⟩:=d
  have h1:=h1.rel
  unfold Gl
  cases dfn with
  | none=>
   obtain⟨i,hi,rfl⟩:=h1
   simp only[]
   cases hx:pY H dr with
   | none=>exact trivial
   | some x=>
    rw[pA]
    cases x with
    | none=>exact trivial
    | some calls=>
     obtain⟨hl,x',hg,hw,rel⟩:=XY hH hx hi
     cases x' with
     | none=>exact rel.elim
     | some calls'=>
      have run:(Instr.takeDeferred i.b).run P w=.ok calls' (World.setBlk w i.b (.deferred none)):=by
       simp_all [Jr,getObj,Sem.run,Instr.takeDeferred]
      refine⟨μ,_,cs,_,.one (SX hrun hbd run),fun _ _ h=>h,bZ (hH.own dr i hl hi).1,?_,⟨?_,?_⟩,hcs⟩
      ·refine hH.upd hg hi hl ?_
       grind [uJ]
      ·refine⟨hr.fn,hr.size,?_,hr.mode,hr.kind,hr.round⟩
       show xD (Dc μ) (fD calls l) (calls'++es)
       rw[aG];exact xD.append rel h2
      ·show if fr.R.mode.running=true then uO C _ _ _ _ _ _ _ _ else _
       rw[yaa (by grind)]
       exact ht
  | some fn=>
   cases fn with
   | yld m=>exact trivial
   | func f=>
    obtain⟨fn,cap,as,rfl,hfn,hl⟩:=h1
    cases hfn;simp only[]
    cases hp:C.prims.get f with
    | some x=>exact trivial
    | none=>
     simp only[]
     cases he:yK C f dargs true with
     | none=>exact trivial
     | some g=>
      obtain⟨h3,fn,hfn,hb⟩:=Pw (cur:=some H) hS.fns he hl
      refine⟨μ,_,{ b with defers:=es }::cs,w,.one (SY hrun hbd (Sg hS.fns hfn hb)),fun _ _ h=>h,Below.refl N w,hH,h3,.cons ⟨⟨hr.fn,hr.size,h2,hr.mode,hr.kind,hr.round⟩,?_⟩ hcs⟩
      show if fr.R.mode.running=true then uO C _ _ _ _ _ _ _ _ else _
      rw[yaa (by grind)]
      exact ht
theorem cJ.still {cur cur':Option xA} (h:cJ C μ dp cur fr b)(hm:fr.R.mode.running=false):cJ C μ dp cur' fr b:=by
 refine⟨h.rest,?_⟩
 have:=h.body
 simp_all
theorem XS{l:List PanicEntry}{m:List Fv}(h:xD (Fs μ) m l):l.dropWhile (!·.goexit)=[]:=by
 induction h with
 | nil=>rfl
 | cons a _ ih=>simp[a.goexit,ih]
def zj6(c:xC)(rest:List xC)(H:xA):Option oS:=
 match c.R.mode with
 | .panicking (⟨_,true⟩::_)=>some (⟨Ay c .returning,rest,H⟩:oS)
 | _=>tB (!c.R.mode.running) (some ⟨c,rest,H⟩)
def IE(C:iA)(fr:xC)(ch:List Fv)(cs:List xC)(H:xA):dF:=
 yM (ob (C.fns.get fr.R.fn) fun _=>match cs with | c::rest=>some ⟨nX c ch,rest,H⟩ | []=>none) 19
theorem zqu {c:xC}{c':Frame}(hc:cJ C μ dp none c c'){x:oS}{rest:List xC}(h:zj6 c rest H=some x):x.cs=rest/\x.H=H/\cJ C μ dp (some H) x.fr (Cv c'):=by
 have hm:=hc.rest.mode
 have stay:c'.mode=c'.mode->(Cv c'=c')->c.R.mode.running=false->x=⟨c,rest,H⟩->x.cs=rest/\x.H=H/\cJ C μ dp (some H) x.fr (Cv c'):=by
  intro _ h1 h2 h3;subst h3;rw[h1];exact⟨rfl,rfl,hc.still h2⟩
 obtain⟨ct,ctm,cR⟩:=c
 obtain⟨f,n,de,mode,dd,ro⟩:=cR
 unfold zj6 at h;simp only at h hm
 cases mode with
 | run=>cases h
 | returning=>
  cases hcm:c'.mode with
  | returning=>exact stay rfl (by unfold Cv;rw[hcm]) rfl (yci h).symm
  | _=>rw[hcm]at hm;exact hm.elim
 | panicking ch=>
  cases hcm:c'.mode with
  | run=>rw[hcm]at hm;exact hm.elim
  | returning=>rw[hcm]at hm;exact hm.elim
  | panicking ch'=>
   rw[hcm]at hm
   cases hm with
   | nil=>exact stay rfl (by unfold Cv;rw[hcm]) rfl (yci h).symm
   | @cons p e older older' hp hold=>
    obtain⟨pv,pr⟩:=p
    obtain⟨ev',er,eg⟩:=e
    obtain⟨q1,q2,q3⟩:=hp
    simp only at q1 q2 q3
    subst q2 q3
    cases er with
    | false=>exact stay rfl (by unfold Cv;rw[hcm]) rfl (yci h).symm
    | true=>
     cases yci h
     refine⟨rfl,rfl,?_⟩
     have:Cv c'={ c' with mode:=.returning }:=by
      grind [Cv,XS]
     rw[this];have hb:=hc.body
     exact⟨⟨hc.rest.fn,hc.rest.size,hc.rest.defers,trivial,hc.rest.kind,hc.rest.round⟩,hb⟩
theorem SI(hS:uK P C B N I)(hH:rB B N μ H w)(hcs:qG C μ acs cs) (hr:wH μ fr.R b)(hm:b.mode=.returning)(hd:b.defers=[])(ht:yF μ fr.R.n fr.tm b.tmps) :
  aD P C B N μ base (lone b (cs++base) w) w (Gk C fr acs H):=by
 unfold Gk
 cases hx:ob (C.fns.get fr.R.fn) fun fn=>rX C H fr.tm fn.results.toList with
 | none=>exact trivial
 | some l=>
  rw[sA]at hx;obtain⟨fn,hfn,hres⟩:=hx
  obtain⟨v,h1,h2⟩:=HR hS.tys hH ht hres
  have hf:P.funcs[b.fn]?=some fn:=by rw[hr.fn];exact(hS.fns _ _ hfn).1
  have hk:=hr.kind
  simp only[]
  cases hcs with
  | nil=>
   simp only[rD]
   cases hdf:fr.R.deferred with
   | true=>exact trivial
   | false=>
    rw[hdf]at hk;rw[yaa (by simp)]
    split
    ·rename_i hroot
     exact⟨μ,b,w,v,.refl _ _,fun _ _ h=>h,Below.refl N w,hH,h2,by rw[hr.fn];simp_all,hm,hd,hk,fn,hf,h1⟩
    ·exact trivial
  | @cons c c' acs1 cs1 hc hcs1=>
   simp only[]
   cases hdf:fr.R.deferred with
   | true=>
    rw[hdf]at hk;simp only[cond_true];show aD P C B N μ base _ w (yM (zj6 c acs1 H) 18)
    generalize hx:zj6 c acs1 H=x
    cases x with
    | none=>exact trivial
    | some x=>
     obtain⟨h3,h4,h5⟩:=zqu hc hx
     obtain⟨xf,xc,xh⟩:=x
     simp only at h3 h4 h5
     subst h3 h4
     exact⟨μ,_,cs1,w,.one (SW hm hd hk hf h1),fun _ _ h=>h,Below.refl N w,hH,h5,hcs1⟩
   | false=>
    rw[hdf]at hk;simp only[cond_false]
    cases hfi:kH c (Gm l)with
    | none=>exact trivial
    | some g=>
     exact⟨μ,_,cs1,w,.one (step_leave_returned ⟨hm,hd,hk,fn,hf,h1⟩),fun _ _ h=>h,Below.refl N w,hH,Hv hc hfi h2,hcs1⟩
theorem zak(hS:uK P C B N I)(hH:rB B N μ H w)(hcs:qG C μ acs cs) (hfr:cJ C μ acs.length (some H) fr b)(hm:fr.R.mode.running=false) :
  aD P C B N μ base (lone b (cs++base) w) w (Rr C fr acs H):=by
 have ht:yF μ fr.R.n fr.tm b.tmps:=by
  have:=hfr.body
  simp_all
 have hr:=hfr.rest
 unfold Rr
 cases hd:fr.R.defers with
 | cons d l=>grind [zal]
 | nil=>
  have hbd:b.defers=[]:=by
   have:=hr.defers
   rw[hd]at this;generalize hbd:b.defers=bd at this
   cases this
   rfl
  have hmode:=hr.mode
  simp only[]
  cases hmo:fr.R.mode with
  | run=>rw[hmo]at hm;cases hm
  | returning=>
   rw[hmo]at hmode;have:b.mode=.returning:=by
    cases hb:b.mode with
    | returning=>rfl
    | _=>rw[hb]at hmode;exact hmode.elim
   exact SI hS hH hcs hr this hbd ht
  | panicking ch=>
   rw[hmo]at hmode
   cases hb:b.mode with
   | run=>rw[hb]at hmode;exact hmode.elim
   | returning=>rw[hb]at hmode;exact hmode.elim
   | panicking ch'=>
    rw[hb]at hmode;show aD P C B N μ base _ w (IE C fr ch acs H)
    unfold IE
    cases hfn:C.fns.get fr.R.fn with
    | none=>exact trivial
    | some fn=>
     rw[pA];have hf:P.funcs[b.fn]?=some fn:=by rw[hr.fn];exact(hS.fns _ _ hfn).1
     cases hcs with
     | nil=>exact trivial
     | @cons c c' acs1 cs1 hc hcs1=>
      exact⟨μ,_,cs1,w,.one (step_leave_panicked ⟨hb,hbd,fn,hf⟩),fun _ _ h=>h,Below.refl N w,hH,ID hc hmode,hcs1⟩
theorem zg1(hS:uK P C B N I)(hI:I w){s:oS}(hH:rB B N μ s.H w)(hcs:qG C μ s.cs cs)(hfr:cJ C μ s.cs.length (some s.H) s.fr b):aD P C B N μ base (lone b (cs++base) w) w (stepA C s):=by
 obtain⟨⟨todo,tm,R⟩,acs,H⟩:=s
 show aD P C B N μ base _ w (bif R.mode.running then iT C todo tm R acs H else Rr C ⟨todo,tm,R⟩ acs H)
 cases hm:R.mode.running with
 | false=>grind [zak]
 | true=>
  have hb:=hfr.body
  have hr:=hfr.rest
  simp only at hb hr
  rw[yab hm]at hb;have hbm:b.mode=.run:=by
   have h:=hr.mode
   cases hmo:R.mode with
   | run=>
    rw[hmo]at h
    cases hb:b.mode with
    | run=>rfl
    | _=>rw[hb]at h;exact h.elim
   | _=>rw[hmo]at hm;cases hm
  have e:=zj8 hbm
  have:=zp6 (b:=b) (tmps:=b.tmps) (ds:=b.defers) (base:=base) hS hI hH hcs ⟨hr.fn,hr.size,hr.defers,by have:=hr.mode;rw[hbm]at this;exact this,hr.kind,hr.round⟩ hb
  simp_all
theorem GD(hS:uK P C B N I)(hI:I w) {o:dF}(h:aD P C B N μ base m w o):aD P C B N μ base m w (lV C o):=by
 cases o with
 | fail n=>exact trivial
 | done v H=>exact h
 | next s=>
  obtain⟨μ',b,cs,w',h1,h2,h3,h4,h5,h6⟩:=h
  exact aD.of_steps h1 h2 h3 (zg1 hS (hS.inv _ _ h3 hI) h4 h6 h5)
def zoc(hS:uK P C B N I)(hI:I w)  : ∀(n:Nat) {o:dF},aD P C B N μ base m w o->aD P C B N μ base m w (nU C n o):=by
 intro n;induction n with
 | zero=>intro o h;exact GD hS hI h
 | succ n ih=>intro o h;exact ih (ih h)
def YV(hS:uK P C B N I)(hI:I w) (hroot:C.root=f){args:List zA}{args':Array Value}(hH:rB B N μ H w)(hl:pB μ args args'.toList){g:xC}(he:yK C f args false=some g) {v:zA}{H':xA}
  (hrun:nU C n (.next ⟨g,[],H⟩)=.done v H') :
  Calls P f args' w fun e w'=>∃v' μ',e=.returned v'/\μ.lw μ'/\vA μ' v v'/\rB B N μ' H' w'/\Below N w w':=by
 intro base;have h0:aD P C B N μ base (lone (Frame.enter P f args' .normal) base w) w (.next ⟨g,[],H⟩):=
  ⟨μ,_,[],w,.refl _ _,fun _ _ h=>h,Below.refl N w,hH,(Pw (cur:=some H) hS.fns he hl).1,.nil⟩
 have h1:=zoc hS hI n h0
 rw[hrun]at h1;obtain⟨μ',b,w',v',h2,h3,h4,h5,h6,h7,h8⟩:=h1
 exact⟨.returned v',w',b,⟨v',μ',rfl,h3,h6,h5,h4⟩,h2,by rw[h7,hroot],h8⟩
end
end
section
variable {α:Type}{v:zA}
structure nH where
 v:zA
 p:Bool
abbrev iB:=Option (nH × xA)
abbrev dE:=AFn->List zA->xA->iB
structure Kt where
 norm:Tm->xA->iB
 exit:Nat->Tm->xA->iB
 ret:Tm->xA->iB
structure PI where
 id:Nat
 pl:List Nat
 ll:List (Nat × Nat)
def PI.kept(p:PI):List Nat:=fD p.pl (List.rec (motive:=fun _=>List Nat) [] (fun a _ r=>a.1::r) p.ll)
inductive oC where
 | skip
 | region (id:Nat) (ops:Array Oper) (draw:Bool)
 | seq (a b:oC)
 | cond (c:Operand) (x y:oC)
 | block (id:Nat) (c:oC)
 | loop (p:PI) (c:oC)
 | exit (id:Nat)
 | ret
 | cut (p:PI) (c:oC)
 | range (i:Nat) (pl:List Nat) (f:Operand) (ps:Array Nat) (as:List (Nat × Array Oper)) (c:oC)
def asC (l:List (Nat × Array Oper)):Code:=List.rec (motive:=fun _=>Code) .skip (fun x r g=>match r with | []=>.region x.1 x.2 false | _::_=>.seq (.region x.1 x.2 false) g) l
def asA (c:oC)(l:List (Nat × Array Oper)):oC:=List.rec (motive:=fun _=>oC) c (fun x _ g=>.seq (.region x.1 x.2 false) g) l
def qE:oC->Code
 | .skip=>.skip
 | .region id ops d=>.region id ops d
 | .seq a b=>.seq (qE a) (qE b)
 | .cond c x y=>.cond c (qE x) (qE y)
 | .block id c=>.block id (qE c)
 | .loop _ c=>.loop (qE c)
 | .exit id=>.exit id
 | .ret=>.ret
 | .cut _ c=>qE c
 | .range _ _ f ps as c=>.rangeFunc f ps (asC as) (qE c)
def lim {α:Type}(f:Nat->Option α):Option α:=@dite _ (∃n r,f n=some r) (Classical.propDecidable _) (fun h=>f h.choose) (fun _=>none)
def Mono {α:Type}(f:Nat->Option α):Prop:=∀n r,f n=some r->f (n+1)=some r
def Mono.le {f:Nat->Option α}(h:Mono f){n m:Nat}{r:α}(hr:f n=some r)(hnm:n<=m):f m=some r:=by
 induction hnm with
 | refl=>exact hr
 | step _ ih=>exact h _ _ ih
def Ti {f:Nat->Option α}(h:Mono f){r:α}:lim f=some r ↔ ∃n,f n=some r:=by
 unfold lim;by_cases hx:∃n r,f n=some r
 ·rw[dif_pos hx]
  obtain⟨r0,h0⟩:=hx.choose_spec
  constructor
  ·grind
  ·rintro⟨n,hn⟩
   have a:=h.le h0 (Nat.le_max_left hx.choose n)
   have b:=h.le hn (Nat.le_max_right hx.choose n)
   simp_all
 simp_all
def zoq:vE->zA->(zA->iB)->iB
 | .bool,v,K=>ob v.asBool fun b=>K (.bool b)
 | .int k,v,K=>ob v.asIntK fun p=>tB (gN p.1 k) (K (.int k p.2))
 | .string,v,K=>ob v.asStr fun l=>K (.str l)
 | .ptr _,v,K=>K v
 | .slice _,v,K=>K v
 | .arr _ _,v,K=>K v
 | .map _ _,v,K=>K v
 | .struct _,v,K=>K v
 | .func,v,K=>K v
 | .iface,v,K=>K v
 | .other,v,K=>K v
def fitD:vE->zA->Prop
 | .bool,v=>∃b,v=.bool b
 | .int k,v=>∃n,v=.int k n
 | .string,v=>∃l,v=.str l
 | _,_=>True
theorem VR{d:vE} {K:zA->iB}{x:nH × xA}:zoq d v K=some x ↔ fitD d v/\K v=some x:=by
 cases d<;>simp only[zoq,fitD,sA,sB,true_and]
 case bool=>
  grind [Fj]
 case int k=>
  constructor
  ·grind [kY,iM]
  ·rintro⟨⟨n,rfl⟩,h⟩;exact⟨(k,n),rfl,iM.2 rfl,h⟩
 grind [lY]
def zM(C:iA)(t:Nat)(v:zA)(K:zA->iB):iB:=
 match C.tys.get t with
 | some ty=>zoq ty.desc v K
 | none=>K v
def Cf (C:iA)(t:Nat)(v:zA):Prop:=
 match C.tys.get t with
 | some ty=>fitD ty.desc v
 | none=>True
theorem wQ{C:iA}{t:Nat} {K:zA->iB}{x:nH × xA}:zM C t v K=some x ↔ Cf C t v/\K v=some x:=by
 grind [zM,Cf,VR]
def nG (φ:dE)(r:sK)(H:xA)(k:zA->xA->iB):iB:=
 match r with
 | .val v H'=>k v H'
 | .enter f args=>ob (φ (.func f) args H) fun p=>bif p.1.p then some p else k p.1.v p.2
 | .round l args=>ob (φ (.yld l) args H) fun p=>tB (!p.1.p) (k p.1.v p.2)
 | .panic v=>some (⟨v,true⟩,H)
 | _=>none
def nM (C:iA)(φ:dE)(all:Array Oper)(n:Nat)(κ:Tm->xA->iB)(l:List Oper):Tm->xA->iB:=
 List.rec (motive:=fun _=>Tm->xA->iB) κ
  (fun o _ g tm H=>ob (cF o.guard all tm) fun w=>Bool.rec (motive:=fun _=>iB) (g (putA n tm o.dst pD) H)
   (nG φ ((eE o.op).f C (.now tm) H) H fun v H'=>zM C o.type v fun v=>g (putA n tm o.dst v) H') w) l
def wI(C:iA)(H:xA)(all:Array Oper)(n:Nat)(old:Tm)(olds:List (Nat × List Nat))(k:Tm->iB)(l:List Nat):Tm->iB:=
 List.rec (motive:=fun _=>Tm->iB) k
  (fun i _ g tm=>ob (tD all.toList i) fun o=>ob (cF o.guard all tm) fun w=>Bool.rec (motive:=fun _=>iB) (g (putA n tm o.dst pD))
   (ob ((jF o.op).f C (.mixed tm old (sF i olds) (eH o.op)) H) fun v=>zM C o.type v fun v=>g (putA n tm o.dst v)) w) l
def pN(C:iA)(H:xA)(all:Array Oper)(old:Tm)(olds:List (Nat × List Nat))(tm:Tm)(k:iB)(l:List Nat):iB:=
 List.rec (motive:=fun _=>iB) k
  (fun i _ g=>ob (tD all.toList i) fun o=>ob o.dst fun d=>ob (cF o.guard all tm) fun w=>Bool.rec (motive:=fun _=>iB) g
   (ob ((jF o.op).f C (.mixed tm old (sF i olds) (eH o.op)) H) fun v=>zM C o.type v fun v=>ob (tm.get d) fun u=>tB (same 10 v u) g) w) l
def eN (all:Array Oper)(h:Nat):Nat:=bif Nat.blt (yB all.toList) h then Nat.sub h (Nat.succ (yB all.toList))else h
def aW(C:iA)(all:Array Oper)(h:Nat)(o:Oper)(tm:Tm):Option Bool:=ob (cF o.guard all tm) fun w=>bif Nat.blt (yB all.toList) h then tB (w&&wM o.op&&rE (Bn C o.op)) (some w)else some w
def tW(all:Array Oper)(st:lG):Bool:=Nat.blt (yB all.toList+yB all.toList) st.heavy
def Pn(C:iA)(all:Array Oper)(n:Nat)(old:Tm)(olds:List (Nat × List Nat))(st:lG)(g:Tm->xA->iB)(tm:Tm)(H:xA):iB:=
 tB (mZ C all) (ob (La all old olds tm st.again) fun es=>ob (Cb C es H) fun H'=>wI C H' all n old olds (fun tm=>g tm H') st.lights tm)
def rJ(C:iA)(φ:dE)(all:Array Oper)(n:Nat)(old:Tm)(olds:List (Nat × List Nat))(κ:Tm->xA->iB)(l:List lG):Tm->xA->iB:=
 List.rec (motive:=fun _=>Tm->xA->iB) κ
  (fun st _ g tm H=>Bool.rec (motive:=fun _=>iB) (ob (tD all.toList (eN all st.heavy)) fun o=>ob (aW C all st.heavy o tm) fun w=>
   (fun cont:zA->xA->iB=>Bool.rec (motive:=fun _=>iB) (cont pD H)
    (nG φ ((eE o.op).f C (.mixed tm old (sF (eN all st.heavy) olds) (eH o.op)) H) H fun v H'=>zM C o.type v fun v=>cont v H') w)
   (fun v H'=>pN C H' all old olds (putA n tm o.dst v) (wI C H' all n old olds (fun tm=>g tm H') st.lights (putA n tm o.dst v)) st.again)) (Pn C all n old olds st g tm H) (tW all st)) l
def Jv(C:iA)(φ:dE)(fn n:Nat)(κ:Tm->xA->iB)(id:Nat)(all:Array Oper)(draw:Bool):Tm->xA->iB:=
 Bool.rec (motive:=fun _=>Tm->xA->iB) (fun tm H=>nM C φ all n κ all.toList tm.cut H)
  (fun tm H=>ob (ob (C.plans.get fn) fun t=>t.get id) fun p=>tB (dV all p) (wI C H all n tm.cut p.olds (fun tm'=>rJ C φ all n tm.cut p.olds κ p.stages tm' H) p.first tm.cut)) draw
def Kq(tm:Tm)(live:List Nat):Tr zA:=
 List.rec (motive:=fun _=>Tr zA) .leaf (fun i _ t=>match tm.get i with | some v=>t.set i v | none=>t) live
def keep (live:List Nat)(tm:Tm):Tm:=⟨tm.k,Kq tm live,[]⟩
def isDef0:Option (List mH)->Bool
 | some []=>true
 | _=>false
def Cy(κ:Kt)(p:Option Code)(tm:Tm)(H:xA):iB:=
 match p with
 | none=>κ.norm tm H
 | some .ret=>κ.ret tm H
 | _=>none
def endLoop(H:xA)(l:Nat)(r:mN):xA:=setBlk H l (.loop ⟨.exhausted,r.pending,r.fn,r.n,r.tm,r.params,r.assign,r.body,r.defers⟩)
def cS(C:iA)(φ:dE)(fn n:Nat)(κ:Kt)(f:Operand)(ps:List Nat)(a b:Code)(tm:Tm)(H:xA):iB:=
 ob (ev f (.now tm)) fun v=>ob v.asFunc fun q=>match q.1 with
  | .yld _=>none
  | .func g=>tB (rE (C.prims.get g)) (ob (φ (.func g) (fD q.2.1 (.func (.yld (H.next+1)) [] []::q.2.2)) (newBlk (newBlk H (.deferred (some []))) (.loop ⟨.ready,none,fn,n,tm,ps,a,b,H.next⟩))) fun y=>
   tB (!y.1.p) (ob (xJ y.2 (H.next+1)) fun r=>tB (!Nat.beq (LoopState.tag r.state) 1) (ob (Cy κ r.pending tm (endLoop y.2 (H.next+1) r)) fun z=>
    tB (!z.1.p) (ob (pY z.2 H.next) fun d=>tB (isDef0 d) (some (z.1,setBlk z.2 H.next (.deferred none)))))))
def mD (C:iA)(φ:dE)(fn n:Nat)(c:oC):Kt->Tm->xA->iB:=
 oC.rec (motive:=fun _=>Kt->Tm->xA->iB)
  (fun κ tm H=>κ.norm tm H)
  (fun id all draw κ=>Jv C φ fn n κ.norm id all draw)
  (fun _ _ ga gb κ=>ga ⟨gb κ,κ.exit,κ.ret⟩)
  (fun c _ _ gx gy κ tm H=>ob (ob (ev c (.now tm)) zA.asBool) fun b=>Bool.rec (motive:=fun _=>iB) (gy κ tm H) (gx κ tm H) b)
  (fun id _ g κ=>g ⟨κ.norm,fun i tm H=>Bool.rec (motive:=fun _=>iB) (κ.exit i tm H) (κ.norm tm H) (Nat.beq id i),κ.ret⟩)
  (fun live _ g κ tm H=>lim fun m=>Nat.rec (motive:=fun _=>Tm->xA->iB) (fun _ _=>none) (fun _ r tm H=>g ⟨r,κ.exit,κ.ret⟩ (keep live.kept tm) H) m tm H)
  (fun id κ tm H=>κ.exit id tm H)
  (fun κ tm H=>κ.ret tm H)
  (fun live _ g κ tm H=>g κ (keep live.kept tm) H)
  (fun _ _ f ps as c _ κ tm H=>cS C φ fn n κ f ps.toList (asC as) (qE c) tm H) c
end
section
variable {k:iB}{k':zA->xA->iB}{κ κ':Tm->xA->iB}{l:List Nat}{tm:Tm}{fn i:Nat}{st:lG}
def fJ {α β γ:Type}(k k':α->β->Option γ):Prop:=∀a b x,k a b=some x->k' a b=some x
def bO (φ φ':dE):Prop:=∀f a H x,φ f a H=some x->φ' f a H=some x
structure iP (κ κ':Kt):Prop where
 norm:fJ κ.norm κ'.norm
 exit:∀i,fJ (κ.exit i) (κ'.exit i)
 ret:fJ κ.ret κ'.ret
section
variable {C:iA}{φ φ':dE}{all:Array Oper}{n:Nat}{x:nH × xA}
def HU(hφ:bO φ φ'){r:sK}{H:xA}{k:zA->xA->iB}(hk:fJ k k')(h:nG φ r H k=some x):nG φ' r H k'=some x:=by
 cases r<;>simp only[nG]at h ⊢<;>try (cases h;done)
 case val v H'=>exact hk _ _ _ h
 case enter f args=>
  rw[sA]at h ⊢
  obtain⟨p,h1,h2⟩:=h
  refine⟨p,hφ _ _ _ _ h1,?_⟩
  cases hp:p.1.p with
  | true=>rw[hp]at h2;exact h2
  | false=>rw[hp]at h2;exact hk _ _ _ h2
 case round l args=>
  rw[sA]at h ⊢
  obtain⟨p,h1,h2⟩:=h
  rw[sB]at h2;exact⟨p,hφ _ _ _ _ h1,sB.2 ⟨h2.1,hk _ _ _ h2.2⟩⟩
 case panic v=>exact h
def AJ{t:Nat}{k:zA->xA->iB}(hk:fJ k k'):fJ (fun v H=>zM C t v fun v=>k v H) (fun v H=>zM C t v fun v=>k' v H):=by
 intro v H x h;rw[wQ]at h ⊢
 exact⟨h.1,hk _ _ _ h.2⟩
theorem Eg {o:Oper}{l:List Oper} {H:xA}:nM C φ all n κ (o::l) tm H=ob (cF o.guard all tm) fun w=>if w=true then
   (nG φ ((eE o.op).f C (.now tm) H) H fun v H'=>zM C o.type v fun v=>nM C φ all n κ l (putA n tm o.dst v) H')else nM C φ all n κ l (putA n tm o.dst pD) H:=by
 show(ob (cF o.guard all tm) fun w=>Bool.rec (motive:=fun _=>iB) _ _ w)=_
 congr 1;funext w;rw[vK];rfl
def Ob(hφ:bO φ φ') (hκ:fJ κ κ'):∀(l:List Oper),fJ (nM C φ all n κ l) (nM C φ' all n κ' l):=by
 intro l;induction l with
 | nil=>exact hκ
 | cons o l ih=>
  intro tm H x h;rw[Eg,sA]at h ⊢
  obtain⟨w,h1,h2⟩:=h
  refine⟨w,h1,?_⟩
  split at h2
  ·rename_i e;rw[yab e];exact HU hφ (AJ (k:=fun v H'=>nM C φ all n κ l (putA n tm o.dst v) H') (k':=fun v H'=>nM C φ' all n κ' l (putA n tm o.dst v) H') fun v H' y hy=>ih _ _ _ hy) h2
  ·rename_i e;rw[yaa e];exact ih _ _ _ h2
variable {H:xA}{old:Tm}{olds:List (Nat × List Nat)}
theorem Tl{k:Tm->iB}    : wI C H all n old olds k (i::l) tm=ob (tD all.toList i) fun o=>ob (cF o.guard all tm) fun w=>if w=true then
   (ob ((jF o.op).f C (.mixed tm old (sF i olds) (eH o.op)) H) fun v=>zM C o.type v fun v=>wI C H all n old olds k l (putA n tm o.dst v))else wI C H all n old olds k l (putA n tm o.dst pD):=by
 show(ob (tD all.toList i) fun o=>ob (cF o.guard all tm) fun w=>Bool.rec (motive:=fun _=>iB) _ _ w)=_
 congr 1;funext o;congr 1;funext w;rw[vK];rfl
theorem Tk{k k':Tm->iB}(hk:∀tm x,k tm=some x->k' tm=some x):∀(l:List Nat) tm x,wI C H all n old olds k l tm=some x->wI C H all n old olds k' l tm=some x:=by
 intro l;induction l with
 | nil=>exact hk
 | cons i l ih=>
  grind [Tl,sA,wQ]
def DY     : pN C H all old olds tm k (i::l)=ob (tD all.toList i) fun o=>ob o.dst fun d=>ob (cF o.guard all tm) fun w=>if w=true then
   (ob ((jF o.op).f C (.mixed tm old (sF i olds) (eH o.op)) H) fun v=>zM C o.type v fun v=>ob (tm.get d) fun u=>tB (same 10 v u) (pN C H all old olds tm k l))else pN C H all old olds tm k l:=by
 show(ob (tD all.toList i) fun o=>ob o.dst fun d=>ob (cF o.guard all tm) fun w=>Bool.rec (motive:=fun _=>iB) _ _ w)=_
 congr 1;funext o;congr 1;funext d;congr 1;funext w;rw[vK];rfl
theorem Qp   : ∀(l:List Nat),pN C H all old olds tm k l=some x->Fm C H all old olds tm l=true/\k=some x:=by
 intro l;induction l with
 | nil=>intro h;exact⟨rfl,h⟩
 | cons i l ih=>
  intro h;rw[DY,sA]at h;obtain⟨o,h1,h⟩:=h
  rw[sA]at h;grind [sA,Fm,wQ,sB]
theorem DX {k':iB}(hk:k'=some x):∀(l:List Nat),pN C H all old olds tm k l=some x->pN C H all old olds tm k' l=some x:=by
 intro l;induction l with
 | nil=>intro _;exact hk
 | cons i l ih=>
  intro h;rw[DY,sA]at h ⊢
  obtain⟨o,h1,h⟩:=h
  refine⟨o,h1,?_⟩
  rw[sA]at h ⊢
  grind [sA,wQ,sB]
theorem Jm  {l:List lG} (hg:tW all st=false):rJ C φ all n old olds κ (st::l) tm H=ob (tD all.toList (eN all st.heavy)) fun o=>ob (aW C all st.heavy o tm) fun w=>
   (fun cont:zA->xA->iB=>if w=true then(nG φ ((eE o.op).f C (.mixed tm old (sF (eN all st.heavy) olds) (eH o.op)) H) H fun v H'=>zM C o.type v fun v=>cont v H')else cont pD H)
   (fun v H'=>pN C H' all old olds (putA n tm o.dst v) (wI C H' all n old olds (fun tm=>rJ C φ all n old olds κ l tm H') st.lights (putA n tm o.dst v)) st.again):=by
 show Bool.rec (motive:=fun _=>iB) _ _ (tW all st)=_
 rw[hg];show(ob (tD all.toList (eN all st.heavy)) fun o=>ob (aW C all st.heavy o tm) fun w=>(fun cont:zA->xA->iB=>Bool.rec (motive:=fun _=>iB) _ _ w) _)=_
 congr 1;funext o;congr 1;funext w;cases w<;>rfl
theorem Ni  {l:List lG} (hg:tW all st=true):rJ C φ all n old olds κ (st::l) tm H=Pn C all n old olds st (rJ C φ all n old olds κ l) tm H:=by
 show Bool.rec (motive:=fun _=>iB) _ _ (tW all st)=_
 rw[hg];rfl
theorem Ue {g:Tm->xA->iB} {x:nH × xA}:Pn C all n old olds st g tm H=some x ↔ mZ C all=true/\∃es H',La all old olds tm st.again=some es/\Cb C es H=some H'/\wI C H' all n old olds (fun tm=>g tm H') st.lights tm=some x:=by
 grind [Pn,sA,sB]
theorem Yx(hφ:bO φ φ') (hκ:fJ κ κ'):∀(l:List lG),fJ (rJ C φ all n old olds κ l) (rJ C φ' all n old olds κ' l):=by
 intro l;induction l with
 | nil=>exact hκ
 | cons st l ih=>
  intro tm H x h
  cases hg:tW all st with
  | true=>
   rw[Ni hg,Ue]at h ⊢
   obtain⟨h0,es,H',h1,h2,h3⟩:=h
   exact⟨h0,es,H',h1,h2,Tk (fun tm x hx=>ih _ _ _ hx) _ _ _ h3⟩
  | false=>
  rw[Jm hg,sA]at h ⊢
  obtain⟨o,h1,h⟩:=h
  refine⟨o,h1,?_⟩
  rw[sA]at h ⊢
  obtain⟨w,h2,h⟩:=h
  refine⟨w,h2,?_⟩
  have cont:∀v H' y,pN C H' all old olds (putA n tm o.dst v) (wI C H' all n old olds (fun tm=>rJ C φ all n old olds κ l tm H') st.lights (putA n tm o.dst v)) st.again=some y →
    pN C H' all old olds (putA n tm o.dst v) (wI C H' all n old olds (fun tm=>rJ C φ' all n old olds κ' l tm H') st.lights (putA n tm o.dst v)) st.again=some y:=by
   intro v H' y hy;exact DX (Tk (fun tm x hx=>ih _ _ _ hx) _ _ _ (Qp _ hy).2) _ hy
  simp only[]at h ⊢
  split at h
  ·rename_i e;rw[yab e];exact HU hφ (AJ cont) h
  grind
def HV(hφ:bO φ φ') (hκ:fJ κ κ'){id:Nat}{draw:Bool}:fJ (Jv C φ fn n κ id all draw) (Jv C φ' fn n κ' id all draw):=by
 intro tm H x h
 cases draw with
 | false=>exact Ob hφ hκ _ _ _ _ h
 | true=>
  have h:(ob (ob (C.plans.get fn) fun t=>t.get id) fun p=>tB (dV all p) (wI C H all n tm.cut p.olds (fun tm'=>rJ C φ all n tm.cut p.olds κ p.stages tm' H) p.first tm.cut))=some x:=h
  show(ob (ob (C.plans.get fn) fun t=>t.get id) fun p=>tB (dV all p) (wI C H all n tm.cut p.olds (fun tm'=>rJ C φ' all n tm.cut p.olds κ' p.stages tm' H) p.first tm.cut))=some x
  rw[sA]at h ⊢
  obtain⟨p,h1,h⟩:=h
  refine⟨p,h1,?_⟩
  rw[sB]at h ⊢
  exact⟨h.1,Tk (fun tm x hx=>Yx hφ hκ _ _ _ _ hx) _ _ _ h.2⟩
def QV{κ κ':Kt}(hκ:iP κ κ'){p:Option Code}:fJ (Cy κ p) (Cy κ' p):=by
 intro tm H x h;unfold Cy at h ⊢
 split at h
 ·exact hκ.norm _ _ _ h
 ·exact hκ.ret _ _ _ h
 ·cases h
def IC(hφ:bO φ φ'){κ κ':Kt}(hκ:iP κ κ') {f:Operand}{ps:List Nat}{a b:Code}:fJ (cS C φ fn n κ f ps a b) (cS C φ' fn n κ' f ps a b):=by
 intro tm H x h;unfold cS at h ⊢
 rw[sA]at h ⊢
 obtain⟨v,h1,h⟩:=h
 refine⟨v,h1,?_⟩
 rw[sA]at h ⊢
 obtain⟨q,h2,h⟩:=h
 refine⟨q,h2,?_⟩
 split at h
 ·cases h
 ·rw[sB,sA]at h ⊢
  obtain⟨h3,y,h4,h⟩:=h
  refine⟨h3,y,hφ _ _ _ _ h4,?_⟩
  rw[sB,sA]at h ⊢
  obtain⟨hy,r,h5,h⟩:=h
  refine⟨hy,r,h5,?_⟩
  rw[sB,sA]at h ⊢
  obtain⟨h6,z,h7,h⟩:=h
  exact⟨h6,z,QV hκ _ _ _ h7,h⟩
end
end
section
variable {α:Type}{m n:Nat}{g:Kt->Tm->xA->iB}{κ:Kt}{H:xA}{ks:Nat->zA->xA->iB}{k:zA->xA->iB}{κs:Nat->Tm->xA->iB}
theorem AW {f:Nat->Option α}{r:α}(h:lim f=some r):∃n,f n=some r:=by
 unfold lim at h;by_cases hx:∃n r,f n=some r
 all_goals grind
structure hO {α β γ:Type} (ks:Nat->α->β->Option γ) (k:α->β->Option γ):Prop where
 up:∀n,fJ (ks n) (ks (n+1))
 ex:∀a b x,k a b=some x->∃n,ks n a b=some x
def Mw{β γ:Type}{ks:Nat->α->β->Option γ}(h:∀n,fJ (ks n) (ks (n+1))) (hnm:n<=m):fJ (ks n) (ks m):=by
 induction hnm with
 | refl=>exact fun _ _ _ h=>h
 | step _ ih=>exact fun a b x hx=>h _ _ _ _ (ih a b x hx)
structure gW (φs:Nat->dE) (φ:dE):Prop where
 up:∀n,bO (φs n) (φs (n+1))
 ex:∀f a H x,φ f a H=some x->∃n,φs n f a H=some x
def gW.le{φs:Nat->dE}{φ:dE}(h:gW φs φ) (hnm:n<=m):bO (φs n) (φs m):=by
 induction hnm with
 | refl=>exact fun _ _ _ _ h=>h
 | step _ ih=>exact fun f a H x hx=>h.up _ _ _ _ _ (ih f a H x hx)
structure Fp (κs:Nat->Kt) (κ:Kt):Prop where
 norm:hO (fun n=>(κs n).norm) κ.norm
 exit:∀i,hO (fun n=>(κs n).exit i) (κ.exit i)
 ret:hO (fun n=>(κs n).ret) κ.ret
section
variable {C:iA}{φ φ':dE}{φs:Nat->dE}{all:Array Oper}{N fn:Nat}
def zdr{g':Kt->Tm->xA->iB}{κ':Kt}(hκ:iP κ κ')(hg:∀ κ κ',iP κ κ'->fJ (g κ) (g' κ'))(live:List Nat):∀m,fJ (Nat.rec (motive:=fun _=>Tm->xA->iB) (fun _ _=>none) (fun _ r tm H=>g ⟨r,κ.exit,κ.ret⟩ (keep live tm) H) m)
  (Nat.rec (motive:=fun _=>Tm->xA->iB) (fun _ _=>none) (fun _ r tm H=>g' ⟨r,κ'.exit,κ'.ret⟩ (keep live tm) H) m):=by
 intro m;induction m with
 | zero=>intro a b x h;cases h
 | succ m ih=>exact fun a b x h=>hg ⟨_,_,_⟩ ⟨_,_,_⟩ ⟨ih,hκ.exit,hκ.ret⟩ _ _ _ h
theorem iP.refl(κ:Kt):iP κ κ:=⟨fun _ _ _ h=>h,fun _ _ _ _ h=>h,fun _ _ _ h=>h⟩
def BS  (hg:∀ κ κ',iP κ κ'->fJ (g κ) (g κ'))(live:List Nat):∀m,fJ (Nat.rec (motive:=fun _=>Tm->xA->iB) (fun _ _=>none) (fun _ r tm H=>g ⟨r,κ.exit,κ.ret⟩ (keep live tm) H) m)
  (Nat.rec (motive:=fun _=>Tm->xA->iB) (fun _ _=>none) (fun _ r tm H=>g ⟨r,κ.exit,κ.ret⟩ (keep live tm) H) (m+1)):=by
 intro m;induction m with
 | zero=>intro a b x h;cases h
 | succ m ih=>exact fun a b x h=>hg ⟨_,_,_⟩ ⟨_,_,_⟩ ⟨ih,(iP.refl κ).exit,(iP.refl κ).ret⟩ _ _ _ h
def Ck(hφ:bO φ φ'):∀(c:oC) (κ κ':Kt),iP κ κ'->fJ (mD C φ fn N c κ) (mD C φ' fn N c κ'):=by
 have self:∀(ψ:dE),bO ψ ψ:=fun _ _ _ _ _ h=>h
 intro c;suffices h:∀ φ φ',bO φ φ'->∀(κ κ':Kt),iP κ κ'->fJ (mD C φ fn N c κ) (mD C φ' fn N c κ') from h φ φ' hφ
 induction c with
 | skip=>exact fun _ _ _ κ κ' hκ=>hκ.norm
 | region id ops d=>exact fun _ _ hφ κ κ' hκ=>HV hφ hκ.norm
 | seq a b iha ihb=>exact fun _ _ hφ κ κ' hκ=>iha _ _ hφ _ _ ⟨ihb _ _ hφ _ _ hκ,hκ.exit,hκ.ret⟩
 | cond c a b iha ihb=>
  intro φ φ' hφ κ κ' hκ tm H x h;have h:(ob (ob (ev c (.now tm)) zA.asBool) fun t=>Bool.rec (motive:=fun _=>iB) (mD C φ fn N b κ tm H) (mD C φ fn N a κ tm H) t)=some x:=h
  show(ob (ob (ev c (.now tm)) zA.asBool) fun t=>Bool.rec (motive:=fun _=>iB) (mD C φ' fn N b κ' tm H) (mD C φ' fn N a κ' tm H) t)=some x
  rw[sA]at h ⊢
  obtain⟨t,h1,h2⟩:=h
  refine⟨t,h1,?_⟩
  cases t with
  | true=>exact iha _ _ hφ _ _ hκ _ _ _ h2
  | false=>exact ihb _ _ hφ _ _ hκ _ _ _ h2
 | block id c ih=>
  intro φ φ' hφ κ κ' hκ;refine ih _ _ hφ _ _ ⟨hκ.norm,fun i tm H x h=>?_,hκ.ret⟩
  simp only[vK]at h ⊢
  split at h
  ·rename_i e;rw[yab e];exact hκ.norm _ _ _ h
  ·rename_i e;rw[yaa e];exact hκ.exit _ _ _ _ h
 | loop live c ih=>
  intro φ φ' hφ κ κ' hκ tm H x h;obtain⟨m,hm⟩:=AW h
  refine(Ti fun m y hy=>BS (ih _ _ (self φ')) live.kept m _ _ _ hy).2 ⟨m,?_⟩
  exact zdr hκ (ih _ _ hφ) live.kept m _ _ _ hm
 | exit id=>exact fun _ _ _ κ κ' hκ=>hκ.exit id
 | ret=>exact fun _ _ _ κ κ' hκ=>hκ.ret
 | cut live c ih=>exact fun _ _ hφ κ κ' hκ tm H x h=>ih _ _ hφ _ _ hκ _ _ _ h
 | range i pl f ps as c ih=>exact fun _ _ hφ κ κ' hκ tm H x h=>IC hφ hκ _ _ _ h
def HT(hφ:gW φs φ){r:sK}   (hk:hO ks k){x:nH × xA}(h:nG φ r H k=some x):∃n,nG (φs n) r H (ks n)=some x:=by
 cases r<;>simp only[nG]at h ⊢<;>try (cases h;done)
 case val v H'=>exact hk.ex _ _ _ h
 case enter f args=>
  rw[sA]at h;obtain⟨p,h1,h2⟩:=h
  obtain⟨n,hn⟩:=hφ.ex _ _ _ _ h1
  cases hp:p.1.p with
  | true=>
   rw[hp]at h2;exact⟨n,by rw[sA];exact⟨p,hn,by rw[hp];exact h2⟩⟩
  | false=>
  rw[hp]at h2;obtain⟨m,hm⟩:=hk.ex _ _ _ h2
  exact⟨max n m,by rw[sA];exact⟨p,hφ.le (Nat.le_max_left n m) _ _ _ _ hn,by rw[hp];exact Mw hk.up (Nat.le_max_right n m) _ _ _ hm⟩⟩
 case round l args=>
  rw[sA]at h;obtain⟨p,h1,h2⟩:=h
  rw[sB]at h2;obtain⟨n,hn⟩:=hφ.ex _ _ _ _ h1
  obtain⟨m,hm⟩:=hk.ex _ _ _ h2.2
  exact⟨max n m,by rw[sA];exact⟨p,hφ.le (Nat.le_max_left n m) _ _ _ _ hn,sB.2 ⟨h2.1,Mw hk.up (Nat.le_max_right n m) _ _ _ hm⟩⟩⟩
 case panic v=>exact⟨0,h⟩
theorem JR{t:Nat}  (hk:hO ks k):hO (fun n v H=>zM C t v fun v=>ks n v H) (fun v H=>zM C t v fun v=>k v H):=by
 refine⟨fun n=>AJ (hk.up n),fun v H x h=>?_⟩
 rw[wQ]at h;obtain⟨n,hn⟩:=hk.ex _ _ _ h.2
 exact⟨n,by grind [wQ]⟩
theorem JC(hφ:gW φs φ) {κ:Tm->xA->iB}(hκ:hO κs κ):∀(l:List Oper),hO (fun n=>nM C (φs n) all N (κs n) l) (nM C φ all N κ l):=by
 intro l;refine⟨fun n=>Ob (hφ.up n) (hκ.up n) l,?_⟩
 induction l with
 | nil=>exact hκ.ex
 | cons o l ih=>
  intro tm H x h;rw[Eg,sA]at h;obtain⟨w,h1,h2⟩:=h
  split at h2
  ·rename_i e
   obtain⟨n,hn⟩:=HT hφ (JR (ks:=fun n v H'=>nM C (φs n) all N (κs n) l (putA N tm o.dst v) H') (k:=fun v H'=>nM C φ all N κ l (putA N tm o.dst v) H') ⟨fun n v H' y hy=>Ob (hφ.up n) (hκ.up n) l _ _ _ hy,fun v H' y hy=>ih _ _ _ hy⟩) h2
   grind [Eg,sA]
  grind [Eg,sA]
variable {old:Tm}{olds:List (Nat × List Nat)}
theorem AX {ks:Nat->Tm->iB}{k:Tm->iB}(hk:∀tm x,k tm=some x->∃n,ks n tm=some x):∀(l:List Nat) tm x,wI C H all N old olds k l tm=some x->∃n,wI C H all N old olds (ks n) l tm=some x:=by
 intro l;induction l with
 | nil=>exact hk
 | cons i l ih=>
  intro tm x h;simp only[Tl]at h ⊢
  rw[sA]at h;obtain⟨o,h1,h⟩:=h
  rw[sA]at h;obtain⟨w,h3,h4⟩:=h
  split at h4
  ·rename_i e
   rw[sA]at h4;obtain⟨v,h5,h6⟩:=h4
   simp_all [wQ]
  simp_all
theorem TK(hφ:gW φs φ) {κ:Tm->xA->iB}(hκ:hO κs κ):∀(l:List lG),hO (fun n=>rJ C (φs n) all N old olds (κs n) l) (rJ C φ all N old olds κ l):=by
 intro l;refine⟨fun n=>Yx (hφ.up n) (hκ.up n) l,?_⟩
 induction l with
 | nil=>exact hκ.ex
 | cons st l ih=>
  intro tm H x h
  cases hg:tW all st with
  | true=>
   rw[Ni hg,Ue]at h;obtain⟨h0,es,H',h1,h2,h3⟩:=h
   obtain⟨n,hn⟩:=AX (fun tm x hx=>ih tm H' x hx) _ _ _ h3
   exact⟨n,by grind [Ni,Ue]⟩
  | false=>
  rw[Jm hg,sA]at h;obtain⟨o,h1,h⟩:=h
  rw[sA]at h;obtain⟨w,h2,h⟩:=h
  have cont:hO (fun n v H'=>pN C H' all old olds (putA N tm o.dst v) (wI C H' all N old olds (fun tm=>rJ C (φs n) all N old olds (κs n) l tm H') st.lights (putA N tm o.dst v)) st.again)
    (fun v H'=>pN C H' all old olds (putA N tm o.dst v) (wI C H' all N old olds (fun tm=>rJ C φ all N old olds κ l tm H') st.lights (putA N tm o.dst v)) st.again):=by
   refine⟨fun n v H' y hy=>DX (Tk (fun tm x hx=>Yx (hφ.up n) (hκ.up n) l _ _ _ hx) _ _ _ (Qp _ hy).2) _ hy,fun v H' y hy=>?_⟩
   obtain⟨n,hn⟩:=AX (fun tm x hx=>ih tm H' x hx) _ _ _ (Qp _ hy).2
   exact⟨n,DX hn _ hy⟩
  simp only[]at h;split at h
  ·rename_i e
   obtain⟨n,hn⟩:=HT hφ (JR cont) h
   grind [Jm,pA]
  ·rename_i e
   obtain⟨n,hn⟩:=cont.ex _ _ _ h
   exact⟨n,by grind [Jm,pA]⟩
theorem UM(hφ:gW φs φ) {κ:Tm->xA->iB}(hκ:hO κs κ){id:Nat}{draw:Bool}:hO (fun n=>Jv C (φs n) fn N (κs n) id all draw) (Jv C φ fn N κ id all draw):=by
 refine⟨fun n=>HV (hφ.up n) (hκ.up n),fun tm H x h=>?_⟩
 cases draw with
 | false=>exact(JC hφ hκ _).ex _ _ _ h
 | true=>
  have h:(ob (ob (C.plans.get fn) fun t=>t.get id) fun p=>tB (dV all p) (wI C H all N tm.cut p.olds (fun tm'=>rJ C φ all N tm.cut p.olds κ p.stages tm' H) p.first tm.cut))=some x:=h
  rw[sA]at h;obtain⟨p,h1,h⟩:=h
  rw[sB]at h;obtain⟨n,hn⟩:=AX (fun tm' x hx=>(TK hφ hκ p.stages).ex tm' H x hx) _ _ _ h.2
  refine⟨n,?_⟩
  show(ob (ob (C.plans.get fn) fun t=>t.get id) fun p=>tB (dV all p) (wI C H all N tm.cut p.olds (fun tm'=>rJ C (φs n) all N tm.cut p.olds (κs n) p.stages tm' H) p.first tm.cut))=some x
  grind [pA,sB]
theorem IA(hφ:gW φs φ){κs:Nat->Kt} (hκ:Fp κs κ){f:Operand}{ps:List Nat}{a b:Code}:hO (fun n=>cS C (φs n) fn N (κs n) f ps a b) (cS C φ fn N κ f ps a b):=by
 have kle:∀n,iP (κs n) (κs (n+1)):=fun n=>⟨hκ.norm.up n,fun i=>(hκ.exit i).up n,hκ.ret.up n⟩
 have klm:∀n m,n<=m->iP (κs n) (κs m):=fun n m h=>⟨Mw hκ.norm.up h,fun i=>Mw (hκ.exit i).up h,Mw hκ.ret.up h⟩
 refine⟨fun n=>IC (hφ.up n) (kle n),fun tm H x h=>?_⟩
 unfold cS at h;rw[sA]at h;obtain⟨v,h1,h⟩:=h
 rw[sA]at h;obtain⟨q,h2,h⟩:=h
 split at h
 ·cases h
 ·rename_i g hg
  rw[sB,sA]at h;obtain⟨h3,y,h4,h⟩:=h
  rw[sB,sA]at h;obtain⟨hy,r,h5,h⟩:=h
  rw[sB,sA]at h;obtain⟨h6,z,h7,h⟩:=h
  obtain⟨n,hn⟩:=hφ.ex _ _ _ _ h4
  have:∃m,Cy (κs m) r.pending (tm) (endLoop y.2 (H.next+1) r)=some z:=by
   unfold Cy at h7 ⊢
   split at h7
   ·exact hκ.norm.ex _ _ _ h7
   ·exact hκ.ret.ex _ _ _ h7
   grind
  obtain⟨m,hm⟩:=this
  refine⟨max n m,?_⟩
  show cS C (φs (max n m)) fn N (κs (max n m)) f ps a b tm H=some x
  unfold cS;rw[h1,pA,h2,pA,hg];simp only[];rw[sB,sA];refine⟨h3,y,hφ.le (Nat.le_max_left n m) _ _ _ _ hn,?_⟩
  rw[sB];refine⟨hy,?_⟩
  rw[h5,pA,sB,sA];exact⟨h6,z,QV (klm _ _ (Nat.le_max_right n m)) _ _ _ hm,h⟩
theorem Qf(hφ:gW φs φ):∀(c:oC) (κs:Nat->Kt) (κ:Kt),Fp κs κ->hO (fun n=>mD C (φs n) fn N c (κs n)) (mD C φ fn N c κ):=by
 have kle:∀ {κs:Nat->Kt} {κ:Kt},Fp κs κ->∀n,iP (κs n) (κs (n+1)):=fun h n=>⟨h.norm.up n,fun i=>(h.exit i).up n,h.ret.up n⟩
 intro c;induction c with
 | skip=>exact fun κs κ hκ=>hκ.norm
 | region id ops d=>exact fun κs κ hκ=>UM hφ hκ.norm
 | seq a b iha ihb=>exact fun κs κ hκ=>iha (fun n=>⟨mD C (φs n) fn N b (κs n),(κs n).exit,(κs n).ret⟩) _ ⟨ihb _ _ hκ,hκ.exit,hκ.ret⟩
 | cond c a b iha ihb=>
  intro κs κ hκ;refine⟨fun n=>Ck (hφ.up n) (.cond c a b) _ _ (kle hκ n),fun tm H x h=>?_⟩
  have h:(ob (ob (ev c (.now tm)) zA.asBool) fun t=>Bool.rec (motive:=fun _=>iB) (mD C φ fn N b κ tm H) (mD C φ fn N a κ tm H) t)=some x:=h
  rw[sA]at h;obtain⟨t,h1,h2⟩:=h
  have key:∀n,(Bool.rec (motive:=fun _=>iB) (mD C (φs n) fn N b (κs n) tm H) (mD C (φs n) fn N a (κs n) tm H) t:iB)=some x->mD C (φs n) fn N (.cond c a b) (κs n) tm H=some x:=by
   simp_all [mD]
  cases t with
  | true=>obtain⟨n,hn⟩:=(iha _ _ hκ).ex _ _ _ h2;grind
  | false=>obtain⟨n,hn⟩:=(ihb _ _ hκ).ex _ _ _ h2;grind
 | block id c ih=>
  intro κs κ hκ;refine ih (fun n=>⟨(κs n).norm,fun i tm H=>Bool.rec (motive:=fun _=>iB) ((κs n).exit i tm H) ((κs n).norm tm H) (Nat.beq id i),(κs n).ret⟩) _ ⟨hκ.norm,fun i=>⟨fun n tm H x h=>?_,fun tm H x h=>?_⟩,hκ.ret⟩
  ·simp only[vK]at h ⊢
   split at h
   ·rename_i e;rw[yab e];exact hκ.norm.up n _ _ _ h
   ·rename_i e;rw[yaa e];exact(hκ.exit i).up n _ _ _ h
  ·simp only[vK]at h ⊢
   split at h
   ·rename_i e;obtain⟨n,hn⟩:=hκ.norm.ex _ _ _ h;grind
   ·rename_i e;obtain⟨n,hn⟩:=(hκ.exit i).ex _ _ _ h;grind
 | loop live c ih=>
  intro κs κ hκ;refine⟨fun n=>Ck (hφ.up n) (.loop live c) _ _ (kle hκ n),fun tm H x h=>?_⟩
  obtain⟨m,hm⟩:=AW h
  have it:∀m,hO (fun n=>(Nat.rec (motive:=fun _=>Tm->xA->iB) (fun _ _=>none) (fun _ r tm H=>mD C (φs n) fn N c ⟨r,(κs n).exit,(κs n).ret⟩ (keep live.kept tm) H) m:Tm->xA->iB))
    (Nat.rec (motive:=fun _=>Tm->xA->iB) (fun _ _=>none) (fun _ r tm H=>mD C φ fn N c ⟨r,κ.exit,κ.ret⟩ (keep live.kept tm) H) m):=by
   intro m;induction m with
   | zero=>exact⟨fun _ _ _ _ h=>h,fun _ _ _ h=>by cases h⟩
   | succ m ihm=>
    have:=ih _ _ (⟨ihm,hκ.exit,hκ.ret⟩:Fp (fun n=>⟨(Nat.rec (motive:=fun _=>Tm->xA->iB) (fun _ _=>none) (fun _ r tm H=>mD C (φs n) fn N c ⟨r,(κs n).exit,(κs n).ret⟩ (keep live.kept tm) H) m:Tm->xA->iB),(κs n).exit,(κs n).ret⟩) ⟨(Nat.rec (motive:=fun _=>Tm->xA->iB) (fun _ _=>none) (fun _ r tm H=>mD C φ fn N c ⟨r,κ.exit,κ.ret⟩ (keep live.kept tm) H) m:Tm->xA->iB),κ.exit,κ.ret⟩)
    exact⟨fun n tm H x h=>this.up n _ _ _ h,fun tm H x h=>this.ex _ _ _ h⟩
  obtain⟨n,hn⟩:=(it m).ex _ _ _ hm
  exact⟨n,(Ti fun m y hy=>BS (fun κ κ' h=>Ck (fun _ _ _ _ h=>h) c κ κ' h) live.kept m _ _ _ hy).2 ⟨m,hn⟩⟩
 | exit id=>exact fun κs κ hκ=>hκ.exit id
 | ret=>exact fun κs κ hκ=>hκ.ret
 | cut live c ih=>exact fun κs κ hκ=>⟨fun n tm H x h=>(ih _ _ hκ).up n _ _ _ h,fun tm H x h=>(ih _ _ hκ).ex _ _ _ h⟩
 | range i pl f ps as c ih=>exact fun κs κ hκ=>⟨fun n tm H x h=>(IA hφ hκ).up n _ _ _ h,fun tm H x h=>(IA hφ hκ).ex _ _ _ h⟩
theorem zji{live:PI}{c:oC} {tm:Tm}  : mD C φ fn N (.loop live c) κ tm H=mD C φ fn N c ⟨mD C φ fn N (.loop live c) κ,κ.exit,κ.ret⟩ (keep live.kept tm) H:=by
 have self:bO φ φ:=fun _ _ _ _ h=>h
 have up:∀m,fJ (Nat.rec (motive:=fun _=>Tm->xA->iB) (fun _ _=>none) (fun _ r tm H=>mD C φ fn N c ⟨r,κ.exit,κ.ret⟩ (keep live.kept tm) H) m)
   (Nat.rec (motive:=fun _=>Tm->xA->iB) (fun _ _=>none) (fun _ r tm H=>mD C φ fn N c ⟨r,κ.exit,κ.ret⟩ (keep live.kept tm) H) (m+1)):=BS (Ck self c) live.kept
 have some_iff:∀tm H x,mD C φ fn N (.loop live c) κ tm H=some x ↔ ∃m,(Nat.rec (motive:=fun _=>Tm->xA->iB) (fun _ _=>none) (fun _ r tm H=>mD C φ fn N c ⟨r,κ.exit,κ.ret⟩ (keep live.kept tm) H) m:Tm->xA->iB) tm H=some x:=
  fun tm H x=>Ti fun m y hy=>up m _ _ _ hy
 have sup:Fp (fun m=>⟨(Nat.rec (motive:=fun _=>Tm->xA->iB) (fun _ _=>none) (fun _ r tm H=>mD C φ fn N c ⟨r,κ.exit,κ.ret⟩ (keep live.kept tm) H) m:Tm->xA->iB),κ.exit,κ.ret⟩) ⟨mD C φ fn N (.loop live c) κ,κ.exit,κ.ret⟩:=
  ⟨⟨up,fun tm H x h=>(some_iff tm H x).1 h⟩,fun i=>⟨fun _ _ _ _ h=>h,fun _ _ _ h=>⟨0,h⟩⟩,⟨fun _ _ _ _ h=>h,fun _ _ _ h=>⟨0,h⟩⟩⟩
 have key:∀x,mD C φ fn N (.loop live c) κ tm H=some x ↔ mD C φ fn N c ⟨mD C φ fn N (.loop live c) κ,κ.exit,κ.ret⟩ (keep live.kept tm) H=some x:=by
  intro x;rw[some_iff];constructor
  ·rintro⟨m,hm⟩
   cases m with
   | zero=>cases hm
   | succ m=>exact Ck self c ⟨(Nat.rec (motive:=fun _=>Tm->xA->iB) (fun _ _=>none) (fun _ r tm H=>mD C φ fn N c ⟨r,κ.exit,κ.ret⟩ (keep live.kept tm) H) m:Tm->xA->iB),κ.exit,κ.ret⟩ ⟨mD C φ fn N (.loop live c) κ,κ.exit,κ.ret⟩ ⟨fun tm H y hy=>(some_iff tm H y).2 ⟨m,hy⟩,fun _ _ _ _ h=>h,fun _ _ _ h=>h⟩ _ _ _ hm
  ·intro h
   obtain⟨m,hm⟩:=(Qf (φs:=fun _=>φ) ⟨fun _=>self,fun _ _ _ _ h=>⟨0,h⟩⟩ c _ _ sup).ex _ _ _ h
   exact⟨m+1,hm⟩
 cases h:mD C φ fn N (.loop live c) κ tm H with
 | some x=>grind
 | none=>
  cases h2:mD C φ fn N c ⟨mD C φ fn N (.loop live c) κ,κ.exit,κ.ret⟩ (keep live.kept tm) H with
  | none=>rfl
  | some x=>simp_all
end
end
section
def zim:List oE->Bool
 | .reg .. :: _=>true
 | _=>false
section
variable {P:Program}{C:iA}{B N:Nat}{I:World->Prop}{μ:Mu}{w:World}{base:List Frame}{m:Machine}
theorem Yv(hF:Fu P C){f:Nat}{args:List zA}{args':Array Value}{H:xA}(hH:rB B N μ H w)(hl:pB μ args args'.toList){g:xC}(he:yK C f args false=some g) :
  aD P C B N μ base (lone (Frame.enter P f args' .normal) base w) w (.next ⟨g,[],H⟩):=
 ⟨μ,_,[],w,.refl _ _,fun _ _ h=>h,Below.refl N w,hH,(Pw (cur:=some H) hF he hl).1,.nil⟩
end
end
section
variable {c fr:xC}{old tm tm':Tm}{t1 t2 todo:List oE}{H:xA}{o o':dF}{v:zA}{r:sK}{κn:Tm->xA->iB}{olds:List (Nat × List Nat)}{live:List Nat}{i:Nat}
inductive cK (C:iA):dF->dF->Prop
 | refl (o:dF):cK C o o
 | step {o o':dF}:cK C (lV C o) o'->cK C o o'
 | forget {todo:List oE} {tm tm':Tm} {R:bJ} {cs:List xC} {H:xA} {o':dF}:zim todo=false->(∀i v,tm'.get i=some v->tm.get i=some v)->cK C (.next ⟨⟨todo,tm',R⟩,cs,H⟩) o'->cK C (.next ⟨⟨todo,tm,R⟩,cs,H⟩) o'
def cK.trans{C:iA}{a b c:dF}(h:cK C a b)(k:cK C b c):cK C a c:=by
 induction h with
 | refl=>exact k
 | step _ ih=>exact .step (ih k)
 | forget h1 h2 _ ih=>exact .forget h1 h2 (ih k)
section
variable {P:Program}{C:iA}{B N:Nat}{I:World->Prop}{μ:Mu}{w:World}{base:List Frame}{m:Machine}
def yF.forget{n:Nat} {tmps:Array Value}(h:yF μ n tm tmps)(hs:∀i v,tm'.get i=some v->tm.get i=some v):yF μ n tm' tmps:=⟨h.1,fun i v hv=>h.2 i v (hs i v hv)⟩
theorem zd9  {R:bJ}{acs:List xC} (hr:zim todo=false)(hs:∀i v,tm'.get i=some v->tm.get i=some v)(h:aD P C B N μ base m w (.next ⟨⟨todo,tm,R⟩,acs,H⟩)) :
  aD P C B N μ base m w (.next ⟨⟨todo,tm',R⟩,acs,H⟩):=by
 obtain⟨μ',b,cs,w',h1,h2,h3,h4,h5,h6⟩:=h
 obtain⟨bfn,btmps,btodo,bdefers,bmode,bkind,bround⟩:=b
 refine⟨μ',_,cs,w',h1,h2,h3,h4,⟨h5.rest,?_⟩,h6⟩
 have hb:=h5.body
 simp only at hb ⊢
 split at hb
 ·rename_i hm
  rw[yab hm]
  cases hb with
  | plain a t=>exact .plain a (t.forget hs)
  | reg _ _ _ _=>cases hr
  | mid _ _ _ _ _=>cases hr
 ·rename_i hm
  rw[yaa hm];exact hb.forget hs
theorem aD.reach(hS:uK P C B N I)(hI:I w) (h:cK C o o'):aD P C B N μ base m w o->aD P C B N μ base m w o':=by
 induction h with
 | refl=>exact id
 | step _ ih=>grind [GD]
 | forget hr hs _ ih=>grind [zd9]
end
def Ir(C:iA)(f:Nat)(ds:List mH)(fr:xC)(H:xA)(v:zA)(fl:Bool:=false):Prop:=
 fr.R.mode=.returning/\fr.R.defers=ds/\fr.R.deferred=fl/\fr.R.fn=f/\∃fn l,C.fns.get f=some fn/\rX C H fr.tm fn.results.toList=some l/\v=Gm l
def Zk(r:mN)(l:Nat)(tm:Tm):xC:=⟨[.code r.assign,.beginRound,.code r.body],tm,⟨r.fn,r.n,[],.run,false,some l⟩⟩
def zm4(f:Nat)(ds:List mH)(fr:xC)(v:zA)(fl:Bool:=false):Prop:=fr.R.mode=.panicking [⟨v,false⟩]/\fr.R.defers=ds/\fr.R.deferred=fl/\fr.R.fn=f
def mQ(C:iA)(f:Nat)(ds:List mH)(fr:xC)(H:xA)(o:nH)(fl:Bool:=false):Prop:=if o.p=true then zm4 f ds fr o.v fl/\∃fn,C.fns.get f=some fn else Ir C f ds fr H o.v fl
structure tS (C:iA) (φ:dE):Prop where
 fn:∀f args H x,φ (.func f) args H=some x->∃g,yK C f args false=some g/\∀acs,∃fr',cK C (.next ⟨g,acs,H⟩) (.next ⟨fr',acs,x.2⟩)/\mQ C f [] fr' x.2 x.1
 rd:∀l args H x,φ (.yld l) args H=some x->∃r tm,xJ H l=some r/\Ax r.n r.params args r.tm=some tm/\x.1.p=false/\∀c acs c',kH c x.1.v=some c'->cK C (.next ⟨Zk r l tm,c::acs,H⟩) (.next ⟨c',acs,x.2⟩)
abbrev eY:=List mH->dF->nH × xA->Prop
def Fin (C:iA)(E:eY)(ds:List mH)(o:dF)(x:nH × xA):Prop:=∃o',cK C o o'/\E ds o' x
theorem Fin.step{C:iA}{E:eY}{ds:List mH} {x:nH × xA}(h:Fin C E ds (lV C o) x):Fin C E ds o x:=by
 obtain⟨fr,h1,h2⟩:=h;exact⟨fr,.step h1,h2⟩
theorem Fin.of{C:iA}{E:eY}{ds:List mH} {x:nH × xA}(hr:cK C o o')(h:Fin C E ds o' x):Fin C E ds o x:=by
 obtain⟨fr,h1,h2⟩:=h;exact⟨fr,hr.trans h1,h2⟩
abbrev RR(f N:Nat)(ro:Option Nat)(ds:List mH)(fl:Bool:=false):bJ:=⟨f,N,ds,.run,fl,ro⟩
structure Mc (C:iA) (E:eY) (G:nH × xA->Prop) (f N:Nat) (ro:Option Nat) (acs:List xC) (fl:Bool:=false):Prop where
 not:∀ds todo tm H x,¬ E ds (.next ⟨⟨todo,tm,RR f N ro ds fl⟩,acs,H⟩) x
 all:ro=none->∀x,G x
 pop:ro=none->∀r ds o x,x.1.p=false->E (⟨none,r,[]⟩::ds) o x->pY x.2 r=some (some [])->∃o',cK C o o'/\E ds o' (x.1,setBlk x.2 r (.deferred none))
 pan:∀ds todo tm x,G x->x.1.p=true->E ds (.next ⟨nX ⟨todo,tm,RR f N ro ds fl⟩ [⟨x.1.v,false⟩],acs,x.2⟩) x
structure Lv (C:iA) (E:eY) (G:nH × xA->Prop) (f N:Nat) (ro:Option Nat) (acs:List xC) (κ:Kt) (k:List oE) (fl:Bool:=false):Prop where
 norm:∀ds x tm H,G x->κ.norm tm H=some x->Fin C E ds (.next ⟨⟨k,tm,RR f N ro ds fl⟩,acs,H⟩) x
 exit:∀ds x i tm H,G x->κ.exit i tm H=some x->Fin C E ds (.next ⟨⟨.code (.exit i)::k,tm,RR f N ro ds fl⟩,acs,H⟩) x
 ret:∀ds x tm H,G x->κ.ret tm H=some x->∀k',Fin C E ds (.next ⟨⟨.code .ret::k',tm,RR f N ro ds fl⟩,acs,H⟩) x
structure It where
 i:Nat
 pl:List Nat
 f:Operand
 ps:Array Nat
 as:List (Nat × Array Oper)
 c:oC
def mK(c:oC):List It:=
 oC.rec (motive:=fun _=>List It) [] (fun _ _ _=>[]) (fun _ _ a b=>fD a b) (fun _ _ _ a b=>fD a b) (fun _ _ a=>a) (fun _ _ a=>a) (fun _=>[]) [] (fun _ _ a=>a)
  (fun i pl f ps as c a=>⟨i,pl,f,ps,as,c⟩::a) c
section
variable {C:iA}{φ:dE}{E:eY}{G:nH × xA->Prop}{ds:List mH}{ro:Option Nat}{f N:Nat}{acs:List xC}{R:bJ}{κ:Kt}{k:List oE}{x:nH × xA}{all:Array Oper}{fl:Bool}
theorem yJ(hR:R.mode.running=true)    : lV C (.next ⟨⟨todo,tm,R⟩,acs,H⟩)=iT C todo tm R acs H:=by
 show(bif R.mode.running then iT C todo tm R acs H else _)=_
 grind
def zdy{c':xC}  (hr:Ir C f [] fr H v)(hf:kH c v=some c'):lV C (.next ⟨fr,c::acs,H⟩)=.next ⟨c',acs,H⟩:=by
 obtain⟨h1,h2,h3,h4,fn,l,h5,h6,rfl⟩:=hr
 obtain⟨todo,tm,ffn,n,defers,mode,deferred,round⟩:=fr
 simp only at h1 h2 h3 h4 h6
 subst h1 h2 h3 h4
 show Gk C ⟨todo,tm,_⟩ (c::acs) H=_
 unfold Gk;rw[h5,pA,h6];simp only[cond_false];rw[hf];rfl
def zhh   {g:Nat}{fn:Func}(hrun:c.R.mode=.run)(hr:zm4 g [] fr v)(hf:C.fns.get g=some fn):lV C (.next ⟨fr,c::acs,H⟩)=.next ⟨nX c [⟨v,false⟩],acs,H⟩:=by
 obtain⟨h1,h2,h3,h4⟩:=hr
 obtain⟨todo,tm,ffn,n,defers,mode,deferred,round⟩:=fr
 simp only at h1 h2 h3 h4
 subst h1 h2 h3 h4
 show yM (ob (C.fns.get ffn) fun _=>some (⟨nX c [⟨v,false⟩],acs,H⟩:oS)) 19=_
 rw[hf];rfl
def Zo(hφ:tS C φ)  {K:zA->xA->iB}(h:nG φ r H K=some x)
  (hK:∀v H' c',kH fr v=some c'->K v H'=some x->Fin C E ds (.next ⟨c',acs,H'⟩) x) (hfin:∀v,∃c',kH fr v=some c') (hrun:fr.R.mode=.run) (hP:x.1.p=true->E ds (.next ⟨nX fr [⟨x.1.v,false⟩],acs,x.2⟩) x):Fin C E ds (Lr r C fr acs H) x:=by
 cases r<;>simp only[nG]at h<;>try (cases h;done)
 case val v H'=>
  have h2:K v H'=some x:=h
  obtain⟨c',hc⟩:=hfin v
  show Fin C E ds (Gu v H' C fr acs H) x
  unfold Gu;rw[hc];exact hK _ _ _ hc h2
 case enter g args=>
  rw[sA]at h;obtain⟨p,h1,h4⟩:=h
  obtain⟨c',hc⟩:=hfin p.1.v
  show Fin C E ds (Nv g args C fr acs H) x
  unfold Nv;obtain⟨ge,he,r0⟩:=hφ.fn _ _ _ _ h1
  obtain⟨fr',r1,r2⟩:=r0 (fr::acs)
  rw[he]
  cases hp:p.1.p with
  | true=>
   rw[hp]at h4;have h4:some p=some x:=h4
   cases h4;unfold mQ at r2;rw[yab hp]at r2;obtain⟨r2,fn,hfn⟩:=r2
   refine Fin.of (r1.trans (.step ?_)) ⟨_,.refl _,hP hp⟩
   rw[zhh hrun r2 hfn];exact .refl _
  | false=>
   rw[hp]at h4;have h4:K p.1.v p.2=some x:=h4
   unfold mQ at r2;rw[hp,yaa (by simp)]at r2
   refine Fin.of (r1.trans (.step ?_)) (hK _ _ _ hc h4)
   rw[zdy r2 hc];exact .refl _
 case round l args=>
  rw[sA]at h;obtain⟨p,h1,h4⟩:=h
  rw[sB]at h4;obtain⟨c',hc⟩:=hfin p.1.v
  obtain⟨r,tm,e1,e2,e3,r0⟩:=hφ.rd _ _ _ _ h1
  show Fin C E ds (Nt l args C fr acs H) x
  unfold Nt;rw[e1,pA,e2,pA];exact Fin.of (r0 _ _ _ hc) (hK _ _ _ hc h4.2)
 case panic v=>
  cases h;exact⟨_,.refl _,hP rfl⟩
theorem sX{m:bW}(h:m.running=true):m=.run:=by cases m<;>first | rfl | cases h
theorem VG(hφ:tS C φ)(hR:R.mode.running=true)(hN:R.n=N)(hP:∀todo tm,x.1.p=true->E ds (.next ⟨nX ⟨todo,tm,R⟩ [⟨x.1.v,false⟩],acs,x.2⟩) x) (hκ:∀tm H,κn tm H=some x->Fin C E ds (.next ⟨⟨k,tm,R⟩,acs,H⟩) x) :
  ∀(l:List Oper) (tm:Tm) (H:xA),nM C φ all N κn l tm H=some x->Fin C E ds (pM C all k R acs l tm H) x:=by
 intro l;induction l with
 | nil=>exact fun tm H h=>hκ tm H h
 | cons o l ih=>
  intro tm H h;rw[Eg,sA]at h;obtain⟨w,h1,h⟩:=h
  rw[Dy,h1]
  cases w with
  | false=>simp_all
  | true=>
   rw[yab rfl]at h;simp only[];generalize (eE o.op).f C (.now tm) H=r at h
   cases hv:r.asVal with
   | some p=>
    have:r=.val p.1 p.2:=by cases r<;>simp[sK.asVal]at hv;rw[<- hv]
    grind [nG,wQ]
   | none=>
    refine Zo hφ h (fun v H' c' hc hK=>?_) (fun v=>⟨⟨.ops all l::k,putA R.n tm o.dst v,R⟩,by unfold kH;simp only[hR,cond_true];rfl⟩) (sX hR) (hP _ _)
    unfold kH at hc;simp only[hR,cond_true]at hc;have hc:some (⟨.ops all l::k,putA R.n tm o.dst v,R⟩:xC)=some c':=hc
    cases hc;refine .step ?_
    rw[yJ hR,hN];rw[wQ]at hK;exact ih _ _ hK.2
theorem Tj   {K:Tm->iB}:∀(l:List Nat) (tm:Tm),wI C H all N old olds K l tm=some x->∃tm',vT C H all N old olds l tm=some tm'/\K tm'=some x:=by
 intro l;induction l with
 | nil=>exact fun tm h=>⟨tm,rfl,h⟩
 | cons i l ih=>
  intro tm h;rw[Tl,sA]at h;obtain⟨o,h1,h⟩:=h
  rw[sA]at h;grind [vT,pA,sA,wQ]
def CK{C:iA}{o:Op}{e:vD}  (hf:wM o=true)(h:(eE o).f C e H=r)(h1:∀q,r≠dL q):False:=by
 have key:∀q:Option (zA × xA),dL q=r->False:=fun q e=>h1 q e.symm
 cases o<;>simp only[wM]at hf<;>first
  | (cases hf;done)
  | exact key _ h
theorem TL(hφ:tS C φ)(hR:R.mode.running=true)(hN:R.n=N)(hP:∀todo tm,x.1.p=true->E ds (.next ⟨nX ⟨todo,tm,R⟩ [⟨x.1.v,false⟩],acs,x.2⟩) x) (hκ:∀tm H,κn tm H=some x->Fin C E ds (.next ⟨⟨k,tm,R⟩,acs,H⟩) x)   :
  ∀(l:List lG) (tm:Tm) (H:xA),rJ C φ all N old olds κn l tm H=some x->Fin C E ds (.next ⟨⟨.reg all old olds l::k,tm,R⟩,acs,H⟩) x:=by
 intro l;induction l with
 | nil=>
  intro tm H h;refine .step ?_
  rw[yJ hR];exact hκ tm H h
 | cons st l ih=>
  intro tm H h
  cases hg:tW all st with
  | true=>
   rw[Ni hg,Ue]at h;obtain⟨h0,es,H',h1,h2,h3⟩:=h
   obtain⟨tm',hl1,hl2⟩:=Tj _ _ h3
   refine .step ?_
   rw[yJ hR];show Fin C E ds (tU all old olds (st::l) C k tm R acs H) x
   unfold tU;have hg0:=qC.1 hg
   rw[kD]at hg0;have hnone:tD all.toList st.heavy=none:=by
    grind [bG]
   simp only[hnone];rw[rD,yab (qC.2 (by rw[kD];omega)),rD,yab (show Nat.blt (yB all.toList+yB all.toList) st.heavy=true from hg)]
   unfold Re;rw[h0,show ∀(x:Option oS),tB true x=x from fun _=>rfl,h1,pA,h2,pA,hN,hl1,pA]
   exact ih _ _ hl2
  | false=>
  rw[Jm hg,sA]at h;obtain⟨o,h1,h⟩:=h
  rw[sA]at h;obtain⟨w,h2',h⟩:=h
  have hgn:Nat.blt (yB all.toList+yB all.toList) st.heavy=false:=hg
  by_cases hfl:Nat.blt (yB all.toList) st.heavy=true
  ·-- an operation that is done early
   unfold aW at h2';unfold eN at h1 h;rw[hfl]at h1 h2' h
   simp only[cond_true,sA,sB,ybb]at h1 h2'
   obtain⟨w',h2,⟨⟨hw,hfo⟩,hlo⟩,h2'⟩:=h2'
   cases h2'
   subst hw;simp only[if_true,cond_true]at h;have hval:∃v H',(eE o.op).f C (.mixed tm old (sF (Nat.sub st.heavy (Nat.succ (yB all.toList))) olds) (eH o.op)) H=.val v H':=by
    cases hr:(eE o.op).f C (.mixed tm old (sF (Nat.sub st.heavy (Nat.succ (yB all.toList))) olds) (eH o.op)) H with
    | val v H'=>simp_all
    | enter g args=>exact(CK hfo hr fun q=>by cases q<;>simp[dL]).elim
    | round g args=>exact(CK hfo hr fun q=>by cases q<;>simp[dL]).elim
    | panic v=>exact(CK hfo hr fun q=>by cases q<;>simp[dL]).elim
    | _=>rw[hr]at h;cases h
   obtain⟨v,H',hv⟩:=hval
   rw[hv]at h;have h:(zM C o.type v fun v=>pN C H' all old olds (putA N tm o.dst v) (wI C H' all N old olds (fun tm=>rJ C φ all N old olds κn l tm H') st.lights (putA N tm o.dst v)) st.again)=some x:=h
   rw[wQ]at h;obtain⟨ha,hl⟩:=Qp _ h.2
   obtain⟨tm',hl1,hl2⟩:=Tj _ _ hl
   refine .step ?_
   rw[yJ hR];show Fin C E ds (tU all old olds (st::l) C k tm R acs H) x
   unfold tU;have hnone:tD all.toList st.heavy=none:=by
    grind [bG,qC,kD]
   simp only[hnone];rw[hfl,cond_true,hgn,cond_false];unfold Rf;rw[h1,pA,h2,pA,hv,hlo];show Fin C E ds (yM (ob (vT C H' all R.n old olds st.lights (putA R.n tm o.dst v)) fun tm'=>some ⟨⟨.reg all old olds l::k,tm',R⟩,acs,H'⟩) 23) x
   rw[hN,hl1,pA];exact ih _ _ hl2
  have hfl:Nat.blt (yB all.toList) st.heavy=false:=Bool.eq_false_iff.2 hfl
  unfold aW at h2';unfold eN at h1 h;rw[hfl]at h1 h2' h
  simp only[cond_false,sA]at h1 h2'
  obtain⟨w',h2,h2'⟩:=h2'
  cases h2'
  simp only[cond_false]at h;have back0:∀v H' c',kH (⟨.reg all old olds (st::l)::k,tm,R⟩:xC) v=some c' →
    pN C H' all old olds (putA N tm o.dst v) (wI C H' all N old olds (fun tm=>rJ C φ all N old olds κn l tm H') st.lights (putA N tm o.dst v)) st.again=some x->Fin C E ds (.next ⟨c',acs,H'⟩) x:=by
   intro v H' c' hc hK;unfold kH at hc;simp only[hR,cond_true]at hc;have hc:(ob (tD all.toList st.heavy) fun o=>some (⟨.reg all old olds (⟨all.size,st.lights,st.again⟩::l)::k,putA R.n tm o.dst v,R⟩:xC))=some c':=hc
   rw[h1,pA]at hc
   cases hc;refine .step ?_
   rw[yJ hR,hN];obtain⟨ha,hl⟩:=Qp _ hK
   obtain⟨tm',hl1,hl2⟩:=Tj _ _ hl
   show Fin C E ds (tU all old olds (⟨all.size,st.lights,st.again⟩::l) C k (putA N tm o.dst v) R acs H') x
   unfold tU;have:tD all.toList all.size=none:=by rw[bG];simp
   simp only[this];rw[rD,yaa fun e=>by grind [qC,kD]];show Fin C E ds (Mh all old olds ⟨all.size,st.lights,st.again⟩ l C k (putA N tm o.dst v) R acs H') x
   unfold Mh;simp only[ha,hN,hl1,pA];exact ih _ _ hl2
  have back:∀v H' c',kH (⟨.reg all old olds (st::l)::k,tm,R⟩:xC) v=some c' →
    (zM C o.type v fun v=>pN C H' all old olds (putA N tm o.dst v) (wI C H' all N old olds (fun tm=>rJ C φ all N old olds κn l tm H') st.lights (putA N tm o.dst v)) st.again)=some x->Fin C E ds (.next ⟨c',acs,H'⟩) x:=by
   grind [wQ]
  refine .step ?_
  rw[yJ hR];show Fin C E ds (tU all old olds (st::l) C k tm R acs H) x
  unfold tU;simp only[h1];unfold Rd;rw[h2];simp only[];have hfin:∀v,∃c',kH (⟨.reg all old olds (st::l)::k,tm,R⟩:xC) v=some c':=fun v=>⟨⟨.reg all old olds (⟨all.size,st.lights,st.again⟩::l)::k,putA R.n tm o.dst v,R⟩,by
   unfold kH;simp only[hR,cond_true];show(ob (tD all.toList st.heavy) fun o=>some (⟨.reg all old olds (⟨all.size,st.lights,st.again⟩::l)::k,putA R.n tm o.dst v,R⟩:xC))=_
   rw[h1];rfl⟩
  cases w with
  | true=>
   simp only[if_true]at h;exact Zo hφ h back hfin (sX hR) (hP _ _)
  | false=>
   simp only[ybq,if_false]at h;obtain⟨c',hc⟩:=hfin pD
   show Fin C E ds (Gu pD H C _ acs H) x
   unfold Gu;rw[hc];exact back0 _ _ _ hc h
theorem zij    (h:(keep live tm).get i=some v):tm.get i=some v:=by
 unfold keep Tm.get at h;simp only[vK]at h;split at h
 case isFalse=>cases h
 rename_i hk;have key:∀live:List Nat,(Kq tm live).get i=some v->tm.get i=some v:=by
  intro live;induction live with
  | nil=>grind [Kq,Tr.get_leaf]
  | cons j live ih=>
   grind [Kq,Tr.get_set]
 grind
def NR (hr:zim todo=false)   (h:Fin C E ds (.next ⟨⟨todo,keep live tm,R⟩,acs,H⟩) x):Fin C E ds (.next ⟨⟨todo,tm,R⟩,acs,H⟩) x:=
 Fin.of (.forget hr (fun _ _=>zij) (.refl _)) h
def Ul(hE:Mc C E G f N ro acs fl) (h1:zim t1=false)(hs:∀tm H,iT C t1 tm (RR f N ro ds fl) acs H=iT C t2 tm (RR f N ro ds fl) acs H)  (h:Fin C E ds (.next ⟨⟨t2,tm,RR f N ro ds fl⟩,acs,H⟩) x):Fin C E ds (.next ⟨⟨t1,tm,RR f N ro ds fl⟩,acs,H⟩) x:=by
 obtain⟨o',hr,hv⟩:=h
 refine⟨o',?_,hv⟩
 generalize ho:(.next ⟨⟨t2,tm,RR f N ro ds fl⟩,acs,H⟩:dF)=o at hr
 induction hr generalizing tm with
 | refl=>
  subst ho;exact(hE.not _ _ _ _ _ hv).elim
 | step h ih=>
  subst ho;refine .step ?_
  rw[yJ rfl,hs,<- yJ rfl];exact h
 | forget hr2 hs2 h ih=>
  cases ho;exact .forget h1 hs2 (ih hv rfl)
theorem WF     : fU (some (.exit i)) C ⟨t1,tm,R⟩ acs H=fU (some (.exit i)) C ⟨t2,tm,R⟩ acs H:=by
 obtain⟨a,b,c,d,e,ro⟩:=R
 unfold fU
 cases ro<;>rfl
theorem CU(hE:Mc C E G f N ro acs fl) {y:oE}(hy:∀j,y.blockId=some j->Nat.beq j i=false)  (h:Fin C E ds (.next ⟨⟨.code (.exit i)::k,tm,RR f N ro ds fl⟩,acs,H⟩) x):Fin C E ds (.next ⟨⟨.code (.exit i)::y::k,tm,RR f N ro ds fl⟩,acs,H⟩) x:=by
 refine Ul hE rfl (fun tm H=>?_) h
 show Df i C (y::k) tm (RR f N ro ds fl) acs H=Df i C k tm (RR f N ro ds fl) acs H
 grind [yV,Df,WF]
theorem US(hφ:tS C φ)(hE:Mc C E G f N none acs fl){κ:Kt}(hκ:Lv C E G f N none acs κ k fl){fo:Operand}{ps:Array Nat}{a b:Code}  (h:cS C φ f N κ fo ps.toList a b tm H=some x):Fin C E ds (.next ⟨⟨.code (.rangeFunc fo ps a b)::k,tm,RR f N none ds fl⟩,acs,H⟩) x:=by
 unfold cS at h;rw[sA]at h;obtain⟨v,h1,h⟩:=h
 rw[sA]at h;obtain⟨⟨qf,q1,q2⟩,h2,h⟩:=h
 cases qf with
 | yld l=>cases h
 | func g=>
  simp only[sB,sA]at h;obtain⟨h3,y,h4,hy,r,h5,h6,z,h7,hz,d,h8,h9,h10⟩:=h
  have hy:y.1.p=false:=by simp_all
  have hz:z.1.p=false:=by simp_all
  have hp:C.prims.get g=none:=by
   cases hx:C.prims.get g with
   | none=>rfl
   | some u=>rw[hx]at h3;cases h3
  obtain⟨ge,he,r0⟩:=hφ.fn _ _ _ _ h4
  obtain⟨fr',r1,r2⟩:=r0 (⟨.inRange (H.next+1)::k,tm,RR f N none (⟨none,H.next,[]⟩::ds) fl⟩::acs)
  unfold mQ at r2;rw[hy,yaa (by simp)]at r2
  refine .step ?_
  rw[yJ rfl];show Fin C E ds (Mg fo ps a b C k tm (RR f N none ds fl) acs H) x
  have hin:Bb C (H.next+1) v=some ge:=by
   grind [Bb,pA]
  unfold Mg;rw[h1,pA];simp only[hin,pA];refine Fin.of (r1.trans (.step ?_)) (?_:Fin C E ds (.next ⟨⟨.endRange (H.next+1)::k,tm,RR f N none (⟨none,H.next,[]⟩::ds) fl⟩,acs,y.2⟩) x)
  ·rw[zdy r2 (c':=⟨.endRange (H.next+1)::k,tm,RR f N none (⟨none,H.next,[]⟩::ds) fl⟩) rfl]
   exact .refl _
  refine .step ?_
  rw[yJ rfl];show Fin C E ds (Mi (H.next+1) C k tm (RR f N none (⟨none,H.next,[]⟩::ds) fl) acs y.2) x
  unfold Mi;rw[h5,pA,h6];have key:Fin C E (⟨none,H.next,[]⟩::ds) (.next ⟨⟨(match r.pending with | some c=>.code c::k | none=>k),tm,RR f N none (⟨none,H.next,[]⟩::ds) fl⟩,acs,endLoop y.2 (H.next+1) r⟩) z:=by
   unfold Cy at h7;split at h7
   ·rename_i e;rw[e];exact hκ.norm _ _ _ _ (hE.all rfl _) h7
   ·rename_i e;rw[e];exact hκ.ret _ _ _ _ (hE.all rfl _) h7 k
   grind
  obtain⟨o',k1,k2⟩:=key
  have hd:pY z.2 H.next=some (some []):=by
   rw[h8]
   cases d with
   | none=>cases h9
   | some l=>cases l with | nil=>rfl | cons _ _=>cases h9
  obtain⟨o'',k3,k4⟩:=hE.pop rfl _ _ _ _ hz k2 hd
  cases h10;exact⟨o'',k1.trans k3,k4⟩
theorem Sm{α:Type}{a b:List α}(h:fD a b=[]):a=[]/\b=[]:=by grind [aG,List.append_eq_nil_iff]
theorem Uy(hφ:tS C φ)(hE:Mc C E G f N ro acs fl):∀(c:oC) (κ:Kt) (k:List oE),(ro=none\/mK c=[])->Lv C E G f N ro acs κ k fl->∀ds x tm H,G x->mD C φ f N c κ tm H=some x->Fin C E ds (.next ⟨⟨.code (qE c)::k,tm,RR f N ro ds fl⟩,acs,H⟩) x:=by
 intro c;induction c with
 | skip=>
  intro κ k _ hκ ds x tm H hG h;refine .step ?_
  rw[yJ rfl];exact hκ.norm _ _ _ _ hG h
 | region id ops d=>
  intro κ k _ hκ ds x tm H hG h;refine .step ?_
  rw[yJ rfl]
  cases d with
  | false=>exact VG hφ rfl rfl (fun todo tm hp=>hE.pan _ _ _ _ hG hp) (fun tm H h=>hκ.norm _ _ _ _ hG h) _ _ _ h
  | true=>
   have h:(ob (ob (C.plans.get f) fun t=>t.get id) fun p=>tB (dV ops p) (wI C H ops N tm.cut p.olds (fun tm'=>rJ C φ ops N tm.cut p.olds κ.norm p.stages tm' H) p.first tm.cut))=some x:=h
   rw[sA]at h;obtain⟨p,h1,h⟩:=h
   rw[sB]at h;obtain⟨tm',hl1,hl2⟩:=Tj _ _ h.2
   show Fin C E ds (Mj id ops C k tm (RR f N ro ds fl) acs H) x
   unfold Mj;rw[h1,pA,h.1,hl1];exact TL hφ rfl rfl (fun todo tm hp=>hE.pan _ _ _ _ hG hp) (fun tm H h=>hκ.norm _ _ _ _ hG h) _ _ _ hl2
 | seq a b iha ihb=>
  intro κ k hn hκ ds x tm H hG h;have hna:ro=none\/mK a=[]:=hn.imp id fun e=>(Sm e).1
  have hnb:ro=none\/mK b=[]:=hn.imp id fun e=>(Sm e).2
  refine Ul hE (t1:=.code (qE (.seq a b))::k) rfl (t2:=.code (qE a)::.code (qE b)::k) (fun _ _=>rfl) ?_
  exact iha ⟨mD C φ f N b κ,κ.exit,κ.ret⟩ _ hna ⟨fun ds x tm H hG h=>ihb _ _ hnb hκ ds x tm H hG h,fun ds x i tm H hG h=>CU hE (fun _ e=>by cases e) (hκ.exit _ _ _ _ _ hG h),hκ.ret⟩ ds x tm H hG h
 | cond c a b iha ihb=>
  intro κ k hn hκ ds x tm H hG h;have hna:ro=none\/mK a=[]:=hn.imp id fun e=>(Sm e).1
  have hnb:ro=none\/mK b=[]:=hn.imp id fun e=>(Sm e).2
  have h:(ob (ob (ev c (.now tm)) zA.asBool) fun t=>Bool.rec (motive:=fun _=>iB) (mD C φ f N b κ tm H) (mD C φ f N a κ tm H) t)=some x:=h
  rw[sA]at h;obtain⟨t,h1,h⟩:=h
  refine .step ?_
  rw[yJ rfl];show Fin C E ds (Mk c (qE a) (qE b) C k tm (RR f N ro ds fl) acs H) x
  unfold Mk;rw[h1]
  cases t with
  | true=>exact iha _ _ hna hκ _ _ _ _ hG h
  | false=>exact ihb _ _ hnb hκ _ _ _ _ hG h
 | block id c ih=>
  intro κ k hn hκ ds x tm H hG h;refine .step ?_
  rw[yJ rfl];have nx:∀ds x tm H,G x->κ.norm tm H=some x->Fin C E ds (.next ⟨⟨.inBlock id::k,tm,RR f N ro ds fl⟩,acs,H⟩) x:=by
   intro ds x tm H hG h;refine .step ?_
   rw[yJ rfl];exact hκ.norm _ _ _ _ hG h
  refine ih ⟨κ.norm,fun i tm H=>Bool.rec (motive:=fun _=>iB) (κ.exit i tm H) (κ.norm tm H) (Nat.beq id i),κ.ret⟩ _ hn ⟨nx,fun ds x i tm H hG h=>?_,hκ.ret⟩ ds x tm H hG h
  dsimp only at h
  cases hb:Nat.beq id i with
  | true=>
   rw[hb]at h;refine .step ?_
   rw[yJ rfl];show Fin C E ds (Df i C (.inBlock id::k) tm (RR f N ro ds fl) acs H) x
   have e:yV i (.inBlock id::k)=some k:=by
    show(bif Nat.beq id i then some k else yV i k)=_
    grind
   unfold Df;rw[e];exact hκ.norm _ _ _ _ hG h
  | false=>
   rw[hb]at h;exact CU hE (fun j e=>by cases e;exact hb) (hκ.exit _ _ _ _ _ hG h)
 | loop live c ih=>
  intro κ k hn hκ ds x tm H hG h;obtain⟨m,hm⟩:=AW h
  have it:∀(m:Nat) ds x tm H,G x->(Nat.rec (motive:=fun _=>Tm->xA->iB) (fun _ _=>none) (fun _ r tm H=>mD C φ f N c ⟨r,κ.exit,κ.ret⟩ (keep live.kept tm) H) m:Tm->xA->iB) tm H=some x->Fin C E ds (.next ⟨⟨.inLoop (qE c)::k,tm,RR f N ro ds fl⟩,acs,H⟩) x:=by
   intro m;induction m with
   | zero=>simp_all
   | succ m ihm=>
    intro ds x tm H hG h;refine NR (live:=live.kept) rfl (.step ?_)
    rw[yJ rfl];exact ih ⟨_,κ.exit,κ.ret⟩ _ hn ⟨ihm,fun ds x i tm H hG h=>CU hE (fun _ e=>by cases e) (hκ.exit _ _ _ _ _ hG h),hκ.ret⟩ _ _ _ _ hG h
  exact Ul hE (t1:=.code (qE (.loop live c))::k) rfl (t2:=.inLoop (qE c)::k) (fun _ _=>rfl) (it m _ _ tm H hG hm)
 | exit id=>exact fun κ k _ hκ ds x tm H hG h=>hκ.exit _ _ _ _ _ hG h
 | ret=>exact fun κ k _ hκ ds x tm H hG h=>hκ.ret _ _ _ _ hG h k
 | cut live c ih=>exact fun κ k hn hκ ds x tm H hG h=>NR rfl (ih κ k hn hκ _ _ _ _ hG h)
 | range i pl fo ps as c ih=>
  intro κ k hn hκ ds x tm H hG h;rcases hn with rfl | e
  ·exact US hφ hE hκ h
  ·cases e
end
end
end Go.Am
