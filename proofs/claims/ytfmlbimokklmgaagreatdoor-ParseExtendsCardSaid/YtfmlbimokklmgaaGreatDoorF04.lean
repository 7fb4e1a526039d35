/- The simulation: leaving, rounds, regions in order, heavy operations. -/
import Derived.Test.YtfmlbimokklmgaaGreatDoorF03
set_option linter.all false
noncomputable section
namespace Go.Am
open Go Go.RowKit
section
variable {m:Option Nat}{D id:Nat}{o:Oper}{olds:List (Nat × List Nat)}{anc:Tr Nat}{old:Tm}{S:Nat->Bool}{order:List Nat}{st:gG}{stages:List gG}
section
variable {P:Program}{C:oA}{B N:Nat}{I:World->Prop}{μ ν:Mu}{H H':xA}{w:World}{tm:Tm}{R:wK}{acs:List lB}{base cs:List Frame}
variable {b:Frame}{tmps:Array Value}{ds:List Deferred}{k:List mE}{k':List Item}{all:Array Oper}
def EP (h:Ct μ none m):m=none:=by
 cases m with
 | none=>rfl
 | some l=>exact h.elim
theorem Wm{l:Nat} (h:Ct μ (some l) m):∃i,μ l=some i/\m=some i.b:=by
 cases m with
 | none=>exact h.elim
 | some m=>obtain⟨i,h1,h2⟩:=h;simp_all
theorem Yo(hH:vB B N μ H w)(hcs:mG C μ acs cs)(hR:nH μ R (b.atR ⟨tmps,ds⟩ []))(ht:vF μ R.n tm tmps){todo:List mE}{btodo:List Item}{jump:Option Code}
  (h0:b.roundOf=none->Wp jump=true->step P (lone (b.atR ⟨tmps,ds⟩ btodo) (cs++base) w)=.next (lone { b.atR ⟨tmps,ds⟩ btodo with mode:=.returning } (cs++base) w))
  (h1:∀l c rest v w',b.roundOf=some l->b.kind=.normal->(Instr.endRound l jump).run P w=.ok v w'->step P (lone (b.atR ⟨tmps,ds⟩ btodo) (c::rest) w)=.next (lone (c.finish v) rest w')) :
  aD P C B N μ base (lone (b.atR ⟨tmps,ds⟩ btodo) (cs++base) w) w (bS jump C ⟨todo,tm,R⟩ acs H):=by
 unfold bS;simp only[]
 cases hr:R.roundOf with
 | none=>
  have hb:b.roundOf=none:=by
   have:=hR.round
   rw[hr]at this;exact EP this
  cases hj:Wp jump with
  | false=>exact trivial
  | true=>exact QY hH hcs hR ht (.one (h0 hb hj))
 | some l=>
  obtain⟨i,hi,hb⟩:∃i,μ l=some i/\b.roundOf=some i.b:=by
   have:=hR.round
   rw[hr]at this;exact Wm this
  simp only[]
  cases hx:wJ H l with
  | none=>exact trivial
  | some r=>
   rw[qA]
   cases hcs with
   | nil=>exact trivial
   | @cons c b1 acs1 cs1 hc hcs1=>
    simp only[]
    cases hd:R.deferred with
    | true=>exact trivial
    | false=>
     have hkind:b.kind=.normal:=by have:=hR.kind;rw[hd]at this;exact this
     cases hf:fH c (.bool jump.isNone)with
     | none=>exact trivial
     | some c'=>
      obtain⟨hl,r',hg,hw,rel⟩:=Ll hH hx hi
      have run:(Instr.endRound i.b jump).run P w=.ok (.bool jump.isNone) (World.setBlk w i.b (.loop { r' with state:=if jump.isNone then .ready else .done,pending:=jump })):=by
       simp_all [Instr.endRound,Kn,Gr]
      refine⟨μ,_,cs1,_,.one (h1 i.b b1 (cs1++base) _ _ hb hkind run),fun _ _ h=>h,vY (hH.own l i hl hi).1,?_,Fdzx hc hf (by rw[uA]),hcs1⟩
      refine hH.upd hg hi hl ?_
      rw[sJ];exact⟨_,rfl,rfl,rfl,rel.fn,rel.tm,rel.params,rel.assign,rel.body,rel.defers⟩
theorem WN  : ∀ {k:List mE} {k':List Item},iD (fG μ) k k'->xT id k=none->exitTo id k'=none:=by
 intro k k' h;induction h with
 | nil=>intro _;rfl
 | cons a l ih=>
  intro e
  cases a with
  | inBlock i=>
   grind [xT,mE.blockId,exitTo,mC]
  | _=>
   grind [xT,exitTo]
def zi7(hH:vB B N μ H w)(hcs:mG C μ acs cs)(hR:nH μ R (b.atR ⟨tmps,ds⟩ []))(ht:vF μ R.n tm tmps)(hk:iD (fG μ) k k')  :
  aD P C B N μ base (lone (b.atR ⟨tmps,ds⟩ (.code (.exit id)::k')) (cs++base) w) w (As id C k tm R acs H):=by
 unfold As
 cases he:xT id k with
 | some r=>
  obtain⟨r',h1,h2⟩:=WM hk he
  exact yZ hH hcs hR ht h2 (.one (stepR_exit h1))
 | none=>
  exact Yo hH hcs hR ht (fun _ h=>by cases h) fun l c rest v w' hb hkd hr=>stepR_round_exit hb hkd (WN hk he) hr
def ret_ok(hH:vB B N μ H w)(hcs:mG C μ acs cs)(hR:nH μ R (b.atR ⟨tmps,ds⟩ []))(ht:vF μ R.n tm tmps) :
  aD P C B N μ base (lone (b.atR ⟨tmps,ds⟩ (.code .ret::k')) (cs++base) w) w (xRet C k tm R acs H):=
 Yo hH hcs hR ht (fun hb _=>stepR_ret hb) fun _ _ _ _ _ hb hkd hr=>stepR_round_ret hb hkd hr
def Zz(hH:vB B N μ H w)(hcs:mG C μ acs cs)(hR:nH μ R (b.atR ⟨tmps,ds⟩ []))(ht:vF μ R.n tm tmps) :
  aD P C B N μ base (lone (b.atR ⟨tmps,ds⟩ []) (cs++base) w) w (bS none C ⟨[],tm,R⟩ acs H):=
 Yo hH hcs hR ht (fun hb _=>stepR_end hb) fun _ _ _ _ _ hb hkd hr=>stepR_round_end hb hkd hr
theorem Bg {rest:List Oper}:yM C all k R acs (o::rest) tm H=match wG o.guard all tm with
  | none=>.fail 20
  | some false=>yM C all k R acs rest (putA R.n tm o.dst dD) H
  | some true=>match ((bE o.op).f C (.now tm) H).asVal with
   | some p=>yM C all k R acs rest (putA R.n tm o.dst p.1) p.2
   | none=>Iq ((bE o.op).f C (.now tm) H) C ⟨.ops all (o::rest)::k,tm,R⟩ acs H:=by
 show(match wG o.guard all tm with
  | some w=>Bool.rec (motive:=fun _=>xG) (yM C all k R acs rest (putA R.n tm o.dst dD) H)
     (let r:=(bE o.op).f C (.now tm) H
     match r.asVal with
     | some p=>yM C all k R acs rest (putA R.n tm o.dst p.1) p.2
     | none=>Iq r C ⟨.ops all (o::rest)::k,tm,R⟩ acs H) w
  | none=>.fail 20)=_
 grind
theorem EV{n i:Nat}(h:i<n):(List.range n).drop i=i::(List.range n).drop (i+1):=by
 grind [List.drop_eq_getElem_cons]
theorem EO(hS:gK P C B N I):∀(rest:List Oper) (i:Nat) (tm:Tm) (H:xA) (w:World) (μ:Mu) (tmps:Array Value),rest=all.toList.drop i->i<=all.size->I w->vB B N μ H w->mG C μ acs cs →
  nH μ R (b.atR ⟨tmps,ds⟩ [])->vF μ R.n tm tmps->iD (fG μ) k k' →
  aD P C B N μ base (lone (b.atR ⟨tmps,ds⟩ (.inRegion all ((List.range all.size).drop i)::k')) (cs++base) w) w (yM C all k R acs rest tm H):=by
 intro rest;induction rest with
 | nil=>
  intro i tm H w μ tmps hi hle hI hH hcs hR ht hk;have:all.size<=i:=by
   simp_all
  rw[ybt (by simp_all)]
  exact yZ hH hcs hR ht hk (.one stepR_region_end)
 | cons o rest ih=>
  intro i tm H w μ tmps hi hle hI hH hcs hR ht hk;obtain⟨h1,h2⟩:=nW hi
  have hlt:i<all.size:=by grind
  have ho:all[i]?=some o:=by simp_all
  rw[Bg,EV hlt]
  cases hw:wG o.guard all tm with
  | none=>exact trivial
  | some wn=>
   have hwn:=ht.wanted (all:=all) hw
   cases wn with
   | false=>
    refine aD.of_steps (.one (Vw ho hwn)) (fun _ _ h=>h) (Below.refl N w) ?_
    rw[Gz];have t:=ht.put (ds:=ds) (dst:=o.dst) Nx
    exact ih (i+1) _ _ _ _ _ h2 hlt hI hH hcs (hR.slots t.1) t hk
   | true=>
    have hop:=zfz hS.tys hS.base hS.fns hS.prims hH hI (ht.erel (ds:=ds) hH.glob) o
    simp only[];generalize hr:(bE o.op).f C (.now tm) H=r at hop
    have hdef:(∃c,o.op=.defer c)->r=.fail\/∃d,r=.defer d:=fun h=>by grind [NJ]
    have hfr:xK C μ acs.length none ⟨.ops all (o::rest)::k,tm,R⟩ (b.atR ⟨tmps,ds⟩ (.inRegion all (i::(List.range all.size).drop (i+1))::k')):=by
     refine⟨hR.todo,?_⟩
     rw[yab hR.running,<- EV hlt,hi];exact .plain (.cons (.ops all i hle) hk) ht
    cases hv:r.asVal with
    | none=>grind [NL]
    | some p=>
     have:r=.val p.1 p.2:=by cases r<;>simp[oK.asVal]at hv;rw[<- hv]
     subst this;simp only[];have hd:∀c,o.op≠.defer c:=fun c e=>by
      rcases hdef ⟨c,e⟩with h | ⟨d,h⟩<;>cases h
     rcases hop with h | ⟨f,args',h3,h4⟩
     ·obtain⟨v',w',μ',s,hm,hH',hb,hv⟩:=Tw (b:=b) (k':=k') (rest:=(List.range all.size).drop (i+1)) (cs:=cs++base) ho hwn hd h
      refine aD.of_steps (.one s) hm.f hb ?_
      have t:=(ht.mono hm).put (ds:=ds) (dst:=o.dst) hv
      exact ih (i+1) _ _ _ _ _ h2 hlt (hS.inv _ _ hb hI) hH' (hcs.mono hm) ((hR.mono hm).slots t.1) t (hk.mono fun _ _ r=>r.mono hm)
     ·obtain⟨v',w',s,μ',hm,hH',hb,hv⟩:=MN (b:=b) (k':=k') (rest:=(List.range all.size).drop (i+1)) (cs:=cs++base) (R:=fun v' w'=>∃ μ',μ.le μ'/\vB B N μ' p.2 w'/\Below N w w'/\uA μ' p.1 v') ho hwn hd h3 (h4.mono fun e w' hh=>by simp_all)
      refine aD.of_steps s hm.f hb ?_
      have t:=(ht.mono hm).put (ds:=ds) (dst:=o.dst) hv
      exact ih (i+1) _ _ _ _ _ h2 hlt (hS.inv _ _ hb hI) hH' (hcs.mono hm) ((hR.mono hm).slots t.1) t (hk.mono fun _ _ r=>r.mono hm)
theorem zco(hS:gK P C B N I)(hI:I w)(hH:vB B N μ H w)(hcs:mG C μ acs cs)(hR:nH μ R (b.atR ⟨tmps,ds⟩ []))(hk:iD (fG μ) k k')
  (hr:sG μ all olds anc R.n old tm D S order tmps) (hst:cJ all.toList anc (st::stages) D=true) (hp:eH C μ acs.length H all olds R.n old tm D S) (ho:all[st.heavy]?=some o) :
  aD P C B N μ base (lone (b.atR ⟨tmps,ds⟩ (.inRegion all order::k')) (cs++base) w) w (Nr all old olds st stages o C k tm R acs H):=by
 have hlt:st.heavy<=all.size:=Nat.le_of_lt (ybe.1 ho).1
 obtain⟨S',order',tmps',μ',w',s,g,r1,p1⟩:=reach (b:=b) (k:=k') (cs:=cs++base) (ds:=ds) hS.tys hst hlt order S tmps μ w hH hr hp
 refine aD.of_steps s g.le g.below ?_
 replace hI:=hS.inv _ _ g.below hI
 replace hH:=g.heap
 replace hcs:=hcs.monoD fun d hd=>g.pd d (by omega)
 replace hR:=hR.mono g.le
 replace hk:iD (fG μ') k k':=hk.mono fun _ _ r=>r.mono g.le
 unfold Nr
 cases hw:wG o.guard all tm with
 | none=>exact trivial
 | some wn=>
  obtain⟨o',ho',hS',hb',_⟩:=r1.sched
  rw[ho]at ho';cases ho'
  have hwn:=r1.wanted ho hb' hw
  have hfr:xK C μ' acs.length none ⟨.reg all old olds (st::stages)::k,tm,R⟩ (b.atR ⟨tmps',ds⟩ (.inRegion all (st.heavy::order')::k')):=by
   refine⟨(hR.slots r1.size).todo,?_⟩
   rw[yab hR.running];exact .wait r1 hst hlt (toWeak hst hlt r1 p1) hk
  cases wn with
  | false=>
   refine Wy (H:=H) hfr hcs μ'.le_refl hH (Below.refl N w') Nx ?_
   rw[Frame.finish_atR,ho,yai];exact .one (Vw ho hwn)
  | true=>
   have hop:=zfz hS.tys hS.base hS.fns hS.prims hH hI (r1.erel (ds:=ds) hH.glob ho hS' hb') o
   exact NL hS hH hcs hfr ho hwn (fun h=>NJ h _ _ _) hop
theorem VY(hS:gK P C B N I)(hH:vB B N μ H w)(hcs:mG C μ acs cs)(hR:nH μ R (b.atR ⟨tmps,ds⟩ []))(hk:iD (fG μ) k k')
  (hr:sG μ all olds anc R.n old tm D S order tmps) (hst:cJ all.toList anc (st::stages) D=true) (hp:eH C μ acs.length H all olds R.n old tm D S) (hlt:all.size<st.heavy) (hle2:st.heavy<=all.size+all.size) :
  aD P C B N μ base (lone (b.atR ⟨tmps,ds⟩ (.inRegion all order::k')) (cs++base) w) w (Nt all old olds st stages (st.heavy-(all.size+1)) C k tm R acs H):=by
 obtain⟨o,D1,D2,ho,hf,h1,h2,h3⟩:=TA hst hlt hle2
 generalize st.heavy-(all.size+1)=i at *
 obtain⟨o',ho',hi,hb,hD1⟩:=Ld h1
 rw[ho]at ho';cases ho'
 unfold Nt;generalize hx:(ob (sD all.toList i) fun o=>ob (wG o.guard all tm) fun w=>xB (w&&sE (oZ C o.op)) (ob ((bE o.op).f C (.mixed tm old (nF i olds) (bH o.op)) H).asVal fun p=>
  ob (eR C p.2 all R.n old olds st.lights (putA R.n tm o.dst p.1)) fun tm'=>some (⟨⟨.reg all old olds stages::k,tm',R⟩,acs,p.2⟩:wR)))=x
 cases x with
 | none=>exact trivial
 | some x=>
  simp only[tA,wB,xH,ybb]at hx;obtain⟨o',ho',wn,hw,⟨hwn,hlo⟩,p,hv,tm',hl,hx⟩:=hx
  have hlo:oZ C o'.op=none:=by
   cases hx:oZ C o'.op with
   | none=>rfl
   | some _=>rw[hx]at hlo;cases hlo
  have:o'=o:=by
   simp_all
  subst this;subst hwn
  cases hx;have hop:(bE o'.op).f C (mR tm old olds i o') H=.val p.1 p.2:=by
   show(bE o'.op).f C (.mixed tm old (nF i olds) (bH o'.op)) H=_
   generalize (bE o'.op).f C (.mixed tm old (nF i olds) (bH o'.op)) H=r at hv
   cases r<;>simp[oK.asVal]at hv
   rw[<- hv]
  obtain⟨l,hl2⟩:∃l,p.2=yG H l none:=VZ hf hlo hop
  have hH':vB B N (μ.wait H.next (.cells (Tr.ofList l) (zB l) none,acs.length,i)) p.2 w:=by rw[hl2];exact hH.early
  have hle:μ.lw (μ.wait H.next (.cells (Tr.ofList l) (zB l) none,acs.length,i)):=fun _ _ h=>h
  have hpd:∀d,μ.ln d (μ.wait H.next (.cells (Tr.ofList l) (zB l) none,acs.length,i)):=fun d=>⟨hle,fun a x j ha=>by
   show(if a=H.next then _ else μ.pd a)=_
   rw[yaa]
   ·exact ha
   ·intro e
    have:=(hH.pnd _ _ _ ha).2.1
    rw[e,(hH.fresh _ (ybk _)).2]at this
    cases this⟩
  have hgrow:HM.HLe H p.2:=by
   intro b y hb;rw[hl2];show(H.t.set H.next _).get b=some y
   rw[Tr.get_set,yaa]
   ·exact hb
   ·intro e
    rw[e,(hH.fresh _ (ybk _)).2]at hb
    cases hb
  have r1:=(hr.light (v:=p.1) ho hi hb hD1).mono hle
  have p1:eH C (μ.wait H.next (.cells (Tr.ofList l) (zB l) none,acs.length,i)) acs.length p.2 all olds R.n old (putA R.n tm o'.dst p.1) D1 S:=by
   intro j hj hSj;rw[hD1]at hj;simp only[ycq,beq_iff_eq]at hj;rcases hj with hj | rfl
   ·rcases hp j hj hSj with⟨u,wu,vu,pu⟩ | ⟨u,vu,pu⟩
    ·exact .inl ⟨u,wu,vu,(pu.keep hr.reg hr.dclosed hj ho hi).grow hgrow⟩
    ·exact .inr ⟨u,vu,(pu.keep hr.reg hr.dclosed hj ho hi).mono (hpd _)⟩
   ·refine .inr ⟨o',p.1,aW.fresh hr.reg hr.dclosed ho hb hi hf hlo hw ⟨H,l,by rw[hop,hl2],?_⟩⟩
    show(if H.next=H.next then _ else μ.pd H.next)=_
    rw[yab rfl]
  obtain⟨r2,p2⟩:=Qz _ _ _ hl h2 r1 p1
  exact⟨_,_,cs,w,.refl _ _,hle,Below.refl N w,hH',⟨(hR.mono hle).todo,by rw[yab hR.running];exact .reg r2 h3 p2 (hk.mono fun _ _ r=>r.mono hle)⟩,hcs.monoD fun d _=>hpd d⟩
theorem Yd{α β:Type}{f:α->Option β}(d:β):∀ {l:List α} {r:List β},kH f l=some r->(∀x∈l,f x=some ((f x).getD d))/\r=l.map fun x=>(f x).getD d
 | [],r,h=>by grind [Eo]
 | a::l,r,h=>by
  rw[nQ,tA]at h;obtain⟨v,hv,h⟩:=h
  rw[tA]at h;obtain⟨m,hm,h⟩:=h
  cases h;obtain⟨h1,h2⟩:=Yd d hm
  grind
theorem VS(hS:gK P C B N I)(hH:vB B N μ H w)(hcs:mG C μ acs cs)(hR:nH μ R (b.atR ⟨tmps,ds⟩ []))(hk:iD (fG μ) k k')
  (hr:sG μ all olds anc R.n old tm D S order tmps) (hst:cJ all.toList anc (st::stages) D=true) (hp:eH C μ acs.length H all olds R.n old tm D S) (hlt:all.size+all.size<st.heavy) :
  aD P C B N μ base (lone (b.atR ⟨tmps,ds⟩ (.inRegion all order::k')) (cs++base) w) w (Ns all old olds st stages C k tm R acs H):=by
 obtain⟨D1,D2,hG,h2,h3⟩:=SZ hst hlt
 unfold Ns;generalize hx:(xB (fX C all) (ob (Ic all old olds tm st.again) fun es=>ob (eZ C es H) fun H'=>ob (eR C H' all R.n old olds st.lights tm) fun tm'=>some (⟨⟨.reg all old olds stages::k,tm',R⟩,acs,H'⟩:wR)))=x
 cases x with
 | none=>exact trivial
 | some x=>
  simp only[tA,wB]at hx;obtain⟨hlen,es,he,H1,hg,tm',hl,hx⟩:=hx
  cases hx;unfold eZ at hg;simp only[tA,wB,ybb]at hg;obtain⟨rs,hrs,⟨hap,hrd⟩,hg⟩:=hg
  obtain⟨e1,e2⟩:=Yd (mN.store 0 .nilptr .nilptr) he
  obtain⟨e3,e4⟩:=Yd (RE.st 0 0 []) hrs
  have hef:∀i∈st.again,yY all old olds tm i=some ((yY all old olds tm i).getD (mN.store 0 .nilptr .nilptr))/\oV C ((yY all old olds tm i).getD (mN.store 0 .nilptr .nilptr))=some ((oV C ((yY all old olds tm i).getD (mN.store 0 .nilptr .nilptr))).getD (RE.st 0 0 [])):=
   fun i hi=>⟨e1 i hi,e3 _ (by grind)⟩
  generalize hE:(fun i=>(yY all old olds tm i).getD (mN.store 0 .nilptr .nilptr))=ef at e2
  have hef:∀i∈st.again,yY all old olds tm i=some (ef i)/\oV C (ef i)=some ((fun i=>(oV C (ef i)).getD (RE.st 0 0 [])) i):=by
   grind
  have hrs':rs=st.again.map fun i=>(oV C (ef i)).getD (RE.st 0 0 []):=by rw[e4,e2,List.map_map];rfl
  generalize (fun i=>(oV C (ef i)).getD (RE.st 0 0 []))=re at hef hrs'
  subst hrs'
  have hap:=NI hap
  have hrd:∀i∈st.again,Ni C H (re i):=by
   grind [jH,RS]
  have hd1:lN C H (st.again.map re) H1:=by
   have:=lN.list lN.nil (l:=st.again.map re) (fun e he=>by grind) (by grind) hg
   rwa [yah]at this
  obtain⟨S',order',tmps',μ',w',seq,Hs,s1,b1,l1,d1,pm,dn,hm,hH',r1,p1,hin⟩:=zcr (b:=b) (k:=k') (cs:=cs++base) (ds:=ds) (H:=H) hS.tys hS.base hG hlen hef hap hrd order S tmps μ w [] H D List.nodup_nil (fun i hi=>by cases hi) lN.nil (fun i hi=>by cases hi) (fun k=>by simp) hH hr hp
  have hapS:(seq.map re).Pairwise mS:=((pm.map re).symm.pairwise_iff (fun h=>mS.symm h)).1 hap
  have heq:HEq' μ' Hs H1:=dn.perm hd1 (pm.map re) hapS fun e he=>by grind
  have hH1:=hH'.congr' heq
  have p2:eH C μ' acs.length H1 all olds R.n old tm D1 S':=by
   cases hG0:st.again with
   | nil=>
    rw[hG0]at pm hd1;have hs0:seq=[]:=List.Perm.eq_nil pm
    subst hs0;have hle:HM.HLe Hs H1:=fun a y hy=>by rw[hd1.no a (fun e he=>by cases he),<- dn.no a (fun e he=>by cases he)];exact hy
    intro j hj hSj;rcases p1 j hj hSj with⟨u,wu,vu,pu⟩ | h
    ·exact .inl ⟨u,wu,vu,pu.grow hle⟩
    grind
   | cons g l=>
    have hg:g∈st.again:=by grind
    have hSg:S' g=true:=hin g (pm.mem_iff.2 hg)
    obtain⟨o,ho,_⟩:=hG.op g hg
    refine FN hG hlen (seq:=st.again) hG.done (fun i hi=>hin i (pm.mem_iff.2 hi)) hg (fun k hk=>r1.reg.up r1.closed ho (fun j hj=>r1.closed g o ho hSg j hj) hk) p1 H1
  obtain⟨r2,p3⟩:=Qz _ _ _ hl h2 r1 p2
  exact⟨_,_,cs,w',s1,l1,b1,hH1,⟨((hR.mono l1).slots r1.size).todo,by rw[yab hR.running];exact .reg r2 h3 p3 (hk.mono fun _ _ r=>r.mono l1)⟩,hcs.monoD fun d hd=>d1 d (by omega)⟩
end
end
section
variable {l:Nat}{i:BI}{f:Operand}{params:Array Nat}{assign body c:Code}{v:zA}{h:lB}
section
variable {P:Program}{C:oA}{B N:Nat}{I:World->Prop}{μ ν:Mu}{H H':xA}{w:World}{tm:Tm}{R:wK}{acs:List lB}{base cs:List Frame}
variable {b:Frame}{tmps:Array Value}{ds:List Deferred}{k:List mE}{k':List Item}{all:Array Oper}
theorem zdh(hH:vB B N μ H w)(hcs:mG C μ acs cs)(hR:nH μ R (b.atR ⟨tmps,ds⟩ []))(ht:vF μ R.n tm tmps)(hk:iD (fG μ) k k') :
  aD P C B N μ base (lone (b.atR ⟨tmps,ds⟩ (.beginRound::k')) (cs++base) w) w (Jh C k tm R acs H):=by
 unfold Jh
 cases hr:R.roundOf with
 | none=>exact trivial
 | some l=>
  obtain⟨i,hi,hb⟩:∃i,μ l=some i/\b.roundOf=some i.b:=by
   have:=hR.round
   rw[hr]at this;exact Wm this
  rw[qA]
  cases hx:wJ H l with
  | none=>exact trivial
  | some r=>
   rw[qA]
   cases hst:Nat.beq (LoopState.tag r.state) 0 with
   | false=>exact trivial
   | true=>
    obtain⟨hl,r',hg,hw,rel⟩:=Ll hH hx hi
    have ready:r'.state=.ready:=by
     rw[rel.state]
     cases hs:r.state<;>rw[hs]at hst<;>first | rfl | grind [LoopState.tag,Nat.beq]
    have run:(Instr.beginRound i.b).run P w=.ok () (World.setBlk w i.b (.loop { r' with state:=.busy })):=by
     simp_all [Instr.beginRound,Kn,Gr]
    refine⟨μ,_,cs,_,.one (stepR_beginRound hb run),fun _ _ h=>h,vY (hH.own l i hl hi).1,?_,⟨?_,?_⟩,hcs⟩
    ·refine hH.upd hg hi hl ?_
     rw[sJ];exact⟨_,rfl,rfl,rel.pending,rel.fn,rel.tm,rel.params,rel.assign,rel.body,rel.defers⟩
    ·refine⟨hR.fn,hR.size,hR.defers,hR.mode,hR.kind,?_⟩
     exact hR.round
    ·show if R.mode.running=true then kN C μ acs.length R.n _ k tm k' tmps else vF μ R.n tm tmps
     rw[yab hR.running];exact .plain hk ht
theorem PY {jump:Option Code}{w':World}{cs:List Frame}(hr:(Instr.endLoop l).run P w=.ok jump w') :
  step P (lone (b.atR ⟨tmps,ds⟩ (.endRangeFunc l::k')) cs w)=.next (lone (b.atR ⟨tmps,ds⟩ ((jump.map Item.code).toList++k')) cs w'):=
 step_lone_go (by simp_all [stepG,stepG.exec,Frame.atR])
theorem WZ(hH:vB B N μ H w)(hcs:mG C μ acs cs)(hR:nH μ R (b.atR ⟨tmps,ds⟩ []))(ht:vF μ R.n tm tmps)(hk:iD (fG μ) k k')  (hi:μ l=some i) :
  aD P C B N μ base (lone (b.atR ⟨tmps,ds⟩ (.endRangeFunc i.b::k')) (cs++base) w) w (Je l C k tm R acs H):=by
 unfold Je
 cases hx:wJ H l with
 | none=>exact trivial
 | some r=>
  rw[qA]
  cases hst:Nat.beq (LoopState.tag r.state) 1 with
  | true=>exact trivial
  | false=>
   obtain⟨hl,r',hg,hw,rel⟩:=Ll hH hx hi
   have busy:r'.state≠.busy:=by
    intro e;rw[rel.state]at e;rw[e]at hst
    cases hst
   have run:(Instr.endLoop i.b).run P w=.ok r'.pending (World.setBlk w i.b (.loop { r' with state:=.exhausted })):=by
    simp_all [Instr.endLoop,Kn,Gr]
   refine⟨μ,_,cs,_,.one (PY run),fun _ _ h=>h,vY (hH.own l i hl hi).1,?_,⟨?_,?_⟩,hcs⟩
   ·refine hH.upd hg hi hl ?_
    rw[sJ];exact⟨_,rfl,rfl,rel.pending,rel.fn,rel.tm,rel.params,rel.assign,rel.body,rel.defers⟩
   ·exact⟨hR.fn,hR.size,hR.defers,hR.mode,hR.kind,hR.round⟩
   ·show if R.mode.running=true then kN C μ acs.length R.n _ (match r.pending with | some c=>.code c::k | none=>k) tm ((r'.pending.map Item.code).toList++k') tmps else vF μ R.n tm tmps
    rw[yab hR.running,rel.pending]
    cases r.pending with
    | none=>exact .plain hk ht
    | some c=>exact .plain (.cons (.code c) hk) ht
theorem DN    {mark:List Deferred}{w1:World}{g:Nat}{args':Array Value}{cs:List Frame}
  (hE:(Instr.enterLoop b.fn tmps params assign body b.roundOf).run P w=.ok (l,mark) w1)
  (hA:(do let d <- resolve (Act.eval ⟨tmps,ds⟩) { callee:=.value f,args := #[.const (.func (.yield l) #[] #[])],argTypes := #[] } 0;invoke d.target d.args:Sem Next).run P w1=.ok (.enter g args') w1) :
  step P (lone (b.atR ⟨tmps,ds⟩ (.code (.rangeFunc f params assign body)::k')) cs w)=.next (lone (Frame.enter P g args' .normal) (b.atR ⟨tmps,mark++ds⟩ (.inRangeFunc l::k')::cs) w1):=by
 refine step_lone_go ?_
 have he:(Frame.eval { b.atR ⟨tmps,ds⟩ (.code (.rangeFunc f params assign body)::k')with todo:=.inRangeFunc l::k',defers:=mark++ds })=Act.eval ⟨tmps,ds⟩:=funext fun x=>by cases x<;>rfl
 simp_all [Frame.atR,stepG,stepG.exec,stepG.apply]
theorem RY   (e:aY C l v=some h):∃g first cap,v=.func (.func g) first cap/\C.prims.get g=none/\rK C g (fD first (.func (.yld l) [] []::cap)) false=some h:=by
 grind [aY,tA,NF]
def EW{dp:Nat}(hS:gK P C B N I)    (e:aY C l v=some h)(hi:μ l=some i) (hv:uA μ v (Act.eval ⟨tmps,ds⟩ f)){cur:Option xA} :
  ∃g args',(∀w,(do let d <- resolve (Act.eval ⟨tmps,ds⟩) { callee:=.value f,args := #[.const (.func (.yield i.b) #[] #[])],argTypes := #[] } 0;invoke d.target d.args:Sem Next).run P w=.ok (.enter g args') w) ∧
   xK C μ dp cur h (Frame.enter P g args' .normal):=by
 obtain⟨g,first,cap,rfl,hp,he⟩:=RY e
 rw[uA]at hv;obtain⟨fn,a',c',hv,hf,h1,h2⟩:=hv
 cases hf;have hl:tB μ (fD first (.func (.yld l) [] []::cap)) (a' ++ #[Value.func (.yield i.b) #[] #[]]++c').toList:=by
  rw[iG];have:tB μ (zA.func (.yld l) [] []::cap) (Value.func (.yield i.b) #[] #[]::c'.toList):=.cons (by rw[uA];exact⟨_,_,_,rfl,⟨i,hi,rfl⟩,.nil,.nil⟩) h2
  simpa using h1.append this
 obtain⟨fr,fn,hfn,hb⟩:=Mm (cur:=cur) hS.fns he hl
 refine⟨g,_,fun w=>?_,fr⟩
 simp only[yad,resolve,hv,Deferred.ofValue,yae,yac,invoke];have:Array.map (Act.eval ⟨tmps,ds⟩) #[Operand.const (Value.func (.yield i.b) #[] #[])] = #[Value.func (.yield i.b) #[] #[]]:=by simp[Act.eval]
 rw[this];exact Pi hS.fns hfn hb
theorem zbw(hS:gK P C B N I)(hH:vB B N μ H w)(hcs:mG C μ acs cs)(hR:nH μ R (b.atR ⟨tmps,ds⟩ []))(ht:vF μ R.n tm tmps)(hk:iD (fG μ) k k')    :
  aD P C B N μ base (lone (b.atR ⟨tmps,ds⟩ (.code (.rangeFunc f params assign body)::k')) (cs++base) w) w (Jc f params assign body C k tm R acs H):=by
 unfold Jc
 cases hv:ev f (.now tm)with
 | none=>exact trivial
 | some v=>
  have hvr:=ht.erel (ds:=ds) hH.glob f _ hv
  rw[qA]
  cases hr:R.roundOf with
  | none=>
   have hb:b.roundOf=none:=by
    have:=hR.round
    rw[hr]at this;exact EP this
   simp only[]
   cases hx:aY C (H.next+1) v with
   | none=>exact trivial
   | some h=>
    have h1:=hH.newBlk (x:=.deferred (some [])) (o:=.deferred (some [])) (i:=⟨w.heap.size,true,0,0,false⟩) rfl rfl (by rw[sJ];exact⟨_,rfl,.nil⟩)
    have le1:μ.le (μ.ext H.next ⟨w.heap.size,true,0,0,false⟩):=hH.ext_le
    have le2:(μ.ext H.next ⟨w.heap.size,true,0,0,false⟩).le ((μ.ext H.next ⟨w.heap.size,true,0,0,false⟩).ext (newBlk H (.deferred (some []))).next ⟨w.heap.size+1,true,0,0,false⟩):=h1.ext_le
    have sz:(w.alloc (.deferred (some []))).heap.size=w.heap.size+1:=Array.size_push ..
    have h2:=h1.newBlk (x:=.loop ⟨.ready,none,R.fn,R.n,tm,params.toList,assign,body,H.next⟩) (o:=.loop { state:=.ready,pending:=none,fn:=b.fn,tmps,params,assign,body,defers:=w.heap.size })
     (i:=⟨w.heap.size+1,true,0,0,false⟩) sz.symm rfl (by
      rw[sJ];exact⟨_,rfl,rfl,rfl,hR.fn,(ht.mono le1.f).mono le2.f,rfl,rfl,rfl,⟨_,le2 _ _ Mu.ext_same,rfl⟩⟩)
    have le:=Mu.le_trans le1 le2
    have hi2:((μ.ext H.next ⟨w.heap.size,true,0,0,false⟩).ext (newBlk H (.deferred (some []))).next ⟨w.heap.size+1,true,0,0,false⟩) (H.next+1)=some ⟨w.heap.size+1,true,0,0,false⟩:=Mu.ext_same
    obtain⟨g,args',hA,hfr⟩:=EW (ds:=ds) hS hx hi2 (hvr.mono le.f _ _) (cur:=some (newBlk (newBlk H (.deferred (some []))) (.loop ⟨.ready,none,R.fn,R.n,tm,params.toList,assign,body,H.next⟩)))
    have run:(Instr.enterLoop b.fn tmps params assign body b.roundOf).run P w=.ok (w.heap.size+1,[{ target:=.collected w.heap.size,args := #[] }]) ((w.alloc (.deferred (some []))).alloc (.loop { state:=.ready,pending:=none,fn:=b.fn,tmps,params,assign,body,defers:=w.heap.size })):=by
     simp_all [Instr.enterLoop]
    refine⟨_,_,b.atR ⟨tmps,{ target:=.collected w.heap.size,args := #[] }::ds⟩ (.inRangeFunc (w.heap.size+1)::k')::cs,_,.one (DN run (hA _)),le,?_,h2,hfr,.cons ⟨?_,?_⟩ (hcs.mono le)⟩
    ·refine(tS hH.size _).trans (tS ?_ _)
     rw[sz];have:=hH.size;omega
    ·have:=hR.mono le.f
     exact⟨this.fn,this.size,.cons ⟨⟨_,le2 _ _ Mu.ext_same,rfl⟩⟩ this.defers,this.mode,this.kind,by have:=this.round;rw[hr]at this;exact this⟩
    ·show if R.mode.running=true then kN C _ acs.length R.n none (.inRange (H.next+1)::k) tm (.inRangeFunc (w.heap.size+1)::k') tmps else _
     rw[yab hR.running];exact .plain (.cons (.inRange _ ⟨w.heap.size+1,true,0,0,false⟩ hi2) (hk.mono fun _ _ r=>r.mono le.f)) (ht.mono le.f)
  | some outer=>
   obtain⟨io,hio,hb⟩:∃i,μ outer=some i/\b.roundOf=some i.b:=by
    have:=hR.round
    rw[hr]at this;exact Wm this
   simp only[]
   cases hlo:wJ H outer with
   | none=>exact trivial
   | some o=>
    rw[qA]
    cases hx:aY C H.next v with
    | none=>exact trivial
    | some h=>
     obtain⟨hl,r',hg,hw,rel⟩:=Ll hH hlo hio
     obtain⟨idf,hdf,hdf'⟩:=rel.defers
     have le:μ.le (μ.ext H.next ⟨w.heap.size,true,0,0,false⟩):=hH.ext_le
     have h2:=hH.newBlk (x:=.loop ⟨.ready,none,R.fn,R.n,tm,params.toList,assign,body,o.defers⟩) (o:=.loop { state:=.ready,pending:=none,fn:=b.fn,tmps,params,assign,body,defers:=r'.defers })
      (i:=⟨w.heap.size,true,0,0,false⟩) rfl rfl (by
       rw[sJ];exact⟨_,rfl,rfl,rfl,hR.fn,ht.mono le,rfl,rfl,rfl,⟨idf,le _ _ hdf,hdf'⟩⟩)
     have hi2:(μ.ext H.next ⟨w.heap.size,true,0,0,false⟩) H.next=some ⟨w.heap.size,true,0,0,false⟩:=Mu.ext_same
     obtain⟨g,args',hA,hfr⟩:=EW (ds:=ds) hS hx hi2 (hvr.mono le.f _ _) (cur:=some (newBlk H (.loop ⟨.ready,none,R.fn,R.n,tm,params.toList,assign,body,o.defers⟩)))
     have run:(Instr.enterLoop b.fn tmps params assign body b.roundOf).run P w=.ok (w.heap.size,[]) (w.alloc (.loop { state:=.ready,pending:=none,fn:=b.fn,tmps,params,assign,body,defers:=r'.defers })):=by
      simp_all [Instr.enterLoop,Kn]
     refine⟨_,_,b.atR ⟨tmps,ds⟩ (.inRangeFunc w.heap.size::k')::cs,_,.one (DN run (hA _)),le,tS hH.size _,h2,hfr,.cons ⟨?_,?_⟩ (hcs.mono le)⟩
     ·have:=hR.mono le.f
      exact⟨this.fn,this.size,this.defers,this.mode,this.kind,this.round⟩
     ·show if R.mode.running=true then kN C _ acs.length R.n none (.inRange H.next::k) tm (.inRangeFunc w.heap.size::k') tmps else _
      rw[yab hR.running];exact .plain (.cons (.inRange _ ⟨w.heap.size,true,0,0,false⟩ hi2) (hk.mono fun _ _ r=>r.mono le.f)) (ht.mono le.f)
def PS  : step P (lone (b.atR ⟨tmps,ds⟩ (.code (.scope c)::k')) cs w)=.next (lone (b.atR ⟨tmps,ds⟩ (.code c::.inScope c::k')) cs w):=
 step_lone_go (by simp[stepG,stepG.exec,Frame.atR])
def PX  : step P (lone (b.atR ⟨tmps,ds⟩ (.inScope c::k')) cs w)=.next (lone (b.atR ⟨tmps,ds⟩ k') cs w):=
 step_lone_go (by simp[stepG,stepG.exec,Frame.atR])
def zjr(hS:gK P C B N I)(hI:I w)(hH:vB B N μ H w)(hcs:mG C μ acs cs)(hR:nH μ R (b.atR ⟨tmps,ds⟩ []))(ht:vF μ R.n tm tmps):∀(c:Code) {k:List mE} {k':List Item},iD (fG μ) k k' →
  aD P C B N μ base (lone (b.atR ⟨tmps,ds⟩ (.code c::k')) (cs++base) w) w ((zf9 c).f C k tm R acs H):=by
 intro c;induction c with
 | skip=>intro k k' hk;exact Pu hH hcs hR ht hk stepR_skip
 | region id ops d=>
  intro k k' hk
  cases d with
  | true=>exact zjd hS hH hcs hR ht hk
  | false=>
   refine aD.of_steps (.one stepR_region) (fun _ _ h=>h) (Below.refl N w) ?_
   have:=EO (base:=base) (all:=ops) hS ops.toList 0 tm.cut H w μ tmps (by simp) (yaw _) hI hH hcs hR ht.cut hk
   rw[ycr]at this;exact this
 | seq x y ihx _=>
  intro k k' hk;exact aD.of_steps (.one stepR_seq) (fun _ _ h=>h) (Below.refl N w) (ihx (.cons (.code y) hk))
 | cond c x y _ _=>intro k k' hk;exact zjo hH hcs hR ht hk
 | block id c _=>intro k k' hk;exact zdg hH hcs hR ht hk
 | loop c _=>intro k k' hk;exact zh0 hH hcs hR ht hk
 | rangeFunc f ps a c _ _=>intro k k' hk;exact zbw hS hH hcs hR ht hk
 | exit id=>intro k k' hk;exact zi7 hH hcs hR ht hk
 | scope c _=>intro k k' hk;exact yZ hH hcs hR ht (.cons (.code _) (.cons (.inScope _) hk)) (.one PS)
 | label l=>intro k k' hk;exact Pu hH hcs hR ht hk stepR_label
 | goto l=>intro k k' _;exact trivial
 | ret=>intro k k' _;exact ret_ok hH hcs hR ht
 | refuse s=>intro k k' _;exact trivial
theorem zi8(hS:gK P C B N I)(hI:I w)(hH:vB B N μ H w)(hcs:mG C μ acs cs)(hR:nH μ R (b.atR ⟨tmps,ds⟩ [])){todo:List mE}{btodo:List Item}(hb:kN C μ acs.length R.n (some H) todo tm btodo tmps) :
  aD P C B N μ base (lone (b.atR ⟨tmps,ds⟩ btodo) (cs++base) w) w (wS C todo tm R acs H):=by
 generalize hc:some H=cur at hb
 cases hb with
 | plain a t=>
  cases a with
  | nil=>exact Zz hH hcs hR t
  | cons i hk=>
   cases i with
   | code c=>exact zjr hS hI hH hcs hR t c hk
   | inBlock id=>exact Pu hH hcs hR t hk stepR_inBlock
   | inLoop c=>exact yZ hH hcs hR t (.cons (.code _) (.cons (.inLoop _) hk)) (.one stepR_inLoop)
   | inScope c=>exact Pu hH hcs hR t hk PX
   | ops all i hi=>exact EO hS _ i _ _ _ _ _ rfl hi hI hH hcs hR t hk
   | inRange l i hl=>exact trivial
   | endRange l i hl=>exact WZ hH hcs hR t hk hl
   | beginRound=>exact zdh hH hcs hR t hk
 | @reg _ all old _ olds stages _ order _ _ anc D S hr hst hp hk=>
  cases hc;show aD P C B N μ base _ w (lS all old olds stages C _ tm R acs H)
  unfold lS
  cases stages with
  | nil=>grind [RL]
  | cons st stages=>
   by_cases hlt:st.heavy<=all.size
   ·obtain⟨_,_,D1,D2,h1,_⟩:=Qb hst hlt
    obtain⟨o,ho,_⟩:=Ld h1
    have:sD all.toList st.heavy=some o:=by grind [xH]
    simp only[this];grind [zco]
   ·have:sD all.toList st.heavy=none:=by grind [xH]
    simp only[this];grind [qC,oD,VS,VY]
 | @mid _ all old _ olds lights again stages _ order _ _ anc D D2 S hr h1 h2 hw hk=>
  show aD P C B N μ base _ w (lS all old olds (⟨all.size,lights,again⟩::stages) C _ tm R acs H)
  unfold lS;have:sD all.toList all.size=none:=by rw[xH];simp
  simp only[this];grind [qC,oD,UN]
 | wait _ _ _ _ _=>cases hc
end
end
section
variable {es:List Deferred}{dp f n:Nat}{fn:Func}{m:Machine}{fr:lB}
section
variable {P:Program}{C:oA}{B N:Nat}{I:World->Prop}{μ ν:Mu}{H H':xA}{w:World}{tm:Tm}{R:wK}{acs:List lB}{base cs:List Frame}
variable {b:Frame}{tmps:Array Value}
theorem PO{block:Nat}{calls:List Deferred}{w':World}(hm:b.mode≠.run)(hd:b.defers={ target:=.collected block,args := #[] }::es)(hr:(Instr.takeDeferred block).run P w=.ok calls w') :
  step P (lone b cs w)=.next (lone { b with defers:=calls++es } cs w'):=by
 obtain⟨fn,tmps,todo,defers,mode,kind,round⟩:=b
 simp only at hm hd
 subst hd;refine step_lone_go ?_
 simp_all [stepG,unwind]
theorem PP {cap as:Array Value} (hm:b.mode≠.run)(hd:b.defers={ target:=.fn (.func f) cap,args:=as }::es)(hr:(callFunc f (as++cap)).run P w=.ok (.enter f (as++cap)) w) :
  step P (lone b cs w)=.next (lone (Frame.enter P f (as++cap) .deferred) ({ b with defers:=es }::cs) w):=by
 obtain⟨fn,tmps,todo,defers,mode,kind,round⟩:=b
 simp only at hm hd
 subst hd;refine step_lone_go ?_
 simp_all [stepG,unwind,callDeferred,invoke]
def An(c:Frame):Frame:=
 match c.mode with
 | .panicking ({ recovered:=true,.. }::older)=>
  match older.dropWhile (!·.goexit)with
  | []=>{ c with mode:=.returning }
  | rest=>{ c with mode:=.panicking rest }
 | _=>c
def PN {v:Value}{c:Frame}(hm:b.mode=.returning)(hd:b.defers=[])(hk:b.kind=.deferred)(hf:P.funcs[b.fn]?=some fn)(hr:(results fn b.tmps).run P w=.ok v w) :
  step P (lone b (c::cs) w)=.next (lone (An c) cs w):=by
 refine step_lone_go ?_
 simp only[stepG,unwind,doReturn,hm,hd,hk,hf,Sem.runT_eq,hr,GStep.bare_after];rfl
def Po(tmps:Array Value)(r:ResultVar):Sem Value:=
 match r with
 | .tmp t=>pure (tmps.getD t undef)
 | .cell a t=>do loadVar t (<- asAddr (tmps.getD a undef))
theorem RB(fn:Func)(tmps:Array Value):results fn tmps=(do let vs <- fn.results.mapM (Po tmps);pure (if h:vs.size=1 then vs[0]else .tuple vs)):=rfl
theorem QU(hT:iF P C)(hH:vB B N μ H w) (ht:vF μ n tm tmps):∀(rs:List ResultVar) (l:List zA),kH (tR C H tm) rs=some l →
  ∃vs,(rs.mapM (Po tmps)).run P w=.ok vs w/\tB μ l vs:=by
 intro rs;induction rs with
 | nil=>intro l h;rw[Eo]at h;cases h;exact⟨[],by simp_all,.nil⟩
 | cons r rs ih=>
  intro l h;rw[nQ,tA]at h;obtain⟨a,ha,h⟩:=h
  rw[tA]at h;obtain⟨m,hm,h⟩:=h
  cases h;obtain⟨vs,h1,h2⟩:=ih m hm
  rw[List.mapM_cons]
  cases r with
  | tmp t=>
   refine⟨_,?_,.cons (ht.2 t a ha) h2⟩
   grind [Po,Sem.run_bind,Sem.run_pure,Result.andThen_ok]
  | cell x t=>
   simp only[tR,tA,Fu]at ha;obtain⟨p,⟨av,hav,rfl⟩,ty,hty,c,hc,hl⟩:=ha
   have hv:=ht.2 x _ hav
   rw[uA]at hv;obtain⟨i,hi,hv⟩:=hv
   obtain⟨v',h3,h4⟩:=GW (P:=P) hH (hT.facts hty) hc hi hl
   refine⟨_,?_,.cons h4 h2⟩
   grind [asAddr,Po,Sem.run_bind,Sem.run_pure,Result.andThen_ok]
theorem EQ(hT:iF P C)(hH:vB B N μ H w) (ht:vF μ n tm tmps) {l:List zA}(h:aT C H tm fn.results.toList=some l) :
  ∃v,(results fn tmps).run P w=.ok v w/\uA μ (Dk l) v:=by
 obtain⟨vs,h1,h2⟩:=QU hT hH ht _ _ h
 refine⟨if h:vs.toArray.size=1 then vs.toArray[0]else .tuple vs.toArray,?_,?_⟩
 ·grind [RB,Array.mapM_eq_mapM_toList,Sem.run_bind,map_eq_pure_bind,Result.andThen_ok,Sem.run_pure]
 ·have hl:=h2.length
  cases l with
  | nil=>
   rw[tB]at h2;subst h2;rw[dif_neg (by simp)]
   show uA μ (.tup []) _
   rw[uA];exact⟨_,rfl,.nil⟩
  | cons a m=>
   cases m with
   | nil=>
    rw[tB]at h2;obtain⟨v,r,rfl,hv,hr⟩:=h2
    rw[tB]at hr;subst hr;rw[dif_pos (by simp)]
    exact hv
   | cons a2 m=>
    rw[dif_neg (by simp[hl])]
    show uA μ (.tup (a::a2::m)) _
    grind [uA]
def DefRel(μ:Mu):Option (List gH)->Option (List Deferred)->Prop
 | none,none=>True
 | some a,some b=>iD (Ar μ) a b
 | _,_=>False
def XT(hH:vB B N μ H w){l:Nat}{x:Option (List gH)}(h:mW H l=some x){i:BI}(h4:μ l=some i):B<=l/\∃x',H.t.get l=some (.deferred x)/\w.heap[i.b]?=some (.deferred x')/\DefRel μ x x':=by
 unfold mW at h;rw[wB,oE,tA]at h;obtain⟨h1,y,h2,h3⟩:=h
 have:y=.deferred x:=by cases y<;>simp[vA.asDeferred]at h3;rw[h3]
 subst this;obtain⟨o,h5,h6⟩:=hH.blk l _ i h2 h4
 rw[sJ]at h6;obtain⟨r',rfl,h7⟩:=h6
 refine⟨Nat.le_of_not_lt fun hlt=>?_,r',h2,h5,?_⟩
 ·have:=(hH.low l _ i hlt h2 h4).2.2
  cases this
 cases x<;>cases r'<;>exact h7
def TM{μ:Mu}{m:aU}{m':FrameMode}(h:Nl μ m m')(hm:m.running=false):m'≠.run:=by
 rintro rfl
 cases m<;>first | exact h.elim | cases hm
theorem OR(hS:gK P C B N I)(hH:vB B N μ H w)(hcs:mG C μ acs cs) (hr:nH μ fr.R b)(hm:fr.R.mode.running=false)(ht:vF μ fr.R.n fr.tm b.tmps){d:gH}{l:List gH}(hd:fr.R.defers=d::l) :
  aD P C B N μ base (lone b (cs++base) w) w (Dj C d l fr acs H):=by
 have hrun:=TM hr.mode hm
 have hds:=hr.defers
 rw[hd]at hds;generalize hbd:b.defers=bd at hds
 cases hds with
 | @cons _ e _ es h1 h2=>
  obtain⟨dfn,dr,dargs⟩:=d
  have h1:=h1.rel
  unfold Dj
  cases dfn with
  | none=>
   obtain⟨i,hi,rfl⟩:=h1
   simp only[]
   cases hx:mW H dr with
   | none=>exact trivial
   | some x=>
    rw[qA]
    cases x with
    | none=>exact trivial
    | some calls=>
     obtain⟨hl,x',hg,hw,rel⟩:=XT hH hx hi
     cases x' with
     | none=>exact rel.elim
     | some calls'=>
      have run:(Instr.takeDeferred i.b).run P w=.ok calls' (World.setBlk w i.b (.deferred none)):=by
       simp_all [Gr,getObj,Sem.run,Instr.takeDeferred]
      refine⟨μ,_,cs,_,.one (PO hrun hbd run),fun _ _ h=>h,vY (hH.own dr i hl hi).1,?_,⟨?_,?_⟩,hcs⟩
      ·refine hH.upd hg hi hl ?_
       grind [sJ]
      ·refine⟨hr.fn,hr.size,?_,hr.mode,hr.kind,hr.round⟩
       show iD (Ar μ) (fD calls l) (calls'++es)
       rw[iG];exact iD.append rel h2
      ·show if fr.R.mode.running=true then kN C _ _ _ _ _ _ _ _ else _
       rw[yaa (by grind)]
       exact ht
  | some fn=>
   cases fn with
   | yld m=>exact trivial
   | func f=>
    obtain⟨fn,cap,as,rfl,hfn,hl⟩:=h1
    cases hfn;simp only[]
    cases hp:C.prims.get f with
    | some x=>exact trivial
    | none=>
     simp only[]
     cases he:rK C f dargs true with
     | none=>exact trivial
     | some g=>
      obtain⟨h3,fn,hfn,hb⟩:=Mm (cur:=some H) hS.fns he hl
      refine⟨μ,_,{ b with defers:=es }::cs,w,.one (PP hrun hbd (Pi hS.fns hfn hb)),fun _ _ h=>h,Below.refl N w,hH,h3,.cons ⟨⟨hr.fn,hr.size,h2,hr.mode,hr.kind,hr.round⟩,?_⟩ hcs⟩
      show if fr.R.mode.running=true then kN C _ _ _ _ _ _ _ _ else _
      rw[yaa (by grind)]
      exact ht
theorem xK.still {cur cur':Option xA} (h:xK C μ dp cur fr b)(hm:fr.R.mode.running=false):xK C μ dp cur' fr b:=by
 refine⟨h.rest,?_⟩
 have:=h.body
 simp_all
theorem XI{l:List PanicEntry}{m:List Cx}(h:iD (Cu μ) m l):l.dropWhile (!·.goexit)=[]:=by
 induction h with
 | nil=>rfl
 | cons a _ ih=>simp[a.goexit,ih]
def Ta(c:lB)(rest:List lB)(H:xA):Option wR:=
 match c.R.mode with
 | .panicking (⟨_,true⟩::_)=>some (⟨eY c .returning,rest,H⟩:wR)
 | _=>xB (!c.R.mode.running) (some ⟨c,rest,H⟩)
def FB(C:oA)(fr:lB)(ch:List Cx)(cs:List lB)(H:xA):xG:=
 lL (ob (C.fns.get fr.R.fn) fun _=>match cs with | c::rest=>some ⟨nV c ch,rest,H⟩ | []=>none) 19
theorem zjw {c:lB}{c':Frame}(hc:xK C μ dp none c c'){x:wR}{rest:List lB}(h:Ta c rest H=some x):x.cs=rest/\x.H=H/\xK C μ dp (some H) x.fr (An c'):=by
 have hm:=hc.rest.mode
 have stay:c'.mode=c'.mode->(An c'=c')->c.R.mode.running=false->x=⟨c,rest,H⟩->x.cs=rest/\x.H=H/\xK C μ dp (some H) x.fr (An c'):=by
  intro _ h1 h2 h3;subst h3;rw[h1];exact⟨rfl,rfl,hc.still h2⟩
 obtain⟨ct,ctm,cR⟩:=c
 obtain⟨f,n,de,mode,dd,ro⟩:=cR
 unfold Ta at h;simp only at h hm
 cases mode with
 | run=>cases h
 | returning=>
  cases hcm:c'.mode with
  | returning=>exact stay rfl (by unfold An;rw[hcm]) rfl (yci h).symm
  | _=>rw[hcm]at hm;exact hm.elim
 | panicking ch=>
  cases hcm:c'.mode with
  | run=>rw[hcm]at hm;exact hm.elim
  | returning=>rw[hcm]at hm;exact hm.elim
  | panicking ch'=>
   rw[hcm]at hm
   cases hm with
   | nil=>exact stay rfl (by unfold An;rw[hcm]) rfl (yci h).symm
   | @cons p e older older' hp hold=>
    obtain⟨pv,pr⟩:=p
    obtain⟨ev',er,eg⟩:=e
    obtain⟨q1,q2,q3⟩:=hp
    simp only at q1 q2 q3
    subst q2 q3
    cases er with
    | false=>exact stay rfl (by unfold An;rw[hcm]) rfl (yci h).symm
    | true=>
     cases yci h
     refine⟨rfl,rfl,?_⟩
     have:An c'={ c' with mode:=.returning }:=by
      grind [An,XI]
     rw[this];have hb:=hc.body
     exact⟨⟨hc.rest.fn,hc.rest.size,hc.rest.defers,trivial,hc.rest.kind,hc.rest.round⟩,hb⟩
theorem OQ(hS:gK P C B N I)(hH:vB B N μ H w)(hcs:mG C μ acs cs) (hr:nH μ fr.R b)(hm:b.mode=.returning)(hd:b.defers=[])(ht:vF μ fr.R.n fr.tm b.tmps) :
  aD P C B N μ base (lone b (cs++base) w) w (Di C fr acs H):=by
 unfold Di
 cases hx:ob (C.fns.get fr.R.fn) fun fn=>aT C H fr.tm fn.results.toList with
 | none=>exact trivial
 | some l=>
  rw[tA]at hx;obtain⟨fn,hfn,hres⟩:=hx
  obtain⟨v,h1,h2⟩:=EQ hS.tys hH ht hres
  have hf:P.funcs[b.fn]?=some fn:=by rw[hr.fn];exact(hS.fns _ _ hfn).1
  have hk:=hr.kind
  simp only[]
  cases hcs with
  | nil=>
   simp only[qD]
   cases hdf:fr.R.deferred with
   | true=>exact trivial
   | false=>
    rw[hdf]at hk;rw[yaa (by simp)]
    split
    ·rename_i hroot
     exact⟨μ,b,w,v,.refl _ _,fun _ _ h=>h,Below.refl N w,hH,h2,by rw[hr.fn];simp_all,hm,hd,hk,fn,hf,h1⟩
    ·exact trivial
  | @cons c c' acs1 cs1 hc hcs1=>
   simp only[]
   cases hdf:fr.R.deferred with
   | true=>
    rw[hdf]at hk;simp only[cond_true];show aD P C B N μ base _ w (lL (Ta c acs1 H) 18)
    generalize hx:Ta c acs1 H=x
    cases x with
    | none=>exact trivial
    | some x=>
     obtain⟨h3,h4,h5⟩:=zjw hc hx
     obtain⟨xf,xc,xh⟩:=x
     simp only at h3 h4 h5
     subst h3 h4
     exact⟨μ,_,cs1,w,.one (PN hm hd hk hf h1),fun _ _ h=>h,Below.refl N w,hH,h5,hcs1⟩
   | false=>
    rw[hdf]at hk;simp only[cond_false]
    cases hfi:fH c (Dk l)with
    | none=>exact trivial
    | some g=>
     exact⟨μ,_,cs1,w,.one (step_leave_returned ⟨hm,hd,hk,fn,hf,h1⟩),fun _ _ h=>h,Below.refl N w,hH,Fdzx hc hfi h2,hcs1⟩
theorem OM(hS:gK P C B N I)(hH:vB B N μ H w)(hcs:mG C μ acs cs) (hfr:xK C μ acs.length (some H) fr b)(hm:fr.R.mode.running=false) :
  aD P C B N μ base (lone b (cs++base) w) w (Ob C fr acs H):=by
 have ht:vF μ fr.R.n fr.tm b.tmps:=by
  have:=hfr.body
  simp_all
 have hr:=hfr.rest
 unfold Ob
 cases hd:fr.R.defers with
 | cons d l=>grind [OR]
 | nil=>
  have hbd:b.defers=[]:=by
   have:=hr.defers
   rw[hd]at this;generalize hbd:b.defers=bd at this
   cases this
   rfl
  have hmode:=hr.mode
  simp only[]
  cases hmo:fr.R.mode with
  | run=>rw[hmo]at hm;cases hm
  | returning=>
   rw[hmo]at hmode;have:b.mode=.returning:=by
    cases hb:b.mode with
    | returning=>rfl
    | _=>rw[hb]at hmode;exact hmode.elim
   exact OQ hS hH hcs hr this hbd ht
  | panicking ch=>
   rw[hmo]at hmode
   cases hb:b.mode with
   | run=>rw[hb]at hmode;exact hmode.elim
   | returning=>rw[hb]at hmode;exact hmode.elim
   | panicking ch'=>
    rw[hb]at hmode;show aD P C B N μ base _ w (FB C fr ch acs H)
    unfold FB
    cases hfn:C.fns.get fr.R.fn with
    | none=>exact trivial
    | some fn=>
     rw[qA];have hf:P.funcs[b.fn]?=some fn:=by rw[hr.fn];exact(hS.fns _ _ hfn).1
     cases hcs with
     | nil=>exact trivial
     | @cons c c' acs1 cs1 hc hcs1=>
      exact⟨μ,_,cs1,w,.one (step_leave_panicked ⟨hb,hbd,fn,hf⟩),fun _ _ h=>h,Below.refl N w,hH,FA hc hmode,hcs1⟩
theorem zbf(hS:gK P C B N I)(hI:I w){s:wR}(hH:vB B N μ s.H w)(hcs:mG C μ s.cs cs)(hfr:xK C μ s.cs.length (some s.H) s.fr b):aD P C B N μ base (lone b (cs++base) w) w (stepA C s):=by
 obtain⟨⟨todo,tm,R⟩,acs,H⟩:=s
 show aD P C B N μ base _ w (bif R.mode.running then wS C todo tm R acs H else Ob C ⟨todo,tm,R⟩ acs H)
 cases hm:R.mode.running with
 | false=>grind [OM]
 | true=>
  have hb:=hfr.body
  have hr:=hfr.rest
  simp only at hb hr
  rw[yab hm]at hb;have hbm:b.mode=.run:=by
   have h:=hr.mode
   cases hmo:R.mode with
   | run=>
    rw[hmo]at h
    cases hb:b.mode with
    | run=>rfl
    | _=>rw[hb]at h;exact h.elim
   | _=>rw[hmo]at hm;cases hm
  have e:=zdj hbm
  have:=zi8 (b:=b) (tmps:=b.tmps) (ds:=b.defers) (base:=base) hS hI hH hcs ⟨hr.fn,hr.size,hr.defers,by have:=hr.mode;rw[hbm]at this;exact this,hr.kind,hr.round⟩ hb
  simp_all
theorem DP(hS:gK P C B N I)(hI:I w) {o:xG}(h:aD P C B N μ base m w o):aD P C B N μ base m w (cT C o):=by
 cases o with
 | fail n=>exact trivial
 | done v H=>exact h
 | next s=>
  obtain⟨μ',b,cs,w',h1,h2,h3,h4,h5,h6⟩:=h
  exact aD.of_steps h1 h2 h3 (zbf hS (hS.inv _ _ h3 hI) h4 h6 h5)
def zhf(hS:gK P C B N I)(hI:I w)  : ∀(n:Nat) {o:xG},aD P C B N μ base m w o->aD P C B N μ base m w (Dw C n o):=by
 intro n;induction n with
 | zero=>intro o h;exact DP hS hI h
 | succ n ih=>intro o h;exact ih (ih h)
def YU(hS:gK P C B N I)(hI:I w) (hroot:C.root=f){args:List zA}{args':Array Value}(hH:vB B N μ H w)(hl:tB μ args args'.toList){g:lB}(he:rK C f args false=some g) {v:zA}{H':xA}
  (hrun:Dw C n (.next ⟨g,[],H⟩)=.done v H') :
  Calls P f args' w fun e w'=>∃v' μ',e=.returned v'/\μ.lw μ'/\uA μ' v v'/\vB B N μ' H' w'/\Below N w w':=by
 intro base;have h0:aD P C B N μ base (lone (Frame.enter P f args' .normal) base w) w (.next ⟨g,[],H⟩):=
  ⟨μ,_,[],w,.refl _ _,fun _ _ h=>h,Below.refl N w,hH,(Mm (cur:=some H) hS.fns he hl).1,.nil⟩
 have h1:=zhf hS hI n h0
 rw[hrun]at h1;obtain⟨μ',b,w',v',h2,h3,h4,h5,h6,h7,h8⟩:=h1
 exact⟨.returned v',w',b,⟨v',μ',rfl,h3,h6,h5,h4⟩,h2,by rw[h7,hroot],h8⟩
end
end
section
variable {α:Type}{v:zA}
structure iH where
 v:zA
 p:Bool
abbrev oB:=Option (iH × xA)
abbrev aE:=AFn->List zA->xA->oB
structure Kt where
 norm:Tm->xA->oB
 exit:Nat->Tm->xA->oB
 ret:Tm->xA->oB
structure PI where
 id:Nat
 pl:List Nat
 ll:List (Nat × Nat)
def PI.kept(p:PI):List Nat:=fD p.pl (List.rec (motive:=fun _=>List Nat) [] (fun a _ r=>a.1::r) p.ll)
inductive nC where
 | skip
 | region (id:Nat) (ops:Array Oper) (draw:Bool)
 | seq (a b:nC)
 | cond (c:Operand) (x y:nC)
 | block (id:Nat) (c:nC)
 | loop (p:PI) (c:nC)
 | exit (id:Nat)
 | ret
 | cut (p:PI) (c:nC)
 | range (i:Nat) (pl:List Nat) (f:Operand) (ps:Array Nat) (as:List (Nat × Array Oper)) (c:nC)
def asC (l:List (Nat × Array Oper)):Code:=List.rec (motive:=fun _=>Code) .skip (fun x r g=>match r with | []=>.region x.1 x.2 false | _::_=>.seq (.region x.1 x.2 false) g) l
def asA (c:nC)(l:List (Nat × Array Oper)):nC:=List.rec (motive:=fun _=>nC) c (fun x _ g=>.seq (.region x.1 x.2 false) g) l
def xE:nC->Code
 | .skip=>.skip
 | .region id ops d=>.region id ops d
 | .seq a b=>.seq (xE a) (xE b)
 | .cond c x y=>.cond c (xE x) (xE y)
 | .block id c=>.block id (xE c)
 | .loop _ c=>.loop (xE c)
 | .exit id=>.exit id
 | .ret=>.ret
 | .cut _ c=>xE c
 | .range _ _ f ps as c=>.rangeFunc f ps (asC as) (xE c)
def lim {α:Type}(f:Nat->Option α):Option α:=@dite _ (∃n r,f n=some r) (Classical.propDecidable _) (fun h=>f h.choose) (fun _=>none)
def Mono {α:Type}(f:Nat->Option α):Prop:=∀n r,f n=some r->f (n+1)=some r
def Mono.le {f:Nat->Option α}(h:Mono f){n m:Nat}{r:α}(hr:f n=some r)(hnm:n<=m):f m=some r:=by
 induction hnm with
 | refl=>exact hr
 | step _ ih=>exact h _ _ ih
def Qv {f:Nat->Option α}(h:Mono f){r:α}:lim f=some r ↔ ∃n,f n=some r:=by
 unfold lim;by_cases hx:∃n r,f n=some r
 ·rw[dif_pos hx]
  obtain⟨r0,h0⟩:=hx.choose_spec
  constructor
  ·grind
  ·rintro⟨n,hn⟩
   have a:=h.le h0 (Nat.le_max_left hx.choose n)
   have b:=h.le hn (Nat.le_max_right hx.choose n)
   simp_all
 simp_all
def zhs:jE->zA->(zA->oB)->oB
 | .bool,v,K=>ob v.asBool fun b=>K (.bool b)
 | .int k,v,K=>ob v.asIntK fun p=>xB (uN p.1 k) (K (.int k p.2))
 | .string,v,K=>ob v.asStr fun l=>K (.str l)
 | .ptr _,v,K=>K v
 | .slice _,v,K=>K v
 | .arr _ _,v,K=>K v
 | .map _ _,v,K=>K v
 | .struct _,v,K=>K v
 | .func,v,K=>K v
 | .iface,v,K=>K v
 | .other,v,K=>K v
def Hv:jE->zA->Prop
 | .bool,v=>∃b,v=.bool b
 | .int k,v=>∃n,v=.int k n
 | .string,v=>∃l,v=.str l
 | _,_=>True
theorem TP{d:jE} {K:zA->oB}{x:iH × xA}:zhs d v K=some x ↔ Hv d v/\K v=some x:=by
 cases d<;>simp only[zhs,Hv,tA,wB,true_and]
 case bool=>
  grind [Cm]
 case int k=>
  constructor
  ·grind [eW,dO]
  ·rintro⟨⟨n,rfl⟩,h⟩;exact⟨(k,n),rfl,dO.2 rfl,h⟩
 grind [fW]
def mL(C:oA)(t:Nat)(v:zA)(K:zA->oB):oB:=
 match C.tys.get t with
 | some ty=>zhs ty.desc v K
 | none=>K v
def bZ (C:oA)(t:Nat)(v:zA):Prop:=
 match C.tys.get t with
 | some ty=>Hv ty.desc v
 | none=>True
theorem oP{C:oA}{t:Nat} {K:zA->oB}{x:iH × xA}:mL C t v K=some x ↔ bZ C t v/\K v=some x:=by
 grind [mL,bZ,TP]
def jG (φ:aE)(r:oK)(H:xA)(k:zA->xA->oB):oB:=
 match r with
 | .val v H'=>k v H'
 | .enter f args=>ob (φ (.func f) args H) fun p=>bif p.1.p then some p else k p.1.v p.2
 | .round l args=>ob (φ (.yld l) args H) fun p=>xB (!p.1.p) (k p.1.v p.2)
 | .panic v=>some (⟨v,true⟩,H)
 | _=>none
def wM (C:oA)(φ:aE)(all:Array Oper)(n:Nat)(κ:Tm->xA->oB)(l:List Oper):Tm->xA->oB:=
 List.rec (motive:=fun _=>Tm->xA->oB) κ
  (fun o _ g tm H=>ob (wG o.guard all tm) fun w=>Bool.rec (motive:=fun _=>oB) (g (putA n tm o.dst dD) H)
   (jG φ ((bE o.op).f C (.now tm) H) H fun v H'=>mL C o.type v fun v=>g (putA n tm o.dst v) H') w) l
def pI(C:oA)(H:xA)(all:Array Oper)(n:Nat)(old:Tm)(olds:List (Nat × List Nat))(k:Tm->oB)(l:List Nat):Tm->oB:=
 List.rec (motive:=fun _=>Tm->oB) k
  (fun i _ g tm=>ob (sD all.toList i) fun o=>ob (wG o.guard all tm) fun w=>Bool.rec (motive:=fun _=>oB) (g (putA n tm o.dst dD))
   (ob ((cF o.op).f C (.mixed tm old (nF i olds) (bH o.op)) H) fun v=>mL C o.type v fun v=>g (putA n tm o.dst v)) w) l
def cM(C:oA)(H:xA)(all:Array Oper)(old:Tm)(olds:List (Nat × List Nat))(tm:Tm)(k:oB)(l:List Nat):oB:=
 List.rec (motive:=fun _=>oB) k
  (fun i _ g=>ob (sD all.toList i) fun o=>ob o.dst fun d=>ob (wG o.guard all tm) fun w=>Bool.rec (motive:=fun _=>oB) g
   (ob ((cF o.op).f C (.mixed tm old (nF i olds) (bH o.op)) H) fun v=>mL C o.type v fun v=>ob (tm.get d) fun u=>xB (same 10 v u) g) w) l
def sN (all:Array Oper)(h:Nat):Nat:=bif Nat.blt (zB all.toList) h then Nat.sub h (Nat.succ (zB all.toList))else h
def yV(C:oA)(all:Array Oper)(h:Nat)(o:Oper)(tm:Tm):Option Bool:=ob (wG o.guard all tm) fun w=>bif Nat.blt (zB all.toList) h then xB (w&&jL o.op&&sE (oZ C o.op)) (some w)else some w
def oU(all:Array Oper)(st:gG):Bool:=Nat.blt (zB all.toList+zB all.toList) st.heavy
def Mg(C:oA)(all:Array Oper)(n:Nat)(old:Tm)(olds:List (Nat × List Nat))(st:gG)(g:Tm->xA->oB)(tm:Tm)(H:xA):oB:=
 xB (fX C all) (ob (Ic all old olds tm st.again) fun es=>ob (eZ C es H) fun H'=>pI C H' all n old olds (fun tm=>g tm H') st.lights tm)
def qJ(C:oA)(φ:aE)(all:Array Oper)(n:Nat)(old:Tm)(olds:List (Nat × List Nat))(κ:Tm->xA->oB)(l:List gG):Tm->xA->oB:=
 List.rec (motive:=fun _=>Tm->xA->oB) κ
  (fun st _ g tm H=>Bool.rec (motive:=fun _=>oB) (ob (sD all.toList (sN all st.heavy)) fun o=>ob (yV C all st.heavy o tm) fun w=>
   (fun cont:zA->xA->oB=>Bool.rec (motive:=fun _=>oB) (cont dD H)
    (jG φ ((bE o.op).f C (.mixed tm old (nF (sN all st.heavy) olds) (bH o.op)) H) H fun v H'=>mL C o.type v fun v=>cont v H') w)
   (fun v H'=>cM C H' all old olds (putA n tm o.dst v) (pI C H' all n old olds (fun tm=>g tm H') st.lights (putA n tm o.dst v)) st.again)) (Mg C all n old olds st g tm H) (oU all st)) l
def Gx(C:oA)(φ:aE)(fn n:Nat)(κ:Tm->xA->oB)(id:Nat)(all:Array Oper)(draw:Bool):Tm->xA->oB:=
 Bool.rec (motive:=fun _=>Tm->xA->oB) (fun tm H=>wM C φ all n κ all.toList tm.cut H)
  (fun tm H=>ob (ob (C.plans.get fn) fun t=>t.get id) fun p=>xB (xU all p) (pI C H all n tm.cut p.olds (fun tm'=>qJ C φ all n tm.cut p.olds κ p.stages tm' H) p.first tm.cut)) draw
def Ho(tm:Tm)(live:List Nat):Tr zA:=
 List.rec (motive:=fun _=>Tr zA) .leaf (fun i _ t=>match tm.get i with | some v=>t.set i v | none=>t) live
def keep (live:List Nat)(tm:Tm):Tm:=⟨tm.k,Ho tm live,[]⟩
def isDef0:Option (List gH)->Bool
 | some []=>true
 | _=>false
def Ap(κ:Kt)(p:Option Code)(tm:Tm)(H:xA):oB:=
 match p with
 | none=>κ.norm tm H
 | some .ret=>κ.ret tm H
 | _=>none
def endLoop(H:xA)(l:Nat)(r:xN):xA:=setBlk H l (.loop ⟨.exhausted,r.pending,r.fn,r.n,r.tm,r.params,r.assign,r.body,r.defers⟩)
def qR(C:oA)(φ:aE)(fn n:Nat)(κ:Kt)(f:Operand)(ps:List Nat)(a b:Code)(tm:Tm)(H:xA):oB:=
 ob (ev f (.now tm)) fun v=>ob v.asFunc fun q=>match q.1 with
  | .yld _=>none
  | .func g=>xB (sE (C.prims.get g)) (ob (φ (.func g) (fD q.2.1 (.func (.yld (H.next+1)) [] []::q.2.2)) (newBlk (newBlk H (.deferred (some []))) (.loop ⟨.ready,none,fn,n,tm,ps,a,b,H.next⟩))) fun y=>
   xB (!y.1.p) (ob (wJ y.2 (H.next+1)) fun r=>xB (!Nat.beq (LoopState.tag r.state) 1) (ob (Ap κ r.pending tm (endLoop y.2 (H.next+1) r)) fun z=>
    xB (!z.1.p) (ob (mW z.2 H.next) fun d=>xB (isDef0 d) (some (z.1,setBlk z.2 H.next (.deferred none)))))))
def mD (C:oA)(φ:aE)(fn n:Nat)(c:nC):Kt->Tm->xA->oB:=
 nC.rec (motive:=fun _=>Kt->Tm->xA->oB)
  (fun κ tm H=>κ.norm tm H)
  (fun id all draw κ=>Gx C φ fn n κ.norm id all draw)
  (fun _ _ ga gb κ=>ga ⟨gb κ,κ.exit,κ.ret⟩)
  (fun c _ _ gx gy κ tm H=>ob (ob (ev c (.now tm)) zA.asBool) fun b=>Bool.rec (motive:=fun _=>oB) (gy κ tm H) (gx κ tm H) b)
  (fun id _ g κ=>g ⟨κ.norm,fun i tm H=>Bool.rec (motive:=fun _=>oB) (κ.exit i tm H) (κ.norm tm H) (Nat.beq id i),κ.ret⟩)
  (fun live _ g κ tm H=>lim fun m=>Nat.rec (motive:=fun _=>Tm->xA->oB) (fun _ _=>none) (fun _ r tm H=>g ⟨r,κ.exit,κ.ret⟩ (keep live.kept tm) H) m tm H)
  (fun id κ tm H=>κ.exit id tm H)
  (fun κ tm H=>κ.ret tm H)
  (fun live _ g κ tm H=>g κ (keep live.kept tm) H)
  (fun _ _ f ps as c _ κ tm H=>qR C φ fn n κ f ps.toList (asC as) (xE c) tm H) c
end
section
variable {k:oB}{k':zA->xA->oB}{κ κ':Tm->xA->oB}{l:List Nat}{tm:Tm}{fn i:Nat}{st:gG}
def zK {α β γ:Type}(k k':α->β->Option γ):Prop:=∀a b x,k a b=some x->k' a b=some x
def uO (φ φ':aE):Prop:=∀f a H x,φ f a H=some x->φ' f a H=some x
structure xP (κ κ':Kt):Prop where
 norm:zK κ.norm κ'.norm
 exit:∀i,zK (κ.exit i) (κ'.exit i)
 ret:zK κ.ret κ'.ret
section
variable {C:oA}{φ φ':aE}{all:Array Oper}{n:Nat}{x:iH × xA}
def ET(hφ:uO φ φ'){r:oK}{H:xA}{k:zA->xA->oB}(hk:zK k k')(h:jG φ r H k=some x):jG φ' r H k'=some x:=by
 cases r<;>simp only[jG]at h ⊢<;>try (cases h;done)
 case val v H'=>exact hk _ _ _ h
 case enter f args=>
  rw[tA]at h ⊢
  obtain⟨p,h1,h2⟩:=h
  refine⟨p,hφ _ _ _ _ h1,?_⟩
  cases hp:p.1.p with
  | true=>rw[hp]at h2;exact h2
  | false=>rw[hp]at h2;exact hk _ _ _ h2
 case round l args=>
  rw[tA]at h ⊢
  obtain⟨p,h1,h2⟩:=h
  rw[wB]at h2;exact⟨p,hφ _ _ _ _ h1,wB.2 ⟨h2.1,hk _ _ _ h2.2⟩⟩
 case panic v=>exact h
def Xs{t:Nat}{k:zA->xA->oB}(hk:zK k k'):zK (fun v H=>mL C t v fun v=>k v H) (fun v H=>mL C t v fun v=>k' v H):=by
 intro v H x h;rw[oP]at h ⊢
 exact⟨h.1,hk _ _ _ h.2⟩
theorem Bo {o:Oper}{l:List Oper} {H:xA}:wM C φ all n κ (o::l) tm H=ob (wG o.guard all tm) fun w=>if w=true then
   (jG φ ((bE o.op).f C (.now tm) H) H fun v H'=>mL C o.type v fun v=>wM C φ all n κ l (putA n tm o.dst v) H')else wM C φ all n κ l (putA n tm o.dst dD) H:=by
 show(ob (wG o.guard all tm) fun w=>Bool.rec (motive:=fun _=>oB) _ _ w)=_
 congr 1;funext w;rw[qK];rfl
def Lb(hφ:uO φ φ') (hκ:zK κ κ'):∀(l:List Oper),zK (wM C φ all n κ l) (wM C φ' all n κ' l):=by
 intro l;induction l with
 | nil=>exact hκ
 | cons o l ih=>
  intro tm H x h;rw[Bo,tA]at h ⊢
  obtain⟨w,h1,h2⟩:=h
  refine⟨w,h1,?_⟩
  split at h2
  ·rename_i e;rw[yab e];exact ET hφ (Xs (k:=fun v H'=>wM C φ all n κ l (putA n tm o.dst v) H') (k':=fun v H'=>wM C φ' all n κ' l (putA n tm o.dst v) H') fun v H' y hy=>ih _ _ _ hy) h2
  ·rename_i e;rw[yaa e];exact ih _ _ _ h2
variable {H:xA}{old:Tm}{olds:List (Nat × List Nat)}
theorem Qy{k:Tm->oB}    : pI C H all n old olds k (i::l) tm=ob (sD all.toList i) fun o=>ob (wG o.guard all tm) fun w=>if w=true then
   (ob ((cF o.op).f C (.mixed tm old (nF i olds) (bH o.op)) H) fun v=>mL C o.type v fun v=>pI C H all n old olds k l (putA n tm o.dst v))else pI C H all n old olds k l (putA n tm o.dst dD):=by
 show(ob (sD all.toList i) fun o=>ob (wG o.guard all tm) fun w=>Bool.rec (motive:=fun _=>oB) _ _ w)=_
 congr 1;funext o;congr 1;funext w;rw[qK];rfl
theorem Qx{k k':Tm->oB}(hk:∀tm x,k tm=some x->k' tm=some x):∀(l:List Nat) tm x,pI C H all n old olds k l tm=some x->pI C H all n old olds k' l tm=some x:=by
 intro l;induction l with
 | nil=>exact hk
 | cons i l ih=>
  grind [Qy,tA,oP]
def AZ     : cM C H all old olds tm k (i::l)=ob (sD all.toList i) fun o=>ob o.dst fun d=>ob (wG o.guard all tm) fun w=>if w=true then
   (ob ((cF o.op).f C (.mixed tm old (nF i olds) (bH o.op)) H) fun v=>mL C o.type v fun v=>ob (tm.get d) fun u=>xB (same 10 v u) (cM C H all old olds tm k l))else cM C H all old olds tm k l:=by
 show(ob (sD all.toList i) fun o=>ob o.dst fun d=>ob (wG o.guard all tm) fun w=>Bool.rec (motive:=fun _=>oB) _ _ w)=_
 congr 1;funext o;congr 1;funext d;congr 1;funext w;rw[qK];rfl
theorem Nd   : ∀(l:List Nat),cM C H all old olds tm k l=some x->Cp C H all old olds tm l=true/\k=some x:=by
 intro l;induction l with
 | nil=>intro h;exact⟨rfl,h⟩
 | cons i l ih=>
  intro h;rw[AZ,tA]at h;obtain⟨o,h1,h⟩:=h
  rw[tA]at h;grind [tA,Cp,oP,wB]
theorem AY {k':oB}(hk:k'=some x):∀(l:List Nat),cM C H all old olds tm k l=some x->cM C H all old olds tm k' l=some x:=by
 intro l;induction l with
 | nil=>intro _;exact hk
 | cons i l ih=>
  intro h;rw[AZ,tA]at h ⊢
  obtain⟨o,h1,h⟩:=h
  refine⟨o,h1,?_⟩
  rw[tA]at h ⊢
  grind [tA,oP,wB]
theorem Gq  {l:List gG} (hg:oU all st=false):qJ C φ all n old olds κ (st::l) tm H=ob (sD all.toList (sN all st.heavy)) fun o=>ob (yV C all st.heavy o tm) fun w=>
   (fun cont:zA->xA->oB=>if w=true then(jG φ ((bE o.op).f C (.mixed tm old (nF (sN all st.heavy) olds) (bH o.op)) H) H fun v H'=>mL C o.type v fun v=>cont v H')else cont dD H)
   (fun v H'=>cM C H' all old olds (putA n tm o.dst v) (pI C H' all n old olds (fun tm=>qJ C φ all n old olds κ l tm H') st.lights (putA n tm o.dst v)) st.again):=by
 show Bool.rec (motive:=fun _=>oB) _ _ (oU all st)=_
 rw[hg];show(ob (sD all.toList (sN all st.heavy)) fun o=>ob (yV C all st.heavy o tm) fun w=>(fun cont:zA->xA->oB=>Bool.rec (motive:=fun _=>oB) _ _ w) _)=_
 congr 1;funext o;congr 1;funext w;cases w<;>rfl
theorem Kf  {l:List gG} (hg:oU all st=true):qJ C φ all n old olds κ (st::l) tm H=Mg C all n old olds st (qJ C φ all n old olds κ l) tm H:=by
 show Bool.rec (motive:=fun _=>oB) _ _ (oU all st)=_
 rw[hg];rfl
theorem Rr {g:Tm->xA->oB} {x:iH × xA}:Mg C all n old olds st g tm H=some x ↔ fX C all=true/\∃es H',Ic all old olds tm st.again=some es/\eZ C es H=some H'/\pI C H' all n old olds (fun tm=>g tm H') st.lights tm=some x:=by
 grind [Mg,tA,wB]
theorem Vz(hφ:uO φ φ') (hκ:zK κ κ'):∀(l:List gG),zK (qJ C φ all n old olds κ l) (qJ C φ' all n old olds κ' l):=by
 intro l;induction l with
 | nil=>exact hκ
 | cons st l ih=>
  intro tm H x h
  cases hg:oU all st with
  | true=>
   rw[Kf hg,Rr]at h ⊢
   obtain⟨h0,es,H',h1,h2,h3⟩:=h
   exact⟨h0,es,H',h1,h2,Qx (fun tm x hx=>ih _ _ _ hx) _ _ _ h3⟩
  | false=>
  rw[Gq hg,tA]at h ⊢
  obtain⟨o,h1,h⟩:=h
  refine⟨o,h1,?_⟩
  rw[tA]at h ⊢
  obtain⟨w,h2,h⟩:=h
  refine⟨w,h2,?_⟩
  have cont:∀v H' y,cM C H' all old olds (putA n tm o.dst v) (pI C H' all n old olds (fun tm=>qJ C φ all n old olds κ l tm H') st.lights (putA n tm o.dst v)) st.again=some y →
    cM C H' all old olds (putA n tm o.dst v) (pI C H' all n old olds (fun tm=>qJ C φ' all n old olds κ' l tm H') st.lights (putA n tm o.dst v)) st.again=some y:=by
   intro v H' y hy;exact AY (Qx (fun tm x hx=>ih _ _ _ hx) _ _ _ (Nd _ hy).2) _ hy
  simp only[]at h ⊢
  split at h
  ·rename_i e;rw[yab e];exact ET hφ (Xs cont) h
  grind
def EU(hφ:uO φ φ') (hκ:zK κ κ'){id:Nat}{draw:Bool}:zK (Gx C φ fn n κ id all draw) (Gx C φ' fn n κ' id all draw):=by
 intro tm H x h
 cases draw with
 | false=>exact Lb hφ hκ _ _ _ _ h
 | true=>
  have h:(ob (ob (C.plans.get fn) fun t=>t.get id) fun p=>xB (xU all p) (pI C H all n tm.cut p.olds (fun tm'=>qJ C φ all n tm.cut p.olds κ p.stages tm' H) p.first tm.cut))=some x:=h
  show(ob (ob (C.plans.get fn) fun t=>t.get id) fun p=>xB (xU all p) (pI C H all n tm.cut p.olds (fun tm'=>qJ C φ' all n tm.cut p.olds κ' p.stages tm' H) p.first tm.cut))=some x
  rw[tA]at h ⊢
  obtain⟨p,h1,h⟩:=h
  refine⟨p,h1,?_⟩
  rw[wB]at h ⊢
  exact⟨h.1,Qx (fun tm x hx=>Vz hφ hκ _ _ _ _ hx) _ _ _ h.2⟩
def NM{κ κ':Kt}(hκ:xP κ κ'){p:Option Code}:zK (Ap κ p) (Ap κ' p):=by
 intro tm H x h;unfold Ap at h ⊢
 split at h
 ·exact hκ.norm _ _ _ h
 ·exact hκ.ret _ _ _ h
 ·cases h
def EZ(hφ:uO φ φ'){κ κ':Kt}(hκ:xP κ κ') {f:Operand}{ps:List Nat}{a b:Code}:zK (qR C φ fn n κ f ps a b) (qR C φ' fn n κ' f ps a b):=by
 intro tm H x h;unfold qR at h ⊢
 rw[tA]at h ⊢
 obtain⟨v,h1,h⟩:=h
 refine⟨v,h1,?_⟩
 rw[tA]at h ⊢
 obtain⟨q,h2,h⟩:=h
 refine⟨q,h2,?_⟩
 split at h
 ·cases h
 ·rw[wB,tA]at h ⊢
  obtain⟨h3,y,h4,h⟩:=h
  refine⟨h3,y,hφ _ _ _ _ h4,?_⟩
  rw[wB,tA]at h ⊢
  obtain⟨hy,r,h5,h⟩:=h
  refine⟨hy,r,h5,?_⟩
  rw[wB,tA]at h ⊢
  obtain⟨h6,z,h7,h⟩:=h
  exact⟨h6,z,NM hκ _ _ _ h7,h⟩
end
end
section
variable {α:Type}{m n:Nat}{g:Kt->Tm->xA->oB}{κ:Kt}{H:xA}{ks:Nat->zA->xA->oB}{k:zA->xA->oB}{κs:Nat->Tm->xA->oB}
theorem Ye {f:Nat->Option α}{r:α}(h:lim f=some r):∃n,f n=some r:=by
 unfold lim at h;by_cases hx:∃n r,f n=some r
 all_goals grind
structure xO {α β γ:Type} (ks:Nat->α->β->Option γ) (k:α->β->Option γ):Prop where
 up:∀n,zK (ks n) (ks (n+1))
 ex:∀a b x,k a b=some x->∃n,ks n a b=some x
def Ju{β γ:Type}{ks:Nat->α->β->Option γ}(h:∀n,zK (ks n) (ks (n+1))) (hnm:n<=m):zK (ks n) (ks m):=by
 induction hnm with
 | refl=>exact fun _ _ _ h=>h
 | step _ ih=>exact fun a b x hx=>h _ _ _ _ (ih a b x hx)
structure eU (φs:Nat->aE) (φ:aE):Prop where
 up:∀n,uO (φs n) (φs (n+1))
 ex:∀f a H x,φ f a H=some x->∃n,φs n f a H=some x
def eU.le{φs:Nat->aE}{φ:aE}(h:eU φs φ) (hnm:n<=m):uO (φs n) (φs m):=by
 induction hnm with
 | refl=>exact fun _ _ _ _ h=>h
 | step _ ih=>exact fun f a H x hx=>h.up _ _ _ _ _ (ih f a H x hx)
structure Cs (κs:Nat->Kt) (κ:Kt):Prop where
 norm:xO (fun n=>(κs n).norm) κ.norm
 exit:∀i,xO (fun n=>(κs n).exit i) (κ.exit i)
 ret:xO (fun n=>(κs n).ret) κ.ret
section
variable {C:oA}{φ φ':aE}{φs:Nat->aE}{all:Array Oper}{N fn:Nat}
def VD{g':Kt->Tm->xA->oB}{κ':Kt}(hκ:xP κ κ')(hg:∀ κ κ',xP κ κ'->zK (g κ) (g' κ'))(live:List Nat):∀m,zK (Nat.rec (motive:=fun _=>Tm->xA->oB) (fun _ _=>none) (fun _ r tm H=>g ⟨r,κ.exit,κ.ret⟩ (keep live tm) H) m)
  (Nat.rec (motive:=fun _=>Tm->xA->oB) (fun _ _=>none) (fun _ r tm H=>g' ⟨r,κ'.exit,κ'.ret⟩ (keep live tm) H) m):=by
 intro m;induction m with
 | zero=>intro a b x h;cases h
 | succ m ih=>exact fun a b x h=>hg ⟨_,_,_⟩ ⟨_,_,_⟩ ⟨ih,hκ.exit,hκ.ret⟩ _ _ _ h
theorem xP.refl(κ:Kt):xP κ κ:=⟨fun _ _ _ h=>h,fun _ _ _ _ h=>h,fun _ _ _ h=>h⟩
def Yy  (hg:∀ κ κ',xP κ κ'->zK (g κ) (g κ'))(live:List Nat):∀m,zK (Nat.rec (motive:=fun _=>Tm->xA->oB) (fun _ _=>none) (fun _ r tm H=>g ⟨r,κ.exit,κ.ret⟩ (keep live tm) H) m)
  (Nat.rec (motive:=fun _=>Tm->xA->oB) (fun _ _=>none) (fun _ r tm H=>g ⟨r,κ.exit,κ.ret⟩ (keep live tm) H) (m+1)):=by
 intro m;induction m with
 | zero=>intro a b x h;cases h
 | succ m ih=>exact fun a b x h=>hg ⟨_,_,_⟩ ⟨_,_,_⟩ ⟨ih,(xP.refl κ).exit,(xP.refl κ).ret⟩ _ _ _ h
def Ad(hφ:uO φ φ'):∀(c:nC) (κ κ':Kt),xP κ κ'->zK (mD C φ fn N c κ) (mD C φ' fn N c κ'):=by
 have self:∀(ψ:aE),uO ψ ψ:=fun _ _ _ _ _ h=>h
 intro c;suffices h:∀ φ φ',uO φ φ'->∀(κ κ':Kt),xP κ κ'->zK (mD C φ fn N c κ) (mD C φ' fn N c κ') from h φ φ' hφ
 induction c with
 | skip=>exact fun _ _ _ κ κ' hκ=>hκ.norm
 | region id ops d=>exact fun _ _ hφ κ κ' hκ=>EU hφ hκ.norm
 | seq a b iha ihb=>exact fun _ _ hφ κ κ' hκ=>iha _ _ hφ _ _ ⟨ihb _ _ hφ _ _ hκ,hκ.exit,hκ.ret⟩
 | cond c a b iha ihb=>
  intro φ φ' hφ κ κ' hκ tm H x h;have h:(ob (ob (ev c (.now tm)) zA.asBool) fun t=>Bool.rec (motive:=fun _=>oB) (mD C φ fn N b κ tm H) (mD C φ fn N a κ tm H) t)=some x:=h
  show(ob (ob (ev c (.now tm)) zA.asBool) fun t=>Bool.rec (motive:=fun _=>oB) (mD C φ' fn N b κ' tm H) (mD C φ' fn N a κ' tm H) t)=some x
  rw[tA]at h ⊢
  obtain⟨t,h1,h2⟩:=h
  refine⟨t,h1,?_⟩
  cases t with
  | true=>exact iha _ _ hφ _ _ hκ _ _ _ h2
  | false=>exact ihb _ _ hφ _ _ hκ _ _ _ h2
 | block id c ih=>
  intro φ φ' hφ κ κ' hκ;refine ih _ _ hφ _ _ ⟨hκ.norm,fun i tm H x h=>?_,hκ.ret⟩
  simp only[qK]at h ⊢
  split at h
  ·rename_i e;rw[yab e];exact hκ.norm _ _ _ h
  ·rename_i e;rw[yaa e];exact hκ.exit _ _ _ _ h
 | loop live c ih=>
  intro φ φ' hφ κ κ' hκ tm H x h;obtain⟨m,hm⟩:=Ye h
  refine(Qv fun m y hy=>Yy (ih _ _ (self φ')) live.kept m _ _ _ hy).2 ⟨m,?_⟩
  exact VD hκ (ih _ _ hφ) live.kept m _ _ _ hm
 | exit id=>exact fun _ _ _ κ κ' hκ=>hκ.exit id
 | ret=>exact fun _ _ _ κ κ' hκ=>hκ.ret
 | cut live c ih=>exact fun _ _ hφ κ κ' hκ tm H x h=>ih _ _ hφ _ _ hκ _ _ _ h
 | range i pl f ps as c ih=>exact fun _ _ hφ κ κ' hκ tm H x h=>EZ hφ hκ _ _ _ h
def ES(hφ:eU φs φ){r:oK}   (hk:xO ks k){x:iH × xA}(h:jG φ r H k=some x):∃n,jG (φs n) r H (ks n)=some x:=by
 cases r<;>simp only[jG]at h ⊢<;>try (cases h;done)
 case val v H'=>exact hk.ex _ _ _ h
 case enter f args=>
  rw[tA]at h;obtain⟨p,h1,h2⟩:=h
  obtain⟨n,hn⟩:=hφ.ex _ _ _ _ h1
  cases hp:p.1.p with
  | true=>
   rw[hp]at h2;exact⟨n,by rw[tA];exact⟨p,hn,by rw[hp];exact h2⟩⟩
  | false=>
  rw[hp]at h2;obtain⟨m,hm⟩:=hk.ex _ _ _ h2
  exact⟨max n m,by rw[tA];exact⟨p,hφ.le (Nat.le_max_left n m) _ _ _ _ hn,by rw[hp];exact Ju hk.up (Nat.le_max_right n m) _ _ _ hm⟩⟩
 case round l args=>
  rw[tA]at h;obtain⟨p,h1,h2⟩:=h
  rw[wB]at h2;obtain⟨n,hn⟩:=hφ.ex _ _ _ _ h1
  obtain⟨m,hm⟩:=hk.ex _ _ _ h2.2
  exact⟨max n m,by rw[tA];exact⟨p,hφ.le (Nat.le_max_left n m) _ _ _ _ hn,wB.2 ⟨h2.1,Ju hk.up (Nat.le_max_right n m) _ _ _ hm⟩⟩⟩
 case panic v=>exact⟨0,h⟩
theorem GL{t:Nat}  (hk:xO ks k):xO (fun n v H=>mL C t v fun v=>ks n v H) (fun v H=>mL C t v fun v=>k v H):=by
 refine⟨fun n=>Xs (hk.up n),fun v H x h=>?_⟩
 rw[oP]at h;obtain⟨n,hn⟩:=hk.ex _ _ _ h.2
 exact⟨n,by grind [oP]⟩
theorem FV(hφ:eU φs φ) {κ:Tm->xA->oB}(hκ:xO κs κ):∀(l:List Oper),xO (fun n=>wM C (φs n) all N (κs n) l) (wM C φ all N κ l):=by
 intro l;refine⟨fun n=>Lb (hφ.up n) (hκ.up n) l,?_⟩
 induction l with
 | nil=>exact hκ.ex
 | cons o l ih=>
  intro tm H x h;rw[Bo,tA]at h;obtain⟨w,h1,h2⟩:=h
  split at h2
  ·rename_i e
   obtain⟨n,hn⟩:=ES hφ (GL (ks:=fun n v H'=>wM C (φs n) all N (κs n) l (putA N tm o.dst v) H') (k:=fun v H'=>wM C φ all N κ l (putA N tm o.dst v) H') ⟨fun n v H' y hy=>Lb (hφ.up n) (hκ.up n) l _ _ _ hy,fun v H' y hy=>ih _ _ _ hy⟩) h2
   grind [Bo,tA]
  grind [Bo,tA]
variable {old:Tm}{olds:List (Nat × List Nat)}
theorem Yf {ks:Nat->Tm->oB}{k:Tm->oB}(hk:∀tm x,k tm=some x->∃n,ks n tm=some x):∀(l:List Nat) tm x,pI C H all N old olds k l tm=some x->∃n,pI C H all N old olds (ks n) l tm=some x:=by
 intro l;induction l with
 | nil=>exact hk
 | cons i l ih=>
  intro tm x h;simp only[Qy]at h ⊢
  rw[tA]at h;obtain⟨o,h1,h⟩:=h
  rw[tA]at h;obtain⟨w,h3,h4⟩:=h
  split at h4
  ·rename_i e
   rw[tA]at h4;obtain⟨v,h5,h6⟩:=h4
   simp_all [oP]
  simp_all
theorem QB(hφ:eU φs φ) {κ:Tm->xA->oB}(hκ:xO κs κ):∀(l:List gG),xO (fun n=>qJ C (φs n) all N old olds (κs n) l) (qJ C φ all N old olds κ l):=by
 intro l;refine⟨fun n=>Vz (hφ.up n) (hκ.up n) l,?_⟩
 induction l with
 | nil=>exact hκ.ex
 | cons st l ih=>
  intro tm H x h
  cases hg:oU all st with
  | true=>
   rw[Kf hg,Rr]at h;obtain⟨h0,es,H',h1,h2,h3⟩:=h
   obtain⟨n,hn⟩:=Yf (fun tm x hx=>ih tm H' x hx) _ _ _ h3
   exact⟨n,by grind [Kf,Rr]⟩
  | false=>
  rw[Gq hg,tA]at h;obtain⟨o,h1,h⟩:=h
  rw[tA]at h;obtain⟨w,h2,h⟩:=h
  have cont:xO (fun n v H'=>cM C H' all old olds (putA N tm o.dst v) (pI C H' all N old olds (fun tm=>qJ C (φs n) all N old olds (κs n) l tm H') st.lights (putA N tm o.dst v)) st.again)
    (fun v H'=>cM C H' all old olds (putA N tm o.dst v) (pI C H' all N old olds (fun tm=>qJ C φ all N old olds κ l tm H') st.lights (putA N tm o.dst v)) st.again):=by
   refine⟨fun n v H' y hy=>AY (Qx (fun tm x hx=>Vz (hφ.up n) (hκ.up n) l _ _ _ hx) _ _ _ (Nd _ hy).2) _ hy,fun v H' y hy=>?_⟩
   obtain⟨n,hn⟩:=Yf (fun tm x hx=>ih tm H' x hx) _ _ _ (Nd _ hy).2
   exact⟨n,AY hn _ hy⟩
  simp only[]at h;split at h
  ·rename_i e
   obtain⟨n,hn⟩:=ES hφ (GL cont) h
   grind [Gq,qA]
  ·rename_i e
   obtain⟨n,hn⟩:=cont.ex _ _ _ h
   exact⟨n,by grind [Gq,qA]⟩
theorem RK(hφ:eU φs φ) {κ:Tm->xA->oB}(hκ:xO κs κ){id:Nat}{draw:Bool}:xO (fun n=>Gx C (φs n) fn N (κs n) id all draw) (Gx C φ fn N κ id all draw):=by
 refine⟨fun n=>EU (hφ.up n) (hκ.up n),fun tm H x h=>?_⟩
 cases draw with
 | false=>exact(FV hφ hκ _).ex _ _ _ h
 | true=>
  have h:(ob (ob (C.plans.get fn) fun t=>t.get id) fun p=>xB (xU all p) (pI C H all N tm.cut p.olds (fun tm'=>qJ C φ all N tm.cut p.olds κ p.stages tm' H) p.first tm.cut))=some x:=h
  rw[tA]at h;obtain⟨p,h1,h⟩:=h
  rw[wB]at h;obtain⟨n,hn⟩:=Yf (fun tm' x hx=>(QB hφ hκ p.stages).ex tm' H x hx) _ _ _ h.2
  refine⟨n,?_⟩
  show(ob (ob (C.plans.get fn) fun t=>t.get id) fun p=>xB (xU all p) (pI C H all N tm.cut p.olds (fun tm'=>qJ C (φs n) all N tm.cut p.olds (κs n) p.stages tm' H) p.first tm.cut))=some x
  grind [qA,wB]
theorem EY(hφ:eU φs φ){κs:Nat->Kt} (hκ:Cs κs κ){f:Operand}{ps:List Nat}{a b:Code}:xO (fun n=>qR C (φs n) fn N (κs n) f ps a b) (qR C φ fn N κ f ps a b):=by
 have kle:∀n,xP (κs n) (κs (n+1)):=fun n=>⟨hκ.norm.up n,fun i=>(hκ.exit i).up n,hκ.ret.up n⟩
 have klm:∀n m,n<=m->xP (κs n) (κs m):=fun n m h=>⟨Ju hκ.norm.up h,fun i=>Ju (hκ.exit i).up h,Ju hκ.ret.up h⟩
 refine⟨fun n=>EZ (hφ.up n) (kle n),fun tm H x h=>?_⟩
 unfold qR at h;rw[tA]at h;obtain⟨v,h1,h⟩:=h
 rw[tA]at h;obtain⟨q,h2,h⟩:=h
 split at h
 ·cases h
 ·rename_i g hg
  rw[wB,tA]at h;obtain⟨h3,y,h4,h⟩:=h
  rw[wB,tA]at h;obtain⟨hy,r,h5,h⟩:=h
  rw[wB,tA]at h;obtain⟨h6,z,h7,h⟩:=h
  obtain⟨n,hn⟩:=hφ.ex _ _ _ _ h4
  have:∃m,Ap (κs m) r.pending (tm) (endLoop y.2 (H.next+1) r)=some z:=by
   unfold Ap at h7 ⊢
   split at h7
   ·exact hκ.norm.ex _ _ _ h7
   ·exact hκ.ret.ex _ _ _ h7
   grind
  obtain⟨m,hm⟩:=this
  refine⟨max n m,?_⟩
  show qR C (φs (max n m)) fn N (κs (max n m)) f ps a b tm H=some x
  unfold qR;rw[h1,qA,h2,qA,hg];simp only[];rw[wB,tA];refine⟨h3,y,hφ.le (Nat.le_max_left n m) _ _ _ _ hn,?_⟩
  rw[wB];refine⟨hy,?_⟩
  rw[h5,qA,wB,tA];exact⟨h6,z,NM (klm _ _ (Nat.le_max_right n m)) _ _ _ hm,h⟩
theorem Mr(hφ:eU φs φ):∀(c:nC) (κs:Nat->Kt) (κ:Kt),Cs κs κ->xO (fun n=>mD C (φs n) fn N c (κs n)) (mD C φ fn N c κ):=by
 have kle:∀ {κs:Nat->Kt} {κ:Kt},Cs κs κ->∀n,xP (κs n) (κs (n+1)):=fun h n=>⟨h.norm.up n,fun i=>(h.exit i).up n,h.ret.up n⟩
 intro c;induction c with
 | skip=>exact fun κs κ hκ=>hκ.norm
 | region id ops d=>exact fun κs κ hκ=>RK hφ hκ.norm
 | seq a b iha ihb=>exact fun κs κ hκ=>iha (fun n=>⟨mD C (φs n) fn N b (κs n),(κs n).exit,(κs n).ret⟩) _ ⟨ihb _ _ hκ,hκ.exit,hκ.ret⟩
 | cond c a b iha ihb=>
  intro κs κ hκ;refine⟨fun n=>Ad (hφ.up n) (.cond c a b) _ _ (kle hκ n),fun tm H x h=>?_⟩
  have h:(ob (ob (ev c (.now tm)) zA.asBool) fun t=>Bool.rec (motive:=fun _=>oB) (mD C φ fn N b κ tm H) (mD C φ fn N a κ tm H) t)=some x:=h
  rw[tA]at h;obtain⟨t,h1,h2⟩:=h
  have key:∀n,(Bool.rec (motive:=fun _=>oB) (mD C (φs n) fn N b (κs n) tm H) (mD C (φs n) fn N a (κs n) tm H) t:oB)=some x->mD C (φs n) fn N (.cond c a b) (κs n) tm H=some x:=by
   simp_all [mD]
  cases t with
  | true=>obtain⟨n,hn⟩:=(iha _ _ hκ).ex _ _ _ h2;grind
  | false=>obtain⟨n,hn⟩:=(ihb _ _ hκ).ex _ _ _ h2;grind
 | block id c ih=>
  intro κs κ hκ;refine ih (fun n=>⟨(κs n).norm,fun i tm H=>Bool.rec (motive:=fun _=>oB) ((κs n).exit i tm H) ((κs n).norm tm H) (Nat.beq id i),(κs n).ret⟩) _ ⟨hκ.norm,fun i=>⟨fun n tm H x h=>?_,fun tm H x h=>?_⟩,hκ.ret⟩
  ·simp only[qK]at h ⊢
   split at h
   ·rename_i e;rw[yab e];exact hκ.norm.up n _ _ _ h
   ·rename_i e;rw[yaa e];exact(hκ.exit i).up n _ _ _ h
  ·simp only[qK]at h ⊢
   split at h
   ·rename_i e;obtain⟨n,hn⟩:=hκ.norm.ex _ _ _ h;grind
   ·rename_i e;obtain⟨n,hn⟩:=(hκ.exit i).ex _ _ _ h;grind
 | loop live c ih=>
  intro κs κ hκ;refine⟨fun n=>Ad (hφ.up n) (.loop live c) _ _ (kle hκ n),fun tm H x h=>?_⟩
  obtain⟨m,hm⟩:=Ye h
  have it:∀m,xO (fun n=>(Nat.rec (motive:=fun _=>Tm->xA->oB) (fun _ _=>none) (fun _ r tm H=>mD C (φs n) fn N c ⟨r,(κs n).exit,(κs n).ret⟩ (keep live.kept tm) H) m:Tm->xA->oB))
    (Nat.rec (motive:=fun _=>Tm->xA->oB) (fun _ _=>none) (fun _ r tm H=>mD C φ fn N c ⟨r,κ.exit,κ.ret⟩ (keep live.kept tm) H) m):=by
   intro m;induction m with
   | zero=>exact⟨fun _ _ _ _ h=>h,fun _ _ _ h=>by cases h⟩
   | succ m ihm=>
    have:=ih _ _ (⟨ihm,hκ.exit,hκ.ret⟩:Cs (fun n=>⟨(Nat.rec (motive:=fun _=>Tm->xA->oB) (fun _ _=>none) (fun _ r tm H=>mD C (φs n) fn N c ⟨r,(κs n).exit,(κs n).ret⟩ (keep live.kept tm) H) m:Tm->xA->oB),(κs n).exit,(κs n).ret⟩) ⟨(Nat.rec (motive:=fun _=>Tm->xA->oB) (fun _ _=>none) (fun _ r tm H=>mD C φ fn N c ⟨r,κ.exit,κ.ret⟩ (keep live.kept tm) H) m:Tm->xA->oB),κ.exit,κ.ret⟩)
    exact⟨fun n tm H x h=>this.up n _ _ _ h,fun tm H x h=>this.ex _ _ _ h⟩
  obtain⟨n,hn⟩:=(it m).ex _ _ _ hm
  exact⟨n,(Qv fun m y hy=>Yy (fun κ κ' h=>Ad (fun _ _ _ _ h=>h) c κ κ' h) live.kept m _ _ _ hy).2 ⟨m,hn⟩⟩
 | exit id=>exact fun κs κ hκ=>hκ.exit id
 | ret=>exact fun κs κ hκ=>hκ.ret
 | cut live c ih=>exact fun κs κ hκ=>⟨fun n tm H x h=>(ih _ _ hκ).up n _ _ _ h,fun tm H x h=>(ih _ _ hκ).ex _ _ _ h⟩
 | range i pl f ps as c ih=>exact fun κs κ hκ=>⟨fun n tm H x h=>(EY hφ hκ).up n _ _ _ h,fun tm H x h=>(EY hφ hκ).ex _ _ _ h⟩
theorem zc2{live:PI}{c:nC} {tm:Tm}  : mD C φ fn N (.loop live c) κ tm H=mD C φ fn N c ⟨mD C φ fn N (.loop live c) κ,κ.exit,κ.ret⟩ (keep live.kept tm) H:=by
 have self:uO φ φ:=fun _ _ _ _ h=>h
 have up:∀m,zK (Nat.rec (motive:=fun _=>Tm->xA->oB) (fun _ _=>none) (fun _ r tm H=>mD C φ fn N c ⟨r,κ.exit,κ.ret⟩ (keep live.kept tm) H) m)
   (Nat.rec (motive:=fun _=>Tm->xA->oB) (fun _ _=>none) (fun _ r tm H=>mD C φ fn N c ⟨r,κ.exit,κ.ret⟩ (keep live.kept tm) H) (m+1)):=Yy (Ad self c) live.kept
 have some_iff:∀tm H x,mD C φ fn N (.loop live c) κ tm H=some x ↔ ∃m,(Nat.rec (motive:=fun _=>Tm->xA->oB) (fun _ _=>none) (fun _ r tm H=>mD C φ fn N c ⟨r,κ.exit,κ.ret⟩ (keep live.kept tm) H) m:Tm->xA->oB) tm H=some x:=
  fun tm H x=>Qv fun m y hy=>up m _ _ _ hy
 have sup:Cs (fun m=>⟨(Nat.rec (motive:=fun _=>Tm->xA->oB) (fun _ _=>none) (fun _ r tm H=>mD C φ fn N c ⟨r,κ.exit,κ.ret⟩ (keep live.kept tm) H) m:Tm->xA->oB),κ.exit,κ.ret⟩) ⟨mD C φ fn N (.loop live c) κ,κ.exit,κ.ret⟩:=
  ⟨⟨up,fun tm H x h=>(some_iff tm H x).1 h⟩,fun i=>⟨fun _ _ _ _ h=>h,fun _ _ _ h=>⟨0,h⟩⟩,⟨fun _ _ _ _ h=>h,fun _ _ _ h=>⟨0,h⟩⟩⟩
 have key:∀x,mD C φ fn N (.loop live c) κ tm H=some x ↔ mD C φ fn N c ⟨mD C φ fn N (.loop live c) κ,κ.exit,κ.ret⟩ (keep live.kept tm) H=some x:=by
  intro x;rw[some_iff];constructor
  ·rintro⟨m,hm⟩
   cases m with
   | zero=>cases hm
   | succ m=>exact Ad self c ⟨(Nat.rec (motive:=fun _=>Tm->xA->oB) (fun _ _=>none) (fun _ r tm H=>mD C φ fn N c ⟨r,κ.exit,κ.ret⟩ (keep live.kept tm) H) m:Tm->xA->oB),κ.exit,κ.ret⟩ ⟨mD C φ fn N (.loop live c) κ,κ.exit,κ.ret⟩ ⟨fun tm H y hy=>(some_iff tm H y).2 ⟨m,hy⟩,fun _ _ _ _ h=>h,fun _ _ _ h=>h⟩ _ _ _ hm
  ·intro h
   obtain⟨m,hm⟩:=(Mr (φs:=fun _=>φ) ⟨fun _=>self,fun _ _ _ _ h=>⟨0,h⟩⟩ c _ _ sup).ex _ _ _ h
   exact⟨m+1,hm⟩
 cases h:mD C φ fn N (.loop live c) κ tm H with
 | some x=>grind
 | none=>
  cases h2:mD C φ fn N c ⟨mD C φ fn N (.loop live c) κ,κ.exit,κ.ret⟩ (keep live.kept tm) H with
  | none=>rfl
  | some x=>simp_all
end
end
section
def Rh:List mE->Bool
 | .reg .. :: _=>true
 | _=>false
section
variable {P:Program}{C:oA}{B N:Nat}{I:World->Prop}{μ:Mu}{w:World}{base:List Frame}{m:Machine}
def Vx(hF:Cw P C){f:Nat}{args:List zA}{args':Array Value}{H:xA}(hH:vB B N μ H w)(hl:tB μ args args'.toList){g:lB}(he:rK C f args false=some g) :
  aD P C B N μ base (lone (Frame.enter P f args' .normal) base w) w (.next ⟨g,[],H⟩):=
 ⟨μ,_,[],w,.refl _ _,fun _ _ h=>h,Below.refl N w,hH,(Mm (cur:=some H) hF he hl).1,.nil⟩
end
end
section
variable {c fr:lB}{old tm tm':Tm}{t1 t2 todo:List mE}{H:xA}{o o':xG}{v:zA}{r:oK}{κn:Tm->xA->oB}{olds:List (Nat × List Nat)}{live:List Nat}{i:Nat}
inductive fK (C:oA):xG->xG->Prop
 | refl (o:xG):fK C o o
 | step {o o':xG}:fK C (cT C o) o'->fK C o o'
 | forget {todo:List mE} {tm tm':Tm} {R:wK} {cs:List lB} {H:xA} {o':xG}:Rh todo=false->(∀i v,tm'.get i=some v->tm.get i=some v)->fK C (.next ⟨⟨todo,tm',R⟩,cs,H⟩) o'->fK C (.next ⟨⟨todo,tm,R⟩,cs,H⟩) o'
def fK.trans{C:oA}{a b c:xG}(h:fK C a b)(k:fK C b c):fK C a c:=by
 induction h with
 | refl=>exact k
 | step _ ih=>exact .step (ih k)
 | forget h1 h2 _ ih=>exact .forget h1 h2 (ih k)
section
variable {P:Program}{C:oA}{B N:Nat}{I:World->Prop}{μ:Mu}{w:World}{base:List Frame}{m:Machine}
def vF.forget{n:Nat} {tmps:Array Value}(h:vF μ n tm tmps)(hs:∀i v,tm'.get i=some v->tm.get i=some v):vF μ n tm' tmps:=⟨h.1,fun i v hv=>h.2 i v (hs i v hv)⟩
theorem VV  {R:wK}{acs:List lB} (hr:Rh todo=false)(hs:∀i v,tm'.get i=some v->tm.get i=some v)(h:aD P C B N μ base m w (.next ⟨⟨todo,tm,R⟩,acs,H⟩)) :
  aD P C B N μ base m w (.next ⟨⟨todo,tm',R⟩,acs,H⟩):=by
 obtain⟨μ',b,cs,w',h1,h2,h3,h4,h5,h6⟩:=h
 obtain⟨bfn,btmps,btodo,bdefers,bmode,bkind,bround⟩:=b
 refine⟨μ',_,cs,w',h1,h2,h3,h4,⟨h5.rest,?_⟩,h6⟩
 have hb:=h5.body
 simp only at hb ⊢
 split at hb
 ·rename_i hm
  rw[yab hm]
  cases hb with
  | plain a t=>exact .plain a (t.forget hs)
  | reg _ _ _ _=>cases hr
  | mid _ _ _ _ _=>cases hr
 ·rename_i hm
  rw[yaa hm];exact hb.forget hs
theorem aD.reach(hS:gK P C B N I)(hI:I w) (h:fK C o o'):aD P C B N μ base m w o->aD P C B N μ base m w o':=by
 induction h with
 | refl=>exact id
 | step _ ih=>grind [DP]
 | forget hr hs _ ih=>grind [VV]
end
def Fy(C:oA)(f:Nat)(ds:List gH)(fr:lB)(H:xA)(v:zA)(fl:Bool:=false):Prop:=
 fr.R.mode=.returning/\fr.R.defers=ds/\fr.R.deferred=fl/\fr.R.fn=f/\∃fn l,C.fns.get f=some fn/\aT C H fr.tm fn.results.toList=some l/\v=Dk l
def Wn(r:xN)(l:Nat)(tm:Tm):lB:=⟨[.code r.assign,.beginRound,.code r.body],tm,⟨r.fn,r.n,[],.run,false,some l⟩⟩
def zf2(f:Nat)(ds:List gH)(fr:lB)(v:zA)(fl:Bool:=false):Prop:=fr.R.mode=.panicking [⟨v,false⟩]/\fr.R.defers=ds/\fr.R.deferred=fl/\fr.R.fn=f
def dP(C:oA)(f:Nat)(ds:List gH)(fr:lB)(H:xA)(o:iH)(fl:Bool:=false):Prop:=if o.p=true then zf2 f ds fr o.v fl/\∃fn,C.fns.get f=some fn else Fy C f ds fr H o.v fl
structure bQ (C:oA) (φ:aE):Prop where
 fn:∀f args H x,φ (.func f) args H=some x->∃g,rK C f args false=some g/\∀acs,∃fr',fK C (.next ⟨g,acs,H⟩) (.next ⟨fr',acs,x.2⟩)/\dP C f [] fr' x.2 x.1
 rd:∀l args H x,φ (.yld l) args H=some x->∃r tm,wJ H l=some r/\fY r.n r.params args r.tm=some tm/\x.1.p=false/\∀c acs c',fH c x.1.v=some c'->fK C (.next ⟨Wn r l tm,c::acs,H⟩) (.next ⟨c',acs,x.2⟩)
abbrev zX:=List gH->xG->iH × xA->Prop
def Fin (C:oA)(E:zX)(ds:List gH)(o:xG)(x:iH × xA):Prop:=∃o',fK C o o'/\E ds o' x
theorem Fin.step{C:oA}{E:zX}{ds:List gH} {x:iH × xA}(h:Fin C E ds (cT C o) x):Fin C E ds o x:=by
 obtain⟨fr,h1,h2⟩:=h;exact⟨fr,.step h1,h2⟩
def Fin.of{C:oA}{E:zX}{ds:List gH} {x:iH × xA}(hr:fK C o o')(h:Fin C E ds o' x):Fin C E ds o x:=by
 obtain⟨fr,h1,h2⟩:=h;exact⟨fr,hr.trans h1,h2⟩
abbrev RR(f N:Nat)(ro:Option Nat)(ds:List gH)(fl:Bool:=false):wK:=⟨f,N,ds,.run,fl,ro⟩
structure Iy (C:oA) (E:zX) (G:iH × xA->Prop) (f N:Nat) (ro:Option Nat) (acs:List lB) (fl:Bool:=false):Prop where
 not:∀ds todo tm H x,¬ E ds (.next ⟨⟨todo,tm,RR f N ro ds fl⟩,acs,H⟩) x
 all:ro=none->∀x,G x
 pop:ro=none->∀r ds o x,x.1.p=false->E (⟨none,r,[]⟩::ds) o x->mW x.2 r=some (some [])->∃o',fK C o o'/\E ds o' (x.1,setBlk x.2 r (.deferred none))
 pan:∀ds todo tm x,G x->x.1.p=true->E ds (.next ⟨nV ⟨todo,tm,RR f N ro ds fl⟩ [⟨x.1.v,false⟩],acs,x.2⟩) x
structure Iu (C:oA) (E:zX) (G:iH × xA->Prop) (f N:Nat) (ro:Option Nat) (acs:List lB) (κ:Kt) (k:List mE) (fl:Bool:=false):Prop where
 norm:∀ds x tm H,G x->κ.norm tm H=some x->Fin C E ds (.next ⟨⟨k,tm,RR f N ro ds fl⟩,acs,H⟩) x
 exit:∀ds x i tm H,G x->κ.exit i tm H=some x->Fin C E ds (.next ⟨⟨.code (.exit i)::k,tm,RR f N ro ds fl⟩,acs,H⟩) x
 ret:∀ds x tm H,G x->κ.ret tm H=some x->∀k',Fin C E ds (.next ⟨⟨.code .ret::k',tm,RR f N ro ds fl⟩,acs,H⟩) x
structure Fz where
 i:Nat
 pl:List Nat
 f:Operand
 ps:Array Nat
 as:List (Nat × Array Oper)
 c:nC
def mK(c:nC):List Fz:=
 nC.rec (motive:=fun _=>List Fz) [] (fun _ _ _=>[]) (fun _ _ a b=>fD a b) (fun _ _ _ a b=>fD a b) (fun _ _ a=>a) (fun _ _ a=>a) (fun _=>[]) [] (fun _ _ a=>a)
  (fun i pl f ps as c a=>⟨i,pl,f,ps,as,c⟩::a) c
section
variable {C:oA}{φ:aE}{E:zX}{G:iH × xA->Prop}{ds:List gH}{ro:Option Nat}{f N:Nat}{acs:List lB}{R:wK}{κ:Kt}{k:List mE}{x:iH × xA}{all:Array Oper}{fl:Bool}
theorem xJ(hR:R.mode.running=true)    : cT C (.next ⟨⟨todo,tm,R⟩,acs,H⟩)=wS C todo tm R acs H:=by
 show(bif R.mode.running then wS C todo tm R acs H else _)=_
 grind
def JT{c':lB}  (hr:Fy C f [] fr H v)(hf:fH c v=some c'):cT C (.next ⟨fr,c::acs,H⟩)=.next ⟨c',acs,H⟩:=by
 obtain⟨h1,h2,h3,h4,fn,l,h5,h6,rfl⟩:=hr
 obtain⟨todo,tm,ffn,n,defers,mode,deferred,round⟩:=fr
 simp only at h1 h2 h3 h4 h6
 subst h1 h2 h3 h4
 show Di C ⟨todo,tm,_⟩ (c::acs) H=_
 unfold Di;rw[h5,qA,h6];simp only[cond_false];rw[hf];rfl
def zbx   {g:Nat}{fn:Func}(hrun:c.R.mode=.run)(hr:zf2 g [] fr v)(hf:C.fns.get g=some fn):cT C (.next ⟨fr,c::acs,H⟩)=.next ⟨nV c [⟨v,false⟩],acs,H⟩:=by
 obtain⟨h1,h2,h3,h4⟩:=hr
 obtain⟨todo,tm,ffn,n,defers,mode,deferred,round⟩:=fr
 simp only at h1 h2 h3 h4
 subst h1 h2 h3 h4
 show lL (ob (C.fns.get ffn) fun _=>some (⟨nV c [⟨v,false⟩],acs,H⟩:wR)) 19=_
 rw[hf];rfl
def Ws(hφ:bQ C φ)  {K:zA->xA->oB}(h:jG φ r H K=some x)
  (hK:∀v H' c',fH fr v=some c'->K v H'=some x->Fin C E ds (.next ⟨c',acs,H'⟩) x) (hfin:∀v,∃c',fH fr v=some c') (hrun:fr.R.mode=.run) (hP:x.1.p=true->E ds (.next ⟨nV fr [⟨x.1.v,false⟩],acs,x.2⟩) x):Fin C E ds (Iq r C fr acs H) x:=by
 cases r<;>simp only[jG]at h<;>try (cases h;done)
 case val v H'=>
  have h2:K v H'=some x:=h
  obtain⟨c',hc⟩:=hfin v
  show Fin C E ds (Ea v H' C fr acs H) x
  unfold Ea;rw[hc];exact hK _ _ _ hc h2
 case enter g args=>
  rw[tA]at h;obtain⟨p,h1,h4⟩:=h
  obtain⟨c',hc⟩:=hfin p.1.v
  show Fin C E ds (Kw g args C fr acs H) x
  unfold Kw;obtain⟨ge,he,r0⟩:=hφ.fn _ _ _ _ h1
  obtain⟨fr',r1,r2⟩:=r0 (fr::acs)
  rw[he]
  cases hp:p.1.p with
  | true=>
   rw[hp]at h4;have h4:some p=some x:=h4
   cases h4;unfold dP at r2;rw[yab hp]at r2;obtain⟨r2,fn,hfn⟩:=r2
   refine Fin.of (r1.trans (.step ?_)) ⟨_,.refl _,hP hp⟩
   rw[zbx hrun r2 hfn];exact .refl _
  | false=>
   rw[hp]at h4;have h4:K p.1.v p.2=some x:=h4
   unfold dP at r2;rw[hp,yaa (by simp)]at r2
   refine Fin.of (r1.trans (.step ?_)) (hK _ _ _ hc h4)
   rw[JT r2 hc];exact .refl _
 case round l args=>
  rw[tA]at h;obtain⟨p,h1,h4⟩:=h
  rw[wB]at h4;obtain⟨c',hc⟩:=hfin p.1.v
  obtain⟨r,tm,e1,e2,e3,r0⟩:=hφ.rd _ _ _ _ h1
  show Fin C E ds (Ku l args C fr acs H) x
  unfold Ku;rw[e1,qA,e2,qA];exact Fin.of (r0 _ _ _ hc) (hK _ _ _ hc h4.2)
 case panic v=>
  cases h;exact⟨_,.refl _,hP rfl⟩
def lX{m:aU}(h:m.running=true):m=.run:=by cases m<;>first | rfl | cases h
theorem SV(hφ:bQ C φ)(hR:R.mode.running=true)(hN:R.n=N)(hP:∀todo tm,x.1.p=true->E ds (.next ⟨nV ⟨todo,tm,R⟩ [⟨x.1.v,false⟩],acs,x.2⟩) x) (hκ:∀tm H,κn tm H=some x->Fin C E ds (.next ⟨⟨k,tm,R⟩,acs,H⟩) x) :
  ∀(l:List Oper) (tm:Tm) (H:xA),wM C φ all N κn l tm H=some x->Fin C E ds (yM C all k R acs l tm H) x:=by
 intro l;induction l with
 | nil=>exact fun tm H h=>hκ tm H h
 | cons o l ih=>
  intro tm H h;rw[Bo,tA]at h;obtain⟨w,h1,h⟩:=h
  rw[Bg,h1]
  cases w with
  | false=>simp_all
  | true=>
   rw[yab rfl]at h;simp only[];generalize (bE o.op).f C (.now tm) H=r at h
   cases hv:r.asVal with
   | some p=>
    have:r=.val p.1 p.2:=by cases r<;>simp[oK.asVal]at hv;rw[<- hv]
    grind [jG,oP]
   | none=>
    refine Ws hφ h (fun v H' c' hc hK=>?_) (fun v=>⟨⟨.ops all l::k,putA R.n tm o.dst v,R⟩,by unfold fH;simp only[hR,cond_true];rfl⟩) (lX hR) (hP _ _)
    unfold fH at hc;simp only[hR,cond_true]at hc;have hc:some (⟨.ops all l::k,putA R.n tm o.dst v,R⟩:lB)=some c':=hc
    cases hc;refine .step ?_
    rw[xJ hR,hN];rw[oP]at hK;exact ih _ _ hK.2
theorem Qw   {K:Tm->oB}:∀(l:List Nat) (tm:Tm),pI C H all N old olds K l tm=some x->∃tm',eR C H all N old olds l tm=some tm'/\K tm'=some x:=by
 intro l;induction l with
 | nil=>exact fun tm h=>⟨tm,rfl,h⟩
 | cons i l ih=>
  intro tm h;rw[Qy,tA]at h;obtain⟨o,h1,h⟩:=h
  rw[tA]at h;grind [eR,qA,tA,oP]
def Zm{C:oA}{o:Op}{e:vD}  (hf:jL o=true)(h:(bE o).f C e H=r)(h1:∀q,r≠pL q):False:=by
 have key:∀q:Option (zA × xA),pL q=r->False:=fun q e=>h1 q e.symm
 cases o<;>simp only[jL]at hf<;>first
  | (cases hf;done)
  | exact key _ h
theorem QC(hφ:bQ C φ)(hR:R.mode.running=true)(hN:R.n=N)(hP:∀todo tm,x.1.p=true->E ds (.next ⟨nV ⟨todo,tm,R⟩ [⟨x.1.v,false⟩],acs,x.2⟩) x) (hκ:∀tm H,κn tm H=some x->Fin C E ds (.next ⟨⟨k,tm,R⟩,acs,H⟩) x)   :
  ∀(l:List gG) (tm:Tm) (H:xA),qJ C φ all N old olds κn l tm H=some x->Fin C E ds (.next ⟨⟨.reg all old olds l::k,tm,R⟩,acs,H⟩) x:=by
 intro l;induction l with
 | nil=>
  intro tm H h;refine .step ?_
  rw[xJ hR];exact hκ tm H h
 | cons st l ih=>
  intro tm H h
  cases hg:oU all st with
  | true=>
   rw[Kf hg,Rr]at h;obtain⟨h0,es,H',h1,h2,h3⟩:=h
   obtain⟨tm',hl1,hl2⟩:=Qw _ _ h3
   refine .step ?_
   rw[xJ hR];show Fin C E ds (lS all old olds (st::l) C k tm R acs H) x
   unfold lS;have hg0:=qC.1 hg
   rw[oD]at hg0;have hnone:sD all.toList st.heavy=none:=by
    grind [xH]
   simp only[hnone];rw[qD,yab (qC.2 (by rw[oD];omega)),qD,yab (show Nat.blt (zB all.toList+zB all.toList) st.heavy=true from hg)]
   unfold Ns;rw[h0,show ∀(x:Option wR),xB true x=x from fun _=>rfl,h1,qA,h2,qA,hN,hl1,qA]
   exact ih _ _ hl2
  | false=>
  rw[Gq hg,tA]at h;obtain⟨o,h1,h⟩:=h
  rw[tA]at h;obtain⟨w,h2',h⟩:=h
  have hgn:Nat.blt (zB all.toList+zB all.toList) st.heavy=false:=hg
  by_cases hfl:Nat.blt (zB all.toList) st.heavy=true
  ·-- an operation that is done early
   unfold yV at h2';unfold sN at h1 h;rw[hfl]at h1 h2' h
   simp only[cond_true,tA,wB,ybb]at h1 h2'
   obtain⟨w',h2,⟨⟨hw,hfo⟩,hlo⟩,h2'⟩:=h2'
   cases h2'
   subst hw;simp only[if_true,cond_true]at h;have hval:∃v H',(bE o.op).f C (.mixed tm old (nF (Nat.sub st.heavy (Nat.succ (zB all.toList))) olds) (bH o.op)) H=.val v H':=by
    cases hr:(bE o.op).f C (.mixed tm old (nF (Nat.sub st.heavy (Nat.succ (zB all.toList))) olds) (bH o.op)) H with
    | val v H'=>simp_all
    | enter g args=>exact(Zm hfo hr fun q=>by cases q<;>simp[pL]).elim
    | round g args=>exact(Zm hfo hr fun q=>by cases q<;>simp[pL]).elim
    | panic v=>exact(Zm hfo hr fun q=>by cases q<;>simp[pL]).elim
    | _=>rw[hr]at h;cases h
   obtain⟨v,H',hv⟩:=hval
   rw[hv]at h;have h:(mL C o.type v fun v=>cM C H' all old olds (putA N tm o.dst v) (pI C H' all N old olds (fun tm=>qJ C φ all N old olds κn l tm H') st.lights (putA N tm o.dst v)) st.again)=some x:=h
   rw[oP]at h;obtain⟨ha,hl⟩:=Nd _ h.2
   obtain⟨tm',hl1,hl2⟩:=Qw _ _ hl
   refine .step ?_
   rw[xJ hR];show Fin C E ds (lS all old olds (st::l) C k tm R acs H) x
   unfold lS;have hnone:sD all.toList st.heavy=none:=by
    grind [xH,qC,oD]
   simp only[hnone];rw[hfl,cond_true,hgn,cond_false];unfold Nt;rw[h1,qA,h2,qA,hv,hlo];show Fin C E ds (lL (ob (eR C H' all R.n old olds st.lights (putA R.n tm o.dst v)) fun tm'=>some ⟨⟨.reg all old olds l::k,tm',R⟩,acs,H'⟩) 23) x
   rw[hN,hl1,qA];exact ih _ _ hl2
  have hfl:Nat.blt (zB all.toList) st.heavy=false:=Bool.eq_false_iff.2 hfl
  unfold yV at h2';unfold sN at h1 h;rw[hfl]at h1 h2' h
  simp only[cond_false,tA]at h1 h2'
  obtain⟨w',h2,h2'⟩:=h2'
  cases h2'
  simp only[cond_false]at h;have back0:∀v H' c',fH (⟨.reg all old olds (st::l)::k,tm,R⟩:lB) v=some c' →
    cM C H' all old olds (putA N tm o.dst v) (pI C H' all N old olds (fun tm=>qJ C φ all N old olds κn l tm H') st.lights (putA N tm o.dst v)) st.again=some x->Fin C E ds (.next ⟨c',acs,H'⟩) x:=by
   intro v H' c' hc hK;unfold fH at hc;simp only[hR,cond_true]at hc;have hc:(ob (sD all.toList st.heavy) fun o=>some (⟨.reg all old olds (⟨all.size,st.lights,st.again⟩::l)::k,putA R.n tm o.dst v,R⟩:lB))=some c':=hc
   rw[h1,qA]at hc
   cases hc;refine .step ?_
   rw[xJ hR,hN];obtain⟨ha,hl⟩:=Nd _ hK
   obtain⟨tm',hl1,hl2⟩:=Qw _ _ hl
   show Fin C E ds (lS all old olds (⟨all.size,st.lights,st.again⟩::l) C k (putA N tm o.dst v) R acs H') x
   unfold lS;have:sD all.toList all.size=none:=by rw[xH];simp
   simp only[this];rw[qD,yaa fun e=>by grind [qC,oD]];show Fin C E ds (Jd all old olds ⟨all.size,st.lights,st.again⟩ l C k (putA N tm o.dst v) R acs H') x
   unfold Jd;simp only[ha,hN,hl1,qA];exact ih _ _ hl2
  have back:∀v H' c',fH (⟨.reg all old olds (st::l)::k,tm,R⟩:lB) v=some c' →
    (mL C o.type v fun v=>cM C H' all old olds (putA N tm o.dst v) (pI C H' all N old olds (fun tm=>qJ C φ all N old olds κn l tm H') st.lights (putA N tm o.dst v)) st.again)=some x->Fin C E ds (.next ⟨c',acs,H'⟩) x:=by
   grind [oP]
  refine .step ?_
  rw[xJ hR];show Fin C E ds (lS all old olds (st::l) C k tm R acs H) x
  unfold lS;simp only[h1];unfold Nr;rw[h2];simp only[];have hfin:∀v,∃c',fH (⟨.reg all old olds (st::l)::k,tm,R⟩:lB) v=some c':=fun v=>⟨⟨.reg all old olds (⟨all.size,st.lights,st.again⟩::l)::k,putA R.n tm o.dst v,R⟩,by
   unfold fH;simp only[hR,cond_true];show(ob (sD all.toList st.heavy) fun o=>some (⟨.reg all old olds (⟨all.size,st.lights,st.again⟩::l)::k,putA R.n tm o.dst v,R⟩:lB))=_
   rw[h1];rfl⟩
  cases w with
  | true=>
   simp only[if_true]at h;exact Ws hφ h back hfin (lX hR) (hP _ _)
  | false=>
   simp only[ybq,if_false]at h;obtain⟨c',hc⟩:=hfin dD
   show Fin C E ds (Ea dD H C _ acs H) x
   unfold Ea;rw[hc];exact back0 _ _ _ hc h
theorem zcj    (h:(keep live tm).get i=some v):tm.get i=some v:=by
 unfold keep Tm.get at h;simp only[qK]at h;split at h
 case isFalse=>cases h
 rename_i hk;have key:∀live:List Nat,(Ho tm live).get i=some v->tm.get i=some v:=by
  intro live;induction live with
  | nil=>grind [Ho,Tr.get_leaf]
  | cons j live ih=>
   grind [Ho,Tr.get_set]
 grind
def KI (hr:Rh todo=false)   (h:Fin C E ds (.next ⟨⟨todo,keep live tm,R⟩,acs,H⟩) x):Fin C E ds (.next ⟨⟨todo,tm,R⟩,acs,H⟩) x:=
 Fin.of (.forget hr (fun _ _=>zcj) (.refl _)) h
def Rx(hE:Iy C E G f N ro acs fl) (h1:Rh t1=false)(hs:∀tm H,wS C t1 tm (RR f N ro ds fl) acs H=wS C t2 tm (RR f N ro ds fl) acs H)  (h:Fin C E ds (.next ⟨⟨t2,tm,RR f N ro ds fl⟩,acs,H⟩) x):Fin C E ds (.next ⟨⟨t1,tm,RR f N ro ds fl⟩,acs,H⟩) x:=by
 obtain⟨o',hr,hv⟩:=h
 refine⟨o',?_,hv⟩
 generalize ho:(.next ⟨⟨t2,tm,RR f N ro ds fl⟩,acs,H⟩:xG)=o at hr
 induction hr generalizing tm with
 | refl=>
  subst ho;exact(hE.not _ _ _ _ _ hv).elim
 | step h ih=>
  subst ho;refine .step ?_
  rw[xJ rfl,hs,<- xJ rfl];exact h
 | forget hr2 hs2 h ih=>
  cases ho;exact .forget h1 hs2 (ih hv rfl)
theorem US     : bS (some (.exit i)) C ⟨t1,tm,R⟩ acs H=bS (some (.exit i)) C ⟨t2,tm,R⟩ acs H:=by
 obtain⟨a,b,c,d,e,ro⟩:=R
 unfold bS
 cases ro<;>rfl
theorem Zu(hE:Iy C E G f N ro acs fl) {y:mE}(hy:∀j,y.blockId=some j->Nat.beq j i=false)  (h:Fin C E ds (.next ⟨⟨.code (.exit i)::k,tm,RR f N ro ds fl⟩,acs,H⟩) x):Fin C E ds (.next ⟨⟨.code (.exit i)::y::k,tm,RR f N ro ds fl⟩,acs,H⟩) x:=by
 refine Rx hE rfl (fun tm H=>?_) h
 show As i C (y::k) tm (RR f N ro ds fl) acs H=As i C k tm (RR f N ro ds fl) acs H
 grind [xT,As,US]
theorem RZ(hφ:bQ C φ)(hE:Iy C E G f N none acs fl){κ:Kt}(hκ:Iu C E G f N none acs κ k fl){fo:Operand}{ps:Array Nat}{a b:Code}  (h:qR C φ f N κ fo ps.toList a b tm H=some x):Fin C E ds (.next ⟨⟨.code (.rangeFunc fo ps a b)::k,tm,RR f N none ds fl⟩,acs,H⟩) x:=by
 unfold qR at h;rw[tA]at h;obtain⟨v,h1,h⟩:=h
 rw[tA]at h;obtain⟨⟨qf,q1,q2⟩,h2,h⟩:=h
 cases qf with
 | yld l=>cases h
 | func g=>
  simp only[wB,tA]at h;obtain⟨h3,y,h4,hy,r,h5,h6,z,h7,hz,d,h8,h9,h10⟩:=h
  have hy:y.1.p=false:=by simpa using hy
  have hz:z.1.p=false:=by simpa using hz
  have hp:C.prims.get g=none:=by
   cases hx:C.prims.get g with
   | none=>rfl
   | some u=>rw[hx]at h3;cases h3
  obtain⟨ge,he,r0⟩:=hφ.fn _ _ _ _ h4
  obtain⟨fr',r1,r2⟩:=r0 (⟨.inRange (H.next+1)::k,tm,RR f N none (⟨none,H.next,[]⟩::ds) fl⟩::acs)
  unfold dP at r2;rw[hy,yaa (by simp)]at r2
  refine .step ?_
  rw[xJ rfl];show Fin C E ds (Jc fo ps a b C k tm (RR f N none ds fl) acs H) x
  have hin:aY C (H.next+1) v=some ge:=by
   grind [aY,qA]
  unfold Jc;rw[h1,qA];simp only[hin,qA];refine Fin.of (r1.trans (.step ?_)) (?_:Fin C E ds (.next ⟨⟨.endRange (H.next+1)::k,tm,RR f N none (⟨none,H.next,[]⟩::ds) fl⟩,acs,y.2⟩) x)
  ·rw[JT r2 (c':=⟨.endRange (H.next+1)::k,tm,RR f N none (⟨none,H.next,[]⟩::ds) fl⟩) rfl]
   exact .refl _
  refine .step ?_
  rw[xJ rfl];show Fin C E ds (Je (H.next+1) C k tm (RR f N none (⟨none,H.next,[]⟩::ds) fl) acs y.2) x
  unfold Je;rw[h5,qA,h6];have key:Fin C E (⟨none,H.next,[]⟩::ds) (.next ⟨⟨(match r.pending with | some c=>.code c::k | none=>k),tm,RR f N none (⟨none,H.next,[]⟩::ds) fl⟩,acs,endLoop y.2 (H.next+1) r⟩) z:=by
   unfold Ap at h7;split at h7
   ·rename_i e;rw[e];exact hκ.norm _ _ _ _ (hE.all rfl _) h7
   ·rename_i e;rw[e];exact hκ.ret _ _ _ _ (hE.all rfl _) h7 k
   grind
  obtain⟨o',k1,k2⟩:=key
  have hd:mW z.2 H.next=some (some []):=by
   rw[h8]
   cases d with
   | none=>cases h9
   | some l=>cases l with | nil=>rfl | cons _ _=>cases h9
  obtain⟨o'',k3,k4⟩:=hE.pop rfl _ _ _ _ hz k2 hd
  cases h10;exact⟨o'',k1.trans k3,k4⟩
theorem Pr{α:Type}{a b:List α}(h:fD a b=[]):a=[]/\b=[]:=by grind [iG,List.append_eq_nil_iff]
theorem Sj(hφ:bQ C φ)(hE:Iy C E G f N ro acs fl):∀(c:nC) (κ:Kt) (k:List mE),(ro=none\/mK c=[])->Iu C E G f N ro acs κ k fl->∀ds x tm H,G x->mD C φ f N c κ tm H=some x->Fin C E ds (.next ⟨⟨.code (xE c)::k,tm,RR f N ro ds fl⟩,acs,H⟩) x:=by
 intro c;induction c with
 | skip=>
  intro κ k _ hκ ds x tm H hG h;refine .step ?_
  rw[xJ rfl];exact hκ.norm _ _ _ _ hG h
 | region id ops d=>
  intro κ k _ hκ ds x tm H hG h;refine .step ?_
  rw[xJ rfl]
  cases d with
  | false=>exact SV hφ rfl rfl (fun todo tm hp=>hE.pan _ _ _ _ hG hp) (fun tm H h=>hκ.norm _ _ _ _ hG h) _ _ _ h
  | true=>
   have h:(ob (ob (C.plans.get f) fun t=>t.get id) fun p=>xB (xU ops p) (pI C H ops N tm.cut p.olds (fun tm'=>qJ C φ ops N tm.cut p.olds κ.norm p.stages tm' H) p.first tm.cut))=some x:=h
   rw[tA]at h;obtain⟨p,h1,h⟩:=h
   rw[wB]at h;obtain⟨tm',hl1,hl2⟩:=Qw _ _ h.2
   show Fin C E ds (Jf id ops C k tm (RR f N ro ds fl) acs H) x
   unfold Jf;rw[h1,qA,h.1,hl1];exact QC hφ rfl rfl (fun todo tm hp=>hE.pan _ _ _ _ hG hp) (fun tm H h=>hκ.norm _ _ _ _ hG h) _ _ _ hl2
 | seq a b iha ihb=>
  intro κ k hn hκ ds x tm H hG h;have hna:ro=none\/mK a=[]:=hn.imp id fun e=>(Pr e).1
  have hnb:ro=none\/mK b=[]:=hn.imp id fun e=>(Pr e).2
  refine Rx hE (t1:=.code (xE (.seq a b))::k) rfl (t2:=.code (xE a)::.code (xE b)::k) (fun _ _=>rfl) ?_
  exact iha ⟨mD C φ f N b κ,κ.exit,κ.ret⟩ _ hna ⟨fun ds x tm H hG h=>ihb _ _ hnb hκ ds x tm H hG h,fun ds x i tm H hG h=>Zu hE (fun _ e=>by cases e) (hκ.exit _ _ _ _ _ hG h),hκ.ret⟩ ds x tm H hG h
 | cond c a b iha ihb=>
  intro κ k hn hκ ds x tm H hG h;have hna:ro=none\/mK a=[]:=hn.imp id fun e=>(Pr e).1
  have hnb:ro=none\/mK b=[]:=hn.imp id fun e=>(Pr e).2
  have h:(ob (ob (ev c (.now tm)) zA.asBool) fun t=>Bool.rec (motive:=fun _=>oB) (mD C φ f N b κ tm H) (mD C φ f N a κ tm H) t)=some x:=h
  rw[tA]at h;obtain⟨t,h1,h⟩:=h
  refine .step ?_
  rw[xJ rfl];show Fin C E ds (Jg c (xE a) (xE b) C k tm (RR f N ro ds fl) acs H) x
  unfold Jg;rw[h1]
  cases t with
  | true=>exact iha _ _ hna hκ _ _ _ _ hG h
  | false=>exact ihb _ _ hnb hκ _ _ _ _ hG h
 | block id c ih=>
  intro κ k hn hκ ds x tm H hG h;refine .step ?_
  rw[xJ rfl];have nx:∀ds x tm H,G x->κ.norm tm H=some x->Fin C E ds (.next ⟨⟨.inBlock id::k,tm,RR f N ro ds fl⟩,acs,H⟩) x:=by
   intro ds x tm H hG h;refine .step ?_
   rw[xJ rfl];exact hκ.norm _ _ _ _ hG h
  refine ih ⟨κ.norm,fun i tm H=>Bool.rec (motive:=fun _=>oB) (κ.exit i tm H) (κ.norm tm H) (Nat.beq id i),κ.ret⟩ _ hn ⟨nx,fun ds x i tm H hG h=>?_,hκ.ret⟩ ds x tm H hG h
  dsimp only at h
  cases hb:Nat.beq id i with
  | true=>
   rw[hb]at h;refine .step ?_
   rw[xJ rfl];show Fin C E ds (As i C (.inBlock id::k) tm (RR f N ro ds fl) acs H) x
   have e:xT i (.inBlock id::k)=some k:=by
    show(bif Nat.beq id i then some k else xT i k)=_
    grind
   unfold As;rw[e];exact hκ.norm _ _ _ _ hG h
  | false=>
   rw[hb]at h;exact Zu hE (fun j e=>by cases e;exact hb) (hκ.exit _ _ _ _ _ hG h)
 | loop live c ih=>
  intro κ k hn hκ ds x tm H hG h;obtain⟨m,hm⟩:=Ye h
  have it:∀(m:Nat) ds x tm H,G x->(Nat.rec (motive:=fun _=>Tm->xA->oB) (fun _ _=>none) (fun _ r tm H=>mD C φ f N c ⟨r,κ.exit,κ.ret⟩ (keep live.kept tm) H) m:Tm->xA->oB) tm H=some x->Fin C E ds (.next ⟨⟨.inLoop (xE c)::k,tm,RR f N ro ds fl⟩,acs,H⟩) x:=by
   intro m;induction m with
   | zero=>simp_all
   | succ m ihm=>
    intro ds x tm H hG h;refine KI (live:=live.kept) rfl (.step ?_)
    rw[xJ rfl];exact ih ⟨_,κ.exit,κ.ret⟩ _ hn ⟨ihm,fun ds x i tm H hG h=>Zu hE (fun _ e=>by cases e) (hκ.exit _ _ _ _ _ hG h),hκ.ret⟩ _ _ _ _ hG h
  exact Rx hE (t1:=.code (xE (.loop live c))::k) rfl (t2:=.inLoop (xE c)::k) (fun _ _=>rfl) (it m _ _ tm H hG hm)
 | exit id=>exact fun κ k _ hκ ds x tm H hG h=>hκ.exit _ _ _ _ _ hG h
 | ret=>exact fun κ k _ hκ ds x tm H hG h=>hκ.ret _ _ _ _ hG h k
 | cut live c ih=>exact fun κ k hn hκ ds x tm H hG h=>KI rfl (ih κ k hn hκ _ _ _ _ hG h)
 | range i pl fo ps as c ih=>
  intro κ k hn hκ ds x tm H hG h;rcases hn with rfl | e
  ·exact RZ hφ hE hκ h
  ·cases e
end
end
end Go.Am
