/- The simulation: leaving, rounds, regions in order, heavy operations. -/
import Derived.Test.YtefajchlhjcgpaaGreatDoorB03
set_option linter.all false
noncomputable section
namespace Go.Am
open Go Go.RowKit
section
variable {m:Option Nat}{D id:Nat}{o:Oper}{olds:List (Nat × List Nat)}{anc:Tr Nat}{old:Tm}{S:Nat->Bool}{order:List Nat}{st:vG}{stages:List vG}
section
variable {P:Program}{C:lA}{B N:Nat}{I:World->Prop}{μ ν:Mu}{H H':xA}{w:World}{tm:Tm}{R:jJ}{acs:List wC}{base cs:List Frame}
variable {b:Frame}{tmps:Array Value}{ds:List Deferred}{k:List qE}{k':List Item}{all:Array Oper}
def GQ (h:Dr μ none m):m=none:=by
 cases m with
 | none=>rfl
 | some l=>exact h.elim
theorem Xr{l:Nat} (h:Dr μ (some l) m):∃i,μ l=some i/\m=some i.b:=by
 cases m with
 | none=>exact h.elim
 | some m=>obtain⟨i,h1,h2⟩:=h;simp_all
theorem Zj(hH:tB B N μ H w)(hcs:cF C μ acs cs)(hR:dG μ R (b.atR ⟨tmps,ds⟩ []))(ht:dE μ R.n tm tmps){todo:List qE}{btodo:List Item}{jump:Option Code}
  (h0:b.roundOf=none->Xv jump=true->step P (lone (b.atR ⟨tmps,ds⟩ btodo) (cs++base) w)=.next (lone { b.atR ⟨tmps,ds⟩ btodo with mode:=.returning } (cs++base) w))
  (h1:∀l c rest v w',b.roundOf=some l->b.kind=.normal->(Instr.endRound l jump).run P w=.ok v w'->step P (lone (b.atR ⟨tmps,ds⟩ btodo) (c::rest) w)=.next (lone (c.finish v) rest w')) :
  bD P C B N μ base (lone (b.atR ⟨tmps,ds⟩ btodo) (cs++base) w) w (rT jump C ⟨todo,tm,R⟩ acs H):=by
 unfold rT;simp only[]
 cases hr:R.roundOf with
 | none=>
  have hb:b.roundOf=none:=by
   have:=hR.round
   rw[hr]at this;exact GQ this
  cases hj:Xv jump with
  | false=>exact trivial
  | true=>exact UJ hH hcs hR ht (.one (h0 hb hj))
 | some l=>
  obtain⟨i,hi,hb⟩:∃i,μ l=some i/\b.roundOf=some i.b:=by
   have:=hR.round
   rw[hr]at this;exact Xr this
  simp only[]
  cases hx:fI H l with
  | none=>exact trivial
  | some r=>
   rw[qA]
   cases hcs with
   | nil=>exact trivial
   | @cons c b1 acs1 cs1 hc hcs1=>
    simp only[]
    cases hd:R.deferred with
    | true=>exact trivial
    | false=>
     have hkind:b.kind=.normal:=by have:=hR.kind;rw[hd]at this;exact this
     cases hf:pH c (.bool jump.isNone)with
     | none=>exact trivial
     | some c'=>
      obtain⟨hl,r',hg,hw,rel⟩:=Mo hH hx hi
      have run:(Instr.endRound i.b jump).run P w=.ok (.bool jump.isNone) (World.setBlk w i.b (.loop { r' with state:=if jump.isNone then .ready else .done,pending:=jump })):=by
       simp_all [Instr.endRound,Lp,Hp]
      refine⟨μ,_,cs1,_,.one (h1 i.b b1 (cs1++base) _ _ hb hkind run),fun _ _ h=>h,jY (hH.own l i hl hi).1,?_,Ga hc hf (by rw[uA]),hcs1⟩
      refine hH.upd hg hi hl ?_
      rw[dI];exact⟨_,rfl,rfl,rfl,rel.fn,rel.tm,rel.params,rel.assign,rel.body,rel.defers⟩
theorem XL  : ∀ {k:List qE} {k':List Item},xD (sG μ) k k'->lT id k=none->exitTo id k'=none:=by
 intro k k' h;induction h with
 | nil=>intro _;rfl
 | cons a l ih=>
  intro e
  cases a with
  | inBlock i=>
   grind [lT,qE.blockId,exitTo,fC]
  | _=>
   grind [lT,exitTo]
def znc(hH:tB B N μ H w)(hcs:cF C μ acs cs)(hR:dG μ R (b.atR ⟨tmps,ds⟩ []))(ht:dE μ R.n tm tmps)(hk:xD (sG μ) k k')  :
  bD P C B N μ base (lone (b.atR ⟨tmps,ds⟩ (.code (.exit id)::k')) (cs++base) w) w (Bu id C k tm R acs H):=by
 unfold Bu
 cases he:lT id k with
 | some r=>
  obtain⟨r',h1,h2⟩:=zca hk he
  exact fZ hH hcs hR ht h2 (.one (stepR_exit h1))
 | none=>
  exact Zj hH hcs hR ht (fun _ h=>by cases h) fun l c rest v w' hb hkd hr=>stepR_round_exit hb hkd (XL hk he) hr
def ret_ok(hH:tB B N μ H w)(hcs:cF C μ acs cs)(hR:dG μ R (b.atR ⟨tmps,ds⟩ []))(ht:dE μ R.n tm tmps) :
  bD P C B N μ base (lone (b.atR ⟨tmps,ds⟩ (.code .ret::k')) (cs++base) w) w (xRet C k tm R acs H):=
 Zj hH hcs hR ht (fun hb _=>stepR_ret hb) fun _ _ _ _ _ hb hkd hr=>stepR_round_ret hb hkd hr
theorem BD(hH:tB B N μ H w)(hcs:cF C μ acs cs)(hR:dG μ R (b.atR ⟨tmps,ds⟩ []))(ht:dE μ R.n tm tmps) :
  bD P C B N μ base (lone (b.atR ⟨tmps,ds⟩ []) (cs++base) w) w (rT none C ⟨[],tm,R⟩ acs H):=
 Zj hH hcs hR ht (fun hb _=>stepR_end hb) fun _ _ _ _ _ hb hkd hr=>stepR_round_end hb hkd hr
theorem Cj {rest:List Oper}:zM C all k R acs (o::rest) tm H=match kF o.guard all tm with
  | none=>.fail 20
  | some false=>zM C all k R acs rest (putA R.n tm o.dst pD) H
  | some true=>match ((kE o.op).f C (.now tm) H).asVal with
   | some p=>zM C all k R acs rest (putA R.n tm o.dst p.1) p.2
   | none=>Js ((kE o.op).f C (.now tm) H) C ⟨.ops all (o::rest)::k,tm,R⟩ acs H:=by
 show(match kF o.guard all tm with
  | some w=>Bool.rec (motive:=fun _=>lF) (zM C all k R acs rest (putA R.n tm o.dst pD) H)
     (let r:=(kE o.op).f C (.now tm) H
     match r.asVal with
     | some p=>zM C all k R acs rest (putA R.n tm o.dst p.1) p.2
     | none=>Js r C ⟨.ops all (o::rest)::k,tm,R⟩ acs H) w
  | none=>.fail 20)=_
 grind
theorem GY{n i:Nat}(h:i<n):(List.range n).drop i=i::(List.range n).drop (i+1):=by
 grind [List.drop_eq_getElem_cons]
theorem GP(hS:cJ P C B N I):∀(rest:List Oper) (i:Nat) (tm:Tm) (H:xA) (w:World) (μ:Mu) (tmps:Array Value),rest=all.toList.drop i->i<=all.size->I w->tB B N μ H w->cF C μ acs cs →
  dG μ R (b.atR ⟨tmps,ds⟩ [])->dE μ R.n tm tmps->xD (sG μ) k k' →
  bD P C B N μ base (lone (b.atR ⟨tmps,ds⟩ (.inRegion all ((List.range all.size).drop i)::k')) (cs++base) w) w (zM C all k R acs rest tm H):=by
 intro rest;induction rest with
 | nil=>
  intro i tm H w μ tmps hi hle hI hH hcs hR ht hk;have:all.size<=i:=by
   simp_all
  rw[ybt (by simp_all)]
  exact fZ hH hcs hR ht hk (.one stepR_region_end)
 | cons o rest ih=>
  intro i tm H w μ tmps hi hle hI hH hcs hR ht hk;obtain⟨h1,h2⟩:=iW hi
  have hlt:i<all.size:=by grind
  have ho:all[i]?=some o:=by simp_all
  rw[Cj,GY hlt]
  cases hw:kF o.guard all tm with
  | none=>exact trivial
  | some wn=>
   have hwn:=ht.wanted (all:=all) hw
   cases wn with
   | false=>
    refine bD.of_steps (.one (Xd ho hwn)) (fun _ _ h=>h) (Below.refl N w) ?_
    rw[Hy];have t:=ht.put (ds:=ds) (dst:=o.dst) Pf
    exact ih (i+1) _ _ _ _ _ h2 hlt hI hH hcs (hR.slots t.1) t hk
   | true=>
    have hop:=zj1 hS.tys hS.base hS.fns hS.prims hH hI (ht.erel (ds:=ds) hH.glob) o
    simp only[];generalize hr:(kE o.op).f C (.now tm) H=r at hop
    have hdef:(∃c,o.op=.defer c)->r=.fail\/∃d,r=.defer d:=fun h=>by grind [QR]
    have hfr:kJ C μ acs.length none ⟨.ops all (o::rest)::k,tm,R⟩ (b.atR ⟨tmps,ds⟩ (.inRegion all (i::(List.range all.size).drop (i+1))::k')):=by
     refine⟨hR.todo,?_⟩
     rw[yab hR.running,<- GY hlt,hi];exact .plain (.cons (.ops all i hle) hk) ht
    cases hv:r.asVal with
    | none=>grind [QV]
    | some p=>
     have:r=.val p.1 p.2:=by cases r<;>simp[bJ.asVal]at hv;rw[<- hv]
     subst this;simp only[];have hd:∀c,o.op≠.defer c:=fun c e=>by
      rcases hdef ⟨c,e⟩with h | ⟨d,h⟩<;>cases h
     rcases hop with h | ⟨f,args',h3,h4⟩
     ·obtain⟨v',w',μ',s,hm,hH',hb,hv⟩:=Us (b:=b) (k':=k') (rest:=(List.range all.size).drop (i+1)) (cs:=cs++base) ho hwn hd h
      refine bD.of_steps (.one s) hm.f hb ?_
      have t:=(ht.mono hm).put (ds:=ds) (dst:=o.dst) hv
      exact ih (i+1) _ _ _ _ _ h2 hlt (hS.inv _ _ hb hI) hH' (hcs.mono hm) ((hR.mono hm).slots t.1) t (hk.mono fun _ _ r=>r.mono hm)
     ·obtain⟨v',w',s,μ',hm,hH',hb,hv⟩:=PX (b:=b) (k':=k') (rest:=(List.range all.size).drop (i+1)) (cs:=cs++base) (R:=fun v' w'=>∃ μ',μ.le μ'/\tB B N μ' p.2 w'/\Below N w w'/\uA μ' p.1 v') ho hwn hd h3 (h4.mono fun e w' hh=>by simp_all)
      refine bD.of_steps s hm.f hb ?_
      have t:=(ht.mono hm).put (ds:=ds) (dst:=o.dst) hv
      exact ih (i+1) _ _ _ _ _ h2 hlt (hS.inv _ _ hb hI) hH' (hcs.mono hm) ((hR.mono hm).slots t.1) t (hk.mono fun _ _ r=>r.mono hm)
theorem zfv(hS:cJ P C B N I)(hI:I w)(hH:tB B N μ H w)(hcs:cF C μ acs cs)(hR:dG μ R (b.atR ⟨tmps,ds⟩ []))(hk:xD (sG μ) k k')
  (hr:jF μ all olds anc R.n old tm D S order tmps) (hst:oJ all.toList anc (st::stages) D=true) (hp:nH C μ acs.length H all olds R.n old tm D S) (ho:all[st.heavy]?=some o) :
  bD P C B N μ base (lone (b.atR ⟨tmps,ds⟩ (.inRegion all order::k')) (cs++base) w) w (Ox all old olds st stages o C k tm R acs H):=by
 have hlt:st.heavy<=all.size:=Nat.le_of_lt (ybe.1 ho).1
 obtain⟨S',order',tmps',μ',w',s,g,r1,p1⟩:=reach (b:=b) (k:=k') (cs:=cs++base) (ds:=ds) hS.tys hst hlt order S tmps μ w hH hr hp
 refine bD.of_steps s g.le g.below ?_
 replace hI:=hS.inv _ _ g.below hI
 replace hH:=g.heap
 replace hcs:=hcs.monoD fun d hd=>g.pd d (by omega)
 replace hR:=hR.mono g.le
 replace hk:xD (sG μ') k k':=hk.mono fun _ _ r=>r.mono g.le
 unfold Ox
 cases hw:kF o.guard all tm with
 | none=>exact trivial
 | some wn=>
  obtain⟨o',ho',hS',hb',_⟩:=r1.sched
  rw[ho]at ho';cases ho'
  have hwn:=r1.wanted ho hb' hw
  have hfr:kJ C μ' acs.length none ⟨.reg all old olds (st::stages)::k,tm,R⟩ (b.atR ⟨tmps',ds⟩ (.inRegion all (st.heavy::order')::k')):=by
   refine⟨(hR.slots r1.size).todo,?_⟩
   rw[yab hR.running];exact .wait r1 hst hlt (toWeak hst hlt r1 p1) hk
  cases wn with
  | false=>
   refine Ya (H:=H) hfr hcs μ'.le_refl hH (Below.refl N w') Pf ?_
   rw[Frame.finish_atR,ho,yai];exact .one (Xd ho hwn)
  | true=>
   have hop:=zj1 hS.tys hS.base hS.fns hS.prims hH hI (r1.erel (ds:=ds) hH.glob ho hS' hb') o
   exact QV hS hH hcs hfr ho hwn (fun h=>QR h _ _ _) hop
theorem WY(hS:cJ P C B N I)(hH:tB B N μ H w)(hcs:cF C μ acs cs)(hR:dG μ R (b.atR ⟨tmps,ds⟩ []))(hk:xD (sG μ) k k')
  (hr:jF μ all olds anc R.n old tm D S order tmps) (hst:oJ all.toList anc (st::stages) D=true) (hp:nH C μ acs.length H all olds R.n old tm D S) (hlt:all.size<st.heavy) (hle2:st.heavy<=all.size+all.size) :
  bD P C B N μ base (lone (b.atR ⟨tmps,ds⟩ (.inRegion all order::k')) (cs++base) w) w (Oz all old olds st stages (st.heavy-(all.size+1)) C k tm R acs H):=by
 obtain⟨o,D1,D2,ho,hf,h1,h2,h3⟩:=VO hst hlt hle2
 generalize st.heavy-(all.size+1)=i at *
 obtain⟨o',ho',hi,hb,hD1⟩:=Mf h1
 rw[ho]at ho';cases ho'
 unfold Oz;generalize hx:(ob (tD all.toList i) fun o=>ob (kF o.guard all tm) fun w=>wB (w&&tE (Ad C o.op)) (ob ((kE o.op).f C (.mixed tm old (vF i olds) (jH o.op)) H).asVal fun p=>
  ob (zS C p.2 all R.n old olds st.lights (putA R.n tm o.dst p.1)) fun tm'=>some (⟨⟨.reg all old olds stages::k,tm',R⟩,acs,p.2⟩:wR)))=x
 cases x with
 | none=>exact trivial
 | some x=>
  simp only[sA,vB,lG,ybb]at hx;obtain⟨o',ho',wn,hw,⟨hwn,hlo⟩,p,hv,tm',hl,hx⟩:=hx
  have hlo:Ad C o'.op=none:=by
   cases hx:Ad C o'.op with
   | none=>rfl
   | some _=>rw[hx]at hlo;cases hlo
  have:o'=o:=by
   simp_all
  subst this;subst hwn
  cases hx;have hop:(kE o'.op).f C (iR tm old olds i o') H=.val p.1 p.2:=by
   show(kE o'.op).f C (.mixed tm old (vF i olds) (jH o'.op)) H=_
   generalize (kE o'.op).f C (.mixed tm old (vF i olds) (jH o'.op)) H=r at hv
   cases r<;>simp[bJ.asVal]at hv
   rw[<- hv]
  obtain⟨l,hl2⟩:∃l,p.2=uF H l none:=WZ hf hlo hop
  have hH':tB B N (μ.wait H.next (.cells (Tr.ofList l) (aA l) none,acs.length,i)) p.2 w:=by rw[hl2];exact hH.early
  have hle:μ.lw (μ.wait H.next (.cells (Tr.ofList l) (aA l) none,acs.length,i)):=fun _ _ h=>h
  have hpd:∀d,μ.ln d (μ.wait H.next (.cells (Tr.ofList l) (aA l) none,acs.length,i)):=fun d=>⟨hle,fun a x j ha=>by
   show(if a=H.next then _ else μ.pd a)=_
   rw[yaa]
   ·exact ha
   ·intro e
    have:=(hH.pnd _ _ _ ha).2.1
    rw[e,(hH.fresh _ (ybk _)).2]at this
    cases this⟩
  have hgrow:HM.HLe H p.2:=by
   intro b y hb;rw[hl2];show(H.t.set H.next _).get b=some y
   rw[Tr.get_set,yaa]
   ·exact hb
   ·intro e
    rw[e,(hH.fresh _ (ybk _)).2]at hb
    cases hb
  have r1:=(hr.light (v:=p.1) ho hi hb hD1).mono hle
  have p1:nH C (μ.wait H.next (.cells (Tr.ofList l) (aA l) none,acs.length,i)) acs.length p.2 all olds R.n old (putA R.n tm o'.dst p.1) D1 S:=by
   intro j hj hSj;rw[hD1]at hj;simp only[ycq,beq_iff_eq]at hj;rcases hj with hj | rfl
   ·rcases hp j hj hSj with⟨u,wu,vu,pu⟩ | ⟨u,vu,pu⟩
    ·exact .inl ⟨u,wu,vu,(pu.keep hr.reg hr.dclosed hj ho hi).grow hgrow⟩
    ·exact .inr ⟨u,vu,(pu.keep hr.reg hr.dclosed hj ho hi).mono (hpd _)⟩
   ·refine .inr ⟨o',p.1,wX.fresh hr.reg hr.dclosed ho hb hi hf hlo hw ⟨H,l,by rw[hop,hl2],?_⟩⟩
    show(if H.next=H.next then _ else μ.pd H.next)=_
    rw[yab rfl]
  obtain⟨r2,p2⟩:=Rx _ _ _ hl h2 r1 p1
  exact⟨_,_,cs,w,.refl _ _,hle,Below.refl N w,hH',⟨(hR.mono hle).todo,by rw[yab hR.running];exact .reg r2 h3 p2 (hk.mono fun _ _ r=>r.mono hle)⟩,hcs.monoD fun d _=>hpd d⟩
theorem Zc{α β:Type}{f:α->Option β}(d:β):∀ {l:List α} {r:List β},aF f l=some r->(∀x∈l,f x=some ((f x).getD d))/\r=l.map fun x=>(f x).getD d
 | [],r,h=>by grind [Fp]
 | a::l,r,h=>by
  rw[fN,sA]at h;obtain⟨v,hv,h⟩:=h
  rw[sA]at h;obtain⟨m,hm,h⟩:=h
  cases h;obtain⟨h1,h2⟩:=Zc d hm
  grind
theorem WW(hS:cJ P C B N I)(hH:tB B N μ H w)(hcs:cF C μ acs cs)(hR:dG μ R (b.atR ⟨tmps,ds⟩ []))(hk:xD (sG μ) k k')
  (hr:jF μ all olds anc R.n old tm D S order tmps) (hst:oJ all.toList anc (st::stages) D=true) (hp:nH C μ acs.length H all olds R.n old tm D S) (hlt:all.size+all.size<st.heavy) :
  bD P C B N μ base (lone (b.atR ⟨tmps,ds⟩ (.inRegion all order::k')) (cs++base) w) w (Oy all old olds st stages C k tm R acs H):=by
 obtain⟨D1,D2,hG,h2,h3⟩:=VN hst hlt
 unfold Oy;generalize hx:(wB (aX C all) (ob (Jd all old olds tm st.again) fun es=>ob (Ar C es H) fun H'=>ob (zS C H' all R.n old olds st.lights tm) fun tm'=>some (⟨⟨.reg all old olds stages::k,tm',R⟩,acs,H'⟩:wR)))=x
 cases x with
 | none=>exact trivial
 | some x=>
  simp only[sA,vB]at hx;obtain⟨hlen,es,he,H1,hg,tm',hl,hx⟩:=hx
  cases hx;unfold Ar at hg;simp only[sA,vB,ybb]at hg;obtain⟨rs,hrs,⟨hap,hrd⟩,hg⟩:=hg
  obtain⟨e1,e2⟩:=Zc (qN.store 0 .nilptr .nilptr) he
  obtain⟨e3,e4⟩:=Zc (RE.st 0 0 []) hrs
  have hef:∀i∈st.again,rY all old olds tm i=some ((rY all old olds tm i).getD (qN.store 0 .nilptr .nilptr))/\iV C ((rY all old olds tm i).getD (qN.store 0 .nilptr .nilptr))=some ((iV C ((rY all old olds tm i).getD (qN.store 0 .nilptr .nilptr))).getD (RE.st 0 0 [])):=
   fun i hi=>⟨e1 i hi,e3 _ (by grind)⟩
  generalize hE:(fun i=>(rY all old olds tm i).getD (qN.store 0 .nilptr .nilptr))=ef at e2
  have hef:∀i∈st.again,rY all old olds tm i=some (ef i)/\iV C (ef i)=some ((fun i=>(iV C (ef i)).getD (RE.st 0 0 [])) i):=by
   grind
  have hrs':rs=st.again.map fun i=>(iV C (ef i)).getD (RE.st 0 0 []):=by rw[e4,e2,List.map_map];rfl
  generalize (fun i=>(iV C (ef i)).getD (RE.st 0 0 []))=re at hef hrs'
  subst hrs'
  have hap:=QQ hap
  have hrd:∀i∈st.again,Ol C H (re i):=by
   grind [vI,za3]
  have hd1:pN C H (st.again.map re) H1:=by
   have:=pN.list pN.nil (l:=st.again.map re) (fun e he=>by grind) (by grind) hg
   rwa [yah]at this
  obtain⟨S',order',tmps',μ',w',seq,Hs,s1,b1,l1,d1,pm,dn,hm,hH',r1,p1,hin⟩:=zf2 (b:=b) (k:=k') (cs:=cs++base) (ds:=ds) (H:=H) hS.tys hS.base hG hlen hef hap hrd order S tmps μ w [] H D List.nodup_nil (fun i hi=>by cases hi) pN.nil (fun i hi=>by cases hi) (fun k=>by simp) hH hr hp
  have hapS:(seq.map re).Pairwise fS:=((pm.map re).symm.pairwise_iff (fun h=>fS.symm h)).1 hap
  have heq:HEq' μ' Hs H1:=dn.perm hd1 (pm.map re) hapS fun e he=>by grind
  have hH1:=hH'.congr' heq
  have p2:nH C μ' acs.length H1 all olds R.n old tm D1 S':=by
   cases hG0:st.again with
   | nil=>
    rw[hG0]at pm hd1;have hs0:seq=[]:=List.Perm.eq_nil pm
    subst hs0;have hle:HM.HLe Hs H1:=fun a y hy=>by rw[hd1.no a (fun e he=>by cases he),<- dn.no a (fun e he=>by cases he)];exact hy
    intro j hj hSj;rcases p1 j hj hSj with⟨u,wu,vu,pu⟩ | h
    ·exact .inl ⟨u,wu,vu,pu.grow hle⟩
    grind
   | cons g l=>
    have hg:g∈st.again:=by grind
    have hSg:S' g=true:=hin g (pm.mem_iff.2 hg)
    obtain⟨o,ho,_⟩:=hG.op g hg
    refine HT hG hlen (seq:=st.again) hG.done (fun i hi=>hin i (pm.mem_iff.2 hi)) hg (fun k hk=>r1.reg.up r1.closed ho (fun j hj=>r1.closed g o ho hSg j hj) hk) p1 H1
  obtain⟨r2,p3⟩:=Rx _ _ _ hl h2 r1 p2
  exact⟨_,_,cs,w',s1,l1,b1,hH1,⟨((hR.mono l1).slots r1.size).todo,by rw[yab hR.running];exact .reg r2 h3 p3 (hk.mono fun _ _ r=>r.mono l1)⟩,hcs.monoD fun d hd=>d1 d (by omega)⟩
end
end
section
variable {l:Nat}{i:BI}{f:Operand}{params:Array Nat}{assign body c:Code}{v:zA}{h:wC}
section
variable {P:Program}{C:lA}{B N:Nat}{I:World->Prop}{μ ν:Mu}{H H':xA}{w:World}{tm:Tm}{R:jJ}{acs:List wC}{base cs:List Frame}
variable {b:Frame}{tmps:Array Value}{ds:List Deferred}{k:List qE}{k':List Item}{all:Array Oper}
theorem zg7(hH:tB B N μ H w)(hcs:cF C μ acs cs)(hR:dG μ R (b.atR ⟨tmps,ds⟩ []))(ht:dE μ R.n tm tmps)(hk:xD (sG μ) k k') :
  bD P C B N μ base (lone (b.atR ⟨tmps,ds⟩ (.beginRound::k')) (cs++base) w) w (Kl C k tm R acs H):=by
 unfold Kl
 cases hr:R.roundOf with
 | none=>exact trivial
 | some l=>
  obtain⟨i,hi,hb⟩:∃i,μ l=some i/\b.roundOf=some i.b:=by
   have:=hR.round
   rw[hr]at this;exact Xr this
  rw[qA]
  cases hx:fI H l with
  | none=>exact trivial
  | some r=>
   rw[qA]
   cases hst:Nat.beq (LoopState.tag r.state) 0 with
   | false=>exact trivial
   | true=>
    obtain⟨hl,r',hg,hw,rel⟩:=Mo hH hx hi
    have ready:r'.state=.ready:=by
     rw[rel.state]
     cases hs:r.state<;>rw[hs]at hst<;>first | rfl | grind [LoopState.tag,Nat.beq]
    have run:(Instr.beginRound i.b).run P w=.ok () (World.setBlk w i.b (.loop { r' with state:=.busy })):=by
     simp_all [Instr.beginRound,Lp,Hp]
    refine⟨μ,_,cs,_,.one (stepR_beginRound hb run),fun _ _ h=>h,jY (hH.own l i hl hi).1,?_,⟨?_,?_⟩,hcs⟩
    ·refine hH.upd hg hi hl ?_
     rw[dI];exact⟨_,rfl,rfl,rel.pending,rel.fn,rel.tm,rel.params,rel.assign,rel.body,rel.defers⟩
    ·refine⟨hR.fn,hR.size,hR.defers,hR.mode,hR.kind,?_⟩
     exact hR.round
    ·show if R.mode.running=true then oN C μ acs.length R.n _ k tm k' tmps else dE μ R.n tm tmps
     rw[yab hR.running];exact .plain hk ht
theorem TI {jump:Option Code}{w':World}{cs:List Frame}(hr:(Instr.endLoop l).run P w=.ok jump w') :
  step P (lone (b.atR ⟨tmps,ds⟩ (.endRangeFunc l::k')) cs w)=.next (lone (b.atR ⟨tmps,ds⟩ ((jump.map Item.code).toList++k')) cs w'):=
 step_lone_go (by simp_all [stepG,stepG.exec,Frame.atR])
theorem XS(hH:tB B N μ H w)(hcs:cF C μ acs cs)(hR:dG μ R (b.atR ⟨tmps,ds⟩ []))(ht:dE μ R.n tm tmps)(hk:xD (sG μ) k k')  (hi:μ l=some i) :
  bD P C B N μ base (lone (b.atR ⟨tmps,ds⟩ (.endRangeFunc i.b::k')) (cs++base) w) w (Ki l C k tm R acs H):=by
 unfold Ki
 cases hx:fI H l with
 | none=>exact trivial
 | some r=>
  rw[qA]
  cases hst:Nat.beq (LoopState.tag r.state) 1 with
  | true=>exact trivial
  | false=>
   obtain⟨hl,r',hg,hw,rel⟩:=Mo hH hx hi
   have busy:r'.state≠.busy:=by
    intro e;rw[rel.state]at e;rw[e]at hst
    cases hst
   have run:(Instr.endLoop i.b).run P w=.ok r'.pending (World.setBlk w i.b (.loop { r' with state:=.exhausted })):=by
    simp_all [Instr.endLoop,Lp,Hp]
   refine⟨μ,_,cs,_,.one (TI run),fun _ _ h=>h,jY (hH.own l i hl hi).1,?_,⟨?_,?_⟩,hcs⟩
   ·refine hH.upd hg hi hl ?_
    rw[dI];exact⟨_,rfl,rfl,rel.pending,rel.fn,rel.tm,rel.params,rel.assign,rel.body,rel.defers⟩
   ·exact⟨hR.fn,hR.size,hR.defers,hR.mode,hR.kind,hR.round⟩
   ·show if R.mode.running=true then oN C μ acs.length R.n _ (match r.pending with | some c=>.code c::k | none=>k) tm ((r'.pending.map Item.code).toList++k') tmps else dE μ R.n tm tmps
    rw[yab hR.running,rel.pending]
    cases r.pending with
    | none=>exact .plain hk ht
    | some c=>exact .plain (.cons (.code c) hk) ht
theorem EV    {mark:List Deferred}{w1:World}{g:Nat}{args':Array Value}{cs:List Frame}
  (hE:(Instr.enterLoop b.fn tmps params assign body b.roundOf).run P w=.ok (l,mark) w1)
  (hA:(do let d <- resolve (Act.eval ⟨tmps,ds⟩) { callee:=.value f,args := #[.const (.func (.yield l) #[] #[])],argTypes := #[] } 0;invoke d.target d.args:Sem Next).run P w1=.ok (.enter g args') w1) :
  step P (lone (b.atR ⟨tmps,ds⟩ (.code (.rangeFunc f params assign body)::k')) cs w)=.next (lone (Frame.enter P g args' .normal) (b.atR ⟨tmps,mark++ds⟩ (.inRangeFunc l::k')::cs) w1):=by
 refine step_lone_go ?_
 have he:(Frame.eval { b.atR ⟨tmps,ds⟩ (.code (.rangeFunc f params assign body)::k')with todo:=.inRangeFunc l::k',defers:=mark++ds })=Act.eval ⟨tmps,ds⟩:=funext fun x=>by cases x<;>rfl
 simp_all [Frame.atR,stepG,stepG.exec,stepG.apply]
theorem UU   (e:iZ C l v=some h):∃g first cap,v=.func (.func g) first cap/\C.prims.get g=none/\eJ C g (dD first (.func (.yld l) [] []::cap)) false=some h:=by
 grind [iZ,sA,QI]
def HC{dp:Nat}(hS:cJ P C B N I)    (e:iZ C l v=some h)(hi:μ l=some i) (hv:uA μ v (Act.eval ⟨tmps,ds⟩ f)){cur:Option xA} :
  ∃g args',(∀w,(do let d <- resolve (Act.eval ⟨tmps,ds⟩) { callee:=.value f,args := #[.const (.func (.yield i.b) #[] #[])],argTypes := #[] } 0;invoke d.target d.args:Sem Next).run P w=.ok (.enter g args') w) ∧
   kJ C μ dp cur h (Frame.enter P g args' .normal):=by
 obtain⟨g,first,cap,rfl,hp,he⟩:=UU e
 rw[uA]at hv;obtain⟨fn,a',c',hv,hf,h1,h2⟩:=hv
 cases hf;have hl:oB μ (dD first (.func (.yld l) [] []::cap)) (a' ++ #[Value.func (.yield i.b) #[] #[]]++c').toList:=by
  rw[kG];have:oB μ (zA.func (.yld l) [] []::cap) (Value.func (.yield i.b) #[] #[]::c'.toList):=.cons (by rw[uA];exact⟨_,_,_,rfl,⟨i,hi,rfl⟩,.nil,.nil⟩) h2
  simpa using h1.append this
 obtain⟨fr,fn,hfn,hb⟩:=Nr (cur:=cur) hS.fns he hl
 refine⟨g,_,fun w=>?_,fr⟩
 simp only[yad,resolve,hv,Deferred.ofValue,yae,yac,invoke];have:Array.map (Act.eval ⟨tmps,ds⟩) #[Operand.const (Value.func (.yield i.b) #[] #[])] = #[Value.func (.yield i.b) #[] #[]]:=by simp[Act.eval]
 rw[this];exact Qm hS.fns hfn hb
theorem zer(hS:cJ P C B N I)(hH:tB B N μ H w)(hcs:cF C μ acs cs)(hR:dG μ R (b.atR ⟨tmps,ds⟩ []))(ht:dE μ R.n tm tmps)(hk:xD (sG μ) k k')    :
  bD P C B N μ base (lone (b.atR ⟨tmps,ds⟩ (.code (.rangeFunc f params assign body)::k')) (cs++base) w) w (Kg f params assign body C k tm R acs H):=by
 unfold Kg
 cases hv:ev f (.now tm)with
 | none=>exact trivial
 | some v=>
  have hvr:=ht.erel (ds:=ds) hH.glob f _ hv
  rw[qA]
  cases hr:R.roundOf with
  | none=>
   have hb:b.roundOf=none:=by
    have:=hR.round
    rw[hr]at this;exact GQ this
   simp only[]
   cases hx:iZ C (H.next+1) v with
   | none=>exact trivial
   | some h=>
    have h1:=hH.newBlk (x:=.deferred (some [])) (o:=.deferred (some [])) (i:=⟨w.heap.size,true,0,0,false⟩) rfl rfl (by rw[dI];exact⟨_,rfl,.nil⟩)
    have le1:μ.le (μ.ext H.next ⟨w.heap.size,true,0,0,false⟩):=hH.ext_le
    have le2:(μ.ext H.next ⟨w.heap.size,true,0,0,false⟩).le ((μ.ext H.next ⟨w.heap.size,true,0,0,false⟩).ext (newBlk H (.deferred (some []))).next ⟨w.heap.size+1,true,0,0,false⟩):=h1.ext_le
    have sz:(w.alloc (.deferred (some []))).heap.size=w.heap.size+1:=Array.size_push ..
    have h2:=h1.newBlk (x:=.loop ⟨.ready,none,R.fn,R.n,tm,params.toList,assign,body,H.next⟩) (o:=.loop { state:=.ready,pending:=none,fn:=b.fn,tmps,params,assign,body,defers:=w.heap.size })
     (i:=⟨w.heap.size+1,true,0,0,false⟩) sz.symm rfl (by
      rw[dI];exact⟨_,rfl,rfl,rfl,hR.fn,(ht.mono le1.f).mono le2.f,rfl,rfl,rfl,⟨_,le2 _ _ Mu.ext_same,rfl⟩⟩)
    have le:=Mu.le_trans le1 le2
    have hi2:((μ.ext H.next ⟨w.heap.size,true,0,0,false⟩).ext (newBlk H (.deferred (some []))).next ⟨w.heap.size+1,true,0,0,false⟩) (H.next+1)=some ⟨w.heap.size+1,true,0,0,false⟩:=Mu.ext_same
    obtain⟨g,args',hA,hfr⟩:=HC (ds:=ds) hS hx hi2 (hvr.mono le.f _ _) (cur:=some (newBlk (newBlk H (.deferred (some []))) (.loop ⟨.ready,none,R.fn,R.n,tm,params.toList,assign,body,H.next⟩)))
    have run:(Instr.enterLoop b.fn tmps params assign body b.roundOf).run P w=.ok (w.heap.size+1,[{ target:=.collected w.heap.size,args := #[] }]) ((w.alloc (.deferred (some []))).alloc (.loop { state:=.ready,pending:=none,fn:=b.fn,tmps,params,assign,body,defers:=w.heap.size })):=by
     simp_all [Instr.enterLoop]
    refine⟨_,_,b.atR ⟨tmps,{ target:=.collected w.heap.size,args := #[] }::ds⟩ (.inRangeFunc (w.heap.size+1)::k')::cs,_,.one (EV run (hA _)),le,?_,h2,hfr,.cons ⟨?_,?_⟩ (hcs.mono le)⟩
    ·refine(kS hH.size _).trans (kS ?_ _)
     rw[sz];have:=hH.size;omega
    ·have:=hR.mono le.f
     exact⟨this.fn,this.size,.cons ⟨⟨_,le2 _ _ Mu.ext_same,rfl⟩⟩ this.defers,this.mode,this.kind,by have:=this.round;rw[hr]at this;exact this⟩
    ·show if R.mode.running=true then oN C _ acs.length R.n none (.inRange (H.next+1)::k) tm (.inRangeFunc (w.heap.size+1)::k') tmps else _
     rw[yab hR.running];exact .plain (.cons (.inRange _ ⟨w.heap.size+1,true,0,0,false⟩ hi2) (hk.mono fun _ _ r=>r.mono le.f)) (ht.mono le.f)
  | some outer=>
   obtain⟨io,hio,hb⟩:∃i,μ outer=some i/\b.roundOf=some i.b:=by
    have:=hR.round
    rw[hr]at this;exact Xr this
   simp only[]
   cases hlo:fI H outer with
   | none=>exact trivial
   | some o=>
    rw[qA]
    cases hx:iZ C H.next v with
    | none=>exact trivial
    | some h=>
     obtain⟨hl,r',hg,hw,rel⟩:=Mo hH hlo hio
     obtain⟨idf,hdf,hdf'⟩:=rel.defers
     have le:μ.le (μ.ext H.next ⟨w.heap.size,true,0,0,false⟩):=hH.ext_le
     have h2:=hH.newBlk (x:=.loop ⟨.ready,none,R.fn,R.n,tm,params.toList,assign,body,o.defers⟩) (o:=.loop { state:=.ready,pending:=none,fn:=b.fn,tmps,params,assign,body,defers:=r'.defers })
      (i:=⟨w.heap.size,true,0,0,false⟩) rfl rfl (by
       rw[dI];exact⟨_,rfl,rfl,rfl,hR.fn,ht.mono le,rfl,rfl,rfl,⟨idf,le _ _ hdf,hdf'⟩⟩)
     have hi2:(μ.ext H.next ⟨w.heap.size,true,0,0,false⟩) H.next=some ⟨w.heap.size,true,0,0,false⟩:=Mu.ext_same
     obtain⟨g,args',hA,hfr⟩:=HC (ds:=ds) hS hx hi2 (hvr.mono le.f _ _) (cur:=some (newBlk H (.loop ⟨.ready,none,R.fn,R.n,tm,params.toList,assign,body,o.defers⟩)))
     have run:(Instr.enterLoop b.fn tmps params assign body b.roundOf).run P w=.ok (w.heap.size,[]) (w.alloc (.loop { state:=.ready,pending:=none,fn:=b.fn,tmps,params,assign,body,defers:=r'.defers })):=by
      simp_all [Instr.enterLoop,Lp]
     refine⟨_,_,b.atR ⟨tmps,ds⟩ (.inRangeFunc w.heap.size::k')::cs,_,.one (EV run (hA _)),le,kS hH.size _,h2,hfr,.cons ⟨?_,?_⟩ (hcs.mono le)⟩
     ·have:=hR.mono le.f
      exact⟨this.fn,this.size,this.defers,this.mode,this.kind,this.round⟩
     ·show if R.mode.running=true then oN C _ acs.length R.n none (.inRange H.next::k) tm (.inRangeFunc w.heap.size::k') tmps else _
      rw[yab hR.running];exact .plain (.cons (.inRange _ ⟨w.heap.size,true,0,0,false⟩ hi2) (hk.mono fun _ _ r=>r.mono le.f)) (ht.mono le.f)
def TD  : step P (lone (b.atR ⟨tmps,ds⟩ (.code (.scope c)::k')) cs w)=.next (lone (b.atR ⟨tmps,ds⟩ (.code c::.inScope c::k')) cs w):=
 step_lone_go (by simp[stepG,stepG.exec,Frame.atR])
def TH  : step P (lone (b.atR ⟨tmps,ds⟩ (.inScope c::k')) cs w)=.next (lone (b.atR ⟨tmps,ds⟩ k') cs w):=
 step_lone_go (by simp[stepG,stepG.exec,Frame.atR])
def zny(hS:cJ P C B N I)(hI:I w)(hH:tB B N μ H w)(hcs:cF C μ acs cs)(hR:dG μ R (b.atR ⟨tmps,ds⟩ []))(ht:dE μ R.n tm tmps):∀(c:Code) {k:List qE} {k':List Item},xD (sG μ) k k' →
  bD P C B N μ base (lone (b.atR ⟨tmps,ds⟩ (.code c::k')) (cs++base) w) w ((zkb c).f C k tm R acs H):=by
 intro c;induction c with
 | skip=>intro k k' hk;exact Qx hH hcs hR ht hk stepR_skip
 | region id ops d=>
  intro k k' hk
  cases d with
  | true=>exact zni hS hH hcs hR ht hk
  | false=>
   refine bD.of_steps (.one stepR_region) (fun _ _ h=>h) (Below.refl N w) ?_
   have:=GP (base:=base) (all:=ops) hS ops.toList 0 tm.cut H w μ tmps (by simp) (yaw _) hI hH hcs hR ht.cut hk
   rw[ycr]at this;exact this
 | seq x y ihx _=>
  intro k k' hk;exact bD.of_steps (.one stepR_seq) (fun _ _ h=>h) (Below.refl N w) (ihx (.cons (.code y) hk))
 | cond c x y _ _=>intro k k' hk;exact znu hH hcs hR ht hk
 | block id c _=>intro k k' hk;exact zg6 hH hcs hR ht hk
 | loop c _=>intro k k' hk;exact zlz hH hcs hR ht hk
 | rangeFunc f ps a c _ _=>intro k k' hk;exact zer hS hH hcs hR ht hk
 | exit id=>intro k k' hk;exact znc hH hcs hR ht hk
 | scope c _=>intro k k' hk;exact fZ hH hcs hR ht (.cons (.code _) (.cons (.inScope _) hk)) (.one TD)
 | label l=>intro k k' hk;exact Qx hH hcs hR ht hk stepR_label
 | goto l=>intro k k' _;exact trivial
 | ret=>intro k k' _;exact ret_ok hH hcs hR ht
 | refuse s=>intro k k' _;exact trivial
theorem znd(hS:cJ P C B N I)(hI:I w)(hH:tB B N μ H w)(hcs:cF C μ acs cs)(hR:dG μ R (b.atR ⟨tmps,ds⟩ [])){todo:List qE}{btodo:List Item}(hb:oN C μ acs.length R.n (some H) todo tm btodo tmps) :
  bD P C B N μ base (lone (b.atR ⟨tmps,ds⟩ btodo) (cs++base) w) w (qS C todo tm R acs H):=by
 generalize hc:some H=cur at hb
 cases hb with
 | plain a t=>
  cases a with
  | nil=>exact BD hH hcs hR t
  | cons i hk=>
   cases i with
   | code c=>exact zny hS hI hH hcs hR t c hk
   | inBlock id=>exact Qx hH hcs hR t hk stepR_inBlock
   | inLoop c=>exact fZ hH hcs hR t (.cons (.code _) (.cons (.inLoop _) hk)) (.one stepR_inLoop)
   | inScope c=>exact Qx hH hcs hR t hk TH
   | ops all i hi=>exact GP hS _ i _ _ _ _ _ rfl hi hI hH hcs hR t hk
   | inRange l i hl=>exact trivial
   | endRange l i hl=>exact XS hH hcs hR t hk hl
   | beginRound=>exact zg7 hH hcs hR t hk
 | @reg _ all old _ olds stages _ order _ _ anc D S hr hst hp hk=>
  cases hc;show bD P C B N μ base _ w (dS all old olds stages C _ tm R acs H)
  unfold dS
  cases stages with
  | nil=>grind [zaz]
  | cons st stages=>
   by_cases hlt:st.heavy<=all.size
   ·obtain⟨_,_,D1,D2,h1,_⟩:=Rc hst hlt
    obtain⟨o,ho,_⟩:=Mf h1
    have:tD all.toList st.heavy=some o:=by grind [lG]
    simp only[this];grind [zfv]
   ·have:tD all.toList st.heavy=none:=by grind [lG]
    simp only[this];grind [nC,lD,WW,WY]
 | @mid _ all old _ olds lights again stages _ order _ _ anc D D2 S hr h1 h2 hw hk=>
  show bD P C B N μ base _ w (dS all old olds (⟨all.size,lights,again⟩::stages) C _ tm R acs H)
  unfold dS;have:tD all.toList all.size=none:=by rw[lG];simp
  simp only[this];grind [nC,lD,zbn]
 | wait _ _ _ _ _=>cases hc
end
end
section
variable {es:List Deferred}{dp f n:Nat}{fn:Func}{m:Machine}{fr:wC}
section
variable {P:Program}{C:lA}{B N:Nat}{I:World->Prop}{μ ν:Mu}{H H':xA}{w:World}{tm:Tm}{R:jJ}{acs:List wC}{base cs:List Frame}
variable {b:Frame}{tmps:Array Value}
theorem TA{block:Nat}{calls:List Deferred}{w':World}(hm:b.mode≠.run)(hd:b.defers={ target:=.collected block,args := #[] }::es)(hr:(Instr.takeDeferred block).run P w=.ok calls w') :
  step P (lone b cs w)=.next (lone { b with defers:=calls++es } cs w'):=by
 obtain⟨fn,tmps,todo,defers,mode,kind,round⟩:=b
 simp only at hm hd
 subst hd;refine step_lone_go ?_
 simp_all [stepG,unwind]
theorem TB {cap as:Array Value} (hm:b.mode≠.run)(hd:b.defers={ target:=.fn (.func f) cap,args:=as }::es)(hr:(callFunc f (as++cap)).run P w=.ok (.enter f (as++cap)) w) :
  step P (lone b cs w)=.next (lone (Frame.enter P f (as++cap) .deferred) ({ b with defers:=es }::cs) w):=by
 obtain⟨fn,tmps,todo,defers,mode,kind,round⟩:=b
 simp only at hm hd
 subst hd;refine step_lone_go ?_
 simp_all [stepG,unwind,callDeferred,invoke]
def Bl(c:Frame):Frame:=
 match c.mode with
 | .panicking ({ recovered:=true,.. }::older)=>
  match older.dropWhile (!·.goexit)with
  | []=>{ c with mode:=.returning }
  | rest=>{ c with mode:=.panicking rest }
 | _=>c
def SZ {v:Value}{c:Frame}(hm:b.mode=.returning)(hd:b.defers=[])(hk:b.kind=.deferred)(hf:P.funcs[b.fn]?=some fn)(hr:(results fn b.tmps).run P w=.ok v w) :
  step P (lone b (c::cs) w)=.next (lone (Bl c) cs w):=by
 refine step_lone_go ?_
 simp only[stepG,unwind,doReturn,hm,hd,hk,hf,Sem.runT_eq,hr,GStep.bare_after];rfl
def Qq(tmps:Array Value)(r:ResultVar):Sem Value:=
 match r with
 | .tmp t=>pure (tmps.getD t undef)
 | .cell a t=>do loadVar t (<- asAddr (tmps.getD a undef))
theorem UL(fn:Func)(tmps:Array Value):results fn tmps=(do let vs <- fn.results.mapM (Qq tmps);pure (if h:vs.size=1 then vs[0]else .tuple vs)):=rfl
theorem UG(hT:rF P C)(hH:tB B N μ H w) (ht:dE μ n tm tmps):∀(rs:List ResultVar) (l:List zA),aF (oR C H tm) rs=some l →
  ∃vs,(rs.mapM (Qq tmps)).run P w=.ok vs w/\oB μ l vs:=by
 intro rs;induction rs with
 | nil=>intro l h;rw[Fp]at h;cases h;exact⟨[],by simp_all,.nil⟩
 | cons r rs ih=>
  intro l h;rw[fN,sA]at h;obtain⟨a,ha,h⟩:=h
  rw[sA]at h;obtain⟨m,hm,h⟩:=h
  cases h;obtain⟨vs,h1,h2⟩:=ih m hm
  rw[List.mapM_cons]
  cases r with
  | tmp t=>
   refine⟨_,?_,.cons (ht.2 t a ha) h2⟩
   grind [Qq,Sem.run_bind,Sem.run_pure,Result.andThen_ok]
  | cell x t=>
   simp only[oR,sA,Gq]at ha;obtain⟨p,⟨av,hav,rfl⟩,ty,hty,c,hc,hl⟩:=ha
   have hv:=ht.2 x _ hav
   rw[uA]at hv;obtain⟨i,hi,hv⟩:=hv
   obtain⟨v',h3,h4⟩:=JP (P:=P) hH (hT.facts hty) hc hi hl
   refine⟨_,?_,.cons h4 h2⟩
   grind [asAddr,Qq,Sem.run_bind,Sem.run_pure,Result.andThen_ok]
theorem GR(hT:rF P C)(hH:tB B N μ H w) (ht:dE μ n tm tmps) {l:List zA}(h:jV C H tm fn.results.toList=some l) :
  ∃v,(results fn tmps).run P w=.ok v w/\uA μ (Eo l) v:=by
 obtain⟨vs,h1,h2⟩:=UG hT hH ht _ _ h
 refine⟨if h:vs.toArray.size=1 then vs.toArray[0]else .tuple vs.toArray,?_,?_⟩
 ·grind [UL,Array.mapM_eq_mapM_toList,Sem.run_bind,map_eq_pure_bind,Result.andThen_ok,Sem.run_pure]
 ·have hl:=h2.length
  cases l with
  | nil=>
   rw[oB]at h2;subst h2;rw[dif_neg (by simp)]
   show uA μ (.tup []) _
   rw[uA];exact⟨_,rfl,.nil⟩
  | cons a m=>
   cases m with
   | nil=>
    rw[oB]at h2;obtain⟨v,r,rfl,hv,hr⟩:=h2
    rw[oB]at hr;subst hr;rw[dif_pos (by simp)]
    exact hv
   | cons a2 m=>
    rw[dif_neg (by simp[hl])]
    show uA μ (.tup (a::a2::m)) _
    grind [uA]
def DefRel(μ:Mu):Option (List vH)->Option (List Deferred)->Prop
 | none,none=>True
 | some a,some b=>xD (Bs μ) a b
 | _,_=>False
def YD(hH:tB B N μ H w){l:Nat}{x:Option (List vH)}(h:gW H l=some x){i:BI}(h4:μ l=some i):B<=l/\∃x',H.t.get l=some (.deferred x)/\w.heap[i.b]?=some (.deferred x')/\DefRel μ x x':=by
 unfold gW at h;rw[vB,fE,sA]at h;obtain⟨h1,y,h2,h3⟩:=h
 have:y=.deferred x:=by cases y<;>simp[tA.asDeferred]at h3;rw[h3]
 subst this;obtain⟨o,h5,h6⟩:=hH.blk l _ i h2 h4
 rw[dI]at h6;obtain⟨r',rfl,h7⟩:=h6
 refine⟨Nat.le_of_not_lt fun hlt=>?_,r',h2,h5,?_⟩
 ·have:=(hH.low l _ i hlt h2 h4).2.2
  cases this
 cases x<;>cases r'<;>exact h7
def VU{μ:Mu}{m:sV}{m':FrameMode}(h:Oo μ m m')(hm:m.running=false):m'≠.run:=by
 rintro rfl
 cases m<;>first | exact h.elim | cases hm
theorem zaj(hS:cJ P C B N I)(hH:tB B N μ H w)(hcs:cF C μ acs cs) (hr:dG μ fr.R b)(hm:fr.R.mode.running=false)(ht:dE μ fr.R.n fr.tm b.tmps){d:vH}{l:List vH}(hd:fr.R.defers=d::l) :
  bD P C B N μ base (lone b (cs++base) w) w (En C d l fr acs H):=by
 have hrun:=VU hr.mode hm
 have hds:=hr.defers
 rw[hd]at hds;generalize hbd:b.defers=bd at hds
 cases hds with
 | @cons _ e _ es h1 h2=>
  obtain⟨dfn,dr,dargs⟩:=d
  have h1:=h1.rel
  unfold En
  cases dfn with
  | none=>
   obtain⟨i,hi,rfl⟩:=h1
   simp only[]
   cases hx:gW H dr with
   | none=>exact trivial
   | some x=>
    rw[qA]
    cases x with
    | none=>exact trivial
    | some calls=>
     obtain⟨hl,x',hg,hw,rel⟩:=YD hH hx hi
     cases x' with
     | none=>exact rel.elim
     | some calls'=>
      have run:(Instr.takeDeferred i.b).run P w=.ok calls' (World.setBlk w i.b (.deferred none)):=by
       simp_all [Hp,getObj,Sem.run,Instr.takeDeferred]
      refine⟨μ,_,cs,_,.one (TA hrun hbd run),fun _ _ h=>h,jY (hH.own dr i hl hi).1,?_,⟨?_,?_⟩,hcs⟩
      ·refine hH.upd hg hi hl ?_
       grind [dI]
      ·refine⟨hr.fn,hr.size,?_,hr.mode,hr.kind,hr.round⟩
       show xD (Bs μ) (dD calls l) (calls'++es)
       rw[kG];exact xD.append rel h2
      ·show if fr.R.mode.running=true then oN C _ _ _ _ _ _ _ _ else _
       rw[yaa (by grind)]
       exact ht
  | some fn=>
   cases fn with
   | yld m=>exact trivial
   | func f=>
    obtain⟨fn,cap,as,rfl,hfn,hl⟩:=h1
    cases hfn;simp only[]
    cases hp:C.prims.get f with
    | some x=>exact trivial
    | none=>
     simp only[]
     cases he:eJ C f dargs true with
     | none=>exact trivial
     | some g=>
      obtain⟨h3,fn,hfn,hb⟩:=Nr (cur:=some H) hS.fns he hl
      refine⟨μ,_,{ b with defers:=es }::cs,w,.one (TB hrun hbd (Qm hS.fns hfn hb)),fun _ _ h=>h,Below.refl N w,hH,h3,.cons ⟨⟨hr.fn,hr.size,h2,hr.mode,hr.kind,hr.round⟩,?_⟩ hcs⟩
      show if fr.R.mode.running=true then oN C _ _ _ _ _ _ _ _ else _
      rw[yaa (by grind)]
      exact ht
theorem kJ.still {cur cur':Option xA} (h:kJ C μ dp cur fr b)(hm:fr.R.mode.running=false):kJ C μ dp cur' fr b:=by
 refine⟨h.rest,?_⟩
 have:=h.body
 simp_all
theorem XX{l:List PanicEntry}{m:List Dy}(h:xD (Dv μ) m l):l.dropWhile (!·.goexit)=[]:=by
 induction h with
 | nil=>rfl
 | cons a _ ih=>simp[a.goexit,ih]
def zg8(c:wC)(rest:List wC)(H:xA):Option wR:=
 match c.R.mode with
 | .panicking (⟨_,true⟩::_)=>some (⟨lZ c .returning,rest,H⟩:wR)
 | _=>wB (!c.R.mode.running) (some ⟨c,rest,H⟩)
def HH(C:lA)(fr:wC)(ch:List Dy)(cs:List wC)(H:xA):lF:=
 pL (ob (C.fns.get fr.R.fn) fun _=>match cs with | c::rest=>some ⟨gV c ch,rest,H⟩ | []=>none) 19
theorem zn4 {c:wC}{c':Frame}(hc:kJ C μ dp none c c'){x:wR}{rest:List wC}(h:zg8 c rest H=some x):x.cs=rest/\x.H=H/\kJ C μ dp (some H) x.fr (Bl c'):=by
 have hm:=hc.rest.mode
 have stay:c'.mode=c'.mode->(Bl c'=c')->c.R.mode.running=false->x=⟨c,rest,H⟩->x.cs=rest/\x.H=H/\kJ C μ dp (some H) x.fr (Bl c'):=by
  intro _ h1 h2 h3;subst h3;rw[h1];exact⟨rfl,rfl,hc.still h2⟩
 obtain⟨ct,ctm,cR⟩:=c
 obtain⟨f,n,de,mode,dd,ro⟩:=cR
 unfold zg8 at h;simp only at h hm
 cases mode with
 | run=>cases h
 | returning=>
  cases hcm:c'.mode with
  | returning=>exact stay rfl (by unfold Bl;rw[hcm]) rfl (yci h).symm
  | _=>rw[hcm]at hm;exact hm.elim
 | panicking ch=>
  cases hcm:c'.mode with
  | run=>rw[hcm]at hm;exact hm.elim
  | returning=>rw[hcm]at hm;exact hm.elim
  | panicking ch'=>
   rw[hcm]at hm
   cases hm with
   | nil=>exact stay rfl (by unfold Bl;rw[hcm]) rfl (yci h).symm
   | @cons p e older older' hp hold=>
    obtain⟨pv,pr⟩:=p
    obtain⟨ev',er,eg⟩:=e
    obtain⟨q1,q2,q3⟩:=hp
    simp only at q1 q2 q3
    subst q2 q3
    cases er with
    | false=>exact stay rfl (by unfold Bl;rw[hcm]) rfl (yci h).symm
    | true=>
     cases yci h
     refine⟨rfl,rfl,?_⟩
     have:Bl c'={ c' with mode:=.returning }:=by
      grind [Bl,XX]
     rw[this];have hb:=hc.body
     exact⟨⟨hc.rest.fn,hc.rest.size,hc.rest.defers,trivial,hc.rest.kind,hc.rest.round⟩,hb⟩
theorem SM(hS:cJ P C B N I)(hH:tB B N μ H w)(hcs:cF C μ acs cs) (hr:dG μ fr.R b)(hm:b.mode=.returning)(hd:b.defers=[])(ht:dE μ fr.R.n fr.tm b.tmps) :
  bD P C B N μ base (lone b (cs++base) w) w (Em C fr acs H):=by
 unfold Em
 cases hx:ob (C.fns.get fr.R.fn) fun fn=>jV C H fr.tm fn.results.toList with
 | none=>exact trivial
 | some l=>
  rw[sA]at hx;obtain⟨fn,hfn,hres⟩:=hx
  obtain⟨v,h1,h2⟩:=GR hS.tys hH ht hres
  have hf:P.funcs[b.fn]?=some fn:=by rw[hr.fn];exact(hS.fns _ _ hfn).1
  have hk:=hr.kind
  simp only[]
  cases hcs with
  | nil=>
   simp only[rD]
   cases hdf:fr.R.deferred with
   | true=>exact trivial
   | false=>
    rw[hdf]at hk;rw[yaa (by simp)]
    split
    ·rename_i hroot
     exact⟨μ,b,w,v,.refl _ _,fun _ _ h=>h,Below.refl N w,hH,h2,by rw[hr.fn];simp_all,hm,hd,hk,fn,hf,h1⟩
    ·exact trivial
  | @cons c c' acs1 cs1 hc hcs1=>
   simp only[]
   cases hdf:fr.R.deferred with
   | true=>
    rw[hdf]at hk;simp only[cond_true];show bD P C B N μ base _ w (pL (zg8 c acs1 H) 18)
    generalize hx:zg8 c acs1 H=x
    cases x with
    | none=>exact trivial
    | some x=>
     obtain⟨h3,h4,h5⟩:=zn4 hc hx
     obtain⟨xf,xc,xh⟩:=x
     simp only at h3 h4 h5
     subst h3 h4
     exact⟨μ,_,cs1,w,.one (SZ hm hd hk hf h1),fun _ _ h=>h,Below.refl N w,hH,h5,hcs1⟩
   | false=>
    rw[hdf]at hk;simp only[cond_false]
    cases hfi:pH c (Eo l)with
    | none=>exact trivial
    | some g=>
     exact⟨μ,_,cs1,w,.one (step_leave_returned ⟨hm,hd,hk,fn,hf,h1⟩),fun _ _ h=>h,Below.refl N w,hH,Ga hc hfi h2,hcs1⟩
theorem zai(hS:cJ P C B N I)(hH:tB B N μ H w)(hcs:cF C μ acs cs) (hfr:kJ C μ acs.length (some H) fr b)(hm:fr.R.mode.running=false) :
  bD P C B N μ base (lone b (cs++base) w) w (Po C fr acs H):=by
 have ht:dE μ fr.R.n fr.tm b.tmps:=by
  have:=hfr.body
  simp_all
 have hr:=hfr.rest
 unfold Po
 cases hd:fr.R.defers with
 | cons d l=>grind [zaj]
 | nil=>
  have hbd:b.defers=[]:=by
   have:=hr.defers
   rw[hd]at this;generalize hbd:b.defers=bd at this
   cases this
   rfl
  have hmode:=hr.mode
  simp only[]
  cases hmo:fr.R.mode with
  | run=>rw[hmo]at hm;cases hm
  | returning=>
   rw[hmo]at hmode;have:b.mode=.returning:=by
    cases hb:b.mode with
    | returning=>rfl
    | _=>rw[hb]at hmode;exact hmode.elim
   exact SM hS hH hcs hr this hbd ht
  | panicking ch=>
   rw[hmo]at hmode
   cases hb:b.mode with
   | run=>rw[hb]at hmode;exact hmode.elim
   | returning=>rw[hb]at hmode;exact hmode.elim
   | panicking ch'=>
    rw[hb]at hmode;show bD P C B N μ base _ w (HH C fr ch acs H)
    unfold HH
    cases hfn:C.fns.get fr.R.fn with
    | none=>exact trivial
    | some fn=>
     rw[qA];have hf:P.funcs[b.fn]?=some fn:=by rw[hr.fn];exact(hS.fns _ _ hfn).1
     cases hcs with
     | nil=>exact trivial
     | @cons c c' acs1 cs1 hc hcs1=>
      exact⟨μ,_,cs1,w,.one (step_leave_panicked ⟨hb,hbd,fn,hf⟩),fun _ _ h=>h,Below.refl N w,hH,HG hc hmode,hcs1⟩
theorem zec(hS:cJ P C B N I)(hI:I w){s:wR}(hH:tB B N μ s.H w)(hcs:cF C μ s.cs cs)(hfr:kJ C μ s.cs.length (some s.H) s.fr b):bD P C B N μ base (lone b (cs++base) w) w (stepA C s):=by
 obtain⟨⟨todo,tm,R⟩,acs,H⟩:=s
 show bD P C B N μ base _ w (bif R.mode.running then qS C todo tm R acs H else Po C ⟨todo,tm,R⟩ acs H)
 cases hm:R.mode.running with
 | false=>grind [zai]
 | true=>
  have hb:=hfr.body
  have hr:=hfr.rest
  simp only at hb hr
  rw[yab hm]at hb;have hbm:b.mode=.run:=by
   have h:=hr.mode
   cases hmo:R.mode with
   | run=>
    rw[hmo]at h
    cases hb:b.mode with
    | run=>rfl
    | _=>rw[hb]at h;exact h.elim
   | _=>rw[hmo]at hm;cases hm
  have e:=zha hbm
  have:=znd (b:=b) (tmps:=b.tmps) (ds:=b.defers) (base:=base) hS hI hH hcs ⟨hr.fn,hr.size,hr.defers,by have:=hr.mode;rw[hbm]at this;exact this,hr.kind,hr.round⟩ hb
  simp_all
theorem EX(hS:cJ P C B N I)(hI:I w) {o:lF}(h:bD P C B N μ base m w o):bD P C B N μ base m w (aT C o):=by
 cases o with
 | fail n=>exact trivial
 | done v H=>exact h
 | next s=>
  obtain⟨μ',b,cs,w',h1,h2,h3,h4,h5,h6⟩:=h
  exact bD.of_steps h1 h2 h3 (zec hS (hS.inv _ _ h3 hI) h4 h6 h5)
def zk9(hS:cJ P C B N I)(hI:I w)  : ∀(n:Nat) {o:lF},bD P C B N μ base m w o->bD P C B N μ base m w (xT C n o):=by
 intro n;induction n with
 | zero=>intro o h;exact EX hS hI h
 | succ n ih=>intro o h;exact ih (ih h)
def YV(hS:cJ P C B N I)(hI:I w) (hroot:C.root=f){args:List zA}{args':Array Value}(hH:tB B N μ H w)(hl:oB μ args args'.toList){g:wC}(he:eJ C f args false=some g) {v:zA}{H':xA}
  (hrun:xT C n (.next ⟨g,[],H⟩)=.done v H') :
  Calls P f args' w fun e w'=>∃v' μ',e=.returned v'/\μ.lw μ'/\uA μ' v v'/\tB B N μ' H' w'/\Below N w w':=by
 intro base;have h0:bD P C B N μ base (lone (Frame.enter P f args' .normal) base w) w (.next ⟨g,[],H⟩):=
  ⟨μ,_,[],w,.refl _ _,fun _ _ h=>h,Below.refl N w,hH,(Nr (cur:=some H) hS.fns he hl).1,.nil⟩
 have h1:=zk9 hS hI n h0
 rw[hrun]at h1;obtain⟨μ',b,w',v',h2,h3,h4,h5,h6,h7,h8⟩:=h1
 exact⟨.returned v',w',b,⟨v',μ',rfl,h3,h6,h5,h4⟩,h2,by rw[h7,hroot],h8⟩
end
end
section
variable {α:Type}{v:zA}
structure wH where
 v:zA
 p:Bool
abbrev iB:=Option (wH × xA)
abbrev jE:=AFn->List zA->xA->iB
structure Kt where
 norm:Tm->xA->iB
 exit:Nat->Tm->xA->iB
 ret:Tm->xA->iB
structure PI where
 id:Nat
 pl:List Nat
 ll:List (Nat × Nat)
def PI.kept(p:PI):List Nat:=dD p.pl (List.rec (motive:=fun _=>List Nat) [] (fun a _ r=>a.1::r) p.ll)
inductive mC where
 | skip
 | region (id:Nat) (ops:Array Oper) (draw:Bool)
 | seq (a b:mC)
 | cond (c:Operand) (x y:mC)
 | block (id:Nat) (c:mC)
 | loop (p:PI) (c:mC)
 | exit (id:Nat)
 | ret
 | cut (p:PI) (c:mC)
 | range (i:Nat) (pl:List Nat) (f:Operand) (ps:Array Nat) (as:List (Nat × Array Oper)) (c:mC)
def asC (l:List (Nat × Array Oper)):Code:=List.rec (motive:=fun _=>Code) .skip (fun x r g=>match r with | []=>.region x.1 x.2 false | _::_=>.seq (.region x.1 x.2 false) g) l
def asA (c:mC)(l:List (Nat × Array Oper)):mC:=List.rec (motive:=fun _=>mC) c (fun x _ g=>.seq (.region x.1 x.2 false) g) l
def sE:mC->Code
 | .skip=>.skip
 | .region id ops d=>.region id ops d
 | .seq a b=>.seq (sE a) (sE b)
 | .cond c x y=>.cond c (sE x) (sE y)
 | .block id c=>.block id (sE c)
 | .loop _ c=>.loop (sE c)
 | .exit id=>.exit id
 | .ret=>.ret
 | .cut _ c=>sE c
 | .range _ _ f ps as c=>.rangeFunc f ps (asC as) (sE c)
def lim {α:Type}(f:Nat->Option α):Option α:=@dite _ (∃n r,f n=some r) (Classical.propDecidable _) (fun h=>f h.choose) (fun _=>none)
def Mono {α:Type}(f:Nat->Option α):Prop:=∀n r,f n=some r->f (n+1)=some r
def Mono.le {f:Nat->Option α}(h:Mono f){n m:Nat}{r:α}(hr:f n=some r)(hnm:n<=m):f m=some r:=by
 induction hnm with
 | refl=>exact hr
 | step _ ih=>exact h _ _ ih
def Rt {f:Nat->Option α}(h:Mono f){r:α}:lim f=some r ↔ ∃n,f n=some r:=by
 unfold lim;by_cases hx:∃n r,f n=some r
 ·rw[dif_pos hx]
  obtain⟨r0,h0⟩:=hx.choose_spec
  constructor
  ·grind
  ·rintro⟨n,hn⟩
   have a:=h.le h0 (Nat.le_max_left hx.choose n)
   have b:=h.le hn (Nat.le_max_right hx.choose n)
   simp_all
 simp_all
def zls:xE->zA->(zA->iB)->iB
 | .bool,v,K=>ob v.asBool fun b=>K (.bool b)
 | .int k,v,K=>ob v.asIntK fun p=>wB (zN p.1 k) (K (.int k p.2))
 | .string,v,K=>ob v.asStr fun l=>K (.str l)
 | .ptr _,v,K=>K v
 | .slice _,v,K=>K v
 | .arr _ _,v,K=>K v
 | .map _ _,v,K=>K v
 | .struct _,v,K=>K v
 | .func,v,K=>K v
 | .iface,v,K=>K v
 | .other,v,K=>K v
def fitD:xE->zA->Prop
 | .bool,v=>∃b,v=.bool b
 | .int k,v=>∃n,v=.int k n
 | .string,v=>∃l,v=.str l
 | _,_=>True
theorem VX{d:xE} {K:zA->iB}{x:wH × xA}:zls d v K=some x ↔ fitD d v/\K v=some x:=by
 cases d<;>simp only[zls,fitD,sA,vB,true_and]
 case bool=>
  grind [Dl]
 case int k=>
  constructor
  ·grind [zX,uM]
  ·rintro⟨⟨n,rfl⟩,h⟩;exact⟨(k,n),rfl,uM.2 rfl,h⟩
 grind [aW]
def qL(C:lA)(t:Nat)(v:zA)(K:zA->iB):iB:=
 match C.tys.get t with
 | some ty=>zls ty.desc v K
 | none=>K v
def Av (C:lA)(t:Nat)(v:zA):Prop:=
 match C.tys.get t with
 | some ty=>fitD ty.desc v
 | none=>True
theorem rP{C:lA}{t:Nat} {K:zA->iB}{x:wH × xA}:qL C t v K=some x ↔ Av C t v/\K v=some x:=by
 grind [qL,Av,VX]
def xG (φ:jE)(r:bJ)(H:xA)(k:zA->xA->iB):iB:=
 match r with
 | .val v H'=>k v H'
 | .enter f args=>ob (φ (.func f) args H) fun p=>bif p.1.p then some p else k p.1.v p.2
 | .round l args=>ob (φ (.yld l) args H) fun p=>wB (!p.1.p) (k p.1.v p.2)
 | .panic v=>some (⟨v,true⟩,H)
 | _=>none
def xM (C:lA)(φ:jE)(all:Array Oper)(n:Nat)(κ:Tm->xA->iB)(l:List Oper):Tm->xA->iB:=
 List.rec (motive:=fun _=>Tm->xA->iB) κ
  (fun o _ g tm H=>ob (kF o.guard all tm) fun w=>Bool.rec (motive:=fun _=>iB) (g (putA n tm o.dst pD) H)
   (xG φ ((kE o.op).f C (.now tm) H) H fun v H'=>qL C o.type v fun v=>g (putA n tm o.dst v) H') w) l
def aH(C:lA)(H:xA)(all:Array Oper)(n:Nat)(old:Tm)(olds:List (Nat × List Nat))(k:Tm->iB)(l:List Nat):Tm->iB:=
 List.rec (motive:=fun _=>Tm->iB) k
  (fun i _ g tm=>ob (tD all.toList i) fun o=>ob (kF o.guard all tm) fun w=>Bool.rec (motive:=fun _=>iB) (g (putA n tm o.dst pD))
   (ob ((qF o.op).f C (.mixed tm old (vF i olds) (jH o.op)) H) fun v=>qL C o.type v fun v=>g (putA n tm o.dst v)) w) l
def iM(C:lA)(H:xA)(all:Array Oper)(old:Tm)(olds:List (Nat × List Nat))(tm:Tm)(k:iB)(l:List Nat):iB:=
 List.rec (motive:=fun _=>iB) k
  (fun i _ g=>ob (tD all.toList i) fun o=>ob o.dst fun d=>ob (kF o.guard all tm) fun w=>Bool.rec (motive:=fun _=>iB) g
   (ob ((qF o.op).f C (.mixed tm old (vF i olds) (jH o.op)) H) fun v=>qL C o.type v fun v=>ob (tm.get d) fun u=>wB (same 10 v u) g) w) l
def xN (all:Array Oper)(h:Nat):Nat:=bif Nat.blt (aA all.toList) h then Nat.sub h (Nat.succ (aA all.toList))else h
def rV(C:lA)(all:Array Oper)(h:Nat)(o:Oper)(tm:Tm):Option Bool:=ob (kF o.guard all tm) fun w=>bif Nat.blt (aA all.toList) h then wB (w&&lL o.op&&tE (Ad C o.op)) (some w)else some w
def kU(all:Array Oper)(st:vG):Bool:=Nat.blt (aA all.toList+aA all.toList) st.heavy
def Ni(C:lA)(all:Array Oper)(n:Nat)(old:Tm)(olds:List (Nat × List Nat))(st:vG)(g:Tm->xA->iB)(tm:Tm)(H:xA):iB:=
 wB (aX C all) (ob (Jd all old olds tm st.again) fun es=>ob (Ar C es H) fun H'=>aH C H' all n old olds (fun tm=>g tm H') st.lights tm)
def xJ(C:lA)(φ:jE)(all:Array Oper)(n:Nat)(old:Tm)(olds:List (Nat × List Nat))(κ:Tm->xA->iB)(l:List vG):Tm->xA->iB:=
 List.rec (motive:=fun _=>Tm->xA->iB) κ
  (fun st _ g tm H=>Bool.rec (motive:=fun _=>iB) (ob (tD all.toList (xN all st.heavy)) fun o=>ob (rV C all st.heavy o tm) fun w=>
   (fun cont:zA->xA->iB=>Bool.rec (motive:=fun _=>iB) (cont pD H)
    (xG φ ((kE o.op).f C (.mixed tm old (vF (xN all st.heavy) olds) (jH o.op)) H) H fun v H'=>qL C o.type v fun v=>cont v H') w)
   (fun v H'=>iM C H' all old olds (putA n tm o.dst v) (aH C H' all n old olds (fun tm=>g tm H') st.lights (putA n tm o.dst v)) st.again)) (Ni C all n old olds st g tm H) (kU all st)) l
def Hv(C:lA)(φ:jE)(fn n:Nat)(κ:Tm->xA->iB)(id:Nat)(all:Array Oper)(draw:Bool):Tm->xA->iB:=
 Bool.rec (motive:=fun _=>Tm->xA->iB) (fun tm H=>xM C φ all n κ all.toList tm.cut H)
  (fun tm H=>ob (ob (C.plans.get fn) fun t=>t.get id) fun p=>wB (tU all p) (aH C H all n tm.cut p.olds (fun tm'=>xJ C φ all n tm.cut p.olds κ p.stages tm' H) p.first tm.cut)) draw
def It(tm:Tm)(live:List Nat):Tr zA:=
 List.rec (motive:=fun _=>Tr zA) .leaf (fun i _ t=>match tm.get i with | some v=>t.set i v | none=>t) live
def keep (live:List Nat)(tm:Tm):Tm:=⟨tm.k,It tm live,[]⟩
def isDef0:Option (List vH)->Bool
 | some []=>true
 | _=>false
def Bo(κ:Kt)(p:Option Code)(tm:Tm)(H:xA):iB:=
 match p with
 | none=>κ.norm tm H
 | some .ret=>κ.ret tm H
 | _=>none
def endLoop(H:xA)(l:Nat)(r:fM):xA:=setBlk H l (.loop ⟨.exhausted,r.pending,r.fn,r.n,r.tm,r.params,r.assign,r.body,r.defers⟩)
def lR(C:lA)(φ:jE)(fn n:Nat)(κ:Kt)(f:Operand)(ps:List Nat)(a b:Code)(tm:Tm)(H:xA):iB:=
 ob (ev f (.now tm)) fun v=>ob v.asFunc fun q=>match q.1 with
  | .yld _=>none
  | .func g=>wB (tE (C.prims.get g)) (ob (φ (.func g) (dD q.2.1 (.func (.yld (H.next+1)) [] []::q.2.2)) (newBlk (newBlk H (.deferred (some []))) (.loop ⟨.ready,none,fn,n,tm,ps,a,b,H.next⟩))) fun y=>
   wB (!y.1.p) (ob (fI y.2 (H.next+1)) fun r=>wB (!Nat.beq (LoopState.tag r.state) 1) (ob (Bo κ r.pending tm (endLoop y.2 (H.next+1) r)) fun z=>
    wB (!z.1.p) (ob (gW z.2 H.next) fun d=>wB (isDef0 d) (some (z.1,setBlk z.2 H.next (.deferred none)))))))
def nD (C:lA)(φ:jE)(fn n:Nat)(c:mC):Kt->Tm->xA->iB:=
 mC.rec (motive:=fun _=>Kt->Tm->xA->iB)
  (fun κ tm H=>κ.norm tm H)
  (fun id all draw κ=>Hv C φ fn n κ.norm id all draw)
  (fun _ _ ga gb κ=>ga ⟨gb κ,κ.exit,κ.ret⟩)
  (fun c _ _ gx gy κ tm H=>ob (ob (ev c (.now tm)) zA.asBool) fun b=>Bool.rec (motive:=fun _=>iB) (gy κ tm H) (gx κ tm H) b)
  (fun id _ g κ=>g ⟨κ.norm,fun i tm H=>Bool.rec (motive:=fun _=>iB) (κ.exit i tm H) (κ.norm tm H) (Nat.beq id i),κ.ret⟩)
  (fun live _ g κ tm H=>lim fun m=>Nat.rec (motive:=fun _=>Tm->xA->iB) (fun _ _=>none) (fun _ r tm H=>g ⟨r,κ.exit,κ.ret⟩ (keep live.kept tm) H) m tm H)
  (fun id κ tm H=>κ.exit id tm H)
  (fun κ tm H=>κ.ret tm H)
  (fun live _ g κ tm H=>g κ (keep live.kept tm) H)
  (fun _ _ f ps as c _ κ tm H=>lR C φ fn n κ f ps.toList (asC as) (sE c) tm H) c
end
section
variable {k:iB}{k':zA->xA->iB}{κ κ':Tm->xA->iB}{l:List Nat}{tm:Tm}{fn i:Nat}{st:vG}
def mJ {α β γ:Type}(k k':α->β->Option γ):Prop:=∀a b x,k a b=some x->k' a b=some x
def wO (φ φ':jE):Prop:=∀f a H x,φ f a H=some x->φ' f a H=some x
structure bO (κ κ':Kt):Prop where
 norm:mJ κ.norm κ'.norm
 exit:∀i,mJ (κ.exit i) (κ'.exit i)
 ret:mJ κ.ret κ'.ret
section
variable {C:lA}{φ φ':jE}{all:Array Oper}{n:Nat}{x:wH × xA}
def GV(hφ:wO φ φ'){r:bJ}{H:xA}{k:zA->xA->iB}(hk:mJ k k')(h:xG φ r H k=some x):xG φ' r H k'=some x:=by
 cases r<;>simp only[xG]at h ⊢<;>try (cases h;done)
 case val v H'=>exact hk _ _ _ h
 case enter f args=>
  rw[sA]at h ⊢
  obtain⟨p,h1,h2⟩:=h
  refine⟨p,hφ _ _ _ _ h1,?_⟩
  cases hp:p.1.p with
  | true=>rw[hp]at h2;exact h2
  | false=>rw[hp]at h2;exact hk _ _ _ h2
 case round l args=>
  rw[sA]at h ⊢
  obtain⟨p,h1,h2⟩:=h
  rw[vB]at h2;exact⟨p,hφ _ _ _ _ h1,vB.2 ⟨h2.1,hk _ _ _ h2.2⟩⟩
 case panic v=>exact h
def Yt{t:Nat}{k:zA->xA->iB}(hk:mJ k k'):mJ (fun v H=>qL C t v fun v=>k v H) (fun v H=>qL C t v fun v=>k' v H):=by
 intro v H x h;rw[rP]at h ⊢
 exact⟨h.1,hk _ _ _ h.2⟩
theorem Cp {o:Oper}{l:List Oper} {H:xA}:xM C φ all n κ (o::l) tm H=ob (kF o.guard all tm) fun w=>if w=true then
   (xG φ ((kE o.op).f C (.now tm) H) H fun v H'=>qL C o.type v fun v=>xM C φ all n κ l (putA n tm o.dst v) H')else xM C φ all n κ l (putA n tm o.dst pD) H:=by
 show(ob (kF o.guard all tm) fun w=>Bool.rec (motive:=fun _=>iB) _ _ w)=_
 congr 1;funext w;rw[dJ];rfl
def Mc(hφ:wO φ φ') (hκ:mJ κ κ'):∀(l:List Oper),mJ (xM C φ all n κ l) (xM C φ' all n κ' l):=by
 intro l;induction l with
 | nil=>exact hκ
 | cons o l ih=>
  intro tm H x h;rw[Cp,sA]at h ⊢
  obtain⟨w,h1,h2⟩:=h
  refine⟨w,h1,?_⟩
  split at h2
  ·rename_i e;rw[yab e];exact GV hφ (Yt (k:=fun v H'=>xM C φ all n κ l (putA n tm o.dst v) H') (k':=fun v H'=>xM C φ' all n κ' l (putA n tm o.dst v) H') fun v H' y hy=>ih _ _ _ hy) h2
  ·rename_i e;rw[yaa e];exact ih _ _ _ h2
variable {H:xA}{old:Tm}{olds:List (Nat × List Nat)}
theorem Rw{k:Tm->iB}    : aH C H all n old olds k (i::l) tm=ob (tD all.toList i) fun o=>ob (kF o.guard all tm) fun w=>if w=true then
   (ob ((qF o.op).f C (.mixed tm old (vF i olds) (jH o.op)) H) fun v=>qL C o.type v fun v=>aH C H all n old olds k l (putA n tm o.dst v))else aH C H all n old olds k l (putA n tm o.dst pD):=by
 show(ob (tD all.toList i) fun o=>ob (kF o.guard all tm) fun w=>Bool.rec (motive:=fun _=>iB) _ _ w)=_
 congr 1;funext o;congr 1;funext w;rw[dJ];rfl
theorem Rv{k k':Tm->iB}(hk:∀tm x,k tm=some x->k' tm=some x):∀(l:List Nat) tm x,aH C H all n old olds k l tm=some x->aH C H all n old olds k' l tm=some x:=by
 intro l;induction l with
 | nil=>exact hk
 | cons i l ih=>
  grind [Rw,sA,rP]
def CE     : iM C H all old olds tm k (i::l)=ob (tD all.toList i) fun o=>ob o.dst fun d=>ob (kF o.guard all tm) fun w=>if w=true then
   (ob ((qF o.op).f C (.mixed tm old (vF i olds) (jH o.op)) H) fun v=>qL C o.type v fun v=>ob (tm.get d) fun u=>wB (same 10 v u) (iM C H all old olds tm k l))else iM C H all old olds tm k l:=by
 show(ob (tD all.toList i) fun o=>ob o.dst fun d=>ob (kF o.guard all tm) fun w=>Bool.rec (motive:=fun _=>iB) _ _ w)=_
 congr 1;funext o;congr 1;funext d;congr 1;funext w;rw[dJ];rfl
theorem Oh   : ∀(l:List Nat),iM C H all old olds tm k l=some x->Dp C H all old olds tm l=true/\k=some x:=by
 intro l;induction l with
 | nil=>intro h;exact⟨rfl,h⟩
 | cons i l ih=>
  intro h;rw[CE,sA]at h;obtain⟨o,h1,h⟩:=h
  rw[sA]at h;grind [sA,Dp,rP,vB]
theorem CD {k':iB}(hk:k'=some x):∀(l:List Nat),iM C H all old olds tm k l=some x->iM C H all old olds tm k' l=some x:=by
 intro l;induction l with
 | nil=>intro _;exact hk
 | cons i l ih=>
  intro h;rw[CE,sA]at h ⊢
  obtain⟨o,h1,h⟩:=h
  refine⟨o,h1,?_⟩
  rw[sA]at h ⊢
  grind [sA,rP,vB]
theorem Hl  {l:List vG} (hg:kU all st=false):xJ C φ all n old olds κ (st::l) tm H=ob (tD all.toList (xN all st.heavy)) fun o=>ob (rV C all st.heavy o tm) fun w=>
   (fun cont:zA->xA->iB=>if w=true then(xG φ ((kE o.op).f C (.mixed tm old (vF (xN all st.heavy) olds) (jH o.op)) H) H fun v H'=>qL C o.type v fun v=>cont v H')else cont pD H)
   (fun v H'=>iM C H' all old olds (putA n tm o.dst v) (aH C H' all n old olds (fun tm=>xJ C φ all n old olds κ l tm H') st.lights (putA n tm o.dst v)) st.again):=by
 show Bool.rec (motive:=fun _=>iB) _ _ (kU all st)=_
 rw[hg];show(ob (tD all.toList (xN all st.heavy)) fun o=>ob (rV C all st.heavy o tm) fun w=>(fun cont:zA->xA->iB=>Bool.rec (motive:=fun _=>iB) _ _ w) _)=_
 congr 1;funext o;congr 1;funext w;cases w<;>rfl
theorem Lh  {l:List vG} (hg:kU all st=true):xJ C φ all n old olds κ (st::l) tm H=Ni C all n old olds st (xJ C φ all n old olds κ l) tm H:=by
 show Bool.rec (motive:=fun _=>iB) _ _ (kU all st)=_
 rw[hg];rfl
theorem Sp {g:Tm->xA->iB} {x:wH × xA}:Ni C all n old olds st g tm H=some x ↔ aX C all=true/\∃es H',Jd all old olds tm st.again=some es/\Ar C es H=some H'/\aH C H' all n old olds (fun tm=>g tm H') st.lights tm=some x:=by
 grind [Ni,sA,vB]
theorem Xf(hφ:wO φ φ') (hκ:mJ κ κ'):∀(l:List vG),mJ (xJ C φ all n old olds κ l) (xJ C φ' all n old olds κ' l):=by
 intro l;induction l with
 | nil=>exact hκ
 | cons st l ih=>
  intro tm H x h
  cases hg:kU all st with
  | true=>
   rw[Lh hg,Sp]at h ⊢
   obtain⟨h0,es,H',h1,h2,h3⟩:=h
   exact⟨h0,es,H',h1,h2,Rv (fun tm x hx=>ih _ _ _ hx) _ _ _ h3⟩
  | false=>
  rw[Hl hg,sA]at h ⊢
  obtain⟨o,h1,h⟩:=h
  refine⟨o,h1,?_⟩
  rw[sA]at h ⊢
  obtain⟨w,h2,h⟩:=h
  refine⟨w,h2,?_⟩
  have cont:∀v H' y,iM C H' all old olds (putA n tm o.dst v) (aH C H' all n old olds (fun tm=>xJ C φ all n old olds κ l tm H') st.lights (putA n tm o.dst v)) st.again=some y →
    iM C H' all old olds (putA n tm o.dst v) (aH C H' all n old olds (fun tm=>xJ C φ' all n old olds κ' l tm H') st.lights (putA n tm o.dst v)) st.again=some y:=by
   intro v H' y hy;exact CD (Rv (fun tm x hx=>ih _ _ _ hx) _ _ _ (Oh _ hy).2) _ hy
  simp only[]at h ⊢
  split at h
  ·rename_i e;rw[yab e];exact GV hφ (Yt cont) h
  grind
def GW(hφ:wO φ φ') (hκ:mJ κ κ'){id:Nat}{draw:Bool}:mJ (Hv C φ fn n κ id all draw) (Hv C φ' fn n κ' id all draw):=by
 intro tm H x h
 cases draw with
 | false=>exact Mc hφ hκ _ _ _ _ h
 | true=>
  have h:(ob (ob (C.plans.get fn) fun t=>t.get id) fun p=>wB (tU all p) (aH C H all n tm.cut p.olds (fun tm'=>xJ C φ all n tm.cut p.olds κ p.stages tm' H) p.first tm.cut))=some x:=h
  show(ob (ob (C.plans.get fn) fun t=>t.get id) fun p=>wB (tU all p) (aH C H all n tm.cut p.olds (fun tm'=>xJ C φ' all n tm.cut p.olds κ' p.stages tm' H) p.first tm.cut))=some x
  rw[sA]at h ⊢
  obtain⟨p,h1,h⟩:=h
  refine⟨p,h1,?_⟩
  rw[vB]at h ⊢
  exact⟨h.1,Rv (fun tm x hx=>Xf hφ hκ _ _ _ _ hx) _ _ _ h.2⟩
def QW{κ κ':Kt}(hκ:bO κ κ'){p:Option Code}:mJ (Bo κ p) (Bo κ' p):=by
 intro tm H x h;unfold Bo at h ⊢
 split at h
 ·exact hκ.norm _ _ _ h
 ·exact hκ.ret _ _ _ h
 ·cases h
def HF(hφ:wO φ φ'){κ κ':Kt}(hκ:bO κ κ') {f:Operand}{ps:List Nat}{a b:Code}:mJ (lR C φ fn n κ f ps a b) (lR C φ' fn n κ' f ps a b):=by
 intro tm H x h;unfold lR at h ⊢
 rw[sA]at h ⊢
 obtain⟨v,h1,h⟩:=h
 refine⟨v,h1,?_⟩
 rw[sA]at h ⊢
 obtain⟨q,h2,h⟩:=h
 refine⟨q,h2,?_⟩
 split at h
 ·cases h
 ·rw[vB,sA]at h ⊢
  obtain⟨h3,y,h4,h⟩:=h
  refine⟨h3,y,hφ _ _ _ _ h4,?_⟩
  rw[vB,sA]at h ⊢
  obtain⟨hy,r,h5,h⟩:=h
  refine⟨hy,r,h5,?_⟩
  rw[vB,sA]at h ⊢
  obtain⟨h6,z,h7,h⟩:=h
  exact⟨h6,z,QW hκ _ _ _ h7,h⟩
end
end
section
variable {α:Type}{m n:Nat}{g:Kt->Tm->xA->iB}{κ:Kt}{H:xA}{ks:Nat->zA->xA->iB}{k:zA->xA->iB}{κs:Nat->Tm->xA->iB}
theorem Ze {f:Nat->Option α}{r:α}(h:lim f=some r):∃n,f n=some r:=by
 unfold lim at h;by_cases hx:∃n r,f n=some r
 all_goals grind
structure aN {α β γ:Type} (ks:Nat->α->β->Option γ) (k:α->β->Option γ):Prop where
 up:∀n,mJ (ks n) (ks (n+1))
 ex:∀a b x,k a b=some x->∃n,ks n a b=some x
def Kw{β γ:Type}{ks:Nat->α->β->Option γ}(h:∀n,mJ (ks n) (ks (n+1))) (hnm:n<=m):mJ (ks n) (ks m):=by
 induction hnm with
 | refl=>exact fun _ _ _ h=>h
 | step _ ih=>exact fun a b x hx=>h _ _ _ _ (ih a b x hx)
structure wV (φs:Nat->jE) (φ:jE):Prop where
 up:∀n,wO (φs n) (φs (n+1))
 ex:∀f a H x,φ f a H=some x->∃n,φs n f a H=some x
def wV.le{φs:Nat->jE}{φ:jE}(h:wV φs φ) (hnm:n<=m):wO (φs n) (φs m):=by
 induction hnm with
 | refl=>exact fun _ _ _ _ h=>h
 | step _ ih=>exact fun f a H x hx=>h.up _ _ _ _ _ (ih f a H x hx)
structure Dq (κs:Nat->Kt) (κ:Kt):Prop where
 norm:aN (fun n=>(κs n).norm) κ.norm
 exit:∀i,aN (fun n=>(κs n).exit i) (κ.exit i)
 ret:aN (fun n=>(κs n).ret) κ.ret
section
variable {C:lA}{φ φ':jE}{φs:Nat->jE}{all:Array Oper}{N fn:Nat}
def zby{g':Kt->Tm->xA->iB}{κ':Kt}(hκ:bO κ κ')(hg:∀ κ κ',bO κ κ'->mJ (g κ) (g' κ'))(live:List Nat):∀m,mJ (Nat.rec (motive:=fun _=>Tm->xA->iB) (fun _ _=>none) (fun _ r tm H=>g ⟨r,κ.exit,κ.ret⟩ (keep live tm) H) m)
  (Nat.rec (motive:=fun _=>Tm->xA->iB) (fun _ _=>none) (fun _ r tm H=>g' ⟨r,κ'.exit,κ'.ret⟩ (keep live tm) H) m):=by
 intro m;induction m with
 | zero=>intro a b x h;cases h
 | succ m ih=>exact fun a b x h=>hg ⟨_,_,_⟩ ⟨_,_,_⟩ ⟨ih,hκ.exit,hκ.ret⟩ _ _ _ h
theorem bO.refl(κ:Kt):bO κ κ:=⟨fun _ _ _ h=>h,fun _ _ _ _ h=>h,fun _ _ _ h=>h⟩
def Zz  (hg:∀ κ κ',bO κ κ'->mJ (g κ) (g κ'))(live:List Nat):∀m,mJ (Nat.rec (motive:=fun _=>Tm->xA->iB) (fun _ _=>none) (fun _ r tm H=>g ⟨r,κ.exit,κ.ret⟩ (keep live tm) H) m)
  (Nat.rec (motive:=fun _=>Tm->xA->iB) (fun _ _=>none) (fun _ r tm H=>g ⟨r,κ.exit,κ.ret⟩ (keep live tm) H) (m+1)):=by
 intro m;induction m with
 | zero=>intro a b x h;cases h
 | succ m ih=>exact fun a b x h=>hg ⟨_,_,_⟩ ⟨_,_,_⟩ ⟨ih,(bO.refl κ).exit,(bO.refl κ).ret⟩ _ _ _ h
def Az(hφ:wO φ φ'):∀(c:mC) (κ κ':Kt),bO κ κ'->mJ (nD C φ fn N c κ) (nD C φ' fn N c κ'):=by
 have self:∀(ψ:jE),wO ψ ψ:=fun _ _ _ _ _ h=>h
 intro c;suffices h:∀ φ φ',wO φ φ'->∀(κ κ':Kt),bO κ κ'->mJ (nD C φ fn N c κ) (nD C φ' fn N c κ') from h φ φ' hφ
 induction c with
 | skip=>exact fun _ _ _ κ κ' hκ=>hκ.norm
 | region id ops d=>exact fun _ _ hφ κ κ' hκ=>GW hφ hκ.norm
 | seq a b iha ihb=>exact fun _ _ hφ κ κ' hκ=>iha _ _ hφ _ _ ⟨ihb _ _ hφ _ _ hκ,hκ.exit,hκ.ret⟩
 | cond c a b iha ihb=>
  intro φ φ' hφ κ κ' hκ tm H x h;have h:(ob (ob (ev c (.now tm)) zA.asBool) fun t=>Bool.rec (motive:=fun _=>iB) (nD C φ fn N b κ tm H) (nD C φ fn N a κ tm H) t)=some x:=h
  show(ob (ob (ev c (.now tm)) zA.asBool) fun t=>Bool.rec (motive:=fun _=>iB) (nD C φ' fn N b κ' tm H) (nD C φ' fn N a κ' tm H) t)=some x
  rw[sA]at h ⊢
  obtain⟨t,h1,h2⟩:=h
  refine⟨t,h1,?_⟩
  cases t with
  | true=>exact iha _ _ hφ _ _ hκ _ _ _ h2
  | false=>exact ihb _ _ hφ _ _ hκ _ _ _ h2
 | block id c ih=>
  intro φ φ' hφ κ κ' hκ;refine ih _ _ hφ _ _ ⟨hκ.norm,fun i tm H x h=>?_,hκ.ret⟩
  simp only[dJ]at h ⊢
  split at h
  ·rename_i e;rw[yab e];exact hκ.norm _ _ _ h
  ·rename_i e;rw[yaa e];exact hκ.exit _ _ _ _ h
 | loop live c ih=>
  intro φ φ' hφ κ κ' hκ tm H x h;obtain⟨m,hm⟩:=Ze h
  refine(Rt fun m y hy=>Zz (ih _ _ (self φ')) live.kept m _ _ _ hy).2 ⟨m,?_⟩
  exact zby hκ (ih _ _ hφ) live.kept m _ _ _ hm
 | exit id=>exact fun _ _ _ κ κ' hκ=>hκ.exit id
 | ret=>exact fun _ _ _ κ κ' hκ=>hκ.ret
 | cut live c ih=>exact fun _ _ hφ κ κ' hκ tm H x h=>ih _ _ hφ _ _ hκ _ _ _ h
 | range i pl f ps as c ih=>exact fun _ _ hφ κ κ' hκ tm H x h=>HF hφ hκ _ _ _ h
def GU(hφ:wV φs φ){r:bJ}   (hk:aN ks k){x:wH × xA}(h:xG φ r H k=some x):∃n,xG (φs n) r H (ks n)=some x:=by
 cases r<;>simp only[xG]at h ⊢<;>try (cases h;done)
 case val v H'=>exact hk.ex _ _ _ h
 case enter f args=>
  rw[sA]at h;obtain⟨p,h1,h2⟩:=h
  obtain⟨n,hn⟩:=hφ.ex _ _ _ _ h1
  cases hp:p.1.p with
  | true=>
   rw[hp]at h2;exact⟨n,by rw[sA];exact⟨p,hn,by rw[hp];exact h2⟩⟩
  | false=>
  rw[hp]at h2;obtain⟨m,hm⟩:=hk.ex _ _ _ h2
  exact⟨max n m,by rw[sA];exact⟨p,hφ.le (Nat.le_max_left n m) _ _ _ _ hn,by rw[hp];exact Kw hk.up (Nat.le_max_right n m) _ _ _ hm⟩⟩
 case round l args=>
  rw[sA]at h;obtain⟨p,h1,h2⟩:=h
  rw[vB]at h2;obtain⟨n,hn⟩:=hφ.ex _ _ _ _ h1
  obtain⟨m,hm⟩:=hk.ex _ _ _ h2.2
  exact⟨max n m,by rw[sA];exact⟨p,hφ.le (Nat.le_max_left n m) _ _ _ _ hn,vB.2 ⟨h2.1,Kw hk.up (Nat.le_max_right n m) _ _ _ hm⟩⟩⟩
 case panic v=>exact⟨0,h⟩
theorem IV{t:Nat}  (hk:aN ks k):aN (fun n v H=>qL C t v fun v=>ks n v H) (fun v H=>qL C t v fun v=>k v H):=by
 refine⟨fun n=>Yt (hk.up n),fun v H x h=>?_⟩
 rw[rP]at h;obtain⟨n,hn⟩:=hk.ex _ _ _ h.2
 exact⟨n,by grind [rP]⟩
theorem ID(hφ:wV φs φ) {κ:Tm->xA->iB}(hκ:aN κs κ):∀(l:List Oper),aN (fun n=>xM C (φs n) all N (κs n) l) (xM C φ all N κ l):=by
 intro l;refine⟨fun n=>Mc (hφ.up n) (hκ.up n) l,?_⟩
 induction l with
 | nil=>exact hκ.ex
 | cons o l ih=>
  intro tm H x h;rw[Cp,sA]at h;obtain⟨w,h1,h2⟩:=h
  split at h2
  ·rename_i e
   obtain⟨n,hn⟩:=GU hφ (IV (ks:=fun n v H'=>xM C (φs n) all N (κs n) l (putA N tm o.dst v) H') (k:=fun v H'=>xM C φ all N κ l (putA N tm o.dst v) H') ⟨fun n v H' y hy=>Mc (hφ.up n) (hκ.up n) l _ _ _ hy,fun v H' y hy=>ih _ _ _ hy⟩) h2
   grind [Cp,sA]
  grind [Cp,sA]
variable {old:Tm}{olds:List (Nat × List Nat)}
theorem Zf {ks:Nat->Tm->iB}{k:Tm->iB}(hk:∀tm x,k tm=some x->∃n,ks n tm=some x):∀(l:List Nat) tm x,aH C H all N old olds k l tm=some x->∃n,aH C H all N old olds (ks n) l tm=some x:=by
 intro l;induction l with
 | nil=>exact hk
 | cons i l ih=>
  intro tm x h;simp only[Rw]at h ⊢
  rw[sA]at h;obtain⟨o,h1,h⟩:=h
  rw[sA]at h;obtain⟨w,h3,h4⟩:=h
  split at h4
  ·rename_i e
   rw[sA]at h4;obtain⟨v,h5,h6⟩:=h4
   simp_all [rP]
  simp_all
theorem TN(hφ:wV φs φ) {κ:Tm->xA->iB}(hκ:aN κs κ):∀(l:List vG),aN (fun n=>xJ C (φs n) all N old olds (κs n) l) (xJ C φ all N old olds κ l):=by
 intro l;refine⟨fun n=>Xf (hφ.up n) (hκ.up n) l,?_⟩
 induction l with
 | nil=>exact hκ.ex
 | cons st l ih=>
  intro tm H x h
  cases hg:kU all st with
  | true=>
   rw[Lh hg,Sp]at h;obtain⟨h0,es,H',h1,h2,h3⟩:=h
   obtain⟨n,hn⟩:=Zf (fun tm x hx=>ih tm H' x hx) _ _ _ h3
   exact⟨n,by grind [Lh,Sp]⟩
  | false=>
  rw[Hl hg,sA]at h;obtain⟨o,h1,h⟩:=h
  rw[sA]at h;obtain⟨w,h2,h⟩:=h
  have cont:aN (fun n v H'=>iM C H' all old olds (putA N tm o.dst v) (aH C H' all N old olds (fun tm=>xJ C (φs n) all N old olds (κs n) l tm H') st.lights (putA N tm o.dst v)) st.again)
    (fun v H'=>iM C H' all old olds (putA N tm o.dst v) (aH C H' all N old olds (fun tm=>xJ C φ all N old olds κ l tm H') st.lights (putA N tm o.dst v)) st.again):=by
   refine⟨fun n v H' y hy=>CD (Rv (fun tm x hx=>Xf (hφ.up n) (hκ.up n) l _ _ _ hx) _ _ _ (Oh _ hy).2) _ hy,fun v H' y hy=>?_⟩
   obtain⟨n,hn⟩:=Zf (fun tm x hx=>ih tm H' x hx) _ _ _ (Oh _ hy).2
   exact⟨n,CD hn _ hy⟩
  simp only[]at h;split at h
  ·rename_i e
   obtain⟨n,hn⟩:=GU hφ (IV cont) h
   grind [Hl,qA]
  ·rename_i e
   obtain⟨n,hn⟩:=cont.ex _ _ _ h
   exact⟨n,by grind [Hl,qA]⟩
theorem UQ(hφ:wV φs φ) {κ:Tm->xA->iB}(hκ:aN κs κ){id:Nat}{draw:Bool}:aN (fun n=>Hv C (φs n) fn N (κs n) id all draw) (Hv C φ fn N κ id all draw):=by
 refine⟨fun n=>GW (hφ.up n) (hκ.up n),fun tm H x h=>?_⟩
 cases draw with
 | false=>exact(ID hφ hκ _).ex _ _ _ h
 | true=>
  have h:(ob (ob (C.plans.get fn) fun t=>t.get id) fun p=>wB (tU all p) (aH C H all N tm.cut p.olds (fun tm'=>xJ C φ all N tm.cut p.olds κ p.stages tm' H) p.first tm.cut))=some x:=h
  rw[sA]at h;obtain⟨p,h1,h⟩:=h
  rw[vB]at h;obtain⟨n,hn⟩:=Zf (fun tm' x hx=>(TN hφ hκ p.stages).ex tm' H x hx) _ _ _ h.2
  refine⟨n,?_⟩
  show(ob (ob (C.plans.get fn) fun t=>t.get id) fun p=>wB (tU all p) (aH C H all N tm.cut p.olds (fun tm'=>xJ C (φs n) all N tm.cut p.olds (κs n) p.stages tm' H) p.first tm.cut))=some x
  grind [qA,vB]
theorem HE(hφ:wV φs φ){κs:Nat->Kt} (hκ:Dq κs κ){f:Operand}{ps:List Nat}{a b:Code}:aN (fun n=>lR C (φs n) fn N (κs n) f ps a b) (lR C φ fn N κ f ps a b):=by
 have kle:∀n,bO (κs n) (κs (n+1)):=fun n=>⟨hκ.norm.up n,fun i=>(hκ.exit i).up n,hκ.ret.up n⟩
 have klm:∀n m,n<=m->bO (κs n) (κs m):=fun n m h=>⟨Kw hκ.norm.up h,fun i=>Kw (hκ.exit i).up h,Kw hκ.ret.up h⟩
 refine⟨fun n=>HF (hφ.up n) (kle n),fun tm H x h=>?_⟩
 unfold lR at h;rw[sA]at h;obtain⟨v,h1,h⟩:=h
 rw[sA]at h;obtain⟨q,h2,h⟩:=h
 split at h
 ·cases h
 ·rename_i g hg
  rw[vB,sA]at h;obtain⟨h3,y,h4,h⟩:=h
  rw[vB,sA]at h;obtain⟨hy,r,h5,h⟩:=h
  rw[vB,sA]at h;obtain⟨h6,z,h7,h⟩:=h
  obtain⟨n,hn⟩:=hφ.ex _ _ _ _ h4
  have:∃m,Bo (κs m) r.pending (tm) (endLoop y.2 (H.next+1) r)=some z:=by
   unfold Bo at h7 ⊢
   split at h7
   ·exact hκ.norm.ex _ _ _ h7
   ·exact hκ.ret.ex _ _ _ h7
   grind
  obtain⟨m,hm⟩:=this
  refine⟨max n m,?_⟩
  show lR C (φs (max n m)) fn N (κs (max n m)) f ps a b tm H=some x
  unfold lR;rw[h1,qA,h2,qA,hg];simp only[];rw[vB,sA];refine⟨h3,y,hφ.le (Nat.le_max_left n m) _ _ _ _ hn,?_⟩
  rw[vB];refine⟨hy,?_⟩
  rw[h5,qA,vB,sA];exact⟨h6,z,QW (klm _ _ (Nat.le_max_right n m)) _ _ _ hm,h⟩
theorem Ny(hφ:wV φs φ):∀(c:mC) (κs:Nat->Kt) (κ:Kt),Dq κs κ->aN (fun n=>nD C (φs n) fn N c (κs n)) (nD C φ fn N c κ):=by
 have kle:∀ {κs:Nat->Kt} {κ:Kt},Dq κs κ->∀n,bO (κs n) (κs (n+1)):=fun h n=>⟨h.norm.up n,fun i=>(h.exit i).up n,h.ret.up n⟩
 intro c;induction c with
 | skip=>exact fun κs κ hκ=>hκ.norm
 | region id ops d=>exact fun κs κ hκ=>UQ hφ hκ.norm
 | seq a b iha ihb=>exact fun κs κ hκ=>iha (fun n=>⟨nD C (φs n) fn N b (κs n),(κs n).exit,(κs n).ret⟩) _ ⟨ihb _ _ hκ,hκ.exit,hκ.ret⟩
 | cond c a b iha ihb=>
  intro κs κ hκ;refine⟨fun n=>Az (hφ.up n) (.cond c a b) _ _ (kle hκ n),fun tm H x h=>?_⟩
  have h:(ob (ob (ev c (.now tm)) zA.asBool) fun t=>Bool.rec (motive:=fun _=>iB) (nD C φ fn N b κ tm H) (nD C φ fn N a κ tm H) t)=some x:=h
  rw[sA]at h;obtain⟨t,h1,h2⟩:=h
  have key:∀n,(Bool.rec (motive:=fun _=>iB) (nD C (φs n) fn N b (κs n) tm H) (nD C (φs n) fn N a (κs n) tm H) t:iB)=some x->nD C (φs n) fn N (.cond c a b) (κs n) tm H=some x:=by
   simp_all [nD]
  cases t with
  | true=>obtain⟨n,hn⟩:=(iha _ _ hκ).ex _ _ _ h2;grind
  | false=>obtain⟨n,hn⟩:=(ihb _ _ hκ).ex _ _ _ h2;grind
 | block id c ih=>
  intro κs κ hκ;refine ih (fun n=>⟨(κs n).norm,fun i tm H=>Bool.rec (motive:=fun _=>iB) ((κs n).exit i tm H) ((κs n).norm tm H) (Nat.beq id i),(κs n).ret⟩) _ ⟨hκ.norm,fun i=>⟨fun n tm H x h=>?_,fun tm H x h=>?_⟩,hκ.ret⟩
  ·simp only[dJ]at h ⊢
   split at h
   ·rename_i e;rw[yab e];exact hκ.norm.up n _ _ _ h
   ·rename_i e;rw[yaa e];exact(hκ.exit i).up n _ _ _ h
  ·simp only[dJ]at h ⊢
   split at h
   ·rename_i e;obtain⟨n,hn⟩:=hκ.norm.ex _ _ _ h;grind
   ·rename_i e;obtain⟨n,hn⟩:=(hκ.exit i).ex _ _ _ h;grind
 | loop live c ih=>
  intro κs κ hκ;refine⟨fun n=>Az (hφ.up n) (.loop live c) _ _ (kle hκ n),fun tm H x h=>?_⟩
  obtain⟨m,hm⟩:=Ze h
  have it:∀m,aN (fun n=>(Nat.rec (motive:=fun _=>Tm->xA->iB) (fun _ _=>none) (fun _ r tm H=>nD C (φs n) fn N c ⟨r,(κs n).exit,(κs n).ret⟩ (keep live.kept tm) H) m:Tm->xA->iB))
    (Nat.rec (motive:=fun _=>Tm->xA->iB) (fun _ _=>none) (fun _ r tm H=>nD C φ fn N c ⟨r,κ.exit,κ.ret⟩ (keep live.kept tm) H) m):=by
   intro m;induction m with
   | zero=>exact⟨fun _ _ _ _ h=>h,fun _ _ _ h=>by cases h⟩
   | succ m ihm=>
    have:=ih _ _ (⟨ihm,hκ.exit,hκ.ret⟩:Dq (fun n=>⟨(Nat.rec (motive:=fun _=>Tm->xA->iB) (fun _ _=>none) (fun _ r tm H=>nD C (φs n) fn N c ⟨r,(κs n).exit,(κs n).ret⟩ (keep live.kept tm) H) m:Tm->xA->iB),(κs n).exit,(κs n).ret⟩) ⟨(Nat.rec (motive:=fun _=>Tm->xA->iB) (fun _ _=>none) (fun _ r tm H=>nD C φ fn N c ⟨r,κ.exit,κ.ret⟩ (keep live.kept tm) H) m:Tm->xA->iB),κ.exit,κ.ret⟩)
    exact⟨fun n tm H x h=>this.up n _ _ _ h,fun tm H x h=>this.ex _ _ _ h⟩
  obtain⟨n,hn⟩:=(it m).ex _ _ _ hm
  exact⟨n,(Rt fun m y hy=>Zz (fun κ κ' h=>Az (fun _ _ _ _ h=>h) c κ κ' h) live.kept m _ _ _ hy).2 ⟨m,hn⟩⟩
 | exit id=>exact fun κs κ hκ=>hκ.exit id
 | ret=>exact fun κs κ hκ=>hκ.ret
 | cut live c ih=>exact fun κs κ hκ=>⟨fun n tm H x h=>(ih _ _ hκ).up n _ _ _ h,fun tm H x h=>(ih _ _ hκ).ex _ _ _ h⟩
 | range i pl f ps as c ih=>exact fun κs κ hκ=>⟨fun n tm H x h=>(HE hφ hκ).up n _ _ _ h,fun tm H x h=>(HE hφ hκ).ex _ _ _ h⟩
theorem zgk{live:PI}{c:mC} {tm:Tm}  : nD C φ fn N (.loop live c) κ tm H=nD C φ fn N c ⟨nD C φ fn N (.loop live c) κ,κ.exit,κ.ret⟩ (keep live.kept tm) H:=by
 have self:wO φ φ:=fun _ _ _ _ h=>h
 have up:∀m,mJ (Nat.rec (motive:=fun _=>Tm->xA->iB) (fun _ _=>none) (fun _ r tm H=>nD C φ fn N c ⟨r,κ.exit,κ.ret⟩ (keep live.kept tm) H) m)
   (Nat.rec (motive:=fun _=>Tm->xA->iB) (fun _ _=>none) (fun _ r tm H=>nD C φ fn N c ⟨r,κ.exit,κ.ret⟩ (keep live.kept tm) H) (m+1)):=Zz (Az self c) live.kept
 have some_iff:∀tm H x,nD C φ fn N (.loop live c) κ tm H=some x ↔ ∃m,(Nat.rec (motive:=fun _=>Tm->xA->iB) (fun _ _=>none) (fun _ r tm H=>nD C φ fn N c ⟨r,κ.exit,κ.ret⟩ (keep live.kept tm) H) m:Tm->xA->iB) tm H=some x:=
  fun tm H x=>Rt fun m y hy=>up m _ _ _ hy
 have sup:Dq (fun m=>⟨(Nat.rec (motive:=fun _=>Tm->xA->iB) (fun _ _=>none) (fun _ r tm H=>nD C φ fn N c ⟨r,κ.exit,κ.ret⟩ (keep live.kept tm) H) m:Tm->xA->iB),κ.exit,κ.ret⟩) ⟨nD C φ fn N (.loop live c) κ,κ.exit,κ.ret⟩:=
  ⟨⟨up,fun tm H x h=>(some_iff tm H x).1 h⟩,fun i=>⟨fun _ _ _ _ h=>h,fun _ _ _ h=>⟨0,h⟩⟩,⟨fun _ _ _ _ h=>h,fun _ _ _ h=>⟨0,h⟩⟩⟩
 have key:∀x,nD C φ fn N (.loop live c) κ tm H=some x ↔ nD C φ fn N c ⟨nD C φ fn N (.loop live c) κ,κ.exit,κ.ret⟩ (keep live.kept tm) H=some x:=by
  intro x;rw[some_iff];constructor
  ·rintro⟨m,hm⟩
   cases m with
   | zero=>cases hm
   | succ m=>exact Az self c ⟨(Nat.rec (motive:=fun _=>Tm->xA->iB) (fun _ _=>none) (fun _ r tm H=>nD C φ fn N c ⟨r,κ.exit,κ.ret⟩ (keep live.kept tm) H) m:Tm->xA->iB),κ.exit,κ.ret⟩ ⟨nD C φ fn N (.loop live c) κ,κ.exit,κ.ret⟩ ⟨fun tm H y hy=>(some_iff tm H y).2 ⟨m,hy⟩,fun _ _ _ _ h=>h,fun _ _ _ h=>h⟩ _ _ _ hm
  ·intro h
   obtain⟨m,hm⟩:=(Ny (φs:=fun _=>φ) ⟨fun _=>self,fun _ _ _ _ h=>⟨0,h⟩⟩ c _ _ sup).ex _ _ _ h
   exact⟨m+1,hm⟩
 cases h:nD C φ fn N (.loop live c) κ tm H with
 | some x=>grind
 | none=>
  cases h2:nD C φ fn N c ⟨nD C φ fn N (.loop live c) κ,κ.exit,κ.ret⟩ (keep live.kept tm) H with
  | none=>rfl
  | some x=>simp_all
end
end
section
def Se:List qE->Bool
 | .reg .. :: _=>true
 | _=>false
section
variable {P:Program}{C:lA}{B N:Nat}{I:World->Prop}{μ:Mu}{w:World}{base:List Frame}{m:Machine}
theorem Xe(hF:Dx P C){f:Nat}{args:List zA}{args':Array Value}{H:xA}(hH:tB B N μ H w)(hl:oB μ args args'.toList){g:wC}(he:eJ C f args false=some g) :
  bD P C B N μ base (lone (Frame.enter P f args' .normal) base w) w (.next ⟨g,[],H⟩):=
 ⟨μ,_,[],w,.refl _ _,fun _ _ h=>h,Below.refl N w,hH,(Nr (cur:=some H) hF he hl).1,.nil⟩
end
end
section
variable {c fr:wC}{old tm tm':Tm}{t1 t2 todo:List qE}{H:xA}{o o':lF}{v:zA}{r:bJ}{κn:Tm->xA->iB}{olds:List (Nat × List Nat)}{live:List Nat}{i:Nat}
inductive vK (C:lA):lF->lF->Prop
 | refl (o:lF):vK C o o
 | step {o o':lF}:vK C (aT C o) o'->vK C o o'
 | forget {todo:List qE} {tm tm':Tm} {R:jJ} {cs:List wC} {H:xA} {o':lF}:Se todo=false->(∀i v,tm'.get i=some v->tm.get i=some v)->vK C (.next ⟨⟨todo,tm',R⟩,cs,H⟩) o'->vK C (.next ⟨⟨todo,tm,R⟩,cs,H⟩) o'
def vK.trans{C:lA}{a b c:lF}(h:vK C a b)(k:vK C b c):vK C a c:=by
 induction h with
 | refl=>exact k
 | step _ ih=>exact .step (ih k)
 | forget h1 h2 _ ih=>exact .forget h1 h2 (ih k)
section
variable {P:Program}{C:lA}{B N:Nat}{I:World->Prop}{μ:Mu}{w:World}{base:List Frame}{m:Machine}
def dE.forget{n:Nat} {tmps:Array Value}(h:dE μ n tm tmps)(hs:∀i v,tm'.get i=some v->tm.get i=some v):dE μ n tm' tmps:=⟨h.1,fun i v hv=>h.2 i v (hs i v hv)⟩
theorem zb8  {R:jJ}{acs:List wC} (hr:Se todo=false)(hs:∀i v,tm'.get i=some v->tm.get i=some v)(h:bD P C B N μ base m w (.next ⟨⟨todo,tm,R⟩,acs,H⟩)) :
  bD P C B N μ base m w (.next ⟨⟨todo,tm',R⟩,acs,H⟩):=by
 obtain⟨μ',b,cs,w',h1,h2,h3,h4,h5,h6⟩:=h
 obtain⟨bfn,btmps,btodo,bdefers,bmode,bkind,bround⟩:=b
 refine⟨μ',_,cs,w',h1,h2,h3,h4,⟨h5.rest,?_⟩,h6⟩
 have hb:=h5.body
 simp only at hb ⊢
 split at hb
 ·rename_i hm
  rw[yab hm]
  cases hb with
  | plain a t=>exact .plain a (t.forget hs)
  | reg _ _ _ _=>cases hr
  | mid _ _ _ _ _=>cases hr
 ·rename_i hm
  rw[yaa hm];exact hb.forget hs
theorem bD.reach(hS:cJ P C B N I)(hI:I w) (h:vK C o o'):bD P C B N μ base m w o->bD P C B N μ base m w o':=by
 induction h with
 | refl=>exact id
 | step _ ih=>grind [EX]
 | forget hr hs _ ih=>grind [zb8]
end
def Gu(C:lA)(f:Nat)(ds:List vH)(fr:wC)(H:xA)(v:zA)(fl:Bool:=false):Prop:=
 fr.R.mode=.returning/\fr.R.defers=ds/\fr.R.deferred=fl/\fr.R.fn=f/\∃fn l,C.fns.get f=some fn/\jV C H fr.tm fn.results.toList=some l/\v=Eo l
def Xs(r:fM)(l:Nat)(tm:Tm):wC:=⟨[.code r.assign,.beginRound,.code r.body],tm,⟨r.fn,r.n,[],.run,false,some l⟩⟩
def zj4(f:Nat)(ds:List vH)(fr:wC)(v:zA)(fl:Bool:=false):Prop:=fr.R.mode=.panicking [⟨v,false⟩]/\fr.R.defers=ds/\fr.R.deferred=fl/\fr.R.fn=f
def iP(C:lA)(f:Nat)(ds:List vH)(fr:wC)(H:xA)(o:wH)(fl:Bool:=false):Prop:=if o.p=true then zj4 f ds fr o.v fl/\∃fn,C.fns.get f=some fn else Gu C f ds fr H o.v fl
structure aQ (C:lA) (φ:jE):Prop where
 fn:∀f args H x,φ (.func f) args H=some x->∃g,eJ C f args false=some g/\∀acs,∃fr',vK C (.next ⟨g,acs,H⟩) (.next ⟨fr',acs,x.2⟩)/\iP C f [] fr' x.2 x.1
 rd:∀l args H x,φ (.yld l) args H=some x->∃r tm,fI H l=some r/\mZ r.n r.params args r.tm=some tm/\x.1.p=false/\∀c acs c',pH c x.1.v=some c'->vK C (.next ⟨Xs r l tm,c::acs,H⟩) (.next ⟨c',acs,x.2⟩)
abbrev vX:=List vH->lF->wH × xA->Prop
def Fin (C:lA)(E:vX)(ds:List vH)(o:lF)(x:wH × xA):Prop:=∃o',vK C o o'/\E ds o' x
theorem Fin.step{C:lA}{E:vX}{ds:List vH} {x:wH × xA}(h:Fin C E ds (aT C o) x):Fin C E ds o x:=by
 obtain⟨fr,h1,h2⟩:=h;exact⟨fr,.step h1,h2⟩
theorem Fin.of{C:lA}{E:vX}{ds:List vH} {x:wH × xA}(hr:vK C o o')(h:Fin C E ds o' x):Fin C E ds o x:=by
 obtain⟨fr,h1,h2⟩:=h;exact⟨fr,hr.trans h1,h2⟩
abbrev RR(f N:Nat)(ro:Option Nat)(ds:List vH)(fl:Bool:=false):jJ:=⟨f,N,ds,.run,fl,ro⟩
structure Kb (C:lA) (E:vX) (G:wH × xA->Prop) (f N:Nat) (ro:Option Nat) (acs:List wC) (fl:Bool:=false):Prop where
 not:∀ds todo tm H x,¬ E ds (.next ⟨⟨todo,tm,RR f N ro ds fl⟩,acs,H⟩) x
 all:ro=none->∀x,G x
 pop:ro=none->∀r ds o x,x.1.p=false->E (⟨none,r,[]⟩::ds) o x->gW x.2 r=some (some [])->∃o',vK C o o'/\E ds o' (x.1,setBlk x.2 r (.deferred none))
 pan:∀ds todo tm x,G x->x.1.p=true->E ds (.next ⟨gV ⟨todo,tm,RR f N ro ds fl⟩ [⟨x.1.v,false⟩],acs,x.2⟩) x
structure Jw (C:lA) (E:vX) (G:wH × xA->Prop) (f N:Nat) (ro:Option Nat) (acs:List wC) (κ:Kt) (k:List qE) (fl:Bool:=false):Prop where
 norm:∀ds x tm H,G x->κ.norm tm H=some x->Fin C E ds (.next ⟨⟨k,tm,RR f N ro ds fl⟩,acs,H⟩) x
 exit:∀ds x i tm H,G x->κ.exit i tm H=some x->Fin C E ds (.next ⟨⟨.code (.exit i)::k,tm,RR f N ro ds fl⟩,acs,H⟩) x
 ret:∀ds x tm H,G x->κ.ret tm H=some x->∀k',Fin C E ds (.next ⟨⟨.code .ret::k',tm,RR f N ro ds fl⟩,acs,H⟩) x
structure Gv where
 i:Nat
 pl:List Nat
 f:Operand
 ps:Array Nat
 as:List (Nat × Array Oper)
 c:mC
def yK(c:mC):List Gv:=
 mC.rec (motive:=fun _=>List Gv) [] (fun _ _ _=>[]) (fun _ _ a b=>dD a b) (fun _ _ _ a b=>dD a b) (fun _ _ a=>a) (fun _ _ a=>a) (fun _=>[]) [] (fun _ _ a=>a)
  (fun i pl f ps as c a=>⟨i,pl,f,ps,as,c⟩::a) c
section
variable {C:lA}{φ:jE}{E:vX}{G:wH × xA->Prop}{ds:List vH}{ro:Option Nat}{f N:Nat}{acs:List wC}{R:jJ}{κ:Kt}{k:List qE}{x:wH × xA}{all:Array Oper}{fl:Bool}
theorem gI(hR:R.mode.running=true)    : aT C (.next ⟨⟨todo,tm,R⟩,acs,H⟩)=qS C todo tm R acs H:=by
 show(bif R.mode.running then qS C todo tm R acs H else _)=_
 grind
def MQ{c':wC}  (hr:Gu C f [] fr H v)(hf:pH c v=some c'):aT C (.next ⟨fr,c::acs,H⟩)=.next ⟨c',acs,H⟩:=by
 obtain⟨h1,h2,h3,h4,fn,l,h5,h6,rfl⟩:=hr
 obtain⟨todo,tm,ffn,n,defers,mode,deferred,round⟩:=fr
 simp only at h1 h2 h3 h4 h6
 subst h1 h2 h3 h4
 show Em C ⟨todo,tm,_⟩ (c::acs) H=_
 unfold Em;rw[h5,qA,h6];simp only[cond_false];rw[hf];rfl
def zes   {g:Nat}{fn:Func}(hrun:c.R.mode=.run)(hr:zj4 g [] fr v)(hf:C.fns.get g=some fn):aT C (.next ⟨fr,c::acs,H⟩)=.next ⟨gV c [⟨v,false⟩],acs,H⟩:=by
 obtain⟨h1,h2,h3,h4⟩:=hr
 obtain⟨todo,tm,ffn,n,defers,mode,deferred,round⟩:=fr
 simp only at h1 h2 h3 h4
 subst h1 h2 h3 h4
 show pL (ob (C.fns.get ffn) fun _=>some (⟨gV c [⟨v,false⟩],acs,H⟩:wR)) 19=_
 rw[hf];rfl
def Xx(hφ:aQ C φ)  {K:zA->xA->iB}(h:xG φ r H K=some x)
  (hK:∀v H' c',pH fr v=some c'->K v H'=some x->Fin C E ds (.next ⟨c',acs,H'⟩) x) (hfin:∀v,∃c',pH fr v=some c') (hrun:fr.R.mode=.run) (hP:x.1.p=true->E ds (.next ⟨gV fr [⟨x.1.v,false⟩],acs,x.2⟩) x):Fin C E ds (Js r C fr acs H) x:=by
 cases r<;>simp only[xG]at h<;>try (cases h;done)
 case val v H'=>
  have h2:K v H'=some x:=h
  obtain⟨c',hc⟩:=hfin v
  show Fin C E ds (Fa v H' C fr acs H) x
  unfold Fa;rw[hc];exact hK _ _ _ hc h2
 case enter g args=>
  rw[sA]at h;obtain⟨p,h1,h4⟩:=h
  obtain⟨c',hc⟩:=hfin p.1.v
  show Fin C E ds (Lv g args C fr acs H) x
  unfold Lv;obtain⟨ge,he,r0⟩:=hφ.fn _ _ _ _ h1
  obtain⟨fr',r1,r2⟩:=r0 (fr::acs)
  rw[he]
  cases hp:p.1.p with
  | true=>
   rw[hp]at h4;have h4:some p=some x:=h4
   cases h4;unfold iP at r2;rw[yab hp]at r2;obtain⟨r2,fn,hfn⟩:=r2
   refine Fin.of (r1.trans (.step ?_)) ⟨_,.refl _,hP hp⟩
   rw[zes hrun r2 hfn];exact .refl _
  | false=>
   rw[hp]at h4;have h4:K p.1.v p.2=some x:=h4
   unfold iP at r2;rw[hp,yaa (by simp)]at r2
   refine Fin.of (r1.trans (.step ?_)) (hK _ _ _ hc h4)
   rw[MQ r2 hc];exact .refl _
 case round l args=>
  rw[sA]at h;obtain⟨p,h1,h4⟩:=h
  rw[vB]at h4;obtain⟨c',hc⟩:=hfin p.1.v
  obtain⟨r,tm,e1,e2,e3,r0⟩:=hφ.rd _ _ _ _ h1
  show Fin C E ds (Lt l args C fr acs H) x
  unfold Lt;rw[e1,qA,e2,qA];exact Fin.of (r0 _ _ _ hc) (hK _ _ _ hc h4.2)
 case panic v=>
  cases h;exact⟨_,.refl _,hP rfl⟩
theorem Hq{m:sV}(h:m.running=true):m=.run:=by cases m<;>first | rfl | cases h
theorem VL(hφ:aQ C φ)(hR:R.mode.running=true)(hN:R.n=N)(hP:∀todo tm,x.1.p=true->E ds (.next ⟨gV ⟨todo,tm,R⟩ [⟨x.1.v,false⟩],acs,x.2⟩) x) (hκ:∀tm H,κn tm H=some x->Fin C E ds (.next ⟨⟨k,tm,R⟩,acs,H⟩) x) :
  ∀(l:List Oper) (tm:Tm) (H:xA),xM C φ all N κn l tm H=some x->Fin C E ds (zM C all k R acs l tm H) x:=by
 intro l;induction l with
 | nil=>exact fun tm H h=>hκ tm H h
 | cons o l ih=>
  intro tm H h;rw[Cp,sA]at h;obtain⟨w,h1,h⟩:=h
  rw[Cj,h1]
  cases w with
  | false=>simp_all
  | true=>
   rw[yab rfl]at h;simp only[];generalize (kE o.op).f C (.now tm) H=r at h
   cases hv:r.asVal with
   | some p=>
    have:r=.val p.1 p.2:=by cases r<;>simp[bJ.asVal]at hv;rw[<- hv]
    grind [xG,rP]
   | none=>
    refine Xx hφ h (fun v H' c' hc hK=>?_) (fun v=>⟨⟨.ops all l::k,putA R.n tm o.dst v,R⟩,by unfold pH;simp only[hR,cond_true];rfl⟩) (Hq hR) (hP _ _)
    unfold pH at hc;simp only[hR,cond_true]at hc;have hc:some (⟨.ops all l::k,putA R.n tm o.dst v,R⟩:wC)=some c':=hc
    cases hc;refine .step ?_
    rw[gI hR,hN];rw[rP]at hK;exact ih _ _ hK.2
theorem Ru   {K:Tm->iB}:∀(l:List Nat) (tm:Tm),aH C H all N old olds K l tm=some x->∃tm',zS C H all N old olds l tm=some tm'/\K tm'=some x:=by
 intro l;induction l with
 | nil=>exact fun tm h=>⟨tm,rfl,h⟩
 | cons i l ih=>
  intro tm h;rw[Rw,sA]at h;obtain⟨o,h1,h⟩:=h
  rw[sA]at h;grind [zS,qA,sA,rP]
def AM{C:lA}{o:Op}{e:vD}  (hf:lL o=true)(h:(kE o).f C e H=r)(h1:∀q,r≠vL q):False:=by
 have key:∀q:Option (zA × xA),vL q=r->False:=fun q e=>h1 q e.symm
 cases o<;>simp only[lL]at hf<;>first
  | (cases hf;done)
  | exact key _ h
theorem TP(hφ:aQ C φ)(hR:R.mode.running=true)(hN:R.n=N)(hP:∀todo tm,x.1.p=true->E ds (.next ⟨gV ⟨todo,tm,R⟩ [⟨x.1.v,false⟩],acs,x.2⟩) x) (hκ:∀tm H,κn tm H=some x->Fin C E ds (.next ⟨⟨k,tm,R⟩,acs,H⟩) x)   :
  ∀(l:List vG) (tm:Tm) (H:xA),xJ C φ all N old olds κn l tm H=some x->Fin C E ds (.next ⟨⟨.reg all old olds l::k,tm,R⟩,acs,H⟩) x:=by
 intro l;induction l with
 | nil=>
  intro tm H h;refine .step ?_
  rw[gI hR];exact hκ tm H h
 | cons st l ih=>
  intro tm H h
  cases hg:kU all st with
  | true=>
   rw[Lh hg,Sp]at h;obtain⟨h0,es,H',h1,h2,h3⟩:=h
   obtain⟨tm',hl1,hl2⟩:=Ru _ _ h3
   refine .step ?_
   rw[gI hR];show Fin C E ds (dS all old olds (st::l) C k tm R acs H) x
   unfold dS;have hg0:=nC.1 hg
   rw[lD]at hg0;have hnone:tD all.toList st.heavy=none:=by
    grind [lG]
   simp only[hnone];rw[rD,yab (nC.2 (by rw[lD];omega)),rD,yab (show Nat.blt (aA all.toList+aA all.toList) st.heavy=true from hg)]
   unfold Oy;rw[h0,show ∀(x:Option wR),wB true x=x from fun _=>rfl,h1,qA,h2,qA,hN,hl1,qA]
   exact ih _ _ hl2
  | false=>
  rw[Hl hg,sA]at h;obtain⟨o,h1,h⟩:=h
  rw[sA]at h;obtain⟨w,h2',h⟩:=h
  have hgn:Nat.blt (aA all.toList+aA all.toList) st.heavy=false:=hg
  by_cases hfl:Nat.blt (aA all.toList) st.heavy=true
  ·-- an operation that is done early
   unfold rV at h2';unfold xN at h1 h;rw[hfl]at h1 h2' h
   simp only[cond_true,sA,vB,ybb]at h1 h2'
   obtain⟨w',h2,⟨⟨hw,hfo⟩,hlo⟩,h2'⟩:=h2'
   cases h2'
   subst hw;simp only[if_true,cond_true]at h;have hval:∃v H',(kE o.op).f C (.mixed tm old (vF (Nat.sub st.heavy (Nat.succ (aA all.toList))) olds) (jH o.op)) H=.val v H':=by
    cases hr:(kE o.op).f C (.mixed tm old (vF (Nat.sub st.heavy (Nat.succ (aA all.toList))) olds) (jH o.op)) H with
    | val v H'=>simp_all
    | enter g args=>exact(AM hfo hr fun q=>by cases q<;>simp[vL]).elim
    | round g args=>exact(AM hfo hr fun q=>by cases q<;>simp[vL]).elim
    | panic v=>exact(AM hfo hr fun q=>by cases q<;>simp[vL]).elim
    | _=>rw[hr]at h;cases h
   obtain⟨v,H',hv⟩:=hval
   rw[hv]at h;have h:(qL C o.type v fun v=>iM C H' all old olds (putA N tm o.dst v) (aH C H' all N old olds (fun tm=>xJ C φ all N old olds κn l tm H') st.lights (putA N tm o.dst v)) st.again)=some x:=h
   rw[rP]at h;obtain⟨ha,hl⟩:=Oh _ h.2
   obtain⟨tm',hl1,hl2⟩:=Ru _ _ hl
   refine .step ?_
   rw[gI hR];show Fin C E ds (dS all old olds (st::l) C k tm R acs H) x
   unfold dS;have hnone:tD all.toList st.heavy=none:=by
    grind [lG,nC,lD]
   simp only[hnone];rw[hfl,cond_true,hgn,cond_false];unfold Oz;rw[h1,qA,h2,qA,hv,hlo];show Fin C E ds (pL (ob (zS C H' all R.n old olds st.lights (putA R.n tm o.dst v)) fun tm'=>some ⟨⟨.reg all old olds l::k,tm',R⟩,acs,H'⟩) 23) x
   rw[hN,hl1,qA];exact ih _ _ hl2
  have hfl:Nat.blt (aA all.toList) st.heavy=false:=Bool.eq_false_iff.2 hfl
  unfold rV at h2';unfold xN at h1 h;rw[hfl]at h1 h2' h
  simp only[cond_false,sA]at h1 h2'
  obtain⟨w',h2,h2'⟩:=h2'
  cases h2'
  simp only[cond_false]at h;have back0:∀v H' c',pH (⟨.reg all old olds (st::l)::k,tm,R⟩:wC) v=some c' →
    iM C H' all old olds (putA N tm o.dst v) (aH C H' all N old olds (fun tm=>xJ C φ all N old olds κn l tm H') st.lights (putA N tm o.dst v)) st.again=some x->Fin C E ds (.next ⟨c',acs,H'⟩) x:=by
   intro v H' c' hc hK;unfold pH at hc;simp only[hR,cond_true]at hc;have hc:(ob (tD all.toList st.heavy) fun o=>some (⟨.reg all old olds (⟨all.size,st.lights,st.again⟩::l)::k,putA R.n tm o.dst v,R⟩:wC))=some c':=hc
   rw[h1,qA]at hc
   cases hc;refine .step ?_
   rw[gI hR,hN];obtain⟨ha,hl⟩:=Oh _ hK
   obtain⟨tm',hl1,hl2⟩:=Ru _ _ hl
   show Fin C E ds (dS all old olds (⟨all.size,st.lights,st.again⟩::l) C k (putA N tm o.dst v) R acs H') x
   unfold dS;have:tD all.toList all.size=none:=by rw[lG];simp
   simp only[this];rw[rD,yaa fun e=>by grind [nC,lD]];show Fin C E ds (Kh all old olds ⟨all.size,st.lights,st.again⟩ l C k (putA N tm o.dst v) R acs H') x
   unfold Kh;simp only[ha,hN,hl1,qA];exact ih _ _ hl2
  have back:∀v H' c',pH (⟨.reg all old olds (st::l)::k,tm,R⟩:wC) v=some c' →
    (qL C o.type v fun v=>iM C H' all old olds (putA N tm o.dst v) (aH C H' all N old olds (fun tm=>xJ C φ all N old olds κn l tm H') st.lights (putA N tm o.dst v)) st.again)=some x->Fin C E ds (.next ⟨c',acs,H'⟩) x:=by
   grind [rP]
  refine .step ?_
  rw[gI hR];show Fin C E ds (dS all old olds (st::l) C k tm R acs H) x
  unfold dS;simp only[h1];unfold Ox;rw[h2];simp only[];have hfin:∀v,∃c',pH (⟨.reg all old olds (st::l)::k,tm,R⟩:wC) v=some c':=fun v=>⟨⟨.reg all old olds (⟨all.size,st.lights,st.again⟩::l)::k,putA R.n tm o.dst v,R⟩,by
   unfold pH;simp only[hR,cond_true];show(ob (tD all.toList st.heavy) fun o=>some (⟨.reg all old olds (⟨all.size,st.lights,st.again⟩::l)::k,putA R.n tm o.dst v,R⟩:wC))=_
   rw[h1];rfl⟩
  cases w with
  | true=>
   simp only[if_true]at h;exact Xx hφ h back hfin (Hq hR) (hP _ _)
  | false=>
   simp only[ybq,if_false]at h;obtain⟨c',hc⟩:=hfin pD
   show Fin C E ds (Fa pD H C _ acs H) x
   unfold Fa;rw[hc];exact back0 _ _ _ hc h
theorem zfn    (h:(keep live tm).get i=some v):tm.get i=some v:=by
 unfold keep Tm.get at h;simp only[dJ]at h;split at h
 case isFalse=>cases h
 rename_i hk;have key:∀live:List Nat,(It tm live).get i=some v->tm.get i=some v:=by
  intro live;induction live with
  | nil=>grind [It,Tr.get_leaf]
  | cons j live ih=>
   grind [It,Tr.get_set]
 grind
def NU (hr:Se todo=false)   (h:Fin C E ds (.next ⟨⟨todo,keep live tm,R⟩,acs,H⟩) x):Fin C E ds (.next ⟨⟨todo,tm,R⟩,acs,H⟩) x:=
 Fin.of (.forget hr (fun _ _=>zfn) (.refl _)) h
def Sw(hE:Kb C E G f N ro acs fl) (h1:Se t1=false)(hs:∀tm H,qS C t1 tm (RR f N ro ds fl) acs H=qS C t2 tm (RR f N ro ds fl) acs H)  (h:Fin C E ds (.next ⟨⟨t2,tm,RR f N ro ds fl⟩,acs,H⟩) x):Fin C E ds (.next ⟨⟨t1,tm,RR f N ro ds fl⟩,acs,H⟩) x:=by
 obtain⟨o',hr,hv⟩:=h
 refine⟨o',?_,hv⟩
 generalize ho:(.next ⟨⟨t2,tm,RR f N ro ds fl⟩,acs,H⟩:lF)=o at hr
 induction hr generalizing tm with
 | refl=>
  subst ho;exact(hE.not _ _ _ _ _ hv).elim
 | step h ih=>
  subst ho;refine .step ?_
  rw[gI rfl,hs,<- gI rfl];exact h
 | forget hr2 hs2 h ih=>
  cases ho;exact .forget h1 hs2 (ih hv rfl)
theorem WK     : rT (some (.exit i)) C ⟨t1,tm,R⟩ acs H=rT (some (.exit i)) C ⟨t2,tm,R⟩ acs H:=by
 obtain⟨a,b,c,d,e,ro⟩:=R
 unfold rT
 cases ro<;>rfl
theorem AX(hE:Kb C E G f N ro acs fl) {y:qE}(hy:∀j,y.blockId=some j->Nat.beq j i=false)  (h:Fin C E ds (.next ⟨⟨.code (.exit i)::k,tm,RR f N ro ds fl⟩,acs,H⟩) x):Fin C E ds (.next ⟨⟨.code (.exit i)::y::k,tm,RR f N ro ds fl⟩,acs,H⟩) x:=by
 refine Sw hE rfl (fun tm H=>?_) h
 show Bu i C (y::k) tm (RR f N ro ds fl) acs H=Bu i C k tm (RR f N ro ds fl) acs H
 grind [lT,Bu,WK]
theorem UV(hφ:aQ C φ)(hE:Kb C E G f N none acs fl){κ:Kt}(hκ:Jw C E G f N none acs κ k fl){fo:Operand}{ps:Array Nat}{a b:Code}  (h:lR C φ f N κ fo ps.toList a b tm H=some x):Fin C E ds (.next ⟨⟨.code (.rangeFunc fo ps a b)::k,tm,RR f N none ds fl⟩,acs,H⟩) x:=by
 unfold lR at h;rw[sA]at h;obtain⟨v,h1,h⟩:=h
 rw[sA]at h;obtain⟨⟨qf,q1,q2⟩,h2,h⟩:=h
 cases qf with
 | yld l=>cases h
 | func g=>
  simp only[vB,sA]at h;obtain⟨h3,y,h4,hy,r,h5,h6,z,h7,hz,d,h8,h9,h10⟩:=h
  have hy:y.1.p=false:=by simp_all
  have hz:z.1.p=false:=by simp_all
  have hp:C.prims.get g=none:=by
   cases hx:C.prims.get g with
   | none=>rfl
   | some u=>rw[hx]at h3;cases h3
  obtain⟨ge,he,r0⟩:=hφ.fn _ _ _ _ h4
  obtain⟨fr',r1,r2⟩:=r0 (⟨.inRange (H.next+1)::k,tm,RR f N none (⟨none,H.next,[]⟩::ds) fl⟩::acs)
  unfold iP at r2;rw[hy,yaa (by simp)]at r2
  refine .step ?_
  rw[gI rfl];show Fin C E ds (Kg fo ps a b C k tm (RR f N none ds fl) acs H) x
  have hin:iZ C (H.next+1) v=some ge:=by
   grind [iZ,qA]
  unfold Kg;rw[h1,qA];simp only[hin,qA];refine Fin.of (r1.trans (.step ?_)) (?_:Fin C E ds (.next ⟨⟨.endRange (H.next+1)::k,tm,RR f N none (⟨none,H.next,[]⟩::ds) fl⟩,acs,y.2⟩) x)
  ·rw[MQ r2 (c':=⟨.endRange (H.next+1)::k,tm,RR f N none (⟨none,H.next,[]⟩::ds) fl⟩) rfl]
   exact .refl _
  refine .step ?_
  rw[gI rfl];show Fin C E ds (Ki (H.next+1) C k tm (RR f N none (⟨none,H.next,[]⟩::ds) fl) acs y.2) x
  unfold Ki;rw[h5,qA,h6];have key:Fin C E (⟨none,H.next,[]⟩::ds) (.next ⟨⟨(match r.pending with | some c=>.code c::k | none=>k),tm,RR f N none (⟨none,H.next,[]⟩::ds) fl⟩,acs,endLoop y.2 (H.next+1) r⟩) z:=by
   unfold Bo at h7;split at h7
   ·rename_i e;rw[e];exact hκ.norm _ _ _ _ (hE.all rfl _) h7
   ·rename_i e;rw[e];exact hκ.ret _ _ _ _ (hE.all rfl _) h7 k
   grind
  obtain⟨o',k1,k2⟩:=key
  have hd:gW z.2 H.next=some (some []):=by
   rw[h8]
   cases d with
   | none=>cases h9
   | some l=>cases l with | nil=>rfl | cons _ _=>cases h9
  obtain⟨o'',k3,k4⟩:=hE.pop rfl _ _ _ _ hz k2 hd
  cases h10;exact⟨o'',k1.trans k3,k4⟩
theorem Qr{α:Type}{a b:List α}(h:dD a b=[]):a=[]/\b=[]:=by grind [kG,List.append_eq_nil_iff]
theorem Ti(hφ:aQ C φ)(hE:Kb C E G f N ro acs fl):∀(c:mC) (κ:Kt) (k:List qE),(ro=none\/yK c=[])->Jw C E G f N ro acs κ k fl->∀ds x tm H,G x->nD C φ f N c κ tm H=some x->Fin C E ds (.next ⟨⟨.code (sE c)::k,tm,RR f N ro ds fl⟩,acs,H⟩) x:=by
 intro c;induction c with
 | skip=>
  intro κ k _ hκ ds x tm H hG h;refine .step ?_
  rw[gI rfl];exact hκ.norm _ _ _ _ hG h
 | region id ops d=>
  intro κ k _ hκ ds x tm H hG h;refine .step ?_
  rw[gI rfl]
  cases d with
  | false=>exact VL hφ rfl rfl (fun todo tm hp=>hE.pan _ _ _ _ hG hp) (fun tm H h=>hκ.norm _ _ _ _ hG h) _ _ _ h
  | true=>
   have h:(ob (ob (C.plans.get f) fun t=>t.get id) fun p=>wB (tU ops p) (aH C H ops N tm.cut p.olds (fun tm'=>xJ C φ ops N tm.cut p.olds κ.norm p.stages tm' H) p.first tm.cut))=some x:=h
   rw[sA]at h;obtain⟨p,h1,h⟩:=h
   rw[vB]at h;obtain⟨tm',hl1,hl2⟩:=Ru _ _ h.2
   show Fin C E ds (Kj id ops C k tm (RR f N ro ds fl) acs H) x
   unfold Kj;rw[h1,qA,h.1,hl1];exact TP hφ rfl rfl (fun todo tm hp=>hE.pan _ _ _ _ hG hp) (fun tm H h=>hκ.norm _ _ _ _ hG h) _ _ _ hl2
 | seq a b iha ihb=>
  intro κ k hn hκ ds x tm H hG h;have hna:ro=none\/yK a=[]:=hn.imp id fun e=>(Qr e).1
  have hnb:ro=none\/yK b=[]:=hn.imp id fun e=>(Qr e).2
  refine Sw hE (t1:=.code (sE (.seq a b))::k) rfl (t2:=.code (sE a)::.code (sE b)::k) (fun _ _=>rfl) ?_
  exact iha ⟨nD C φ f N b κ,κ.exit,κ.ret⟩ _ hna ⟨fun ds x tm H hG h=>ihb _ _ hnb hκ ds x tm H hG h,fun ds x i tm H hG h=>AX hE (fun _ e=>by cases e) (hκ.exit _ _ _ _ _ hG h),hκ.ret⟩ ds x tm H hG h
 | cond c a b iha ihb=>
  intro κ k hn hκ ds x tm H hG h;have hna:ro=none\/yK a=[]:=hn.imp id fun e=>(Qr e).1
  have hnb:ro=none\/yK b=[]:=hn.imp id fun e=>(Qr e).2
  have h:(ob (ob (ev c (.now tm)) zA.asBool) fun t=>Bool.rec (motive:=fun _=>iB) (nD C φ f N b κ tm H) (nD C φ f N a κ tm H) t)=some x:=h
  rw[sA]at h;obtain⟨t,h1,h⟩:=h
  refine .step ?_
  rw[gI rfl];show Fin C E ds (Kk c (sE a) (sE b) C k tm (RR f N ro ds fl) acs H) x
  unfold Kk;rw[h1]
  cases t with
  | true=>exact iha _ _ hna hκ _ _ _ _ hG h
  | false=>exact ihb _ _ hnb hκ _ _ _ _ hG h
 | block id c ih=>
  intro κ k hn hκ ds x tm H hG h;refine .step ?_
  rw[gI rfl];have nx:∀ds x tm H,G x->κ.norm tm H=some x->Fin C E ds (.next ⟨⟨.inBlock id::k,tm,RR f N ro ds fl⟩,acs,H⟩) x:=by
   intro ds x tm H hG h;refine .step ?_
   rw[gI rfl];exact hκ.norm _ _ _ _ hG h
  refine ih ⟨κ.norm,fun i tm H=>Bool.rec (motive:=fun _=>iB) (κ.exit i tm H) (κ.norm tm H) (Nat.beq id i),κ.ret⟩ _ hn ⟨nx,fun ds x i tm H hG h=>?_,hκ.ret⟩ ds x tm H hG h
  dsimp only at h
  cases hb:Nat.beq id i with
  | true=>
   rw[hb]at h;refine .step ?_
   rw[gI rfl];show Fin C E ds (Bu i C (.inBlock id::k) tm (RR f N ro ds fl) acs H) x
   have e:lT i (.inBlock id::k)=some k:=by
    show(bif Nat.beq id i then some k else lT i k)=_
    grind
   unfold Bu;rw[e];exact hκ.norm _ _ _ _ hG h
  | false=>
   rw[hb]at h;exact AX hE (fun j e=>by cases e;exact hb) (hκ.exit _ _ _ _ _ hG h)
 | loop live c ih=>
  intro κ k hn hκ ds x tm H hG h;obtain⟨m,hm⟩:=Ze h
  have it:∀(m:Nat) ds x tm H,G x->(Nat.rec (motive:=fun _=>Tm->xA->iB) (fun _ _=>none) (fun _ r tm H=>nD C φ f N c ⟨r,κ.exit,κ.ret⟩ (keep live.kept tm) H) m:Tm->xA->iB) tm H=some x->Fin C E ds (.next ⟨⟨.inLoop (sE c)::k,tm,RR f N ro ds fl⟩,acs,H⟩) x:=by
   intro m;induction m with
   | zero=>simp_all
   | succ m ihm=>
    intro ds x tm H hG h;refine NU (live:=live.kept) rfl (.step ?_)
    rw[gI rfl];exact ih ⟨_,κ.exit,κ.ret⟩ _ hn ⟨ihm,fun ds x i tm H hG h=>AX hE (fun _ e=>by cases e) (hκ.exit _ _ _ _ _ hG h),hκ.ret⟩ _ _ _ _ hG h
  exact Sw hE (t1:=.code (sE (.loop live c))::k) rfl (t2:=.inLoop (sE c)::k) (fun _ _=>rfl) (it m _ _ tm H hG hm)
 | exit id=>exact fun κ k _ hκ ds x tm H hG h=>hκ.exit _ _ _ _ _ hG h
 | ret=>exact fun κ k _ hκ ds x tm H hG h=>hκ.ret _ _ _ _ hG h k
 | cut live c ih=>exact fun κ k hn hκ ds x tm H hG h=>NU rfl (ih κ k hn hκ _ _ _ _ hG h)
 | range i pl fo ps as c ih=>
  intro κ k hn hκ ds x tm H hG h;rcases hn with rfl | e
  ·exact UV hφ hE hκ h
  ·cases e
end
end
end Go.Am
