/- The simulation: leaving, rounds, regions in order, heavy operations. -/
import Derived.Test.YtmmedgeabnpnhaaGreatDoorA03
set_option linter.all false
noncomputable section
namespace Go.Am
open Go Go.RowKit
section
section
variable {P:Program}{C:oA}{B N:Nat}{I:World->Prop}{μ ν:Mu}{H H':xA}{w:World}{tm:Tm}{R:kI}{acs:List zC}{base cs:List Frame}
variable {b:Frame}{tmps:Array Value}{ds:List Deferred}{k:List qD}{k':List Item}{all:Array Oper}
def BD{m:Option Nat}(h:tY μ none m):m=none:=by
 cases m with
 | none=>rfl
 | some l=>exact h.elim
theorem Ry{l:Nat}{m:Option Nat}(h:tY μ (some l) m):∃i,μ l=some i/\m=some i.b:=by
 cases m with
 | none=>exact h.elim
 | some m=>obtain⟨i,h1,h2⟩:=h;simp_all
theorem Tu(hH:sB B N μ H w)(hcs:oF C μ acs cs)(hR:yG μ R (b.atR ⟨tmps,ds⟩ []))(ht:iD μ R.n tm tmps){todo:List qD}{btodo:List Item}{jump:Option Code}
  (h0:b.roundOf=none->Sd jump=true->step P (lone (b.atR ⟨tmps,ds⟩ btodo) (cs++base) w)=.next (lone { b.atR ⟨tmps,ds⟩ btodo with mode:=.returning } (cs++base) w))
  (h1:∀l c rest v w',b.roundOf=some l->b.kind=.normal->(Instr.endRound l jump).run P w=.ok v w'->step P (lone (b.atR ⟨tmps,ds⟩ btodo) (c::rest) w)=.next (lone (c.finish v) rest w')) :
  zD P C B N μ base (lone (b.atR ⟨tmps,ds⟩ btodo) (cs++base) w) w (uP jump C ⟨todo,tm,R⟩ acs H):=by
 unfold uP;simp only[]
 cases hr:R.roundOf with
 | none=>
  have hb:b.roundOf=none:=by
   have:=hR.round;rw[hr]at this;exact BD this
  cases hj:Sd jump with
  | false=>exact trivial
  | true=>exact QU hH hcs hR ht (.one (h0 hb hj))
 | some l=>
  obtain⟨i,hi,hb⟩:∃i,μ l=some i/\b.roundOf=some i.b:=by
   have:=hR.round;rw[hr]at this;exact Ry this
  simp only[]
  cases hx:cI H l with
  | none=>exact trivial
  | some r=>
   rw[tA]
   cases hcs with
   | nil=>exact trivial
   | @cons c b1 acs1 cs1 hc hcs1=>
    simp only[]
    cases hd:R.deferred with
    | true=>exact trivial
    | false=>
     have hkind:b.kind=.normal:=by have:=hR.kind;rw[hd]at this;exact this
     cases hf:lG c (.bool jump.isNone)with
     | none=>exact trivial
     | some c'=>
      obtain⟨hl,r',hg,hw,rel⟩:=Hb hH hx hi;have run:(Instr.endRound i.b jump).run P w=.ok (.bool jump.isNone) (World.setBlk w i.b (.loop { r' with state:=if jump.isNone then .ready else .done,pending:=jump })):=by
       simp_all [Instr.endRound,Ga,Bx]
      refine⟨μ,_,cs1,_,.one (h1 i.b b1 (cs1++base) _ _ hb hkind run),fun _ _ h=>h,zU (hH.own l i hl hi).1,?_,Ag hc hf (by rw[vA]),hcs1⟩;refine hH.upd hg hi hl ?_;rw[nH];exact⟨_,rfl,rfl,rfl,rel.fn,rel.tm,rel.params,rel.assign,rel.body,rel.defers⟩
theorem WQ{id:Nat}:∀ {k:List qD} {k':List Item},mC (mF μ) k k'->mP id k=none->exitTo id k'=none:=by
 intro k k' h;induction h with
 | nil=>intro _;rfl
 | cons a l ih=>
  intro e
  cases a with
  | inBlock i=>
   grind [mP,qD.blockId,exitTo,oC]
  | _=>
   grind [mP,exitTo]
def zeh(hH:sB B N μ H w)(hcs:oF C μ acs cs)(hR:yG μ R (b.atR ⟨tmps,ds⟩ []))(ht:iD μ R.n tm tmps)(hk:mC (mF μ) k k'){id:Nat} :
  zD P C B N μ base (lone (b.atR ⟨tmps,ds⟩ (.code (.exit id)::k')) (cs++base) w) w (lW id C k tm R acs H):=by
 unfold lW
 cases he:mP id k with
 | some r=>
  obtain⟨r',h1,h2⟩:=WP hk he;exact aU hH hcs hR ht h2 (.one (stepR_exit h1))
 | none=>
  exact Tu hH hcs hR ht (fun _ h=>by cases h) fun l c rest v w' hb hkd hr=>stepR_round_exit hb hkd (WQ hk he) hr
def ret_ok(hH:sB B N μ H w)(hcs:oF C μ acs cs)(hR:yG μ R (b.atR ⟨tmps,ds⟩ []))(ht:iD μ R.n tm tmps) :
  zD P C B N μ base (lone (b.atR ⟨tmps,ds⟩ (.code .ret::k')) (cs++base) w) w (xRet C k tm R acs H):=
 Tu hH hcs hR ht (fun hb _=>stepR_ret hb) fun _ _ _ _ _ hb hkd hr=>stepR_round_ret hb hkd hr
def end_ok(hH:sB B N μ H w)(hcs:oF C μ acs cs)(hR:yG μ R (b.atR ⟨tmps,ds⟩ []))(ht:iD μ R.n tm tmps) :
  zD P C B N μ base (lone (b.atR ⟨tmps,ds⟩ []) (cs++base) w) w (uP none C ⟨[],tm,R⟩ acs H):=
 Tu hH hcs hR ht (fun hb _=>stepR_end hb) fun _ _ _ _ _ hb hkd hr=>stepR_round_end hb hkd hr
theorem Rv{o:Oper}{rest:List Oper}:wR C all k R acs (o::rest) tm H=match cE o.guard all tm with
  | none=>.fail 20
  | some false=>wR C all k R acs rest (putA R.n tm o.dst lD) H
  | some true=>match ((pF o.op).f C (.now tm) H).asVal with
   | some p=>wR C all k R acs rest (putA R.n tm o.dst p.1) p.2
   | none=>Dx ((pF o.op).f C (.now tm) H) C ⟨.ops all (o::rest)::k,tm,R⟩ acs H:=by
 show(match cE o.guard all tm with
  | some w=>Bool.rec (motive:=fun _=>pE) (wR C all k R acs rest (putA R.n tm o.dst lD) H)
     (let r:=(pF o.op).f C (.now tm) H
     match r.asVal with
     | some p=>wR C all k R acs rest (putA R.n tm o.dst p.1) p.2
     | none=>Dx r C ⟨.ops all (o::rest)::k,tm,R⟩ acs H) w
  | none=>.fail 20)=_
 grind
theorem BR{n i:Nat}(h:i<n):(List.range n).drop i=i::(List.range n).drop (i+1):=by
 grind [List.drop_eq_getElem_cons]
theorem AZ(hS:sI P C B N I):∀(rest:List Oper) (i:Nat) (tm:Tm) (H:xA) (w:World) (μ:Mu) (tmps:Array Value),rest=all.toList.drop i->i<=all.size->I w->sB B N μ H w->oF C μ acs cs →
  yG μ R (b.atR ⟨tmps,ds⟩ [])->iD μ R.n tm tmps->mC (mF μ) k k' →
  zD P C B N μ base (lone (b.atR ⟨tmps,ds⟩ (.inRegion all ((List.range all.size).drop i)::k')) (cs++base) w) w (wR C all k R acs rest tm H):=by
 intro rest;induction rest with
 | nil=>
  intro i tm H w μ tmps hi hle hI hH hcs hR ht hk;have:all.size<=i:=by
   simp_all
  rw[ybt (by simp_all)];exact aU hH hcs hR ht hk (.one stepR_region_end)
 | cons o rest ih=>
  intro i tm H w μ tmps hi hle hI hH hcs hR ht hk;obtain⟨h1,h2⟩:=sS hi;have hlt:i<all.size:=by grind
  have ho:all[i]?=some o:=by simp_all
  rw[Rv,BR hlt]
  cases hw:cE o.guard all tm with
  | none=>exact trivial
  | some wn=>
   have hwn:=ht.wanted (all:=all) hw
   cases wn with
   | false=>
    refine zD.of_steps (.one (Re ho hwn)) (fun _ _ h=>h) (Below.refl N w) ?_;rw[Cg];have t:=ht.put (ds:=ds) (dst:=o.dst) Iy;exact ih (i+1) _ _ _ _ _ h2 hlt hI hH hcs (hR.slots t.1) t hk
   | true=>
    have hop:=zcr hS.tys hS.base hS.fns hS.prims hH hI (ht.erel (ds:=ds) hH.glob) o;simp only[];generalize hr:(pF o.op).f C (.now tm) H=r at hop;have hdef:(∃c,o.op=.defer c)->r=.fail\/∃d,r=.defer d:=fun h=>by grind [KK]
    have hfr:aH C μ acs.length none ⟨.ops all (o::rest)::k,tm,R⟩ (b.atR ⟨tmps,ds⟩ (.inRegion all (i::(List.range all.size).drop (i+1))::k')):=by
     refine⟨hR.todo,?_⟩;rw[yab hR.running,<- BR hlt,hi];exact .plain (.cons (.ops all i hle) hk) ht
    cases hv:r.asVal with
    | none=>grind [KP]
    | some p=>
     have:r=.val p.1 p.2:=by cases r<;>simp[rJ.asVal]at hv;rw[<- hv]
     subst this;simp only[];have hd:∀c,o.op≠.defer c:=fun c e=>by
      rcases hdef ⟨c,e⟩with h | ⟨d,h⟩<;>cases h
     rcases hop with h | ⟨f,args',h3,h4⟩
     ·obtain⟨v',w',μ',s,hm,hH',hb,hv⟩:=Ot (b:=b) (k':=k') (rest:=(List.range all.size).drop (i+1)) (cs:=cs++base) ho hwn hd h;refine zD.of_steps (.one s) hm.f hb ?_;have t:=(ht.mono hm).put (ds:=ds) (dst:=o.dst) hv;exact ih (i+1) _ _ _ _ _ h2 hlt (hS.inv _ _ hb hI) hH' (hcs.mono hm) ((hR.mono hm).slots t.1) t (hk.mono fun _ _ r=>r.mono hm)
     ·obtain⟨v',w',s,μ',hm,hH',hb,hv⟩:=JQ (b:=b) (k':=k') (rest:=(List.range all.size).drop (i+1)) (cs:=cs++base) (R:=fun v' w'=>∃ μ',μ.le μ'/\sB B N μ' p.2 w'/\Below N w w'/\vA μ' p.1 v') ho hwn hd h3 (h4.mono fun e w' hh=>by simp_all);refine zD.of_steps s hm.f hb ?_;have t:=(ht.mono hm).put (ds:=ds) (dst:=o.dst) hv;exact ih (i+1) _ _ _ _ _ h2 hlt (hS.inv _ _ hb hI) hH' (hcs.mono hm) ((hR.mono hm).slots t.1) t (hk.mono fun _ _ r=>r.mono hm)
theorem zag(hS:sI P C B N I)(hI:I w)(hH:sB B N μ H w)(hcs:oF C μ acs cs)(hR:yG μ R (b.atR ⟨tmps,ds⟩ []))(hk:mC (mF μ) k k'){olds:List (Nat × List Nat)}{anc:Tr Nat}{old:Tm}{D:Nat}{S:Nat->Bool}{order:List Nat}{st:aD}{stages:List aD}{o:Oper}
  (hr:xF μ all olds anc R.n old tm D S order tmps) (hst:cH all.toList anc (st::stages) D=true) (hp:vG C μ acs.length H all olds R.n old tm D S) (ho:all[st.heavy]?=some o) :
  zD P C B N μ base (lone (b.atR ⟨tmps,ds⟩ (.inRegion all order::k')) (cs++base) w) w (It all old olds st stages o C k tm R acs H):=by
 have hlt:st.heavy<=all.size:=Nat.le_of_lt (ybe.1 ho).1;obtain⟨S',order',tmps',μ',w',s,g,r1,p1⟩:=reach (b:=b) (k:=k') (cs:=cs++base) (ds:=ds) hS.tys hst hlt order S tmps μ w hH hr hp;refine zD.of_steps s g.le g.below ?_
 replace hI:=hS.inv _ _ g.below hI
 replace hH:=g.heap
 replace hcs:=hcs.monoD fun d hd=>g.pd d (by omega)
 replace hR:=hR.mono g.le
 replace hk:mC (mF μ') k k':=hk.mono fun _ _ r=>r.mono g.le
 unfold It
 cases hw:cE o.guard all tm with
 | none=>exact trivial
 | some wn=>
  obtain⟨o',ho',hS',hb',_⟩:=r1.sched;rw[ho]at ho';cases ho';have hwn:=r1.wanted ho hb' hw;have hfr:aH C μ' acs.length none ⟨.reg all old olds (st::stages)::k,tm,R⟩ (b.atR ⟨tmps',ds⟩ (.inRegion all (st.heavy::order')::k')):=by
   refine⟨(hR.slots r1.size).todo,?_⟩;rw[yab hR.running];exact .wait r1 hst hlt (toWeak hst hlt r1 p1) hk
  cases wn with
  | false=>
   refine Sh (H:=H) hfr hcs μ'.le_refl hH (Below.refl N w') Iy ?_;rw[Frame.finish_atR,ho,yai];exact .one (Re ho hwn)
  | true=>
   have hop:=zcr hS.tys hS.base hS.fns hS.prims hH hI (r1.erel (ds:=ds) hH.glob ho hS' hb') o;exact KP hS hH hcs hfr ho hwn (fun h=>KK h _ _ _) hop
theorem WB(hS:sI P C B N I)(hH:sB B N μ H w)(hcs:oF C μ acs cs)(hR:yG μ R (b.atR ⟨tmps,ds⟩ []))(hk:mC (mF μ) k k'){olds:List (Nat × List Nat)}{anc:Tr Nat}{old:Tm}{D:Nat}{S:Nat->Bool}{order:List Nat}{st:aD}{stages:List aD}
  (hr:xF μ all olds anc R.n old tm D S order tmps) (hst:cH all.toList anc (st::stages) D=true) (hp:vG C μ acs.length H all olds R.n old tm D S) (hlt:all.size<st.heavy) (hle2:st.heavy<=all.size+all.size) :
  zD P C B N μ base (lone (b.atR ⟨tmps,ds⟩ (.inRegion all order::k')) (cs++base) w) w (Iv all old olds st stages (st.heavy-(all.size+1)) C k tm R acs H):=by
 obtain⟨o,D1,D2,ho,hf,h1,h2,h3⟩:=SX hst hlt hle2;generalize st.heavy-(all.size+1)=i at *;obtain⟨o',ho',hi,hb,hD1⟩:=Gq h1;rw[ho]at ho';cases ho';unfold Iv;generalize hx:(ob (fC all.toList i) fun o=>ob (cE o.guard all tm) fun w=>xB (w&&rG (tV C o.op)) (ob ((pF o.op).f C (.mixed tm old (wE i olds) (sG o.op)) H).asVal fun p=>
  ob (aN C p.2 all R.n old olds st.lights (putA R.n tm o.dst p.1)) fun tm'=>some (⟨⟨.reg all old olds stages::k,tm',R⟩,acs,p.2⟩:jO)))=x
 cases x with
 | none=>exact trivial
 | some x=>
  simp only[uA,oB,eF,ybb]at hx;obtain⟨o',ho',wn,hw,⟨hwn,hlo⟩,p,hv,tm',hl,hx⟩:=hx;have hlo:tV C o'.op=none:=by
   cases hx:tV C o'.op with
   | none=>rfl
   | some _=>rw[hx]at hlo;cases hlo
  have:o'=o:=by
   simp_all
  subst this;subst hwn;cases hx;have hop:(pF o'.op).f C (dN tm old olds i o') H=.val p.1 p.2:=by
   show(pF o'.op).f C (.mixed tm old (wE i olds) (sG o'.op)) H=_;generalize (pF o'.op).f C (.mixed tm old (wE i olds) (sG o'.op)) H=r at hv;cases r<;>simp[rJ.asVal]at hv;rw[<- hv]
  obtain⟨l,hl2⟩:∃l,p.2=sE H l none:=WC hf hlo hop;have hH':sB B N (μ.wait H.next (.cells (Tr.ofList l) (rB l) none,acs.length,i)) p.2 w:=by rw[hl2];exact hH.early
  have hle:μ.lw (μ.wait H.next (.cells (Tr.ofList l) (rB l) none,acs.length,i)):=fun _ _ h=>h;have hpd:∀d,μ.ln d (μ.wait H.next (.cells (Tr.ofList l) (rB l) none,acs.length,i)):=fun d=>⟨hle,fun a x j ha=>by
   show(if a=H.next then _ else μ.pd a)=_;rw[yaa]
   ·exact ha
   ·intro e;have:=(hH.pnd _ _ _ ha).2.1;rw[e,(hH.fresh _ (ybk _)).2]at this;cases this⟩
  have hgrow:HM.HLe H p.2:=by
   intro b y hb;rw[hl2];show(H.t.set H.next _).get b=some y;rw[Tr.get_set,yaa]
   ·exact hb
   ·intro e;rw[e,(hH.fresh _ (ybk _)).2]at hb;cases hb
  have r1:=(hr.light (v:=p.1) ho hi hb hD1).mono hle;have p1:vG C (μ.wait H.next (.cells (Tr.ofList l) (rB l) none,acs.length,i)) acs.length p.2 all olds R.n old (putA R.n tm o'.dst p.1) D1 S:=by
   intro j hj hSj;rw[hD1]at hj;simp only[ycq,beq_iff_eq]at hj;rcases hj with hj | rfl
   ·rcases hp j hj hSj with⟨u,wu,vu,pu⟩ | ⟨u,vu,pu⟩
    ·exact .inl ⟨u,wu,vu,(pu.keep hr.reg hr.dclosed hj ho hi).grow hgrow⟩
    ·exact .inr ⟨u,vu,(pu.keep hr.reg hr.dclosed hj ho hi).mono (hpd _)⟩
   ·refine .inr ⟨o',p.1,nS.fresh hr.reg hr.dclosed ho hb hi hf hlo hw ⟨H,l,by rw[hop,hl2],?_⟩⟩;show(if H.next=H.next then _ else μ.pd H.next)=_;rw[yab rfl]
  obtain⟨r2,p2⟩:=Ly _ _ _ hl h2 r1 p1;exact⟨_,_,cs,w,.refl _ _,hle,Below.refl N w,hH',⟨(hR.mono hle).todo,by rw[yab hR.running];exact .reg r2 h3 p2 (hk.mono fun _ _ r=>r.mono hle)⟩,hcs.monoD fun d _=>hpd d⟩
theorem Tk{α β:Type}{f:α->Option β}(d:β):∀ {l:List α} {r:List β},aF f l=some r->(∀x∈l,f x=some ((f x).getD d))/\r=l.map fun x=>(f x).getD d
 | [],r,h=>by grind [gZ]
 | a::l,r,h=>by
  rw[dL,uA]at h;obtain⟨v,hv,h⟩:=h;rw[uA]at h;obtain⟨m,hm,h⟩:=h;cases h;obtain⟨h1,h2⟩:=Tk d hm
  grind
theorem VV(hS:sI P C B N I)(hH:sB B N μ H w)(hcs:oF C μ acs cs)(hR:yG μ R (b.atR ⟨tmps,ds⟩ []))(hk:mC (mF μ) k k'){olds:List (Nat × List Nat)}{anc:Tr Nat}{old:Tm}{D:Nat}{S:Nat->Bool}{order:List Nat}{st:aD}{stages:List aD}
  (hr:xF μ all olds anc R.n old tm D S order tmps) (hst:cH all.toList anc (st::stages) D=true) (hp:vG C μ acs.length H all olds R.n old tm D S) (hlt:all.size+all.size<st.heavy) :
  zD P C B N μ base (lone (b.atR ⟨tmps,ds⟩ (.inRegion all order::k')) (cs++base) w) w (Iu all old olds st stages C k tm R acs H):=by
 obtain⟨D1,D2,hG,h2,h3⟩:=SW hst hlt;unfold Iu;generalize hx:(xB (uT C all) (ob (Df all old olds tm st.again) fun es=>ob (dV C es H) fun H'=>ob (aN C H' all R.n old olds st.lights tm) fun tm'=>some (⟨⟨.reg all old olds stages::k,tm',R⟩,acs,H'⟩:jO)))=x
 cases x with
 | none=>exact trivial
 | some x=>
  simp only[uA,oB]at hx;obtain⟨hlen,es,he,H1,hg,tm',hl,hx⟩:=hx;cases hx;unfold dV at hg;simp only[uA,oB,ybb]at hg;obtain⟨rs,hrs,⟨hap,hrd⟩,hg⟩:=hg;obtain⟨e1,e2⟩:=Tk (tK.store 0 .nilptr .nilptr) he;obtain⟨e3,e4⟩:=Tk (RE.st 0 0 []) hrs;have hef:∀i∈st.again,jT all old olds tm i=some ((jT all old olds tm i).getD (tK.store 0 .nilptr .nilptr))/\uR C ((jT all old olds tm i).getD (tK.store 0 .nilptr .nilptr))=some ((uR C ((jT all old olds tm i).getD (tK.store 0 .nilptr .nilptr))).getD (RE.st 0 0 [])):=
   fun i hi=>⟨e1 i hi,e3 _ (by grind)⟩
  generalize hE:(fun i=>(jT all old olds tm i).getD (tK.store 0 .nilptr .nilptr))=ef at e2;have hef:∀i∈st.again,jT all old olds tm i=some (ef i)/\uR C (ef i)=some ((fun i=>(uR C (ef i)).getD (RE.st 0 0 [])) i):=by
   grind
  have hrs':rs=st.again.map fun i=>(uR C (ef i)).getD (RE.st 0 0 []):=by rw[e4,e2,List.map_map];rfl
  generalize (fun i=>(uR C (ef i)).getD (RE.st 0 0 []))=re at hef hrs';subst hrs';have hap:=KJ hap;have hrd:∀i∈st.again,Ik C H (re i):=by
   grind [aI,RK]
  have hd1:lK C H (st.again.map re) H1:=by
   have:=lK.list lK.nil (l:=st.again.map re) (fun e he=>by grind) (by grind) hg
   rwa [yah]at this
  obtain⟨S',order',tmps',μ',w',seq,Hs,s1,b1,l1,d1,pm,dn,hm,hH',r1,p1,hin⟩:=zal (b:=b) (k:=k') (cs:=cs++base) (ds:=ds) (H:=H) hS.tys hS.base hG hlen hef hap hrd order S tmps μ w [] H D List.nodup_nil (fun i hi=>by cases hi) lK.nil (fun i hi=>by cases hi) (fun k=>by simp) hH hr hp;have hapS:(seq.map re).Pairwise kO:=((pm.map re).symm.pairwise_iff (fun h=>kO.symm h)).1 hap;have heq:HEq' μ' Hs H1:=dn.perm hd1 (pm.map re) hapS fun e he=>by grind
  have hH1:=hH'.congr' heq;have p2:vG C μ' acs.length H1 all olds R.n old tm D1 S':=by
   cases hG0:st.again with
   | nil=>
    rw[hG0]at pm hd1;have hs0:seq=[]:=List.Perm.eq_nil pm;subst hs0;have hle:HM.HLe Hs H1:=fun a y hy=>by rw[hd1.no a (fun e he=>by cases he),<- dn.no a (fun e he=>by cases he)];exact hy
    intro j hj hSj;rcases p1 j hj hSj with⟨u,wu,vu,pu⟩ | h
    ·exact .inl ⟨u,wu,vu,pu.grow hle⟩
    grind
   | cons g l=>
    have hg:g∈st.again:=by grind
    have hSg:S' g=true:=hin g (pm.mem_iff.2 hg);obtain⟨o,ho,_⟩:=hG.op g hg;refine CP hG hlen (seq:=st.again) hG.done (fun i hi=>hin i (pm.mem_iff.2 hi)) hg (fun k hk=>r1.reg.up r1.closed ho (fun j hj=>r1.closed g o ho hSg j hj) hk) p1 H1
  obtain⟨r2,p3⟩:=Ly _ _ _ hl h2 r1 p2;exact⟨_,_,cs,w',s1,l1,b1,hH1,⟨((hR.mono l1).slots r1.size).todo,by rw[yab hR.running];exact .reg r2 h3 p3 (hk.mono fun _ _ r=>r.mono l1)⟩,hcs.monoD fun d hd=>d1 d (by omega)⟩
end
end
section
section
variable {P:Program}{C:oA}{B N:Nat}{I:World->Prop}{μ ν:Mu}{H H':xA}{w:World}{tm:Tm}{R:kI}{acs:List zC}{base cs:List Frame}
variable {b:Frame}{tmps:Array Value}{ds:List Deferred}{k:List qD}{k':List Item}{all:Array Oper}
theorem zbd(hH:sB B N μ H w)(hcs:oF C μ acs cs)(hR:yG μ R (b.atR ⟨tmps,ds⟩ []))(ht:iD μ R.n tm tmps)(hk:mC (mF μ) k k') :
  zD P C B N μ base (lone (b.atR ⟨tmps,ds⟩ (.beginRound::k')) (cs++base) w) w (Et C k tm R acs H):=by
 unfold Et
 cases hr:R.roundOf with
 | none=>exact trivial
 | some l=>
  obtain⟨i,hi,hb⟩:∃i,μ l=some i/\b.roundOf=some i.b:=by
   have:=hR.round;rw[hr]at this;exact Ry this
  rw[tA]
  cases hx:cI H l with
  | none=>exact trivial
  | some r=>
   rw[tA]
   cases hst:Nat.beq (LoopState.tag r.state) 0 with
   | false=>exact trivial
   | true=>
    obtain⟨hl,r',hg,hw,rel⟩:=Hb hH hx hi;have ready:r'.state=.ready:=by
     rw[rel.state];cases hs:r.state<;>rw[hs]at hst<;>first | rfl | grind [LoopState.tag,Nat.beq]
    have run:(Instr.beginRound i.b).run P w=.ok () (World.setBlk w i.b (.loop { r' with state:=.busy })):=by
     simp_all [Instr.beginRound,Ga,Bx]
    refine⟨μ,_,cs,_,.one (stepR_beginRound hb run),fun _ _ h=>h,zU (hH.own l i hl hi).1,?_,⟨?_,?_⟩,hcs⟩
    ·refine hH.upd hg hi hl ?_;rw[nH];exact⟨_,rfl,rfl,rel.pending,rel.fn,rel.tm,rel.params,rel.assign,rel.body,rel.defers⟩
    ·refine⟨hR.fn,hR.size,hR.defers,hR.mode,hR.kind,?_⟩;exact hR.round
    ·show if R.mode.running=true then kK C μ acs.length R.n _ k tm k' tmps else iD μ R.n tm tmps;rw[yab hR.running];exact .plain hk ht
theorem OF{l:Nat}{jump:Option Code}{w':World}{cs:List Frame}(hr:(Instr.endLoop l).run P w=.ok jump w') :
  step P (lone (b.atR ⟨tmps,ds⟩ (.endRangeFunc l::k')) cs w)=.next (lone (b.atR ⟨tmps,ds⟩ ((jump.map Item.code).toList++k')) cs w'):=
 step_lone_go (by simp_all [stepG,stepG.exec,Frame.atR])
theorem XD(hH:sB B N μ H w)(hcs:oF C μ acs cs)(hR:yG μ R (b.atR ⟨tmps,ds⟩ []))(ht:iD μ R.n tm tmps)(hk:mC (mF μ) k k'){l:Nat}{i:BI}(hi:μ l=some i) :
  zD P C B N μ base (lone (b.atR ⟨tmps,ds⟩ (.endRangeFunc i.b::k')) (cs++base) w) w (Ep l C k tm R acs H):=by
 unfold Ep
 cases hx:cI H l with
 | none=>exact trivial
 | some r=>
  rw[tA]
  cases hst:Nat.beq (LoopState.tag r.state) 1 with
  | true=>exact trivial
  | false=>
   obtain⟨hl,r',hg,hw,rel⟩:=Hb hH hx hi;have busy:r'.state≠.busy:=by
    intro e;rw[rel.state]at e;rw[e]at hst;cases hst
   have run:(Instr.endLoop i.b).run P w=.ok r'.pending (World.setBlk w i.b (.loop { r' with state:=.exhausted })):=by
    simp_all [Instr.endLoop,Ga,Bx]
   refine⟨μ,_,cs,_,.one (OF run),fun _ _ h=>h,zU (hH.own l i hl hi).1,?_,⟨?_,?_⟩,hcs⟩
   ·refine hH.upd hg hi hl ?_;rw[nH];exact⟨_,rfl,rfl,rel.pending,rel.fn,rel.tm,rel.params,rel.assign,rel.body,rel.defers⟩
   ·exact⟨hR.fn,hR.size,hR.defers,hR.mode,hR.kind,hR.round⟩
   ·show if R.mode.running=true then kK C μ acs.length R.n _ (match r.pending with | some c=>.code c::k | none=>k) tm ((r'.pending.map Item.code).toList++k') tmps else iD μ R.n tm tmps
    rw[yab hR.running,rel.pending]
    cases r.pending with
    | none=>exact .plain hk ht
    | some c=>exact .plain (.cons (.code c) hk) ht
theorem Zq{f:Operand}{params:Array Nat}{assign body:Code}{l:Nat}{mark:List Deferred}{w1:World}{g:Nat}{args':Array Value}{cs:List Frame}
  (hE:(Instr.enterLoop b.fn tmps params assign body b.roundOf).run P w=.ok (l,mark) w1)
  (hA:(do let d <- resolve (Act.eval ⟨tmps,ds⟩) { callee:=.value f,args := #[.const (.func (.yield l) #[] #[])],argTypes := #[] } 0;invoke d.target d.args:Sem Next).run P w1=.ok (.enter g args') w1) :
  step P (lone (b.atR ⟨tmps,ds⟩ (.code (.rangeFunc f params assign body)::k')) cs w)=.next (lone (Frame.enter P g args' .normal) (b.atR ⟨tmps,mark++ds⟩ (.inRangeFunc l::k')::cs) w1):=by
 refine step_lone_go ?_;have he:(Frame.eval { b.atR ⟨tmps,ds⟩ (.code (.rangeFunc f params assign body)::k')with todo:=.inRangeFunc l::k',defers:=mark++ds })=Act.eval ⟨tmps,ds⟩:=funext fun x=>by cases x<;>rfl
 simp_all [Frame.atR,stepG,stepG.exec,stepG.apply]
theorem RS{l:Nat}{v:zA}{h:zC}(e:dU C l v=some h):∃g first cap,v=.func (.func g) first cap/\C.prims.get g=none/\oK C g (uD first (.func (.yld l) [] []::cap)) false=some h:=by
 grind [dU,uA,KD]
def BT{dp:Nat}(hS:sI P C B N I){l:Nat}{i:BI}{v:zA}{h:zC}(e:dU C l v=some h)(hi:μ l=some i){f:Operand}(hv:vA μ v (Act.eval ⟨tmps,ds⟩ f)){cur:Option xA} :
  ∃g args',(∀w,(do let d <- resolve (Act.eval ⟨tmps,ds⟩) { callee:=.value f,args := #[.const (.func (.yield i.b) #[] #[])],argTypes := #[] } 0;invoke d.target d.args:Sem Next).run P w=.ok (.enter g args') w) ∧
   aH C μ dp cur h (Frame.enter P g args' .normal):=by
 obtain⟨g,first,cap,rfl,hp,he⟩:=RS e
 rw[vA]at hv;obtain⟨fn,a',c',hv,hf,h1,h2⟩:=hv;cases hf;have hl:pB μ (uD first (.func (.yld l) [] []::cap)) (a' ++ #[Value.func (.yield i.b) #[] #[]]++c').toList:=by
  rw[wG];have:pB μ (zA.func (.yld l) [] []::cap) (Value.func (.yield i.b) #[] #[]::c'.toList):=.cons (by rw[vA];exact⟨_,_,_,rfl,⟨i,hi,rfl⟩,.nil,.nil⟩) h2;simpa using h1.append this
 obtain⟨fr,fn,hfn,hb⟩:=Hx (cur:=cur) hS.fns he hl;refine⟨g,_,fun w=>?_,fr⟩;simp only[yad,resolve,hv,Deferred.ofValue,yae,yac,invoke];have:Array.map (Act.eval ⟨tmps,ds⟩) #[Operand.const (Value.func (.yield i.b) #[] #[])] = #[Value.func (.yield i.b) #[] #[]]:=by simp[Act.eval]
 rw[this];exact Kf hS.fns hfn hb
theorem RO(hS:sI P C B N I)(hH:sB B N μ H w)(hcs:oF C μ acs cs)(hR:yG μ R (b.atR ⟨tmps,ds⟩ []))(ht:iD μ R.n tm tmps)(hk:mC (mF μ) k k'){f:Operand}{params:Array Nat}{assign body:Code} :
  zD P C B N μ base (lone (b.atR ⟨tmps,ds⟩ (.code (.rangeFunc f params assign body)::k')) (cs++base) w) w (En f params assign body C k tm R acs H):=by
 unfold En
 cases hv:ev f (.now tm)with
 | none=>exact trivial
 | some v=>
  have hvr:=ht.erel (ds:=ds) hH.glob f _ hv;rw[tA]
  cases hr:R.roundOf with
  | none=>
   have hb:b.roundOf=none:=by
    have:=hR.round;rw[hr]at this;exact BD this
   simp only[]
   cases hx:dU C (H.next+1) v with
   | none=>exact trivial
   | some h=>
    have h1:=hH.newBlk (x:=.deferred (some [])) (o:=.deferred (some [])) (i:=⟨w.heap.size,true,0,0,false⟩) rfl rfl (by rw[nH];exact⟨_,rfl,.nil⟩);have le1:μ.le (μ.ext H.next ⟨w.heap.size,true,0,0,false⟩):=hH.ext_le;have le2:(μ.ext H.next ⟨w.heap.size,true,0,0,false⟩).le ((μ.ext H.next ⟨w.heap.size,true,0,0,false⟩).ext (newBlk H (.deferred (some []))).next ⟨w.heap.size+1,true,0,0,false⟩):=h1.ext_le
    have sz:(w.alloc (.deferred (some []))).heap.size=w.heap.size+1:=Array.size_push ..;have h2:=h1.newBlk (x:=.loop ⟨.ready,none,R.fn,R.n,tm,params.toList,assign,body,H.next⟩) (o:=.loop { state:=.ready,pending:=none,fn:=b.fn,tmps,params,assign,body,defers:=w.heap.size })
     (i:=⟨w.heap.size+1,true,0,0,false⟩) sz.symm rfl (by
      rw[nH];exact⟨_,rfl,rfl,rfl,hR.fn,(ht.mono le1.f).mono le2.f,rfl,rfl,rfl,⟨_,le2 _ _ Mu.ext_same,rfl⟩⟩)
    have le:=Mu.le_trans le1 le2;have hi2:((μ.ext H.next ⟨w.heap.size,true,0,0,false⟩).ext (newBlk H (.deferred (some []))).next ⟨w.heap.size+1,true,0,0,false⟩) (H.next+1)=some ⟨w.heap.size+1,true,0,0,false⟩:=Mu.ext_same;obtain⟨g,args',hA,hfr⟩:=BT (ds:=ds) hS hx hi2 (hvr.mono le.f _ _) (cur:=some (newBlk (newBlk H (.deferred (some []))) (.loop ⟨.ready,none,R.fn,R.n,tm,params.toList,assign,body,H.next⟩)))
    have run:(Instr.enterLoop b.fn tmps params assign body b.roundOf).run P w=.ok (w.heap.size+1,[{ target:=.collected w.heap.size,args := #[] }]) ((w.alloc (.deferred (some []))).alloc (.loop { state:=.ready,pending:=none,fn:=b.fn,tmps,params,assign,body,defers:=w.heap.size })):=by
     simp_all [Instr.enterLoop]
    refine⟨_,_,b.atR ⟨tmps,{ target:=.collected w.heap.size,args := #[] }::ds⟩ (.inRangeFunc (w.heap.size+1)::k')::cs,_,.one (Zq run (hA _)),le,?_,h2,hfr,.cons ⟨?_,?_⟩ (hcs.mono le)⟩
    ·refine(qO hH.size _).trans (qO ?_ _);rw[sz];have:=hH.size;omega
    ·have:=hR.mono le.f;exact⟨this.fn,this.size,.cons ⟨⟨_,le2 _ _ Mu.ext_same,rfl⟩⟩ this.defers,this.mode,this.kind,by have:=this.round;rw[hr]at this;exact this⟩
    ·show if R.mode.running=true then kK C _ acs.length R.n none (.inRange (H.next+1)::k) tm (.inRangeFunc (w.heap.size+1)::k') tmps else _;rw[yab hR.running];exact .plain (.cons (.inRange _ ⟨w.heap.size+1,true,0,0,false⟩ hi2) (hk.mono fun _ _ r=>r.mono le.f)) (ht.mono le.f)
  | some outer=>
   obtain⟨io,hio,hb⟩:∃i,μ outer=some i/\b.roundOf=some i.b:=by
    have:=hR.round;rw[hr]at this;exact Ry this
   simp only[]
   cases hlo:cI H outer with
   | none=>exact trivial
   | some o=>
    rw[tA]
    cases hx:dU C H.next v with
    | none=>exact trivial
    | some h=>
     obtain⟨hl,r',hg,hw,rel⟩:=Hb hH hlo hio;obtain⟨idf,hdf,hdf'⟩:=rel.defers;have le:μ.le (μ.ext H.next ⟨w.heap.size,true,0,0,false⟩):=hH.ext_le;have h2:=hH.newBlk (x:=.loop ⟨.ready,none,R.fn,R.n,tm,params.toList,assign,body,o.defers⟩) (o:=.loop { state:=.ready,pending:=none,fn:=b.fn,tmps,params,assign,body,defers:=r'.defers })
      (i:=⟨w.heap.size,true,0,0,false⟩) rfl rfl (by
       rw[nH];exact⟨_,rfl,rfl,rfl,hR.fn,ht.mono le,rfl,rfl,rfl,⟨idf,le _ _ hdf,hdf'⟩⟩)
     have hi2:(μ.ext H.next ⟨w.heap.size,true,0,0,false⟩) H.next=some ⟨w.heap.size,true,0,0,false⟩:=Mu.ext_same;obtain⟨g,args',hA,hfr⟩:=BT (ds:=ds) hS hx hi2 (hvr.mono le.f _ _) (cur:=some (newBlk H (.loop ⟨.ready,none,R.fn,R.n,tm,params.toList,assign,body,o.defers⟩)));have run:(Instr.enterLoop b.fn tmps params assign body b.roundOf).run P w=.ok (w.heap.size,[]) (w.alloc (.loop { state:=.ready,pending:=none,fn:=b.fn,tmps,params,assign,body,defers:=r'.defers })):=by
      simp_all [Instr.enterLoop,Ga]
     refine⟨_,_,b.atR ⟨tmps,ds⟩ (.inRangeFunc w.heap.size::k')::cs,_,.one (Zq run (hA _)),le,qO hH.size _,h2,hfr,.cons ⟨?_,?_⟩ (hcs.mono le)⟩
     ·have:=hR.mono le.f;exact⟨this.fn,this.size,this.defers,this.mode,this.kind,this.round⟩
     ·show if R.mode.running=true then kK C _ acs.length R.n none (.inRange H.next::k) tm (.inRangeFunc w.heap.size::k') tmps else _;rw[yab hR.running];exact .plain (.cons (.inRange _ ⟨w.heap.size,true,0,0,false⟩ hi2) (hk.mono fun _ _ r=>r.mono le.f)) (ht.mono le.f)
def OA{c:Code}:step P (lone (b.atR ⟨tmps,ds⟩ (.code (.scope c)::k')) cs w)=.next (lone (b.atR ⟨tmps,ds⟩ (.code c::.inScope c::k')) cs w):=
 step_lone_go (by simp[stepG,stepG.exec,Frame.atR])
def OE{c:Code}:step P (lone (b.atR ⟨tmps,ds⟩ (.inScope c::k')) cs w)=.next (lone (b.atR ⟨tmps,ds⟩ k') cs w):=
 step_lone_go (by simp[stepG,stepG.exec,Frame.atR])
def zes(hS:sI P C B N I)(hI:I w)(hH:sB B N μ H w)(hcs:oF C μ acs cs)(hR:yG μ R (b.atR ⟨tmps,ds⟩ []))(ht:iD μ R.n tm tmps):∀(c:Code) {k:List qD} {k':List Item},mC (mF μ) k k' →
  zD P C B N μ base (lone (b.atR ⟨tmps,ds⟩ (.code c::k')) (cs++base) w) w ((Om c).f C k tm R acs H):=by
 intro c;induction c with
 | skip=>intro k k' hk;exact Kx hH hcs hR ht hk stepR_skip
 | region id ops d=>
  intro k k' hk
  cases d with
  | true=>exact zen hS hH hcs hR ht hk
  | false=>
   refine zD.of_steps (.one stepR_region) (fun _ _ h=>h) (Below.refl N w) ?_;have:=AZ (base:=base) (all:=ops) hS ops.toList 0 tm.cut H w μ tmps (by simp) (yaw _) hI hH hcs hR ht.cut hk;rw[ycr]at this;exact this
 | seq x y ihx _=>
  intro k k' hk;exact zD.of_steps (.one stepR_seq) (fun _ _ h=>h) (Below.refl N w) (ihx (.cons (.code y) hk))
 | cond c x y _ _=>intro k k' hk;exact zeq hH hcs hR ht hk
 | block id c _=>intro k k' hk;exact zbc hH hcs hR ht hk
 | loop c _=>intro k k' hk;exact zdl hH hcs hR ht hk
 | rangeFunc f ps a c _ _=>intro k k' hk;exact RO hS hH hcs hR ht hk
 | exit id=>intro k k' hk;exact zeh hH hcs hR ht hk
 | scope c _=>intro k k' hk;exact aU hH hcs hR ht (.cons (.code _) (.cons (.inScope _) hk)) (.one OA)
 | label l=>intro k k' hk;exact Kx hH hcs hR ht hk stepR_label
 | goto l=>intro k k' _;exact trivial
 | ret=>intro k k' _;exact ret_ok hH hcs hR ht
 | refuse s=>intro k k' _;exact trivial
theorem zei(hS:sI P C B N I)(hI:I w)(hH:sB B N μ H w)(hcs:oF C μ acs cs)(hR:yG μ R (b.atR ⟨tmps,ds⟩ [])){todo:List qD}{btodo:List Item}(hb:kK C μ acs.length R.n (some H) todo tm btodo tmps) :
  zD P C B N μ base (lone (b.atR ⟨tmps,ds⟩ btodo) (cs++base) w) w (vO C todo tm R acs H):=by
 generalize hc:some H=cur at hb
 cases hb with
 | plain a t=>
  cases a with
  | nil=>exact end_ok hH hcs hR t
  | cons i hk=>
   cases i with
   | code c=>exact zes hS hI hH hcs hR t c hk
   | inBlock id=>exact Kx hH hcs hR t hk stepR_inBlock
   | inLoop c=>exact aU hH hcs hR t (.cons (.code _) (.cons (.inLoop _) hk)) (.one stepR_inLoop)
   | inScope c=>exact Kx hH hcs hR t hk OE
   | ops all i hi=>exact AZ hS _ i _ _ _ _ _ rfl hi hI hH hcs hR t hk
   | inRange l i hl=>exact trivial
   | endRange l i hl=>exact XD hH hcs hR t hk hl
   | beginRound=>exact zbd hH hcs hR t hk
 | @reg _ all old _ olds stages _ order _ _ anc D S hr hst hp hk=>
  cases hc;show zD P C B N μ base _ w (iO all old olds stages C _ tm R acs H);unfold iO
  cases stages with
  | nil=>grind [RG]
  | cons st stages=>
   by_cases hlt:st.heavy<=all.size
   ·obtain⟨_,_,D1,D2,h1,_⟩:=Kz hst hlt;obtain⟨o,ho,_⟩:=Gq h1;have:fC all.toList st.heavy=some o:=by grind [eF]
    simp only[this];grind [zag]
   ·have:fC all.toList st.heavy=none:=by grind [eF]
    simp only[this];grind [vC,vD,VV,WB]
 | @mid _ all old _ olds lights again stages _ order _ _ anc D D2 S hr h1 h2 hw hk=>
  show zD P C B N μ base _ w (iO all old olds (⟨all.size,lights,again⟩::stages) C _ tm R acs H);unfold iO;have:fC all.toList all.size=none:=by rw[eF];simp
  simp only[this];grind [vC,vD,UK]
 | wait _ _ _ _ _=>cases hc
end
end
section
section
variable {P:Program}{C:oA}{B N:Nat}{I:World->Prop}{μ ν:Mu}{H H':xA}{w:World}{tm:Tm}{R:kI}{acs:List zC}{base cs:List Frame}
variable {b:Frame}{tmps:Array Value}
theorem NX{block:Nat}{es calls:List Deferred}{w':World}(hm:b.mode≠.run)(hd:b.defers={ target:=.collected block,args := #[] }::es)(hr:(Instr.takeDeferred block).run P w=.ok calls w') :
  step P (lone b cs w)=.next (lone { b with defers:=calls++es } cs w'):=by
 obtain⟨fn,tmps,todo,defers,mode,kind,round⟩:=b;simp only at hm hd;subst hd;refine step_lone_go ?_
 simp_all [stepG,unwind]
theorem NY{f:Nat}{cap as:Array Value}{es:List Deferred}(hm:b.mode≠.run)(hd:b.defers={ target:=.fn (.func f) cap,args:=as }::es)(hr:(callFunc f (as++cap)).run P w=.ok (.enter f (as++cap)) w) :
  step P (lone b cs w)=.next (lone (Frame.enter P f (as++cap) .deferred) ({ b with defers:=es }::cs) w):=by
 obtain⟨fn,tmps,todo,defers,mode,kind,round⟩:=b;simp only at hm hd;subst hd;refine step_lone_go ?_
 simp_all [stepG,unwind,callDeferred,invoke]
def tW(c:Frame):Frame:=
 match c.mode with
 | .panicking ({ recovered:=true,.. }::older)=>
  match older.dropWhile (!·.goexit)with
  | []=>{ c with mode:=.returning }
  | rest=>{ c with mode:=.panicking rest }
 | _=>c
def NW{fn:Func}{v:Value}{c:Frame}(hm:b.mode=.returning)(hd:b.defers=[])(hk:b.kind=.deferred)(hf:P.funcs[b.fn]?=some fn)(hr:(results fn b.tmps).run P w=.ok v w) :
  step P (lone b (c::cs) w)=.next (lone (tW c) cs w):=by
 refine step_lone_go ?_;simp only[stepG,unwind,doReturn,hm,hd,hk,hf,Sem.runT_eq,hr,GStep.bare_after];rfl
def Kk(tmps:Array Value)(r:ResultVar):Sem Value:=
 match r with
 | .tmp t=>pure (tmps.getD t undef)
 | .cell a t=>do loadVar t (<- asAddr (tmps.getD a undef))
theorem QV(fn:Func)(tmps:Array Value):results fn tmps=(do let vs <- fn.results.mapM (Kk tmps);pure (if h:vs.size=1 then vs[0]else .tuple vs)):=rfl
theorem PY(hT:qE P C)(hH:sB B N μ H w){n:Nat}(ht:iD μ n tm tmps):∀(rs:List ResultVar) (l:List zA),aF (bW C H tm) rs=some l →
  ∃vs,(rs.mapM (Kk tmps)).run P w=.ok vs w/\pB μ l vs:=by
 intro rs;induction rs with
 | nil=>intro l h;rw[gZ]at h;cases h;exact⟨[],by simp_all,.nil⟩
 | cons r rs ih=>
  intro l h;rw[dL,uA]at h;obtain⟨a,ha,h⟩:=h;rw[uA]at h;obtain⟨m,hm,h⟩:=h;cases h;obtain⟨vs,h1,h2⟩:=ih m hm;rw[List.mapM_cons]
  cases r with
  | tmp t=>
   refine⟨_,?_,.cons (ht.2 t a ha) h2⟩
   grind [Kk,Sem.run_bind,Sem.run_pure,Result.andThen_ok]
  | cell x t=>
   simp only[bW,uA,Au]at ha;obtain⟨p,⟨av,hav,rfl⟩,ty,hty,c,hc,hl⟩:=ha;have hv:=ht.2 x _ hav;rw[vA]at hv;obtain⟨i,hi,hv⟩:=hv;obtain⟨v',h3,h4⟩:=DX (P:=P) hH (hT.facts hty) hc hi hl;refine⟨_,?_,.cons h4 h2⟩
   grind [asAddr,Kk,Sem.run_bind,Sem.run_pure,Result.andThen_ok]
theorem BG(hT:qE P C)(hH:sB B N μ H w){n:Nat}(ht:iD μ n tm tmps){fn:Func}{l:List zA}(h:fU C H tm fn.results.toList=some l) :
  ∃v,(results fn tmps).run P w=.ok v w/\vA μ (yZ l) v:=by
 obtain⟨vs,h1,h2⟩:=PY hT hH ht _ _ h;refine⟨if h:vs.toArray.size=1 then vs.toArray[0]else .tuple vs.toArray,?_,?_⟩
 ·grind [QV,Array.mapM_eq_mapM_toList,Sem.run_bind,map_eq_pure_bind,Result.andThen_ok,Sem.run_pure]
 ·have hl:=h2.length
  cases l with
  | nil=>
   rw[pB]at h2;subst h2;rw[dif_neg (by simp)];show vA μ (.tup []) _;rw[vA];exact⟨_,rfl,.nil⟩
  | cons a m=>
   cases m with
   | nil=>
    rw[pB]at h2;obtain⟨v,r,rfl,hv,hr⟩:=h2;rw[pB]at hr;subst hr;rw[dif_pos (by simp)];exact hv
   | cons a2 m=>
    rw[dif_neg (by simp[hl])];show vA μ (.tup (a::a2::m)) _
    grind [vA]
def DefRel(μ:Mu):Option (List rI)->Option (List Deferred)->Prop
 | none,none=>True
 | some a,some b=>mC (nW μ) a b
 | _,_=>False
def XU(hH:sB B N μ H w){l:Nat}{x:Option (List rI)}(h:eT H l=some x){i:BI}(h4:μ l=some i):B<=l/\∃x',H.t.get l=some (.deferred x)/\w.heap[i.b]?=some (.deferred x')/\DefRel μ x x':=by
 unfold eT at h;rw[oB,rE,uA]at h;obtain⟨h1,y,h2,h3⟩:=h;have:y=.deferred x:=by cases y<;>simp[sA.asDeferred]at h3;rw[h3]
 subst this;obtain⟨o,h5,h6⟩:=hH.blk l _ i h2 h4;rw[nH]at h6;obtain⟨r',rfl,h7⟩:=h6;refine⟨Nat.le_of_not_lt fun hlt=>?_,r',h2,h5,?_⟩
 ·have:=(hH.low l _ i hlt h2 h4).2.2;cases this
 cases x<;>cases r'<;>exact h7
def TH{μ:Mu}{m:pU}{m':FrameMode}(h:Im μ m m')(hm:m.running=false):m'≠.run:=by
 rintro rfl;cases m<;>first | exact h.elim | cases hm
theorem MV(hS:sI P C B N I)(hH:sB B N μ H w)(hcs:oF C μ acs cs){fr:zC}(hr:yG μ fr.R b)(hm:fr.R.mode.running=false)(ht:iD μ fr.R.n fr.tm b.tmps){d:rI}{l:List rI}(hd:fr.R.defers=d::l) :
  zD P C B N μ base (lone b (cs++base) w) w (Fg C d l fr acs H):=by
 have hrun:=TH hr.mode hm;have hds:=hr.defers;rw[hd]at hds;generalize hbd:b.defers=bd at hds
 cases hds with
 | @cons _ e _ es h1 h2=>
  obtain⟨dfn,dr,dargs⟩:=d;have h1:=h1.rel;unfold Fg
  cases dfn with
  | none=>
   obtain⟨i,hi,rfl⟩:=h1;simp only[]
   cases hx:eT H dr with
   | none=>exact trivial
   | some x=>
    rw[tA]
    cases x with
    | none=>exact trivial
    | some calls=>
     obtain⟨hl,x',hg,hw,rel⟩:=XU hH hx hi
     cases x' with
     | none=>exact rel.elim
     | some calls'=>
      have run:(Instr.takeDeferred i.b).run P w=.ok calls' (World.setBlk w i.b (.deferred none)):=by
       simp_all [Bx,getObj,Sem.run,Instr.takeDeferred]
      refine⟨μ,_,cs,_,.one (NX hrun hbd run),fun _ _ h=>h,zU (hH.own dr i hl hi).1,?_,⟨?_,?_⟩,hcs⟩
      ·refine hH.upd hg hi hl ?_
       grind [nH]
      ·refine⟨hr.fn,hr.size,?_,hr.mode,hr.kind,hr.round⟩;show mC (nW μ) (uD calls l) (calls'++es);rw[wG];exact mC.append rel h2
      ·show if fr.R.mode.running=true then kK C _ _ _ _ _ _ _ _ else _;rw[yaa (by grind)];exact ht
  | some fn=>
   cases fn with
   | yld m=>exact trivial
   | func f=>
    obtain⟨fn,cap,as,rfl,hfn,hl⟩:=h1;cases hfn;simp only[]
    cases hp:C.prims.get f with
    | some x=>exact trivial
    | none=>
     simp only[]
     cases he:oK C f dargs true with
     | none=>exact trivial
     | some g=>
      obtain⟨h3,fn,hfn,hb⟩:=Hx (cur:=some H) hS.fns he hl;refine⟨μ,_,{ b with defers:=es }::cs,w,.one (NY hrun hbd (Kf hS.fns hfn hb)),fun _ _ h=>h,Below.refl N w,hH,h3,.cons ⟨⟨hr.fn,hr.size,h2,hr.mode,hr.kind,hr.round⟩,?_⟩ hcs⟩;show if fr.R.mode.running=true then kK C _ _ _ _ _ _ _ _ else _;rw[yaa (by grind)];exact ht
theorem aH.still{dp:Nat}{cur cur':Option xA}{fr:zC}(h:aH C μ dp cur fr b)(hm:fr.R.mode.running=false):aH C μ dp cur' fr b:=by
 refine⟨h.rest,?_⟩;have:=h.body
 simp_all
theorem XK{l:List PanicEntry}{m:List lY}(h:mC (qY μ) m l):l.dropWhile (!·.goexit)=[]:=by
 induction h with
 | nil=>rfl
 | cons a _ ih=>simp[a.goexit,ih]
def Nv(c:zC)(rest:List zC)(H:xA):Option jO:=
 match c.R.mode with
 | .panicking (⟨_,true⟩::_)=>some (⟨Fy c .returning,rest,H⟩:jO)
 | _=>xB (!c.R.mode.running) (some ⟨c,rest,H⟩)
def CA(C:oA)(fr:zC)(ch:List lY)(cs:List zC)(H:xA):pE:=
 jJ (ob (C.fns.get fr.R.fn) fun _=>match cs with | c::rest=>some ⟨Kn c ch,rest,H⟩ | []=>none) 19
theorem zex{dp:Nat}{c:zC}{c':Frame}(hc:aH C μ dp none c c'){x:jO}{rest:List zC}(h:Nv c rest H=some x):x.cs=rest/\x.H=H/\aH C μ dp (some H) x.fr (tW c'):=by
 have hm:=hc.rest.mode;have stay:c'.mode=c'.mode->(tW c'=c')->c.R.mode.running=false->x=⟨c,rest,H⟩->x.cs=rest/\x.H=H/\aH C μ dp (some H) x.fr (tW c'):=by
  intro _ h1 h2 h3;subst h3;rw[h1];exact⟨rfl,rfl,hc.still h2⟩
 obtain⟨ct,ctm,cR⟩:=c;obtain⟨f,n,de,mode,dd,ro⟩:=cR;unfold Nv at h;simp only at h hm
 cases mode with
 | run=>cases h
 | returning=>
  cases hcm:c'.mode with
  | returning=>exact stay rfl (by unfold tW;rw[hcm]) rfl (yci h).symm
  | _=>rw[hcm]at hm;exact hm.elim
 | panicking ch=>
  cases hcm:c'.mode with
  | run=>rw[hcm]at hm;exact hm.elim
  | returning=>rw[hcm]at hm;exact hm.elim
  | panicking ch'=>
   rw[hcm]at hm
   cases hm with
   | nil=>exact stay rfl (by unfold tW;rw[hcm]) rfl (yci h).symm
   | @cons p e older older' hp hold=>
    obtain⟨pv,pr⟩:=p;obtain⟨ev',er,eg⟩:=e;obtain⟨q1,q2,q3⟩:=hp;simp only at q1 q2 q3;subst q2 q3
    cases er with
    | false=>exact stay rfl (by unfold tW;rw[hcm]) rfl (yci h).symm
    | true=>
     cases yci h;refine⟨rfl,rfl,?_⟩;have:tW c'={ c' with mode:=.returning }:=by
      grind [tW,XK]
     rw[this];have hb:=hc.body;exact⟨⟨hc.rest.fn,hc.rest.size,hc.rest.defers,trivial,hc.rest.kind,hc.rest.round⟩,hb⟩
theorem MU(hS:sI P C B N I)(hH:sB B N μ H w)(hcs:oF C μ acs cs){fr:zC}(hr:yG μ fr.R b)(hm:b.mode=.returning)(hd:b.defers=[])(ht:iD μ fr.R.n fr.tm b.tmps) :
  zD P C B N μ base (lone b (cs++base) w) w (Fe C fr acs H):=by
 unfold Fe
 cases hx:ob (C.fns.get fr.R.fn) fun fn=>fU C H fr.tm fn.results.toList with
 | none=>exact trivial
 | some l=>
  rw[uA]at hx;obtain⟨fn,hfn,hres⟩:=hx;obtain⟨v,h1,h2⟩:=BG hS.tys hH ht hres;have hf:P.funcs[b.fn]?=some fn:=by rw[hr.fn];exact(hS.fns _ _ hfn).1
  have hk:=hr.kind;simp only[]
  cases hcs with
  | nil=>
   simp only[eC]
   cases hdf:fr.R.deferred with
   | true=>exact trivial
   | false=>
    rw[hdf]at hk;rw[yaa (by simp)];split
    ·rename_i hroot;exact⟨μ,b,w,v,.refl _ _,fun _ _ h=>h,Below.refl N w,hH,h2,by rw[hr.fn];simp_all,hm,hd,hk,fn,hf,h1⟩
    ·exact trivial
  | @cons c c' acs1 cs1 hc hcs1=>
   simp only[]
   cases hdf:fr.R.deferred with
   | true=>
    rw[hdf]at hk;simp only[cond_true];show zD P C B N μ base _ w (jJ (Nv c acs1 H) 18);generalize hx:Nv c acs1 H=x
    cases x with
    | none=>exact trivial
    | some x=>
     obtain⟨h3,h4,h5⟩:=zex hc hx;obtain⟨xf,xc,xh⟩:=x;simp only at h3 h4 h5;subst h3 h4;exact⟨μ,_,cs1,w,.one (NW hm hd hk hf h1),fun _ _ h=>h,Below.refl N w,hH,h5,hcs1⟩
   | false=>
    rw[hdf]at hk;simp only[cond_false]
    cases hfi:lG c (yZ l)with
    | none=>exact trivial
    | some g=>
     exact⟨μ,_,cs1,w,.one (step_leave_returned ⟨hm,hd,hk,fn,hf,h1⟩),fun _ _ h=>h,Below.refl N w,hH,Ag hc hfi h2,hcs1⟩
theorem MN(hS:sI P C B N I)(hH:sB B N μ H w)(hcs:oF C μ acs cs){fr:zC}(hfr:aH C μ acs.length (some H) fr b)(hm:fr.R.mode.running=false) :
  zD P C B N μ base (lone b (cs++base) w) w (Jf C fr acs H):=by
 have ht:iD μ fr.R.n fr.tm b.tmps:=by
  have:=hfr.body
  simp_all
 have hr:=hfr.rest;unfold Jf
 cases hd:fr.R.defers with
 | cons d l=>grind [MV]
 | nil=>
  have hbd:b.defers=[]:=by
   have:=hr.defers;rw[hd]at this;generalize hbd:b.defers=bd at this;cases this;rfl
  have hmode:=hr.mode;simp only[]
  cases hmo:fr.R.mode with
  | run=>rw[hmo]at hm;cases hm
  | returning=>
   rw[hmo]at hmode;have:b.mode=.returning:=by
    cases hb:b.mode with
    | returning=>rfl
    | _=>rw[hb]at hmode;exact hmode.elim
   exact MU hS hH hcs hr this hbd ht
  | panicking ch=>
   rw[hmo]at hmode
   cases hb:b.mode with
   | run=>rw[hb]at hmode;exact hmode.elim
   | returning=>rw[hb]at hmode;exact hmode.elim
   | panicking ch'=>
    rw[hb]at hmode;show zD P C B N μ base _ w (CA C fr ch acs H);unfold CA
    cases hfn:C.fns.get fr.R.fn with
    | none=>exact trivial
    | some fn=>
     rw[tA];have hf:P.funcs[b.fn]?=some fn:=by rw[hr.fn];exact(hS.fns _ _ hfn).1
     cases hcs with
     | nil=>exact trivial
     | @cons c c' acs1 cs1 hc hcs1=>
      exact⟨μ,_,cs1,w,.one (step_leave_panicked ⟨hb,hbd,fn,hf⟩),fun _ _ h=>h,Below.refl N w,hH,BZ hc hmode,hcs1⟩
theorem OI(hS:sI P C B N I)(hI:I w){s:jO}(hH:sB B N μ s.H w)(hcs:oF C μ s.cs cs)(hfr:aH C μ s.cs.length (some s.H) s.fr b):zD P C B N μ base (lone b (cs++base) w) w (stepA C s):=by
 obtain⟨⟨todo,tm,R⟩,acs,H⟩:=s;show zD P C B N μ base _ w (bif R.mode.running then vO C todo tm R acs H else Jf C ⟨todo,tm,R⟩ acs H)
 cases hm:R.mode.running with
 | false=>grind [MN]
 | true=>
  have hb:=hfr.body;have hr:=hfr.rest;simp only at hb hr;rw[yab hm]at hb;have hbm:b.mode=.run:=by
   have h:=hr.mode
   cases hmo:R.mode with
   | run=>
    rw[hmo]at h
    cases hb:b.mode with
    | run=>rfl
    | _=>rw[hb]at h;exact h.elim
   | _=>rw[hmo]at hm;cases hm
  have e:=zbf hbm;have:=zei (b:=b) (tmps:=b.tmps) (ds:=b.defers) (base:=base) hS hI hH hcs ⟨hr.fn,hr.size,hr.defers,by have:=hr.mode;rw[hbm]at this;exact this,hr.kind,hr.round⟩ hb
  simp_all
theorem Zs(hS:sI P C B N I)(hI:I w){m:Machine}{o:pE}(h:zD P C B N μ base m w o):zD P C B N μ base m w (Bu C o):=by
 cases o with
 | fail n=>exact trivial
 | done v H=>exact h
 | next s=>
  obtain⟨μ',b,cs,w',h1,h2,h3,h4,h5,h6⟩:=h;exact zD.of_steps h1 h2 h3 (OI hS (hS.inv _ _ h3 hI) h4 h6 h5)
def zc6(hS:sI P C B N I)(hI:I w){m:Machine}:∀(n:Nat) {o:pE},zD P C B N μ base m w o->zD P C B N μ base m w (zP C n o):=by
 intro n;induction n with
 | zero=>intro o h;exact Zs hS hI h
 | succ n ih=>intro o h;exact ih (ih h)
def YJ(hS:sI P C B N I)(hI:I w){f:Nat}(hroot:C.root=f){args:List zA}{args':Array Value}(hH:sB B N μ H w)(hl:pB μ args args'.toList){g:zC}(he:oK C f args false=some g){n:Nat}{v:zA}{H':xA}
  (hrun:zP C n (.next ⟨g,[],H⟩)=.done v H') :
  Calls P f args' w fun e w'=>∃v' μ',e=.returned v'/\μ.lw μ'/\vA μ' v v'/\sB B N μ' H' w'/\Below N w w':=by
 intro base;have h0:zD P C B N μ base (lone (Frame.enter P f args' .normal) base w) w (.next ⟨g,[],H⟩):=
  ⟨μ,_,[],w,.refl _ _,fun _ _ h=>h,Below.refl N w,hH,(Hx (cur:=some H) hS.fns he hl).1,.nil⟩
 have h1:=zc6 hS hI n h0;rw[hrun]at h1;obtain⟨μ',b,w',v',h2,h3,h4,h5,h6,h7,h8⟩:=h1;exact⟨.returned v',w',b,⟨v',μ',rfl,h3,h6,h5,h4⟩,h2,by rw[h7,hroot],h8⟩
end
end
section
abbrev kB:=Option (zA × xA)
abbrev qG:=dQ->List zA->xA->kB
structure Kt where
 norm:Tm->xA->kB
 exit:Nat->Tm->xA->kB
 ret:Tm->xA->kB
structure PI where
 id:Nat
 pl:List Nat
 ll:List (Nat × Nat)
def PI.kept(p:PI):List Nat:=uD p.pl (List.rec (motive:=fun _=>List Nat) [] (fun a _ r=>a.1::r) p.ll)
inductive xD where
 | skip
 | region (id:Nat) (ops:Array Oper) (draw:Bool)
 | seq (a b:xD)
 | cond (c:Operand) (x y:xD)
 | block (id:Nat) (c:xD)
 | loop (p:PI) (c:xD)
 | exit (id:Nat)
 | ret
 | cut (p:PI) (c:xD)
 | range (i:Nat) (pl:List Nat) (f:Operand) (ps:Array Nat) (id:Nat) (ops:Array Oper) (c:xD)
def tF:xD->Code
 | .skip=>.skip
 | .region id ops d=>.region id ops d
 | .seq a b=>.seq (tF a) (tF b)
 | .cond c x y=>.cond c (tF x) (tF y)
 | .block id c=>.block id (tF c)
 | .loop _ c=>.loop (tF c)
 | .exit id=>.exit id
 | .ret=>.ret
 | .cut _ c=>tF c
 | .range _ _ f ps id ops c=>.rangeFunc f ps (.region id ops false) (tF c)
def lim {α:Type}(f:Nat->Option α):Option α:=@dite _ (∃n r,f n=some r) (Classical.propDecidable _) (fun h=>f h.choose) (fun _=>none)
def Mono {α:Type}(f:Nat->Option α):Prop:=∀n r,f n=some r->f (n+1)=some r
def Mono.le{α:Type}{f:Nat->Option α}(h:Mono f){n m:Nat}{r:α}(hr:f n=some r)(hnm:n<=m):f m=some r:=by
 induction hnm with
 | refl=>exact hr
 | step _ ih=>exact h _ _ ih
def Lu{α:Type}{f:Nat->Option α}(h:Mono f){r:α}:lim f=some r ↔ ∃n,f n=some r:=by
 unfold lim;by_cases hx:∃n r,f n=some r
 ·rw[dif_pos hx];obtain⟨r0,h0⟩:=hx.choose_spec;constructor
  ·grind
  ·rintro⟨n,hn⟩;have a:=h.le h0 (Nat.le_max_left hx.choose n);have b:=h.le hn (Nat.le_max_right hx.choose n)
   simp_all
 simp_all
def Td:sD->zA->(zA->kB)->kB
 | .bool,v,K=>ob v.asBool fun b=>K (.bool b)
 | .int k,v,K=>ob v.asIntK fun p=>xB (bL p.1 k) (K (.int k p.2))
 | .string,v,K=>ob v.asStr fun l=>K (.str l)
 | .ptr _,v,K=>K v
 | .slice _,v,K=>K v
 | .arr _ _,v,K=>K v
 | .map _ _,v,K=>K v
 | .struct _,v,K=>K v
 | .func,v,K=>K v
 | .iface,v,K=>K v
 | .other,v,K=>K v
def Da:sD->zA->Prop
 | .bool,v=>∃b,v=.bool b
 | .int k,v=>∃n,v=.int k n
 | .string,v=>∃l,v=.str l
 | _,_=>True
theorem TK{d:sD}{v:zA}{K:zA->kB}{x:zA × xA}:Td d v K=some x ↔ Da d v/\K v=some x:=by
 cases d<;>simp only[Td,Da,uA,oB,true_and]
 case bool=>
  grind [zY]
 case int k=>
  constructor
  ·grind [qS,fJ]
  ·rintro⟨⟨n,rfl⟩,h⟩;exact⟨(k,n),rfl,fJ.2 rfl,h⟩
 grind [rS]
def kJ(C:oA)(t:Nat)(v:zA)(K:zA->kB):kB:=
 match C.tys.get t with
 | some ty=>Td ty.desc v K
 | none=>K v
def aV (C:oA)(t:Nat)(v:zA):Prop:=
 match C.tys.get t with
 | some ty=>Da ty.desc v
 | none=>True
theorem cN{C:oA}{t:Nat}{v:zA}{K:zA->kB}{x:zA × xA}:kJ C t v K=some x ↔ aV C t v/\K v=some x:=by
 grind [kJ,aV,TK]
def lF (φ:qG)(r:rJ)(H:xA)(k:zA->xA->kB):kB:=
 match r with
 | .val v H'=>k v H'
 | .enter f args=>ob (φ (.func f) args H) fun p=>k p.1 p.2
 | .round l args=>ob (φ (.yld l) args H) fun p=>k p.1 p.2
 | _=>none
def eL (C:oA)(φ:qG)(all:Array Oper)(n:Nat)(κ:Tm->xA->kB)(l:List Oper):Tm->xA->kB:=
 List.rec (motive:=fun _=>Tm->xA->kB) κ
  (fun o _ g tm H=>ob (cE o.guard all tm) fun w=>Bool.rec (motive:=fun _=>kB) (g (putA n tm o.dst lD) H)
   (lF φ ((pF o.op).f C (.now tm) H) H fun v H'=>kJ C o.type v fun v=>g (putA n tm o.dst v) H') w) l
def jG(C:oA)(H:xA)(all:Array Oper)(n:Nat)(old:Tm)(olds:List (Nat × List Nat))(k:Tm->kB)(l:List Nat):Tm->kB:=
 List.rec (motive:=fun _=>Tm->kB) k
  (fun i _ g tm=>ob (fC all.toList i) fun o=>ob (cE o.guard all tm) fun w=>Bool.rec (motive:=fun _=>kB) (g (putA n tm o.dst lD))
   (ob ((nE o.op).f C (.mixed tm old (wE i olds) (sG o.op)) H) fun v=>kJ C o.type v fun v=>g (putA n tm o.dst v)) w) l
def wK(C:oA)(H:xA)(all:Array Oper)(old:Tm)(olds:List (Nat × List Nat))(tm:Tm)(k:kB)(l:List Nat):kB:=
 List.rec (motive:=fun _=>kB) k
  (fun i _ g=>ob (fC all.toList i) fun o=>ob o.dst fun d=>ob (cE o.guard all tm) fun w=>Bool.rec (motive:=fun _=>kB) g
   (ob ((nE o.op).f C (.mixed tm old (wE i olds) (sG o.op)) H) fun v=>kJ C o.type v fun v=>ob (tm.get d) fun u=>xB (same 10 v u) g) w) l
def pK (all:Array Oper)(h:Nat):Nat:=bif Nat.blt (rB all.toList) h then Nat.sub h (Nat.succ (rB all.toList))else h
def bQ(C:oA)(all:Array Oper)(h:Nat)(o:Oper)(tm:Tm):Option Bool:=ob (cE o.guard all tm) fun w=>bif Nat.blt (rB all.toList) h then xB (w&&vJ o.op&&rG (tV C o.op)) (some w)else some w
def nQ(all:Array Oper)(st:aD):Bool:=Nat.blt (rB all.toList+rB all.toList) st.heavy
def Hr(C:oA)(all:Array Oper)(n:Nat)(old:Tm)(olds:List (Nat × List Nat))(st:aD)(g:Tm->xA->kB)(tm:Tm)(H:xA):kB:=
 xB (uT C all) (ob (Df all old olds tm st.again) fun es=>ob (dV C es H) fun H'=>jG C H' all n old olds (fun tm=>g tm H') st.lights tm)
def lH(C:oA)(φ:qG)(all:Array Oper)(n:Nat)(old:Tm)(olds:List (Nat × List Nat))(κ:Tm->xA->kB)(l:List aD):Tm->xA->kB:=
 List.rec (motive:=fun _=>Tm->xA->kB) κ
  (fun st _ g tm H=>Bool.rec (motive:=fun _=>kB) (ob (fC all.toList (pK all st.heavy)) fun o=>ob (bQ C all st.heavy o tm) fun w=>
   (fun cont:zA->xA->kB=>Bool.rec (motive:=fun _=>kB) (cont lD H)
    (lF φ ((pF o.op).f C (.mixed tm old (wE (pK all st.heavy) olds) (sG o.op)) H) H fun v H'=>kJ C o.type v fun v=>cont v H') w)
   (fun v H'=>wK C H' all old olds (putA n tm o.dst v) (jG C H' all n old olds (fun tm=>g tm H') st.lights (putA n tm o.dst v)) st.again)) (Hr C all n old olds st g tm H) (nQ all st)) l
def Cc(C:oA)(φ:qG)(fn n:Nat)(κ:Tm->xA->kB)(id:Nat)(all:Array Oper)(draw:Bool):Tm->xA->kB:=
 Bool.rec (motive:=fun _=>Tm->xA->kB) (fun tm H=>eL C φ all n κ all.toList tm.cut H)
  (fun tm H=>ob (ob (C.plans.get fn) fun t=>t.get id) fun p=>xB (vQ all p) (jG C H all n tm.cut p.olds (fun tm'=>lH C φ all n tm.cut p.olds κ p.stages tm' H) p.first tm.cut)) draw
def Cq(tm:Tm)(live:List Nat):Tr zA:=
 List.rec (motive:=fun _=>Tr zA) .leaf (fun i _ t=>match tm.get i with | some v=>t.set i v | none=>t) live
def keep (live:List Nat)(tm:Tm):Tm:=⟨tm.k,Cq tm live,[]⟩
def isDef0:Option (List rI)->Bool
 | some []=>true
 | _=>false
def qW(κ:Kt)(p:Option Code)(tm:Tm)(H:xA):kB:=
 match p with
 | none=>κ.norm tm H
 | some .ret=>κ.ret tm H
 | _=>none
def endLoop(H:xA)(l:Nat)(r:rN):xA:=setBlk H l (.loop ⟨.exhausted,r.pending,r.fn,r.n,r.tm,r.params,r.assign,r.body,r.defers⟩)
def gN(C:oA)(φ:qG)(fn n:Nat)(κ:Kt)(f:Operand)(ps:List Nat)(a b:Code)(tm:Tm)(H:xA):kB:=
 ob (ev f (.now tm)) fun v=>ob v.asFunc fun q=>match q.1 with
  | .yld _=>none
  | .func g=>xB (rG (C.prims.get g)) (ob (φ (.func g) (uD q.2.1 (.func (.yld (H.next+1)) [] []::q.2.2)) (newBlk (newBlk H (.deferred (some []))) (.loop ⟨.ready,none,fn,n,tm,ps,a,b,H.next⟩))) fun y=>
   ob (cI y.2 (H.next+1)) fun r=>xB (!Nat.beq (LoopState.tag r.state) 1) (ob (qW κ r.pending tm (endLoop y.2 (H.next+1) r)) fun z=>
    ob (eT z.2 H.next) fun d=>xB (isDef0 d) (some (z.1,setBlk z.2 H.next (.deferred none)))))
def tD (C:oA)(φ:qG)(fn n:Nat)(c:xD):Kt->Tm->xA->kB:=
 xD.rec (motive:=fun _=>Kt->Tm->xA->kB)
  (fun κ tm H=>κ.norm tm H)
  (fun id all draw κ=>Cc C φ fn n κ.norm id all draw)
  (fun _ _ ga gb κ=>ga ⟨gb κ,κ.exit,κ.ret⟩)
  (fun c _ _ gx gy κ tm H=>ob (ob (ev c (.now tm)) zA.asBool) fun b=>Bool.rec (motive:=fun _=>kB) (gy κ tm H) (gx κ tm H) b)
  (fun id _ g κ=>g ⟨κ.norm,fun i tm H=>Bool.rec (motive:=fun _=>kB) (κ.exit i tm H) (κ.norm tm H) (Nat.beq id i),κ.ret⟩)
  (fun live _ g κ tm H=>lim fun m=>Nat.rec (motive:=fun _=>Tm->xA->kB) (fun _ _=>none) (fun _ r tm H=>g ⟨r,κ.exit,κ.ret⟩ (keep live.kept tm) H) m tm H)
  (fun id κ tm H=>κ.exit id tm H)
  (fun κ tm H=>κ.ret tm H)
  (fun live _ g κ tm H=>g κ (keep live.kept tm) H)
  (fun _ _ f ps id ops c _ κ tm H=>gN C φ fn n κ f ps.toList (.region id ops false) (tF c) tm H) c
end
section
def lI {α β γ:Type}(k k':α->β->Option γ):Prop:=∀a b x,k a b=some x->k' a b=some x
def mO (φ φ':qG):Prop:=∀f a H x,φ f a H=some x->φ' f a H=some x
structure tM (κ κ':Kt):Prop where
 norm:lI κ.norm κ'.norm
 exit:∀i,lI (κ.exit i) (κ'.exit i)
 ret:lI κ.ret κ'.ret
section
variable {C:oA}{φ φ':qG}{all:Array Oper}{n:Nat}{x:zA × xA}
def BM(hφ:mO φ φ'){r:rJ}{H:xA}{k k':zA->xA->kB}(hk:lI k k')(h:lF φ r H k=some x):lF φ' r H k'=some x:=by
 cases r<;>simp only[lF]at h ⊢<;>try (cases h;done)
 case val v H'=>exact hk _ _ _ h
 case enter f args=>
  rw[uA]at h ⊢;obtain⟨p,h1,h2⟩:=h;exact⟨p,hφ _ _ _ _ h1,hk _ _ _ h2⟩
 case round l args=>
  rw[uA]at h ⊢;obtain⟨p,h1,h2⟩:=h;exact⟨p,hφ _ _ _ _ h1,hk _ _ _ h2⟩
def Tc{t:Nat}{k k':zA->xA->kB}(hk:lI k k'):lI (fun v H=>kJ C t v fun v=>k v H) (fun v H=>kJ C t v fun v=>k' v H):=by
 intro v H x h;rw[cN]at h ⊢;exact⟨h.1,hk _ _ _ h.2⟩
theorem kZ{κ:Tm->xA->kB}{o:Oper}{l:List Oper}{tm:Tm}{H:xA}:eL C φ all n κ (o::l) tm H=ob (cE o.guard all tm) fun w=>if w=true then
   (lF φ ((pF o.op).f C (.now tm) H) H fun v H'=>kJ C o.type v fun v=>eL C φ all n κ l (putA n tm o.dst v) H')else eL C φ all n κ l (putA n tm o.dst lD) H:=by
 show(ob (cE o.guard all tm) fun w=>Bool.rec (motive:=fun _=>kB) _ _ w)=_;congr 1;funext w;rw[mI];rfl
def Sv(hφ:mO φ φ'){κ κ':Tm->xA->kB}(hκ:lI κ κ'):∀(l:List Oper),lI (eL C φ all n κ l) (eL C φ' all n κ' l):=by
 intro l;induction l with
 | nil=>exact hκ
 | cons o l ih=>
  intro tm H x h;rw[kZ,uA]at h ⊢;obtain⟨w,h1,h2⟩:=h;refine⟨w,h1,?_⟩;split at h2
  ·rename_i e;rw[yab e];exact BM hφ (Tc (k:=fun v H'=>eL C φ all n κ l (putA n tm o.dst v) H') (k':=fun v H'=>eL C φ' all n κ' l (putA n tm o.dst v) H') fun v H' y hy=>ih _ _ _ hy) h2
  ·rename_i e;rw[yaa e];exact ih _ _ _ h2
variable {H:xA}{old:Tm}{olds:List (Nat × List Nat)}
theorem Lx{k:Tm->kB}{i:Nat}{l:List Nat}{tm:Tm}:jG C H all n old olds k (i::l) tm=ob (fC all.toList i) fun o=>ob (cE o.guard all tm) fun w=>if w=true then
   (ob ((nE o.op).f C (.mixed tm old (wE i olds) (sG o.op)) H) fun v=>kJ C o.type v fun v=>jG C H all n old olds k l (putA n tm o.dst v))else jG C H all n old olds k l (putA n tm o.dst lD):=by
 show(ob (fC all.toList i) fun o=>ob (cE o.guard all tm) fun w=>Bool.rec (motive:=fun _=>kB) _ _ w)=_;congr 1;funext o;congr 1;funext w;rw[mI];rfl
theorem Lw{k k':Tm->kB}(hk:∀tm x,k tm=some x->k' tm=some x):∀(l:List Nat) tm x,jG C H all n old olds k l tm=some x->jG C H all n old olds k' l tm=some x:=by
 intro l;induction l with
 | nil=>exact hk
 | cons i l ih=>
  grind [Lx,uA,cN]
def Wk{tm:Tm}{k:kB}{i:Nat}{l:List Nat}:wK C H all old olds tm k (i::l)=ob (fC all.toList i) fun o=>ob o.dst fun d=>ob (cE o.guard all tm) fun w=>if w=true then
   (ob ((nE o.op).f C (.mixed tm old (wE i olds) (sG o.op)) H) fun v=>kJ C o.type v fun v=>ob (tm.get d) fun u=>xB (same 10 v u) (wK C H all old olds tm k l))else wK C H all old olds tm k l:=by
 show(ob (fC all.toList i) fun o=>ob o.dst fun d=>ob (cE o.guard all tm) fun w=>Bool.rec (motive:=fun _=>kB) _ _ w)=_;congr 1;funext o;congr 1;funext d;congr 1;funext w;rw[mI];rfl
theorem Ii{tm:Tm}{k:kB}:∀(l:List Nat),wK C H all old olds tm k l=some x->wY C H all old olds tm l=true/\k=some x:=by
 intro l;induction l with
 | nil=>intro h;exact⟨rfl,h⟩
 | cons i l ih=>
  intro h;rw[Wk,uA]at h;obtain⟨o,h1,h⟩:=h;rw[uA]at h;grind [uA,wY,cN,oB]
theorem Wj{tm:Tm}{k k':kB}(hk:k'=some x):∀(l:List Nat),wK C H all old olds tm k l=some x->wK C H all old olds tm k' l=some x:=by
 intro l;induction l with
 | nil=>intro _;exact hk
 | cons i l ih=>
  intro h;rw[Wk,uA]at h ⊢;obtain⟨o,h1,h⟩:=h;refine⟨o,h1,?_⟩;rw[uA]at h ⊢
  grind [uA,cN,oB]
theorem Bv{κ:Tm->xA->kB}{st:aD}{l:List aD}{tm:Tm}(hg:nQ all st=false):lH C φ all n old olds κ (st::l) tm H=ob (fC all.toList (pK all st.heavy)) fun o=>ob (bQ C all st.heavy o tm) fun w=>
   (fun cont:zA->xA->kB=>if w=true then(lF φ ((pF o.op).f C (.mixed tm old (wE (pK all st.heavy) olds) (sG o.op)) H) H fun v H'=>kJ C o.type v fun v=>cont v H')else cont lD H)
   (fun v H'=>wK C H' all old olds (putA n tm o.dst v) (jG C H' all n old olds (fun tm=>lH C φ all n old olds κ l tm H') st.lights (putA n tm o.dst v)) st.again):=by
 show Bool.rec (motive:=fun _=>kB) _ _ (nQ all st)=_;rw[hg];show(ob (fC all.toList (pK all st.heavy)) fun o=>ob (bQ C all st.heavy o tm) fun w=>(fun cont:zA->xA->kB=>Bool.rec (motive:=fun _=>kB) _ _ w) _)=_;congr 1;funext o;congr 1;funext w;cases w<;>rfl
theorem Fs{κ:Tm->xA->kB}{st:aD}{l:List aD}{tm:Tm}(hg:nQ all st=true):lH C φ all n old olds κ (st::l) tm H=Hr C all n old olds st (lH C φ all n old olds κ l) tm H:=by
 show Bool.rec (motive:=fun _=>kB) _ _ (nQ all st)=_;rw[hg];rfl
theorem Mr{st:aD}{g:Tm->xA->kB}{tm:Tm}{x:zA × xA}:Hr C all n old olds st g tm H=some x ↔ uT C all=true/\∃es H',Df all old olds tm st.again=some es/\dV C es H=some H'/\jG C H' all n old olds (fun tm=>g tm H') st.lights tm=some x:=by
 grind [Hr,uA,oB]
theorem Rf(hφ:mO φ φ'){κ κ':Tm->xA->kB}(hκ:lI κ κ'):∀(l:List aD),lI (lH C φ all n old olds κ l) (lH C φ' all n old olds κ' l):=by
 intro l;induction l with
 | nil=>exact hκ
 | cons st l ih=>
  intro tm H x h
  cases hg:nQ all st with
  | true=>
   rw[Fs hg,Mr]at h ⊢;obtain⟨h0,es,H',h1,h2,h3⟩:=h;exact⟨h0,es,H',h1,h2,Lw (fun tm x hx=>ih _ _ _ hx) _ _ _ h3⟩
  | false=>
  rw[Bv hg,uA]at h ⊢;obtain⟨o,h1,h⟩:=h;refine⟨o,h1,?_⟩;rw[uA]at h ⊢;obtain⟨w,h2,h⟩:=h;refine⟨w,h2,?_⟩;have cont:∀v H' y,wK C H' all old olds (putA n tm o.dst v) (jG C H' all n old olds (fun tm=>lH C φ all n old olds κ l tm H') st.lights (putA n tm o.dst v)) st.again=some y →
    wK C H' all old olds (putA n tm o.dst v) (jG C H' all n old olds (fun tm=>lH C φ' all n old olds κ' l tm H') st.lights (putA n tm o.dst v)) st.again=some y:=by
   intro v H' y hy;exact Wj (Lw (fun tm x hx=>ih _ _ _ hx) _ _ _ (Ii _ hy).2) _ hy
  simp only[]at h ⊢;split at h
  ·rename_i e;rw[yab e];exact BM hφ (Tc cont) h
  grind
def BO(hφ:mO φ φ'){κ κ':Tm->xA->kB}(hκ:lI κ κ'){fn id:Nat}{draw:Bool}:lI (Cc C φ fn n κ id all draw) (Cc C φ' fn n κ' id all draw):=by
 intro tm H x h
 cases draw with
 | false=>exact Sv hφ hκ _ _ _ _ h
 | true=>
  have h:(ob (ob (C.plans.get fn) fun t=>t.get id) fun p=>xB (vQ all p) (jG C H all n tm.cut p.olds (fun tm'=>lH C φ all n tm.cut p.olds κ p.stages tm' H) p.first tm.cut))=some x:=h;show(ob (ob (C.plans.get fn) fun t=>t.get id) fun p=>xB (vQ all p) (jG C H all n tm.cut p.olds (fun tm'=>lH C φ' all n tm.cut p.olds κ' p.stages tm' H) p.first tm.cut))=some x;rw[uA]at h ⊢
  obtain⟨p,h1,h⟩:=h;refine⟨p,h1,?_⟩;rw[oB]at h ⊢;exact⟨h.1,Lw (fun tm x hx=>Rf hφ hκ _ _ _ _ hx) _ _ _ h.2⟩
def KQ{κ κ':Kt}(hκ:tM κ κ'){p:Option Code}:lI (qW κ p) (qW κ' p):=by
 intro tm H x h;unfold qW at h ⊢;split at h
 ·exact hκ.norm _ _ _ h
 ·exact hκ.ret _ _ _ h
 ·cases h
def BY(hφ:mO φ φ'){κ κ':Kt}(hκ:tM κ κ'){fn:Nat}{f:Operand}{ps:List Nat}{a b:Code}:lI (gN C φ fn n κ f ps a b) (gN C φ' fn n κ' f ps a b):=by
 intro tm H x h;unfold gN at h ⊢;rw[uA]at h ⊢;obtain⟨v,h1,h⟩:=h;refine⟨v,h1,?_⟩;rw[uA]at h ⊢;obtain⟨q,h2,h⟩:=h;refine⟨q,h2,?_⟩;split at h
 ·cases h
 ·rw[oB,uA]at h ⊢;obtain⟨h3,y,h4,h⟩:=h;refine⟨h3,y,hφ _ _ _ _ h4,?_⟩;rw[uA]at h ⊢;obtain⟨r,h5,h⟩:=h;refine⟨r,h5,?_⟩;rw[oB,uA]at h ⊢;obtain⟨h6,z,h7,h⟩:=h;exact⟨h6,z,KQ hκ _ _ _ h7,h⟩
end
end
section
theorem Tl{α:Type}{f:Nat->Option α}{r:α}(h:lim f=some r):∃n,f n=some r:=by
 unfold lim at h;by_cases hx:∃n r,f n=some r
 all_goals grind
structure uM {α β γ:Type} (ks:Nat->α->β->Option γ) (k:α->β->Option γ):Prop where
 up:∀n,lI (ks n) (ks (n+1))
 ex:∀a b x,k a b=some x->∃n,ks n a b=some x
def Fc{α β γ:Type}{ks:Nat->α->β->Option γ}(h:∀n,lI (ks n) (ks (n+1))){n m:Nat}(hnm:n<=m):lI (ks n) (ks m):=by
 induction hnm with
 | refl=>exact fun _ _ _ h=>h
 | step _ ih=>exact fun a b x hx=>h _ _ _ _ (ih a b x hx)
structure pW (φs:Nat->qG) (φ:qG):Prop where
 up:∀n,mO (φs n) (φs (n+1))
 ex:∀f a H x,φ f a H=some x->∃n,φs n f a H=some x
def pW.le{φs:Nat->qG}{φ:qG}(h:pW φs φ){n m:Nat}(hnm:n<=m):mO (φs n) (φs m):=by
 induction hnm with
 | refl=>exact fun _ _ _ _ h=>h
 | step _ ih=>exact fun f a H x hx=>h.up _ _ _ _ _ (ih f a H x hx)
structure Az (κs:Nat->Kt) (κ:Kt):Prop where
 norm:uM (fun n=>(κs n).norm) κ.norm
 exit:∀i,uM (fun n=>(κs n).exit i) (κ.exit i)
 ret:uM (fun n=>(κs n).ret) κ.ret
section
variable {C:oA}{φ φ':qG}{φs:Nat->qG}{all:Array Oper}{N fn:Nat}
def VG{g g':Kt->Tm->xA->kB}{κ κ':Kt}(hκ:tM κ κ')(hg:∀ κ κ',tM κ κ'->lI (g κ) (g' κ'))(live:List Nat):∀m,lI (Nat.rec (motive:=fun _=>Tm->xA->kB) (fun _ _=>none) (fun _ r tm H=>g ⟨r,κ.exit,κ.ret⟩ (keep live tm) H) m)
  (Nat.rec (motive:=fun _=>Tm->xA->kB) (fun _ _=>none) (fun _ r tm H=>g' ⟨r,κ'.exit,κ'.ret⟩ (keep live tm) H) m):=by
 intro m;induction m with
 | zero=>intro a b x h;cases h
 | succ m ih=>exact fun a b x h=>hg ⟨_,_,_⟩ ⟨_,_,_⟩ ⟨ih,hκ.exit,hκ.ret⟩ _ _ _ h
theorem tM.refl(κ:Kt):tM κ κ:=⟨fun _ _ _ h=>h,fun _ _ _ _ h=>h,fun _ _ _ h=>h⟩
def Ul{g:Kt->Tm->xA->kB}{κ:Kt}(hg:∀ κ κ',tM κ κ'->lI (g κ) (g κ'))(live:List Nat):∀m,lI (Nat.rec (motive:=fun _=>Tm->xA->kB) (fun _ _=>none) (fun _ r tm H=>g ⟨r,κ.exit,κ.ret⟩ (keep live tm) H) m)
  (Nat.rec (motive:=fun _=>Tm->xA->kB) (fun _ _=>none) (fun _ r tm H=>g ⟨r,κ.exit,κ.ret⟩ (keep live tm) H) (m+1)):=by
 intro m;induction m with
 | zero=>intro a b x h;cases h
 | succ m ih=>exact fun a b x h=>hg ⟨_,_,_⟩ ⟨_,_,_⟩ ⟨ih,(tM.refl κ).exit,(tM.refl κ).ret⟩ _ _ _ h
def Ak(hφ:mO φ φ'):∀(c:xD) (κ κ':Kt),tM κ κ'->lI (tD C φ fn N c κ) (tD C φ' fn N c κ'):=by
 have self:∀(ψ:qG),mO ψ ψ:=fun _ _ _ _ _ h=>h;intro c;suffices h:∀ φ φ',mO φ φ'->∀(κ κ':Kt),tM κ κ'->lI (tD C φ fn N c κ) (tD C φ' fn N c κ') from h φ φ' hφ
 induction c with
 | skip=>exact fun _ _ _ κ κ' hκ=>hκ.norm
 | region id ops d=>exact fun _ _ hφ κ κ' hκ=>BO hφ hκ.norm
 | seq a b iha ihb=>exact fun _ _ hφ κ κ' hκ=>iha _ _ hφ _ _ ⟨ihb _ _ hφ _ _ hκ,hκ.exit,hκ.ret⟩
 | cond c a b iha ihb=>
  intro φ φ' hφ κ κ' hκ tm H x h;have h:(ob (ob (ev c (.now tm)) zA.asBool) fun t=>Bool.rec (motive:=fun _=>kB) (tD C φ fn N b κ tm H) (tD C φ fn N a κ tm H) t)=some x:=h;show(ob (ob (ev c (.now tm)) zA.asBool) fun t=>Bool.rec (motive:=fun _=>kB) (tD C φ' fn N b κ' tm H) (tD C φ' fn N a κ' tm H) t)=some x;rw[uA]at h ⊢;obtain⟨t,h1,h2⟩:=h;refine⟨t,h1,?_⟩
  cases t with
  | true=>exact iha _ _ hφ _ _ hκ _ _ _ h2
  | false=>exact ihb _ _ hφ _ _ hκ _ _ _ h2
 | block id c ih=>
  intro φ φ' hφ κ κ' hκ;refine ih _ _ hφ _ _ ⟨hκ.norm,fun i tm H x h=>?_,hκ.ret⟩;simp only[mI]at h ⊢;split at h
  ·rename_i e;rw[yab e];exact hκ.norm _ _ _ h
  ·rename_i e;rw[yaa e];exact hκ.exit _ _ _ _ h
 | loop live c ih=>
  intro φ φ' hφ κ κ' hκ tm H x h;obtain⟨m,hm⟩:=Tl h;refine(Lu fun m y hy=>Ul (ih _ _ (self φ')) live.kept m _ _ _ hy).2 ⟨m,?_⟩;exact VG hκ (ih _ _ hφ) live.kept m _ _ _ hm
 | exit id=>exact fun _ _ _ κ κ' hκ=>hκ.exit id
 | ret=>exact fun _ _ _ κ κ' hκ=>hκ.ret
 | cut live c ih=>exact fun _ _ hφ κ κ' hκ tm H x h=>ih _ _ hφ _ _ hκ _ _ _ h
 | range i pl f ps id ops c ih=>exact fun _ _ hφ κ κ' hκ tm H x h=>BY hφ hκ _ _ _ h
def BJ(hφ:pW φs φ){r:rJ}{H:xA}{ks:Nat->zA->xA->kB}{k:zA->xA->kB}(hk:uM ks k){x:zA × xA}(h:lF φ r H k=some x):∃n,lF (φs n) r H (ks n)=some x:=by
 cases r<;>simp only[lF]at h ⊢<;>try (cases h;done)
 case val v H'=>exact hk.ex _ _ _ h
 case enter f args=>
  rw[uA]at h;obtain⟨p,h1,h2⟩:=h;obtain⟨n,hn⟩:=hφ.ex _ _ _ _ h1;obtain⟨m,hm⟩:=hk.ex _ _ _ h2;exact⟨max n m,by rw[uA];exact⟨p,hφ.le (Nat.le_max_left n m) _ _ _ _ hn,Fc hk.up (Nat.le_max_right n m) _ _ _ hm⟩⟩
 case round l args=>
  rw[uA]at h;obtain⟨p,h1,h2⟩:=h;obtain⟨n,hn⟩:=hφ.ex _ _ _ _ h1;obtain⟨m,hm⟩:=hk.ex _ _ _ h2;exact⟨max n m,by rw[uA];exact⟨p,hφ.le (Nat.le_max_left n m) _ _ _ _ hn,Fc hk.up (Nat.le_max_right n m) _ _ _ hm⟩⟩
theorem DG{t:Nat}{ks:Nat->zA->xA->kB}{k:zA->xA->kB}(hk:uM ks k):uM (fun n v H=>kJ C t v fun v=>ks n v H) (fun v H=>kJ C t v fun v=>k v H):=by
 refine⟨fun n=>Tc (hk.up n),fun v H x h=>?_⟩;rw[cN]at h;obtain⟨n,hn⟩:=hk.ex _ _ _ h.2;exact⟨n,by grind [cN]⟩
theorem SR(hφ:pW φs φ){κs:Nat->Tm->xA->kB}{κ:Tm->xA->kB}(hκ:uM κs κ):∀(l:List Oper),uM (fun n=>eL C (φs n) all N (κs n) l) (eL C φ all N κ l):=by
 intro l;refine⟨fun n=>Sv (hφ.up n) (hκ.up n) l,?_⟩
 induction l with
 | nil=>exact hκ.ex
 | cons o l ih=>
  intro tm H x h;rw[kZ,uA]at h;obtain⟨w,h1,h2⟩:=h;split at h2
  ·rename_i e;obtain⟨n,hn⟩:=BJ hφ (DG (ks:=fun n v H'=>eL C (φs n) all N (κs n) l (putA N tm o.dst v) H') (k:=fun v H'=>eL C φ all N κ l (putA N tm o.dst v) H') ⟨fun n v H' y hy=>Sv (hφ.up n) (hκ.up n) l _ _ _ hy,fun v H' y hy=>ih _ _ _ hy⟩) h2
   grind [kZ,uA]
  grind [kZ,uA]
variable {old:Tm}{olds:List (Nat × List Nat)}
theorem Tn{H:xA}{ks:Nat->Tm->kB}{k:Tm->kB}(hk:∀tm x,k tm=some x->∃n,ks n tm=some x):∀(l:List Nat) tm x,jG C H all N old olds k l tm=some x->∃n,jG C H all N old olds (ks n) l tm=some x:=by
 intro l;induction l with
 | nil=>exact hk
 | cons i l ih=>
  intro tm x h;simp only[Lx]at h ⊢;rw[uA]at h;obtain⟨o,h1,h⟩:=h;rw[uA]at h;obtain⟨w,h3,h4⟩:=h;split at h4
  ·rename_i e;rw[uA]at h4;obtain⟨v,h5,h6⟩:=h4
   simp_all [cN]
  simp_all
theorem OL(hφ:pW φs φ){κs:Nat->Tm->xA->kB}{κ:Tm->xA->kB}(hκ:uM κs κ):∀(l:List aD),uM (fun n=>lH C (φs n) all N old olds (κs n) l) (lH C φ all N old olds κ l):=by
 intro l;refine⟨fun n=>Rf (hφ.up n) (hκ.up n) l,?_⟩
 induction l with
 | nil=>exact hκ.ex
 | cons st l ih=>
  intro tm H x h
  cases hg:nQ all st with
  | true=>
   rw[Fs hg,Mr]at h;obtain⟨h0,es,H',h1,h2,h3⟩:=h;obtain⟨n,hn⟩:=Tn (fun tm x hx=>ih tm H' x hx) _ _ _ h3;exact⟨n,by grind [Fs,Mr]⟩
  | false=>
  rw[Bv hg,uA]at h;obtain⟨o,h1,h⟩:=h;rw[uA]at h;obtain⟨w,h2,h⟩:=h;have cont:uM (fun n v H'=>wK C H' all old olds (putA N tm o.dst v) (jG C H' all N old olds (fun tm=>lH C (φs n) all N old olds (κs n) l tm H') st.lights (putA N tm o.dst v)) st.again)
    (fun v H'=>wK C H' all old olds (putA N tm o.dst v) (jG C H' all N old olds (fun tm=>lH C φ all N old olds κ l tm H') st.lights (putA N tm o.dst v)) st.again):=by
   refine⟨fun n v H' y hy=>Wj (Lw (fun tm x hx=>Rf (hφ.up n) (hκ.up n) l _ _ _ hx) _ _ _ (Ii _ hy).2) _ hy,fun v H' y hy=>?_⟩;obtain⟨n,hn⟩:=Tn (fun tm x hx=>ih tm H' x hx) _ _ _ (Ii _ hy).2;exact⟨n,Wj hn _ hy⟩
  simp only[]at h;split at h
  ·rename_i e;obtain⟨n,hn⟩:=BJ hφ (DG cont) h
   grind [Bv,tA]
  ·rename_i e;obtain⟨n,hn⟩:=cont.ex _ _ _ h;exact⟨n,by grind [Bv,tA]⟩
theorem RC(hφ:pW φs φ){κs:Nat->Tm->xA->kB}{κ:Tm->xA->kB}(hκ:uM κs κ){id:Nat}{draw:Bool}:uM (fun n=>Cc C (φs n) fn N (κs n) id all draw) (Cc C φ fn N κ id all draw):=by
 refine⟨fun n=>BO (hφ.up n) (hκ.up n),fun tm H x h=>?_⟩
 cases draw with
 | false=>exact(SR hφ hκ _).ex _ _ _ h
 | true=>
  have h:(ob (ob (C.plans.get fn) fun t=>t.get id) fun p=>xB (vQ all p) (jG C H all N tm.cut p.olds (fun tm'=>lH C φ all N tm.cut p.olds κ p.stages tm' H) p.first tm.cut))=some x:=h;rw[uA]at h;obtain⟨p,h1,h⟩:=h;rw[oB]at h;obtain⟨n,hn⟩:=Tn (fun tm' x hx=>(OL hφ hκ p.stages).ex tm' H x hx) _ _ _ h.2;refine⟨n,?_⟩;show(ob (ob (C.plans.get fn) fun t=>t.get id) fun p=>xB (vQ all p) (jG C H all N tm.cut p.olds (fun tm'=>lH C (φs n) all N tm.cut p.olds (κs n) p.stages tm' H) p.first tm.cut))=some x
  grind [tA,oB]
theorem BW(hφ:pW φs φ){κs:Nat->Kt}{κ:Kt}(hκ:Az κs κ){f:Operand}{ps:List Nat}{a b:Code}:uM (fun n=>gN C (φs n) fn N (κs n) f ps a b) (gN C φ fn N κ f ps a b):=by
 have kle:∀n,tM (κs n) (κs (n+1)):=fun n=>⟨hκ.norm.up n,fun i=>(hκ.exit i).up n,hκ.ret.up n⟩;have klm:∀n m,n<=m->tM (κs n) (κs m):=fun n m h=>⟨Fc hκ.norm.up h,fun i=>Fc (hκ.exit i).up h,Fc hκ.ret.up h⟩;refine⟨fun n=>BY (hφ.up n) (kle n),fun tm H x h=>?_⟩;unfold gN at h;rw[uA]at h;obtain⟨v,h1,h⟩:=h;rw[uA]at h;obtain⟨q,h2,h⟩:=h;split at h
 ·cases h
 ·rename_i g hg;rw[oB,uA]at h;obtain⟨h3,y,h4,h⟩:=h;rw[uA]at h;obtain⟨r,h5,h⟩:=h;rw[oB,uA]at h;obtain⟨h6,z,h7,h⟩:=h;obtain⟨n,hn⟩:=hφ.ex _ _ _ _ h4;have:∃m,qW (κs m) r.pending (tm) (endLoop y.2 (H.next+1) r)=some z:=by
   unfold qW at h7 ⊢;split at h7
   ·exact hκ.norm.ex _ _ _ h7
   ·exact hκ.ret.ex _ _ _ h7
   grind
  obtain⟨m,hm⟩:=this;refine⟨max n m,?_⟩;show gN C (φs (max n m)) fn N (κs (max n m)) f ps a b tm H=some x;unfold gN;rw[h1,tA,h2,tA,hg];simp only[];rw[oB,uA];refine⟨h3,y,hφ.le (Nat.le_max_left n m) _ _ _ _ hn,?_⟩;rw[h5,tA,oB,uA];exact⟨h6,z,KQ (klm _ _ (Nat.le_max_right n m)) _ _ _ hm,h⟩
theorem Vs(hφ:pW φs φ):∀(c:xD) (κs:Nat->Kt) (κ:Kt),Az κs κ->uM (fun n=>tD C (φs n) fn N c (κs n)) (tD C φ fn N c κ):=by
 have kle:∀ {κs:Nat->Kt} {κ:Kt},Az κs κ->∀n,tM (κs n) (κs (n+1)):=fun h n=>⟨h.norm.up n,fun i=>(h.exit i).up n,h.ret.up n⟩
 intro c;induction c with
 | skip=>exact fun κs κ hκ=>hκ.norm
 | region id ops d=>exact fun κs κ hκ=>RC hφ hκ.norm
 | seq a b iha ihb=>exact fun κs κ hκ=>iha (fun n=>⟨tD C (φs n) fn N b (κs n),(κs n).exit,(κs n).ret⟩) _ ⟨ihb _ _ hκ,hκ.exit,hκ.ret⟩
 | cond c a b iha ihb=>
  intro κs κ hκ;refine⟨fun n=>Ak (hφ.up n) (.cond c a b) _ _ (kle hκ n),fun tm H x h=>?_⟩;have h:(ob (ob (ev c (.now tm)) zA.asBool) fun t=>Bool.rec (motive:=fun _=>kB) (tD C φ fn N b κ tm H) (tD C φ fn N a κ tm H) t)=some x:=h;rw[uA]at h;obtain⟨t,h1,h2⟩:=h;have key:∀n,(Bool.rec (motive:=fun _=>kB) (tD C (φs n) fn N b (κs n) tm H) (tD C (φs n) fn N a (κs n) tm H) t:kB)=some x->tD C (φs n) fn N (.cond c a b) (κs n) tm H=some x:=by
   simp_all [tD]
  cases t with
  | true=>obtain⟨n,hn⟩:=(iha _ _ hκ).ex _ _ _ h2;grind
  | false=>obtain⟨n,hn⟩:=(ihb _ _ hκ).ex _ _ _ h2;grind
 | block id c ih=>
  intro κs κ hκ;refine ih (fun n=>⟨(κs n).norm,fun i tm H=>Bool.rec (motive:=fun _=>kB) ((κs n).exit i tm H) ((κs n).norm tm H) (Nat.beq id i),(κs n).ret⟩) _ ⟨hκ.norm,fun i=>⟨fun n tm H x h=>?_,fun tm H x h=>?_⟩,hκ.ret⟩
  ·simp only[mI]at h ⊢;split at h
   ·rename_i e;rw[yab e];exact hκ.norm.up n _ _ _ h
   ·rename_i e;rw[yaa e];exact(hκ.exit i).up n _ _ _ h
  ·simp only[mI]at h ⊢;split at h
   ·rename_i e;obtain⟨n,hn⟩:=hκ.norm.ex _ _ _ h;grind
   ·rename_i e;obtain⟨n,hn⟩:=(hκ.exit i).ex _ _ _ h;grind
 | loop live c ih=>
  intro κs κ hκ;refine⟨fun n=>Ak (hφ.up n) (.loop live c) _ _ (kle hκ n),fun tm H x h=>?_⟩;obtain⟨m,hm⟩:=Tl h;have it:∀m,uM (fun n=>(Nat.rec (motive:=fun _=>Tm->xA->kB) (fun _ _=>none) (fun _ r tm H=>tD C (φs n) fn N c ⟨r,(κs n).exit,(κs n).ret⟩ (keep live.kept tm) H) m:Tm->xA->kB))
    (Nat.rec (motive:=fun _=>Tm->xA->kB) (fun _ _=>none) (fun _ r tm H=>tD C φ fn N c ⟨r,κ.exit,κ.ret⟩ (keep live.kept tm) H) m):=by
   intro m;induction m with
   | zero=>exact⟨fun _ _ _ _ h=>h,fun _ _ _ h=>by cases h⟩
   | succ m ihm=>
    have:=ih _ _ (⟨ihm,hκ.exit,hκ.ret⟩:Az (fun n=>⟨(Nat.rec (motive:=fun _=>Tm->xA->kB) (fun _ _=>none) (fun _ r tm H=>tD C (φs n) fn N c ⟨r,(κs n).exit,(κs n).ret⟩ (keep live.kept tm) H) m:Tm->xA->kB),(κs n).exit,(κs n).ret⟩) ⟨(Nat.rec (motive:=fun _=>Tm->xA->kB) (fun _ _=>none) (fun _ r tm H=>tD C φ fn N c ⟨r,κ.exit,κ.ret⟩ (keep live.kept tm) H) m:Tm->xA->kB),κ.exit,κ.ret⟩)
    exact⟨fun n tm H x h=>this.up n _ _ _ h,fun tm H x h=>this.ex _ _ _ h⟩
  obtain⟨n,hn⟩:=(it m).ex _ _ _ hm;exact⟨n,(Lu fun m y hy=>Ul (fun κ κ' h=>Ak (fun _ _ _ _ h=>h) c κ κ' h) live.kept m _ _ _ hy).2 ⟨m,hn⟩⟩
 | exit id=>exact fun κs κ hκ=>hκ.exit id
 | ret=>exact fun κs κ hκ=>hκ.ret
 | cut live c ih=>exact fun κs κ hκ=>⟨fun n tm H x h=>(ih _ _ hκ).up n _ _ _ h,fun tm H x h=>(ih _ _ hκ).ex _ _ _ h⟩
 | range i pl f ps id ops c ih=>exact fun κs κ hκ=>⟨fun n tm H x h=>(BW hφ hκ).up n _ _ _ h,fun tm H x h=>(BW hφ hκ).ex _ _ _ h⟩
theorem za2{live:PI}{c:xD}{κ:Kt}{tm:Tm}{H:xA}:tD C φ fn N (.loop live c) κ tm H=tD C φ fn N c ⟨tD C φ fn N (.loop live c) κ,κ.exit,κ.ret⟩ (keep live.kept tm) H:=by
 have self:mO φ φ:=fun _ _ _ _ h=>h;have up:∀m,lI (Nat.rec (motive:=fun _=>Tm->xA->kB) (fun _ _=>none) (fun _ r tm H=>tD C φ fn N c ⟨r,κ.exit,κ.ret⟩ (keep live.kept tm) H) m)
   (Nat.rec (motive:=fun _=>Tm->xA->kB) (fun _ _=>none) (fun _ r tm H=>tD C φ fn N c ⟨r,κ.exit,κ.ret⟩ (keep live.kept tm) H) (m+1)):=Ul (Ak self c) live.kept
 have some_iff:∀tm H x,tD C φ fn N (.loop live c) κ tm H=some x ↔ ∃m,(Nat.rec (motive:=fun _=>Tm->xA->kB) (fun _ _=>none) (fun _ r tm H=>tD C φ fn N c ⟨r,κ.exit,κ.ret⟩ (keep live.kept tm) H) m:Tm->xA->kB) tm H=some x:=
  fun tm H x=>Lu fun m y hy=>up m _ _ _ hy
 have sup:Az (fun m=>⟨(Nat.rec (motive:=fun _=>Tm->xA->kB) (fun _ _=>none) (fun _ r tm H=>tD C φ fn N c ⟨r,κ.exit,κ.ret⟩ (keep live.kept tm) H) m:Tm->xA->kB),κ.exit,κ.ret⟩) ⟨tD C φ fn N (.loop live c) κ,κ.exit,κ.ret⟩:=
  ⟨⟨up,fun tm H x h=>(some_iff tm H x).1 h⟩,fun i=>⟨fun _ _ _ _ h=>h,fun _ _ _ h=>⟨0,h⟩⟩,⟨fun _ _ _ _ h=>h,fun _ _ _ h=>⟨0,h⟩⟩⟩
 have key:∀x,tD C φ fn N (.loop live c) κ tm H=some x ↔ tD C φ fn N c ⟨tD C φ fn N (.loop live c) κ,κ.exit,κ.ret⟩ (keep live.kept tm) H=some x:=by
  intro x;rw[some_iff];constructor
  ·rintro⟨m,hm⟩
   cases m with
   | zero=>cases hm
   | succ m=>exact Ak self c ⟨(Nat.rec (motive:=fun _=>Tm->xA->kB) (fun _ _=>none) (fun _ r tm H=>tD C φ fn N c ⟨r,κ.exit,κ.ret⟩ (keep live.kept tm) H) m:Tm->xA->kB),κ.exit,κ.ret⟩ ⟨tD C φ fn N (.loop live c) κ,κ.exit,κ.ret⟩ ⟨fun tm H y hy=>(some_iff tm H y).2 ⟨m,hy⟩,fun _ _ _ _ h=>h,fun _ _ _ h=>h⟩ _ _ _ hm
  ·intro h;obtain⟨m,hm⟩:=(Vs (φs:=fun _=>φ) ⟨fun _=>self,fun _ _ _ _ h=>⟨0,h⟩⟩ c _ _ sup).ex _ _ _ h;exact⟨m+1,hm⟩
 cases h:tD C φ fn N (.loop live c) κ tm H with
 | some x=>grind
 | none=>
  cases h2:tD C φ fn N c ⟨tD C φ fn N (.loop live c) κ,κ.exit,κ.ret⟩ (keep live.kept tm) H with
  | none=>rfl
  | some x=>simp_all
end
end
section
def Mh:List qD->Bool
 | .reg .. :: _=>true
 | _=>false
section
variable {P:Program}{C:oA}{B N:Nat}{I:World->Prop}{μ:Mu}{w:World}{base:List Frame}{m:Machine}
def Jw(hF:nY P C){f:Nat}{args:List zA}{args':Array Value}{H:xA}(hH:sB B N μ H w)(hl:pB μ args args'.toList){g:zC}(he:oK C f args false=some g) :
  zD P C B N μ base (lone (Frame.enter P f args' .normal) base w) w (.next ⟨g,[],H⟩):=
 ⟨μ,_,[],w,.refl _ _,fun _ _ h=>h,Below.refl N w,hH,(Hx (cur:=some H) hF he hl).1,.nil⟩
end
end
section
inductive mK (C:oA):pE->pE->Prop
 | refl (o:pE):mK C o o
 | step {o o':pE}:mK C (Bu C o) o'->mK C o o'
 | forget {todo:List qD} {tm tm':Tm} {R:kI} {cs:List zC} {H:xA} {o':pE}:Mh todo=false->(∀i v,tm'.get i=some v->tm.get i=some v)->mK C (.next ⟨⟨todo,tm',R⟩,cs,H⟩) o'->mK C (.next ⟨⟨todo,tm,R⟩,cs,H⟩) o'
def mK.trans{C:oA}{a b c:pE}(h:mK C a b)(k:mK C b c):mK C a c:=by
 induction h with
 | refl=>exact k
 | step _ ih=>exact .step (ih k)
 | forget h1 h2 _ ih=>exact .forget h1 h2 (ih k)
section
variable {P:Program}{C:oA}{B N:Nat}{I:World->Prop}{μ:Mu}{w:World}{base:List Frame}{m:Machine}
def iD.forget{n:Nat}{tm tm':Tm}{tmps:Array Value}(h:iD μ n tm tmps)(hs:∀i v,tm'.get i=some v->tm.get i=some v):iD μ n tm' tmps:=⟨h.1,fun i v hv=>h.2 i v (hs i v hv)⟩
theorem VZ{todo:List qD}{tm tm':Tm}{R:kI}{acs:List zC}{H:xA}(hr:Mh todo=false)(hs:∀i v,tm'.get i=some v->tm.get i=some v)(h:zD P C B N μ base m w (.next ⟨⟨todo,tm,R⟩,acs,H⟩)) :
  zD P C B N μ base m w (.next ⟨⟨todo,tm',R⟩,acs,H⟩):=by
 obtain⟨μ',b,cs,w',h1,h2,h3,h4,h5,h6⟩:=h;obtain⟨bfn,btmps,btodo,bdefers,bmode,bkind,bround⟩:=b;refine⟨μ',_,cs,w',h1,h2,h3,h4,⟨h5.rest,?_⟩,h6⟩;have hb:=h5.body;simp only at hb ⊢;split at hb
 ·rename_i hm;rw[yab hm]
  cases hb with
  | plain a t=>exact .plain a (t.forget hs)
  | reg _ _ _ _=>cases hr
  | mid _ _ _ _ _=>cases hr
 ·rename_i hm;rw[yaa hm];exact hb.forget hs
theorem zD.reach(hS:sI P C B N I)(hI:I w){o o':pE}(h:mK C o o'):zD P C B N μ base m w o->zD P C B N μ base m w o':=by
 induction h with
 | refl=>exact id
 | step _ ih=>grind [Zs]
 | forget hr hs _ ih=>grind [VZ]
end
def Wl(C:oA)(f:Nat)(ds:List rI)(fr:zC)(H:xA)(v:zA):Prop:=
 fr.R.mode=.returning/\fr.R.defers=ds/\fr.R.deferred=false/\fr.R.fn=f/\∃fn l,C.fns.get f=some fn/\fU C H fr.tm fn.results.toList=some l/\v=yZ l
def Rz(r:rN)(l:Nat)(tm:Tm):zC:=⟨[.code r.assign,.beginRound,.code r.body],tm,⟨r.fn,r.n,[],.run,false,some l⟩⟩
structure tU (C:oA) (φ:qG):Prop where
 fn:∀f args H x,φ (.func f) args H=some x->∃g,oK C f args false=some g/\∀acs,∃fr',mK C (.next ⟨g,acs,H⟩) (.next ⟨fr',acs,x.2⟩)/\Wl C f [] fr' x.2 x.1
 rd:∀l args H x,φ (.yld l) args H=some x->∃r tm,cI H l=some r/\iU r.n r.params args r.tm=some tm/\∀c acs c',lG c x.1=some c'->mK C (.next ⟨Rz r l tm,c::acs,H⟩) (.next ⟨c',acs,x.2⟩)
abbrev mY:=List rI->pE->zA × xA->Prop
def Fin (C:oA)(E:mY)(ds:List rI)(o:pE)(x:zA × xA):Prop:=∃o',mK C o o'/\E ds o' x
theorem Fin.step{C:oA}{E:mY}{ds:List rI}{o:pE}{x:zA × xA}(h:Fin C E ds (Bu C o) x):Fin C E ds o x:=by
 obtain⟨fr,h1,h2⟩:=h;exact⟨fr,.step h1,h2⟩
def Fin.of{C:oA}{E:mY}{ds:List rI}{o o':pE}{x:zA × xA}(hr:mK C o o')(h:Fin C E ds o' x):Fin C E ds o x:=by
 obtain⟨fr,h1,h2⟩:=h;exact⟨fr,hr.trans h1,h2⟩
abbrev RR(f N:Nat)(ro:Option Nat)(ds:List rI):kI:=⟨f,N,ds,.run,false,ro⟩
structure Ej (C:oA) (E:mY) (G:zA × xA->Prop) (f N:Nat) (ro:Option Nat) (acs:List zC):Prop where
 not:∀ds todo tm H x,¬ E ds (.next ⟨⟨todo,tm,RR f N ro ds⟩,acs,H⟩) x
 all:ro=none->∀x,G x
 pop:ro=none->∀r ds o x,E (⟨none,r,[]⟩::ds) o x->eT x.2 r=some (some [])->∃o',mK C o o'/\E ds o' (x.1,setBlk x.2 r (.deferred none))
structure Od (C:oA) (E:mY) (G:zA × xA->Prop) (f N:Nat) (ro:Option Nat) (acs:List zC) (κ:Kt) (k:List qD):Prop where
 norm:∀ds x tm H,G x->κ.norm tm H=some x->Fin C E ds (.next ⟨⟨k,tm,RR f N ro ds⟩,acs,H⟩) x
 exit:∀ds x i tm H,G x->κ.exit i tm H=some x->Fin C E ds (.next ⟨⟨.code (.exit i)::k,tm,RR f N ro ds⟩,acs,H⟩) x
 ret:∀ds x tm H,G x->κ.ret tm H=some x->∀k',Fin C E ds (.next ⟨⟨.code .ret::k',tm,RR f N ro ds⟩,acs,H⟩) x
structure Ba where
 i:Nat
 pl:List Nat
 f:Operand
 ps:Array Nat
 id:Nat
 ops:Array Oper
 c:xD
def sR(c:xD):List Ba:=
 xD.rec (motive:=fun _=>List Ba) [] (fun _ _ _=>[]) (fun _ _ a b=>uD a b) (fun _ _ _ a b=>uD a b) (fun _ _ a=>a) (fun _ _ a=>a) (fun _=>[]) [] (fun _ _ a=>a)
  (fun i pl f ps id ops c a=>⟨i,pl,f,ps,id,ops,c⟩::a) c
section
variable {C:oA}{φ:qG}{E:mY}{G:zA × xA->Prop}{ds:List rI}{ro:Option Nat}{f N:Nat}{acs:List zC}{R:kI}{κ:Kt}{k:List qD}{x:zA × xA}{all:Array Oper}
theorem lJ(hR:R.mode.running=true){todo:List qD}{tm:Tm}{H:xA}:Bu C (.next ⟨⟨todo,tm,R⟩,acs,H⟩)=vO C todo tm R acs H:=by
 show(bif R.mode.running then vO C todo tm R acs H else _)=_
 grind
def HD{fr c c':zC}{H:xA}{v:zA}(hr:Wl C f [] fr H v)(hf:lG c v=some c'):Bu C (.next ⟨fr,c::acs,H⟩)=.next ⟨c',acs,H⟩:=by
 obtain⟨h1,h2,h3,h4,fn,l,h5,h6,rfl⟩:=hr;obtain⟨todo,tm,ffn,n,defers,mode,deferred,round⟩:=fr;simp only at h1 h2 h3 h4 h6;subst h1 h2 h3 h4;show Fe C ⟨todo,tm,_⟩ (c::acs) H=_;unfold Fe;rw[h5,tA,h6];simp only[cond_false];rw[hf];rfl
def BK(hφ:tU C φ){r:rJ}{H:xA}{K:zA->xA->kB}(h:lF φ r H K=some x){fr:zC}
  (hK:∀v H' c',lG fr v=some c'->K v H'=some x->Fin C E ds (.next ⟨c',acs,H'⟩) x) (hfin:∀v,∃c',lG fr v=some c'):Fin C E ds (Dx r C fr acs H) x:=by
 cases r<;>simp only[lF]at h<;>try (cases h;done)
 case val v H'=>
  have h2:K v H'=some x:=h;obtain⟨c',hc⟩:=hfin v;show Fin C E ds (nZ v H' C fr acs H) x;unfold nZ;rw[hc];exact hK _ _ _ hc h2
 case enter g args=>
  rw[uA]at h;obtain⟨p,h1,h4⟩:=h;obtain⟨c',hc⟩:=hfin p.1;show Fin C E ds (Gg g args C fr acs H) x;unfold Gg;obtain⟨ge,he,r0⟩:=hφ.fn _ _ _ _ h1;obtain⟨fr',r1,r2⟩:=r0 (fr::acs);rw[he];refine Fin.of (r1.trans (.step ?_)) (hK _ _ _ hc h4);rw[HD r2 hc];exact .refl _
 case round l args=>
  rw[uA]at h;obtain⟨p,h1,h4⟩:=h;obtain⟨c',hc⟩:=hfin p.1;obtain⟨r,tm,e1,e2,r0⟩:=hφ.rd _ _ _ _ h1;show Fin C E ds (Gf l args C fr acs H) x;unfold Gf;rw[e1,tA,e2,tA];exact Fin.of (r0 _ _ _ hc) (hK _ _ _ hc h4)
theorem SS(hφ:tU C φ)(hR:R.mode.running=true)(hN:R.n=N){κn:Tm->xA->kB}(hκ:∀tm H,κn tm H=some x->Fin C E ds (.next ⟨⟨k,tm,R⟩,acs,H⟩) x) :
  ∀(l:List Oper) (tm:Tm) (H:xA),eL C φ all N κn l tm H=some x->Fin C E ds (wR C all k R acs l tm H) x:=by
 intro l;induction l with
 | nil=>exact fun tm H h=>hκ tm H h
 | cons o l ih=>
  intro tm H h;rw[kZ,uA]at h;obtain⟨w,h1,h⟩:=h;rw[Rv,h1]
  cases w with
  | false=>simp_all
  | true=>
   rw[yab rfl]at h;simp only[];generalize (pF o.op).f C (.now tm) H=r at h
   cases hv:r.asVal with
   | some p=>
    have:r=.val p.1 p.2:=by cases r<;>simp[rJ.asVal]at hv;rw[<- hv]
    grind [lF,cN]
   | none=>
    refine BK hφ h (fun v H' c' hc hK=>?_) fun v=>⟨⟨.ops all l::k,putA R.n tm o.dst v,R⟩,by unfold lG;simp only[hR,cond_true];rfl⟩;unfold lG at hc;simp only[hR,cond_true]at hc;have hc:some (⟨.ops all l::k,putA R.n tm o.dst v,R⟩:zC)=some c':=hc;cases hc;refine .step ?_;rw[lJ hR,hN];rw[cN]at hK;exact ih _ _ hK.2
theorem Lv{H:xA}{old:Tm}{olds:List (Nat × List Nat)}{K:Tm->kB}:∀(l:List Nat) (tm:Tm),jG C H all N old olds K l tm=some x->∃tm',aN C H all N old olds l tm=some tm'/\K tm'=some x:=by
 intro l;induction l with
 | nil=>exact fun tm h=>⟨tm,rfl,h⟩
 | cons i l ih=>
  intro tm h;rw[Lx,uA]at h;obtain⟨o,h1,h⟩:=h;rw[uA]at h;grind [aN,tA,uA,cN]
def HN{C:oA}{o:Op}{e:jC}{H:xA}{r:rJ}(hf:vJ o=true)(h:(pF o).f C e H=r)(h1:∀q,r≠qK q):False:=by
 have key:∀q:Option (zA × xA),qK q=r->False:=fun q e=>h1 q e.symm;cases o<;>simp only[vJ]at hf<;>first
  | (cases hf;done)
  | exact key _ h
theorem OM(hφ:tU C φ)(hR:R.mode.running=true)(hN:R.n=N){κn:Tm->xA->kB}(hκ:∀tm H,κn tm H=some x->Fin C E ds (.next ⟨⟨k,tm,R⟩,acs,H⟩) x){old:Tm}{olds:List (Nat × List Nat)} :
  ∀(l:List aD) (tm:Tm) (H:xA),lH C φ all N old olds κn l tm H=some x->Fin C E ds (.next ⟨⟨.reg all old olds l::k,tm,R⟩,acs,H⟩) x:=by
 intro l;induction l with
 | nil=>
  intro tm H h;refine .step ?_;rw[lJ hR];exact hκ tm H h
 | cons st l ih=>
  intro tm H h
  cases hg:nQ all st with
  | true=>
   rw[Fs hg,Mr]at h;obtain⟨h0,es,H',h1,h2,h3⟩:=h;obtain⟨tm',hl1,hl2⟩:=Lv _ _ h3;refine .step ?_;rw[lJ hR];show Fin C E ds (iO all old olds (st::l) C k tm R acs H) x;unfold iO;have hg0:=vC.1 hg;rw[vD]at hg0;have hnone:fC all.toList st.heavy=none:=by
    grind [eF]
   simp only[hnone];rw[eC,yab (vC.2 (by rw[vD];omega)),eC,yab (show Nat.blt (rB all.toList+rB all.toList) st.heavy=true from hg)];unfold Iu;rw[h0,show ∀(x:Option jO),xB true x=x from fun _=>rfl,h1,tA,h2,tA,hN,hl1,tA];exact ih _ _ hl2
  | false=>
  rw[Bv hg,uA]at h;obtain⟨o,h1,h⟩:=h;rw[uA]at h;obtain⟨w,h2',h⟩:=h;have hgn:Nat.blt (rB all.toList+rB all.toList) st.heavy=false:=hg;by_cases hfl:Nat.blt (rB all.toList) st.heavy=true
  ·-- an operation that is done early
   unfold bQ at h2';unfold pK at h1 h;rw[hfl]at h1 h2' h;simp only[cond_true,uA,oB,ybb]at h1 h2';obtain⟨w',h2,⟨⟨hw,hfo⟩,hlo⟩,h2'⟩:=h2';cases h2';subst hw;simp only[if_true,cond_true]at h;have hval:∃v H',(pF o.op).f C (.mixed tm old (wE (Nat.sub st.heavy (Nat.succ (rB all.toList))) olds) (sG o.op)) H=.val v H':=by
    cases hr:(pF o.op).f C (.mixed tm old (wE (Nat.sub st.heavy (Nat.succ (rB all.toList))) olds) (sG o.op)) H with
    | val v H'=>simp_all
    | enter g args=>exact(HN hfo hr fun q=>by cases q<;>simp[qK]).elim
    | round g args=>exact(HN hfo hr fun q=>by cases q<;>simp[qK]).elim
    | _=>rw[hr]at h;cases h
   obtain⟨v,H',hv⟩:=hval;rw[hv]at h;have h:(kJ C o.type v fun v=>wK C H' all old olds (putA N tm o.dst v) (jG C H' all N old olds (fun tm=>lH C φ all N old olds κn l tm H') st.lights (putA N tm o.dst v)) st.again)=some x:=h;rw[cN]at h;obtain⟨ha,hl⟩:=Ii _ h.2;obtain⟨tm',hl1,hl2⟩:=Lv _ _ hl;refine .step ?_;rw[lJ hR];show Fin C E ds (iO all old olds (st::l) C k tm R acs H) x
   unfold iO;have hnone:fC all.toList st.heavy=none:=by
    grind [eF,vC,vD]
   simp only[hnone];rw[hfl,cond_true,hgn,cond_false];unfold Iv;rw[h1,tA,h2,tA,hv,hlo];show Fin C E ds (jJ (ob (aN C H' all R.n old olds st.lights (putA R.n tm o.dst v)) fun tm'=>some ⟨⟨.reg all old olds l::k,tm',R⟩,acs,H'⟩) 23) x;rw[hN,hl1,tA];exact ih _ _ hl2
  have hfl:Nat.blt (rB all.toList) st.heavy=false:=Bool.eq_false_iff.2 hfl;unfold bQ at h2';unfold pK at h1 h;rw[hfl]at h1 h2' h;simp only[cond_false,uA]at h1 h2';obtain⟨w',h2,h2'⟩:=h2';cases h2';simp only[cond_false]at h;have back0:∀v H' c',lG (⟨.reg all old olds (st::l)::k,tm,R⟩:zC) v=some c' →
    wK C H' all old olds (putA N tm o.dst v) (jG C H' all N old olds (fun tm=>lH C φ all N old olds κn l tm H') st.lights (putA N tm o.dst v)) st.again=some x->Fin C E ds (.next ⟨c',acs,H'⟩) x:=by
   intro v H' c' hc hK;unfold lG at hc;simp only[hR,cond_true]at hc;have hc:(ob (fC all.toList st.heavy) fun o=>some (⟨.reg all old olds (⟨all.size,st.lights,st.again⟩::l)::k,putA R.n tm o.dst v,R⟩:zC))=some c':=hc;rw[h1,tA]at hc;cases hc;refine .step ?_;rw[lJ hR,hN];obtain⟨ha,hl⟩:=Ii _ hK;obtain⟨tm',hl1,hl2⟩:=Lv _ _ hl;show Fin C E ds (iO all old olds (⟨all.size,st.lights,st.again⟩::l) C k (putA N tm o.dst v) R acs H') x
   unfold iO;have:fC all.toList all.size=none:=by rw[eF];simp
   simp only[this];rw[eC,yaa fun e=>by grind [vC,vD]];show Fin C E ds (Eo all old olds ⟨all.size,st.lights,st.again⟩ l C k (putA N tm o.dst v) R acs H') x;unfold Eo;simp only[ha,hN,hl1,tA];exact ih _ _ hl2
  have back:∀v H' c',lG (⟨.reg all old olds (st::l)::k,tm,R⟩:zC) v=some c' →
    (kJ C o.type v fun v=>wK C H' all old olds (putA N tm o.dst v) (jG C H' all N old olds (fun tm=>lH C φ all N old olds κn l tm H') st.lights (putA N tm o.dst v)) st.again)=some x->Fin C E ds (.next ⟨c',acs,H'⟩) x:=by
   grind [cN]
  refine .step ?_;rw[lJ hR];show Fin C E ds (iO all old olds (st::l) C k tm R acs H) x;unfold iO;simp only[h1];unfold It;rw[h2];simp only[];have hfin:∀v,∃c',lG (⟨.reg all old olds (st::l)::k,tm,R⟩:zC) v=some c':=fun v=>⟨⟨.reg all old olds (⟨all.size,st.lights,st.again⟩::l)::k,putA R.n tm o.dst v,R⟩,by
   unfold lG;simp only[hR,cond_true];show(ob (fC all.toList st.heavy) fun o=>some (⟨.reg all old olds (⟨all.size,st.lights,st.again⟩::l)::k,putA R.n tm o.dst v,R⟩:zC))=_;rw[h1];rfl⟩
  cases w with
  | true=>
   simp only[if_true]at h;exact BK hφ h back hfin
  | false=>
   simp only[ybq,if_false]at h;obtain⟨c',hc⟩:=hfin lD;show Fin C E ds (nZ lD H C _ acs H) x;unfold nZ;rw[hc];exact back0 _ _ _ hc h
theorem zad{live:List Nat}{tm:Tm}{i:Nat}{v:zA}(h:(keep live tm).get i=some v):tm.get i=some v:=by
 unfold keep Tm.get at h;simp only[mI]at h;split at h
 case isFalse=>cases h
 rename_i hk;have key:∀live:List Nat,(Cq tm live).get i=some v->tm.get i=some v:=by
  intro live;induction live with
  | nil=>grind [Cq,Tr.get_leaf]
  | cons j live ih=>
   grind [Cq,Tr.get_set]
 grind
def HY{todo:List qD}(hr:Mh todo=false){live:List Nat}{tm:Tm}{H:xA}(h:Fin C E ds (.next ⟨⟨todo,keep live tm,R⟩,acs,H⟩) x):Fin C E ds (.next ⟨⟨todo,tm,R⟩,acs,H⟩) x:=
 Fin.of (.forget hr (fun _ _=>zad) (.refl _)) h
def Vf(hE:Ej C E G f N ro acs){t1 t2:List qD}(h1:Mh t1=false)(hs:∀tm H,vO C t1 tm (RR f N ro ds) acs H=vO C t2 tm (RR f N ro ds) acs H){tm:Tm}{H:xA}(h:Fin C E ds (.next ⟨⟨t2,tm,RR f N ro ds⟩,acs,H⟩) x):Fin C E ds (.next ⟨⟨t1,tm,RR f N ro ds⟩,acs,H⟩) x:=by
 obtain⟨o',hr,hv⟩:=h;refine⟨o',?_,hv⟩;generalize ho:(.next ⟨⟨t2,tm,RR f N ro ds⟩,acs,H⟩:pE)=o at hr
 induction hr generalizing tm with
 | refl=>
  subst ho;exact(hE.not _ _ _ _ _ hv).elim
 | step h ih=>
  subst ho;refine .step ?_;rw[lJ rfl,hs,<- lJ rfl];exact h
 | forget hr2 hs2 h ih=>
  cases ho;exact .forget h1 hs2 (ih hv rfl)
theorem UR{i:Nat}{t1 t2:List qD}{tm:Tm}{H:xA}:uP (some (.exit i)) C ⟨t1,tm,R⟩ acs H=uP (some (.exit i)) C ⟨t2,tm,R⟩ acs H:=by
 obtain⟨a,b,c,d,e,ro⟩:=R;unfold uP;cases ro<;>rfl
theorem Vh(hE:Ej C E G f N ro acs){i:Nat}{y:qD}(hy:∀j,y.blockId=some j->Nat.beq j i=false){tm:Tm}{H:xA}(h:Fin C E ds (.next ⟨⟨.code (.exit i)::k,tm,RR f N ro ds⟩,acs,H⟩) x):Fin C E ds (.next ⟨⟨.code (.exit i)::y::k,tm,RR f N ro ds⟩,acs,H⟩) x:=by
 refine Vf hE rfl (fun tm H=>?_) h;show lW i C (y::k) tm (RR f N ro ds) acs H=lW i C k tm (RR f N ro ds) acs H
 grind [mP,lW,UR]
theorem RT(hφ:tU C φ)(hE:Ej C E G f N none acs){κ:Kt}(hκ:Od C E G f N none acs κ k){fo:Operand}{ps:Array Nat}{a b:Code}{tm:Tm}{H:xA}(h:gN C φ f N κ fo ps.toList a b tm H=some x):Fin C E ds (.next ⟨⟨.code (.rangeFunc fo ps a b)::k,tm,RR f N none ds⟩,acs,H⟩) x:=by
 unfold gN at h;rw[uA]at h;obtain⟨v,h1,h⟩:=h;rw[uA]at h;obtain⟨⟨qf,q1,q2⟩,h2,h⟩:=h
 cases qf with
 | yld l=>cases h
 | func g=>
  simp only[oB,uA]at h;obtain⟨h3,y,h4,r,h5,h6,z,h7,d,h8,h9,h10⟩:=h;have hp:C.prims.get g=none:=by
   cases hx:C.prims.get g with
   | none=>rfl
   | some u=>rw[hx]at h3;cases h3
  obtain⟨ge,he,r0⟩:=hφ.fn _ _ _ _ h4;obtain⟨fr',r1,r2⟩:=r0 (⟨.inRange (H.next+1)::k,tm,RR f N none (⟨none,H.next,[]⟩::ds)⟩::acs);refine .step ?_;rw[lJ rfl];show Fin C E ds (En fo ps a b C k tm (RR f N none ds) acs H) x;have hin:dU C (H.next+1) v=some ge:=by
   grind [dU,tA]
  unfold En;rw[h1,tA];simp only[hin,tA];refine Fin.of (r1.trans (.step ?_)) (?_:Fin C E ds (.next ⟨⟨.endRange (H.next+1)::k,tm,RR f N none (⟨none,H.next,[]⟩::ds)⟩,acs,y.2⟩) x)
  ·rw[HD r2 (c':=⟨.endRange (H.next+1)::k,tm,RR f N none (⟨none,H.next,[]⟩::ds)⟩) rfl];exact .refl _
  refine .step ?_;rw[lJ rfl];show Fin C E ds (Ep (H.next+1) C k tm (RR f N none (⟨none,H.next,[]⟩::ds)) acs y.2) x;unfold Ep;rw[h5,tA,h6];have key:Fin C E (⟨none,H.next,[]⟩::ds) (.next ⟨⟨(match r.pending with | some c=>.code c::k | none=>k),tm,RR f N none (⟨none,H.next,[]⟩::ds)⟩,acs,endLoop y.2 (H.next+1) r⟩) z:=by
   unfold qW at h7;split at h7
   ·rename_i e;rw[e];exact hκ.norm _ _ _ _ (hE.all rfl _) h7
   ·rename_i e;rw[e];exact hκ.ret _ _ _ _ (hE.all rfl _) h7 k
   grind
  obtain⟨o',k1,k2⟩:=key;have hd:eT z.2 H.next=some (some []):=by
   rw[h8]
   cases d with
   | none=>cases h9
   | some l=>cases l with | nil=>rfl | cons _ _=>cases h9
  obtain⟨o'',k3,k4⟩:=hE.pop rfl _ _ _ _ k2 hd;cases h10;exact⟨o'',k1.trans k3,k4⟩
theorem Kl{α:Type}{a b:List α}(h:uD a b=[]):a=[]/\b=[]:=by grind [wG,List.append_eq_nil_iff]
theorem IT(hφ:tU C φ)(hE:Ej C E G f N ro acs):∀(c:xD) (κ:Kt) (k:List qD),(ro=none\/sR c=[])->Od C E G f N ro acs κ k->∀ds x tm H,G x->tD C φ f N c κ tm H=some x->Fin C E ds (.next ⟨⟨.code (tF c)::k,tm,RR f N ro ds⟩,acs,H⟩) x:=by
 intro c;induction c with
 | skip=>
  intro κ k _ hκ ds x tm H hG h;refine .step ?_;rw[lJ rfl];exact hκ.norm _ _ _ _ hG h
 | region id ops d=>
  intro κ k _ hκ ds x tm H hG h;refine .step ?_;rw[lJ rfl]
  cases d with
  | false=>exact SS hφ rfl rfl (fun tm H h=>hκ.norm _ _ _ _ hG h) _ _ _ h
  | true=>
   have h:(ob (ob (C.plans.get f) fun t=>t.get id) fun p=>xB (vQ ops p) (jG C H ops N tm.cut p.olds (fun tm'=>lH C φ ops N tm.cut p.olds κ.norm p.stages tm' H) p.first tm.cut))=some x:=h;rw[uA]at h;obtain⟨p,h1,h⟩:=h;rw[oB]at h;obtain⟨tm',hl1,hl2⟩:=Lv _ _ h.2;show Fin C E ds (Er id ops C k tm (RR f N ro ds) acs H) x;unfold Er;rw[h1,tA,h.1,hl1];exact OM hφ rfl rfl (fun tm H h=>hκ.norm _ _ _ _ hG h) _ _ _ hl2
 | seq a b iha ihb=>
  intro κ k hn hκ ds x tm H hG h;have hna:ro=none\/sR a=[]:=hn.imp id fun e=>(Kl e).1;have hnb:ro=none\/sR b=[]:=hn.imp id fun e=>(Kl e).2;refine Vf hE (t1:=.code (tF (.seq a b))::k) rfl (t2:=.code (tF a)::.code (tF b)::k) (fun _ _=>rfl) ?_;exact iha ⟨tD C φ f N b κ,κ.exit,κ.ret⟩ _ hna ⟨fun ds x tm H hG h=>ihb _ _ hnb hκ ds x tm H hG h,fun ds x i tm H hG h=>Vh hE (fun _ e=>by cases e) (hκ.exit _ _ _ _ _ hG h),hκ.ret⟩ ds x tm H hG h
 | cond c a b iha ihb=>
  intro κ k hn hκ ds x tm H hG h;have hna:ro=none\/sR a=[]:=hn.imp id fun e=>(Kl e).1;have hnb:ro=none\/sR b=[]:=hn.imp id fun e=>(Kl e).2;have h:(ob (ob (ev c (.now tm)) zA.asBool) fun t=>Bool.rec (motive:=fun _=>kB) (tD C φ f N b κ tm H) (tD C φ f N a κ tm H) t)=some x:=h;rw[uA]at h;obtain⟨t,h1,h⟩:=h;refine .step ?_;rw[lJ rfl];show Fin C E ds (Es c (tF a) (tF b) C k tm (RR f N ro ds) acs H) x
  unfold Es;rw[h1]
  cases t with
  | true=>exact iha _ _ hna hκ _ _ _ _ hG h
  | false=>exact ihb _ _ hnb hκ _ _ _ _ hG h
 | block id c ih=>
  intro κ k hn hκ ds x tm H hG h;refine .step ?_;rw[lJ rfl];have nx:∀ds x tm H,G x->κ.norm tm H=some x->Fin C E ds (.next ⟨⟨.inBlock id::k,tm,RR f N ro ds⟩,acs,H⟩) x:=by
   intro ds x tm H hG h;refine .step ?_;rw[lJ rfl];exact hκ.norm _ _ _ _ hG h
  refine ih ⟨κ.norm,fun i tm H=>Bool.rec (motive:=fun _=>kB) (κ.exit i tm H) (κ.norm tm H) (Nat.beq id i),κ.ret⟩ _ hn ⟨nx,fun ds x i tm H hG h=>?_,hκ.ret⟩ ds x tm H hG h;dsimp only at h
  cases hb:Nat.beq id i with
  | true=>
   rw[hb]at h;refine .step ?_;rw[lJ rfl];show Fin C E ds (lW i C (.inBlock id::k) tm (RR f N ro ds) acs H) x;have e:mP i (.inBlock id::k)=some k:=by
    show(bif Nat.beq id i then some k else mP i k)=_
    grind
   unfold lW;rw[e];exact hκ.norm _ _ _ _ hG h
  | false=>
   rw[hb]at h;exact Vh hE (fun j e=>by cases e;exact hb) (hκ.exit _ _ _ _ _ hG h)
 | loop live c ih=>
  intro κ k hn hκ ds x tm H hG h;obtain⟨m,hm⟩:=Tl h;have it:∀(m:Nat) ds x tm H,G x->(Nat.rec (motive:=fun _=>Tm->xA->kB) (fun _ _=>none) (fun _ r tm H=>tD C φ f N c ⟨r,κ.exit,κ.ret⟩ (keep live.kept tm) H) m:Tm->xA->kB) tm H=some x->Fin C E ds (.next ⟨⟨.inLoop (tF c)::k,tm,RR f N ro ds⟩,acs,H⟩) x:=by
   intro m;induction m with
   | zero=>simp_all
   | succ m ihm=>
    intro ds x tm H hG h;refine HY (live:=live.kept) rfl (.step ?_);rw[lJ rfl];exact ih ⟨_,κ.exit,κ.ret⟩ _ hn ⟨ihm,fun ds x i tm H hG h=>Vh hE (fun _ e=>by cases e) (hκ.exit _ _ _ _ _ hG h),hκ.ret⟩ _ _ _ _ hG h
  exact Vf hE (t1:=.code (tF (.loop live c))::k) rfl (t2:=.inLoop (tF c)::k) (fun _ _=>rfl) (it m _ _ tm H hG hm)
 | exit id=>exact fun κ k _ hκ ds x tm H hG h=>hκ.exit _ _ _ _ _ hG h
 | ret=>exact fun κ k _ hκ ds x tm H hG h=>hκ.ret _ _ _ _ hG h k
 | cut live c ih=>exact fun κ k hn hκ ds x tm H hG h=>HY rfl (ih κ k hn hκ _ _ _ _ hG h)
 | range i pl fo ps id ops c ih=>
  intro κ k hn hκ ds x tm H hG h;rcases hn with rfl | e
  ·exact RT hφ hE hκ h
  ·cases e
end
end
section
def De (C:oA)(fn:Func)(tm:Tm)(H:xA):kB:=ob (fU C H tm fn.results.toList) fun l=>some (yZ l,H)
def fS (C:oA)(fn:Func):Kt:=⟨De C fn,fun _ _ _=>none,De C fn⟩
def Gj(ops:List Oper):Bool:=vF (fun o=>match o.op with | .move _=>rG o.guard | .assign _=>rG o.guard | _=>false) ops
def Gp(c:xD):Option Ba:=match sR c with | [q]=>some q | _=>none
def rdOk (r:rN)(q:Ba):Prop:=r.assign=.region q.id q.ops false/\r.body=tF q.c/\r.params=q.ps.toList/\LoopState.tag r.state=0/\Gj q.ops.toList=true/\sR q.c=[]
def Ap(r:rN):rN:=⟨.busy,r.pending,r.fn,r.n,r.tm,r.params,r.assign,r.body,r.defers⟩
def qV(b:Bool)(r:rN):rN:=⟨if b then .ready else .done,if b then none else some .ret,r.fn,r.n,r.tm,r.params,r.assign,r.body,r.defers⟩
def tR:Kt:=⟨fun _ H=>some (.bool true,H),fun _ _ _=>none,fun _ H=>some (.bool false,H)⟩
def Nr(C:oA)(φ:qG)(fn n:Nat)(q:Ba)(tm:Tm)(H:xA):kB:=tD C φ fn n (.seq (.region q.id q.ops false) q.c) tR tm H
def pZ(C:oA)(A:Tr xD)(φ:qG)(l:Nat)(args:List zA)(H:xA):kB:=
 ob (cI H l) fun r=>ob (iU r.n r.params args r.tm) fun tm=>ob (A.get r.fn) fun c=>ob (Gp c) fun q=>@ite _ (rdOk r q) (Classical.propDecidable _)
  (ob (Nr C φ r.fn r.n q tm (setBlk H l (.loop (Ap r)))) fun x=>ob (cI x.2 l) fun r2=>ob x.1.asBool fun b=>some (.bool b,setBlk x.2 l (.loop (qV b r2)))) none
def lQ (C:oA)(A:Tr xD)(φ:qG)(f:Nat)(args:List zA)(H:xA):kB:=
 ob (A.get f) fun c=>ob (C.fns.get f) fun fn=>ob (oK C f args false) fun g=>tD C φ f fn.ntmps c (fS C fn) g.tm H
def vZ(C:oA)(A:Tr xD)(φ:qG):qG
 | .func f=>lQ C A φ f
 | .yld l=>pZ C A φ l
def xX (C:oA)(A:Tr xD):Nat->qG
 | 0=>fun _ _ _=>none
 | n+1=>vZ C A (xX C A n)
def dC (C:oA)(A:Tr xD):qG:=fun f args H=>lim fun n=>xX C A n f args H
section
variable {C:oA}{A:Tr xD}
theorem Ca{φ:qG}{l:Nat}{args:List zA}{H:xA}{x:zA × xA}:pZ C A φ l args H=some x ↔ ∃r tm c q y r2 b,cI H l=some r/\iU r.n r.params args r.tm=some tm/\A.get r.fn=some c/\Gp c=some q/\rdOk r q/\Nr C φ r.fn r.n q tm (setBlk H l (.loop (Ap r)))=some y/\cI y.2 l=some r2/\y.1=.bool b/\x=(.bool b,setBlk y.2 l (.loop (qV b r2))):=by
 unfold pZ;grind [uA,zY]
def Zt{φ φ':qG}(h:mO φ φ'):mO (vZ C A φ) (vZ C A φ'):=by
 intro f args H x hx
 cases f with
 | yld l=>
  have hx:pZ C A φ l args H=some x:=hx;obtain⟨r,tm,c,q,y,r2,b,h1,h2,h3,h4,hq,h5,h6,h7,h8⟩:=Ca.1 hx;exact Ca.2 ⟨r,tm,c,q,y,r2,b,h1,h2,h3,h4,hq,Ak h _ _ _ (tM.refl _) _ _ _ h5,h6,h7,h8⟩
 | func f=>
 have hx:lQ C A φ f args H=some x:=hx;show lQ C A φ' f args H=some x;unfold lQ at hx ⊢;rw[uA]at hx ⊢;obtain⟨c,h1,hx⟩:=hx;refine⟨c,h1,?_⟩;rw[uA]at hx ⊢;obtain⟨fn,h2,hx⟩:=hx;refine⟨fn,h2,?_⟩;rw[uA]at hx ⊢;obtain⟨g,h3,hx⟩:=hx;exact⟨g,h3,Ak h c _ _ (tM.refl _) _ _ _ hx⟩
def DC:∀n,mO (xX C A n) (xX C A (n+1)):=by
 intro n;induction n with
 | zero=>intro f args H x h;cases h
 | succ n ih=>exact Zt ih
def Ae{f:dQ}{args:List zA}{H:xA}{x:zA × xA}:dC C A f args H=some x ↔ ∃n,xX C A n f args H=some x:=
 Lu fun n _ hy=>DC n _ _ _ _ hy
def HL:pW (xX C A) (dC C A):=⟨DC,fun _ _ _ _ h=>Ae.1 h⟩
theorem zcm(f:dQ)(args:List zA)(H:xA):dC C A f args H=vZ C A (dC C A) f args H:=by
 have key:∀x,dC C A f args H=some x ↔ vZ C A (dC C A) f args H=some x:=by
  intro x;constructor
  ·intro h;obtain⟨n,hn⟩:=Ae.1 h
   cases n with
   | zero=>cases hn
   | succ n=>exact Zt (fun f a H y hy=>Ae.2 ⟨n,hy⟩) _ _ _ _ hn
  ·intro h
   cases f with
   | yld l=>
    have h:pZ C A (dC C A) l args H=some x:=h;obtain⟨r,tm,c,q,y,r2,b,h1,h2,h3,h4,hq,h5,h6,h7,h8⟩:=Ca.1 h;have sup:Az (fun _=>tR) tR:=⟨⟨fun _ _ _ _ h=>h,fun _ _ _ h=>⟨0,h⟩⟩,fun i=>⟨fun _ _ _ _ h=>h,fun _ _ _ h=>⟨0,h⟩⟩,⟨fun _ _ _ _ h=>h,fun _ _ _ h=>⟨0,h⟩⟩⟩;obtain⟨n,hn⟩:=(Vs HL _ _ _ sup).ex _ _ _ h5;exact Ae.2 ⟨n+1,Ca.2 ⟨r,tm,c,q,y,r2,b,h1,h2,h3,h4,hq,hn,h6,h7,h8⟩⟩
   | func f=>
   have h:lQ C A (dC C A) f args H=some x:=h;unfold lQ at h;rw[uA]at h;obtain⟨c,h1,h⟩:=h;rw[uA]at h;obtain⟨fn,h2,h⟩:=h;rw[uA]at h;obtain⟨g,h3,h⟩:=h;have sup:Az (fun _=>fS C fn) (fS C fn):=⟨⟨fun _ _ _ _ h=>h,fun _ _ _ h=>⟨0,h⟩⟩,fun i=>⟨fun _ _ _ _ h=>h,fun _ _ _ h=>⟨0,h⟩⟩,⟨fun _ _ _ _ h=>h,fun _ _ _ h=>⟨0,h⟩⟩⟩;obtain⟨n,hn⟩:=(Vs HL c _ _ sup).ex _ _ _ h;refine Ae.2 ⟨n+1,?_⟩
   show lQ C A (xX C A n) f args H=some x
   grind [lQ,tA]
 cases h:dC C A f args H with
 | some x=>grind
 | none=>
  cases h2:vZ C A (dC C A) f args H with
  | none=>rfl
  | some x=>simp_all
def Bc(C:oA)(A:Tr xD):Prop:=∀f c,A.get f=some c->∃fn,C.fns.get f=some fn/\fn.body=some (tF c)
theorem XC{f:Nat}{args:List zA}{g:zC}(h:oK C f args false=some g):∃fn c,C.fns.get f=some fn/\fn.body=some c/\g.todo=[.code c]/\g.R=⟨f,fn.ntmps,[],.run,false,none⟩:=by
 grind [oK,uA,oB]
theorem Lp{α β:Type}{f g:α->Option β}:∀(l:List α) {r:List β},(∀a b,f a=some b->g a=some b)->aF f l=some r->aF g l=some r:=by
 intro l;induction l with
 | nil=>intro r _ h;exact h
 | cons a l ih=>
  grind [dL,uA]
def ze6(C:oA)(f:Nat)(acs:List zC):mY:=fun ds o x=>∃fr',o=.next ⟨fr',acs,x.2⟩/\Wl C f ds fr' x.2 x.1
def QW{H:xA}{tm:Tm}{r:Nat}{d e:Option (List rI)}(hr:H.t.get r=some (.deferred d)):∀(l:List ResultVar) vs,fU C H tm l=some vs->fU C (setBlk H r (.deferred e)) tm l=some vs:=by
 intro l vs h;refine Lp l (fun rv v h=>?_) h
 cases rv with
 | tmp t=>exact h
 | cell a t=>
  have h:(ob (ob (tm.get a) zA.asPtr) fun p=>ob (C.tys.get t) fun ty=>ob (aC H p.1) fun c=>vP ty c.1 p.2)=some v:=h;show(ob (ob (tm.get a) zA.asPtr) fun p=>ob (C.tys.get t) fun ty=>ob (aC (setBlk H r (.deferred e)) p.1) fun c=>vP ty c.1 p.2)=some v;simp only[uA]at h ⊢;obtain⟨p,hp,ty,ht,c,hc,hv⟩:=h;refine⟨p,hp,ty,ht,c,?_,hv⟩;unfold aC at hc ⊢;rw[uA]at hc ⊢;obtain⟨y,h1,h2⟩:=hc
  refine⟨y,?_,h2⟩;show(H.t.set r (.deferred e)).get p.1=some y;rw[Tr.get_set,yaa fun e=>by rw[e,hr]at h1;cases h1;cases h2];exact h1
def zap{f N:Nat}{acs:List zC}:Ej C (ze6 C f acs) (fun _=>True) f N none acs:=by
 refine⟨?_,fun _ _=>trivial,?_⟩
 ·rintro ds todo tm H x ⟨fr',h1,h2⟩;cases h1;have:=h2.1;cases this
 ·rintro _ r ds o x ⟨fr',rfl,h1,h2,h3,h4,fn,l,h5,h6,h7⟩ hd;obtain⟨todo,tm,ffn,n,defers,mode,deferred,round⟩:=fr';simp only at h1 h2 h3 h4 h6;subst h1 h2 h3 h4;have hr:x.2.t.get r=some (.deferred (some [])):=by
   unfold eT at hd;rw[oB,uA]at hd;obtain⟨_,y,e1,e2⟩:=hd;cases y<;>cases e2;exact e1
  refine⟨_,.step ?_,⟨⟨todo,tm,⟨ffn,n,ds,.returning,false,round⟩⟩,rfl,rfl,rfl,rfl,rfl,fn,l,h5,QW hr _ _ h6,h7⟩⟩;show mK C (Fg C ⟨none,r,[]⟩ ds ⟨todo,tm,⟨ffn,n,⟨none,r,[]⟩::ds,.returning,false,round⟩⟩ acs x.2) _;unfold Fg;simp only[hd,tA];exact .refl _
def IK{f:Nat}{fn:Func}{acs:List zC}{x:zA × xA}{ds:List rI}(hf:C.fns.get f=some fn){tm:Tm}{H:xA}(h:De C fn tm H=some x){todo:List qD}{N:Nat}
  (hs:vO C todo tm (RR f N none ds) acs H=.next ⟨Fy ⟨todo,tm,RR f N none ds⟩ .returning,acs,H⟩):Fin C (ze6 C f acs) ds (.next ⟨⟨todo,tm,RR f N none ds⟩,acs,H⟩) x:=by
 unfold De at h;rw[uA]at h;obtain⟨l,h1,h2⟩:=h;cases h2;refine .step ?_;rw[lJ rfl,hs];exact⟨_,.refl _,_,rfl,rfl,rfl,rfl,rfl,fn,l,hf,h1,rfl⟩
def RdG (l:Nat)(c:zC):zA × xA->Prop:=fun x=>∃b r2 c',x.1=.bool b/\cI x.2 l=some r2/\lG c (.bool b)=some c'
def RdEnd(l:Nat)(c:zC)(acs:List zC):mY:=fun _ o x=>∃b r2 c',x.1=.bool b/\cI x.2 l=some r2/\lG c (.bool b)=some c'/\o=.next ⟨c',acs,setBlk x.2 l (.loop (qV b r2))⟩
theorem ZA{C:oA}{φ:qG}{all:Array Oper}{n:Nat}{κn:Tm->xA->kB}:∀(l:List Oper) (tm:Tm) (H1:xA) (x:zA × xA),Gj l=true->eL C φ all n κn l tm H1=some x->∃tm',κn tm' H1=some x/\∀(k:List qD) (R:kI) (cs:List zC) (H:xA),R.n=n->wR C all k R cs l tm H=xGo k tm' R cs H:=by
 intro l;induction l with
 | nil=>intro tm H1 x _ h;exact⟨tm,h,fun _ _ _ _ _=>rfl⟩
 | cons o l ih=>
  intro tm H1 x hp h;have hp:(bif (match o.op with | .move _=>rG o.guard | .assign _=>rG o.guard | _=>false)then Gj l else false)=true:=hp
  have hp1:(match o.op with | .move _=>rG o.guard | .assign _=>rG o.guard | _=>false)=true:=by
   simp_all
  rw[hp1]at hp;have hp:Gj l=true:=hp;have hmv:∃u,(∀H,(pF o.op).f C (.now tm) H=lv (rT u) C (.now tm) H)/\rG o.guard=true:=by
   cases ho:o.op<;>rw[ho]at hp1<;>first
    | (cases hp1;done)
    | exact⟨_,fun _=>rfl,hp1⟩
  obtain⟨u,hu,hg⟩:=hmv;have hw:cE o.guard all tm=some true:=by
   cases hx:o.guard with
   | none=>rfl
   | some g=>rw[hx]at hg;cases hg
  rw[kZ,hw,tA,yab rfl,hu]at h
  cases hv:ev u (.now tm)with
  | none=>
   have:lv (rT u) C (.now tm) H1=.fail:=by unfold lv rT;rw[hv]
   rw[this]at h;cases h
  | some v=>
   simp_all [lv,rT,lF,cN,Rv,rJ.asVal]
theorem QH{φ:qG}(hφ:tU C φ){l:Nat}{args:List zA}{H:xA}{x:zA × xA}(h:pZ C A φ l args H=some x) :
  ∃r tm,cI H l=some r/\iU r.n r.params args r.tm=some tm/\∀c acs c',lG c x.1=some c'->mK C (.next ⟨Rz r l tm,c::acs,H⟩) (.next ⟨c',acs,x.2⟩):=by
 obtain⟨r,tm,cc,q,y,r2,b,h1,h2,h3,h4,⟨q1,q2,q3,q4,q5,q6⟩,h5,h6,h7,rfl⟩:=Ca.1 h;refine⟨r,tm,h1,h2,fun c acs c' hc=>?_⟩;have h5:eL C φ q.ops r.n (tD C φ r.fn r.n q.c tR) q.ops.toList tm.cut (setBlk H l (.loop (Ap r)))=some y:=h5;obtain⟨tm',h8,h9⟩:=ZA _ _ _ _ q5 h5;unfold Rz;rw[q1,q2];refine .step ?_;rw[lJ rfl];show mK C (wR C q.ops _ _ _ q.ops.toList tm.cut H) _
 rw[h9 _ _ _ _ rfl];refine .step ?_;show mK C (vO C (.beginRound::[.code (tF q.c)]) tm' ⟨r.fn,r.n,[],.run,false,some l⟩ (c::acs) H) _;have hb:vO C (.beginRound::[.code (tF q.c)]) tm' ⟨r.fn,r.n,[],.run,false,some l⟩ (c::acs) H=.next ⟨⟨[.code (tF q.c)],tm',RR r.fn r.n (some l) []⟩,c::acs,setBlk H l (.loop (Ap r))⟩:=by
  show Et C [.code (tF q.c)] tm' _ (c::acs) H=_;unfold Et;simp only[tA];rw[h1,tA,q4];rfl
 rw[hb];have hc:lG c (.bool b)=some c':=hc;have hE:Ej C (RdEnd l c acs) (RdG l c) r.fn r.n (some l) (c::acs):=by
  refine⟨?_,fun e=>(by cases e),fun e=>(by cases e)⟩;rintro ds todo tm H x ⟨b,r2,c',_,_,_,e⟩
  simp_all
 have hK:Od C (RdEnd l c acs) (RdG l c) r.fn r.n (some l) (c::acs) tR []:=by
  refine⟨?_,fun _ _ _ _ _ _ h=>(by cases h),?_⟩
  ·rintro ds x tm H ⟨b,r2,c',g1,g2,g3⟩ h;cases h;cases g1;refine .step ?_;rw[lJ rfl];have:vO C [] tm (RR r.fn r.n (some l) ds) (c::acs) H=.next ⟨c',acs,setBlk H l (.loop (qV true r2))⟩:=by
    have e0:vO C [] tm (RR r.fn r.n (some l) ds) (c::acs) H=uP none C ⟨[],tm,RR r.fn r.n (some l) ds⟩ (c::acs) H:=rfl;rw[e0];unfold uP;simp only[g2,tA];show jJ (ob (lG c (.bool true)) _) 7=_;rw[g3];rfl
   rw[this];exact⟨_,.refl _,true,r2,c',rfl,g2,g3,rfl⟩
  ·rintro ds x tm H ⟨b,r2,c',g1,g2,g3⟩ h k';cases h;cases g1;refine .step ?_;rw[lJ rfl];have:vO C (.code .ret::k') tm (RR r.fn r.n (some l) ds) (c::acs) H=.next ⟨c',acs,setBlk H l (.loop (qV false r2))⟩:=by
    have e0:vO C (.code .ret::k') tm (RR r.fn r.n (some l) ds) (c::acs) H=uP (some .ret) C ⟨.code .ret::k',tm,RR r.fn r.n (some l) ds⟩ (c::acs) H:=rfl;rw[e0];unfold uP;simp only[g2,tA];show jJ (ob (lG c (.bool false)) _) 7=_;rw[g3];rfl
   rw[this];exact⟨_,.refl _,false,r2,c',rfl,g2,g3,rfl⟩
 obtain⟨o',k1,b',r2',c'',k2,k3,k4,rfl⟩:=IT hφ hE q.c tR [] (Or.inr q6) hK [] y tm' _ ⟨b,r2,c',h7,h6,hc⟩ h8
 simp_all
theorem OH(hA:Bc C A){φ:qG}(hφ:tU C φ):tU C (vZ C A φ):=by
 refine⟨fun f args H x h=>?_,fun l args H x h=>QH hφ h⟩;have h:lQ C A φ f args H=some x:=h;unfold lQ at h;rw[uA]at h;obtain⟨c,h1,h⟩:=h;rw[uA]at h;obtain⟨fn,h2,h⟩:=h;rw[uA]at h;obtain⟨g,h3,h⟩:=h;refine⟨g,h3,fun acs=>?_⟩;obtain⟨fn',c',e1,e2,e3,e4⟩:=XC h3;rw[h2]at e1;cases e1;obtain⟨fn',e5,e6⟩:=hA f c h1;rw[h2]at e5;cases e5;rw[e2]at e6;cases e6;obtain⟨gt,gtm,gR⟩:=g
 simp only at e3 e4 h;subst e3 e4;have hK:Od C (ze6 C f acs) (fun _=>True) f fn.ntmps none acs (fS C fn) []:=⟨fun ds x tm H _ h=>IK h2 h rfl,fun ds x i tm H _ h=>(by cases h),fun ds x tm H _ h k'=>IK h2 h rfl⟩;obtain⟨o',k1,fr',rfl,k2⟩:=IT hφ zap c (fS C fn) [] (Or.inl rfl) hK [] x gtm H trivial h
 grind
def DD(hA:Bc C A):∀n,tU C (xX C A n):=by
 intro n;induction n with
 | zero=>exact⟨fun f args H x h=>(by cases h),fun l args H x h=>(by cases h)⟩
 | succ n ih=>exact OH hA ih
def WA(hA:Bc C A):tU C (dC C A):=by
 refine⟨fun f args H x h=>?_,fun f args H x h=>?_⟩
 ·obtain⟨n,hn⟩:=Ae.1 h;exact(DD hA n).fn _ _ _ _ hn
 ·obtain⟨n,hn⟩:=Ae.1 h;exact(DD hA n).rd _ _ _ _ hn
theorem YI{P:Program}{B N:Nat}{I:World->Prop}{μ:Mu}{w:World}(hS:sI P C B N I)(hI:I w)(hA:Bc C A){f:Nat}{args:List zA}{args':Array Value}{H H':xA}{v:zA}(hH:sB B N μ H w)(hl:pB μ args args'.toList)
  (h:dC C A (.func f) args H=some (v,H')):Calls P f args' w fun e w'=>∃v' μ',e=.returned v'/\μ.lw μ'/\vA μ' v v'/\sB B N μ' H' w'/\Below N w w':=by
 intro base;obtain⟨g,he,hr⟩:=(WA hA).fn _ _ _ _ h;obtain⟨fr',r1,h1,h2,h3,h4,fn,l,h5,h6,rfl⟩:=hr [];have h0:zD P C B N μ base (lone (Frame.enter P f args' .normal) base w) w (.next ⟨g,[],H⟩):=Jw hS.fns hH hl he;obtain⟨μ',b,cs,w',s1,s2,s3,s4,s5,s6⟩:=zD.reach hS hI r1 h0;cases s6;have hb:=s5.body;rw[yaa (by grind [pU.running])]at hb;obtain⟨v',q1,q2⟩:=BG hS.tys s4 hb h6;have hm:=s5.rest.mode
 rw[h1]at hm;have hbm:b.mode=.returning:=by
  cases hb:b.mode with
  | returning=>rfl
  | _=>rw[hb]at hm;exact hm.elim
 have hd:=s5.rest.defers;rw[h2]at hd;have hbd:b.defers=[]:=by
  generalize hx:b.defers=bd at hd;cases hd;rfl
 have hk:=s5.rest.kind;rw[h3]at hk;have hfn:b.fn=f:=by rw[s5.rest.fn,h4]
 exact⟨.returned v',w',b,⟨v',μ',rfl,s2,q2,s4,s3⟩,s1,hfn,hbm,hbd,hk,fn,by rw[hfn];exact(hS.fns _ _ h5).1,q1⟩
end
end
end Go.Am
