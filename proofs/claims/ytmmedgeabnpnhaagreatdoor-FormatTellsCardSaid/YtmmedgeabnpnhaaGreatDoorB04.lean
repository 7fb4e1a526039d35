/- The simulation: leaving, rounds, regions in order, heavy operations. -/
import Derived.Test.YtmmedgeabnpnhaaGreatDoorB03
set_option linter.all false
noncomputable section
namespace Go.Am
open Go Go.RowKit
section
section
variable {P:Program}{C:fA}{B N:Nat}{I:World->Prop}{μ ν:Mu}{H H':wA}{w:World}{tm:Tm}{R:iJ}{acs:List rC}{base cs:List Frame}
variable {b:Frame}{tmps:Array Value}{ds:List Deferred}{k:List bD}{k':List Item}{all:Array Oper}
def ES{m:Option Nat}(h:Bl μ none m):m=none:=by
 cases m with
 | none=>rfl
 | some l=>exact h.elim
theorem Wl{l:Nat}{m:Option Nat}(h:Bl μ (some l) m):∃i,μ l=some i/\m=some i.b:=by
 cases m with
 | none=>exact h.elim
 | some m=>obtain⟨i,h1,h2⟩:=h;simp_all
theorem Ye(hH:jB B N μ H w)(hcs:wG C μ acs cs)(hR:fG μ R (b.atR ⟨tmps,ds⟩ []))(ht:lE μ R.n tm tmps){todo:List bD}{btodo:List Item}{jump:Option Code}
  (h0:b.roundOf=none->Ws jump=true->step P (lone (b.atR ⟨tmps,ds⟩ btodo) (cs++base) w)=.next (lone { b.atR ⟨tmps,ds⟩ btodo with mode:=.returning } (cs++base) w))
  (h1:∀l c rest v w',b.roundOf=some l->b.kind=.normal->(Instr.endRound l jump).run P w=.ok v w'->step P (lone (b.atR ⟨tmps,ds⟩ btodo) (c::rest) w)=.next (lone (c.finish v) rest w')) :
  nD P C B N μ base (lone (b.atR ⟨tmps,ds⟩ btodo) (cs++base) w) w (wR jump C ⟨todo,tm,R⟩ acs H):=by
 unfold wR;simp only[]
 cases hr:R.roundOf with
 | none=>
  have hb:b.roundOf=none:=by
   have:=hR.round;rw[hr]at this;exact ES this
  cases hj:Ws jump with
  | false=>exact trivial
  | true=>exact TC hH hcs hR ht (.one (h0 hb hj))
 | some l=>
  obtain⟨i,hi,hb⟩:∃i,μ l=some i/\b.roundOf=some i.b:=by
   have:=hR.round;rw[hr]at this;exact Wl this
  simp only[]
  cases hx:bJ H l with
  | none=>exact trivial
  | some r=>
   rw[pA]
   cases hcs with
   | nil=>exact trivial
   | @cons c b1 acs1 cs1 hc hcs1=>
    simp only[]
    cases hd:R.deferred with
    | true=>exact trivial
    | false=>
     have hkind:b.kind=.normal:=by have:=hR.kind;rw[hd]at this;exact this
     cases hf:kH c (.bool jump.isNone)with
     | none=>exact trivial
     | some c'=>
      obtain⟨hl,r',hg,hw,rel⟩:=Kq hH hx hi;have run:(Instr.endRound i.b jump).run P w=.ok (.bool jump.isNone) (World.setBlk w i.b (.loop { r' with state:=if jump.isNone then .ready else .done,pending:=jump })):=by
       simp_all [Instr.endRound,Jo,Fh]
      refine⟨μ,_,cs1,_,.one (h1 i.b b1 (cs1++base) _ _ hb hkind run),fun _ _ h=>h,jW (hH.own l i hl hi).1,?_,Dj hc hf (by rw[uA]),hcs1⟩;refine hH.upd hg hi hl ?_;rw[oI];exact⟨_,rfl,rfl,rfl,rel.fn,rel.tm,rel.params,rel.assign,rel.body,rel.defers⟩
theorem XP{id:Nat}:∀ {k:List bD} {k':List Item},aC (sG μ) k k'->oR id k=none->exitTo id k'=none:=by
 intro k k' h;induction h with
 | nil=>intro _;rfl
 | cons a l ih=>
  intro e
  cases a with
  | inBlock i=>
   grind [oR,bD.blockId,exitTo,bC]
  | _=>
   grind [oR,exitTo]
def zjj(hH:jB B N μ H w)(hcs:wG C μ acs cs)(hR:fG μ R (b.atR ⟨tmps,ds⟩ []))(ht:lE μ R.n tm tmps)(hk:aC (sG μ) k k'){id:Nat} :
  nD P C B N μ base (lone (b.atR ⟨tmps,ds⟩ (.code (.exit id)::k')) (cs++base) w) w (kZ id C k tm R acs H):=by
 unfold kZ
 cases he:oR id k with
 | some r=>
  obtain⟨r',h1,h2⟩:=zah hk he;exact dX hH hcs hR ht h2 (.one (stepR_exit h1))
 | none=>
  exact Ye hH hcs hR ht (fun _ h=>by cases h) fun l c rest v w' hb hkd hr=>stepR_round_exit hb hkd (XP hk he) hr
def ret_ok(hH:jB B N μ H w)(hcs:wG C μ acs cs)(hR:fG μ R (b.atR ⟨tmps,ds⟩ []))(ht:lE μ R.n tm tmps) :
  nD P C B N μ base (lone (b.atR ⟨tmps,ds⟩ (.code .ret::k')) (cs++base) w) w (xRet C k tm R acs H):=
 Ye hH hcs hR ht (fun hb _=>stepR_ret hb) fun _ _ _ _ _ hb hkd hr=>stepR_round_ret hb hkd hr
def end_ok(hH:jB B N μ H w)(hcs:wG C μ acs cs)(hR:fG μ R (b.atR ⟨tmps,ds⟩ []))(ht:lE μ R.n tm tmps) :
  nD P C B N μ base (lone (b.atR ⟨tmps,ds⟩ []) (cs++base) w) w (wR none C ⟨[],tm,R⟩ acs H):=
 Ye hH hcs hR ht (fun hb _=>stepR_end hb) fun _ _ _ _ _ hb hkd hr=>stepR_round_end hb hkd hr
theorem Wh{o:Oper}{rest:List Oper}:kT C all k R acs (o::rest) tm H=match iF o.guard all tm with
  | none=>.fail 20
  | some false=>kT C all k R acs rest (putA R.n tm o.dst vE) H
  | some true=>match ((xG o.op).f C (.now tm) H).asVal with
   | some p=>kT C all k R acs rest (putA R.n tm o.dst p.1) p.2
   | none=>Hr ((xG o.op).f C (.now tm) H) C ⟨.ops all (o::rest)::k,tm,R⟩ acs H:=by
 show(match iF o.guard all tm with
  | some w=>Bool.rec (motive:=fun _=>pF) (kT C all k R acs rest (putA R.n tm o.dst vE) H)
     (let r:=(xG o.op).f C (.now tm) H
     match r.asVal with
     | some p=>kT C all k R acs rest (putA R.n tm o.dst p.1) p.2
     | none=>Hr r C ⟨.ops all (o::rest)::k,tm,R⟩ acs H) w
  | none=>.fail 20)=_
 grind
theorem FH{n i:Nat}(h:i<n):(List.range n).drop i=i::(List.range n).drop (i+1):=by
 grind [List.drop_eq_getElem_cons]
theorem EM(hS:rJ P C B N I):∀(rest:List Oper) (i:Nat) (tm:Tm) (H:wA) (w:World) (μ:Mu) (tmps:Array Value),rest=all.toList.drop i->i<=all.size->I w->jB B N μ H w->wG C μ acs cs →
  fG μ R (b.atR ⟨tmps,ds⟩ [])->lE μ R.n tm tmps->aC (sG μ) k k' →
  nD P C B N μ base (lone (b.atR ⟨tmps,ds⟩ (.inRegion all ((List.range all.size).drop i)::k')) (cs++base) w) w (kT C all k R acs rest tm H):=by
 intro rest;induction rest with
 | nil=>
  intro i tm H w μ tmps hi hle hI hH hcs hR ht hk;have:all.size<=i:=by
   simp_all
  rw[ybt (by simp_all)];exact dX hH hcs hR ht hk (.one stepR_region_end)
 | cons o rest ih=>
  intro i tm H w μ tmps hi hle hI hH hcs hR ht hk;obtain⟨h1,h2⟩:=eU hi;have hlt:i<all.size:=by grind
  have ho:all[i]?=some o:=by simp_all
  rw[Wh,FH hlt]
  cases hw:iF o.guard all tm with
  | none=>exact trivial
  | some wn=>
   have hwn:=ht.wanted (all:=all) hw
   cases wn with
   | false=>
    refine nD.of_steps (.one (Vi ho hwn)) (fun _ _ h=>h) (Below.refl N w) ?_;rw[Fx];have t:=ht.put (ds:=ds) (dst:=o.dst) Mp;exact ih (i+1) _ _ _ _ _ h2 hlt hI hH hcs (hR.slots t.1) t hk
   | true=>
    have hop:=zgp hS.tys hS.base hS.fns hS.prims hH hI (ht.erel (ds:=ds) hH.glob) o;simp only[];generalize hr:(xG o.op).f C (.now tm) H=r at hop;have hdef:(∃c,o.op=.defer c)->r=.fail\/∃d,r=.defer d:=fun h=>by grind [OD]
    have hfr:aI C μ acs.length none ⟨.ops all (o::rest)::k,tm,R⟩ (b.atR ⟨tmps,ds⟩ (.inRegion all (i::(List.range all.size).drop (i+1))::k')):=by
     refine⟨hR.todo,?_⟩;rw[yab hR.running,<- FH hlt,hi];exact .plain (.cons (.ops all i hle) hk) ht
    cases hv:r.asVal with
    | none=>grind [OI]
    | some p=>
     have:r=.val p.1 p.2:=by cases r<;>simp[nK.asVal]at hv;rw[<- hv]
     subst this;simp only[];have hd:∀c,o.op≠.defer c:=fun c e=>by
      rcases hdef ⟨c,e⟩with h | ⟨d,h⟩<;>cases h
     rcases hop with h | ⟨f,args',h3,h4⟩
     ·obtain⟨v',w',μ',s,hm,hH',hb,hv⟩:=Sp (b:=b) (k':=k') (rest:=(List.range all.size).drop (i+1)) (cs:=cs++base) ho hwn hd h;refine nD.of_steps (.one s) hm.f hb ?_;have t:=(ht.mono hm).put (ds:=ds) (dst:=o.dst) hv;exact ih (i+1) _ _ _ _ _ h2 hlt (hS.inv _ _ hb hI) hH' (hcs.mono hm) ((hR.mono hm).slots t.1) t (hk.mono fun _ _ r=>r.mono hm)
     ·obtain⟨v',w',s,μ',hm,hH',hb,hv⟩:=NI (b:=b) (k':=k') (rest:=(List.range all.size).drop (i+1)) (cs:=cs++base) (R:=fun v' w'=>∃ μ',μ.le μ'/\jB B N μ' p.2 w'/\Below N w w'/\uA μ' p.1 v') ho hwn hd h3 (h4.mono fun e w' hh=>by simp_all);refine nD.of_steps s hm.f hb ?_;have t:=(ht.mono hm).put (ds:=ds) (dst:=o.dst) hv;exact ih (i+1) _ _ _ _ _ h2 hlt (hS.inv _ _ hb hI) hH' (hcs.mono hm) ((hR.mono hm).slots t.1) t (hk.mono fun _ _ r=>r.mono hm)
theorem zc7(hS:rJ P C B N I)(hI:I w)(hH:jB B N μ H w)(hcs:wG C μ acs cs)(hR:fG μ R (b.atR ⟨tmps,ds⟩ []))(hk:aC (sG μ) k k'){olds:List (Nat × List Nat)}{anc:Tr Nat}{old:Tm}{D:Nat}{S:Nat->Bool}{order:List Nat}{st:zF}{stages:List zF}{o:Oper}
  (hr:fF μ all olds anc R.n old tm D S order tmps) (hst:cI all.toList anc (st::stages) D=true) (hp:yH C μ acs.length H all olds R.n old tm D S) (ho:all[st.heavy]?=some o) :
  nD P C B N μ base (lone (b.atR ⟨tmps,ds⟩ (.inRegion all order::k')) (cs++base) w) w (Mk all old olds st stages o C k tm R acs H):=by
 have hlt:st.heavy<=all.size:=Nat.le_of_lt (ybe.1 ho).1;obtain⟨S',order',tmps',μ',w',s,g,r1,p1⟩:=reach (b:=b) (k:=k') (cs:=cs++base) (ds:=ds) hS.tys hst hlt order S tmps μ w hH hr hp;refine nD.of_steps s g.le g.below ?_
 replace hI:=hS.inv _ _ g.below hI
 replace hH:=g.heap
 replace hcs:=hcs.monoD fun d hd=>g.pd d (by omega)
 replace hR:=hR.mono g.le
 replace hk:aC (sG μ') k k':=hk.mono fun _ _ r=>r.mono g.le
 unfold Mk
 cases hw:iF o.guard all tm with
 | none=>exact trivial
 | some wn=>
  obtain⟨o',ho',hS',hb',_⟩:=r1.sched;rw[ho]at ho';cases ho';have hwn:=r1.wanted ho hb' hw;have hfr:aI C μ' acs.length none ⟨.reg all old olds (st::stages)::k,tm,R⟩ (b.atR ⟨tmps',ds⟩ (.inRegion all (st.heavy::order')::k')):=by
   refine⟨(hR.slots r1.size).todo,?_⟩;rw[yab hR.running];exact .wait r1 hst hlt (toWeak hst hlt r1 p1) hk
  cases wn with
  | false=>
   refine Wv (H:=H) hfr hcs μ'.le_refl hH (Below.refl N w') Mp ?_;rw[Frame.finish_atR,ho,yai];exact .one (Vi ho hwn)
  | true=>
   have hop:=zgp hS.tys hS.base hS.fns hS.prims hH hI (r1.erel (ds:=ds) hH.glob ho hS' hb') o;exact OI hS hH hcs hfr ho hwn (fun h=>OD h _ _ _) hop
theorem XE(hS:rJ P C B N I)(hH:jB B N μ H w)(hcs:wG C μ acs cs)(hR:fG μ R (b.atR ⟨tmps,ds⟩ []))(hk:aC (sG μ) k k'){olds:List (Nat × List Nat)}{anc:Tr Nat}{old:Tm}{D:Nat}{S:Nat->Bool}{order:List Nat}{st:zF}{stages:List zF}
  (hr:fF μ all olds anc R.n old tm D S order tmps) (hst:cI all.toList anc (st::stages) D=true) (hp:yH C μ acs.length H all olds R.n old tm D S) (hlt:all.size<st.heavy) (hle2:st.heavy<=all.size+all.size) :
  nD P C B N μ base (lone (b.atR ⟨tmps,ds⟩ (.inRegion all order::k')) (cs++base) w) w (Mm all old olds st stages (st.heavy-(all.size+1)) C k tm R acs H):=by
 obtain⟨o,D1,D2,ho,hf,h1,h2,h3⟩:=UV hst hlt hle2;generalize st.heavy-(all.size+1)=i at *;obtain⟨o',ho',hi,hb,hD1⟩:=Kf h1;rw[ho]at ho';cases ho';unfold Mm;generalize hx:(ob (uD all.toList i) fun o=>ob (iF o.guard all tm) fun w=>mB (w&&sH (vY C o.op)) (ob ((xG o.op).f C (.mixed tm old (xF i olds) (vH o.op)) H).asVal fun p=>
  ob (zQ C p.2 all R.n old olds st.lights (putA R.n tm o.dst p.1)) fun tm'=>some (⟨⟨.reg all old olds stages::k,tm',R⟩,acs,p.2⟩:jQ)))=x
 cases x with
 | none=>exact trivial
 | some x=>
  simp only[rA,fB,nG,ybb]at hx;obtain⟨o',ho',wn,hw,⟨hwn,hlo⟩,p,hv,tm',hl,hx⟩:=hx;have hlo:vY C o'.op=none:=by
   cases hx:vY C o'.op with
   | none=>rfl
   | some _=>rw[hx]at hlo;cases hlo
  have:o'=o:=by
   simp_all
  subst this;subst hwn;cases hx;have hop:(xG o'.op).f C (cP tm old olds i o') H=.val p.1 p.2:=by
   show(xG o'.op).f C (.mixed tm old (xF i olds) (vH o'.op)) H=_;generalize (xG o'.op).f C (.mixed tm old (xF i olds) (vH o'.op)) H=r at hv;cases r<;>simp[nK.asVal]at hv;rw[<- hv]
  obtain⟨l,hl2⟩:∃l,p.2=uF H l none:=XF hf hlo hop;have hH':jB B N (μ.wait H.next (.cells (Tr.ofList l) (kB l) none,acs.length,i)) p.2 w:=by rw[hl2];exact hH.early
  have hle:μ.lw (μ.wait H.next (.cells (Tr.ofList l) (kB l) none,acs.length,i)):=fun _ _ h=>h;have hpd:∀d,μ.ln d (μ.wait H.next (.cells (Tr.ofList l) (kB l) none,acs.length,i)):=fun d=>⟨hle,fun a x j ha=>by
   show(if a=H.next then _ else μ.pd a)=_;rw[yaa]
   ·exact ha
   ·intro e;have:=(hH.pnd _ _ _ ha).2.1;rw[e,(hH.fresh _ (ybk _)).2]at this;cases this⟩
  have hgrow:HM.HLe H p.2:=by
   intro b y hb;rw[hl2];show(H.t.set H.next _).get b=some y;rw[Tr.get_set,yaa]
   ·exact hb
   ·intro e;rw[e,(hH.fresh _ (ybk _)).2]at hb;cases hb
  have r1:=(hr.light (v:=p.1) ho hi hb hD1).mono hle;have p1:yH C (μ.wait H.next (.cells (Tr.ofList l) (kB l) none,acs.length,i)) acs.length p.2 all olds R.n old (putA R.n tm o'.dst p.1) D1 S:=by
   intro j hj hSj;rw[hD1]at hj;simp only[ycq,beq_iff_eq]at hj;rcases hj with hj | rfl
   ·rcases hp j hj hSj with⟨u,wu,vu,pu⟩ | ⟨u,vu,pu⟩
    ·exact .inl ⟨u,wu,vu,(pu.keep hr.reg hr.dclosed hj ho hi).grow hgrow⟩
    ·exact .inr ⟨u,vu,(pu.keep hr.reg hr.dclosed hj ho hi).mono (hpd _)⟩
   ·refine .inr ⟨o',p.1,aU.fresh hr.reg hr.dclosed ho hb hi hf hlo hw ⟨H,l,by rw[hop,hl2],?_⟩⟩;show(if H.next=H.next then _ else μ.pd H.next)=_;rw[yab rfl]
  obtain⟨r2,p2⟩:=Px _ _ _ hl h2 r1 p1;exact⟨_,_,cs,w,.refl _ _,hle,Below.refl N w,hH',⟨(hR.mono hle).todo,by rw[yab hR.running];exact .reg r2 h3 p2 (hk.mono fun _ _ r=>r.mono hle)⟩,hcs.monoD fun d _=>hpd d⟩
theorem Xx{α β:Type}{f:α->Option β}(d:β):∀ {l:List α} {r:List β},iG f l=some r->(∀x∈l,f x=some ((f x).getD d))/\r=l.map fun x=>(f x).getD d
 | [],r,h=>by grind [Cw]
 | a::l,r,h=>by
  rw[nN,rA]at h;obtain⟨v,hv,h⟩:=h;rw[rA]at h;obtain⟨m,hm,h⟩:=h;cases h;obtain⟨h1,h2⟩:=Xx d hm
  grind
theorem WZ(hS:rJ P C B N I)(hH:jB B N μ H w)(hcs:wG C μ acs cs)(hR:fG μ R (b.atR ⟨tmps,ds⟩ []))(hk:aC (sG μ) k k'){olds:List (Nat × List Nat)}{anc:Tr Nat}{old:Tm}{D:Nat}{S:Nat->Bool}{order:List Nat}{st:zF}{stages:List zF}
  (hr:fF μ all olds anc R.n old tm D S order tmps) (hst:cI all.toList anc (st::stages) D=true) (hp:yH C μ acs.length H all olds R.n old tm D S) (hlt:all.size+all.size<st.heavy) :
  nD P C B N μ base (lone (b.atR ⟨tmps,ds⟩ (.inRegion all order::k')) (cs++base) w) w (Ml all old olds st stages C k tm R acs H):=by
 obtain⟨D1,D2,hG,h2,h3⟩:=UU hst hlt;unfold Ml;generalize hx:(mB (bV C all) (ob (Gy all old olds tm st.again) fun es=>ob (eY C es H) fun H'=>ob (zQ C H' all R.n old olds st.lights tm) fun tm'=>some (⟨⟨.reg all old olds stages::k,tm',R⟩,acs,H'⟩:jQ)))=x
 cases x with
 | none=>exact trivial
 | some x=>
  simp only[rA,fB]at hx;obtain⟨hlen,es,he,H1,hg,tm',hl,hx⟩:=hx;cases hx;unfold eY at hg;simp only[rA,fB,ybb]at hg;obtain⟨rs,hrs,⟨hap,hrd⟩,hg⟩:=hg;obtain⟨e1,e2⟩:=Xx (rL.store 0 .nilptr .nilptr) he;obtain⟨e3,e4⟩:=Xx (RE.st 0 0 []) hrs;have hef:∀i∈st.again,sW all old olds tm i=some ((sW all old olds tm i).getD (rL.store 0 .nilptr .nilptr))/\iT C ((sW all old olds tm i).getD (rL.store 0 .nilptr .nilptr))=some ((iT C ((sW all old olds tm i).getD (rL.store 0 .nilptr .nilptr))).getD (RE.st 0 0 [])):=
   fun i hi=>⟨e1 i hi,e3 _ (by grind)⟩
  generalize hE:(fun i=>(sW all old olds tm i).getD (rL.store 0 .nilptr .nilptr))=ef at e2;have hef:∀i∈st.again,sW all old olds tm i=some (ef i)/\iT C (ef i)=some ((fun i=>(iT C (ef i)).getD (RE.st 0 0 [])) i):=by
   grind
  have hrs':rs=st.again.map fun i=>(iT C (ef i)).getD (RE.st 0 0 []):=by rw[e4,e2,List.map_map];rfl
  generalize (fun i=>(iT C (ef i)).getD (RE.st 0 0 []))=re at hef hrs';subst hrs';have hap:=OC hap;have hrd:∀i∈st.again,Me C H (re i):=by
   grind [iI,TM]
  have hd1:fL C H (st.again.map re) H1:=by
   have:=fL.list fL.nil (l:=st.again.map re) (fun e he=>by grind) (by grind) hg
   rwa [yah]at this
  obtain⟨S',order',tmps',μ',w',seq,Hs,s1,b1,l1,d1,pm,dn,hm,hH',r1,p1,hin⟩:=zde (b:=b) (k:=k') (cs:=cs++base) (ds:=ds) (H:=H) hS.tys hS.base hG hlen hef hap hrd order S tmps μ w [] H D List.nodup_nil (fun i hi=>by cases hi) fL.nil (fun i hi=>by cases hi) (fun k=>by simp) hH hr hp;have hapS:(seq.map re).Pairwise kQ:=((pm.map re).symm.pairwise_iff (fun h=>kQ.symm h)).1 hap;have heq:HEq' μ' Hs H1:=dn.perm hd1 (pm.map re) hapS fun e he=>by grind
  have hH1:=hH'.congr' heq;have p2:yH C μ' acs.length H1 all olds R.n old tm D1 S':=by
   cases hG0:st.again with
   | nil=>
    rw[hG0]at pm hd1;have hs0:seq=[]:=List.Perm.eq_nil pm;subst hs0;have hle:HM.HLe Hs H1:=fun a y hy=>by rw[hd1.no a (fun e he=>by cases he),<- dn.no a (fun e he=>by cases he)];exact hy
    intro j hj hSj;rcases p1 j hj hSj with⟨u,wu,vu,pu⟩ | h
    ·exact .inl ⟨u,wu,vu,pu.grow hle⟩
    grind
   | cons g l=>
    have hg:g∈st.again:=by grind
    have hSg:S' g=true:=hin g (pm.mem_iff.2 hg);obtain⟨o,ho,_⟩:=hG.op g hg;refine GI hG hlen (seq:=st.again) hG.done (fun i hi=>hin i (pm.mem_iff.2 hi)) hg (fun k hk=>r1.reg.up r1.closed ho (fun j hj=>r1.closed g o ho hSg j hj) hk) p1 H1
  obtain⟨r2,p3⟩:=Px _ _ _ hl h2 r1 p2;exact⟨_,_,cs,w',s1,l1,b1,hH1,⟨((hR.mono l1).slots r1.size).todo,by rw[yab hR.running];exact .reg r2 h3 p3 (hk.mono fun _ _ r=>r.mono l1)⟩,hcs.monoD fun d hd=>d1 d (by omega)⟩
end
end
section
section
variable {P:Program}{C:fA}{B N:Nat}{I:World->Prop}{μ ν:Mu}{H H':wA}{w:World}{tm:Tm}{R:iJ}{acs:List rC}{base cs:List Frame}
variable {b:Frame}{tmps:Array Value}{ds:List Deferred}{k:List bD}{k':List Item}{all:Array Oper}
theorem zd3(hH:jB B N μ H w)(hcs:wG C μ acs cs)(hR:fG μ R (b.atR ⟨tmps,ds⟩ []))(ht:lE μ R.n tm tmps)(hk:aC (sG μ) k k') :
  nD P C B N μ base (lone (b.atR ⟨tmps,ds⟩ (.beginRound::k')) (cs++base) w) w (Ik C k tm R acs H):=by
 unfold Ik
 cases hr:R.roundOf with
 | none=>exact trivial
 | some l=>
  obtain⟨i,hi,hb⟩:∃i,μ l=some i/\b.roundOf=some i.b:=by
   have:=hR.round;rw[hr]at this;exact Wl this
  rw[pA]
  cases hx:bJ H l with
  | none=>exact trivial
  | some r=>
   rw[pA]
   cases hst:Nat.beq (LoopState.tag r.state) 0 with
   | false=>exact trivial
   | true=>
    obtain⟨hl,r',hg,hw,rel⟩:=Kq hH hx hi;have ready:r'.state=.ready:=by
     rw[rel.state];cases hs:r.state<;>rw[hs]at hst<;>first | rfl | grind [LoopState.tag,Nat.beq]
    have run:(Instr.beginRound i.b).run P w=.ok () (World.setBlk w i.b (.loop { r' with state:=.busy })):=by
     simp_all [Instr.beginRound,Jo,Fh]
    refine⟨μ,_,cs,_,.one (stepR_beginRound hb run),fun _ _ h=>h,jW (hH.own l i hl hi).1,?_,⟨?_,?_⟩,hcs⟩
    ·refine hH.upd hg hi hl ?_;rw[oI];exact⟨_,rfl,rfl,rel.pending,rel.fn,rel.tm,rel.params,rel.assign,rel.body,rel.defers⟩
    ·refine⟨hR.fn,hR.size,hR.defers,hR.mode,hR.kind,?_⟩;exact hR.round
    ·show if R.mode.running=true then eL C μ acs.length R.n _ k tm k' tmps else lE μ R.n tm tmps;rw[yab hR.running];exact .plain hk ht
theorem RK{l:Nat}{jump:Option Code}{w':World}{cs:List Frame}(hr:(Instr.endLoop l).run P w=.ok jump w') :
  step P (lone (b.atR ⟨tmps,ds⟩ (.endRangeFunc l::k')) cs w)=.next (lone (b.atR ⟨tmps,ds⟩ ((jump.map Item.code).toList++k')) cs w'):=
 step_lone_go (by simp_all [stepG,stepG.exec,Frame.atR])
theorem XW(hH:jB B N μ H w)(hcs:wG C μ acs cs)(hR:fG μ R (b.atR ⟨tmps,ds⟩ []))(ht:lE μ R.n tm tmps)(hk:aC (sG μ) k k'){l:Nat}{i:BI}(hi:μ l=some i) :
  nD P C B N μ base (lone (b.atR ⟨tmps,ds⟩ (.endRangeFunc i.b::k')) (cs++base) w) w (Ih l C k tm R acs H):=by
 unfold Ih
 cases hx:bJ H l with
 | none=>exact trivial
 | some r=>
  rw[pA]
  cases hst:Nat.beq (LoopState.tag r.state) 1 with
  | true=>exact trivial
  | false=>
   obtain⟨hl,r',hg,hw,rel⟩:=Kq hH hx hi;have busy:r'.state≠.busy:=by
    intro e;rw[rel.state]at e;rw[e]at hst;cases hst
   have run:(Instr.endLoop i.b).run P w=.ok r'.pending (World.setBlk w i.b (.loop { r' with state:=.exhausted })):=by
    simp_all [Instr.endLoop,Jo,Fh]
   refine⟨μ,_,cs,_,.one (RK run),fun _ _ h=>h,jW (hH.own l i hl hi).1,?_,⟨?_,?_⟩,hcs⟩
   ·refine hH.upd hg hi hl ?_;rw[oI];exact⟨_,rfl,rfl,rel.pending,rel.fn,rel.tm,rel.params,rel.assign,rel.body,rel.defers⟩
   ·exact⟨hR.fn,hR.size,hR.defers,hR.mode,hR.kind,hR.round⟩
   ·show if R.mode.running=true then eL C μ acs.length R.n _ (match r.pending with | some c=>.code c::k | none=>k) tm ((r'.pending.map Item.code).toList++k') tmps else lE μ R.n tm tmps
    rw[yab hR.running,rel.pending]
    cases r.pending with
    | none=>exact .plain hk ht
    | some c=>exact .plain (.cons (.code c) hk) ht
theorem DI{f:Operand}{params:Array Nat}{assign body:Code}{l:Nat}{mark:List Deferred}{w1:World}{g:Nat}{args':Array Value}{cs:List Frame}
  (hE:(Instr.enterLoop b.fn tmps params assign body b.roundOf).run P w=.ok (l,mark) w1)
  (hA:(do let d <- resolve (Act.eval ⟨tmps,ds⟩) { callee:=.value f,args := #[.const (.func (.yield l) #[] #[])],argTypes := #[] } 0;invoke d.target d.args:Sem Next).run P w1=.ok (.enter g args') w1) :
  step P (lone (b.atR ⟨tmps,ds⟩ (.code (.rangeFunc f params assign body)::k')) cs w)=.next (lone (Frame.enter P g args' .normal) (b.atR ⟨tmps,mark++ds⟩ (.inRangeFunc l::k')::cs) w1):=by
 refine step_lone_go ?_;have he:(Frame.eval { b.atR ⟨tmps,ds⟩ (.code (.rangeFunc f params assign body)::k')with todo:=.inRangeFunc l::k',defers:=mark++ds })=Act.eval ⟨tmps,ds⟩:=funext fun x=>by cases x<;>rfl
 simp_all [Frame.atR,stepG,stepG.exec,stepG.apply]
theorem TT{l:Nat}{v:zA}{h:rC}(e:iX C l v=some h):∃g first cap,v=.func (.func g) first cap/\C.prims.get g=none/\kL C g (iD first (.func (.yld l) [] []::cap)) false=some h:=by
 grind [iX,rA,NW]
def FJ{dp:Nat}(hS:rJ P C B N I){l:Nat}{i:BI}{v:zA}{h:rC}(e:iX C l v=some h)(hi:μ l=some i){f:Operand}(hv:uA μ v (Act.eval ⟨tmps,ds⟩ f)){cur:Option wA} :
  ∃g args',(∀w,(do let d <- resolve (Act.eval ⟨tmps,ds⟩) { callee:=.value f,args := #[.const (.func (.yield i.b) #[] #[])],argTypes := #[] } 0;invoke d.target d.args:Sem Next).run P w=.ok (.enter g args') w) ∧
   aI C μ dp cur h (Frame.enter P g args' .normal):=by
 obtain⟨g,first,cap,rfl,hp,he⟩:=TT e
 rw[uA]at hv;obtain⟨fn,a',c',hv,hf,h1,h2⟩:=hv;cases hf;have hl:iB μ (iD first (.func (.yld l) [] []::cap)) (a' ++ #[Value.func (.yield i.b) #[] #[]]++c').toList:=by
  rw[zH];have:iB μ (zA.func (.yld l) [] []::cap) (Value.func (.yield i.b) #[] #[]::c'.toList):=.cons (by rw[uA];exact⟨_,_,_,rfl,⟨i,hi,rfl⟩,.nil,.nil⟩) h2;simpa using h1.append this
 obtain⟨fr,fn,hfn,hb⟩:=Ls (cur:=cur) hS.fns he hl;refine⟨g,_,fun w=>?_,fr⟩;simp only[yad,resolve,hv,Deferred.ofValue,yae,yac,invoke];have:Array.map (Act.eval ⟨tmps,ds⟩) #[Operand.const (Value.func (.yield i.b) #[] #[])] = #[Value.func (.yield i.b) #[] #[]]:=by simp[Act.eval]
 rw[this];exact Ny hS.fns hfn hb
theorem zcg(hS:rJ P C B N I)(hH:jB B N μ H w)(hcs:wG C μ acs cs)(hR:fG μ R (b.atR ⟨tmps,ds⟩ []))(ht:lE μ R.n tm tmps)(hk:aC (sG μ) k k'){f:Operand}{params:Array Nat}{assign body:Code} :
  nD P C B N μ base (lone (b.atR ⟨tmps,ds⟩ (.code (.rangeFunc f params assign body)::k')) (cs++base) w) w (Ie f params assign body C k tm R acs H):=by
 unfold Ie
 cases hv:ev f (.now tm)with
 | none=>exact trivial
 | some v=>
  have hvr:=ht.erel (ds:=ds) hH.glob f _ hv;rw[pA]
  cases hr:R.roundOf with
  | none=>
   have hb:b.roundOf=none:=by
    have:=hR.round;rw[hr]at this;exact ES this
   simp only[]
   cases hx:iX C (H.next+1) v with
   | none=>exact trivial
   | some h=>
    have h1:=hH.newBlk (x:=.deferred (some [])) (o:=.deferred (some [])) (i:=⟨w.heap.size,true,0,0,false⟩) rfl rfl (by rw[oI];exact⟨_,rfl,.nil⟩);have le1:μ.le (μ.ext H.next ⟨w.heap.size,true,0,0,false⟩):=hH.ext_le;have le2:(μ.ext H.next ⟨w.heap.size,true,0,0,false⟩).le ((μ.ext H.next ⟨w.heap.size,true,0,0,false⟩).ext (newBlk H (.deferred (some []))).next ⟨w.heap.size+1,true,0,0,false⟩):=h1.ext_le
    have sz:(w.alloc (.deferred (some []))).heap.size=w.heap.size+1:=Array.size_push ..;have h2:=h1.newBlk (x:=.loop ⟨.ready,none,R.fn,R.n,tm,params.toList,assign,body,H.next⟩) (o:=.loop { state:=.ready,pending:=none,fn:=b.fn,tmps,params,assign,body,defers:=w.heap.size })
     (i:=⟨w.heap.size+1,true,0,0,false⟩) sz.symm rfl (by
      rw[oI];exact⟨_,rfl,rfl,rfl,hR.fn,(ht.mono le1.f).mono le2.f,rfl,rfl,rfl,⟨_,le2 _ _ Mu.ext_same,rfl⟩⟩)
    have le:=Mu.le_trans le1 le2;have hi2:((μ.ext H.next ⟨w.heap.size,true,0,0,false⟩).ext (newBlk H (.deferred (some []))).next ⟨w.heap.size+1,true,0,0,false⟩) (H.next+1)=some ⟨w.heap.size+1,true,0,0,false⟩:=Mu.ext_same;obtain⟨g,args',hA,hfr⟩:=FJ (ds:=ds) hS hx hi2 (hvr.mono le.f _ _) (cur:=some (newBlk (newBlk H (.deferred (some []))) (.loop ⟨.ready,none,R.fn,R.n,tm,params.toList,assign,body,H.next⟩)))
    have run:(Instr.enterLoop b.fn tmps params assign body b.roundOf).run P w=.ok (w.heap.size+1,[{ target:=.collected w.heap.size,args := #[] }]) ((w.alloc (.deferred (some []))).alloc (.loop { state:=.ready,pending:=none,fn:=b.fn,tmps,params,assign,body,defers:=w.heap.size })):=by
     simp_all [Instr.enterLoop]
    refine⟨_,_,b.atR ⟨tmps,{ target:=.collected w.heap.size,args := #[] }::ds⟩ (.inRangeFunc (w.heap.size+1)::k')::cs,_,.one (DI run (hA _)),le,?_,h2,hfr,.cons ⟨?_,?_⟩ (hcs.mono le)⟩
    ·refine(qQ hH.size _).trans (qQ ?_ _);rw[sz];have:=hH.size;omega
    ·have:=hR.mono le.f;exact⟨this.fn,this.size,.cons ⟨⟨_,le2 _ _ Mu.ext_same,rfl⟩⟩ this.defers,this.mode,this.kind,by have:=this.round;rw[hr]at this;exact this⟩
    ·show if R.mode.running=true then eL C _ acs.length R.n none (.inRange (H.next+1)::k) tm (.inRangeFunc (w.heap.size+1)::k') tmps else _;rw[yab hR.running];exact .plain (.cons (.inRange _ ⟨w.heap.size+1,true,0,0,false⟩ hi2) (hk.mono fun _ _ r=>r.mono le.f)) (ht.mono le.f)
  | some outer=>
   obtain⟨io,hio,hb⟩:∃i,μ outer=some i/\b.roundOf=some i.b:=by
    have:=hR.round;rw[hr]at this;exact Wl this
   simp only[]
   cases hlo:bJ H outer with
   | none=>exact trivial
   | some o=>
    rw[pA]
    cases hx:iX C H.next v with
    | none=>exact trivial
    | some h=>
     obtain⟨hl,r',hg,hw,rel⟩:=Kq hH hlo hio;obtain⟨idf,hdf,hdf'⟩:=rel.defers;have le:μ.le (μ.ext H.next ⟨w.heap.size,true,0,0,false⟩):=hH.ext_le;have h2:=hH.newBlk (x:=.loop ⟨.ready,none,R.fn,R.n,tm,params.toList,assign,body,o.defers⟩) (o:=.loop { state:=.ready,pending:=none,fn:=b.fn,tmps,params,assign,body,defers:=r'.defers })
      (i:=⟨w.heap.size,true,0,0,false⟩) rfl rfl (by
       rw[oI];exact⟨_,rfl,rfl,rfl,hR.fn,ht.mono le,rfl,rfl,rfl,⟨idf,le _ _ hdf,hdf'⟩⟩)
     have hi2:(μ.ext H.next ⟨w.heap.size,true,0,0,false⟩) H.next=some ⟨w.heap.size,true,0,0,false⟩:=Mu.ext_same;obtain⟨g,args',hA,hfr⟩:=FJ (ds:=ds) hS hx hi2 (hvr.mono le.f _ _) (cur:=some (newBlk H (.loop ⟨.ready,none,R.fn,R.n,tm,params.toList,assign,body,o.defers⟩)));have run:(Instr.enterLoop b.fn tmps params assign body b.roundOf).run P w=.ok (w.heap.size,[]) (w.alloc (.loop { state:=.ready,pending:=none,fn:=b.fn,tmps,params,assign,body,defers:=r'.defers })):=by
      simp_all [Instr.enterLoop,Jo]
     refine⟨_,_,b.atR ⟨tmps,ds⟩ (.inRangeFunc w.heap.size::k')::cs,_,.one (DI run (hA _)),le,qQ hH.size _,h2,hfr,.cons ⟨?_,?_⟩ (hcs.mono le)⟩
     ·have:=hR.mono le.f;exact⟨this.fn,this.size,this.defers,this.mode,this.kind,this.round⟩
     ·show if R.mode.running=true then eL C _ acs.length R.n none (.inRange H.next::k) tm (.inRangeFunc w.heap.size::k') tmps else _;rw[yab hR.running];exact .plain (.cons (.inRange _ ⟨w.heap.size,true,0,0,false⟩ hi2) (hk.mono fun _ _ r=>r.mono le.f)) (ht.mono le.f)
def RF{c:Code}:step P (lone (b.atR ⟨tmps,ds⟩ (.code (.scope c)::k')) cs w)=.next (lone (b.atR ⟨tmps,ds⟩ (.code c::.inScope c::k')) cs w):=
 step_lone_go (by simp[stepG,stepG.exec,Frame.atR])
def RJ{c:Code}:step P (lone (b.atR ⟨tmps,ds⟩ (.inScope c::k')) cs w)=.next (lone (b.atR ⟨tmps,ds⟩ k') cs w):=
 step_lone_go (by simp[stepG,stepG.exec,Frame.atR])
def zjw(hS:rJ P C B N I)(hI:I w)(hH:jB B N μ H w)(hcs:wG C μ acs cs)(hR:fG μ R (b.atR ⟨tmps,ds⟩ []))(ht:lE μ R.n tm tmps):∀(c:Code) {k:List bD} {k':List Item},aC (sG μ) k k' →
  nD P C B N μ base (lone (b.atR ⟨tmps,ds⟩ (.code c::k')) (cs++base) w) w ((zgw c).f C k tm R acs H):=by
 intro c;induction c with
 | skip=>intro k k' hk;exact Ox hH hcs hR ht hk stepR_skip
 | region id ops d=>
  intro k k' hk
  cases d with
  | true=>exact zjp hS hH hcs hR ht hk
  | false=>
   refine nD.of_steps (.one stepR_region) (fun _ _ h=>h) (Below.refl N w) ?_;have:=EM (base:=base) (all:=ops) hS ops.toList 0 tm.cut H w μ tmps (by simp) (yaw _) hI hH hcs hR ht.cut hk;rw[ycr]at this;exact this
 | seq x y ihx _=>
  intro k k' hk;exact nD.of_steps (.one stepR_seq) (fun _ _ h=>h) (Below.refl N w) (ihx (.cons (.code y) hk))
 | cond c x y _ _=>intro k k' hk;exact zju hH hcs hR ht hk
 | block id c _=>intro k k' hk;exact zd2 hH hcs hR ht hk
 | loop c _=>intro k k' hk;exact zie hH hcs hR ht hk
 | rangeFunc f ps a c _ _=>intro k k' hk;exact zcg hS hH hcs hR ht hk
 | exit id=>intro k k' hk;exact zjj hH hcs hR ht hk
 | scope c _=>intro k k' hk;exact dX hH hcs hR ht (.cons (.code _) (.cons (.inScope _) hk)) (.one RF)
 | label l=>intro k k' hk;exact Ox hH hcs hR ht hk stepR_label
 | goto l=>intro k k' _;exact trivial
 | ret=>intro k k' _;exact ret_ok hH hcs hR ht
 | refuse s=>intro k k' _;exact trivial
theorem zjk(hS:rJ P C B N I)(hI:I w)(hH:jB B N μ H w)(hcs:wG C μ acs cs)(hR:fG μ R (b.atR ⟨tmps,ds⟩ [])){todo:List bD}{btodo:List Item}(hb:eL C μ acs.length R.n (some H) todo tm btodo tmps) :
  nD P C B N μ base (lone (b.atR ⟨tmps,ds⟩ btodo) (cs++base) w) w (vQ C todo tm R acs H):=by
 generalize hc:some H=cur at hb
 cases hb with
 | plain a t=>
  cases a with
  | nil=>exact end_ok hH hcs hR t
  | cons i hk=>
   cases i with
   | code c=>exact zjw hS hI hH hcs hR t c hk
   | inBlock id=>exact Ox hH hcs hR t hk stepR_inBlock
   | inLoop c=>exact dX hH hcs hR t (.cons (.code _) (.cons (.inLoop _) hk)) (.one stepR_inLoop)
   | inScope c=>exact Ox hH hcs hR t hk RJ
   | ops all i hi=>exact EM hS _ i _ _ _ _ _ rfl hi hI hH hcs hR t hk
   | inRange l i hl=>exact trivial
   | endRange l i hl=>exact XW hH hcs hR t hk hl
   | beginRound=>exact zd3 hH hcs hR t hk
 | @reg _ all old _ olds stages _ order _ _ anc D S hr hst hp hk=>
  cases hc;show nD P C B N μ base _ w (iQ all old olds stages C _ tm R acs H);unfold iQ
  cases stages with
  | nil=>grind [TJ]
  | cons st stages=>
   by_cases hlt:st.heavy<=all.size
   ·obtain⟨_,_,D1,D2,h1,_⟩:=Oz hst hlt;obtain⟨o,ho,_⟩:=Kf h1;have:uD all.toList st.heavy=some o:=by grind [nG]
    simp only[this];grind [zc7]
   ·have:uD all.toList st.heavy=none:=by grind [nG]
    simp only[this];grind [lC,jD,WZ,XE]
 | @mid _ all old _ olds lights again stages _ order _ _ anc D D2 S hr h1 h2 hw hk=>
  show nD P C B N μ base _ w (iQ all old olds (⟨all.size,lights,again⟩::stages) C _ tm R acs H);unfold iQ;have:uD all.toList all.size=none:=by rw[nG];simp
  simp only[this];grind [lC,jD,VY]
 | wait _ _ _ _ _=>cases hc
end
end
section
section
variable {P:Program}{C:fA}{B N:Nat}{I:World->Prop}{μ ν:Mu}{H H':wA}{w:World}{tm:Tm}{R:iJ}{acs:List rC}{base cs:List Frame}
variable {b:Frame}{tmps:Array Value}
theorem RA{block:Nat}{es calls:List Deferred}{w':World}(hm:b.mode≠.run)(hd:b.defers={ target:=.collected block,args := #[] }::es)(hr:(Instr.takeDeferred block).run P w=.ok calls w') :
  step P (lone b cs w)=.next (lone { b with defers:=calls++es } cs w'):=by
 obtain⟨fn,tmps,todo,defers,mode,kind,round⟩:=b;simp only at hm hd;subst hd;refine step_lone_go ?_
 simp_all [stepG,unwind]
theorem RB{f:Nat}{cap as:Array Value}{es:List Deferred}(hm:b.mode≠.run)(hd:b.defers={ target:=.fn (.func f) cap,args:=as }::es)(hr:(callFunc f (as++cap)).run P w=.ok (.enter f (as++cap)) w) :
  step P (lone b cs w)=.next (lone (Frame.enter P f (as++cap) .deferred) ({ b with defers:=es }::cs) w):=by
 obtain⟨fn,tmps,todo,defers,mode,kind,round⟩:=b;simp only at hm hd;subst hd;refine step_lone_go ?_
 simp_all [stepG,unwind,callDeferred,invoke]
def vZ(c:Frame):Frame:=
 match c.mode with
 | .panicking ({ recovered:=true,.. }::older)=>
  match older.dropWhile (!·.goexit)with
  | []=>{ c with mode:=.returning }
  | rest=>{ c with mode:=.panicking rest }
 | _=>c
def QZ{fn:Func}{v:Value}{c:Frame}(hm:b.mode=.returning)(hd:b.defers=[])(hk:b.kind=.deferred)(hf:P.funcs[b.fn]?=some fn)(hr:(results fn b.tmps).run P w=.ok v w) :
  step P (lone b (c::cs) w)=.next (lone (vZ c) cs w):=by
 refine step_lone_go ?_;simp only[stepG,unwind,doReturn,hm,hd,hk,hf,Sem.runT_eq,hr,GStep.bare_after];rfl
def Oe(tmps:Array Value)(r:ResultVar):Sem Value:=
 match r with
 | .tmp t=>pure (tmps.getD t undef)
 | .cell a t=>do loadVar t (<- asAddr (tmps.getD a undef))
theorem TD(fn:Func)(tmps:Array Value):results fn tmps=(do let vs <- fn.results.mapM (Oe tmps);pure (if h:vs.size=1 then vs[0]else .tuple vs)):=rfl
theorem SN(hT:qF P C)(hH:jB B N μ H w){n:Nat}(ht:lE μ n tm tmps):∀(rs:List ResultVar) (l:List zA),iG (bZ C H tm) rs=some l →
  ∃vs,(rs.mapM (Oe tmps)).run P w=.ok vs w/\iB μ l vs:=by
 intro rs;induction rs with
 | nil=>intro l h;rw[Cw]at h;cases h;exact⟨[],by simp_all,.nil⟩
 | cons r rs ih=>
  intro l h;rw[nN,rA]at h;obtain⟨a,ha,h⟩:=h;rw[rA]at h;obtain⟨m,hm,h⟩:=h;cases h;obtain⟨vs,h1,h2⟩:=ih m hm;rw[List.mapM_cons]
  cases r with
  | tmp t=>
   refine⟨_,?_,.cons (ht.2 t a ha) h2⟩
   grind [Oe,Sem.run_bind,Sem.run_pure,Result.andThen_ok]
  | cell x t=>
   simp only[bZ,rA,Dw]at ha;obtain⟨p,⟨av,hav,rfl⟩,ty,hty,c,hc,hl⟩:=ha;have hv:=ht.2 x _ hav;rw[uA]at hv;obtain⟨i,hi,hv⟩:=hv;obtain⟨v',h3,h4⟩:=HJ (P:=P) hH (hT.facts hty) hc hi hl;refine⟨_,?_,.cons h4 h2⟩
   grind [asAddr,Oe,Sem.run_bind,Sem.run_pure,Result.andThen_ok]
theorem EY(hT:qF P C)(hH:jB B N μ H w){n:Nat}(ht:lE μ n tm tmps){fn:Func}{l:List zA}(h:nX C H tm fn.results.toList=some l) :
  ∃v,(results fn tmps).run P w=.ok v w/\uA μ (Cg l) v:=by
 obtain⟨vs,h1,h2⟩:=SN hT hH ht _ _ h;refine⟨if h:vs.toArray.size=1 then vs.toArray[0]else .tuple vs.toArray,?_,?_⟩
 ·grind [TD,Array.mapM_eq_mapM_toList,Sem.run_bind,map_eq_pure_bind,Result.andThen_ok,Sem.run_pure]
 ·have hl:=h2.length
  cases l with
  | nil=>
   rw[iB]at h2;subst h2;rw[dif_neg (by simp)];show uA μ (.tup []) _;rw[uA];exact⟨_,rfl,.nil⟩
  | cons a m=>
   cases m with
   | nil=>
    rw[iB]at h2;obtain⟨v,r,rfl,hv,hr⟩:=h2;rw[iB]at hr;subst hr;rw[dif_pos (by simp)];exact hv
   | cons a2 m=>
    rw[dif_neg (by simp[hl])];show uA μ (.tup (a::a2::m)) _
    grind [uA]
def DefRel(μ:Mu):Option (List pJ)->Option (List Deferred)->Prop
 | none,none=>True
 | some a,some b=>aC (nZ μ) a b
 | _,_=>False
def YI(hH:jB B N μ H w){l:Nat}{x:Option (List pJ)}(h:pW H l=some x){i:BI}(h4:μ l=some i):B<=l/\∃x',H.t.get l=some (.deferred x)/\w.heap[i.b]?=some (.deferred x')/\DefRel μ x x':=by
 unfold pW at h;rw[fB,rF,rA]at h;obtain⟨h1,y,h2,h3⟩:=h;have:y=.deferred x:=by cases y<;>simp[sA.asDeferred]at h3;rw[h3]
 subst this;obtain⟨o,h5,h6⟩:=hH.blk l _ i h2 h4;rw[oI]at h6;obtain⟨r',rfl,h7⟩:=h6;refine⟨Nat.le_of_not_lt fun hlt=>?_,r',h2,h5,?_⟩
 ·have:=(hH.low l _ i hlt h2 h4).2.2;cases this
 cases x<;>cases r'<;>exact h7
def VD{μ:Mu}{m:zX}{m':FrameMode}(h:Mf μ m m')(hm:m.running=false):m'≠.run:=by
 rintro rfl;cases m<;>first | exact h.elim | cases hm
theorem QH(hS:rJ P C B N I)(hH:jB B N μ H w)(hcs:wG C μ acs cs){fr:rC}(hr:fG μ fr.R b)(hm:fr.R.mode.running=false)(ht:lE μ fr.R.n fr.tm b.tmps){d:pJ}{l:List pJ}(hd:fr.R.defers=d::l) :
  nD P C B N μ base (lone b (cs++base) w) w (Iy C d l fr acs H):=by
 have hrun:=VD hr.mode hm;have hds:=hr.defers;rw[hd]at hds;generalize hbd:b.defers=bd at hds
 cases hds with
 | @cons _ e _ es h1 h2=>
  obtain⟨dfn,dr,dargs⟩:=d;have h1:=h1.rel;unfold Iy
  cases dfn with
  | none=>
   obtain⟨i,hi,rfl⟩:=h1;simp only[]
   cases hx:pW H dr with
   | none=>exact trivial
   | some x=>
    rw[pA]
    cases x with
    | none=>exact trivial
    | some calls=>
     obtain⟨hl,x',hg,hw,rel⟩:=YI hH hx hi
     cases x' with
     | none=>exact rel.elim
     | some calls'=>
      have run:(Instr.takeDeferred i.b).run P w=.ok calls' (World.setBlk w i.b (.deferred none)):=by
       simp_all [Fh,getObj,Sem.run,Instr.takeDeferred]
      refine⟨μ,_,cs,_,.one (RA hrun hbd run),fun _ _ h=>h,jW (hH.own dr i hl hi).1,?_,⟨?_,?_⟩,hcs⟩
      ·refine hH.upd hg hi hl ?_
       grind [oI]
      ·refine⟨hr.fn,hr.size,?_,hr.mode,hr.kind,hr.round⟩;show aC (nZ μ) (iD calls l) (calls'++es);rw[zH];exact aC.append rel h2
      ·show if fr.R.mode.running=true then eL C _ _ _ _ _ _ _ _ else _;rw[yaa (by grind)];exact ht
  | some fn=>
   cases fn with
   | yld m=>exact trivial
   | func f=>
    obtain⟨fn,cap,as,rfl,hfn,hl⟩:=h1;cases hfn;simp only[]
    cases hp:C.prims.get f with
    | some x=>exact trivial
    | none=>
     simp only[]
     cases he:kL C f dargs true with
     | none=>exact trivial
     | some g=>
      obtain⟨h3,fn,hfn,hb⟩:=Ls (cur:=some H) hS.fns he hl;refine⟨μ,_,{ b with defers:=es }::cs,w,.one (RB hrun hbd (Ny hS.fns hfn hb)),fun _ _ h=>h,Below.refl N w,hH,h3,.cons ⟨⟨hr.fn,hr.size,h2,hr.mode,hr.kind,hr.round⟩,?_⟩ hcs⟩;show if fr.R.mode.running=true then eL C _ _ _ _ _ _ _ _ else _;rw[yaa (by grind)];exact ht
theorem aI.still{dp:Nat}{cur cur':Option wA}{fr:rC}(h:aI C μ dp cur fr b)(hm:fr.R.mode.running=false):aI C μ dp cur' fr b:=by
 refine⟨h.rest,?_⟩;have:=h.body
 simp_all
theorem YC{l:List PanicEntry}{m:List Br}(h:aC (Bm μ) m l):l.dropWhile (!·.goexit)=[]:=by
 induction h with
 | nil=>rfl
 | cons a _ ih=>simp[a.goexit,ih]
def Ry(c:rC)(rest:List rC)(H:wA):Option jQ:=
 match c.R.mode with
 | .panicking (⟨_,true⟩::_)=>some (⟨Jk c .returning,rest,H⟩:jQ)
 | _=>mB (!c.R.mode.running) (some ⟨c,rest,H⟩)
def FQ(C:fA)(fr:rC)(ch:List Br)(cs:List rC)(H:wA):pF:=
 fK (ob (C.fns.get fr.R.fn) fun _=>match cs with | c::rest=>some ⟨Oi c ch,rest,H⟩ | []=>none) 19
theorem zj1{dp:Nat}{c:rC}{c':Frame}(hc:aI C μ dp none c c'){x:jQ}{rest:List rC}(h:Ry c rest H=some x):x.cs=rest/\x.H=H/\aI C μ dp (some H) x.fr (vZ c'):=by
 have hm:=hc.rest.mode;have stay:c'.mode=c'.mode->(vZ c'=c')->c.R.mode.running=false->x=⟨c,rest,H⟩->x.cs=rest/\x.H=H/\aI C μ dp (some H) x.fr (vZ c'):=by
  intro _ h1 h2 h3;subst h3;rw[h1];exact⟨rfl,rfl,hc.still h2⟩
 obtain⟨ct,ctm,cR⟩:=c;obtain⟨f,n,de,mode,dd,ro⟩:=cR;unfold Ry at h;simp only at h hm
 cases mode with
 | run=>cases h
 | returning=>
  cases hcm:c'.mode with
  | returning=>exact stay rfl (by unfold vZ;rw[hcm]) rfl (yci h).symm
  | _=>rw[hcm]at hm;exact hm.elim
 | panicking ch=>
  cases hcm:c'.mode with
  | run=>rw[hcm]at hm;exact hm.elim
  | returning=>rw[hcm]at hm;exact hm.elim
  | panicking ch'=>
   rw[hcm]at hm
   cases hm with
   | nil=>exact stay rfl (by unfold vZ;rw[hcm]) rfl (yci h).symm
   | @cons p e older older' hp hold=>
    obtain⟨pv,pr⟩:=p;obtain⟨ev',er,eg⟩:=e;obtain⟨q1,q2,q3⟩:=hp;simp only at q1 q2 q3;subst q2 q3
    cases er with
    | false=>exact stay rfl (by unfold vZ;rw[hcm]) rfl (yci h).symm
    | true=>
     cases yci h;refine⟨rfl,rfl,?_⟩;have:vZ c'={ c' with mode:=.returning }:=by
      grind [vZ,YC]
     rw[this];have hb:=hc.body;exact⟨⟨hc.rest.fn,hc.rest.size,hc.rest.defers,trivial,hc.rest.kind,hc.rest.round⟩,hb⟩
theorem QG(hS:rJ P C B N I)(hH:jB B N μ H w)(hcs:wG C μ acs cs){fr:rC}(hr:fG μ fr.R b)(hm:b.mode=.returning)(hd:b.defers=[])(ht:lE μ fr.R.n fr.tm b.tmps) :
  nD P C B N μ base (lone b (cs++base) w) w (Ix C fr acs H):=by
 unfold Ix
 cases hx:ob (C.fns.get fr.R.fn) fun fn=>nX C H fr.tm fn.results.toList with
 | none=>exact trivial
 | some l=>
  rw[rA]at hx;obtain⟨fn,hfn,hres⟩:=hx;obtain⟨v,h1,h2⟩:=EY hS.tys hH ht hres;have hf:P.funcs[b.fn]?=some fn:=by rw[hr.fn];exact(hS.fns _ _ hfn).1
  have hk:=hr.kind;simp only[]
  cases hcs with
  | nil=>
   simp only[sD]
   cases hdf:fr.R.deferred with
   | true=>exact trivial
   | false=>
    rw[hdf]at hk;rw[yaa (by simp)];split
    ·rename_i hroot;exact⟨μ,b,w,v,.refl _ _,fun _ _ h=>h,Below.refl N w,hH,h2,by rw[hr.fn];simp_all,hm,hd,hk,fn,hf,h1⟩
    ·exact trivial
  | @cons c c' acs1 cs1 hc hcs1=>
   simp only[]
   cases hdf:fr.R.deferred with
   | true=>
    rw[hdf]at hk;simp only[cond_true];show nD P C B N μ base _ w (fK (Ry c acs1 H) 18);generalize hx:Ry c acs1 H=x
    cases x with
    | none=>exact trivial
    | some x=>
     obtain⟨h3,h4,h5⟩:=zj1 hc hx;obtain⟨xf,xc,xh⟩:=x;simp only at h3 h4 h5;subst h3 h4;exact⟨μ,_,cs1,w,.one (QZ hm hd hk hf h1),fun _ _ h=>h,Below.refl N w,hH,h5,hcs1⟩
   | false=>
    rw[hdf]at hk;simp only[cond_false]
    cases hfi:kH c (Cg l)with
    | none=>exact trivial
    | some g=>
     exact⟨μ,_,cs1,w,.one (step_leave_returned ⟨hm,hd,hk,fn,hf,h1⟩),fun _ _ h=>h,Below.refl N w,hH,Dj hc hfi h2,hcs1⟩
theorem PZ(hS:rJ P C B N I)(hH:jB B N μ H w)(hcs:wG C μ acs cs){fr:rC}(hfr:aI C μ acs.length (some H) fr b)(hm:fr.R.mode.running=false) :
  nD P C B N μ base (lone b (cs++base) w) w (Mv C fr acs H):=by
 have ht:lE μ fr.R.n fr.tm b.tmps:=by
  have:=hfr.body
  simp_all
 have hr:=hfr.rest;unfold Mv
 cases hd:fr.R.defers with
 | cons d l=>grind [QH]
 | nil=>
  have hbd:b.defers=[]:=by
   have:=hr.defers;rw[hd]at this;generalize hbd:b.defers=bd at this;cases this;rfl
  have hmode:=hr.mode;simp only[]
  cases hmo:fr.R.mode with
  | run=>rw[hmo]at hm;cases hm
  | returning=>
   rw[hmo]at hmode;have:b.mode=.returning:=by
    cases hb:b.mode with
    | returning=>rfl
    | _=>rw[hb]at hmode;exact hmode.elim
   exact QG hS hH hcs hr this hbd ht
  | panicking ch=>
   rw[hmo]at hmode
   cases hb:b.mode with
   | run=>rw[hb]at hmode;exact hmode.elim
   | returning=>rw[hb]at hmode;exact hmode.elim
   | panicking ch'=>
    rw[hb]at hmode;show nD P C B N μ base _ w (FQ C fr ch acs H);unfold FQ
    cases hfn:C.fns.get fr.R.fn with
    | none=>exact trivial
    | some fn=>
     rw[pA];have hf:P.funcs[b.fn]?=some fn:=by rw[hr.fn];exact(hS.fns _ _ hfn).1
     cases hcs with
     | nil=>exact trivial
     | @cons c c' acs1 cs1 hc hcs1=>
      exact⟨μ,_,cs1,w,.one (step_leave_panicked ⟨hb,hbd,fn,hf⟩),fun _ _ h=>h,Below.refl N w,hH,FP hc hmode,hcs1⟩
theorem zbr(hS:rJ P C B N I)(hI:I w){s:jQ}(hH:jB B N μ s.H w)(hcs:wG C μ s.cs cs)(hfr:aI C μ s.cs.length (some s.H) s.fr b):nD P C B N μ base (lone b (cs++base) w) w (stepA C s):=by
 obtain⟨⟨todo,tm,R⟩,acs,H⟩:=s;show nD P C B N μ base _ w (bif R.mode.running then vQ C todo tm R acs H else Mv C ⟨todo,tm,R⟩ acs H)
 cases hm:R.mode.running with
 | false=>grind [PZ]
 | true=>
  have hb:=hfr.body;have hr:=hfr.rest;simp only at hb hr;rw[yab hm]at hb;have hbm:b.mode=.run:=by
   have h:=hr.mode
   cases hmo:R.mode with
   | run=>
    rw[hmo]at h
    cases hb:b.mode with
    | run=>rfl
    | _=>rw[hb]at h;exact h.elim
   | _=>rw[hmo]at hm;cases hm
  have e:=zd4 hbm;have:=zjk (b:=b) (tmps:=b.tmps) (ds:=b.defers) (base:=base) hS hI hH hcs ⟨hr.fn,hr.size,hr.defers,by have:=hr.mode;rw[hbm]at this;exact this,hr.kind,hr.round⟩ hb
  simp_all
theorem DL(hS:rJ P C B N I)(hI:I w){m:Machine}{o:pF}(h:nD P C B N μ base m w o):nD P C B N μ base m w (Fb C o):=by
 cases o with
 | fail n=>exact trivial
 | done v H=>exact h
 | next s=>
  obtain⟨μ',b,cs,w',h1,h2,h3,h4,h5,h6⟩:=h;exact nD.of_steps h1 h2 h3 (zbr hS (hS.inv _ _ h3 hI) h4 h6 h5)
def zhv(hS:rJ P C B N I)(hI:I w){m:Machine}:∀(n:Nat) {o:pF},nD P C B N μ base m w o->nD P C B N μ base m w (aQ C n o):=by
 intro n;induction n with
 | zero=>intro o h;exact DL hS hI h
 | succ n ih=>intro o h;exact ih (ih h)
def YV(hS:rJ P C B N I)(hI:I w){f:Nat}(hroot:C.root=f){args:List zA}{args':Array Value}(hH:jB B N μ H w)(hl:iB μ args args'.toList){g:rC}(he:kL C f args false=some g){n:Nat}{v:zA}{H':wA}
  (hrun:aQ C n (.next ⟨g,[],H⟩)=.done v H') :
  Calls P f args' w fun e w'=>∃v' μ',e=.returned v'/\μ.lw μ'/\uA μ' v v'/\jB B N μ' H' w'/\Below N w w':=by
 intro base;have h0:nD P C B N μ base (lone (Frame.enter P f args' .normal) base w) w (.next ⟨g,[],H⟩):=
  ⟨μ,_,[],w,.refl _ _,fun _ _ h=>h,Below.refl N w,hH,(Ls (cur:=some H) hS.fns he hl).1,.nil⟩
 have h1:=zhv hS hI n h0;rw[hrun]at h1;obtain⟨μ',b,w',v',h2,h3,h4,h5,h6,h7,h8⟩:=h1;exact⟨.returned v',w',b,⟨v',μ',rfl,h3,h6,h5,h4⟩,h2,by rw[h7,hroot],h8⟩
end
end
section
abbrev dB:=Option (zA × wA)
abbrev pH:=AFn->List zA->wA->dB
structure Kt where
 norm:Tm->wA->dB
 exit:Nat->Tm->wA->dB
 ret:Tm->wA->dB
structure PI where
 id:Nat
 pl:List Nat
 ll:List (Nat × Nat)
def PI.kept(p:PI):List Nat:=iD p.pl (List.rec (motive:=fun _=>List Nat) [] (fun a _ r=>a.1::r) p.ll)
inductive kD where
 | skip
 | region (id:Nat) (ops:Array Oper) (draw:Bool)
 | seq (a b:kD)
 | cond (c:Operand) (x y:kD)
 | block (id:Nat) (c:kD)
 | loop (p:PI) (c:kD)
 | exit (id:Nat)
 | ret
 | cut (p:PI) (c:kD)
 | range (i:Nat) (pl:List Nat) (f:Operand) (ps:Array Nat) (id:Nat) (ops:Array Oper) (c:kD)
def bF:kD->Code
 | .skip=>.skip
 | .region id ops d=>.region id ops d
 | .seq a b=>.seq (bF a) (bF b)
 | .cond c x y=>.cond c (bF x) (bF y)
 | .block id c=>.block id (bF c)
 | .loop _ c=>.loop (bF c)
 | .exit id=>.exit id
 | .ret=>.ret
 | .cut _ c=>bF c
 | .range _ _ f ps id ops c=>.rangeFunc f ps (.region id ops false) (bF c)
def lim {α:Type}(f:Nat->Option α):Option α:=@dite _ (∃n r,f n=some r) (Classical.propDecidable _) (fun h=>f h.choose) (fun _=>none)
def Mono {α:Type}(f:Nat->Option α):Prop:=∀n r,f n=some r->f (n+1)=some r
def Mono.le{α:Type}{f:Nat->Option α}(h:Mono f){n m:Nat}{r:α}(hr:f n=some r)(hnm:n<=m):f m=some r:=by
 induction hnm with
 | refl=>exact hr
 | step _ ih=>exact h _ _ ih
def Pt{α:Type}{f:Nat->Option α}(h:Mono f){r:α}:lim f=some r ↔ ∃n,f n=some r:=by
 unfold lim;by_cases hx:∃n r,f n=some r
 ·rw[dif_pos hx];obtain⟨r0,h0⟩:=hx.choose_spec;constructor
  ·grind
  ·rintro⟨n,hn⟩;have a:=h.le h0 (Nat.le_max_left hx.choose n);have b:=h.le hn (Nat.le_max_right hx.choose n)
   simp_all
 simp_all
def zh8:lD->zA->(zA->dB)->dB
 | .bool,v,K=>ob v.asBool fun b=>K (.bool b)
 | .int k,v,K=>ob v.asIntK fun p=>mB (lN p.1 k) (K (.int k p.2))
 | .string,v,K=>ob v.asStr fun l=>K (.str l)
 | .ptr _,v,K=>K v
 | .slice _,v,K=>K v
 | .arr _ _,v,K=>K v
 | .map _ _,v,K=>K v
 | .struct _,v,K=>K v
 | .func,v,K=>K v
 | .iface,v,K=>K v
 | .other,v,K=>K v
def fitD:lD->zA->Prop
 | .bool,v=>∃b,v=.bool b
 | .int k,v=>∃n,v=.int k n
 | .string,v=>∃l,v=.str l
 | _,_=>True
theorem VF{d:lD}{v:zA}{K:zA->dB}{x:zA × wA}:zh8 d v K=some x ↔ fitD d v/\K v=some x:=by
 cases d<;>simp only[zh8,fitD,rA,fB,true_and]
 case bool=>
  grind [Bh]
 case int k=>
  constructor
  ·grind [cU,dK]
  ·rintro⟨⟨n,rfl⟩,h⟩;exact⟨(k,n),rfl,dK.2 rfl,h⟩
 grind [dU]
def gK(C:fA)(t:Nat)(v:zA)(K:zA->dB):dB:=
 match C.tys.get t with
 | some ty=>zh8 ty.desc v K
 | none=>K v
def cY (C:fA)(t:Nat)(v:zA):Prop:=
 match C.tys.get t with
 | some ty=>fitD ty.desc v
 | none=>True
theorem bP{C:fA}{t:Nat}{v:zA}{K:zA->dB}{x:zA × wA}:gK C t v K=some x ↔ cY C t v/\K v=some x:=by
 grind [gK,cY,VF]
def rG (φ:pH)(r:nK)(H:wA)(k:zA->wA->dB):dB:=
 match r with
 | .val v H'=>k v H'
 | .enter f args=>ob (φ (.func f) args H) fun p=>k p.1 p.2
 | .round l args=>ob (φ (.yld l) args H) fun p=>k p.1 p.2
 | _=>none
def pN (C:fA)(φ:pH)(all:Array Oper)(n:Nat)(κ:Tm->wA->dB)(l:List Oper):Tm->wA->dB:=
 List.rec (motive:=fun _=>Tm->wA->dB) κ
  (fun o _ g tm H=>ob (iF o.guard all tm) fun w=>Bool.rec (motive:=fun _=>dB) (g (putA n tm o.dst vE) H)
   (rG φ ((xG o.op).f C (.now tm) H) H fun v H'=>gK C o.type v fun v=>g (putA n tm o.dst v) H') w) l
def fH(C:fA)(H:wA)(all:Array Oper)(n:Nat)(old:Tm)(olds:List (Nat × List Nat))(k:Tm->dB)(l:List Nat):Tm->dB:=
 List.rec (motive:=fun _=>Tm->dB) k
  (fun i _ g tm=>ob (uD all.toList i) fun o=>ob (iF o.guard all tm) fun w=>Bool.rec (motive:=fun _=>dB) (g (putA n tm o.dst vE))
   (ob ((oF o.op).f C (.mixed tm old (xF i olds) (vH o.op)) H) fun v=>gK C o.type v fun v=>g (putA n tm o.dst v)) w) l
def wL(C:fA)(H:wA)(all:Array Oper)(old:Tm)(olds:List (Nat × List Nat))(tm:Tm)(k:dB)(l:List Nat):dB:=
 List.rec (motive:=fun _=>dB) k
  (fun i _ g=>ob (uD all.toList i) fun o=>ob o.dst fun d=>ob (iF o.guard all tm) fun w=>Bool.rec (motive:=fun _=>dB) g
   (ob ((oF o.op).f C (.mixed tm old (xF i olds) (vH o.op)) H) fun v=>gK C o.type v fun v=>ob (tm.get d) fun u=>mB (same 10 v u) g) w) l
def lL (all:Array Oper)(h:Nat):Nat:=bif Nat.blt (kB all.toList) h then Nat.sub h (Nat.succ (kB all.toList))else h
def vT(C:fA)(all:Array Oper)(h:Nat)(o:Oper)(tm:Tm):Option Bool:=ob (iF o.guard all tm) fun w=>bif Nat.blt (kB all.toList) h then mB (w&&sK o.op&&sH (vY C o.op)) (some w)else some w
def lS(all:Array Oper)(st:zF):Bool:=Nat.blt (kB all.toList+kB all.toList) st.heavy
def Lk(C:fA)(all:Array Oper)(n:Nat)(old:Tm)(olds:List (Nat × List Nat))(st:zF)(g:Tm->wA->dB)(tm:Tm)(H:wA):dB:=
 mB (bV C all) (ob (Gy all old olds tm st.again) fun es=>ob (eY C es H) fun H'=>fH C H' all n old olds (fun tm=>g tm H') st.lights tm)
def lI(C:fA)(φ:pH)(all:Array Oper)(n:Nat)(old:Tm)(olds:List (Nat × List Nat))(κ:Tm->wA->dB)(l:List zF):Tm->wA->dB:=
 List.rec (motive:=fun _=>Tm->wA->dB) κ
  (fun st _ g tm H=>Bool.rec (motive:=fun _=>dB) (ob (uD all.toList (lL all st.heavy)) fun o=>ob (vT C all st.heavy o tm) fun w=>
   (fun cont:zA->wA->dB=>Bool.rec (motive:=fun _=>dB) (cont vE H)
    (rG φ ((xG o.op).f C (.mixed tm old (xF (lL all st.heavy) olds) (vH o.op)) H) H fun v H'=>gK C o.type v fun v=>cont v H') w)
   (fun v H'=>wL C H' all old olds (putA n tm o.dst v) (fH C H' all n old olds (fun tm=>g tm H') st.lights (putA n tm o.dst v)) st.again)) (Lk C all n old olds st g tm H) (lS all st)) l
def Fo(C:fA)(φ:pH)(fn n:Nat)(κ:Tm->wA->dB)(id:Nat)(all:Array Oper)(draw:Bool):Tm->wA->dB:=
 Bool.rec (motive:=fun _=>Tm->wA->dB) (fun tm H=>pN C φ all n κ all.toList tm.cut H)
  (fun tm H=>ob (ob (C.plans.get fn) fun t=>t.get id) fun p=>mB (tS all p) (fH C H all n tm.cut p.olds (fun tm'=>lI C φ all n tm.cut p.olds κ p.stages tm' H) p.first tm.cut)) draw
def Gm(tm:Tm)(live:List Nat):Tr zA:=
 List.rec (motive:=fun _=>Tr zA) .leaf (fun i _ t=>match tm.get i with | some v=>t.set i v | none=>t) live
def keep (live:List Nat)(tm:Tm):Tm:=⟨tm.k,Gm tm live,[]⟩
def isDef0:Option (List pJ)->Bool
 | some []=>true
 | _=>false
def rZ(κ:Kt)(p:Option Code)(tm:Tm)(H:wA):dB:=
 match p with
 | none=>κ.norm tm H
 | some .ret=>κ.ret tm H
 | _=>none
def endLoop(H:wA)(l:Nat)(r:yO):wA:=setBlk H l (.loop ⟨.exhausted,r.pending,r.fn,r.n,r.tm,r.params,r.assign,r.body,r.defers⟩)
def fP(C:fA)(φ:pH)(fn n:Nat)(κ:Kt)(f:Operand)(ps:List Nat)(a b:Code)(tm:Tm)(H:wA):dB:=
 ob (ev f (.now tm)) fun v=>ob v.asFunc fun q=>match q.1 with
  | .yld _=>none
  | .func g=>mB (sH (C.prims.get g)) (ob (φ (.func g) (iD q.2.1 (.func (.yld (H.next+1)) [] []::q.2.2)) (newBlk (newBlk H (.deferred (some []))) (.loop ⟨.ready,none,fn,n,tm,ps,a,b,H.next⟩))) fun y=>
   ob (bJ y.2 (H.next+1)) fun r=>mB (!Nat.beq (LoopState.tag r.state) 1) (ob (rZ κ r.pending tm (endLoop y.2 (H.next+1) r)) fun z=>
    ob (pW z.2 H.next) fun d=>mB (isDef0 d) (some (z.1,setBlk z.2 H.next (.deferred none)))))
def fD (C:fA)(φ:pH)(fn n:Nat)(c:kD):Kt->Tm->wA->dB:=
 kD.rec (motive:=fun _=>Kt->Tm->wA->dB)
  (fun κ tm H=>κ.norm tm H)
  (fun id all draw κ=>Fo C φ fn n κ.norm id all draw)
  (fun _ _ ga gb κ=>ga ⟨gb κ,κ.exit,κ.ret⟩)
  (fun c _ _ gx gy κ tm H=>ob (ob (ev c (.now tm)) zA.asBool) fun b=>Bool.rec (motive:=fun _=>dB) (gy κ tm H) (gx κ tm H) b)
  (fun id _ g κ=>g ⟨κ.norm,fun i tm H=>Bool.rec (motive:=fun _=>dB) (κ.exit i tm H) (κ.norm tm H) (Nat.beq id i),κ.ret⟩)
  (fun live _ g κ tm H=>lim fun m=>Nat.rec (motive:=fun _=>Tm->wA->dB) (fun _ _=>none) (fun _ r tm H=>g ⟨r,κ.exit,κ.ret⟩ (keep live.kept tm) H) m tm H)
  (fun id κ tm H=>κ.exit id tm H)
  (fun κ tm H=>κ.ret tm H)
  (fun live _ g κ tm H=>g κ (keep live.kept tm) H)
  (fun _ _ f ps id ops c _ κ tm H=>fP C φ fn n κ f ps.toList (.region id ops false) (bF c) tm H) c
end
section
def jJ {α β γ:Type}(k k':α->β->Option γ):Prop:=∀a b x,k a b=some x->k' a b=some x
def nQ (φ φ':pH):Prop:=∀f a H x,φ f a H=some x->φ' f a H=some x
structure aN (κ κ':Kt):Prop where
 norm:jJ κ.norm κ'.norm
 exit:∀i,jJ (κ.exit i) (κ'.exit i)
 ret:jJ κ.ret κ'.ret
section
variable {C:fA}{φ φ':pH}{all:Array Oper}{n:Nat}{x:zA × wA}
def FC(hφ:nQ φ φ'){r:nK}{H:wA}{k k':zA->wA->dB}(hk:jJ k k')(h:rG φ r H k=some x):rG φ' r H k'=some x:=by
 cases r<;>simp only[rG]at h ⊢<;>try (cases h;done)
 case val v H'=>exact hk _ _ _ h
 case enter f args=>
  rw[rA]at h ⊢;obtain⟨p,h1,h2⟩:=h;exact⟨p,hφ _ _ _ _ h1,hk _ _ _ h2⟩
 case round l args=>
  rw[rA]at h ⊢;obtain⟨p,h1,h2⟩:=h;exact⟨p,hφ _ _ _ _ h1,hk _ _ _ h2⟩
def Xq{t:Nat}{k k':zA->wA->dB}(hk:jJ k k'):jJ (fun v H=>gK C t v fun v=>k v H) (fun v H=>gK C t v fun v=>k' v H):=by
 intro v H x h;rw[bP]at h ⊢;exact⟨h.1,hk _ _ _ h.2⟩
theorem Cs{κ:Tm->wA->dB}{o:Oper}{l:List Oper}{tm:Tm}{H:wA}:pN C φ all n κ (o::l) tm H=ob (iF o.guard all tm) fun w=>if w=true then
   (rG φ ((xG o.op).f C (.now tm) H) H fun v H'=>gK C o.type v fun v=>pN C φ all n κ l (putA n tm o.dst v) H')else pN C φ all n κ l (putA n tm o.dst vE) H:=by
 show(ob (iF o.guard all tm) fun w=>Bool.rec (motive:=fun _=>dB) _ _ w)=_;congr 1;funext w;rw[kJ];rfl
def Xj(hφ:nQ φ φ'){κ κ':Tm->wA->dB}(hκ:jJ κ κ'):∀(l:List Oper),jJ (pN C φ all n κ l) (pN C φ' all n κ' l):=by
 intro l;induction l with
 | nil=>exact hκ
 | cons o l ih=>
  intro tm H x h;rw[Cs,rA]at h ⊢;obtain⟨w,h1,h2⟩:=h;refine⟨w,h1,?_⟩;split at h2
  ·rename_i e;rw[yab e];exact FC hφ (Xq (k:=fun v H'=>pN C φ all n κ l (putA n tm o.dst v) H') (k':=fun v H'=>pN C φ' all n κ' l (putA n tm o.dst v) H') fun v H' y hy=>ih _ _ _ hy) h2
  ·rename_i e;rw[yaa e];exact ih _ _ _ h2
variable {H:wA}{old:Tm}{olds:List (Nat × List Nat)}
theorem Pw{k:Tm->dB}{i:Nat}{l:List Nat}{tm:Tm}:fH C H all n old olds k (i::l) tm=ob (uD all.toList i) fun o=>ob (iF o.guard all tm) fun w=>if w=true then
   (ob ((oF o.op).f C (.mixed tm old (xF i olds) (vH o.op)) H) fun v=>gK C o.type v fun v=>fH C H all n old olds k l (putA n tm o.dst v))else fH C H all n old olds k l (putA n tm o.dst vE):=by
 show(ob (uD all.toList i) fun o=>ob (iF o.guard all tm) fun w=>Bool.rec (motive:=fun _=>dB) _ _ w)=_;congr 1;funext o;congr 1;funext w;rw[kJ];rfl
theorem Pv{k k':Tm->dB}(hk:∀tm x,k tm=some x->k' tm=some x):∀(l:List Nat) tm x,fH C H all n old olds k l tm=some x->fH C H all n old olds k' l tm=some x:=by
 intro l;induction l with
 | nil=>exact hk
 | cons i l ih=>
  grind [Pw,rA,bP]
def AU{tm:Tm}{k:dB}{i:Nat}{l:List Nat}:wL C H all old olds tm k (i::l)=ob (uD all.toList i) fun o=>ob o.dst fun d=>ob (iF o.guard all tm) fun w=>if w=true then
   (ob ((oF o.op).f C (.mixed tm old (xF i olds) (vH o.op)) H) fun v=>gK C o.type v fun v=>ob (tm.get d) fun u=>mB (same 10 v u) (wL C H all old olds tm k l))else wL C H all old olds tm k l:=by
 show(ob (uD all.toList i) fun o=>ob o.dst fun d=>ob (iF o.guard all tm) fun w=>Bool.rec (motive:=fun _=>dB) _ _ w)=_;congr 1;funext o;congr 1;funext d;congr 1;funext w;rw[kJ];rfl
theorem Mc{tm:Tm}{k:dB}:∀(l:List Nat),wL C H all old olds tm k l=some x->Bk C H all old olds tm l=true/\k=some x:=by
 intro l;induction l with
 | nil=>intro h;exact⟨rfl,h⟩
 | cons i l ih=>
  intro h;rw[AU,rA]at h;obtain⟨o,h1,h⟩:=h;rw[rA]at h;grind [rA,Bk,bP,fB]
theorem AT{tm:Tm}{k k':dB}(hk:k'=some x):∀(l:List Nat),wL C H all old olds tm k l=some x->wL C H all old olds tm k' l=some x:=by
 intro l;induction l with
 | nil=>intro _;exact hk
 | cons i l ih=>
  intro h;rw[AU,rA]at h ⊢;obtain⟨o,h1,h⟩:=h;refine⟨o,h1,?_⟩;rw[rA]at h ⊢
  grind [rA,bP,fB]
theorem Fc{κ:Tm->wA->dB}{st:zF}{l:List zF}{tm:Tm}(hg:lS all st=false):lI C φ all n old olds κ (st::l) tm H=ob (uD all.toList (lL all st.heavy)) fun o=>ob (vT C all st.heavy o tm) fun w=>
   (fun cont:zA->wA->dB=>if w=true then(rG φ ((xG o.op).f C (.mixed tm old (xF (lL all st.heavy) olds) (vH o.op)) H) H fun v H'=>gK C o.type v fun v=>cont v H')else cont vE H)
   (fun v H'=>wL C H' all old olds (putA n tm o.dst v) (fH C H' all n old olds (fun tm=>lI C φ all n old olds κ l tm H') st.lights (putA n tm o.dst v)) st.again):=by
 show Bool.rec (motive:=fun _=>dB) _ _ (lS all st)=_;rw[hg];show(ob (uD all.toList (lL all st.heavy)) fun o=>ob (vT C all st.heavy o tm) fun w=>(fun cont:zA->wA->dB=>Bool.rec (motive:=fun _=>dB) _ _ w) _)=_;congr 1;funext o;congr 1;funext w;cases w<;>rfl
theorem Jg{κ:Tm->wA->dB}{st:zF}{l:List zF}{tm:Tm}(hg:lS all st=true):lI C φ all n old olds κ (st::l) tm H=Lk C all n old olds st (lI C φ all n old olds κ l) tm H:=by
 show Bool.rec (motive:=fun _=>dB) _ _ (lS all st)=_;rw[hg];rfl
theorem Qs{st:zF}{g:Tm->wA->dB}{tm:Tm}{x:zA × wA}:Lk C all n old olds st g tm H=some x ↔ bV C all=true/\∃es H',Gy all old olds tm st.again=some es/\eY C es H=some H'/\fH C H' all n old olds (fun tm=>g tm H') st.lights tm=some x:=by
 grind [Lk,rA,fB]
theorem Vj(hφ:nQ φ φ'){κ κ':Tm->wA->dB}(hκ:jJ κ κ'):∀(l:List zF),jJ (lI C φ all n old olds κ l) (lI C φ' all n old olds κ' l):=by
 intro l;induction l with
 | nil=>exact hκ
 | cons st l ih=>
  intro tm H x h
  cases hg:lS all st with
  | true=>
   rw[Jg hg,Qs]at h ⊢;obtain⟨h0,es,H',h1,h2,h3⟩:=h;exact⟨h0,es,H',h1,h2,Pv (fun tm x hx=>ih _ _ _ hx) _ _ _ h3⟩
  | false=>
  rw[Fc hg,rA]at h ⊢;obtain⟨o,h1,h⟩:=h;refine⟨o,h1,?_⟩;rw[rA]at h ⊢;obtain⟨w,h2,h⟩:=h;refine⟨w,h2,?_⟩;have cont:∀v H' y,wL C H' all old olds (putA n tm o.dst v) (fH C H' all n old olds (fun tm=>lI C φ all n old olds κ l tm H') st.lights (putA n tm o.dst v)) st.again=some y →
    wL C H' all old olds (putA n tm o.dst v) (fH C H' all n old olds (fun tm=>lI C φ' all n old olds κ' l tm H') st.lights (putA n tm o.dst v)) st.again=some y:=by
   intro v H' y hy;exact AT (Pv (fun tm x hx=>ih _ _ _ hx) _ _ _ (Mc _ hy).2) _ hy
  simp only[]at h ⊢;split at h
  ·rename_i e;rw[yab e];exact FC hφ (Xq cont) h
  grind
def FF(hφ:nQ φ φ'){κ κ':Tm->wA->dB}(hκ:jJ κ κ'){fn id:Nat}{draw:Bool}:jJ (Fo C φ fn n κ id all draw) (Fo C φ' fn n κ' id all draw):=by
 intro tm H x h
 cases draw with
 | false=>exact Xj hφ hκ _ _ _ _ h
 | true=>
  have h:(ob (ob (C.plans.get fn) fun t=>t.get id) fun p=>mB (tS all p) (fH C H all n tm.cut p.olds (fun tm'=>lI C φ all n tm.cut p.olds κ p.stages tm' H) p.first tm.cut))=some x:=h;show(ob (ob (C.plans.get fn) fun t=>t.get id) fun p=>mB (tS all p) (fH C H all n tm.cut p.olds (fun tm'=>lI C φ' all n tm.cut p.olds κ' p.stages tm' H) p.first tm.cut))=some x;rw[rA]at h ⊢
  obtain⟨p,h1,h⟩:=h;refine⟨p,h1,?_⟩;rw[fB]at h ⊢;exact⟨h.1,Pv (fun tm x hx=>Vj hφ hκ _ _ _ _ hx) _ _ _ h.2⟩
def OJ{κ κ':Kt}(hκ:aN κ κ'){p:Option Code}:jJ (rZ κ p) (rZ κ' p):=by
 intro tm H x h;unfold rZ at h ⊢;split at h
 ·exact hκ.norm _ _ _ h
 ·exact hκ.ret _ _ _ h
 ·cases h
def FO(hφ:nQ φ φ'){κ κ':Kt}(hκ:aN κ κ'){fn:Nat}{f:Operand}{ps:List Nat}{a b:Code}:jJ (fP C φ fn n κ f ps a b) (fP C φ' fn n κ' f ps a b):=by
 intro tm H x h;unfold fP at h ⊢;rw[rA]at h ⊢;obtain⟨v,h1,h⟩:=h;refine⟨v,h1,?_⟩;rw[rA]at h ⊢;obtain⟨q,h2,h⟩:=h;refine⟨q,h2,?_⟩;split at h
 ·cases h
 ·rw[fB,rA]at h ⊢;obtain⟨h3,y,h4,h⟩:=h;refine⟨h3,y,hφ _ _ _ _ h4,?_⟩;rw[rA]at h ⊢;obtain⟨r,h5,h⟩:=h;refine⟨r,h5,?_⟩;rw[fB,rA]at h ⊢;obtain⟨h6,z,h7,h⟩:=h;exact⟨h6,z,OJ hκ _ _ _ h7,h⟩
end
end
section
theorem Xy{α:Type}{f:Nat->Option α}{r:α}(h:lim f=some r):∃n,f n=some r:=by
 unfold lim at h;by_cases hx:∃n r,f n=some r
 all_goals grind
structure bN {α β γ:Type} (ks:Nat->α->β->Option γ) (k:α->β->Option γ):Prop where
 up:∀n,jJ (ks n) (ks (n+1))
 ex:∀a b x,k a b=some x->∃n,ks n a b=some x
def Iv{α β γ:Type}{ks:Nat->α->β->Option γ}(h:∀n,jJ (ks n) (ks (n+1))){n m:Nat}(hnm:n<=m):jJ (ks n) (ks m):=by
 induction hnm with
 | refl=>exact fun _ _ _ h=>h
 | step _ ih=>exact fun a b x hx=>h _ _ _ _ (ih a b x hx)
structure qZ (φs:Nat->pH) (φ:pH):Prop where
 up:∀n,nQ (φs n) (φs (n+1))
 ex:∀f a H x,φ f a H=some x->∃n,φs n f a H=some x
def qZ.le{φs:Nat->pH}{φ:pH}(h:qZ φs φ){n m:Nat}(hnm:n<=m):nQ (φs n) (φs m):=by
 induction hnm with
 | refl=>exact fun _ _ _ _ h=>h
 | step _ ih=>exact fun f a H x hx=>h.up _ _ _ _ _ (ih f a H x hx)
structure Eb (κs:Nat->Kt) (κ:Kt):Prop where
 norm:bN (fun n=>(κs n).norm) κ.norm
 exit:∀i,bN (fun n=>(κs n).exit i) (κ.exit i)
 ret:bN (fun n=>(κs n).ret) κ.ret
section
variable {C:fA}{φ φ':pH}{φs:Nat->pH}{all:Array Oper}{N fn:Nat}
def WM{g g':Kt->Tm->wA->dB}{κ κ':Kt}(hκ:aN κ κ')(hg:∀ κ κ',aN κ κ'->jJ (g κ) (g' κ'))(live:List Nat):∀m,jJ (Nat.rec (motive:=fun _=>Tm->wA->dB) (fun _ _=>none) (fun _ r tm H=>g ⟨r,κ.exit,κ.ret⟩ (keep live tm) H) m)
  (Nat.rec (motive:=fun _=>Tm->wA->dB) (fun _ _=>none) (fun _ r tm H=>g' ⟨r,κ'.exit,κ'.ret⟩ (keep live tm) H) m):=by
 intro m;induction m with
 | zero=>intro a b x h;cases h
 | succ m ih=>exact fun a b x h=>hg ⟨_,_,_⟩ ⟨_,_,_⟩ ⟨ih,hκ.exit,hκ.ret⟩ _ _ _ h
theorem aN.refl(κ:Kt):aN κ κ:=⟨fun _ _ _ h=>h,fun _ _ _ _ h=>h,fun _ _ _ h=>h⟩
def Yu{g:Kt->Tm->wA->dB}{κ:Kt}(hg:∀ κ κ',aN κ κ'->jJ (g κ) (g κ'))(live:List Nat):∀m,jJ (Nat.rec (motive:=fun _=>Tm->wA->dB) (fun _ _=>none) (fun _ r tm H=>g ⟨r,κ.exit,κ.ret⟩ (keep live tm) H) m)
  (Nat.rec (motive:=fun _=>Tm->wA->dB) (fun _ _=>none) (fun _ r tm H=>g ⟨r,κ.exit,κ.ret⟩ (keep live tm) H) (m+1)):=by
 intro m;induction m with
 | zero=>intro a b x h;cases h
 | succ m ih=>exact fun a b x h=>hg ⟨_,_,_⟩ ⟨_,_,_⟩ ⟨ih,(aN.refl κ).exit,(aN.refl κ).ret⟩ _ _ _ h
def Dm(hφ:nQ φ φ'):∀(c:kD) (κ κ':Kt),aN κ κ'->jJ (fD C φ fn N c κ) (fD C φ' fn N c κ'):=by
 have self:∀(ψ:pH),nQ ψ ψ:=fun _ _ _ _ _ h=>h;intro c;suffices h:∀ φ φ',nQ φ φ'->∀(κ κ':Kt),aN κ κ'->jJ (fD C φ fn N c κ) (fD C φ' fn N c κ') from h φ φ' hφ
 induction c with
 | skip=>exact fun _ _ _ κ κ' hκ=>hκ.norm
 | region id ops d=>exact fun _ _ hφ κ κ' hκ=>FF hφ hκ.norm
 | seq a b iha ihb=>exact fun _ _ hφ κ κ' hκ=>iha _ _ hφ _ _ ⟨ihb _ _ hφ _ _ hκ,hκ.exit,hκ.ret⟩
 | cond c a b iha ihb=>
  intro φ φ' hφ κ κ' hκ tm H x h;have h:(ob (ob (ev c (.now tm)) zA.asBool) fun t=>Bool.rec (motive:=fun _=>dB) (fD C φ fn N b κ tm H) (fD C φ fn N a κ tm H) t)=some x:=h;show(ob (ob (ev c (.now tm)) zA.asBool) fun t=>Bool.rec (motive:=fun _=>dB) (fD C φ' fn N b κ' tm H) (fD C φ' fn N a κ' tm H) t)=some x;rw[rA]at h ⊢;obtain⟨t,h1,h2⟩:=h;refine⟨t,h1,?_⟩
  cases t with
  | true=>exact iha _ _ hφ _ _ hκ _ _ _ h2
  | false=>exact ihb _ _ hφ _ _ hκ _ _ _ h2
 | block id c ih=>
  intro φ φ' hφ κ κ' hκ;refine ih _ _ hφ _ _ ⟨hκ.norm,fun i tm H x h=>?_,hκ.ret⟩;simp only[kJ]at h ⊢;split at h
  ·rename_i e;rw[yab e];exact hκ.norm _ _ _ h
  ·rename_i e;rw[yaa e];exact hκ.exit _ _ _ _ h
 | loop live c ih=>
  intro φ φ' hφ κ κ' hκ tm H x h;obtain⟨m,hm⟩:=Xy h;refine(Pt fun m y hy=>Yu (ih _ _ (self φ')) live.kept m _ _ _ hy).2 ⟨m,?_⟩;exact WM hκ (ih _ _ hφ) live.kept m _ _ _ hm
 | exit id=>exact fun _ _ _ κ κ' hκ=>hκ.exit id
 | ret=>exact fun _ _ _ κ κ' hκ=>hκ.ret
 | cut live c ih=>exact fun _ _ hφ κ κ' hκ tm H x h=>ih _ _ hφ _ _ hκ _ _ _ h
 | range i pl f ps id ops c ih=>exact fun _ _ hφ κ κ' hκ tm H x h=>FO hφ hκ _ _ _ h
def FA(hφ:qZ φs φ){r:nK}{H:wA}{ks:Nat->zA->wA->dB}{k:zA->wA->dB}(hk:bN ks k){x:zA × wA}(h:rG φ r H k=some x):∃n,rG (φs n) r H (ks n)=some x:=by
 cases r<;>simp only[rG]at h ⊢<;>try (cases h;done)
 case val v H'=>exact hk.ex _ _ _ h
 case enter f args=>
  rw[rA]at h;obtain⟨p,h1,h2⟩:=h;obtain⟨n,hn⟩:=hφ.ex _ _ _ _ h1;obtain⟨m,hm⟩:=hk.ex _ _ _ h2;exact⟨max n m,by rw[rA];exact⟨p,hφ.le (Nat.le_max_left n m) _ _ _ _ hn,Iv hk.up (Nat.le_max_right n m) _ _ _ hm⟩⟩
 case round l args=>
  rw[rA]at h;obtain⟨p,h1,h2⟩:=h;obtain⟨n,hn⟩:=hφ.ex _ _ _ _ h1;obtain⟨m,hm⟩:=hk.ex _ _ _ h2;exact⟨max n m,by rw[rA];exact⟨p,hφ.le (Nat.le_max_left n m) _ _ _ _ hn,Iv hk.up (Nat.le_max_right n m) _ _ _ hm⟩⟩
theorem HC{t:Nat}{ks:Nat->zA->wA->dB}{k:zA->wA->dB}(hk:bN ks k):bN (fun n v H=>gK C t v fun v=>ks n v H) (fun v H=>gK C t v fun v=>k v H):=by
 refine⟨fun n=>Xq (hk.up n),fun v H x h=>?_⟩;rw[bP]at h;obtain⟨n,hn⟩:=hk.ex _ _ _ h.2;exact⟨n,by grind [bP]⟩
theorem zcj(hφ:qZ φs φ){κs:Nat->Tm->wA->dB}{κ:Tm->wA->dB}(hκ:bN κs κ):∀(l:List Oper),bN (fun n=>pN C (φs n) all N (κs n) l) (pN C φ all N κ l):=by
 intro l;refine⟨fun n=>Xj (hφ.up n) (hκ.up n) l,?_⟩
 induction l with
 | nil=>exact hκ.ex
 | cons o l ih=>
  intro tm H x h;rw[Cs,rA]at h;obtain⟨w,h1,h2⟩:=h;split at h2
  ·rename_i e;obtain⟨n,hn⟩:=FA hφ (HC (ks:=fun n v H'=>pN C (φs n) all N (κs n) l (putA N tm o.dst v) H') (k:=fun v H'=>pN C φ all N κ l (putA N tm o.dst v) H') ⟨fun n v H' y hy=>Xj (hφ.up n) (hκ.up n) l _ _ _ hy,fun v H' y hy=>ih _ _ _ hy⟩) h2
   grind [Cs,rA]
  grind [Cs,rA]
variable {old:Tm}{olds:List (Nat × List Nat)}
theorem Xz{H:wA}{ks:Nat->Tm->dB}{k:Tm->dB}(hk:∀tm x,k tm=some x->∃n,ks n tm=some x):∀(l:List Nat) tm x,fH C H all N old olds k l tm=some x->∃n,fH C H all N old olds (ks n) l tm=some x:=by
 intro l;induction l with
 | nil=>exact hk
 | cons i l ih=>
  intro tm x h;simp only[Pw]at h ⊢;rw[rA]at h;obtain⟨o,h1,h⟩:=h;rw[rA]at h;obtain⟨w,h3,h4⟩:=h;split at h4
  ·rename_i e;rw[rA]at h4;obtain⟨v,h5,h6⟩:=h4
   simp_all [bP]
  simp_all
theorem RO(hφ:qZ φs φ){κs:Nat->Tm->wA->dB}{κ:Tm->wA->dB}(hκ:bN κs κ):∀(l:List zF),bN (fun n=>lI C (φs n) all N old olds (κs n) l) (lI C φ all N old olds κ l):=by
 intro l;refine⟨fun n=>Vj (hφ.up n) (hκ.up n) l,?_⟩
 induction l with
 | nil=>exact hκ.ex
 | cons st l ih=>
  intro tm H x h
  cases hg:lS all st with
  | true=>
   rw[Jg hg,Qs]at h;obtain⟨h0,es,H',h1,h2,h3⟩:=h;obtain⟨n,hn⟩:=Xz (fun tm x hx=>ih tm H' x hx) _ _ _ h3;exact⟨n,by grind [Jg,Qs]⟩
  | false=>
  rw[Fc hg,rA]at h;obtain⟨o,h1,h⟩:=h;rw[rA]at h;obtain⟨w,h2,h⟩:=h;have cont:bN (fun n v H'=>wL C H' all old olds (putA N tm o.dst v) (fH C H' all N old olds (fun tm=>lI C (φs n) all N old olds (κs n) l tm H') st.lights (putA N tm o.dst v)) st.again)
    (fun v H'=>wL C H' all old olds (putA N tm o.dst v) (fH C H' all N old olds (fun tm=>lI C φ all N old olds κ l tm H') st.lights (putA N tm o.dst v)) st.again):=by
   refine⟨fun n v H' y hy=>AT (Pv (fun tm x hx=>Vj (hφ.up n) (hκ.up n) l _ _ _ hx) _ _ _ (Mc _ hy).2) _ hy,fun v H' y hy=>?_⟩;obtain⟨n,hn⟩:=Xz (fun tm x hx=>ih tm H' x hx) _ _ _ (Mc _ hy).2;exact⟨n,AT hn _ hy⟩
  simp only[]at h;split at h
  ·rename_i e;obtain⟨n,hn⟩:=FA hφ (HC cont) h
   grind [Fc,pA]
  ·rename_i e;obtain⟨n,hn⟩:=cont.ex _ _ _ h;exact⟨n,by grind [Fc,pA]⟩
theorem TI(hφ:qZ φs φ){κs:Nat->Tm->wA->dB}{κ:Tm->wA->dB}(hκ:bN κs κ){id:Nat}{draw:Bool}:bN (fun n=>Fo C (φs n) fn N (κs n) id all draw) (Fo C φ fn N κ id all draw):=by
 refine⟨fun n=>FF (hφ.up n) (hκ.up n),fun tm H x h=>?_⟩
 cases draw with
 | false=>exact(zcj hφ hκ _).ex _ _ _ h
 | true=>
  have h:(ob (ob (C.plans.get fn) fun t=>t.get id) fun p=>mB (tS all p) (fH C H all N tm.cut p.olds (fun tm'=>lI C φ all N tm.cut p.olds κ p.stages tm' H) p.first tm.cut))=some x:=h;rw[rA]at h;obtain⟨p,h1,h⟩:=h;rw[fB]at h;obtain⟨n,hn⟩:=Xz (fun tm' x hx=>(RO hφ hκ p.stages).ex tm' H x hx) _ _ _ h.2;refine⟨n,?_⟩;show(ob (ob (C.plans.get fn) fun t=>t.get id) fun p=>mB (tS all p) (fH C H all N tm.cut p.olds (fun tm'=>lI C (φs n) all N tm.cut p.olds (κs n) p.stages tm' H) p.first tm.cut))=some x
  grind [pA,fB]
theorem FN(hφ:qZ φs φ){κs:Nat->Kt}{κ:Kt}(hκ:Eb κs κ){f:Operand}{ps:List Nat}{a b:Code}:bN (fun n=>fP C (φs n) fn N (κs n) f ps a b) (fP C φ fn N κ f ps a b):=by
 have kle:∀n,aN (κs n) (κs (n+1)):=fun n=>⟨hκ.norm.up n,fun i=>(hκ.exit i).up n,hκ.ret.up n⟩;have klm:∀n m,n<=m->aN (κs n) (κs m):=fun n m h=>⟨Iv hκ.norm.up h,fun i=>Iv (hκ.exit i).up h,Iv hκ.ret.up h⟩;refine⟨fun n=>FO (hφ.up n) (kle n),fun tm H x h=>?_⟩;unfold fP at h;rw[rA]at h;obtain⟨v,h1,h⟩:=h;rw[rA]at h;obtain⟨q,h2,h⟩:=h;split at h
 ·cases h
 ·rename_i g hg;rw[fB,rA]at h;obtain⟨h3,y,h4,h⟩:=h;rw[rA]at h;obtain⟨r,h5,h⟩:=h;rw[fB,rA]at h;obtain⟨h6,z,h7,h⟩:=h;obtain⟨n,hn⟩:=hφ.ex _ _ _ _ h4;have:∃m,rZ (κs m) r.pending (tm) (endLoop y.2 (H.next+1) r)=some z:=by
   unfold rZ at h7 ⊢;split at h7
   ·exact hκ.norm.ex _ _ _ h7
   ·exact hκ.ret.ex _ _ _ h7
   grind
  obtain⟨m,hm⟩:=this;refine⟨max n m,?_⟩;show fP C (φs (max n m)) fn N (κs (max n m)) f ps a b tm H=some x;unfold fP;rw[h1,pA,h2,pA,hg];simp only[];rw[fB,rA];refine⟨h3,y,hφ.le (Nat.le_max_left n m) _ _ _ _ hn,?_⟩;rw[h5,pA,fB,rA];exact⟨h6,z,OJ (klm _ _ (Nat.le_max_right n m)) _ _ _ hm,h⟩
theorem AA(hφ:qZ φs φ):∀(c:kD) (κs:Nat->Kt) (κ:Kt),Eb κs κ->bN (fun n=>fD C (φs n) fn N c (κs n)) (fD C φ fn N c κ):=by
 have kle:∀ {κs:Nat->Kt} {κ:Kt},Eb κs κ->∀n,aN (κs n) (κs (n+1)):=fun h n=>⟨h.norm.up n,fun i=>(h.exit i).up n,h.ret.up n⟩
 intro c;induction c with
 | skip=>exact fun κs κ hκ=>hκ.norm
 | region id ops d=>exact fun κs κ hκ=>TI hφ hκ.norm
 | seq a b iha ihb=>exact fun κs κ hκ=>iha (fun n=>⟨fD C (φs n) fn N b (κs n),(κs n).exit,(κs n).ret⟩) _ ⟨ihb _ _ hκ,hκ.exit,hκ.ret⟩
 | cond c a b iha ihb=>
  intro κs κ hκ;refine⟨fun n=>Dm (hφ.up n) (.cond c a b) _ _ (kle hκ n),fun tm H x h=>?_⟩;have h:(ob (ob (ev c (.now tm)) zA.asBool) fun t=>Bool.rec (motive:=fun _=>dB) (fD C φ fn N b κ tm H) (fD C φ fn N a κ tm H) t)=some x:=h;rw[rA]at h;obtain⟨t,h1,h2⟩:=h;have key:∀n,(Bool.rec (motive:=fun _=>dB) (fD C (φs n) fn N b (κs n) tm H) (fD C (φs n) fn N a (κs n) tm H) t:dB)=some x->fD C (φs n) fn N (.cond c a b) (κs n) tm H=some x:=by
   simp_all [fD]
  cases t with
  | true=>obtain⟨n,hn⟩:=(iha _ _ hκ).ex _ _ _ h2;grind
  | false=>obtain⟨n,hn⟩:=(ihb _ _ hκ).ex _ _ _ h2;grind
 | block id c ih=>
  intro κs κ hκ;refine ih (fun n=>⟨(κs n).norm,fun i tm H=>Bool.rec (motive:=fun _=>dB) ((κs n).exit i tm H) ((κs n).norm tm H) (Nat.beq id i),(κs n).ret⟩) _ ⟨hκ.norm,fun i=>⟨fun n tm H x h=>?_,fun tm H x h=>?_⟩,hκ.ret⟩
  ·simp only[kJ]at h ⊢;split at h
   ·rename_i e;rw[yab e];exact hκ.norm.up n _ _ _ h
   ·rename_i e;rw[yaa e];exact(hκ.exit i).up n _ _ _ h
  ·simp only[kJ]at h ⊢;split at h
   ·rename_i e;obtain⟨n,hn⟩:=hκ.norm.ex _ _ _ h;grind
   ·rename_i e;obtain⟨n,hn⟩:=(hκ.exit i).ex _ _ _ h;grind
 | loop live c ih=>
  intro κs κ hκ;refine⟨fun n=>Dm (hφ.up n) (.loop live c) _ _ (kle hκ n),fun tm H x h=>?_⟩;obtain⟨m,hm⟩:=Xy h;have it:∀m,bN (fun n=>(Nat.rec (motive:=fun _=>Tm->wA->dB) (fun _ _=>none) (fun _ r tm H=>fD C (φs n) fn N c ⟨r,(κs n).exit,(κs n).ret⟩ (keep live.kept tm) H) m:Tm->wA->dB))
    (Nat.rec (motive:=fun _=>Tm->wA->dB) (fun _ _=>none) (fun _ r tm H=>fD C φ fn N c ⟨r,κ.exit,κ.ret⟩ (keep live.kept tm) H) m):=by
   intro m;induction m with
   | zero=>exact⟨fun _ _ _ _ h=>h,fun _ _ _ h=>by cases h⟩
   | succ m ihm=>
    have:=ih _ _ (⟨ihm,hκ.exit,hκ.ret⟩:Eb (fun n=>⟨(Nat.rec (motive:=fun _=>Tm->wA->dB) (fun _ _=>none) (fun _ r tm H=>fD C (φs n) fn N c ⟨r,(κs n).exit,(κs n).ret⟩ (keep live.kept tm) H) m:Tm->wA->dB),(κs n).exit,(κs n).ret⟩) ⟨(Nat.rec (motive:=fun _=>Tm->wA->dB) (fun _ _=>none) (fun _ r tm H=>fD C φ fn N c ⟨r,κ.exit,κ.ret⟩ (keep live.kept tm) H) m:Tm->wA->dB),κ.exit,κ.ret⟩)
    exact⟨fun n tm H x h=>this.up n _ _ _ h,fun tm H x h=>this.ex _ _ _ h⟩
  obtain⟨n,hn⟩:=(it m).ex _ _ _ hm;exact⟨n,(Pt fun m y hy=>Yu (fun κ κ' h=>Dm (fun _ _ _ _ h=>h) c κ κ' h) live.kept m _ _ _ hy).2 ⟨m,hn⟩⟩
 | exit id=>exact fun κs κ hκ=>hκ.exit id
 | ret=>exact fun κs κ hκ=>hκ.ret
 | cut live c ih=>exact fun κs κ hκ=>⟨fun n tm H x h=>(ih _ _ hκ).up n _ _ _ h,fun tm H x h=>(ih _ _ hκ).ex _ _ _ h⟩
 | range i pl f ps id ops c ih=>exact fun κs κ hκ=>⟨fun n tm H x h=>(FN hφ hκ).up n _ _ _ h,fun tm H x h=>(FN hφ hκ).ex _ _ _ h⟩
theorem zdt{live:PI}{c:kD}{κ:Kt}{tm:Tm}{H:wA}:fD C φ fn N (.loop live c) κ tm H=fD C φ fn N c ⟨fD C φ fn N (.loop live c) κ,κ.exit,κ.ret⟩ (keep live.kept tm) H:=by
 have self:nQ φ φ:=fun _ _ _ _ h=>h;have up:∀m,jJ (Nat.rec (motive:=fun _=>Tm->wA->dB) (fun _ _=>none) (fun _ r tm H=>fD C φ fn N c ⟨r,κ.exit,κ.ret⟩ (keep live.kept tm) H) m)
   (Nat.rec (motive:=fun _=>Tm->wA->dB) (fun _ _=>none) (fun _ r tm H=>fD C φ fn N c ⟨r,κ.exit,κ.ret⟩ (keep live.kept tm) H) (m+1)):=Yu (Dm self c) live.kept
 have some_iff:∀tm H x,fD C φ fn N (.loop live c) κ tm H=some x ↔ ∃m,(Nat.rec (motive:=fun _=>Tm->wA->dB) (fun _ _=>none) (fun _ r tm H=>fD C φ fn N c ⟨r,κ.exit,κ.ret⟩ (keep live.kept tm) H) m:Tm->wA->dB) tm H=some x:=
  fun tm H x=>Pt fun m y hy=>up m _ _ _ hy
 have sup:Eb (fun m=>⟨(Nat.rec (motive:=fun _=>Tm->wA->dB) (fun _ _=>none) (fun _ r tm H=>fD C φ fn N c ⟨r,κ.exit,κ.ret⟩ (keep live.kept tm) H) m:Tm->wA->dB),κ.exit,κ.ret⟩) ⟨fD C φ fn N (.loop live c) κ,κ.exit,κ.ret⟩:=
  ⟨⟨up,fun tm H x h=>(some_iff tm H x).1 h⟩,fun i=>⟨fun _ _ _ _ h=>h,fun _ _ _ h=>⟨0,h⟩⟩,⟨fun _ _ _ _ h=>h,fun _ _ _ h=>⟨0,h⟩⟩⟩
 have key:∀x,fD C φ fn N (.loop live c) κ tm H=some x ↔ fD C φ fn N c ⟨fD C φ fn N (.loop live c) κ,κ.exit,κ.ret⟩ (keep live.kept tm) H=some x:=by
  intro x;rw[some_iff];constructor
  ·rintro⟨m,hm⟩
   cases m with
   | zero=>cases hm
   | succ m=>exact Dm self c ⟨(Nat.rec (motive:=fun _=>Tm->wA->dB) (fun _ _=>none) (fun _ r tm H=>fD C φ fn N c ⟨r,κ.exit,κ.ret⟩ (keep live.kept tm) H) m:Tm->wA->dB),κ.exit,κ.ret⟩ ⟨fD C φ fn N (.loop live c) κ,κ.exit,κ.ret⟩ ⟨fun tm H y hy=>(some_iff tm H y).2 ⟨m,hy⟩,fun _ _ _ _ h=>h,fun _ _ _ h=>h⟩ _ _ _ hm
  ·intro h;obtain⟨m,hm⟩:=(AA (φs:=fun _=>φ) ⟨fun _=>self,fun _ _ _ _ h=>⟨0,h⟩⟩ c _ _ sup).ex _ _ _ h;exact⟨m+1,hm⟩
 cases h:fD C φ fn N (.loop live c) κ tm H with
 | some x=>grind
 | none=>
  cases h2:fD C φ fn N c ⟨fD C φ fn N (.loop live c) κ,κ.exit,κ.ret⟩ (keep live.kept tm) H with
  | none=>rfl
  | some x=>simp_all
end
end
section
def Qh:List bD->Bool
 | .reg .. :: _=>true
 | _=>false
section
variable {P:Program}{C:fA}{B N:Nat}{I:World->Prop}{μ:Mu}{w:World}{base:List Frame}{m:Machine}
def Np(hF:Bp P C){f:Nat}{args:List zA}{args':Array Value}{H:wA}(hH:jB B N μ H w)(hl:iB μ args args'.toList){g:rC}(he:kL C f args false=some g) :
  nD P C B N μ base (lone (Frame.enter P f args' .normal) base w) w (.next ⟨g,[],H⟩):=
 ⟨μ,_,[],w,.refl _ _,fun _ _ h=>h,Below.refl N w,hH,(Ls (cur:=some H) hF he hl).1,.nil⟩
end
end
section
inductive iL (C:fA):pF->pF->Prop
 | refl (o:pF):iL C o o
 | step {o o':pF}:iL C (Fb C o) o'->iL C o o'
 | forget {todo:List bD} {tm tm':Tm} {R:iJ} {cs:List rC} {H:wA} {o':pF}:Qh todo=false->(∀i v,tm'.get i=some v->tm.get i=some v)->iL C (.next ⟨⟨todo,tm',R⟩,cs,H⟩) o'->iL C (.next ⟨⟨todo,tm,R⟩,cs,H⟩) o'
def iL.trans{C:fA}{a b c:pF}(h:iL C a b)(k:iL C b c):iL C a c:=by
 induction h with
 | refl=>exact k
 | step _ ih=>exact .step (ih k)
 | forget h1 h2 _ ih=>exact .forget h1 h2 (ih k)
section
variable {P:Program}{C:fA}{B N:Nat}{I:World->Prop}{μ:Mu}{w:World}{base:List Frame}{m:Machine}
def lE.forget{n:Nat}{tm tm':Tm}{tmps:Array Value}(h:lE μ n tm tmps)(hs:∀i v,tm'.get i=some v->tm.get i=some v):lE μ n tm' tmps:=⟨h.1,fun i v hv=>h.2 i v (hs i v hv)⟩
theorem zae{todo:List bD}{tm tm':Tm}{R:iJ}{acs:List rC}{H:wA}(hr:Qh todo=false)(hs:∀i v,tm'.get i=some v->tm.get i=some v)(h:nD P C B N μ base m w (.next ⟨⟨todo,tm,R⟩,acs,H⟩)) :
  nD P C B N μ base m w (.next ⟨⟨todo,tm',R⟩,acs,H⟩):=by
 obtain⟨μ',b,cs,w',h1,h2,h3,h4,h5,h6⟩:=h;obtain⟨bfn,btmps,btodo,bdefers,bmode,bkind,bround⟩:=b;refine⟨μ',_,cs,w',h1,h2,h3,h4,⟨h5.rest,?_⟩,h6⟩;have hb:=h5.body;simp only at hb ⊢;split at hb
 ·rename_i hm;rw[yab hm]
  cases hb with
  | plain a t=>exact .plain a (t.forget hs)
  | reg _ _ _ _=>cases hr
  | mid _ _ _ _ _=>cases hr
 ·rename_i hm;rw[yaa hm];exact hb.forget hs
theorem nD.reach(hS:rJ P C B N I)(hI:I w){o o':pF}(h:iL C o o'):nD P C B N μ base m w o->nD P C B N μ base m w o':=by
 induction h with
 | refl=>exact id
 | step _ ih=>grind [DL]
 | forget hr hs _ ih=>grind [zae]
end
def AV(C:fA)(f:Nat)(ds:List pJ)(fr:rC)(H:wA)(v:zA):Prop:=
 fr.R.mode=.returning/\fr.R.defers=ds/\fr.R.deferred=false/\fr.R.fn=f/\∃fn l,C.fns.get f=some fn/\nX C H fr.tm fn.results.toList=some l/\v=Cg l
def Wm(r:yO)(l:Nat)(tm:Tm):rC:=⟨[.code r.assign,.beginRound,.code r.body],tm,⟨r.fn,r.n,[],.run,false,some l⟩⟩
structure eW (C:fA) (φ:pH):Prop where
 fn:∀f args H x,φ (.func f) args H=some x->∃g,kL C f args false=some g/\∀acs,∃fr',iL C (.next ⟨g,acs,H⟩) (.next ⟨fr',acs,x.2⟩)/\AV C f [] fr' x.2 x.1
 rd:∀l args H x,φ (.yld l) args H=some x->∃r tm,bJ H l=some r/\pX r.n r.params args r.tm=some tm/\∀c acs c',kH c x.1=some c'->iL C (.next ⟨Wm r l tm,c::acs,H⟩) (.next ⟨c',acs,x.2⟩)
abbrev Bq:=List pJ->pF->zA × wA->Prop
def Fin (C:fA)(E:Bq)(ds:List pJ)(o:pF)(x:zA × wA):Prop:=∃o',iL C o o'/\E ds o' x
theorem Fin.step{C:fA}{E:Bq}{ds:List pJ}{o:pF}{x:zA × wA}(h:Fin C E ds (Fb C o) x):Fin C E ds o x:=by
 obtain⟨fr,h1,h2⟩:=h;exact⟨fr,.step h1,h2⟩
def Fin.of{C:fA}{E:Bq}{ds:List pJ}{o o':pF}{x:zA × wA}(hr:iL C o o')(h:Fin C E ds o' x):Fin C E ds o x:=by
 obtain⟨fr,h1,h2⟩:=h;exact⟨fr,hr.trans h1,h2⟩
abbrev RR(f N:Nat)(ro:Option Nat)(ds:List pJ):iJ:=⟨f,N,ds,.run,false,ro⟩
structure Hz (C:fA) (E:Bq) (G:zA × wA->Prop) (f N:Nat) (ro:Option Nat) (acs:List rC):Prop where
 not:∀ds todo tm H x,¬ E ds (.next ⟨⟨todo,tm,RR f N ro ds⟩,acs,H⟩) x
 all:ro=none->∀x,G x
 pop:ro=none->∀r ds o x,E (⟨none,r,[]⟩::ds) o x->pW x.2 r=some (some [])->∃o',iL C o o'/\E ds o' (x.1,setBlk x.2 r (.deferred none))
structure Sh (C:fA) (E:Bq) (G:zA × wA->Prop) (f N:Nat) (ro:Option Nat) (acs:List rC) (κ:Kt) (k:List bD):Prop where
 norm:∀ds x tm H,G x->κ.norm tm H=some x->Fin C E ds (.next ⟨⟨k,tm,RR f N ro ds⟩,acs,H⟩) x
 exit:∀ds x i tm H,G x->κ.exit i tm H=some x->Fin C E ds (.next ⟨⟨.code (.exit i)::k,tm,RR f N ro ds⟩,acs,H⟩) x
 ret:∀ds x tm H,G x->κ.ret tm H=some x->∀k',Fin C E ds (.next ⟨⟨.code .ret::k',tm,RR f N ro ds⟩,acs,H⟩) x
structure Ec where
 i:Nat
 pl:List Nat
 f:Operand
 ps:Array Nat
 id:Nat
 ops:Array Oper
 c:kD
def eT(c:kD):List Ec:=
 kD.rec (motive:=fun _=>List Ec) [] (fun _ _ _=>[]) (fun _ _ a b=>iD a b) (fun _ _ _ a b=>iD a b) (fun _ _ a=>a) (fun _ _ a=>a) (fun _=>[]) [] (fun _ _ a=>a)
  (fun i pl f ps id ops c a=>⟨i,pl,f,ps,id,ops,c⟩::a) c
section
variable {C:fA}{φ:pH}{E:Bq}{G:zA × wA->Prop}{ds:List pJ}{ro:Option Nat}{f N:Nat}{acs:List rC}{R:iJ}{κ:Kt}{k:List bD}{x:zA × wA}{all:Array Oper}
theorem jK(hR:R.mode.running=true){todo:List bD}{tm:Tm}{H:wA}:Fb C (.next ⟨⟨todo,tm,R⟩,acs,H⟩)=vQ C todo tm R acs H:=by
 show(bif R.mode.running then vQ C todo tm R acs H else _)=_
 grind
def KQ{fr c c':rC}{H:wA}{v:zA}(hr:AV C f [] fr H v)(hf:kH c v=some c'):Fb C (.next ⟨fr,c::acs,H⟩)=.next ⟨c',acs,H⟩:=by
 obtain⟨h1,h2,h3,h4,fn,l,h5,h6,rfl⟩:=hr;obtain⟨todo,tm,ffn,n,defers,mode,deferred,round⟩:=fr;simp only at h1 h2 h3 h4 h6;subst h1 h2 h3 h4;show Ix C ⟨todo,tm,_⟩ (c::acs) H=_;unfold Ix;rw[h5,pA,h6];simp only[cond_false];rw[hf];rfl
def FB(hφ:eW C φ){r:nK}{H:wA}{K:zA->wA->dB}(h:rG φ r H K=some x){fr:rC}
  (hK:∀v H' c',kH fr v=some c'->K v H'=some x->Fin C E ds (.next ⟨c',acs,H'⟩) x) (hfin:∀v,∃c',kH fr v=some c'):Fin C E ds (Hr r C fr acs H) x:=by
 cases r<;>simp only[rG]at h<;>try (cases h;done)
 case val v H'=>
  have h2:K v H'=some x:=h;obtain⟨c',hc⟩:=hfin v;show Fin C E ds (Cq v H' C fr acs H) x;unfold Cq;rw[hc];exact hK _ _ _ hc h2
 case enter g args=>
  rw[rA]at h;obtain⟨p,h1,h4⟩:=h;obtain⟨c',hc⟩:=hfin p.1;show Fin C E ds (Jv g args C fr acs H) x;unfold Jv;obtain⟨ge,he,r0⟩:=hφ.fn _ _ _ _ h1;obtain⟨fr',r1,r2⟩:=r0 (fr::acs);rw[he];refine Fin.of (r1.trans (.step ?_)) (hK _ _ _ hc h4);rw[KQ r2 hc];exact .refl _
 case round l args=>
  rw[rA]at h;obtain⟨p,h1,h4⟩:=h;obtain⟨c',hc⟩:=hfin p.1;obtain⟨r,tm,e1,e2,r0⟩:=hφ.rd _ _ _ _ h1;show Fin C E ds (Ju l args C fr acs H) x;unfold Ju;rw[e1,pA,e2,pA];exact Fin.of (r0 _ _ _ hc) (hK _ _ _ hc h4)
theorem UQ(hφ:eW C φ)(hR:R.mode.running=true)(hN:R.n=N){κn:Tm->wA->dB}(hκ:∀tm H,κn tm H=some x->Fin C E ds (.next ⟨⟨k,tm,R⟩,acs,H⟩) x) :
  ∀(l:List Oper) (tm:Tm) (H:wA),pN C φ all N κn l tm H=some x->Fin C E ds (kT C all k R acs l tm H) x:=by
 intro l;induction l with
 | nil=>exact fun tm H h=>hκ tm H h
 | cons o l ih=>
  intro tm H h;rw[Cs,rA]at h;obtain⟨w,h1,h⟩:=h;rw[Wh,h1]
  cases w with
  | false=>simp_all
  | true=>
   rw[yab rfl]at h;simp only[];generalize (xG o.op).f C (.now tm) H=r at h
   cases hv:r.asVal with
   | some p=>
    have:r=.val p.1 p.2:=by cases r<;>simp[nK.asVal]at hv;rw[<- hv]
    grind [rG,bP]
   | none=>
    refine FB hφ h (fun v H' c' hc hK=>?_) fun v=>⟨⟨.ops all l::k,putA R.n tm o.dst v,R⟩,by unfold kH;simp only[hR,cond_true];rfl⟩;unfold kH at hc;simp only[hR,cond_true]at hc;have hc:some (⟨.ops all l::k,putA R.n tm o.dst v,R⟩:rC)=some c':=hc;cases hc;refine .step ?_;rw[jK hR,hN];rw[bP]at hK;exact ih _ _ hK.2
theorem Pu{H:wA}{old:Tm}{olds:List (Nat × List Nat)}{K:Tm->dB}:∀(l:List Nat) (tm:Tm),fH C H all N old olds K l tm=some x->∃tm',zQ C H all N old olds l tm=some tm'/\K tm'=some x:=by
 intro l;induction l with
 | nil=>exact fun tm h=>⟨tm,rfl,h⟩
 | cons i l ih=>
  intro tm h;rw[Pw,rA]at h;obtain⟨o,h1,h⟩:=h;rw[rA]at h;grind [zQ,pA,rA,bP]
def KZ{C:fA}{o:Op}{e:xD}{H:wA}{r:nK}(hf:sK o=true)(h:(xG o).f C e H=r)(h1:∀q,r≠nL q):False:=by
 have key:∀q:Option (zA × wA),nL q=r->False:=fun q e=>h1 q e.symm;cases o<;>simp only[sK]at hf<;>first
  | (cases hf;done)
  | exact key _ h
theorem RP(hφ:eW C φ)(hR:R.mode.running=true)(hN:R.n=N){κn:Tm->wA->dB}(hκ:∀tm H,κn tm H=some x->Fin C E ds (.next ⟨⟨k,tm,R⟩,acs,H⟩) x){old:Tm}{olds:List (Nat × List Nat)} :
  ∀(l:List zF) (tm:Tm) (H:wA),lI C φ all N old olds κn l tm H=some x->Fin C E ds (.next ⟨⟨.reg all old olds l::k,tm,R⟩,acs,H⟩) x:=by
 intro l;induction l with
 | nil=>
  intro tm H h;refine .step ?_;rw[jK hR];exact hκ tm H h
 | cons st l ih=>
  intro tm H h
  cases hg:lS all st with
  | true=>
   rw[Jg hg,Qs]at h;obtain⟨h0,es,H',h1,h2,h3⟩:=h;obtain⟨tm',hl1,hl2⟩:=Pu _ _ h3;refine .step ?_;rw[jK hR];show Fin C E ds (iQ all old olds (st::l) C k tm R acs H) x;unfold iQ;have hg0:=lC.1 hg;rw[jD]at hg0;have hnone:uD all.toList st.heavy=none:=by
    grind [nG]
   simp only[hnone];rw[sD,yab (lC.2 (by rw[jD];omega)),sD,yab (show Nat.blt (kB all.toList+kB all.toList) st.heavy=true from hg)];unfold Ml;rw[h0,show ∀(x:Option jQ),mB true x=x from fun _=>rfl,h1,pA,h2,pA,hN,hl1,pA];exact ih _ _ hl2
  | false=>
  rw[Fc hg,rA]at h;obtain⟨o,h1,h⟩:=h;rw[rA]at h;obtain⟨w,h2',h⟩:=h;have hgn:Nat.blt (kB all.toList+kB all.toList) st.heavy=false:=hg;by_cases hfl:Nat.blt (kB all.toList) st.heavy=true
  ·-- an operation that is done early
   unfold vT at h2';unfold lL at h1 h;rw[hfl]at h1 h2' h;simp only[cond_true,rA,fB,ybb]at h1 h2';obtain⟨w',h2,⟨⟨hw,hfo⟩,hlo⟩,h2'⟩:=h2';cases h2';subst hw;simp only[if_true,cond_true]at h;have hval:∃v H',(xG o.op).f C (.mixed tm old (xF (Nat.sub st.heavy (Nat.succ (kB all.toList))) olds) (vH o.op)) H=.val v H':=by
    cases hr:(xG o.op).f C (.mixed tm old (xF (Nat.sub st.heavy (Nat.succ (kB all.toList))) olds) (vH o.op)) H with
    | val v H'=>simp_all
    | enter g args=>exact(KZ hfo hr fun q=>by cases q<;>simp[nL]).elim
    | round g args=>exact(KZ hfo hr fun q=>by cases q<;>simp[nL]).elim
    | _=>rw[hr]at h;cases h
   obtain⟨v,H',hv⟩:=hval;rw[hv]at h;have h:(gK C o.type v fun v=>wL C H' all old olds (putA N tm o.dst v) (fH C H' all N old olds (fun tm=>lI C φ all N old olds κn l tm H') st.lights (putA N tm o.dst v)) st.again)=some x:=h;rw[bP]at h;obtain⟨ha,hl⟩:=Mc _ h.2;obtain⟨tm',hl1,hl2⟩:=Pu _ _ hl;refine .step ?_;rw[jK hR];show Fin C E ds (iQ all old olds (st::l) C k tm R acs H) x
   unfold iQ;have hnone:uD all.toList st.heavy=none:=by
    grind [nG,lC,jD]
   simp only[hnone];rw[hfl,cond_true,hgn,cond_false];unfold Mm;rw[h1,pA,h2,pA,hv,hlo];show Fin C E ds (fK (ob (zQ C H' all R.n old olds st.lights (putA R.n tm o.dst v)) fun tm'=>some ⟨⟨.reg all old olds l::k,tm',R⟩,acs,H'⟩) 23) x;rw[hN,hl1,pA];exact ih _ _ hl2
  have hfl:Nat.blt (kB all.toList) st.heavy=false:=Bool.eq_false_iff.2 hfl;unfold vT at h2';unfold lL at h1 h;rw[hfl]at h1 h2' h;simp only[cond_false,rA]at h1 h2';obtain⟨w',h2,h2'⟩:=h2';cases h2';simp only[cond_false]at h;have back0:∀v H' c',kH (⟨.reg all old olds (st::l)::k,tm,R⟩:rC) v=some c' →
    wL C H' all old olds (putA N tm o.dst v) (fH C H' all N old olds (fun tm=>lI C φ all N old olds κn l tm H') st.lights (putA N tm o.dst v)) st.again=some x->Fin C E ds (.next ⟨c',acs,H'⟩) x:=by
   intro v H' c' hc hK;unfold kH at hc;simp only[hR,cond_true]at hc;have hc:(ob (uD all.toList st.heavy) fun o=>some (⟨.reg all old olds (⟨all.size,st.lights,st.again⟩::l)::k,putA R.n tm o.dst v,R⟩:rC))=some c':=hc;rw[h1,pA]at hc;cases hc;refine .step ?_;rw[jK hR,hN];obtain⟨ha,hl⟩:=Mc _ hK;obtain⟨tm',hl1,hl2⟩:=Pu _ _ hl;show Fin C E ds (iQ all old olds (⟨all.size,st.lights,st.again⟩::l) C k (putA N tm o.dst v) R acs H') x
   unfold iQ;have:uD all.toList all.size=none:=by rw[nG];simp
   simp only[this];rw[sD,yaa fun e=>by grind [lC,jD]];show Fin C E ds (Ig all old olds ⟨all.size,st.lights,st.again⟩ l C k (putA N tm o.dst v) R acs H') x;unfold Ig;simp only[ha,hN,hl1,pA];exact ih _ _ hl2
  have back:∀v H' c',kH (⟨.reg all old olds (st::l)::k,tm,R⟩:rC) v=some c' →
    (gK C o.type v fun v=>wL C H' all old olds (putA N tm o.dst v) (fH C H' all N old olds (fun tm=>lI C φ all N old olds κn l tm H') st.lights (putA N tm o.dst v)) st.again)=some x->Fin C E ds (.next ⟨c',acs,H'⟩) x:=by
   grind [bP]
  refine .step ?_;rw[jK hR];show Fin C E ds (iQ all old olds (st::l) C k tm R acs H) x;unfold iQ;simp only[h1];unfold Mk;rw[h2];simp only[];have hfin:∀v,∃c',kH (⟨.reg all old olds (st::l)::k,tm,R⟩:rC) v=some c':=fun v=>⟨⟨.reg all old olds (⟨all.size,st.lights,st.again⟩::l)::k,putA R.n tm o.dst v,R⟩,by
   unfold kH;simp only[hR,cond_true];show(ob (uD all.toList st.heavy) fun o=>some (⟨.reg all old olds (⟨all.size,st.lights,st.again⟩::l)::k,putA R.n tm o.dst v,R⟩:rC))=_;rw[h1];rfl⟩
  cases w with
  | true=>
   simp only[if_true]at h;exact FB hφ h back hfin
  | false=>
   simp only[ybq,if_false]at h;obtain⟨c',hc⟩:=hfin vE;show Fin C E ds (Cq vE H C _ acs H) x;unfold Cq;rw[hc];exact back0 _ _ _ hc h
theorem zc5{live:List Nat}{tm:Tm}{i:Nat}{v:zA}(h:(keep live tm).get i=some v):tm.get i=some v:=by
 unfold keep Tm.get at h;simp only[kJ]at h;split at h
 case isFalse=>cases h
 rename_i hk;have key:∀live:List Nat,(Gm tm live).get i=some v->tm.get i=some v:=by
  intro live;induction live with
  | nil=>grind [Gm,Tr.get_leaf]
  | cons j live ih=>
   grind [Gm,Tr.get_set]
 grind
def LO{todo:List bD}(hr:Qh todo=false){live:List Nat}{tm:Tm}{H:wA}(h:Fin C E ds (.next ⟨⟨todo,keep live tm,R⟩,acs,H⟩) x):Fin C E ds (.next ⟨⟨todo,tm,R⟩,acs,H⟩) x:=
 Fin.of (.forget hr (fun _ _=>zc5) (.refl _)) h
def Zm(hE:Hz C E G f N ro acs){t1 t2:List bD}(h1:Qh t1=false)(hs:∀tm H,vQ C t1 tm (RR f N ro ds) acs H=vQ C t2 tm (RR f N ro ds) acs H){tm:Tm}{H:wA}(h:Fin C E ds (.next ⟨⟨t2,tm,RR f N ro ds⟩,acs,H⟩) x):Fin C E ds (.next ⟨⟨t1,tm,RR f N ro ds⟩,acs,H⟩) x:=by
 obtain⟨o',hr,hv⟩:=h;refine⟨o',?_,hv⟩;generalize ho:(.next ⟨⟨t2,tm,RR f N ro ds⟩,acs,H⟩:pF)=o at hr
 induction hr generalizing tm with
 | refl=>
  subst ho;exact(hE.not _ _ _ _ _ hv).elim
 | step h ih=>
  subst ho;refine .step ?_;rw[jK rfl,hs,<- jK rfl];exact h
 | forget hr2 hs2 h ih=>
  cases ho;exact .forget h1 hs2 (ih hv rfl)
theorem WC{i:Nat}{t1 t2:List bD}{tm:Tm}{H:wA}:wR (some (.exit i)) C ⟨t1,tm,R⟩ acs H=wR (some (.exit i)) C ⟨t2,tm,R⟩ acs H:=by
 obtain⟨a,b,c,d,e,ro⟩:=R;unfold wR;cases ro<;>rfl
theorem Zp(hE:Hz C E G f N ro acs){i:Nat}{y:bD}(hy:∀j,y.blockId=some j->Nat.beq j i=false){tm:Tm}{H:wA}(h:Fin C E ds (.next ⟨⟨.code (.exit i)::k,tm,RR f N ro ds⟩,acs,H⟩) x):Fin C E ds (.next ⟨⟨.code (.exit i)::y::k,tm,RR f N ro ds⟩,acs,H⟩) x:=by
 refine Zm hE rfl (fun tm H=>?_) h;show kZ i C (y::k) tm (RR f N ro ds) acs H=kZ i C k tm (RR f N ro ds) acs H
 grind [oR,kZ,WC]
theorem TU(hφ:eW C φ)(hE:Hz C E G f N none acs){κ:Kt}(hκ:Sh C E G f N none acs κ k){fo:Operand}{ps:Array Nat}{a b:Code}{tm:Tm}{H:wA}(h:fP C φ f N κ fo ps.toList a b tm H=some x):Fin C E ds (.next ⟨⟨.code (.rangeFunc fo ps a b)::k,tm,RR f N none ds⟩,acs,H⟩) x:=by
 unfold fP at h;rw[rA]at h;obtain⟨v,h1,h⟩:=h;rw[rA]at h;obtain⟨⟨qf,q1,q2⟩,h2,h⟩:=h
 cases qf with
 | yld l=>cases h
 | func g=>
  simp only[fB,rA]at h;obtain⟨h3,y,h4,r,h5,h6,z,h7,d,h8,h9,h10⟩:=h;have hp:C.prims.get g=none:=by
   cases hx:C.prims.get g with
   | none=>rfl
   | some u=>rw[hx]at h3;cases h3
  obtain⟨ge,he,r0⟩:=hφ.fn _ _ _ _ h4;obtain⟨fr',r1,r2⟩:=r0 (⟨.inRange (H.next+1)::k,tm,RR f N none (⟨none,H.next,[]⟩::ds)⟩::acs);refine .step ?_;rw[jK rfl];show Fin C E ds (Ie fo ps a b C k tm (RR f N none ds) acs H) x;have hin:iX C (H.next+1) v=some ge:=by
   grind [iX,pA]
  unfold Ie;rw[h1,pA];simp only[hin,pA];refine Fin.of (r1.trans (.step ?_)) (?_:Fin C E ds (.next ⟨⟨.endRange (H.next+1)::k,tm,RR f N none (⟨none,H.next,[]⟩::ds)⟩,acs,y.2⟩) x)
  ·rw[KQ r2 (c':=⟨.endRange (H.next+1)::k,tm,RR f N none (⟨none,H.next,[]⟩::ds)⟩) rfl];exact .refl _
  refine .step ?_;rw[jK rfl];show Fin C E ds (Ih (H.next+1) C k tm (RR f N none (⟨none,H.next,[]⟩::ds)) acs y.2) x;unfold Ih;rw[h5,pA,h6];have key:Fin C E (⟨none,H.next,[]⟩::ds) (.next ⟨⟨(match r.pending with | some c=>.code c::k | none=>k),tm,RR f N none (⟨none,H.next,[]⟩::ds)⟩,acs,endLoop y.2 (H.next+1) r⟩) z:=by
   unfold rZ at h7;split at h7
   ·rename_i e;rw[e];exact hκ.norm _ _ _ _ (hE.all rfl _) h7
   ·rename_i e;rw[e];exact hκ.ret _ _ _ _ (hE.all rfl _) h7 k
   grind
  obtain⟨o',k1,k2⟩:=key;have hd:pW z.2 H.next=some (some []):=by
   rw[h8]
   cases d with
   | none=>cases h9
   | some l=>cases l with | nil=>rfl | cons _ _=>cases h9
  obtain⟨o'',k3,k4⟩:=hE.pop rfl _ _ _ _ k2 hd;cases h10;exact⟨o'',k1.trans k3,k4⟩
theorem Oh{α:Type}{a b:List α}(h:iD a b=[]):a=[]/\b=[]:=by grind [zH,List.append_eq_nil_iff]
theorem MJ(hφ:eW C φ)(hE:Hz C E G f N ro acs):∀(c:kD) (κ:Kt) (k:List bD),(ro=none\/eT c=[])->Sh C E G f N ro acs κ k->∀ds x tm H,G x->fD C φ f N c κ tm H=some x->Fin C E ds (.next ⟨⟨.code (bF c)::k,tm,RR f N ro ds⟩,acs,H⟩) x:=by
 intro c;induction c with
 | skip=>
  intro κ k _ hκ ds x tm H hG h;refine .step ?_;rw[jK rfl];exact hκ.norm _ _ _ _ hG h
 | region id ops d=>
  intro κ k _ hκ ds x tm H hG h;refine .step ?_;rw[jK rfl]
  cases d with
  | false=>exact UQ hφ rfl rfl (fun tm H h=>hκ.norm _ _ _ _ hG h) _ _ _ h
  | true=>
   have h:(ob (ob (C.plans.get f) fun t=>t.get id) fun p=>mB (tS ops p) (fH C H ops N tm.cut p.olds (fun tm'=>lI C φ ops N tm.cut p.olds κ.norm p.stages tm' H) p.first tm.cut))=some x:=h;rw[rA]at h;obtain⟨p,h1,h⟩:=h;rw[fB]at h;obtain⟨tm',hl1,hl2⟩:=Pu _ _ h.2;show Fin C E ds (Ii id ops C k tm (RR f N ro ds) acs H) x;unfold Ii;rw[h1,pA,h.1,hl1];exact RP hφ rfl rfl (fun tm H h=>hκ.norm _ _ _ _ hG h) _ _ _ hl2
 | seq a b iha ihb=>
  intro κ k hn hκ ds x tm H hG h;have hna:ro=none\/eT a=[]:=hn.imp id fun e=>(Oh e).1;have hnb:ro=none\/eT b=[]:=hn.imp id fun e=>(Oh e).2;refine Zm hE (t1:=.code (bF (.seq a b))::k) rfl (t2:=.code (bF a)::.code (bF b)::k) (fun _ _=>rfl) ?_;exact iha ⟨fD C φ f N b κ,κ.exit,κ.ret⟩ _ hna ⟨fun ds x tm H hG h=>ihb _ _ hnb hκ ds x tm H hG h,fun ds x i tm H hG h=>Zp hE (fun _ e=>by cases e) (hκ.exit _ _ _ _ _ hG h),hκ.ret⟩ ds x tm H hG h
 | cond c a b iha ihb=>
  intro κ k hn hκ ds x tm H hG h;have hna:ro=none\/eT a=[]:=hn.imp id fun e=>(Oh e).1;have hnb:ro=none\/eT b=[]:=hn.imp id fun e=>(Oh e).2;have h:(ob (ob (ev c (.now tm)) zA.asBool) fun t=>Bool.rec (motive:=fun _=>dB) (fD C φ f N b κ tm H) (fD C φ f N a κ tm H) t)=some x:=h;rw[rA]at h;obtain⟨t,h1,h⟩:=h;refine .step ?_;rw[jK rfl];show Fin C E ds (Ij c (bF a) (bF b) C k tm (RR f N ro ds) acs H) x
  unfold Ij;rw[h1]
  cases t with
  | true=>exact iha _ _ hna hκ _ _ _ _ hG h
  | false=>exact ihb _ _ hnb hκ _ _ _ _ hG h
 | block id c ih=>
  intro κ k hn hκ ds x tm H hG h;refine .step ?_;rw[jK rfl];have nx:∀ds x tm H,G x->κ.norm tm H=some x->Fin C E ds (.next ⟨⟨.inBlock id::k,tm,RR f N ro ds⟩,acs,H⟩) x:=by
   intro ds x tm H hG h;refine .step ?_;rw[jK rfl];exact hκ.norm _ _ _ _ hG h
  refine ih ⟨κ.norm,fun i tm H=>Bool.rec (motive:=fun _=>dB) (κ.exit i tm H) (κ.norm tm H) (Nat.beq id i),κ.ret⟩ _ hn ⟨nx,fun ds x i tm H hG h=>?_,hκ.ret⟩ ds x tm H hG h;dsimp only at h
  cases hb:Nat.beq id i with
  | true=>
   rw[hb]at h;refine .step ?_;rw[jK rfl];show Fin C E ds (kZ i C (.inBlock id::k) tm (RR f N ro ds) acs H) x;have e:oR i (.inBlock id::k)=some k:=by
    show(bif Nat.beq id i then some k else oR i k)=_
    grind
   unfold kZ;rw[e];exact hκ.norm _ _ _ _ hG h
  | false=>
   rw[hb]at h;exact Zp hE (fun j e=>by cases e;exact hb) (hκ.exit _ _ _ _ _ hG h)
 | loop live c ih=>
  intro κ k hn hκ ds x tm H hG h;obtain⟨m,hm⟩:=Xy h;have it:∀(m:Nat) ds x tm H,G x->(Nat.rec (motive:=fun _=>Tm->wA->dB) (fun _ _=>none) (fun _ r tm H=>fD C φ f N c ⟨r,κ.exit,κ.ret⟩ (keep live.kept tm) H) m:Tm->wA->dB) tm H=some x->Fin C E ds (.next ⟨⟨.inLoop (bF c)::k,tm,RR f N ro ds⟩,acs,H⟩) x:=by
   intro m;induction m with
   | zero=>simp_all
   | succ m ihm=>
    intro ds x tm H hG h;refine LO (live:=live.kept) rfl (.step ?_);rw[jK rfl];exact ih ⟨_,κ.exit,κ.ret⟩ _ hn ⟨ihm,fun ds x i tm H hG h=>Zp hE (fun _ e=>by cases e) (hκ.exit _ _ _ _ _ hG h),hκ.ret⟩ _ _ _ _ hG h
  exact Zm hE (t1:=.code (bF (.loop live c))::k) rfl (t2:=.inLoop (bF c)::k) (fun _ _=>rfl) (it m _ _ tm H hG hm)
 | exit id=>exact fun κ k _ hκ ds x tm H hG h=>hκ.exit _ _ _ _ _ hG h
 | ret=>exact fun κ k _ hκ ds x tm H hG h=>hκ.ret _ _ _ _ hG h k
 | cut live c ih=>exact fun κ k hn hκ ds x tm H hG h=>LO rfl (ih κ k hn hκ _ _ _ _ hG h)
 | range i pl fo ps id ops c ih=>
  intro κ k hn hκ ds x tm H hG h;rcases hn with rfl | e
  ·exact TU hφ hE hκ h
  ·cases e
end
end
section
def endK (C:fA)(fn:Func)(tm:Tm)(H:wA):dB:=ob (nX C H tm fn.results.toList) fun l=>some (Cg l,H)
def sV (C:fA)(fn:Func):Kt:=⟨endK C fn,fun _ _ _=>none,endK C fn⟩
def Jx(ops:List Oper):Bool:=nE (fun o=>match o.op with | .move _=>sH o.guard | .assign _=>sH o.guard | _=>false) ops
def Kc(c:kD):Option Ec:=match eT c with | [q]=>some q | _=>none
def rdOk (r:yO)(q:Ec):Prop:=r.assign=.region q.id q.ops false/\r.body=bF q.c/\r.params=q.ps.toList/\LoopState.tag r.state=0/\Jx q.ops.toList=true/\eT q.c=[]
def Dr(r:yO):yO:=⟨.busy,r.pending,r.fn,r.n,r.tm,r.params,r.assign,r.body,r.defers⟩
def aT(b:Bool)(r:yO):yO:=⟨if b then .ready else .done,if b then none else some .ret,r.fn,r.n,r.tm,r.params,r.assign,r.body,r.defers⟩
def rdK:Kt:=⟨fun _ H=>some (.bool true,H),fun _ _ _=>none,fun _ H=>some (.bool false,H)⟩
def Rv(C:fA)(φ:pH)(fn n:Nat)(q:Ec)(tm:Tm)(H:wA):dB:=fD C φ fn n (.seq (.region q.id q.ops false) q.c) rdK tm H
def Co(C:fA)(A:Tr kD)(φ:pH)(l:Nat)(args:List zA)(H:wA):dB:=
 ob (bJ H l) fun r=>ob (pX r.n r.params args r.tm) fun tm=>ob (A.get r.fn) fun c=>ob (Kc c) fun q=>@ite _ (rdOk r q) (Classical.propDecidable _)
  (ob (Rv C φ r.fn r.n q tm (setBlk H l (.loop (Dr r)))) fun x=>ob (bJ x.2 l) fun r2=>ob x.1.asBool fun b=>some (.bool b,setBlk x.2 l (.loop (aT b r2)))) none
def jS (C:fA)(A:Tr kD)(φ:pH)(f:Nat)(args:List zA)(H:wA):dB:=
 ob (A.get f) fun c=>ob (C.fns.get f) fun fn=>ob (kL C f args false) fun g=>fD C φ f fn.ntmps c (sV C fn) g.tm H
def Cj(C:fA)(A:Tr kD)(φ:pH):pH
 | .func f=>jS C A φ f
 | .yld l=>Co C A φ l
def Ac (C:fA)(A:Tr kD):Nat->pH
 | 0=>fun _ _ _=>none
 | n+1=>Cj C A (Ac C A n)
def qD (C:fA)(A:Tr kD):pH:=fun f args H=>lim fun n=>Ac C A n f args H
section
variable {C:fA}{A:Tr kD}
theorem Fk{φ:pH}{l:Nat}{args:List zA}{H:wA}{x:zA × wA}:Co C A φ l args H=some x ↔ ∃r tm c q y r2 b,bJ H l=some r/\pX r.n r.params args r.tm=some tm/\A.get r.fn=some c/\Kc c=some q/\rdOk r q/\Rv C φ r.fn r.n q tm (setBlk H l (.loop (Dr r)))=some y/\bJ y.2 l=some r2/\y.1=.bool b/\x=(.bool b,setBlk y.2 l (.loop (aT b r2))):=by
 unfold Co;grind [rA,Bh]
def DM{φ φ':pH}(h:nQ φ φ'):nQ (Cj C A φ) (Cj C A φ'):=by
 intro f args H x hx
 cases f with
 | yld l=>
  have hx:Co C A φ l args H=some x:=hx;obtain⟨r,tm,c,q,y,r2,b,h1,h2,h3,h4,hq,h5,h6,h7,h8⟩:=Fk.1 hx;exact Fk.2 ⟨r,tm,c,q,y,r2,b,h1,h2,h3,h4,hq,Dm h _ _ _ (aN.refl _) _ _ _ h5,h6,h7,h8⟩
 | func f=>
 have hx:jS C A φ f args H=some x:=hx;show jS C A φ' f args H=some x;unfold jS at hx ⊢;rw[rA]at hx ⊢;obtain⟨c,h1,hx⟩:=hx;refine⟨c,h1,?_⟩;rw[rA]at hx ⊢;obtain⟨fn,h2,hx⟩:=hx;refine⟨fn,h2,?_⟩;rw[rA]at hx ⊢;obtain⟨g,h3,hx⟩:=hx;exact⟨g,h3,Dm h c _ _ (aN.refl _) _ _ _ hx⟩
def GW:∀n,nQ (Ac C A n) (Ac C A (n+1)):=by
 intro n;induction n with
 | zero=>intro f args H x h;cases h
 | succ n ih=>exact DM ih
def Dh{f:AFn}{args:List zA}{H:wA}{x:zA × wA}:qD C A f args H=some x ↔ ∃n,Ac C A n f args H=some x:=
 Pt fun n _ hy=>GW n _ _ _ _ hy
def KY:qZ (Ac C A) (qD C A):=⟨GW,fun _ _ _ _ h=>Dh.1 h⟩
theorem zgl(f:AFn)(args:List zA)(H:wA):qD C A f args H=Cj C A (qD C A) f args H:=by
 have key:∀x,qD C A f args H=some x ↔ Cj C A (qD C A) f args H=some x:=by
  intro x;constructor
  ·intro h;obtain⟨n,hn⟩:=Dh.1 h
   cases n with
   | zero=>cases hn
   | succ n=>exact DM (fun f a H y hy=>Dh.2 ⟨n,hy⟩) _ _ _ _ hn
  ·intro h
   cases f with
   | yld l=>
    have h:Co C A (qD C A) l args H=some x:=h;obtain⟨r,tm,c,q,y,r2,b,h1,h2,h3,h4,hq,h5,h6,h7,h8⟩:=Fk.1 h;have sup:Eb (fun _=>rdK) rdK:=⟨⟨fun _ _ _ _ h=>h,fun _ _ _ h=>⟨0,h⟩⟩,fun i=>⟨fun _ _ _ _ h=>h,fun _ _ _ h=>⟨0,h⟩⟩,⟨fun _ _ _ _ h=>h,fun _ _ _ h=>⟨0,h⟩⟩⟩;obtain⟨n,hn⟩:=(AA KY _ _ _ sup).ex _ _ _ h5;exact Dh.2 ⟨n+1,Fk.2 ⟨r,tm,c,q,y,r2,b,h1,h2,h3,h4,hq,hn,h6,h7,h8⟩⟩
   | func f=>
   have h:jS C A (qD C A) f args H=some x:=h;unfold jS at h;rw[rA]at h;obtain⟨c,h1,h⟩:=h;rw[rA]at h;obtain⟨fn,h2,h⟩:=h;rw[rA]at h;obtain⟨g,h3,h⟩:=h;have sup:Eb (fun _=>sV C fn) (sV C fn):=⟨⟨fun _ _ _ _ h=>h,fun _ _ _ h=>⟨0,h⟩⟩,fun i=>⟨fun _ _ _ _ h=>h,fun _ _ _ h=>⟨0,h⟩⟩,⟨fun _ _ _ _ h=>h,fun _ _ _ h=>⟨0,h⟩⟩⟩;obtain⟨n,hn⟩:=(AA KY c _ _ sup).ex _ _ _ h;refine Dh.2 ⟨n+1,?_⟩
   show jS C A (Ac C A n) f args H=some x
   grind [jS,pA]
 cases h:qD C A f args H with
 | some x=>grind
 | none=>
  cases h2:Cj C A (qD C A) f args H with
  | none=>rfl
  | some x=>simp_all
def Ee(C:fA)(A:Tr kD):Prop:=∀f c,A.get f=some c->∃fn,C.fns.get f=some fn/\fn.body=some (bF c)
theorem XV{f:Nat}{args:List zA}{g:rC}(h:kL C f args false=some g):∃fn c,C.fns.get f=some fn/\fn.body=some c/\g.todo=[.code c]/\g.R=⟨f,fn.ntmps,[],.run,false,none⟩:=by
 grind [kL,rA,fB]
theorem Pp{α β:Type}{f g:α->Option β}:∀(l:List α) {r:List β},(∀a b,f a=some b->g a=some b)->iG f l=some r->iG g l=some r:=by
 intro l;induction l with
 | nil=>intro r _ h;exact h
 | cons a l ih=>
  grind [nN,rA]
def zj9(C:fA)(f:Nat)(acs:List rC):Bq:=fun ds o x=>∃fr',o=.next ⟨fr',acs,x.2⟩/\AV C f ds fr' x.2 x.1
def TE{H:wA}{tm:Tm}{r:Nat}{d e:Option (List pJ)}(hr:H.t.get r=some (.deferred d)):∀(l:List ResultVar) vs,nX C H tm l=some vs->nX C (setBlk H r (.deferred e)) tm l=some vs:=by
 intro l vs h;refine Pp l (fun rv v h=>?_) h
 cases rv with
 | tmp t=>exact h
 | cell a t=>
  have h:(ob (ob (tm.get a) zA.asPtr) fun p=>ob (C.tys.get t) fun ty=>ob (oD H p.1) fun c=>xR ty c.1 p.2)=some v:=h;show(ob (ob (tm.get a) zA.asPtr) fun p=>ob (C.tys.get t) fun ty=>ob (oD (setBlk H r (.deferred e)) p.1) fun c=>xR ty c.1 p.2)=some v;simp only[rA]at h ⊢;obtain⟨p,hp,ty,ht,c,hc,hv⟩:=h;refine⟨p,hp,ty,ht,c,?_,hv⟩;unfold oD at hc ⊢;rw[rA]at hc ⊢;obtain⟨y,h1,h2⟩:=hc
  refine⟨y,?_,h2⟩;show(H.t.set r (.deferred e)).get p.1=some y;rw[Tr.get_set,yaa fun e=>by rw[e,hr]at h1;cases h1;cases h2];exact h1
def zdi{f N:Nat}{acs:List rC}:Hz C (zj9 C f acs) (fun _=>True) f N none acs:=by
 refine⟨?_,fun _ _=>trivial,?_⟩
 ·rintro ds todo tm H x ⟨fr',h1,h2⟩;cases h1;have:=h2.1;cases this
 ·rintro _ r ds o x ⟨fr',rfl,h1,h2,h3,h4,fn,l,h5,h6,h7⟩ hd;obtain⟨todo,tm,ffn,n,defers,mode,deferred,round⟩:=fr';simp only at h1 h2 h3 h4 h6;subst h1 h2 h3 h4;have hr:x.2.t.get r=some (.deferred (some [])):=by
   unfold pW at hd;rw[fB,rA]at hd;obtain⟨_,y,e1,e2⟩:=hd;cases y<;>cases e2;exact e1
  refine⟨_,.step ?_,⟨⟨todo,tm,⟨ffn,n,ds,.returning,false,round⟩⟩,rfl,rfl,rfl,rfl,rfl,fn,l,h5,TE hr _ _ h6,h7⟩⟩;show iL C (Iy C ⟨none,r,[]⟩ ds ⟨todo,tm,⟨ffn,n,⟨none,r,[]⟩::ds,.returning,false,round⟩⟩ acs x.2) _;unfold Iy;simp only[hd,pA];exact .refl _
def MB{f:Nat}{fn:Func}{acs:List rC}{x:zA × wA}{ds:List pJ}(hf:C.fns.get f=some fn){tm:Tm}{H:wA}(h:endK C fn tm H=some x){todo:List bD}{N:Nat}
  (hs:vQ C todo tm (RR f N none ds) acs H=.next ⟨Jk ⟨todo,tm,RR f N none ds⟩ .returning,acs,H⟩):Fin C (zj9 C f acs) ds (.next ⟨⟨todo,tm,RR f N none ds⟩,acs,H⟩) x:=by
 unfold endK at h;rw[rA]at h;obtain⟨l,h1,h2⟩:=h;cases h2;refine .step ?_;rw[jK rfl,hs];exact⟨_,.refl _,_,rfl,rfl,rfl,rfl,rfl,fn,l,hf,h1,rfl⟩
def RdG (l:Nat)(c:rC):zA × wA->Prop:=fun x=>∃b r2 c',x.1=.bool b/\bJ x.2 l=some r2/\kH c (.bool b)=some c'
def RdEnd(l:Nat)(c:rC)(acs:List rC):Bq:=fun _ o x=>∃b r2 c',x.1=.bool b/\bJ x.2 l=some r2/\kH c (.bool b)=some c'/\o=.next ⟨c',acs,setBlk x.2 l (.loop (aT b r2))⟩
theorem ZH{C:fA}{φ:pH}{all:Array Oper}{n:Nat}{κn:Tm->wA->dB}:∀(l:List Oper) (tm:Tm) (H1:wA) (x:zA × wA),Jx l=true->pN C φ all n κn l tm H1=some x->∃tm',κn tm' H1=some x/\∀(k:List bD) (R:iJ) (cs:List rC) (H:wA),R.n=n->kT C all k R cs l tm H=xGo k tm' R cs H:=by
 intro l;induction l with
 | nil=>intro tm H1 x _ h;exact⟨tm,h,fun _ _ _ _ _=>rfl⟩
 | cons o l ih=>
  intro tm H1 x hp h;have hp:(bif (match o.op with | .move _=>sH o.guard | .assign _=>sH o.guard | _=>false)then Jx l else false)=true:=hp
  have hp1:(match o.op with | .move _=>sH o.guard | .assign _=>sH o.guard | _=>false)=true:=by
   simp_all
  rw[hp1]at hp;have hp:Jx l=true:=hp;have hmv:∃u,(∀H,(xG o.op).f C (.now tm) H=lv (aV u) C (.now tm) H)/\sH o.guard=true:=by
   cases ho:o.op<;>rw[ho]at hp1<;>first
    | (cases hp1;done)
    | exact⟨_,fun _=>rfl,hp1⟩
  obtain⟨u,hu,hg⟩:=hmv;have hw:iF o.guard all tm=some true:=by
   cases hx:o.guard with
   | none=>rfl
   | some g=>rw[hx]at hg;cases hg
  rw[Cs,hw,pA,yab rfl,hu]at h
  cases hv:ev u (.now tm)with
  | none=>
   have:lv (aV u) C (.now tm) H1=.fail:=by unfold lv aV;rw[hv]
   rw[this]at h;cases h
  | some v=>
   simp_all [lv,aV,rG,bP,Wh,nK.asVal]
theorem SU{φ:pH}(hφ:eW C φ){l:Nat}{args:List zA}{H:wA}{x:zA × wA}(h:Co C A φ l args H=some x) :
  ∃r tm,bJ H l=some r/\pX r.n r.params args r.tm=some tm/\∀c acs c',kH c x.1=some c'->iL C (.next ⟨Wm r l tm,c::acs,H⟩) (.next ⟨c',acs,x.2⟩):=by
 obtain⟨r,tm,cc,q,y,r2,b,h1,h2,h3,h4,⟨q1,q2,q3,q4,q5,q6⟩,h5,h6,h7,rfl⟩:=Fk.1 h;refine⟨r,tm,h1,h2,fun c acs c' hc=>?_⟩;have h5:pN C φ q.ops r.n (fD C φ r.fn r.n q.c rdK) q.ops.toList tm.cut (setBlk H l (.loop (Dr r)))=some y:=h5;obtain⟨tm',h8,h9⟩:=ZH _ _ _ _ q5 h5;unfold Wm;rw[q1,q2];refine .step ?_;rw[jK rfl];show iL C (kT C q.ops _ _ _ q.ops.toList tm.cut H) _
 rw[h9 _ _ _ _ rfl];refine .step ?_;show iL C (vQ C (.beginRound::[.code (bF q.c)]) tm' ⟨r.fn,r.n,[],.run,false,some l⟩ (c::acs) H) _;have hb:vQ C (.beginRound::[.code (bF q.c)]) tm' ⟨r.fn,r.n,[],.run,false,some l⟩ (c::acs) H=.next ⟨⟨[.code (bF q.c)],tm',RR r.fn r.n (some l) []⟩,c::acs,setBlk H l (.loop (Dr r))⟩:=by
  show Ik C [.code (bF q.c)] tm' _ (c::acs) H=_;unfold Ik;simp only[pA];rw[h1,pA,q4];rfl
 rw[hb];have hc:kH c (.bool b)=some c':=hc;have hE:Hz C (RdEnd l c acs) (RdG l c) r.fn r.n (some l) (c::acs):=by
  refine⟨?_,fun e=>(by cases e),fun e=>(by cases e)⟩;rintro ds todo tm H x ⟨b,r2,c',_,_,_,e⟩
  simp_all
 have hK:Sh C (RdEnd l c acs) (RdG l c) r.fn r.n (some l) (c::acs) rdK []:=by
  refine⟨?_,fun _ _ _ _ _ _ h=>(by cases h),?_⟩
  ·rintro ds x tm H ⟨b,r2,c',g1,g2,g3⟩ h;cases h;cases g1;refine .step ?_;rw[jK rfl];have:vQ C [] tm (RR r.fn r.n (some l) ds) (c::acs) H=.next ⟨c',acs,setBlk H l (.loop (aT true r2))⟩:=by
    have e0:vQ C [] tm (RR r.fn r.n (some l) ds) (c::acs) H=wR none C ⟨[],tm,RR r.fn r.n (some l) ds⟩ (c::acs) H:=rfl;rw[e0];unfold wR;simp only[g2,pA];show fK (ob (kH c (.bool true)) _) 7=_;rw[g3];rfl
   rw[this];exact⟨_,.refl _,true,r2,c',rfl,g2,g3,rfl⟩
  ·rintro ds x tm H ⟨b,r2,c',g1,g2,g3⟩ h k';cases h;cases g1;refine .step ?_;rw[jK rfl];have:vQ C (.code .ret::k') tm (RR r.fn r.n (some l) ds) (c::acs) H=.next ⟨c',acs,setBlk H l (.loop (aT false r2))⟩:=by
    have e0:vQ C (.code .ret::k') tm (RR r.fn r.n (some l) ds) (c::acs) H=wR (some .ret) C ⟨.code .ret::k',tm,RR r.fn r.n (some l) ds⟩ (c::acs) H:=rfl;rw[e0];unfold wR;simp only[g2,pA];show fK (ob (kH c (.bool false)) _) 7=_;rw[g3];rfl
   rw[this];exact⟨_,.refl _,false,r2,c',rfl,g2,g3,rfl⟩
 obtain⟨o',k1,b',r2',c'',k2,k3,k4,rfl⟩:=MJ hφ hE q.c rdK [] (Or.inr q6) hK [] y tm' _ ⟨b,r2,c',h7,h6,hc⟩ h8
 simp_all
theorem RM(hA:Ee C A){φ:pH}(hφ:eW C φ):eW C (Cj C A φ):=by
 refine⟨fun f args H x h=>?_,fun l args H x h=>SU hφ h⟩;have h:jS C A φ f args H=some x:=h;unfold jS at h;rw[rA]at h;obtain⟨c,h1,h⟩:=h;rw[rA]at h;obtain⟨fn,h2,h⟩:=h;rw[rA]at h;obtain⟨g,h3,h⟩:=h;refine⟨g,h3,fun acs=>?_⟩;obtain⟨fn',c',e1,e2,e3,e4⟩:=XV h3;rw[h2]at e1;cases e1;obtain⟨fn',e5,e6⟩:=hA f c h1;rw[h2]at e5;cases e5;rw[e2]at e6;cases e6;obtain⟨gt,gtm,gR⟩:=g
 simp only at e3 e4 h;subst e3 e4;have hK:Sh C (zj9 C f acs) (fun _=>True) f fn.ntmps none acs (sV C fn) []:=⟨fun ds x tm H _ h=>MB h2 h rfl,fun ds x i tm H _ h=>(by cases h),fun ds x tm H _ h k'=>MB h2 h rfl⟩;obtain⟨o',k1,fr',rfl,k2⟩:=MJ hφ zdi c (sV C fn) [] (Or.inl rfl) hK [] x gtm H trivial h
 grind
def GX(hA:Ee C A):∀n,eW C (Ac C A n):=by
 intro n;induction n with
 | zero=>exact⟨fun f args H x h=>(by cases h),fun l args H x h=>(by cases h)⟩
 | succ n ih=>exact RM hA ih
def zaf(hA:Ee C A):eW C (qD C A):=by
 refine⟨fun f args H x h=>?_,fun f args H x h=>?_⟩
 ·obtain⟨n,hn⟩:=Dh.1 h;exact(GX hA n).fn _ _ _ _ hn
 ·obtain⟨n,hn⟩:=Dh.1 h;exact(GX hA n).rd _ _ _ _ hn
theorem YU{P:Program}{B N:Nat}{I:World->Prop}{μ:Mu}{w:World}(hS:rJ P C B N I)(hI:I w)(hA:Ee C A){f:Nat}{args:List zA}{args':Array Value}{H H':wA}{v:zA}(hH:jB B N μ H w)(hl:iB μ args args'.toList)
  (h:qD C A (.func f) args H=some (v,H')):Calls P f args' w fun e w'=>∃v' μ',e=.returned v'/\μ.lw μ'/\uA μ' v v'/\jB B N μ' H' w'/\Below N w w':=by
 intro base;obtain⟨g,he,hr⟩:=(zaf hA).fn _ _ _ _ h;obtain⟨fr',r1,h1,h2,h3,h4,fn,l,h5,h6,rfl⟩:=hr [];have h0:nD P C B N μ base (lone (Frame.enter P f args' .normal) base w) w (.next ⟨g,[],H⟩):=Np hS.fns hH hl he;obtain⟨μ',b,cs,w',s1,s2,s3,s4,s5,s6⟩:=nD.reach hS hI r1 h0;cases s6;have hb:=s5.body;rw[yaa (by grind [zX.running])]at hb;obtain⟨v',q1,q2⟩:=EY hS.tys s4 hb h6;have hm:=s5.rest.mode
 rw[h1]at hm;have hbm:b.mode=.returning:=by
  cases hb:b.mode with
  | returning=>rfl
  | _=>rw[hb]at hm;exact hm.elim
 have hd:=s5.rest.defers;rw[h2]at hd;have hbd:b.defers=[]:=by
  generalize hx:b.defers=bd at hd;cases hd;rfl
 have hk:=s5.rest.kind;rw[h3]at hk;have hfn:b.fn=f:=by rw[s5.rest.fn,h4]
 exact⟨.returned v',w',b,⟨v',μ',rfl,s2,q2,s4,s3⟩,s1,hfn,hbm,hbd,hk,fn,by rw[hfn];exact(hS.fns _ _ h5).1,q1⟩
end
end
end Go.Am
