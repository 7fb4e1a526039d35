/- The simulation: leaving, rounds, regions in order, heavy operations. -/
import Derived.Test.YtfofhjofkodoeaaGreatDoorA03
set_option linter.all false
noncomputable section
namespace Go.Am
open Go Go.RowKit
section
section
variable {P:Program}{C:dA}{B N:Nat}{I:World->Prop}{μ ν:Mu}{H H':wA}{w:World}{tm:Tm}{R:fJ}{acs:List tC}{base cs:List Frame}
variable {b:Frame}{tmps:Array Value}{ds:List Deferred}{k:List tE}{k':List Item}{all:Array Oper}
def DH{m:Option Nat}(h:Ak μ none m):m=none:=by
 cases m with
 | none=>rfl
 | some l=>exact h.elim
theorem Uy{l:Nat}{m:Option Nat}(h:Ak μ (some l) m):∃i,μ l=some i/\m=some i.b:=by
 cases m with
 | none=>exact h.elim
 | some m=>obtain⟨i,h1,h2⟩:=h;simp_all
theorem zb0{r:Loop}(a:Array Value)(b:TypeId)(c:Nat × Nat):Obj.loop r≠.cells a b c:=by simp_all
theorem Wr(hH:mB B N μ H w)(hcs:qG C μ acs cs)(hR:xH μ R (b.atR ⟨tmps,ds⟩ []))(ht:iE μ R.n tm tmps){todo:List tE}{btodo:List Item}{jump:Option Code}
  (h0:b.roundOf=none->Vf jump=true->step P (lone (b.atR ⟨tmps,ds⟩ btodo) (cs++base) w)=.next (lone { b.atR ⟨tmps,ds⟩ btodo with mode:=.returning } (cs++base) w))
  (h1:∀l c rest v w',b.roundOf=some l->b.kind=.normal->(Instr.endRound l jump).run P w=.ok v w'->step P (lone (b.atR ⟨tmps,ds⟩ btodo) (c::rest) w)=.next (lone (c.finish v) rest w')) :
  kD P C B N μ base (lone (b.atR ⟨tmps,ds⟩ btodo) (cs++base) w) w (yR jump C ⟨todo,tm,R⟩ acs H):=by
 unfold yR;simp only[]
 cases hr:R.roundOf with
 | none=>
  have hb:b.roundOf=none:=by
   have:=hR.round;rw[hr]at this;exact DH this
  cases hj:Vf jump with
  | false=>exact trivial
  | true=>exact RX hH hcs hR ht (.one (h0 hb hj))
 | some l=>
  obtain⟨i,hi,hb⟩:∃i,μ l=some i/\b.roundOf=some i.b:=by
   have:=hR.round;rw[hr]at this;exact Uy this
  simp only[]
  cases hx:aJ H l with
  | none=>exact trivial
  | some r=>
   rw[pA]
   cases hcs with
   | nil=>exact trivial
   | @cons c b1 acs1 cs1 hc hcs1=>
    simp only[]
    cases hd:R.deferred with
    | true=>exact trivial
    | false=>
     have hkind:b.kind=.normal:=by have:=hR.kind;rw[hd]at this;exact this
     cases hf:kH c (.bool jump.isNone)with
     | none=>exact trivial
     | some c'=>
      obtain⟨hl,r',hg,hw,rel⟩:=Jz hH hx hi;have run:(Instr.endRound i.b jump).run P w=.ok (.bool jump.isNone) (World.setBlk w i.b (.loop { r' with state:=if jump.isNone then .ready else .done,pending:=jump })):=by
       simp_all [Instr.endRound,Ja,En]
      refine⟨μ,_,cs1,_,.one (h1 i.b b1 (cs1++base) _ _ hb hkind run),fun _ _ h=>h,cV (hH.own l i hl hi).1,?_,Cr hc hf (by rw[vA]),hcs1⟩;refine hH.upd hg hi hl ?_;rw[jI];exact⟨_,rfl,rfl,rfl,rel.fn,rel.tm,rel.params,rel.assign,rel.body,rel.defers⟩
theorem XA{id:Nat}:∀ {k:List tE} {k':List Item},eC (mG μ) k k'->pR id k=none->exitTo id k'=none:=by
 intro k k' h;induction h with
 | nil=>intro _;rfl
 | cons a l ih=>
  intro e
  cases a with
  | inBlock i=>
   grind [pR,tE.blockId,exitTo,oC]
  | _=>
   grind [pR,exitTo]
def zir(hH:mB B N μ H w)(hcs:qG C μ acs cs)(hR:xH μ R (b.atR ⟨tmps,ds⟩ []))(ht:iE μ R.n tm tmps)(hk:eC (mG μ) k k'){id:Nat} :
  kD P C B N μ base (lone (b.atR ⟨tmps,ds⟩ (.code (.exit id)::k')) (cs++base) w) w (jY id C k tm R acs H):=by
 unfold jY
 cases he:pR id k with
 | some r=>
  obtain⟨r',h1,h2⟩:=WZ hk he;exact cW hH hcs hR ht h2 (.one (stepR_exit h1))
 | none=>
  exact Wr hH hcs hR ht (fun _ h=>by cases h) fun l c rest v w' hb hkd hr=>stepR_round_exit hb hkd (XA hk he) hr
def ret_ok(hH:mB B N μ H w)(hcs:qG C μ acs cs)(hR:xH μ R (b.atR ⟨tmps,ds⟩ []))(ht:iE μ R.n tm tmps) :
  kD P C B N μ base (lone (b.atR ⟨tmps,ds⟩ (.code .ret::k')) (cs++base) w) w (xRet C k tm R acs H):=
 Wr hH hcs hR ht (fun hb _=>stepR_ret hb) fun _ _ _ _ _ hb hkd hr=>stepR_round_ret hb hkd hr
def end_ok(hH:mB B N μ H w)(hcs:qG C μ acs cs)(hR:xH μ R (b.atR ⟨tmps,ds⟩ []))(ht:iE μ R.n tm tmps) :
  kD P C B N μ base (lone (b.atR ⟨tmps,ds⟩ []) (cs++base) w) w (yR none C ⟨[],tm,R⟩ acs H):=
 Wr hH hcs hR ht (fun hb _=>stepR_end hb) fun _ _ _ _ _ hb hkd hr=>stepR_round_end hb hkd hr
theorem Uu{o:Oper}{rest:List Oper}:yT C all k R acs (o::rest) tm H=match gF o.guard all tm with
  | none=>.fail 20
  | some false=>yT C all k R acs rest (putA R.n tm o.dst xE) H
  | some true=>match ((sG o.op).f C (.now tm) H).asVal with
   | some p=>yT C all k R acs rest (putA R.n tm o.dst p.1) p.2
   | none=>Hb ((sG o.op).f C (.now tm) H) C ⟨.ops all (o::rest)::k,tm,R⟩ acs H:=by
 show(match gF o.guard all tm with
  | some w=>Bool.rec (motive:=fun _=>aE) (yT C all k R acs rest (putA R.n tm o.dst xE) H)
     (let r:=(sG o.op).f C (.now tm) H
     match r.asVal with
     | some p=>yT C all k R acs rest (putA R.n tm o.dst p.1) p.2
     | none=>Hb r C ⟨.ops all (o::rest)::k,tm,R⟩ acs H) w
  | none=>.fail 20)=_
 grind
theorem DW{n i:Nat}(h:i<n):(List.range n).drop i=i::(List.range n).drop (i+1):=by
 grind [List.drop_eq_getElem_cons]
theorem DB(hS:lI P C B N I):∀(rest:List Oper) (i:Nat) (tm:Tm) (H:wA) (w:World) (μ:Mu) (tmps:Array Value),rest=all.toList.drop i->i<=all.size->I w->mB B N μ H w->qG C μ acs cs →
  xH μ R (b.atR ⟨tmps,ds⟩ [])->iE μ R.n tm tmps->eC (mG μ) k k' →
  kD P C B N μ base (lone (b.atR ⟨tmps,ds⟩ (.inRegion all ((List.range all.size).drop i)::k')) (cs++base) w) w (yT C all k R acs rest tm H):=by
 intro rest;induction rest with
 | nil=>
  intro i tm H w μ tmps hi hle hI hH hcs hR ht hk;have:all.size<=i:=by
   simp_all
  rw[ybt (by simp_all)];exact cW hH hcs hR ht hk (.one stepR_region_end)
 | cons o rest ih=>
  intro i tm H w μ tmps hi hle hI hH hcs hR ht hk;obtain⟨h1,h2⟩:=wU hi;have hlt:i<all.size:=by grind
  have ho:all[i]?=some o:=by simp_all
  rw[Uu,DW hlt]
  cases hw:gF o.guard all tm with
  | none=>exact trivial
  | some wn=>
   have hwn:=ht.wanted (all:=all) hw
   cases wn with
   | false=>
    refine kD.of_steps (.one (Ug ho hwn)) (fun _ _ h=>h) (Below.refl N w) ?_;rw[Fa];have t:=ht.put (ds:=ds) (dst:=o.dst) Ma;exact ih (i+1) _ _ _ _ _ h2 hlt hI hH hcs (hR.slots t.1) t hk
   | true=>
    have hop:=zfs hS.tys hS.base hS.fns hS.prims hH hI (ht.erel (ds:=ds) hH.glob) o;simp only[];generalize hr:(sG o.op).f C (.now tm) H=r at hop;have hdef:(∃c,o.op=.defer c)->r=.fail\/∃d,r=.defer d:=fun h=>by grind [NF]
    have hfr:sJ C μ acs.length none ⟨.ops all (o::rest)::k,tm,R⟩ (b.atR ⟨tmps,ds⟩ (.inRegion all (i::(List.range all.size).drop (i+1))::k')):=by
     refine⟨hR.todo,?_⟩;rw[yab hR.running,<- DW hlt,hi];exact .plain (.cons (.ops all i hle) hk) ht
    cases hv:r.asVal with
    | none=>grind [NK]
    | some p=>
     have:r=.val p.1 p.2:=by cases r<;>simp[nK.asVal]at hv;rw[<- hv]
     subst this;simp only[];have hd:∀c,o.op≠.defer c:=fun c e=>by
      rcases hdef ⟨c,e⟩with h | ⟨d,h⟩<;>cases h
     rcases hop with h | ⟨f,args',h3,h4⟩
     ·obtain⟨v',w',μ',s,hm,hH',hb,hv⟩:=Rz (b:=b) (k':=k') (rest:=(List.range all.size).drop (i+1)) (cs:=cs++base) ho hwn hd h;refine kD.of_steps (.one s) hm.f hb ?_;have t:=(ht.mono hm).put (ds:=ds) (dst:=o.dst) hv;exact ih (i+1) _ _ _ _ _ h2 hlt (hS.inv _ _ hb hI) hH' (hcs.mono hm) ((hR.mono hm).slots t.1) t (hk.mono fun _ _ r=>r.mono hm)
     ·obtain⟨v',w',s,μ',hm,hH',hb,hv⟩:=ME (b:=b) (k':=k') (rest:=(List.range all.size).drop (i+1)) (cs:=cs++base) (R:=fun v' w'=>∃ μ',μ.le μ'/\mB B N μ' p.2 w'/\Below N w w'/\vA μ' p.1 v') ho hwn hd h3 (h4.mono fun e w' hh=>by simp_all);refine kD.of_steps s hm.f hb ?_;have t:=(ht.mono hm).put (ds:=ds) (dst:=o.dst) hv;exact ih (i+1) _ _ _ _ _ h2 hlt (hS.inv _ _ hb hI) hH' (hcs.mono hm) ((hR.mono hm).slots t.1) t (hk.mono fun _ _ r=>r.mono hm)
theorem zcm(hS:lI P C B N I)(hI:I w)(hH:mB B N μ H w)(hcs:qG C μ acs cs)(hR:xH μ R (b.atR ⟨tmps,ds⟩ []))(hk:eC (mG μ) k k'){olds:List (Nat × List Nat)}{anc:Tr Nat}{old:Tm}{D:Nat}{S:Nat->Bool}{order:List Nat}{st:xF}{stages:List xF}{o:Oper}
  (hr:dF μ all olds anc R.n old tm D S order tmps) (hst:vJ all.toList anc (st::stages) D=true) (hp:rH C μ acs.length H all olds R.n old tm D S) (ho:all[st.heavy]?=some o) :
  kD P C B N μ base (lone (b.atR ⟨tmps,ds⟩ (.inRegion all order::k')) (cs++base) w) w (Lx all old olds st stages o C k tm R acs H):=by
 have hlt:st.heavy<=all.size:=Nat.le_of_lt (ybe.1 ho).1;obtain⟨S',order',tmps',μ',w',s,g,r1,p1⟩:=reach (b:=b) (k:=k') (cs:=cs++base) (ds:=ds) hS.tys hst hlt order S tmps μ w hH hr hp;refine kD.of_steps s g.le g.below ?_
 replace hI:=hS.inv _ _ g.below hI
 replace hH:=g.heap
 replace hcs:=hcs.monoD fun d hd=>g.pd d (by omega)
 replace hR:=hR.mono g.le
 replace hk:eC (mG μ') k k':=hk.mono fun _ _ r=>r.mono g.le
 unfold Lx
 cases hw:gF o.guard all tm with
 | none=>exact trivial
 | some wn=>
  obtain⟨o',ho',hS',hb',_⟩:=r1.sched;rw[ho]at ho';cases ho';have hwn:=r1.wanted ho hb' hw;have hfr:sJ C μ' acs.length none ⟨.reg all old olds (st::stages)::k,tm,R⟩ (b.atR ⟨tmps',ds⟩ (.inRegion all (st.heavy::order')::k')):=by
   refine⟨(hR.slots r1.size).todo,?_⟩;rw[yab hR.running];exact .wait r1 hst hlt (toWeak hst hlt r1 p1) hk
  cases wn with
  | false=>
   refine Vi (H:=H) hfr hcs μ'.le_refl hH (Below.refl N w') Ma ?_;rw[Frame.finish_atR,ho,yai];exact .one (Ug ho hwn)
  | true=>
   have hop:=zfs hS.tys hS.base hS.fns hS.prims hH hI (r1.erel (ds:=ds) hH.glob ho hS' hb') o;exact NK hS hH hcs hfr ho hwn (fun h=>NF h _ _ _) hop
theorem WM(hS:lI P C B N I)(hH:mB B N μ H w)(hcs:qG C μ acs cs)(hR:xH μ R (b.atR ⟨tmps,ds⟩ []))(hk:eC (mG μ) k k'){olds:List (Nat × List Nat)}{anc:Tr Nat}{old:Tm}{D:Nat}{S:Nat->Bool}{order:List Nat}{st:xF}{stages:List xF}
  (hr:dF μ all olds anc R.n old tm D S order tmps) (hst:vJ all.toList anc (st::stages) D=true) (hp:rH C μ acs.length H all olds R.n old tm D S) (hlt:all.size<st.heavy) (hle2:st.heavy<=all.size+all.size) :
  kD P C B N μ base (lone (b.atR ⟨tmps,ds⟩ (.inRegion all order::k')) (cs++base) w) w (Lz all old olds st stages (st.heavy-(all.size+1)) C k tm R acs H):=by
 obtain⟨o,D1,D2,ho,hf,h1,h2,h3⟩:=TY hst hlt hle2;generalize st.heavy-(all.size+1)=i at *;obtain⟨o',ho',hi,hb,hD1⟩:=Jo h1;rw[ho]at ho';cases ho';unfold Lz;generalize hx:(ob (xD all.toList i) fun o=>ob (gF o.guard all tm) fun w=>pB (w&&oH (tX C o.op)) (ob ((sG o.op).f C (.mixed tm old (vF i olds) (pH o.op)) H).asVal fun p=>
  ob (iP C p.2 all R.n old olds st.lights (putA R.n tm o.dst p.1)) fun tm'=>some (⟨⟨.reg all old olds stages::k,tm',R⟩,acs,p.2⟩:pQ)))=x
 cases x with
 | none=>exact trivial
 | some x=>
  simp only[mA,jB,dG,ybb]at hx;obtain⟨o',ho',wn,hw,⟨hwn,hlo⟩,p,hv,tm',hl,hx⟩:=hx;have hlo:tX C o'.op=none:=by
   cases hx:tX C o'.op with
   | none=>rfl
   | some _=>rw[hx]at hlo;cases hlo
  have:o'=o:=by
   simp_all
  subst this;subst hwn;cases hx;have hop:(sG o'.op).f C (kP tm old olds i o') H=.val p.1 p.2:=by
   show(sG o'.op).f C (.mixed tm old (vF i olds) (pH o'.op)) H=_;generalize (sG o'.op).f C (.mixed tm old (vF i olds) (pH o'.op)) H=r at hv;cases r<;>simp[nK.asVal]at hv;rw[<- hv]
  obtain⟨l,hl2⟩:∃l,p.2=yF H l none:=WN hf hlo hop;have hH':mB B N (μ.wait H.next (.cells (Tr.ofList l) (oB l) none,acs.length,i)) p.2 w:=by rw[hl2];exact hH.early
  have hle:μ.lw (μ.wait H.next (.cells (Tr.ofList l) (oB l) none,acs.length,i)):=fun _ _ h=>h;have hpd:∀d,μ.ln d (μ.wait H.next (.cells (Tr.ofList l) (oB l) none,acs.length,i)):=fun d=>⟨hle,fun a x j ha=>by
   show(if a=H.next then _ else μ.pd a)=_;rw[yaa]
   ·exact ha
   ·intro e;have:=(hH.pnd _ _ _ ha).2.1;rw[e,(hH.fresh _ (ybk _)).2]at this;cases this⟩
  have hgrow:HM.HLe H p.2:=by
   intro b y hb;rw[hl2];show(H.t.set H.next _).get b=some y;rw[Tr.get_set,yaa]
   ·exact hb
   ·intro e;rw[e,(hH.fresh _ (ybk _)).2]at hb;cases hb
  have r1:=(hr.light (v:=p.1) ho hi hb hD1).mono hle;have p1:rH C (μ.wait H.next (.cells (Tr.ofList l) (oB l) none,acs.length,i)) acs.length p.2 all olds R.n old (putA R.n tm o'.dst p.1) D1 S:=by
   intro j hj hSj;rw[hD1]at hj;simp only[ycq,beq_iff_eq]at hj;rcases hj with hj | rfl
   ·rcases hp j hj hSj with⟨u,wu,vu,pu⟩ | ⟨u,vu,pu⟩
    ·exact .inl ⟨u,wu,vu,(pu.keep hr.reg hr.dclosed hj ho hi).grow hgrow⟩
    ·exact .inr ⟨u,vu,(pu.keep hr.reg hr.dclosed hj ho hi).mono (hpd _)⟩
   ·refine .inr ⟨o',p.1,oU.fresh hr.reg hr.dclosed ho hb hi hf hlo hw ⟨H,l,by rw[hop,hl2],?_⟩⟩;show(if H.next=H.next then _ else μ.pd H.next)=_;rw[yab rfl]
  obtain⟨r2,p2⟩:=Pi _ _ _ hl h2 r1 p1;exact⟨_,_,cs,w,.refl _ _,hle,Below.refl N w,hH',⟨(hR.mono hle).todo,by rw[yab hR.running];exact .reg r2 h3 p2 (hk.mono fun _ _ r=>r.mono hle)⟩,hcs.monoD fun d _=>hpd d⟩
theorem Wj{α β:Type}{f:α->Option β}(d:β):∀ {l:List α} {r:List β},fG f l=some r->(∀x∈l,f x=some ((f x).getD d))/\r=l.map fun x=>(f x).getD d
 | [],r,h=>by grind [Ce]
 | a::l,r,h=>by
  rw[dM,mA]at h;obtain⟨v,hv,h⟩:=h;rw[mA]at h;obtain⟨m,hm,h⟩:=h;cases h;obtain⟨h1,h2⟩:=Wj d hm
  grind
theorem WF(hS:lI P C B N I)(hH:mB B N μ H w)(hcs:qG C μ acs cs)(hR:xH μ R (b.atR ⟨tmps,ds⟩ []))(hk:eC (mG μ) k k'){olds:List (Nat × List Nat)}{anc:Tr Nat}{old:Tm}{D:Nat}{S:Nat->Bool}{order:List Nat}{st:xF}{stages:List xF}
  (hr:dF μ all olds anc R.n old tm D S order tmps) (hst:vJ all.toList anc (st::stages) D=true) (hp:rH C μ acs.length H all olds R.n old tm D S) (hlt:all.size+all.size<st.heavy) :
  kD P C B N μ base (lone (b.atR ⟨tmps,ds⟩ (.inRegion all order::k')) (cs++base) w) w (Ly all old olds st stages C k tm R acs H):=by
 obtain⟨D1,D2,hG,h2,h3⟩:=TW hst hlt;unfold Ly;generalize hx:(pB (sV C all) (ob (Gj all old olds tm st.again) fun es=>ob (kV C es H) fun H'=>ob (iP C H' all R.n old olds st.lights tm) fun tm'=>some (⟨⟨.reg all old olds stages::k,tm',R⟩,acs,H'⟩:pQ)))=x
 cases x with
 | none=>exact trivial
 | some x=>
  simp only[mA,jB]at hx;obtain⟨hlen,es,he,H1,hg,tm',hl,hx⟩:=hx;cases hx;unfold kV at hg;simp only[mA,jB,ybb]at hg;obtain⟨rs,hrs,⟨hap,hrd⟩,hg⟩:=hg;obtain⟨e1,e2⟩:=Wj (xK.store 0 .nilptr .nilptr) he;obtain⟨e3,e4⟩:=Wj (RE.st 0 0 []) hrs;have hef:∀i∈st.again,iV all old olds tm i=some ((iV all old olds tm i).getD (xK.store 0 .nilptr .nilptr))/\oP C ((iV all old olds tm i).getD (xK.store 0 .nilptr .nilptr))=some ((oP C ((iV all old olds tm i).getD (xK.store 0 .nilptr .nilptr))).getD (RE.st 0 0 [])):=
   fun i hi=>⟨e1 i hi,e3 _ (by grind)⟩
  generalize hE:(fun i=>(iV all old olds tm i).getD (xK.store 0 .nilptr .nilptr))=ef at e2;have hef:∀i∈st.again,iV all old olds tm i=some (ef i)/\oP C (ef i)=some ((fun i=>(oP C (ef i)).getD (RE.st 0 0 [])) i):=by
   grind
  have hrs':rs=st.again.map fun i=>(oP C (ef i)).getD (RE.st 0 0 []):=by rw[e4,e2,List.map_map];rfl
  generalize (fun i=>(oP C (ef i)).getD (RE.st 0 0 []))=re at hef hrs';subst hrs';have hap:=NE hap;have hrd:∀i∈st.again,Lr C H (re i):=by
   grind [mI,SJ]
  have hd1:bL C H (st.again.map re) H1:=by
   have:=bL.list bL.nil (l:=st.again.map re) (fun e he=>by grind) (by grind) hg
   rwa [yah]at this
  obtain⟨S',order',tmps',μ',w',seq,Hs,s1,b1,l1,d1,pm,dn,hm,hH',r1,p1,hin⟩:=zcq (b:=b) (k:=k') (cs:=cs++base) (ds:=ds) (H:=H) hS.tys hS.base hG hlen hef hap hrd order S tmps μ w [] H D List.nodup_nil (fun i hi=>by cases hi) bL.nil (fun i hi=>by cases hi) (fun k=>by simp) hH hr hp;have hapS:(seq.map re).Pairwise qQ:=((pm.map re).symm.pairwise_iff (fun h=>qQ.symm h)).1 hap;have heq:HEq' μ' Hs H1:=dn.perm hd1 (pm.map re) hapS fun e he=>by grind
  have hH1:=hH'.congr' heq;have p2:rH C μ' acs.length H1 all olds R.n old tm D1 S':=by
   cases hG0:st.again with
   | nil=>
    rw[hG0]at pm hd1;have hs0:seq=[]:=List.Perm.eq_nil pm;subst hs0;have hle:HM.HLe Hs H1:=fun a y hy=>by rw[hd1.no a (fun e he=>by cases he),<- dn.no a (fun e he=>by cases he)];exact hy
    intro j hj hSj;rcases p1 j hj hSj with⟨u,wu,vu,pu⟩ | h
    ·exact .inl ⟨u,wu,vu,pu.grow hle⟩
    grind
   | cons g l=>
    have hg:g∈st.again:=by grind
    have hSg:S' g=true:=hin g (pm.mem_iff.2 hg);obtain⟨o,ho,_⟩:=hG.op g hg;refine ET hG hlen (seq:=st.again) hG.done (fun i hi=>hin i (pm.mem_iff.2 hi)) hg (fun k hk=>r1.reg.up r1.closed ho (fun j hj=>r1.closed g o ho hSg j hj) hk) p1 H1
  obtain⟨r2,p3⟩:=Pi _ _ _ hl h2 r1 p2;exact⟨_,_,cs,w',s1,l1,b1,hH1,⟨((hR.mono l1).slots r1.size).todo,by rw[yab hR.running];exact .reg r2 h3 p3 (hk.mono fun _ _ r=>r.mono l1)⟩,hcs.monoD fun d hd=>d1 d (by omega)⟩
end
end
section
section
variable {P:Program}{C:dA}{B N:Nat}{I:World->Prop}{μ ν:Mu}{H H':wA}{w:World}{tm:Tm}{R:fJ}{acs:List tC}{base cs:List Frame}
variable {b:Frame}{tmps:Array Value}{ds:List Deferred}{k:List tE}{k':List Item}{all:Array Oper}
theorem zde(hH:mB B N μ H w)(hcs:qG C μ acs cs)(hR:xH μ R (b.atR ⟨tmps,ds⟩ []))(ht:iE μ R.n tm tmps)(hk:eC (mG μ) k k') :
  kD P C B N μ base (lone (b.atR ⟨tmps,ds⟩ (.beginRound::k')) (cs++base) w) w (Hr C k tm R acs H):=by
 unfold Hr
 cases hr:R.roundOf with
 | none=>exact trivial
 | some l=>
  obtain⟨i,hi,hb⟩:∃i,μ l=some i/\b.roundOf=some i.b:=by
   have:=hR.round;rw[hr]at this;exact Uy this
  rw[pA]
  cases hx:aJ H l with
  | none=>exact trivial
  | some r=>
   rw[pA]
   cases hst:Nat.beq (LoopState.tag r.state) 0 with
   | false=>exact trivial
   | true=>
    obtain⟨hl,r',hg,hw,rel⟩:=Jz hH hx hi;have ready:r'.state=.ready:=by
     rw[rel.state];cases hs:r.state<;>rw[hs]at hst<;>first | rfl | grind [LoopState.tag,Nat.beq]
    have run:(Instr.beginRound i.b).run P w=.ok () (World.setBlk w i.b (.loop { r' with state:=.busy })):=by
     simp_all [Instr.beginRound,Ja,En]
    refine⟨μ,_,cs,_,.one (stepR_beginRound hb run),fun _ _ h=>h,cV (hH.own l i hl hi).1,?_,⟨?_,?_⟩,hcs⟩
    ·refine hH.upd hg hi hl ?_;rw[jI];exact⟨_,rfl,rfl,rel.pending,rel.fn,rel.tm,rel.params,rel.assign,rel.body,rel.defers⟩
    ·refine⟨hR.fn,hR.size,hR.defers,hR.mode,hR.kind,?_⟩;exact hR.round
    ·show if R.mode.running=true then zM C μ acs.length R.n _ k tm k' tmps else iE μ R.n tm tmps;rw[yab hR.running];exact .plain hk ht
theorem QE{l:Nat}{jump:Option Code}{w':World}{cs:List Frame}(hr:(Instr.endLoop l).run P w=.ok jump w') :
  step P (lone (b.atR ⟨tmps,ds⟩ (.endRangeFunc l::k')) cs w)=.next (lone (b.atR ⟨tmps,ds⟩ ((jump.map Item.code).toList++k')) cs w'):=
 step_lone_go (by simp_all [stepG,stepG.exec,Frame.atR])
theorem XN(hH:mB B N μ H w)(hcs:qG C μ acs cs)(hR:xH μ R (b.atR ⟨tmps,ds⟩ []))(ht:iE μ R.n tm tmps)(hk:eC (mG μ) k k'){l:Nat}{i:BI}(hi:μ l=some i) :
  kD P C B N μ base (lone (b.atR ⟨tmps,ds⟩ (.endRangeFunc i.b::k')) (cs++base) w) w (Ho l C k tm R acs H):=by
 unfold Ho
 cases hx:aJ H l with
 | none=>exact trivial
 | some r=>
  rw[pA]
  cases hst:Nat.beq (LoopState.tag r.state) 1 with
  | true=>exact trivial
  | false=>
   obtain⟨hl,r',hg,hw,rel⟩:=Jz hH hx hi;have busy:r'.state≠.busy:=by
    intro e;rw[rel.state]at e;rw[e]at hst;cases hst
   have run:(Instr.endLoop i.b).run P w=.ok r'.pending (World.setBlk w i.b (.loop { r' with state:=.exhausted })):=by
    simp_all [Instr.endLoop,Ja,En]
   refine⟨μ,_,cs,_,.one (QE run),fun _ _ h=>h,cV (hH.own l i hl hi).1,?_,⟨?_,?_⟩,hcs⟩
   ·refine hH.upd hg hi hl ?_;rw[jI];exact⟨_,rfl,rfl,rel.pending,rel.fn,rel.tm,rel.params,rel.assign,rel.body,rel.defers⟩
   ·exact⟨hR.fn,hR.size,hR.defers,hR.mode,hR.kind,hR.round⟩
   ·show if R.mode.running=true then zM C μ acs.length R.n _ (match r.pending with | some c=>.code c::k | none=>k) tm ((r'.pending.map Item.code).toList++k') tmps else iE μ R.n tm tmps
    rw[yab hR.running,rel.pending]
    cases r.pending with
    | none=>exact .plain hk ht
    | some c=>exact .plain (.cons (.code c) hk) ht
theorem BT{f:Operand}{params:Array Nat}{assign body:Code}{l:Nat}{mark:List Deferred}{w1:World}{g:Nat}{args':Array Value}{cs:List Frame}
  (hE:(Instr.enterLoop b.fn tmps params assign body b.roundOf).run P w=.ok (l,mark) w1)
  (hA:(do let d <- resolve (Act.eval ⟨tmps,ds⟩) { callee:=.value f,args := #[.const (.func (.yield l) #[] #[])],argTypes := #[] } 0;invoke d.target d.args:Sem Next).run P w1=.ok (.enter g args') w1) :
  step P (lone (b.atR ⟨tmps,ds⟩ (.code (.rangeFunc f params assign body)::k')) cs w)=.next (lone (Frame.enter P g args' .normal) (b.atR ⟨tmps,mark++ds⟩ (.inRangeFunc l::k')::cs) w1):=by
 refine step_lone_go ?_;have he:(Frame.eval { b.atR ⟨tmps,ds⟩ (.code (.rangeFunc f params assign body)::k')with todo:=.inRangeFunc l::k',defers:=mark++ds })=Act.eval ⟨tmps,ds⟩:=funext fun x=>by cases x<;>rfl
 simp_all [Frame.atR,stepG,stepG.exec,stepG.apply]
theorem SQ{l:Nat}{v:zA}{h:tC}(e:eW C l v=some h):∃g first cap,v=.func (.func g) first cap/\C.prims.get g=none/\gL C g (bD first (.func (.yld l) [] []::cap)) false=some h:=by
 grind [eW,mA,MT]
def DY{dp:Nat}(hS:lI P C B N I){l:Nat}{i:BI}{v:zA}{h:tC}(e:eW C l v=some h)(hi:μ l=some i){f:Operand}(hv:vA μ v (Act.eval ⟨tmps,ds⟩ f)){cur:Option wA} :
  ∃g args',(∀w,(do let d <- resolve (Act.eval ⟨tmps,ds⟩) { callee:=.value f,args := #[.const (.func (.yield i.b) #[] #[])],argTypes := #[] } 0;invoke d.target d.args:Sem Next).run P w=.ok (.enter g args') w) ∧
   sJ C μ dp cur h (Frame.enter P g args' .normal):=by
 obtain⟨g,first,cap,rfl,hp,he⟩:=SQ e
 rw[vA]at hv;obtain⟨fn,a',c',hv,hf,h1,h2⟩:=hv;cases hf;have hl:lB μ (bD first (.func (.yld l) [] []::cap)) (a' ++ #[Value.func (.yield i.b) #[] #[]]++c').toList:=by
  rw[wH];have:lB μ (zA.func (.yld l) [] []::cap) (Value.func (.yield i.b) #[] #[]::c'.toList):=.cons (by rw[vA];exact⟨_,_,_,rfl,⟨i,hi,rfl⟩,.nil,.nil⟩) h2;simpa using h1.append this
 obtain⟨fr,fn,hfn,hb⟩:=La (cur:=cur) hS.fns he hl;refine⟨g,_,fun w=>?_,fr⟩;simp only[yad,resolve,hv,Deferred.ofValue,yae,yac,invoke];have:Array.map (Act.eval ⟨tmps,ds⟩) #[Operand.const (Value.func (.yield i.b) #[] #[])] = #[Value.func (.yield i.b) #[] #[]]:=by simp[Act.eval]
 rw[this];exact Nl hS.fns hfn hb
theorem zbq(hS:lI P C B N I)(hH:mB B N μ H w)(hcs:qG C μ acs cs)(hR:xH μ R (b.atR ⟨tmps,ds⟩ []))(ht:iE μ R.n tm tmps)(hk:eC (mG μ) k k'){f:Operand}{params:Array Nat}{assign body:Code} :
  kD P C B N μ base (lone (b.atR ⟨tmps,ds⟩ (.code (.rangeFunc f params assign body)::k')) (cs++base) w) w (Hl f params assign body C k tm R acs H):=by
 unfold Hl
 cases hv:ev f (.now tm)with
 | none=>exact trivial
 | some v=>
  have hvr:=ht.erel (ds:=ds) hH.glob f _ hv;rw[pA]
  cases hr:R.roundOf with
  | none=>
   have hb:b.roundOf=none:=by
    have:=hR.round;rw[hr]at this;exact DH this
   simp only[]
   cases hx:eW C (H.next+1) v with
   | none=>exact trivial
   | some h=>
    have h1:=hH.newBlk (x:=.deferred (some [])) (o:=.deferred (some [])) (i:=⟨w.heap.size,true,0,0,false⟩) rfl rfl (by rw[jI];exact⟨_,rfl,.nil⟩);have le1:μ.le (μ.ext H.next ⟨w.heap.size,true,0,0,false⟩):=hH.ext_le;have le2:(μ.ext H.next ⟨w.heap.size,true,0,0,false⟩).le ((μ.ext H.next ⟨w.heap.size,true,0,0,false⟩).ext (newBlk H (.deferred (some []))).next ⟨w.heap.size+1,true,0,0,false⟩):=h1.ext_le
    have sz:(w.alloc (.deferred (some []))).heap.size=w.heap.size+1:=Array.size_push ..;have h2:=h1.newBlk (x:=.loop ⟨.ready,none,R.fn,R.n,tm,params.toList,assign,body,H.next⟩) (o:=.loop { state:=.ready,pending:=none,fn:=b.fn,tmps,params,assign,body,defers:=w.heap.size })
     (i:=⟨w.heap.size+1,true,0,0,false⟩) sz.symm rfl (by
      rw[jI];exact⟨_,rfl,rfl,rfl,hR.fn,(ht.mono le1.f).mono le2.f,rfl,rfl,rfl,⟨_,le2 _ _ Mu.ext_same,rfl⟩⟩)
    have le:=Mu.le_trans le1 le2;have hi2:((μ.ext H.next ⟨w.heap.size,true,0,0,false⟩).ext (newBlk H (.deferred (some []))).next ⟨w.heap.size+1,true,0,0,false⟩) (H.next+1)=some ⟨w.heap.size+1,true,0,0,false⟩:=Mu.ext_same;obtain⟨g,args',hA,hfr⟩:=DY (ds:=ds) hS hx hi2 (hvr.mono le.f _ _) (cur:=some (newBlk (newBlk H (.deferred (some []))) (.loop ⟨.ready,none,R.fn,R.n,tm,params.toList,assign,body,H.next⟩)))
    have run:(Instr.enterLoop b.fn tmps params assign body b.roundOf).run P w=.ok (w.heap.size+1,[{ target:=.collected w.heap.size,args := #[] }]) ((w.alloc (.deferred (some []))).alloc (.loop { state:=.ready,pending:=none,fn:=b.fn,tmps,params,assign,body,defers:=w.heap.size })):=by
     simp_all [Instr.enterLoop]
    refine⟨_,_,b.atR ⟨tmps,{ target:=.collected w.heap.size,args := #[] }::ds⟩ (.inRangeFunc (w.heap.size+1)::k')::cs,_,.one (BT run (hA _)),le,?_,h2,hfr,.cons ⟨?_,?_⟩ (hcs.mono le)⟩
    ·refine(xQ hH.size _).trans (xQ ?_ _);rw[sz];have:=hH.size;omega
    ·have:=hR.mono le.f;exact⟨this.fn,this.size,.cons ⟨⟨_,le2 _ _ Mu.ext_same,rfl⟩⟩ this.defers,this.mode,this.kind,by have:=this.round;rw[hr]at this;exact this⟩
    ·show if R.mode.running=true then zM C _ acs.length R.n none (.inRange (H.next+1)::k) tm (.inRangeFunc (w.heap.size+1)::k') tmps else _;rw[yab hR.running];exact .plain (.cons (.inRange _ ⟨w.heap.size+1,true,0,0,false⟩ hi2) (hk.mono fun _ _ r=>r.mono le.f)) (ht.mono le.f)
  | some outer=>
   obtain⟨io,hio,hb⟩:∃i,μ outer=some i/\b.roundOf=some i.b:=by
    have:=hR.round;rw[hr]at this;exact Uy this
   simp only[]
   cases hlo:aJ H outer with
   | none=>exact trivial
   | some o=>
    rw[pA]
    cases hx:eW C H.next v with
    | none=>exact trivial
    | some h=>
     obtain⟨hl,r',hg,hw,rel⟩:=Jz hH hlo hio;obtain⟨idf,hdf,hdf'⟩:=rel.defers;have le:μ.le (μ.ext H.next ⟨w.heap.size,true,0,0,false⟩):=hH.ext_le;have h2:=hH.newBlk (x:=.loop ⟨.ready,none,R.fn,R.n,tm,params.toList,assign,body,o.defers⟩) (o:=.loop { state:=.ready,pending:=none,fn:=b.fn,tmps,params,assign,body,defers:=r'.defers })
      (i:=⟨w.heap.size,true,0,0,false⟩) rfl rfl (by
       rw[jI];exact⟨_,rfl,rfl,rfl,hR.fn,ht.mono le,rfl,rfl,rfl,⟨idf,le _ _ hdf,hdf'⟩⟩)
     have hi2:(μ.ext H.next ⟨w.heap.size,true,0,0,false⟩) H.next=some ⟨w.heap.size,true,0,0,false⟩:=Mu.ext_same;obtain⟨g,args',hA,hfr⟩:=DY (ds:=ds) hS hx hi2 (hvr.mono le.f _ _) (cur:=some (newBlk H (.loop ⟨.ready,none,R.fn,R.n,tm,params.toList,assign,body,o.defers⟩)));have run:(Instr.enterLoop b.fn tmps params assign body b.roundOf).run P w=.ok (w.heap.size,[]) (w.alloc (.loop { state:=.ready,pending:=none,fn:=b.fn,tmps,params,assign,body,defers:=r'.defers })):=by
      simp_all [Instr.enterLoop,Ja]
     refine⟨_,_,b.atR ⟨tmps,ds⟩ (.inRangeFunc w.heap.size::k')::cs,_,.one (BT run (hA _)),le,xQ hH.size _,h2,hfr,.cons ⟨?_,?_⟩ (hcs.mono le)⟩
     ·have:=hR.mono le.f;exact⟨this.fn,this.size,this.defers,this.mode,this.kind,this.round⟩
     ·show if R.mode.running=true then zM C _ acs.length R.n none (.inRange H.next::k) tm (.inRangeFunc w.heap.size::k') tmps else _;rw[yab hR.running];exact .plain (.cons (.inRange _ ⟨w.heap.size,true,0,0,false⟩ hi2) (hk.mono fun _ _ r=>r.mono le.f)) (ht.mono le.f)
def PZ{c:Code}:step P (lone (b.atR ⟨tmps,ds⟩ (.code (.scope c)::k')) cs w)=.next (lone (b.atR ⟨tmps,ds⟩ (.code c::.inScope c::k')) cs w):=
 step_lone_go (by simp[stepG,stepG.exec,Frame.atR])
def QD{c:Code}:step P (lone (b.atR ⟨tmps,ds⟩ (.inScope c::k')) cs w)=.next (lone (b.atR ⟨tmps,ds⟩ k') cs w):=
 step_lone_go (by simp[stepG,stepG.exec,Frame.atR])
def zi4(hS:lI P C B N I)(hI:I w)(hH:mB B N μ H w)(hcs:qG C μ acs cs)(hR:xH μ R (b.atR ⟨tmps,ds⟩ []))(ht:iE μ R.n tm tmps):∀(c:Code) {k:List tE} {k':List Item},eC (mG μ) k k' →
  kD P C B N μ base (lone (b.atR ⟨tmps,ds⟩ (.code c::k')) (cs++base) w) w ((zf0 c).f C k tm R acs H):=by
 intro c;induction c with
 | skip=>intro k k' hk;exact Od hH hcs hR ht hk stepR_skip
 | region id ops d=>
  intro k k' hk
  cases d with
  | true=>exact ziy hS hH hcs hR ht hk
  | false=>
   refine kD.of_steps (.one stepR_region) (fun _ _ h=>h) (Below.refl N w) ?_;have:=DB (base:=base) (all:=ops) hS ops.toList 0 tm.cut H w μ tmps (by simp) (yaw _) hI hH hcs hR ht.cut hk;rw[ycr]at this;exact this
 | seq x y ihx _=>
  intro k k' hk;exact kD.of_steps (.one stepR_seq) (fun _ _ h=>h) (Below.refl N w) (ihx (.cons (.code y) hk))
 | cond c x y _ _=>intro k k' hk;exact zi2 hH hcs hR ht hk
 | block id c _=>intro k k' hk;exact zdd hH hcs hR ht hk
 | loop c _=>intro k k' hk;exact zhe hH hcs hR ht hk
 | rangeFunc f ps a c _ _=>intro k k' hk;exact zbq hS hH hcs hR ht hk
 | exit id=>intro k k' hk;exact zir hH hcs hR ht hk
 | scope c _=>intro k k' hk;exact cW hH hcs hR ht (.cons (.code _) (.cons (.inScope _) hk)) (.one PZ)
 | label l=>intro k k' hk;exact Od hH hcs hR ht hk stepR_label
 | goto l=>intro k k' _;exact trivial
 | ret=>intro k k' _;exact ret_ok hH hcs hR ht
 | refuse s=>intro k k' _;exact trivial
theorem zis(hS:lI P C B N I)(hI:I w)(hH:mB B N μ H w)(hcs:qG C μ acs cs)(hR:xH μ R (b.atR ⟨tmps,ds⟩ [])){todo:List tE}{btodo:List Item}(hb:zM C μ acs.length R.n (some H) todo tm btodo tmps) :
  kD P C B N μ base (lone (b.atR ⟨tmps,ds⟩ btodo) (cs++base) w) w (cP C todo tm R acs H):=by
 generalize hc:some H=cur at hb
 cases hb with
 | plain a t=>
  cases a with
  | nil=>exact end_ok hH hcs hR t
  | cons i hk=>
   cases i with
   | code c=>exact zi4 hS hI hH hcs hR t c hk
   | inBlock id=>exact Od hH hcs hR t hk stepR_inBlock
   | inLoop c=>exact cW hH hcs hR t (.cons (.code _) (.cons (.inLoop _) hk)) (.one stepR_inLoop)
   | inScope c=>exact Od hH hcs hR t hk QD
   | ops all i hi=>exact DB hS _ i _ _ _ _ _ rfl hi hI hH hcs hR t hk
   | inRange l i hl=>exact trivial
   | endRange l i hl=>exact XN hH hcs hR t hk hl
   | beginRound=>exact zde hH hcs hR t hk
 | @reg _ all old _ olds stages _ order _ _ anc D S hr hst hp hk=>
  cases hc;show kD P C B N μ base _ w (oQ all old olds stages C _ tm R acs H);unfold oQ
  cases stages with
  | nil=>grind [SG]
  | cons st stages=>
   by_cases hlt:st.heavy<=all.size
   ·obtain⟨_,_,D1,D2,h1,_⟩:=Og hst hlt;obtain⟨o,ho,_⟩:=Jo h1;have:xD all.toList st.heavy=some o:=by grind [dG]
    simp only[this];grind [zcm]
   ·have:xD all.toList st.heavy=none:=by grind [dG]
    simp only[this];grind [pC,pD,WF,WM]
 | @mid _ all old _ olds lights again stages _ order _ _ anc D D2 S hr h1 h2 hw hk=>
  show kD P C B N μ base _ w (oQ all old olds (⟨all.size,lights,again⟩::stages) C _ tm R acs H);unfold oQ;have:xD all.toList all.size=none:=by rw[dG];simp
  simp only[this];grind [pC,pD,VD]
 | wait _ _ _ _ _=>cases hc
end
end
section
section
variable {P:Program}{C:dA}{B N:Nat}{I:World->Prop}{μ ν:Mu}{H H':wA}{w:World}{tm:Tm}{R:fJ}{acs:List tC}{base cs:List Frame}
variable {b:Frame}{tmps:Array Value}
theorem PW{block:Nat}{es calls:List Deferred}{w':World}(hm:b.mode≠.run)(hd:b.defers={ target:=.collected block,args := #[] }::es)(hr:(Instr.takeDeferred block).run P w=.ok calls w') :
  step P (lone b cs w)=.next (lone { b with defers:=calls++es } cs w'):=by
 obtain⟨fn,tmps,todo,defers,mode,kind,round⟩:=b;simp only at hm hd;subst hd;refine step_lone_go ?_
 simp_all [stepG,unwind]
theorem PX{f:Nat}{cap as:Array Value}{es:List Deferred}(hm:b.mode≠.run)(hd:b.defers={ target:=.fn (.func f) cap,args:=as }::es)(hr:(callFunc f (as++cap)).run P w=.ok (.enter f (as++cap)) w) :
  step P (lone b cs w)=.next (lone (Frame.enter P f (as++cap) .deferred) ({ b with defers:=es }::cs) w):=by
 obtain⟨fn,tmps,todo,defers,mode,kind,round⟩:=b;simp only at hm hd;subst hd;refine step_lone_go ?_
 simp_all [stepG,unwind,callDeferred,invoke]
def qY(c:Frame):Frame:=
 match c.mode with
 | .panicking ({ recovered:=true,.. }::older)=>
  match older.dropWhile (!·.goexit)with
  | []=>{ c with mode:=.returning }
  | rest=>{ c with mode:=.panicking rest }
 | _=>c
def PU{fn:Func}{v:Value}{c:Frame}(hm:b.mode=.returning)(hd:b.defers=[])(hk:b.kind=.deferred)(hf:P.funcs[b.fn]?=some fn)(hr:(results fn b.tmps).run P w=.ok v w) :
  step P (lone b (c::cs) w)=.next (lone (qY c) cs w):=by
 refine step_lone_go ?_;simp only[stepG,unwind,doReturn,hm,hd,hk,hf,Sem.runT_eq,hr,GStep.bare_after];rfl
def Nq(tmps:Array Value)(r:ResultVar):Sem Value:=
 match r with
 | .tmp t=>pure (tmps.getD t undef)
 | .cell a t=>do loadVar t (<- asAddr (tmps.getD a undef))
theorem RY(fn:Func)(tmps:Array Value):results fn tmps=(do let vs <- fn.results.mapM (Nq tmps);pure (if h:vs.size=1 then vs[0]else .tuple vs)):=rfl
theorem RJ(hT:qF P C)(hH:mB B N μ H w){n:Nat}(ht:iE μ n tm tmps):∀(rs:List ResultVar) (l:List zA),fG (bY C H tm) rs=some l →
  ∃vs,(rs.mapM (Nq tmps)).run P w=.ok vs w/\lB μ l vs:=by
 intro rs;induction rs with
 | nil=>intro l h;rw[Ce]at h;cases h;exact⟨[],by simp_all,.nil⟩
 | cons r rs ih=>
  intro l h;rw[dM,mA]at h;obtain⟨a,ha,h⟩:=h;rw[mA]at h;obtain⟨m,hm,h⟩:=h;cases h;obtain⟨vs,h1,h2⟩:=ih m hm;rw[List.mapM_cons]
  cases r with
  | tmp t=>
   refine⟨_,?_,.cons (ht.2 t a ha) h2⟩
   grind [Nq,Sem.run_bind,Sem.run_pure,Result.andThen_ok]
  | cell x t=>
   simp only[bY,mA,Dc]at ha;obtain⟨p,⟨av,hav,rfl⟩,ty,hty,c,hc,hl⟩:=ha;have hv:=ht.2 x _ hav;rw[vA]at hv;obtain⟨i,hi,hv⟩:=hv;obtain⟨v',h3,h4⟩:=GH (P:=P) hH (hT.facts hty) hc hi hl;refine⟨_,?_,.cons h4 h2⟩
   grind [asAddr,Nq,Sem.run_bind,Sem.run_pure,Result.andThen_ok]
theorem DN(hT:qF P C)(hH:mB B N μ H w){n:Nat}(ht:iE μ n tm tmps){fn:Func}{l:List zA}(h:gW C H tm fn.results.toList=some l) :
  ∃v,(results fn tmps).run P w=.ok v w/\vA μ (Bk l) v:=by
 obtain⟨vs,h1,h2⟩:=RJ hT hH ht _ _ h;refine⟨if h:vs.toArray.size=1 then vs.toArray[0]else .tuple vs.toArray,?_,?_⟩
 ·grind [RY,Array.mapM_eq_mapM_toList,Sem.run_bind,map_eq_pure_bind,Result.andThen_ok,Sem.run_pure]
 ·have hl:=h2.length
  cases l with
  | nil=>
   rw[lB]at h2;subst h2;rw[dif_neg (by simp)];show vA μ (.tup []) _;rw[vA];exact⟨_,rfl,.nil⟩
  | cons a m=>
   cases m with
   | nil=>
    rw[lB]at h2;obtain⟨v,r,rfl,hv,hr⟩:=h2;rw[lB]at hr;subst hr;rw[dif_pos (by simp)];exact hv
   | cons a2 m=>
    rw[dif_neg (by simp[hl])];show vA μ (.tup (a::a2::m)) _
    grind [vA]
def DefRel(μ:Mu):Option (List mJ)->Option (List Deferred)->Prop
 | none,none=>True
 | some a,some b=>eC (lY μ) a b
 | _,_=>False
def YE(hH:mB B N μ H w){l:Nat}{x:Option (List mJ)}(h:gV H l=some x){i:BI}(h4:μ l=some i):B<=l/\∃x',H.t.get l=some (.deferred x)/\w.heap[i.b]?=some (.deferred x')/\DefRel μ x x':=by
 unfold gV at h;rw[jB,mE,mA]at h;obtain⟨h1,y,h2,h3⟩:=h;have:y=.deferred x:=by cases y<;>simp[qA.asDeferred]at h3;rw[h3]
 subst this;obtain⟨o,h5,h6⟩:=hH.blk l _ i h2 h4;rw[jI]at h6;obtain⟨r',rfl,h7⟩:=h6;refine⟨Nat.le_of_not_lt fun hlt=>?_,r',h2,h5,?_⟩
 ·have:=(hH.low l _ i hlt h2 h4).2.2;cases this
 cases x<;>cases r'<;>exact h7
def UH{μ:Mu}{m:rW}{m':FrameMode}(h:Ls μ m m')(hm:m.running=false):m'≠.run:=by
 rintro rfl;cases m<;>first | exact h.elim | cases hm
theorem PA(hS:lI P C B N I)(hH:mB B N μ H w)(hcs:qG C μ acs cs){fr:tC}(hr:xH μ fr.R b)(hm:fr.R.mode.running=false)(ht:iE μ fr.R.n fr.tm b.tmps){d:mJ}{l:List mJ}(hd:fr.R.defers=d::l) :
  kD P C B N μ base (lone b (cs++base) w) w (Ie C d l fr acs H):=by
 have hrun:=UH hr.mode hm;have hds:=hr.defers;rw[hd]at hds;generalize hbd:b.defers=bd at hds
 cases hds with
 | @cons _ e _ es h1 h2=>
  obtain⟨dfn,dr,dargs⟩:=d;have h1:=h1.rel;unfold Ie
  cases dfn with
  | none=>
   obtain⟨i,hi,rfl⟩:=h1;simp only[]
   cases hx:gV H dr with
   | none=>exact trivial
   | some x=>
    rw[pA]
    cases x with
    | none=>exact trivial
    | some calls=>
     obtain⟨hl,x',hg,hw,rel⟩:=YE hH hx hi
     cases x' with
     | none=>exact rel.elim
     | some calls'=>
      have run:(Instr.takeDeferred i.b).run P w=.ok calls' (World.setBlk w i.b (.deferred none)):=by
       simp_all [En,getObj,Sem.run,Instr.takeDeferred]
      refine⟨μ,_,cs,_,.one (PW hrun hbd run),fun _ _ h=>h,cV (hH.own dr i hl hi).1,?_,⟨?_,?_⟩,hcs⟩
      ·refine hH.upd hg hi hl ?_
       grind [jI]
      ·refine⟨hr.fn,hr.size,?_,hr.mode,hr.kind,hr.round⟩;show eC (lY μ) (bD calls l) (calls'++es);rw[wH];exact eC.append rel h2
      ·show if fr.R.mode.running=true then zM C _ _ _ _ _ _ _ _ else _;rw[yaa (by grind)];exact ht
  | some fn=>
   cases fn with
   | yld m=>exact trivial
   | func f=>
    obtain⟨fn,cap,as,rfl,hfn,hl⟩:=h1;cases hfn;simp only[]
    cases hp:C.prims.get f with
    | some x=>exact trivial
    | none=>
     simp only[]
     cases he:gL C f dargs true with
     | none=>exact trivial
     | some g=>
      obtain⟨h3,fn,hfn,hb⟩:=La (cur:=some H) hS.fns he hl;refine⟨μ,_,{ b with defers:=es }::cs,w,.one (PX hrun hbd (Nl hS.fns hfn hb)),fun _ _ h=>h,Below.refl N w,hH,h3,.cons ⟨⟨hr.fn,hr.size,h2,hr.mode,hr.kind,hr.round⟩,?_⟩ hcs⟩;show if fr.R.mode.running=true then zM C _ _ _ _ _ _ _ _ else _;rw[yaa (by grind)];exact ht
theorem sJ.still{dp:Nat}{cur cur':Option wA}{fr:tC}(h:sJ C μ dp cur fr b)(hm:fr.R.mode.running=false):sJ C μ dp cur' fr b:=by
 refine⟨h.rest,?_⟩;have:=h.body
 simp_all
theorem XU{l:List PanicEntry}{m:List Au}(h:eC (Ao μ) m l):l.dropWhile (!·.goexit)=[]:=by
 induction h with
 | nil=>rfl
 | cons a _ ih=>simp[a.goexit,ih]
def Rl(c:tC)(rest:List tC)(H:wA):Option pQ:=
 match c.R.mode with
 | .panicking (⟨_,true⟩::_)=>some (⟨Iv c .returning,rest,H⟩:pQ)
 | _=>pB (!c.R.mode.running) (some ⟨c,rest,H⟩)
def EE(C:dA)(fr:tC)(ch:List Au)(cs:List tC)(H:wA):aE:=
 eK (ob (C.fns.get fr.R.fn) fun _=>match cs with | c::rest=>some ⟨Nt c ch,rest,H⟩ | []=>none) 19
theorem zi9{dp:Nat}{c:tC}{c':Frame}(hc:sJ C μ dp none c c'){x:pQ}{rest:List tC}(h:Rl c rest H=some x):x.cs=rest/\x.H=H/\sJ C μ dp (some H) x.fr (qY c'):=by
 have hm:=hc.rest.mode;have stay:c'.mode=c'.mode->(qY c'=c')->c.R.mode.running=false->x=⟨c,rest,H⟩->x.cs=rest/\x.H=H/\sJ C μ dp (some H) x.fr (qY c'):=by
  intro _ h1 h2 h3;subst h3;rw[h1];exact⟨rfl,rfl,hc.still h2⟩
 obtain⟨ct,ctm,cR⟩:=c;obtain⟨f,n,de,mode,dd,ro⟩:=cR;unfold Rl at h;simp only at h hm
 cases mode with
 | run=>cases h
 | returning=>
  cases hcm:c'.mode with
  | returning=>exact stay rfl (by unfold qY;rw[hcm]) rfl (yci h).symm
  | _=>rw[hcm]at hm;exact hm.elim
 | panicking ch=>
  cases hcm:c'.mode with
  | run=>rw[hcm]at hm;exact hm.elim
  | returning=>rw[hcm]at hm;exact hm.elim
  | panicking ch'=>
   rw[hcm]at hm
   cases hm with
   | nil=>exact stay rfl (by unfold qY;rw[hcm]) rfl (yci h).symm
   | @cons p e older older' hp hold=>
    obtain⟨pv,pr⟩:=p;obtain⟨ev',er,eg⟩:=e;obtain⟨q1,q2,q3⟩:=hp;simp only at q1 q2 q3;subst q2 q3
    cases er with
    | false=>exact stay rfl (by unfold qY;rw[hcm]) rfl (yci h).symm
    | true=>
     cases yci h;refine⟨rfl,rfl,?_⟩;have:qY c'={ c' with mode:=.returning }:=by
      grind [qY,XU]
     rw[this];have hb:=hc.body;exact⟨⟨hc.rest.fn,hc.rest.size,hc.rest.defers,trivial,hc.rest.kind,hc.rest.round⟩,hb⟩
theorem OZ(hS:lI P C B N I)(hH:mB B N μ H w)(hcs:qG C μ acs cs){fr:tC}(hr:xH μ fr.R b)(hm:b.mode=.returning)(hd:b.defers=[])(ht:iE μ fr.R.n fr.tm b.tmps) :
  kD P C B N μ base (lone b (cs++base) w) w (Ic C fr acs H):=by
 unfold Ic
 cases hx:ob (C.fns.get fr.R.fn) fun fn=>gW C H fr.tm fn.results.toList with
 | none=>exact trivial
 | some l=>
  rw[mA]at hx;obtain⟨fn,hfn,hres⟩:=hx;obtain⟨v,h1,h2⟩:=DN hS.tys hH ht hres;have hf:P.funcs[b.fn]?=some fn:=by rw[hr.fn];exact(hS.fns _ _ hfn).1
  have hk:=hr.kind;simp only[]
  cases hcs with
  | nil=>
   simp only[rD]
   cases hdf:fr.R.deferred with
   | true=>exact trivial
   | false=>
    rw[hdf]at hk;rw[yaa (by simp)];split
    ·rename_i hroot;exact⟨μ,b,w,v,.refl _ _,fun _ _ h=>h,Below.refl N w,hH,h2,by rw[hr.fn];simp_all,hm,hd,hk,fn,hf,h1⟩
    ·exact trivial
  | @cons c c' acs1 cs1 hc hcs1=>
   simp only[]
   cases hdf:fr.R.deferred with
   | true=>
    rw[hdf]at hk;simp only[cond_true];show kD P C B N μ base _ w (eK (Rl c acs1 H) 18);generalize hx:Rl c acs1 H=x
    cases x with
    | none=>exact trivial
    | some x=>
     obtain⟨h3,h4,h5⟩:=zi9 hc hx;obtain⟨xf,xc,xh⟩:=x;simp only at h3 h4 h5;subst h3 h4;exact⟨μ,_,cs1,w,.one (PU hm hd hk hf h1),fun _ _ h=>h,Below.refl N w,hH,h5,hcs1⟩
   | false=>
    rw[hdf]at hk;simp only[cond_false]
    cases hfi:kH c (Bk l)with
    | none=>exact trivial
    | some g=>
     exact⟨μ,_,cs1,w,.one (step_leave_returned ⟨hm,hd,hk,fn,hf,h1⟩),fun _ _ h=>h,Below.refl N w,hH,Cr hc hfi h2,hcs1⟩
theorem OS(hS:lI P C B N I)(hH:mB B N μ H w)(hcs:qG C μ acs cs){fr:tC}(hfr:sJ C μ acs.length (some H) fr b)(hm:fr.R.mode.running=false) :
  kD P C B N μ base (lone b (cs++base) w) w (Mg C fr acs H):=by
 have ht:iE μ fr.R.n fr.tm b.tmps:=by
  have:=hfr.body
  simp_all
 have hr:=hfr.rest;unfold Mg
 cases hd:fr.R.defers with
 | cons d l=>grind [PA]
 | nil=>
  have hbd:b.defers=[]:=by
   have:=hr.defers;rw[hd]at this;generalize hbd:b.defers=bd at this;cases this;rfl
  have hmode:=hr.mode;simp only[]
  cases hmo:fr.R.mode with
  | run=>rw[hmo]at hm;cases hm
  | returning=>
   rw[hmo]at hmode;have:b.mode=.returning:=by
    cases hb:b.mode with
    | returning=>rfl
    | _=>rw[hb]at hmode;exact hmode.elim
   exact OZ hS hH hcs hr this hbd ht
  | panicking ch=>
   rw[hmo]at hmode
   cases hb:b.mode with
   | run=>rw[hb]at hmode;exact hmode.elim
   | returning=>rw[hb]at hmode;exact hmode.elim
   | panicking ch'=>
    rw[hb]at hmode;show kD P C B N μ base _ w (EE C fr ch acs H);unfold EE
    cases hfn:C.fns.get fr.R.fn with
    | none=>exact trivial
    | some fn=>
     rw[pA];have hf:P.funcs[b.fn]?=some fn:=by rw[hr.fn];exact(hS.fns _ _ hfn).1
     cases hcs with
     | nil=>exact trivial
     | @cons c c' acs1 cs1 hc hcs1=>
      exact⟨μ,_,cs1,w,.one (step_leave_panicked ⟨hb,hbd,fn,hf⟩),fun _ _ h=>h,Below.refl N w,hH,ED hc hmode,hcs1⟩
theorem za2(hS:lI P C B N I)(hI:I w){s:pQ}(hH:mB B N μ s.H w)(hcs:qG C μ s.cs cs)(hfr:sJ C μ s.cs.length (some s.H) s.fr b):kD P C B N μ base (lone b (cs++base) w) w (stepA C s):=by
 obtain⟨⟨todo,tm,R⟩,acs,H⟩:=s;show kD P C B N μ base _ w (bif R.mode.running then cP C todo tm R acs H else Mg C ⟨todo,tm,R⟩ acs H)
 cases hm:R.mode.running with
 | false=>grind [OS]
 | true=>
  have hb:=hfr.body;have hr:=hfr.rest;simp only at hb hr;rw[yab hm]at hb;have hbm:b.mode=.run:=by
   have h:=hr.mode
   cases hmo:R.mode with
   | run=>
    rw[hmo]at h
    cases hb:b.mode with
    | run=>rfl
    | _=>rw[hb]at h;exact h.elim
   | _=>rw[hmo]at hm;cases hm
  have e:=zdf hbm;have:=zis (b:=b) (tmps:=b.tmps) (ds:=b.defers) (base:=base) hS hI hH hcs ⟨hr.fn,hr.size,hr.defers,by have:=hr.mode;rw[hbm]at this;exact this,hr.kind,hr.round⟩ hb
  simp_all
theorem BV(hS:lI P C B N I)(hI:I w){m:Machine}{o:aE}(h:kD P C B N μ base m w o):kD P C B N μ base m w (Ee C o):=by
 cases o with
 | fail n=>exact trivial
 | done v H=>exact h
 | next s=>
  obtain⟨μ',b,cs,w',h1,h2,h3,h4,h5,h6⟩:=h;exact kD.of_steps h1 h2 h3 (za2 hS (hS.inv _ _ h3 hI) h4 h6 h5)
def zgu(hS:lI P C B N I)(hI:I w){m:Machine}:∀(n:Nat) {o:aE},kD P C B N μ base m w o->kD P C B N μ base m w (rP C n o):=by
 intro n;induction n with
 | zero=>intro o h;exact BV hS hI h
 | succ n ih=>intro o h;exact ih (ih h)
def YV(hS:lI P C B N I)(hI:I w){f:Nat}(hroot:C.root=f){args:List zA}{args':Array Value}(hH:mB B N μ H w)(hl:lB μ args args'.toList){g:tC}(he:gL C f args false=some g){n:Nat}{v:zA}{H':wA}
  (hrun:rP C n (.next ⟨g,[],H⟩)=.done v H') :
  Calls P f args' w fun e w'=>∃v' μ',e=.returned v'/\μ.lw μ'/\vA μ' v v'/\mB B N μ' H' w'/\Below N w w':=by
 intro base;have h0:kD P C B N μ base (lone (Frame.enter P f args' .normal) base w) w (.next ⟨g,[],H⟩):=
  ⟨μ,_,[],w,.refl _ _,fun _ _ h=>h,Below.refl N w,hH,(La (cur:=some H) hS.fns he hl).1,.nil⟩
 have h1:=zgu hS hI n h0;rw[hrun]at h1;obtain⟨μ',b,w',v',h2,h3,h4,h5,h6,h7,h8⟩:=h1;exact⟨.returned v',w',b,⟨v',μ',rfl,h3,h6,h5,h4⟩,h2,by rw[h7,hroot],h8⟩
end
end
section
abbrev iB:=Option (zA × wA)
abbrev nH:=AFn->List zA->wA->iB
structure Kt where
 norm:Tm->wA->iB
 exit:Nat->Tm->wA->iB
 ret:Tm->wA->iB
structure PI where
 id:Nat
 pl:List Nat
 ll:List (Nat × Nat)
def PI.kept(p:PI):List Nat:=bD p.pl (List.rec (motive:=fun _=>List Nat) [] (fun a _ r=>a.1::r) p.ll)
inductive cD where
 | skip
 | region (id:Nat) (ops:Array Oper) (draw:Bool)
 | seq (a b:cD)
 | cond (c:Operand) (x y:cD)
 | block (id:Nat) (c:cD)
 | loop (p:PI) (c:cD)
 | exit (id:Nat)
 | ret
 | cut (p:PI) (c:cD)
 | range (i:Nat) (pl:List Nat) (f:Operand) (ps:Array Nat) (id:Nat) (ops:Array Oper) (c:cD)
def xG:cD->Code
 | .skip=>.skip
 | .region id ops d=>.region id ops d
 | .seq a b=>.seq (xG a) (xG b)
 | .cond c x y=>.cond c (xG x) (xG y)
 | .block id c=>.block id (xG c)
 | .loop _ c=>.loop (xG c)
 | .exit id=>.exit id
 | .ret=>.ret
 | .cut _ c=>xG c
 | .range _ _ f ps id ops c=>.rangeFunc f ps (.region id ops false) (xG c)
def lim {α:Type}(f:Nat->Option α):Option α:=@dite _ (∃n r,f n=some r) (Classical.propDecidable _) (fun h=>f h.choose) (fun _=>none)
def Mono {α:Type}(f:Nat->Option α):Prop:=∀n r,f n=some r->f (n+1)=some r
def Mono.le{α:Type}{f:Nat->Option α}(h:Mono f){n m:Nat}{r:α}(hr:f n=some r)(hnm:n<=m):f m=some r:=by
 induction hnm with
 | refl=>exact hr
 | step _ ih=>exact h _ _ ih
def Pe{α:Type}{f:Nat->Option α}(h:Mono f){r:α}:lim f=some r ↔ ∃n,f n=some r:=by
 unfold lim;by_cases hx:∃n r,f n=some r
 ·rw[dif_pos hx];obtain⟨r0,h0⟩:=hx.choose_spec;constructor
  ·grind
  ·rintro⟨n,hn⟩;have a:=h.le h0 (Nat.le_max_left hx.choose n);have b:=h.le hn (Nat.le_max_right hx.choose n)
   simp_all
 simp_all
def zg7:jD->zA->(zA->iB)->iB
 | .bool,v,K=>ob v.asBool fun b=>K (.bool b)
 | .int k,v,K=>ob v.asIntK fun p=>pB (cM p.1 k) (K (.int k p.2))
 | .string,v,K=>ob v.asStr fun l=>K (.str l)
 | .ptr _,v,K=>K v
 | .slice _,v,K=>K v
 | .arr _ _,v,K=>K v
 | .map _ _,v,K=>K v
 | .struct _,v,K=>K v
 | .func,v,K=>K v
 | .iface,v,K=>K v
 | .other,v,K=>K v
def Gd:jD->zA->Prop
 | .bool,v=>∃b,v=.bool b
 | .int k,v=>∃n,v=.int k n
 | .string,v=>∃l,v=.str l
 | _,_=>True
theorem UJ{d:jD}{v:zA}{K:zA->iB}{x:zA × wA}:zg7 d v K=some x ↔ Gd d v/\K v=some x:=by
 cases d<;>simp only[zg7,Gd,mA,jB,true_and]
 case bool=>
  grind [Af]
 case int k=>
  constructor
  ·grind [rU,sK]
  ·rintro⟨⟨n,rfl⟩,h⟩;exact⟨(k,n),rfl,sK.2 rfl,h⟩
 grind [sU]
def fK(C:dA)(t:Nat)(v:zA)(K:zA->iB):iB:=
 match C.tys.get t with
 | some ty=>zg7 ty.desc v K
 | none=>K v
def bX (C:dA)(t:Nat)(v:zA):Prop:=
 match C.tys.get t with
 | some ty=>Gd ty.desc v
 | none=>True
theorem jP{C:dA}{t:Nat}{v:zA}{K:zA->iB}{x:zA × wA}:fK C t v K=some x ↔ bX C t v/\K v=some x:=by
 grind [fK,bX,UJ]
def lG (φ:nH)(r:nK)(H:wA)(k:zA->wA->iB):iB:=
 match r with
 | .val v H'=>k v H'
 | .enter f args=>ob (φ (.func f) args H) fun p=>k p.1 p.2
 | .round l args=>ob (φ (.yld l) args H) fun p=>k p.1 p.2
 | _=>none
def pN (C:dA)(φ:nH)(all:Array Oper)(n:Nat)(κ:Tm->wA->iB)(l:List Oper):Tm->wA->iB:=
 List.rec (motive:=fun _=>Tm->wA->iB) κ
  (fun o _ g tm H=>ob (gF o.guard all tm) fun w=>Bool.rec (motive:=fun _=>iB) (g (putA n tm o.dst xE) H)
   (lG φ ((sG o.op).f C (.now tm) H) H fun v H'=>fK C o.type v fun v=>g (putA n tm o.dst v) H') w) l
def gH(C:dA)(H:wA)(all:Array Oper)(n:Nat)(old:Tm)(olds:List (Nat × List Nat))(k:Tm->iB)(l:List Nat):Tm->iB:=
 List.rec (motive:=fun _=>Tm->iB) k
  (fun i _ g tm=>ob (xD all.toList i) fun o=>ob (gF o.guard all tm) fun w=>Bool.rec (motive:=fun _=>iB) (g (putA n tm o.dst xE))
   (ob ((mF o.op).f C (.mixed tm old (vF i olds) (pH o.op)) H) fun v=>fK C o.type v fun v=>g (putA n tm o.dst v)) w) l
def rL(C:dA)(H:wA)(all:Array Oper)(old:Tm)(olds:List (Nat × List Nat))(tm:Tm)(k:iB)(l:List Nat):iB:=
 List.rec (motive:=fun _=>iB) k
  (fun i _ g=>ob (xD all.toList i) fun o=>ob o.dst fun d=>ob (gF o.guard all tm) fun w=>Bool.rec (motive:=fun _=>iB) g
   (ob ((mF o.op).f C (.mixed tm old (vF i olds) (pH o.op)) H) fun v=>fK C o.type v fun v=>ob (tm.get d) fun u=>pB (same 10 v u) g) w) l
def jL (all:Array Oper)(h:Nat):Nat:=bif Nat.blt (oB all.toList) h then Nat.sub h (Nat.succ (oB all.toList))else h
def cS(C:dA)(all:Array Oper)(h:Nat)(o:Oper)(tm:Tm):Option Bool:=ob (gF o.guard all tm) fun w=>bif Nat.blt (oB all.toList) h then pB (w&&rK o.op&&oH (tX C o.op)) (some w)else some w
def pS(all:Array Oper)(st:xF):Bool:=Nat.blt (oB all.toList+oB all.toList) st.heavy
def Ku(C:dA)(all:Array Oper)(n:Nat)(old:Tm)(olds:List (Nat × List Nat))(st:xF)(g:Tm->wA->iB)(tm:Tm)(H:wA):iB:=
 pB (sV C all) (ob (Gj all old olds tm st.again) fun es=>ob (kV C es H) fun H'=>gH C H' all n old olds (fun tm=>g tm H') st.lights tm)
def eI(C:dA)(φ:nH)(all:Array Oper)(n:Nat)(old:Tm)(olds:List (Nat × List Nat))(κ:Tm->wA->iB)(l:List xF):Tm->wA->iB:=
 List.rec (motive:=fun _=>Tm->wA->iB) κ
  (fun st _ g tm H=>Bool.rec (motive:=fun _=>iB) (ob (xD all.toList (jL all st.heavy)) fun o=>ob (cS C all st.heavy o tm) fun w=>
   (fun cont:zA->wA->iB=>Bool.rec (motive:=fun _=>iB) (cont xE H)
    (lG φ ((sG o.op).f C (.mixed tm old (vF (jL all st.heavy) olds) (pH o.op)) H) H fun v H'=>fK C o.type v fun v=>cont v H') w)
   (fun v H'=>rL C H' all old olds (putA n tm o.dst v) (gH C H' all n old olds (fun tm=>g tm H') st.lights (putA n tm o.dst v)) st.again)) (Ku C all n old olds st g tm H) (pS all st)) l
def Et(C:dA)(φ:nH)(fn n:Nat)(κ:Tm->wA->iB)(id:Nat)(all:Array Oper)(draw:Bool):Tm->wA->iB:=
 Bool.rec (motive:=fun _=>Tm->wA->iB) (fun tm H=>pN C φ all n κ all.toList tm.cut H)
  (fun tm H=>ob (ob (C.plans.get fn) fun t=>t.get id) fun p=>pB (vS all p) (gH C H all n tm.cut p.olds (fun tm'=>eI C φ all n tm.cut p.olds κ p.stages tm' H) p.first tm.cut)) draw
def Fr(tm:Tm)(live:List Nat):Tr zA:=
 List.rec (motive:=fun _=>Tr zA) .leaf (fun i _ t=>match tm.get i with | some v=>t.set i v | none=>t) live
def keep (live:List Nat)(tm:Tm):Tm:=⟨tm.k,Fr tm live,[]⟩
def isDef0:Option (List mJ)->Bool
 | some []=>true
 | _=>false
def nY(κ:Kt)(p:Option Code)(tm:Tm)(H:wA):iB:=
 match p with
 | none=>κ.norm tm H
 | some .ret=>κ.ret tm H
 | _=>none
def endLoop(H:wA)(l:Nat)(r:bO):wA:=setBlk H l (.loop ⟨.exhausted,r.pending,r.fn,r.n,r.tm,r.params,r.assign,r.body,r.defers⟩)
def nP(C:dA)(φ:nH)(fn n:Nat)(κ:Kt)(f:Operand)(ps:List Nat)(a b:Code)(tm:Tm)(H:wA):iB:=
 ob (ev f (.now tm)) fun v=>ob v.asFunc fun q=>match q.1 with
  | .yld _=>none
  | .func g=>pB (oH (C.prims.get g)) (ob (φ (.func g) (bD q.2.1 (.func (.yld (H.next+1)) [] []::q.2.2)) (newBlk (newBlk H (.deferred (some []))) (.loop ⟨.ready,none,fn,n,tm,ps,a,b,H.next⟩))) fun y=>
   ob (aJ y.2 (H.next+1)) fun r=>pB (!Nat.beq (LoopState.tag r.state) 1) (ob (nY κ r.pending tm (endLoop y.2 (H.next+1) r)) fun z=>
    ob (gV z.2 H.next) fun d=>pB (isDef0 d) (some (z.1,setBlk z.2 H.next (.deferred none)))))
def aD (C:dA)(φ:nH)(fn n:Nat)(c:cD):Kt->Tm->wA->iB:=
 cD.rec (motive:=fun _=>Kt->Tm->wA->iB)
  (fun κ tm H=>κ.norm tm H)
  (fun id all draw κ=>Et C φ fn n κ.norm id all draw)
  (fun _ _ ga gb κ=>ga ⟨gb κ,κ.exit,κ.ret⟩)
  (fun c _ _ gx gy κ tm H=>ob (ob (ev c (.now tm)) zA.asBool) fun b=>Bool.rec (motive:=fun _=>iB) (gy κ tm H) (gx κ tm H) b)
  (fun id _ g κ=>g ⟨κ.norm,fun i tm H=>Bool.rec (motive:=fun _=>iB) (κ.exit i tm H) (κ.norm tm H) (Nat.beq id i),κ.ret⟩)
  (fun live _ g κ tm H=>lim fun m=>Nat.rec (motive:=fun _=>Tm->wA->iB) (fun _ _=>none) (fun _ r tm H=>g ⟨r,κ.exit,κ.ret⟩ (keep live.kept tm) H) m tm H)
  (fun id κ tm H=>κ.exit id tm H)
  (fun κ tm H=>κ.ret tm H)
  (fun live _ g κ tm H=>g κ (keep live.kept tm) H)
  (fun _ _ f ps id ops c _ κ tm H=>nP C φ fn n κ f ps.toList (.region id ops false) (xG c) tm H) c
end
section
def gJ {α β γ:Type}(k k':α->β->Option γ):Prop:=∀a b x,k a b=some x->k' a b=some x
def uQ (φ φ':nH):Prop:=∀f a H x,φ f a H=some x->φ' f a H=some x
structure dN (κ κ':Kt):Prop where
 norm:gJ κ.norm κ'.norm
 exit:∀i,gJ (κ.exit i) (κ'.exit i)
 ret:gJ κ.ret κ'.ret
section
variable {C:dA}{φ φ':nH}{all:Array Oper}{n:Nat}{x:zA × wA}
def DS(hφ:uQ φ φ'){r:nK}{H:wA}{k k':zA->wA->iB}(hk:gJ k k')(h:lG φ r H k=some x):lG φ' r H k'=some x:=by
 cases r<;>simp only[lG]at h ⊢<;>try (cases h;done)
 case val v H'=>exact hk _ _ _ h
 case enter f args=>
  rw[mA]at h ⊢;obtain⟨p,h1,h2⟩:=h;exact⟨p,hφ _ _ _ _ h1,hk _ _ _ h2⟩
 case round l args=>
  rw[mA]at h ⊢;obtain⟨p,h1,h2⟩:=h;exact⟨p,hφ _ _ _ _ h1,hk _ _ _ h2⟩
def Wd{t:Nat}{k k':zA->wA->iB}(hk:gJ k k'):gJ (fun v H=>fK C t v fun v=>k v H) (fun v H=>fK C t v fun v=>k' v H):=by
 intro v H x h;rw[jP]at h ⊢;exact⟨h.1,hk _ _ _ h.2⟩
theorem Bz{κ:Tm->wA->iB}{o:Oper}{l:List Oper}{tm:Tm}{H:wA}:pN C φ all n κ (o::l) tm H=ob (gF o.guard all tm) fun w=>if w=true then
   (lG φ ((sG o.op).f C (.now tm) H) H fun v H'=>fK C o.type v fun v=>pN C φ all n κ l (putA n tm o.dst v) H')else pN C φ all n κ l (putA n tm o.dst xE) H:=by
 show(ob (gF o.guard all tm) fun w=>Bool.rec (motive:=fun _=>iB) _ _ w)=_;congr 1;funext w;rw[iJ];rfl
def Vv(hφ:uQ φ φ'){κ κ':Tm->wA->iB}(hκ:gJ κ κ'):∀(l:List Oper),gJ (pN C φ all n κ l) (pN C φ' all n κ' l):=by
 intro l;induction l with
 | nil=>exact hκ
 | cons o l ih=>
  intro tm H x h;rw[Bz,mA]at h ⊢;obtain⟨w,h1,h2⟩:=h;refine⟨w,h1,?_⟩;split at h2
  ·rename_i e;rw[yab e];exact DS hφ (Wd (k:=fun v H'=>pN C φ all n κ l (putA n tm o.dst v) H') (k':=fun v H'=>pN C φ' all n κ' l (putA n tm o.dst v) H') fun v H' y hy=>ih _ _ _ hy) h2
  ·rename_i e;rw[yaa e];exact ih _ _ _ h2
variable {H:wA}{old:Tm}{olds:List (Nat × List Nat)}
theorem Ph{k:Tm->iB}{i:Nat}{l:List Nat}{tm:Tm}:gH C H all n old olds k (i::l) tm=ob (xD all.toList i) fun o=>ob (gF o.guard all tm) fun w=>if w=true then
   (ob ((mF o.op).f C (.mixed tm old (vF i olds) (pH o.op)) H) fun v=>fK C o.type v fun v=>gH C H all n old olds k l (putA n tm o.dst v))else gH C H all n old olds k l (putA n tm o.dst xE):=by
 show(ob (xD all.toList i) fun o=>ob (gF o.guard all tm) fun w=>Bool.rec (motive:=fun _=>iB) _ _ w)=_;congr 1;funext o;congr 1;funext w;rw[iJ];rfl
theorem Pg{k k':Tm->iB}(hk:∀tm x,k tm=some x->k' tm=some x):∀(l:List Nat) tm x,gH C H all n old olds k l tm=some x->gH C H all n old olds k' l tm=some x:=by
 intro l;induction l with
 | nil=>exact hk
 | cons i l ih=>
  grind [Ph,mA,jP]
def Zk{tm:Tm}{k:iB}{i:Nat}{l:List Nat}:rL C H all old olds tm k (i::l)=ob (xD all.toList i) fun o=>ob o.dst fun d=>ob (gF o.guard all tm) fun w=>if w=true then
   (ob ((mF o.op).f C (.mixed tm old (vF i olds) (pH o.op)) H) fun v=>fK C o.type v fun v=>ob (tm.get d) fun u=>pB (same 10 v u) (rL C H all old olds tm k l))else rL C H all old olds tm k l:=by
 show(ob (xD all.toList i) fun o=>ob o.dst fun d=>ob (gF o.guard all tm) fun w=>Bool.rec (motive:=fun _=>iB) _ _ w)=_;congr 1;funext o;congr 1;funext d;congr 1;funext w;rw[iJ];rfl
theorem Ln{tm:Tm}{k:iB}:∀(l:List Nat),rL C H all old olds tm k l=some x->Ai C H all old olds tm l=true/\k=some x:=by
 intro l;induction l with
 | nil=>intro h;exact⟨rfl,h⟩
 | cons i l ih=>
  intro h;rw[Zk,mA]at h;obtain⟨o,h1,h⟩:=h;rw[mA]at h;grind [mA,Ai,jP,jB]
theorem Zj{tm:Tm}{k k':iB}(hk:k'=some x):∀(l:List Nat),rL C H all old olds tm k l=some x->rL C H all old olds tm k' l=some x:=by
 intro l;induction l with
 | nil=>intro _;exact hk
 | cons i l ih=>
  intro h;rw[Zk,mA]at h ⊢;obtain⟨o,h1,h⟩:=h;refine⟨o,h1,?_⟩;rw[mA]at h ⊢
  grind [mA,jP,jB]
theorem Eg{κ:Tm->wA->iB}{st:xF}{l:List xF}{tm:Tm}(hg:pS all st=false):eI C φ all n old olds κ (st::l) tm H=ob (xD all.toList (jL all st.heavy)) fun o=>ob (cS C all st.heavy o tm) fun w=>
   (fun cont:zA->wA->iB=>if w=true then(lG φ ((sG o.op).f C (.mixed tm old (vF (jL all st.heavy) olds) (pH o.op)) H) H fun v H'=>fK C o.type v fun v=>cont v H')else cont xE H)
   (fun v H'=>rL C H' all old olds (putA n tm o.dst v) (gH C H' all n old olds (fun tm=>eI C φ all n old olds κ l tm H') st.lights (putA n tm o.dst v)) st.again):=by
 show Bool.rec (motive:=fun _=>iB) _ _ (pS all st)=_;rw[hg];show(ob (xD all.toList (jL all st.heavy)) fun o=>ob (cS C all st.heavy o tm) fun w=>(fun cont:zA->wA->iB=>Bool.rec (motive:=fun _=>iB) _ _ w) _)=_;congr 1;funext o;congr 1;funext w;cases w<;>rfl
theorem Ip{κ:Tm->wA->iB}{st:xF}{l:List xF}{tm:Tm}(hg:pS all st=true):eI C φ all n old olds κ (st::l) tm H=Ku C all n old olds st (eI C φ all n old olds κ l) tm H:=by
 show Bool.rec (motive:=fun _=>iB) _ _ (pS all st)=_;rw[hg];rfl
theorem Qe{st:xF}{g:Tm->wA->iB}{tm:Tm}{x:zA × wA}:Ku C all n old olds st g tm H=some x ↔ sV C all=true/\∃es H',Gj all old olds tm st.again=some es/\kV C es H=some H'/\gH C H' all n old olds (fun tm=>g tm H') st.lights tm=some x:=by
 grind [Ku,mA,jB]
theorem Uh(hφ:uQ φ φ'){κ κ':Tm->wA->iB}(hκ:gJ κ κ'):∀(l:List xF),gJ (eI C φ all n old olds κ l) (eI C φ' all n old olds κ' l):=by
 intro l;induction l with
 | nil=>exact hκ
 | cons st l ih=>
  intro tm H x h
  cases hg:pS all st with
  | true=>
   rw[Ip hg,Qe]at h ⊢;obtain⟨h0,es,H',h1,h2,h3⟩:=h;exact⟨h0,es,H',h1,h2,Pg (fun tm x hx=>ih _ _ _ hx) _ _ _ h3⟩
  | false=>
  rw[Eg hg,mA]at h ⊢;obtain⟨o,h1,h⟩:=h;refine⟨o,h1,?_⟩;rw[mA]at h ⊢;obtain⟨w,h2,h⟩:=h;refine⟨w,h2,?_⟩;have cont:∀v H' y,rL C H' all old olds (putA n tm o.dst v) (gH C H' all n old olds (fun tm=>eI C φ all n old olds κ l tm H') st.lights (putA n tm o.dst v)) st.again=some y →
    rL C H' all old olds (putA n tm o.dst v) (gH C H' all n old olds (fun tm=>eI C φ' all n old olds κ' l tm H') st.lights (putA n tm o.dst v)) st.again=some y:=by
   intro v H' y hy;exact Zj (Pg (fun tm x hx=>ih _ _ _ hx) _ _ _ (Ln _ hy).2) _ hy
  simp only[]at h ⊢;split at h
  ·rename_i e;rw[yab e];exact DS hφ (Wd cont) h
  grind
def DU(hφ:uQ φ φ'){κ κ':Tm->wA->iB}(hκ:gJ κ κ'){fn id:Nat}{draw:Bool}:gJ (Et C φ fn n κ id all draw) (Et C φ' fn n κ' id all draw):=by
 intro tm H x h
 cases draw with
 | false=>exact Vv hφ hκ _ _ _ _ h
 | true=>
  have h:(ob (ob (C.plans.get fn) fun t=>t.get id) fun p=>pB (vS all p) (gH C H all n tm.cut p.olds (fun tm'=>eI C φ all n tm.cut p.olds κ p.stages tm' H) p.first tm.cut))=some x:=h;show(ob (ob (C.plans.get fn) fun t=>t.get id) fun p=>pB (vS all p) (gH C H all n tm.cut p.olds (fun tm'=>eI C φ' all n tm.cut p.olds κ' p.stages tm' H) p.first tm.cut))=some x;rw[mA]at h ⊢
  obtain⟨p,h1,h⟩:=h;refine⟨p,h1,?_⟩;rw[jB]at h ⊢;exact⟨h.1,Pg (fun tm x hx=>Uh hφ hκ _ _ _ _ hx) _ _ _ h.2⟩
def NL{κ κ':Kt}(hκ:dN κ κ'){p:Option Code}:gJ (nY κ p) (nY κ' p):=by
 intro tm H x h;unfold nY at h ⊢;split at h
 ·exact hκ.norm _ _ _ h
 ·exact hκ.ret _ _ _ h
 ·cases h
def EC(hφ:uQ φ φ'){κ κ':Kt}(hκ:dN κ κ'){fn:Nat}{f:Operand}{ps:List Nat}{a b:Code}:gJ (nP C φ fn n κ f ps a b) (nP C φ' fn n κ' f ps a b):=by
 intro tm H x h;unfold nP at h ⊢;rw[mA]at h ⊢;obtain⟨v,h1,h⟩:=h;refine⟨v,h1,?_⟩;rw[mA]at h ⊢;obtain⟨q,h2,h⟩:=h;refine⟨q,h2,?_⟩;split at h
 ·cases h
 ·rw[jB,mA]at h ⊢;obtain⟨h3,y,h4,h⟩:=h;refine⟨h3,y,hφ _ _ _ _ h4,?_⟩;rw[mA]at h ⊢;obtain⟨r,h5,h⟩:=h;refine⟨r,h5,?_⟩;rw[jB,mA]at h ⊢;obtain⟨h6,z,h7,h⟩:=h;exact⟨h6,z,NL hκ _ _ _ h7,h⟩
end
end
section
theorem Wk{α:Type}{f:Nat->Option α}{r:α}(h:lim f=some r):∃n,f n=some r:=by
 unfold lim at h;by_cases hx:∃n r,f n=some r
 all_goals grind
structure fN {α β γ:Type} (ks:Nat->α->β->Option γ) (k:α->β->Option γ):Prop where
 up:∀n,gJ (ks n) (ks (n+1))
 ex:∀a b x,k a b=some x->∃n,ks n a b=some x
def Ia{α β γ:Type}{ks:Nat->α->β->Option γ}(h:∀n,gJ (ks n) (ks (n+1))){n m:Nat}(hnm:n<=m):gJ (ks n) (ks m):=by
 induction hnm with
 | refl=>exact fun _ _ _ h=>h
 | step _ ih=>exact fun a b x hx=>h _ _ _ _ (ih a b x hx)
structure mY (φs:Nat->nH) (φ:nH):Prop where
 up:∀n,uQ (φs n) (φs (n+1))
 ex:∀f a H x,φ f a H=some x->∃n,φs n f a H=some x
def mY.le{φs:Nat->nH}{φ:nH}(h:mY φs φ){n m:Nat}(hnm:n<=m):uQ (φs n) (φs m):=by
 induction hnm with
 | refl=>exact fun _ _ _ _ h=>h
 | step _ ih=>exact fun f a H x hx=>h.up _ _ _ _ _ (ih f a H x hx)
structure De (κs:Nat->Kt) (κ:Kt):Prop where
 norm:fN (fun n=>(κs n).norm) κ.norm
 exit:∀i,fN (fun n=>(κs n).exit i) (κ.exit i)
 ret:fN (fun n=>(κs n).ret) κ.ret
section
variable {C:dA}{φ φ':nH}{φs:Nat->nH}{all:Array Oper}{N fn:Nat}
def VQ{g g':Kt->Tm->wA->iB}{κ κ':Kt}(hκ:dN κ κ')(hg:∀ κ κ',dN κ κ'->gJ (g κ) (g' κ'))(live:List Nat):∀m,gJ (Nat.rec (motive:=fun _=>Tm->wA->iB) (fun _ _=>none) (fun _ r tm H=>g ⟨r,κ.exit,κ.ret⟩ (keep live tm) H) m)
  (Nat.rec (motive:=fun _=>Tm->wA->iB) (fun _ _=>none) (fun _ r tm H=>g' ⟨r,κ'.exit,κ'.ret⟩ (keep live tm) H) m):=by
 intro m;induction m with
 | zero=>intro a b x h;cases h
 | succ m ih=>exact fun a b x h=>hg ⟨_,_,_⟩ ⟨_,_,_⟩ ⟨ih,hκ.exit,hκ.ret⟩ _ _ _ h
theorem dN.refl(κ:Kt):dN κ κ:=⟨fun _ _ _ h=>h,fun _ _ _ _ h=>h,fun _ _ _ h=>h⟩
def Xk{g:Kt->Tm->wA->iB}{κ:Kt}(hg:∀ κ κ',dN κ κ'->gJ (g κ) (g κ'))(live:List Nat):∀m,gJ (Nat.rec (motive:=fun _=>Tm->wA->iB) (fun _ _=>none) (fun _ r tm H=>g ⟨r,κ.exit,κ.ret⟩ (keep live tm) H) m)
  (Nat.rec (motive:=fun _=>Tm->wA->iB) (fun _ _=>none) (fun _ r tm H=>g ⟨r,κ.exit,κ.ret⟩ (keep live tm) H) (m+1)):=by
 intro m;induction m with
 | zero=>intro a b x h;cases h
 | succ m ih=>exact fun a b x h=>hg ⟨_,_,_⟩ ⟨_,_,_⟩ ⟨ih,(dN.refl κ).exit,(dN.refl κ).ret⟩ _ _ _ h
def Cw(hφ:uQ φ φ'):∀(c:cD) (κ κ':Kt),dN κ κ'->gJ (aD C φ fn N c κ) (aD C φ' fn N c κ'):=by
 have self:∀(ψ:nH),uQ ψ ψ:=fun _ _ _ _ _ h=>h;intro c;suffices h:∀ φ φ',uQ φ φ'->∀(κ κ':Kt),dN κ κ'->gJ (aD C φ fn N c κ) (aD C φ' fn N c κ') from h φ φ' hφ
 induction c with
 | skip=>exact fun _ _ _ κ κ' hκ=>hκ.norm
 | region id ops d=>exact fun _ _ hφ κ κ' hκ=>DU hφ hκ.norm
 | seq a b iha ihb=>exact fun _ _ hφ κ κ' hκ=>iha _ _ hφ _ _ ⟨ihb _ _ hφ _ _ hκ,hκ.exit,hκ.ret⟩
 | cond c a b iha ihb=>
  intro φ φ' hφ κ κ' hκ tm H x h;have h:(ob (ob (ev c (.now tm)) zA.asBool) fun t=>Bool.rec (motive:=fun _=>iB) (aD C φ fn N b κ tm H) (aD C φ fn N a κ tm H) t)=some x:=h;show(ob (ob (ev c (.now tm)) zA.asBool) fun t=>Bool.rec (motive:=fun _=>iB) (aD C φ' fn N b κ' tm H) (aD C φ' fn N a κ' tm H) t)=some x;rw[mA]at h ⊢;obtain⟨t,h1,h2⟩:=h;refine⟨t,h1,?_⟩
  cases t with
  | true=>exact iha _ _ hφ _ _ hκ _ _ _ h2
  | false=>exact ihb _ _ hφ _ _ hκ _ _ _ h2
 | block id c ih=>
  intro φ φ' hφ κ κ' hκ;refine ih _ _ hφ _ _ ⟨hκ.norm,fun i tm H x h=>?_,hκ.ret⟩;simp only[iJ]at h ⊢;split at h
  ·rename_i e;rw[yab e];exact hκ.norm _ _ _ h
  ·rename_i e;rw[yaa e];exact hκ.exit _ _ _ _ h
 | loop live c ih=>
  intro φ φ' hφ κ κ' hκ tm H x h;obtain⟨m,hm⟩:=Wk h;refine(Pe fun m y hy=>Xk (ih _ _ (self φ')) live.kept m _ _ _ hy).2 ⟨m,?_⟩;exact VQ hκ (ih _ _ hφ) live.kept m _ _ _ hm
 | exit id=>exact fun _ _ _ κ κ' hκ=>hκ.exit id
 | ret=>exact fun _ _ _ κ κ' hκ=>hκ.ret
 | cut live c ih=>exact fun _ _ hφ κ κ' hκ tm H x h=>ih _ _ hφ _ _ hκ _ _ _ h
 | range i pl f ps id ops c ih=>exact fun _ _ hφ κ κ' hκ tm H x h=>EC hφ hκ _ _ _ h
def DQ(hφ:mY φs φ){r:nK}{H:wA}{ks:Nat->zA->wA->iB}{k:zA->wA->iB}(hk:fN ks k){x:zA × wA}(h:lG φ r H k=some x):∃n,lG (φs n) r H (ks n)=some x:=by
 cases r<;>simp only[lG]at h ⊢<;>try (cases h;done)
 case val v H'=>exact hk.ex _ _ _ h
 case enter f args=>
  rw[mA]at h;obtain⟨p,h1,h2⟩:=h;obtain⟨n,hn⟩:=hφ.ex _ _ _ _ h1;obtain⟨m,hm⟩:=hk.ex _ _ _ h2;exact⟨max n m,by rw[mA];exact⟨p,hφ.le (Nat.le_max_left n m) _ _ _ _ hn,Ia hk.up (Nat.le_max_right n m) _ _ _ hm⟩⟩
 case round l args=>
  rw[mA]at h;obtain⟨p,h1,h2⟩:=h;obtain⟨n,hn⟩:=hφ.ex _ _ _ _ h1;obtain⟨m,hm⟩:=hk.ex _ _ _ h2;exact⟨max n m,by rw[mA];exact⟨p,hφ.le (Nat.le_max_left n m) _ _ _ _ hn,Ia hk.up (Nat.le_max_right n m) _ _ _ hm⟩⟩
theorem FQ{t:Nat}{ks:Nat->zA->wA->iB}{k:zA->wA->iB}(hk:fN ks k):fN (fun n v H=>fK C t v fun v=>ks n v H) (fun v H=>fK C t v fun v=>k v H):=by
 refine⟨fun n=>Wd (hk.up n),fun v H x h=>?_⟩;rw[jP]at h;obtain⟨n,hn⟩:=hk.ex _ _ _ h.2;exact⟨n,by grind [jP]⟩
theorem zbx(hφ:mY φs φ){κs:Nat->Tm->wA->iB}{κ:Tm->wA->iB}(hκ:fN κs κ):∀(l:List Oper),fN (fun n=>pN C (φs n) all N (κs n) l) (pN C φ all N κ l):=by
 intro l;refine⟨fun n=>Vv (hφ.up n) (hκ.up n) l,?_⟩
 induction l with
 | nil=>exact hκ.ex
 | cons o l ih=>
  intro tm H x h;rw[Bz,mA]at h;obtain⟨w,h1,h2⟩:=h;split at h2
  ·rename_i e;obtain⟨n,hn⟩:=DQ hφ (FQ (ks:=fun n v H'=>pN C (φs n) all N (κs n) l (putA N tm o.dst v) H') (k:=fun v H'=>pN C φ all N κ l (putA N tm o.dst v) H') ⟨fun n v H' y hy=>Vv (hφ.up n) (hκ.up n) l _ _ _ hy,fun v H' y hy=>ih _ _ _ hy⟩) h2
   grind [Bz,mA]
  grind [Bz,mA]
variable {old:Tm}{olds:List (Nat × List Nat)}
theorem Wl{H:wA}{ks:Nat->Tm->iB}{k:Tm->iB}(hk:∀tm x,k tm=some x->∃n,ks n tm=some x):∀(l:List Nat) tm x,gH C H all N old olds k l tm=some x->∃n,gH C H all N old olds (ks n) l tm=some x:=by
 intro l;induction l with
 | nil=>exact hk
 | cons i l ih=>
  intro tm x h;simp only[Ph]at h ⊢;rw[mA]at h;obtain⟨o,h1,h⟩:=h;rw[mA]at h;obtain⟨w,h3,h4⟩:=h;split at h4
  ·rename_i e;rw[mA]at h4;obtain⟨v,h5,h6⟩:=h4
   simp_all [jP]
  simp_all
theorem QI(hφ:mY φs φ){κs:Nat->Tm->wA->iB}{κ:Tm->wA->iB}(hκ:fN κs κ):∀(l:List xF),fN (fun n=>eI C (φs n) all N old olds (κs n) l) (eI C φ all N old olds κ l):=by
 intro l;refine⟨fun n=>Uh (hφ.up n) (hκ.up n) l,?_⟩
 induction l with
 | nil=>exact hκ.ex
 | cons st l ih=>
  intro tm H x h
  cases hg:pS all st with
  | true=>
   rw[Ip hg,Qe]at h;obtain⟨h0,es,H',h1,h2,h3⟩:=h;obtain⟨n,hn⟩:=Wl (fun tm x hx=>ih tm H' x hx) _ _ _ h3;exact⟨n,by grind [Ip,Qe]⟩
  | false=>
  rw[Eg hg,mA]at h;obtain⟨o,h1,h⟩:=h;rw[mA]at h;obtain⟨w,h2,h⟩:=h;have cont:fN (fun n v H'=>rL C H' all old olds (putA N tm o.dst v) (gH C H' all N old olds (fun tm=>eI C (φs n) all N old olds (κs n) l tm H') st.lights (putA N tm o.dst v)) st.again)
    (fun v H'=>rL C H' all old olds (putA N tm o.dst v) (gH C H' all N old olds (fun tm=>eI C φ all N old olds κ l tm H') st.lights (putA N tm o.dst v)) st.again):=by
   refine⟨fun n v H' y hy=>Zj (Pg (fun tm x hx=>Uh (hφ.up n) (hκ.up n) l _ _ _ hx) _ _ _ (Ln _ hy).2) _ hy,fun v H' y hy=>?_⟩;obtain⟨n,hn⟩:=Wl (fun tm x hx=>ih tm H' x hx) _ _ _ (Ln _ hy).2;exact⟨n,Zj hn _ hy⟩
  simp only[]at h;split at h
  ·rename_i e;obtain⟨n,hn⟩:=DQ hφ (FQ cont) h
   grind [Eg,pA]
  ·rename_i e;obtain⟨n,hn⟩:=cont.ex _ _ _ h;exact⟨n,by grind [Eg,pA]⟩
theorem SF(hφ:mY φs φ){κs:Nat->Tm->wA->iB}{κ:Tm->wA->iB}(hκ:fN κs κ){id:Nat}{draw:Bool}:fN (fun n=>Et C (φs n) fn N (κs n) id all draw) (Et C φ fn N κ id all draw):=by
 refine⟨fun n=>DU (hφ.up n) (hκ.up n),fun tm H x h=>?_⟩
 cases draw with
 | false=>exact(zbx hφ hκ _).ex _ _ _ h
 | true=>
  have h:(ob (ob (C.plans.get fn) fun t=>t.get id) fun p=>pB (vS all p) (gH C H all N tm.cut p.olds (fun tm'=>eI C φ all N tm.cut p.olds κ p.stages tm' H) p.first tm.cut))=some x:=h;rw[mA]at h;obtain⟨p,h1,h⟩:=h;rw[jB]at h;obtain⟨n,hn⟩:=Wl (fun tm' x hx=>(QI hφ hκ p.stages).ex tm' H x hx) _ _ _ h.2;refine⟨n,?_⟩;show(ob (ob (C.plans.get fn) fun t=>t.get id) fun p=>pB (vS all p) (gH C H all N tm.cut p.olds (fun tm'=>eI C (φs n) all N tm.cut p.olds (κs n) p.stages tm' H) p.first tm.cut))=some x
  grind [pA,jB]
theorem EA(hφ:mY φs φ){κs:Nat->Kt}{κ:Kt}(hκ:De κs κ){f:Operand}{ps:List Nat}{a b:Code}:fN (fun n=>nP C (φs n) fn N (κs n) f ps a b) (nP C φ fn N κ f ps a b):=by
 have kle:∀n,dN (κs n) (κs (n+1)):=fun n=>⟨hκ.norm.up n,fun i=>(hκ.exit i).up n,hκ.ret.up n⟩;have klm:∀n m,n<=m->dN (κs n) (κs m):=fun n m h=>⟨Ia hκ.norm.up h,fun i=>Ia (hκ.exit i).up h,Ia hκ.ret.up h⟩;refine⟨fun n=>EC (hφ.up n) (kle n),fun tm H x h=>?_⟩;unfold nP at h;rw[mA]at h;obtain⟨v,h1,h⟩:=h;rw[mA]at h;obtain⟨q,h2,h⟩:=h;split at h
 ·cases h
 ·rename_i g hg;rw[jB,mA]at h;obtain⟨h3,y,h4,h⟩:=h;rw[mA]at h;obtain⟨r,h5,h⟩:=h;rw[jB,mA]at h;obtain⟨h6,z,h7,h⟩:=h;obtain⟨n,hn⟩:=hφ.ex _ _ _ _ h4;have:∃m,nY (κs m) r.pending (tm) (endLoop y.2 (H.next+1) r)=some z:=by
   unfold nY at h7 ⊢;split at h7
   ·exact hκ.norm.ex _ _ _ h7
   ·exact hκ.ret.ex _ _ _ h7
   grind
  obtain⟨m,hm⟩:=this;refine⟨max n m,?_⟩;show nP C (φs (max n m)) fn N (κs (max n m)) f ps a b tm H=some x;unfold nP;rw[h1,pA,h2,pA,hg];simp only[];rw[jB,mA];refine⟨h3,y,hφ.le (Nat.le_max_left n m) _ _ _ _ hn,?_⟩;rw[h5,pA,jB,mA];exact⟨h6,z,NL (klm _ _ (Nat.le_max_right n m)) _ _ _ hm,h⟩
theorem Yr(hφ:mY φs φ):∀(c:cD) (κs:Nat->Kt) (κ:Kt),De κs κ->fN (fun n=>aD C (φs n) fn N c (κs n)) (aD C φ fn N c κ):=by
 have kle:∀ {κs:Nat->Kt} {κ:Kt},De κs κ->∀n,dN (κs n) (κs (n+1)):=fun h n=>⟨h.norm.up n,fun i=>(h.exit i).up n,h.ret.up n⟩
 intro c;induction c with
 | skip=>exact fun κs κ hκ=>hκ.norm
 | region id ops d=>exact fun κs κ hκ=>SF hφ hκ.norm
 | seq a b iha ihb=>exact fun κs κ hκ=>iha (fun n=>⟨aD C (φs n) fn N b (κs n),(κs n).exit,(κs n).ret⟩) _ ⟨ihb _ _ hκ,hκ.exit,hκ.ret⟩
 | cond c a b iha ihb=>
  intro κs κ hκ;refine⟨fun n=>Cw (hφ.up n) (.cond c a b) _ _ (kle hκ n),fun tm H x h=>?_⟩;have h:(ob (ob (ev c (.now tm)) zA.asBool) fun t=>Bool.rec (motive:=fun _=>iB) (aD C φ fn N b κ tm H) (aD C φ fn N a κ tm H) t)=some x:=h;rw[mA]at h;obtain⟨t,h1,h2⟩:=h;have key:∀n,(Bool.rec (motive:=fun _=>iB) (aD C (φs n) fn N b (κs n) tm H) (aD C (φs n) fn N a (κs n) tm H) t:iB)=some x->aD C (φs n) fn N (.cond c a b) (κs n) tm H=some x:=by
   simp_all [aD]
  cases t with
  | true=>obtain⟨n,hn⟩:=(iha _ _ hκ).ex _ _ _ h2;grind
  | false=>obtain⟨n,hn⟩:=(ihb _ _ hκ).ex _ _ _ h2;grind
 | block id c ih=>
  intro κs κ hκ;refine ih (fun n=>⟨(κs n).norm,fun i tm H=>Bool.rec (motive:=fun _=>iB) ((κs n).exit i tm H) ((κs n).norm tm H) (Nat.beq id i),(κs n).ret⟩) _ ⟨hκ.norm,fun i=>⟨fun n tm H x h=>?_,fun tm H x h=>?_⟩,hκ.ret⟩
  ·simp only[iJ]at h ⊢;split at h
   ·rename_i e;rw[yab e];exact hκ.norm.up n _ _ _ h
   ·rename_i e;rw[yaa e];exact(hκ.exit i).up n _ _ _ h
  ·simp only[iJ]at h ⊢;split at h
   ·rename_i e;obtain⟨n,hn⟩:=hκ.norm.ex _ _ _ h;grind
   ·rename_i e;obtain⟨n,hn⟩:=(hκ.exit i).ex _ _ _ h;grind
 | loop live c ih=>
  intro κs κ hκ;refine⟨fun n=>Cw (hφ.up n) (.loop live c) _ _ (kle hκ n),fun tm H x h=>?_⟩;obtain⟨m,hm⟩:=Wk h;have it:∀m,fN (fun n=>(Nat.rec (motive:=fun _=>Tm->wA->iB) (fun _ _=>none) (fun _ r tm H=>aD C (φs n) fn N c ⟨r,(κs n).exit,(κs n).ret⟩ (keep live.kept tm) H) m:Tm->wA->iB))
    (Nat.rec (motive:=fun _=>Tm->wA->iB) (fun _ _=>none) (fun _ r tm H=>aD C φ fn N c ⟨r,κ.exit,κ.ret⟩ (keep live.kept tm) H) m):=by
   intro m;induction m with
   | zero=>exact⟨fun _ _ _ _ h=>h,fun _ _ _ h=>by cases h⟩
   | succ m ihm=>
    have:=ih _ _ (⟨ihm,hκ.exit,hκ.ret⟩:De (fun n=>⟨(Nat.rec (motive:=fun _=>Tm->wA->iB) (fun _ _=>none) (fun _ r tm H=>aD C (φs n) fn N c ⟨r,(κs n).exit,(κs n).ret⟩ (keep live.kept tm) H) m:Tm->wA->iB),(κs n).exit,(κs n).ret⟩) ⟨(Nat.rec (motive:=fun _=>Tm->wA->iB) (fun _ _=>none) (fun _ r tm H=>aD C φ fn N c ⟨r,κ.exit,κ.ret⟩ (keep live.kept tm) H) m:Tm->wA->iB),κ.exit,κ.ret⟩)
    exact⟨fun n tm H x h=>this.up n _ _ _ h,fun tm H x h=>this.ex _ _ _ h⟩
  obtain⟨n,hn⟩:=(it m).ex _ _ _ hm;exact⟨n,(Pe fun m y hy=>Xk (fun κ κ' h=>Cw (fun _ _ _ _ h=>h) c κ κ' h) live.kept m _ _ _ hy).2 ⟨m,hn⟩⟩
 | exit id=>exact fun κs κ hκ=>hκ.exit id
 | ret=>exact fun κs κ hκ=>hκ.ret
 | cut live c ih=>exact fun κs κ hκ=>⟨fun n tm H x h=>(ih _ _ hκ).up n _ _ _ h,fun tm H x h=>(ih _ _ hκ).ex _ _ _ h⟩
 | range i pl f ps id ops c ih=>exact fun κs κ hκ=>⟨fun n tm H x h=>(EA hφ hκ).up n _ _ _ h,fun tm H x h=>(EA hφ hκ).ex _ _ _ h⟩
theorem zc5{live:PI}{c:cD}{κ:Kt}{tm:Tm}{H:wA}:aD C φ fn N (.loop live c) κ tm H=aD C φ fn N c ⟨aD C φ fn N (.loop live c) κ,κ.exit,κ.ret⟩ (keep live.kept tm) H:=by
 have self:uQ φ φ:=fun _ _ _ _ h=>h;have up:∀m,gJ (Nat.rec (motive:=fun _=>Tm->wA->iB) (fun _ _=>none) (fun _ r tm H=>aD C φ fn N c ⟨r,κ.exit,κ.ret⟩ (keep live.kept tm) H) m)
   (Nat.rec (motive:=fun _=>Tm->wA->iB) (fun _ _=>none) (fun _ r tm H=>aD C φ fn N c ⟨r,κ.exit,κ.ret⟩ (keep live.kept tm) H) (m+1)):=Xk (Cw self c) live.kept
 have some_iff:∀tm H x,aD C φ fn N (.loop live c) κ tm H=some x ↔ ∃m,(Nat.rec (motive:=fun _=>Tm->wA->iB) (fun _ _=>none) (fun _ r tm H=>aD C φ fn N c ⟨r,κ.exit,κ.ret⟩ (keep live.kept tm) H) m:Tm->wA->iB) tm H=some x:=
  fun tm H x=>Pe fun m y hy=>up m _ _ _ hy
 have sup:De (fun m=>⟨(Nat.rec (motive:=fun _=>Tm->wA->iB) (fun _ _=>none) (fun _ r tm H=>aD C φ fn N c ⟨r,κ.exit,κ.ret⟩ (keep live.kept tm) H) m:Tm->wA->iB),κ.exit,κ.ret⟩) ⟨aD C φ fn N (.loop live c) κ,κ.exit,κ.ret⟩:=
  ⟨⟨up,fun tm H x h=>(some_iff tm H x).1 h⟩,fun i=>⟨fun _ _ _ _ h=>h,fun _ _ _ h=>⟨0,h⟩⟩,⟨fun _ _ _ _ h=>h,fun _ _ _ h=>⟨0,h⟩⟩⟩
 have key:∀x,aD C φ fn N (.loop live c) κ tm H=some x ↔ aD C φ fn N c ⟨aD C φ fn N (.loop live c) κ,κ.exit,κ.ret⟩ (keep live.kept tm) H=some x:=by
  intro x;rw[some_iff];constructor
  ·rintro⟨m,hm⟩
   cases m with
   | zero=>cases hm
   | succ m=>exact Cw self c ⟨(Nat.rec (motive:=fun _=>Tm->wA->iB) (fun _ _=>none) (fun _ r tm H=>aD C φ fn N c ⟨r,κ.exit,κ.ret⟩ (keep live.kept tm) H) m:Tm->wA->iB),κ.exit,κ.ret⟩ ⟨aD C φ fn N (.loop live c) κ,κ.exit,κ.ret⟩ ⟨fun tm H y hy=>(some_iff tm H y).2 ⟨m,hy⟩,fun _ _ _ _ h=>h,fun _ _ _ h=>h⟩ _ _ _ hm
  ·intro h;obtain⟨m,hm⟩:=(Yr (φs:=fun _=>φ) ⟨fun _=>self,fun _ _ _ _ h=>⟨0,h⟩⟩ c _ _ sup).ex _ _ _ h;exact⟨m+1,hm⟩
 cases h:aD C φ fn N (.loop live c) κ tm H with
 | some x=>grind
 | none=>
  cases h2:aD C φ fn N c ⟨aD C φ fn N (.loop live c) κ,κ.exit,κ.ret⟩ (keep live.kept tm) H with
  | none=>rfl
  | some x=>simp_all
end
end
section
def Pt:List tE->Bool
 | .reg .. :: _=>true
 | _=>false
section
variable {P:Program}{C:dA}{B N:Nat}{I:World->Prop}{μ:Mu}{w:World}{base:List Frame}{m:Machine}
def Na(hF:Ar P C){f:Nat}{args:List zA}{args':Array Value}{H:wA}(hH:mB B N μ H w)(hl:lB μ args args'.toList){g:tC}(he:gL C f args false=some g) :
  kD P C B N μ base (lone (Frame.enter P f args' .normal) base w) w (.next ⟨g,[],H⟩):=
 ⟨μ,_,[],w,.refl _ _,fun _ _ h=>h,Below.refl N w,hH,(La (cur:=some H) hF he hl).1,.nil⟩
end
end
section
inductive dL (C:dA):aE->aE->Prop
 | refl (o:aE):dL C o o
 | step {o o':aE}:dL C (Ee C o) o'->dL C o o'
 | forget {todo:List tE} {tm tm':Tm} {R:fJ} {cs:List tC} {H:wA} {o':aE}:Pt todo=false->(∀i v,tm'.get i=some v->tm.get i=some v)->dL C (.next ⟨⟨todo,tm',R⟩,cs,H⟩) o'->dL C (.next ⟨⟨todo,tm,R⟩,cs,H⟩) o'
def dL.trans{C:dA}{a b c:aE}(h:dL C a b)(k:dL C b c):dL C a c:=by
 induction h with
 | refl=>exact k
 | step _ ih=>exact .step (ih k)
 | forget h1 h2 _ ih=>exact .forget h1 h2 (ih k)
section
variable {P:Program}{C:dA}{B N:Nat}{I:World->Prop}{μ:Mu}{w:World}{base:List Frame}{m:Machine}
def iE.forget{n:Nat}{tm tm':Tm}{tmps:Array Value}(h:iE μ n tm tmps)(hs:∀i v,tm'.get i=some v->tm.get i=some v):iE μ n tm' tmps:=⟨h.1,fun i v hv=>h.2 i v (hs i v hv)⟩
theorem WK{todo:List tE}{tm tm':Tm}{R:fJ}{acs:List tC}{H:wA}(hr:Pt todo=false)(hs:∀i v,tm'.get i=some v->tm.get i=some v)(h:kD P C B N μ base m w (.next ⟨⟨todo,tm,R⟩,acs,H⟩)) :
  kD P C B N μ base m w (.next ⟨⟨todo,tm',R⟩,acs,H⟩):=by
 obtain⟨μ',b,cs,w',h1,h2,h3,h4,h5,h6⟩:=h;obtain⟨bfn,btmps,btodo,bdefers,bmode,bkind,bround⟩:=b;refine⟨μ',_,cs,w',h1,h2,h3,h4,⟨h5.rest,?_⟩,h6⟩;have hb:=h5.body;simp only at hb ⊢;split at hb
 ·rename_i hm;rw[yab hm]
  cases hb with
  | plain a t=>exact .plain a (t.forget hs)
  | reg _ _ _ _=>cases hr
  | mid _ _ _ _ _=>cases hr
 ·rename_i hm;rw[yaa hm];exact hb.forget hs
theorem kD.reach(hS:lI P C B N I)(hI:I w){o o':aE}(h:dL C o o'):kD P C B N μ base m w o->kD P C B N μ base m w o':=by
 induction h with
 | refl=>exact id
 | step _ ih=>grind [BV]
 | forget hr hs _ ih=>grind [WK]
end
def Zm(C:dA)(f:Nat)(ds:List mJ)(fr:tC)(H:wA)(v:zA):Prop:=
 fr.R.mode=.returning/\fr.R.defers=ds/\fr.R.deferred=false/\fr.R.fn=f/\∃fn l,C.fns.get f=some fn/\gW C H fr.tm fn.results.toList=some l/\v=Bk l
def Uz(r:bO)(l:Nat)(tm:Tm):tC:=⟨[.code r.assign,.beginRound,.code r.body],tm,⟨r.fn,r.n,[],.run,false,some l⟩⟩
structure wW (C:dA) (φ:nH):Prop where
 fn:∀f args H x,φ (.func f) args H=some x->∃g,gL C f args false=some g/\∀acs,∃fr',dL C (.next ⟨g,acs,H⟩) (.next ⟨fr',acs,x.2⟩)/\Zm C f [] fr' x.2 x.1
 rd:∀l args H x,φ (.yld l) args H=some x->∃r tm,aJ H l=some r/\jW r.n r.params args r.tm=some tm/\∀c acs c',kH c x.1=some c'->dL C (.next ⟨Uz r l tm,c::acs,H⟩) (.next ⟨c',acs,x.2⟩)
abbrev As:=List mJ->aE->zA × wA->Prop
def Fin (C:dA)(E:As)(ds:List mJ)(o:aE)(x:zA × wA):Prop:=∃o',dL C o o'/\E ds o' x
theorem Fin.step{C:dA}{E:As}{ds:List mJ}{o:aE}{x:zA × wA}(h:Fin C E ds (Ee C o) x):Fin C E ds o x:=by
 obtain⟨fr,h1,h2⟩:=h;exact⟨fr,.step h1,h2⟩
def Fin.of{C:dA}{E:As}{ds:List mJ}{o o':aE}{x:zA × wA}(hr:dL C o o')(h:Fin C E ds o' x):Fin C E ds o x:=by
 obtain⟨fr,h1,h2⟩:=h;exact⟨fr,hr.trans h1,h2⟩
abbrev RR(f N:Nat)(ro:Option Nat)(ds:List mJ):fJ:=⟨f,N,ds,.run,false,ro⟩
structure Hh (C:dA) (E:As) (G:zA × wA->Prop) (f N:Nat) (ro:Option Nat) (acs:List tC):Prop where
 not:∀ds todo tm H x,¬ E ds (.next ⟨⟨todo,tm,RR f N ro ds⟩,acs,H⟩) x
 all:ro=none->∀x,G x
 pop:ro=none->∀r ds o x,E (⟨none,r,[]⟩::ds) o x->gV x.2 r=some (some [])->∃o',dL C o o'/\E ds o' (x.1,setBlk x.2 r (.deferred none))
structure Rq (C:dA) (E:As) (G:zA × wA->Prop) (f N:Nat) (ro:Option Nat) (acs:List tC) (κ:Kt) (k:List tE):Prop where
 norm:∀ds x tm H,G x->κ.norm tm H=some x->Fin C E ds (.next ⟨⟨k,tm,RR f N ro ds⟩,acs,H⟩) x
 exit:∀ds x i tm H,G x->κ.exit i tm H=some x->Fin C E ds (.next ⟨⟨.code (.exit i)::k,tm,RR f N ro ds⟩,acs,H⟩) x
 ret:∀ds x tm H,G x->κ.ret tm H=some x->∀k',Fin C E ds (.next ⟨⟨.code .ret::k',tm,RR f N ro ds⟩,acs,H⟩) x
structure Df where
 i:Nat
 pl:List Nat
 f:Operand
 ps:Array Nat
 id:Nat
 ops:Array Oper
 c:cD
def vT(c:cD):List Df:=
 cD.rec (motive:=fun _=>List Df) [] (fun _ _ _=>[]) (fun _ _ a b=>bD a b) (fun _ _ _ a b=>bD a b) (fun _ _ a=>a) (fun _ _ a=>a) (fun _=>[]) [] (fun _ _ a=>a)
  (fun i pl f ps id ops c a=>⟨i,pl,f,ps,id,ops,c⟩::a) c
section
variable {C:dA}{φ:nH}{E:As}{G:zA × wA->Prop}{ds:List mJ}{ro:Option Nat}{f N:Nat}{acs:List tC}{R:fJ}{κ:Kt}{k:List tE}{x:zA × wA}{all:Array Oper}
theorem iK(hR:R.mode.running=true){todo:List tE}{tm:Tm}{H:wA}:Ee C (.next ⟨⟨todo,tm,R⟩,acs,H⟩)=cP C todo tm R acs H:=by
 show(bif R.mode.running then cP C todo tm R acs H else _)=_
 grind
def JH{fr c c':tC}{H:wA}{v:zA}(hr:Zm C f [] fr H v)(hf:kH c v=some c'):Ee C (.next ⟨fr,c::acs,H⟩)=.next ⟨c',acs,H⟩:=by
 obtain⟨h1,h2,h3,h4,fn,l,h5,h6,rfl⟩:=hr;obtain⟨todo,tm,ffn,n,defers,mode,deferred,round⟩:=fr;simp only at h1 h2 h3 h4 h6;subst h1 h2 h3 h4;show Ic C ⟨todo,tm,_⟩ (c::acs) H=_;unfold Ic;rw[h5,pA,h6];simp only[cond_false];rw[hf];rfl
def DR(hφ:wW C φ){r:nK}{H:wA}{K:zA->wA->iB}(h:lG φ r H K=some x){fr:tC}
  (hK:∀v H' c',kH fr v=some c'->K v H'=some x->Fin C E ds (.next ⟨c',acs,H'⟩) x) (hfin:∀v,∃c',kH fr v=some c'):Fin C E ds (Hb r C fr acs H) x:=by
 cases r<;>simp only[lG]at h<;>try (cases h;done)
 case val v H'=>
  have h2:K v H'=some x:=h;obtain⟨c',hc⟩:=hfin v;show Fin C E ds (Bu v H' C fr acs H) x;unfold Bu;rw[hc];exact hK _ _ _ hc h2
 case enter g args=>
  rw[mA]at h;obtain⟨p,h1,h4⟩:=h;obtain⟨c',hc⟩:=hfin p.1;show Fin C E ds (Ji g args C fr acs H) x;unfold Ji;obtain⟨ge,he,r0⟩:=hφ.fn _ _ _ _ h1;obtain⟨fr',r1,r2⟩:=r0 (fr::acs);rw[he];refine Fin.of (r1.trans (.step ?_)) (hK _ _ _ hc h4);rw[JH r2 hc];exact .refl _
 case round l args=>
  rw[mA]at h;obtain⟨p,h1,h4⟩:=h;obtain⟨c',hc⟩:=hfin p.1;obtain⟨r,tm,e1,e2,r0⟩:=hφ.rd _ _ _ _ h1;show Fin C E ds (Jh l args C fr acs H) x;unfold Jh;rw[e1,pA,e2,pA];exact Fin.of (r0 _ _ _ hc) (hK _ _ _ hc h4)
theorem TS(hφ:wW C φ)(hR:R.mode.running=true)(hN:R.n=N){κn:Tm->wA->iB}(hκ:∀tm H,κn tm H=some x->Fin C E ds (.next ⟨⟨k,tm,R⟩,acs,H⟩) x) :
  ∀(l:List Oper) (tm:Tm) (H:wA),pN C φ all N κn l tm H=some x->Fin C E ds (yT C all k R acs l tm H) x:=by
 intro l;induction l with
 | nil=>exact fun tm H h=>hκ tm H h
 | cons o l ih=>
  intro tm H h;rw[Bz,mA]at h;obtain⟨w,h1,h⟩:=h;rw[Uu,h1]
  cases w with
  | false=>simp_all
  | true=>
   rw[yab rfl]at h;simp only[];generalize (sG o.op).f C (.now tm) H=r at h
   cases hv:r.asVal with
   | some p=>
    have:r=.val p.1 p.2:=by cases r<;>simp[nK.asVal]at hv;rw[<- hv]
    grind [lG,jP]
   | none=>
    refine DR hφ h (fun v H' c' hc hK=>?_) fun v=>⟨⟨.ops all l::k,putA R.n tm o.dst v,R⟩,by unfold kH;simp only[hR,cond_true];rfl⟩;unfold kH at hc;simp only[hR,cond_true]at hc;have hc:some (⟨.ops all l::k,putA R.n tm o.dst v,R⟩:tC)=some c':=hc;cases hc;refine .step ?_;rw[iK hR,hN];rw[jP]at hK;exact ih _ _ hK.2
theorem Pf{H:wA}{old:Tm}{olds:List (Nat × List Nat)}{K:Tm->iB}:∀(l:List Nat) (tm:Tm),gH C H all N old olds K l tm=some x->∃tm',iP C H all N old olds l tm=some tm'/\K tm'=some x:=by
 intro l;induction l with
 | nil=>exact fun tm h=>⟨tm,rfl,h⟩
 | cons i l ih=>
  intro tm h;rw[Ph,mA]at h;obtain⟨o,h1,h⟩:=h;rw[mA]at h;grind [iP,pA,mA,jP]
def JQ{C:dA}{o:Op}{e:aC}{H:wA}{r:nK}(hf:rK o=true)(h:(sG o).f C e H=r)(h1:∀q,r≠mL q):False:=by
 have key:∀q:Option (zA × wA),mL q=r->False:=fun q e=>h1 q e.symm;cases o<;>simp only[rK]at hf<;>first
  | (cases hf;done)
  | exact key _ h
theorem QJ(hφ:wW C φ)(hR:R.mode.running=true)(hN:R.n=N){κn:Tm->wA->iB}(hκ:∀tm H,κn tm H=some x->Fin C E ds (.next ⟨⟨k,tm,R⟩,acs,H⟩) x){old:Tm}{olds:List (Nat × List Nat)} :
  ∀(l:List xF) (tm:Tm) (H:wA),eI C φ all N old olds κn l tm H=some x->Fin C E ds (.next ⟨⟨.reg all old olds l::k,tm,R⟩,acs,H⟩) x:=by
 intro l;induction l with
 | nil=>
  intro tm H h;refine .step ?_;rw[iK hR];exact hκ tm H h
 | cons st l ih=>
  intro tm H h
  cases hg:pS all st with
  | true=>
   rw[Ip hg,Qe]at h;obtain⟨h0,es,H',h1,h2,h3⟩:=h;obtain⟨tm',hl1,hl2⟩:=Pf _ _ h3;refine .step ?_;rw[iK hR];show Fin C E ds (oQ all old olds (st::l) C k tm R acs H) x;unfold oQ;have hg0:=pC.1 hg;rw[pD]at hg0;have hnone:xD all.toList st.heavy=none:=by
    grind [dG]
   simp only[hnone];rw[rD,yab (pC.2 (by rw[pD];omega)),rD,yab (show Nat.blt (oB all.toList+oB all.toList) st.heavy=true from hg)];unfold Ly;rw[h0,show ∀(x:Option pQ),pB true x=x from fun _=>rfl,h1,pA,h2,pA,hN,hl1,pA];exact ih _ _ hl2
  | false=>
  rw[Eg hg,mA]at h;obtain⟨o,h1,h⟩:=h;rw[mA]at h;obtain⟨w,h2',h⟩:=h;have hgn:Nat.blt (oB all.toList+oB all.toList) st.heavy=false:=hg;by_cases hfl:Nat.blt (oB all.toList) st.heavy=true
  ·-- an operation that is done early
   unfold cS at h2';unfold jL at h1 h;rw[hfl]at h1 h2' h;simp only[cond_true,mA,jB,ybb]at h1 h2';obtain⟨w',h2,⟨⟨hw,hfo⟩,hlo⟩,h2'⟩:=h2';cases h2';subst hw;simp only[if_true,cond_true]at h;have hval:∃v H',(sG o.op).f C (.mixed tm old (vF (Nat.sub st.heavy (Nat.succ (oB all.toList))) olds) (pH o.op)) H=.val v H':=by
    cases hr:(sG o.op).f C (.mixed tm old (vF (Nat.sub st.heavy (Nat.succ (oB all.toList))) olds) (pH o.op)) H with
    | val v H'=>simp_all
    | enter g args=>exact(JQ hfo hr fun q=>by cases q<;>simp[mL]).elim
    | round g args=>exact(JQ hfo hr fun q=>by cases q<;>simp[mL]).elim
    | _=>rw[hr]at h;cases h
   obtain⟨v,H',hv⟩:=hval;rw[hv]at h;have h:(fK C o.type v fun v=>rL C H' all old olds (putA N tm o.dst v) (gH C H' all N old olds (fun tm=>eI C φ all N old olds κn l tm H') st.lights (putA N tm o.dst v)) st.again)=some x:=h;rw[jP]at h;obtain⟨ha,hl⟩:=Ln _ h.2;obtain⟨tm',hl1,hl2⟩:=Pf _ _ hl;refine .step ?_;rw[iK hR];show Fin C E ds (oQ all old olds (st::l) C k tm R acs H) x
   unfold oQ;have hnone:xD all.toList st.heavy=none:=by
    grind [dG,pC,pD]
   simp only[hnone];rw[hfl,cond_true,hgn,cond_false];unfold Lz;rw[h1,pA,h2,pA,hv,hlo];show Fin C E ds (eK (ob (iP C H' all R.n old olds st.lights (putA R.n tm o.dst v)) fun tm'=>some ⟨⟨.reg all old olds l::k,tm',R⟩,acs,H'⟩) 23) x;rw[hN,hl1,pA];exact ih _ _ hl2
  have hfl:Nat.blt (oB all.toList) st.heavy=false:=Bool.eq_false_iff.2 hfl;unfold cS at h2';unfold jL at h1 h;rw[hfl]at h1 h2' h;simp only[cond_false,mA]at h1 h2';obtain⟨w',h2,h2'⟩:=h2';cases h2';simp only[cond_false]at h;have back0:∀v H' c',kH (⟨.reg all old olds (st::l)::k,tm,R⟩:tC) v=some c' →
    rL C H' all old olds (putA N tm o.dst v) (gH C H' all N old olds (fun tm=>eI C φ all N old olds κn l tm H') st.lights (putA N tm o.dst v)) st.again=some x->Fin C E ds (.next ⟨c',acs,H'⟩) x:=by
   intro v H' c' hc hK;unfold kH at hc;simp only[hR,cond_true]at hc;have hc:(ob (xD all.toList st.heavy) fun o=>some (⟨.reg all old olds (⟨all.size,st.lights,st.again⟩::l)::k,putA R.n tm o.dst v,R⟩:tC))=some c':=hc;rw[h1,pA]at hc;cases hc;refine .step ?_;rw[iK hR,hN];obtain⟨ha,hl⟩:=Ln _ hK;obtain⟨tm',hl1,hl2⟩:=Pf _ _ hl;show Fin C E ds (oQ all old olds (⟨all.size,st.lights,st.again⟩::l) C k (putA N tm o.dst v) R acs H') x
   unfold oQ;have:xD all.toList all.size=none:=by rw[dG];simp
   simp only[this];rw[rD,yaa fun e=>by grind [pC,pD]];show Fin C E ds (Hm all old olds ⟨all.size,st.lights,st.again⟩ l C k (putA N tm o.dst v) R acs H') x;unfold Hm;simp only[ha,hN,hl1,pA];exact ih _ _ hl2
  have back:∀v H' c',kH (⟨.reg all old olds (st::l)::k,tm,R⟩:tC) v=some c' →
    (fK C o.type v fun v=>rL C H' all old olds (putA N tm o.dst v) (gH C H' all N old olds (fun tm=>eI C φ all N old olds κn l tm H') st.lights (putA N tm o.dst v)) st.again)=some x->Fin C E ds (.next ⟨c',acs,H'⟩) x:=by
   grind [jP]
  refine .step ?_;rw[iK hR];show Fin C E ds (oQ all old olds (st::l) C k tm R acs H) x;unfold oQ;simp only[h1];unfold Lx;rw[h2];simp only[];have hfin:∀v,∃c',kH (⟨.reg all old olds (st::l)::k,tm,R⟩:tC) v=some c':=fun v=>⟨⟨.reg all old olds (⟨all.size,st.lights,st.again⟩::l)::k,putA R.n tm o.dst v,R⟩,by
   unfold kH;simp only[hR,cond_true];show(ob (xD all.toList st.heavy) fun o=>some (⟨.reg all old olds (⟨all.size,st.lights,st.again⟩::l)::k,putA R.n tm o.dst v,R⟩:tC))=_;rw[h1];rfl⟩
  cases w with
  | true=>
   simp only[if_true]at h;exact DR hφ h back hfin
  | false=>
   simp only[ybq,if_false]at h;obtain⟨c',hc⟩:=hfin xE;show Fin C E ds (Bu xE H C _ acs H) x;unfold Bu;rw[hc];exact back0 _ _ _ hc h
theorem zcj{live:List Nat}{tm:Tm}{i:Nat}{v:zA}(h:(keep live tm).get i=some v):tm.get i=some v:=by
 unfold keep Tm.get at h;simp only[iJ]at h;split at h
 case isFalse=>cases h
 rename_i hk;have key:∀live:List Nat,(Fr tm live).get i=some v->tm.get i=some v:=by
  intro live;induction live with
  | nil=>grind [Fr,Tr.get_leaf]
  | cons j live ih=>
   grind [Fr,Tr.get_set]
 grind
def KG{todo:List tE}(hr:Pt todo=false){live:List Nat}{tm:Tm}{H:wA}(h:Fin C E ds (.next ⟨⟨todo,keep live tm,R⟩,acs,H⟩) x):Fin C E ds (.next ⟨⟨todo,tm,R⟩,acs,H⟩) x:=
 Fin.of (.forget hr (fun _ _=>zcj) (.refl _)) h
def Yf(hE:Hh C E G f N ro acs){t1 t2:List tE}(h1:Pt t1=false)(hs:∀tm H,cP C t1 tm (RR f N ro ds) acs H=cP C t2 tm (RR f N ro ds) acs H){tm:Tm}{H:wA}(h:Fin C E ds (.next ⟨⟨t2,tm,RR f N ro ds⟩,acs,H⟩) x):Fin C E ds (.next ⟨⟨t1,tm,RR f N ro ds⟩,acs,H⟩) x:=by
 obtain⟨o',hr,hv⟩:=h;refine⟨o',?_,hv⟩;generalize ho:(.next ⟨⟨t2,tm,RR f N ro ds⟩,acs,H⟩:aE)=o at hr
 induction hr generalizing tm with
 | refl=>
  subst ho;exact(hE.not _ _ _ _ _ hv).elim
 | step h ih=>
  subst ho;refine .step ?_;rw[iK rfl,hs,<- iK rfl];exact h
 | forget hr2 hs2 h ih=>
  cases ho;exact .forget h1 hs2 (ih hv rfl)
theorem VG{i:Nat}{t1 t2:List tE}{tm:Tm}{H:wA}:yR (some (.exit i)) C ⟨t1,tm,R⟩ acs H=yR (some (.exit i)) C ⟨t2,tm,R⟩ acs H:=by
 obtain⟨a,b,c,d,e,ro⟩:=R;unfold yR;cases ro<;>rfl
theorem Yi(hE:Hh C E G f N ro acs){i:Nat}{y:tE}(hy:∀j,y.blockId=some j->Nat.beq j i=false){tm:Tm}{H:wA}(h:Fin C E ds (.next ⟨⟨.code (.exit i)::k,tm,RR f N ro ds⟩,acs,H⟩) x):Fin C E ds (.next ⟨⟨.code (.exit i)::y::k,tm,RR f N ro ds⟩,acs,H⟩) x:=by
 refine Yf hE rfl (fun tm H=>?_) h;show jY i C (y::k) tm (RR f N ro ds) acs H=jY i C k tm (RR f N ro ds) acs H
 grind [pR,jY,VG]
theorem SR(hφ:wW C φ)(hE:Hh C E G f N none acs){κ:Kt}(hκ:Rq C E G f N none acs κ k){fo:Operand}{ps:Array Nat}{a b:Code}{tm:Tm}{H:wA}(h:nP C φ f N κ fo ps.toList a b tm H=some x):Fin C E ds (.next ⟨⟨.code (.rangeFunc fo ps a b)::k,tm,RR f N none ds⟩,acs,H⟩) x:=by
 unfold nP at h;rw[mA]at h;obtain⟨v,h1,h⟩:=h;rw[mA]at h;obtain⟨⟨qf,q1,q2⟩,h2,h⟩:=h
 cases qf with
 | yld l=>cases h
 | func g=>
  simp only[jB,mA]at h;obtain⟨h3,y,h4,r,h5,h6,z,h7,d,h8,h9,h10⟩:=h;have hp:C.prims.get g=none:=by
   cases hx:C.prims.get g with
   | none=>rfl
   | some u=>rw[hx]at h3;cases h3
  obtain⟨ge,he,r0⟩:=hφ.fn _ _ _ _ h4;obtain⟨fr',r1,r2⟩:=r0 (⟨.inRange (H.next+1)::k,tm,RR f N none (⟨none,H.next,[]⟩::ds)⟩::acs);refine .step ?_;rw[iK rfl];show Fin C E ds (Hl fo ps a b C k tm (RR f N none ds) acs H) x;have hin:eW C (H.next+1) v=some ge:=by
   grind [eW,pA]
  unfold Hl;rw[h1,pA];simp only[hin,pA];refine Fin.of (r1.trans (.step ?_)) (?_:Fin C E ds (.next ⟨⟨.endRange (H.next+1)::k,tm,RR f N none (⟨none,H.next,[]⟩::ds)⟩,acs,y.2⟩) x)
  ·rw[JH r2 (c':=⟨.endRange (H.next+1)::k,tm,RR f N none (⟨none,H.next,[]⟩::ds)⟩) rfl];exact .refl _
  refine .step ?_;rw[iK rfl];show Fin C E ds (Ho (H.next+1) C k tm (RR f N none (⟨none,H.next,[]⟩::ds)) acs y.2) x;unfold Ho;rw[h5,pA,h6];have key:Fin C E (⟨none,H.next,[]⟩::ds) (.next ⟨⟨(match r.pending with | some c=>.code c::k | none=>k),tm,RR f N none (⟨none,H.next,[]⟩::ds)⟩,acs,endLoop y.2 (H.next+1) r⟩) z:=by
   unfold nY at h7;split at h7
   ·rename_i e;rw[e];exact hκ.norm _ _ _ _ (hE.all rfl _) h7
   ·rename_i e;rw[e];exact hκ.ret _ _ _ _ (hE.all rfl _) h7 k
   grind
  obtain⟨o',k1,k2⟩:=key;have hd:gV z.2 H.next=some (some []):=by
   rw[h8]
   cases d with
   | none=>cases h9
   | some l=>cases l with | nil=>rfl | cons _ _=>cases h9
  obtain⟨o'',k3,k4⟩:=hE.pop rfl _ _ _ _ k2 hd;cases h10;exact⟨o'',k1.trans k3,k4⟩
theorem Nr{α:Type}{a b:List α}(h:bD a b=[]):a=[]/\b=[]:=by grind [wH,List.append_eq_nil_iff]
theorem LH(hφ:wW C φ)(hE:Hh C E G f N ro acs):∀(c:cD) (κ:Kt) (k:List tE),(ro=none\/vT c=[])->Rq C E G f N ro acs κ k->∀ds x tm H,G x->aD C φ f N c κ tm H=some x->Fin C E ds (.next ⟨⟨.code (xG c)::k,tm,RR f N ro ds⟩,acs,H⟩) x:=by
 intro c;induction c with
 | skip=>
  intro κ k _ hκ ds x tm H hG h;refine .step ?_;rw[iK rfl];exact hκ.norm _ _ _ _ hG h
 | region id ops d=>
  intro κ k _ hκ ds x tm H hG h;refine .step ?_;rw[iK rfl]
  cases d with
  | false=>exact TS hφ rfl rfl (fun tm H h=>hκ.norm _ _ _ _ hG h) _ _ _ h
  | true=>
   have h:(ob (ob (C.plans.get f) fun t=>t.get id) fun p=>pB (vS ops p) (gH C H ops N tm.cut p.olds (fun tm'=>eI C φ ops N tm.cut p.olds κ.norm p.stages tm' H) p.first tm.cut))=some x:=h;rw[mA]at h;obtain⟨p,h1,h⟩:=h;rw[jB]at h;obtain⟨tm',hl1,hl2⟩:=Pf _ _ h.2;show Fin C E ds (Hp id ops C k tm (RR f N ro ds) acs H) x;unfold Hp;rw[h1,pA,h.1,hl1];exact QJ hφ rfl rfl (fun tm H h=>hκ.norm _ _ _ _ hG h) _ _ _ hl2
 | seq a b iha ihb=>
  intro κ k hn hκ ds x tm H hG h;have hna:ro=none\/vT a=[]:=hn.imp id fun e=>(Nr e).1;have hnb:ro=none\/vT b=[]:=hn.imp id fun e=>(Nr e).2;refine Yf hE (t1:=.code (xG (.seq a b))::k) rfl (t2:=.code (xG a)::.code (xG b)::k) (fun _ _=>rfl) ?_;exact iha ⟨aD C φ f N b κ,κ.exit,κ.ret⟩ _ hna ⟨fun ds x tm H hG h=>ihb _ _ hnb hκ ds x tm H hG h,fun ds x i tm H hG h=>Yi hE (fun _ e=>by cases e) (hκ.exit _ _ _ _ _ hG h),hκ.ret⟩ ds x tm H hG h
 | cond c a b iha ihb=>
  intro κ k hn hκ ds x tm H hG h;have hna:ro=none\/vT a=[]:=hn.imp id fun e=>(Nr e).1;have hnb:ro=none\/vT b=[]:=hn.imp id fun e=>(Nr e).2;have h:(ob (ob (ev c (.now tm)) zA.asBool) fun t=>Bool.rec (motive:=fun _=>iB) (aD C φ f N b κ tm H) (aD C φ f N a κ tm H) t)=some x:=h;rw[mA]at h;obtain⟨t,h1,h⟩:=h;refine .step ?_;rw[iK rfl];show Fin C E ds (Hq c (xG a) (xG b) C k tm (RR f N ro ds) acs H) x
  unfold Hq;rw[h1]
  cases t with
  | true=>exact iha _ _ hna hκ _ _ _ _ hG h
  | false=>exact ihb _ _ hnb hκ _ _ _ _ hG h
 | block id c ih=>
  intro κ k hn hκ ds x tm H hG h;refine .step ?_;rw[iK rfl];have nx:∀ds x tm H,G x->κ.norm tm H=some x->Fin C E ds (.next ⟨⟨.inBlock id::k,tm,RR f N ro ds⟩,acs,H⟩) x:=by
   intro ds x tm H hG h;refine .step ?_;rw[iK rfl];exact hκ.norm _ _ _ _ hG h
  refine ih ⟨κ.norm,fun i tm H=>Bool.rec (motive:=fun _=>iB) (κ.exit i tm H) (κ.norm tm H) (Nat.beq id i),κ.ret⟩ _ hn ⟨nx,fun ds x i tm H hG h=>?_,hκ.ret⟩ ds x tm H hG h;dsimp only at h
  cases hb:Nat.beq id i with
  | true=>
   rw[hb]at h;refine .step ?_;rw[iK rfl];show Fin C E ds (jY i C (.inBlock id::k) tm (RR f N ro ds) acs H) x;have e:pR i (.inBlock id::k)=some k:=by
    show(bif Nat.beq id i then some k else pR i k)=_
    grind
   unfold jY;rw[e];exact hκ.norm _ _ _ _ hG h
  | false=>
   rw[hb]at h;exact Yi hE (fun j e=>by cases e;exact hb) (hκ.exit _ _ _ _ _ hG h)
 | loop live c ih=>
  intro κ k hn hκ ds x tm H hG h;obtain⟨m,hm⟩:=Wk h;have it:∀(m:Nat) ds x tm H,G x->(Nat.rec (motive:=fun _=>Tm->wA->iB) (fun _ _=>none) (fun _ r tm H=>aD C φ f N c ⟨r,κ.exit,κ.ret⟩ (keep live.kept tm) H) m:Tm->wA->iB) tm H=some x->Fin C E ds (.next ⟨⟨.inLoop (xG c)::k,tm,RR f N ro ds⟩,acs,H⟩) x:=by
   intro m;induction m with
   | zero=>simp_all
   | succ m ihm=>
    intro ds x tm H hG h;refine KG (live:=live.kept) rfl (.step ?_);rw[iK rfl];exact ih ⟨_,κ.exit,κ.ret⟩ _ hn ⟨ihm,fun ds x i tm H hG h=>Yi hE (fun _ e=>by cases e) (hκ.exit _ _ _ _ _ hG h),hκ.ret⟩ _ _ _ _ hG h
  exact Yf hE (t1:=.code (xG (.loop live c))::k) rfl (t2:=.inLoop (xG c)::k) (fun _ _=>rfl) (it m _ _ tm H hG hm)
 | exit id=>exact fun κ k _ hκ ds x tm H hG h=>hκ.exit _ _ _ _ _ hG h
 | ret=>exact fun κ k _ hκ ds x tm H hG h=>hκ.ret _ _ _ _ hG h k
 | cut live c ih=>exact fun κ k hn hκ ds x tm H hG h=>KG rfl (ih κ k hn hκ _ _ _ _ hG h)
 | range i pl fo ps id ops c ih=>
  intro κ k hn hκ ds x tm H hG h;rcases hn with rfl | e
  ·exact SR hφ hE hκ h
  ·cases e
end
end
section
def Gi (C:dA)(fn:Func)(tm:Tm)(H:wA):iB:=ob (gW C H tm fn.results.toList) fun l=>some (Bk l,H)
def fU (C:dA)(fn:Func):Kt:=⟨Gi C fn,fun _ _ _=>none,Gi C fn⟩
def Jj(ops:List Oper):Bool:=eE (fun o=>match o.op with | .move _=>oH o.guard | .assign _=>oH o.guard | _=>false) ops
def Jm(c:cD):Option Df:=match vT c with | [q]=>some q | _=>none
def rdOk (r:bO)(q:Df):Prop:=r.assign=.region q.id q.ops false/\r.body=xG q.c/\r.params=q.ps.toList/\LoopState.tag r.state=0/\Jj q.ops.toList=true/\vT q.c=[]
def Cz(r:bO):bO:=⟨.busy,r.pending,r.fn,r.n,r.tm,r.params,r.assign,r.body,r.defers⟩
def qX(b:Bool)(r:bO):bO:=⟨if b then .ready else .done,if b then none else some .ret,r.fn,r.n,r.tm,r.params,r.assign,r.body,r.defers⟩
def rdK:Kt:=⟨fun _ H=>some (.bool true,H),fun _ _ _=>none,fun _ H=>some (.bool false,H)⟩
def Rg(C:dA)(φ:nH)(fn n:Nat)(q:Df)(tm:Tm)(H:wA):iB:=aD C φ fn n (.seq (.region q.id q.ops false) q.c) rdK tm H
def Br(C:dA)(A:Tr cD)(φ:nH)(l:Nat)(args:List zA)(H:wA):iB:=
 ob (aJ H l) fun r=>ob (jW r.n r.params args r.tm) fun tm=>ob (A.get r.fn) fun c=>ob (Jm c) fun q=>@ite _ (rdOk r q) (Classical.propDecidable _)
  (ob (Rg C φ r.fn r.n q tm (setBlk H l (.loop (Cz r)))) fun x=>ob (aJ x.2 l) fun r2=>ob x.1.asBool fun b=>some (.bool b,setBlk x.2 l (.loop (qX b r2)))) none
def nS (C:dA)(A:Tr cD)(φ:nH)(f:Nat)(args:List zA)(H:wA):iB:=
 ob (A.get f) fun c=>ob (C.fns.get f) fun fn=>ob (gL C f args false) fun g=>aD C φ f fn.ntmps c (fU C fn) g.tm H
def Bn(C:dA)(A:Tr cD)(φ:nH):nH
 | .func f=>nS C A φ f
 | .yld l=>Br C A φ l
def wZ (C:dA)(A:Tr cD):Nat->nH
 | 0=>fun _ _ _=>none
 | n+1=>Bn C A (wZ C A n)
def oD (C:dA)(A:Tr cD):nH:=fun f args H=>lim fun n=>wZ C A n f args H
section
variable {C:dA}{A:Tr cD}
theorem Er{φ:nH}{l:Nat}{args:List zA}{H:wA}{x:zA × wA}:Br C A φ l args H=some x ↔ ∃r tm c q y r2 b,aJ H l=some r/\jW r.n r.params args r.tm=some tm/\A.get r.fn=some c/\Jm c=some q/\rdOk r q/\Rg C φ r.fn r.n q tm (setBlk H l (.loop (Cz r)))=some y/\aJ y.2 l=some r2/\y.1=.bool b/\x=(.bool b,setBlk y.2 l (.loop (qX b r2))):=by
 unfold Br;grind [mA,Af]
def BW{φ φ':nH}(h:uQ φ φ'):uQ (Bn C A φ) (Bn C A φ'):=by
 intro f args H x hx
 cases f with
 | yld l=>
  have hx:Br C A φ l args H=some x:=hx;obtain⟨r,tm,c,q,y,r2,b,h1,h2,h3,h4,hq,h5,h6,h7,h8⟩:=Er.1 hx;exact Er.2 ⟨r,tm,c,q,y,r2,b,h1,h2,h3,h4,hq,Cw h _ _ _ (dN.refl _) _ _ _ h5,h6,h7,h8⟩
 | func f=>
 have hx:nS C A φ f args H=some x:=hx;show nS C A φ' f args H=some x;unfold nS at hx ⊢;rw[mA]at hx ⊢;obtain⟨c,h1,hx⟩:=hx;refine⟨c,h1,?_⟩;rw[mA]at hx ⊢;obtain⟨fn,h2,hx⟩:=hx;refine⟨fn,h2,?_⟩;rw[mA]at hx ⊢;obtain⟨g,h3,hx⟩:=hx;exact⟨g,h3,Cw h c _ _ (dN.refl _) _ _ _ hx⟩
def FN:∀n,uQ (wZ C A n) (wZ C A (n+1)):=by
 intro n;induction n with
 | zero=>intro f args H x h;cases h
 | succ n ih=>exact BW ih
def Cp{f:AFn}{args:List zA}{H:wA}{x:zA × wA}:oD C A f args H=some x ↔ ∃n,wZ C A n f args H=some x:=
 Pe fun n _ hy=>FN n _ _ _ _ hy
def JP:mY (wZ C A) (oD C A):=⟨FN,fun _ _ _ _ h=>Cp.1 h⟩
theorem zfl(f:AFn)(args:List zA)(H:wA):oD C A f args H=Bn C A (oD C A) f args H:=by
 have key:∀x,oD C A f args H=some x ↔ Bn C A (oD C A) f args H=some x:=by
  intro x;constructor
  ·intro h;obtain⟨n,hn⟩:=Cp.1 h
   cases n with
   | zero=>cases hn
   | succ n=>exact BW (fun f a H y hy=>Cp.2 ⟨n,hy⟩) _ _ _ _ hn
  ·intro h
   cases f with
   | yld l=>
    have h:Br C A (oD C A) l args H=some x:=h;obtain⟨r,tm,c,q,y,r2,b,h1,h2,h3,h4,hq,h5,h6,h7,h8⟩:=Er.1 h;have sup:De (fun _=>rdK) rdK:=⟨⟨fun _ _ _ _ h=>h,fun _ _ _ h=>⟨0,h⟩⟩,fun i=>⟨fun _ _ _ _ h=>h,fun _ _ _ h=>⟨0,h⟩⟩,⟨fun _ _ _ _ h=>h,fun _ _ _ h=>⟨0,h⟩⟩⟩;obtain⟨n,hn⟩:=(Yr JP _ _ _ sup).ex _ _ _ h5;exact Cp.2 ⟨n+1,Er.2 ⟨r,tm,c,q,y,r2,b,h1,h2,h3,h4,hq,hn,h6,h7,h8⟩⟩
   | func f=>
   have h:nS C A (oD C A) f args H=some x:=h;unfold nS at h;rw[mA]at h;obtain⟨c,h1,h⟩:=h;rw[mA]at h;obtain⟨fn,h2,h⟩:=h;rw[mA]at h;obtain⟨g,h3,h⟩:=h;have sup:De (fun _=>fU C fn) (fU C fn):=⟨⟨fun _ _ _ _ h=>h,fun _ _ _ h=>⟨0,h⟩⟩,fun i=>⟨fun _ _ _ _ h=>h,fun _ _ _ h=>⟨0,h⟩⟩,⟨fun _ _ _ _ h=>h,fun _ _ _ h=>⟨0,h⟩⟩⟩;obtain⟨n,hn⟩:=(Yr JP c _ _ sup).ex _ _ _ h;refine Cp.2 ⟨n+1,?_⟩
   show nS C A (wZ C A n) f args H=some x
   grind [nS,pA]
 cases h:oD C A f args H with
 | some x=>grind
 | none=>
  cases h2:Bn C A (oD C A) f args H with
  | none=>rfl
  | some x=>simp_all
def Dh(C:dA)(A:Tr cD):Prop:=∀f c,A.get f=some c->∃fn,C.fns.get f=some fn/\fn.body=some (xG c)
theorem XM{f:Nat}{args:List zA}{g:tC}(h:gL C f args false=some g):∃fn c,C.fns.get f=some fn/\fn.body=some c/\g.todo=[.code c]/\g.R=⟨f,fn.ntmps,[],.run,false,none⟩:=by
 grind [gL,mA,jB]
theorem Pa{α β:Type}{f g:α->Option β}:∀(l:List α) {r:List β},(∀a b,f a=some b->g a=some b)->fG f l=some r->fG g l=some r:=by
 intro l;induction l with
 | nil=>intro r _ h;exact h
 | cons a l ih=>
  grind [dM,mA]
def zjg(C:dA)(f:Nat)(acs:List tC):As:=fun ds o x=>∃fr',o=.next ⟨fr',acs,x.2⟩/\Zm C f ds fr' x.2 x.1
def RZ{H:wA}{tm:Tm}{r:Nat}{d e:Option (List mJ)}(hr:H.t.get r=some (.deferred d)):∀(l:List ResultVar) vs,gW C H tm l=some vs->gW C (setBlk H r (.deferred e)) tm l=some vs:=by
 intro l vs h;refine Pa l (fun rv v h=>?_) h
 cases rv with
 | tmp t=>exact h
 | cell a t=>
  have h:(ob (ob (tm.get a) zA.asPtr) fun p=>ob (C.tys.get t) fun ty=>ob (mD H p.1) fun c=>zR ty c.1 p.2)=some v:=h;show(ob (ob (tm.get a) zA.asPtr) fun p=>ob (C.tys.get t) fun ty=>ob (mD (setBlk H r (.deferred e)) p.1) fun c=>zR ty c.1 p.2)=some v;simp only[mA]at h ⊢;obtain⟨p,hp,ty,ht,c,hc,hv⟩:=h;refine⟨p,hp,ty,ht,c,?_,hv⟩;unfold mD at hc ⊢;rw[mA]at hc ⊢;obtain⟨y,h1,h2⟩:=hc
  refine⟨y,?_,h2⟩;show(H.t.set r (.deferred e)).get p.1=some y;rw[Tr.get_set,yaa fun e=>by rw[e,hr]at h1;cases h1;cases h2];exact h1
def zct{f N:Nat}{acs:List tC}:Hh C (zjg C f acs) (fun _=>True) f N none acs:=by
 refine⟨?_,fun _ _=>trivial,?_⟩
 ·rintro ds todo tm H x ⟨fr',h1,h2⟩;cases h1;have:=h2.1;cases this
 ·rintro _ r ds o x ⟨fr',rfl,h1,h2,h3,h4,fn,l,h5,h6,h7⟩ hd;obtain⟨todo,tm,ffn,n,defers,mode,deferred,round⟩:=fr';simp only at h1 h2 h3 h4 h6;subst h1 h2 h3 h4;have hr:x.2.t.get r=some (.deferred (some [])):=by
   unfold gV at hd;rw[jB,mA]at hd;obtain⟨_,y,e1,e2⟩:=hd;cases y<;>cases e2;exact e1
  refine⟨_,.step ?_,⟨⟨todo,tm,⟨ffn,n,ds,.returning,false,round⟩⟩,rfl,rfl,rfl,rfl,rfl,fn,l,h5,RZ hr _ _ h6,h7⟩⟩;show dL C (Ie C ⟨none,r,[]⟩ ds ⟨todo,tm,⟨ffn,n,⟨none,r,[]⟩::ds,.returning,false,round⟩⟩ acs x.2) _;unfold Ie;simp only[hd,pA];exact .refl _
def KW{f:Nat}{fn:Func}{acs:List tC}{x:zA × wA}{ds:List mJ}(hf:C.fns.get f=some fn){tm:Tm}{H:wA}(h:Gi C fn tm H=some x){todo:List tE}{N:Nat}
  (hs:cP C todo tm (RR f N none ds) acs H=.next ⟨Iv ⟨todo,tm,RR f N none ds⟩ .returning,acs,H⟩):Fin C (zjg C f acs) ds (.next ⟨⟨todo,tm,RR f N none ds⟩,acs,H⟩) x:=by
 unfold Gi at h;rw[mA]at h;obtain⟨l,h1,h2⟩:=h;cases h2;refine .step ?_;rw[iK rfl,hs];exact⟨_,.refl _,_,rfl,rfl,rfl,rfl,rfl,fn,l,hf,h1,rfl⟩
def RdG (l:Nat)(c:tC):zA × wA->Prop:=fun x=>∃b r2 c',x.1=.bool b/\aJ x.2 l=some r2/\kH c (.bool b)=some c'
def RdEnd(l:Nat)(c:tC)(acs:List tC):As:=fun _ o x=>∃b r2 c',x.1=.bool b/\aJ x.2 l=some r2/\kH c (.bool b)=some c'/\o=.next ⟨c',acs,setBlk x.2 l (.loop (qX b r2))⟩
theorem len_ne{α:Type}{a:α}{l:List α}:l≠a::l:=fun e=>by simp_all
theorem ZK{C:dA}{φ:nH}{all:Array Oper}{n:Nat}{κn:Tm->wA->iB}:∀(l:List Oper) (tm:Tm) (H1:wA) (x:zA × wA),Jj l=true->pN C φ all n κn l tm H1=some x->∃tm',κn tm' H1=some x/\∀(k:List tE) (R:fJ) (cs:List tC) (H:wA),R.n=n->yT C all k R cs l tm H=xGo k tm' R cs H:=by
 intro l;induction l with
 | nil=>intro tm H1 x _ h;exact⟨tm,h,fun _ _ _ _ _=>rfl⟩
 | cons o l ih=>
  intro tm H1 x hp h;have hp:(bif (match o.op with | .move _=>oH o.guard | .assign _=>oH o.guard | _=>false)then Jj l else false)=true:=hp
  have hp1:(match o.op with | .move _=>oH o.guard | .assign _=>oH o.guard | _=>false)=true:=by
   simp_all
  rw[hp1]at hp;have hp:Jj l=true:=hp;have hmv:∃u,(∀H,(sG o.op).f C (.now tm) H=lv (rV u) C (.now tm) H)/\oH o.guard=true:=by
   cases ho:o.op<;>rw[ho]at hp1<;>first
    | (cases hp1;done)
    | exact⟨_,fun _=>rfl,hp1⟩
  obtain⟨u,hu,hg⟩:=hmv;have hw:gF o.guard all tm=some true:=by
   cases hx:o.guard with
   | none=>rfl
   | some g=>rw[hx]at hg;cases hg
  rw[Bz,hw,pA,yab rfl,hu]at h
  cases hv:ev u (.now tm)with
  | none=>
   have:lv (rV u) C (.now tm) H1=.fail:=by unfold lv rV;rw[hv]
   rw[this]at h;cases h
  | some v=>
   simp_all [lv,rV,lG,jP,Uu,nK.asVal]
theorem RQ{φ:nH}(hφ:wW C φ){l:Nat}{args:List zA}{H:wA}{x:zA × wA}(h:Br C A φ l args H=some x) :
  ∃r tm,aJ H l=some r/\jW r.n r.params args r.tm=some tm/\∀c acs c',kH c x.1=some c'->dL C (.next ⟨Uz r l tm,c::acs,H⟩) (.next ⟨c',acs,x.2⟩):=by
 obtain⟨r,tm,cc,q,y,r2,b,h1,h2,h3,h4,⟨q1,q2,q3,q4,q5,q6⟩,h5,h6,h7,rfl⟩:=Er.1 h;refine⟨r,tm,h1,h2,fun c acs c' hc=>?_⟩;have h5:pN C φ q.ops r.n (aD C φ r.fn r.n q.c rdK) q.ops.toList tm.cut (setBlk H l (.loop (Cz r)))=some y:=h5;obtain⟨tm',h8,h9⟩:=ZK _ _ _ _ q5 h5;unfold Uz;rw[q1,q2];refine .step ?_;rw[iK rfl];show dL C (yT C q.ops _ _ _ q.ops.toList tm.cut H) _
 rw[h9 _ _ _ _ rfl];refine .step ?_;show dL C (cP C (.beginRound::[.code (xG q.c)]) tm' ⟨r.fn,r.n,[],.run,false,some l⟩ (c::acs) H) _;have hb:cP C (.beginRound::[.code (xG q.c)]) tm' ⟨r.fn,r.n,[],.run,false,some l⟩ (c::acs) H=.next ⟨⟨[.code (xG q.c)],tm',RR r.fn r.n (some l) []⟩,c::acs,setBlk H l (.loop (Cz r))⟩:=by
  show Hr C [.code (xG q.c)] tm' _ (c::acs) H=_;unfold Hr;simp only[pA];rw[h1,pA,q4];rfl
 rw[hb];have hc:kH c (.bool b)=some c':=hc;have hE:Hh C (RdEnd l c acs) (RdG l c) r.fn r.n (some l) (c::acs):=by
  refine⟨?_,fun e=>(by cases e),fun e=>(by cases e)⟩;rintro ds todo tm H x ⟨b,r2,c',_,_,_,e⟩
  simp_all
 have hK:Rq C (RdEnd l c acs) (RdG l c) r.fn r.n (some l) (c::acs) rdK []:=by
  refine⟨?_,fun _ _ _ _ _ _ h=>(by cases h),?_⟩
  ·rintro ds x tm H ⟨b,r2,c',g1,g2,g3⟩ h;cases h;cases g1;refine .step ?_;rw[iK rfl];have:cP C [] tm (RR r.fn r.n (some l) ds) (c::acs) H=.next ⟨c',acs,setBlk H l (.loop (qX true r2))⟩:=by
    have e0:cP C [] tm (RR r.fn r.n (some l) ds) (c::acs) H=yR none C ⟨[],tm,RR r.fn r.n (some l) ds⟩ (c::acs) H:=rfl;rw[e0];unfold yR;simp only[g2,pA];show eK (ob (kH c (.bool true)) _) 7=_;rw[g3];rfl
   rw[this];exact⟨_,.refl _,true,r2,c',rfl,g2,g3,rfl⟩
  ·rintro ds x tm H ⟨b,r2,c',g1,g2,g3⟩ h k';cases h;cases g1;refine .step ?_;rw[iK rfl];have:cP C (.code .ret::k') tm (RR r.fn r.n (some l) ds) (c::acs) H=.next ⟨c',acs,setBlk H l (.loop (qX false r2))⟩:=by
    have e0:cP C (.code .ret::k') tm (RR r.fn r.n (some l) ds) (c::acs) H=yR (some .ret) C ⟨.code .ret::k',tm,RR r.fn r.n (some l) ds⟩ (c::acs) H:=rfl;rw[e0];unfold yR;simp only[g2,pA];show eK (ob (kH c (.bool false)) _) 7=_;rw[g3];rfl
   rw[this];exact⟨_,.refl _,false,r2,c',rfl,g2,g3,rfl⟩
 obtain⟨o',k1,b',r2',c'',k2,k3,k4,rfl⟩:=LH hφ hE q.c rdK [] (Or.inr q6) hK [] y tm' _ ⟨b,r2,c',h7,h6,hc⟩ h8
 simp_all
theorem QG(hA:Dh C A){φ:nH}(hφ:wW C φ):wW C (Bn C A φ):=by
 refine⟨fun f args H x h=>?_,fun l args H x h=>RQ hφ h⟩;have h:nS C A φ f args H=some x:=h;unfold nS at h;rw[mA]at h;obtain⟨c,h1,h⟩:=h;rw[mA]at h;obtain⟨fn,h2,h⟩:=h;rw[mA]at h;obtain⟨g,h3,h⟩:=h;refine⟨g,h3,fun acs=>?_⟩;obtain⟨fn',c',e1,e2,e3,e4⟩:=XM h3;rw[h2]at e1;cases e1;obtain⟨fn',e5,e6⟩:=hA f c h1;rw[h2]at e5;cases e5;rw[e2]at e6;cases e6;obtain⟨gt,gtm,gR⟩:=g
 simp only at e3 e4 h;subst e3 e4;have hK:Rq C (zjg C f acs) (fun _=>True) f fn.ntmps none acs (fU C fn) []:=⟨fun ds x tm H _ h=>KW h2 h rfl,fun ds x i tm H _ h=>(by cases h),fun ds x tm H _ h k'=>KW h2 h rfl⟩;obtain⟨o',k1,fr',rfl,k2⟩:=LH hφ zct c (fU C fn) [] (Or.inl rfl) hK [] x gtm H trivial h
 grind
def FO(hA:Dh C A):∀n,wW C (wZ C A n):=by
 intro n;induction n with
 | zero=>exact⟨fun f args H x h=>(by cases h),fun l args H x h=>(by cases h)⟩
 | succ n ih=>exact QG hA ih
def WL(hA:Dh C A):wW C (oD C A):=by
 refine⟨fun f args H x h=>?_,fun f args H x h=>?_⟩
 ·obtain⟨n,hn⟩:=Cp.1 h;exact(FO hA n).fn _ _ _ _ hn
 ·obtain⟨n,hn⟩:=Cp.1 h;exact(FO hA n).rd _ _ _ _ hn
theorem YU{P:Program}{B N:Nat}{I:World->Prop}{μ:Mu}{w:World}(hS:lI P C B N I)(hI:I w)(hA:Dh C A){f:Nat}{args:List zA}{args':Array Value}{H H':wA}{v:zA}(hH:mB B N μ H w)(hl:lB μ args args'.toList)
  (h:oD C A (.func f) args H=some (v,H')):Calls P f args' w fun e w'=>∃v' μ',e=.returned v'/\μ.lw μ'/\vA μ' v v'/\mB B N μ' H' w'/\Below N w w':=by
 intro base;obtain⟨g,he,hr⟩:=(WL hA).fn _ _ _ _ h;obtain⟨fr',r1,h1,h2,h3,h4,fn,l,h5,h6,rfl⟩:=hr [];have h0:kD P C B N μ base (lone (Frame.enter P f args' .normal) base w) w (.next ⟨g,[],H⟩):=Na hS.fns hH hl he;obtain⟨μ',b,cs,w',s1,s2,s3,s4,s5,s6⟩:=kD.reach hS hI r1 h0;cases s6;have hb:=s5.body;rw[yaa (by grind [rW.running])]at hb;obtain⟨v',q1,q2⟩:=DN hS.tys s4 hb h6;have hm:=s5.rest.mode
 rw[h1]at hm;have hbm:b.mode=.returning:=by
  cases hb:b.mode with
  | returning=>rfl
  | _=>rw[hb]at hm;exact hm.elim
 have hd:=s5.rest.defers;rw[h2]at hd;have hbd:b.defers=[]:=by
  generalize hx:b.defers=bd at hd;cases hd;rfl
 have hk:=s5.rest.kind;rw[h3]at hk;have hfn:b.fn=f:=by rw[s5.rest.fn,h4]
 exact⟨.returned v',w',b,⟨v',μ',rfl,s2,q2,s4,s3⟩,s1,hfn,hbm,hbd,hk,fn,by rw[hfn];exact(hS.fns _ _ h5).1,q1⟩
end
end
end Go.Am
