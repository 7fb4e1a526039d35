/- The simulation: regions that draw. -/
import Derived.Test.YtbgilkcahebbfaaGreatDoorF03
set_option linter.all false
noncomputable section
namespace Go.Am
open Go Go.RowKit
section
section
variable {P:Program}{C:oA}{B N:Nat}{I:World->Prop}{μ ν:Mu}{H H':xA}{w:World}{tm:Tm}{R:fH}{acs:List fB}{base cs:List Frame}
variable {b:Frame}{tmps:Array Value}{ds:List Deferred}{k:List oD}{k':List Item}{all:Array Oper}{olds:List (Nat × List Nat)}{anc:Tr Nat}{old:Tm}{D:Nat}{S:Nat->Bool}{order:List Nat}
def kF.slots{tmps':Array Value}{todo:List Item}(h:kF μ R (b.atR ⟨tmps,ds⟩ todo))(hs:tmps'.size=R.n):kF μ R (b.atR ⟨tmps',ds⟩ todo):=⟨h.fn,hs,h.defers,h.mode,h.kind,h.round⟩
def fD.cut{n:Nat}(h:fD μ n tm tmps):fD μ n tm.cut tmps:=by
 refine⟨h.1,fun i v hv=>h.2 i v ?_⟩
 unfold Tm.cut Tm.get at hv;unfold Tm.get;simp only[bG]at hv ⊢
 split at hv
 ·rename_i e;rw[yab e];exact hv
 ·cases hv
def zu9(hS:Sim P C B N I)(hH:cA B N μ H w)(hcs:xF C μ acs cs)(hR:kF μ R (b.atR ⟨tmps,ds⟩ []))(hk:rC (wF μ) k k')
  (hr:eE μ all olds anc R.n old tm D S order tmps) (hst:rH all.toList anc [] D=true) (hp:cF C μ acs.length H all olds R.n old tm D S) :
  cC P C B N μ base (lone (b.atR ⟨tmps,ds⟩ (.inRegion all order::k')) (cs++base) w) w (zla C k tm R acs H):=by
 obtain⟨tmps',μ',w',s,g,t⟩:=regEnd (b:=b) (k:=k') (cs:=cs++base) (ds:=ds) hS.tys hst order S tmps μ w hH hr hp
 refine cC.of_steps s g.le g.below ?_
 exact pQ g.heap (hcs.monoD fun d hd=>g.pd d (by omega)) ((hR.mono g.le).slots t.1) t (hk.mono fun _ _ r=>r.mono g.le) (.refl _ _)
def z6y(hS:Sim P C B N I)(hH:cA B N μ H w)(hcs:xF C μ acs cs)(hR:kF μ R (b.atR ⟨tmps,ds⟩ []))(ht:fD μ R.n tm tmps)(hk:rC (wF μ) k k'){id:Nat} :
  cC P C B N μ base (lone (b.atR ⟨tmps,ds⟩ (.code (.region id all true)::k')) (cs++base) w) w (ztj id all C k tm R acs H):=by
 unfold ztj
 cases hx:ob (ob (C.plans.get R.fn) fun t=>t.get id) fun p=>jA (vN all p) <| ob (oL C H all R.n tm.cut p.olds p.first tm.cut) fun tm'=>some (⟨⟨.reg all tm.cut p.olds p.stages::k,tm',R⟩,acs,H⟩:zM)with
 | none=>exact trivial
 | some s=>
  simp only[uA,zB]at hx;obtain⟨p,_,hok,tm',hl,hx⟩:=hx
  cases hx;obtain⟨anc,D,ro,h1,h2⟩:=zvz hok
  obtain⟨r0,p0⟩:=z0m (C:=C) (H:=H) (dp:=acs.length) hS.mixed ro ht.cut (w.tape w.drawn (.order b.fn id))
  obtain⟨r1,p1⟩:=eX _ _ _ hl h1 r0 p0
  exact⟨μ,_,cs,_,.one stepR_region_draw,fun _ _ h=>h,(Below.refl N w).drew,hH.drew,⟨hR.todo,by rw[yab hR.running];exact .reg r1 h2 p1 hk⟩,hcs⟩
def zwj(hH:cA B N μ H w)(hcs:xF C μ acs cs)(hR:kF μ R (b.atR ⟨tmps,ds⟩ []))(hk:rC (wF μ) k k'){st:xE}{stages:List xE}{D2:Nat}
  (hr:eE μ all olds anc R.n old tm D S order tmps) (h1:sK all.toList st.lights D=some D2) (h2:rH all.toList anc stages D2=true) (hw:cP C μ acs.length all olds R.n old tm D S st.again) :
  cC P C B N μ base (lone (b.atR ⟨tmps,ds⟩ (.inRegion all order::k')) (cs++base) w) w (zb4 all old olds st stages C k tm R acs H):=by
 unfold zb4
 cases hx:jA (wS C H all old olds tm st.again) (ob (oL C H all R.n old olds st.lights tm) fun tm=>some (⟨⟨.reg all old olds stages::k,tm,R⟩,acs,H⟩:zM))with
 | none=>exact trivial
 | some s=>
  simp only[uA,zB]at hx;obtain⟨ha,tm',hl,hx⟩:=hx
  cases hx;obtain⟨r1,p1⟩:=eX _ _ _ hl h1 hr (ztn hw ha)
  exact⟨μ,_,cs,w,.refl _ _,fun _ _ h=>h,Below.refl N w,hH,⟨hR.todo,by rw[yab hR.running];exact .reg r1 h2 p1 hk⟩,hcs⟩
def zi9(hH:cA B N μ H w)(hcs:xF C μ acs cs)(hR:kF μ R (b.atR ⟨tmps,ds⟩ []))(ht:fD μ R.n tm tmps){m:Machine}{todo:List oD}{btodo:List Item}
  (hs:Steps P m (lone { b.atR ⟨tmps,ds⟩ btodo with mode:=.returning } (cs++base) w)):cC P C B N μ base m w (.next ⟨zcs ⟨todo,tm,R⟩ .returning,acs,H⟩):=
 ⟨μ,_,cs,w,hs,fun _ _ h=>h,Below.refl N w,hH,⟨⟨hR.fn,hR.size,hR.defers,trivial,hR.kind,hR.round⟩,ht⟩,hcs⟩
def vU{dst:Option Tmp}{v:Value}:Act.put ⟨tmps,ds⟩ dst v=⟨(Act.put ⟨tmps,ds⟩ dst v).tmps,ds⟩:=by unfold Act.put;cases dst<;>rfl
def zak{i:Nat}{rest:List Nat}{o:Oper}{v:zA}{cs:List Frame}(ho:all[i]?=some o)(hw:Region.wanted o (yielded all tmps)=true)(hd:∀c,o.op≠.defer c)
  (h:zn6 P B N μ w (Act.eval ⟨tmps,ds⟩) o v H') :
  ∃v' w' μ',step P (lone (b.atR ⟨tmps,ds⟩ (.inRegion all (i::rest)::k')) cs w)=.next (lone (b.atR ⟨(Act.put ⟨tmps,ds⟩ o.dst v').tmps,ds⟩ (.inRegion all rest::k')) cs w') ∧
   μ.le μ'/\cA B N μ' H' w'/\Below N w w'/\wA μ' v v':=by
 obtain⟨v',w',μ',h1,h2,h3,h4,h5⟩:=h
 refine⟨v',w',μ',?_,h2,h3,h4,h5⟩
 rw[<- vU];rcases h1 with h1 | ⟨h1,rfl⟩
 ·exact dY (a:=⟨tmps,ds⟩) ho hw (by rw[Oper.semAt_eq _ _ _ hd];exact h1)
 ·exact zgy (a:=⟨tmps,ds⟩) ho hw (by rw[Oper.semAt_eq _ _ _ hd];exact h1)
def zcn{i:Nat}{rest:List Nat}{o:Oper}{f:FuncId}{args:Array Value}{cs:List Frame}{w':World}(ho:all[i]?=some o)(hw:Region.wanted o (yielded all tmps)=true)(hd:∀c,o.op≠.defer c)
  (h:(execOp (Act.eval ⟨tmps,ds⟩) o).run P w=.ok (.enter f args) w') :
  step P (lone (b.atR ⟨tmps,ds⟩ (.inRegion all (i::rest)::k')) cs w)=.next (lone (Frame.enter P f args .normal) (b.atR ⟨tmps,ds⟩ (.inRegion all (i::rest)::k')::cs) w'):=
 step_lone_go (by
  rw[stepGR_op (a:=⟨tmps,ds⟩) ho hw,Oper.semAt_eq _ _ _ hd]
  simp[stepG.apply,Sem.runT_eq,h,Frame.atR])
def zgc{i:Nat}{rest:List Nat}{o:Oper}{f:FuncId}{args:Array Value}{cs:List Frame}(ho:all[i]?=some o)(hw:Region.wanted o (yielded all tmps)=true)(hd:∀c,o.op≠.defer c)
  (h:(execOp (Act.eval ⟨tmps,ds⟩) o).run P w=.ok (.enter f args) w) {R:Value->World->Prop} (hc:Calls P f args w fun e w'=>∃v',e=.returned v'/\R v' w') :
  ∃v' w',Steps P (lone (b.atR ⟨tmps,ds⟩ (.inRegion all (i::rest)::k')) cs w) (lone (b.atR ⟨(Act.put ⟨tmps,ds⟩ o.dst v').tmps,ds⟩ (.inRegion all rest::k')) cs w')/\R v' w':=by
 obtain⟨e,w',fr,⟨v',rfl,h1⟩,h3,_,h5⟩:=hc (b.atR ⟨tmps,ds⟩ (.inRegion all (i::rest)::k')::cs)
 refine⟨v',w',?_,h1⟩
 refine .head (zcn ho hw hd h) (Steps.trans h3 (.one ?_))
 rw[step_leave_returned h5,Frame.finish_atR,ho,<- vU];rfl
def cA.below{w':World}(hH:cA B N μ H w)(hb:Below w.heap.size w w'):cA B N μ H w':=by
 refine⟨hH.base,hH.glob,hH.low,hH.next,Nat.le_trans hH.size hb.size,hH.fresh,fun a x i hx h1=>?_,fun a i ha hi=>?_,hH.inj,hH.pnd⟩
 ·obtain⟨o,h2,h3⟩:=hH.blk a x i hx h1
  have hlt:i.b<w.heap.size:=(ybe.1 h2).1
  exact⟨o,by rw[hb.block _ hlt];exact h2,h3⟩
 ·obtain⟨h1,h2,h3⟩:=hH.own a i ha hi
  exact⟨h1,Nat.lt_of_lt_of_le h2 hb.size,h3⟩
def qQ{g:List zA->xA->Option zA}{f:FuncId}{al:List zA}{args':Array Value}{v:zA}{H':xA}(hv:tK g al H=some (v,H'))(hH:cA B N μ H w)
  (k:g al H=some v->(callFunc f args').run P w=.ok (.enter f args') w/\Calls P f args' w fun e w'=>∃v',e=.returned v'/\wA μ v v'/\Below w.heap.size w w') :
  (H'=H/\∃v',(callFunc f args').run P w=.ok (.value v') w/\wA μ v v') ∨
   ((callFunc f args').run P w=.ok (.enter f args') w/\Calls P f args' w fun e w'=>∃v' μ',e=.returned v'/\μ.le μ'/\cA B N μ' H' w'/\Below N w w'/\wA μ' v v'):=by
 unfold tK at hv;rw[uA]at hv;obtain⟨u,h1,h2⟩:=hv
 cases h2;obtain⟨h3,h4⟩:=k h1
 exact .inr ⟨h3,h4.mono fun e w' hh=>by obtain⟨v',g1,g2,g3⟩:=hh;exact⟨v',μ,g1,μ.le_refl,hH.below g3,g3.mono hH.size,g2⟩⟩
def fD.wanted{n:Nat}(R:fD μ n tm tmps){o:Oper}{w:Bool}(h:jE o.guard all tm=some w):Region.wanted o (yielded all tmps)=w:=by
 unfold jE zto at h;unfold Region.wanted
 cases hg:o.guard with
 | none=>rw[hg]at h;cases h;rfl
 | some jw=>
  obtain⟨j,want⟩:=jw
  rw[hg]at h;simp only[zij,uA,oF]at h;obtain⟨d,⟨u,hu,hud⟩,v,hv,h⟩:=h
  have hu':all[j]?=some u:=by simpa using hu
  have hy:yielded all tmps j=match tmps[d]? with | some (.bool b)=>some b | _=>none:=by
   unfold yielded;rw[hu'];simp[hud]
   rfl
  simp only[];rw[hy];have rel:=R.2 d v hv
  by_cases hd:d<n
  ·have hs:d<tmps.size:=by rw[R.1];exact hd
   have e1:tmps[d]?=some (tmps.getD d undef):=by simp[Array.getD,hs]
   rw[e1];generalize tmps.getD d undef=x at rel
   cases hb:v.asBool with
   | some b=>
    rw[hb]at h;have:v=.bool b:=by cases v<;>simp[zA.asBool]at hb;rw[hb]
    rw[this,wA]at rel;subst rel;simp only[Option.some.injEq]at h;rw[<- h,fQ]
    cases b<;>cases want<;>rfl
   | none=>
    rw[hb]at h
    cases h
    cases x with
    | bool b=>rw[zik rel]at hb;cases hb
    | _=>rfl
  ·have e1:tmps[d]?=none:=by simp[R.1];omega
   rw[e1];rw[iU (by rw[R.1];omega)]at rel
   cases hb:v.asBool with
   | some b=>
    have:v=.bool b:=by cases v<;>simp[zA.asBool]at hb;rw[hb]
    rw[this,wA]at rel
    cases rel
   | none=>rw[hb]at h;cases h;rfl
def zmb{fr:fB}{c:Frame}{w':World}{v:zA}{v':Value}{m:Machine}(hw:nH C μ acs.length none fr c)(hcs:xF C μ acs cs)(hm:μ.le ν)(hH:cA B N ν H' w')(hb:Below N w w')(hv:wA ν v v')
  (hs:Steps P m (lone (c.finish v') (cs++base) w')):cC P C B N μ base m w (z5m v H' C fr acs H):=by
 unfold z5m
 cases hx:ob (tG fr v) fun fr=>some (⟨fr,acs,H'⟩:zM)with
 | none=>exact trivial
 | some s=>
  rw[uA]at hx;obtain⟨fr',hf,hx⟩:=hx
  cases hx;exact⟨ν,_,cs,w',hs,hm,hb,hH,yT (hw.mono hm) hf hv,hcs.mono hm⟩
def nW{dp:Nat}(hF:zk8 P C){f:Nat}{args:List zA}{args':Array Value}{d:Bool}{g:fB}{cur:Option xA}(h:bI C f args d=some g)(hl:yB μ args args'.toList) :
  nH C μ dp cur g (Frame.enter P f args' (if d then .deferred else .normal))/\∃fn,C.fns.get f=some fn/\fn.body.isSome=true:=by
 unfold bI at h;simp only[uA,zB,ybb,vE]at h;obtain⟨fn,hfn,c,hc,k,hk,⟨h1,h2⟩,h3⟩:=h
 cases h3;obtain⟨h4,_⟩:=hF f fn hfn
 have hsz:args'.size=args.length:=by have:=hl.length;simpa using this
 rw[gC]at h1 h2;have size:(Frame.enter P f args' (if d then .deferred else .normal)).tmps.size=fn.ntmps:=by
  simp only[Frame.enter,h4,Option.map_some,Option.getD_some,Array.size_append,Array.size_replicate];omega
 refine⟨⟨⟨rfl,size,.nil,trivial,rfl,trivial⟩,?_⟩,fn,hfn,by rw[hc];rfl⟩
 show tJ C μ dp fn.ntmps cur [.code c] ⟨k,Tr.ofList args,[]⟩ (Frame.enter P f args' (if d then .deferred else .normal)).todo (Frame.enter P f args' (if d then .deferred else .normal)).tmps
 have todo:(Frame.enter P f args' (if d then .deferred else .normal)).todo=[.code c]:=by simp[Frame.enter,h4,hc]
 rw[todo];refine .plain (.cons (.code c) .nil) ⟨size,fun i v hv=>?_⟩
 unfold Tm.get at hv;simp only[bG]at hv;split at hv
 ·rw[Tr.get_ofList]at hv
  obtain⟨x,hx,hr⟩:=hl.get hv
  have hi:i<args'.size:=by have:=(ybc.1 hx).1;simpa using this
  have:(Frame.enter P f args' (if d then .deferred else .normal)).tmps.getD i undef=x:=by
   simp only[Frame.enter,ycx];rw[yaj hi];have:args'[i]?=some x:=by simpa using hx
   rw[this];rfl
  rw[this];exact hr
 ·cases hv
def zvm(hF:zk8 P C){fr:fB}{c:Frame}{f:Nat}{args:List zA}{m:Machine}(hw:nH C μ acs.length none fr c)(hcs:xF C μ acs cs)(hH:cA B N μ H w)
  (hs:∀fn,C.fns.get f=some fn->fn.body.isSome=true->∃args',yB μ args args'.toList/\Steps P m (lone (Frame.enter P f args' .normal) (c::(cs++base)) w)) :
  cC P C B N μ base m w (zjd f args C fr acs H):=by
 unfold zjd
 cases hx:bI C f args false with
 | none=>exact trivial
 | some g=>
  obtain⟨fn,h1,h2⟩:∃fn,C.fns.get f=some fn/\fn.body.isSome=true:=by
   unfold bI at hx;simp only[uA]at hx;obtain⟨fn,hfn,c,hc,_⟩:=hx
   exact⟨fn,hfn,by rw[hc];rfl⟩
  obtain⟨args',h3,h4⟩:=hs fn h1 h2
  exact⟨μ,_,c::cs,w,h4,fun _ _ h=>h,Below.refl N w,hH,(nW hF hx h3).1,.cons hw hcs⟩
end
end
section
def zf2:∀(l:List Oper) (t:Tr zA) (i:Nat) (v:zA),(zf8 l t).get i=some v->t.get i=some v/\∀o∈l,o.dst≠some i:=by
 intro l;induction l with
 | nil=>intro t i v h;exact⟨h,fun _ ho=>by cases ho⟩
 | cons o l ih=>
  intro t i v h;unfold zf8 at h
  cases hd:o.dst with
  | none=>
   rw[hd]at h;obtain⟨h1,h2⟩:=ih t i v h
   refine⟨h1,fun u hu=>?_⟩
   rcases ybs.1 hu with rfl | hu
   ·rw[hd];simp
   ·exact h2 u hu
  | some j=>
   rw[hd]at h;obtain⟨h1,h2⟩:=ih _ i v h
   rw[Tr.get_del]at h1;split at h1
   ·cases h1
   ·rename_i e
    refine⟨h1,fun u hu=>?_⟩
    rcases ybs.1 hu with rfl | hu
    ·rw[hd];exact fun k=>e (yci k).symm
    ·exact h2 u hu
def eE.left{μ:Mu}{all:Array Oper}{olds:List (Nat × List Nat)}{anc:Tr Nat}{n:Nat}{old tm:Tm}{D:Nat}{S:Nat->Bool}{order:List Nat}{tmps:Array Value}(R:eE μ all olds anc n old tm D S order tmps) :
  fD μ n ⟨tm.k,zf8 all.toList tm.v,[]⟩ tmps:=by
 refine⟨R.size,fun t v hv=>?_⟩
 unfold Tm.get at hv;simp only[bG]at hv;split at hv
 case isFalse=>cases hv
 rename_i hk;obtain⟨h1,h2⟩:=zf2 _ _ _ _ hv
 have hv:tm.get t=some v:=by unfold Tm.get;simp only[bG];rw[yab hk];exact h1
 have hw:∀(i:Nat) (o:Oper),all[i]?=some o->o.dst=some t->False:=fun i o ho hd=>h2 o (by
  have:all.toList[i]?=some o:=by simpa using ho
  exact ycv this) hd
 by_cases hn:t<n
 ·have k:=R.keep t hn fun i o a b=>(hw i o a b).elim
  exact R.past t v hn (fun i o a b=>(hw i o a b).elim) (by rw[<- k];exact hv)
 ·rw[iU (by rw[R.size];omega)]
  exact R.big t v (by omega) (.inl hv)
def tJ.left{C:oA}{μ:Mu}{dp n:Nat}{cur:Option xA}{todo:List oD}{tm:Tm}{btodo:List Item}{tmps:Array Value}(h:tJ C μ dp n cur todo tm btodo tmps):fD μ n (zjz todo tm) tmps:=by
 cases h with
 | plain a t=>
  cases a with
  | nil=>exact t
  | cons x l=>cases x<;>exact t
 | reg a _ _ _=>exact a.left
 | mid a _ _ _ _=>exact a.left
 | wait a _ _ _ _=>exact a.left
def rC.append{α β:Type}{R:α->β->Prop}{l l':List α}{m m':List β}(h:rC R l m)(h':rC R l' m'):rC R (l++l') (m++m'):=by
 induction h with
 | nil=>exact h'
 | cons a _ ih=>exact .cons a ih
def fD.left{μ:Mu}{n:Nat}{tm:Tm}{tmps:Array Value}(h:fD μ n tm tmps)(todo:List oD):fD μ n (zjz todo tm) tmps:=by
 unfold zjz;split
 ·refine⟨h.1,fun t v hv=>h.2 t v ?_⟩
  unfold Tm.get at hv ⊢
  simp only[bG]at hv ⊢
  split at hv
  ·rename_i e;rw[yab e];exact(zf2 _ _ _ _ hv).1
  ·cases hv
 ·exact h
def zox{C:oA}{μ:Mu}{dp:Nat}{cur cur':Option xA}{fr:fB}{b:Frame}{l:List qS}{l':List PanicEntry}(h:nH C μ dp cur fr b)(hl:rC (rS μ) l l'):nH C μ dp cur' (zoz fr l) (b.raise l'):=by
 have t:fD μ fr.R.n (zjz fr.todo fr.tm) b.tmps:=by
  have:=h.body
  split at this
  ·exact this.left
  ·exact this.left _
 have r:=h.rest
 obtain⟨todo,tm,fn,n,defers,mode,deferred,round⟩:=fr
 obtain⟨bfn,btmps,btodo,bdefers,bmode,bkind,bround⟩:=b
 have m:=r.mode
 cases mode<;>cases bmode<;>first | exact m.elim | skip
 ·exact⟨⟨r.fn,r.size,r.defers,hl,r.kind,r.round⟩,t⟩
 ·exact⟨⟨r.fn,r.size,r.defers,hl,r.kind,r.round⟩,t⟩
 ·refine⟨⟨r.fn,r.size,r.defers,?_,r.kind,r.round⟩,t⟩
  show rC (rS μ) (eC l _) _
  rw[oG];exact hl.append m
end
section
section
variable {P:Program}{C:oA}{B N:Nat}{I:World->Prop}{μ ν:Mu}{H H':xA}{w:World}{tm:Tm}{R:fH}{acs:List fB}{base cs:List Frame}
variable {b:Frame}{tmps:Array Value}{ds:List Deferred}{k:List oD}{k':List Item}{all:Array Oper}
def zvl{fr:fB}{c:Frame}{v:zA}{v':Value}{m:Machine}{cur:Option xA}(hw:nH C μ acs.length cur fr c)(hcs:xF C μ acs cs)(hH:cA B N μ H w)(hv:wA μ v v')
  (hs:Steps P m (lone (c.raise [{ v:=v',recovered:=false }]) (cs++base) w)):cC P C B N μ base m w (z3w v C fr acs H):=
 ⟨μ,_,cs,w,hs,fun _ _ h=>h,Below.refl N w,hH,zox hw (.cons ⟨hv,rfl,rfl⟩ .nil),hcs⟩
def zlx{i:Nat}{rest:List Nat}{o:Oper}{v:Value}{cs:List Frame}{w':World}(ho:all[i]?=some o)(hw:Region.wanted o (yielded all tmps)=true)(hd:∀c,o.op≠.defer c)
  (h:(execOp (Act.eval ⟨tmps,ds⟩) o).run P w=.halt (.panic v) w') :
  step P (lone (b.atR ⟨tmps,ds⟩ (.inRegion all (i::rest)::k')) cs w)=.next (lone ((b.atR ⟨tmps,ds⟩ (.inRegion all (i::rest)::k')).raise [{ v,recovered:=false }]) cs w'):=
 step_lone_go (by
  rw[stepGR_op (a:=⟨tmps,ds⟩) ho hw,Oper.semAt_eq _ _ _ hd]
  simp[stepG.apply,Sem.runT_eq,h])
def yW(hH:cA B N μ H w){l:Nat}{r:wL}(h:dH H l=some r){i:BI}(h4:μ l=some i):B<=l/\∃r',H.t.get l=some (.loop r)/\w.heap[i.b]?=some (.loop r')/\zeg μ r r':=by
 unfold dH at h;rw[zB,vE,uA]at h;obtain⟨h1,x,h2,h3⟩:=h
 have:x=.loop r:=by cases x<;>simp[qA.asLoop]at h3;rw[h3]
 subst this;obtain⟨o,h5,h6⟩:=hH.blk l _ i h2 h4
 rw[aG]at h6;obtain⟨r',rfl,h7⟩:=h6
 refine⟨Nat.le_of_not_lt fun hlt=>?_,r',h2,h5,h7⟩
 have:=(hH.low l _ i hlt h2 h4).2.1
 cases this
def jV{l:Nat}{r:Loop}(h:w.heap[l]?=some (.loop r)):(Instr.getLoop l).run P w=.ok r w:=by
 simp[Instr.getLoop,getObj,yad,Sem.run,h]
def zk1{o:Op}(h:∃c,o=.defer c)(C:oA)(e:nC)(H:xA):(aE o).f C e H=.fail\/∃d,(aE o).f C e H=.defer d:=by
 obtain⟨c,rfl⟩:=h
 show(zbu c c.callee).f C e H=.fail\/∃d,(zbu c c.callee).f C e H=.defer d
 cases c.callee with
 | value f=>
  show z3u (ob (eN f c.args e) fun p=>some (.defer ⟨some p.1,0,eC p.2.1 p.2.2⟩))=.fail\/∃d,z3u (ob (eN f c.args e) fun p=>some (.defer ⟨some p.1,0,eC p.2.1 p.2.2⟩))=.defer d
  cases eN f c.args e with
  | none=>exact .inl rfl
  | some p=>exact .inr ⟨_,rfl⟩
 | _=>exact .inl rfl
def zi2{n:Nat}:∀(ps:List Nat) (args:List zA) (tm tm':Tm) (args':List Value) (tmps:Array Value),uQ n ps args tm=some tm'->yB μ args args'->fD μ n tm tmps →
  args'.length=ps.length/\fD μ n tm' ((ps.zip args').foldl (fun tmps x=>tmps.setIfInBounds x.1 x.2) tmps):=by
 intro ps;induction ps with
 | nil=>
  intro args tm tm' args' tmps h hl ht
  cases args with
  | nil=>rw[yB]at hl;subst hl;cases h;exact⟨rfl,ht⟩
  | cons a as=>cases h
 | cons p ps ih=>
  intro args tm tm' args' tmps h hl ht
  cases args with
  | nil=>cases h
  | cons a as=>
   rw[yB]at hl;obtain⟨v,r,rfl,hv,hl⟩:=hl
   have:=ih as _ _ r (tmps.setIfInBounds p v) h hl (ht.put (ds:=[]) (dst:=some p) hv)
   exact⟨by simp[this.1],this.2⟩
def zlw{i:Nat}{rest:List Nat}{o:Oper}{cs:List Frame}{l:Nat}{f:FuncId}{t:Array Value}{as bd:Code}{w':World}(ho:all[i]?=some o)(hw:Region.wanted o (yielded all tmps)=true)(hd:∀c,o.op≠.defer c)
  (h:(execOp (Act.eval ⟨tmps,ds⟩) o).run P w=.ok (.round l f t as bd) w') :
  step P (lone (b.atR ⟨tmps,ds⟩ (.inRegion all (i::rest)::k')) cs w)=.next (lone (Frame.round l f t as bd .normal) (b.atR ⟨tmps,ds⟩ (.inRegion all (i::rest)::k')::cs) w'):=
 step_lone_go (by
  rw[stepGR_op (a:=⟨tmps,ds⟩) ho hw,Oper.semAt_eq _ _ _ hd]
  simp[stepG.apply,Sem.runT_eq,h,Frame.atR])
def zly{i:Nat}{rest:List Nat}{o:Oper}{cs:List Frame}{d:Deferred}{w':World}(ho:all[i]?=some o)(hw:Region.wanted o (yielded all tmps)=true)(hb:b.roundOf=none)
  (h:(execOp (Act.eval ⟨tmps,ds⟩) o).run P w=.ok (.defer d) w') :
  step P (lone (b.atR ⟨tmps,ds⟩ (.inRegion all (i::rest)::k')) cs w)=.next (lone ((b.atR ⟨tmps,d::ds⟩ (.inRegion all (i::rest)::k')).finish undef) cs w'):=
 step_lone_go (by
  rw[stepGR_op (a:=⟨tmps,ds⟩) ho hw,hb,Oper.semAt_none]
  simp[stepG.apply,Sem.runT_eq,h,Frame.atR])
def zgz{i:Nat}{rest:List Nat}{o:Oper}{cs:List Frame}{w':World}(ho:all[i]?=some o)(hw:Region.wanted o (yielded all tmps)=true)(hd:∀c,o.op≠.defer c)(hb:b.roundOf=none)
  (h:(execOp (Act.eval ⟨tmps,ds⟩) o).run P w=.ok .recover w') :
  step P (lone (b.atR ⟨tmps,ds⟩ (.inRegion all (i::rest)::k')) cs w)=.next (match tryRecover (b.atR ⟨tmps,ds⟩ (.inRegion all (i::rest)::k')) cs with
   | some (v,cs)=>lone ((b.atR ⟨tmps,ds⟩ (.inRegion all (i::rest)::k')).finish v) cs w'
   | none=>lone ((b.atR ⟨tmps,ds⟩ (.inRegion all (i::rest)::k')).finish .nilIface) cs w'):=by
 have e:(stepG P true { frame:=b.atR ⟨tmps,ds⟩ (.inRegion all (i::rest)::k'),callers:=cs,status:=.running,dying:=none } w).bare=match tryRecover (b.atR ⟨tmps,ds⟩ (.inRegion all (i::rest)::k')) cs with
   | some (v,cs)=>.go { frame:=(b.atR ⟨tmps,ds⟩ (.inRegion all (i::rest)::k')).finish v,callers:=cs,status:=.running,dying:=none } w'
   | none=>.go { frame:=(b.atR ⟨tmps,ds⟩ (.inRegion all (i::rest)::k')).finish .nilIface,callers:=cs,status:=.running,dying:=none } w':=by
  rw[stepGR_op (a:=⟨tmps,ds⟩) ho hw,Oper.semAt_eq _ _ _ hd]
  have hb':(b.atR ⟨tmps,ds⟩ (.inRegion all (i::rest)::k')).roundOf=none:=hb
  simp only[stepG.apply,Sem.runT_eq,h,GStep.bare_after,hb',if_true]
  cases tryRecover (b.atR ⟨tmps,ds⟩ (.inRegion all (i::rest)::k')) cs with
  | none=>rfl
  | some p=>obtain⟨v,c⟩:=p;rfl
 cases ht:tryRecover (b.atR ⟨tmps,ds⟩ (.inRegion all (i::rest)::k')) cs with
 | none=>rw[ht]at e;exact step_lone_go e
 | some p=>obtain⟨v,c⟩:=p;rw[ht]at e;exact step_lone_go e
def zvk{fr:fB}{c:Frame}{l:Nat}{i:BI}{args:List zA}{args':Array Value}{m:Machine}(hw:nH C μ acs.length none fr c)(hcs:xF C μ acs cs)(hH:cA B N μ H w)(hi:μ l=some i)(hl:yB μ args args'.toList)
  (hs:∀f t as bd,(Instr.yield i.b args').run P w=.ok (.round i.b f t as bd) w->Steps P m (lone (Frame.round i.b f t as bd .normal) (c::(cs++base)) w)):cC P C B N μ base m w (zjc l args C fr acs H):=by
 unfold zjc
 cases hx:ob (dH H l) fun r=>ob (uQ r.n r.params args r.tm) fun tm=>some (⟨⟨[.code r.assign,.beginRound,.code r.body],tm,⟨r.fn,r.n,[],.run,false,some l⟩⟩,fr::acs,H⟩:zM)with
 | none=>exact trivial
 | some s=>
  simp only[uA]at hx;obtain⟨r,hr,tm',htm,hx⟩:=hx
  cases hx;obtain⟨_,r',_,h3,h4⟩:=yW hH hr hi
  obtain⟨h5,h6⟩:=zi2 r.params args r.tm tm' args'.toList r'.tmps htm hl h4.tm
  rw[<- h4.params]at h5 h6;have sz:args'.size=r'.params.size:=by simpa using h5
  have e:(r'.params.zip args').foldl (fun tmps x=>tmps.setIfInBounds x.1 x.2) r'.tmps=(r'.params.toList.zip args'.toList).foldl (fun tmps x=>tmps.setIfInBounds x.1 x.2) r'.tmps:=by
   rw[<- Array.foldl_toList,Array.toList_zip]
  rw[<- e]at h6;refine⟨μ,_,c::cs,w,hs r'.fn ((r'.params.zip args').foldl (fun tmps x=>tmps.setIfInBounds x.1 x.2) r'.tmps) r'.assign r'.body ?_,fun _ _ h=>h,Below.refl N w,hH,?_,.cons hw hcs⟩
  ·simp only[Instr.yield,yad,jV h3,yac,sz]
   simp
  ·refine⟨⟨h4.fn,h6.1,.nil,trivial,rfl,⟨i,hi,rfl⟩⟩,?_⟩
   show tJ C μ (acs.length+1) r.n _ _ _ [.code r'.assign,.beginRound,.code r'.body] _
   rw[h4.assign,h4.body];exact .plain (.cons (.code _) (.cons .beginRound (.cons (.code _) .nil))) h6
def zgl(hS:Sim P C B N I)(hH:cA B N μ H w)(hcs:xF C μ acs cs){fr:fB}{i:Nat}{rest:List Nat}{o:Oper}{r:uI}
  (hfr:nH C μ acs.length none fr (b.atR ⟨tmps,ds⟩ (.inRegion all (i::rest)::k'))) (ho:all[i]?=some o) (hw:Region.wanted o (yielded all tmps)=true)
  (hdef:(∃c,o.op=.defer c)->r=.fail\/∃d,r=.defer d) (h:mJ P C B N μ H w (Act.eval ⟨tmps,ds⟩) o r) :
  cC P C B N μ base (lone (b.atR ⟨tmps,ds⟩ (.inRegion all (i::rest)::k')) (cs++base) w) w (zV r C fr acs H):=by
 have hd:(∀d,r≠.defer d)->r≠.fail->∀c,o.op≠.defer c:=by
  intro h1 h2 c e;rcases hdef ⟨c,e⟩with h | ⟨d,h⟩
  ·exact h2 h
  ·exact h1 d h
 cases r with
 | fail=>exact trivial
 | val v H'=>
  have hd:=hd (fun _ h=>by cases h) (fun h=>by cases h)
  rcases h with h | ⟨f,args',h1,h2⟩
  ·obtain⟨v',w',μ',s,hm,hH',hb,hv⟩:=zak (b:=b) (k':=k') (rest:=rest) (cs:=cs++base) ho hw hd h
   refine zmb (H:=H) hfr hcs hm hH' hb hv ?_
   rw[Frame.finish_atR,ho,yai,vU];exact .one s
  ·obtain⟨v',w',s,μ',hm,hH',hb,hv⟩:=zgc (b:=b) (k':=k') (rest:=rest) (cs:=cs++base) (R:=fun v' w'=>∃ μ',μ.le μ'/\cA B N μ' H' w'/\Below N w w'/\wA μ' v v') ho hw hd h1 (h2.mono fun e w' hh=>by obtain⟨v',μ',g1,g2⟩:=hh;exact⟨v',g1,μ',g2⟩)
   refine zmb (H:=H) hfr hcs hm hH' hb hv ?_
   rw[Frame.finish_atR,ho,yai,vU];exact s
 | enter f args=>
  have hd:=hd (fun _ h=>by cases h) (fun h=>by cases h)
  exact zvm hS.fns hfr hcs hH fun fn h1 h2=>by
   obtain⟨args',h3,h4⟩:=h fn h1 h2
   exact⟨args',h4,.one (zcn ho hw hd h3)⟩
 | round l args=>
  have hd:=hd (fun _ h=>by cases h) (fun h=>by cases h)
  obtain⟨i0,args',hi,hl,hrun⟩:=h
  exact zvk hfr hcs hH hi hl fun f t as bd hy=>.one (zlw ho hw hd (by rw[hrun];exact hy))
 | defer d=>
  obtain⟨_,d',h1,h2⟩:=h
  show cC P C B N μ base _ w (zvn d C fr acs H)
  unfold zvn
  cases hr:fr.R.roundOf with
  | some l=>exact trivial
  | none=>
   have hb:b.roundOf=none:=by
    have:=hfr.rest.round
    rw[hr]at this;change uS μ none b.roundOf at this
    cases hb:b.roundOf with
    | none=>rfl
    | some l=>rw[hb]at this;exact this.elim
   simp only[]
   cases hf:tG fr tD with
   | none=>exact trivial
   | some g=>
    have:=yT (cur:=some H) hfr hf fW
    refine⟨μ,_,cs,w,.one (zly ho hw hb h1),fun _ _ h=>h,Below.refl N w,hH,?_,hcs⟩
    rw[Frame.finish_atR]at this ⊢
    rw[vU]at this ⊢
    have e:∀x,(Act.put ⟨tmps,d'::ds⟩ x undef).tmps=(Act.put ⟨tmps,ds⟩ x undef).tmps:=fun x=>by cases x<;>rfl
    rw[e];exact⟨⟨this.rest.fn,this.rest.size,.cons h2 this.rest.defers,this.rest.mode,this.rest.kind,this.rest.round⟩,this.body⟩
 | panic v=>
  have hd:=hd (fun _ h=>by cases h) (fun h=>by cases h)
  obtain⟨v',h1,h2⟩:=h
  exact zvl hfr hcs hH h2 (.one (zlx ho hw hd h1))
 | recover=>
  have hd:=hd (fun _ h=>by cases h) (fun h=>by cases h)
  show cC P C B N μ base _ w (zg9 C fr acs H)
  unfold zg9
  cases hr:fr.R.roundOf with
  | some l=>exact trivial
  | none=>
   have hb:b.roundOf=none:=by
    have:=hfr.rest.round
    rw[hr]at this;change uS μ none b.roundOf at this
    cases hb:b.roundOf with
    | none=>rfl
    | some l=>rw[hb]at this;exact this.elim
   cases hk:fr.R.deferred with
   | false=>exact trivial
   | true=>
    have hkind:b.kind=.deferred:=by have:=hfr.rest.kind;rw[hk]at this;exact this
    cases hcs with
    | nil=>exact trivial
    | @cons c b1 acs1 cs1 hc hcs1=>
     have st:=zgz (P:=P) (b:=b) (k':=k') (rest:=rest) (cs:=b1::(cs1++base)) ho hw hd hb h
     have hm:=hc.rest.mode
     have tr:∀todo,tryRecover (b.atR ⟨tmps,ds⟩ todo) (b1::(cs1++base))=match b1.mode with
       | .panicking ({ v,recovered:=false,goexit:=false }::older)=>some (v,{ b1 with mode:=.panicking ({ v,recovered:=true }::older) }::(cs1++base))
       | _=>none:=by
      intro todo;obtain⟨bfn,btmps,btodo,bdefers,bmode,bkind,bround⟩:=b
      simp only at hkind
      subst hkind;rfl
     rw[tr]at st;simp only[]
     cases hcm:c.R.mode with
     | run=>
      rw[hcm]at hm
      cases hbm:b1.mode with
      | run=>
       rw[hbm]at st;simp only[]
       cases hf:tG fr .niliface with
       | none=>exact trivial
       | some g=>exact⟨μ,_,b1::cs1,w,.one st,fun _ _ h=>h,Below.refl N w,hH,yT hfr hf (by rw[wA]),.cons hc hcs1⟩
      | _=>rw[hbm]at hm;exact hm.elim
     | returning=>
      rw[hcm]at hm
      cases hbm:b1.mode with
      | returning=>
       rw[hbm]at st;simp only[]
       cases hf:tG fr .niliface with
       | none=>exact trivial
       | some g=>exact⟨μ,_,b1::cs1,w,.one st,fun _ _ h=>h,Below.refl N w,hH,yT hfr hf (by rw[wA]),.cons hc hcs1⟩
      | _=>rw[hbm]at hm;exact hm.elim
     | panicking ch=>
      rw[hcm]at hm
      cases hbm:b1.mode with
      | run=>rw[hbm]at hm;exact hm.elim
      | returning=>rw[hbm]at hm;exact hm.elim
      | panicking ch'=>
       rw[hbm]at hm st
       cases hm with
       | nil=>exact trivial
       | @cons p e older older' hp hold=>
        obtain⟨pv,pr⟩:=p
        cases pr with
        | true=>exact trivial
        | false=>
         obtain⟨ev',er,eg⟩:=e
         obtain⟨q1,q2,q3⟩:=hp
         simp only at q1 q2 q3
         subst q2 q3
         simp only[]
         cases hf:tG fr pv with
         | none=>exact trivial
         | some g=>
          have uE:=yT (cur:=some H) hfr hf q1
          refine⟨μ,_,{ b1 with mode:=.panicking ({ v:=ev',recovered:=true }::older') }::cs1,w,.one st,fun _ _ h=>h,Below.refl N w,hH,uE,.cons ?_ hcs1⟩
          refine⟨⟨hc.rest.fn,hc.rest.size,hc.rest.defers,.cons ⟨q1,rfl,rfl⟩ hold,hc.rest.kind,hc.rest.round⟩,?_⟩
          have:=hc.body
          rw[hcm]at this;exact this
end
end
section
section
variable {P:Program}{C:oA}{B N:Nat}{μ:Mu}{H H' Hs:xA}{w:World}
def RE.on(C:oA)(e:RE)(x:qA):Option qA:=
 match e with
 | .st b off l=>jA (!Nat.blt b C.base) (ob x.asCells fun c=>jA (Nat.ble (off+aA l) c.2.1&&tC zA.one l) (some (.cells (c.1.setMany l off) c.2.1 c.2.2)))
 | .up b k v=>jA (!Nat.blt b C.base) (ob x.asMap fun m=>some (.map (eC m [(k,v)])))
def lW{e:RE}:fP C H e=some H' ↔ ∃x y,H.t.get e.blk=some x/\e.on C x=some y/\H'=setBlk H e.blk y:=by
 cases e with
 | st b off l=>
  simp only[fP,lH,fC,RE.on,RE.blk,uA,zB];constructor
  ·rintro⟨h1,c,⟨x,hx,hc⟩,h2,h⟩;cases h;exact⟨x,_,hx,⟨h1,c,hc,h2,rfl⟩,rfl⟩
  ·rintro⟨x,y,hx,⟨h1,c,hc,h2,h⟩,rfl⟩;cases h;exact⟨h1,c,⟨x,hx,hc⟩,h2,rfl⟩
 | up b k v=>
  simp only[fP,bH,RE.on,RE.blk,uA,zB];constructor
  ·rintro⟨h1,m,⟨x,hx,hc⟩,h⟩;cases h;exact⟨x,_,hx,⟨h1,m,hc,rfl⟩,rfl⟩
  ·rintro⟨x,y,hx,⟨h1,m,hc,h⟩,rfl⟩;cases h;exact⟨h1,m,⟨x,hx,hc⟩,rfl⟩
def aS{b a:Nat}{x:qA}:(setBlk H b x).t.get a=if a=b then some x else H.t.get a:=Tr.get_set _ _ _ _
def aL(a b:RE):Prop:=a.blk≠b.blk\/∃c k v k' v',a=.up c k v/\b=.up c k' v'/\kG k k'=some false
def aL.symm{a b:RE}(h:aL a b):aL b a:=by
 rcases h with h | ⟨c,k,v,k',v',rfl,rfl,h⟩
 ·exact .inl fun e=>h e.symm
 ·exact .inr ⟨c,k',v',k,v,rfl,rfl,wW h⟩
def zy4{a b:RE}(h:zk0 a b=true):aL a b:=by
 unfold zk0 at h;rw[iB]at h;split at h
 ·rename_i e
  cases a with
  | st=>cases h
  | up c k v=>
   cases b with
   | st=>cases h
   | up c' k' v'=>
    have e:c=c':=pB.1 e
    subst e;simp only[zv7]at h;split at h
    ·rename_i r hr
     cases r with
     | true=>cases h
     | false=>exact .inr ⟨c,k,v,k',v',rfl,rfl,hr⟩
    ·cases h
 ·rename_i e
  exact .inl fun k=>e (pB.2 k)
def zkz:∀ {l:List RE},zgi l=true->l.Pairwise aL
 | [],_=>.nil
 | a::l,h=>by
  unfold zgi at h;rw[ybb,cG,ycb]at h;exact .cons (fun b hb=>zy4 (h.1 b hb)) (zkz h.2)
def wH (b:Nat):List RE->List (zA × zA)
 | []=>[]
 | .st _ _ _::l=>wH b l
 | .up c k v::l=>if c=b then(k,v)::wH b l else wH b l
def zY{b:Nat}:∀ {l m:List RE},wH b (l++m)=wH b l++wH b m
 | [],_=>rfl
 | .st _ _ _::l,m=>zY (l:=l)
 | .up c k v::l,m=>by
  rw[List.cons_append,wH,wH,zY (l:=l)]
  split<;>simp
def fU{b:Nat}{p:zA × zA}:∀ {l:List RE},p∈wH b l->.up b p.1 p.2∈l
 | .st _ _ _::l,h=>.tail _ (fU (l:=l) h)
 | .up c k v::l,h=>by
  rw[wH]at h;split at h
  ·rename_i e
   subst e;rcases ybs.1 h with rfl | h
   ·exact .head _
   ·exact .tail _ (fU h)
  ·exact .tail _ (fU h)
def zx9{b:Nat}{l:List RE}(h:∀e∈l,e.blk≠b):wH b l=[]:=by
 cases hx:wH b l with
 | nil=>rfl
 | cons p r=>
  have:p∈wH b l:=by rw[hx];exact .head _
  exact absurd rfl (h _ (fU this))
def zx8{b:Nat}{l m:List RE}(p:l.Perm m):(wH b l).Perm (wH b m):=by
 induction p with
 | nil=>exact .refl _
 | cons x _ ih=>
  cases x with
  | st=>exact ih
  | up c k v=>
   rw[wH,wH];split
   ·exact ih.cons _
   ·exact ih
 | swap x y l=>
  cases x with
  | st=>cases y<;>exact .refl _
  | up c k v=>
   cases y with
   | st=>exact .refl _
   | up c' k' v'=>
    simp only[wH];split<;>split<;>first | exact .refl _ | exact .swap _ _ _
 | trans _ _ h1 h2=>exact h1.trans h2
def z6w{b:Nat}{l:List RE}(h:l.Pairwise aL):DK (wH b l):=by
 unfold DK;induction l with
 | nil=>exact .nil
 | cons x l ih=>
  rw[List.pairwise_cons]at h
  cases x with
  | st=>exact ih h.2
  | up c k v=>
   rw[wH];split
   ·rename_i e
    subst e;refine .cons (fun p hp=>?_) (ih h.2)
    rcases h.1 _ (fU hp)with h1 | ⟨_,_,_,_,_,e1,e2,h1⟩
    ·exact absurd rfl h1
    ·cases e1;cases e2;exact h1
   ·exact ih h.2
structure uJ (C:oA) (H:xA) (s:List RE) (Hs:xA):Prop where
 next:Hs.next=H.next
 st:∀b off l,RE.st b off l∈s->∃x y,H.t.get b=some x/\(RE.st b off l).on C x=some y/\Hs.t.get b=some y
 up:∀b k v,RE.up b k v∈s->Hs.t.get b=some (.map (wH b s))
 no:∀a,(∀e∈s,e.blk≠a)->Hs.t.get a=H.t.get a
def uJ.nil:uJ C H [] H:=⟨rfl,fun _ _ _ h=>(by cases h),fun _ _ _ h=>(by cases h),fun _ _=>rfl⟩
def zzb(C:oA)(H:xA)(e:RE):Prop:=
 match e with
 | .st _ _ _=>∃H',fP C H e=some H'
 | .up b _ _=>Nat.blt b C.base=false/\H.t.get b=some (.map [])
def zvc{e:RE}(h:tR C H e=true):zzb C H e:=by
 cases e with
 | st b off l=>
  change (!gG (lH C H b off l))=true at h
  cases hs:lH C H b off l with
  | none=>rw[hs]at h;cases h
  | some H'=>exact⟨H',hs⟩
 | up b k v=>
  unfold tR at h;simp only[ybb,ycp]at h;refine⟨h.1,?_⟩
  have h2:=h.2
  split at h2
  ·rename_i hm;exact mY hm
  ·cases h2
def uJ.step{s:List RE}{e:RE}(h:uJ C H s Hs)(hr:zzb C H e)(ha:∀x∈s,aL x e):∃H',fP C Hs e=some H'/\uJ C H (s++[e]) H'/\(∀b k v,e=.up b k v->∃m,Hs.t.get b=some (.map m)/\Nat.blt b C.base=false/\(∀p∈m,kG k p.1=some false)/\H'=setBlk Hs b (.map (m++[(k,v)]))):=by
 cases e with
 | st b off l=>
  have hne:∀x∈s,x.blk≠b:=fun x hx=>by
   rcases ha x hx with h1 | ⟨_,_,_,_,_,_,h1,_⟩
   ·exact h1
   ·cases h1
  obtain⟨H1,h1⟩:=hr
  obtain⟨x,y,hx,hy,rfl⟩:=lW.1 h1
  have hx:H.t.get b=some x:=hx
  have hg:=h.no b hne
  refine⟨setBlk Hs b y,lW.2 ⟨x,y,by show Hs.t.get b=_;rw[hg];exact hx,hy,rfl⟩,⟨h.next,fun b' off' l' hm=>?_,fun b' k v hm=>?_,fun a ha'=>?_⟩,fun _ _ _ e=>by cases e⟩
  ·rcases yaf.1 hm with hm | hm
   ·obtain⟨u,v,g1,g2,g3⟩:=h.st b' off' l' hm
    refine⟨u,v,g1,g2,?_⟩
    rw[aS,yaa (show ¬ b'=b from hne _ hm)]
    exact g3
   ·simp at hm
    obtain⟨rfl,rfl,rfl⟩:=hm
    exact⟨x,y,hx,hy,by rw[aS,yab rfl]⟩
  ·rcases yaf.1 hm with hm | hm
   ·rw[aS,yaa (show ¬ b'=b from hne _ hm),h.up b' k v hm,zY]
    simp[wH]
   ·simp at hm
  ·rw[aS,yaa (fun e=>ha' (.st b off l) (by simp) e.symm)]
   exact h.no a fun e he=>ha' e (by simp[he])
 | up b k v=>
  obtain⟨hb,hm⟩:=hr
  have hst:∀b' off l,RE.st b' off l∈s->b'≠b:=fun b' off l hx=>by
   rcases ha _ hx with h1 | ⟨_,_,_,_,_,h1,_,_⟩
   ·exact h1
   ·cases h1
  have hg:Hs.t.get b=some (.map (wH b s)):=by
   by_cases hex:∃e∈s,e.blk=b
   ·obtain⟨e,he,hb'⟩:=hex
    cases e with
    | st b' off l=>exact absurd hb' (hst _ _ _ he)
    | up b' k' v'=>
     have hb':b'=b:=hb'
     subst hb'
     exact h.up _ _ _ he
   ·have hn:∀e∈s,e.blk≠b:=fun e he hb'=>hex ⟨e,he,hb'⟩
    rw[h.no b hn,hm,zx9 hn]
  refine⟨setBlk Hs b (.map (wH b s++[(k,v)])),lW.2 ⟨_,_,hg,?_,rfl⟩,⟨h.next,fun b' off' l' hm'=>?_,fun b' k' v' hm'=>?_,fun a ha'=>?_⟩,fun b' k' v' e=>?_⟩
  ·simp only[RE.on,hb,ycl,jA,cond_true,qA.asMap,vA,oG]
  ·rcases yaf.1 hm' with hm' | hm'
   ·obtain⟨u,x,g1,g2,g3⟩:=h.st b' off' l' hm'
    refine⟨u,x,g1,g2,?_⟩
    rw[aS,yaa (hst _ _ _ hm')]
    exact g3
   ·simp at hm'
  ·rw[aS,zY]
   by_cases e:b'=b
   ·subst e
    rw[yab rfl];simp[wH]
   ·rw[yaa e]
    have:wH b' [RE.up b k v]=[]:=by rw[wH,yaa fun h=>e h.symm];rfl
    rw[this,ycd];rcases yaf.1 hm' with hm' | hm'
    ·exact h.up b' k' v' hm'
    ·simp at hm';exact absurd hm'.1 e
  ·rw[aS,yaa (fun e=>ha' (.up b k v) (by simp) e.symm)]
   exact h.no a fun e he=>ha' e (by simp[he])
  ·cases e
   refine⟨_,hg,hb,fun p hp=>?_,rfl⟩
   rcases ha _ (fU hp)with h1 | ⟨_,_,_,_,_,e1,e2,h1⟩
   ·exact absurd rfl h1
   ·cases e1;cases e2;exact wW h1
def uJ.list{s l:List RE}(h:uJ C H s Hs)(hr:∀e∈l,zzb C H e)(ha:(s++l).Pairwise aL):∀ {H'},zS C l Hs=some H'->uJ C H (s++l) H':=by
 induction l generalizing s Hs with
 | nil=>intro H' hl;cases hl;rw[ycd];exact h
 | cons e l ih=>
  intro H' hl;unfold zS at hl;rw[uA]at hl;obtain⟨H1,h1,hl⟩:=hl
  have hap:∀x∈s,aL x e:=fun x hx=>by
   rw[List.pairwise_append]at ha;exact ha.2.2 x hx e (.head _)
  obtain⟨H2,g1,g2,_⟩:=h.step (hr e (.head _)) hap
  rw[h1]at g1;cases g1
  have:=ih g2 (fun x hx=>hr x (.tail _ hx)) (by rw[ybz];exact ha) hl
  rwa [ybz]at this
structure HEq' (μ:Mu) (H H':xA):Prop where
 next:H'.next=H.next
 get:∀a,H'.t.get a=H.t.get a\/((∃i,μ a=some i)/\∃m m',H.t.get a=some (.map m)/\H'.t.get a=some (.map m')/\m.Perm m'/\DK m)
def uJ.perm{s s':List RE}{H1 H2:xA}(h:uJ C H s H1)(h':uJ C H s' H2)(p:s.Perm s')(ha:s.Pairwise aL)(hm:∀e∈s,∃i,μ e.blk=some i):HEq' μ H1 H2:=by
 refine⟨h'.next.trans h.next.symm,fun a=>?_⟩
 by_cases hex:∃e∈s,e.blk=a
 ·obtain⟨e,he,rfl⟩:=hex
  cases e with
  | st b off l=>
   obtain⟨x,y,g1,g2,g3⟩:=h.st b off l he
   obtain⟨x',y',g1',g2',g3'⟩:=h'.st b off l (p.mem_iff.1 he)
   rw[g1]at g1';cases g1'
   rw[g2]at g2';cases g2'
   exact .inl (g3'.trans g3.symm)
  | up b k v=>exact .inr ⟨hm _ he,_,_,h.up b k v he,h'.up b k v (p.mem_iff.1 he),zx8 p,z6w ha⟩
 ·left
  rw[h.no a fun e he hb=>hex ⟨e,he,hb⟩,h'.no a fun e he hb=>hex ⟨e,p.mem_iff.2 he,hb⟩]
def cA.congr'(hH:cA B N μ H w)(h:HEq' μ H H'):cA B N μ H' w:=by
 have hle:∀a y,H'.t.get a=some y->∃x,H.t.get a=some x/\(y=x\/∃m m',x=.map m/\y=.map m'/\m.Perm m'/\DK m):=by
  intro a y hy;rcases h.get a with e | ⟨_,m,m',h1,h2,h3⟩
  ·exact⟨y,by rw[<- e];exact hy,.inl rfl⟩
  ·rw[h2]at hy;cases hy
   exact⟨_,h1,.inr ⟨m,m',rfl,rfl,h3⟩⟩
 refine⟨hH.base,hH.glob,fun a x i ha hx hi=>?_,by rw[h.next];exact hH.next,hH.size,fun a ha=>?_,fun a x i hx hi=>?_,hH.own,fun a b x y i j hx hy hi hj ha hb e=>?_,fun a x t hp=>?_⟩
 ·obtain⟨y,hy,hxy⟩:=hle a x hx
  obtain⟨g1,g2,g3⟩:=hH.low a y i ha hy hi
  rcases hxy with rfl | ⟨m,m',rfl,rfl,_⟩
  ·exact⟨g1,g2,g3⟩
  ·exact⟨g1,rfl,rfl⟩
 ·rw[h.next]at ha
  obtain⟨g1,g2⟩:=hH.fresh a ha
  refine⟨g1,?_⟩
  rcases h.get a with e | ⟨_,m,m',h1,_⟩
  ·rw[e];exact g2
  ·rw[g2]at h1;cases h1
 ·obtain⟨y,hy,hxy⟩:=hle a x hx
  obtain⟨o,g1,g2⟩:=hH.blk a y i hy hi
  refine⟨o,g1,?_⟩
  rcases hxy with rfl | ⟨m,m',rfl,rfl,hp,hd⟩
  ·exact g2
  ·obtain⟨es,clock,l',h1,h2,h3⟩:=g2
   refine⟨es,clock,l',h1,?_,h3⟩
   rcases h2 with rfl | ⟨h2,_⟩
   ·exact .inr ⟨hp.symm,hd.perm hp⟩
   ·exact .inr ⟨hp.symm.trans h2,hd.perm hp⟩
 ·obtain⟨x',hx',_⟩:=hle a x hx
  obtain⟨y',hy',_⟩:=hle b y hy
  exact hH.inj a b x' y' i j hx' hy' hi hj ha hb e
 ·obtain⟨g1,g2,g3⟩:=hH.pnd a x t hp
  refine⟨g1,?_,g3⟩
  rcases h.get a with e | ⟨⟨i,hi⟩,_⟩
  ·rw[e];exact g2
  ·rw[g1]at hi;cases hi
def zyb(hT:rE P C)(hbase:B<=C.base)(hH:cA B N μ Hs w){e:nC}{ρ:Operand->Value}(hE:kE μ e ρ){o:Oper}{ef:Eff}{re:RE}(h1:lO o.op e=some ef)(h2:uK C ef=some re)
  (h3:fP C Hs re=some H') (h4:∀b k v,re=.up b k v->∃m,Hs.t.get b=some (.map m)/\Nat.blt b C.base=false/\(∀p∈m,kG k p.1=some false)/\H'=setBlk Hs b (.map (m++[(k,v)]))) :
  zn6 P B N μ w ρ o tD H'/\∃i,μ re.blk=some i:=by
 obtain⟨dst,op,type,pos,after,guard⟩:=o
 have ups:∀ {t:Nat} {m k x:Operand},(ob (ev m e) fun m=>ob (ev k e) fun k=>ob (ev x e) fun v=>some (Eff.upd t m k v))=some ef->mR t m k x C e Hs=.val tD H'/\∃i,μ re.blk=some i:=by
  intro t m k x h1;simp only[uA]at h1;obtain⟨mv,hm,kv,hk,xv,hx,h1⟩:=h1
  cases h1;simp only[uK,uA,zB,ybb]at h2;obtain⟨ty,hty,ke,hke,kty,hkty,⟨hkd,hfit⟩,b,hb,h2⟩:=h2
  cases h2;obtain⟨l,hl,hbb,hfr,rfl⟩:=h4 b kv xv rfl
  have hbm:bH Hs b=some l:=by unfold bH;rw[hl];rfl
  constructor
  ·unfold mR
   simp only[hty,hke,hkty,hkd,hm,hb,hbb,hbm,hk,hfit,hx,vA,jA,cond_true,ycl,yZ hfr];rfl
  ·have:=hE _ _ hm
   rw[kY]at hb;subst hb;rw[wA]at this;obtain⟨i,hi,_⟩:=this
   exact⟨i,hi⟩
 cases op<;>try (cases h1;done)
 case insert t m k x=>
  obtain⟨g1,g2⟩:=ups h1
  exact⟨(bX (P:=P) hT hbase hH hE g1).2,g2⟩
 case mapUpdate t m k x=>
  obtain⟨g1,g2⟩:=ups h1
  exact⟨(bX (P:=P) hT hbase hH hE g1).1,g2⟩
 case store t a x=>
  simp only[lO,uA]at h1;obtain⟨av,ha,xv,hx,h1⟩:=h1
  cases h1;simp only[uK,uA,zB]at h2;obtain⟨ty,hty,p,hp,hsz,h2⟩:=h2
  cases h2;constructor
  ·refine zj9 (P:=P) hT hbase hH hE ?_
   unfold zka;have h3':lH C Hs p.1 p.2 xv.cells=some H':=h3
   simp only[hty,ha,hp,hx,vA,hsz,jA,cond_true,h3'];rfl
  ·have:=hE _ _ ha
   rw[kT]at hp;subst hp;rw[wA]at this;obtain⟨i,hi,_⟩:=this
   exact⟨i,hi⟩
end
end
section
section
variable {P:Program}{C:oA}{B N:Nat}{μ:Mu}{H H' H1:xA}{w:World}{all:Array Oper}{olds:List (Nat × List Nat)}{anc:Tr Nat}{n:Nat}{old tm tm':Tm}{D D' D1:Nat}{S:Nat->Bool}{order:List Nat}{tmps:Array Value}{ds:List Deferred}{dp:Nat}
variable {b:Frame}{k:List Item}{cs:List Frame}
def eE.congrD(h:∀k,tb D k=tb D' k)(R:eE μ all olds anc n old tm D S order tmps):eE μ all olds anc n old tm D' S order tmps:=by
 have e:tb D=tb D':=funext h
 exact⟨R.reg,R.sched,fun i hi=>by rw[<- h];exact R.sub i hi,R.closed,by rw[<- e];exact R.dclosed,R.size,R.now,R.past,fun d hd hw=>R.keep d hd fun i o h1 h2=>by rw[h];exact hw i o h1 h2,R.big⟩
def cF.congrD(h:∀k,tb D k=tb D' k)(p:cF C μ dp H all olds n old tm D S):cF C μ dp H all olds n old tm D' S:=fun i hi=>p i (by rw[h];exact hi)
def zc2{α:Type}{R:α->α->Prop}(hs:∀a b,R a b->R b a):∀ {l:List α},l.Pairwise R->∀a∈l,∀b∈l,a≠b->R a b
 | [],_,a,ha,_,_,_=>by cases ha
 | x::l,h,a,ha,b,hb,hne=>by
  rw[List.pairwise_cons]at h;rcases ybs.1 ha with rfl | ha'
  ·rcases ybs.1 hb with rfl | hb'
   ·exact absurd rfl hne
   ·exact h.1 b hb'
  ·rcases ybs.1 hb with rfl | hb'
   ·exact hs _ _ (h.1 a ha')
   ·exact zc2 hs h.2 a ha' b hb' hne
def z5o{l m:List Nat}(h1:l.Nodup)(h2:m.Nodup)(h:∀i,i∈l ↔ i∈m):l.Perm m:=(List.perm_ext_iff_of_nodup h1 h2).2 h
def z1j{o:Oper}(hl:zj7 o.op=true)(ho:zpe C o=true)(e:nC)(H2:xA):(mE o.op).f C e H=(mE o.op).f C e H2:=by
 obtain⟨dst,op,type,pos,after,guard⟩:=o
 cases op<;>try (cases hl;done)
 rename_i c;simp only[zj7]at hl;split at hl
 case h_2=>cases hl
 rename_i hc;simp only[zpe,hc]at ho;simp only[mE,z55,hc,kM,zbt,zmz]
 cases ht:lC c.argTypes.toList 0 with
 | none=>rfl
 | some t=>
  rw[ht,vA]at ho;simp only[vA]
  cases hx:lC c.args.toList 0 with
  | none=>rfl
  | some x=>
   simp only[vA]
   cases hy:C.tys.get t with
   | none=>rfl
   | some ty=>
    rw[hy]at ho;simp only[vA]
    cases hv:ev x e with
    | none=>rfl
    | some v=>
     simp only[vA];have h6:Nat.beq ty.desc.tag 6=false:=by simpa using ho
     unfold zth;split
     ·rfl
     ·split
      ·rfl
      ·split
       ·rfl
       ·split
        ·rw[h6];rfl
        ·rfl
def zo3{G:List Nat}(hG:zn7 all anc D G D1)(hlen:sP C all=true){Ds:Nat}{seq:List Nat}(hDs:∀k,tb Ds k=(tb D k||decide (k∈seq)))(hseq:∀i∈seq,S i=true){g:Nat}(hg:g∈G)(hup:∀k,tb (xH anc g) k=true->S k=true)
  (hp:cF C μ dp H all olds n old tm Ds S) (H2:xA):cF C μ dp H2 all olds n old tm Ds S:=by
 intro j hj hSj;rcases hp j hj hSj with⟨u,wu,vu,pu⟩ | h
 ·refine .inl ⟨u,wu,vu,?_⟩
  rw[hDs]at hj;simp only[ycq,decide_eq_true_eq]at hj;rcases hj with hj | hj
  ·rcases hG.again j u pu.op hj with h | h | h | h
   ·exact pu.pure h H2
   ·exact pu.float h H2
   ·refine⟨pu.op,pu.want,?_,pu.put⟩
    have hlo:zpe C u=true:=by
     unfold sP at hlen;rw[cG,ycb]at hlen;exact hlen u (ycv (by simpa using pu.op))
    have:=pu.val
    cases wu with
    | false=>exact this
    | true=>rw[yab rfl]at this ⊢;rw[<- this];exact(z1j h hlo _ _).symm
   ·rw[hup j (h g hg)]at hSj;cases hSj
  ·rw[hseq j hj]at hSj;cases hSj
 ·exact .inr h
def z1y(hT:rE P C)(hbase:B<=C.base){G:List Nat}(hG:zn7 all anc D G D1)(hlen:sP C all=true){ef:Nat->Eff}{re:Nat->RE}(hef:∀i∈G,zev all old olds tm i=some (ef i)/\uK C (ef i)=some (re i))
  (hap:(G.map re).Pairwise aL) (hrd:∀i∈G,zzb C H (re i)):∀(order:List Nat) (S:Nat->Bool) (tmps:Array Value) (μ:Mu) (w:World) (seq:List Nat) (Hs:xA) (Ds:Nat),
  seq.Nodup->(∀i∈seq,i∈G/\S i=true)->uJ C H (seq.map re) Hs->(∀i∈seq,∃j,μ (re i).blk=some j)->(∀k,tb Ds k=(tb D k||decide (k∈seq)))->cA B N μ Hs w →
  eE μ all olds anc n old tm Ds S order tmps->cF C μ dp Hs all olds n old tm Ds S →
  ∃(S':Nat->Bool) (order':List Nat) (tmps':Array Value) (μ':Mu) (w':World) (seq':List Nat) (Hs':xA),Steps P (lone (b.atR ⟨tmps,ds⟩ (.inRegion all order::k)) cs w) (lone (b.atR ⟨tmps',ds⟩ (.inRegion all order'::k)) cs w')/\Below N w w'/\μ.lw μ'/\(∀d,d≠dp->μ.ln d μ') ∧
   seq'.Perm G/\uJ C H (seq'.map re) Hs'/\(∀i∈seq',∃j,μ' (re i).blk=some j)/\cA B N μ' Hs' w'/\eE μ' all olds anc n old tm D1 S' order' tmps'/\cF C μ' dp Hs' all olds n old tm D1 S'/\(∀i∈seq',S' i=true):=by
 have hapG:∀i∈G,∀j∈G,i≠j->aL (re i) (re j):=by
  rw[List.pairwise_map]at hap;exact zc2 (fun a b h=>h.symm) hap
 have uE:∀(order:List Nat) (S:Nat->Bool) (tmps:Array Value) (μ:Mu) (w:World) (seq:List Nat) (Hs:xA) (Ds:Nat),
  seq.Nodup->(∀i∈seq,i∈G/\S i=true)->uJ C H (seq.map re) Hs->(∀i∈seq,∃j,μ (re i).blk=some j)->(∀k,tb Ds k=(tb D k||decide (k∈seq)))->cA B N μ Hs w →
  eE μ all olds anc n old tm Ds S order tmps->cF C μ dp Hs all olds n old tm Ds S->(∀i∈G,i∈seq) →
  ∃(S':Nat->Bool) (order':List Nat) (tmps':Array Value) (μ':Mu) (w':World) (seq':List Nat) (Hs':xA),Steps P (lone (b.atR ⟨tmps,ds⟩ (.inRegion all order::k)) cs w) (lone (b.atR ⟨tmps',ds⟩ (.inRegion all order'::k)) cs w')/\Below N w w'/\μ.lw μ'/\(∀d,d≠dp->μ.ln d μ') ∧
   seq'.Perm G/\uJ C H (seq'.map re) Hs'/\(∀i∈seq',∃j,μ' (re i).blk=some j)/\cA B N μ' Hs' w'/\eE μ' all olds anc n old tm D1 S' order' tmps'/\cF C μ' dp Hs' all olds n old tm D1 S'/\(∀i∈seq',S' i=true):=by
  intro order S tmps μ w seq Hs Ds h1 h2 h3 h4 h5 h6 h7 h8 h9;have hD:∀k,tb Ds k=tb D1 k:=fun k=>by
   rw[h5,hG.done];congr 1
   by_cases hk:k∈G
   ·simp[hk,h9 k hk]
   ·have:k∉seq:=fun h=>hk (h2 k h).1
    simp[hk,this]
  exact⟨S,order,tmps,μ,w,seq,Hs,.refl _ _,Below.refl _ _,fun _ _ h=>h,fun d _=>μ.ln_refl d,z5o h1 hG.nodup fun i=>⟨fun h=>(h2 i h).1,h9 i⟩,h3,h4,h6,h7.congrD hD,h8.congrD hD,fun i hi=>(h2 i hi).2⟩
 intro order;induction order with
 | nil=>
  intro S tmps μ w seq Hs Ds h1 h2 h3 h4 h5 h6 h7 h8;refine uE _ S tmps μ w seq Hs Ds h1 h2 h3 h4 h5 h6 h7 h8 fun i hi=>?_
  obtain⟨o,ho,hi2,_⟩:=hG.op i hi
  have:=h7.sub _ (h7.sched i (ybe.1 ho).1)
  rw[h5,hi2]at this;simpa using this
 | cons i order ih=>
  intro S tmps μ w seq Hs Ds h1 h2 h3 h4 h5 h6 h7 h8;by_cases hall:∀i∈G,i∈seq
  ·exact uE _ S tmps μ w seq Hs Ds h1 h2 h3 h4 h5 h6 h7 h8 hall
  cases hi:tb Ds i with
  | true=>
   obtain⟨o,ho,hS,hb,hs⟩:=h7.sched
   obtain⟨S',tmps',μ1,w1,s1,g1,r1,p1,up⟩:=zjj (b:=b) (k:=k) (cs:=cs) (ds:=ds) hT h6 h7 h8 hi
   obtain⟨S2,order',tmps2,μ2,w2,seq2,Hs2,s2,b2,l2,d2,rest⟩:=ih S' tmps' μ1 w1 seq Hs Ds h1 (fun j hj=>⟨(h2 j hj).1,up j (h2 j hj).2⟩) h3 (fun j hj=>by obtain⟨x,hx⟩:=h4 j hj;exact⟨x,g1.le _ _ hx⟩) h5 g1.heap r1 p1
   exact⟨S2,order',tmps2,μ2,w2,seq2,Hs2,.head s1 s2,g1.below.trans b2,fun a x hx=>l2 a x (g1.le a x hx),fun d hd=>Mu.ln_trans (g1.pd d hd) (d2 d hd),rest⟩
  | false=>
   obtain⟨o,ho,hS,hb,hs⟩:=h7.sched
   have hiG:i∈G:=by
    cases hd1:tb D1 i with
    | false=>
     exfalso
     rcases hG.rest i o ho hd1 with h | h
     ·refine hall fun g hg=>?_
      have:=h7.sub g (h7.reg.up h7.closed ho hb (h g hg))
      obtain⟨_,_,hg2,_⟩:=hG.op g hg
      rw[h5,hg2]at this;simpa using this
     ·refine h fun j hj=>?_
      have:=h7.sub j (hb j hj)
      rw[h5]at this;rw[hG.done];simp only[ycq,decide_eq_true_eq]at this ⊢
      exact this.imp id fun h=>(h2 j h).1
    | true=>
     rw[hG.done]at hd1;rw[h5]at hi;simp only[yal]at hi;rw[hi.1]at hd1;simpa using hd1
   have hiseq:i∉seq:=fun h=>by
    rw[h5]at hi;simp[h]at hi
   obtain⟨o',ho',_,_,hdst⟩:=hG.op i hiG
   rw[ho]at ho';cases ho'
   obtain⟨e1,e2⟩:=hef i hiG
   unfold zev at e1;simp only[uA,zB,oF]at e1;obtain⟨o',ho',wn,hw,hwn,e1⟩:=e1
   have:o'=o:=by
    have:all[i]?=some o':=by simpa using ho'
    rw[ho]at this;exact(yci this).symm
   subst this;subst hwn;have hwn:=h7.wanted ho hb hw
   obtain⟨Hn,a1,a2,a3⟩:=h3.step (hrd i hiG) (fun x hx=>by
    obtain⟨j,hj,rfl⟩:=yaq.1 hx
    exact hapG j (h2 j hj).1 i hiG fun e=>hiseq (e ▸ hj))
   obtain⟨hv,j0,hj0⟩:=zyb (P:=P) (o:=o') hT hbase h6 (h7.erel (ds:=ds) h6.glob ho hS hb) e1 e2 a1 a3
   have hdf:∀c,o'.op≠.defer c:=fun c e=>by rw[e]at e1;cases e1
   obtain⟨v',w',μ',s1,m1,m2,m3,m4⟩:=zak (b:=b) (k':=k) (rest:=order) (cs:=cs) ho hwn hdf hv
   have hD2:∀k,tb (Nat.lor Ds (zh8 i)) k=(tb Ds k||k == i):=fun k=>by rw[zoh,zbk];congr 1;exact Bool.beq_comm
   have r1:=(h7.mono m1.f).did (D':=Nat.lor Ds (zh8 i)) (tm':=tm) ho hD2 (fun d hd=>by rw[hdst]at hd;cases hd) (fun _ _=>rfl) m4 (ds:=ds)
   have p0:=zo3 hG hlen h5 (fun j hj=>(h2 j hj).2) hiG (fun k hk=>h7.reg.up h7.closed ho hb hk) h8 Hn
   have p1:cF C μ' dp Hn all olds n old tm (Nat.lor Ds (zh8 i)) (fun k=>S k||k == i):=by
    intro j hj hSj;rw[hD2]at hj;simp only[yal,ycq]at hj hSj;exact(cF.mono (m1.ln dp) p0) j (hj.resolve_right (by rw[hSj.2];simp)) hSj.1
   obtain⟨S2,order',tmps2,μ2,w2,seq2,Hs2,s2,b2,l2,d2,rest⟩:=ih (fun k=>S k||k == i) (Act.put ⟨tmps,ds⟩ o'.dst v').tmps μ' w' (seq++[i]) Hn (Nat.lor Ds (zh8 i))
    (by rw[List.nodup_append];exact⟨h1,by simp,fun a ha b hb e=>by simp at hb;subst hb;exact hiseq (e ▸ ha)⟩)
    (fun j hj=>by
     rcases yaf.1 hj with hj | hj
     ·exact⟨(h2 j hj).1,by rw[(h2 j hj).2];rfl⟩
     ·simp at hj;subst hj;exact⟨hiG,by simp⟩)
    (by rw[List.map_append];exact a2)
    (fun j hj=>by
     rcases yaf.1 hj with hj | hj
     ·obtain⟨x,hx⟩:=h4 j hj;exact⟨x,m1.f _ _ hx⟩
     ·simp at hj;subst hj;exact⟨j0,m1.f _ _ hj0⟩)
    (fun k=>by
     rw[hD2,h5,Bool.or_assoc];congr 1
     rw[Bool.eq_iff_iff];simp)
    m2 r1 p1
   exact⟨S2,order',tmps2,μ2,w2,seq2,Hs2,.head s1 s2,m3.trans b2,fun a x hx=>l2 a x (m1.f a x hx),fun d hd=>Mu.ln_trans (m1.ln d) (d2 d hd),rest⟩
end
end
section
section
variable {P:Program}{C:oA}{B N:Nat}{I:World->Prop}{μ ν:Mu}{H H':xA}{w:World}{tm:Tm}{R:fH}{acs:List fB}{base cs:List Frame}
variable {b:Frame}{tmps:Array Value}{ds:List Deferred}{k:List oD}{k':List Item}{all:Array Oper}
def zfg{m:Option Nat}(h:uS μ none m):m=none:=by
 cases m with
 | none=>rfl
 | some l=>exact h.elim
def zan{l:Nat}{m:Option Nat}(h:uS μ (some l) m):∃i,μ l=some i/\m=some i.b:=by
 cases m with
 | none=>exact h.elim
 | some m=>obtain⟨i,h1,h2⟩:=h;exact⟨i,h1,by rw[h2]⟩
def wZ{r:Loop}(a:Array Value)(b:TypeId)(c:Nat × Nat):Obj.loop r≠.cells a b c:=by intro h;cases h
def zde(hH:cA B N μ H w)(hcs:xF C μ acs cs)(hR:kF μ R (b.atR ⟨tmps,ds⟩ []))(ht:fD μ R.n tm tmps){todo:List oD}{btodo:List Item}{jump:Option Code}
  (h0:b.roundOf=none->zu8 jump=true->step P (lone (b.atR ⟨tmps,ds⟩ btodo) (cs++base) w)=.next (lone { b.atR ⟨tmps,ds⟩ btodo with mode:=.returning } (cs++base) w))
  (h1:∀l c rest v w',b.roundOf=some l->b.kind=.normal->(Instr.endRound l jump).run P w=.ok v w'->step P (lone (b.atR ⟨tmps,ds⟩ btodo) (c::rest) w)=.next (lone (c.finish v) rest w')) :
  cC P C B N μ base (lone (b.atR ⟨tmps,ds⟩ btodo) (cs++base) w) w (lM jump C ⟨todo,tm,R⟩ acs H):=by
 unfold lM;simp only[]
 cases hr:R.roundOf with
 | none=>
  have hb:b.roundOf=none:=by
   have:=hR.round
   rw[hr]at this;exact zfg this
  cases hj:zu8 jump with
  | false=>exact trivial
  | true=>exact zi9 hH hcs hR ht (.one (h0 hb hj))
 | some l=>
  obtain⟨i,hi,hb⟩:∃i,μ l=some i/\b.roundOf=some i.b:=by
   have:=hR.round
   rw[hr]at this;exact zan this
  simp only[]
  cases hx:dH H l with
  | none=>exact trivial
  | some r=>
   rw[vA]
   cases hcs with
   | nil=>exact trivial
   | @cons c b1 acs1 cs1 hc hcs1=>
    simp only[]
    cases hd:R.deferred with
    | true=>exact trivial
    | false=>
     have hkind:b.kind=.normal:=by have:=hR.kind;rw[hd]at this;exact this
     cases hf:tG c (.bool jump.isNone)with
     | none=>exact trivial
     | some c'=>
      obtain⟨hl,r',hg,hw,rel⟩:=yW hH hx hi
      have run:(Instr.endRound i.b jump).run P w=.ok (.bool jump.isNone) (World.setBlk w i.b (.loop { r' with state:=if jump.isNone then .ready else .done,pending:=jump })):=by
       simp only[Instr.endRound,yad,jV hw,yac,aT hw wZ,yae]
      refine⟨μ,_,cs1,_,.one (h1 i.b b1 (cs1++base) _ _ hb hkind run),fun _ _ h=>h,gP (hH.own l i hl hi).1,?_,yT hc hf (by rw[wA]),hcs1⟩
      refine hH.upd hg hi hl ?_
      rw[aG];exact⟨_,rfl,rfl,rfl,rel.fn,rel.tm,rel.params,rel.assign,rel.body,rel.defers⟩
def zna{id:Nat}:∀ {k:List oD} {k':List Item},rC (wF μ) k k'->bJ id k=none->exitTo id k'=none:=by
 intro k k' h;induction h with
 | nil=>intro _;rfl
 | cons a l ih=>
  intro e
  cases a with
  | inBlock i=>
   unfold bJ at e;simp only[oD.blockId]at e;rw[iB]at e;unfold exitTo;by_cases hi:i=id
   ·subst hi
    rw[yab (pB.2 rfl)]at e
    cases e
   ·rw[yaa fun h=>hi (pB.1 h)]at e
    simp[hi,ih e]
  | _=>
   unfold bJ at e;unfold exitTo;exact ih e
def z6s(hH:cA B N μ H w)(hcs:xF C μ acs cs)(hR:kF μ R (b.atR ⟨tmps,ds⟩ []))(ht:fD μ R.n tm tmps)(hk:rC (wF μ) k k'){id:Nat} :
  cC P C B N μ base (lone (b.atR ⟨tmps,ds⟩ (.code (.exit id)::k')) (cs++base) w) w (zif id C k tm R acs H):=by
 unfold zif
 cases he:bJ id k with
 | some r=>
  obtain⟨r',h1,h2⟩:=zx2 hk he
  exact pQ hH hcs hR ht h2 (.one (stepR_exit h1))
 | none=>
  exact zde hH hcs hR ht (fun _ h=>by cases h) fun l c rest v w' hb hkd hr=>stepR_round_exit hb hkd (zna hk he) hr
def ret_ok(hH:cA B N μ H w)(hcs:xF C μ acs cs)(hR:kF μ R (b.atR ⟨tmps,ds⟩ []))(ht:fD μ R.n tm tmps) :
  cC P C B N μ base (lone (b.atR ⟨tmps,ds⟩ (.code .ret::k')) (cs++base) w) w (xRet C k tm R acs H):=
 zde hH hcs hR ht (fun hb _=>stepR_ret hb) fun _ _ _ _ _ hb hkd hr=>stepR_round_ret hb hkd hr
def end_ok(hH:cA B N μ H w)(hcs:xF C μ acs cs)(hR:kF μ R (b.atR ⟨tmps,ds⟩ []))(ht:fD μ R.n tm tmps) :
  cC P C B N μ base (lone (b.atR ⟨tmps,ds⟩ []) (cs++base) w) w (lM none C ⟨[],tm,R⟩ acs H):=
 zde hH hcs hR ht (fun hb _=>stepR_end hb) fun _ _ _ _ _ hb hkd hr=>stepR_round_end hb hkd hr
def xZ{o:Oper}{rest:List Oper}:fN C all k R acs (o::rest) tm H=match jE o.guard all tm with
  | none=>.fail 20
  | some false=>fN C all k R acs rest (putA R.n tm o.dst tD) H
  | some true=>match ((aE o.op).f C (.now tm) H).asVal with
   | some p=>fN C all k R acs rest (putA R.n tm o.dst p.1) p.2
   | none=>zV ((aE o.op).f C (.now tm) H) C ⟨.ops all (o::rest)::k,tm,R⟩ acs H:=by
 show(match jE o.guard all tm with
  | some w=>Bool.rec (motive:=fun _=>qE) (fN C all k R acs rest (putA R.n tm o.dst tD) H)
     (let r:=(aE o.op).f C (.now tm) H
     match r.asVal with
     | some p=>fN C all k R acs rest (putA R.n tm o.dst p.1) p.2
     | none=>zV r C ⟨.ops all (o::rest)::k,tm,R⟩ acs H) w
  | none=>.fail 20)=_
 cases jE o.guard all tm with
 | none=>rfl
 | some w=>cases w<;>rfl
def zfk{n i:Nat}(h:i<n):(List.range n).drop i=i::(List.range n).drop (i+1):=by
 rw[ybl (by simpa using h)];simp
def zi7(hS:Sim P C B N I):∀(rest:List Oper) (i:Nat) (tm:Tm) (H:xA) (w:World) (μ:Mu) (tmps:Array Value),rest=all.toList.drop i->i<=all.size->I w->cA B N μ H w->xF C μ acs cs →
  kF μ R (b.atR ⟨tmps,ds⟩ [])->fD μ R.n tm tmps->rC (wF μ) k k' →
  cC P C B N μ base (lone (b.atR ⟨tmps,ds⟩ (.inRegion all ((List.range all.size).drop i)::k')) (cs++base) w) w (fN C all k R acs rest tm H):=by
 intro rest;induction rest with
 | nil=>
  intro i tm H w μ tmps hi hle hI hH hcs hR ht hk;have:all.size<=i:=by
   have:=congrArg List.length hi
   simp at this;omega
  rw[ybt (by simpa using this)]
  exact pQ hH hcs hR ht hk (.one stepR_region_end)
 | cons o rest ih=>
  intro i tm H w μ tmps hi hle hI hH hcs hR ht hk;obtain⟨h1,h2⟩:=kO hi
  have hlt:i<all.size:=by have:=(ybc.1 h1).1;simpa using this
  have ho:all[i]?=some o:=by simpa using h1
  rw[xZ,zfk hlt]
  cases hw:jE o.guard all tm with
  | none=>exact trivial
  | some wn=>
   have hwn:=ht.wanted (all:=all) hw
   cases wn with
   | false=>
    refine cC.of_steps (.one (cY ho hwn)) (fun _ _ h=>h) (Below.refl N w) ?_
    rw[vU];have t:=ht.put (ds:=ds) (dst:=o.dst) fW
    exact ih (i+1) _ _ _ _ _ h2 hlt hI hH hcs (hR.slots t.1) t hk
   | true=>
    have hop:=z4r hS.tys hS.base hS.fns hS.prims hH hI (ht.erel (ds:=ds) hH.glob) o
    simp only[];generalize hr:(aE o.op).f C (.now tm) H=r at hop
    have hdef:(∃c,o.op=.defer c)->r=.fail\/∃d,r=.defer d:=fun h=>by rw[<- hr];exact zk1 h _ _ _
    have hfr:nH C μ acs.length none ⟨.ops all (o::rest)::k,tm,R⟩ (b.atR ⟨tmps,ds⟩ (.inRegion all (i::(List.range all.size).drop (i+1))::k')):=by
     refine⟨hR.todo,?_⟩
     rw[yab hR.running,<- zfk hlt,hi];exact .plain (.cons (.ops all i hle) hk) ht
    cases hv:r.asVal with
    | none=>exact zgl hS hH hcs hfr ho hwn hdef hop
    | some p=>
     have:r=.val p.1 p.2:=by cases r<;>simp[uI.asVal]at hv;rw[<- hv]
     subst this;simp only[];have hd:∀c,o.op≠.defer c:=fun c e=>by
      rcases hdef ⟨c,e⟩with h | ⟨d,h⟩<;>cases h
     rcases hop with h | ⟨f,args',h3,h4⟩
     ·obtain⟨v',w',μ',s,hm,hH',hb,hv⟩:=zak (b:=b) (k':=k') (rest:=(List.range all.size).drop (i+1)) (cs:=cs++base) ho hwn hd h
      refine cC.of_steps (.one s) hm.f hb ?_
      have t:=(ht.mono hm).put (ds:=ds) (dst:=o.dst) hv
      exact ih (i+1) _ _ _ _ _ h2 hlt (hS.inv _ _ hb hI) hH' (hcs.mono hm) ((hR.mono hm).slots t.1) t (hk.mono fun _ _ r=>r.mono hm)
     ·obtain⟨v',w',s,μ',hm,hH',hb,hv⟩:=zgc (b:=b) (k':=k') (rest:=(List.range all.size).drop (i+1)) (cs:=cs++base) (R:=fun v' w'=>∃ μ',μ.le μ'/\cA B N μ' p.2 w'/\Below N w w'/\wA μ' p.1 v') ho hwn hd h3 (h4.mono fun e w' hh=>by obtain⟨v',μ',g1,g2⟩:=hh;exact⟨v',g1,μ',g2⟩)
      refine cC.of_steps s hm.f hb ?_
      have t:=(ht.mono hm).put (ds:=ds) (dst:=o.dst) hv
      exact ih (i+1) _ _ _ _ _ h2 hlt (hS.inv _ _ hb hI) hH' (hcs.mono hm) ((hR.mono hm).slots t.1) t (hk.mono fun _ _ r=>r.mono hm)
def z1s(hS:Sim P C B N I)(hI:I w)(hH:cA B N μ H w)(hcs:xF C μ acs cs)(hR:kF μ R (b.atR ⟨tmps,ds⟩ []))(hk:rC (wF μ) k k'){olds:List (Nat × List Nat)}{anc:Tr Nat}{old:Tm}{D:Nat}{S:Nat->Bool}{order:List Nat}{st:xE}{stages:List xE}{o:Oper}
  (hr:eE μ all olds anc R.n old tm D S order tmps) (hst:rH all.toList anc (st::stages) D=true) (hp:cF C μ acs.length H all olds R.n old tm D S) (ho:all[st.heavy]?=some o) :
  cC P C B N μ base (lone (b.atR ⟨tmps,ds⟩ (.inRegion all order::k')) (cs++base) w) w (zn9 all old olds st stages o C k tm R acs H):=by
 have hlt:st.heavy<=all.size:=Nat.le_of_lt (ybe.1 ho).1
 obtain⟨S',order',tmps',μ',w',s,g,r1,p1⟩:=reach (b:=b) (k:=k') (cs:=cs++base) (ds:=ds) hS.tys hst hlt order S tmps μ w hH hr hp
 refine cC.of_steps s g.le g.below ?_
 replace hI:=hS.inv _ _ g.below hI
 replace hH:=g.heap
 replace hcs:=hcs.monoD fun d hd=>g.pd d (by omega)
 replace hR:=hR.mono g.le
 replace hk:rC (wF μ') k k':=hk.mono fun _ _ r=>r.mono g.le
 unfold zn9
 cases hw:jE o.guard all tm with
 | none=>exact trivial
 | some wn=>
  obtain⟨o',ho',hS',hb',_⟩:=r1.sched
  rw[ho]at ho';cases ho'
  have hwn:=r1.wanted ho hb' hw
  have hfr:nH C μ' acs.length none ⟨.reg all old olds (st::stages)::k,tm,R⟩ (b.atR ⟨tmps',ds⟩ (.inRegion all (st.heavy::order')::k')):=by
   refine⟨(hR.slots r1.size).todo,?_⟩
   rw[yab hR.running];exact .wait r1 hst hlt (toWeak hst hlt r1 p1) hk
  cases wn with
  | false=>
   refine zmb (H:=H) hfr hcs μ'.le_refl hH (Below.refl N w') fW ?_
   rw[Frame.finish_atR,ho,yai];exact .one (cY ho hwn)
  | true=>
   have hop:=z4r hS.tys hS.base hS.fns hS.prims hH hI (r1.erel (ds:=ds) hH.glob ho hS' hb') o
   exact zgl hS hH hcs hfr ho hwn (fun h=>zk1 h _ _ _) hop
def zsd(hS:Sim P C B N I)(hH:cA B N μ H w)(hcs:xF C μ acs cs)(hR:kF μ R (b.atR ⟨tmps,ds⟩ []))(hk:rC (wF μ) k k'){olds:List (Nat × List Nat)}{anc:Tr Nat}{old:Tm}{D:Nat}{S:Nat->Bool}{order:List Nat}{st:xE}{stages:List xE}
  (hr:eE μ all olds anc R.n old tm D S order tmps) (hst:rH all.toList anc (st::stages) D=true) (hp:cF C μ acs.length H all olds R.n old tm D S) (hlt:all.size<st.heavy) (hle2:st.heavy<=all.size+all.size) :
  cC P C B N μ base (lone (b.atR ⟨tmps,ds⟩ (.inRegion all order::k')) (cs++base) w) w (zob all old olds st stages (st.heavy-(all.size+1)) C k tm R acs H):=by
 obtain⟨o,D1,D2,ho,hf,h1,h2,h3⟩:=zeq hst hlt hle2
 generalize st.heavy-(all.size+1)=i at *
 obtain⟨o',ho',hi,hb,hD1⟩:=cV h1
 rw[ho]at ho';cases ho'
 unfold zob;generalize hx:(ob (lC all.toList i) fun o=>ob (jE o.guard all tm) fun w=>jA (w&&gG (z06 C o.op)) (ob ((aE o.op).f C (.mixed tm old (kD i olds) (iF o.op)) H).asVal fun p=>
  ob (oL C p.2 all R.n old olds st.lights (putA R.n tm o.dst p.1)) fun tm'=>some (⟨⟨.reg all old olds stages::k,tm',R⟩,acs,p.2⟩:zM)))=x
 cases x with
 | none=>exact trivial
 | some x=>
  simp only[uA,zB,oF,ybb]at hx;obtain⟨o',ho',wn,hw,⟨hwn,hlo⟩,p,hv,tm',hl,hx⟩:=hx
  have hlo:z06 C o'.op=none:=by
   cases hx:z06 C o'.op with
   | none=>rfl
   | some _=>rw[hx]at hlo;cases hlo
  have:o'=o:=by
   have h:all[i]?=some o':=by simpa using ho'
   rw[ho]at h;exact(yci h).symm
  subst this;subst hwn
  cases hx;have hop:(aE o'.op).f C (qL tm old olds i o') H=.val p.1 p.2:=by
   show(aE o'.op).f C (.mixed tm old (kD i olds) (iF o'.op)) H=_
   generalize (aE o'.op).f C (.mixed tm old (kD i olds) (iF o'.op)) H=r at hv
   cases r<;>simp[uI.asVal]at hv
   rw[<- hv]
  obtain⟨l,hl2⟩:∃l,p.2=bD H l none:=zse hf hlo hop
  have hH':cA B N (μ.wait H.next (.cells (Tr.ofList l) (aA l) none,acs.length,i)) p.2 w:=by rw[hl2];exact hH.early
  have hle:μ.lw (μ.wait H.next (.cells (Tr.ofList l) (aA l) none,acs.length,i)):=fun _ _ h=>h
  have hpd:∀d,μ.ln d (μ.wait H.next (.cells (Tr.ofList l) (aA l) none,acs.length,i)):=fun d=>⟨hle,fun a x j ha=>by
   show(if a=H.next then _ else μ.pd a)=_
   rw[yaa]
   ·exact ha
   ·intro e
    have:=(hH.pnd _ _ _ ha).2.1
    rw[e,(hH.fresh _ (ybk _)).2]at this
    cases this⟩
  have hgrow:HM.HLe H p.2:=by
   intro b y hb;rw[hl2];show(H.t.set H.next _).get b=some y
   rw[Tr.get_set,yaa]
   ·exact hb
   ·intro e
    rw[e,(hH.fresh _ (ybk _)).2]at hb
    cases hb
  have r1:=(hr.light (v:=p.1) ho hi hb hD1).mono hle
  have p1:cF C (μ.wait H.next (.cells (Tr.ofList l) (aA l) none,acs.length,i)) acs.length p.2 all olds R.n old (putA R.n tm o'.dst p.1) D1 S:=by
   intro j hj hSj;rw[hD1]at hj;simp only[ycq,beq_iff_eq]at hj;rcases hj with hj | rfl
   ·rcases hp j hj hSj with⟨u,wu,vu,pu⟩ | ⟨u,vu,pu⟩
    ·exact .inl ⟨u,wu,vu,(pu.keep hr.reg hr.dclosed hj ho hi).grow hgrow⟩
    ·exact .inr ⟨u,vu,(pu.keep hr.reg hr.dclosed hj ho hi).mono (hpd _)⟩
   ·refine .inr ⟨o',p.1,eO.fresh hr.reg hr.dclosed ho hb hi hf hlo hw ⟨H,l,by rw[hop,hl2],?_⟩⟩
    show(if H.next=H.next then _ else μ.pd H.next)=_
    rw[yab rfl]
  obtain⟨r2,p2⟩:=eX _ _ _ hl h2 r1 p1
  exact⟨_,_,cs,w,.refl _ _,hle,Below.refl N w,hH',⟨(hR.mono hle).todo,by rw[yab hR.running];exact .reg r2 h3 p2 (hk.mono fun _ _ r=>r.mono hle)⟩,hcs.monoD fun d _=>hpd d⟩
def zat{α β:Type}{f:α->Option β}(d:β):∀ {l:List α} {r:List β},tF f l=some r->(∀x∈l,f x=some ((f x).getD d))/\r=l.map fun x=>(f x).getD d
 | [],r,h=>by rw[dS]at h;cases h;exact⟨fun x hx=>(by cases hx),rfl⟩
 | a::l,r,h=>by
  rw[pK,uA]at h;obtain⟨v,hv,h⟩:=h
  rw[uA]at h;obtain⟨m,hm,h⟩:=h
  cases h;obtain⟨h1,h2⟩:=zat d hm
  refine⟨fun x hx=>?_,?_⟩
  ·rcases ybs.1 hx with rfl | hx
   ·rw[hv];rfl
   ·exact h1 x hx
  ·rw[ycm,hv,h2];rfl
def zsc(hS:Sim P C B N I)(hH:cA B N μ H w)(hcs:xF C μ acs cs)(hR:kF μ R (b.atR ⟨tmps,ds⟩ []))(hk:rC (wF μ) k k'){olds:List (Nat × List Nat)}{anc:Tr Nat}{old:Tm}{D:Nat}{S:Nat->Bool}{order:List Nat}{st:xE}{stages:List xE}
  (hr:eE μ all olds anc R.n old tm D S order tmps) (hst:rH all.toList anc (st::stages) D=true) (hp:cF C μ acs.length H all olds R.n old tm D S) (hlt:all.size+all.size<st.heavy) :
  cC P C B N μ base (lone (b.atR ⟨tmps,ds⟩ (.inRegion all order::k')) (cs++base) w) w (zoa all old olds st stages C k tm R acs H):=by
 obtain⟨D1,D2,hG,h2,h3⟩:=zep hst hlt
 unfold zoa;generalize hx:(jA (sP C all) (ob (zsp all old olds tm st.again) fun es=>ob (jP C es H) fun H'=>ob (oL C H' all R.n old olds st.lights tm) fun tm'=>some (⟨⟨.reg all old olds stages::k,tm',R⟩,acs,H'⟩:zM)))=x
 cases x with
 | none=>exact trivial
 | some x=>
  simp only[uA,zB]at hx;obtain⟨hlen,es,he,H1,hg,tm',hl,hx⟩:=hx
  cases hx;unfold jP at hg;simp only[uA,zB,ybb]at hg;obtain⟨rs,hrs,⟨hap,hrd⟩,hg⟩:=hg
  obtain⟨e1,e2⟩:=zat (Eff.store 0 .nilptr .nilptr) he
  obtain⟨e3,e4⟩:=zat (RE.st 0 0 []) hrs
  have hef:∀i∈st.again,zev all old olds tm i=some ((zev all old olds tm i).getD (Eff.store 0 .nilptr .nilptr))/\uK C ((zev all old olds tm i).getD (Eff.store 0 .nilptr .nilptr))=some ((uK C ((zev all old olds tm i).getD (Eff.store 0 .nilptr .nilptr))).getD (RE.st 0 0 [])):=
   fun i hi=>⟨e1 i hi,e3 _ (by rw[e2];exact yaq.2 ⟨i,hi,rfl⟩)⟩
  generalize hE:(fun i=>(zev all old olds tm i).getD (Eff.store 0 .nilptr .nilptr))=ef at e2
  have hef:∀i∈st.again,zev all old olds tm i=some (ef i)/\uK C (ef i)=some ((fun i=>(uK C (ef i)).getD (RE.st 0 0 [])) i):=by
   intro i hi;rw[<- hE];exact hef i hi
  have hrs':rs=st.again.map fun i=>(uK C (ef i)).getD (RE.st 0 0 []):=by rw[e4,e2,List.map_map];rfl
  generalize (fun i=>(uK C (ef i)).getD (RE.st 0 0 []))=re at hef hrs'
  subst hrs'
  have hap:=zkz hap
  have hrd:∀i∈st.again,zzb C H (re i):=by
   rw[cG,ycb]at hrd;exact fun i hi=>zvc (hrd _ (yaq.2 ⟨i,hi,rfl⟩))
  have hd1:uJ C H (st.again.map re) H1:=by
   have:=uJ.list uJ.nil (l:=st.again.map re) (fun e he=>by obtain⟨i,hi,rfl⟩:=yaq.1 he;exact hrd i hi) (by rw[yah];exact hap) hg
   rwa [yah]at this
  obtain⟨S',order',tmps',μ',w',seq,Hs,s1,b1,l1,d1,pm,dn,hm,hH',r1,p1,hin⟩:=z1y (b:=b) (k:=k') (cs:=cs++base) (ds:=ds) (H:=H) hS.tys hS.base hG hlen hef hap hrd order S tmps μ w [] H D List.nodup_nil (fun i hi=>by cases hi) uJ.nil (fun i hi=>by cases hi) (fun k=>by simp) hH hr hp
  have hapS:(seq.map re).Pairwise aL:=((pm.map re).symm.pairwise_iff (fun h=>aL.symm h)).1 hap
  have heq:HEq' μ' Hs H1:=dn.perm hd1 (pm.map re) hapS fun e he=>by obtain⟨i,hi,rfl⟩:=yaq.1 he;exact hm i hi
  have hH1:=hH'.congr' heq
  have p2:cF C μ' acs.length H1 all olds R.n old tm D1 S':=by
   cases hG0:st.again with
   | nil=>
    rw[hG0]at pm hd1;have hs0:seq=[]:=List.Perm.eq_nil pm
    subst hs0;have hle:HM.HLe Hs H1:=fun a y hy=>by rw[hd1.no a (fun e he=>by cases he),<- dn.no a (fun e he=>by cases he)];exact hy
    intro j hj hSj;rcases p1 j hj hSj with⟨u,wu,vu,pu⟩ | h
    ·exact .inl ⟨u,wu,vu,pu.grow hle⟩
    ·exact .inr h
   | cons g l=>
    have hg:g∈st.again:=by rw[hG0];exact .head _
    have hSg:S' g=true:=hin g (pm.mem_iff.2 hg)
    obtain⟨o,ho,_⟩:=hG.op g hg
    refine zo3 hG hlen (seq:=st.again) hG.done (fun i hi=>hin i (pm.mem_iff.2 hi)) hg (fun k hk=>r1.reg.up r1.closed ho (fun j hj=>r1.closed g o ho hSg j hj) hk) p1 H1
  obtain⟨r2,p3⟩:=eX _ _ _ hl h2 r1 p2
  exact⟨_,_,cs,w',s1,l1,b1,hH1,⟨((hR.mono l1).slots r1.size).todo,by rw[yab hR.running];exact .reg r2 h3 p3 (hk.mono fun _ _ r=>r.mono l1)⟩,hcs.monoD fun d hd=>d1 d (by omega)⟩
end
end
section
section
variable {P:Program}{C:oA}{B N:Nat}{I:World->Prop}{μ ν:Mu}{H H':xA}{w:World}{tm:Tm}{R:fH}{acs:List fB}{base cs:List Frame}
variable {b:Frame}{tmps:Array Value}{ds:List Deferred}{k:List oD}{k':List Item}{all:Array Oper}
def z2t(hH:cA B N μ H w)(hcs:xF C μ acs cs)(hR:kF μ R (b.atR ⟨tmps,ds⟩ []))(ht:fD μ R.n tm tmps)(hk:rC (wF μ) k k') :
  cC P C B N μ base (lone (b.atR ⟨tmps,ds⟩ (.beginRound::k')) (cs++base) w) w (zig C k tm R acs H):=by
 unfold zig
 cases hr:R.roundOf with
 | none=>exact trivial
 | some l=>
  obtain⟨i,hi,hb⟩:∃i,μ l=some i/\b.roundOf=some i.b:=by
   have:=hR.round
   rw[hr]at this;exact zan this
  rw[vA]
  cases hx:dH H l with
  | none=>exact trivial
  | some r=>
   rw[vA]
   cases hst:Nat.beq (LoopState.tag r.state) 0 with
   | false=>exact trivial
   | true=>
    obtain⟨hl,r',hg,hw,rel⟩:=yW hH hx hi
    have ready:r'.state=.ready:=by
     rw[rel.state]
     cases hs:r.state<;>rw[hs]at hst<;>first | rfl | simp[LoopState.tag,Nat.beq]at hst
    have run:(Instr.beginRound i.b).run P w=.ok () (World.setBlk w i.b (.loop { r' with state:=.busy })):=by
     simp only[Instr.beginRound,yad,jV hw,yac,aT hw wZ,ready,yae]
    refine⟨μ,_,cs,_,.one (stepR_beginRound hb run),fun _ _ h=>h,gP (hH.own l i hl hi).1,?_,⟨?_,?_⟩,hcs⟩
    ·refine hH.upd hg hi hl ?_
     rw[aG];exact⟨_,rfl,rfl,rel.pending,rel.fn,rel.tm,rel.params,rel.assign,rel.body,rel.defers⟩
    ·refine⟨hR.fn,hR.size,hR.defers,hR.mode,hR.kind,?_⟩
     exact hR.round
    ·show if R.mode.running=true then tJ C μ acs.length R.n _ k tm k' tmps else fD μ R.n tm tmps
     rw[yab hR.running];exact .plain hk ht
def zek{l:Nat}{jump:Option Code}{w':World}{cs:List Frame}(hr:(Instr.endLoop l).run P w=.ok jump w') :
  step P (lone (b.atR ⟨tmps,ds⟩ (.endRangeFunc l::k')) cs w)=.next (lone (b.atR ⟨tmps,ds⟩ ((jump.map Item.code).toList++k')) cs w'):=
 step_lone_go (by simp[stepG,stepG.exec,Frame.atR,Sem.runT_eq,hr])
def zng(hH:cA B N μ H w)(hcs:xF C μ acs cs)(hR:kF μ R (b.atR ⟨tmps,ds⟩ []))(ht:fD μ R.n tm tmps)(hk:rC (wF μ) k k'){l:Nat}{i:BI}(hi:μ l=some i) :
  cC P C B N μ base (lone (b.atR ⟨tmps,ds⟩ (.endRangeFunc i.b::k')) (cs++base) w) w (vV l C k tm R acs H):=by
 unfold vV
 cases hx:dH H l with
 | none=>exact trivial
 | some r=>
  rw[vA]
  cases hst:Nat.beq (LoopState.tag r.state) 1 with
  | true=>exact trivial
  | false=>
   obtain⟨hl,r',hg,hw,rel⟩:=yW hH hx hi
   have busy:r'.state≠.busy:=by
    intro e;rw[rel.state]at e;rw[e]at hst
    cases hst
   have run:(Instr.endLoop i.b).run P w=.ok r'.pending (World.setBlk w i.b (.loop { r' with state:=.exhausted })):=by
    simp[Instr.endLoop,yad,jV hw,yac,aT hw wZ,busy]
   refine⟨μ,_,cs,_,.one (zek run),fun _ _ h=>h,gP (hH.own l i hl hi).1,?_,⟨?_,?_⟩,hcs⟩
   ·refine hH.upd hg hi hl ?_
    rw[aG];exact⟨_,rfl,rfl,rel.pending,rel.fn,rel.tm,rel.params,rel.assign,rel.body,rel.defers⟩
   ·exact⟨hR.fn,hR.size,hR.defers,hR.mode,hR.kind,hR.round⟩
   ·show if R.mode.running=true then tJ C μ acs.length R.n _ (match r.pending with | some c=>.code c::k | none=>k) tm ((r'.pending.map Item.code).toList++k') tmps else fD μ R.n tm tmps
    rw[yab hR.running,rel.pending]
    cases r.pending with
    | none=>exact .plain hk ht
    | some c=>exact .plain (.cons (.code c) hk) ht
def zcm{f:Operand}{params:Array Nat}{assign body:Code}{l:Nat}{mark:List Deferred}{w1:World}{g:Nat}{args':Array Value}{cs:List Frame}
  (hE:(Instr.enterLoop b.fn tmps params assign body b.roundOf).run P w=.ok (l,mark) w1)
  (hA:(do let d <- resolve (Act.eval ⟨tmps,ds⟩) { callee:=.value f,args := #[.const (.func (.yield l) #[] #[])],argTypes := #[] } 0;invoke d.target d.args:Sem Next).run P w1=.ok (.enter g args') w1) :
  step P (lone (b.atR ⟨tmps,ds⟩ (.code (.rangeFunc f params assign body)::k')) cs w)=.next (lone (Frame.enter P g args' .normal) (b.atR ⟨tmps,mark++ds⟩ (.inRangeFunc l::k')::cs) w1):=by
 refine step_lone_go ?_
 have he:(Frame.eval { b.atR ⟨tmps,ds⟩ (.code (.rangeFunc f params assign body)::k')with todo:=.inRangeFunc l::k',defers:=mark++ds })=Act.eval ⟨tmps,ds⟩:=funext fun x=>by cases x<;>rfl
 simp only[Frame.atR]at he;simp only[stepG,stepG.exec,Frame.atR,Sem.runT_eq,hE,GStep.bare_after,stepG.apply,he,hA,if_true];rfl
def zrm{l:Nat}{v:zA}{h:fB}(e:rQ C l v=some h):∃g first cap,v=.func (.func g) first cap/\C.prims.get g=none/\bI C g (eC first (.func (.yld l) [] []::cap)) false=some h:=by
 unfold rQ at e;rw[uA]at e;obtain⟨p,h1,h2⟩:=e
 obtain⟨fn,first,cap⟩:=p
 rw[zea]at h1
 cases fn with
 | yld m=>cases h2
 | func g=>
  cases hp:C.prims.get g with
  | some x=>simp only[hp]at h2;cases h2
  | none=>simp only[hp]at h2;exact⟨g,first,cap,h1,hp,h2⟩
def zfm{dp:Nat}(hS:Sim P C B N I){l:Nat}{i:BI}{v:zA}{h:fB}(e:rQ C l v=some h)(hi:μ l=some i){f:Operand}(hv:wA μ v (Act.eval ⟨tmps,ds⟩ f)){cur:Option xA} :
  ∃g args',(∀w,(do let d <- resolve (Act.eval ⟨tmps,ds⟩) { callee:=.value f,args := #[.const (.func (.yield i.b) #[] #[])],argTypes := #[] } 0;invoke d.target d.args:Sem Next).run P w=.ok (.enter g args') w) ∧
   nH C μ dp cur h (Frame.enter P g args' .normal):=by
 obtain⟨g,first,cap,rfl,hp,he⟩:=zrm e
 rw[wA]at hv;obtain⟨fn,a',c',hv,hf,h1,h2⟩:=hv
 cases hf;have hl:yB μ (eC first (.func (.yld l) [] []::cap)) (a' ++ #[Value.func (.yield i.b) #[] #[]]++c').toList:=by
  rw[oG];have:yB μ (zA.func (.yld l) [] []::cap) (Value.func (.yield i.b) #[] #[]::c'.toList):=.cons (by rw[wA];exact⟨_,_,_,rfl,⟨i,hi,rfl⟩,.nil,.nil⟩) h2
  simpa using h1.append this
 obtain⟨fr,fn,hfn,hb⟩:=nW (cur:=cur) hS.fns he hl
 refine⟨g,_,fun w=>?_,fr⟩
 simp only[yad,resolve,hv,Deferred.ofValue,yae,yac,invoke];have:Array.map (Act.eval ⟨tmps,ds⟩) #[Operand.const (Value.func (.yield i.b) #[] #[])] = #[Value.func (.yield i.b) #[] #[]]:=by simp[Act.eval]
 rw[this];exact uX hS.fns hfn hb
def z0p(hS:Sim P C B N I)(hH:cA B N μ H w)(hcs:xF C μ acs cs)(hR:kF μ R (b.atR ⟨tmps,ds⟩ []))(ht:fD μ R.n tm tmps)(hk:rC (wF μ) k k'){f:Operand}{params:Array Nat}{assign body:Code} :
  cC P C B N μ base (lone (b.atR ⟨tmps,ds⟩ (.code (.rangeFunc f params assign body)::k')) (cs++base) w) w (zie f params assign body C k tm R acs H):=by
 unfold zie
 cases hv:ev f (.now tm)with
 | none=>exact trivial
 | some v=>
  have hvr:=ht.erel (ds:=ds) hH.glob f _ hv
  rw[vA]
  cases hr:R.roundOf with
  | none=>
   have hb:b.roundOf=none:=by
    have:=hR.round
    rw[hr]at this;exact zfg this
   simp only[]
   cases hx:rQ C (H.next+1) v with
   | none=>exact trivial
   | some h=>
    have h1:=hH.newBlk (x:=.deferred (some [])) (o:=.deferred (some [])) (i:=⟨w.heap.size,true,0,0,false⟩) rfl rfl (by rw[aG];exact⟨_,rfl,.nil⟩)
    have le1:μ.le (μ.ext H.next ⟨w.heap.size,true,0,0,false⟩):=hH.ext_le
    have le2:(μ.ext H.next ⟨w.heap.size,true,0,0,false⟩).le ((μ.ext H.next ⟨w.heap.size,true,0,0,false⟩).ext (newBlk H (.deferred (some []))).next ⟨w.heap.size+1,true,0,0,false⟩):=h1.ext_le
    have sz:(w.alloc (.deferred (some []))).heap.size=w.heap.size+1:=Array.size_push ..
    have h2:=h1.newBlk (x:=.loop ⟨.ready,none,R.fn,R.n,tm,params.toList,assign,body,H.next⟩) (o:=.loop { state:=.ready,pending:=none,fn:=b.fn,tmps,params,assign,body,defers:=w.heap.size })
     (i:=⟨w.heap.size+1,true,0,0,false⟩) sz.symm rfl (by
      rw[aG];exact⟨_,rfl,rfl,rfl,hR.fn,(ht.mono le1.f).mono le2.f,rfl,rfl,rfl,⟨_,le2 _ _ Mu.ext_same,rfl⟩⟩)
    have le:=Mu.le_trans le1 le2
    have hi2:((μ.ext H.next ⟨w.heap.size,true,0,0,false⟩).ext (newBlk H (.deferred (some []))).next ⟨w.heap.size+1,true,0,0,false⟩) (H.next+1)=some ⟨w.heap.size+1,true,0,0,false⟩:=Mu.ext_same
    obtain⟨g,args',hA,hfr⟩:=zfm (ds:=ds) hS hx hi2 (hvr.mono le.f _ _) (cur:=some (newBlk (newBlk H (.deferred (some []))) (.loop ⟨.ready,none,R.fn,R.n,tm,params.toList,assign,body,H.next⟩)))
    have run:(Instr.enterLoop b.fn tmps params assign body b.roundOf).run P w=.ok (w.heap.size+1,[{ target:=.collected w.heap.size,args := #[] }]) ((w.alloc (.deferred (some []))).alloc (.loop { state:=.ready,pending:=none,fn:=b.fn,tmps,params,assign,body,defers:=w.heap.size })):=by
     rw[hb];simp[Instr.enterLoop,yad,yac]
    refine⟨_,_,b.atR ⟨tmps,{ target:=.collected w.heap.size,args := #[] }::ds⟩ (.inRangeFunc (w.heap.size+1)::k')::cs,_,.one (zcm run (hA _)),le,?_,h2,hfr,.cons ⟨?_,?_⟩ (hcs.mono le)⟩
    ·refine(bL hH.size _).trans (bL ?_ _)
     rw[sz];have:=hH.size;omega
    ·have:=hR.mono le.f
     exact⟨this.fn,this.size,.cons ⟨⟨_,le2 _ _ Mu.ext_same,rfl⟩⟩ this.defers,this.mode,this.kind,by have:=this.round;rw[hr]at this;exact this⟩
    ·show if R.mode.running=true then tJ C _ acs.length R.n none (.inRange (H.next+1)::k) tm (.inRangeFunc (w.heap.size+1)::k') tmps else _
     rw[yab hR.running];exact .plain (.cons (.inRange _ ⟨w.heap.size+1,true,0,0,false⟩ hi2) (hk.mono fun _ _ r=>r.mono le.f)) (ht.mono le.f)
  | some outer=>
   obtain⟨io,hio,hb⟩:∃i,μ outer=some i/\b.roundOf=some i.b:=by
    have:=hR.round
    rw[hr]at this;exact zan this
   simp only[]
   cases hlo:dH H outer with
   | none=>exact trivial
   | some o=>
    rw[vA]
    cases hx:rQ C H.next v with
    | none=>exact trivial
    | some h=>
     obtain⟨hl,r',hg,hw,rel⟩:=yW hH hlo hio
     obtain⟨idf,hdf,hdf'⟩:=rel.defers
     have le:μ.le (μ.ext H.next ⟨w.heap.size,true,0,0,false⟩):=hH.ext_le
     have h2:=hH.newBlk (x:=.loop ⟨.ready,none,R.fn,R.n,tm,params.toList,assign,body,o.defers⟩) (o:=.loop { state:=.ready,pending:=none,fn:=b.fn,tmps,params,assign,body,defers:=r'.defers })
      (i:=⟨w.heap.size,true,0,0,false⟩) rfl rfl (by
       rw[aG];exact⟨_,rfl,rfl,rfl,hR.fn,ht.mono le,rfl,rfl,rfl,⟨idf,le _ _ hdf,hdf'⟩⟩)
     have hi2:(μ.ext H.next ⟨w.heap.size,true,0,0,false⟩) H.next=some ⟨w.heap.size,true,0,0,false⟩:=Mu.ext_same
     obtain⟨g,args',hA,hfr⟩:=zfm (ds:=ds) hS hx hi2 (hvr.mono le.f _ _) (cur:=some (newBlk H (.loop ⟨.ready,none,R.fn,R.n,tm,params.toList,assign,body,o.defers⟩)))
     have run:(Instr.enterLoop b.fn tmps params assign body b.roundOf).run P w=.ok (w.heap.size,[]) (w.alloc (.loop { state:=.ready,pending:=none,fn:=b.fn,tmps,params,assign,body,defers:=r'.defers })):=by
      rw[hb];simp[Instr.enterLoop,yad,jV hw,yac]
     refine⟨_,_,b.atR ⟨tmps,ds⟩ (.inRangeFunc w.heap.size::k')::cs,_,.one (zcm run (hA _)),le,bL hH.size _,h2,hfr,.cons ⟨?_,?_⟩ (hcs.mono le)⟩
     ·have:=hR.mono le.f
      exact⟨this.fn,this.size,this.defers,this.mode,this.kind,this.round⟩
     ·show if R.mode.running=true then tJ C _ acs.length R.n none (.inRange H.next::k) tm (.inRangeFunc w.heap.size::k') tmps else _
      rw[yab hR.running];exact .plain (.cons (.inRange _ ⟨w.heap.size,true,0,0,false⟩ hi2) (hk.mono fun _ _ r=>r.mono le.f)) (ht.mono le.f)
def zlv{c:Code}:step P (lone (b.atR ⟨tmps,ds⟩ (.code (.scope c)::k')) cs w)=.next (lone (b.atR ⟨tmps,ds⟩ (.code c::.inScope c::k')) cs w):=
 step_lone_go (by simp[stepG,stepG.exec,Frame.atR])
def zg0{c:Code}:step P (lone (b.atR ⟨tmps,ds⟩ (.inScope c::k')) cs w)=.next (lone (b.atR ⟨tmps,ds⟩ k') cs w):=
 step_lone_go (by simp[stepG,stepG.exec,Frame.atR])
def z68(hS:Sim P C B N I)(hI:I w)(hH:cA B N μ H w)(hcs:xF C μ acs cs)(hR:kF μ R (b.atR ⟨tmps,ds⟩ []))(ht:fD μ R.n tm tmps):∀(c:Code) {k:List oD} {k':List Item},rC (wF μ) k k' →
  cC P C B N μ base (lone (b.atR ⟨tmps,ds⟩ (.code c::k')) (cs++base) w) w ((z4z c).f C k tm R acs H):=by
 intro c;induction c with
 | skip=>intro k k' hk;exact zhc hH hcs hR ht hk stepR_skip
 | region id ops d=>
  intro k k' hk
  cases d with
  | true=>exact z6y hS hH hcs hR ht hk
  | false=>
   refine cC.of_steps (.one stepR_region) (fun _ _ h=>h) (Below.refl N w) ?_
   have:=zi7 (base:=base) (all:=ops) hS ops.toList 0 tm.cut H w μ tmps (by simp) (yaw _) hI hH hcs hR ht.cut hk
   rw[ycr]at this;exact this
 | seq x y ihx _=>
  intro k k' hk;exact cC.of_steps (.one stepR_seq) (fun _ _ h=>h) (Below.refl N w) (ihx (.cons (.code y) hk))
 | cond c x y _ _=>intro k k' hk;exact z66 hH hcs hR ht hk
 | block id c _=>intro k k' hk;exact z2s hH hcs hR ht hk
 | loop c _=>intro k k' hk;exact z5x hH hcs hR ht hk
 | rangeFunc f ps a c _ _=>intro k k' hk;exact z0p hS hH hcs hR ht hk
 | exit id=>intro k k' hk;exact z6s hH hcs hR ht hk
 | scope c _=>intro k k' hk;exact pQ hH hcs hR ht (.cons (.code _) (.cons (.inScope _) hk)) (.one zlv)
 | label l=>intro k k' hk;exact zhc hH hcs hR ht hk stepR_label
 | goto l=>intro k k' _;exact trivial
 | ret=>intro k k' _;exact ret_ok hH hcs hR ht
 | refuse s=>intro k k' _;exact trivial
def z6t(hS:Sim P C B N I)(hI:I w)(hH:cA B N μ H w)(hcs:xF C μ acs cs)(hR:kF μ R (b.atR ⟨tmps,ds⟩ [])){todo:List oD}{btodo:List Item}(hb:tJ C μ acs.length R.n (some H) todo tm btodo tmps) :
  cC P C B N μ base (lone (b.atR ⟨tmps,ds⟩ btodo) (cs++base) w) w (jL C todo tm R acs H):=by
 generalize hc:some H=cur at hb
 cases hb with
 | plain a t=>
  cases a with
  | nil=>exact end_ok hH hcs hR t
  | cons i hk=>
   cases i with
   | code c=>exact z68 hS hI hH hcs hR t c hk
   | inBlock id=>exact zhc hH hcs hR t hk stepR_inBlock
   | inLoop c=>exact pQ hH hcs hR t (.cons (.code _) (.cons (.inLoop _) hk)) (.one stepR_inLoop)
   | inScope c=>exact zhc hH hcs hR t hk zg0
   | ops all i hi=>exact zi7 hS _ i _ _ _ _ _ rfl hi hI hH hcs hR t hk
   | inRange l i hl=>exact trivial
   | endRange l i hl=>exact zng hH hcs hR t hk hl
   | beginRound=>exact z2t hH hcs hR t hk
 | @reg _ all old _ olds stages _ order _ _ anc D S hr hst hp hk=>
  cases hc;show cC P C B N μ base _ w (zqr all old olds stages C _ tm R acs H)
  unfold zqr
  cases stages with
  | nil=>exact zu9 hS hH hcs hR hk hr hst hp
  | cons st stages=>
   by_cases hlt:st.heavy<=all.size
   ·obtain⟨_,_,D1,D2,h1,_⟩:=pX hst hlt
    obtain⟨o,ho,_⟩:=cV h1
    have:lC all.toList st.heavy=some o:=by rw[oF];simpa using ho
    simp only[this];exact z1s hS hI hH hcs hR hk hr hst hp ho
   ·have:lC all.toList st.heavy=none:=by rw[oF];simp;omega
    simp only[this];rw[iB,yab (dB.2 (by rw[gC];simp;omega))]
    by_cases hlt2:all.size+all.size<st.heavy
    ·rw[iB,yab (dB.2 (by rw[gC];simpa using hlt2))]
     exact zsc hS hH hcs hR hk hr hst hp hlt2
    rw[iB,yaa (fun e=>by have:=dB.1 e;rw[gC]at this;simp at this;omega)]
    have e0:Nat.sub st.heavy (Nat.succ (aA all.toList))=st.heavy-(all.size+1):=by rw[gC];simp
    rw[e0];exact zsd hS hH hcs hR hk hr hst hp (by omega) (by omega)
 | @mid _ all old _ olds lights again stages _ order _ _ anc D D2 S hr h1 h2 hw hk=>
  show cC P C B N μ base _ w (zqr all old olds (⟨all.size,lights,again⟩::stages) C _ tm R acs H)
  unfold zqr;have:lC all.toList all.size=none:=by rw[oF];simp
  simp only[this];rw[iB,yaa fun e=>by have:=dB.1 e;rw[gC]at this;simp at this]
  exact zwj hH hcs hR hk (st:=⟨all.size,lights,again⟩) hr h1 h2 hw
 | wait _ _ _ _ _=>cases hc
end
end
section
section
variable {P:Program}{C:oA}{B N:Nat}{I:World->Prop}{μ ν:Mu}{H H':xA}{w:World}{tm:Tm}{R:fH}{acs:List fB}{base cs:List Frame}
variable {b:Frame}{tmps:Array Value}
def zcl{block:Nat}{es calls:List Deferred}{w':World}(hm:b.mode≠.run)(hd:b.defers={ target:=.collected block,args := #[] }::es)(hr:(Instr.takeDeferred block).run P w=.ok calls w') :
  step P (lone b cs w)=.next (lone { b with defers:=calls++es } cs w'):=by
 obtain⟨fn,tmps,todo,defers,mode,kind,round⟩:=b
 simp only at hm hd
 subst hd;refine step_lone_go ?_
 cases mode with
 | run=>exact absurd rfl hm
 | returning=>simp[stepG,unwind,Sem.runT_eq,hr]
 | panicking c=>simp[stepG,unwind,Sem.runT_eq,hr]
def zrc{f:Nat}{cap as:Array Value}{es:List Deferred}(hm:b.mode≠.run)(hd:b.defers={ target:=.fn (.func f) cap,args:=as }::es)(hr:(callFunc f (as++cap)).run P w=.ok (.enter f (as++cap)) w) :
  step P (lone b cs w)=.next (lone (Frame.enter P f (as++cap) .deferred) ({ b with defers:=es }::cs) w):=by
 obtain⟨fn,tmps,todo,defers,mode,kind,round⟩:=b
 simp only at hm hd
 subst hd;refine step_lone_go ?_
 cases mode with
 | run=>exact absurd rfl hm
 | returning=>simp[stepG,unwind,callDeferred,invoke,Sem.runT_eq,hr]
 | panicking c=>simp[stepG,unwind,callDeferred,invoke,Sem.runT_eq,hr]
def gQ(c:Frame):Frame:=
 match c.mode with
 | .panicking ({ recovered:=true,.. }::older)=>
  match older.dropWhile (!·.goexit)with
  | []=>{ c with mode:=.returning }
  | rest=>{ c with mode:=.panicking rest }
 | _=>c
def zej{fn:Func}{v:Value}{c:Frame}(hm:b.mode=.returning)(hd:b.defers=[])(hk:b.kind=.deferred)(hf:P.funcs[b.fn]?=some fn)(hr:(results fn b.tmps).run P w=.ok v w) :
  step P (lone b (c::cs) w)=.next (lone (gQ c) cs w):=by
 refine step_lone_go ?_
 simp only[stepG,unwind,doReturn,hm,hd,hk,hf,Sem.runT_eq,hr,GStep.bare_after];rfl
def zov(tmps:Array Value)(r:ResultVar):Sem Value:=
 match r with
 | .tmp t=>pure (tmps.getD t undef)
 | .cell a t=>do loadVar t (<- asAddr (tmps.getD a undef))
def zrk(fn:Func)(tmps:Array Value):results fn tmps=(do let vs <- fn.results.mapM (zov tmps);pure (if h:vs.size=1 then vs[0]else .tuple vs)):=rfl
def zbg(hT:rE P C)(hH:cA B N μ H w){n:Nat}(ht:fD μ n tm tmps):∀(rs:List ResultVar) (l:List zA),tF (vR C H tm) rs=some l →
  ∃vs,(rs.mapM (zov tmps)).run P w=.ok vs w/\yB μ l vs:=by
 intro rs;induction rs with
 | nil=>intro l h;rw[dS]at h;cases h;exact⟨[],by simp[yae],.nil⟩
 | cons r rs ih=>
  intro l h;rw[pK,uA]at h;obtain⟨a,ha,h⟩:=h
  rw[uA]at h;obtain⟨m,hm,h⟩:=h
  cases h;obtain⟨vs,h1,h2⟩:=ih m hm
  rw[List.mapM_cons]
  cases r with
  | tmp t=>
   refine⟨_,?_,.cons (ht.2 t a ha) h2⟩
   simp only[zov,yad,yae,yac,h1]
  | cell x t=>
   simp only[vR,uA,kT]at ha;obtain⟨p,⟨av,hav,rfl⟩,ty,hty,c,hc,hl⟩:=ha
   have hv:=ht.2 x _ hav
   rw[wA]at hv;obtain⟨i,hi,hv⟩:=hv
   obtain⟨v',h3,h4⟩:=zpc (P:=P) hH (hT.facts hty) hc hi hl
   refine⟨_,?_,.cons h4 h2⟩
   have ha:(asAddr (Value.pointer (some ⟨i.b,p.2,none⟩))).run P w=.ok ⟨i.b,p.2,none⟩ w:=rfl
   have one:(zov tmps (.cell x t)).run P w=.ok v' w:=by
    show((asAddr (tmps.getD x undef)).bind fun a=>loadVar t a).run P w=_
    rw[hv];exact h3
   simp only[yad,yae,yac,one,h1]
def zfh(hT:rE P C)(hH:cA B N μ H w){n:Nat}(ht:fD μ n tm tmps){fn:Func}{l:List zA}(h:sQ C H tm fn.results.toList=some l) :
  ∃v,(results fn tmps).run P w=.ok v w/\wA μ (lS l) v:=by
 obtain⟨vs,h1,h2⟩:=zbg hT hH ht _ _ h
 refine⟨if h:vs.toArray.size=1 then vs.toArray[0]else .tuple vs.toArray,?_,?_⟩
 ·rw[zrk,Array.mapM_eq_mapM_toList]
  simp only[yad,map_eq_pure_bind,h1,yac,yae]
 ·have hl:=h2.length
  cases l with
  | nil=>
   rw[yB]at h2;subst h2;rw[dif_neg (by simp)]
   show wA μ (.tup []) _
   rw[wA];exact⟨_,rfl,.nil⟩
  | cons a m=>
   cases m with
   | nil=>
    rw[yB]at h2;obtain⟨v,r,rfl,hv,hr⟩:=h2
    rw[yB]at hr;subst hr;rw[dif_pos (by simp)]
    exact hv
   | cons a2 m=>
    rw[dif_neg (by simp[hl])]
    show wA μ (.tup (a::a2::m)) _
    rw[wA];exact⟨_,rfl,by simpa using h2⟩
def DefRel(μ:Mu):Option (List jH)->Option (List Deferred)->Prop
 | none,none=>True
 | some a,some b=>rC (zR μ) a b
 | _,_=>False
def znm(hH:cA B N μ H w){l:Nat}{x:Option (List jH)}(h:iP H l=some x){i:BI}(h4:μ l=some i):B<=l/\∃x',H.t.get l=some (.deferred x)/\w.heap[i.b]?=some (.deferred x')/\DefRel μ x x':=by
 unfold iP at h;rw[zB,vE,uA]at h;obtain⟨h1,y,h2,h3⟩:=h
 have:y=.deferred x:=by cases y<;>simp[qA.asDeferred]at h3;rw[h3]
 subst this;obtain⟨o,h5,h6⟩:=hH.blk l _ i h2 h4
 rw[aG]at h6;obtain⟨r',rfl,h7⟩:=h6
 refine⟨Nat.le_of_not_lt fun hlt=>?_,r',h2,h5,?_⟩
 ·have:=(hH.low l _ i hlt h2 h4).2.2
  cases this
 cases x<;>cases r'<;>exact h7
def zrx{μ:Mu}{m:zey}{m':FrameMode}(h:zef μ m m')(hm:m.running=false):m'≠.run:=by
 rintro rfl
 cases m<;>first | exact h.elim | cases hm
def ztz(hS:Sim P C B N I)(hH:cA B N μ H w)(hcs:xF C μ acs cs){fr:fB}(hr:kF μ fr.R b)(hm:fr.R.mode.running=false)(ht:fD μ fr.R.n fr.tm b.tmps){d:jH}{l:List jH}(hd:fr.R.defers=d::l) :
  cC P C B N μ base (lone b (cs++base) w) w (ziu C d l fr acs H):=by
 have hrun:=zrx hr.mode hm
 have hds:=hr.defers
 rw[hd]at hds;generalize hbd:b.defers=bd at hds
 cases hds with
 | @cons _ e _ es h1 h2=>
  obtain⟨dfn,dr,dargs⟩:=d
  have h1:=h1.rel
  unfold ziu
  cases dfn with
  | none=>
   obtain⟨i,hi,rfl⟩:=h1
   simp only[]
   cases hx:iP H dr with
   | none=>exact trivial
   | some x=>
    rw[vA]
    cases x with
    | none=>exact trivial
    | some calls=>
     obtain⟨hl,x',hg,hw,rel⟩:=znm hH hx hi
     cases x' with
     | none=>exact rel.elim
     | some calls'=>
      have run:(Instr.takeDeferred i.b).run P w=.ok calls' (World.setBlk w i.b (.deferred none)):=by
       have:(setObj i.b (.deferred none)).run P w=.ok () (World.setBlk w i.b (.deferred none)):=aT hw (by intro a b c h;cases h)
       have hg:(getObj i.b).run P w=.ok (.deferred (some calls')) w:=by simp[getObj,Sem.run,hw]
       simp only[Instr.takeDeferred,yad,hg,yac,this,yae]
      refine⟨μ,_,cs,_,.one (zcl hrun hbd run),fun _ _ h=>h,gP (hH.own dr i hl hi).1,?_,⟨?_,?_⟩,hcs⟩
      ·refine hH.upd hg hi hl ?_
       rw[aG];exact⟨none,rfl,trivial⟩
      ·refine⟨hr.fn,hr.size,?_,hr.mode,hr.kind,hr.round⟩
       show rC (zR μ) (eC calls l) (calls'++es)
       rw[oG];exact rC.append rel h2
      ·show if fr.R.mode.running=true then tJ C _ _ _ _ _ _ _ _ else _
       rw[yaa (by rw[hm];simp)]
       exact ht
  | some fn=>
   cases fn with
   | yld m=>exact trivial
   | func f=>
    obtain⟨fn,cap,as,rfl,hfn,hl⟩:=h1
    cases hfn;simp only[]
    cases hp:C.prims.get f with
    | some x=>exact trivial
    | none=>
     simp only[]
     cases he:bI C f dargs true with
     | none=>exact trivial
     | some g=>
      obtain⟨h3,fn,hfn,hb⟩:=nW (cur:=some H) hS.fns he hl
      refine⟨μ,_,{ b with defers:=es }::cs,w,.one (zrc hrun hbd (uX hS.fns hfn hb)),fun _ _ h=>h,Below.refl N w,hH,h3,.cons ⟨⟨hr.fn,hr.size,h2,hr.mode,hr.kind,hr.round⟩,?_⟩ hcs⟩
      show if fr.R.mode.running=true then tJ C _ _ _ _ _ _ _ _ else _
      rw[yaa (by rw[hm];simp)]
      exact ht
def nH.still{dp:Nat}{cur cur':Option xA}{fr:fB}(h:nH C μ dp cur fr b)(hm:fr.R.mode.running=false):nH C μ dp cur' fr b:=by
 refine⟨h.rest,?_⟩
 have:=h.body
 rw[yaa (by rw[hm];simp)]at this ⊢
 exact this
def zh3{l:List PanicEntry}{m:List qS}(h:rC (rS μ) m l):l.dropWhile (!·.goexit)=[]:=by
 induction h with
 | nil=>rfl
 | cons a _ ih=>simp[a.goexit,ih]
def z2v(c:fB)(rest:List fB)(H:xA):Option zM:=
 match c.R.mode with
 | .panicking (⟨_,true⟩::_)=>some (⟨zcs c .returning,rest,H⟩:zM)
 | _=>jA (!c.R.mode.running) (some ⟨c,rest,H⟩)
def zoy(C:oA)(fr:fB)(ch:List qS)(cs:List fB)(H:xA):qE:=
 pI (ob (C.fns.get fr.R.fn) fun _=>match cs with | c::rest=>some ⟨zoz c ch,rest,H⟩ | []=>none) 19
def z7c{dp:Nat}{c:fB}{c':Frame}(hc:nH C μ dp none c c'){x:zM}{rest:List fB}(h:z2v c rest H=some x):x.cs=rest/\x.H=H/\nH C μ dp (some H) x.fr (gQ c'):=by
 have hm:=hc.rest.mode
 have stay:c'.mode=c'.mode->(gQ c'=c')->c.R.mode.running=false->x=⟨c,rest,H⟩->x.cs=rest/\x.H=H/\nH C μ dp (some H) x.fr (gQ c'):=by
  intro _ h1 h2 h3;subst h3;rw[h1];exact⟨rfl,rfl,hc.still h2⟩
 obtain⟨ct,ctm,cR⟩:=c
 obtain⟨f,n,de,mode,dd,ro⟩:=cR
 unfold z2v at h;simp only at h hm
 cases mode with
 | run=>cases h
 | returning=>
  cases hcm:c'.mode with
  | returning=>exact stay rfl (by unfold gQ;rw[hcm]) rfl (yci h).symm
  | _=>rw[hcm]at hm;exact hm.elim
 | panicking ch=>
  cases hcm:c'.mode with
  | run=>rw[hcm]at hm;exact hm.elim
  | returning=>rw[hcm]at hm;exact hm.elim
  | panicking ch'=>
   rw[hcm]at hm
   cases hm with
   | nil=>exact stay rfl (by unfold gQ;rw[hcm]) rfl (yci h).symm
   | @cons p e older older' hp hold=>
    obtain⟨pv,pr⟩:=p
    obtain⟨ev',er,eg⟩:=e
    obtain⟨q1,q2,q3⟩:=hp
    simp only at q1 q2 q3
    subst q2 q3
    cases er with
    | false=>exact stay rfl (by unfold gQ;rw[hcm]) rfl (yci h).symm
    | true=>
     cases yci h
     refine⟨rfl,rfl,?_⟩
     have:gQ c'={ c' with mode:=.returning }:=by
      unfold gQ;rw[hcm];simp only[zh3 hold]
     rw[this];have hb:=hc.body
     exact⟨⟨hc.rest.fn,hc.rest.size,hc.rest.defers,trivial,hc.rest.kind,hc.rest.round⟩,hb⟩
def zq4(hS:Sim P C B N I)(hH:cA B N μ H w)(hcs:xF C μ acs cs){fr:fB}(hr:kF μ fr.R b)(hm:b.mode=.returning)(hd:b.defers=[])(ht:fD μ fr.R.n fr.tm b.tmps) :
  cC P C B N μ base (lone b (cs++base) w) w (zcd C fr acs H):=by
 unfold zcd
 cases hx:ob (C.fns.get fr.R.fn) fun fn=>sQ C H fr.tm fn.results.toList with
 | none=>exact trivial
 | some l=>
  rw[uA]at hx;obtain⟨fn,hfn,hres⟩:=hx
  obtain⟨v,h1,h2⟩:=zfh hS.tys hH ht hres
  have hf:P.funcs[b.fn]?=some fn:=by rw[hr.fn];exact(hS.fns _ _ hfn).1
  have hk:=hr.kind
  simp only[]
  cases hcs with
  | nil=>
   simp only[iB]
   cases hdf:fr.R.deferred with
   | true=>exact trivial
   | false=>
    rw[hdf]at hk;rw[yaa (by simp)]
    split
    ·rename_i hroot
     exact⟨μ,b,w,v,.refl _ _,fun _ _ h=>h,Below.refl N w,hH,h2,by rw[hr.fn];exact pB.1 hroot,hm,hd,hk,fn,hf,h1⟩
    ·exact trivial
  | @cons c c' acs1 cs1 hc hcs1=>
   simp only[]
   cases hdf:fr.R.deferred with
   | true=>
    rw[hdf]at hk;simp only[cond_true];show cC P C B N μ base _ w (pI (z2v c acs1 H) 18)
    generalize hx:z2v c acs1 H=x
    cases x with
    | none=>exact trivial
    | some x=>
     obtain⟨h3,h4,h5⟩:=z7c hc hx
     obtain⟨xf,xc,xh⟩:=x
     simp only at h3 h4 h5
     subst h3 h4
     exact⟨μ,_,cs1,w,.one (zej hm hd hk hf h1),fun _ _ h=>h,Below.refl N w,hH,h5,hcs1⟩
   | false=>
    rw[hdf]at hk;simp only[cond_false]
    cases hfi:tG c (lS l)with
    | none=>exact trivial
    | some g=>
     exact⟨μ,_,cs1,w,.one (step_leave_returned ⟨hm,hd,hk,fn,hf,h1⟩),fun _ _ h=>h,Below.refl N w,hH,yT hc hfi h2,hcs1⟩
def ztx(hS:Sim P C B N I)(hH:cA B N μ H w)(hcs:xF C μ acs cs){fr:fB}(hfr:nH C μ acs.length (some H) fr b)(hm:fr.R.mode.running=false) :
  cC P C B N μ base (lone b (cs++base) w) w (zgq C fr acs H):=by
 have ht:fD μ fr.R.n fr.tm b.tmps:=by
  have:=hfr.body
  rw[yaa (by rw[hm];simp)]at this
  exact this
 have hr:=hfr.rest
 unfold zgq
 cases hd:fr.R.defers with
 | cons d l=>exact ztz hS hH hcs hr hm ht hd
 | nil=>
  have hbd:b.defers=[]:=by
   have:=hr.defers
   rw[hd]at this;generalize hbd:b.defers=bd at this
   cases this
   rfl
  have hmode:=hr.mode
  simp only[]
  cases hmo:fr.R.mode with
  | run=>rw[hmo]at hm;cases hm
  | returning=>
   rw[hmo]at hmode;have:b.mode=.returning:=by
    cases hb:b.mode with
    | returning=>rfl
    | _=>rw[hb]at hmode;exact hmode.elim
   exact zq4 hS hH hcs hr this hbd ht
  | panicking ch=>
   rw[hmo]at hmode
   cases hb:b.mode with
   | run=>rw[hb]at hmode;exact hmode.elim
   | returning=>rw[hb]at hmode;exact hmode.elim
   | panicking ch'=>
    rw[hb]at hmode;show cC P C B N μ base _ w (zoy C fr ch acs H)
    unfold zoy
    cases hfn:C.fns.get fr.R.fn with
    | none=>exact trivial
    | some fn=>
     rw[vA];have hf:P.funcs[b.fn]?=some fn:=by rw[hr.fn];exact(hS.fns _ _ hfn).1
     cases hcs with
     | nil=>exact trivial
     | @cons c c' acs1 cs1 hc hcs1=>
      exact⟨μ,_,cs1,w,.one (step_leave_panicked ⟨hb,hbd,fn,hf⟩),fun _ _ h=>h,Below.refl N w,hH,zox hc hmode,hcs1⟩
def zz8(hS:Sim P C B N I)(hI:I w){s:zM}(hH:cA B N μ s.H w)(hcs:xF C μ s.cs cs)(hfr:nH C μ s.cs.length (some s.H) s.fr b):cC P C B N μ base (lone b (cs++base) w) w (stepA C s):=by
 obtain⟨⟨todo,tm,R⟩,acs,H⟩:=s
 show cC P C B N μ base _ w (bif R.mode.running then jL C todo tm R acs H else zgq C ⟨todo,tm,R⟩ acs H)
 cases hm:R.mode.running with
 | false=>exact ztx hS hH hcs hfr hm
 | true=>
  have hb:=hfr.body
  have hr:=hfr.rest
  simp only at hb hr
  rw[yab hm]at hb;have hbm:b.mode=.run:=by
   have h:=hr.mode
   cases hmo:R.mode with
   | run=>
    rw[hmo]at h
    cases hb:b.mode with
    | run=>rfl
    | _=>rw[hb]at h;exact h.elim
   | _=>rw[hmo]at hm;cases hm
  have e:=z2w hbm
  have:=z6t (b:=b) (tmps:=b.tmps) (ds:=b.defers) (base:=base) hS hI hH hcs ⟨hr.fn,hr.size,hr.defers,by have:=hr.mode;rw[hbm]at this;exact this,hr.kind,hr.round⟩ hb
  rw[e]at this;exact this
def zoo(hS:Sim P C B N I)(hI:I w){m:Machine}{o:qE}(h:cC P C B N μ base m w o):cC P C B N μ base m w (zrd C o):=by
 cases o with
 | fail n=>exact trivial
 | done v H=>exact h
 | next s=>
  obtain⟨μ',b,cs,w',h1,h2,h3,h4,h5,h6⟩:=h
  exact cC.of_steps h1 h2 h3 (zz8 hS (hS.inv _ _ h3 hI) h4 h6 h5)
def z5j(hS:Sim P C B N I)(hI:I w){m:Machine}:∀(n:Nat) {o:qE},cC P C B N μ base m w o->cC P C B N μ base m w (zrj C n o):=by
 intro n;induction n with
 | zero=>intro o h;exact zoo hS hI h
 | succ n ih=>intro o h;exact ih (ih h)
def zkq(hS:Sim P C B N I)(hI:I w){f:Nat}(hroot:C.root=f){args:List zA}{args':Array Value}(hH:cA B N μ H w)(hl:yB μ args args'.toList){g:fB}(he:bI C f args false=some g){n:Nat}{v:zA}{H':xA}
  (hrun:zrj C n (.next ⟨g,[],H⟩)=.done v H') :
  Calls P f args' w fun e w'=>∃v' μ',e=.returned v'/\μ.lw μ'/\wA μ' v v'/\cA B N μ' H' w'/\Below N w w':=by
 intro base;have h0:cC P C B N μ base (lone (Frame.enter P f args' .normal) base w) w (.next ⟨g,[],H⟩):=
  ⟨μ,_,[],w,.refl _ _,fun _ _ h=>h,Below.refl N w,hH,(nW (cur:=some H) hS.fns he hl).1,.nil⟩
 have h1:=z5j hS hI n h0
 rw[hrun]at h1;obtain⟨μ',b,w',v',h2,h3,h4,h5,h6,h7,h8⟩:=h1
 exact⟨.returned v',w',b,⟨v',μ',rfl,h3,h6,h5,h4⟩,h2,by rw[h7,hroot],h8⟩
end
end
section
abbrev wB:=Option (zA × xA)
abbrev vG:=AFn->List zA->xA->wB
structure Kt where
 norm:Tm->xA->wB
 exit:Nat->Tm->xA->wB
 ret:Tm->xA->wB
structure PI where
 id:Nat
 pl:List Nat
 ll:List (Nat × Nat)
def PI.kept(p:PI):List Nat:=eC p.pl (List.rec (motive:=fun _=>List Nat) [] (fun a _ r=>a.1::r) p.ll)
inductive aC where
 | skip
 | region (id:Nat) (ops:Array Oper) (draw:Bool)
 | seq (a b:aC)
 | cond (c:Operand) (x y:aC)
 | block (id:Nat) (c:aC)
 | loop (p:PI) (c:aC)
 | exit (id:Nat)
 | ret
 | cut (p:PI) (c:aC)
 | range (i:Nat) (pl:List Nat) (f:Operand) (ps:Array Nat) (id:Nat) (ops:Array Oper) (c:aC)
def cE:aC->Code
 | .skip=>.skip
 | .region id ops d=>.region id ops d
 | .seq a b=>.seq (cE a) (cE b)
 | .cond c x y=>.cond c (cE x) (cE y)
 | .block id c=>.block id (cE c)
 | .loop _ c=>.loop (cE c)
 | .exit id=>.exit id
 | .ret=>.ret
 | .cut _ c=>cE c
 | .range _ _ f ps id ops c=>.rangeFunc f ps (.region id ops false) (cE c)
def lim {α:Type}(f:Nat->Option α):Option α:=@dite _ (∃n r,f n=some r) (Classical.propDecidable _) (fun h=>f h.choose) (fun _=>none)
def Mono {α:Type}(f:Nat->Option α):Prop:=∀n r,f n=some r->f (n+1)=some r
def Mono.le{α:Type}{f:Nat->Option α}(h:Mono f){n m:Nat}{r:α}(hr:f n=some r)(hnm:n<=m):f m=some r:=by
 induction hnm with
 | refl=>exact hr
 | step _ ih=>exact h _ _ ih
def zbs{α:Type}{f:Nat->Option α}(h:Mono f){r:α}:lim f=some r ↔ ∃n,f n=some r:=by
 unfold lim;by_cases hx:∃n r,f n=some r
 ·rw[dif_pos hx]
  obtain⟨r0,h0⟩:=hx.choose_spec
  constructor
  ·intro e;exact⟨_,e⟩
  ·rintro⟨n,hn⟩
   have a:=h.le h0 (Nat.le_max_left hx.choose n)
   have b:=h.le hn (Nat.le_max_right hx.choose n)
   rw[a]at b;rw[h0];exact b
 ·rw[dif_neg hx]
  constructor
  ·intro e;cases e
  ·rintro⟨n,hn⟩;exact absurd ⟨n,r,hn⟩ hx
def z5t:rD->zA->(zA->wB)->wB
 | .bool,v,K=>ob v.asBool fun b=>K (.bool b)
 | .int k,v,K=>ob v.asIntK fun p=>jA (kEq p.1 k) (K (.int k p.2))
 | .string,v,K=>ob v.asStr fun l=>K (.str l)
 | .ptr _,v,K=>K v
 | .slice _,v,K=>K v
 | .arr _ _,v,K=>K v
 | .map _ _,v,K=>K v
 | .struct _,v,K=>K v
 | .func,v,K=>K v
 | .iface,v,K=>K v
 | .other,v,K=>K v
def fitD:rD->zA->Prop
 | .bool,v=>∃b,v=.bool b
 | .int k,v=>∃n,v=.int k n
 | .string,v=>∃l,v=.str l
 | _,_=>True
def zry{d:rD}{v:zA}{K:zA->wB}{x:zA × xA}:z5t d v K=some x ↔ fitD d v/\K v=some x:=by
 cases d<;>simp only[z5t,fitD,uA,zB,true_and]
 case bool=>
  constructor
  ·rintro⟨b,h1,h2⟩;have:=eQ.1 h1;subst this;exact⟨⟨b,rfl⟩,h2⟩
  ·rintro⟨⟨b,rfl⟩,h⟩;exact⟨b,rfl,h⟩
 case int k=>
  constructor
  ·rintro⟨p,h1,h2,h3⟩;have:=hO.1 h1;subst this;rw[nI.1 h2];exact⟨⟨p.2,rfl⟩,h3⟩
  ·rintro⟨⟨n,rfl⟩,h⟩;exact⟨(k,n),rfl,nI.2 rfl,h⟩
 case string=>
  constructor
  ·rintro⟨b,h1,h2⟩;have:=iO.1 h1;subst this;exact⟨⟨b,rfl⟩,h2⟩
  ·rintro⟨⟨b,rfl⟩,h⟩;exact⟨b,rfl,h⟩
def qI(C:oA)(t:Nat)(v:zA)(K:zA->wB):wB:=
 match C.tys.get t with
 | some ty=>z5t ty.desc v K
 | none=>K v
def z16 (C:oA)(t:Nat)(v:zA):Prop:=
 match C.tys.get t with
 | some ty=>fitD ty.desc v
 | none=>True
def qK{C:oA}{t:Nat}{v:zA}{K:zA->wB}{x:zA × xA}:qI C t v K=some x ↔ z16 C t v/\K v=some x:=by
 unfold qI z16;split
 ·exact zry
 ·simp
def vF (φ:vG)(r:uI)(H:xA)(k:zA->xA->wB):wB:=
 match r with
 | .val v H'=>k v H'
 | .enter f args=>ob (φ (.func f) args H) fun p=>k p.1 p.2
 | .round l args=>ob (φ (.yld l) args H) fun p=>k p.1 p.2
 | _=>none
def qJ (C:oA)(φ:vG)(all:Array Oper)(n:Nat)(κ:Tm->xA->wB)(l:List Oper):Tm->xA->wB:=
 List.rec (motive:=fun _=>Tm->xA->wB) κ
  (fun o _ g tm H=>ob (jE o.guard all tm) fun w=>Bool.rec (motive:=fun _=>wB) (g (putA n tm o.dst tD) H)
   (vF φ ((aE o.op).f C (.now tm) H) H fun v H'=>qI C o.type v fun v=>g (putA n tm o.dst v) H') w) l
def pG(C:oA)(H:xA)(all:Array Oper)(n:Nat)(old:Tm)(olds:List (Nat × List Nat))(k:Tm->wB)(l:List Nat):Tm->wB:=
 List.rec (motive:=fun _=>Tm->wB) k
  (fun i _ g tm=>ob (lC all.toList i) fun o=>ob (jE o.guard all tm) fun w=>Bool.rec (motive:=fun _=>wB) (g (putA n tm o.dst tD))
   (ob ((mE o.op).f C (.mixed tm old (kD i olds) (iF o.op)) H) fun v=>qI C o.type v fun v=>g (putA n tm o.dst v)) w) l
def iI(C:oA)(H:xA)(all:Array Oper)(old:Tm)(olds:List (Nat × List Nat))(tm:Tm)(k:wB)(l:List Nat):wB:=
 List.rec (motive:=fun _=>wB) k
  (fun i _ g=>ob (lC all.toList i) fun o=>ob o.dst fun d=>ob (jE o.guard all tm) fun w=>Bool.rec (motive:=fun _=>wB) g
   (ob ((mE o.op).f C (.mixed tm old (kD i olds) (iF o.op)) H) fun v=>qI C o.type v fun v=>ob (tm.get d) fun u=>jA (same 10 v u) g) w) l
def hvI (all:Array Oper)(h:Nat):Nat:=bif Nat.blt (aA all.toList) h then Nat.sub h (Nat.succ (aA all.toList))else h
def iN(C:oA)(all:Array Oper)(h:Nat)(o:Oper)(tm:Tm):Option Bool:=ob (jE o.guard all tm) fun w=>bif Nat.blt (aA all.toList) h then jA (w&&wI o.op&&gG (z06 C o.op)) (some w)else some w
def rN(all:Array Oper)(st:xE):Bool:=Nat.blt (aA all.toList+aA all.toList) st.heavy
def zkb(C:oA)(all:Array Oper)(n:Nat)(old:Tm)(olds:List (Nat × List Nat))(st:xE)(g:Tm->xA->wB)(tm:Tm)(H:xA):wB:=
 jA (sP C all) (ob (zsp all old olds tm st.again) fun es=>ob (jP C es H) fun H'=>pG C H' all n old olds (fun tm=>g tm H') st.lights tm)
def lG(C:oA)(φ:vG)(all:Array Oper)(n:Nat)(old:Tm)(olds:List (Nat × List Nat))(κ:Tm->xA->wB)(l:List xE):Tm->xA->wB:=
 List.rec (motive:=fun _=>Tm->xA->wB) κ
  (fun st _ g tm H=>Bool.rec (motive:=fun _=>wB) (ob (lC all.toList (hvI all st.heavy)) fun o=>ob (iN C all st.heavy o tm) fun w=>
   (fun cont:zA->xA->wB=>Bool.rec (motive:=fun _=>wB) (cont tD H)
    (vF φ ((aE o.op).f C (.mixed tm old (kD (hvI all st.heavy) olds) (iF o.op)) H) H fun v H'=>qI C o.type v fun v=>cont v H') w)
   (fun v H'=>iI C H' all old olds (putA n tm o.dst v) (pG C H' all n old olds (fun tm=>g tm H') st.lights (putA n tm o.dst v)) st.again)) (zkb C all n old olds st g tm H) (rN all st)) l
def xU(C:oA)(φ:vG)(fn n:Nat)(κ:Tm->xA->wB)(id:Nat)(all:Array Oper)(draw:Bool):Tm->xA->wB:=
 Bool.rec (motive:=fun _=>Tm->xA->wB) (fun tm H=>qJ C φ all n κ all.toList tm.cut H)
  (fun tm H=>ob (ob (C.plans.get fn) fun t=>t.get id) fun p=>jA (vN all p) (pG C H all n tm.cut p.olds (fun tm'=>lG C φ all n tm.cut p.olds κ p.stages tm' H) p.first tm.cut)) draw
def zj5(tm:Tm)(live:List Nat):Tr zA:=
 List.rec (motive:=fun _=>Tr zA) .leaf (fun i _ t=>match tm.get i with | some v=>t.set i v | none=>t) live
def keep (live:List Nat)(tm:Tm):Tm:=⟨tm.k,zj5 tm live,[]⟩
def isDef0:Option (List jH)->Bool
 | some []=>true
 | _=>false
def bQ(κ:Kt)(p:Option Code)(tm:Tm)(H:xA):wB:=
 match p with
 | none=>κ.norm tm H
 | some .ret=>κ.ret tm H
 | _=>none
def endLoop(H:xA)(l:Nat)(r:wL):xA:=setBlk H l (.loop ⟨.exhausted,r.pending,r.fn,r.n,r.tm,r.params,r.assign,r.body,r.defers⟩)
def sL(C:oA)(φ:vG)(fn n:Nat)(κ:Kt)(f:Operand)(ps:List Nat)(a b:Code)(tm:Tm)(H:xA):wB:=
 ob (ev f (.now tm)) fun v=>ob v.asFunc fun q=>match q.1 with
  | .yld _=>none
  | .func g=>jA (gG (C.prims.get g)) (ob (φ (.func g) (eC q.2.1 (.func (.yld (H.next+1)) [] []::q.2.2)) (newBlk (newBlk H (.deferred (some []))) (.loop ⟨.ready,none,fn,n,tm,ps,a,b,H.next⟩))) fun y=>
   ob (dH y.2 (H.next+1)) fun r=>jA (!Nat.beq (LoopState.tag r.state) 1) (ob (bQ κ r.pending tm (endLoop y.2 (H.next+1) r)) fun z=>
    ob (iP z.2 H.next) fun d=>jA (isDef0 d) (some (z.1,setBlk z.2 H.next (.deferred none)))))
def bC (C:oA)(φ:vG)(fn n:Nat)(c:aC):Kt->Tm->xA->wB:=
 aC.rec (motive:=fun _=>Kt->Tm->xA->wB)
  (fun κ tm H=>κ.norm tm H)
  (fun id all draw κ=>xU C φ fn n κ.norm id all draw)
  (fun _ _ ga gb κ=>ga ⟨gb κ,κ.exit,κ.ret⟩)
  (fun c _ _ gx gy κ tm H=>ob (ob (ev c (.now tm)) zA.asBool) fun b=>Bool.rec (motive:=fun _=>wB) (gy κ tm H) (gx κ tm H) b)
  (fun id _ g κ=>g ⟨κ.norm,fun i tm H=>Bool.rec (motive:=fun _=>wB) (κ.exit i tm H) (κ.norm tm H) (Nat.beq id i),κ.ret⟩)
  (fun live _ g κ tm H=>lim fun m=>Nat.rec (motive:=fun _=>Tm->xA->wB) (fun _ _=>none) (fun _ r tm H=>g ⟨r,κ.exit,κ.ret⟩ (keep live.kept tm) H) m tm H)
  (fun id κ tm H=>κ.exit id tm H)
  (fun κ tm H=>κ.ret tm H)
  (fun live _ g κ tm H=>g κ (keep live.kept tm) H)
  (fun _ _ f ps id ops c _ κ tm H=>sL C φ fn n κ f ps.toList (.region id ops false) (cE c) tm H) c
end
section
def Le2 {α β γ:Type}(k k':α->β->Option γ):Prop:=∀a b x,k a b=some x->k' a b=some x
def OLe (φ φ':vG):Prop:=∀f a H x,φ f a H=some x->φ' f a H=some x
structure KLe (κ κ':Kt):Prop where
 norm:Le2 κ.norm κ'.norm
 exit:∀i,Le2 (κ.exit i) (κ'.exit i)
 ret:Le2 κ.ret κ'.ret
section
variable {C:oA}{φ φ':vG}{all:Array Oper}{n:Nat}{x:zA × xA}
def zja(hφ:OLe φ φ'){r:uI}{H:xA}{k k':zA->xA->wB}(hk:Le2 k k')(h:vF φ r H k=some x):vF φ' r H k'=some x:=by
 cases r<;>simp only[vF]at h ⊢<;>try (cases h;done)
 case val v H'=>exact hk _ _ _ h
 case enter f args=>
  rw[uA]at h ⊢
  obtain⟨p,h1,h2⟩:=h
  exact⟨p,hφ _ _ _ _ h1,hk _ _ _ h2⟩
 case round l args=>
  rw[uA]at h ⊢
  obtain⟨p,h1,h2⟩:=h
  exact⟨p,hφ _ _ _ _ h1,hk _ _ _ h2⟩
def zar{t:Nat}{k k':zA->xA->wB}(hk:Le2 k k'):Le2 (fun v H=>qI C t v fun v=>k v H) (fun v H=>qI C t v fun v=>k' v H):=by
 intro v H x h;rw[qK]at h ⊢
 exact⟨h.1,hk _ _ _ h.2⟩
def gS{κ:Tm->xA->wB}{o:Oper}{l:List Oper}{tm:Tm}{H:xA}:qJ C φ all n κ (o::l) tm H=ob (jE o.guard all tm) fun w=>if w=true then
   (vF φ ((aE o.op).f C (.now tm) H) H fun v H'=>qI C o.type v fun v=>qJ C φ all n κ l (putA n tm o.dst v) H')else qJ C φ all n κ l (putA n tm o.dst tD) H:=by
 show(ob (jE o.guard all tm) fun w=>Bool.rec (motive:=fun _=>wB) _ _ w)=_
 congr 1;funext w;rw[bG];rfl
def zc4(hφ:OLe φ φ'){κ κ':Tm->xA->wB}(hκ:Le2 κ κ'):∀(l:List Oper),Le2 (qJ C φ all n κ l) (qJ C φ' all n κ' l):=by
 intro l;induction l with
 | nil=>exact hκ
 | cons o l ih=>
  intro tm H x h;rw[gS,uA]at h ⊢
  obtain⟨w,h1,h2⟩:=h
  refine⟨w,h1,?_⟩
  split at h2
  ·rename_i e;rw[yab e];exact zja hφ (zar (k:=fun v H'=>qJ C φ all n κ l (putA n tm o.dst v) H') (k':=fun v H'=>qJ C φ' all n κ' l (putA n tm o.dst v) H') fun v H' y hy=>ih _ _ _ hy) h2
  ·rename_i e;rw[yaa e];exact ih _ _ _ h2
variable {H:xA}{old:Tm}{olds:List (Nat × List Nat)}
def fX{k:Tm->wB}{i:Nat}{l:List Nat}{tm:Tm}:pG C H all n old olds k (i::l) tm=ob (lC all.toList i) fun o=>ob (jE o.guard all tm) fun w=>if w=true then
   (ob ((mE o.op).f C (.mixed tm old (kD i olds) (iF o.op)) H) fun v=>qI C o.type v fun v=>pG C H all n old olds k l (putA n tm o.dst v))else pG C H all n old olds k l (putA n tm o.dst tD):=by
 show(ob (lC all.toList i) fun o=>ob (jE o.guard all tm) fun w=>Bool.rec (motive:=fun _=>wB) _ _ w)=_
 congr 1;funext o;congr 1;funext w;rw[bG];rfl
def iX{k k':Tm->wB}(hk:∀tm x,k tm=some x->k' tm=some x):∀(l:List Nat) tm x,pG C H all n old olds k l tm=some x->pG C H all n old olds k' l tm=some x:=by
 intro l;induction l with
 | nil=>exact hk
 | cons i l ih=>
  intro tm x h;rw[fX,uA]at h ⊢
  obtain⟨o,h1,h2⟩:=h
  refine⟨o,h1,?_⟩
  rw[uA]at h2 ⊢
  obtain⟨w,h3,h4⟩:=h2
  refine⟨w,h3,?_⟩
  split at h4
  ·rename_i e
   rw[yab e];rw[uA]at h4 ⊢
   obtain⟨v,h5,h6⟩:=h4
   rw[qK]at h6;exact⟨v,h5,by rw[qK];exact⟨h6.1,ih _ _ h6.2⟩⟩
  ·rename_i e;rw[yaa e];exact ih _ _ h4
def pZ{tm:Tm}{k:wB}{i:Nat}{l:List Nat}:iI C H all old olds tm k (i::l)=ob (lC all.toList i) fun o=>ob o.dst fun d=>ob (jE o.guard all tm) fun w=>if w=true then
   (ob ((mE o.op).f C (.mixed tm old (kD i olds) (iF o.op)) H) fun v=>qI C o.type v fun v=>ob (tm.get d) fun u=>jA (same 10 v u) (iI C H all old olds tm k l))else iI C H all old olds tm k l:=by
 show(ob (lC all.toList i) fun o=>ob o.dst fun d=>ob (jE o.guard all tm) fun w=>Bool.rec (motive:=fun _=>wB) _ _ w)=_
 congr 1;funext o;congr 1;funext d;congr 1;funext w;rw[bG];rfl
def iW{tm:Tm}{k:wB}:∀(l:List Nat),iI C H all old olds tm k l=some x->wS C H all old olds tm l=true/\k=some x:=by
 intro l;induction l with
 | nil=>intro h;exact⟨rfl,h⟩
 | cons i l ih=>
  intro h;rw[pZ,uA]at h;obtain⟨o,h1,h⟩:=h
  rw[uA]at h;obtain⟨d,h2,h⟩:=h
  rw[uA]at h;obtain⟨w,h3,h⟩:=h
  unfold wS;simp only[h1,vA,h2,h3]
  cases w with
  | false=>exact ih h
  | true=>
   rw[yab rfl,uA]at h;obtain⟨v,h4,h⟩:=h
   rw[qK]at h;obtain⟨h5,h⟩:=h
   rw[uA]at h;obtain⟨y,h6,h⟩:=h
   rw[zB]at h;simp only[cond_true,h4,vA,h6,h.1];exact ih h.2
def zec{tm:Tm}{k k':wB}(hk:k'=some x):∀(l:List Nat),iI C H all old olds tm k l=some x->iI C H all old olds tm k' l=some x:=by
 intro l;induction l with
 | nil=>intro _;exact hk
 | cons i l ih=>
  intro h;rw[pZ,uA]at h ⊢
  obtain⟨o,h1,h⟩:=h
  refine⟨o,h1,?_⟩
  rw[uA]at h ⊢
  obtain⟨d,h2,h⟩:=h
  refine⟨d,h2,?_⟩
  rw[uA]at h ⊢
  obtain⟨w,h3,h⟩:=h
  refine⟨w,h3,?_⟩
  split at h
  ·rename_i e
   rw[yab e];rw[uA]at h ⊢
   obtain⟨v,h4,h⟩:=h
   refine⟨v,h4,?_⟩
   rw[qK]at h ⊢
   obtain⟨h5,h⟩:=h
   refine⟨h5,?_⟩
   rw[uA]at h ⊢
   obtain⟨y,h6,h⟩:=h
   refine⟨y,h6,?_⟩
   rw[zB]at h ⊢
   exact⟨h.1,ih h.2⟩
  ·rename_i e;rw[yaa e];exact ih h
def bT{κ:Tm->xA->wB}{st:xE}{l:List xE}{tm:Tm}(hg:rN all st=false):lG C φ all n old olds κ (st::l) tm H=ob (lC all.toList (hvI all st.heavy)) fun o=>ob (iN C all st.heavy o tm) fun w=>
   (fun cont:zA->xA->wB=>if w=true then(vF φ ((aE o.op).f C (.mixed tm old (kD (hvI all st.heavy) olds) (iF o.op)) H) H fun v H'=>qI C o.type v fun v=>cont v H')else cont tD H)
   (fun v H'=>iI C H' all old olds (putA n tm o.dst v) (pG C H' all n old olds (fun tm=>lG C φ all n old olds κ l tm H') st.lights (putA n tm o.dst v)) st.again):=by
 show Bool.rec (motive:=fun _=>wB) _ _ (rN all st)=_
 rw[hg];show(ob (lC all.toList (hvI all st.heavy)) fun o=>ob (iN C all st.heavy o tm) fun w=>(fun cont:zA->xA->wB=>Bool.rec (motive:=fun _=>wB) _ _ w) _)=_
 congr 1;funext o;congr 1;funext w;cases w<;>rfl
def oV{κ:Tm->xA->wB}{st:xE}{l:List xE}{tm:Tm}(hg:rN all st=true):lG C φ all n old olds κ (st::l) tm H=zkb C all n old olds st (lG C φ all n old olds κ l) tm H:=by
 show Bool.rec (motive:=fun _=>wB) _ _ (rN all st)=_
 rw[hg];rfl
def aX{st:xE}{g:Tm->xA->wB}{tm:Tm}{x:zA × xA}:zkb C all n old olds st g tm H=some x ↔ sP C all=true/\∃es H',zsp all old olds tm st.again=some es/\jP C es H=some H'/\pG C H' all n old olds (fun tm=>g tm H') st.lights tm=some x:=by
 unfold zkb;simp only[uA,zB];constructor
 ·rintro⟨h0,es,h1,H',h2,h3⟩;exact⟨h0,es,H',h1,h2,h3⟩
 ·rintro⟨h0,es,H',h1,h2,h3⟩;exact⟨h0,es,h1,H',h2,h3⟩
def bY(hφ:OLe φ φ'){κ κ':Tm->xA->wB}(hκ:Le2 κ κ'):∀(l:List xE),Le2 (lG C φ all n old olds κ l) (lG C φ' all n old olds κ' l):=by
 intro l;induction l with
 | nil=>exact hκ
 | cons st l ih=>
  intro tm H x h
  cases hg:rN all st with
  | true=>
   rw[oV hg,aX]at h ⊢
   obtain⟨h0,es,H',h1,h2,h3⟩:=h
   exact⟨h0,es,H',h1,h2,iX (fun tm x hx=>ih _ _ _ hx) _ _ _ h3⟩
  | false=>
  rw[bT hg,uA]at h ⊢
  obtain⟨o,h1,h⟩:=h
  refine⟨o,h1,?_⟩
  rw[uA]at h ⊢
  obtain⟨w,h2,h⟩:=h
  refine⟨w,h2,?_⟩
  have cont:∀v H' y,iI C H' all old olds (putA n tm o.dst v) (pG C H' all n old olds (fun tm=>lG C φ all n old olds κ l tm H') st.lights (putA n tm o.dst v)) st.again=some y →
    iI C H' all old olds (putA n tm o.dst v) (pG C H' all n old olds (fun tm=>lG C φ' all n old olds κ' l tm H') st.lights (putA n tm o.dst v)) st.again=some y:=by
   intro v H' y hy;exact zec (iX (fun tm x hx=>ih _ _ _ hx) _ _ _ (iW _ hy).2) _ hy
  simp only[]at h ⊢
  split at h
  ·rename_i e;rw[yab e];exact zja hφ (zar cont) h
  ·rename_i e;rw[yaa e];exact cont _ _ _ h
def za3(hφ:OLe φ φ'){κ κ':Tm->xA->wB}(hκ:Le2 κ κ'){fn id:Nat}{draw:Bool}:Le2 (xU C φ fn n κ id all draw) (xU C φ' fn n κ' id all draw):=by
 intro tm H x h
 cases draw with
 | false=>exact zc4 hφ hκ _ _ _ _ h
 | true=>
  have h:(ob (ob (C.plans.get fn) fun t=>t.get id) fun p=>jA (vN all p) (pG C H all n tm.cut p.olds (fun tm'=>lG C φ all n tm.cut p.olds κ p.stages tm' H) p.first tm.cut))=some x:=h
  show(ob (ob (C.plans.get fn) fun t=>t.get id) fun p=>jA (vN all p) (pG C H all n tm.cut p.olds (fun tm'=>lG C φ' all n tm.cut p.olds κ' p.stages tm' H) p.first tm.cut))=some x
  rw[uA]at h ⊢
  obtain⟨p,h1,h⟩:=h
  refine⟨p,h1,?_⟩
  rw[zB]at h ⊢
  exact⟨h.1,iX (fun tm x hx=>bY hφ hκ _ _ _ _ hx) _ _ _ h.2⟩
def zed{κ κ':Kt}(hκ:KLe κ κ'){p:Option Code}:Le2 (bQ κ p) (bQ κ' p):=by
 intro tm H x h;unfold bQ at h ⊢
 split at h
 ·exact hκ.norm _ _ _ h
 ·exact hκ.ret _ _ _ h
 ·cases h
def zcz(hφ:OLe φ φ'){κ κ':Kt}(hκ:KLe κ κ'){fn:Nat}{f:Operand}{ps:List Nat}{a b:Code}:Le2 (sL C φ fn n κ f ps a b) (sL C φ' fn n κ' f ps a b):=by
 intro tm H x h;unfold sL at h ⊢
 rw[uA]at h ⊢
 obtain⟨v,h1,h⟩:=h
 refine⟨v,h1,?_⟩
 rw[uA]at h ⊢
 obtain⟨q,h2,h⟩:=h
 refine⟨q,h2,?_⟩
 split at h
 ·cases h
 ·rw[zB,uA]at h ⊢
  obtain⟨h3,y,h4,h⟩:=h
  refine⟨h3,y,hφ _ _ _ _ h4,?_⟩
  rw[uA]at h ⊢
  obtain⟨r,h5,h⟩:=h
  refine⟨r,h5,?_⟩
  rw[zB,uA]at h ⊢
  obtain⟨h6,z,h7,h⟩:=h
  exact⟨h6,z,zed hκ _ _ _ h7,h⟩
end
end
end Go.Am
