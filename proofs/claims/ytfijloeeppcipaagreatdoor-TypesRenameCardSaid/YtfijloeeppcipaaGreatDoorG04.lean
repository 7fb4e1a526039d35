/- The simulation: regions that draw. -/
import Derived.Test.YtfijloeeppcipaaGreatDoorG03
set_option linter.all false
noncomputable section
namespace Go.Am
open Go Go.RowKit
section
section
variable {P:Program}{C:oA}{B N:Nat}{I:World->Prop}{μ ν:Mu}{H H':xA}{w:World}{tm:Tm}{R:nI}{acs:List xC}{base cs:List Frame}
variable {b:Frame}{tmps:Array Value}{ds:List Deferred}{k:List fD}{k':List Item}{all:Array Oper}{olds:List (Nat × List Nat)}{anc:Tr Nat}{old:Tm}{D:Nat}{S:Nat->Bool}{order:List Nat}
def aF.slots{tmps':Array Value}{todo:List Item}(h:aF μ R (b.atR ⟨tmps,ds⟩ todo))(hs:tmps'.size=R.n):aF μ R (b.atR ⟨tmps',ds⟩ todo):=⟨h.fn,hs,h.defers,h.mode,h.kind,h.round⟩
def tE.cut{n:Nat}(h:tE μ n tm tmps):tE μ n tm.cut tmps:=by
 refine⟨h.1,fun i v hv=>h.2 i v ?_⟩
 unfold Tm.cut Tm.get at hv;unfold Tm.get;simp only[nH]at hv ⊢
 split at hv
 ·rename_i e;rw[yab e];exact hv
 ·cases hv
def zxv(hS:Sim P C B N I)(hH:aA B N μ H w)(hcs:qF C μ acs cs)(hR:aF μ R (b.atR ⟨tmps,ds⟩ []))(hk:qC (jF μ) k k')
  (hr:cE μ all olds anc R.n old tm D S order tmps) (hst:zI all.toList anc [] D=true) (hp:sG C μ acs.length H all olds R.n old tm D S) :
  sD P C B N μ base (lone (b.atR ⟨tmps,ds⟩ (.inRegion all order::k')) (cs++base) w) w (znl C k tm R acs H):=by
 obtain⟨tmps',μ',w',s,g,t⟩:=regEnd (b:=b) (k:=k') (cs:=cs++base) (ds:=ds) hS.tys hst order S tmps μ w hH hr hp
 refine sD.of_steps s g.le g.below ?_
 exact vR g.heap (hcs.monoD fun d hd=>g.pd d (by omega)) ((hR.mono g.le).slots t.1) t (hk.mono fun _ _ r=>r.mono g.le) (.refl _ _)
def zza9(hS:Sim P C B N I)(hH:aA B N μ H w)(hcs:qF C μ acs cs)(hR:aF μ R (b.atR ⟨tmps,ds⟩ []))(ht:tE μ R.n tm tmps)(hk:qC (jF μ) k k'){id:Nat} :
  sD P C B N μ base (lone (b.atR ⟨tmps,ds⟩ (.code (.region id all true)::k')) (cs++base) w) w (zvy id all C k tm R acs H):=by
 unfold zvy
 cases hx:ob (ob (C.plans.get R.fn) fun t=>t.get id) fun p=>cA (yO all p) <| ob (yM C H all R.n tm.cut p.olds p.first tm.cut) fun tm'=>some (⟨⟨.reg all tm.cut p.olds p.stages::k,tm',R⟩,acs,H⟩:lM)with
 | none=>exact trivial
 | some s=>
  simp only[uA,wB]at hx;obtain⟨p,_,hok,tm',hl,hx⟩:=hx
  cases hx;obtain⟨anc,D,ro,h1,h2⟩:=zym hok
  obtain⟨r0,p0⟩:=z31 (C:=C) (H:=H) (dp:=acs.length) hS.mixed ro ht.cut (w.tape w.drawn (.order b.fn id))
  obtain⟨r1,p1⟩:=xY _ _ _ hl h1 r0 p0
  exact⟨μ,_,cs,_,.one stepR_region_draw,fun _ _ h=>h,(Below.refl N w).drew,hH.drew,⟨hR.todo,by rw[yab hR.running];exact .reg r1 h2 p1 hk⟩,hcs⟩
def zy8(hH:aA B N μ H w)(hcs:qF C μ acs cs)(hR:aF μ R (b.atR ⟨tmps,ds⟩ []))(hk:qC (jF μ) k k'){st:pE}{stages:List pE}{D2:Nat}
  (hr:cE μ all olds anc R.n old tm D S order tmps) (h1:wL all.toList st.lights D=some D2) (h2:zI all.toList anc stages D2=true) (hw:jQ C μ acs.length all olds R.n old tm D S st.again) :
  sD P C B N μ base (lone (b.atR ⟨tmps,ds⟩ (.inRegion all order::k')) (cs++base) w) w (zc0 all old olds st stages C k tm R acs H):=by
 unfold zc0
 cases hx:cA (vT C H all old olds tm st.again) (ob (yM C H all R.n old olds st.lights tm) fun tm=>some (⟨⟨.reg all old olds stages::k,tm,R⟩,acs,H⟩:lM))with
 | none=>exact trivial
 | some s=>
  simp only[uA,wB]at hx;obtain⟨ha,tm',hl,hx⟩:=hx
  cases hx;obtain⟨r1,p1⟩:=xY _ _ _ hl h1 hr (zv2 hw ha)
  exact⟨μ,_,cs,w,.refl _ _,fun _ _ h=>h,Below.refl N w,hH,⟨hR.todo,by rw[yab hR.running];exact .reg r1 h2 p1 hk⟩,hcs⟩
def zkv(hH:aA B N μ H w)(hcs:qF C μ acs cs)(hR:aF μ R (b.atR ⟨tmps,ds⟩ []))(ht:tE μ R.n tm tmps){m:Machine}{todo:List fD}{btodo:List Item}
  (hs:Steps P m (lone { b.atR ⟨tmps,ds⟩ btodo with mode:=.returning } (cs++base) w)):sD P C B N μ base m w (.next ⟨zdj ⟨todo,tm,R⟩ .returning,acs,H⟩):=
 ⟨μ,_,cs,w,hs,fun _ _ h=>h,Below.refl N w,hH,⟨⟨hR.fn,hR.size,hR.defers,trivial,hR.kind,hR.round⟩,ht⟩,hcs⟩
def vV{dst:Option Tmp}{v:Value}:Act.put ⟨tmps,ds⟩ dst v=⟨(Act.put ⟨tmps,ds⟩ dst v).tmps,ds⟩:=by unfold Act.put;cases dst<;>rfl
def za1{i:Nat}{rest:List Nat}{o:Oper}{v:zA}{cs:List Frame}(ho:all[i]?=some o)(hw:Region.wanted o (yielded all tmps)=true)(hd:∀c,o.op≠.defer c)
  (h:zqf P B N μ w (Act.eval ⟨tmps,ds⟩) o v H') :
  ∃v' w' μ',step P (lone (b.atR ⟨tmps,ds⟩ (.inRegion all (i::rest)::k')) cs w)=.next (lone (b.atR ⟨(Act.put ⟨tmps,ds⟩ o.dst v').tmps,ds⟩ (.inRegion all rest::k')) cs w') ∧
   μ.le μ'/\aA B N μ' H' w'/\Below N w w'/\vA μ' v v':=by
 obtain⟨v',w',μ',h1,h2,h3,h4,h5⟩:=h
 refine⟨v',w',μ',?_,h2,h3,h4,h5⟩
 rw[<- vV];rcases h1 with h1 | ⟨h1,rfl⟩
 ·exact dY (a:=⟨tmps,ds⟩) ho hw (by rw[Oper.semAt_eq _ _ _ hd];exact h1)
 ·exact zh9 (a:=⟨tmps,ds⟩) ho hw (by rw[Oper.semAt_eq _ _ _ hd];exact h1)
def zde{i:Nat}{rest:List Nat}{o:Oper}{f:FuncId}{args:Array Value}{cs:List Frame}{w':World}(ho:all[i]?=some o)(hw:Region.wanted o (yielded all tmps)=true)(hd:∀c,o.op≠.defer c)
  (h:(execOp (Act.eval ⟨tmps,ds⟩) o).run P w=.ok (.enter f args) w') :
  step P (lone (b.atR ⟨tmps,ds⟩ (.inRegion all (i::rest)::k')) cs w)=.next (lone (Frame.enter P f args .normal) (b.atR ⟨tmps,ds⟩ (.inRegion all (i::rest)::k')::cs) w'):=
 step_lone_go (by
  rw[stepGR_op (a:=⟨tmps,ds⟩) ho hw,Oper.semAt_eq _ _ _ hd]
  simp[stepG.apply,Sem.runT_eq,h,Frame.atR])
def zhn{i:Nat}{rest:List Nat}{o:Oper}{f:FuncId}{args:Array Value}{cs:List Frame}(ho:all[i]?=some o)(hw:Region.wanted o (yielded all tmps)=true)(hd:∀c,o.op≠.defer c)
  (h:(execOp (Act.eval ⟨tmps,ds⟩) o).run P w=.ok (.enter f args) w) {R:Value->World->Prop} (hc:Calls P f args w fun e w'=>∃v',e=.returned v'/\R v' w') :
  ∃v' w',Steps P (lone (b.atR ⟨tmps,ds⟩ (.inRegion all (i::rest)::k')) cs w) (lone (b.atR ⟨(Act.put ⟨tmps,ds⟩ o.dst v').tmps,ds⟩ (.inRegion all rest::k')) cs w')/\R v' w':=by
 obtain⟨e,w',fr,⟨v',rfl,h1⟩,h3,_,h5⟩:=hc (b.atR ⟨tmps,ds⟩ (.inRegion all (i::rest)::k')::cs)
 refine⟨v',w',?_,h1⟩
 refine .head (zde ho hw hd h) (Steps.trans h3 (.one ?_))
 rw[step_leave_returned h5,Frame.finish_atR,ho,<- vV];rfl
def aA.below{w':World}(hH:aA B N μ H w)(hb:Below w.heap.size w w'):aA B N μ H w':=by
 refine⟨hH.base,hH.glob,hH.low,hH.next,Nat.le_trans hH.size hb.size,hH.fresh,fun a x i hx h1=>?_,fun a i ha hi=>?_,hH.inj,hH.pnd⟩
 ·obtain⟨o,h2,h3⟩:=hH.blk a x i hx h1
  have hlt:i.b<w.heap.size:=(ybe.1 h2).1
  exact⟨o,by rw[hb.block _ hlt];exact h2,h3⟩
 ·obtain⟨h1,h2,h3⟩:=hH.own a i ha hi
  exact⟨h1,Nat.lt_of_lt_of_le h2 hb.size,h3⟩
def zQ{g:List zA->xA->Option zA}{f:FuncId}{al:List zA}{args':Array Value}{v:zA}{H':xA}(hv:xL g al H=some (v,H'))(hH:aA B N μ H w)
  (k:g al H=some v->(callFunc f args').run P w=.ok (.enter f args') w/\Calls P f args' w fun e w'=>∃v',e=.returned v'/\vA μ v v'/\Below w.heap.size w w') :
  (H'=H/\∃v',(callFunc f args').run P w=.ok (.value v') w/\vA μ v v') ∨
   ((callFunc f args').run P w=.ok (.enter f args') w/\Calls P f args' w fun e w'=>∃v' μ',e=.returned v'/\μ.le μ'/\aA B N μ' H' w'/\Below N w w'/\vA μ' v v'):=by
 unfold xL at hv;rw[uA]at hv;obtain⟨u,h1,h2⟩:=hv
 cases h2;obtain⟨h3,h4⟩:=k h1
 exact .inr ⟨h3,h4.mono fun e w' hh=>by obtain⟨v',g1,g2,g3⟩:=hh;exact⟨v',μ,g1,μ.le_refl,hH.below g3,g3.mono hH.size,g2⟩⟩
def tE.wanted{n:Nat}(R:tE μ n tm tmps){o:Oper}{w:Bool}(h:eE o.guard all tm=some w):Region.wanted o (yielded all tmps)=w:=by
 unfold eE zv3 at h;unfold Region.wanted
 cases hg:o.guard with
 | none=>rw[hg]at h;cases h;rfl
 | some jw=>
  obtain⟨j,want⟩:=jw
  rw[hg]at h;simp only[zj5,uA,eF]at h;obtain⟨d,⟨u,hu,hud⟩,v,hv,h⟩:=h
  have hu':all[j]?=some u:=by simpa using hu
  have hy:yielded all tmps j=match tmps[d]? with | some (.bool b)=>some b | _=>none:=by
   unfold yielded;rw[hu'];simp[hud]
   rfl
  simp only[];rw[hy];have rel:=R.2 d v hv
  by_cases hd:d<n
  ·have hs:d<tmps.size:=by rw[R.1];exact hd
   have e1:tmps[d]?=some (tmps.getD d undef):=by simp[Array.getD,hs]
   rw[e1];generalize tmps.getD d undef=x at rel
   cases hb:v.asBool with
   | some b=>
    rw[hb]at h;have:v=.bool b:=by cases v<;>simp[zA.asBool]at hb;rw[hb]
    rw[this,vA]at rel;subst rel;simp only[Option.some.injEq]at h;rw[<- h,nP]
    cases b<;>cases want<;>rfl
   | none=>
    rw[hb]at h
    cases h
    cases x with
    | bool b=>rw[zj6 rel]at hb;cases hb
    | _=>rfl
  ·have e1:tmps[d]?=none:=by simp[R.1];omega
   rw[e1];rw[oV (by rw[R.1];omega)]at rel
   cases hb:v.asBool with
   | some b=>
    have:v=.bool b:=by cases v<;>simp[zA.asBool]at hb;rw[hb]
    rw[this,vA]at rel
    cases rel
   | none=>rw[hb]at h;cases h;rfl
def zoi{fr:xC}{c:Frame}{w':World}{v:zA}{v':Value}{m:Machine}(hw:wI C μ acs.length none fr c)(hcs:qF C μ acs cs)(hm:μ.le ν)(hH:aA B N ν H' w')(hb:Below N w w')(hv:vA ν v v')
  (hs:Steps P m (lone (c.finish v') (cs++base) w')):sD P C B N μ base m w (z9l v H' C fr acs H):=by
 unfold z9l
 cases hx:ob (gG fr v) fun fr=>some (⟨fr,acs,H'⟩:lM)with
 | none=>exact trivial
 | some s=>
  rw[uA]at hx;obtain⟨fr',hf,hx⟩:=hx
  cases hx;exact⟨ν,_,cs,w',hs,hm,hb,hH,tU (hw.mono hm) hf hv,hcs.mono hm⟩
def aW{dp:Nat}(hF:zne P C){f:Nat}{args:List zA}{args':Array Value}{d:Bool}{g:xC}{cur:Option xA}(h:cJ C f args d=some g)(hl:zB μ args args'.toList) :
  wI C μ dp cur g (Frame.enter P f args' (if d then .deferred else .normal))/\∃fn,C.fns.get f=some fn/\fn.body.isSome=true:=by
 unfold cJ at h;simp only[uA,wB,ybb,kE]at h;obtain⟨fn,hfn,c,hc,k,hk,⟨h1,h2⟩,h3⟩:=h
 cases h3;obtain⟨h4,_⟩:=hF f fn hfn
 have hsz:args'.size=args.length:=by have:=hl.length;simpa using this
 rw[bC]at h1 h2;have size:(Frame.enter P f args' (if d then .deferred else .normal)).tmps.size=fn.ntmps:=by
  simp only[Frame.enter,h4,Option.map_some,Option.getD_some,Array.size_append,Array.size_replicate];omega
 refine⟨⟨⟨rfl,size,.nil,trivial,rfl,trivial⟩,?_⟩,fn,hfn,by rw[hc];rfl⟩
 show uK C μ dp fn.ntmps cur [.code c] ⟨k,Tr.ofList args,[]⟩ (Frame.enter P f args' (if d then .deferred else .normal)).todo (Frame.enter P f args' (if d then .deferred else .normal)).tmps
 have todo:(Frame.enter P f args' (if d then .deferred else .normal)).todo=[.code c]:=by simp[Frame.enter,h4,hc]
 rw[todo];refine .plain (.cons (.code c) .nil) ⟨size,fun i v hv=>?_⟩
 unfold Tm.get at hv;simp only[nH]at hv;split at hv
 ·rw[Tr.get_ofList]at hv
  obtain⟨x,hx,hr⟩:=hl.get hv
  have hi:i<args'.size:=by have:=(ybc.1 hx).1;simpa using this
  have:(Frame.enter P f args' (if d then .deferred else .normal)).tmps.getD i undef=x:=by
   simp only[Frame.enter,ycx];rw[yaj hi];have:args'[i]?=some x:=by simpa using hx
   rw[this];rfl
  rw[this];exact hr
 ·cases hv
def zx6(hF:zne P C){fr:xC}{c:Frame}{f:Nat}{args:List zA}{m:Machine}(hw:wI C μ acs.length none fr c)(hcs:qF C μ acs cs)(hH:aA B N μ H w)
  (hs:∀fn,C.fns.get f=some fn->fn.body.isSome=true->∃args',zB μ args args'.toList/\Steps P m (lone (Frame.enter P f args' .normal) (c::(cs++base)) w)) :
  sD P C B N μ base m w (zk1 f args C fr acs H):=by
 unfold zk1
 cases hx:cJ C f args false with
 | none=>exact trivial
 | some g=>
  obtain⟨fn,h1,h2⟩:∃fn,C.fns.get f=some fn/\fn.body.isSome=true:=by
   unfold cJ at hx;simp only[uA]at hx;obtain⟨fn,hfn,c,hc,_⟩:=hx
   exact⟨fn,hfn,by rw[hc];rfl⟩
  obtain⟨args',h3,h4⟩:=hs fn h1 h2
  exact⟨μ,_,c::cs,w,h4,fun _ _ h=>h,Below.refl N w,hH,(aW hF hx h3).1,.cons hw hcs⟩
end
end
section
def zg9:∀(l:List Oper) (t:Tr zA) (i:Nat) (v:zA),(zhh l t).get i=some v->t.get i=some v/\∀o∈l,o.dst≠some i:=by
 intro l;induction l with
 | nil=>intro t i v h;exact⟨h,fun _ ho=>by cases ho⟩
 | cons o l ih=>
  intro t i v h;unfold zhh at h
  cases hd:o.dst with
  | none=>
   rw[hd]at h;obtain⟨h1,h2⟩:=ih t i v h
   refine⟨h1,fun u hu=>?_⟩
   rcases ybs.1 hu with rfl | hu
   ·rw[hd];simp
   ·exact h2 u hu
  | some j=>
   rw[hd]at h;obtain⟨h1,h2⟩:=ih _ i v h
   rw[Tr.get_del]at h1;split at h1
   ·cases h1
   ·rename_i e
    refine⟨h1,fun u hu=>?_⟩
    rcases ybs.1 hu with rfl | hu
    ·rw[hd];exact fun k=>e (yci k).symm
    ·exact h2 u hu
def cE.left{μ:Mu}{all:Array Oper}{olds:List (Nat × List Nat)}{anc:Tr Nat}{n:Nat}{old tm:Tm}{D:Nat}{S:Nat->Bool}{order:List Nat}{tmps:Array Value}(R:cE μ all olds anc n old tm D S order tmps) :
  tE μ n ⟨tm.k,zhh all.toList tm.v,[]⟩ tmps:=by
 refine⟨R.size,fun t v hv=>?_⟩
 unfold Tm.get at hv;simp only[nH]at hv;split at hv
 case isFalse=>cases hv
 rename_i hk;obtain⟨h1,h2⟩:=zg9 _ _ _ _ hv
 have hv:tm.get t=some v:=by unfold Tm.get;simp only[nH];rw[yab hk];exact h1
 have hw:∀(i:Nat) (o:Oper),all[i]?=some o->o.dst=some t->False:=fun i o ho hd=>h2 o (by
  have:all.toList[i]?=some o:=by simpa using ho
  exact ycv this) hd
 by_cases hn:t<n
 ·have k:=R.keep t hn fun i o a b=>(hw i o a b).elim
  exact R.past t v hn (fun i o a b=>(hw i o a b).elim) (by rw[<- k];exact hv)
 ·rw[oV (by rw[R.size];omega)]
  exact R.big t v (by omega) (.inl hv)
def uK.left{C:oA}{μ:Mu}{dp n:Nat}{cur:Option xA}{todo:List fD}{tm:Tm}{btodo:List Item}{tmps:Array Value}(h:uK C μ dp n cur todo tm btodo tmps):tE μ n (zlu todo tm) tmps:=by
 cases h with
 | plain a t=>
  cases a with
  | nil=>exact t
  | cons x l=>cases x<;>exact t
 | reg a _ _ _=>exact a.left
 | mid a _ _ _ _=>exact a.left
 | wait a _ _ _ _=>exact a.left
def qC.append{α β:Type}{R:α->β->Prop}{l l':List α}{m m':List β}(h:qC R l m)(h':qC R l' m'):qC R (l++l') (m++m'):=by
 induction h with
 | nil=>exact h'
 | cons a _ ih=>exact .cons a ih
def tE.left{μ:Mu}{n:Nat}{tm:Tm}{tmps:Array Value}(h:tE μ n tm tmps)(todo:List fD):tE μ n (zlu todo tm) tmps:=by
 unfold zlu;split
 ·refine⟨h.1,fun t v hv=>h.2 t v ?_⟩
  unfold Tm.get at hv ⊢
  simp only[nH]at hv ⊢
  split at hv
  ·rename_i e;rw[yab e];exact(zg9 _ _ _ _ hv).1
  ·cases hv
 ·exact h
def zra{C:oA}{μ:Mu}{dp:Nat}{cur cur':Option xA}{fr:xC}{b:Frame}{l:List zca}{l':List PanicEntry}(h:wI C μ dp cur fr b)(hl:qC (qT μ) l l'):wI C μ dp cur' (zrc fr l) (b.raise l'):=by
 have t:tE μ fr.R.n (zlu fr.todo fr.tm) b.tmps:=by
  have:=h.body
  split at this
  ·exact this.left
  ·exact this.left _
 have r:=h.rest
 obtain⟨todo,tm,fn,n,defers,mode,deferred,round⟩:=fr
 obtain⟨bfn,btmps,btodo,bdefers,bmode,bkind,bround⟩:=b
 have m:=r.mode
 cases mode<;>cases bmode<;>first | exact m.elim | skip
 ·exact⟨⟨r.fn,r.size,r.defers,hl,r.kind,r.round⟩,t⟩
 ·exact⟨⟨r.fn,r.size,r.defers,hl,r.kind,r.round⟩,t⟩
 ·refine⟨⟨r.fn,r.size,r.defers,?_,r.kind,r.round⟩,t⟩
  show qC (qT μ) (xD l _) _
  rw[iG];exact hl.append m
end
section
section
variable {P:Program}{C:oA}{B N:Nat}{I:World->Prop}{μ ν:Mu}{H H':xA}{w:World}{tm:Tm}{R:nI}{acs:List xC}{base cs:List Frame}
variable {b:Frame}{tmps:Array Value}{ds:List Deferred}{k:List fD}{k':List Item}{all:Array Oper}
def zx5{fr:xC}{c:Frame}{v:zA}{v':Value}{m:Machine}{cur:Option xA}(hw:wI C μ acs.length cur fr c)(hcs:qF C μ acs cs)(hH:aA B N μ H w)(hv:vA μ v v')
  (hs:Steps P m (lone (c.raise [{ v:=v',recovered:=false }]) (cs++base) w)):sD P C B N μ base m w (z7f v C fr acs H):=
 ⟨μ,_,cs,w,hs,fun _ _ h=>h,Below.refl N w,hH,zra hw (.cons ⟨hv,rfl,rfl⟩ .nil),hcs⟩
def zn4{i:Nat}{rest:List Nat}{o:Oper}{v:Value}{cs:List Frame}{w':World}(ho:all[i]?=some o)(hw:Region.wanted o (yielded all tmps)=true)(hd:∀c,o.op≠.defer c)
  (h:(execOp (Act.eval ⟨tmps,ds⟩) o).run P w=.halt (.panic v) w') :
  step P (lone (b.atR ⟨tmps,ds⟩ (.inRegion all (i::rest)::k')) cs w)=.next (lone ((b.atR ⟨tmps,ds⟩ (.inRegion all (i::rest)::k')).raise [{ v,recovered:=false }]) cs w'):=
 step_lone_go (by
  rw[stepGR_op (a:=⟨tmps,ds⟩) ho hw,Oper.semAt_eq _ _ _ hd]
  simp[stepG.apply,Sem.runT_eq,h])
def mW(hH:aA B N μ H w){l:Nat}{r:gL}(h:jI H l=some r){i:BI}(h4:μ l=some i):B<=l/\∃r',H.t.get l=some (.loop r)/\w.heap[i.b]?=some (.loop r')/\zfe μ r r':=by
 unfold jI at h;rw[wB,kE,uA]at h;obtain⟨h1,x,h2,h3⟩:=h
 have:x=.loop r:=by cases x<;>simp[rA.asLoop]at h3;rw[h3]
 subst this;obtain⟨o,h5,h6⟩:=hH.blk l _ i h2 h4
 rw[lH]at h6;obtain⟨r',rfl,h7⟩:=h6
 refine⟨Nat.le_of_not_lt fun hlt=>?_,r',h2,h5,h7⟩
 have:=(hH.low l _ i hlt h2 h4).2.1
 cases this
def vW{l:Nat}{r:Loop}(h:w.heap[l]?=some (.loop r)):(Instr.getLoop l).run P w=.ok r w:=by
 simp[Instr.getLoop,getObj,yad,Sem.run,h]
def zm7{o:Op}(h:∃c,o=.defer c)(C:oA)(e:iC)(H:xA):(sF o).f C e H=.fail\/∃d,(sF o).f C e H=.defer d:=by
 obtain⟨c,rfl⟩:=h
 show(zcs c c.callee).f C e H=.fail\/∃d,(zcs c c.callee).f C e H=.defer d
 cases c.callee with
 | value f=>
  show z7c (ob (jO f c.args e) fun p=>some (.defer ⟨some p.1,0,xD p.2.1 p.2.2⟩))=.fail\/∃d,z7c (ob (jO f c.args e) fun p=>some (.defer ⟨some p.1,0,xD p.2.1 p.2.2⟩))=.defer d
  cases jO f c.args e with
  | none=>exact .inl rfl
  | some p=>exact .inr ⟨_,rfl⟩
 | _=>exact .inl rfl
def zkn{n:Nat}:∀(ps:List Nat) (args:List zA) (tm tm':Tm) (args':List Value) (tmps:Array Value),aQ n ps args tm=some tm'->zB μ args args'->tE μ n tm tmps →
  args'.length=ps.length/\tE μ n tm' ((ps.zip args').foldl (fun tmps x=>tmps.setIfInBounds x.1 x.2) tmps):=by
 intro ps;induction ps with
 | nil=>
  intro args tm tm' args' tmps h hl ht
  cases args with
  | nil=>rw[zB]at hl;subst hl;cases h;exact⟨rfl,ht⟩
  | cons a as=>cases h
 | cons p ps ih=>
  intro args tm tm' args' tmps h hl ht
  cases args with
  | nil=>cases h
  | cons a as=>
   rw[zB]at hl;obtain⟨v,r,rfl,hv,hl⟩:=hl
   have:=ih as _ _ r (tmps.setIfInBounds p v) h hl (ht.put (ds:=[]) (dst:=some p) hv)
   exact⟨by simp[this.1],this.2⟩
def zn3{i:Nat}{rest:List Nat}{o:Oper}{cs:List Frame}{l:Nat}{f:FuncId}{t:Array Value}{as bd:Code}{w':World}(ho:all[i]?=some o)(hw:Region.wanted o (yielded all tmps)=true)(hd:∀c,o.op≠.defer c)
  (h:(execOp (Act.eval ⟨tmps,ds⟩) o).run P w=.ok (.round l f t as bd) w') :
  step P (lone (b.atR ⟨tmps,ds⟩ (.inRegion all (i::rest)::k')) cs w)=.next (lone (Frame.round l f t as bd .normal) (b.atR ⟨tmps,ds⟩ (.inRegion all (i::rest)::k')::cs) w'):=
 step_lone_go (by
  rw[stepGR_op (a:=⟨tmps,ds⟩) ho hw,Oper.semAt_eq _ _ _ hd]
  simp[stepG.apply,Sem.runT_eq,h,Frame.atR])
def zn5{i:Nat}{rest:List Nat}{o:Oper}{cs:List Frame}{d:Deferred}{w':World}(ho:all[i]?=some o)(hw:Region.wanted o (yielded all tmps)=true)(hb:b.roundOf=none)
  (h:(execOp (Act.eval ⟨tmps,ds⟩) o).run P w=.ok (.defer d) w') :
  step P (lone (b.atR ⟨tmps,ds⟩ (.inRegion all (i::rest)::k')) cs w)=.next (lone ((b.atR ⟨tmps,d::ds⟩ (.inRegion all (i::rest)::k')).finish undef) cs w'):=
 step_lone_go (by
  rw[stepGR_op (a:=⟨tmps,ds⟩) ho hw,hb,Oper.semAt_none]
  simp[stepG.apply,Sem.runT_eq,h,Frame.atR])
def zia{i:Nat}{rest:List Nat}{o:Oper}{cs:List Frame}{w':World}(ho:all[i]?=some o)(hw:Region.wanted o (yielded all tmps)=true)(hd:∀c,o.op≠.defer c)(hb:b.roundOf=none)
  (h:(execOp (Act.eval ⟨tmps,ds⟩) o).run P w=.ok .recover w') :
  step P (lone (b.atR ⟨tmps,ds⟩ (.inRegion all (i::rest)::k')) cs w)=.next (match tryRecover (b.atR ⟨tmps,ds⟩ (.inRegion all (i::rest)::k')) cs with
   | some (v,cs)=>lone ((b.atR ⟨tmps,ds⟩ (.inRegion all (i::rest)::k')).finish v) cs w'
   | none=>lone ((b.atR ⟨tmps,ds⟩ (.inRegion all (i::rest)::k')).finish .nilIface) cs w'):=by
 have e:(stepG P true { frame:=b.atR ⟨tmps,ds⟩ (.inRegion all (i::rest)::k'),callers:=cs,status:=.running,dying:=none } w).bare=match tryRecover (b.atR ⟨tmps,ds⟩ (.inRegion all (i::rest)::k')) cs with
   | some (v,cs)=>.go { frame:=(b.atR ⟨tmps,ds⟩ (.inRegion all (i::rest)::k')).finish v,callers:=cs,status:=.running,dying:=none } w'
   | none=>.go { frame:=(b.atR ⟨tmps,ds⟩ (.inRegion all (i::rest)::k')).finish .nilIface,callers:=cs,status:=.running,dying:=none } w':=by
  rw[stepGR_op (a:=⟨tmps,ds⟩) ho hw,Oper.semAt_eq _ _ _ hd]
  have hb':(b.atR ⟨tmps,ds⟩ (.inRegion all (i::rest)::k')).roundOf=none:=hb
  simp only[stepG.apply,Sem.runT_eq,h,GStep.bare_after,hb',if_true]
  cases tryRecover (b.atR ⟨tmps,ds⟩ (.inRegion all (i::rest)::k')) cs with
  | none=>rfl
  | some p=>obtain⟨v,c⟩:=p;rfl
 cases ht:tryRecover (b.atR ⟨tmps,ds⟩ (.inRegion all (i::rest)::k')) cs with
 | none=>rw[ht]at e;exact step_lone_go e
 | some p=>obtain⟨v,c⟩:=p;rw[ht]at e;exact step_lone_go e
def zx4{fr:xC}{c:Frame}{l:Nat}{i:BI}{args:List zA}{args':Array Value}{m:Machine}(hw:wI C μ acs.length none fr c)(hcs:qF C μ acs cs)(hH:aA B N μ H w)(hi:μ l=some i)(hl:zB μ args args'.toList)
  (hs:∀f t as bd,(Instr.yield i.b args').run P w=.ok (.round i.b f t as bd) w->Steps P m (lone (Frame.round i.b f t as bd .normal) (c::(cs++base)) w)):sD P C B N μ base m w (zk0 l args C fr acs H):=by
 unfold zk0
 cases hx:ob (jI H l) fun r=>ob (aQ r.n r.params args r.tm) fun tm=>some (⟨⟨[.code r.assign,.beginRound,.code r.body],tm,⟨r.fn,r.n,[],.run,false,some l⟩⟩,fr::acs,H⟩:lM)with
 | none=>exact trivial
 | some s=>
  simp only[uA]at hx;obtain⟨r,hr,tm',htm,hx⟩:=hx
  cases hx;obtain⟨_,r',_,h3,h4⟩:=mW hH hr hi
  obtain⟨h5,h6⟩:=zkn r.params args r.tm tm' args'.toList r'.tmps htm hl h4.tm
  rw[<- h4.params]at h5 h6;have sz:args'.size=r'.params.size:=by simpa using h5
  have e:(r'.params.zip args').foldl (fun tmps x=>tmps.setIfInBounds x.1 x.2) r'.tmps=(r'.params.toList.zip args'.toList).foldl (fun tmps x=>tmps.setIfInBounds x.1 x.2) r'.tmps:=by
   rw[<- Array.foldl_toList,Array.toList_zip]
  rw[<- e]at h6;refine⟨μ,_,c::cs,w,hs r'.fn ((r'.params.zip args').foldl (fun tmps x=>tmps.setIfInBounds x.1 x.2) r'.tmps) r'.assign r'.body ?_,fun _ _ h=>h,Below.refl N w,hH,?_,.cons hw hcs⟩
  ·simp only[Instr.yield,yad,vW h3,yac,sz]
   simp
  ·refine⟨⟨h4.fn,h6.1,.nil,trivial,rfl,⟨i,hi,rfl⟩⟩,?_⟩
   show uK C μ (acs.length+1) r.n _ _ _ [.code r'.assign,.beginRound,.code r'.body] _
   rw[h4.assign,h4.body];exact .plain (.cons (.code _) (.cons .beginRound (.cons (.code _) .nil))) h6
def zhv(hS:Sim P C B N I)(hH:aA B N μ H w)(hcs:qF C μ acs cs){fr:xC}{i:Nat}{rest:List Nat}{o:Oper}{r:aI}
  (hfr:wI C μ acs.length none fr (b.atR ⟨tmps,ds⟩ (.inRegion all (i::rest)::k'))) (ho:all[i]?=some o) (hw:Region.wanted o (yielded all tmps)=true)
  (hdef:(∃c,o.op=.defer c)->r=.fail\/∃d,r=.defer d) (h:nK P C B N μ H w (Act.eval ⟨tmps,ds⟩) o r) :
  sD P C B N μ base (lone (b.atR ⟨tmps,ds⟩ (.inRegion all (i::rest)::k')) (cs++base) w) w (zbs r C fr acs H):=by
 have hd:(∀d,r≠.defer d)->r≠.fail->∀c,o.op≠.defer c:=by
  intro h1 h2 c e;rcases hdef ⟨c,e⟩with h | ⟨d,h⟩
  ·exact h2 h
  ·exact h1 d h
 cases r with
 | fail=>exact trivial
 | val v H'=>
  have hd:=hd (fun _ h=>by cases h) (fun h=>by cases h)
  rcases h with h | ⟨f,args',h1,h2⟩
  ·obtain⟨v',w',μ',s,hm,hH',hb,hv⟩:=za1 (b:=b) (k':=k') (rest:=rest) (cs:=cs++base) ho hw hd h
   refine zoi (H:=H) hfr hcs hm hH' hb hv ?_
   rw[Frame.finish_atR,ho,yai,vV];exact .one s
  ·obtain⟨v',w',s,μ',hm,hH',hb,hv⟩:=zhn (b:=b) (k':=k') (rest:=rest) (cs:=cs++base) (R:=fun v' w'=>∃ μ',μ.le μ'/\aA B N μ' H' w'/\Below N w w'/\vA μ' v v') ho hw hd h1 (h2.mono fun e w' hh=>by obtain⟨v',μ',g1,g2⟩:=hh;exact⟨v',g1,μ',g2⟩)
   refine zoi (H:=H) hfr hcs hm hH' hb hv ?_
   rw[Frame.finish_atR,ho,yai,vV];exact s
 | enter f args=>
  have hd:=hd (fun _ h=>by cases h) (fun h=>by cases h)
  exact zx6 hS.fns hfr hcs hH fun fn h1 h2=>by
   obtain⟨args',h3,h4⟩:=h fn h1 h2
   exact⟨args',h4,.one (zde ho hw hd h3)⟩
 | round l args=>
  have hd:=hd (fun _ h=>by cases h) (fun h=>by cases h)
  obtain⟨i0,args',hi,hl,hrun⟩:=h
  exact zx4 hfr hcs hH hi hl fun f t as bd hy=>.one (zn3 ho hw hd (by rw[hrun];exact hy))
 | defer d=>
  obtain⟨_,d',h1,h2⟩:=h
  show sD P C B N μ base _ w (zx7 d C fr acs H)
  unfold zx7
  cases hr:fr.R.roundOf with
  | some l=>exact trivial
  | none=>
   have hb:b.roundOf=none:=by
    have:=hfr.rest.round
    rw[hr]at this;change tT μ none b.roundOf at this
    cases hb:b.roundOf with
    | none=>rfl
    | some l=>rw[hb]at this;exact this.elim
   simp only[]
   cases hf:gG fr nD with
   | none=>exact trivial
   | some g=>
    have:=tU (cur:=some H) hfr hf rX
    refine⟨μ,_,cs,w,.one (zn5 ho hw hb h1),fun _ _ h=>h,Below.refl N w,hH,?_,hcs⟩
    rw[Frame.finish_atR]at this ⊢
    rw[vV]at this ⊢
    have e:∀x,(Act.put ⟨tmps,d'::ds⟩ x undef).tmps=(Act.put ⟨tmps,ds⟩ x undef).tmps:=fun x=>by cases x<;>rfl
    rw[e];exact⟨⟨this.rest.fn,this.rest.size,.cons h2 this.rest.defers,this.rest.mode,this.rest.kind,this.rest.round⟩,this.body⟩
 | panic v=>
  have hd:=hd (fun _ h=>by cases h) (fun h=>by cases h)
  obtain⟨v',h1,h2⟩:=h
  exact zx5 hfr hcs hH h2 (.one (zn4 ho hw hd h1))
 | recover=>
  have hd:=hd (fun _ h=>by cases h) (fun h=>by cases h)
  show sD P C B N μ base _ w (zim C fr acs H)
  unfold zim
  cases hr:fr.R.roundOf with
  | some l=>exact trivial
  | none=>
   have hb:b.roundOf=none:=by
    have:=hfr.rest.round
    rw[hr]at this;change tT μ none b.roundOf at this
    cases hb:b.roundOf with
    | none=>rfl
    | some l=>rw[hb]at this;exact this.elim
   cases hk:fr.R.deferred with
   | false=>exact trivial
   | true=>
    have hkind:b.kind=.deferred:=by have:=hfr.rest.kind;rw[hk]at this;exact this
    cases hcs with
    | nil=>exact trivial
    | @cons c b1 acs1 cs1 hc hcs1=>
     have st:=zia (P:=P) (b:=b) (k':=k') (rest:=rest) (cs:=b1::(cs1++base)) ho hw hd hb h
     have hm:=hc.rest.mode
     have tr:∀todo,tryRecover (b.atR ⟨tmps,ds⟩ todo) (b1::(cs1++base))=match b1.mode with
       | .panicking ({ v,recovered:=false,goexit:=false }::older)=>some (v,{ b1 with mode:=.panicking ({ v,recovered:=true }::older) }::(cs1++base))
       | _=>none:=by
      intro todo;obtain⟨bfn,btmps,btodo,bdefers,bmode,bkind,bround⟩:=b
      simp only at hkind
      subst hkind;rfl
     rw[tr]at st;simp only[]
     cases hcm:c.R.mode with
     | run=>
      rw[hcm]at hm
      cases hbm:b1.mode with
      | run=>
       rw[hbm]at st;simp only[]
       cases hf:gG fr .niliface with
       | none=>exact trivial
       | some g=>exact⟨μ,_,b1::cs1,w,.one st,fun _ _ h=>h,Below.refl N w,hH,tU hfr hf (by rw[vA]),.cons hc hcs1⟩
      | _=>rw[hbm]at hm;exact hm.elim
     | returning=>
      rw[hcm]at hm
      cases hbm:b1.mode with
      | returning=>
       rw[hbm]at st;simp only[]
       cases hf:gG fr .niliface with
       | none=>exact trivial
       | some g=>exact⟨μ,_,b1::cs1,w,.one st,fun _ _ h=>h,Below.refl N w,hH,tU hfr hf (by rw[vA]),.cons hc hcs1⟩
      | _=>rw[hbm]at hm;exact hm.elim
     | panicking ch=>
      rw[hcm]at hm
      cases hbm:b1.mode with
      | run=>rw[hbm]at hm;exact hm.elim
      | returning=>rw[hbm]at hm;exact hm.elim
      | panicking ch'=>
       rw[hbm]at hm st
       cases hm with
       | nil=>exact trivial
       | @cons p e older older' hp hold=>
        obtain⟨pv,pr⟩:=p
        cases pr with
        | true=>exact trivial
        | false=>
         obtain⟨ev',er,eg⟩:=e
         obtain⟨q1,q2,q3⟩:=hp
         simp only at q1 q2 q3
         subst q2 q3
         simp only[]
         cases hf:gG fr pv with
         | none=>exact trivial
         | some g=>
          have aC:=tU (cur:=some H) hfr hf q1
          refine⟨μ,_,{ b1 with mode:=.panicking ({ v:=ev',recovered:=true }::older') }::cs1,w,.one st,fun _ _ h=>h,Below.refl N w,hH,aC,.cons ?_ hcs1⟩
          refine⟨⟨hc.rest.fn,hc.rest.size,hc.rest.defers,.cons ⟨q1,rfl,rfl⟩ hold,hc.rest.kind,hc.rest.round⟩,?_⟩
          have:=hc.body
          rw[hcm]at this;exact this
end
end
section
section
variable {P:Program}{C:oA}{B N:Nat}{μ:Mu}{H H' Hs:xA}{w:World}
def RE.on(C:oA)(e:RE)(x:rA):Option rA:=
 match e with
 | .st b off l=>cA (!Nat.blt b C.base) (ob x.asCells fun c=>cA (Nat.ble (off+yB l) c.2.1&&kB zA.one l) (some (.cells (c.1.setMany l off) c.2.1 c.2.2)))
 | .up b k v=>cA (!Nat.blt b C.base) (ob x.asMap fun m=>some (.map (xD m [(k,v)])))
def uX{e:RE}:mQ C H e=some H' ↔ ∃x y,H.t.get e.blk=some x/\e.on C x=some y/\H'=setBlk H e.blk y:=by
 cases e with
 | st b off l=>
  simp only[mQ,eI,vE,RE.on,RE.blk,uA,wB];constructor
  ·rintro⟨h1,c,⟨x,hx,hc⟩,h2,h⟩;cases h;exact⟨x,_,hx,⟨h1,c,hc,h2,rfl⟩,rfl⟩
  ·rintro⟨x,y,hx,⟨h1,c,hc,h2,h⟩,rfl⟩;cases h;exact⟨h1,c,⟨x,hx,hc⟩,h2,rfl⟩
 | up b k v=>
  simp only[mQ,bG,RE.on,RE.blk,uA,wB];constructor
  ·rintro⟨h1,m,⟨x,hx,hc⟩,h⟩;cases h;exact⟨x,_,hx,⟨h1,m,hc,rfl⟩,rfl⟩
  ·rintro⟨x,y,hx,⟨h1,m,hc,h⟩,rfl⟩;cases h;exact⟨h1,m,⟨x,hx,hc⟩,rfl⟩
def wU{b a:Nat}{x:rA}:(setBlk H b x).t.get a=if a=b then some x else H.t.get a:=Tr.get_set _ _ _ _
def mM(a b:RE):Prop:=a.blk≠b.blk\/∃c k v k' v',a=.up c k v/\b=.up c k' v'/\xG k k'=some false
def mM.symm{a b:RE}(h:mM a b):mM b a:=by
 rcases h with h | ⟨c,k,v,k',v',rfl,rfl,h⟩
 ·exact .inl fun e=>h e.symm
 ·exact .inr ⟨c,k',v',k,v,rfl,rfl,iW h⟩
def z14{a b:RE}(h:z15 a b=true):mM a b:=by
 unfold z15 at h;rw[zC]at h;split at h
 ·rename_i e
  cases a with
  | st=>cases h
  | up c k v=>
   cases b with
   | st=>cases h
   | up c' k' v'=>
    have e:c=c':=fB.1 e
    subst e;simp only[ziy]at h;split at h
    ·rename_i r hr
     cases r with
     | true=>cases h
     | false=>exact .inr ⟨c,k,v,k',v',rfl,rfl,hr⟩
    ·cases h
 ·rename_i e
  exact .inl fun k=>e (fB.2 k)
def zm6:∀ {l:List RE},zhs l=true->l.Pairwise mM
 | [],_=>.nil
 | a::l,h=>by
  unfold zhs at h;rw[ybb,yG,ycb]at h;exact .cons (fun b hb=>z14 (h.1 b hb)) (zm6 h.2)
def vD (b:Nat):List RE->List (zA × zA)
 | []=>[]
 | .st _ _ _::l=>vD b l
 | .up c k v::l=>if c=b then(k,v)::vD b l else vD b l
def rY{b:Nat}:∀ {l m:List RE},vD b (l++m)=vD b l++vD b m
 | [],_=>rfl
 | .st _ _ _::l,m=>rY (l:=l)
 | .up c k v::l,m=>by
  rw[List.cons_append,vD,vD,rY (l:=l)]
  split<;>simp
def nV{b:Nat}{p:zA × zA}:∀ {l:List RE},p∈vD b l->.up b p.1 p.2∈l
 | .st _ _ _::l,h=>.tail _ (nV (l:=l) h)
 | .up c k v::l,h=>by
  rw[vD]at h;split at h
  ·rename_i e
   subst e;rcases ybs.1 h with rfl | h
   ·exact .head _
   ·exact .tail _ (nV h)
  ·exact .tail _ (nV h)
def z0z{b:Nat}{l:List RE}(h:∀e∈l,e.blk≠b):vD b l=[]:=by
 cases hx:vD b l with
 | nil=>rfl
 | cons p r=>
  have:p∈vD b l:=by rw[hx];exact .head _
  exact absurd rfl (h _ (nV this))
def z0y{b:Nat}{l m:List RE}(p:l.Perm m):(vD b l).Perm (vD b m):=by
 induction p with
 | nil=>exact .refl _
 | cons x _ ih=>
  cases x with
  | st=>exact ih
  | up c k v=>
   rw[vD,vD];split
   ·exact ih.cons _
   ·exact ih
 | swap x y l=>
  cases x with
  | st=>cases y<;>exact .refl _
  | up c k v=>
   cases y with
   | st=>exact .refl _
   | up c' k' v'=>
    simp only[vD];split<;>split<;>first | exact .refl _ | exact .swap _ _ _
 | trans _ _ h1 h2=>exact h1.trans h2
def zza7{b:Nat}{l:List RE}(h:l.Pairwise mM):DK (vD b l):=by
 unfold DK;induction l with
 | nil=>exact .nil
 | cons x l ih=>
  rw[List.pairwise_cons]at h
  cases x with
  | st=>exact ih h.2
  | up c k v=>
   rw[vD];split
   ·rename_i e
    subst e;refine .cons (fun p hp=>?_) (ih h.2)
    rcases h.1 _ (nV hp)with h1 | ⟨_,_,_,_,_,e1,e2,h1⟩
    ·exact absurd rfl h1
    ·cases e1;cases e2;exact h1
   ·exact ih h.2
structure vK (C:oA) (H:xA) (s:List RE) (Hs:xA):Prop where
 next:Hs.next=H.next
 st:∀b off l,RE.st b off l∈s->∃x y,H.t.get b=some x/\(RE.st b off l).on C x=some y/\Hs.t.get b=some y
 up:∀b k v,RE.up b k v∈s->Hs.t.get b=some (.map (vD b s))
 no:∀a,(∀e∈s,e.blk≠a)->Hs.t.get a=H.t.get a
def vK.nil:vK C H [] H:=⟨rfl,fun _ _ _ h=>(by cases h),fun _ _ _ h=>(by cases h),fun _ _=>rfl⟩
def z2c(C:oA)(H:xA)(e:RE):Prop:=
 match e with
 | .st _ _ _=>∃H',mQ C H e=some H'
 | .up b _ _=>Nat.blt b C.base=false/\H.t.get b=some (.map [])
def zxy{e:RE}(h:zdp C H e=true):z2c C H e:=by
 cases e with
 | st b off l=>
  change (!qH (eI C H b off l))=true at h
  cases hs:eI C H b off l with
  | none=>rw[hs]at h;cases h
  | some H'=>exact⟨H',hs⟩
 | up b k v=>
  unfold zdp at h;simp only[ybb,ycp]at h;refine⟨h.1,?_⟩
  have h2:=h.2
  split at h2
  ·rename_i hm;exact jY hm
  ·cases h2
def vK.step{s:List RE}{e:RE}(h:vK C H s Hs)(hr:z2c C H e)(ha:∀x∈s,mM x e):∃H',mQ C Hs e=some H'/\vK C H (s++[e]) H'/\(∀b k v,e=.up b k v->∃m,Hs.t.get b=some (.map m)/\Nat.blt b C.base=false/\(∀p∈m,xG k p.1=some false)/\H'=setBlk Hs b (.map (m++[(k,v)]))):=by
 cases e with
 | st b off l=>
  have hne:∀x∈s,x.blk≠b:=fun x hx=>by
   rcases ha x hx with h1 | ⟨_,_,_,_,_,_,h1,_⟩
   ·exact h1
   ·cases h1
  obtain⟨H1,h1⟩:=hr
  obtain⟨x,y,hx,hy,rfl⟩:=uX.1 h1
  have hx:H.t.get b=some x:=hx
  have hg:=h.no b hne
  refine⟨setBlk Hs b y,uX.2 ⟨x,y,by show Hs.t.get b=_;rw[hg];exact hx,hy,rfl⟩,⟨h.next,fun b' off' l' hm=>?_,fun b' k v hm=>?_,fun a ha'=>?_⟩,fun _ _ _ e=>by cases e⟩
  ·rcases yaf.1 hm with hm | hm
   ·obtain⟨u,v,g1,g2,g3⟩:=h.st b' off' l' hm
    refine⟨u,v,g1,g2,?_⟩
    rw[wU,yaa (show ¬ b'=b from hne _ hm)]
    exact g3
   ·simp at hm
    obtain⟨rfl,rfl,rfl⟩:=hm
    exact⟨x,y,hx,hy,by rw[wU,yab rfl]⟩
  ·rcases yaf.1 hm with hm | hm
   ·rw[wU,yaa (show ¬ b'=b from hne _ hm),h.up b' k v hm,rY]
    simp[vD]
   ·simp at hm
  ·rw[wU,yaa (fun e=>ha' (.st b off l) (by simp) e.symm)]
   exact h.no a fun e he=>ha' e (by simp[he])
 | up b k v=>
  obtain⟨hb,hm⟩:=hr
  have hst:∀b' off l,RE.st b' off l∈s->b'≠b:=fun b' off l hx=>by
   rcases ha _ hx with h1 | ⟨_,_,_,_,_,h1,_,_⟩
   ·exact h1
   ·cases h1
  have hg:Hs.t.get b=some (.map (vD b s)):=by
   by_cases hex:∃e∈s,e.blk=b
   ·obtain⟨e,he,hb'⟩:=hex
    cases e with
    | st b' off l=>exact absurd hb' (hst _ _ _ he)
    | up b' k' v'=>
     have hb':b'=b:=hb'
     subst hb'
     exact h.up _ _ _ he
   ·have hn:∀e∈s,e.blk≠b:=fun e he hb'=>hex ⟨e,he,hb'⟩
    rw[h.no b hn,hm,z0z hn]
  refine⟨setBlk Hs b (.map (vD b s++[(k,v)])),uX.2 ⟨_,_,hg,?_,rfl⟩,⟨h.next,fun b' off' l' hm'=>?_,fun b' k' v' hm'=>?_,fun a ha'=>?_⟩,fun b' k' v' e=>?_⟩
  ·simp only[RE.on,hb,ycl,cA,cond_true,rA.asMap,sA,iG]
  ·rcases yaf.1 hm' with hm' | hm'
   ·obtain⟨u,x,g1,g2,g3⟩:=h.st b' off' l' hm'
    refine⟨u,x,g1,g2,?_⟩
    rw[wU,yaa (hst _ _ _ hm')]
    exact g3
   ·simp at hm'
  ·rw[wU,rY]
   by_cases e:b'=b
   ·subst e
    rw[yab rfl];simp[vD]
   ·rw[yaa e]
    have:vD b' [RE.up b k v]=[]:=by rw[vD,yaa fun h=>e h.symm];rfl
    rw[this,ycd];rcases yaf.1 hm' with hm' | hm'
    ·exact h.up b' k' v' hm'
    ·simp at hm';exact absurd hm'.1 e
  ·rw[wU,yaa (fun e=>ha' (.up b k v) (by simp) e.symm)]
   exact h.no a fun e he=>ha' e (by simp[he])
  ·cases e
   refine⟨_,hg,hb,fun p hp=>?_,rfl⟩
   rcases ha _ (nV hp)with h1 | ⟨_,_,_,_,_,e1,e2,h1⟩
   ·exact absurd rfl h1
   ·cases e1;cases e2;exact iW h1
def vK.list{s l:List RE}(h:vK C H s Hs)(hr:∀e∈l,z2c C H e)(ha:(s++l).Pairwise mM):∀ {H'},eR C l Hs=some H'->vK C H (s++l) H':=by
 induction l generalizing s Hs with
 | nil=>intro H' hl;cases hl;rw[ycd];exact h
 | cons e l ih=>
  intro H' hl;unfold eR at hl;rw[uA]at hl;obtain⟨H1,h1,hl⟩:=hl
  have hap:∀x∈s,mM x e:=fun x hx=>by
   rw[List.pairwise_append]at ha;exact ha.2.2 x hx e (.head _)
  obtain⟨H2,g1,g2,_⟩:=h.step (hr e (.head _)) hap
  rw[h1]at g1;cases g1
  have:=ih g2 (fun x hx=>hr x (.tail _ hx)) (by rw[ybz];exact ha) hl
  rwa [ybz]at this
structure HEq' (μ:Mu) (H H':xA):Prop where
 next:H'.next=H.next
 get:∀a,H'.t.get a=H.t.get a\/((∃i,μ a=some i)/\∃m m',H.t.get a=some (.map m)/\H'.t.get a=some (.map m')/\m.Perm m'/\DK m)
def vK.perm{s s':List RE}{H1 H2:xA}(h:vK C H s H1)(h':vK C H s' H2)(p:s.Perm s')(ha:s.Pairwise mM)(hm:∀e∈s,∃i,μ e.blk=some i):HEq' μ H1 H2:=by
 refine⟨h'.next.trans h.next.symm,fun a=>?_⟩
 by_cases hex:∃e∈s,e.blk=a
 ·obtain⟨e,he,rfl⟩:=hex
  cases e with
  | st b off l=>
   obtain⟨x,y,g1,g2,g3⟩:=h.st b off l he
   obtain⟨x',y',g1',g2',g3'⟩:=h'.st b off l (p.mem_iff.1 he)
   rw[g1]at g1';cases g1'
   rw[g2]at g2';cases g2'
   exact .inl (g3'.trans g3.symm)
  | up b k v=>exact .inr ⟨hm _ he,_,_,h.up b k v he,h'.up b k v (p.mem_iff.1 he),z0y p,zza7 ha⟩
 ·left
  rw[h.no a fun e he hb=>hex ⟨e,he,hb⟩,h'.no a fun e he hb=>hex ⟨e,p.mem_iff.2 he,hb⟩]
def aA.congr'(hH:aA B N μ H w)(h:HEq' μ H H'):aA B N μ H' w:=by
 have hle:∀a y,H'.t.get a=some y->∃x,H.t.get a=some x/\(y=x\/∃m m',x=.map m/\y=.map m'/\m.Perm m'/\DK m):=by
  intro a y hy;rcases h.get a with e | ⟨_,m,m',h1,h2,h3⟩
  ·exact⟨y,by rw[<- e];exact hy,.inl rfl⟩
  ·rw[h2]at hy;cases hy
   exact⟨_,h1,.inr ⟨m,m',rfl,rfl,h3⟩⟩
 refine⟨hH.base,hH.glob,fun a x i ha hx hi=>?_,by rw[h.next];exact hH.next,hH.size,fun a ha=>?_,fun a x i hx hi=>?_,hH.own,fun a b x y i j hx hy hi hj ha hb e=>?_,fun a x t hp=>?_⟩
 ·obtain⟨y,hy,hxy⟩:=hle a x hx
  obtain⟨g1,g2,g3⟩:=hH.low a y i ha hy hi
  rcases hxy with rfl | ⟨m,m',rfl,rfl,_⟩
  ·exact⟨g1,g2,g3⟩
  ·exact⟨g1,rfl,rfl⟩
 ·rw[h.next]at ha
  obtain⟨g1,g2⟩:=hH.fresh a ha
  refine⟨g1,?_⟩
  rcases h.get a with e | ⟨_,m,m',h1,_⟩
  ·rw[e];exact g2
  ·rw[g2]at h1;cases h1
 ·obtain⟨y,hy,hxy⟩:=hle a x hx
  obtain⟨o,g1,g2⟩:=hH.blk a y i hy hi
  refine⟨o,g1,?_⟩
  rcases hxy with rfl | ⟨m,m',rfl,rfl,hp,hd⟩
  ·exact g2
  ·obtain⟨es,clock,l',h1,h2,h3⟩:=g2
   refine⟨es,clock,l',h1,?_,h3⟩
   rcases h2 with rfl | ⟨h2,_⟩
   ·exact .inr ⟨hp.symm,hd.perm hp⟩
   ·exact .inr ⟨hp.symm.trans h2,hd.perm hp⟩
 ·obtain⟨x',hx',_⟩:=hle a x hx
  obtain⟨y',hy',_⟩:=hle b y hy
  exact hH.inj a b x' y' i j hx' hy' hi hj ha hb e
 ·obtain⟨g1,g2,g3⟩:=hH.pnd a x t hp
  refine⟨g1,?_,g3⟩
  rcases h.get a with e | ⟨⟨i,hi⟩,_⟩
  ·rw[e];exact g2
  ·rw[g1]at hi;cases hi
def z03(hT:jE P C)(hbase:B<=C.base)(hH:aA B N μ Hs w){e:iC}{ρ:Operand->Value}(hE:fE μ e ρ){o:Oper}{ef:Eff}{re:RE}(h1:qP o.op e=some ef)(h2:zq7 C ef=some re)
  (h3:mQ C Hs re=some H') (h4:∀b k v,re=.up b k v->∃m,Hs.t.get b=some (.map m)/\Nat.blt b C.base=false/\(∀p∈m,xG k p.1=some false)/\H'=setBlk Hs b (.map (m++[(k,v)]))) :
  zqf P B N μ w ρ o nD H'/\∃i,μ re.blk=some i:=by
 obtain⟨dst,op,type,pos,after,guard⟩:=o
 have ups:∀ {t:Nat} {m k x:Operand},(ob (ev m e) fun m=>ob (ev k e) fun k=>ob (ev x e) fun v=>some (Eff.upd t m k v))=some ef->gS t m k x C e Hs=.val nD H'/\∃i,μ re.blk=some i:=by
  intro t m k x h1;simp only[uA]at h1;obtain⟨mv,hm,kv,hk,xv,hx,h1⟩:=h1
  cases h1;simp only[zq7,uA,wB,ybb]at h2;obtain⟨ty,hty,ke,hke,kty,hkty,⟨hkd,hfit⟩,b,hb,h2⟩:=h2
  cases h2;obtain⟨l,hl,hbb,hfr,rfl⟩:=h4 b kv xv rfl
  have hbm:bG Hs b=some l:=by unfold bG;rw[hl];rfl
  constructor
  ·unfold gS
   simp only[hty,hke,hkty,hkd,hm,hb,hbb,hbm,hk,hfit,hx,sA,cA,cond_true,ycl,yZ hfr];rfl
  ·have:=hE _ _ hm
   rw[fY]at hb;subst hb;rw[vA]at this;obtain⟨i,hi,_⟩:=this
   exact⟨i,hi⟩
 cases op<;>try (cases h1;done)
 case insert t m k x=>
  obtain⟨g1,g2⟩:=ups h1
  exact⟨(tY (P:=P) hT hbase hH hE g1).2,g2⟩
 case mapUpdate t m k x=>
  obtain⟨g1,g2⟩:=ups h1
  exact⟨(tY (P:=P) hT hbase hH hE g1).1,g2⟩
 case store t a x=>
  simp only[qP,uA]at h1;obtain⟨av,ha,xv,hx,h1⟩:=h1
  cases h1;simp only[zq7,uA,wB]at h2;obtain⟨ty,hty,p,hp,hsz,h2⟩:=h2
  cases h2;constructor
  ·refine zl7 (P:=P) hT hbase hH hE ?_
   unfold zl8;have h3':eI C Hs p.1 p.2 xv.cells=some H':=h3
   simp only[hty,ha,hp,hx,sA,hsz,cA,cond_true,h3'];rfl
  ·have:=hE _ _ ha
   rw[kU]at hp;subst hp;rw[vA]at this;obtain⟨i,hi,_⟩:=this
   exact⟨i,hi⟩
end
end
section
section
variable {P:Program}{C:oA}{B N:Nat}{μ:Mu}{H H' H1:xA}{w:World}{all:Array Oper}{olds:List (Nat × List Nat)}{anc:Tr Nat}{n:Nat}{old tm tm':Tm}{D D' D1:Nat}{S:Nat->Bool}{order:List Nat}{tmps:Array Value}{ds:List Deferred}{dp:Nat}
variable {b:Frame}{k:List Item}{cs:List Frame}
def cE.congrD(h:∀k,tb D k=tb D' k)(R:cE μ all olds anc n old tm D S order tmps):cE μ all olds anc n old tm D' S order tmps:=by
 have e:tb D=tb D':=funext h
 exact⟨R.reg,R.sched,fun i hi=>by rw[<- h];exact R.sub i hi,R.closed,by rw[<- e];exact R.dclosed,R.size,R.now,R.past,fun d hd hw=>R.keep d hd fun i o h1 h2=>by rw[h];exact hw i o h1 h2,R.big⟩
def sG.congrD(h:∀k,tb D k=tb D' k)(p:sG C μ dp H all olds n old tm D S):sG C μ dp H all olds n old tm D' S:=fun i hi=>p i (by rw[h];exact hi)
def zdv{α:Type}{R:α->α->Prop}(hs:∀a b,R a b->R b a):∀ {l:List α},l.Pairwise R->∀a∈l,∀b∈l,a≠b->R a b
 | [],_,a,ha,_,_,_=>by cases ha
 | x::l,h,a,ha,b,hb,hne=>by
  rw[List.pairwise_cons]at h;rcases ybs.1 ha with rfl | ha'
  ·rcases ybs.1 hb with rfl | hb'
   ·exact absurd rfl hne
   ·exact h.1 b hb'
  ·rcases ybs.1 hb with rfl | hb'
   ·exact hs _ _ (h.1 a ha')
   ·exact zdv hs h.2 a ha' b hb' hne
def z9p{l m:List Nat}(h1:l.Nodup)(h2:m.Nodup)(h:∀i,i∈l ↔ i∈m):l.Perm m:=(List.perm_ext_iff_of_nodup h1 h2).2 h
def z42{o:Oper}(hl:zl4 o.op=true)(ho:zrs C o=true)(e:iC)(H2:xA):(gE o.op).f C e H=(gE o.op).f C e H2:=by
 obtain⟨dst,op,type,pos,after,guard⟩:=o
 cases op<;>try (cases hl;done)
 rename_i c;simp only[zl4]at hl;split at hl
 case h_2=>cases hl
 rename_i hc;simp only[zrs,hc]at ho;simp only[gE,zzaa,hc,uN,zcp,zo3]
 cases ht:gC c.argTypes.toList 0 with
 | none=>rfl
 | some t=>
  rw[ht,sA]at ho;simp only[sA]
  cases hx:gC c.args.toList 0 with
  | none=>rfl
  | some x=>
   simp only[sA]
   cases hy:C.tys.get t with
   | none=>rfl
   | some ty=>
    rw[hy]at ho;simp only[sA]
    cases hv:ev x e with
    | none=>rfl
    | some v=>
     simp only[sA];have h6:Nat.beq ty.desc.tag 6=false:=by simpa using ho
     unfold zvt;split
     ·rfl
     ·split
      ·rfl
      ·split
       ·rfl
       ·split
        ·rw[h6];rfl
        ·rfl
def zrg{G:List Nat}(hG:zqg all anc D G D1)(hlen:wQ C all=true){Ds:Nat}{seq:List Nat}(hDs:∀k,tb Ds k=(tb D k||decide (k∈seq)))(hseq:∀i∈seq,S i=true){g:Nat}(hg:g∈G)(hup:∀k,tb (eH anc g) k=true->S k=true)
  (hp:sG C μ dp H all olds n old tm Ds S) (H2:xA):sG C μ dp H2 all olds n old tm Ds S:=by
 intro j hj hSj;rcases hp j hj hSj with⟨u,wu,vu,pu⟩ | h
 ·refine .inl ⟨u,wu,vu,?_⟩
  rw[hDs]at hj;simp only[ycq,decide_eq_true_eq]at hj;rcases hj with hj | hj
  ·rcases hG.again j u pu.op hj with h | h | h | h
   ·exact pu.pure h H2
   ·exact pu.float h H2
   ·refine⟨pu.op,pu.want,?_,pu.put⟩
    have hlo:zrs C u=true:=by
     unfold wQ at hlen;rw[yG,ycb]at hlen;exact hlen u (ycv (by simpa using pu.op))
    have:=pu.val
    cases wu with
    | false=>exact this
    | true=>rw[yab rfl]at this ⊢;rw[<- this];exact(z42 h hlo _ _).symm
   ·rw[hup j (h g hg)]at hSj;cases hSj
  ·rw[hseq j hj]at hSj;cases hSj
 ·exact .inr h
def z5g(hT:jE P C)(hbase:B<=C.base){G:List Nat}(hG:zqg all anc D G D1)(hlen:wQ C all=true){ef:Nat->Eff}{re:Nat->RE}(hef:∀i∈G,zfu all old olds tm i=some (ef i)/\zq7 C (ef i)=some (re i))
  (hap:(G.map re).Pairwise mM) (hrd:∀i∈G,z2c C H (re i)):∀(order:List Nat) (S:Nat->Bool) (tmps:Array Value) (μ:Mu) (w:World) (seq:List Nat) (Hs:xA) (Ds:Nat),
  seq.Nodup->(∀i∈seq,i∈G/\S i=true)->vK C H (seq.map re) Hs->(∀i∈seq,∃j,μ (re i).blk=some j)->(∀k,tb Ds k=(tb D k||decide (k∈seq)))->aA B N μ Hs w →
  cE μ all olds anc n old tm Ds S order tmps->sG C μ dp Hs all olds n old tm Ds S →
  ∃(S':Nat->Bool) (order':List Nat) (tmps':Array Value) (μ':Mu) (w':World) (seq':List Nat) (Hs':xA),Steps P (lone (b.atR ⟨tmps,ds⟩ (.inRegion all order::k)) cs w) (lone (b.atR ⟨tmps',ds⟩ (.inRegion all order'::k)) cs w')/\Below N w w'/\μ.lw μ'/\(∀d,d≠dp->μ.ln d μ') ∧
   seq'.Perm G/\vK C H (seq'.map re) Hs'/\(∀i∈seq',∃j,μ' (re i).blk=some j)/\aA B N μ' Hs' w'/\cE μ' all olds anc n old tm D1 S' order' tmps'/\sG C μ' dp Hs' all olds n old tm D1 S'/\(∀i∈seq',S' i=true):=by
 have hapG:∀i∈G,∀j∈G,i≠j->mM (re i) (re j):=by
  rw[List.pairwise_map]at hap;exact zdv (fun a b h=>h.symm) hap
 have aC:∀(order:List Nat) (S:Nat->Bool) (tmps:Array Value) (μ:Mu) (w:World) (seq:List Nat) (Hs:xA) (Ds:Nat),
  seq.Nodup->(∀i∈seq,i∈G/\S i=true)->vK C H (seq.map re) Hs->(∀i∈seq,∃j,μ (re i).blk=some j)->(∀k,tb Ds k=(tb D k||decide (k∈seq)))->aA B N μ Hs w →
  cE μ all olds anc n old tm Ds S order tmps->sG C μ dp Hs all olds n old tm Ds S->(∀i∈G,i∈seq) →
  ∃(S':Nat->Bool) (order':List Nat) (tmps':Array Value) (μ':Mu) (w':World) (seq':List Nat) (Hs':xA),Steps P (lone (b.atR ⟨tmps,ds⟩ (.inRegion all order::k)) cs w) (lone (b.atR ⟨tmps',ds⟩ (.inRegion all order'::k)) cs w')/\Below N w w'/\μ.lw μ'/\(∀d,d≠dp->μ.ln d μ') ∧
   seq'.Perm G/\vK C H (seq'.map re) Hs'/\(∀i∈seq',∃j,μ' (re i).blk=some j)/\aA B N μ' Hs' w'/\cE μ' all olds anc n old tm D1 S' order' tmps'/\sG C μ' dp Hs' all olds n old tm D1 S'/\(∀i∈seq',S' i=true):=by
  intro order S tmps μ w seq Hs Ds h1 h2 h3 h4 h5 h6 h7 h8 h9;have hD:∀k,tb Ds k=tb D1 k:=fun k=>by
   rw[h5,hG.done];congr 1
   by_cases hk:k∈G
   ·simp[hk,h9 k hk]
   ·have:k∉seq:=fun h=>hk (h2 k h).1
    simp[hk,this]
  exact⟨S,order,tmps,μ,w,seq,Hs,.refl _ _,Below.refl _ _,fun _ _ h=>h,fun d _=>μ.ln_refl d,z9p h1 hG.nodup fun i=>⟨fun h=>(h2 i h).1,h9 i⟩,h3,h4,h6,h7.congrD hD,h8.congrD hD,fun i hi=>(h2 i hi).2⟩
 intro order;induction order with
 | nil=>
  intro S tmps μ w seq Hs Ds h1 h2 h3 h4 h5 h6 h7 h8;refine aC _ S tmps μ w seq Hs Ds h1 h2 h3 h4 h5 h6 h7 h8 fun i hi=>?_
  obtain⟨o,ho,hi2,_⟩:=hG.op i hi
  have:=h7.sub _ (h7.sched i (ybe.1 ho).1)
  rw[h5,hi2]at this;simpa using this
 | cons i order ih=>
  intro S tmps μ w seq Hs Ds h1 h2 h3 h4 h5 h6 h7 h8;by_cases hall:∀i∈G,i∈seq
  ·exact aC _ S tmps μ w seq Hs Ds h1 h2 h3 h4 h5 h6 h7 h8 hall
  cases hi:tb Ds i with
  | true=>
   obtain⟨o,ho,hS,hb,hs⟩:=h7.sched
   obtain⟨S',tmps',μ1,w1,s1,g1,r1,p1,up⟩:=zk7 (b:=b) (k:=k) (cs:=cs) (ds:=ds) hT h6 h7 h8 hi
   obtain⟨S2,order',tmps2,μ2,w2,seq2,Hs2,s2,b2,l2,d2,rest⟩:=ih S' tmps' μ1 w1 seq Hs Ds h1 (fun j hj=>⟨(h2 j hj).1,up j (h2 j hj).2⟩) h3 (fun j hj=>by obtain⟨x,hx⟩:=h4 j hj;exact⟨x,g1.le _ _ hx⟩) h5 g1.heap r1 p1
   exact⟨S2,order',tmps2,μ2,w2,seq2,Hs2,.head s1 s2,g1.below.trans b2,fun a x hx=>l2 a x (g1.le a x hx),fun d hd=>Mu.ln_trans (g1.pd d hd) (d2 d hd),rest⟩
  | false=>
   obtain⟨o,ho,hS,hb,hs⟩:=h7.sched
   have hiG:i∈G:=by
    cases hd1:tb D1 i with
    | false=>
     exfalso
     rcases hG.rest i o ho hd1 with h | h
     ·refine hall fun g hg=>?_
      have:=h7.sub g (h7.reg.up h7.closed ho hb (h g hg))
      obtain⟨_,_,hg2,_⟩:=hG.op g hg
      rw[h5,hg2]at this;simpa using this
     ·refine h fun j hj=>?_
      have:=h7.sub j (hb j hj)
      rw[h5]at this;rw[hG.done];simp only[ycq,decide_eq_true_eq]at this ⊢
      exact this.imp id fun h=>(h2 j h).1
    | true=>
     rw[hG.done]at hd1;rw[h5]at hi;simp only[yal]at hi;rw[hi.1]at hd1;simpa using hd1
   have hiseq:i∉seq:=fun h=>by
    rw[h5]at hi;simp[h]at hi
   obtain⟨o',ho',_,_,hdst⟩:=hG.op i hiG
   rw[ho]at ho';cases ho'
   obtain⟨e1,e2⟩:=hef i hiG
   unfold zfu at e1;simp only[uA,wB,eF]at e1;obtain⟨o',ho',wn,hw,hwn,e1⟩:=e1
   have:o'=o:=by
    have:all[i]?=some o':=by simpa using ho'
    rw[ho]at this;exact(yci this).symm
   subst this;subst hwn;have hwn:=h7.wanted ho hb hw
   obtain⟨Hn,a1,a2,a3⟩:=h3.step (hrd i hiG) (fun x hx=>by
    obtain⟨j,hj,rfl⟩:=yaq.1 hx
    exact hapG j (h2 j hj).1 i hiG fun e=>hiseq (e ▸ hj))
   obtain⟨hv,j0,hj0⟩:=z03 (P:=P) (o:=o') hT hbase h6 (h7.erel (ds:=ds) h6.glob ho hS hb) e1 e2 a1 a3
   have hdf:∀c,o'.op≠.defer c:=fun c e=>by rw[e]at e1;cases e1
   obtain⟨v',w',μ',s1,m1,m2,m3,m4⟩:=za1 (b:=b) (k':=k) (rest:=order) (cs:=cs) ho hwn hdf hv
   have hD2:∀k,tb (Nat.lor Ds (zjx i)) k=(tb Ds k||k == i):=fun k=>by rw[zqs,zch];congr 1;exact Bool.beq_comm
   have r1:=(h7.mono m1.f).did (D':=Nat.lor Ds (zjx i)) (tm':=tm) ho hD2 (fun d hd=>by rw[hdst]at hd;cases hd) (fun _ _=>rfl) m4 (ds:=ds)
   have p0:=zrg hG hlen h5 (fun j hj=>(h2 j hj).2) hiG (fun k hk=>h7.reg.up h7.closed ho hb hk) h8 Hn
   have p1:sG C μ' dp Hn all olds n old tm (Nat.lor Ds (zjx i)) (fun k=>S k||k == i):=by
    intro j hj hSj;rw[hD2]at hj;simp only[yal,ycq]at hj hSj;exact(sG.mono (m1.ln dp) p0) j (hj.resolve_right (by rw[hSj.2];simp)) hSj.1
   obtain⟨S2,order',tmps2,μ2,w2,seq2,Hs2,s2,b2,l2,d2,rest⟩:=ih (fun k=>S k||k == i) (Act.put ⟨tmps,ds⟩ o'.dst v').tmps μ' w' (seq++[i]) Hn (Nat.lor Ds (zjx i))
    (by rw[List.nodup_append];exact⟨h1,by simp,fun a ha b hb e=>by simp at hb;subst hb;exact hiseq (e ▸ ha)⟩)
    (fun j hj=>by
     rcases yaf.1 hj with hj | hj
     ·exact⟨(h2 j hj).1,by rw[(h2 j hj).2];rfl⟩
     ·simp at hj;subst hj;exact⟨hiG,by simp⟩)
    (by rw[List.map_append];exact a2)
    (fun j hj=>by
     rcases yaf.1 hj with hj | hj
     ·obtain⟨x,hx⟩:=h4 j hj;exact⟨x,m1.f _ _ hx⟩
     ·simp at hj;subst hj;exact⟨j0,m1.f _ _ hj0⟩)
    (fun k=>by
     rw[hD2,h5,Bool.or_assoc];congr 1
     rw[Bool.eq_iff_iff];simp)
    m2 r1 p1
   exact⟨S2,order',tmps2,μ2,w2,seq2,Hs2,.head s1 s2,m3.trans b2,fun a x hx=>l2 a x (m1.f a x hx),fun d hd=>Mu.ln_trans (m1.ln d) (d2 d hd),rest⟩
end
end
section
section
variable {P:Program}{C:oA}{B N:Nat}{I:World->Prop}{μ ν:Mu}{H H':xA}{w:World}{tm:Tm}{R:nI}{acs:List xC}{base cs:List Frame}
variable {b:Frame}{tmps:Array Value}{ds:List Deferred}{k:List fD}{k':List Item}{all:Array Oper}
def zgg{m:Option Nat}(h:tT μ none m):m=none:=by
 cases m with
 | none=>rfl
 | some l=>exact h.elim
def za5{l:Nat}{m:Option Nat}(h:tT μ (some l) m):∃i,μ l=some i/\m=some i.b:=by
 cases m with
 | none=>exact h.elim
 | some m=>obtain⟨i,h1,h2⟩:=h;exact⟨i,h1,by rw[h2]⟩
def wZ{r:Loop}(a:Array Value)(b:TypeId)(c:Nat × Nat):Obj.loop r≠.cells a b c:=by intro h;cases h
def zd8(hH:aA B N μ H w)(hcs:qF C μ acs cs)(hR:aF μ R (b.atR ⟨tmps,ds⟩ []))(ht:tE μ R.n tm tmps){todo:List fD}{btodo:List Item}{jump:Option Code}
  (h0:b.roundOf=none->zxt jump=true->step P (lone (b.atR ⟨tmps,ds⟩ btodo) (cs++base) w)=.next (lone { b.atR ⟨tmps,ds⟩ btodo with mode:=.returning } (cs++base) w))
  (h1:∀l c rest v w',b.roundOf=some l->b.kind=.normal->(Instr.endRound l jump).run P w=.ok v w'->step P (lone (b.atR ⟨tmps,ds⟩ btodo) (c::rest) w)=.next (lone (c.finish v) rest w')) :
  sD P C B N μ base (lone (b.atR ⟨tmps,ds⟩ btodo) (cs++base) w) w (vN jump C ⟨todo,tm,R⟩ acs H):=by
 unfold vN;simp only[]
 cases hr:R.roundOf with
 | none=>
  have hb:b.roundOf=none:=by
   have:=hR.round
   rw[hr]at this;exact zgg this
  cases hj:zxt jump with
  | false=>exact trivial
  | true=>exact zkv hH hcs hR ht (.one (h0 hb hj))
 | some l=>
  obtain⟨i,hi,hb⟩:∃i,μ l=some i/\b.roundOf=some i.b:=by
   have:=hR.round
   rw[hr]at this;exact za5 this
  simp only[]
  cases hx:jI H l with
  | none=>exact trivial
  | some r=>
   rw[sA]
   cases hcs with
   | nil=>exact trivial
   | @cons c b1 acs1 cs1 hc hcs1=>
    simp only[]
    cases hd:R.deferred with
    | true=>exact trivial
    | false=>
     have hkind:b.kind=.normal:=by have:=hR.kind;rw[hd]at this;exact this
     cases hf:gG c (.bool jump.isNone)with
     | none=>exact trivial
     | some c'=>
      obtain⟨hl,r',hg,hw,rel⟩:=mW hH hx hi
      have run:(Instr.endRound i.b jump).run P w=.ok (.bool jump.isNone) (World.setBlk w i.b (.loop { r' with state:=if jump.isNone then .ready else .done,pending:=jump })):=by
       simp only[Instr.endRound,yad,vW hw,yac,bU hw wZ,yae]
      refine⟨μ,_,cs1,_,.one (h1 i.b b1 (cs1++base) _ _ hb hkind run),fun _ _ h=>h,nQ (hH.own l i hl hi).1,?_,tU hc hf (by rw[vA]),hcs1⟩
      refine hH.upd hg hi hl ?_
      rw[lH];exact⟨_,rfl,rfl,rfl,rel.fn,rel.tm,rel.params,rel.assign,rel.body,rel.defers⟩
def zpg{id:Nat}:∀ {k:List fD} {k':List Item},qC (jF μ) k k'->eK id k=none->exitTo id k'=none:=by
 intro k k' h;induction h with
 | nil=>intro _;rfl
 | cons a l ih=>
  intro e
  cases a with
  | inBlock i=>
   unfold eK at e;simp only[fD.blockId]at e;rw[zC]at e;unfold exitTo;by_cases hi:i=id
   ·subst hi
    rw[yab (fB.2 rfl)]at e
    cases e
   ·rw[yaa fun h=>hi (fB.1 h)]at e
    simp[hi,ih e]
  | _=>
   unfold eK at e;unfold exitTo;exact ih e
def zza2(hH:aA B N μ H w)(hcs:qF C μ acs cs)(hR:aF μ R (b.atR ⟨tmps,ds⟩ []))(ht:tE μ R.n tm tmps)(hk:qC (jF μ) k k'){id:Nat} :
  sD P C B N μ base (lone (b.atR ⟨tmps,ds⟩ (.code (.exit id)::k')) (cs++base) w) w (zj3 id C k tm R acs H):=by
 unfold zj3
 cases he:eK id k with
 | some r=>
  obtain⟨r',h1,h2⟩:=z0s hk he
  exact vR hH hcs hR ht h2 (.one (stepR_exit h1))
 | none=>
  exact zd8 hH hcs hR ht (fun _ h=>by cases h) fun l c rest v w' hb hkd hr=>stepR_round_exit hb hkd (zpg hk he) hr
def ret_ok(hH:aA B N μ H w)(hcs:qF C μ acs cs)(hR:aF μ R (b.atR ⟨tmps,ds⟩ []))(ht:tE μ R.n tm tmps) :
  sD P C B N μ base (lone (b.atR ⟨tmps,ds⟩ (.code .ret::k')) (cs++base) w) w (xRet C k tm R acs H):=
 zd8 hH hcs hR ht (fun hb _=>stepR_ret hb) fun _ _ _ _ _ hb hkd hr=>stepR_round_ret hb hkd hr
def end_ok(hH:aA B N μ H w)(hcs:qF C μ acs cs)(hR:aF μ R (b.atR ⟨tmps,ds⟩ []))(ht:tE μ R.n tm tmps) :
  sD P C B N μ base (lone (b.atR ⟨tmps,ds⟩ []) (cs++base) w) w (vN none C ⟨[],tm,R⟩ acs H):=
 zd8 hH hcs hR ht (fun hb _=>stepR_end hb) fun _ _ _ _ _ hb hkd hr=>stepR_round_end hb hkd hr
def xZ{o:Oper}{rest:List Oper}:kO C all k R acs (o::rest) tm H=match eE o.guard all tm with
  | none=>.fail 20
  | some false=>kO C all k R acs rest (putA R.n tm o.dst nD) H
  | some true=>match ((sF o.op).f C (.now tm) H).asVal with
   | some p=>kO C all k R acs rest (putA R.n tm o.dst p.1) p.2
   | none=>zbs ((sF o.op).f C (.now tm) H) C ⟨.ops all (o::rest)::k,tm,R⟩ acs H:=by
 show(match eE o.guard all tm with
  | some w=>Bool.rec (motive:=fun _=>rE) (kO C all k R acs rest (putA R.n tm o.dst nD) H)
     (let r:=(sF o.op).f C (.now tm) H
     match r.asVal with
     | some p=>kO C all k R acs rest (putA R.n tm o.dst p.1) p.2
     | none=>zbs r C ⟨.ops all (o::rest)::k,tm,R⟩ acs H) w
  | none=>.fail 20)=_
 cases eE o.guard all tm with
 | none=>rfl
 | some w=>cases w<;>rfl
def zgn{n i:Nat}(h:i<n):(List.range n).drop i=i::(List.range n).drop (i+1):=by
 rw[ybl (by simpa using h)];simp
def zkt(hS:Sim P C B N I):∀(rest:List Oper) (i:Nat) (tm:Tm) (H:xA) (w:World) (μ:Mu) (tmps:Array Value),rest=all.toList.drop i->i<=all.size->I w->aA B N μ H w->qF C μ acs cs →
  aF μ R (b.atR ⟨tmps,ds⟩ [])->tE μ R.n tm tmps->qC (jF μ) k k' →
  sD P C B N μ base (lone (b.atR ⟨tmps,ds⟩ (.inRegion all ((List.range all.size).drop i)::k')) (cs++base) w) w (kO C all k R acs rest tm H):=by
 intro rest;induction rest with
 | nil=>
  intro i tm H w μ tmps hi hle hI hH hcs hR ht hk;have:all.size<=i:=by
   have:=congrArg List.length hi
   simp at this;omega
  rw[ybt (by simpa using this)]
  exact vR hH hcs hR ht hk (.one stepR_region_end)
 | cons o rest ih=>
  intro i tm H w μ tmps hi hle hI hH hcs hR ht hk;obtain⟨h1,h2⟩:=pP hi
  have hlt:i<all.size:=by have:=(ybc.1 h1).1;simpa using this
  have ho:all[i]?=some o:=by simpa using h1
  rw[xZ,zgn hlt]
  cases hw:eE o.guard all tm with
  | none=>exact trivial
  | some wn=>
   have hwn:=ht.wanted (all:=all) hw
   cases wn with
   | false=>
    refine sD.of_steps (.one (cY ho hwn)) (fun _ _ h=>h) (Below.refl N w) ?_
    rw[vV];have t:=ht.put (ds:=ds) (dst:=o.dst) rX
    exact ih (i+1) _ _ _ _ _ h2 hlt hI hH hcs (hR.slots t.1) t hk
   | true=>
    have hop:=z8j hS.tys hS.base hS.fns hS.prims hH hI (ht.erel (ds:=ds) hH.glob) o
    simp only[];generalize hr:(sF o.op).f C (.now tm) H=r at hop
    have hdef:(∃c,o.op=.defer c)->r=.fail\/∃d,r=.defer d:=fun h=>by rw[<- hr];exact zm7 h _ _ _
    have hfr:wI C μ acs.length none ⟨.ops all (o::rest)::k,tm,R⟩ (b.atR ⟨tmps,ds⟩ (.inRegion all (i::(List.range all.size).drop (i+1))::k')):=by
     refine⟨hR.todo,?_⟩
     rw[yab hR.running,<- zgn hlt,hi];exact .plain (.cons (.ops all i hle) hk) ht
    cases hv:r.asVal with
    | none=>exact zhv hS hH hcs hfr ho hwn hdef hop
    | some p=>
     have:r=.val p.1 p.2:=by cases r<;>simp[aI.asVal]at hv;rw[<- hv]
     subst this;simp only[];have hd:∀c,o.op≠.defer c:=fun c e=>by
      rcases hdef ⟨c,e⟩with h | ⟨d,h⟩<;>cases h
     rcases hop with h | ⟨f,args',h3,h4⟩
     ·obtain⟨v',w',μ',s,hm,hH',hb,hv⟩:=za1 (b:=b) (k':=k') (rest:=(List.range all.size).drop (i+1)) (cs:=cs++base) ho hwn hd h
      refine sD.of_steps (.one s) hm.f hb ?_
      have t:=(ht.mono hm).put (ds:=ds) (dst:=o.dst) hv
      exact ih (i+1) _ _ _ _ _ h2 hlt (hS.inv _ _ hb hI) hH' (hcs.mono hm) ((hR.mono hm).slots t.1) t (hk.mono fun _ _ r=>r.mono hm)
     ·obtain⟨v',w',s,μ',hm,hH',hb,hv⟩:=zhn (b:=b) (k':=k') (rest:=(List.range all.size).drop (i+1)) (cs:=cs++base) (R:=fun v' w'=>∃ μ',μ.le μ'/\aA B N μ' p.2 w'/\Below N w w'/\vA μ' p.1 v') ho hwn hd h3 (h4.mono fun e w' hh=>by obtain⟨v',μ',g1,g2⟩:=hh;exact⟨v',g1,μ',g2⟩)
      refine sD.of_steps s hm.f hb ?_
      have t:=(ht.mono hm).put (ds:=ds) (dst:=o.dst) hv
      exact ih (i+1) _ _ _ _ _ h2 hlt (hS.inv _ _ hb hI) hH' (hcs.mono hm) ((hR.mono hm).slots t.1) t (hk.mono fun _ _ r=>r.mono hm)
def z5b(hS:Sim P C B N I)(hI:I w)(hH:aA B N μ H w)(hcs:qF C μ acs cs)(hR:aF μ R (b.atR ⟨tmps,ds⟩ []))(hk:qC (jF μ) k k'){olds:List (Nat × List Nat)}{anc:Tr Nat}{old:Tm}{D:Nat}{S:Nat->Bool}{order:List Nat}{st:pE}{stages:List pE}{o:Oper}
  (hr:cE μ all olds anc R.n old tm D S order tmps) (hst:zI all.toList anc (st::stages) D=true) (hp:sG C μ acs.length H all olds R.n old tm D S) (ho:all[st.heavy]?=some o) :
  sD P C B N μ base (lone (b.atR ⟨tmps,ds⟩ (.inRegion all order::k')) (cs++base) w) w (zqi all old olds st stages o C k tm R acs H):=by
 have hlt:st.heavy<=all.size:=Nat.le_of_lt (ybe.1 ho).1
 obtain⟨S',order',tmps',μ',w',s,g,r1,p1⟩:=reach (b:=b) (k:=k') (cs:=cs++base) (ds:=ds) hS.tys hst hlt order S tmps μ w hH hr hp
 refine sD.of_steps s g.le g.below ?_
 replace hI:=hS.inv _ _ g.below hI
 replace hH:=g.heap
 replace hcs:=hcs.monoD fun d hd=>g.pd d (by omega)
 replace hR:=hR.mono g.le
 replace hk:qC (jF μ') k k':=hk.mono fun _ _ r=>r.mono g.le
 unfold zqi
 cases hw:eE o.guard all tm with
 | none=>exact trivial
 | some wn=>
  obtain⟨o',ho',hS',hb',_⟩:=r1.sched
  rw[ho]at ho';cases ho'
  have hwn:=r1.wanted ho hb' hw
  have hfr:wI C μ' acs.length none ⟨.reg all old olds (st::stages)::k,tm,R⟩ (b.atR ⟨tmps',ds⟩ (.inRegion all (st.heavy::order')::k')):=by
   refine⟨(hR.slots r1.size).todo,?_⟩
   rw[yab hR.running];exact .wait r1 hst hlt (toWeak hst hlt r1 p1) hk
  cases wn with
  | false=>
   refine zoi (H:=H) hfr hcs μ'.le_refl hH (Below.refl N w') rX ?_
   rw[Frame.finish_atR,ho,yai];exact .one (cY ho hwn)
  | true=>
   have hop:=z8j hS.tys hS.base hS.fns hS.prims hH hI (r1.erel (ds:=ds) hH.glob ho hS' hb') o
   exact zhv hS hH hcs hfr ho hwn (fun h=>zm7 h _ _ _) hop
def zuo(hS:Sim P C B N I)(hH:aA B N μ H w)(hcs:qF C μ acs cs)(hR:aF μ R (b.atR ⟨tmps,ds⟩ []))(hk:qC (jF μ) k k'){olds:List (Nat × List Nat)}{anc:Tr Nat}{old:Tm}{D:Nat}{S:Nat->Bool}{order:List Nat}{st:pE}{stages:List pE}
  (hr:cE μ all olds anc R.n old tm D S order tmps) (hst:zI all.toList anc (st::stages) D=true) (hp:sG C μ acs.length H all olds R.n old tm D S) (hlt:all.size<st.heavy) (hle2:st.heavy<=all.size+all.size) :
  sD P C B N μ base (lone (b.atR ⟨tmps,ds⟩ (.inRegion all order::k')) (cs++base) w) w (zqk all old olds st stages (st.heavy-(all.size+1)) C k tm R acs H):=by
 obtain⟨o,D1,D2,ho,hf,h1,h2,h3⟩:=zfq hst hlt hle2
 generalize st.heavy-(all.size+1)=i at *
 obtain⟨o',ho',hi,hb,hD1⟩:=pW h1
 rw[ho]at ho';cases ho'
 unfold zqk;generalize hx:(ob (gC all.toList i) fun o=>ob (eE o.guard all tm) fun w=>cA (w&&qH (z4p C o.op)) (ob ((sF o.op).f C (.mixed tm old (aD i olds) (zG o.op)) H).asVal fun p=>
  ob (yM C p.2 all R.n old olds st.lights (putA R.n tm o.dst p.1)) fun tm'=>some (⟨⟨.reg all old olds stages::k,tm',R⟩,acs,p.2⟩:lM)))=x
 cases x with
 | none=>exact trivial
 | some x=>
  simp only[uA,wB,eF,ybb]at hx;obtain⟨o',ho',wn,hw,⟨hwn,hlo⟩,p,hv,tm',hl,hx⟩:=hx
  have hlo:z4p C o'.op=none:=by
   cases hx:z4p C o'.op with
   | none=>rfl
   | some _=>rw[hx]at hlo;cases hlo
  have:o'=o:=by
   have h:all[i]?=some o':=by simpa using ho'
   rw[ho]at h;exact(yci h).symm
  subst this;subst hwn
  cases hx;have hop:(sF o'.op).f C (aL tm old olds i o') H=.val p.1 p.2:=by
   show(sF o'.op).f C (.mixed tm old (aD i olds) (zG o'.op)) H=_
   generalize (sF o'.op).f C (.mixed tm old (aD i olds) (zG o'.op)) H=r at hv
   cases r<;>simp[aI.asVal]at hv
   rw[<- hv]
  obtain⟨l,hl2⟩:∃l,p.2=mE H l none:=zup hf hlo hop
  have hH':aA B N (μ.wait H.next (.cells (Tr.ofList l) (yB l) none,acs.length,i)) p.2 w:=by rw[hl2];exact hH.early
  have hle:μ.lw (μ.wait H.next (.cells (Tr.ofList l) (yB l) none,acs.length,i)):=fun _ _ h=>h
  have hpd:∀d,μ.ln d (μ.wait H.next (.cells (Tr.ofList l) (yB l) none,acs.length,i)):=fun d=>⟨hle,fun a x j ha=>by
   show(if a=H.next then _ else μ.pd a)=_
   rw[yaa]
   ·exact ha
   ·intro e
    have:=(hH.pnd _ _ _ ha).2.1
    rw[e,(hH.fresh _ (ybk _)).2]at this
    cases this⟩
  have hgrow:HM.HLe H p.2:=by
   intro b y hb;rw[hl2];show(H.t.set H.next _).get b=some y
   rw[Tr.get_set,yaa]
   ·exact hb
   ·intro e
    rw[e,(hH.fresh _ (ybk _)).2]at hb
    cases hb
  have r1:=(hr.light (v:=p.1) ho hi hb hD1).mono hle
  have p1:sG C (μ.wait H.next (.cells (Tr.ofList l) (yB l) none,acs.length,i)) acs.length p.2 all olds R.n old (putA R.n tm o'.dst p.1) D1 S:=by
   intro j hj hSj;rw[hD1]at hj;simp only[ycq,beq_iff_eq]at hj;rcases hj with hj | rfl
   ·rcases hp j hj hSj with⟨u,wu,vu,pu⟩ | ⟨u,vu,pu⟩
    ·exact .inl ⟨u,wu,vu,(pu.keep hr.reg hr.dclosed hj ho hi).grow hgrow⟩
    ·exact .inr ⟨u,vu,(pu.keep hr.reg hr.dclosed hj ho hi).mono (hpd _)⟩
   ·refine .inr ⟨o',p.1,zfc.fresh hr.reg hr.dclosed ho hb hi hf hlo hw ⟨H,l,by rw[hop,hl2],?_⟩⟩
    show(if H.next=H.next then _ else μ.pd H.next)=_
    rw[yab rfl]
  obtain⟨r2,p2⟩:=xY _ _ _ hl h2 r1 p1
  exact⟨_,_,cs,w,.refl _ _,hle,Below.refl N w,hH',⟨(hR.mono hle).todo,by rw[yab hR.running];exact .reg r2 h3 p2 (hk.mono fun _ _ r=>r.mono hle)⟩,hcs.monoD fun d _=>hpd d⟩
def zbf{α β:Type}{f:α->Option β}(d:β):∀ {l:List α} {r:List β},uG f l=some r->(∀x∈l,f x=some ((f x).getD d))/\r=l.map fun x=>(f x).getD d
 | [],r,h=>by rw[yU]at h;cases h;exact⟨fun x hx=>(by cases hx),rfl⟩
 | a::l,r,h=>by
  rw[mL,uA]at h;obtain⟨v,hv,h⟩:=h
  rw[uA]at h;obtain⟨m,hm,h⟩:=h
  cases h;obtain⟨h1,h2⟩:=zbf d hm
  refine⟨fun x hx=>?_,?_⟩
  ·rcases ybs.1 hx with rfl | hx
   ·rw[hv];rfl
   ·exact h1 x hx
  ·rw[ycm,hv,h2];rfl
def zuk(hS:Sim P C B N I)(hH:aA B N μ H w)(hcs:qF C μ acs cs)(hR:aF μ R (b.atR ⟨tmps,ds⟩ []))(hk:qC (jF μ) k k'){olds:List (Nat × List Nat)}{anc:Tr Nat}{old:Tm}{D:Nat}{S:Nat->Bool}{order:List Nat}{st:pE}{stages:List pE}
  (hr:cE μ all olds anc R.n old tm D S order tmps) (hst:zI all.toList anc (st::stages) D=true) (hp:sG C μ acs.length H all olds R.n old tm D S) (hlt:all.size+all.size<st.heavy) :
  sD P C B N μ base (lone (b.atR ⟨tmps,ds⟩ (.inRegion all order::k')) (cs++base) w) w (zqj all old olds st stages C k tm R acs H):=by
 obtain⟨D1,D2,hG,h2,h3⟩:=zfp hst hlt
 unfold zqj;generalize hx:(cA (wQ C all) (ob (zu0 all old olds tm st.again) fun es=>ob (qQ C es H) fun H'=>ob (yM C H' all R.n old olds st.lights tm) fun tm'=>some (⟨⟨.reg all old olds stages::k,tm',R⟩,acs,H'⟩:lM)))=x
 cases x with
 | none=>exact trivial
 | some x=>
  simp only[uA,wB]at hx;obtain⟨hlen,es,he,H1,hg,tm',hl,hx⟩:=hx
  cases hx;unfold qQ at hg;simp only[uA,wB,ybb]at hg;obtain⟨rs,hrs,⟨hap,hrd⟩,hg⟩:=hg
  obtain⟨e1,e2⟩:=zbf (Eff.store 0 .nilptr .nilptr) he
  obtain⟨e3,e4⟩:=zbf (RE.st 0 0 []) hrs
  have hef:∀i∈st.again,zfu all old olds tm i=some ((zfu all old olds tm i).getD (Eff.store 0 .nilptr .nilptr))/\zq7 C ((zfu all old olds tm i).getD (Eff.store 0 .nilptr .nilptr))=some ((zq7 C ((zfu all old olds tm i).getD (Eff.store 0 .nilptr .nilptr))).getD (RE.st 0 0 [])):=
   fun i hi=>⟨e1 i hi,e3 _ (by rw[e2];exact yaq.2 ⟨i,hi,rfl⟩)⟩
  generalize hE:(fun i=>(zfu all old olds tm i).getD (Eff.store 0 .nilptr .nilptr))=ef at e2
  have hef:∀i∈st.again,zfu all old olds tm i=some (ef i)/\zq7 C (ef i)=some ((fun i=>(zq7 C (ef i)).getD (RE.st 0 0 [])) i):=by
   intro i hi;rw[<- hE];exact hef i hi
  have hrs':rs=st.again.map fun i=>(zq7 C (ef i)).getD (RE.st 0 0 []):=by rw[e4,e2,List.map_map];rfl
  generalize (fun i=>(zq7 C (ef i)).getD (RE.st 0 0 []))=re at hef hrs'
  subst hrs'
  have hap:=zm6 hap
  have hrd:∀i∈st.again,z2c C H (re i):=by
   rw[yG,ycb]at hrd;exact fun i hi=>zxy (hrd _ (yaq.2 ⟨i,hi,rfl⟩))
  have hd1:vK C H (st.again.map re) H1:=by
   have:=vK.list vK.nil (l:=st.again.map re) (fun e he=>by obtain⟨i,hi,rfl⟩:=yaq.1 he;exact hrd i hi) (by rw[yah];exact hap) hg
   rwa [yah]at this
  obtain⟨S',order',tmps',μ',w',seq,Hs,s1,b1,l1,d1,pm,dn,hm,hH',r1,p1,hin⟩:=z5g (b:=b) (k:=k') (cs:=cs++base) (ds:=ds) (H:=H) hS.tys hS.base hG hlen hef hap hrd order S tmps μ w [] H D List.nodup_nil (fun i hi=>by cases hi) vK.nil (fun i hi=>by cases hi) (fun k=>by simp) hH hr hp
  have hapS:(seq.map re).Pairwise mM:=((pm.map re).symm.pairwise_iff (fun h=>mM.symm h)).1 hap
  have heq:HEq' μ' Hs H1:=dn.perm hd1 (pm.map re) hapS fun e he=>by obtain⟨i,hi,rfl⟩:=yaq.1 he;exact hm i hi
  have hH1:=hH'.congr' heq
  have p2:sG C μ' acs.length H1 all olds R.n old tm D1 S':=by
   cases hG0:st.again with
   | nil=>
    rw[hG0]at pm hd1;have hs0:seq=[]:=List.Perm.eq_nil pm
    subst hs0;have hle:HM.HLe Hs H1:=fun a y hy=>by rw[hd1.no a (fun e he=>by cases he),<- dn.no a (fun e he=>by cases he)];exact hy
    intro j hj hSj;rcases p1 j hj hSj with⟨u,wu,vu,pu⟩ | h
    ·exact .inl ⟨u,wu,vu,pu.grow hle⟩
    ·exact .inr h
   | cons g l=>
    have hg:g∈st.again:=by rw[hG0];exact .head _
    have hSg:S' g=true:=hin g (pm.mem_iff.2 hg)
    obtain⟨o,ho,_⟩:=hG.op g hg
    refine zrg hG hlen (seq:=st.again) hG.done (fun i hi=>hin i (pm.mem_iff.2 hi)) hg (fun k hk=>r1.reg.up r1.closed ho (fun j hj=>r1.closed g o ho hSg j hj) hk) p1 H1
  obtain⟨r2,p3⟩:=xY _ _ _ hl h2 r1 p2
  exact⟨_,_,cs,w',s1,l1,b1,hH1,⟨((hR.mono l1).slots r1.size).todo,by rw[yab hR.running];exact .reg r2 h3 p3 (hk.mono fun _ _ r=>r.mono l1)⟩,hcs.monoD fun d hd=>d1 d (by omega)⟩
end
end
section
section
variable {P:Program}{C:oA}{B N:Nat}{I:World->Prop}{μ ν:Mu}{H H':xA}{w:World}{tm:Tm}{R:nI}{acs:List xC}{base cs:List Frame}
variable {b:Frame}{tmps:Array Value}{ds:List Deferred}{k:List fD}{k':List Item}{all:Array Oper}
def z6e(hH:aA B N μ H w)(hcs:qF C μ acs cs)(hR:aF μ R (b.atR ⟨tmps,ds⟩ []))(ht:tE μ R.n tm tmps)(hk:qC (jF μ) k k') :
  sD P C B N μ base (lone (b.atR ⟨tmps,ds⟩ (.beginRound::k')) (cs++base) w) w (zj4 C k tm R acs H):=by
 unfold zj4
 cases hr:R.roundOf with
 | none=>exact trivial
 | some l=>
  obtain⟨i,hi,hb⟩:∃i,μ l=some i/\b.roundOf=some i.b:=by
   have:=hR.round
   rw[hr]at this;exact za5 this
  rw[sA]
  cases hx:jI H l with
  | none=>exact trivial
  | some r=>
   rw[sA]
   cases hst:Nat.beq (LoopState.tag r.state) 0 with
   | false=>exact trivial
   | true=>
    obtain⟨hl,r',hg,hw,rel⟩:=mW hH hx hi
    have ready:r'.state=.ready:=by
     rw[rel.state]
     cases hs:r.state<;>rw[hs]at hst<;>first | rfl | simp[LoopState.tag,Nat.beq]at hst
    have run:(Instr.beginRound i.b).run P w=.ok () (World.setBlk w i.b (.loop { r' with state:=.busy })):=by
     simp only[Instr.beginRound,yad,vW hw,yac,bU hw wZ,ready,yae]
    refine⟨μ,_,cs,_,.one (stepR_beginRound hb run),fun _ _ h=>h,nQ (hH.own l i hl hi).1,?_,⟨?_,?_⟩,hcs⟩
    ·refine hH.upd hg hi hl ?_
     rw[lH];exact⟨_,rfl,rfl,rel.pending,rel.fn,rel.tm,rel.params,rel.assign,rel.body,rel.defers⟩
    ·refine⟨hR.fn,hR.size,hR.defers,hR.mode,hR.kind,?_⟩
     exact hR.round
    ·show if R.mode.running=true then uK C μ acs.length R.n _ k tm k' tmps else tE μ R.n tm tmps
     rw[yab hR.running];exact .plain hk ht
def zfl{l:Nat}{jump:Option Code}{w':World}{cs:List Frame}(hr:(Instr.endLoop l).run P w=.ok jump w') :
  step P (lone (b.atR ⟨tmps,ds⟩ (.endRangeFunc l::k')) cs w)=.next (lone (b.atR ⟨tmps,ds⟩ ((jump.map Item.code).toList++k')) cs w'):=
 step_lone_go (by simp[stepG,stepG.exec,Frame.atR,Sem.runT_eq,hr])
def zpm(hH:aA B N μ H w)(hcs:qF C μ acs cs)(hR:aF μ R (b.atR ⟨tmps,ds⟩ []))(ht:tE μ R.n tm tmps)(hk:qC (jF μ) k k'){l:Nat}{i:BI}(hi:μ l=some i) :
  sD P C B N μ base (lone (b.atR ⟨tmps,ds⟩ (.endRangeFunc i.b::k')) (cs++base) w) w (iV l C k tm R acs H):=by
 unfold iV
 cases hx:jI H l with
 | none=>exact trivial
 | some r=>
  rw[sA]
  cases hst:Nat.beq (LoopState.tag r.state) 1 with
  | true=>exact trivial
  | false=>
   obtain⟨hl,r',hg,hw,rel⟩:=mW hH hx hi
   have busy:r'.state≠.busy:=by
    intro e;rw[rel.state]at e;rw[e]at hst
    cases hst
   have run:(Instr.endLoop i.b).run P w=.ok r'.pending (World.setBlk w i.b (.loop { r' with state:=.exhausted })):=by
    simp[Instr.endLoop,yad,vW hw,yac,bU hw wZ,busy]
   refine⟨μ,_,cs,_,.one (zfl run),fun _ _ h=>h,nQ (hH.own l i hl hi).1,?_,⟨?_,?_⟩,hcs⟩
   ·refine hH.upd hg hi hl ?_
    rw[lH];exact⟨_,rfl,rfl,rel.pending,rel.fn,rel.tm,rel.params,rel.assign,rel.body,rel.defers⟩
   ·exact⟨hR.fn,hR.size,hR.defers,hR.mode,hR.kind,hR.round⟩
   ·show if R.mode.running=true then uK C μ acs.length R.n _ (match r.pending with | some c=>.code c::k | none=>k) tm ((r'.pending.map Item.code).toList++k') tmps else tE μ R.n tm tmps
    rw[yab hR.running,rel.pending]
    cases r.pending with
    | none=>exact .plain hk ht
    | some c=>exact .plain (.cons (.code c) hk) ht
def zdd{f:Operand}{params:Array Nat}{assign body:Code}{l:Nat}{mark:List Deferred}{w1:World}{g:Nat}{args':Array Value}{cs:List Frame}
  (hE:(Instr.enterLoop b.fn tmps params assign body b.roundOf).run P w=.ok (l,mark) w1)
  (hA:(do let d <- resolve (Act.eval ⟨tmps,ds⟩) { callee:=.value f,args := #[.const (.func (.yield l) #[] #[])],argTypes := #[] } 0;invoke d.target d.args:Sem Next).run P w1=.ok (.enter g args') w1) :
  step P (lone (b.atR ⟨tmps,ds⟩ (.code (.rangeFunc f params assign body)::k')) cs w)=.next (lone (Frame.enter P g args' .normal) (b.atR ⟨tmps,mark++ds⟩ (.inRangeFunc l::k')::cs) w1):=by
 refine step_lone_go ?_
 have he:(Frame.eval { b.atR ⟨tmps,ds⟩ (.code (.rangeFunc f params assign body)::k')with todo:=.inRangeFunc l::k',defers:=mark++ds })=Act.eval ⟨tmps,ds⟩:=funext fun x=>by cases x<;>rfl
 simp only[Frame.atR]at he;simp only[stepG,stepG.exec,Frame.atR,Sem.runT_eq,hE,GStep.bare_after,stepG.apply,he,hA,if_true];rfl
def ztu{l:Nat}{v:zA}{h:xC}(e:wR C l v=some h):∃g first cap,v=.func (.func g) first cap/\C.prims.get g=none/\cJ C g (xD first (.func (.yld l) [] []::cap)) false=some h:=by
 unfold wR at e;rw[uA]at e;obtain⟨p,h1,h2⟩:=e
 obtain⟨fn,first,cap⟩:=p
 rw[ze5]at h1
 cases fn with
 | yld m=>cases h2
 | func g=>
  cases hp:C.prims.get g with
  | some x=>simp only[hp]at h2;cases h2
  | none=>simp only[hp]at h2;exact⟨g,first,cap,h1,hp,h2⟩
def zgp{dp:Nat}(hS:Sim P C B N I){l:Nat}{i:BI}{v:zA}{h:xC}(e:wR C l v=some h)(hi:μ l=some i){f:Operand}(hv:vA μ v (Act.eval ⟨tmps,ds⟩ f)){cur:Option xA} :
  ∃g args',(∀w,(do let d <- resolve (Act.eval ⟨tmps,ds⟩) { callee:=.value f,args := #[.const (.func (.yield i.b) #[] #[])],argTypes := #[] } 0;invoke d.target d.args:Sem Next).run P w=.ok (.enter g args') w) ∧
   wI C μ dp cur h (Frame.enter P g args' .normal):=by
 obtain⟨g,first,cap,rfl,hp,he⟩:=ztu e
 rw[vA]at hv;obtain⟨fn,a',c',hv,hf,h1,h2⟩:=hv
 cases hf;have hl:zB μ (xD first (.func (.yld l) [] []::cap)) (a' ++ #[Value.func (.yield i.b) #[] #[]]++c').toList:=by
  rw[iG];have:zB μ (zA.func (.yld l) [] []::cap) (Value.func (.yield i.b) #[] #[]::c'.toList):=.cons (by rw[vA];exact⟨_,_,_,rfl,⟨i,hi,rfl⟩,.nil,.nil⟩) h2
  simpa using h1.append this
 obtain⟨fr,fn,hfn,hb⟩:=aW (cur:=cur) hS.fns he hl
 refine⟨g,_,fun w=>?_,fr⟩
 simp only[yad,resolve,hv,Deferred.ofValue,yae,yac,invoke];have:Array.map (Act.eval ⟨tmps,ds⟩) #[Operand.const (Value.func (.yield i.b) #[] #[])] = #[Value.func (.yield i.b) #[] #[]]:=by simp[Act.eval]
 rw[this];exact lX hS.fns hfn hb
def z33(hS:Sim P C B N I)(hH:aA B N μ H w)(hcs:qF C μ acs cs)(hR:aF μ R (b.atR ⟨tmps,ds⟩ []))(ht:tE μ R.n tm tmps)(hk:qC (jF μ) k k'){f:Operand}{params:Array Nat}{assign body:Code} :
  sD P C B N μ base (lone (b.atR ⟨tmps,ds⟩ (.code (.rangeFunc f params assign body)::k')) (cs++base) w) w (zj2 f params assign body C k tm R acs H):=by
 unfold zj2
 cases hv:ev f (.now tm)with
 | none=>exact trivial
 | some v=>
  have hvr:=ht.erel (ds:=ds) hH.glob f _ hv
  rw[sA]
  cases hr:R.roundOf with
  | none=>
   have hb:b.roundOf=none:=by
    have:=hR.round
    rw[hr]at this;exact zgg this
   simp only[]
   cases hx:wR C (H.next+1) v with
   | none=>exact trivial
   | some h=>
    have h1:=hH.newBlk (x:=.deferred (some [])) (o:=.deferred (some [])) (i:=⟨w.heap.size,true,0,0,false⟩) rfl rfl (by rw[lH];exact⟨_,rfl,.nil⟩)
    have le1:μ.le (μ.ext H.next ⟨w.heap.size,true,0,0,false⟩):=hH.ext_le
    have le2:(μ.ext H.next ⟨w.heap.size,true,0,0,false⟩).le ((μ.ext H.next ⟨w.heap.size,true,0,0,false⟩).ext (newBlk H (.deferred (some []))).next ⟨w.heap.size+1,true,0,0,false⟩):=h1.ext_le
    have sz:(w.alloc (.deferred (some []))).heap.size=w.heap.size+1:=Array.size_push ..
    have h2:=h1.newBlk (x:=.loop ⟨.ready,none,R.fn,R.n,tm,params.toList,assign,body,H.next⟩) (o:=.loop { state:=.ready,pending:=none,fn:=b.fn,tmps,params,assign,body,defers:=w.heap.size })
     (i:=⟨w.heap.size+1,true,0,0,false⟩) sz.symm rfl (by
      rw[lH];exact⟨_,rfl,rfl,rfl,hR.fn,(ht.mono le1.f).mono le2.f,rfl,rfl,rfl,⟨_,le2 _ _ Mu.ext_same,rfl⟩⟩)
    have le:=Mu.le_trans le1 le2
    have hi2:((μ.ext H.next ⟨w.heap.size,true,0,0,false⟩).ext (newBlk H (.deferred (some []))).next ⟨w.heap.size+1,true,0,0,false⟩) (H.next+1)=some ⟨w.heap.size+1,true,0,0,false⟩:=Mu.ext_same
    obtain⟨g,args',hA,hfr⟩:=zgp (ds:=ds) hS hx hi2 (hvr.mono le.f _ _) (cur:=some (newBlk (newBlk H (.deferred (some []))) (.loop ⟨.ready,none,R.fn,R.n,tm,params.toList,assign,body,H.next⟩)))
    have run:(Instr.enterLoop b.fn tmps params assign body b.roundOf).run P w=.ok (w.heap.size+1,[{ target:=.collected w.heap.size,args := #[] }]) ((w.alloc (.deferred (some []))).alloc (.loop { state:=.ready,pending:=none,fn:=b.fn,tmps,params,assign,body,defers:=w.heap.size })):=by
     rw[hb];simp[Instr.enterLoop,yad,yac]
    refine⟨_,_,b.atR ⟨tmps,{ target:=.collected w.heap.size,args := #[] }::ds⟩ (.inRangeFunc (w.heap.size+1)::k')::cs,_,.one (zdd run (hA _)),le,?_,h2,hfr,.cons ⟨?_,?_⟩ (hcs.mono le)⟩
    ·refine(pM hH.size _).trans (pM ?_ _)
     rw[sz];have:=hH.size;omega
    ·have:=hR.mono le.f
     exact⟨this.fn,this.size,.cons ⟨⟨_,le2 _ _ Mu.ext_same,rfl⟩⟩ this.defers,this.mode,this.kind,by have:=this.round;rw[hr]at this;exact this⟩
    ·show if R.mode.running=true then uK C _ acs.length R.n none (.inRange (H.next+1)::k) tm (.inRangeFunc (w.heap.size+1)::k') tmps else _
     rw[yab hR.running];exact .plain (.cons (.inRange _ ⟨w.heap.size+1,true,0,0,false⟩ hi2) (hk.mono fun _ _ r=>r.mono le.f)) (ht.mono le.f)
  | some outer=>
   obtain⟨io,hio,hb⟩:∃i,μ outer=some i/\b.roundOf=some i.b:=by
    have:=hR.round
    rw[hr]at this;exact za5 this
   simp only[]
   cases hlo:jI H outer with
   | none=>exact trivial
   | some o=>
    rw[sA]
    cases hx:wR C H.next v with
    | none=>exact trivial
    | some h=>
     obtain⟨hl,r',hg,hw,rel⟩:=mW hH hlo hio
     obtain⟨idf,hdf,hdf'⟩:=rel.defers
     have le:μ.le (μ.ext H.next ⟨w.heap.size,true,0,0,false⟩):=hH.ext_le
     have h2:=hH.newBlk (x:=.loop ⟨.ready,none,R.fn,R.n,tm,params.toList,assign,body,o.defers⟩) (o:=.loop { state:=.ready,pending:=none,fn:=b.fn,tmps,params,assign,body,defers:=r'.defers })
      (i:=⟨w.heap.size,true,0,0,false⟩) rfl rfl (by
       rw[lH];exact⟨_,rfl,rfl,rfl,hR.fn,ht.mono le,rfl,rfl,rfl,⟨idf,le _ _ hdf,hdf'⟩⟩)
     have hi2:(μ.ext H.next ⟨w.heap.size,true,0,0,false⟩) H.next=some ⟨w.heap.size,true,0,0,false⟩:=Mu.ext_same
     obtain⟨g,args',hA,hfr⟩:=zgp (ds:=ds) hS hx hi2 (hvr.mono le.f _ _) (cur:=some (newBlk H (.loop ⟨.ready,none,R.fn,R.n,tm,params.toList,assign,body,o.defers⟩)))
     have run:(Instr.enterLoop b.fn tmps params assign body b.roundOf).run P w=.ok (w.heap.size,[]) (w.alloc (.loop { state:=.ready,pending:=none,fn:=b.fn,tmps,params,assign,body,defers:=r'.defers })):=by
      rw[hb];simp[Instr.enterLoop,yad,vW hw,yac]
     refine⟨_,_,b.atR ⟨tmps,ds⟩ (.inRangeFunc w.heap.size::k')::cs,_,.one (zdd run (hA _)),le,pM hH.size _,h2,hfr,.cons ⟨?_,?_⟩ (hcs.mono le)⟩
     ·have:=hR.mono le.f
      exact⟨this.fn,this.size,this.defers,this.mode,this.kind,this.round⟩
     ·show if R.mode.running=true then uK C _ acs.length R.n none (.inRange H.next::k) tm (.inRangeFunc w.heap.size::k') tmps else _
      rw[yab hR.running];exact .plain (.cons (.inRange _ ⟨w.heap.size,true,0,0,false⟩ hi2) (hk.mono fun _ _ r=>r.mono le.f)) (ht.mono le.f)
def zn2{c:Code}:step P (lone (b.atR ⟨tmps,ds⟩ (.code (.scope c)::k')) cs w)=.next (lone (b.atR ⟨tmps,ds⟩ (.code c::.inScope c::k')) cs w):=
 step_lone_go (by simp[stepG,stepG.exec,Frame.atR])
def zib{c:Code}:step P (lone (b.atR ⟨tmps,ds⟩ (.inScope c::k')) cs w)=.next (lone (b.atR ⟨tmps,ds⟩ k') cs w):=
 step_lone_go (by simp[stepG,stepG.exec,Frame.atR])
def zzbk(hS:Sim P C B N I)(hI:I w)(hH:aA B N μ H w)(hcs:qF C μ acs cs)(hR:aF μ R (b.atR ⟨tmps,ds⟩ []))(ht:tE μ R.n tm tmps):∀(c:Code) {k:List fD} {k':List Item},qC (jF μ) k k' →
  sD P C B N μ base (lone (b.atR ⟨tmps,ds⟩ (.code c::k')) (cs++base) w) w ((z8q c).f C k tm R acs H):=by
 intro c;induction c with
 | skip=>intro k k' hk;exact zis hH hcs hR ht hk stepR_skip
 | region id ops d=>
  intro k k' hk
  cases d with
  | true=>exact zza9 hS hH hcs hR ht hk
  | false=>
   refine sD.of_steps (.one stepR_region) (fun _ _ h=>h) (Below.refl N w) ?_
   have:=zkt (base:=base) (all:=ops) hS ops.toList 0 tm.cut H w μ tmps (by simp) (yaw _) hI hH hcs hR ht.cut hk
   rw[ycr]at this;exact this
 | seq x y ihx _=>
  intro k k' hk;exact sD.of_steps (.one stepR_seq) (fun _ _ h=>h) (Below.refl N w) (ihx (.cons (.code y) hk))
 | cond c x y _ _=>intro k k' hk;exact zzbi hH hcs hR ht hk
 | block id c _=>intro k k' hk;exact z6c hH hcs hR ht hk
 | loop c _=>intro k k' hk;exact z93 hH hcs hR ht hk
 | rangeFunc f ps a c _ _=>intro k k' hk;exact z33 hS hH hcs hR ht hk
 | exit id=>intro k k' hk;exact zza2 hH hcs hR ht hk
 | scope c _=>intro k k' hk;exact vR hH hcs hR ht (.cons (.code _) (.cons (.inScope _) hk)) (.one zn2)
 | label l=>intro k k' hk;exact zis hH hcs hR ht hk stepR_label
 | goto l=>intro k k' _;exact trivial
 | ret=>intro k k' _;exact ret_ok hH hcs hR ht
 | refuse s=>intro k k' _;exact trivial
def zza3(hS:Sim P C B N I)(hI:I w)(hH:aA B N μ H w)(hcs:qF C μ acs cs)(hR:aF μ R (b.atR ⟨tmps,ds⟩ [])){todo:List fD}{btodo:List Item}(hb:uK C μ acs.length R.n (some H) todo tm btodo tmps) :
  sD P C B N μ base (lone (b.atR ⟨tmps,ds⟩ btodo) (cs++base) w) w (sM C todo tm R acs H):=by
 generalize hc:some H=cur at hb
 cases hb with
 | plain a t=>
  cases a with
  | nil=>exact end_ok hH hcs hR t
  | cons i hk=>
   cases i with
   | code c=>exact zzbk hS hI hH hcs hR t c hk
   | inBlock id=>exact zis hH hcs hR t hk stepR_inBlock
   | inLoop c=>exact vR hH hcs hR t (.cons (.code _) (.cons (.inLoop _) hk)) (.one stepR_inLoop)
   | inScope c=>exact zis hH hcs hR t hk zib
   | ops all i hi=>exact zkt hS _ i _ _ _ _ _ rfl hi hI hH hcs hR t hk
   | inRange l i hl=>exact trivial
   | endRange l i hl=>exact zpm hH hcs hR t hk hl
   | beginRound=>exact z6e hH hcs hR t hk
 | @reg _ all old _ olds stages _ order _ _ anc D S hr hst hp hk=>
  cases hc;show sD P C B N μ base _ w (zs7 all old olds stages C _ tm R acs H)
  unfold zs7
  cases stages with
  | nil=>exact zxv hS hH hcs hR hk hr hst hp
  | cons st stages=>
   by_cases hlt:st.heavy<=all.size
   ·obtain⟨_,_,D1,D2,h1,_⟩:=eX hst hlt
    obtain⟨o,ho,_⟩:=pW h1
    have:gC all.toList st.heavy=some o:=by rw[eF];simpa using ho
    simp only[this];exact z5b hS hI hH hcs hR hk hr hst hp ho
   ·have:gC all.toList st.heavy=none:=by rw[eF];simp;omega
    simp only[this];rw[zC,yab (vC.2 (by rw[bC];simp;omega))]
    by_cases hlt2:all.size+all.size<st.heavy
    ·rw[zC,yab (vC.2 (by rw[bC];simpa using hlt2))]
     exact zuk hS hH hcs hR hk hr hst hp hlt2
    rw[zC,yaa (fun e=>by have:=vC.1 e;rw[bC]at this;simp at this;omega)]
    have e0:Nat.sub st.heavy (Nat.succ (yB all.toList))=st.heavy-(all.size+1):=by rw[bC];simp
    rw[e0];exact zuo hS hH hcs hR hk hr hst hp (by omega) (by omega)
 | @mid _ all old _ olds lights again stages _ order _ _ anc D D2 S hr h1 h2 hw hk=>
  show sD P C B N μ base _ w (zs7 all old olds (⟨all.size,lights,again⟩::stages) C _ tm R acs H)
  unfold zs7;have:gC all.toList all.size=none:=by rw[eF];simp
  simp only[this];rw[zC,yaa fun e=>by have:=vC.1 e;rw[bC]at this;simp at this]
  exact zy8 hH hcs hR hk (st:=⟨all.size,lights,again⟩) hr h1 h2 hw
 | wait _ _ _ _ _=>cases hc
end
end
section
section
variable {P:Program}{C:oA}{B N:Nat}{I:World->Prop}{μ ν:Mu}{H H':xA}{w:World}{tm:Tm}{R:nI}{acs:List xC}{base cs:List Frame}
variable {b:Frame}{tmps:Array Value}
def zdc{block:Nat}{es calls:List Deferred}{w':World}(hm:b.mode≠.run)(hd:b.defers={ target:=.collected block,args := #[] }::es)(hr:(Instr.takeDeferred block).run P w=.ok calls w') :
  step P (lone b cs w)=.next (lone { b with defers:=calls++es } cs w'):=by
 obtain⟨fn,tmps,todo,defers,mode,kind,round⟩:=b
 simp only at hm hd
 subst hd;refine step_lone_go ?_
 cases mode with
 | run=>exact absurd rfl hm
 | returning=>simp[stepG,unwind,Sem.runT_eq,hr]
 | panicking c=>simp[stepG,unwind,Sem.runT_eq,hr]
def ztn{f:Nat}{cap as:Array Value}{es:List Deferred}(hm:b.mode≠.run)(hd:b.defers={ target:=.fn (.func f) cap,args:=as }::es)(hr:(callFunc f (as++cap)).run P w=.ok (.enter f (as++cap)) w) :
  step P (lone b cs w)=.next (lone (Frame.enter P f (as++cap) .deferred) ({ b with defers:=es }::cs) w):=by
 obtain⟨fn,tmps,todo,defers,mode,kind,round⟩:=b
 simp only at hm hd
 subst hd;refine step_lone_go ?_
 cases mode with
 | run=>exact absurd rfl hm
 | returning=>simp[stepG,unwind,callDeferred,invoke,Sem.runT_eq,hr]
 | panicking c=>simp[stepG,unwind,callDeferred,invoke,Sem.runT_eq,hr]
def iR(c:Frame):Frame:=
 match c.mode with
 | .panicking ({ recovered:=true,.. }::older)=>
  match older.dropWhile (!·.goexit)with
  | []=>{ c with mode:=.returning }
  | rest=>{ c with mode:=.panicking rest }
 | _=>c
def zfk{fn:Func}{v:Value}{c:Frame}(hm:b.mode=.returning)(hd:b.defers=[])(hk:b.kind=.deferred)(hf:P.funcs[b.fn]?=some fn)(hr:(results fn b.tmps).run P w=.ok v w) :
  step P (lone b (c::cs) w)=.next (lone (iR c) cs w):=by
 refine step_lone_go ?_
 simp only[stepG,unwind,doReturn,hm,hd,hk,hf,Sem.runT_eq,hr,GStep.bare_after];rfl
def zq6(tmps:Array Value)(r:ResultVar):Sem Value:=
 match r with
 | .tmp t=>pure (tmps.getD t undef)
 | .cell a t=>do loadVar t (<- asAddr (tmps.getD a undef))
def zts(fn:Func)(tmps:Array Value):results fn tmps=(do let vs <- fn.results.mapM (zq6 tmps);pure (if h:vs.size=1 then vs[0]else .tuple vs)):=rfl
def zcc(hT:jE P C)(hH:aA B N μ H w){n:Nat}(ht:tE μ n tm tmps):∀(rs:List ResultVar) (l:List zA),uG (rS C H tm) rs=some l →
  ∃vs,(rs.mapM (zq6 tmps)).run P w=.ok vs w/\zB μ l vs:=by
 intro rs;induction rs with
 | nil=>intro l h;rw[yU]at h;cases h;exact⟨[],by simp[yae],.nil⟩
 | cons r rs ih=>
  intro l h;rw[mL,uA]at h;obtain⟨a,ha,h⟩:=h
  rw[uA]at h;obtain⟨m,hm,h⟩:=h
  cases h;obtain⟨vs,h1,h2⟩:=ih m hm
  rw[List.mapM_cons]
  cases r with
  | tmp t=>
   refine⟨_,?_,.cons (ht.2 t a ha) h2⟩
   simp only[zq6,yad,yae,yac,h1]
  | cell x t=>
   simp only[rS,uA,kU]at ha;obtain⟨p,⟨av,hav,rfl⟩,ty,hty,c,hc,hl⟩:=ha
   have hv:=ht.2 x _ hav
   rw[vA]at hv;obtain⟨i,hi,hv⟩:=hv
   obtain⟨v',h3,h4⟩:=zrq (P:=P) hH (hT.facts hty) hc hi hl
   refine⟨_,?_,.cons h4 h2⟩
   have ha:(asAddr (Value.pointer (some ⟨i.b,p.2,none⟩))).run P w=.ok ⟨i.b,p.2,none⟩ w:=rfl
   have one:(zq6 tmps (.cell x t)).run P w=.ok v' w:=by
    show((asAddr (tmps.getD x undef)).bind fun a=>loadVar t a).run P w=_
    rw[hv];exact h3
   simp only[yad,yae,yac,one,h1]
def zgh(hT:jE P C)(hH:aA B N μ H w){n:Nat}(ht:tE μ n tm tmps){fn:Func}{l:List zA}(h:yR C H tm fn.results.toList=some l) :
  ∃v,(results fn tmps).run P w=.ok v w/\vA μ (jT l) v:=by
 obtain⟨vs,h1,h2⟩:=zcc hT hH ht _ _ h
 refine⟨if h:vs.toArray.size=1 then vs.toArray[0]else .tuple vs.toArray,?_,?_⟩
 ·rw[zts,Array.mapM_eq_mapM_toList]
  simp only[yad,map_eq_pure_bind,h1,yac,yae]
 ·have hl:=h2.length
  cases l with
  | nil=>
   rw[zB]at h2;subst h2;rw[dif_neg (by simp)]
   show vA μ (.tup []) _
   rw[vA];exact⟨_,rfl,.nil⟩
  | cons a m=>
   cases m with
   | nil=>
    rw[zB]at h2;obtain⟨v,r,rfl,hv,hr⟩:=h2
    rw[zB]at hr;subst hr;rw[dif_pos (by simp)]
    exact hv
   | cons a2 m=>
    rw[dif_neg (by simp[hl])]
    show vA μ (.tup (a::a2::m)) _
    rw[vA];exact⟨_,rfl,by simpa using h2⟩
def DefRel(μ:Mu):Option (List sI)->Option (List Deferred)->Prop
 | none,none=>True
 | some a,some b=>qC (xS μ) a b
 | _,_=>False
def zpt(hH:aA B N μ H w){l:Nat}{x:Option (List sI)}(h:oQ H l=some x){i:BI}(h4:μ l=some i):B<=l/\∃x',H.t.get l=some (.deferred x)/\w.heap[i.b]?=some (.deferred x')/\DefRel μ x x':=by
 unfold oQ at h;rw[wB,kE,uA]at h;obtain⟨h1,y,h2,h3⟩:=h
 have:y=.deferred x:=by cases y<;>simp[rA.asDeferred]at h3;rw[h3]
 subst this;obtain⟨o,h5,h6⟩:=hH.blk l _ i h2 h4
 rw[lH]at h6;obtain⟨r',rfl,h7⟩:=h6
 refine⟨Nat.le_of_not_lt fun hlt=>?_,r',h2,h5,?_⟩
 ·have:=(hH.low l _ i hlt h2 h4).2.2
  cases this
 cases x<;>cases r'<;>exact h7
def zt4{μ:Mu}{m:zfw}{m':FrameMode}(h:zfd μ m m')(hm:m.running=false):m'≠.run:=by
 rintro rfl
 cases m<;>first | exact h.elim | cases hm
def zwe(hS:Sim P C B N I)(hH:aA B N μ H w)(hcs:qF C μ acs cs){fr:xC}(hr:aF μ fr.R b)(hm:fr.R.mode.running=false)(ht:tE μ fr.R.n fr.tm b.tmps){d:sI}{l:List sI}(hd:fr.R.defers=d::l) :
  sD P C B N μ base (lone b (cs++base) w) w (zkf C d l fr acs H):=by
 have hrun:=zt4 hr.mode hm
 have hds:=hr.defers
 rw[hd]at hds;generalize hbd:b.defers=bd at hds
 cases hds with
 | @cons _ e _ es h1 h2=>
  obtain⟨dfn,dr,dargs⟩:=d
  have h1:=h1.rel
  unfold zkf
  cases dfn with
  | none=>
   obtain⟨i,hi,rfl⟩:=h1
   simp only[]
   cases hx:oQ H dr with
   | none=>exact trivial
   | some x=>
    rw[sA]
    cases x with
    | none=>exact trivial
    | some calls=>
     obtain⟨hl,x',hg,hw,rel⟩:=zpt hH hx hi
     cases x' with
     | none=>exact rel.elim
     | some calls'=>
      have run:(Instr.takeDeferred i.b).run P w=.ok calls' (World.setBlk w i.b (.deferred none)):=by
       have:(setObj i.b (.deferred none)).run P w=.ok () (World.setBlk w i.b (.deferred none)):=bU hw (by intro a b c h;cases h)
       have hg:(getObj i.b).run P w=.ok (.deferred (some calls')) w:=by simp[getObj,Sem.run,hw]
       simp only[Instr.takeDeferred,yad,hg,yac,this,yae]
      refine⟨μ,_,cs,_,.one (zdc hrun hbd run),fun _ _ h=>h,nQ (hH.own dr i hl hi).1,?_,⟨?_,?_⟩,hcs⟩
      ·refine hH.upd hg hi hl ?_
       rw[lH];exact⟨none,rfl,trivial⟩
      ·refine⟨hr.fn,hr.size,?_,hr.mode,hr.kind,hr.round⟩
       show qC (xS μ) (xD calls l) (calls'++es)
       rw[iG];exact qC.append rel h2
      ·show if fr.R.mode.running=true then uK C _ _ _ _ _ _ _ _ else _
       rw[yaa (by rw[hm];simp)]
       exact ht
  | some fn=>
   cases fn with
   | yld m=>exact trivial
   | func f=>
    obtain⟨fn,cap,as,rfl,hfn,hl⟩:=h1
    cases hfn;simp only[]
    cases hp:C.prims.get f with
    | some x=>exact trivial
    | none=>
     simp only[]
     cases he:cJ C f dargs true with
     | none=>exact trivial
     | some g=>
      obtain⟨h3,fn,hfn,hb⟩:=aW (cur:=some H) hS.fns he hl
      refine⟨μ,_,{ b with defers:=es }::cs,w,.one (ztn hrun hbd (lX hS.fns hfn hb)),fun _ _ h=>h,Below.refl N w,hH,h3,.cons ⟨⟨hr.fn,hr.size,h2,hr.mode,hr.kind,hr.round⟩,?_⟩ hcs⟩
      show if fr.R.mode.running=true then uK C _ _ _ _ _ _ _ _ else _
      rw[yaa (by rw[hm];simp)]
      exact ht
def wI.still{dp:Nat}{cur cur':Option xA}{fr:xC}(h:wI C μ dp cur fr b)(hm:fr.R.mode.running=false):wI C μ dp cur' fr b:=by
 refine⟨h.rest,?_⟩
 have:=h.body
 rw[yaa (by rw[hm];simp)]at this ⊢
 exact this
def zjq{l:List PanicEntry}{m:List zca}(h:qC (qT μ) m l):l.dropWhile (!·.goexit)=[]:=by
 induction h with
 | nil=>rfl
 | cons a _ ih=>simp[a.goexit,ih]
def z6f(c:xC)(rest:List xC)(H:xA):Option lM:=
 match c.R.mode with
 | .panicking (⟨_,true⟩::_)=>some (⟨zdj c .returning,rest,H⟩:lM)
 | _=>cA (!c.R.mode.running) (some ⟨c,rest,H⟩)
def zrb(C:oA)(fr:xC)(ch:List zca)(cs:List xC)(H:xA):rE:=
 wJ (ob (C.fns.get fr.R.fn) fun _=>match cs with | c::rest=>some ⟨zrc c ch,rest,H⟩ | []=>none) 19
def zzbp{dp:Nat}{c:xC}{c':Frame}(hc:wI C μ dp none c c'){x:lM}{rest:List xC}(h:z6f c rest H=some x):x.cs=rest/\x.H=H/\wI C μ dp (some H) x.fr (iR c'):=by
 have hm:=hc.rest.mode
 have stay:c'.mode=c'.mode->(iR c'=c')->c.R.mode.running=false->x=⟨c,rest,H⟩->x.cs=rest/\x.H=H/\wI C μ dp (some H) x.fr (iR c'):=by
  intro _ h1 h2 h3;subst h3;rw[h1];exact⟨rfl,rfl,hc.still h2⟩
 obtain⟨ct,ctm,cR⟩:=c
 obtain⟨f,n,de,mode,dd,ro⟩:=cR
 unfold z6f at h;simp only at h hm
 cases mode with
 | run=>cases h
 | returning=>
  cases hcm:c'.mode with
  | returning=>exact stay rfl (by unfold iR;rw[hcm]) rfl (yci h).symm
  | _=>rw[hcm]at hm;exact hm.elim
 | panicking ch=>
  cases hcm:c'.mode with
  | run=>rw[hcm]at hm;exact hm.elim
  | returning=>rw[hcm]at hm;exact hm.elim
  | panicking ch'=>
   rw[hcm]at hm
   cases hm with
   | nil=>exact stay rfl (by unfold iR;rw[hcm]) rfl (yci h).symm
   | @cons p e older older' hp hold=>
    obtain⟨pv,pr⟩:=p
    obtain⟨ev',er,eg⟩:=e
    obtain⟨q1,q2,q3⟩:=hp
    simp only at q1 q2 q3
    subst q2 q3
    cases er with
    | false=>exact stay rfl (by unfold iR;rw[hcm]) rfl (yci h).symm
    | true=>
     cases yci h
     refine⟨rfl,rfl,?_⟩
     have:iR c'={ c' with mode:=.returning }:=by
      unfold iR;rw[hcm];simp only[zjq hold]
     rw[this];have hb:=hc.body
     exact⟨⟨hc.rest.fn,hc.rest.size,hc.rest.defers,trivial,hc.rest.kind,hc.rest.round⟩,hb⟩
def ztf(hS:Sim P C B N I)(hH:aA B N μ H w)(hcs:qF C μ acs cs){fr:xC}(hr:aF μ fr.R b)(hm:b.mode=.returning)(hd:b.defers=[])(ht:tE μ fr.R.n fr.tm b.tmps) :
  sD P C B N μ base (lone b (cs++base) w) w (zc6 C fr acs H):=by
 unfold zc6
 cases hx:ob (C.fns.get fr.R.fn) fun fn=>yR C H fr.tm fn.results.toList with
 | none=>exact trivial
 | some l=>
  rw[uA]at hx;obtain⟨fn,hfn,hres⟩:=hx
  obtain⟨v,h1,h2⟩:=zgh hS.tys hH ht hres
  have hf:P.funcs[b.fn]?=some fn:=by rw[hr.fn];exact(hS.fns _ _ hfn).1
  have hk:=hr.kind
  simp only[]
  cases hcs with
  | nil=>
   simp only[zC]
   cases hdf:fr.R.deferred with
   | true=>exact trivial
   | false=>
    rw[hdf]at hk;rw[yaa (by simp)]
    split
    ·rename_i hroot
     exact⟨μ,b,w,v,.refl _ _,fun _ _ h=>h,Below.refl N w,hH,h2,by rw[hr.fn];exact fB.1 hroot,hm,hd,hk,fn,hf,h1⟩
    ·exact trivial
  | @cons c c' acs1 cs1 hc hcs1=>
   simp only[]
   cases hdf:fr.R.deferred with
   | true=>
    rw[hdf]at hk;simp only[cond_true];show sD P C B N μ base _ w (wJ (z6f c acs1 H) 18)
    generalize hx:z6f c acs1 H=x
    cases x with
    | none=>exact trivial
    | some x=>
     obtain⟨h3,h4,h5⟩:=zzbp hc hx
     obtain⟨xf,xc,xh⟩:=x
     simp only at h3 h4 h5
     subst h3 h4
     exact⟨μ,_,cs1,w,.one (zfk hm hd hk hf h1),fun _ _ h=>h,Below.refl N w,hH,h5,hcs1⟩
   | false=>
    rw[hdf]at hk;simp only[cond_false]
    cases hfi:gG c (jT l)with
    | none=>exact trivial
    | some g=>
     exact⟨μ,_,cs1,w,.one (step_leave_returned ⟨hm,hd,hk,fn,hf,h1⟩),fun _ _ h=>h,Below.refl N w,hH,tU hc hfi h2,hcs1⟩
def zwc(hS:Sim P C B N I)(hH:aA B N μ H w)(hcs:qF C μ acs cs){fr:xC}(hfr:wI C μ acs.length (some H) fr b)(hm:fr.R.mode.running=false) :
  sD P C B N μ base (lone b (cs++base) w) w (zh2 C fr acs H):=by
 have ht:tE μ fr.R.n fr.tm b.tmps:=by
  have:=hfr.body
  rw[yaa (by rw[hm];simp)]at this
  exact this
 have hr:=hfr.rest
 unfold zh2
 cases hd:fr.R.defers with
 | cons d l=>exact zwe hS hH hcs hr hm ht hd
 | nil=>
  have hbd:b.defers=[]:=by
   have:=hr.defers
   rw[hd]at this;generalize hbd:b.defers=bd at this
   cases this
   rfl
  have hmode:=hr.mode
  simp only[]
  cases hmo:fr.R.mode with
  | run=>rw[hmo]at hm;cases hm
  | returning=>
   rw[hmo]at hmode;have:b.mode=.returning:=by
    cases hb:b.mode with
    | returning=>rfl
    | _=>rw[hb]at hmode;exact hmode.elim
   exact ztf hS hH hcs hr this hbd ht
  | panicking ch=>
   rw[hmo]at hmode
   cases hb:b.mode with
   | run=>rw[hb]at hmode;exact hmode.elim
   | returning=>rw[hb]at hmode;exact hmode.elim
   | panicking ch'=>
    rw[hb]at hmode;show sD P C B N μ base _ w (zrb C fr ch acs H)
    unfold zrb
    cases hfn:C.fns.get fr.R.fn with
    | none=>exact trivial
    | some fn=>
     rw[sA];have hf:P.funcs[b.fn]?=some fn:=by rw[hr.fn];exact(hS.fns _ _ hfn).1
     cases hcs with
     | nil=>exact trivial
     | @cons c c' acs1 cs1 hc hcs1=>
      exact⟨μ,_,cs1,w,.one (step_leave_panicked ⟨hb,hbd,fn,hf⟩),fun _ _ h=>h,Below.refl N w,hH,zra hc hmode,hcs1⟩
def z3e(hS:Sim P C B N I)(hI:I w){s:lM}(hH:aA B N μ s.H w)(hcs:qF C μ s.cs cs)(hfr:wI C μ s.cs.length (some s.H) s.fr b):sD P C B N μ base (lone b (cs++base) w) w (stepA C s):=by
 obtain⟨⟨todo,tm,R⟩,acs,H⟩:=s
 show sD P C B N μ base _ w (bif R.mode.running then sM C todo tm R acs H else zh2 C ⟨todo,tm,R⟩ acs H)
 cases hm:R.mode.running with
 | false=>exact zwc hS hH hcs hfr hm
 | true=>
  have hb:=hfr.body
  have hr:=hfr.rest
  simp only at hb hr
  rw[yab hm]at hb;have hbm:b.mode=.run:=by
   have h:=hr.mode
   cases hmo:R.mode with
   | run=>
    rw[hmo]at h
    cases hb:b.mode with
    | run=>rfl
    | _=>rw[hb]at h;exact h.elim
   | _=>rw[hmo]at hm;cases hm
  have e:=z6g hbm
  have:=zza3 (b:=b) (tmps:=b.tmps) (ds:=b.defers) (base:=base) hS hI hH hcs ⟨hr.fn,hr.size,hr.defers,by have:=hr.mode;rw[hbm]at this;exact this,hr.kind,hr.round⟩ hb
  rw[e]at this;exact this
def zqz(hS:Sim P C B N I)(hI:I w){m:Machine}{o:rE}(h:sD P C B N μ base m w o):sD P C B N μ base m w (zto C o):=by
 cases o with
 | fail n=>exact trivial
 | done v H=>exact h
 | next s=>
  obtain⟨μ',b,cs,w',h1,h2,h3,h4,h5,h6⟩:=h
  exact sD.of_steps h1 h2 h3 (z3e hS (hS.inv _ _ h3 hI) h4 h6 h5)
def z9g(hS:Sim P C B N I)(hI:I w){m:Machine}:∀(n:Nat) {o:rE},sD P C B N μ base m w o->sD P C B N μ base m w (zq3 C n o):=by
 intro n;induction n with
 | zero=>intro o h;exact zqz hS hI h
 | succ n ih=>intro o h;exact ih (ih h)
def zmu(hS:Sim P C B N I)(hI:I w){f:Nat}(hroot:C.root=f){args:List zA}{args':Array Value}(hH:aA B N μ H w)(hl:zB μ args args'.toList){g:xC}(he:cJ C f args false=some g){n:Nat}{v:zA}{H':xA}
  (hrun:zq3 C n (.next ⟨g,[],H⟩)=.done v H') :
  Calls P f args' w fun e w'=>∃v' μ',e=.returned v'/\μ.lw μ'/\vA μ' v v'/\aA B N μ' H' w'/\Below N w w':=by
 intro base;have h0:sD P C B N μ base (lone (Frame.enter P f args' .normal) base w) w (.next ⟨g,[],H⟩):=
  ⟨μ,_,[],w,.refl _ _,fun _ _ h=>h,Below.refl N w,hH,(aW (cur:=some H) hS.fns he hl).1,.nil⟩
 have h1:=z9g hS hI n h0
 rw[hrun]at h1;obtain⟨μ',b,w',v',h2,h3,h4,h5,h6,h7,h8⟩:=h1
 exact⟨.returned v',w',b,⟨v',μ',rfl,h3,h6,h5,h4⟩,h2,by rw[h7,hroot],h8⟩
end
end
section
abbrev uB:=Option (zA × xA)
abbrev Ora:=AFn->List zA->xA->uB
structure Kt where
 norm:Tm->xA->uB
 exit:Nat->Tm->xA->uB
 ret:Tm->xA->uB
structure PI where
 id:Nat
 pl:List Nat
 ll:List (Nat × Nat)
def PI.kept(p:PI):List Nat:=xD p.pl (List.rec (motive:=fun _=>List Nat) [] (fun a _ r=>a.1::r) p.ll)
inductive qD where
 | skip
 | region (id:Nat) (ops:Array Oper) (draw:Bool)
 | seq (a b:qD)
 | cond (c:Operand) (x y:qD)
 | block (id:Nat) (c:qD)
 | loop (p:PI) (c:qD)
 | exit (id:Nat)
 | ret
 | cut (p:PI) (c:qD)
 | range (i:Nat) (pl:List Nat) (f:Operand) (ps:Array Nat) (id:Nat) (ops:Array Oper) (c:qD)
def wF:qD->Code
 | .skip=>.skip
 | .region id ops d=>.region id ops d
 | .seq a b=>.seq (wF a) (wF b)
 | .cond c x y=>.cond c (wF x) (wF y)
 | .block id c=>.block id (wF c)
 | .loop _ c=>.loop (wF c)
 | .exit id=>.exit id
 | .ret=>.ret
 | .cut _ c=>wF c
 | .range _ _ f ps id ops c=>.rangeFunc f ps (.region id ops false) (wF c)
def lim {α:Type}(f:Nat->Option α):Option α:=@dite _ (∃n r,f n=some r) (Classical.propDecidable _) (fun h=>f h.choose) (fun _=>none)
def Mono {α:Type}(f:Nat->Option α):Prop:=∀n r,f n=some r->f (n+1)=some r
def Mono.le{α:Type}{f:Nat->Option α}(h:Mono f){n m:Nat}{r:α}(hr:f n=some r)(hnm:n<=m):f m=some r:=by
 induction hnm with
 | refl=>exact hr
 | step _ ih=>exact h _ _ ih
def zco{α:Type}{f:Nat->Option α}(h:Mono f){r:α}:lim f=some r ↔ ∃n,f n=some r:=by
 unfold lim;by_cases hx:∃n r,f n=some r
 ·rw[dif_pos hx]
  obtain⟨r0,h0⟩:=hx.choose_spec
  constructor
  ·intro e;exact⟨_,e⟩
  ·rintro⟨n,hn⟩
   have a:=h.le h0 (Nat.le_max_left hx.choose n)
   have b:=h.le hn (Nat.le_max_right hx.choose n)
   rw[a]at b;rw[h0];exact b
 ·rw[dif_neg hx]
  constructor
  ·intro e;cases e
  ·rintro⟨n,hn⟩;exact absurd ⟨n,r,hn⟩ hx
def z9x:bD->zA->(zA->uB)->uB
 | .bool,v,K=>ob v.asBool fun b=>K (.bool b)
 | .int k,v,K=>ob v.asIntK fun p=>cA (kEq p.1 k) (K (.int k p.2))
 | .string,v,K=>ob v.asStr fun l=>K (.str l)
 | .ptr _,v,K=>K v
 | .slice _,v,K=>K v
 | .arr _ _,v,K=>K v
 | .map _ _,v,K=>K v
 | .struct _,v,K=>K v
 | .func,v,K=>K v
 | .iface,v,K=>K v
 | .other,v,K=>K v
def fitD:bD->zA->Prop
 | .bool,v=>∃b,v=.bool b
 | .int k,v=>∃n,v=.int k n
 | .string,v=>∃l,v=.str l
 | _,_=>True
def zt5{d:bD}{v:zA}{K:zA->uB}{x:zA × xA}:z9x d v K=some x ↔ fitD d v/\K v=some x:=by
 cases d<;>simp only[z9x,fitD,uA,wB,true_and]
 case bool=>
  constructor
  ·rintro⟨b,h1,h2⟩;have:=fR.1 h1;subst this;exact⟨⟨b,rfl⟩,h2⟩
  ·rintro⟨⟨b,rfl⟩,h⟩;exact⟨b,rfl,h⟩
 case int k=>
  constructor
  ·rintro⟨p,h1,h2,h3⟩;have:=lP.1 h1;subst this;rw[oJ.1 h2];exact⟨⟨p.2,rfl⟩,h3⟩
  ·rintro⟨⟨n,rfl⟩,h⟩;exact⟨(k,n),rfl,oJ.2 rfl,h⟩
 case string=>
  constructor
  ·rintro⟨b,h1,h2⟩;have:=mP.1 h1;subst this;exact⟨⟨b,rfl⟩,h2⟩
  ·rintro⟨⟨b,rfl⟩,h⟩;exact⟨b,rfl,h⟩
def xJ(C:oA)(t:Nat)(v:zA)(K:zA->uB):uB:=
 match C.tys.get t with
 | some ty=>z9x ty.desc v K
 | none=>K v
def z5m (C:oA)(t:Nat)(v:zA):Prop:=
 match C.tys.get t with
 | some ty=>fitD ty.desc v
 | none=>True
def vL{C:oA}{t:Nat}{v:zA}{K:zA->uB}{x:zA × xA}:xJ C t v K=some x ↔ z5m C t v/\K v=some x:=by
 unfold xJ z5m;split
 ·exact zt5
 ·simp
def iF (φ:Ora)(r:aI)(H:xA)(k:zA->xA->uB):uB:=
 match r with
 | .val v H'=>k v H'
 | .enter f args=>ob (φ (.func f) args H) fun p=>k p.1 p.2
 | .round l args=>ob (φ (.yld l) args H) fun p=>k p.1 p.2
 | _=>none
def rK (C:oA)(φ:Ora)(all:Array Oper)(n:Nat)(κ:Tm->xA->uB)(l:List Oper):Tm->xA->uB:=
 List.rec (motive:=fun _=>Tm->xA->uB) κ
  (fun o _ g tm H=>ob (eE o.guard all tm) fun w=>Bool.rec (motive:=fun _=>uB) (g (putA n tm o.dst nD) H)
   (iF φ ((sF o.op).f C (.now tm) H) H fun v H'=>xJ C o.type v fun v=>g (putA n tm o.dst v) H') w) l
def dG(C:oA)(H:xA)(all:Array Oper)(n:Nat)(old:Tm)(olds:List (Nat × List Nat))(k:Tm->uB)(l:List Nat):Tm->uB:=
 List.rec (motive:=fun _=>Tm->uB) k
  (fun i _ g tm=>ob (gC all.toList i) fun o=>ob (eE o.guard all tm) fun w=>Bool.rec (motive:=fun _=>uB) (g (putA n tm o.dst nD))
   (ob ((gE o.op).f C (.mixed tm old (aD i olds) (zG o.op)) H) fun v=>xJ C o.type v fun v=>g (putA n tm o.dst v)) w) l
def lJ(C:oA)(H:xA)(all:Array Oper)(old:Tm)(olds:List (Nat × List Nat))(tm:Tm)(k:uB)(l:List Nat):uB:=
 List.rec (motive:=fun _=>uB) k
  (fun i _ g=>ob (gC all.toList i) fun o=>ob o.dst fun d=>ob (eE o.guard all tm) fun w=>Bool.rec (motive:=fun _=>uB) g
   (ob ((gE o.op).f C (.mixed tm old (aD i olds) (zG o.op)) H) fun v=>xJ C o.type v fun v=>ob (tm.get d) fun u=>cA (same 10 v u) g) w) l
def hvI (all:Array Oper)(h:Nat):Nat:=bif Nat.blt (yB all.toList) h then Nat.sub h (Nat.succ (yB all.toList))else h
def nO(C:oA)(all:Array Oper)(h:Nat)(o:Oper)(tm:Tm):Option Bool:=ob (eE o.guard all tm) fun w=>bif Nat.blt (yB all.toList) h then cA (w&&dI o.op&&qH (z4p C o.op)) (some w)else some w
def vO(all:Array Oper)(st:pE):Bool:=Nat.blt (yB all.toList+yB all.toList) st.heavy
def zl9(C:oA)(all:Array Oper)(n:Nat)(old:Tm)(olds:List (Nat × List Nat))(st:pE)(g:Tm->xA->uB)(tm:Tm)(H:xA):uB:=
 cA (wQ C all) (ob (zu0 all old olds tm st.again) fun es=>ob (qQ C es H) fun H'=>dG C H' all n old olds (fun tm=>g tm H') st.lights tm)
def xH(C:oA)(φ:Ora)(all:Array Oper)(n:Nat)(old:Tm)(olds:List (Nat × List Nat))(κ:Tm->xA->uB)(l:List pE):Tm->xA->uB:=
 List.rec (motive:=fun _=>Tm->xA->uB) κ
  (fun st _ g tm H=>Bool.rec (motive:=fun _=>uB) (ob (gC all.toList (hvI all st.heavy)) fun o=>ob (nO C all st.heavy o tm) fun w=>
   (fun cont:zA->xA->uB=>Bool.rec (motive:=fun _=>uB) (cont nD H)
    (iF φ ((sF o.op).f C (.mixed tm old (aD (hvI all st.heavy) olds) (zG o.op)) H) H fun v H'=>xJ C o.type v fun v=>cont v H') w)
   (fun v H'=>lJ C H' all old olds (putA n tm o.dst v) (dG C H' all n old olds (fun tm=>g tm H') st.lights (putA n tm o.dst v)) st.again)) (zl9 C all n old olds st g tm H) (vO all st)) l
def za6(C:oA)(φ:Ora)(fn n:Nat)(κ:Tm->xA->uB)(id:Nat)(all:Array Oper)(draw:Bool):Tm->xA->uB:=
 Bool.rec (motive:=fun _=>Tm->xA->uB) (fun tm H=>rK C φ all n κ all.toList tm.cut H)
  (fun tm H=>ob (ob (C.plans.get fn) fun t=>t.get id) fun p=>cA (yO all p) (dG C H all n tm.cut p.olds (fun tm'=>xH C φ all n tm.cut p.olds κ p.stages tm' H) p.first tm.cut)) draw
def zl2(tm:Tm)(live:List Nat):Tr zA:=
 List.rec (motive:=fun _=>Tr zA) .leaf (fun i _ t=>match tm.get i with | some v=>t.set i v | none=>t) live
def keep (live:List Nat)(tm:Tm):Tm:=⟨tm.k,zl2 tm live,[]⟩
def isDef0:Option (List sI)->Bool
 | some []=>true
 | _=>false
def zS(κ:Kt)(p:Option Code)(tm:Tm)(H:xA):uB:=
 match p with
 | none=>κ.norm tm H
 | some .ret=>κ.ret tm H
 | _=>none
def endLoop(H:xA)(l:Nat)(r:gL):xA:=setBlk H l (.loop ⟨.exhausted,r.pending,r.fn,r.n,r.tm,r.params,r.assign,r.body,r.defers⟩)
def cL(C:oA)(φ:Ora)(fn n:Nat)(κ:Kt)(f:Operand)(ps:List Nat)(a b:Code)(tm:Tm)(H:xA):uB:=
 ob (ev f (.now tm)) fun v=>ob v.asFunc fun q=>match q.1 with
  | .yld _=>none
  | .func g=>cA (qH (C.prims.get g)) (ob (φ (.func g) (xD q.2.1 (.func (.yld (H.next+1)) [] []::q.2.2)) (newBlk (newBlk H (.deferred (some []))) (.loop ⟨.ready,none,fn,n,tm,ps,a,b,H.next⟩))) fun y=>
   ob (jI y.2 (H.next+1)) fun r=>cA (!Nat.beq (LoopState.tag r.state) 1) (ob (zS κ r.pending tm (endLoop y.2 (H.next+1) r)) fun z=>
    ob (oQ z.2 H.next) fun d=>cA (isDef0 d) (some (z.1,setBlk z.2 H.next (.deferred none)))))
def rD (C:oA)(φ:Ora)(fn n:Nat)(c:qD):Kt->Tm->xA->uB:=
 qD.rec (motive:=fun _=>Kt->Tm->xA->uB)
  (fun κ tm H=>κ.norm tm H)
  (fun id all draw κ=>za6 C φ fn n κ.norm id all draw)
  (fun _ _ ga gb κ=>ga ⟨gb κ,κ.exit,κ.ret⟩)
  (fun c _ _ gx gy κ tm H=>ob (ob (ev c (.now tm)) zA.asBool) fun b=>Bool.rec (motive:=fun _=>uB) (gy κ tm H) (gx κ tm H) b)
  (fun id _ g κ=>g ⟨κ.norm,fun i tm H=>Bool.rec (motive:=fun _=>uB) (κ.exit i tm H) (κ.norm tm H) (Nat.beq id i),κ.ret⟩)
  (fun live _ g κ tm H=>lim fun m=>Nat.rec (motive:=fun _=>Tm->xA->uB) (fun _ _=>none) (fun _ r tm H=>g ⟨r,κ.exit,κ.ret⟩ (keep live.kept tm) H) m tm H)
  (fun id κ tm H=>κ.exit id tm H)
  (fun κ tm H=>κ.ret tm H)
  (fun live _ g κ tm H=>g κ (keep live.kept tm) H)
  (fun _ _ f ps id ops c _ κ tm H=>cL C φ fn n κ f ps.toList (.region id ops false) (wF c) tm H) c
end
section
def Le2 {α β γ:Type}(k k':α->β->Option γ):Prop:=∀a b x,k a b=some x->k' a b=some x
def OLe (φ φ':Ora):Prop:=∀f a H x,φ f a H=some x->φ' f a H=some x
structure KLe (κ κ':Kt):Prop where
 norm:Le2 κ.norm κ'.norm
 exit:∀i,Le2 (κ.exit i) (κ'.exit i)
 ret:Le2 κ.ret κ'.ret
section
variable {C:oA}{φ φ':Ora}{all:Array Oper}{n:Nat}{x:zA × xA}
def zkx(hφ:OLe φ φ'){r:aI}{H:xA}{k k':zA->xA->uB}(hk:Le2 k k')(h:iF φ r H k=some x):iF φ' r H k'=some x:=by
 cases r<;>simp only[iF]at h ⊢<;>try (cases h;done)
 case val v H'=>exact hk _ _ _ h
 case enter f args=>
  rw[uA]at h ⊢
  obtain⟨p,h1,h2⟩:=h
  exact⟨p,hφ _ _ _ _ h1,hk _ _ _ h2⟩
 case round l args=>
  rw[uA]at h ⊢
  obtain⟨p,h1,h2⟩:=h
  exact⟨p,hφ _ _ _ _ h1,hk _ _ _ h2⟩
def zbb{t:Nat}{k k':zA->xA->uB}(hk:Le2 k k'):Le2 (fun v H=>xJ C t v fun v=>k v H) (fun v H=>xJ C t v fun v=>k' v H):=by
 intro v H x h;rw[vL]at h ⊢
 exact⟨h.1,hk _ _ _ h.2⟩
def dT{κ:Tm->xA->uB}{o:Oper}{l:List Oper}{tm:Tm}{H:xA}:rK C φ all n κ (o::l) tm H=ob (eE o.guard all tm) fun w=>if w=true then
   (iF φ ((sF o.op).f C (.now tm) H) H fun v H'=>xJ C o.type v fun v=>rK C φ all n κ l (putA n tm o.dst v) H')else rK C φ all n κ l (putA n tm o.dst nD) H:=by
 show(ob (eE o.guard all tm) fun w=>Bool.rec (motive:=fun _=>uB) _ _ w)=_
 congr 1;funext w;rw[nH];rfl
def zdy(hφ:OLe φ φ'){κ κ':Tm->xA->uB}(hκ:Le2 κ κ'):∀(l:List Oper),Le2 (rK C φ all n κ l) (rK C φ' all n κ' l):=by
 intro l;induction l with
 | nil=>exact hκ
 | cons o l ih=>
  intro tm H x h;rw[dT,uA]at h ⊢
  obtain⟨w,h1,h2⟩:=h
  refine⟨w,h1,?_⟩
  split at h2
  ·rename_i e;rw[yab e];exact zkx hφ (zbb (k:=fun v H'=>rK C φ all n κ l (putA n tm o.dst v) H') (k':=fun v H'=>rK C φ' all n κ' l (putA n tm o.dst v) H') fun v H' y hy=>ih _ _ _ hy) h2
  ·rename_i e;rw[yaa e];exact ih _ _ _ h2
variable {H:xA}{old:Tm}{olds:List (Nat × List Nat)}
def yY{k:Tm->uB}{i:Nat}{l:List Nat}{tm:Tm}:dG C H all n old olds k (i::l) tm=ob (gC all.toList i) fun o=>ob (eE o.guard all tm) fun w=>if w=true then
   (ob ((gE o.op).f C (.mixed tm old (aD i olds) (zG o.op)) H) fun v=>xJ C o.type v fun v=>dG C H all n old olds k l (putA n tm o.dst v))else dG C H all n old olds k l (putA n tm o.dst nD):=by
 show(ob (gC all.toList i) fun o=>ob (eE o.guard all tm) fun w=>Bool.rec (motive:=fun _=>uB) _ _ w)=_
 congr 1;funext o;congr 1;funext w;rw[nH];rfl
def zY{k k':Tm->uB}(hk:∀tm x,k tm=some x->k' tm=some x):∀(l:List Nat) tm x,dG C H all n old olds k l tm=some x->dG C H all n old olds k' l tm=some x:=by
 intro l;induction l with
 | nil=>exact hk
 | cons i l ih=>
  intro tm x h;rw[yY,uA]at h ⊢
  obtain⟨o,h1,h2⟩:=h
  refine⟨o,h1,?_⟩
  rw[uA]at h2 ⊢
  obtain⟨w,h3,h4⟩:=h2
  refine⟨w,h3,?_⟩
  split at h4
  ·rename_i e
   rw[yab e];rw[uA]at h4 ⊢
   obtain⟨v,h5,h6⟩:=h4
   rw[vL]at h6;exact⟨v,h5,by rw[vL];exact⟨h6.1,ih _ _ h6.2⟩⟩
  ·rename_i e;rw[yaa e];exact ih _ _ h4
def mZ{tm:Tm}{k:uB}{i:Nat}{l:List Nat}:lJ C H all old olds tm k (i::l)=ob (gC all.toList i) fun o=>ob o.dst fun d=>ob (eE o.guard all tm) fun w=>if w=true then
   (ob ((gE o.op).f C (.mixed tm old (aD i olds) (zG o.op)) H) fun v=>xJ C o.type v fun v=>ob (tm.get d) fun u=>cA (same 10 v u) (lJ C H all old olds tm k l))else lJ C H all old olds tm k l:=by
 show(ob (gC all.toList i) fun o=>ob o.dst fun d=>ob (eE o.guard all tm) fun w=>Bool.rec (motive:=fun _=>uB) _ _ w)=_
 congr 1;funext o;congr 1;funext d;congr 1;funext w;rw[nH];rfl
def sX{tm:Tm}{k:uB}:∀(l:List Nat),lJ C H all old olds tm k l=some x->vT C H all old olds tm l=true/\k=some x:=by
 intro l;induction l with
 | nil=>intro h;exact⟨rfl,h⟩
 | cons i l ih=>
  intro h;rw[mZ,uA]at h;obtain⟨o,h1,h⟩:=h
  rw[uA]at h;obtain⟨d,h2,h⟩:=h
  rw[uA]at h;obtain⟨w,h3,h⟩:=h
  unfold vT;simp only[h1,sA,h2,h3]
  cases w with
  | false=>exact ih h
  | true=>
   rw[yab rfl,uA]at h;obtain⟨v,h4,h⟩:=h
   rw[vL]at h;obtain⟨h5,h⟩:=h
   rw[uA]at h;obtain⟨y,h6,h⟩:=h
   rw[wB]at h;simp only[cond_true,h4,sA,h6,h.1];exact ih h.2
def ze8{tm:Tm}{k k':uB}(hk:k'=some x):∀(l:List Nat),lJ C H all old olds tm k l=some x->lJ C H all old olds tm k' l=some x:=by
 intro l;induction l with
 | nil=>intro _;exact hk
 | cons i l ih=>
  intro h;rw[mZ,uA]at h ⊢
  obtain⟨o,h1,h⟩:=h
  refine⟨o,h1,?_⟩
  rw[uA]at h ⊢
  obtain⟨d,h2,h⟩:=h
  refine⟨d,h2,?_⟩
  rw[uA]at h ⊢
  obtain⟨w,h3,h⟩:=h
  refine⟨w,h3,?_⟩
  split at h
  ·rename_i e
   rw[yab e];rw[uA]at h ⊢
   obtain⟨v,h4,h⟩:=h
   refine⟨v,h4,?_⟩
   rw[vL]at h ⊢
   obtain⟨h5,h⟩:=h
   refine⟨h5,?_⟩
   rw[uA]at h ⊢
   obtain⟨y,h6,h⟩:=h
   refine⟨y,h6,?_⟩
   rw[wB]at h ⊢
   exact⟨h.1,ih h.2⟩
  ·rename_i e;rw[yaa e];exact ih h
def cU{κ:Tm->xA->uB}{st:pE}{l:List pE}{tm:Tm}(hg:vO all st=false):xH C φ all n old olds κ (st::l) tm H=ob (gC all.toList (hvI all st.heavy)) fun o=>ob (nO C all st.heavy o tm) fun w=>
   (fun cont:zA->xA->uB=>if w=true then(iF φ ((sF o.op).f C (.mixed tm old (aD (hvI all st.heavy) olds) (zG o.op)) H) H fun v H'=>xJ C o.type v fun v=>cont v H')else cont nD H)
   (fun v H'=>lJ C H' all old olds (putA n tm o.dst v) (dG C H' all n old olds (fun tm=>xH C φ all n old olds κ l tm H') st.lights (putA n tm o.dst v)) st.again):=by
 show Bool.rec (motive:=fun _=>uB) _ _ (vO all st)=_
 rw[hg];show(ob (gC all.toList (hvI all st.heavy)) fun o=>ob (nO C all st.heavy o tm) fun w=>(fun cont:zA->xA->uB=>Bool.rec (motive:=fun _=>uB) _ _ w) _)=_
 congr 1;funext o;congr 1;funext w;cases w<;>rfl
def aV{κ:Tm->xA->uB}{st:pE}{l:List pE}{tm:Tm}(hg:vO all st=true):xH C φ all n old olds κ (st::l) tm H=zl9 C all n old olds st (xH C φ all n old olds κ l) tm H:=by
 show Bool.rec (motive:=fun _=>uB) _ _ (vO all st)=_
 rw[hg];rfl
def sY{st:pE}{g:Tm->xA->uB}{tm:Tm}{x:zA × xA}:zl9 C all n old olds st g tm H=some x ↔ wQ C all=true/\∃es H',zu0 all old olds tm st.again=some es/\qQ C es H=some H'/\dG C H' all n old olds (fun tm=>g tm H') st.lights tm=some x:=by
 unfold zl9;simp only[uA,wB];constructor
 ·rintro⟨h0,es,h1,H',h2,h3⟩;exact⟨h0,es,H',h1,h2,h3⟩
 ·rintro⟨h0,es,H',h1,h2,h3⟩;exact⟨h0,es,h1,H',h2,h3⟩
def bY(hφ:OLe φ φ'){κ κ':Tm->xA->uB}(hκ:Le2 κ κ'):∀(l:List pE),Le2 (xH C φ all n old olds κ l) (xH C φ' all n old olds κ' l):=by
 intro l;induction l with
 | nil=>exact hκ
 | cons st l ih=>
  intro tm H x h
  cases hg:vO all st with
  | true=>
   rw[aV hg,sY]at h ⊢
   obtain⟨h0,es,H',h1,h2,h3⟩:=h
   exact⟨h0,es,H',h1,h2,zY (fun tm x hx=>ih _ _ _ hx) _ _ _ h3⟩
  | false=>
  rw[cU hg,uA]at h ⊢
  obtain⟨o,h1,h⟩:=h
  refine⟨o,h1,?_⟩
  rw[uA]at h ⊢
  obtain⟨w,h2,h⟩:=h
  refine⟨w,h2,?_⟩
  have cont:∀v H' y,lJ C H' all old olds (putA n tm o.dst v) (dG C H' all n old olds (fun tm=>xH C φ all n old olds κ l tm H') st.lights (putA n tm o.dst v)) st.again=some y →
    lJ C H' all old olds (putA n tm o.dst v) (dG C H' all n old olds (fun tm=>xH C φ' all n old olds κ' l tm H') st.lights (putA n tm o.dst v)) st.again=some y:=by
   intro v H' y hy;exact ze8 (zY (fun tm x hx=>ih _ _ _ hx) _ _ _ (sX _ hy).2) _ hy
  simp only[]at h ⊢
  split at h
  ·rename_i e;rw[yab e];exact zkx hφ (zbb cont) h
  ·rename_i e;rw[yaa e];exact cont _ _ _ h
def zbz(hφ:OLe φ φ'){κ κ':Tm->xA->uB}(hκ:Le2 κ κ'){fn id:Nat}{draw:Bool}:Le2 (za6 C φ fn n κ id all draw) (za6 C φ' fn n κ' id all draw):=by
 intro tm H x h
 cases draw with
 | false=>exact zdy hφ hκ _ _ _ _ h
 | true=>
  have h:(ob (ob (C.plans.get fn) fun t=>t.get id) fun p=>cA (yO all p) (dG C H all n tm.cut p.olds (fun tm'=>xH C φ all n tm.cut p.olds κ p.stages tm' H) p.first tm.cut))=some x:=h
  show(ob (ob (C.plans.get fn) fun t=>t.get id) fun p=>cA (yO all p) (dG C H all n tm.cut p.olds (fun tm'=>xH C φ' all n tm.cut p.olds κ' p.stages tm' H) p.first tm.cut))=some x
  rw[uA]at h ⊢
  obtain⟨p,h1,h⟩:=h
  refine⟨p,h1,?_⟩
  rw[wB]at h ⊢
  exact⟨h.1,zY (fun tm x hx=>bY hφ hκ _ _ _ _ hx) _ _ _ h.2⟩
def ze9{κ κ':Kt}(hκ:KLe κ κ'){p:Option Code}:Le2 (zS κ p) (zS κ' p):=by
 intro tm H x h;unfold zS at h ⊢
 split at h
 ·exact hκ.norm _ _ _ h
 ·exact hκ.ret _ _ _ h
 ·cases h
def zdr(hφ:OLe φ φ'){κ κ':Kt}(hκ:KLe κ κ'){fn:Nat}{f:Operand}{ps:List Nat}{a b:Code}:Le2 (cL C φ fn n κ f ps a b) (cL C φ' fn n κ' f ps a b):=by
 intro tm H x h;unfold cL at h ⊢
 rw[uA]at h ⊢
 obtain⟨v,h1,h⟩:=h
 refine⟨v,h1,?_⟩
 rw[uA]at h ⊢
 obtain⟨q,h2,h⟩:=h
 refine⟨q,h2,?_⟩
 split at h
 ·cases h
 ·rw[wB,uA]at h ⊢
  obtain⟨h3,y,h4,h⟩:=h
  refine⟨h3,y,hφ _ _ _ _ h4,?_⟩
  rw[uA]at h ⊢
  obtain⟨r,h5,h⟩:=h
  refine⟨r,h5,?_⟩
  rw[wB,uA]at h ⊢
  obtain⟨h6,z,h7,h⟩:=h
  exact⟨h6,z,ze9 hκ _ _ _ h7,h⟩
end
end
end Go.Am
