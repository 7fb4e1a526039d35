/- The simulation: ranges over functions, all code. -/
import Derived.Test.YthmbkdkibhffbaaGreatDoorE03
set_option linter.all false
noncomputable section
namespace Go.Am
open Go Go.RowKit
section
variable {P:Program}{C:iA}{B N:Nat}{I:World->Prop}{μ ν:Mu}{H H':pA}{w:World}{tm:Tm}{R:oI}{acs:List vC}{base cs:List Frame}
variable {b:Frame}{tmps:Array Value}{ds:List Deferred}{k:List mD}{k':List Item}{all:Array Oper}
theorem z1y(hH:oB B N μ H w)(hcs:zG C μ acs cs)(hR:jG μ R (b.atR ⟨tmps,ds⟩ []))(ht:uE μ R.n tm tmps)(hk:aC (vG μ) k k') :
  uD P C B N μ base (lone (b.atR ⟨tmps,ds⟩ (.beginRound::k')) (cs++base) w) w (zr4 C k tm R acs H):=by
 unfold zr4
 cases hr:R.roundOf with
 | none=>exact trivial
 | some l=>
  obtain⟨i,hi,hb⟩:∃i,μ l=some i/\b.roundOf=some i.b:=by
   have:=hR.round
   rw[hr]at this;exact zal this
  rw[sA]
  cases hx:zO H l with
  | none=>exact trivial
  | some r=>
   rw[sA]
   cases hst:Nat.beq (LoopState.tag r.state) 0 with
   | false=>exact trivial
   | true=>
    obtain⟨hl,r',hg,hw,rel⟩:=gW hH hx hi
    have ready:r'.state=.ready:=by
     rw[rel.state]
     cases hs:r.state<;>rw[hs]at hst<;>first | rfl | simp[LoopState.tag,Nat.beq]at hst
    have run:(Instr.beginRound i.b).run P w=.ok () (World.setBlk w i.b (.loop { r' with state:=.busy })):=by
     simp only[Instr.beginRound,Sem.run_bind,qW hw,Result.andThen_ok,dU hw sZ,ready,Sem.run_pure]
    refine⟨μ,_,cs,_,.one (stepR_beginRound hb run),fun _ _ h=>h,gS (hH.own l i hl hi).1,?_,⟨?_,?_⟩,hcs⟩
    ·refine hH.upd hg hi hl ?_
     rw[iH];exact⟨_,rfl,rfl,rel.pending,rel.fn,rel.tm,rel.params,rel.assign,rel.body,rel.defers⟩
    ·refine⟨hR.fn,hR.size,hR.defers,hR.mode,hR.kind,?_⟩
     exact hR.round
    ·show if R.mode.running=true then sK C μ acs.length R.n _ k tm k' tmps else uE μ R.n tm tmps
     rw[if_pos hR.running];exact .plain hk ht
theorem zd3{l:Nat}{jump:Option Code}{w':World}{cs:List Frame}(hr:(Instr.endLoop l).run P w=.ok jump w') :
  step P (lone (b.atR ⟨tmps,ds⟩ (.endRangeFunc l::k')) cs w)=.next (lone (b.atR ⟨tmps,ds⟩ ((jump.map Item.code).toList++k')) cs w'):=
 step_lone_go (by simp[stepG,stepG.exec,Frame.atR,Sem.runT_eq,hr])
theorem zl8(hH:oB B N μ H w)(hcs:zG C μ acs cs)(hR:jG μ R (b.atR ⟨tmps,ds⟩ []))(ht:uE μ R.n tm tmps)(hk:aC (vG μ) k k'){l:Nat}{i:BI}(hi:μ l=some i) :
  uD P C B N μ base (lone (b.atR ⟨tmps,ds⟩ (.endRangeFunc i.b::k')) (cs++base) w) w (zbr l C k tm R acs H):=by
 unfold zbr
 cases hx:zO H l with
 | none=>exact trivial
 | some r=>
  rw[sA]
  cases hst:Nat.beq (LoopState.tag r.state) 1 with
  | true=>exact trivial
  | false=>
   obtain⟨hl,r',hg,hw,rel⟩:=gW hH hx hi
   have busy:r'.state≠.busy:=by
    intro e;rw[rel.state]at e;rw[e]at hst
    cases hst
   have run:(Instr.endLoop i.b).run P w=.ok r'.pending (World.setBlk w i.b (.loop { r' with state:=.exhausted })):=by
    simp[Instr.endLoop,Sem.run_bind,qW hw,Result.andThen_ok,dU hw sZ,busy]
   refine⟨μ,_,cs,_,.one (zd3 run),fun _ _ h=>h,gS (hH.own l i hl hi).1,?_,⟨?_,?_⟩,hcs⟩
   ·refine hH.upd hg hi hl ?_
    rw[iH];exact⟨_,rfl,rfl,rel.pending,rel.fn,rel.tm,rel.params,rel.assign,rel.body,rel.defers⟩
   ·exact⟨hR.fn,hR.size,hR.defers,hR.mode,hR.kind,hR.round⟩
   ·show if R.mode.running=true then sK C μ acs.length R.n _ (match r.pending with | some c=>.code c::k | none=>k) tm ((r'.pending.map Item.code).toList++k') tmps else uE μ R.n tm tmps
    rw[if_pos hR.running,rel.pending]
    cases r.pending with
    | none=>exact .plain hk ht
    | some c=>exact .plain (.cons (.code c) hk) ht
theorem zb4{f:Operand}{params:Array Nat}{assign body:Code}{l:Nat}{mark:List Deferred}{w1:World}{g:Nat}{args':Array Value}{cs:List Frame}
  (hE:(Instr.enterLoop b.fn tmps params assign body b.roundOf).run P w=.ok (l,mark) w1)
  (hA:(do let d <- resolve (Act.eval ⟨tmps,ds⟩) { callee:=.value f,args := #[.const (.func (.yield l) #[] #[])],argTypes := #[] } 0;invoke d.target d.args:Sem Next).run P w1=.ok (.enter g args') w1) :
  step P (lone (b.atR ⟨tmps,ds⟩ (.code (.rangeFunc f params assign body)::k')) cs w)=.next (lone (Frame.enter P g args' .normal) (b.atR ⟨tmps,mark++ds⟩ (.inRangeFunc l::k')::cs) w1):=by
 refine step_lone_go ?_
 have he:(Frame.eval { b.atR ⟨tmps,ds⟩ (.code (.rangeFunc f params assign body)::k')with todo:=.inRangeFunc l::k',defers:=mark++ds })=Act.eval ⟨tmps,ds⟩:=funext fun x=>by cases x<;>rfl
 simp only[Frame.atR]at he;simp only[stepG,stepG.exec,Frame.atR,Sem.runT_eq,hE,GStep.bare_after,stepG.apply,he,hA,if_true];rfl
theorem zqe{l:Nat}{v:zA}{h:vC}(e:eT C l v=some h):∃g first cap,v=.func (.func g) first cap/\C.prims.get g=none/\wJ C g (iF first (.func (.yld l) [] []::cap)) false=some h:=by
 unfold eT at e;rw[mA]at e;obtain⟨p,h1,h2⟩:=e
 obtain⟨fn,first,cap⟩:=p
 rw[zdt]at h1
 cases fn with
 | yld m=>cases h2
 | func g=>
  cases hp:C.prims.get g with
  | some x=>simp only[hp]at h2;cases h2
  | none=>simp only[hp]at h2;exact⟨g,first,cap,h1,hp,h2⟩
theorem ze0{dp:Nat}(hS:Sim P C B N I){l:Nat}{i:BI}{v:zA}{h:vC}(e:eT C l v=some h)(hi:μ l=some i){f:Operand}(hv:rA μ v (Act.eval ⟨tmps,ds⟩ f)){cur:Option pA} :
  ∃g args',(∀w,(do let d <- resolve (Act.eval ⟨tmps,ds⟩) { callee:=.value f,args := #[.const (.func (.yield i.b) #[] #[])],argTypes := #[] } 0;invoke d.target d.args:Sem Next).run P w=.ok (.enter g args') w) ∧
   uI C μ dp cur h (Frame.enter P g args' .normal):=by
 obtain⟨g,first,cap,rfl,hp,he⟩:=zqe e
 rw[rA]at hv;obtain⟨fn,a',c',hv,hf,h1,h2⟩:=hv
 cases hf;have hl:rB μ (iF first (.func (.yld l) [] []::cap)) (a' ++ #[Value.func (.yield i.b) #[] #[]]++c').toList:=by
  rw[dH];have:rB μ (zA.func (.yld l) [] []::cap) (Value.func (.yield i.b) #[] #[]::c'.toList):=.cons (by rw[rA];exact⟨_,_,_,rfl,⟨i,hi,rfl⟩,.nil,.nil⟩) h2
  simpa using h1.append this
 obtain⟨fr,fn,hfn,hb⟩:=kV (cur:=cur) hS.fns he hl
 refine⟨g,_,fun w=>?_,fr⟩
 simp only[Sem.run_bind,resolve,hv,Deferred.ofValue,Sem.run_pure,Result.andThen_ok,invoke];have:Array.map (Act.eval ⟨tmps,ds⟩) #[Operand.const (Value.func (.yield i.b) #[] #[])] = #[Value.func (.yield i.b) #[] #[]]:=by simp[Act.eval]
 rw[this];exact zY hS.fns hfn hb
theorem zz0(hS:Sim P C B N I)(hH:oB B N μ H w)(hcs:zG C μ acs cs)(hR:jG μ R (b.atR ⟨tmps,ds⟩ []))(ht:uE μ R.n tm tmps)(hk:aC (vG μ) k k'){f:Operand}{params:Array Nat}{assign body:Code} :
  uD P C B N μ base (lone (b.atR ⟨tmps,ds⟩ (.code (.rangeFunc f params assign body)::k')) (cs++base) w) w (zr0 f params assign body C k tm R acs H):=by
 unfold zr0
 cases hv:ev f (.now tm)with
 | none=>exact trivial
 | some v=>
  have hvr:=ht.erel (ds:=ds) hH.glob f _ hv
  rw[sA]
  cases hr:R.roundOf with
  | none=>
   have hb:b.roundOf=none:=by
    have:=hR.round
    rw[hr]at this;exact zeu this
   simp only[]
   cases hx:eT C (H.next+1) v with
   | none=>exact trivial
   | some h=>
    have h1:=hH.newBlk (x:=.deferred (some [])) (o:=.deferred (some [])) (i:=⟨w.heap.size,true,0,0,false⟩) rfl rfl (by rw[iH];exact⟨_,rfl,.nil⟩)
    have le1:μ.le (μ.ext H.next ⟨w.heap.size,true,0,0,false⟩):=hH.ext_le
    have le2:(μ.ext H.next ⟨w.heap.size,true,0,0,false⟩).le ((μ.ext H.next ⟨w.heap.size,true,0,0,false⟩).ext (newBlk H (.deferred (some []))).next ⟨w.heap.size+1,true,0,0,false⟩):=h1.ext_le
    have sz:(w.alloc (.deferred (some []))).heap.size=w.heap.size+1:=Array.size_push ..
    have h2:=h1.newBlk (x:=.loop ⟨.ready,none,R.fn,R.n,tm,params.toList,assign,body,H.next⟩) (o:=.loop { state:=.ready,pending:=none,fn:=b.fn,tmps,params,assign,body,defers:=w.heap.size })
     (i:=⟨w.heap.size+1,true,0,0,false⟩) sz.symm rfl (by
      rw[iH];exact⟨_,rfl,rfl,rfl,hR.fn,(ht.mono le1.f).mono le2.f,rfl,rfl,rfl,⟨_,le2 _ _ Mu.ext_same,rfl⟩⟩)
    have le:=Mu.le_trans le1 le2
    have hi2:((μ.ext H.next ⟨w.heap.size,true,0,0,false⟩).ext (newBlk H (.deferred (some []))).next ⟨w.heap.size+1,true,0,0,false⟩) (H.next+1)=some ⟨w.heap.size+1,true,0,0,false⟩:=Mu.ext_same
    obtain⟨g,args',hA,hfr⟩:=ze0 (ds:=ds) hS hx hi2 (hvr.mono le.f _ _) (cur:=some (newBlk (newBlk H (.deferred (some []))) (.loop ⟨.ready,none,R.fn,R.n,tm,params.toList,assign,body,H.next⟩)))
    have run:(Instr.enterLoop b.fn tmps params assign body b.roundOf).run P w=.ok (w.heap.size+1,[{ target:=.collected w.heap.size,args := #[] }]) ((w.alloc (.deferred (some []))).alloc (.loop { state:=.ready,pending:=none,fn:=b.fn,tmps,params,assign,body,defers:=w.heap.size })):=by
     rw[hb];simp[Instr.enterLoop,Sem.run_bind,Result.andThen_ok]
    refine⟨_,_,b.atR ⟨tmps,{ target:=.collected w.heap.size,args := #[] }::ds⟩ (.inRangeFunc (w.heap.size+1)::k')::cs,_,.one (zb4 run (hA _)),le,?_,h2,hfr,.cons ⟨?_,?_⟩ (hcs.mono le)⟩
    ·refine(cM hH.size _).trans (cM ?_ _)
     rw[sz];have:=hH.size;omega
    ·have:=hR.mono le.f
     exact⟨this.fn,this.size,.cons ⟨⟨_,le2 _ _ Mu.ext_same,rfl⟩⟩ this.defers,this.mode,this.kind,by have:=this.round;rw[hr]at this;exact this⟩
    ·show if R.mode.running=true then sK C _ acs.length R.n none (.inRange (H.next+1)::k) tm (.inRangeFunc (w.heap.size+1)::k') tmps else _
     rw[if_pos hR.running];exact .plain (.cons (.inRange _ ⟨w.heap.size+1,true,0,0,false⟩ hi2) (hk.mono fun _ _ r=>r.mono le.f)) (ht.mono le.f)
  | some outer=>
   obtain⟨io,hio,hb⟩:∃i,μ outer=some i/\b.roundOf=some i.b:=by
    have:=hR.round
    rw[hr]at this;exact zal this
   simp only[]
   cases hlo:zO H outer with
   | none=>exact trivial
   | some o=>
    rw[sA]
    cases hx:eT C H.next v with
    | none=>exact trivial
    | some h=>
     obtain⟨hl,r',hg,hw,rel⟩:=gW hH hlo hio
     obtain⟨idf,hdf,hdf'⟩:=rel.defers
     have le:μ.le (μ.ext H.next ⟨w.heap.size,true,0,0,false⟩):=hH.ext_le
     have h2:=hH.newBlk (x:=.loop ⟨.ready,none,R.fn,R.n,tm,params.toList,assign,body,o.defers⟩) (o:=.loop { state:=.ready,pending:=none,fn:=b.fn,tmps,params,assign,body,defers:=r'.defers })
      (i:=⟨w.heap.size,true,0,0,false⟩) rfl rfl (by
       rw[iH];exact⟨_,rfl,rfl,rfl,hR.fn,ht.mono le,rfl,rfl,rfl,⟨idf,le _ _ hdf,hdf'⟩⟩)
     have hi2:(μ.ext H.next ⟨w.heap.size,true,0,0,false⟩) H.next=some ⟨w.heap.size,true,0,0,false⟩:=Mu.ext_same
     obtain⟨g,args',hA,hfr⟩:=ze0 (ds:=ds) hS hx hi2 (hvr.mono le.f _ _) (cur:=some (newBlk H (.loop ⟨.ready,none,R.fn,R.n,tm,params.toList,assign,body,o.defers⟩)))
     have run:(Instr.enterLoop b.fn tmps params assign body b.roundOf).run P w=.ok (w.heap.size,[]) (w.alloc (.loop { state:=.ready,pending:=none,fn:=b.fn,tmps,params,assign,body,defers:=r'.defers })):=by
      rw[hb];simp[Instr.enterLoop,Sem.run_bind,qW hw,Result.andThen_ok]
     refine⟨_,_,b.atR ⟨tmps,ds⟩ (.inRangeFunc w.heap.size::k')::cs,_,.one (zb4 run (hA _)),le,cM hH.size _,h2,hfr,.cons ⟨?_,?_⟩ (hcs.mono le)⟩
     ·have:=hR.mono le.f
      exact⟨this.fn,this.size,this.defers,this.mode,this.kind,this.round⟩
     ·show if R.mode.running=true then sK C _ acs.length R.n none (.inRange H.next::k) tm (.inRangeFunc w.heap.size::k') tmps else _
      rw[if_pos hR.running];exact .plain (.cons (.inRange _ ⟨w.heap.size,true,0,0,false⟩ hi2) (hk.mono fun _ _ r=>r.mono le.f)) (ht.mono le.f)
theorem zkw{c:Code}:step P (lone (b.atR ⟨tmps,ds⟩ (.code (.scope c)::k')) cs w)=.next (lone (b.atR ⟨tmps,ds⟩ (.code c::.inScope c::k')) cs w):=
 step_lone_go (by simp[stepG,stepG.exec,Frame.atR])
theorem zf7{c:Code}:step P (lone (b.atR ⟨tmps,ds⟩ (.inScope c::k')) cs w)=.next (lone (b.atR ⟨tmps,ds⟩ k') cs w):=
 step_lone_go (by simp[stepG,stepG.exec,Frame.atR])
theorem z7a(hS:Sim P C B N I)(hI:I w)(hH:oB B N μ H w)(hcs:zG C μ acs cs)(hR:jG μ R (b.atR ⟨tmps,ds⟩ []))(ht:uE μ R.n tm tmps):∀(c:Code) {k:List mD} {k':List Item},aC (vG μ) k k' →
  uD P C B N μ base (lone (b.atR ⟨tmps,ds⟩ (.code c::k')) (cs++base) w) w ((z4e c).f C k tm R acs H):=by
 intro c;induction c with
 | skip=>intro k k' hk;exact zgi hH hcs hR ht hk stepR_skip
 | region id ops d=>
  intro k k' hk
  cases d with
  | true=>exact z61 hS hH hcs hR ht hk
  | false=>
   refine uD.of_steps (.one stepR_region) (fun _ _ h=>h) (Below.refl N w) ?_
   have:=zie (base:=base) (all:=ops) hS ops.toList 0 tm.cut H w μ tmps (by simp) (Nat.zero_le _) hI hH hcs hR ht.cut hk
   rw[ybs]at this;exact this
 | seq x y ihx _=>
  intro k k' hk;exact uD.of_steps (.one stepR_seq) (fun _ _ h=>h) (Below.refl N w) (ihx (.cons (.code y) hk))
 | cond c x y _ _=>intro k k' hk;exact z68 hH hcs hR ht hk
 | block id c _=>intro k k' hk;exact z1x hH hcs hR ht hk
 | loop c _=>intro k k' hk;exact z5s hH hcs hR ht hk
 | rangeFunc f ps a c _ _=>intro k k' hk;exact zz0 hS hH hcs hR ht hk
 | exit id=>intro k k' hk;exact z6w hH hcs hR ht hk
 | scope c _=>intro k k' hk;exact vR hH hcs hR ht (.cons (.code _) (.cons (.inScope _) hk)) (.one zkw)
 | label l=>intro k k' hk;exact zgi hH hcs hR ht hk stepR_label
 | goto l=>intro k k' _;exact trivial
 | ret=>intro k k' _;exact ret_ok hH hcs hR ht
 | refuse s=>intro k k' _;exact trivial
theorem z6x(hS:Sim P C B N I)(hI:I w)(hH:oB B N μ H w)(hcs:zG C μ acs cs)(hR:jG μ R (b.atR ⟨tmps,ds⟩ [])){todo:List mD}{btodo:List Item}(hb:sK C μ acs.length R.n (some H) todo tm btodo tmps) :
  uD P C B N μ base (lone (b.atR ⟨tmps,ds⟩ btodo) (cs++base) w) w (zg8 C todo tm R acs H):=by
 generalize hc:some H=cur at hb
 cases hb with
 | plain a t=>
  cases a with
  | nil=>exact end_ok hH hcs hR t
  | cons i hk=>
   cases i with
   | code c=>exact z7a hS hI hH hcs hR t c hk
   | inBlock id=>exact zgi hH hcs hR t hk stepR_inBlock
   | inLoop c=>exact vR hH hcs hR t (.cons (.code _) (.cons (.inLoop _) hk)) (.one stepR_inLoop)
   | inScope c=>exact zgi hH hcs hR t hk zf7
   | ops all i hi=>exact zie hS _ i _ _ _ _ _ rfl hi hI hH hcs hR t hk
   | inRange l i hl=>exact trivial
   | endRange l i hl=>exact zl8 hH hcs hR t hk hl
   | beginRound=>exact z1y hH hcs hR t hk
 | @reg _ all old _ olds stages _ order _ _ anc D S hr hst hp hk=>
  cases hc;show uD P C B N μ base _ w (zrz all old olds stages C _ tm R acs H)
  unfold zrz
  cases stages with
  | nil=>exact zuo hS hH hcs hR hk hr hst hp
  | cons st stages=>
   by_cases hlt:st.heavy<=all.size
   ·obtain⟨_,_,D1,D2,h1,_⟩:=sY hst hlt
    obtain⟨o,ho,_⟩:=kW h1
    have:qD all.toList st.heavy=some o:=by rw[bD];simpa using ho
    simp only[this];exact z00 hS hI hH hcs hR hk hr hst hp ho
   ·have:qD all.toList st.heavy=none:=by rw[bD];simp;omega
    simp only[this];rw[kC,if_pos (oC.2 (by rw[fD];simp;omega))]
    have e0:Nat.sub st.heavy (Nat.succ (wB all.toList))=st.heavy-(all.size+1):=by rw[fD];simp
    rw[e0];exact zq2 hS hH hcs hR hk hr hst hp (by omega)
 | @mid _ all old _ olds lights again stages _ order _ _ anc D D2 S hr h1 h2 hw hk=>
  show uD P C B N μ base _ w (zrz all old olds (⟨all.size,lights,again⟩::stages) C _ tm R acs H)
  unfold zrz;have:qD all.toList all.size=none:=by rw[bD];simp
  simp only[this];rw[kC,if_neg fun e=>by have:=oC.1 e;rw[fD]at this;simp at this]
  exact zv1 hH hcs hR hk (st:=⟨all.size,lights,again⟩) hr h1 h2 hw
 | wait _ _ _ _ _=>cases hc
end
end Go.Am
namespace Go.Am
open Go Go.RowKit
section
variable {P:Program}{C:iA}{B N:Nat}{I:World->Prop}{μ ν:Mu}{H H':pA}{w:World}{tm:Tm}{R:oI}{acs:List vC}{base cs:List Frame}
variable {b:Frame}{tmps:Array Value}
theorem zb3{block:Nat}{es calls:List Deferred}{w':World}(hm:b.mode≠.run)(hd:b.defers={ target:=.collected block,args := #[] }::es)(hr:(Instr.takeDeferred block).run P w=.ok calls w') :
  step P (lone b cs w)=.next (lone { b with defers:=calls++es } cs w'):=by
 obtain⟨fn,tmps,todo,defers,mode,kind,round⟩:=b
 simp only at hm hd
 subst hd;refine step_lone_go ?_
 cases mode with
 | run=>exact absurd rfl hm
 | returning=>simp[stepG,unwind,Sem.runT_eq,hr]
 | panicking c=>simp[stepG,unwind,Sem.runT_eq,hr]
theorem zp0{f:Nat}{cap as:Array Value}{es:List Deferred}(hm:b.mode≠.run)(hd:b.defers={ target:=.fn (.func f) cap,args:=as }::es)(hr:(callFunc f (as++cap)).run P w=.ok (.enter f (as++cap)) w) :
  step P (lone b cs w)=.next (lone (Frame.enter P f (as++cap) .deferred) ({ b with defers:=es }::cs) w):=by
 obtain⟨fn,tmps,todo,defers,mode,kind,round⟩:=b
 simp only at hm hd
 subst hd;refine step_lone_go ?_
 cases mode with
 | run=>exact absurd rfl hm
 | returning=>simp[stepG,unwind,callDeferred,invoke,Sem.runT_eq,hr]
 | panicking c=>simp[stepG,unwind,callDeferred,invoke,Sem.runT_eq,hr]
def oR(c:Frame):Frame:=
 match c.mode with
 | .panicking ({ recovered:=true,.. }::older)=>
  match older.dropWhile (!·.goexit)with
  | []=>{ c with mode:=.returning }
  | rest=>{ c with mode:=.panicking rest }
 | _=>c
theorem zd2{fn:Func}{v:Value}{c:Frame}(hm:b.mode=.returning)(hd:b.defers=[])(hk:b.kind=.deferred)(hf:P.funcs[b.fn]?=some fn)(hr:(results fn b.tmps).run P w=.ok v w) :
  step P (lone b (c::cs) w)=.next (lone (oR c) cs w):=by
 refine step_lone_go ?_
 simp only[stepG,unwind,doReturn,hm,hd,hk,hf,Sem.runT_eq,hr,GStep.bare_after];rfl
def znx(tmps:Array Value)(r:ResultVar):Sem Value:=
 match r with
 | .tmp t=>pure (tmps.getD t undef)
 | .cell a t=>do loadVar t (<- asAddr (tmps.getD a undef))
theorem zqb(fn:Func)(tmps:Array Value):results fn tmps=(do let vs <- fn.results.mapM (znx tmps);pure (if h:vs.size=1 then vs[0]else .tuple vs)):=rfl
theorem za9(hT:aF P C)(hH:oB B N μ H w){n:Nat}(ht:uE μ n tm tmps):∀(rs:List ResultVar) (l:List zA),tI (aR C H tm) rs=some l →
  ∃vs,(rs.mapM (znx tmps)).run P w=.ok vs w/\rB μ l vs:=by
 intro rs;induction rs with
 | nil=>intro l h;rw[fW]at h;cases h;exact⟨[],by simp[Sem.run_pure],.nil⟩
 | cons r rs ih=>
  intro l h;rw[cO,mA]at h;obtain⟨a,ha,h⟩:=h
  rw[mA]at h;obtain⟨m,hm,h⟩:=h
  cases h;obtain⟨vs,h1,h2⟩:=ih m hm
  rw[List.mapM_cons]
  cases r with
  | tmp t=>
   refine⟨_,?_,.cons (ht.2 t a ha) h2⟩
   simp only[znx,Sem.run_bind,Sem.run_pure,Result.andThen_ok,h1]
  | cell x t=>
   simp only[aR,mA,eV]at ha;obtain⟨p,⟨av,hav,rfl⟩,ty,hty,c,hc,hl⟩:=ha
   have hv:=ht.2 x _ hav
   rw[rA]at hv;obtain⟨i,hi,hv⟩:=hv
   obtain⟨v',h3,h4⟩:=zoc (P:=P) hH (hT.facts hty) hc hi hl
   refine⟨_,?_,.cons h4 h2⟩
   have ha:(asAddr (Value.pointer (some ⟨i.b,p.2,none⟩))).run P w=.ok ⟨i.b,p.2,none⟩ w:=rfl
   have one:(znx tmps (.cell x t)).run P w=.ok v' w:=by
    show((asAddr (tmps.getD x undef)).bind fun a=>loadVar t a).run P w=_
    rw[hv];exact h3
   simp only[Sem.run_bind,Sem.run_pure,Result.andThen_ok,one,h1]
theorem zev(hT:aF P C)(hH:oB B N μ H w){n:Nat}(ht:uE μ n tm tmps){fn:Func}{l:List zA}(h:gT C H tm fn.results.toList=some l) :
  ∃v,(results fn tmps).run P w=.ok v w/\rA μ (oT l) v:=by
 obtain⟨vs,h1,h2⟩:=za9 hT hH ht _ _ h
 refine⟨if h:vs.toArray.size=1 then vs.toArray[0]else .tuple vs.toArray,?_,?_⟩
 ·rw[zqb,Array.mapM_eq_mapM_toList]
  simp only[Sem.run_bind,map_eq_pure_bind,h1,Result.andThen_ok,Sem.run_pure]
 ·have hl:=h2.length
  cases l with
  | nil=>
   rw[rB]at h2;subst h2;rw[dif_neg (by simp)]
   show rA μ (.tup []) _
   rw[rA];exact⟨_,rfl,.nil⟩
  | cons a m=>
   cases m with
   | nil=>
    rw[rB]at h2;obtain⟨v,r,rfl,hv,hr⟩:=h2
    rw[rB]at hr;subst hr;rw[dif_pos (by simp)]
    exact hv
   | cons a2 m=>
    rw[dif_neg (by simp[hl])]
    show rA μ (.tup (a::a2::m)) _
    rw[rA];exact⟨_,rfl,by simpa using h2⟩
def DefRel(μ:Mu):Option (List zm0)->Option (List Deferred)->Prop
 | none,none=>True
 | some a,some b=>aC (jR μ) a b
 | _,_=>False
theorem zmd(hH:oB B N μ H w){l:Nat}{x:Option (List zm0)}(h:zbo H l=some x){i:BI}(h4:μ l=some i):B<=l/\∃x',H.t.get l=some (.deferred x)/\w.heap[i.b]?=some (.deferred x')/\DefRel μ x x':=by
 unfold zbo at h;rw[mB,oE,mA]at h;obtain⟨h1,y,h2,h3⟩:=h
 have:y=.deferred x:=by cases y<;>simp[lA.asDeferred]at h3;rw[h3]
 subst this;obtain⟨o,h5,h6⟩:=hH.blk l _ i h2 h4
 rw[iH]at h6;obtain⟨r',rfl,h7⟩:=h6
 refine⟨Nat.le_of_not_lt fun hlt=>?_,r',h2,h5,?_⟩
 ·have:=(hH.low l _ i hlt h2 h4).2.2
  cases this
 cases x<;>cases r'<;>exact h7
theorem zqn{μ:Mu}{m:zeb}{m':FrameMode}(h:zdw μ m m')(hm:m.running=false):m'≠.run:=by
 rintro rfl
 cases m<;>first | exact h.elim | cases hm
theorem zsl(hS:Sim P C B N I)(hH:oB B N μ H w)(hcs:zG C μ acs cs){fr:vC}(hr:jG μ fr.R b)(hm:fr.R.mode.running=false)(ht:uE μ fr.R.n fr.tm b.tmps){d:zm0}{l:List zm0}(hd:fr.R.defers=d::l) :
  uD P C B N μ base (lone b (cs++base) w) w (zsm C d l fr acs H):=by
 have hrun:=zqn hr.mode hm
 have hds:=hr.defers
 rw[hd]at hds;generalize hbd:b.defers=bd at hds
 cases hds with
 | @cons _ e _ es h1 h2=>
  obtain⟨dfn,dr,dargs⟩:=d
  have h1:=h1.rel
  unfold zsm
  cases dfn with
  | none=>
   obtain⟨i,hi,rfl⟩:=h1
   simp only[]
   cases hx:zbo H dr with
   | none=>exact trivial
   | some x=>
    rw[sA]
    cases x with
    | none=>exact trivial
    | some calls=>
     obtain⟨hl,x',hg,hw,rel⟩:=zmd hH hx hi
     cases x' with
     | none=>exact rel.elim
     | some calls'=>
      have run:(Instr.takeDeferred i.b).run P w=.ok calls' (World.setBlk w i.b (.deferred none)):=by
       have:(setObj i.b (.deferred none)).run P w=.ok () (World.setBlk w i.b (.deferred none)):=dU hw (by intro a b c h;cases h)
       have hg:(getObj i.b).run P w=.ok (.deferred (some calls')) w:=by simp[getObj,Sem.run,hw]
       simp only[Instr.takeDeferred,Sem.run_bind,hg,Result.andThen_ok,this,Sem.run_pure]
      refine⟨μ,_,cs,_,.one (zb3 hrun hbd run),fun _ _ h=>h,gS (hH.own dr i hl hi).1,?_,⟨?_,?_⟩,hcs⟩
      ·refine hH.upd hg hi hl ?_
       rw[iH];exact⟨none,rfl,trivial⟩
      ·refine⟨hr.fn,hr.size,?_,hr.mode,hr.kind,hr.round⟩
       show aC (jR μ) (iF calls l) (calls'++es)
       rw[dH];exact aC.append rel h2
      ·show if fr.R.mode.running=true then sK C _ _ _ _ _ _ _ _ else _
       rw[if_neg (by rw[hm];simp)]
       exact ht
  | some fn=>
   cases fn with
   | yld m=>exact trivial
   | func f=>
    obtain⟨fn,cap,as,rfl,hfn,hl⟩:=h1
    cases hfn;simp only[]
    cases hp:C.prims.get f with
    | some x=>exact trivial
    | none=>
     simp only[]
     cases he:wJ C f dargs true with
     | none=>exact trivial
     | some g=>
      obtain⟨h3,fn,hfn,hb⟩:=kV (cur:=some H) hS.fns he hl
      refine⟨μ,_,{ b with defers:=es }::cs,w,.one (zp0 hrun hbd (zY hS.fns hfn hb)),fun _ _ h=>h,Below.refl N w,hH,h3,.cons ⟨⟨hr.fn,hr.size,h2,hr.mode,hr.kind,hr.round⟩,?_⟩ hcs⟩
      show if fr.R.mode.running=true then sK C _ _ _ _ _ _ _ _ else _
      rw[if_neg (by rw[hm];simp)]
      exact ht
theorem uI.still{dp:Nat}{cur cur':Option pA}{fr:vC}(h:uI C μ dp cur fr b)(hm:fr.R.mode.running=false):uI C μ dp cur' fr b:=by
 refine⟨h.rest,?_⟩
 have:=h.body
 rw[if_neg (by rw[hm];simp)]at this ⊢
 exact this
theorem zhc{l:List PanicEntry}{m:List tT}(h:aC (uT μ) m l):l.dropWhile (!·.goexit)=[]:=by
 induction h with
 | nil=>rfl
 | cons a _ ih=>simp[a.goexit,ih]
def z1z(c:vC)(rest:List vC)(H:pA):Option oO:=
 match c.R.mode with
 | .panicking (⟨_,true⟩::_)=>some (⟨zcf c .returning,rest,H⟩:oO)
 | _=>uB (!c.R.mode.running) (some ⟨c,rest,H⟩)
def zn2(C:iA)(fr:vC)(ch:List tT)(cs:List vC)(H:pA):gC:=
 qK (ob (C.fns.get fr.R.fn) fun _=>match cs with | c::rest=>some ⟨zn3 c ch,rest,H⟩ | []=>none) 19
theorem z7j{dp:Nat}{c:vC}{c':Frame}(hc:uI C μ dp none c c'){x:oO}{rest:List vC}(h:z1z c rest H=some x):x.cs=rest/\x.H=H/\uI C μ dp (some H) x.fr (oR c'):=by
 have hm:=hc.rest.mode
 have stay:c'.mode=c'.mode->(oR c'=c')->c.R.mode.running=false->x=⟨c,rest,H⟩->x.cs=rest/\x.H=H/\uI C μ dp (some H) x.fr (oR c'):=by
  intro _ h1 h2 h3;subst h3;rw[h1];exact⟨rfl,rfl,hc.still h2⟩
 obtain⟨ct,ctm,cR⟩:=c
 obtain⟨f,n,de,mode,dd,ro⟩:=cR
 unfold z1z at h;simp only at h hm
 cases mode with
 | run=>cases h
 | returning=>
  cases hcm:c'.mode with
  | returning=>exact stay rfl (by unfold oR;rw[hcm]) rfl (ybj h).symm
  | _=>rw[hcm]at hm;exact hm.elim
 | panicking ch=>
  cases hcm:c'.mode with
  | run=>rw[hcm]at hm;exact hm.elim
  | returning=>rw[hcm]at hm;exact hm.elim
  | panicking ch'=>
   rw[hcm]at hm
   cases hm with
   | nil=>exact stay rfl (by unfold oR;rw[hcm]) rfl (ybj h).symm
   | @cons p e older older' hp hold=>
    obtain⟨pv,pr⟩:=p
    obtain⟨ev',er,eg⟩:=e
    obtain⟨q1,q2,q3⟩:=hp
    simp only at q1 q2 q3
    subst q2 q3
    cases er with
    | false=>exact stay rfl (by unfold oR;rw[hcm]) rfl (ybj h).symm
    | true=>
     cases ybj h
     refine⟨rfl,rfl,?_⟩
     have:oR c'={ c' with mode:=.returning }:=by
      unfold oR;rw[hcm];simp only[zhc hold]
     rw[this];have hb:=hc.body
     exact⟨⟨hc.rest.fn,hc.rest.size,hc.rest.defers,trivial,hc.rest.kind,hc.rest.round⟩,hb⟩
theorem zpr(hS:Sim P C B N I)(hH:oB B N μ H w)(hcs:zG C μ acs cs){fr:vC}(hr:jG μ fr.R b)(hm:b.mode=.returning)(hd:b.defers=[])(ht:uE μ fr.R.n fr.tm b.tmps) :
  uD P C B N μ base (lone b (cs++base) w) w (zbx C fr acs H):=by
 unfold zbx
 cases hx:ob (C.fns.get fr.R.fn) fun fn=>gT C H fr.tm fn.results.toList with
 | none=>exact trivial
 | some l=>
  rw[mA]at hx;obtain⟨fn,hfn,hres⟩:=hx
  obtain⟨v,h1,h2⟩:=zev hS.tys hH ht hres
  have hf:P.funcs[b.fn]?=some fn:=by rw[hr.fn];exact(hS.fns _ _ hfn).1
  have hk:=hr.kind
  simp only[]
  cases hcs with
  | nil=>
   simp only[kC]
   cases hdf:fr.R.deferred with
   | true=>exact trivial
   | false=>
    rw[hdf]at hk;rw[if_neg (by simp)]
    split
    ·rename_i hroot
     exact⟨μ,b,w,v,.refl _ _,fun _ _ h=>h,Below.refl N w,hH,h2,by rw[hr.fn];exact wC.1 hroot,hm,hd,hk,fn,hf,h1⟩
    ·exact trivial
  | @cons c c' acs1 cs1 hc hcs1=>
   simp only[]
   cases hdf:fr.R.deferred with
   | true=>
    rw[hdf]at hk;simp only[cond_true];show uD P C B N μ base _ w (qK (z1z c acs1 H) 18)
    generalize hx:z1z c acs1 H=x
    cases x with
    | none=>exact trivial
    | some x=>
     obtain⟨h3,h4,h5⟩:=z7j hc hx
     obtain⟨xf,xc,xh⟩:=x
     simp only at h3 h4 h5
     subst h3 h4
     exact⟨μ,_,cs1,w,.one (zd2 hm hd hk hf h1),fun _ _ h=>h,Below.refl N w,hH,h5,hcs1⟩
   | false=>
    rw[hdf]at hk;simp only[cond_false]
    cases hfi:rI c (oT l)with
    | none=>exact trivial
    | some g=>
     exact⟨μ,_,cs1,w,.one (step_leave_returned ⟨hm,hd,hk,fn,hf,h1⟩),fun _ _ h=>h,Below.refl N w,hH,xU hc hfi h2,hcs1⟩
theorem zsj(hS:Sim P C B N I)(hH:oB B N μ H w)(hcs:zG C μ acs cs){fr:vC}(hfr:uI C μ acs.length (some H) fr b)(hm:fr.R.mode.running=false) :
  uD P C B N μ base (lone b (cs++base) w) w (zbw C fr acs H):=by
 have ht:uE μ fr.R.n fr.tm b.tmps:=by
  have:=hfr.body
  rw[if_neg (by rw[hm];simp)]at this
  exact this
 have hr:=hfr.rest
 unfold zbw
 cases hd:fr.R.defers with
 | cons d l=>exact zsl hS hH hcs hr hm ht hd
 | nil=>
  have hbd:b.defers=[]:=by
   have:=hr.defers
   rw[hd]at this;generalize hbd:b.defers=bd at this
   cases this
   rfl
  have hmode:=hr.mode
  simp only[]
  cases hmo:fr.R.mode with
  | run=>rw[hmo]at hm;cases hm
  | returning=>
   rw[hmo]at hmode;have:b.mode=.returning:=by
    cases hb:b.mode with
    | returning=>rfl
    | _=>rw[hb]at hmode;exact hmode.elim
   exact zpr hS hH hcs hr this hbd ht
  | panicking ch=>
   rw[hmo]at hmode
   cases hb:b.mode with
   | run=>rw[hb]at hmode;exact hmode.elim
   | returning=>rw[hb]at hmode;exact hmode.elim
   | panicking ch'=>
    rw[hb]at hmode;show uD P C B N μ base _ w (zn2 C fr ch acs H)
    unfold zn2
    cases hfn:C.fns.get fr.R.fn with
    | none=>exact trivial
    | some fn=>
     rw[sA];have hf:P.funcs[b.fn]?=some fn:=by rw[hr.fn];exact(hS.fns _ _ hfn).1
     cases hcs with
     | nil=>exact trivial
     | @cons c c' acs1 cs1 hc hcs1=>
      exact⟨μ,_,cs1,w,.one (step_leave_panicked ⟨hb,hbd,fn,hf⟩),fun _ _ h=>h,Below.refl N w,hH,zn1 hc hmode,hcs1⟩
theorem zzf(hS:Sim P C B N I)(hI:I w){s:oO}(hH:oB B N μ s.H w)(hcs:zG C μ s.cs cs)(hfr:uI C μ s.cs.length (some s.H) s.fr b):uD P C B N μ base (lone b (cs++base) w) w (stepA C s):=by
 obtain⟨⟨todo,tm,R⟩,acs,H⟩:=s
 show uD P C B N μ base _ w (bif R.mode.running then zg8 C todo tm R acs H else zbw C ⟨todo,tm,R⟩ acs H)
 cases hm:R.mode.running with
 | false=>exact zsj hS hH hcs hfr hm
 | true=>
  have hb:=hfr.body
  have hr:=hfr.rest
  simp only at hb hr
  rw[if_pos hm]at hb;have hbm:b.mode=.run:=by
   have h:=hr.mode
   cases hmo:R.mode with
   | run=>
    rw[hmo]at h
    cases hb:b.mode with
    | run=>rfl
    | _=>rw[hb]at h;exact h.elim
   | _=>rw[hmo]at hm;cases hm
  have e:=z14 hbm
  have:=z6x (b:=b) (tmps:=b.tmps) (ds:=b.defers) (base:=base) hS hI hH hcs ⟨hr.fn,hr.size,hr.defers,by have:=hr.mode;rw[hbm]at this;exact this,hr.kind,hr.round⟩ hb
  rw[e]at this;exact this
theorem aQ(hS:Sim P C B N I)(hI:I w){m:Machine}{o:gC}(h:uD P C B N μ base m w o):uD P C B N μ base m w (zK C o):=by
 cases o with
 | fail n=>exact trivial
 | done v H=>exact h
 | next s=>
  obtain⟨μ',b,cs,w',h1,h2,h3,h4,h5,h6⟩:=h
  exact uD.of_steps h1 h2 h3 (zzf hS (hS.inv _ _ h3 hI) h4 h6 h5)
theorem bU(hS:Sim P C B N I)(hI:I w){m:Machine}:∀(n:Nat) {o:gC},uD P C B N μ base m w o->uD P C B N μ base m w (znt C n o):=by
 intro n;induction n with
 | zero=>intro o h;exact aQ hS hI h
 | succ n ih=>intro o h;exact ih (ih h)
theorem zjx(hS:Sim P C B N I)(hI:I w){f:Nat}(hroot:C.root=f){args:List zA}{args':Array Value}(hH:oB B N μ H w)(hl:rB μ args args'.toList){g:vC}(he:wJ C f args false=some g){n:Nat}{v:zA}{H':pA}
  (hrun:znt C n (.next ⟨g,[],H⟩)=.done v H') :
  Calls P f args' w fun e w'=>∃v' μ',e=.returned v'/\μ.lw μ'/\rA μ' v v'/\oB B N μ' H' w'/\Below N w w':=by
 intro base;have h0:uD P C B N μ base (lone (Frame.enter P f args' .normal) base w) w (.next ⟨g,[],H⟩):=
  ⟨μ,_,[],w,.refl _ _,fun _ _ h=>h,Below.refl N w,hH,(kV (cur:=some H) hS.fns he hl).1,.nil⟩
 have h1:=bU hS hI n h0
 rw[hrun]at h1;obtain⟨μ',b,w',v',h2,h3,h4,h5,h6,h7,h8⟩:=h1
 exact⟨.returned v',w',b,⟨v',μ',rfl,h3,h6,h5,h4⟩,h2,by rw[h7,hroot],h8⟩
end
end Go.Am
namespace Go.Am
open Go Go.RowKit
abbrev lB:=Option (zA × pA)
abbrev Ora:=Nat->List zA->pA->lB
structure Kt where
 norm:Tm->pA->lB
 exit:Nat->Tm->pA->lB
 ret:Tm->pA->lB
structure PI where
 id:Nat
 pl:List Nat
 ll:List (Nat × Nat)
def PI.kept(p:PI):List Nat:=iF p.pl (List.rec (motive:=fun _=>List Nat) [] (fun a _ r=>a.1::r) p.ll)
inductive jF where
 | skip
 | region (id:Nat) (ops:Array Oper) (draw:Bool)
 | seq (a b:jF)
 | cond (c:Operand) (x y:jF)
 | block (id:Nat) (c:jF)
 | loop (p:PI) (c:jF)
 | exit (id:Nat)
 | ret
 | cut (p:PI) (c:jF)
def nH:jF->Code
 | .skip=>.skip
 | .region id ops d=>.region id ops d
 | .seq a b=>.seq (nH a) (nH b)
 | .cond c x y=>.cond c (nH x) (nH y)
 | .block id c=>.block id (nH c)
 | .loop _ c=>.loop (nH c)
 | .exit id=>.exit id
 | .ret=>.ret
 | .cut _ c=>nH c
def lim {α:Type}(f:Nat->Option α):Option α:=@dite _ (∃n r,f n=some r) (Classical.propDecidable _) (fun h=>f h.choose) (fun _=>none)
def Mono {α:Type}(f:Nat->Option α):Prop:=∀n r,f n=some r->f (n+1)=some r
theorem Mono.le{α:Type}{f:Nat->Option α}(h:Mono f){n m:Nat}{r:α}(hr:f n=some r)(hnm:n<=m):f m=some r:=by
 induction hnm with
 | refl=>exact hr
 | step _ ih=>exact h _ _ ih
theorem zbf{α:Type}{f:Nat->Option α}(h:Mono f){r:α}:lim f=some r ↔ ∃n,f n=some r:=by
 unfold lim;by_cases hx:∃n r,f n=some r
 ·rw[dif_pos hx]
  obtain⟨r0,h0⟩:=hx.choose_spec
  constructor
  ·intro e;exact⟨_,e⟩
  ·rintro⟨n,hn⟩
   have a:=h.le h0 (Nat.le_max_left hx.choose n)
   have b:=h.le hn (Nat.le_max_right hx.choose n)
   rw[a]at b;rw[h0];exact b
 ·rw[dif_neg hx]
  constructor
  ·intro e;cases e
  ·rintro⟨n,hn⟩;exact absurd ⟨n,r,hn⟩ hx
def z5m:mE->zA->(zA->lB)->lB
 | .bool,v,K=>ob v.asBool fun b=>K (.bool b)
 | .int k,v,K=>ob v.asIntK fun p=>uB (kEq p.1 k) (K (.int k p.2))
 | .string,v,K=>ob v.asStr fun l=>K (.str l)
 | .ptr _,v,K=>K v
 | .slice _,v,K=>K v
 | .arr _ _,v,K=>K v
 | .map _ _,v,K=>K v
 | .struct _,v,K=>K v
 | .func,v,K=>K v
 | .iface,v,K=>K v
 | .other,v,K=>K v
def fitD:mE->zA->Prop
 | .bool,v=>∃b,v=.bool b
 | .int k,v=>∃n,v=.int k n
 | .string,v=>∃l,v=.str l
 | _,_=>True
theorem zqo{d:mE}{v:zA}{K:zA->lB}{x:zA × pA}:z5m d v K=some x ↔ fitD d v/\K v=some x:=by
 cases d<;>simp only[z5m,fitD,mA,mB,true_and]
 case bool=>
  constructor
  ·rintro⟨b,h1,h2⟩;have:=eS.1 h1;subst this;exact⟨⟨b,rfl⟩,h2⟩
  ·rintro⟨⟨b,rfl⟩,h⟩;exact⟨b,rfl,h⟩
 case int k=>
  constructor
  ·rintro⟨p,h1,h2,h3⟩;have:=bM.1 h1;subst this;rw[jJ.1 h2];exact⟨⟨p.2,rfl⟩,h3⟩
  ·rintro⟨⟨n,rfl⟩,h⟩;exact⟨(k,n),rfl,jJ.2 rfl,h⟩
 case string=>
  constructor
  ·rintro⟨b,h1,h2⟩;have:=jN.1 h1;subst this;exact⟨⟨b,rfl⟩,h2⟩
  ·rintro⟨⟨b,rfl⟩,h⟩;exact⟨b,rfl,h⟩
def rJ(C:iA)(t:Nat)(v:zA)(K:zA->lB):lB:=
 match C.tys.get t with
 | some ty=>z5m ty.desc v K
 | none=>K v
def z1a (C:iA)(t:Nat)(v:zA):Prop:=
 match C.tys.get t with
 | some ty=>fitD ty.desc v
 | none=>True
theorem xM{C:iA}{t:Nat}{v:zA}{K:zA->lB}{x:zA × pA}:rJ C t v K=some x ↔ z1a C t v/\K v=some x:=by
 unfold rJ z1a;split
 ·exact zqo
 ·simp
def oG (φ:Ora)(r:bJ)(H:pA)(k:zA->pA->lB):lB:=
 match r with
 | .val v H'=>k v H'
 | .enter f args=>ob (φ f args H) fun p=>k p.1 p.2
 | _=>none
def zkf (C:iA)(φ:Ora)(all:Array Oper)(n:Nat)(κ:Tm->pA->lB)(l:List Oper):Tm->pA->lB:=
 List.rec (motive:=fun _=>Tm->pA->lB) κ
  (fun o _ g tm H=>ob (pF o.guard all tm) fun w=>Bool.rec (motive:=fun _=>lB) (g (putA n tm o.dst tE) H)
   (oG φ ((bE o.op).f C (.now tm) H) H fun v H'=>rJ C o.type v fun v=>g (putA n tm o.dst v) H') w) l
def eH(C:iA)(H:pA)(all:Array Oper)(n:Nat)(old:Tm)(olds:List (Nat × List Nat))(k:Tm->lB)(l:List Nat):Tm->lB:=
 List.rec (motive:=fun _=>Tm->lB) k
  (fun i _ g tm=>ob (qD all.toList i) fun o=>ob (pF o.guard all tm) fun w=>Bool.rec (motive:=fun _=>lB) (g (putA n tm o.dst tE))
   (ob ((kF o.op).f C (.mixed tm old (eE i olds) (gG o.op)) H) fun v=>rJ C o.type v fun v=>g (putA n tm o.dst v)) w) l
def fJ(C:iA)(H:pA)(all:Array Oper)(old:Tm)(olds:List (Nat × List Nat))(tm:Tm)(k:lB)(l:List Nat):lB:=
 List.rec (motive:=fun _=>lB) k
  (fun i _ g=>ob (qD all.toList i) fun o=>ob o.dst fun d=>ob (pF o.guard all tm) fun w=>Bool.rec (motive:=fun _=>lB) g
   (ob ((kF o.op).f C (.mixed tm old (eE i olds) (gG o.op)) H) fun v=>rJ C o.type v fun v=>ob (tm.get d) fun u=>uB (same 10 v u) g) w) l
def hvI (all:Array Oper)(h:Nat):Nat:=bif Nat.blt (wB all.toList) h then Nat.sub h (Nat.succ (wB all.toList))else h
def kP(all:Array Oper)(h:Nat)(o:Oper)(tm:Tm):Option Bool:=ob (pF o.guard all tm) fun w=>bif Nat.blt (wB all.toList) h then uB (w&&xK o.op) (some w)else some w
def zI(C:iA)(φ:Ora)(all:Array Oper)(n:Nat)(old:Tm)(olds:List (Nat × List Nat))(κ:Tm->pA->lB)(l:List qG):Tm->pA->lB:=
 List.rec (motive:=fun _=>Tm->pA->lB) κ
  (fun st _ g tm H=>ob (qD all.toList (hvI all st.heavy)) fun o=>ob (kP all st.heavy o tm) fun w=>
   (fun cont:zA->pA->lB=>Bool.rec (motive:=fun _=>lB) (cont tE H)
    (oG φ ((bE o.op).f C (.mixed tm old (eE (hvI all st.heavy) olds) (gG o.op)) H) H fun v H'=>rJ C o.type v fun v=>cont v H') w)
   (fun v H'=>fJ C H' all old olds (putA n tm o.dst v) (eH C H' all n old olds (fun tm=>g tm H') st.lights (putA n tm o.dst v)) st.again)) l
def aU(C:iA)(φ:Ora)(fn n:Nat)(κ:Tm->pA->lB)(id:Nat)(all:Array Oper)(draw:Bool):Tm->pA->lB:=
 Bool.rec (motive:=fun _=>Tm->pA->lB) (fun tm H=>zkf C φ all n κ all.toList tm.cut H)
  (fun tm H=>ob (ob (C.plans.get fn) fun t=>t.get id) fun p=>uB (aN all p) (eH C H all n tm.cut p.olds (fun tm'=>zI C φ all n tm.cut p.olds κ p.stages tm' H) p.first tm.cut)) draw
def zjb(tm:Tm)(live:List Nat):Tr zA:=
 List.rec (motive:=fun _=>Tr zA) .leaf (fun i _ t=>match tm.get i with | some v=>t.set i v | none=>t) live
def keep (live:List Nat)(tm:Tm):Tm:=⟨tm.k,zjb tm live,[]⟩
def nD (C:iA)(φ:Ora)(fn n:Nat)(c:jF):Kt->Tm->pA->lB:=
 jF.rec (motive:=fun _=>Kt->Tm->pA->lB)
  (fun κ tm H=>κ.norm tm H)
  (fun id all draw κ=>aU C φ fn n κ.norm id all draw)
  (fun _ _ ga gb κ=>ga ⟨gb κ,κ.exit,κ.ret⟩)
  (fun c _ _ gx gy κ tm H=>ob (ob (ev c (.now tm)) zA.asBool) fun b=>Bool.rec (motive:=fun _=>lB) (gy κ tm H) (gx κ tm H) b)
  (fun id _ g κ=>g ⟨κ.norm,fun i tm H=>Bool.rec (motive:=fun _=>lB) (κ.exit i tm H) (κ.norm tm H) (Nat.beq id i),κ.ret⟩)
  (fun live _ g κ tm H=>lim fun m=>Nat.rec (motive:=fun _=>Tm->pA->lB) (fun _ _=>none) (fun _ r tm H=>g ⟨r,κ.exit,κ.ret⟩ (keep live.kept tm) H) m tm H)
  (fun id κ tm H=>κ.exit id tm H)
  (fun κ tm H=>κ.ret tm H)
  (fun live _ g κ tm H=>g κ (keep live.kept tm) H) c
end Go.Am
namespace Go.Am
open Go Go.RowKit
def Le2 {α β γ:Type}(k k':α->β->Option γ):Prop:=∀a b x,k a b=some x->k' a b=some x
def OLe (φ φ':Ora):Prop:=∀f a H x,φ f a H=some x->φ' f a H=some x
structure KLe (κ κ':Kt):Prop where
 norm:Le2 κ.norm κ'.norm
 exit:∀i,Le2 (κ.exit i) (κ'.exit i)
 ret:Le2 κ.ret κ'.ret
section
variable {C:iA}{φ φ':Ora}{all:Array Oper}{n:Nat}{x:zA × pA}
theorem zig(hφ:OLe φ φ'){r:bJ}{H:pA}{k k':zA->pA->lB}(hk:Le2 k k')(h:oG φ r H k=some x):oG φ' r H k'=some x:=by
 cases r<;>simp only[oG]at h ⊢<;>try (cases h;done)
 case val v H'=>exact hk _ _ _ h
 case enter f args=>
  rw[mA]at h ⊢
  obtain⟨p,h1,h2⟩:=h
  exact⟨p,hφ _ _ _ _ h1,hk _ _ _ h2⟩
theorem zap{t:Nat}{k k':zA->pA->lB}(hk:Le2 k k'):Le2 (fun v H=>rJ C t v fun v=>k v H) (fun v H=>rJ C t v fun v=>k' v H):=by
 intro v H x h;rw[xM]at h ⊢
 exact⟨h.1,hk _ _ _ h.2⟩
theorem wV{κ:Tm->pA->lB}{o:Oper}{l:List Oper}{tm:Tm}{H:pA}:zkf C φ all n κ (o::l) tm H=ob (pF o.guard all tm) fun w=>if w=true then
   (oG φ ((bE o.op).f C (.now tm) H) H fun v H'=>rJ C o.type v fun v=>zkf C φ all n κ l (putA n tm o.dst v) H')else zkf C φ all n κ l (putA n tm o.dst tE) H:=by
 show(ob (pF o.guard all tm) fun w=>Bool.rec (motive:=fun _=>lB) _ _ w)=_
 congr 1;funext w;rw[jH];rfl
theorem zcn(hφ:OLe φ φ'){κ κ':Tm->pA->lB}(hκ:Le2 κ κ'):∀(l:List Oper),Le2 (zkf C φ all n κ l) (zkf C φ' all n κ' l):=by
 intro l;induction l with
 | nil=>exact hκ
 | cons o l ih=>
  intro tm H x h;rw[wV,mA]at h ⊢
  obtain⟨w,h1,h2⟩:=h
  refine⟨w,h1,?_⟩
  split at h2
  ·rename_i e;rw[if_pos e];exact zig hφ (zap (k:=fun v H'=>zkf C φ all n κ l (putA n tm o.dst v) H') (k':=fun v H'=>zkf C φ' all n κ' l (putA n tm o.dst v) H') fun v H' y hy=>ih _ _ _ hy) h2
  ·rename_i e;rw[if_neg e];exact ih _ _ _ h2
variable {H:pA}{old:Tm}{olds:List (Nat × List Nat)}
theorem qY{k:Tm->lB}{i:Nat}{l:List Nat}{tm:Tm}:eH C H all n old olds k (i::l) tm=ob (qD all.toList i) fun o=>ob (pF o.guard all tm) fun w=>if w=true then
   (ob ((kF o.op).f C (.mixed tm old (eE i olds) (gG o.op)) H) fun v=>rJ C o.type v fun v=>eH C H all n old olds k l (putA n tm o.dst v))else eH C H all n old olds k l (putA n tm o.dst tE):=by
 show(ob (qD all.toList i) fun o=>ob (pF o.guard all tm) fun w=>Bool.rec (motive:=fun _=>lB) _ _ w)=_
 congr 1;funext o;congr 1;funext w;rw[jH];rfl
theorem qZ{k k':Tm->lB}(hk:∀tm x,k tm=some x->k' tm=some x):∀(l:List Nat) tm x,eH C H all n old olds k l tm=some x->eH C H all n old olds k' l tm=some x:=by
 intro l;induction l with
 | nil=>exact hk
 | cons i l ih=>
  intro tm x h;rw[qY,mA]at h ⊢
  obtain⟨o,h1,h2⟩:=h
  refine⟨o,h1,?_⟩
  rw[mA]at h2 ⊢
  obtain⟨w,h3,h4⟩:=h2
  refine⟨w,h3,?_⟩
  split at h4
  ·rename_i e
   rw[if_pos e];rw[mA]at h4 ⊢
   obtain⟨v,h5,h6⟩:=h4
   rw[xM]at h6;exact⟨v,h5,by rw[xM];exact⟨h6.1,ih _ _ h6.2⟩⟩
  ·rename_i e;rw[if_neg e];exact ih _ _ h4
theorem jZ{tm:Tm}{k:lB}{i:Nat}{l:List Nat}:fJ C H all old olds tm k (i::l)=ob (qD all.toList i) fun o=>ob o.dst fun d=>ob (pF o.guard all tm) fun w=>if w=true then
   (ob ((kF o.op).f C (.mixed tm old (eE i olds) (gG o.op)) H) fun v=>rJ C o.type v fun v=>ob (tm.get d) fun u=>uB (same 10 v u) (fJ C H all old olds tm k l))else fJ C H all old olds tm k l:=by
 show(ob (qD all.toList i) fun o=>ob o.dst fun d=>ob (pF o.guard all tm) fun w=>Bool.rec (motive:=fun _=>lB) _ _ w)=_
 congr 1;funext o;congr 1;funext d;congr 1;funext w;rw[jH];rfl
theorem nX{tm:Tm}{k:lB}:∀(l:List Nat),fJ C H all old olds tm k l=some x->zT C H all old olds tm l=true/\k=some x:=by
 intro l;induction l with
 | nil=>intro h;exact⟨rfl,h⟩
 | cons i l ih=>
  intro h;rw[jZ,mA]at h;obtain⟨o,h1,h⟩:=h
  rw[mA]at h;obtain⟨d,h2,h⟩:=h
  rw[mA]at h;obtain⟨w,h3,h⟩:=h
  unfold zT;simp only[h1,sA,h2,h3]
  cases w with
  | false=>exact ih h
  | true=>
   rw[if_pos rfl,mA]at h;obtain⟨v,h4,h⟩:=h
   rw[xM]at h;obtain⟨h5,h⟩:=h
   rw[mA]at h;obtain⟨y,h6,h⟩:=h
   rw[mB]at h;simp only[cond_true,h4,sA,h6,h.1];exact ih h.2
theorem zdu{tm:Tm}{k k':lB}(hk:k'=some x):∀(l:List Nat),fJ C H all old olds tm k l=some x->fJ C H all old olds tm k' l=some x:=by
 intro l;induction l with
 | nil=>intro _;exact hk
 | cons i l ih=>
  intro h;rw[jZ,mA]at h ⊢
  obtain⟨o,h1,h⟩:=h
  refine⟨o,h1,?_⟩
  rw[mA]at h ⊢
  obtain⟨d,h2,h⟩:=h
  refine⟨d,h2,?_⟩
  rw[mA]at h ⊢
  obtain⟨w,h3,h⟩:=h
  refine⟨w,h3,?_⟩
  split at h
  ·rename_i e
   rw[if_pos e];rw[mA]at h ⊢
   obtain⟨v,h4,h⟩:=h
   refine⟨v,h4,?_⟩
   rw[xM]at h ⊢
   obtain⟨h5,h⟩:=h
   refine⟨h5,?_⟩
   rw[mA]at h ⊢
   obtain⟨y,h6,h⟩:=h
   refine⟨y,h6,?_⟩
   rw[mB]at h ⊢
   exact⟨h.1,ih h.2⟩
  ·rename_i e;rw[if_neg e];exact ih h
theorem gU{κ:Tm->pA->lB}{st:qG}{l:List qG}{tm:Tm}:zI C φ all n old olds κ (st::l) tm H=ob (qD all.toList (hvI all st.heavy)) fun o=>ob (kP all st.heavy o tm) fun w=>
   (fun cont:zA->pA->lB=>if w=true then(oG φ ((bE o.op).f C (.mixed tm old (eE (hvI all st.heavy) olds) (gG o.op)) H) H fun v H'=>rJ C o.type v fun v=>cont v H')else cont tE H)
   (fun v H'=>fJ C H' all old olds (putA n tm o.dst v) (eH C H' all n old olds (fun tm=>zI C φ all n old olds κ l tm H') st.lights (putA n tm o.dst v)) st.again):=by
 show(ob (qD all.toList (hvI all st.heavy)) fun o=>ob (kP all st.heavy o tm) fun w=>(fun cont:zA->pA->lB=>Bool.rec (motive:=fun _=>lB) _ _ w) _)=_
 congr 1;funext o;congr 1;funext w;cases w<;>rfl
theorem xZ(hφ:OLe φ φ'){κ κ':Tm->pA->lB}(hκ:Le2 κ κ'):∀(l:List qG),Le2 (zI C φ all n old olds κ l) (zI C φ' all n old olds κ' l):=by
 intro l;induction l with
 | nil=>exact hκ
 | cons st l ih=>
  intro tm H x h;rw[gU,mA]at h ⊢
  obtain⟨o,h1,h⟩:=h
  refine⟨o,h1,?_⟩
  rw[mA]at h ⊢
  obtain⟨w,h2,h⟩:=h
  refine⟨w,h2,?_⟩
  have cont:∀v H' y,fJ C H' all old olds (putA n tm o.dst v) (eH C H' all n old olds (fun tm=>zI C φ all n old olds κ l tm H') st.lights (putA n tm o.dst v)) st.again=some y →
    fJ C H' all old olds (putA n tm o.dst v) (eH C H' all n old olds (fun tm=>zI C φ' all n old olds κ' l tm H') st.lights (putA n tm o.dst v)) st.again=some y:=by
   intro v H' y hy;exact zdu (qZ (fun tm x hx=>ih _ _ _ hx) _ _ _ (nX _ hy).2) _ hy
  simp only[]at h ⊢
  split at h
  ·rename_i e;rw[if_pos e];exact zig hφ (zap cont) h
  ·rename_i e;rw[if_neg e];exact cont _ _ _ h
theorem za1(hφ:OLe φ φ'){κ κ':Tm->pA->lB}(hκ:Le2 κ κ'){fn id:Nat}{draw:Bool}:Le2 (aU C φ fn n κ id all draw) (aU C φ' fn n κ' id all draw):=by
 intro tm H x h
 cases draw with
 | false=>exact zcn hφ hκ _ _ _ _ h
 | true=>
  have h:(ob (ob (C.plans.get fn) fun t=>t.get id) fun p=>uB (aN all p) (eH C H all n tm.cut p.olds (fun tm'=>zI C φ all n tm.cut p.olds κ p.stages tm' H) p.first tm.cut))=some x:=h
  show(ob (ob (C.plans.get fn) fun t=>t.get id) fun p=>uB (aN all p) (eH C H all n tm.cut p.olds (fun tm'=>zI C φ' all n tm.cut p.olds κ' p.stages tm' H) p.first tm.cut))=some x
  rw[mA]at h ⊢
  obtain⟨p,h1,h⟩:=h
  refine⟨p,h1,?_⟩
  rw[mB]at h ⊢
  exact⟨h.1,qZ (fun tm x hx=>xZ hφ hκ _ _ _ _ hx) _ _ _ h.2⟩
end
end Go.Am
namespace Go.Am
open Go Go.RowKit
theorem zv0{α:Type}{f:Nat->Option α}{r:α}(h:lim f=some r):∃n,f n=some r:=by
 unfold lim at h;by_cases hx:∃n r,f n=some r
 ·rw[dif_pos hx]at h;exact⟨_,h⟩
 ·rw[dif_neg hx]at h;cases h
structure zmx {α β γ:Type} (ks:Nat->α->β->Option γ) (k:α->β->Option γ):Prop where
 up:∀n,Le2 (ks n) (ks (n+1))
 ex:∀a b x,k a b=some x->∃n,ks n a b=some x
theorem up_le{α β γ:Type}{ks:Nat->α->β->Option γ}(h:∀n,Le2 (ks n) (ks (n+1))){n m:Nat}(hnm:n<=m):Le2 (ks n) (ks m):=by
 induction hnm with
 | refl=>exact fun _ _ _ h=>h
 | step _ ih=>exact fun a b x hx=>h _ _ _ _ (ih a b x hx)
structure z38 (φs:Nat->Ora) (φ:Ora):Prop where
 up:∀n,OLe (φs n) (φs (n+1))
 ex:∀f a H x,φ f a H=some x->∃n,φs n f a H=some x
theorem z38.le{φs:Nat->Ora}{φ:Ora}(h:z38 φs φ){n m:Nat}(hnm:n<=m):OLe (φs n) (φs m):=by
 induction hnm with
 | refl=>exact fun _ _ _ _ h=>h
 | step _ ih=>exact fun f a H x hx=>h.up _ _ _ _ _ (ih f a H x hx)
structure SupK (κs:Nat->Kt) (κ:Kt):Prop where
 norm:zmx (fun n=>(κs n).norm) κ.norm
 exit:∀i,zmx (fun n=>(κs n).exit i) (κ.exit i)
 ret:zmx (fun n=>(κs n).ret) κ.ret
section
variable {C:iA}{φ φ':Ora}{φs:Nat->Ora}{all:Array Oper}{N fn:Nat}
theorem zwt{g g':Kt->Tm->pA->lB}{κ κ':Kt}(hκ:KLe κ κ')(hg:∀ κ κ',KLe κ κ'->Le2 (g κ) (g' κ'))(live:List Nat):∀m,Le2 (Nat.rec (motive:=fun _=>Tm->pA->lB) (fun _ _=>none) (fun _ r tm H=>g ⟨r,κ.exit,κ.ret⟩ (keep live tm) H) m)
  (Nat.rec (motive:=fun _=>Tm->pA->lB) (fun _ _=>none) (fun _ r tm H=>g' ⟨r,κ'.exit,κ'.ret⟩ (keep live tm) H) m):=by
 intro m;induction m with
 | zero=>intro a b x h;cases h
 | succ m ih=>exact fun a b x h=>hg ⟨_,_,_⟩ ⟨_,_,_⟩ ⟨ih,hκ.exit,hκ.ret⟩ _ _ _ h
theorem KLe.refl(κ:Kt):KLe κ κ:=⟨fun _ _ _ h=>h,fun _ _ _ _ h=>h,fun _ _ _ h=>h⟩
theorem zlv{g:Kt->Tm->pA->lB}{κ:Kt}(hg:∀ κ κ',KLe κ κ'->Le2 (g κ) (g κ'))(live:List Nat):∀m,Le2 (Nat.rec (motive:=fun _=>Tm->pA->lB) (fun _ _=>none) (fun _ r tm H=>g ⟨r,κ.exit,κ.ret⟩ (keep live tm) H) m)
  (Nat.rec (motive:=fun _=>Tm->pA->lB) (fun _ _=>none) (fun _ r tm H=>g ⟨r,κ.exit,κ.ret⟩ (keep live tm) H) (m+1)):=by
 intro m;induction m with
 | zero=>intro a b x h;cases h
 | succ m ih=>exact fun a b x h=>hg ⟨_,_,_⟩ ⟨_,_,_⟩ ⟨ih,(KLe.refl κ).exit,(KLe.refl κ).ret⟩ _ _ _ h
theorem jV(hφ:OLe φ φ'):∀(c:jF) (κ κ':Kt),KLe κ κ'->Le2 (nD C φ fn N c κ) (nD C φ' fn N c κ'):=by
 have self:∀(ψ:Ora),OLe ψ ψ:=fun _ _ _ _ _ h=>h
 intro c;suffices h:∀ φ φ',OLe φ φ'->∀(κ κ':Kt),KLe κ κ'->Le2 (nD C φ fn N c κ) (nD C φ' fn N c κ') from h φ φ' hφ
 induction c with
 | skip=>exact fun _ _ _ κ κ' hκ=>hκ.norm
 | region id ops d=>exact fun _ _ hφ κ κ' hκ=>za1 hφ hκ.norm
 | seq a b iha ihb=>exact fun _ _ hφ κ κ' hκ=>iha _ _ hφ _ _ ⟨ihb _ _ hφ _ _ hκ,hκ.exit,hκ.ret⟩
 | cond c a b iha ihb=>
  intro φ φ' hφ κ κ' hκ tm H x h;have h:(ob (ob (ev c (.now tm)) zA.asBool) fun t=>Bool.rec (motive:=fun _=>lB) (nD C φ fn N b κ tm H) (nD C φ fn N a κ tm H) t)=some x:=h
  show(ob (ob (ev c (.now tm)) zA.asBool) fun t=>Bool.rec (motive:=fun _=>lB) (nD C φ' fn N b κ' tm H) (nD C φ' fn N a κ' tm H) t)=some x
  rw[mA]at h ⊢
  obtain⟨t,h1,h2⟩:=h
  refine⟨t,h1,?_⟩
  cases t with
  | true=>exact iha _ _ hφ _ _ hκ _ _ _ h2
  | false=>exact ihb _ _ hφ _ _ hκ _ _ _ h2
 | block id c ih=>
  intro φ φ' hφ κ κ' hκ;refine ih _ _ hφ _ _ ⟨hκ.norm,fun i tm H x h=>?_,hκ.ret⟩
  simp only[jH]at h ⊢
  split at h
  ·rename_i e;rw[if_pos e];exact hκ.norm _ _ _ h
  ·rename_i e;rw[if_neg e];exact hκ.exit _ _ _ _ h
 | loop live c ih=>
  intro φ φ' hφ κ κ' hκ tm H x h;obtain⟨m,hm⟩:=zv0 h
  refine(zbf fun m y hy=>zlv (ih _ _ (self φ')) live.kept m _ _ _ hy).2 ⟨m,?_⟩
  exact zwt hκ (ih _ _ hφ) live.kept m _ _ _ hm
 | exit id=>exact fun _ _ _ κ κ' hκ=>hκ.exit id
 | ret=>exact fun _ _ _ κ κ' hκ=>hκ.ret
 | cut live c ih=>exact fun _ _ hφ κ κ' hκ tm H x h=>ih _ _ hφ _ _ hκ _ _ _ h
theorem zny(hφ:z38 φs φ){r:bJ}{H:pA}{ks:Nat->zA->pA->lB}{k:zA->pA->lB}(hk:zmx ks k){x:zA × pA}(h:oG φ r H k=some x):∃n,oG (φs n) r H (ks n)=some x:=by
 cases r<;>simp only[oG]at h ⊢<;>try (cases h;done)
 case val v H'=>exact hk.ex _ _ _ h
 case enter f args=>
  rw[mA]at h;obtain⟨p,h1,h2⟩:=h
  obtain⟨n,hn⟩:=hφ.ex _ _ _ _ h1
  obtain⟨m,hm⟩:=hk.ex _ _ _ h2
  exact⟨max n m,by rw[mA];exact⟨p,hφ.le (Nat.le_max_left n m) _ _ _ _ hn,up_le hk.up (Nat.le_max_right n m) _ _ _ hm⟩⟩
theorem zit{t:Nat}{ks:Nat->zA->pA->lB}{k:zA->pA->lB}(hk:zmx ks k):zmx (fun n v H=>rJ C t v fun v=>ks n v H) (fun v H=>rJ C t v fun v=>k v H):=by
 refine⟨fun n=>zap (hk.up n),fun v H x h=>?_⟩
 rw[xM]at h;obtain⟨n,hn⟩:=hk.ex _ _ _ h.2
 exact⟨n,by rw[xM];exact⟨h.1,hn⟩⟩
theorem zz6(hφ:z38 φs φ){κs:Nat->Tm->pA->lB}{κ:Tm->pA->lB}(hκ:zmx κs κ):∀(l:List Oper),zmx (fun n=>zkf C (φs n) all N (κs n) l) (zkf C φ all N κ l):=by
 intro l;refine⟨fun n=>zcn (hφ.up n) (hκ.up n) l,?_⟩
 induction l with
 | nil=>exact hκ.ex
 | cons o l ih=>
  intro tm H x h;rw[wV,mA]at h;obtain⟨w,h1,h2⟩:=h
  split at h2
  ·rename_i e
   obtain⟨n,hn⟩:=zny hφ (zit (ks:=fun n v H'=>zkf C (φs n) all N (κs n) l (putA N tm o.dst v) H') (k:=fun v H'=>zkf C φ all N κ l (putA N tm o.dst v) H') ⟨fun n v H' y hy=>zcn (hφ.up n) (hκ.up n) l _ _ _ hy,fun v H' y hy=>ih _ _ _ hy⟩) h2
   exact⟨n,by show zkf C (φs n) all N (κs n) (o::l) tm H=some x;rw[wV,mA];exact⟨w,h1,by rw[if_pos e];exact hn⟩⟩
  ·rename_i e
   obtain⟨n,hn⟩:=ih _ _ _ h2
   exact⟨n,by show zkf C (φs n) all N (κs n) (o::l) tm H=some x;rw[wV,mA];exact⟨w,h1,by rw[if_neg e];exact hn⟩⟩
variable {old:Tm}{olds:List (Nat × List Nat)}
theorem zcy{H:pA}{ks:Nat->Tm->lB}{k:Tm->lB}(hk:∀tm x,k tm=some x->∃n,ks n tm=some x):∀(l:List Nat) tm x,eH C H all N old olds k l tm=some x->∃n,eH C H all N old olds (ks n) l tm=some x:=by
 intro l;induction l with
 | nil=>exact hk
 | cons i l ih=>
  intro tm x h;simp only[qY]at h ⊢
  rw[mA]at h;obtain⟨o,h1,h⟩:=h
  rw[mA]at h;obtain⟨w,h3,h4⟩:=h
  split at h4
  ·rename_i e
   rw[mA]at h4;obtain⟨v,h5,h6⟩:=h4
   rw[xM]at h6;obtain⟨n,hn⟩:=ih _ _ h6.2
   exact⟨n,by rw[h1,sA,h3,sA,if_pos e,h5,sA,xM];exact⟨h6.1,hn⟩⟩
  ·rename_i e
   obtain⟨n,hn⟩:=ih _ _ h4
   exact⟨n,by rw[h1,sA,h3,sA,if_neg e];exact hn⟩
theorem zk1(hφ:z38 φs φ){κs:Nat->Tm->pA->lB}{κ:Tm->pA->lB}(hκ:zmx κs κ):∀(l:List qG),zmx (fun n=>zI C (φs n) all N old olds (κs n) l) (zI C φ all N old olds κ l):=by
 intro l;refine⟨fun n=>xZ (hφ.up n) (hκ.up n) l,?_⟩
 induction l with
 | nil=>exact hκ.ex
 | cons st l ih=>
  intro tm H x h;rw[gU,mA]at h;obtain⟨o,h1,h⟩:=h
  rw[mA]at h;obtain⟨w,h2,h⟩:=h
  have cont:zmx (fun n v H'=>fJ C H' all old olds (putA N tm o.dst v) (eH C H' all N old olds (fun tm=>zI C (φs n) all N old olds (κs n) l tm H') st.lights (putA N tm o.dst v)) st.again)
    (fun v H'=>fJ C H' all old olds (putA N tm o.dst v) (eH C H' all N old olds (fun tm=>zI C φ all N old olds κ l tm H') st.lights (putA N tm o.dst v)) st.again):=by
   refine⟨fun n v H' y hy=>zdu (qZ (fun tm x hx=>xZ (hφ.up n) (hκ.up n) l _ _ _ hx) _ _ _ (nX _ hy).2) _ hy,fun v H' y hy=>?_⟩
   obtain⟨n,hn⟩:=zcy (fun tm x hx=>ih tm H' x hx) _ _ _ (nX _ hy).2
   exact⟨n,zdu hn _ hy⟩
  simp only[]at h;split at h
  ·rename_i e
   obtain⟨n,hn⟩:=zny hφ (zit cont) h
   exact⟨n,by show zI C (φs n) all N old olds (κs n) (st::l) tm H=some x;rw[gU,h1,sA,h2,sA];simp only[];rw[if_pos e];exact hn⟩
  ·rename_i e
   obtain⟨n,hn⟩:=cont.ex _ _ _ h
   exact⟨n,by show zI C (φs n) all N old olds (κs n) (st::l) tm H=some x;rw[gU,h1,sA,h2,sA];simp only[];rw[if_neg e];exact hn⟩
theorem zlc(hφ:z38 φs φ){κs:Nat->Tm->pA->lB}{κ:Tm->pA->lB}(hκ:zmx κs κ){id:Nat}{draw:Bool}:zmx (fun n=>aU C (φs n) fn N (κs n) id all draw) (aU C φ fn N κ id all draw):=by
 refine⟨fun n=>za1 (hφ.up n) (hκ.up n),fun tm H x h=>?_⟩
 cases draw with
 | false=>exact(zz6 hφ hκ _).ex _ _ _ h
 | true=>
  have h:(ob (ob (C.plans.get fn) fun t=>t.get id) fun p=>uB (aN all p) (eH C H all N tm.cut p.olds (fun tm'=>zI C φ all N tm.cut p.olds κ p.stages tm' H) p.first tm.cut))=some x:=h
  rw[mA]at h;obtain⟨p,h1,h⟩:=h
  rw[mB]at h;obtain⟨n,hn⟩:=zcy (fun tm' x hx=>(zk1 hφ hκ p.stages).ex tm' H x hx) _ _ _ h.2
  refine⟨n,?_⟩
  show(ob (ob (C.plans.get fn) fun t=>t.get id) fun p=>uB (aN all p) (eH C H all N tm.cut p.olds (fun tm'=>zI C (φs n) all N tm.cut p.olds (κs n) p.stages tm' H) p.first tm.cut))=some x
  rw[h1,sA,mB];exact⟨h.1,hn⟩
theorem zxq(hφ:z38 φs φ):∀(c:jF) (κs:Nat->Kt) (κ:Kt),SupK κs κ->zmx (fun n=>nD C (φs n) fn N c (κs n)) (nD C φ fn N c κ):=by
 have kle:∀ {κs:Nat->Kt} {κ:Kt},SupK κs κ->∀n,KLe (κs n) (κs (n+1)):=fun h n=>⟨h.norm.up n,fun i=>(h.exit i).up n,h.ret.up n⟩
 intro c;induction c with
 | skip=>exact fun κs κ hκ=>hκ.norm
 | region id ops d=>exact fun κs κ hκ=>zlc hφ hκ.norm
 | seq a b iha ihb=>exact fun κs κ hκ=>iha (fun n=>⟨nD C (φs n) fn N b (κs n),(κs n).exit,(κs n).ret⟩) _ ⟨ihb _ _ hκ,hκ.exit,hκ.ret⟩
 | cond c a b iha ihb=>
  intro κs κ hκ;refine⟨fun n=>jV (hφ.up n) (.cond c a b) _ _ (kle hκ n),fun tm H x h=>?_⟩
  have h:(ob (ob (ev c (.now tm)) zA.asBool) fun t=>Bool.rec (motive:=fun _=>lB) (nD C φ fn N b κ tm H) (nD C φ fn N a κ tm H) t)=some x:=h
  rw[mA]at h;obtain⟨t,h1,h2⟩:=h
  have key:∀n,(Bool.rec (motive:=fun _=>lB) (nD C (φs n) fn N b (κs n) tm H) (nD C (φs n) fn N a (κs n) tm H) t:lB)=some x->nD C (φs n) fn N (.cond c a b) (κs n) tm H=some x:=by
   intro n hn;show(ob (ob (ev c (.now tm)) zA.asBool) fun t=>Bool.rec (motive:=fun _=>lB) (nD C (φs n) fn N b (κs n) tm H) (nD C (φs n) fn N a (κs n) tm H) t)=some x
   rw[h1,sA];exact hn
  cases t with
  | true=>obtain⟨n,hn⟩:=(iha _ _ hκ).ex _ _ _ h2;exact⟨n,key n hn⟩
  | false=>obtain⟨n,hn⟩:=(ihb _ _ hκ).ex _ _ _ h2;exact⟨n,key n hn⟩
 | block id c ih=>
  intro κs κ hκ;refine ih (fun n=>⟨(κs n).norm,fun i tm H=>Bool.rec (motive:=fun _=>lB) ((κs n).exit i tm H) ((κs n).norm tm H) (Nat.beq id i),(κs n).ret⟩) _ ⟨hκ.norm,fun i=>⟨fun n tm H x h=>?_,fun tm H x h=>?_⟩,hκ.ret⟩
  ·simp only[jH]at h ⊢
   split at h
   ·rename_i e;rw[if_pos e];exact hκ.norm.up n _ _ _ h
   ·rename_i e;rw[if_neg e];exact(hκ.exit i).up n _ _ _ h
  ·simp only[jH]at h ⊢
   split at h
   ·rename_i e;obtain⟨n,hn⟩:=hκ.norm.ex _ _ _ h;exact⟨n,by rw[if_pos e];exact hn⟩
   ·rename_i e;obtain⟨n,hn⟩:=(hκ.exit i).ex _ _ _ h;exact⟨n,by rw[if_neg e];exact hn⟩
 | loop live c ih=>
  intro κs κ hκ;refine⟨fun n=>jV (hφ.up n) (.loop live c) _ _ (kle hκ n),fun tm H x h=>?_⟩
  obtain⟨m,hm⟩:=zv0 h
  have it:∀m,zmx (fun n=>(Nat.rec (motive:=fun _=>Tm->pA->lB) (fun _ _=>none) (fun _ r tm H=>nD C (φs n) fn N c ⟨r,(κs n).exit,(κs n).ret⟩ (keep live.kept tm) H) m:Tm->pA->lB))
    (Nat.rec (motive:=fun _=>Tm->pA->lB) (fun _ _=>none) (fun _ r tm H=>nD C φ fn N c ⟨r,κ.exit,κ.ret⟩ (keep live.kept tm) H) m):=by
   intro m;induction m with
   | zero=>exact⟨fun _ _ _ _ h=>h,fun _ _ _ h=>by cases h⟩
   | succ m ihm=>
    have:=ih _ _ (⟨ihm,hκ.exit,hκ.ret⟩:SupK (fun n=>⟨(Nat.rec (motive:=fun _=>Tm->pA->lB) (fun _ _=>none) (fun _ r tm H=>nD C (φs n) fn N c ⟨r,(κs n).exit,(κs n).ret⟩ (keep live.kept tm) H) m:Tm->pA->lB),(κs n).exit,(κs n).ret⟩) ⟨(Nat.rec (motive:=fun _=>Tm->pA->lB) (fun _ _=>none) (fun _ r tm H=>nD C φ fn N c ⟨r,κ.exit,κ.ret⟩ (keep live.kept tm) H) m:Tm->pA->lB),κ.exit,κ.ret⟩)
    exact⟨fun n tm H x h=>this.up n _ _ _ h,fun tm H x h=>this.ex _ _ _ h⟩
  obtain⟨n,hn⟩:=(it m).ex _ _ _ hm
  exact⟨n,(zbf fun m y hy=>zlv (fun κ κ' h=>jV (fun _ _ _ _ h=>h) c κ κ' h) live.kept m _ _ _ hy).2 ⟨m,hn⟩⟩
 | exit id=>exact fun κs κ hκ=>hκ.exit id
 | ret=>exact fun κs κ hκ=>hκ.ret
 | cut live c ih=>exact fun κs κ hκ=>⟨fun n tm H x h=>(ih _ _ hκ).up n _ _ _ h,fun tm H x h=>(ih _ _ hκ).ex _ _ _ h⟩
theorem z1m{live:PI}{c:jF}{κ:Kt}{tm:Tm}{H:pA}:nD C φ fn N (.loop live c) κ tm H=nD C φ fn N c ⟨nD C φ fn N (.loop live c) κ,κ.exit,κ.ret⟩ (keep live.kept tm) H:=by
 have self:OLe φ φ:=fun _ _ _ _ h=>h
 have up:∀m,Le2 (Nat.rec (motive:=fun _=>Tm->pA->lB) (fun _ _=>none) (fun _ r tm H=>nD C φ fn N c ⟨r,κ.exit,κ.ret⟩ (keep live.kept tm) H) m)
   (Nat.rec (motive:=fun _=>Tm->pA->lB) (fun _ _=>none) (fun _ r tm H=>nD C φ fn N c ⟨r,κ.exit,κ.ret⟩ (keep live.kept tm) H) (m+1)):=zlv (jV self c) live.kept
 have some_iff:∀tm H x,nD C φ fn N (.loop live c) κ tm H=some x ↔ ∃m,(Nat.rec (motive:=fun _=>Tm->pA->lB) (fun _ _=>none) (fun _ r tm H=>nD C φ fn N c ⟨r,κ.exit,κ.ret⟩ (keep live.kept tm) H) m:Tm->pA->lB) tm H=some x:=
  fun tm H x=>zbf fun m y hy=>up m _ _ _ hy
 have sup:SupK (fun m=>⟨(Nat.rec (motive:=fun _=>Tm->pA->lB) (fun _ _=>none) (fun _ r tm H=>nD C φ fn N c ⟨r,κ.exit,κ.ret⟩ (keep live.kept tm) H) m:Tm->pA->lB),κ.exit,κ.ret⟩) ⟨nD C φ fn N (.loop live c) κ,κ.exit,κ.ret⟩:=
  ⟨⟨up,fun tm H x h=>(some_iff tm H x).1 h⟩,fun i=>⟨fun _ _ _ _ h=>h,fun _ _ _ h=>⟨0,h⟩⟩,⟨fun _ _ _ _ h=>h,fun _ _ _ h=>⟨0,h⟩⟩⟩
 have key:∀x,nD C φ fn N (.loop live c) κ tm H=some x ↔ nD C φ fn N c ⟨nD C φ fn N (.loop live c) κ,κ.exit,κ.ret⟩ (keep live.kept tm) H=some x:=by
  intro x;rw[some_iff];constructor
  ·rintro⟨m,hm⟩
   cases m with
   | zero=>cases hm
   | succ m=>exact jV self c ⟨(Nat.rec (motive:=fun _=>Tm->pA->lB) (fun _ _=>none) (fun _ r tm H=>nD C φ fn N c ⟨r,κ.exit,κ.ret⟩ (keep live.kept tm) H) m:Tm->pA->lB),κ.exit,κ.ret⟩ ⟨nD C φ fn N (.loop live c) κ,κ.exit,κ.ret⟩ ⟨fun tm H y hy=>(some_iff tm H y).2 ⟨m,hy⟩,fun _ _ _ _ h=>h,fun _ _ _ h=>h⟩ _ _ _ hm
  ·intro h
   obtain⟨m,hm⟩:=(zxq (φs:=fun _=>φ) ⟨fun _=>self,fun _ _ _ _ h=>⟨0,h⟩⟩ c _ _ sup).ex _ _ _ h
   exact⟨m+1,hm⟩
 cases h:nD C φ fn N (.loop live c) κ tm H with
 | some x=>exact((key x).1 h).symm
 | none=>
  cases h2:nD C φ fn N c ⟨nD C φ fn N (.loop live c) κ,κ.exit,κ.ret⟩ (keep live.kept tm) H with
  | none=>rfl
  | some x=>rw[(key x).2 h2]at h;cases h
end
end Go.Am
namespace Go.Am
open Go Go.RowKit
def z0y:List mD->Bool
 | .reg .. :: _=>true
 | _=>false
section
variable {P:Program}{C:iA}{B N:Nat}{I:World->Prop}{μ:Mu}{w:World}{base:List Frame}{m:Machine}
theorem zzg(hF:zhl P C){f:Nat}{args:List zA}{args':Array Value}{H:pA}(hH:oB B N μ H w)(hl:rB μ args args'.toList){g:vC}(he:wJ C f args false=some g) :
  uD P C B N μ base (lone (Frame.enter P f args' .normal) base w) w (.next ⟨g,[],H⟩):=
 ⟨μ,_,[],w,.refl _ _,fun _ _ h=>h,Below.refl N w,hH,(kV (cur:=some H) hF he hl).1,.nil⟩
end
end Go.Am
namespace Go.Am
open Go Go.RowKit
inductive iN (C:iA):gC->gC->Prop
 | refl (o:gC):iN C o o
 | step {o o':gC}:iN C (zK C o) o'->iN C o o'
 | forget {todo:List mD} {tm tm':Tm} {R:oI} {cs:List vC} {H:pA} {o':gC}:z0y todo=false->(∀i v,tm'.get i=some v->tm.get i=some v)->iN C (.next ⟨⟨todo,tm',R⟩,cs,H⟩) o'->iN C (.next ⟨⟨todo,tm,R⟩,cs,H⟩) o'
theorem iN.trans{C:iA}{a b c:gC}(h:iN C a b)(k:iN C b c):iN C a c:=by
 induction h with
 | refl=>exact k
 | step _ ih=>exact .step (ih k)
 | forget h1 h2 _ ih=>exact .forget h1 h2 (ih k)
section
variable {P:Program}{C:iA}{B N:Nat}{I:World->Prop}{μ:Mu}{w:World}{base:List Frame}{m:Machine}
theorem uE.forget{n:Nat}{tm tm':Tm}{tmps:Array Value}(h:uE μ n tm tmps)(hs:∀i v,tm'.get i=some v->tm.get i=some v):uE μ n tm' tmps:=⟨h.1,fun i v hv=>h.2 i v (hs i v hv)⟩
theorem zw7{todo:List mD}{tm tm':Tm}{R:oI}{acs:List vC}{H:pA}(hr:z0y todo=false)(hs:∀i v,tm'.get i=some v->tm.get i=some v)(h:uD P C B N μ base m w (.next ⟨⟨todo,tm,R⟩,acs,H⟩)) :
  uD P C B N μ base m w (.next ⟨⟨todo,tm',R⟩,acs,H⟩):=by
 obtain⟨μ',b,cs,w',h1,h2,h3,h4,h5,h6⟩:=h
 obtain⟨bfn,btmps,btodo,bdefers,bmode,bkind,bround⟩:=b
 refine⟨μ',_,cs,w',h1,h2,h3,h4,⟨h5.rest,?_⟩,h6⟩
 have hb:=h5.body
 simp only at hb ⊢
 split at hb
 ·rename_i hm
  rw[if_pos hm]
  cases hb with
  | plain a t=>exact .plain a (t.forget hs)
  | reg _ _ _ _=>cases hr
  | mid _ _ _ _ _=>cases hr
 ·rename_i hm
  rw[if_neg hm];exact hb.forget hs
theorem uD.reach(hS:Sim P C B N I)(hI:I w){o o':gC}(h:iN C o o'):uD P C B N μ base m w o->uD P C B N μ base m w o':=by
 induction h with
 | refl=>exact id
 | step _ ih=>exact fun h=>ih (aQ hS hI h)
 | forget hr hs _ ih=>exact fun h=>ih (zw7 hr hs h)
end
def zhi(C:iA)(f:Nat)(fr:vC)(H:pA)(v:zA):Prop:=
 fr.R.mode=.returning/\fr.R.defers=[]/\fr.R.deferred=false/\fr.R.fn=f/\∃fn l,C.fns.get f=some fn/\gT C H fr.tm fn.results.toList=some l/\v=oT l
def wT(C:iA)(φ:Ora):Prop:=∀f args H x,φ f args H=some x->∃g,wJ C f args false=some g/\∀acs,∃fr',iN C (.next ⟨g,acs,H⟩) (.next ⟨fr',acs,x.2⟩)/\zhi C f fr' x.2 x.1
def Fin (C:iA)(f:Nat)(acs:List vC)(o:gC)(x:zA × pA):Prop:=∃fr',iN C o (.next ⟨fr',acs,x.2⟩)/\zhi C f fr' x.2 x.1
theorem Fin.step{C:iA}{f:Nat}{acs:List vC}{o:gC}{x:zA × pA}(h:Fin C f acs (zK C o) x):Fin C f acs o x:=by
 obtain⟨fr,h1,h2⟩:=h;exact⟨fr,.step h1,h2⟩
theorem Fin.of{C:iA}{f:Nat}{acs:List vC}{o o':gC}{x:zA × pA}(hr:iN C o o')(h:Fin C f acs o' x):Fin C f acs o x:=by
 obtain⟨fr,h1,h2⟩:=h;exact⟨fr,hr.trans h1,h2⟩
structure SoundK (C:iA) (f:Nat) (acs:List vC) (R:oI) (κ:Kt) (k:List mD) (x:zA × pA):Prop where
 norm:∀tm H,κ.norm tm H=some x->Fin C f acs (.next ⟨⟨k,tm,R⟩,acs,H⟩) x
 exit:∀i tm H,κ.exit i tm H=some x->∃k',sO i k=some k'/\Fin C f acs (.next ⟨⟨k',tm,R⟩,acs,H⟩) x
 ret:∀tm H,κ.ret tm H=some x->∀k',Fin C f acs (.next ⟨⟨.code .ret::k',tm,R⟩,acs,H⟩) x
section
variable {C:iA}{φ:Ora}{f N:Nat}{acs:List vC}{R:oI}{κ:Kt}{k:List mD}{x:zA × pA}{all:Array Oper}
theorem cL(hR:R.mode.running=true){todo:List mD}{tm:Tm}{H:pA}:zK C (.next ⟨⟨todo,tm,R⟩,acs,H⟩)=zg8 C todo tm R acs H:=by
 show(bif R.mode.running then zg8 C todo tm R acs H else _)=_
 rw[hR];rfl
theorem z6i{fr c c':vC}{H:pA}{v:zA}(hr:zhi C f fr H v)(hf:rI c v=some c'):zK C (.next ⟨fr,c::acs,H⟩)=.next ⟨c',acs,H⟩:=by
 obtain⟨h1,h2,h3,h4,fn,l,h5,h6,rfl⟩:=hr
 obtain⟨todo,tm,ffn,n,defers,mode,deferred,round⟩:=fr
 simp only at h1 h2 h3 h4 h6
 subst h1 h2 h3 h4
 show zbx C ⟨todo,tm,_⟩ (c::acs) H=_
 unfold zbx;rw[h5,sA,h6];simp only[cond_false];rw[hf];rfl
theorem zex(hφ:wT C φ){r:bJ}{H:pA}{K:zA->pA->lB}(h:oG φ r H K=some x){fr:vC}
  (hK:∀v H' c',rI fr v=some c'->K v H'=some x->Fin C f acs (.next ⟨c',acs,H'⟩) x) (hfin:∀v,∃c',rI fr v=some c'):Fin C f acs (dV r C fr acs H) x:=by
 cases r<;>simp only[oG]at h<;>try (cases h;done)
 case val v H'=>
  have h2:K v H'=some x:=h
  obtain⟨c',hc⟩:=hfin v
  show Fin C f acs (z47 v H' C fr acs H) x
  unfold z47;rw[hc];exact hK _ _ _ hc h2
 case enter g args=>
  rw[mA]at h;obtain⟨p,h1,h4⟩:=h
  obtain⟨c',hc⟩:=hfin p.1
  show Fin C f acs (zii g args C fr acs H) x
  unfold zii;obtain⟨ge,he,r0⟩:=hφ _ _ _ _ h1
  obtain⟨fr',r1,r2⟩:=r0 (fr::acs)
  rw[he];refine Fin.of (r1.trans (.step ?_)) (hK _ _ _ hc h4)
  rw[z6i r2 hc];exact .refl _
theorem zqi(hφ:wT C φ)(hR:R.mode.running=true)(hN:R.n=N){κn:Tm->pA->lB}(hκ:∀tm H,κn tm H=some x->Fin C f acs (.next ⟨⟨k,tm,R⟩,acs,H⟩) x) :
  ∀(l:List Oper) (tm:Tm) (H:pA),zkf C φ all N κn l tm H=some x->Fin C f acs (bP C all k R acs l tm H) x:=by
 intro l;induction l with
 | nil=>exact fun tm H h=>hκ tm H h
 | cons o l ih=>
  intro tm H h;rw[wV,mA]at h;obtain⟨w,h1,h⟩:=h
  rw[tZ,h1]
  cases w with
  | false=>rw[if_neg (by simp)]at h;simp only[];rw[hN];exact ih _ _ h
  | true=>
   rw[if_pos rfl]at h;simp only[];generalize (bE o.op).f C (.now tm) H=r at h
   cases hv:r.asVal with
   | some p=>
    have:r=.val p.1 p.2:=by cases r<;>simp[bJ.asVal]at hv;rw[<- hv]
    subst this;simp only[oG,xM]at h;obtain⟨h2,h3⟩:=h
    simp only[];rw[hN];exact ih _ _ h3
   | none=>
    refine zex hφ h (fun v H' c' hc hK=>?_) fun v=>⟨⟨.ops all l::k,putA R.n tm o.dst v,R⟩,by unfold rI;simp only[hR,cond_true];rfl⟩
    unfold rI at hc;simp only[hR,cond_true]at hc;have hc:some (⟨.ops all l::k,putA R.n tm o.dst v,R⟩:vC)=some c':=hc
    cases hc;refine .step ?_
    rw[cL hR,hN];rw[xM]at hK;exact ih _ _ hK.2
theorem rZ{H:pA}{old:Tm}{olds:List (Nat × List Nat)}{K:Tm->lB}:∀(l:List Nat) (tm:Tm),eH C H all N old olds K l tm=some x->∃tm',yO C H all N old olds l tm=some tm'/\K tm'=some x:=by
 intro l;induction l with
 | nil=>exact fun tm h=>⟨tm,rfl,h⟩
 | cons i l ih=>
  intro tm h;rw[qY,mA]at h;obtain⟨o,h1,h⟩:=h
  rw[mA]at h;obtain⟨w,h2,h⟩:=h
  unfold yO;rw[h1,sA,h2,sA]
  cases w with
  | false=>rw[if_neg (by simp)]at h;simp only[cond_false,sA];exact ih _ h
  | true=>
   rw[if_pos rfl,mA]at h;obtain⟨v,h3,h⟩:=h
   rw[xM]at h;obtain⟨h4,h⟩:=h
   simp only[cond_true];rw[h3,sA];exact ih _ h
theorem z08{C:iA}{o:Op}{e:xD}{H:pA}{g:Nat}{args:List zA}(hf:xK o=true)(h:(bE o).f C e H=.enter g args):False:=by
 have key:∀q:Option (zA × pA),eK q≠.enter g args:=fun q=>by cases q<;>simp[eK]
 cases o<;>simp only[xK]at hf<;>first
  | (cases hf;done)
  | exact key _ h
theorem zf8(hφ:wT C φ)(hR:R.mode.running=true)(hN:R.n=N){κn:Tm->pA->lB}(hκ:∀tm H,κn tm H=some x->Fin C f acs (.next ⟨⟨k,tm,R⟩,acs,H⟩) x){old:Tm}{olds:List (Nat × List Nat)} :
  ∀(l:List qG) (tm:Tm) (H:pA),zI C φ all N old olds κn l tm H=some x->Fin C f acs (.next ⟨⟨.reg all old olds l::k,tm,R⟩,acs,H⟩) x:=by
 intro l;induction l with
 | nil=>
  intro tm H h;refine .step ?_
  rw[cL hR];exact hκ tm H h
 | cons st l ih=>
  intro tm H h;rw[gU,mA]at h;obtain⟨o,h1,h⟩:=h
  rw[mA]at h;obtain⟨w,h2',h⟩:=h
  by_cases hfl:Nat.blt (wB all.toList) st.heavy=true
  ·-- an operation that is done early
   unfold kP at h2';unfold hvI at h1 h;rw[hfl]at h1 h2' h
   simp only[cond_true,mA,mB,yac]at h1 h2'
   obtain⟨w',h2,⟨hw,hfo⟩,h2'⟩:=h2'
   cases h2'
   subst hw;simp only[if_true,cond_true]at h;have hval:∃v H',(bE o.op).f C (.mixed tm old (eE (Nat.sub st.heavy (Nat.succ (wB all.toList))) olds) (gG o.op)) H=.val v H':=by
    cases hr:(bE o.op).f C (.mixed tm old (eE (Nat.sub st.heavy (Nat.succ (wB all.toList))) olds) (gG o.op)) H with
    | val v H'=>exact⟨v,H',rfl⟩
    | enter g args=>exact(z08 hfo hr).elim
    | _=>rw[hr]at h;cases h
   obtain⟨v,H',hv⟩:=hval
   rw[hv]at h;have h:(rJ C o.type v fun v=>fJ C H' all old olds (putA N tm o.dst v) (eH C H' all N old olds (fun tm=>zI C φ all N old olds κn l tm H') st.lights (putA N tm o.dst v)) st.again)=some x:=h
   rw[xM]at h;obtain⟨ha,hl⟩:=nX _ h.2
   obtain⟨tm',hl1,hl2⟩:=rZ _ _ hl
   refine .step ?_
   rw[cL hR];show Fin C f acs (zrz all old olds (st::l) C k tm R acs H) x
   unfold zrz;have hnone:qD all.toList st.heavy=none:=by
    rw[bD];have:=oC.1 hfl
    rw[fD]at this;exact List.getElem?_eq_none (by omega)
   simp only[hnone];rw[hfl,cond_true];unfold zm2;rw[h1,sA,h2,sA,hv];show Fin C f acs (qK (ob (yO C H' all R.n old olds st.lights (putA R.n tm o.dst v)) fun tm'=>some ⟨⟨.reg all old olds l::k,tm',R⟩,acs,H'⟩) 23) x
   rw[hN,hl1,sA];exact ih _ _ hl2
  have hfl:Nat.blt (wB all.toList) st.heavy=false:=Bool.eq_false_iff.2 hfl
  unfold kP at h2';unfold hvI at h1 h;rw[hfl]at h1 h2' h
  simp only[cond_false,mA]at h1 h2'
  obtain⟨w',h2,h2'⟩:=h2'
  cases h2'
  simp only[cond_false]at h;have back0:∀v H' c',rI (⟨.reg all old olds (st::l)::k,tm,R⟩:vC) v=some c' →
    fJ C H' all old olds (putA N tm o.dst v) (eH C H' all N old olds (fun tm=>zI C φ all N old olds κn l tm H') st.lights (putA N tm o.dst v)) st.again=some x->Fin C f acs (.next ⟨c',acs,H'⟩) x:=by
   intro v H' c' hc hK;unfold rI at hc;simp only[hR,cond_true]at hc;have hc:(ob (qD all.toList st.heavy) fun o=>some (⟨.reg all old olds (⟨all.size,st.lights,st.again⟩::l)::k,putA R.n tm o.dst v,R⟩:vC))=some c':=hc
   rw[h1,sA]at hc
   cases hc;refine .step ?_
   rw[cL hR,hN];obtain⟨ha,hl⟩:=nX _ hK
   obtain⟨tm',hl1,hl2⟩:=rZ _ _ hl
   show Fin C f acs (zrz all old olds (⟨all.size,st.lights,st.again⟩::l) C k (putA N tm o.dst v) R acs H') x
   unfold zrz;have:qD all.toList all.size=none:=by rw[bD];simp
   simp only[this];rw[kC,if_neg fun e=>by have:=oC.1 e;rw[fD]at this;simp at this]
   show Fin C f acs (zbq all old olds ⟨all.size,st.lights,st.again⟩ l C k (putA N tm o.dst v) R acs H') x
   unfold zbq;simp only[ha,hN,hl1,sA];exact ih _ _ hl2
  have back:∀v H' c',rI (⟨.reg all old olds (st::l)::k,tm,R⟩:vC) v=some c' →
    (rJ C o.type v fun v=>fJ C H' all old olds (putA N tm o.dst v) (eH C H' all N old olds (fun tm=>zI C φ all N old olds κn l tm H') st.lights (putA N tm o.dst v)) st.again)=some x->Fin C f acs (.next ⟨c',acs,H'⟩) x:=by
   intro v H' c' hc hK;rw[xM]at hK;exact back0 v H' c' hc hK.2
  refine .step ?_
  rw[cL hR];show Fin C f acs (zrz all old olds (st::l) C k tm R acs H) x
  unfold zrz;simp only[h1];unfold zm1;rw[h2];simp only[];have hfin:∀v,∃c',rI (⟨.reg all old olds (st::l)::k,tm,R⟩:vC) v=some c':=fun v=>⟨⟨.reg all old olds (⟨all.size,st.lights,st.again⟩::l)::k,putA R.n tm o.dst v,R⟩,by
   unfold rI;simp only[hR,cond_true];show(ob (qD all.toList st.heavy) fun o=>some (⟨.reg all old olds (⟨all.size,st.lights,st.again⟩::l)::k,putA R.n tm o.dst v,R⟩:vC))=_
   rw[h1];rfl⟩
  cases w with
  | true=>
   simp only[if_true]at h;exact zex hφ h back hfin
  | false=>
   simp only[yar,if_false]at h;obtain⟨c',hc⟩:=hfin tE
   show Fin C f acs (z47 tE H C _ acs H) x
   unfold z47;rw[hc];exact back0 _ _ _ hc h
theorem z0x{live:List Nat}{tm:Tm}{i:Nat}{v:zA}(h:(keep live tm).get i=some v):tm.get i=some v:=by
 unfold keep Tm.get at h;simp only[jH]at h;split at h
 case isFalse=>cases h
 rename_i hk;have key:∀live:List Nat,(zjb tm live).get i=some v->tm.get i=some v:=by
  intro live;induction live with
  | nil=>intro h;rw[show zjb tm []=.leaf from rfl,Tr.get_leaf]at h;cases h
  | cons j live ih=>
   intro h;have h:(match tm.get j with | some v=>(zjb tm live).set j v | none=>zjb tm live:Tr zA).get i=some v:=h
   cases hj:tm.get j with
   | none=>rw[hj]at h;exact ih h
   | some u=>
    rw[hj]at h;simp only[]at h;rw[Tr.get_set]at h;split at h
    ·rename_i e;rw[e,hj];exact h
    ·exact ih h
 exact key live h
theorem zfi{todo:List mD}(hr:z0y todo=false){live:List Nat}{tm:Tm}{H:pA}(h:Fin C f acs (.next ⟨⟨todo,keep live tm,R⟩,acs,H⟩) x):Fin C f acs (.next ⟨⟨todo,tm,R⟩,acs,H⟩) x:=
 Fin.of (.forget hr (fun _ _=>z0x) (.refl _)) h
theorem zjk(hR:R.mode.running=true){t1 t2:List mD}(h1:z0y t1=false)(hs:∀tm H,zg8 C t1 tm R acs H=zg8 C t2 tm R acs H){tm:Tm}{H:pA}(h:Fin C f acs (.next ⟨⟨t2,tm,R⟩,acs,H⟩) x):Fin C f acs (.next ⟨⟨t1,tm,R⟩,acs,H⟩) x:=by
 obtain⟨fr,hr,hv⟩:=h
 refine⟨fr,?_,hv⟩
 generalize ho:(.next ⟨⟨t2,tm,R⟩,acs,H⟩:gC)=o at hr
 generalize ho':(.next ⟨fr,acs,x.2⟩:gC)=o' at hr
 induction hr generalizing tm with
 | refl=>
  subst ho'
  cases ho;rw[hv.1]at hR;cases hR
 | step h ih=>
  subst ho;refine .step ?_
  rw[cL hR,hs,<- cL hR];exact h
 | forget hr2 hs2 h ih=>
  cases ho;exact .forget h1 hs2 (ih rfl ho')
theorem zxr(hφ:wT C φ)(hR:R.mode.running=true)(hN:R.n=N)(hfn:R.fn=f):∀(c:jF) (κ:Kt) (k:List mD),SoundK C f acs R κ k x->∀tm H,nD C φ f N c κ tm H=some x->Fin C f acs (.next ⟨⟨.code (nH c)::k,tm,R⟩,acs,H⟩) x:=by
 intro c;induction c with
 | skip=>
  intro κ k hκ tm H h;refine .step ?_
  rw[cL hR];exact hκ.norm _ _ h
 | region id ops d=>
  intro κ k hκ tm H h;refine .step ?_
  rw[cL hR]
  cases d with
  | false=>exact zqi hφ hR hN hκ.norm _ _ _ h
  | true=>
   have h:(ob (ob (C.plans.get f) fun t=>t.get id) fun p=>uB (aN ops p) (eH C H ops N tm.cut p.olds (fun tm'=>zI C φ ops N tm.cut p.olds κ.norm p.stages tm' H) p.first tm.cut))=some x:=h
   rw[mA]at h;obtain⟨p,h1,h⟩:=h
   rw[mB]at h;obtain⟨tm',hl1,hl2⟩:=rZ _ _ h.2
   show Fin C f acs (zr2 id ops C k tm R acs H) x
   unfold zr2;rw[hfn,h1,sA,h.1,hN,hl1];exact zf8 hφ hR hN hκ.norm _ _ _ hl2
 | seq a b iha ihb=>
  intro κ k hκ tm H h;refine zjk hR (t1:=.code (nH (.seq a b))::k) rfl (t2:=.code (nH a)::.code (nH b)::k) (fun _ _=>rfl) ?_
  refine iha ⟨nD C φ f N b κ,κ.exit,κ.ret⟩ _ ⟨fun tm H h=>ihb _ _ hκ tm H h,fun i tm H h=>?_,hκ.ret⟩ tm H h
  obtain⟨k',h1,h2⟩:=hκ.exit i tm H h
  exact⟨k',h1,h2⟩
 | cond c a b iha ihb=>
  intro κ k hκ tm H h;have h:(ob (ob (ev c (.now tm)) zA.asBool) fun t=>Bool.rec (motive:=fun _=>lB) (nD C φ f N b κ tm H) (nD C φ f N a κ tm H) t)=some x:=h
  rw[mA]at h;obtain⟨t,h1,h⟩:=h
  refine .step ?_
  rw[cL hR];show Fin C f acs (zr3 c (nH a) (nH b) C k tm R acs H) x
  unfold zr3;rw[h1]
  cases t with
  | true=>exact iha _ _ hκ _ _ h
  | false=>exact ihb _ _ hκ _ _ h
 | block id c ih=>
  intro κ k hκ tm H h;refine .step ?_
  rw[cL hR];have nx:∀tm H,κ.norm tm H=some x->Fin C f acs (.next ⟨⟨.inBlock id::k,tm,R⟩,acs,H⟩) x:=by
   intro tm H h;refine .step ?_
   rw[cL hR];exact hκ.norm _ _ h
  refine ih ⟨κ.norm,fun i tm H=>Bool.rec (motive:=fun _=>lB) (κ.exit i tm H) (κ.norm tm H) (Nat.beq id i),κ.ret⟩ _ ⟨nx,fun i tm H h=>?_,hκ.ret⟩ tm H h
  simp only[jH]at h;unfold sO;simp only[mD.blockId];rw[kC];split at h
  ·rename_i e;rw[if_pos e];exact⟨k,rfl,hκ.norm _ _ h⟩
  ·rename_i e;rw[if_neg e];exact hκ.exit _ _ _ h
 | loop live c ih=>
  intro κ k hκ tm H h;obtain⟨m,hm⟩:=zv0 h
  have it:∀(m:Nat) tm H,(Nat.rec (motive:=fun _=>Tm->pA->lB) (fun _ _=>none) (fun _ r tm H=>nD C φ f N c ⟨r,κ.exit,κ.ret⟩ (keep live.kept tm) H) m:Tm->pA->lB) tm H=some x->Fin C f acs (.next ⟨⟨.inLoop (nH c)::k,tm,R⟩,acs,H⟩) x:=by
   intro m;induction m with
   | zero=>intro tm H h;cases h
   | succ m ihm=>
    intro tm H h;refine zfi (live:=live.kept) rfl (.step ?_)
    rw[cL hR];exact ih ⟨_,κ.exit,κ.ret⟩ _ ⟨ihm,fun i tm H h=>hκ.exit i tm H h,hκ.ret⟩ _ _ h
  exact zjk hR (t1:=.code (nH (.loop live c))::k) rfl (t2:=.inLoop (nH c)::k) (fun _ _=>rfl) (it m tm H hm)
 | exit id=>
  intro κ k hκ tm H h;obtain⟨k',h1,h2⟩:=hκ.exit id tm H h
  refine .step ?_
  rw[cL hR];show Fin C f acs (zr1 id C k tm R acs H) x
  unfold zr1;rw[h1];exact h2
 | ret=>exact fun κ k hκ tm H h=>hκ.ret tm H h k
 | cut live c ih=>exact fun κ k hκ tm H h=>zfi rfl (ih κ k hκ _ _ h)
end
end Go.Am
namespace Go.Am
open Go Go.RowKit
def endK (C:iA)(fn:Func)(tm:Tm)(H:pA):lB:=ob (gT C H tm fn.results.toList) fun l=>some (oT l,H)
def zy7 (C:iA)(fn:Func):Kt:=⟨endK C fn,fun _ _ _=>none,endK C fn⟩
def wN(C:iA)(A:Tr jF)(φ:Ora):Ora:=fun f args H=>ob (A.get f) fun c=>ob (C.fns.get f) fun fn=>ob (wJ C f args false) fun g=>nD C φ f fn.ntmps c (zy7 C fn) g.tm H
def z23 (C:iA)(A:Tr jF):Nat->Ora
 | 0=>fun _ _ _=>none
 | n+1=>wN C A (z23 C A n)
def xF (C:iA)(A:Tr jF):Ora:=fun f args H=>lim fun n=>z23 C A n f args H
section
variable {C:iA}{A:Tr jF}
theorem zem{φ φ':Ora}(h:OLe φ φ'):OLe (wN C A φ) (wN C A φ'):=by
 intro f args H x hx;unfold wN at hx ⊢
 rw[mA]at hx ⊢
 obtain⟨c,h1,hx⟩:=hx
 refine⟨c,h1,?_⟩
 rw[mA]at hx ⊢
 obtain⟨fn,h2,hx⟩:=hx
 refine⟨fn,h2,?_⟩
 rw[mA]at hx ⊢
 obtain⟨g,h3,hx⟩:=hx
 exact⟨g,h3,jV h c _ _ (KLe.refl _) _ _ _ hx⟩
theorem zvh:∀n,OLe (z23 C A n) (z23 C A (n+1)):=by
 intro n;induction n with
 | zero=>intro f args H x h;cases h
 | succ n ih=>exact zem ih
theorem yX{f:Nat}{args:List zA}{H:pA}{x:zA × pA}:xF C A f args H=some x ↔ ∃n,z23 C A n f args H=some x:=
 zbf fun n _ hy=>zvh n _ _ _ _ hy
theorem z6o:z38 (z23 C A) (xF C A):=⟨zvh,fun _ _ _ _ h=>yX.1 h⟩
theorem fnV_eq(f:Nat)(args:List zA)(H:pA):xF C A f args H=wN C A (xF C A) f args H:=by
 have key:∀x,xF C A f args H=some x ↔ wN C A (xF C A) f args H=some x:=by
  intro x;constructor
  ·intro h
   obtain⟨n,hn⟩:=yX.1 h
   cases n with
   | zero=>cases hn
   | succ n=>exact zem (fun f a H y hy=>yX.2 ⟨n,hy⟩) _ _ _ _ hn
  ·intro h
   unfold wN at h;rw[mA]at h;obtain⟨c,h1,h⟩:=h
   rw[mA]at h;obtain⟨fn,h2,h⟩:=h
   rw[mA]at h;obtain⟨g,h3,h⟩:=h
   have sup:SupK (fun _=>zy7 C fn) (zy7 C fn):=⟨⟨fun _ _ _ _ h=>h,fun _ _ _ h=>⟨0,h⟩⟩,fun i=>⟨fun _ _ _ _ h=>h,fun _ _ _ h=>⟨0,h⟩⟩,⟨fun _ _ _ _ h=>h,fun _ _ _ h=>⟨0,h⟩⟩⟩
   obtain⟨n,hn⟩:=(zxq z6o c _ _ sup).ex _ _ _ h
   refine yX.2 ⟨n+1,?_⟩
   show wN C A (z23 C A n) f args H=some x
   unfold wN;rw[h1,sA,h2,sA,h3,sA];exact hn
 cases h:xF C A f args H with
 | some x=>exact((key x).1 h).symm
 | none=>
  cases h2:wN C A (xF C A) f args H with
  | none=>rfl
  | some x=>rw[(key x).2 h2]at h;cases h
def qU(C:iA)(A:Tr jF):Prop:=∀f c,A.get f=some c->∃fn,C.fns.get f=some fn/\fn.body=some (nH c)
theorem zl7{f:Nat}{args:List zA}{g:vC}(h:wJ C f args false=some g):∃fn c,C.fns.get f=some fn/\fn.body=some c/\g.todo=[.code c]/\g.R=⟨f,fn.ntmps,[],.run,false,none⟩:=by
 unfold wJ at h;simp only[mA,mB]at h;obtain⟨fn,h1,c,h2,k,h3,_,h⟩:=h
 cases h;exact⟨fn,c,h1,h2,rfl,rfl⟩
theorem zo4{f:Nat}{fn:Func}{acs:List vC}{x:zA × pA}(hf:C.fns.get f=some fn){tm:Tm}{H:pA}(h:endK C fn tm H=some x){todo:List mD}{R:oI}(hR:R=⟨f,fn.ntmps,[],.run,false,none⟩)
  (hs:zg8 C todo tm R acs H=.next ⟨zcf ⟨todo,tm,R⟩ .returning,acs,H⟩):Fin C f acs (.next ⟨⟨todo,tm,R⟩,acs,H⟩) x:=by
 unfold endK at h;rw[mA]at h;obtain⟨l,h1,h2⟩:=h
 cases h2;refine .step ?_
 rw[cL (by rw[hR];rfl),hs]
 subst hR;exact⟨_,.refl _,rfl,rfl,rfl,rfl,fn,l,hf,h1,rfl⟩
theorem zk0(hA:qU C A){φ:Ora}(hφ:wT C φ):wT C (wN C A φ):=by
 intro f args H x h;unfold wN at h;rw[mA]at h;obtain⟨c,h1,h⟩:=h
 rw[mA]at h;obtain⟨fn,h2,h⟩:=h
 rw[mA]at h;obtain⟨g,h3,h⟩:=h
 refine⟨g,h3,fun acs=>?_⟩
 obtain⟨fn',c',e1,e2,e3,e4⟩:=zl7 h3
 rw[h2]at e1;cases e1
 obtain⟨fn',e5,e6⟩:=hA f c h1
 rw[h2]at e5;cases e5
 rw[e2]at e6;cases e6
 obtain⟨gt,gtm,gR⟩:=g
 simp only at e3 e4 h
 subst e3;have:=zxr (acs:=acs) (R:=gR) (x:=x) hφ (by rw[e4];rfl) (by rw[e4]) (by rw[e4]) c (zy7 C fn) [] ⟨?_,?_,?_⟩ gtm H h
 ·exact this
 ·intro tm H h
  exact zo4 h2 h e4 (by rw[e4];rfl)
 ·intro i tm H h
  cases h
 ·intro tm H h k'
  exact zo4 h2 h e4 (by rw[e4];rfl)
theorem zqm(hA:qU C A):∀n,wT C (z23 C A n):=by
 intro n;induction n with
 | zero=>intro f args H x h;cases h
 | succ n ih=>exact zk0 hA ih
theorem zw8(hA:qU C A):wT C (xF C A):=by
 intro f args H x h;obtain⟨n,hn⟩:=yX.1 h
 exact zqm hA n _ _ _ _ hn
theorem zjw{P:Program}{B N:Nat}{I:World->Prop}{μ:Mu}{w:World}(hS:Sim P C B N I)(hI:I w)(hA:qU C A){f:Nat}{args:List zA}{args':Array Value}{H H':pA}{v:zA}(hH:oB B N μ H w)(hl:rB μ args args'.toList)
  (h:xF C A f args H=some (v,H')):Calls P f args' w fun e w'=>∃v' μ',e=.returned v'/\μ.lw μ'/\rA μ' v v'/\oB B N μ' H' w'/\Below N w w':=by
 intro base;obtain⟨g,he,hr⟩:=zw8 hA _ _ _ _ h
 obtain⟨fr',r1,h1,h2,h3,h4,fn,l,h5,h6,rfl⟩:=hr []
 have h0:uD P C B N μ base (lone (Frame.enter P f args' .normal) base w) w (.next ⟨g,[],H⟩):=zzg hS.fns hH hl he
 obtain⟨μ',b,cs,w',s1,s2,s3,s4,s5,s6⟩:=uD.reach hS hI r1 h0
 cases s6
 have hb:=s5.body
 rw[if_neg (by rw[h1];simp[zeb.running])]at hb
 obtain⟨v',q1,q2⟩:=zev hS.tys s4 hb h6
 have hm:=s5.rest.mode
 rw[h1]at hm;have hbm:b.mode=.returning:=by
  cases hb:b.mode with
  | returning=>rfl
  | _=>rw[hb]at hm;exact hm.elim
 have hd:=s5.rest.defers
 rw[h2]at hd;have hbd:b.defers=[]:=by
  generalize hx:b.defers=bd at hd
  cases hd;rfl
 have hk:=s5.rest.kind
 rw[h3]at hk;have hfn:b.fn=f:=by rw[s5.rest.fn,h4]
 exact⟨.returned v',w',b,⟨v',μ',rfl,s2,q2,s4,s3⟩,s1,hfn,hbm,hbd,hk,fn,by rw[hfn];exact(hS.fns _ _ h5).1,q1⟩
end
end Go.Am
namespace Go.Am
open Go Go.RowKit
def jA(C:iA)(t:Nat)(H:pA)(v:zA):Option zA:=ob v.asPtr fun p=>ob (C.tys.get t) fun ty=>ob (rD H p.1) fun c=>rN ty c.1 p.2
def tM(C:iA)(s d:Nat)(H:pA)(a:zA):Option zA:=ob (C.tys.get s) fun s=>ob (C.tys.get d) fun d=>lN C s d a H
def uG(C:iA)(t:Nat)(H:pA)(a:zA)(l h:Option zA):Option zA:=ob (C.tys.get t) fun ty=>yK C H ty a l h
def dR(C:iA)(s f:Nat):Option Nat:=ob (C.tys.get s) fun ty=>ob ty.desc.asStruct fun fs=>ob (qD fs f) fun fd=>uB (!Nat.beq fd.2.2 0) (some fd.1)
def uC(C:iA)(s f:Nat)(v:zA):Option zA:=ob (dR C s f) fun k=>ob v.asPtr fun p=>some (.ptr p.1 (p.2+k))
def xB(C:iA)(t:Nat)(v i:zA):Option zA:=
 ob (C.tys.get t) fun ty=>ob i.asNat fun i=>
  match v.asSlice with
  | some s=>ob ty.desc.asSlice fun el=>ob (C.tys.get el) fun et=>uB (Nat.blt i s.2.2.1) (some (.ptr s.1 (s.2.1+i*et.size)))
  | none=>ob v.asPtr fun p=>ob ty.desc.asArr fun a=>ob (C.tys.get a.2) fun et=>uB (Nat.blt i a.1) (some (.ptr p.1 (p.2+i*et.size)))
def zm5(C:iA)(t i:Nat):Option Nat:=ob (C.tys.get t) fun ty=>ob ty.desc.asArr fun a=>ob (C.tys.get a.2) fun et=>uB (Nat.blt i a.1) (some (i*et.size))
def fN(C:iA)(t:Nat)(v i:zA):Option zA:=
 ob (C.tys.get t) fun ty=>ob i.asNat fun i=>
  match v.asStr with
  | some s=>uB ty.desc.isString (ob (qD s i) fun b=>some (.int .u8 (.ofNat b)))
  | none=>ob v.asAgg fun l=>ob ty.desc.asArr fun a=>ob (C.tys.get a.2) fun et=>uB (Nat.blt i a.1) (bN C a.2 l (i*et.size))
def bB(i:Nat)(v:zA):Option zA:=ob v.asTup fun l=>qD l i
def zrq (C:iA)(t:Nat)(H:pA)(v:zA):Option zA:=ob (C.tys.get t) fun ty=>ob (zv4 H ty v) fun n=>some (.int .i64 (.ofNat n))
def vB(v:zA):Option zA:=
 match v.asSlice with
 | some s=>some (.int .i64 (.ofNat s.2.2.1))
 | none=>uB (Nat.beq v.tag 5) (some (.int .i64 (.ofNat 0)))
def lG (v:zA):Option zA:=uB (Nat.beq v.tag 4||Nat.beq v.tag 9) (some v)
def zko(C:iA)(u:Nat)(ok:Bool)(v:zA):Option zA:=
 ob (C.tys.get u) fun ty=>uB (Nat.blt ty.desc.tag 9) (
  match v.asIface with
  | some p=>bif Nat.beq p.1 u then some (bif ok then .tup [p.2,.bool true]else p.2)else uB ok (some (.tup [zdz ty,.bool false]))
  | none=>uB (Nat.beq v.tag 12&&ok) (some (.tup [zdz ty,.bool false])))
def gP(C:iA)(t:Nat)(H:pA)(m k:zA)(ok:Bool):Option zA:=
 ob (C.tys.get t) fun ty=>ob ty.desc.asMap fun ke=>ob (C.tys.get ke.1) fun kty=>uB (sV kty.desc) (ob (C.tys.get ke.2) fun ety=>
  ob (zd8 H m) fun es=>uB (zfd kty.desc k) (ob (zg4 k es) fun r=>
   match r with
   | some v=>some (bif ok then .tup [v,.bool true]else v)
   | none=>some (bif ok then .tup [zdz ety,.bool false]else zdz ety)))
def jK(C:iA)(t:Nat)(H:pA):Option (zA × pA):=ob (C.tys.get t) fun ty=>some (.ptr H.next 0,nF H ty.zero none)
def zsh (v:zA)(H:pA):Option (zA × pA):=some (.ptr H.next 0,nF H v.cells none)
def fE(C:iA)(t len:Nat)(ps:List (Nat × zA))(H:pA):Option (zA × pA):=
 ob (C.tys.get t) fun ty=>ob ty.desc.asSlice fun el=>ob (C.tys.get el) fun et=>
  uB (Nat.blt (len*et.size) 1000000&&Nat.beq (wB et.zero) et.size) (ob (iM (fun i=>some (i*et.size,et.size)) ps (tJ et.zero len)) fun l=>some (.slice H.next 0 len len,nF H l none))
def lD(C:iA)(t:Nat)(a v:zA)(H:pA):Option (zA × pA):=ob (C.tys.get t) fun ty=>ob a.asPtr fun p=>uB (Nat.beq (wB v.cells) ty.size) (ob (iK C H p.1 p.2 v.cells) fun H'=>some (tE,H'))
def mU(H:pA):Option (zA × pA):=some (.map H.next,newBlk H (.map []))
def fR(C:iA)(t:Nat)(m k v:zA)(H:pA):Option (zA × pA):=
 ob (C.tys.get t) fun ty=>ob ty.desc.asMap fun ke=>ob (C.tys.get ke.1) fun kty=>uB (sV kty.desc)
  (ob m.asMap fun b=>uB (!Nat.blt b C.base) (ob (iL H b) fun l=>uB (zfd kty.desc k) (ob (xR k v l) fun l'=>some (tE,setBlk H b (.map l')))))
def uL(C:iA)(t:Nat)(l c:zA)(H:pA):Option (zA × pA):=
 ob (C.tys.get t) fun ty=>ob ty.desc.asSlice fun el=>ob (C.tys.get el) fun et=>ob l.asNat fun l=>ob c.asNat fun c=>
  uB (Nat.ble l c&&Nat.blt c 1000000&&Nat.blt (c*et.bytes) 1000000000&&Nat.beq (wB et.zero) et.size) (some (.slice H.next 0 l c,nF H (tJ et.zero c) none))
def zfw(C:iA)(s d:Nat)(v:zA)(H:pA):Option (zA × pA):=
 ob (C.tys.get s) fun _=>ob (C.tys.get d) fun ty=>ob ty.desc.asSlice fun el=>ob (C.tys.get el) fun et=>ob et.desc.asInt fun k=>uB (kEq k .u8) (ob v.asStr fun l=>
  some (.slice H.next 0 (wB l) (wB l),nF H (pP l) (some 1)))
def iD(C:iA)(t u:Nat)(a b:zA)(H:pA):Option (zA × pA):=ob (C.tys.get t) fun ty=>ob (C.tys.get u) fun uty=>uB (!Nat.beq uty.desc.tag 1) (aM C H ty a b)
def vNext(v:zA)(H:pA):Option (zA × pA):=ob v.asPtr fun p=>uB (Nat.beq p.2 0) (ob (ob (H.t.get p.1) lA.asIter) fun x=>
 match qD x.1 x.2 with
 | some c=>uB (Nat.blt c 128) (some (.tup [.bool true,.int .i64 (.ofNat x.2),.int .i32 (.ofNat c)],setBlk H p.1 (.siter x.1 (x.2+1))))
 | none=>some (.tup [.bool false],H))
structure zke where
 b:Nat->Bool
 i:Nat->Int
 s:Nat->List Nat
 v:Nat->zA
inductive T where
 | ret (v:zA)
 | fail
 | ite (b:Bool) (x y:T)
 | opt (x:Option zA) (K:zA->T)
 | light (x:Tr lA->Option zA) (K:zA->T)
 | heavy (x:pA->Option (zA × pA)) (K:zA->T)
 | call (f:Nat) (args:List zA) (K:zA->T)
 | callv (f:zA) (args:List zA) (K:zA->T)
 | asI (k:IntKind) (v:zA) (K:Int->T)
 | asB (v:zA) (K:Bool->T)
 | asS (v:zA) (K:List Nat->T)
 | asG (zs:List zA) (v:zA) (K:zke->T)
 | jump (i:Nat) (vals:List zA)
def ziu(z:zA)(X:zke)(j:Nat):zA:=
 match z with
 | .bool _=>.bool (X.b j)
 | .int k _=>.int k (X.i j)
 | .str _=>.str (X.s j)
 | _=>X.v j
def mM(zs:List zA)(X:zke):Nat->List zA:=
 List.rec (motive:=fun _=>Nat->List zA) (fun _=>[]) (fun z _ g j=>ziu z X j::g (j+1)) zs
def lF(l:List zA)(j:Nat):Bool:=match l[j]? with | some (.bool b)=>b | _=>false
def bF(l:List zA)(j:Nat):Int:=match l[j]? with | some (.int _ n)=>n | _=>0
def iG(l:List zA)(j:Nat):List Nat:=match l[j]? with | some (.str s)=>s | _=>[]
def sF(l:List zA)(j:Nat):zA:=match l[j]? with | some v=>v | _=>.nilptr
def cellsOf(l:List zA):zke:=⟨lF l,bF l,iG l,sF l⟩
def mG (z a:zA):Bool:=
 match z with
 | .bool _=>Nat.beq a.tag 0
 | .int k _=>match a.asIntK with | some p=>kEq p.1 k | none=>false
 | .str _=>Nat.beq a.tag 2
 | .nilptr=>Nat.beq a.tag 3||Nat.beq a.tag 4
 | .nilslice=>Nat.beq a.tag 5||Nat.beq a.tag 6
 | .nilmap=>Nat.beq a.tag 7||Nat.beq a.tag 8
 | .nilfunc=>Nat.beq a.tag 10||Nat.beq a.tag 9
 | .niliface=>Nat.beq a.tag 12||Nat.beq a.tag 11
 | _=>false
def jM:List zA->List zA->Bool
 | [],[]=>true
 | z::zs,a::l=>mG z a&&jM zs l
 | _,_=>false
structure TSt where
 tm:Tm
 ad:List (Nat × Nat × Nat)
 lo:Tr (List zA)
 lit:List Nat
abbrev KT:=TSt->T
structure KtT where
 norm:KT
 exit:Nat->KT
 ret:KT
def sC {α:Type}(x:Option α)(K:α->T):T:=Option.rec (motive:=fun _=>T) .fail K x
def gdT (b:Bool)(K:T):T:=Bool.rec (motive:=fun _=>T) .fail K b
def wI(i:Nat)(l:List (Nat × Nat × Nat)):Option (Nat × Nat):=
 List.rec (motive:=fun _=>Option (Nat × Nat)) none (fun a _ g=>Bool.rec (motive:=fun _=>Option (Nat × Nat)) g (some a.2) (Nat.beq i a.1)) l
inductive zkg where
 | now (ad:List (Nat × Nat × Nat))
 | mixed (ad old:List (Nat × Nat × Nat)) (olds names:List Nat)
def tAd (e:zkg)(t:Nat):Option (Nat × Nat):=
 match e with
 | .now ad=>wI t ad
 | .mixed ad old olds names=>bif vH t names then wI t (bif vH t olds then old else ad)else none
def xAd (e:zkg)(x:Operand):Option (Nat × Nat):=
 match x with
 | .tmp t=>tAd e t
 | _=>none
def H0A:pA:=⟨0,.leaf⟩
def yH (C:iA)(t:Nat):Nat:=
 match C.tys.get t with
 | some ty=>ty.desc.tag
 | none=>10
def zgs(x:Operand):Bool:=
 match x with
 | .const _=>true
 | _=>false
def zxx(x:Operand):Bool:=
 match x with
 | .const (.int _ n) => !wA n 0
 | _=>false
def binDir(C:iA)(op:BinOp)(t:Nat)(y:Operand):Bool:=
 match op with
 | .add=>Nat.beq (yH C t) 1
 | .sub=>true
 | .mul=>true
 | .quo=>zxx y
 | .rem=>zxx y
 | .shl=>zgs y
 | .shr=>zgs y
 | .eql=>Nat.ble (yH C t) 2
 | .neq=>Nat.ble (yH C t) 2
 | .lss=>Nat.ble (yH C t) 2
 | .leq=>Nat.ble (yH C t) 2
 | .gtr=>Nat.ble (yH C t) 2
 | .geq=>Nat.ble (yH C t) 2
 | _=>false
structure KOp where
 K:zA->T
 Kd:zA->T
 KA:Nat->Nat->T
def znf (C:iA)(op:Op)(e:xD)(k:KOp):T:=sC ((kF op).f C e H0A) k.Kd
def zza(C:iA)(op:Op)(x:Operand)(e:xD)(ae:zkg)(k:KOp):T:=
 match xAd ae x with
 | some p=>k.KA p.1 p.2
 | none=>znf C op e k
def tLoad(C:iA)(t:Nat)(a:Operand)(e:xD)(ae:zkg)(lo:Tr (List zA))(k:KOp):T:=
 match xAd ae a with
 | some p=>sC (lo.get p.1) fun l=>sC (C.tys.get t) fun ty=>gdT (Nat.ble (p.2+ty.size) (wB l)) (sC (bN C t l p.2) k.Kd)
 | none=>sC (ev a e) fun v=>.light (fun m=>jA C t ⟨0,m⟩ v) k.K
def zel(C:iA)(s:Nat)(x:Operand)(f:Nat)(e:xD)(ae:zkg)(k:KOp):T:=
 match xAd ae x with
 | some p=>sC (dR C s f) fun o=>k.KA p.1 (p.2+o)
 | none=>sC (ev x e) fun v=>.opt (uC C s f v) k.K
def zek(C:iA)(t:Nat)(x i:Operand)(e:xD)(ae:zkg)(k:KOp):T:=
 match xAd ae x with
 | some p=>sC (ev i e) fun i=>sC i.asNat fun i=>sC (zm5 C t i) fun o=>k.KA p.1 (p.2+o)
 | none=>sC (ev x e) fun v=>sC (ev i e) fun i=>.opt (xB C t v i) k.K
def tNil (x:Operand)(e:xD)(ae:zkg)(k:KOp):T:=
 match xAd ae x with
 | some p=>k.KA p.1 p.2
 | none=>sC (ev x e) fun v=>.opt (lG v) k.K
def tLen (C:iA)(c:Call)(e:xD)(k:KOp):T:=
 sC (qD c.argTypes.toList 0) fun t=>sC (qD c.args.toList 0) fun x=>sC (ev x e) fun v=>
  bif Nat.beq (yH C t) 4 then .opt (vB v) k.K else bif Nat.beq (yH C t) 6 then .light (fun m=>zrq C t ⟨0,m⟩ v) k.K else sC (zrq C t H0A v) k.Kd
def tBin (C:iA)(op:BinOp)(t:Nat)(x y:Operand)(u:Nat)(e:xD)(k:KOp):T:=
 bif binDir C op t y then znf C (.binOp op t x y u) e k else sC (ev x e) fun a=>sC (ev y e) fun b=>.opt ((yL op).f C t x y a b) k.K
def z4p(C:iA)(s d:Nat)(x:Operand)(e:xD)(k:KOp):T:=
 bif Nat.beq (yH C d) 2 then(bif Nat.beq (yH C s) 2 then znf C (.convert s d x) e k else sC (ev x e) fun v=>.light (fun m=>tM C s d ⟨0,m⟩ v) k.K)else bif Nat.beq (yH C d) 1 then znf C (.convert s d x) e k else .fail
def z2j(C:iA)(t:Nat)(x:Operand)(lo hi:Option Operand)(e:xD)(k:KOp):T:=
 sC (ev x e) fun a=>sC (evo lo e) fun l=>sC (evo hi e) fun h=>
  bif Nat.beq (yH C t) 2 then .opt (uG C t H0A a l h) k.K else .light (fun m=>uG C t ⟨0,m⟩ a l h) k.K
def xW(C:iA)(c:Call)(e:xD)(k:KOp):Builtin->T
 | .len=>tLen C c e k
 | .max=>znf C (.call c) e k
 | .min=>znf C (.call c) e k
 | _=>.fail
def zfo(ty:wD)(v:zA):List zA:=bif ty.desc.isAgg then v.cells else [v]
def z1d(cells:List zA)(off size:Nat)(vc:List zA):Option (List zA):=
 uB (Nat.beq (wB vc) size&&Nat.ble (off+wB vc) (wB cells)) (some (iF (dO cells off) (iF vc (pK cells (off+wB vc)))))
def zu4(C:iA)(tyAt:Nat->Option Nat):List (Nat × zA)->Option (List (Nat × zA × List zA) × List zA):=
 List.rec (motive:=fun _=>Option (List (Nat × zA × List zA) × List zA)) (some ([],[]))
  (fun p _ g=>ob (tyAt p.1) fun t=>ob (C.tys.get t) fun ty=>ob g fun r=>some (bif ty.desc.isAgg then((p.1,p.2,p.2.cells)::r.1,r.2)else((p.1,p.2,[p.2])::r.1,p.2::r.2)))
def z1e(place:Nat->Option (Nat × Nat)):List (Nat × zA × List zA)->List zA->Option (List zA):=
 List.rec (motive:=fun _=>List zA->Option (List zA)) (fun cells=>some cells) (fun p _ g cells=>ob (place p.1) fun q=>ob (z1d cells q.1 q.2 p.2.2) fun cells=>g cells)
def tyAtS(ty:wD)(i:Nat):Option Nat:=
 match ty.desc.asStruct with
 | some fs=>ob (qD fs i) fun x=>some x.2.1
 | none=>ob ty.desc.asArr fun a=>some a.2
def ze2(C:iA)(ty:wD)(i:Nat):Option (Nat × Nat):=
 match ty.desc.asStruct with
 | some fs=>ob (qD fs i) fun x=>some (x.1,x.2.2)
 | none=>ob ty.desc.asArr fun a=>ob (C.tys.get a.2) fun et=>some (i*et.size,et.size)
def zj2(C:iA)(ty:wD):Bool:=
 match ty.desc.asStruct with
 | some _=>true
 | none=>match ty.desc.asArr with
  | some a=>(match C.tys.get a.2 with | some _=>true | none=>false)
  | none=>false
def z2l(C:iA)(t:Nat)(ps:Array (Nat × Operand))(e:xD)(k:KOp):T:=
 sC (C.tys.get t) fun ty=>gdT (zj2 C ty) <| sC (evp ps.toList e) fun vs=>sC (zu4 C (tyAtS ty) vs) fun q=>sC (z1e (ze2 C ty) q.1 ty.zero) fun l=>.ite (pB zA.one q.2) (k.Kd (.agg l)) .fail
def tL (C:iA)(op:Op)(e:xD)(ae:zkg)(lo:Tr (List zA))(k:KOp):T:=
 match op with
 | .move x=>zza C (.move x) x e ae k
 | .assign x=>zza C (.assign x) x e ae k
 | .load t a=>tLoad C t a e ae lo k
 | .fieldAddr s x f=>zel C s x f e ae k
 | .indexAddr t x i=>zek C t x i e ae k
 | .nilCheck x=>tNil x e ae k
 | .binOp op t x y u=>tBin C op t x y u e k
 | .convert s d x=>z4p C s d x e k
 | .slice t x lo hi none=>z2j C t x lo hi e k
 | .index t x i=>bif zgs i&&Nat.beq (yH C t) 5 then znf C (.index t x i) e k else sC (ev x e) fun v=>sC (ev i e) fun i=>.opt (fN C t v i) k.K
 | .extract t i=>sC (ev t e) fun v=>.opt (bB i v) k.K
 | .typeAssert x _ u ok=>sC (ev x e) fun v=>.opt (zko C u ok v) k.K
 | .lookup t x i ok=>sC (ev x e) fun m=>sC (ev i e) fun key=>.light (fun h=>gP C t ⟨0,h⟩ m key ok) k.K
 | .call c=>match c.callee with
  | .builtin b=>xW C c e k b
  | _=>.fail
 | .pick c a b=>znf C (.pick c a b) e k
 | .unOp o t x=>(match o with
  | .xor=>sC (ev x e) fun v=>.opt (zkq v) k.K
  | o=>znf C (.unOp o t x) e k)
 | .makeInterface t x=>znf C (.makeInterface t x) e k
 | .makeFunc fn a b=>znf C (.makeFunc fn a b) e k
 | .field t x f=>znf C (.field t x f) e k
 | .build t ps=>z2l C t ps e k
 | _=>.fail
def laOf (la:List Nat)(dst:Option Nat):Option Nat:=
 match dst with
 | some d=>bif vH d la then some d else none
 | none=>none
structure KLo where
 new:Nat->List zA->T
 set:Nat->List zA->T
def z2k(f:Operand)(args:Array Operand)(e:xD)(k:KOp):T:=
 match f with
 | .func g=>sC (evs args.toList e) fun as=>.call g as k.K
 | f=>sC (ev f e) fun fv=>sC (evs args.toList e) fun as=>.callv fv as k.K
def two' (c:Call)(e:xD)(K:zA->zA->T):T:=sC (two c e) fun p=>K p.1 p.2
def zh0(C:iA)(c:Call)(e:xD)(k:KOp):Builtin->T
 | .append=>sC (qD c.argTypes.toList 0) fun t=>sC (qD c.argTypes.toList 1) fun u=>two' c e fun a b=>.heavy (iD C t u a b) k.K
 | b=>xW C c e k b
def z2i(C:iA)(t:Nat)(a x:Operand)(e:xD)(ae:zkg)(lo:Tr (List zA))(k:KOp)(kl:KLo):T:=
 match xAd ae a with
 | some p=>sC (ev x e) fun v=>sC (C.tys.get t) fun ty=>sC (lo.get p.1) fun l=>sC (z1d l p.2 ty.size (zfo ty v)) fun l'=>.ite (pB zA.one (zfo ty v)) (kl.set p.1 l') .fail
 | none=>sC (ev a e) fun a=>sC (ev x e) fun v=>.heavy (lD C t a v) k.Kd
def tH (C:iA)(la:List Nat)(dst:Option Nat)(op:Op)(e:xD)(ae:zkg)(lo:Tr (List zA))(k:KOp)(kl:KLo):T:=
 match op with
 | .box t x=>sC (ev x e) fun v=>(match laOf la dst with
  | some d=>sC (C.tys.get t) fun ty=>bif ty.desc.isAgg then kl.new d v.cells else .ite (zA.one v) (kl.new d [v]) .fail
  | none=>.heavy (zsh v) k.K)
 | .alloc t=>(match laOf la dst with
  | some d=>sC (C.tys.get t) fun ty=>kl.new d ty.zero
  | none=>.heavy (jK C t) k.K)
 | .store t a x=>z2i C t a x e ae lo k kl
 | .buildSlice t len ps=>sC (evp ps.toList e) fun ps=>.heavy (fE C t len ps) k.K
 | .makeMap _ none=>.heavy mU k.K
 | .insert t m key x=>sC (ev m e) fun m=>sC (ev key e) fun key=>sC (ev x e) fun v=>.heavy (fR C t m key v) k.Kd
 | .mapUpdate t m key x=>sC (ev m e) fun m=>sC (ev key e) fun key=>sC (ev x e) fun v=>.heavy (fR C t m key v) k.Kd
 | .makeSlice t l c=>sC (ev l e) fun l=>sC (ev c e) fun c=>.heavy (uL C t l c) k.K
 | .convert s d x=>bif Nat.beq (yH C d) 4 then sC (ev x e) fun v=>.heavy (zfw C s d v) k.K else z4p C s d x e k
 | .call c=>match c.callee with
  | .value f=>z2k f c.args e k
  | .builtin b=>zh0 C c e k b
  | _=>.fail
 | op=>tL C op e ae lo k
def rmNat(i:Nat)(l:List Nat):List Nat:=List.rec (motive:=fun _=>List Nat) [] (fun j _ g=>bif Nat.beq i j then g else j::g) l
def zpz (n:Nat)(dst:Option Nat)(v:zA)(lt:Bool)(st:TSt)(κ:KT):T:=
 match dst with
 | none=>κ st
 | some d=>bif Nat.blt d n then gdT (aK (wI d st.ad)) (κ ⟨st.tm.set d v,st.ad,st.lo,bif lt then d::rmNat d st.lit else rmNat d st.lit⟩)else κ st
def z4n(n:Nat)(dst:Option Nat)(d off:Nat)(st:TSt)(κ:KT):T:=
 sC dst fun i=>gdT (Nat.blt i n) (gdT (aK (st.tm.get i)) (κ ⟨st.tm,(i,d,off)::st.ad,st.lo,st.lit⟩))
def z24(d:Nat)(ad:List (Nat × Nat × Nat)):Bool:=pB (fun a=>bif Nat.beq a.2.1 d then Nat.beq a.1 d else true) ad
def tNew (n:Nat)(d:Nat)(l:List zA)(st:TSt)(κ:KT):T:=
 gdT (Nat.blt d n) (gdT (aK (st.tm.get d)) (gdT (z24 d st.ad) (κ ⟨st.tm,(d,d,0)::st.ad,st.lo.set d l,st.lit⟩)))
def fitB (C:iA)(t:Nat)(v:zA):Bool:=
 match C.tys.get t with
 | some ty=>(match ty.desc with
  | .bool=>Nat.beq v.tag 0
  | .int k=>(match v.asIntK with | some p=>kEq p.1 k | none=>false)
  | .string=>Nat.beq v.tag 2
  | _=>true)
 | none=>true
def zs4(C:iA)(t:Nat)(v:zA)(K:zA->T):T:=
 match C.tys.get t with
 | some ty=>(match ty.desc with
  | .bool=>.asB v fun b=>K (.bool b)
  | .int k=>.asI k v fun n=>K (.int k n)
  | .string=>.asS v fun s=>K (.str s)
  | .struct _=>bif Nat.ble (wB ty.zero) 40 then .asG ty.zero v fun X=>K (.agg (mM ty.zero X 0))else K v
  | .arr _ _=>bif Nat.ble (wB ty.zero) 40 then .asG ty.zero v fun X=>K (.agg (mM ty.zero X 0))else K v
  | _=>K v)
 | none=>K v
def z27 (x:Operand)(lit:List Nat):Bool:=
 match x with
 | .tmp t=>lit.contains t
 | .const _=>true
 | _=>false
def z0k(op:Op)(e:xD)(lit:List Nat):Bool:=
 match op with
 | .move x=>z27 x lit
 | .assign x=>z27 x lit
 | .unOp _ _ x=>z27 x lit
 | .pick c a b=>bif z27 c lit then(match ob (ev c e) zA.asBool with
  | some w=>bif w then z27 a lit else z27 b lit
  | none=>false)else false
 | _=>false
def zgr(all:List Oper)(dst:Option Nat)(l:List Oper):Bool:=
 match dst with
 | none=>false
 | some d => !pB (fun o=>match o.guard with
  | some g=>(match ob (qD all g.1) fun p=>p.dst with | some i => !Nat.beq i d | none=>true)
  | none=>true) l
def zej(g lt:Bool)(v:zA)(K:zA->Bool->T):T:=
 bif g then(bif lt then K v true else sC v.asBool fun b=>.ite b (K (.bool true) true) (K (.bool false) true))else K v lt
def kop (C:iA)(all:Array Oper)(n:Nat)(o:Oper)(e:xD)(st:TSt)(κ:KT):KOp:=
 ⟨fun v=>zs4 C o.type v fun v=>zej (zgr all.toList o.dst all.toList) (z0k o.op e st.lit) v fun v lt=>zpz n o.dst v lt st κ,
  fun v=>gdT (fitB C o.type v) (zej (zgr all.toList o.dst all.toList) (z0k o.op e st.lit) v fun v lt=>zpz n o.dst v lt st κ),
  fun d off=>gdT (!Nat.ble (yH C o.type) 2) (z4n n o.dst d off st κ)⟩
def klo (C:iA)(n:Nat)(o:Oper)(st:TSt)(κ:KT):KLo:=
 ⟨fun d l=>gdT (!Nat.ble (yH C o.type) 2) (tNew n d l st κ),
  fun d l=>gdT (fitB C o.type tE) (zpz n o.dst tE false ⟨st.tm,st.ad,st.lo.set d l,st.lit⟩ κ)⟩
def xD.adCut(k:Nat)(l:List (Nat × Nat × Nat)):List (Nat × Nat × Nat):=l.filter fun a=>Nat.blt a.1 k
def TSt.cut(st:TSt):TSt:=⟨st.tm.cut,xD.adCut st.tm.k st.ad,st.lo,st.lit⟩
def tops (C:iA)(la:List Nat)(all:Array Oper)(n:Nat)(κ:KT)(l:List Oper):KT:=
 List.rec (motive:=fun _=>KT) κ
  (fun o _ g st=>sC (pF o.guard all st.tm) fun w=>Bool.rec (motive:=fun _=>T) (zpz n o.dst tE false st g)
   (tH C la o.dst o.op (.now st.tm) (.now st.ad) st.lo (kop C all n o (.now st.tm) st g) (klo C n o st g)) w) l
def zrt (st old:TSt)(olds:List Nat)(op:Op):xD:=.mixed st.tm old.tm olds (gG op)
def z5o (st old:TSt)(olds:List Nat)(op:Op):zkg:=.mixed st.ad old.ad olds (gG op)
def dQ(C:iA)(all:Array Oper)(n:Nat)(old:TSt)(olds:List (Nat × List Nat))(κ:KT)(l:List Nat):KT:=
 List.rec (motive:=fun _=>KT) κ
  (fun i _ g st=>sC (qD all.toList i) fun o=>sC (pF o.guard all st.tm) fun w=>Bool.rec (motive:=fun _=>T) (zpz n o.dst tE false st g)
   (tL C o.op (zrt st old (eE i olds) o.op) (z5o st old (eE i olds) o.op) st.lo (kop C all n o (zrt st old (eE i olds) o.op) st g)) w) l
def bQ(C:iA)(all:Array Oper)(old:TSt)(olds:List (Nat × List Nat))(st:TSt)(k:T)(l:List Nat):T:=
 List.rec (motive:=fun _=>T) k
  (fun i _ g=>sC (qD all.toList i) fun o=>sC o.dst fun d=>sC (pF o.guard all st.tm) fun w=>Bool.rec (motive:=fun _=>T) g
   (sC (st.tm.get d) fun u=>gdT (fitB C o.type u) (tL C o.op (zrt st old (eE i olds) o.op) (z5o st old (eE i olds) o.op) st.lo ⟨fun v=>.ite (same 10 v u) g .fail,fun v=>.ite (same 10 v u) g .fail,fun _ _=>.fail⟩)) w) l
def zbz(C:iA)(all:Array Oper)(n:Nat)(old:TSt)(olds:List (Nat × List Nat))(κ:KT)(l:List qG):KT:=
 List.rec (motive:=fun _=>KT) κ
  (fun s _ g st=>sC (qD all.toList (hvI all s.heavy)) fun o=>sC (kP all s.heavy o st.tm) fun w=>
   (fun cont:KT=>Bool.rec (motive:=fun _=>T) (zpz n o.dst tE false st cont)
    (tH C [] o.dst o.op (zrt st old (eE (hvI all s.heavy) olds) o.op) (z5o st old (eE (hvI all s.heavy) olds) o.op) st.lo (kop C all n o (zrt st old (eE (hvI all s.heavy) olds) o.op) st cont) (klo C n o st cont)) w)
   (fun st'=>bQ C all old olds st' (dQ C all n old olds g s.lights st') s.again)) l
def zst(C:iA)(la:List Nat)(fn n:Nat)(κ:KT)(id:Nat)(all:Array Oper)(draw:Bool):KT:=
 Bool.rec (motive:=fun _=>KT) (fun st=>tops C la all n κ all.toList st.cut)
  (fun st=>sC (ob (C.plans.get fn) fun t=>t.get id) fun p=>gdT (aN all p) (dQ C all n st.cut p.olds (zbz C all n st.cut p.olds κ p.stages) p.first st.cut)) draw
def zee(st:TSt)(ll:List (Nat × Nat)):Option (List zA):=
 List.rec (motive:=fun _=>Option (List zA)) (some []) (fun p _ g=>ob (wI p.1 st.ad) fun a=>uB (Nat.beq a.1 p.1&&Nat.beq a.2 0) (ob (st.lo.get p.1) fun l=>uB (Nat.beq (wB l) p.2) (ob g fun r=>some (iF l r)))) ll
def zed(p:PI)(st:TSt):Option (List zA):=ob (tI (fun i=>st.tm.get i) p.pl) fun a=>ob (zee st p.ll) fun b=>some (iF a b)
def zyv (ll:List (Nat × Nat)):List zA->Tr (List zA):=
 List.rec (motive:=fun _=>List zA->Tr (List zA)) (fun _=>.leaf) (fun p _ g vals=>(g (pK vals p.2)).set p.1 (dO vals p.2)) ll
def z2q (pl:List Nat):List zA->Tr zA:=
 List.rec (motive:=fun _=>List zA->Tr zA) (fun _=>.leaf) (fun i _ g vals=>List.rec (motive:=fun _=>Tr zA) .leaf (fun v vals _=>(g vals).set i v) vals) pl
def stAd (ll:List (Nat × Nat)):List (Nat × Nat × Nat):=List.rec (motive:=fun _=>List (Nat × Nat × Nat)) [] (fun p _ g=>(p.1,p.1,0)::g) ll
def stAt (k:Nat)(p:PI)(vals:List zA):TSt:=⟨⟨k,z2q p.pl vals,[]⟩,stAd p.ll,zyv p.ll (pK vals (wB p.pl)),[]⟩
def znb (C:iA)(la:List Nat)(fn n:Nat)(c:jF):KtT->KT:=
 jF.rec (motive:=fun _=>KtT->KT)
  (fun κ st=>κ.norm st)
  (fun id all draw κ=>zst C la fn n κ.norm id all draw)
  (fun _ _ ga gb κ=>ga ⟨gb κ,κ.exit,κ.ret⟩)
  (fun c _ _ gx gy κ st=>sC (ob (ev c (.now st.tm)) zA.asBool) fun b=>bif z27 c st.lit then Bool.rec (motive:=fun _=>T) (gy κ st) (gx κ st) b else .ite b (gx κ st) (gy κ st))
  (fun id _ g κ=>g ⟨κ.norm,fun i st=>Bool.rec (motive:=fun _=>T) (κ.exit i st) (κ.norm st) (Nat.beq id i),κ.ret⟩)
  (fun p _ _ _ st=>sC (zed p st) fun vals=>.jump p.id vals)
  (fun id κ st=>κ.exit id st)
  (fun κ st=>κ.ret st)
  (fun p _ _ _ st=>sC (zed p st) fun vals=>.jump p.id vals) c
structure PtT where
 p:PI
 tree:List zA->T
def zqv(p:PI):KT:=fun st=>sC (zed p st) fun vals=>.jump p.id vals
def xS(C:iA)(la:List Nat)(fn n k:Nat)(c:jF):KtT->List PtT:=
 jF.rec (motive:=fun _=>KtT->List PtT)
  (fun _=>[])
  (fun _ _ _ _=>[])
  (fun _ b ga gb κ=>iF (ga ⟨znb C la fn n b κ,κ.exit,κ.ret⟩) (gb κ))
  (fun _ _ _ gx gy κ=>iF (gx κ) (gy κ))
  (fun id _ g κ=>g ⟨κ.norm,fun i st=>Bool.rec (motive:=fun _=>T) (κ.exit i st) (κ.norm st) (Nat.beq id i),κ.ret⟩)
  (fun p c g κ=>⟨p,fun vals=>znb C la fn n c ⟨zqv p,κ.exit,κ.ret⟩ (stAt k p vals)⟩::g ⟨zqv p,κ.exit,κ.ret⟩)
  (fun _ _=>[])
  (fun _=>[])
  (fun p c g κ=>⟨p,fun vals=>znb C la fn n c κ (stAt k p vals)⟩::g κ) c
def resT (C:iA)(st:TSt)(l:List ResultVar):(List zA->T)->T:=
 List.rec (motive:=fun _=>(List zA->T)->T) (fun K=>K [])
  (fun r _ g K=>match r with
   | .tmp t=>sC (st.tm.get t) fun v=>g fun l=>K (v::l)
   | .cell a t=>match wI a st.ad with
    | some p=>sC (st.lo.get p.1) fun l=>sC (C.tys.get t) fun ty=>gdT (Nat.ble (p.2+ty.size) (wB l)) (sC (bN C t l p.2) fun v=>g fun l=>K (v::l))
    | none=>sC (st.tm.get a) fun a=>.light (fun m=>jA C t ⟨0,m⟩ a) fun v=>g fun l=>K (v::l)) l
def endT (C:iA)(fn:Func):KT:=fun st=>resT C st fn.results.toList fun l=>.ret (oT l)
def topT (C:iA)(fn:Func):KtT:=⟨endT C fn,fun _ _=>.fail,endT C fn⟩
structure qB where
 code:jF
 la:List Nat
def entT (C:iA)(fn:Func)(k:Nat)(f:Nat)(A:qB)(args:List zA):T:=znb C A.la f fn.ntmps A.code (topT C fn) ⟨⟨k,Tr.ofList args,[]⟩,[],.leaf,[]⟩
def ptsT (C:iA)(fn:Func)(k:Nat)(f:Nat)(A:qB):List PtT:=xS C A.la f fn.ntmps k A.code (topT C fn)
def zqh(l:List PtT)(i:Nat)(vals:List zA):List T:=List.rec (motive:=fun _=>List T) [] (fun p _ g=>bif Nat.beq p.p.id i then p.tree vals::g else g) l
end Go.Am
