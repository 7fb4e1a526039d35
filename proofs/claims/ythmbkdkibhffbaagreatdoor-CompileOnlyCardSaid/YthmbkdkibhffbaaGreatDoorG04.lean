/- The simulation: ranges over functions, all code. -/
import Derived.Test.YthmbkdkibhffbaaGreatDoorG03
set_option linter.all false
noncomputable section
namespace Go.Am
open Go Go.RowKit
section
variable {P:Program}{C:iA}{B N:Nat}{I:World->Prop}{μ ν:Mu}{H H':qA}{w:World}{tm:Tm}{R:jI}{acs:List xC}{base cs:List Frame}
variable {b:Frame}{tmps:Array Value}{ds:List Deferred}{k:List fD}{k':List Item}{all:Array Oper}
theorem z1x(hH:oB B N μ H w)(hcs:tG C μ acs cs)(hR:bG μ R (b.atR ⟨tmps,ds⟩ []))(ht:sE μ R.n tm tmps)(hk:zD (pG μ) k k') :
  qD P C B N μ base (lone (b.atR ⟨tmps,ds⟩ (.beginRound::k')) (cs++base) w) w (zr6 C k tm R acs H):=by
 unfold zr6
 cases hr:R.roundOf with
 | none=>exact trivial
 | some l=>
  obtain⟨i,hi,hb⟩:∃i,μ l=some i/\b.roundOf=some i.b:=by
   have:=hR.round
   rw[hr]at this;exact zap this
  rw[sA]
  cases hx:tO H l with
  | none=>exact trivial
  | some r=>
   rw[sA]
   cases hst:Nat.beq (LoopState.tag r.state) 0 with
   | false=>exact trivial
   | true=>
    obtain⟨hl,r',hg,hw,rel⟩:=dW hH hx hi
    have ready:r'.state=.ready:=by
     rw[rel.state]
     cases hs:r.state<;>rw[hs]at hst<;>first | rfl | simp[LoopState.tag,Nat.beq]at hst
    have run:(Instr.beginRound i.b).run P w=.ok () (World.setBlk w i.b (.loop { r' with state:=.busy })):=by
     simp only[Instr.beginRound,Sem.run_bind,nW hw,Result.andThen_ok,sV hw rZ,ready,Sem.run_pure]
    refine⟨μ,_,cs,_,.one (stepR_beginRound hb run),fun _ _ h=>h,zT (hH.own l i hl hi).1,?_,⟨?_,?_⟩,hcs⟩
    ·refine hH.upd hg hi hl ?_
     rw[iH];exact⟨_,rfl,rfl,rel.pending,rel.fn,rel.tm,rel.params,rel.assign,rel.body,rel.defers⟩
    ·refine⟨hR.fn,hR.size,hR.defers,hR.mode,hR.kind,?_⟩
     exact hR.round
    ·show if R.mode.running=true then rK C μ acs.length R.n _ k tm k' tmps else sE μ R.n tm tmps
     rw[if_pos hR.running];exact .plain hk ht
theorem zej{l:Nat}{jump:Option Code}{w':World}{cs:List Frame}(hr:(Instr.endLoop l).run P w=.ok jump w') :
  step P (lone (b.atR ⟨tmps,ds⟩ (.endRangeFunc l::k')) cs w)=.next (lone (b.atR ⟨tmps,ds⟩ ((jump.map Item.code).toList++k')) cs w'):=
 step_lone_go (by simp[stepG,stepG.exec,Frame.atR,Sem.runT_eq,hr])
theorem zmn(hH:oB B N μ H w)(hcs:tG C μ acs cs)(hR:bG μ R (b.atR ⟨tmps,ds⟩ []))(ht:sE μ R.n tm tmps)(hk:zD (pG μ) k k'){l:Nat}{i:BI}(hi:μ l=some i) :
  qD P C B N μ base (lone (b.atR ⟨tmps,ds⟩ (.endRangeFunc i.b::k')) (cs++base) w) w (zb9 l C k tm R acs H):=by
 unfold zb9
 cases hx:tO H l with
 | none=>exact trivial
 | some r=>
  rw[sA]
  cases hst:Nat.beq (LoopState.tag r.state) 1 with
  | true=>exact trivial
  | false=>
   obtain⟨hl,r',hg,hw,rel⟩:=dW hH hx hi
   have busy:r'.state≠.busy:=by
    intro e;rw[rel.state]at e;rw[e]at hst
    cases hst
   have run:(Instr.endLoop i.b).run P w=.ok r'.pending (World.setBlk w i.b (.loop { r' with state:=.exhausted })):=by
    simp[Instr.endLoop,Sem.run_bind,nW hw,Result.andThen_ok,sV hw rZ,busy]
   refine⟨μ,_,cs,_,.one (zej run),fun _ _ h=>h,zT (hH.own l i hl hi).1,?_,⟨?_,?_⟩,hcs⟩
   ·refine hH.upd hg hi hl ?_
    rw[iH];exact⟨_,rfl,rfl,rel.pending,rel.fn,rel.tm,rel.params,rel.assign,rel.body,rel.defers⟩
   ·exact⟨hR.fn,hR.size,hR.defers,hR.mode,hR.kind,hR.round⟩
   ·show if R.mode.running=true then rK C μ acs.length R.n _ (match r.pending with | some c=>.code c::k | none=>k) tm ((r'.pending.map Item.code).toList++k') tmps else sE μ R.n tm tmps
    rw[if_pos hR.running,rel.pending]
    cases r.pending with
    | none=>exact .plain hk ht
    | some c=>exact .plain (.cons (.code c) hk) ht
theorem zck{f:Operand}{params:Array Nat}{assign body:Code}{l:Nat}{mark:List Deferred}{w1:World}{g:Nat}{args':Array Value}{cs:List Frame}
  (hE:(Instr.enterLoop b.fn tmps params assign body b.roundOf).run P w=.ok (l,mark) w1)
  (hA:(do let d <- resolve (Act.eval ⟨tmps,ds⟩) { callee:=.value f,args := #[.const (.func (.yield l) #[] #[])],argTypes := #[] } 0;invoke d.target d.args:Sem Next).run P w1=.ok (.enter g args') w1) :
  step P (lone (b.atR ⟨tmps,ds⟩ (.code (.rangeFunc f params assign body)::k')) cs w)=.next (lone (Frame.enter P g args' .normal) (b.atR ⟨tmps,mark++ds⟩ (.inRangeFunc l::k')::cs) w1):=by
 refine step_lone_go ?_
 have he:(Frame.eval { b.atR ⟨tmps,ds⟩ (.code (.rangeFunc f params assign body)::k')with todo:=.inRangeFunc l::k',defers:=mark++ds })=Act.eval ⟨tmps,ds⟩:=funext fun x=>by cases x<;>rfl
 simp only[Frame.atR]at he;simp only[stepG,stepG.exec,Frame.atR,Sem.runT_eq,hE,GStep.bare_after,stepG.apply,he,hA,if_true];rfl
theorem zqk{l:Nat}{v:zA}{h:xC}(e:wU C l v=some h):∃g first cap,v=.func (.func g) first cap/\C.prims.get g=none/\vJ C g (cF first (.func (.yld l) [] []::cap)) false=some h:=by
 unfold wU at e;rw[lA]at e;obtain⟨p,h1,h2⟩:=e
 obtain⟨fn,first,cap⟩:=p
 rw[zea]at h1
 cases fn with
 | yld m=>cases h2
 | func g=>
  cases hp:C.prims.get g with
  | some x=>simp only[hp]at h2;cases h2
  | none=>simp only[hp]at h2;exact⟨g,first,cap,h1,hp,h2⟩
theorem zfh{dp:Nat}(hS:Sim P C B N I){l:Nat}{i:BI}{v:zA}{h:xC}(e:wU C l v=some h)(hi:μ l=some i){f:Operand}(hv:rA μ v (Act.eval ⟨tmps,ds⟩ f)){cur:Option qA} :
  ∃g args',(∀w,(do let d <- resolve (Act.eval ⟨tmps,ds⟩) { callee:=.value f,args := #[.const (.func (.yield i.b) #[] #[])],argTypes := #[] } 0;invoke d.target d.args:Sem Next).run P w=.ok (.enter g args') w) ∧
   qI C μ dp cur h (Frame.enter P g args' .normal):=by
 obtain⟨g,first,cap,rfl,hp,he⟩:=zqk e
 rw[rA]at hv;obtain⟨fn,a',c',hv,hf,h1,h2⟩:=hv
 cases hf;have hl:qB μ (cF first (.func (.yld l) [] []::cap)) (a' ++ #[Value.func (.yield i.b) #[] #[]]++c').toList:=by
  rw[eH];have:qB μ (zA.func (.yld l) [] []::cap) (Value.func (.yield i.b) #[] #[]::c'.toList):=.cons (by rw[rA];exact⟨_,_,_,rfl,⟨i,hi,rfl⟩,.nil,.nil⟩) h2
  simpa using h1.append this
 obtain⟨fr,fn,hfn,hb⟩:=eV (cur:=cur) hS.fns he hl
 refine⟨g,_,fun w=>?_,fr⟩
 simp only[Sem.run_bind,resolve,hv,Deferred.ofValue,Sem.run_pure,Result.andThen_ok,invoke];have:Array.map (Act.eval ⟨tmps,ds⟩) #[Operand.const (Value.func (.yield i.b) #[] #[])] = #[Value.func (.yield i.b) #[] #[]]:=by simp[Act.eval]
 rw[this];exact wY hS.fns hfn hb
theorem zz1(hS:Sim P C B N I)(hH:oB B N μ H w)(hcs:tG C μ acs cs)(hR:bG μ R (b.atR ⟨tmps,ds⟩ []))(ht:sE μ R.n tm tmps)(hk:zD (pG μ) k k'){f:Operand}{params:Array Nat}{assign body:Code} :
  qD P C B N μ base (lone (b.atR ⟨tmps,ds⟩ (.code (.rangeFunc f params assign body)::k')) (cs++base) w) w (zr2 f params assign body C k tm R acs H):=by
 unfold zr2
 cases hv:ev f (.now tm)with
 | none=>exact trivial
 | some v=>
  have hvr:=ht.erel (ds:=ds) hH.glob f _ hv
  rw[sA]
  cases hr:R.roundOf with
  | none=>
   have hb:b.roundOf=none:=by
    have:=hR.round
    rw[hr]at this;exact zfc this
   simp only[]
   cases hx:wU C (H.next+1) v with
   | none=>exact trivial
   | some h=>
    have h1:=hH.newBlk (x:=.deferred (some [])) (o:=.deferred (some [])) (i:=⟨w.heap.size,true,0,0,false⟩) rfl rfl (by rw[iH];exact⟨_,rfl,.nil⟩)
    have le1:μ.le (μ.ext H.next ⟨w.heap.size,true,0,0,false⟩):=hH.ext_le
    have le2:(μ.ext H.next ⟨w.heap.size,true,0,0,false⟩).le ((μ.ext H.next ⟨w.heap.size,true,0,0,false⟩).ext (newBlk H (.deferred (some []))).next ⟨w.heap.size+1,true,0,0,false⟩):=h1.ext_le
    have sz:(w.alloc (.deferred (some []))).heap.size=w.heap.size+1:=Array.size_push ..
    have h2:=h1.newBlk (x:=.loop ⟨.ready,none,R.fn,R.n,tm,params.toList,assign,body,H.next⟩) (o:=.loop { state:=.ready,pending:=none,fn:=b.fn,tmps,params,assign,body,defers:=w.heap.size })
     (i:=⟨w.heap.size+1,true,0,0,false⟩) sz.symm rfl (by
      rw[iH];exact⟨_,rfl,rfl,rfl,hR.fn,(ht.mono le1.f).mono le2.f,rfl,rfl,rfl,⟨_,le2 _ _ Mu.ext_same,rfl⟩⟩)
    have le:=Mu.le_trans le1 le2
    have hi2:((μ.ext H.next ⟨w.heap.size,true,0,0,false⟩).ext (newBlk H (.deferred (some []))).next ⟨w.heap.size+1,true,0,0,false⟩) (H.next+1)=some ⟨w.heap.size+1,true,0,0,false⟩:=Mu.ext_same
    obtain⟨g,args',hA,hfr⟩:=zfh (ds:=ds) hS hx hi2 (hvr.mono le.f _ _) (cur:=some (newBlk (newBlk H (.deferred (some []))) (.loop ⟨.ready,none,R.fn,R.n,tm,params.toList,assign,body,H.next⟩)))
    have run:(Instr.enterLoop b.fn tmps params assign body b.roundOf).run P w=.ok (w.heap.size+1,[{ target:=.collected w.heap.size,args := #[] }]) ((w.alloc (.deferred (some []))).alloc (.loop { state:=.ready,pending:=none,fn:=b.fn,tmps,params,assign,body,defers:=w.heap.size })):=by
     rw[hb];simp[Instr.enterLoop,Sem.run_bind,Result.andThen_ok]
    refine⟨_,_,b.atR ⟨tmps,{ target:=.collected w.heap.size,args := #[] }::ds⟩ (.inRangeFunc (w.heap.size+1)::k')::cs,_,.one (zck run (hA _)),le,?_,h2,hfr,.cons ⟨?_,?_⟩ (hcs.mono le)⟩
    ·refine(dM hH.size _).trans (dM ?_ _)
     rw[sz];have:=hH.size;omega
    ·have:=hR.mono le.f
     exact⟨this.fn,this.size,.cons ⟨⟨_,le2 _ _ Mu.ext_same,rfl⟩⟩ this.defers,this.mode,this.kind,by have:=this.round;rw[hr]at this;exact this⟩
    ·show if R.mode.running=true then rK C _ acs.length R.n none (.inRange (H.next+1)::k) tm (.inRangeFunc (w.heap.size+1)::k') tmps else _
     rw[if_pos hR.running];exact .plain (.cons (.inRange _ ⟨w.heap.size+1,true,0,0,false⟩ hi2) (hk.mono fun _ _ r=>r.mono le.f)) (ht.mono le.f)
  | some outer=>
   obtain⟨io,hio,hb⟩:∃i,μ outer=some i/\b.roundOf=some i.b:=by
    have:=hR.round
    rw[hr]at this;exact zap this
   simp only[]
   cases hlo:tO H outer with
   | none=>exact trivial
   | some o=>
    rw[sA]
    cases hx:wU C H.next v with
    | none=>exact trivial
    | some h=>
     obtain⟨hl,r',hg,hw,rel⟩:=dW hH hlo hio
     obtain⟨idf,hdf,hdf'⟩:=rel.defers
     have le:μ.le (μ.ext H.next ⟨w.heap.size,true,0,0,false⟩):=hH.ext_le
     have h2:=hH.newBlk (x:=.loop ⟨.ready,none,R.fn,R.n,tm,params.toList,assign,body,o.defers⟩) (o:=.loop { state:=.ready,pending:=none,fn:=b.fn,tmps,params,assign,body,defers:=r'.defers })
      (i:=⟨w.heap.size,true,0,0,false⟩) rfl rfl (by
       rw[iH];exact⟨_,rfl,rfl,rfl,hR.fn,ht.mono le,rfl,rfl,rfl,⟨idf,le _ _ hdf,hdf'⟩⟩)
     have hi2:(μ.ext H.next ⟨w.heap.size,true,0,0,false⟩) H.next=some ⟨w.heap.size,true,0,0,false⟩:=Mu.ext_same
     obtain⟨g,args',hA,hfr⟩:=zfh (ds:=ds) hS hx hi2 (hvr.mono le.f _ _) (cur:=some (newBlk H (.loop ⟨.ready,none,R.fn,R.n,tm,params.toList,assign,body,o.defers⟩)))
     have run:(Instr.enterLoop b.fn tmps params assign body b.roundOf).run P w=.ok (w.heap.size,[]) (w.alloc (.loop { state:=.ready,pending:=none,fn:=b.fn,tmps,params,assign,body,defers:=r'.defers })):=by
      rw[hb];simp[Instr.enterLoop,Sem.run_bind,nW hw,Result.andThen_ok]
     refine⟨_,_,b.atR ⟨tmps,ds⟩ (.inRangeFunc w.heap.size::k')::cs,_,.one (zck run (hA _)),le,dM hH.size _,h2,hfr,.cons ⟨?_,?_⟩ (hcs.mono le)⟩
     ·have:=hR.mono le.f
      exact⟨this.fn,this.size,this.defers,this.mode,this.kind,this.round⟩
     ·show if R.mode.running=true then rK C _ acs.length R.n none (.inRange H.next::k) tm (.inRangeFunc w.heap.size::k') tmps else _
      rw[if_pos hR.running];exact .plain (.cons (.inRange _ ⟨w.heap.size,true,0,0,false⟩ hi2) (hk.mono fun _ _ r=>r.mono le.f)) (ht.mono le.f)
theorem zlb{c:Code}:step P (lone (b.atR ⟨tmps,ds⟩ (.code (.scope c)::k')) cs w)=.next (lone (b.atR ⟨tmps,ds⟩ (.code c::.inScope c::k')) cs w):=
 step_lone_go (by simp[stepG,stepG.exec,Frame.atR])
theorem zgo{c:Code}:step P (lone (b.atR ⟨tmps,ds⟩ (.inScope c::k')) cs w)=.next (lone (b.atR ⟨tmps,ds⟩ k') cs w):=
 step_lone_go (by simp[stepG,stepG.exec,Frame.atR])
theorem z69(hS:Sim P C B N I)(hI:I w)(hH:oB B N μ H w)(hcs:tG C μ acs cs)(hR:bG μ R (b.atR ⟨tmps,ds⟩ []))(ht:sE μ R.n tm tmps):∀(c:Code) {k:List fD} {k':List Item},zD (pG μ) k k' →
  qD P C B N μ base (lone (b.atR ⟨tmps,ds⟩ (.code c::k')) (cs++base) w) w ((z4f c).f C k tm R acs H):=by
 intro c;induction c with
 | skip=>intro k k' hk;exact zg0 hH hcs hR ht hk stepR_skip
 | region id ops d=>
  intro k k' hk
  cases d with
  | true=>exact z65 hS hH hcs hR ht hk
  | false=>
   refine qD.of_steps (.one stepR_region) (fun _ _ h=>h) (Below.refl N w) ?_
   have:=ziz (base:=base) (all:=ops) hS ops.toList 0 tm.cut H w μ tmps (by simp) (Nat.zero_le _) hI hH hcs hR ht.cut hk
   rw[ybs]at this;exact this
 | seq x y ihx _=>
  intro k k' hk;exact qD.of_steps (.one stepR_seq) (fun _ _ h=>h) (Below.refl N w) (ihx (.cons (.code y) hk))
 | cond c x y _ _=>intro k k' hk;exact z67 hH hcs hR ht hk
 | block id c _=>intro k k' hk;exact z1w hH hcs hR ht hk
 | loop c _=>intro k k' hk;exact z5y hH hcs hR ht hk
 | rangeFunc f ps a c _ _=>intro k k' hk;exact zz1 hS hH hcs hR ht hk
 | exit id=>intro k k' hk;exact z60 hH hcs hR ht hk
 | scope c _=>intro k k' hk;exact pR hH hcs hR ht (.cons (.code _) (.cons (.inScope _) hk)) (.one zlb)
 | label l=>intro k k' hk;exact zg0 hH hcs hR ht hk stepR_label
 | goto l=>intro k k' _;exact trivial
 | ret=>intro k k' _;exact ret_ok hH hcs hR ht
 | refuse s=>intro k k' _;exact trivial
theorem z61(hS:Sim P C B N I)(hI:I w)(hH:oB B N μ H w)(hcs:tG C μ acs cs)(hR:bG μ R (b.atR ⟨tmps,ds⟩ [])){todo:List fD}{btodo:List Item}(hb:rK C μ acs.length R.n (some H) todo tm btodo tmps) :
  qD P C B N μ base (lone (b.atR ⟨tmps,ds⟩ btodo) (cs++base) w) w (zho C todo tm R acs H):=by
 generalize hc:some H=cur at hb
 cases hb with
 | plain a t=>
  cases a with
  | nil=>exact end_ok hH hcs hR t
  | cons i hk=>
   cases i with
   | code c=>exact z69 hS hI hH hcs hR t c hk
   | inBlock id=>exact zg0 hH hcs hR t hk stepR_inBlock
   | inLoop c=>exact pR hH hcs hR t (.cons (.code _) (.cons (.inLoop _) hk)) (.one stepR_inLoop)
   | inScope c=>exact zg0 hH hcs hR t hk zgo
   | ops all i hi=>exact ziz hS _ i _ _ _ _ _ rfl hi hI hH hcs hR t hk
   | inRange l i hl=>exact trivial
   | endRange l i hl=>exact zmn hH hcs hR t hk hl
   | beginRound=>exact z1x hH hcs hR t hk
 | @reg _ all old _ olds stages _ order _ _ anc D S hr hst hp hk=>
  cases hc;show qD P C B N μ base _ w (zr1 all old olds stages C _ tm R acs H)
  unfold zr1
  cases stages with
  | nil=>exact zun hS hH hcs hR hk hr hst hp
  | cons st stages=>
   by_cases hlt:st.heavy<=all.size
   ·obtain⟨_,_,D1,D2,h1,_⟩:=oY hst hlt
    obtain⟨o,ho,_⟩:=iW h1
    have:oD all.toList st.heavy=some o:=by rw[vE];simpa using ho
    simp only[this];exact z03 hS hI hH hcs hR hk hr hst hp ho
   ·have:oD all.toList st.heavy=none:=by rw[vE];simp;omega
    simp only[this];rw[iC,if_pos (lC.2 (by rw[bD];simp;omega))]
    have e0:Nat.sub st.heavy (Nat.succ (wB all.toList))=st.heavy-(all.size+1):=by rw[bD];simp
    rw[e0];exact zq6 hS hH hcs hR hk hr hst hp (by omega)
 | @mid _ all old _ olds lights again stages _ order _ _ anc D D2 S hr h1 h2 hw hk=>
  show qD P C B N μ base _ w (zr1 all old olds (⟨all.size,lights,again⟩::stages) C _ tm R acs H)
  unfold zr1;have:oD all.toList all.size=none:=by rw[vE];simp
  simp only[this];rw[iC,if_neg fun e=>by have:=lC.1 e;rw[bD]at this;simp at this]
  exact zvy hH hcs hR hk (st:=⟨all.size,lights,again⟩) hr h1 h2 hw
 | wait _ _ _ _ _=>cases hc
end
end Go.Am
namespace Go.Am
open Go Go.RowKit
section
variable {P:Program}{C:iA}{B N:Nat}{I:World->Prop}{μ ν:Mu}{H H':qA}{w:World}{tm:Tm}{R:jI}{acs:List xC}{base cs:List Frame}
variable {b:Frame}{tmps:Array Value}
theorem zcj{block:Nat}{es calls:List Deferred}{w':World}(hm:b.mode≠.run)(hd:b.defers={ target:=.collected block,args := #[] }::es)(hr:(Instr.takeDeferred block).run P w=.ok calls w') :
  step P (lone b cs w)=.next (lone { b with defers:=calls++es } cs w'):=by
 obtain⟨fn,tmps,todo,defers,mode,kind,round⟩:=b
 simp only at hm hd
 subst hd;refine step_lone_go ?_
 cases mode with
 | run=>exact absurd rfl hm
 | returning=>simp[stepG,unwind,Sem.runT_eq,hr]
 | panicking c=>simp[stepG,unwind,Sem.runT_eq,hr]
theorem zqa{f:Nat}{cap as:Array Value}{es:List Deferred}(hm:b.mode≠.run)(hd:b.defers={ target:=.fn (.func f) cap,args:=as }::es)(hr:(callFunc f (as++cap)).run P w=.ok (.enter f (as++cap)) w) :
  step P (lone b cs w)=.next (lone (Frame.enter P f (as++cap) .deferred) ({ b with defers:=es }::cs) w):=by
 obtain⟨fn,tmps,todo,defers,mode,kind,round⟩:=b
 simp only at hm hd
 subst hd;refine step_lone_go ?_
 cases mode with
 | run=>exact absurd rfl hm
 | returning=>simp[stepG,unwind,callDeferred,invoke,Sem.runT_eq,hr]
 | panicking c=>simp[stepG,unwind,callDeferred,invoke,Sem.runT_eq,hr]
def dR(c:Frame):Frame:=
 match c.mode with
 | .panicking ({ recovered:=true,.. }::older)=>
  match older.dropWhile (!·.goexit)with
  | []=>{ c with mode:=.returning }
  | rest=>{ c with mode:=.panicking rest }
 | _=>c
theorem zei{fn:Func}{v:Value}{c:Frame}(hm:b.mode=.returning)(hd:b.defers=[])(hk:b.kind=.deferred)(hf:P.funcs[b.fn]?=some fn)(hr:(results fn b.tmps).run P w=.ok v w) :
  step P (lone b (c::cs) w)=.next (lone (dR c) cs w):=by
 refine step_lone_go ?_
 simp only[stepG,unwind,doReturn,hm,hd,hk,hf,Sem.runT_eq,hr,GStep.bare_after];rfl
def zn9(tmps:Array Value)(r:ResultVar):Sem Value:=
 match r with
 | .tmp t=>pure (tmps.getD t undef)
 | .cell a t=>do loadVar t (<- asAddr (tmps.getD a undef))
theorem zqh(fn:Func)(tmps:Array Value):results fn tmps=(do let vs <- fn.results.mapM (zn9 tmps);pure (if h:vs.size=1 then vs[0]else .tuple vs)):=rfl
theorem zbm(hT:vG P C)(hH:oB B N μ H w){n:Nat}(ht:sE μ n tm tmps):∀(rs:List ResultVar) (l:List zA),oI (pS C H tm) rs=some l →
  ∃vs,(rs.mapM (zn9 tmps)).run P w=.ok vs w/\qB μ l vs:=by
 intro rs;induction rs with
 | nil=>intro l h;rw[cW]at h;cases h;exact⟨[],by simp[Sem.run_pure],.nil⟩
 | cons r rs ih=>
  intro l h;rw[wP,lA]at h;obtain⟨a,ha,h⟩:=h
  rw[lA]at h;obtain⟨m,hm,h⟩:=h
  cases h;obtain⟨vs,h1,h2⟩:=ih m hm
  rw[List.mapM_cons]
  cases r with
  | tmp t=>
   refine⟨_,?_,.cons (ht.2 t a ha) h2⟩
   simp only[zn9,Sem.run_bind,Sem.run_pure,Result.andThen_ok,h1]
  | cell x t=>
   simp only[pS,lA,yW]at ha;obtain⟨p,⟨av,hav,rfl⟩,ty,hty,c,hc,hl⟩:=ha
   have hv:=ht.2 x _ hav
   rw[rA]at hv;obtain⟨i,hi,hv⟩:=hv
   obtain⟨v',h3,h4⟩:=zor (P:=P) hH (hT.facts hty) hc hi hl
   refine⟨_,?_,.cons h4 h2⟩
   have ha:(asAddr (Value.pointer (some ⟨i.b,p.2,none⟩))).run P w=.ok ⟨i.b,p.2,none⟩ w:=rfl
   have one:(zn9 tmps (.cell x t)).run P w=.ok v' w:=by
    show((asAddr (tmps.getD x undef)).bind fun a=>loadVar t a).run P w=_
    rw[hv];exact h3
   simp only[Sem.run_bind,Sem.run_pure,Result.andThen_ok,one,h1]
theorem zfd(hT:vG P C)(hH:oB B N μ H w){n:Nat}(ht:sE μ n tm tmps){fn:Func}{l:List zA}(h:xU C H tm fn.results.toList=some l) :
  ∃v,(results fn tmps).run P w=.ok v w/\rA μ (gT l) v:=by
 obtain⟨vs,h1,h2⟩:=zbm hT hH ht _ _ h
 refine⟨if h:vs.toArray.size=1 then vs.toArray[0]else .tuple vs.toArray,?_,?_⟩
 ·rw[zqh,Array.mapM_eq_mapM_toList]
  simp only[Sem.run_bind,map_eq_pure_bind,h1,Result.andThen_ok,Sem.run_pure]
 ·have hl:=h2.length
  cases l with
  | nil=>
   rw[qB]at h2;subst h2;rw[dif_neg (by simp)]
   show rA μ (.tup []) _
   rw[rA];exact⟨_,rfl,.nil⟩
  | cons a m=>
   cases m with
   | nil=>
    rw[qB]at h2;obtain⟨v,r,rfl,hv,hr⟩:=h2
    rw[qB]at hr;subst hr;rw[dif_pos (by simp)]
    exact hv
   | cons a2 m=>
    rw[dif_neg (by simp[hl])]
    show rA μ (.tup (a::a2::m)) _
    rw[rA];exact⟨_,rfl,by simpa using h2⟩
def DefRel(μ:Mu):Option (List znd)->Option (List Deferred)->Prop
 | none,none=>True
 | some a,some b=>zD (wS μ) a b
 | _,_=>False
theorem zms(hH:oB B N μ H w){l:Nat}{x:Option (List znd)}(h:zb5 H l=some x){i:BI}(h4:μ l=some i):B<=l/\∃x',H.t.get l=some (.deferred x)/\w.heap[i.b]?=some (.deferred x')/\DefRel μ x x':=by
 unfold zb5 at h;rw[lB,cE,lA]at h;obtain⟨h1,y,h2,h3⟩:=h
 have:y=.deferred x:=by cases y<;>simp[jA.asDeferred]at h3;rw[h3]
 subst this;obtain⟨o,h5,h6⟩:=hH.blk l _ i h2 h4
 rw[iH]at h6;obtain⟨r',rfl,h7⟩:=h6
 refine⟨Nat.le_of_not_lt fun hlt=>?_,r',h2,h5,?_⟩
 ·have:=(hH.low l _ i hlt h2 h4).2.2
  cases this
 cases x<;>cases r'<;>exact h7
theorem zqs{μ:Mu}{m:zes}{m':FrameMode}(h:zed μ m m')(hm:m.running=false):m'≠.run:=by
 rintro rfl
 cases m<;>first | exact h.elim | cases hm
theorem zsn(hS:Sim P C B N I)(hH:oB B N μ H w)(hcs:tG C μ acs cs){fr:xC}(hr:bG μ fr.R b)(hm:fr.R.mode.running=false)(ht:sE μ fr.R.n fr.tm b.tmps){d:znd}{l:List znd}(hd:fr.R.defers=d::l) :
  qD P C B N μ base (lone b (cs++base) w) w (zso C d l fr acs H):=by
 have hrun:=zqs hr.mode hm
 have hds:=hr.defers
 rw[hd]at hds;generalize hbd:b.defers=bd at hds
 cases hds with
 | @cons _ e _ es h1 h2=>
  obtain⟨dfn,dr,dargs⟩:=d
  have h1:=h1.rel
  unfold zso
  cases dfn with
  | none=>
   obtain⟨i,hi,rfl⟩:=h1
   simp only[]
   cases hx:zb5 H dr with
   | none=>exact trivial
   | some x=>
    rw[sA]
    cases x with
    | none=>exact trivial
    | some calls=>
     obtain⟨hl,x',hg,hw,rel⟩:=zms hH hx hi
     cases x' with
     | none=>exact rel.elim
     | some calls'=>
      have run:(Instr.takeDeferred i.b).run P w=.ok calls' (World.setBlk w i.b (.deferred none)):=by
       have:(setObj i.b (.deferred none)).run P w=.ok () (World.setBlk w i.b (.deferred none)):=sV hw (by intro a b c h;cases h)
       have hg:(getObj i.b).run P w=.ok (.deferred (some calls')) w:=by simp[getObj,Sem.run,hw]
       simp only[Instr.takeDeferred,Sem.run_bind,hg,Result.andThen_ok,this,Sem.run_pure]
      refine⟨μ,_,cs,_,.one (zcj hrun hbd run),fun _ _ h=>h,zT (hH.own dr i hl hi).1,?_,⟨?_,?_⟩,hcs⟩
      ·refine hH.upd hg hi hl ?_
       rw[iH];exact⟨none,rfl,trivial⟩
      ·refine⟨hr.fn,hr.size,?_,hr.mode,hr.kind,hr.round⟩
       show zD (wS μ) (cF calls l) (calls'++es)
       rw[eH];exact zD.append rel h2
      ·show if fr.R.mode.running=true then rK C _ _ _ _ _ _ _ _ else _
       rw[if_neg (by rw[hm];simp)]
       exact ht
  | some fn=>
   cases fn with
   | yld m=>exact trivial
   | func f=>
    obtain⟨fn,cap,as,rfl,hfn,hl⟩:=h1
    cases hfn;simp only[]
    cases hp:C.prims.get f with
    | some x=>exact trivial
    | none=>
     simp only[]
     cases he:vJ C f dargs true with
     | none=>exact trivial
     | some g=>
      obtain⟨h3,fn,hfn,hb⟩:=eV (cur:=some H) hS.fns he hl
      refine⟨μ,_,{ b with defers:=es }::cs,w,.one (zqa hrun hbd (wY hS.fns hfn hb)),fun _ _ h=>h,Below.refl N w,hH,h3,.cons ⟨⟨hr.fn,hr.size,h2,hr.mode,hr.kind,hr.round⟩,?_⟩ hcs⟩
      show if fr.R.mode.running=true then rK C _ _ _ _ _ _ _ _ else _
      rw[if_neg (by rw[hm];simp)]
      exact ht
theorem qI.still{dp:Nat}{cur cur':Option qA}{fr:xC}(h:qI C μ dp cur fr b)(hm:fr.R.mode.running=false):qI C μ dp cur' fr b:=by
 refine⟨h.rest,?_⟩
 have:=h.body
 rw[if_neg (by rw[hm];simp)]at this ⊢
 exact this
theorem zhs{l:List PanicEntry}{m:List kT}(h:zD (lT μ) m l):l.dropWhile (!·.goexit)=[]:=by
 induction h with
 | nil=>rfl
 | cons a _ ih=>simp[a.goexit,ih]
def z1y(c:xC)(rest:List xC)(H:qA):Option jO:=
 match c.R.mode with
 | .panicking (⟨_,true⟩::_)=>some (⟨zcx c .returning,rest,H⟩:jO)
 | _=>sB (!c.R.mode.running) (some ⟨c,rest,H⟩)
def zog(C:iA)(fr:xC)(ch:List kT)(cs:List xC)(H:qA):fC:=
 mK (ob (C.fns.get fr.R.fn) fun _=>match cs with | c::rest=>some ⟨zoh c ch,rest,H⟩ | []=>none) 19
theorem z7i{dp:Nat}{c:xC}{c':Frame}(hc:qI C μ dp none c c'){x:jO}{rest:List xC}(h:z1y c rest H=some x):x.cs=rest/\x.H=H/\qI C μ dp (some H) x.fr (dR c'):=by
 have hm:=hc.rest.mode
 have stay:c'.mode=c'.mode->(dR c'=c')->c.R.mode.running=false->x=⟨c,rest,H⟩->x.cs=rest/\x.H=H/\qI C μ dp (some H) x.fr (dR c'):=by
  intro _ h1 h2 h3;subst h3;rw[h1];exact⟨rfl,rfl,hc.still h2⟩
 obtain⟨ct,ctm,cR⟩:=c
 obtain⟨f,n,de,mode,dd,ro⟩:=cR
 unfold z1y at h;simp only at h hm
 cases mode with
 | run=>cases h
 | returning=>
  cases hcm:c'.mode with
  | returning=>exact stay rfl (by unfold dR;rw[hcm]) rfl (ybj h).symm
  | _=>rw[hcm]at hm;exact hm.elim
 | panicking ch=>
  cases hcm:c'.mode with
  | run=>rw[hcm]at hm;exact hm.elim
  | returning=>rw[hcm]at hm;exact hm.elim
  | panicking ch'=>
   rw[hcm]at hm
   cases hm with
   | nil=>exact stay rfl (by unfold dR;rw[hcm]) rfl (ybj h).symm
   | @cons p e older older' hp hold=>
    obtain⟨pv,pr⟩:=p
    obtain⟨ev',er,eg⟩:=e
    obtain⟨q1,q2,q3⟩:=hp
    simp only at q1 q2 q3
    subst q2 q3
    cases er with
    | false=>exact stay rfl (by unfold dR;rw[hcm]) rfl (ybj h).symm
    | true=>
     cases ybj h
     refine⟨rfl,rfl,?_⟩
     have:dR c'={ c' with mode:=.returning }:=by
      unfold dR;rw[hcm];simp only[zhs hold]
     rw[this];have hb:=hc.body
     exact⟨⟨hc.rest.fn,hc.rest.size,hc.rest.defers,trivial,hc.rest.kind,hc.rest.round⟩,hb⟩
theorem zp1(hS:Sim P C B N I)(hH:oB B N μ H w)(hcs:tG C μ acs cs){fr:xC}(hr:bG μ fr.R b)(hm:b.mode=.returning)(hd:b.defers=[])(ht:sE μ fr.R.n fr.tm b.tmps) :
  qD P C B N μ base (lone b (cs++base) w) w (zcf C fr acs H):=by
 unfold zcf
 cases hx:ob (C.fns.get fr.R.fn) fun fn=>xU C H fr.tm fn.results.toList with
 | none=>exact trivial
 | some l=>
  rw[lA]at hx;obtain⟨fn,hfn,hres⟩:=hx
  obtain⟨v,h1,h2⟩:=zfd hS.tys hH ht hres
  have hf:P.funcs[b.fn]?=some fn:=by rw[hr.fn];exact(hS.fns _ _ hfn).1
  have hk:=hr.kind
  simp only[]
  cases hcs with
  | nil=>
   simp only[iC]
   cases hdf:fr.R.deferred with
   | true=>exact trivial
   | false=>
    rw[hdf]at hk;rw[if_neg (by simp)]
    split
    ·rename_i hroot
     exact⟨μ,b,w,v,.refl _ _,fun _ _ h=>h,Below.refl N w,hH,h2,by rw[hr.fn];exact zC.1 hroot,hm,hd,hk,fn,hf,h1⟩
    ·exact trivial
  | @cons c c' acs1 cs1 hc hcs1=>
   simp only[]
   cases hdf:fr.R.deferred with
   | true=>
    rw[hdf]at hk;simp only[cond_true];show qD P C B N μ base _ w (mK (z1y c acs1 H) 18)
    generalize hx:z1y c acs1 H=x
    cases x with
    | none=>exact trivial
    | some x=>
     obtain⟨h3,h4,h5⟩:=z7i hc hx
     obtain⟨xf,xc,xh⟩:=x
     simp only at h3 h4 h5
     subst h3 h4
     exact⟨μ,_,cs1,w,.one (zei hm hd hk hf h1),fun _ _ h=>h,Below.refl N w,hH,h5,hcs1⟩
   | false=>
    rw[hdf]at hk;simp only[cond_false]
    cases hfi:nI c (gT l)with
    | none=>exact trivial
    | some g=>
     exact⟨μ,_,cs1,w,.one (step_leave_returned ⟨hm,hd,hk,fn,hf,h1⟩),fun _ _ h=>h,Below.refl N w,hH,pU hc hfi h2,hcs1⟩
theorem zsl(hS:Sim P C B N I)(hH:oB B N μ H w)(hcs:tG C μ acs cs){fr:xC}(hfr:qI C μ acs.length (some H) fr b)(hm:fr.R.mode.running=false) :
  qD P C B N μ base (lone b (cs++base) w) w (zce C fr acs H):=by
 have ht:sE μ fr.R.n fr.tm b.tmps:=by
  have:=hfr.body
  rw[if_neg (by rw[hm];simp)]at this
  exact this
 have hr:=hfr.rest
 unfold zce
 cases hd:fr.R.defers with
 | cons d l=>exact zsn hS hH hcs hr hm ht hd
 | nil=>
  have hbd:b.defers=[]:=by
   have:=hr.defers
   rw[hd]at this;generalize hbd:b.defers=bd at this
   cases this
   rfl
  have hmode:=hr.mode
  simp only[]
  cases hmo:fr.R.mode with
  | run=>rw[hmo]at hm;cases hm
  | returning=>
   rw[hmo]at hmode;have:b.mode=.returning:=by
    cases hb:b.mode with
    | returning=>rfl
    | _=>rw[hb]at hmode;exact hmode.elim
   exact zp1 hS hH hcs hr this hbd ht
  | panicking ch=>
   rw[hmo]at hmode
   cases hb:b.mode with
   | run=>rw[hb]at hmode;exact hmode.elim
   | returning=>rw[hb]at hmode;exact hmode.elim
   | panicking ch'=>
    rw[hb]at hmode;show qD P C B N μ base _ w (zog C fr ch acs H)
    unfold zog
    cases hfn:C.fns.get fr.R.fn with
    | none=>exact trivial
    | some fn=>
     rw[sA];have hf:P.funcs[b.fn]?=some fn:=by rw[hr.fn];exact(hS.fns _ _ hfn).1
     cases hcs with
     | nil=>exact trivial
     | @cons c c' acs1 cs1 hc hcs1=>
      exact⟨μ,_,cs1,w,.one (step_leave_panicked ⟨hb,hbd,fn,hf⟩),fun _ _ h=>h,Below.refl N w,hH,zof hc hmode,hcs1⟩
theorem zzh(hS:Sim P C B N I)(hI:I w){s:jO}(hH:oB B N μ s.H w)(hcs:tG C μ s.cs cs)(hfr:qI C μ s.cs.length (some s.H) s.fr b):qD P C B N μ base (lone b (cs++base) w) w (stepA C s):=by
 obtain⟨⟨todo,tm,R⟩,acs,H⟩:=s
 show qD P C B N μ base _ w (bif R.mode.running then zho C todo tm R acs H else zce C ⟨todo,tm,R⟩ acs H)
 cases hm:R.mode.running with
 | false=>exact zsl hS hH hcs hfr hm
 | true=>
  have hb:=hfr.body
  have hr:=hfr.rest
  simp only at hb hr
  rw[if_pos hm]at hb;have hbm:b.mode=.run:=by
   have h:=hr.mode
   cases hmo:R.mode with
   | run=>
    rw[hmo]at h
    cases hb:b.mode with
    | run=>rfl
    | _=>rw[hb]at h;exact h.elim
   | _=>rw[hmo]at hm;cases hm
  have e:=z11 hbm
  have:=z61 (b:=b) (tmps:=b.tmps) (ds:=b.defers) (base:=base) hS hI hH hcs ⟨hr.fn,hr.size,hr.defers,by have:=hr.mode;rw[hbm]at this;exact this,hr.kind,hr.round⟩ hb
  rw[e]at this;exact this
theorem tR(hS:Sim P C B N I)(hI:I w){m:Machine}{o:fC}(h:qD P C B N μ base m w o):qD P C B N μ base m w (xK C o):=by
 cases o with
 | fail n=>exact trivial
 | done v H=>exact h
 | next s=>
  obtain⟨μ',b,cs,w',h1,h2,h3,h4,h5,h6⟩:=h
  exact qD.of_steps h1 h2 h3 (zzh hS (hS.inv _ _ h3 hI) h4 h6 h5)
theorem qV(hS:Sim P C B N I)(hI:I w){m:Machine}:∀(n:Nat) {o:fC},qD P C B N μ base m w o->qD P C B N μ base m w (zn5 C n o):=by
 intro n;induction n with
 | zero=>intro o h;exact tR hS hI h
 | succ n ih=>intro o h;exact ih (ih h)
theorem zkb(hS:Sim P C B N I)(hI:I w){f:Nat}(hroot:C.root=f){args:List zA}{args':Array Value}(hH:oB B N μ H w)(hl:qB μ args args'.toList){g:xC}(he:vJ C f args false=some g){n:Nat}{v:zA}{H':qA}
  (hrun:zn5 C n (.next ⟨g,[],H⟩)=.done v H') :
  Calls P f args' w fun e w'=>∃v' μ',e=.returned v'/\μ.lw μ'/\rA μ' v v'/\oB B N μ' H' w'/\Below N w w':=by
 intro base;have h0:qD P C B N μ base (lone (Frame.enter P f args' .normal) base w) w (.next ⟨g,[],H⟩):=
  ⟨μ,_,[],w,.refl _ _,fun _ _ h=>h,Below.refl N w,hH,(eV (cur:=some H) hS.fns he hl).1,.nil⟩
 have h1:=qV hS hI n h0
 rw[hrun]at h1;obtain⟨μ',b,w',v',h2,h3,h4,h5,h6,h7,h8⟩:=h1
 exact⟨.returned v',w',b,⟨v',μ',rfl,h3,h6,h5,h4⟩,h2,by rw[h7,hroot],h8⟩
end
end Go.Am
namespace Go.Am
open Go Go.RowKit
abbrev kB:=Option (zA × qA)
abbrev Ora:=Nat->List zA->qA->kB
structure Kt where
 norm:Tm->qA->kB
 exit:Nat->Tm->qA->kB
 ret:Tm->qA->kB
structure PI where
 id:Nat
 pl:List Nat
 ll:List (Nat × Nat)
def PI.kept(p:PI):List Nat:=cF p.pl (List.rec (motive:=fun _=>List Nat) [] (fun a _ r=>a.1::r) p.ll)
inductive fF where
 | skip
 | region (id:Nat) (ops:Array Oper) (draw:Bool)
 | seq (a b:fF)
 | cond (c:Operand) (x y:fF)
 | block (id:Nat) (c:fF)
 | loop (p:PI) (c:fF)
 | exit (id:Nat)
 | ret
 | cut (p:PI) (c:fF)
def kH:fF->Code
 | .skip=>.skip
 | .region id ops d=>.region id ops d
 | .seq a b=>.seq (kH a) (kH b)
 | .cond c x y=>.cond c (kH x) (kH y)
 | .block id c=>.block id (kH c)
 | .loop _ c=>.loop (kH c)
 | .exit id=>.exit id
 | .ret=>.ret
 | .cut _ c=>kH c
def lim {α:Type}(f:Nat->Option α):Option α:=@dite _ (∃n r,f n=some r) (Classical.propDecidable _) (fun h=>f h.choose) (fun _=>none)
def Mono {α:Type}(f:Nat->Option α):Prop:=∀n r,f n=some r->f (n+1)=some r
theorem Mono.le{α:Type}{f:Nat->Option α}(h:Mono f){n m:Nat}{r:α}(hr:f n=some r)(hnm:n<=m):f m=some r:=by
 induction hnm with
 | refl=>exact hr
 | step _ ih=>exact h _ _ ih
theorem zbv{α:Type}{f:Nat->Option α}(h:Mono f){r:α}:lim f=some r ↔ ∃n,f n=some r:=by
 unfold lim;by_cases hx:∃n r,f n=some r
 ·rw[dif_pos hx]
  obtain⟨r0,h0⟩:=hx.choose_spec
  constructor
  ·intro e;exact⟨_,e⟩
  ·rintro⟨n,hn⟩
   have a:=h.le h0 (Nat.le_max_left hx.choose n)
   have b:=h.le hn (Nat.le_max_right hx.choose n)
   rw[a]at b;rw[h0];exact b
 ·rw[dif_neg hx]
  constructor
  ·intro e;cases e
  ·rintro⟨n,hn⟩;exact absurd ⟨n,r,hn⟩ hx
def z5r:nE->zA->(zA->kB)->kB
 | .bool,v,K=>ob v.asBool fun b=>K (.bool b)
 | .int k,v,K=>ob v.asIntK fun p=>sB (kEq p.1 k) (K (.int k p.2))
 | .string,v,K=>ob v.asStr fun l=>K (.str l)
 | .ptr _,v,K=>K v
 | .slice _,v,K=>K v
 | .arr _ _,v,K=>K v
 | .map _ _,v,K=>K v
 | .struct _,v,K=>K v
 | .func,v,K=>K v
 | .iface,v,K=>K v
 | .other,v,K=>K v
def fitD:nE->zA->Prop
 | .bool,v=>∃b,v=.bool b
 | .int k,v=>∃n,v=.int k n
 | .string,v=>∃l,v=.str l
 | _,_=>True
theorem zqt{d:nE}{v:zA}{K:zA->kB}{x:zA × qA}:z5r d v K=some x ↔ fitD d v/\K v=some x:=by
 cases d<;>simp only[z5r,fitD,lA,lB,true_and]
 case bool=>
  constructor
  ·rintro⟨b,h1,h2⟩;have:=xT.1 h1;subst this;exact⟨⟨b,rfl⟩,h2⟩
  ·rintro⟨⟨b,rfl⟩,h⟩;exact⟨b,rfl,h⟩
 case int k=>
  constructor
  ·rintro⟨p,h1,h2,h3⟩;have:=cM.1 h1;subst this;rw[iJ.1 h2];exact⟨⟨p.2,rfl⟩,h3⟩
  ·rintro⟨⟨n,rfl⟩,h⟩;exact⟨(k,n),rfl,iJ.2 rfl,h⟩
 case string=>
  constructor
  ·rintro⟨b,h1,h2⟩;have:=cN.1 h1;subst this;exact⟨⟨b,rfl⟩,h2⟩
  ·rintro⟨⟨b,rfl⟩,h⟩;exact⟨b,rfl,h⟩
def pJ(C:iA)(t:Nat)(v:zA)(K:zA->kB):kB:=
 match C.tys.get t with
 | some ty=>z5r ty.desc v K
 | none=>K v
def z1b (C:iA)(t:Nat)(v:zA):Prop:=
 match C.tys.get t with
 | some ty=>fitD ty.desc v
 | none=>True
theorem yM{C:iA}{t:Nat}{v:zA}{K:zA->kB}{x:zA × qA}:pJ C t v K=some x ↔ z1b C t v/\K v=some x:=by
 unfold pJ z1b;split
 ·exact zqt
 ·simp
def jG (φ:Ora)(r:yK)(H:qA)(k:zA->qA->kB):kB:=
 match r with
 | .val v H'=>k v H'
 | .enter f args=>ob (φ f args H) fun p=>k p.1 p.2
 | _=>none
def zks (C:iA)(φ:Ora)(all:Array Oper)(n:Nat)(κ:Tm->qA->kB)(l:List Oper):Tm->qA->kB:=
 List.rec (motive:=fun _=>Tm->qA->kB) κ
  (fun o _ g tm H=>ob (kF o.guard all tm) fun w=>Bool.rec (motive:=fun _=>kB) (g (putA n tm o.dst rE) H)
   (jG φ ((bE o.op).f C (.now tm) H) H fun v H'=>pJ C o.type v fun v=>g (putA n tm o.dst v) H') w) l
def fH(C:iA)(H:qA)(all:Array Oper)(n:Nat)(old:Tm)(olds:List (Nat × List Nat))(k:Tm->kB)(l:List Nat):Tm->kB:=
 List.rec (motive:=fun _=>Tm->kB) k
  (fun i _ g tm=>ob (oD all.toList i) fun o=>ob (kF o.guard all tm) fun w=>Bool.rec (motive:=fun _=>kB) (g (putA n tm o.dst rE))
   (ob ((iF o.op).f C (.mixed tm old (iE i olds) (aG o.op)) H) fun v=>pJ C o.type v fun v=>g (putA n tm o.dst v)) w) l
def eJ(C:iA)(H:qA)(all:Array Oper)(old:Tm)(olds:List (Nat × List Nat))(tm:Tm)(k:kB)(l:List Nat):kB:=
 List.rec (motive:=fun _=>kB) k
  (fun i _ g=>ob (oD all.toList i) fun o=>ob o.dst fun d=>ob (kF o.guard all tm) fun w=>Bool.rec (motive:=fun _=>kB) g
   (ob ((iF o.op).f C (.mixed tm old (iE i olds) (aG o.op)) H) fun v=>pJ C o.type v fun v=>ob (tm.get d) fun u=>sB (same 10 v u) g) w) l
def hvI (all:Array Oper)(h:Nat):Nat:=bif Nat.blt (wB all.toList) h then Nat.sub h (Nat.succ (wB all.toList))else h
def fP(all:Array Oper)(h:Nat)(o:Oper)(tm:Tm):Option Bool:=ob (kF o.guard all tm) fun w=>bif Nat.blt (wB all.toList) h then sB (w&&wK o.op) (some w)else some w
def wI(C:iA)(φ:Ora)(all:Array Oper)(n:Nat)(old:Tm)(olds:List (Nat × List Nat))(κ:Tm->qA->kB)(l:List lG):Tm->qA->kB:=
 List.rec (motive:=fun _=>Tm->qA->kB) κ
  (fun st _ g tm H=>ob (oD all.toList (hvI all st.heavy)) fun o=>ob (fP all st.heavy o tm) fun w=>
   (fun cont:zA->qA->kB=>Bool.rec (motive:=fun _=>kB) (cont rE H)
    (jG φ ((bE o.op).f C (.mixed tm old (iE (hvI all st.heavy) olds) (aG o.op)) H) H fun v H'=>pJ C o.type v fun v=>cont v H') w)
   (fun v H'=>eJ C H' all old olds (putA n tm o.dst v) (fH C H' all n old olds (fun tm=>g tm H') st.lights (putA n tm o.dst v)) st.again)) l
def pV(C:iA)(φ:Ora)(fn n:Nat)(κ:Tm->qA->kB)(id:Nat)(all:Array Oper)(draw:Bool):Tm->qA->kB:=
 Bool.rec (motive:=fun _=>Tm->qA->kB) (fun tm H=>zks C φ all n κ all.toList tm.cut H)
  (fun tm H=>ob (ob (C.plans.get fn) fun t=>t.get id) fun p=>sB (uO all p) (fH C H all n tm.cut p.olds (fun tm'=>wI C φ all n tm.cut p.olds κ p.stages tm' H) p.first tm.cut)) draw
def zju(tm:Tm)(live:List Nat):Tr zA:=
 List.rec (motive:=fun _=>Tr zA) .leaf (fun i _ t=>match tm.get i with | some v=>t.set i v | none=>t) live
def keep (live:List Nat)(tm:Tm):Tm:=⟨tm.k,zju tm live,[]⟩
def gD (C:iA)(φ:Ora)(fn n:Nat)(c:fF):Kt->Tm->qA->kB:=
 fF.rec (motive:=fun _=>Kt->Tm->qA->kB)
  (fun κ tm H=>κ.norm tm H)
  (fun id all draw κ=>pV C φ fn n κ.norm id all draw)
  (fun _ _ ga gb κ=>ga ⟨gb κ,κ.exit,κ.ret⟩)
  (fun c _ _ gx gy κ tm H=>ob (ob (ev c (.now tm)) zA.asBool) fun b=>Bool.rec (motive:=fun _=>kB) (gy κ tm H) (gx κ tm H) b)
  (fun id _ g κ=>g ⟨κ.norm,fun i tm H=>Bool.rec (motive:=fun _=>kB) (κ.exit i tm H) (κ.norm tm H) (Nat.beq id i),κ.ret⟩)
  (fun live _ g κ tm H=>lim fun m=>Nat.rec (motive:=fun _=>Tm->qA->kB) (fun _ _=>none) (fun _ r tm H=>g ⟨r,κ.exit,κ.ret⟩ (keep live.kept tm) H) m tm H)
  (fun id κ tm H=>κ.exit id tm H)
  (fun κ tm H=>κ.ret tm H)
  (fun live _ g κ tm H=>g κ (keep live.kept tm) H) c
end Go.Am
namespace Go.Am
open Go Go.RowKit
def Le2 {α β γ:Type}(k k':α->β->Option γ):Prop:=∀a b x,k a b=some x->k' a b=some x
def OLe (φ φ':Ora):Prop:=∀f a H x,φ f a H=some x->φ' f a H=some x
structure KLe (κ κ':Kt):Prop where
 norm:Le2 κ.norm κ'.norm
 exit:∀i,Le2 (κ.exit i) (κ'.exit i)
 ret:Le2 κ.ret κ'.ret
section
variable {C:iA}{φ φ':Ora}{all:Array Oper}{n:Nat}{x:zA × qA}
theorem zi1(hφ:OLe φ φ'){r:yK}{H:qA}{k k':zA->qA->kB}(hk:Le2 k k')(h:jG φ r H k=some x):jG φ' r H k'=some x:=by
 cases r<;>simp only[jG]at h ⊢<;>try (cases h;done)
 case val v H'=>exact hk _ _ _ h
 case enter f args=>
  rw[lA]at h ⊢
  obtain⟨p,h1,h2⟩:=h
  exact⟨p,hφ _ _ _ _ h1,hk _ _ _ h2⟩
theorem zat{t:Nat}{k k':zA->qA->kB}(hk:Le2 k k'):Le2 (fun v H=>pJ C t v fun v=>k v H) (fun v H=>pJ C t v fun v=>k' v H):=by
 intro v H x h;rw[yM]at h ⊢
 exact⟨h.1,hk _ _ _ h.2⟩
theorem mV{κ:Tm->qA->kB}{o:Oper}{l:List Oper}{tm:Tm}{H:qA}:zks C φ all n κ (o::l) tm H=ob (kF o.guard all tm) fun w=>if w=true then
   (jG φ ((bE o.op).f C (.now tm) H) H fun v H'=>pJ C o.type v fun v=>zks C φ all n κ l (putA n tm o.dst v) H')else zks C φ all n κ l (putA n tm o.dst rE) H:=by
 show(ob (kF o.guard all tm) fun w=>Bool.rec (motive:=fun _=>kB) _ _ w)=_
 congr 1;funext w;rw[jH];rfl
theorem zc7(hφ:OLe φ φ'){κ κ':Tm->qA->kB}(hκ:Le2 κ κ'):∀(l:List Oper),Le2 (zks C φ all n κ l) (zks C φ' all n κ' l):=by
 intro l;induction l with
 | nil=>exact hκ
 | cons o l ih=>
  intro tm H x h;rw[mV,lA]at h ⊢
  obtain⟨w,h1,h2⟩:=h
  refine⟨w,h1,?_⟩
  split at h2
  ·rename_i e;rw[if_pos e];exact zi1 hφ (zat (k:=fun v H'=>zks C φ all n κ l (putA n tm o.dst v) H') (k':=fun v H'=>zks C φ' all n κ' l (putA n tm o.dst v) H') fun v H' y hy=>ih _ _ _ hy) h2
  ·rename_i e;rw[if_neg e];exact ih _ _ _ h2
variable {H:qA}{old:Tm}{olds:List (Nat × List Nat)}
theorem nY{k:Tm->kB}{i:Nat}{l:List Nat}{tm:Tm}:fH C H all n old olds k (i::l) tm=ob (oD all.toList i) fun o=>ob (kF o.guard all tm) fun w=>if w=true then
   (ob ((iF o.op).f C (.mixed tm old (iE i olds) (aG o.op)) H) fun v=>pJ C o.type v fun v=>fH C H all n old olds k l (putA n tm o.dst v))else fH C H all n old olds k l (putA n tm o.dst rE):=by
 show(ob (oD all.toList i) fun o=>ob (kF o.guard all tm) fun w=>Bool.rec (motive:=fun _=>kB) _ _ w)=_
 congr 1;funext o;congr 1;funext w;rw[jH];rfl
theorem pZ{k k':Tm->kB}(hk:∀tm x,k tm=some x->k' tm=some x):∀(l:List Nat) tm x,fH C H all n old olds k l tm=some x->fH C H all n old olds k' l tm=some x:=by
 intro l;induction l with
 | nil=>exact hk
 | cons i l ih=>
  intro tm x h;rw[nY,lA]at h ⊢
  obtain⟨o,h1,h2⟩:=h
  refine⟨o,h1,?_⟩
  rw[lA]at h2 ⊢
  obtain⟨w,h3,h4⟩:=h2
  refine⟨w,h3,?_⟩
  split at h4
  ·rename_i e
   rw[if_pos e];rw[lA]at h4 ⊢
   obtain⟨v,h5,h6⟩:=h4
   rw[yM]at h6;exact⟨v,h5,by rw[yM];exact⟨h6.1,ih _ _ h6.2⟩⟩
  ·rename_i e;rw[if_neg e];exact ih _ _ h4
theorem jZ{tm:Tm}{k:kB}{i:Nat}{l:List Nat}:eJ C H all old olds tm k (i::l)=ob (oD all.toList i) fun o=>ob o.dst fun d=>ob (kF o.guard all tm) fun w=>if w=true then
   (ob ((iF o.op).f C (.mixed tm old (iE i olds) (aG o.op)) H) fun v=>pJ C o.type v fun v=>ob (tm.get d) fun u=>sB (same 10 v u) (eJ C H all old olds tm k l))else eJ C H all old olds tm k l:=by
 show(ob (oD all.toList i) fun o=>ob o.dst fun d=>ob (kF o.guard all tm) fun w=>Bool.rec (motive:=fun _=>kB) _ _ w)=_
 congr 1;funext o;congr 1;funext d;congr 1;funext w;rw[jH];rfl
theorem kX{tm:Tm}{k:kB}:∀(l:List Nat),eJ C H all old olds tm k l=some x->rT C H all old olds tm l=true/\k=some x:=by
 intro l;induction l with
 | nil=>intro h;exact⟨rfl,h⟩
 | cons i l ih=>
  intro h;rw[jZ,lA]at h;obtain⟨o,h1,h⟩:=h
  rw[lA]at h;obtain⟨d,h2,h⟩:=h
  rw[lA]at h;obtain⟨w,h3,h⟩:=h
  unfold rT;simp only[h1,sA,h2,h3]
  cases w with
  | false=>exact ih h
  | true=>
   rw[if_pos rfl,lA]at h;obtain⟨v,h4,h⟩:=h
   rw[yM]at h;obtain⟨h5,h⟩:=h
   rw[lA]at h;obtain⟨y,h6,h⟩:=h
   rw[lB]at h;simp only[cond_true,h4,sA,h6,h.1];exact ih h.2
theorem zeb{tm:Tm}{k k':kB}(hk:k'=some x):∀(l:List Nat),eJ C H all old olds tm k l=some x->eJ C H all old olds tm k' l=some x:=by
 intro l;induction l with
 | nil=>intro _;exact hk
 | cons i l ih=>
  intro h;rw[jZ,lA]at h ⊢
  obtain⟨o,h1,h⟩:=h
  refine⟨o,h1,?_⟩
  rw[lA]at h ⊢
  obtain⟨d,h2,h⟩:=h
  refine⟨d,h2,?_⟩
  rw[lA]at h ⊢
  obtain⟨w,h3,h⟩:=h
  refine⟨w,h3,?_⟩
  split at h
  ·rename_i e
   rw[if_pos e];rw[lA]at h ⊢
   obtain⟨v,h4,h⟩:=h
   refine⟨v,h4,?_⟩
   rw[yM]at h ⊢
   obtain⟨h5,h⟩:=h
   refine⟨h5,?_⟩
   rw[lA]at h ⊢
   obtain⟨y,h6,h⟩:=h
   refine⟨y,h6,?_⟩
   rw[lB]at h ⊢
   exact⟨h.1,ih h.2⟩
  ·rename_i e;rw[if_neg e];exact ih h
theorem wV{κ:Tm->qA->kB}{st:lG}{l:List lG}{tm:Tm}:wI C φ all n old olds κ (st::l) tm H=ob (oD all.toList (hvI all st.heavy)) fun o=>ob (fP all st.heavy o tm) fun w=>
   (fun cont:zA->qA->kB=>if w=true then(jG φ ((bE o.op).f C (.mixed tm old (iE (hvI all st.heavy) olds) (aG o.op)) H) H fun v H'=>pJ C o.type v fun v=>cont v H')else cont rE H)
   (fun v H'=>eJ C H' all old olds (putA n tm o.dst v) (fH C H' all n old olds (fun tm=>wI C φ all n old olds κ l tm H') st.lights (putA n tm o.dst v)) st.again):=by
 show(ob (oD all.toList (hvI all st.heavy)) fun o=>ob (fP all st.heavy o tm) fun w=>(fun cont:zA->qA->kB=>Bool.rec (motive:=fun _=>kB) _ _ w) _)=_
 congr 1;funext o;congr 1;funext w;cases w<;>rfl
theorem zZ(hφ:OLe φ φ'){κ κ':Tm->qA->kB}(hκ:Le2 κ κ'):∀(l:List lG),Le2 (wI C φ all n old olds κ l) (wI C φ' all n old olds κ' l):=by
 intro l;induction l with
 | nil=>exact hκ
 | cons st l ih=>
  intro tm H x h;rw[wV,lA]at h ⊢
  obtain⟨o,h1,h⟩:=h
  refine⟨o,h1,?_⟩
  rw[lA]at h ⊢
  obtain⟨w,h2,h⟩:=h
  refine⟨w,h2,?_⟩
  have cont:∀v H' y,eJ C H' all old olds (putA n tm o.dst v) (fH C H' all n old olds (fun tm=>wI C φ all n old olds κ l tm H') st.lights (putA n tm o.dst v)) st.again=some y →
    eJ C H' all old olds (putA n tm o.dst v) (fH C H' all n old olds (fun tm=>wI C φ' all n old olds κ' l tm H') st.lights (putA n tm o.dst v)) st.again=some y:=by
   intro v H' y hy;exact zeb (pZ (fun tm x hx=>ih _ _ _ hx) _ _ _ (kX _ hy).2) _ hy
  simp only[]at h ⊢
  split at h
  ·rename_i e;rw[if_pos e];exact zi1 hφ (zat cont) h
  ·rename_i e;rw[if_neg e];exact cont _ _ _ h
theorem zbd(hφ:OLe φ φ'){κ κ':Tm->qA->kB}(hκ:Le2 κ κ'){fn id:Nat}{draw:Bool}:Le2 (pV C φ fn n κ id all draw) (pV C φ' fn n κ' id all draw):=by
 intro tm H x h
 cases draw with
 | false=>exact zc7 hφ hκ _ _ _ _ h
 | true=>
  have h:(ob (ob (C.plans.get fn) fun t=>t.get id) fun p=>sB (uO all p) (fH C H all n tm.cut p.olds (fun tm'=>wI C φ all n tm.cut p.olds κ p.stages tm' H) p.first tm.cut))=some x:=h
  show(ob (ob (C.plans.get fn) fun t=>t.get id) fun p=>sB (uO all p) (fH C H all n tm.cut p.olds (fun tm'=>wI C φ' all n tm.cut p.olds κ' p.stages tm' H) p.first tm.cut))=some x
  rw[lA]at h ⊢
  obtain⟨p,h1,h⟩:=h
  refine⟨p,h1,?_⟩
  rw[lB]at h ⊢
  exact⟨h.1,pZ (fun tm x hx=>zZ hφ hκ _ _ _ _ hx) _ _ _ h.2⟩
end
end Go.Am
namespace Go.Am
open Go Go.RowKit
theorem zvx{α:Type}{f:Nat->Option α}{r:α}(h:lim f=some r):∃n,f n=some r:=by
 unfold lim at h;by_cases hx:∃n r,f n=some r
 ·rw[dif_pos hx]at h;exact⟨_,h⟩
 ·rw[dif_neg hx]at h;cases h
structure zm9 {α β γ:Type} (ks:Nat->α->β->Option γ) (k:α->β->Option γ):Prop where
 up:∀n,Le2 (ks n) (ks (n+1))
 ex:∀a b x,k a b=some x->∃n,ks n a b=some x
theorem up_le{α β γ:Type}{ks:Nat->α->β->Option γ}(h:∀n,Le2 (ks n) (ks (n+1))){n m:Nat}(hnm:n<=m):Le2 (ks n) (ks m):=by
 induction hnm with
 | refl=>exact fun _ _ _ h=>h
 | step _ ih=>exact fun a b x hx=>h _ _ _ _ (ih a b x hx)
structure z39 (φs:Nat->Ora) (φ:Ora):Prop where
 up:∀n,OLe (φs n) (φs (n+1))
 ex:∀f a H x,φ f a H=some x->∃n,φs n f a H=some x
theorem z39.le{φs:Nat->Ora}{φ:Ora}(h:z39 φs φ){n m:Nat}(hnm:n<=m):OLe (φs n) (φs m):=by
 induction hnm with
 | refl=>exact fun _ _ _ _ h=>h
 | step _ ih=>exact fun f a H x hx=>h.up _ _ _ _ _ (ih f a H x hx)
structure SupK (κs:Nat->Kt) (κ:Kt):Prop where
 norm:zm9 (fun n=>(κs n).norm) κ.norm
 exit:∀i,zm9 (fun n=>(κs n).exit i) (κ.exit i)
 ret:zm9 (fun n=>(κs n).ret) κ.ret
section
variable {C:iA}{φ φ':Ora}{φs:Nat->Ora}{all:Array Oper}{N fn:Nat}
theorem zws{g g':Kt->Tm->qA->kB}{κ κ':Kt}(hκ:KLe κ κ')(hg:∀ κ κ',KLe κ κ'->Le2 (g κ) (g' κ'))(live:List Nat):∀m,Le2 (Nat.rec (motive:=fun _=>Tm->qA->kB) (fun _ _=>none) (fun _ r tm H=>g ⟨r,κ.exit,κ.ret⟩ (keep live tm) H) m)
  (Nat.rec (motive:=fun _=>Tm->qA->kB) (fun _ _=>none) (fun _ r tm H=>g' ⟨r,κ'.exit,κ'.ret⟩ (keep live tm) H) m):=by
 intro m;induction m with
 | zero=>intro a b x h;cases h
 | succ m ih=>exact fun a b x h=>hg ⟨_,_,_⟩ ⟨_,_,_⟩ ⟨ih,hκ.exit,hκ.ret⟩ _ _ _ h
theorem KLe.refl(κ:Kt):KLe κ κ:=⟨fun _ _ _ h=>h,fun _ _ _ _ h=>h,fun _ _ _ h=>h⟩
theorem zl9{g:Kt->Tm->qA->kB}{κ:Kt}(hg:∀ κ κ',KLe κ κ'->Le2 (g κ) (g κ'))(live:List Nat):∀m,Le2 (Nat.rec (motive:=fun _=>Tm->qA->kB) (fun _ _=>none) (fun _ r tm H=>g ⟨r,κ.exit,κ.ret⟩ (keep live tm) H) m)
  (Nat.rec (motive:=fun _=>Tm->qA->kB) (fun _ _=>none) (fun _ r tm H=>g ⟨r,κ.exit,κ.ret⟩ (keep live tm) H) (m+1)):=by
 intro m;induction m with
 | zero=>intro a b x h;cases h
 | succ m ih=>exact fun a b x h=>hg ⟨_,_,_⟩ ⟨_,_,_⟩ ⟨ih,(KLe.refl κ).exit,(KLe.refl κ).ret⟩ _ _ _ h
theorem dV(hφ:OLe φ φ'):∀(c:fF) (κ κ':Kt),KLe κ κ'->Le2 (gD C φ fn N c κ) (gD C φ' fn N c κ'):=by
 have self:∀(ψ:Ora),OLe ψ ψ:=fun _ _ _ _ _ h=>h
 intro c;suffices h:∀ φ φ',OLe φ φ'->∀(κ κ':Kt),KLe κ κ'->Le2 (gD C φ fn N c κ) (gD C φ' fn N c κ') from h φ φ' hφ
 induction c with
 | skip=>exact fun _ _ _ κ κ' hκ=>hκ.norm
 | region id ops d=>exact fun _ _ hφ κ κ' hκ=>zbd hφ hκ.norm
 | seq a b iha ihb=>exact fun _ _ hφ κ κ' hκ=>iha _ _ hφ _ _ ⟨ihb _ _ hφ _ _ hκ,hκ.exit,hκ.ret⟩
 | cond c a b iha ihb=>
  intro φ φ' hφ κ κ' hκ tm H x h;have h:(ob (ob (ev c (.now tm)) zA.asBool) fun t=>Bool.rec (motive:=fun _=>kB) (gD C φ fn N b κ tm H) (gD C φ fn N a κ tm H) t)=some x:=h
  show(ob (ob (ev c (.now tm)) zA.asBool) fun t=>Bool.rec (motive:=fun _=>kB) (gD C φ' fn N b κ' tm H) (gD C φ' fn N a κ' tm H) t)=some x
  rw[lA]at h ⊢
  obtain⟨t,h1,h2⟩:=h
  refine⟨t,h1,?_⟩
  cases t with
  | true=>exact iha _ _ hφ _ _ hκ _ _ _ h2
  | false=>exact ihb _ _ hφ _ _ hκ _ _ _ h2
 | block id c ih=>
  intro φ φ' hφ κ κ' hκ;refine ih _ _ hφ _ _ ⟨hκ.norm,fun i tm H x h=>?_,hκ.ret⟩
  simp only[jH]at h ⊢
  split at h
  ·rename_i e;rw[if_pos e];exact hκ.norm _ _ _ h
  ·rename_i e;rw[if_neg e];exact hκ.exit _ _ _ _ h
 | loop live c ih=>
  intro φ φ' hφ κ κ' hκ tm H x h;obtain⟨m,hm⟩:=zvx h
  refine(zbv fun m y hy=>zl9 (ih _ _ (self φ')) live.kept m _ _ _ hy).2 ⟨m,?_⟩
  exact zws hκ (ih _ _ hφ) live.kept m _ _ _ hm
 | exit id=>exact fun _ _ _ κ κ' hκ=>hκ.exit id
 | ret=>exact fun _ _ _ κ κ' hκ=>hκ.ret
 | cut live c ih=>exact fun _ _ hφ κ κ' hκ tm H x h=>ih _ _ hφ _ _ hκ _ _ _ h
theorem zoa(hφ:z39 φs φ){r:yK}{H:qA}{ks:Nat->zA->qA->kB}{k:zA->qA->kB}(hk:zm9 ks k){x:zA × qA}(h:jG φ r H k=some x):∃n,jG (φs n) r H (ks n)=some x:=by
 cases r<;>simp only[jG]at h ⊢<;>try (cases h;done)
 case val v H'=>exact hk.ex _ _ _ h
 case enter f args=>
  rw[lA]at h;obtain⟨p,h1,h2⟩:=h
  obtain⟨n,hn⟩:=hφ.ex _ _ _ _ h1
  obtain⟨m,hm⟩:=hk.ex _ _ _ h2
  exact⟨max n m,by rw[lA];exact⟨p,hφ.le (Nat.le_max_left n m) _ _ _ _ hn,up_le hk.up (Nat.le_max_right n m) _ _ _ hm⟩⟩
theorem zjc{t:Nat}{ks:Nat->zA->qA->kB}{k:zA->qA->kB}(hk:zm9 ks k):zm9 (fun n v H=>pJ C t v fun v=>ks n v H) (fun v H=>pJ C t v fun v=>k v H):=by
 refine⟨fun n=>zat (hk.up n),fun v H x h=>?_⟩
 rw[yM]at h;obtain⟨n,hn⟩:=hk.ex _ _ _ h.2
 exact⟨n,by rw[yM];exact⟨h.1,hn⟩⟩
theorem zz7(hφ:z39 φs φ){κs:Nat->Tm->qA->kB}{κ:Tm->qA->kB}(hκ:zm9 κs κ):∀(l:List Oper),zm9 (fun n=>zks C (φs n) all N (κs n) l) (zks C φ all N κ l):=by
 intro l;refine⟨fun n=>zc7 (hφ.up n) (hκ.up n) l,?_⟩
 induction l with
 | nil=>exact hκ.ex
 | cons o l ih=>
  intro tm H x h;rw[mV,lA]at h;obtain⟨w,h1,h2⟩:=h
  split at h2
  ·rename_i e
   obtain⟨n,hn⟩:=zoa hφ (zjc (ks:=fun n v H'=>zks C (φs n) all N (κs n) l (putA N tm o.dst v) H') (k:=fun v H'=>zks C φ all N κ l (putA N tm o.dst v) H') ⟨fun n v H' y hy=>zc7 (hφ.up n) (hκ.up n) l _ _ _ hy,fun v H' y hy=>ih _ _ _ hy⟩) h2
   exact⟨n,by show zks C (φs n) all N (κs n) (o::l) tm H=some x;rw[mV,lA];exact⟨w,h1,by rw[if_pos e];exact hn⟩⟩
  ·rename_i e
   obtain⟨n,hn⟩:=ih _ _ _ h2
   exact⟨n,by show zks C (φs n) all N (κs n) (o::l) tm H=some x;rw[mV,lA];exact⟨w,h1,by rw[if_neg e];exact hn⟩⟩
variable {old:Tm}{olds:List (Nat × List Nat)}
theorem zdi{H:qA}{ks:Nat->Tm->kB}{k:Tm->kB}(hk:∀tm x,k tm=some x->∃n,ks n tm=some x):∀(l:List Nat) tm x,fH C H all N old olds k l tm=some x->∃n,fH C H all N old olds (ks n) l tm=some x:=by
 intro l;induction l with
 | nil=>exact hk
 | cons i l ih=>
  intro tm x h;simp only[nY]at h ⊢
  rw[lA]at h;obtain⟨o,h1,h⟩:=h
  rw[lA]at h;obtain⟨w,h3,h4⟩:=h
  split at h4
  ·rename_i e
   rw[lA]at h4;obtain⟨v,h5,h6⟩:=h4
   rw[yM]at h6;obtain⟨n,hn⟩:=ih _ _ h6.2
   exact⟨n,by rw[h1,sA,h3,sA,if_pos e,h5,sA,yM];exact⟨h6.1,hn⟩⟩
  ·rename_i e
   obtain⟨n,hn⟩:=ih _ _ h4
   exact⟨n,by rw[h1,sA,h3,sA,if_neg e];exact hn⟩
theorem zlg(hφ:z39 φs φ){κs:Nat->Tm->qA->kB}{κ:Tm->qA->kB}(hκ:zm9 κs κ):∀(l:List lG),zm9 (fun n=>wI C (φs n) all N old olds (κs n) l) (wI C φ all N old olds κ l):=by
 intro l;refine⟨fun n=>zZ (hφ.up n) (hκ.up n) l,?_⟩
 induction l with
 | nil=>exact hκ.ex
 | cons st l ih=>
  intro tm H x h;rw[wV,lA]at h;obtain⟨o,h1,h⟩:=h
  rw[lA]at h;obtain⟨w,h2,h⟩:=h
  have cont:zm9 (fun n v H'=>eJ C H' all old olds (putA N tm o.dst v) (fH C H' all N old olds (fun tm=>wI C (φs n) all N old olds (κs n) l tm H') st.lights (putA N tm o.dst v)) st.again)
    (fun v H'=>eJ C H' all old olds (putA N tm o.dst v) (fH C H' all N old olds (fun tm=>wI C φ all N old olds κ l tm H') st.lights (putA N tm o.dst v)) st.again):=by
   refine⟨fun n v H' y hy=>zeb (pZ (fun tm x hx=>zZ (hφ.up n) (hκ.up n) l _ _ _ hx) _ _ _ (kX _ hy).2) _ hy,fun v H' y hy=>?_⟩
   obtain⟨n,hn⟩:=zdi (fun tm x hx=>ih tm H' x hx) _ _ _ (kX _ hy).2
   exact⟨n,zeb hn _ hy⟩
  simp only[]at h;split at h
  ·rename_i e
   obtain⟨n,hn⟩:=zoa hφ (zjc cont) h
   exact⟨n,by show wI C (φs n) all N old olds (κs n) (st::l) tm H=some x;rw[wV,h1,sA,h2,sA];simp only[];rw[if_pos e];exact hn⟩
  ·rename_i e
   obtain⟨n,hn⟩:=cont.ex _ _ _ h
   exact⟨n,by show wI C (φs n) all N old olds (κs n) (st::l) tm H=some x;rw[wV,h1,sA,h2,sA];simp only[];rw[if_neg e];exact hn⟩
theorem zlq(hφ:z39 φs φ){κs:Nat->Tm->qA->kB}{κ:Tm->qA->kB}(hκ:zm9 κs κ){id:Nat}{draw:Bool}:zm9 (fun n=>pV C (φs n) fn N (κs n) id all draw) (pV C φ fn N κ id all draw):=by
 refine⟨fun n=>zbd (hφ.up n) (hκ.up n),fun tm H x h=>?_⟩
 cases draw with
 | false=>exact(zz7 hφ hκ _).ex _ _ _ h
 | true=>
  have h:(ob (ob (C.plans.get fn) fun t=>t.get id) fun p=>sB (uO all p) (fH C H all N tm.cut p.olds (fun tm'=>wI C φ all N tm.cut p.olds κ p.stages tm' H) p.first tm.cut))=some x:=h
  rw[lA]at h;obtain⟨p,h1,h⟩:=h
  rw[lB]at h;obtain⟨n,hn⟩:=zdi (fun tm' x hx=>(zlg hφ hκ p.stages).ex tm' H x hx) _ _ _ h.2
  refine⟨n,?_⟩
  show(ob (ob (C.plans.get fn) fun t=>t.get id) fun p=>sB (uO all p) (fH C H all N tm.cut p.olds (fun tm'=>wI C (φs n) all N tm.cut p.olds (κs n) p.stages tm' H) p.first tm.cut))=some x
  rw[h1,sA,lB];exact⟨h.1,hn⟩
theorem zxq(hφ:z39 φs φ):∀(c:fF) (κs:Nat->Kt) (κ:Kt),SupK κs κ->zm9 (fun n=>gD C (φs n) fn N c (κs n)) (gD C φ fn N c κ):=by
 have kle:∀ {κs:Nat->Kt} {κ:Kt},SupK κs κ->∀n,KLe (κs n) (κs (n+1)):=fun h n=>⟨h.norm.up n,fun i=>(h.exit i).up n,h.ret.up n⟩
 intro c;induction c with
 | skip=>exact fun κs κ hκ=>hκ.norm
 | region id ops d=>exact fun κs κ hκ=>zlq hφ hκ.norm
 | seq a b iha ihb=>exact fun κs κ hκ=>iha (fun n=>⟨gD C (φs n) fn N b (κs n),(κs n).exit,(κs n).ret⟩) _ ⟨ihb _ _ hκ,hκ.exit,hκ.ret⟩
 | cond c a b iha ihb=>
  intro κs κ hκ;refine⟨fun n=>dV (hφ.up n) (.cond c a b) _ _ (kle hκ n),fun tm H x h=>?_⟩
  have h:(ob (ob (ev c (.now tm)) zA.asBool) fun t=>Bool.rec (motive:=fun _=>kB) (gD C φ fn N b κ tm H) (gD C φ fn N a κ tm H) t)=some x:=h
  rw[lA]at h;obtain⟨t,h1,h2⟩:=h
  have key:∀n,(Bool.rec (motive:=fun _=>kB) (gD C (φs n) fn N b (κs n) tm H) (gD C (φs n) fn N a (κs n) tm H) t:kB)=some x->gD C (φs n) fn N (.cond c a b) (κs n) tm H=some x:=by
   intro n hn;show(ob (ob (ev c (.now tm)) zA.asBool) fun t=>Bool.rec (motive:=fun _=>kB) (gD C (φs n) fn N b (κs n) tm H) (gD C (φs n) fn N a (κs n) tm H) t)=some x
   rw[h1,sA];exact hn
  cases t with
  | true=>obtain⟨n,hn⟩:=(iha _ _ hκ).ex _ _ _ h2;exact⟨n,key n hn⟩
  | false=>obtain⟨n,hn⟩:=(ihb _ _ hκ).ex _ _ _ h2;exact⟨n,key n hn⟩
 | block id c ih=>
  intro κs κ hκ;refine ih (fun n=>⟨(κs n).norm,fun i tm H=>Bool.rec (motive:=fun _=>kB) ((κs n).exit i tm H) ((κs n).norm tm H) (Nat.beq id i),(κs n).ret⟩) _ ⟨hκ.norm,fun i=>⟨fun n tm H x h=>?_,fun tm H x h=>?_⟩,hκ.ret⟩
  ·simp only[jH]at h ⊢
   split at h
   ·rename_i e;rw[if_pos e];exact hκ.norm.up n _ _ _ h
   ·rename_i e;rw[if_neg e];exact(hκ.exit i).up n _ _ _ h
  ·simp only[jH]at h ⊢
   split at h
   ·rename_i e;obtain⟨n,hn⟩:=hκ.norm.ex _ _ _ h;exact⟨n,by rw[if_pos e];exact hn⟩
   ·rename_i e;obtain⟨n,hn⟩:=(hκ.exit i).ex _ _ _ h;exact⟨n,by rw[if_neg e];exact hn⟩
 | loop live c ih=>
  intro κs κ hκ;refine⟨fun n=>dV (hφ.up n) (.loop live c) _ _ (kle hκ n),fun tm H x h=>?_⟩
  obtain⟨m,hm⟩:=zvx h
  have it:∀m,zm9 (fun n=>(Nat.rec (motive:=fun _=>Tm->qA->kB) (fun _ _=>none) (fun _ r tm H=>gD C (φs n) fn N c ⟨r,(κs n).exit,(κs n).ret⟩ (keep live.kept tm) H) m:Tm->qA->kB))
    (Nat.rec (motive:=fun _=>Tm->qA->kB) (fun _ _=>none) (fun _ r tm H=>gD C φ fn N c ⟨r,κ.exit,κ.ret⟩ (keep live.kept tm) H) m):=by
   intro m;induction m with
   | zero=>exact⟨fun _ _ _ _ h=>h,fun _ _ _ h=>by cases h⟩
   | succ m ihm=>
    have:=ih _ _ (⟨ihm,hκ.exit,hκ.ret⟩:SupK (fun n=>⟨(Nat.rec (motive:=fun _=>Tm->qA->kB) (fun _ _=>none) (fun _ r tm H=>gD C (φs n) fn N c ⟨r,(κs n).exit,(κs n).ret⟩ (keep live.kept tm) H) m:Tm->qA->kB),(κs n).exit,(κs n).ret⟩) ⟨(Nat.rec (motive:=fun _=>Tm->qA->kB) (fun _ _=>none) (fun _ r tm H=>gD C φ fn N c ⟨r,κ.exit,κ.ret⟩ (keep live.kept tm) H) m:Tm->qA->kB),κ.exit,κ.ret⟩)
    exact⟨fun n tm H x h=>this.up n _ _ _ h,fun tm H x h=>this.ex _ _ _ h⟩
  obtain⟨n,hn⟩:=(it m).ex _ _ _ hm
  exact⟨n,(zbv fun m y hy=>zl9 (fun κ κ' h=>dV (fun _ _ _ _ h=>h) c κ κ' h) live.kept m _ _ _ hy).2 ⟨m,hn⟩⟩
 | exit id=>exact fun κs κ hκ=>hκ.exit id
 | ret=>exact fun κs κ hκ=>hκ.ret
 | cut live c ih=>exact fun κs κ hκ=>⟨fun n tm H x h=>(ih _ _ hκ).up n _ _ _ h,fun tm H x h=>(ih _ _ hκ).ex _ _ _ h⟩
theorem z1m{live:PI}{c:fF}{κ:Kt}{tm:Tm}{H:qA}:gD C φ fn N (.loop live c) κ tm H=gD C φ fn N c ⟨gD C φ fn N (.loop live c) κ,κ.exit,κ.ret⟩ (keep live.kept tm) H:=by
 have self:OLe φ φ:=fun _ _ _ _ h=>h
 have up:∀m,Le2 (Nat.rec (motive:=fun _=>Tm->qA->kB) (fun _ _=>none) (fun _ r tm H=>gD C φ fn N c ⟨r,κ.exit,κ.ret⟩ (keep live.kept tm) H) m)
   (Nat.rec (motive:=fun _=>Tm->qA->kB) (fun _ _=>none) (fun _ r tm H=>gD C φ fn N c ⟨r,κ.exit,κ.ret⟩ (keep live.kept tm) H) (m+1)):=zl9 (dV self c) live.kept
 have some_iff:∀tm H x,gD C φ fn N (.loop live c) κ tm H=some x ↔ ∃m,(Nat.rec (motive:=fun _=>Tm->qA->kB) (fun _ _=>none) (fun _ r tm H=>gD C φ fn N c ⟨r,κ.exit,κ.ret⟩ (keep live.kept tm) H) m:Tm->qA->kB) tm H=some x:=
  fun tm H x=>zbv fun m y hy=>up m _ _ _ hy
 have sup:SupK (fun m=>⟨(Nat.rec (motive:=fun _=>Tm->qA->kB) (fun _ _=>none) (fun _ r tm H=>gD C φ fn N c ⟨r,κ.exit,κ.ret⟩ (keep live.kept tm) H) m:Tm->qA->kB),κ.exit,κ.ret⟩) ⟨gD C φ fn N (.loop live c) κ,κ.exit,κ.ret⟩:=
  ⟨⟨up,fun tm H x h=>(some_iff tm H x).1 h⟩,fun i=>⟨fun _ _ _ _ h=>h,fun _ _ _ h=>⟨0,h⟩⟩,⟨fun _ _ _ _ h=>h,fun _ _ _ h=>⟨0,h⟩⟩⟩
 have key:∀x,gD C φ fn N (.loop live c) κ tm H=some x ↔ gD C φ fn N c ⟨gD C φ fn N (.loop live c) κ,κ.exit,κ.ret⟩ (keep live.kept tm) H=some x:=by
  intro x;rw[some_iff];constructor
  ·rintro⟨m,hm⟩
   cases m with
   | zero=>cases hm
   | succ m=>exact dV self c ⟨(Nat.rec (motive:=fun _=>Tm->qA->kB) (fun _ _=>none) (fun _ r tm H=>gD C φ fn N c ⟨r,κ.exit,κ.ret⟩ (keep live.kept tm) H) m:Tm->qA->kB),κ.exit,κ.ret⟩ ⟨gD C φ fn N (.loop live c) κ,κ.exit,κ.ret⟩ ⟨fun tm H y hy=>(some_iff tm H y).2 ⟨m,hy⟩,fun _ _ _ _ h=>h,fun _ _ _ h=>h⟩ _ _ _ hm
  ·intro h
   obtain⟨m,hm⟩:=(zxq (φs:=fun _=>φ) ⟨fun _=>self,fun _ _ _ _ h=>⟨0,h⟩⟩ c _ _ sup).ex _ _ _ h
   exact⟨m+1,hm⟩
 cases h:gD C φ fn N (.loop live c) κ tm H with
 | some x=>exact((key x).1 h).symm
 | none=>
  cases h2:gD C φ fn N c ⟨gD C φ fn N (.loop live c) κ,κ.exit,κ.ret⟩ (keep live.kept tm) H with
  | none=>rfl
  | some x=>rw[(key x).2 h2]at h;cases h
end
end Go.Am
namespace Go.Am
open Go Go.RowKit
def z00:List fD->Bool
 | .reg .. :: _=>true
 | _=>false
section
variable {P:Program}{C:iA}{B N:Nat}{I:World->Prop}{μ:Mu}{w:World}{base:List Frame}{m:Machine}
theorem zzi(hF:zh1 P C){f:Nat}{args:List zA}{args':Array Value}{H:qA}(hH:oB B N μ H w)(hl:qB μ args args'.toList){g:xC}(he:vJ C f args false=some g) :
  qD P C B N μ base (lone (Frame.enter P f args' .normal) base w) w (.next ⟨g,[],H⟩):=
 ⟨μ,_,[],w,.refl _ _,fun _ _ h=>h,Below.refl N w,hH,(eV (cur:=some H) hF he hl).1,.nil⟩
end
end Go.Am
namespace Go.Am
open Go Go.RowKit
inductive bN (C:iA):fC->fC->Prop
 | refl (o:fC):bN C o o
 | step {o o':fC}:bN C (xK C o) o'->bN C o o'
 | forget {todo:List fD} {tm tm':Tm} {R:jI} {cs:List xC} {H:qA} {o':fC}:z00 todo=false->(∀i v,tm'.get i=some v->tm.get i=some v)->bN C (.next ⟨⟨todo,tm',R⟩,cs,H⟩) o'->bN C (.next ⟨⟨todo,tm,R⟩,cs,H⟩) o'
theorem bN.trans{C:iA}{a b c:fC}(h:bN C a b)(k:bN C b c):bN C a c:=by
 induction h with
 | refl=>exact k
 | step _ ih=>exact .step (ih k)
 | forget h1 h2 _ ih=>exact .forget h1 h2 (ih k)
section
variable {P:Program}{C:iA}{B N:Nat}{I:World->Prop}{μ:Mu}{w:World}{base:List Frame}{m:Machine}
theorem sE.forget{n:Nat}{tm tm':Tm}{tmps:Array Value}(h:sE μ n tm tmps)(hs:∀i v,tm'.get i=some v->tm.get i=some v):sE μ n tm' tmps:=⟨h.1,fun i v hv=>h.2 i v (hs i v hv)⟩
theorem zw6{todo:List fD}{tm tm':Tm}{R:jI}{acs:List xC}{H:qA}(hr:z00 todo=false)(hs:∀i v,tm'.get i=some v->tm.get i=some v)(h:qD P C B N μ base m w (.next ⟨⟨todo,tm,R⟩,acs,H⟩)) :
  qD P C B N μ base m w (.next ⟨⟨todo,tm',R⟩,acs,H⟩):=by
 obtain⟨μ',b,cs,w',h1,h2,h3,h4,h5,h6⟩:=h
 obtain⟨bfn,btmps,btodo,bdefers,bmode,bkind,bround⟩:=b
 refine⟨μ',_,cs,w',h1,h2,h3,h4,⟨h5.rest,?_⟩,h6⟩
 have hb:=h5.body
 simp only at hb ⊢
 split at hb
 ·rename_i hm
  rw[if_pos hm]
  cases hb with
  | plain a t=>exact .plain a (t.forget hs)
  | reg _ _ _ _=>cases hr
  | mid _ _ _ _ _=>cases hr
 ·rename_i hm
  rw[if_neg hm];exact hb.forget hs
theorem qD.reach(hS:Sim P C B N I)(hI:I w){o o':fC}(h:bN C o o'):qD P C B N μ base m w o->qD P C B N μ base m w o':=by
 induction h with
 | refl=>exact id
 | step _ ih=>exact fun h=>ih (tR hS hI h)
 | forget hr hs _ ih=>exact fun h=>ih (zw6 hr hs h)
end
def zhy(C:iA)(f:Nat)(fr:xC)(H:qA)(v:zA):Prop:=
 fr.R.mode=.returning/\fr.R.defers=[]/\fr.R.deferred=false/\fr.R.fn=f/\∃fn l,C.fns.get f=some fn/\xU C H fr.tm fn.results.toList=some l/\v=gT l
def nT(C:iA)(φ:Ora):Prop:=∀f args H x,φ f args H=some x->∃g,vJ C f args false=some g/\∀acs,∃fr',bN C (.next ⟨g,acs,H⟩) (.next ⟨fr',acs,x.2⟩)/\zhy C f fr' x.2 x.1
def Fin (C:iA)(f:Nat)(acs:List xC)(o:fC)(x:zA × qA):Prop:=∃fr',bN C o (.next ⟨fr',acs,x.2⟩)/\zhy C f fr' x.2 x.1
theorem Fin.step{C:iA}{f:Nat}{acs:List xC}{o:fC}{x:zA × qA}(h:Fin C f acs (xK C o) x):Fin C f acs o x:=by
 obtain⟨fr,h1,h2⟩:=h;exact⟨fr,.step h1,h2⟩
theorem Fin.of{C:iA}{f:Nat}{acs:List xC}{o o':fC}{x:zA × qA}(hr:bN C o o')(h:Fin C f acs o' x):Fin C f acs o x:=by
 obtain⟨fr,h1,h2⟩:=h;exact⟨fr,hr.trans h1,h2⟩
structure SoundK (C:iA) (f:Nat) (acs:List xC) (R:jI) (κ:Kt) (k:List fD) (x:zA × qA):Prop where
 norm:∀tm H,κ.norm tm H=some x->Fin C f acs (.next ⟨⟨k,tm,R⟩,acs,H⟩) x
 exit:∀i tm H,κ.exit i tm H=some x->∃k',mO i k=some k'/\Fin C f acs (.next ⟨⟨k',tm,R⟩,acs,H⟩) x
 ret:∀tm H,κ.ret tm H=some x->∀k',Fin C f acs (.next ⟨⟨.code .ret::k',tm,R⟩,acs,H⟩) x
section
variable {C:iA}{φ:Ora}{f N:Nat}{acs:List xC}{R:jI}{κ:Kt}{k:List fD}{x:zA × qA}{all:Array Oper}
theorem cL(hR:R.mode.running=true){todo:List fD}{tm:Tm}{H:qA}:xK C (.next ⟨⟨todo,tm,R⟩,acs,H⟩)=zho C todo tm R acs H:=by
 show(bif R.mode.running then zho C todo tm R acs H else _)=_
 rw[hR];rfl
theorem z6p{fr c c':xC}{H:qA}{v:zA}(hr:zhy C f fr H v)(hf:nI c v=some c'):xK C (.next ⟨fr,c::acs,H⟩)=.next ⟨c',acs,H⟩:=by
 obtain⟨h1,h2,h3,h4,fn,l,h5,h6,rfl⟩:=hr
 obtain⟨todo,tm,ffn,n,defers,mode,deferred,round⟩:=fr
 simp only at h1 h2 h3 h4 h6
 subst h1 h2 h3 h4
 show zcf C ⟨todo,tm,_⟩ (c::acs) H=_
 unfold zcf;rw[h5,sA,h6];simp only[cond_false];rw[hf];rfl
theorem zff(hφ:nT C φ){r:yK}{H:qA}{K:zA->qA->kB}(h:jG φ r H K=some x){fr:xC}
  (hK:∀v H' c',nI fr v=some c'->K v H'=some x->Fin C f acs (.next ⟨c',acs,H'⟩) x) (hfin:∀v,∃c',nI fr v=some c'):Fin C f acs (za8 r C fr acs H) x:=by
 cases r<;>simp only[jG]at h<;>try (cases h;done)
 case val v H'=>
  have h2:K v H'=some x:=h
  obtain⟨c',hc⟩:=hfin v
  show Fin C f acs (z5c v H' C fr acs H) x
  unfold z5c;rw[hc];exact hK _ _ _ hc h2
 case enter g args=>
  rw[lA]at h;obtain⟨p,h1,h4⟩:=h
  obtain⟨c',hc⟩:=hfin p.1
  show Fin C f acs (zi2 g args C fr acs H) x
  unfold zi2;obtain⟨ge,he,r0⟩:=hφ _ _ _ _ h1
  obtain⟨fr',r1,r2⟩:=r0 (fr::acs)
  rw[he];refine Fin.of (r1.trans (.step ?_)) (hK _ _ _ hc h4)
  rw[z6p r2 hc];exact .refl _
theorem zqo(hφ:nT C φ)(hR:R.mode.running=true)(hN:R.n=N){κn:Tm->qA->kB}(hκ:∀tm H,κn tm H=some x->Fin C f acs (.next ⟨⟨k,tm,R⟩,acs,H⟩) x) :
  ∀(l:List Oper) (tm:Tm) (H:qA),zks C φ all N κn l tm H=some x->Fin C f acs (xQ C all k R acs l tm H) x:=by
 intro l;induction l with
 | nil=>exact fun tm H h=>hκ tm H h
 | cons o l ih=>
  intro tm H h;rw[mV,lA]at h;obtain⟨w,h1,h⟩:=h
  rw[tZ,h1]
  cases w with
  | false=>rw[if_neg (by simp)]at h;simp only[];rw[hN];exact ih _ _ h
  | true=>
   rw[if_pos rfl]at h;simp only[];generalize (bE o.op).f C (.now tm) H=r at h
   cases hv:r.asVal with
   | some p=>
    have:r=.val p.1 p.2:=by cases r<;>simp[yK.asVal]at hv;rw[<- hv]
    subst this;simp only[jG,yM]at h;obtain⟨h2,h3⟩:=h
    simp only[];rw[hN];exact ih _ _ h3
   | none=>
    refine zff hφ h (fun v H' c' hc hK=>?_) fun v=>⟨⟨.ops all l::k,putA R.n tm o.dst v,R⟩,by unfold nI;simp only[hR,cond_true];rfl⟩
    unfold nI at hc;simp only[hR,cond_true]at hc;have hc:some (⟨.ops all l::k,putA R.n tm o.dst v,R⟩:xC)=some c':=hc
    cases hc;refine .step ?_
    rw[cL hR,hN];rw[yM]at hK;exact ih _ _ hK.2
theorem qZ{H:qA}{old:Tm}{olds:List (Nat × List Nat)}{K:Tm->kB}:∀(l:List Nat) (tm:Tm),fH C H all N old olds K l tm=some x->∃tm',sO C H all N old olds l tm=some tm'/\K tm'=some x:=by
 intro l;induction l with
 | nil=>exact fun tm h=>⟨tm,rfl,h⟩
 | cons i l ih=>
  intro tm h;rw[nY,lA]at h;obtain⟨o,h1,h⟩:=h
  rw[lA]at h;obtain⟨w,h2,h⟩:=h
  unfold sO;rw[h1,sA,h2,sA]
  cases w with
  | false=>rw[if_neg (by simp)]at h;simp only[cond_false,sA];exact ih _ h
  | true=>
   rw[if_pos rfl,lA]at h;obtain⟨v,h3,h⟩:=h
   rw[yM]at h;obtain⟨h4,h⟩:=h
   simp only[cond_true];rw[h3,sA];exact ih _ h
theorem z09{C:iA}{o:Op}{e:wD}{H:qA}{g:Nat}{args:List zA}(hf:wK o=true)(h:(bE o).f C e H=.enter g args):False:=by
 have key:∀q:Option (zA × qA),dK q≠.enter g args:=fun q=>by cases q<;>simp[dK]
 cases o<;>simp only[wK]at hf<;>first
  | (cases hf;done)
  | exact key _ h
theorem zgp(hφ:nT C φ)(hR:R.mode.running=true)(hN:R.n=N){κn:Tm->qA->kB}(hκ:∀tm H,κn tm H=some x->Fin C f acs (.next ⟨⟨k,tm,R⟩,acs,H⟩) x){old:Tm}{olds:List (Nat × List Nat)} :
  ∀(l:List lG) (tm:Tm) (H:qA),wI C φ all N old olds κn l tm H=some x->Fin C f acs (.next ⟨⟨.reg all old olds l::k,tm,R⟩,acs,H⟩) x:=by
 intro l;induction l with
 | nil=>
  intro tm H h;refine .step ?_
  rw[cL hR];exact hκ tm H h
 | cons st l ih=>
  intro tm H h;rw[wV,lA]at h;obtain⟨o,h1,h⟩:=h
  rw[lA]at h;obtain⟨w,h2',h⟩:=h
  by_cases hfl:Nat.blt (wB all.toList) st.heavy=true
  ·-- an operation that is done early
   unfold fP at h2';unfold hvI at h1 h;rw[hfl]at h1 h2' h
   simp only[cond_true,lA,lB,yac]at h1 h2'
   obtain⟨w',h2,⟨hw,hfo⟩,h2'⟩:=h2'
   cases h2'
   subst hw;simp only[if_true,cond_true]at h;have hval:∃v H',(bE o.op).f C (.mixed tm old (iE (Nat.sub st.heavy (Nat.succ (wB all.toList))) olds) (aG o.op)) H=.val v H':=by
    cases hr:(bE o.op).f C (.mixed tm old (iE (Nat.sub st.heavy (Nat.succ (wB all.toList))) olds) (aG o.op)) H with
    | val v H'=>exact⟨v,H',rfl⟩
    | enter g args=>exact(z09 hfo hr).elim
    | _=>rw[hr]at h;cases h
   obtain⟨v,H',hv⟩:=hval
   rw[hv]at h;have h:(pJ C o.type v fun v=>eJ C H' all old olds (putA N tm o.dst v) (fH C H' all N old olds (fun tm=>wI C φ all N old olds κn l tm H') st.lights (putA N tm o.dst v)) st.again)=some x:=h
   rw[yM]at h;obtain⟨ha,hl⟩:=kX _ h.2
   obtain⟨tm',hl1,hl2⟩:=qZ _ _ hl
   refine .step ?_
   rw[cL hR];show Fin C f acs (zr1 all old olds (st::l) C k tm R acs H) x
   unfold zr1;have hnone:oD all.toList st.heavy=none:=by
    rw[vE];have:=lC.1 hfl
    rw[bD]at this;exact List.getElem?_eq_none (by omega)
   simp only[hnone];rw[hfl,cond_true];unfold znf;rw[h1,sA,h2,sA,hv];show Fin C f acs (mK (ob (sO C H' all R.n old olds st.lights (putA R.n tm o.dst v)) fun tm'=>some ⟨⟨.reg all old olds l::k,tm',R⟩,acs,H'⟩) 23) x
   rw[hN,hl1,sA];exact ih _ _ hl2
  have hfl:Nat.blt (wB all.toList) st.heavy=false:=Bool.eq_false_iff.2 hfl
  unfold fP at h2';unfold hvI at h1 h;rw[hfl]at h1 h2' h
  simp only[cond_false,lA]at h1 h2'
  obtain⟨w',h2,h2'⟩:=h2'
  cases h2'
  simp only[cond_false]at h;have back0:∀v H' c',nI (⟨.reg all old olds (st::l)::k,tm,R⟩:xC) v=some c' →
    eJ C H' all old olds (putA N tm o.dst v) (fH C H' all N old olds (fun tm=>wI C φ all N old olds κn l tm H') st.lights (putA N tm o.dst v)) st.again=some x->Fin C f acs (.next ⟨c',acs,H'⟩) x:=by
   intro v H' c' hc hK;unfold nI at hc;simp only[hR,cond_true]at hc;have hc:(ob (oD all.toList st.heavy) fun o=>some (⟨.reg all old olds (⟨all.size,st.lights,st.again⟩::l)::k,putA R.n tm o.dst v,R⟩:xC))=some c':=hc
   rw[h1,sA]at hc
   cases hc;refine .step ?_
   rw[cL hR,hN];obtain⟨ha,hl⟩:=kX _ hK
   obtain⟨tm',hl1,hl2⟩:=qZ _ _ hl
   show Fin C f acs (zr1 all old olds (⟨all.size,st.lights,st.again⟩::l) C k (putA N tm o.dst v) R acs H') x
   unfold zr1;have:oD all.toList all.size=none:=by rw[vE];simp
   simp only[this];rw[iC,if_neg fun e=>by have:=lC.1 e;rw[bD]at this;simp at this]
   show Fin C f acs (zb8 all old olds ⟨all.size,st.lights,st.again⟩ l C k (putA N tm o.dst v) R acs H') x
   unfold zb8;simp only[ha,hN,hl1,sA];exact ih _ _ hl2
  have back:∀v H' c',nI (⟨.reg all old olds (st::l)::k,tm,R⟩:xC) v=some c' →
    (pJ C o.type v fun v=>eJ C H' all old olds (putA N tm o.dst v) (fH C H' all N old olds (fun tm=>wI C φ all N old olds κn l tm H') st.lights (putA N tm o.dst v)) st.again)=some x->Fin C f acs (.next ⟨c',acs,H'⟩) x:=by
   intro v H' c' hc hK;rw[yM]at hK;exact back0 v H' c' hc hK.2
  refine .step ?_
  rw[cL hR];show Fin C f acs (zr1 all old olds (st::l) C k tm R acs H) x
  unfold zr1;simp only[h1];unfold zne;rw[h2];simp only[];have hfin:∀v,∃c',nI (⟨.reg all old olds (st::l)::k,tm,R⟩:xC) v=some c':=fun v=>⟨⟨.reg all old olds (⟨all.size,st.lights,st.again⟩::l)::k,putA R.n tm o.dst v,R⟩,by
   unfold nI;simp only[hR,cond_true];show(ob (oD all.toList st.heavy) fun o=>some (⟨.reg all old olds (⟨all.size,st.lights,st.again⟩::l)::k,putA R.n tm o.dst v,R⟩:xC))=_
   rw[h1];rfl⟩
  cases w with
  | true=>
   simp only[if_true]at h;exact zff hφ h back hfin
  | false=>
   simp only[yar,if_false]at h;obtain⟨c',hc⟩:=hfin rE
   show Fin C f acs (z5c rE H C _ acs H) x
   unfold z5c;rw[hc];exact back0 _ _ _ hc h
theorem z0z{live:List Nat}{tm:Tm}{i:Nat}{v:zA}(h:(keep live tm).get i=some v):tm.get i=some v:=by
 unfold keep Tm.get at h;simp only[jH]at h;split at h
 case isFalse=>cases h
 rename_i hk;have key:∀live:List Nat,(zju tm live).get i=some v->tm.get i=some v:=by
  intro live;induction live with
  | nil=>intro h;rw[show zju tm []=.leaf from rfl,Tr.get_leaf]at h;cases h
  | cons j live ih=>
   intro h;have h:(match tm.get j with | some v=>(zju tm live).set j v | none=>zju tm live:Tr zA).get i=some v:=h
   cases hj:tm.get j with
   | none=>rw[hj]at h;exact ih h
   | some u=>
    rw[hj]at h;simp only[]at h;rw[Tr.get_set]at h;split at h
    ·rename_i e;rw[e,hj];exact h
    ·exact ih h
 exact key live h
theorem zf1{todo:List fD}(hr:z00 todo=false){live:List Nat}{tm:Tm}{H:qA}(h:Fin C f acs (.next ⟨⟨todo,keep live tm,R⟩,acs,H⟩) x):Fin C f acs (.next ⟨⟨todo,tm,R⟩,acs,H⟩) x:=
 Fin.of (.forget hr (fun _ _=>z0z) (.refl _)) h
theorem zj1(hR:R.mode.running=true){t1 t2:List fD}(h1:z00 t1=false)(hs:∀tm H,zho C t1 tm R acs H=zho C t2 tm R acs H){tm:Tm}{H:qA}(h:Fin C f acs (.next ⟨⟨t2,tm,R⟩,acs,H⟩) x):Fin C f acs (.next ⟨⟨t1,tm,R⟩,acs,H⟩) x:=by
 obtain⟨fr,hr,hv⟩:=h
 refine⟨fr,?_,hv⟩
 generalize ho:(.next ⟨⟨t2,tm,R⟩,acs,H⟩:fC)=o at hr
 generalize ho':(.next ⟨fr,acs,x.2⟩:fC)=o' at hr
 induction hr generalizing tm with
 | refl=>
  subst ho'
  cases ho;rw[hv.1]at hR;cases hR
 | step h ih=>
  subst ho;refine .step ?_
  rw[cL hR,hs,<- cL hR];exact h
 | forget hr2 hs2 h ih=>
  cases ho;exact .forget h1 hs2 (ih rfl ho')
theorem zxr(hφ:nT C φ)(hR:R.mode.running=true)(hN:R.n=N)(hfn:R.fn=f):∀(c:fF) (κ:Kt) (k:List fD),SoundK C f acs R κ k x->∀tm H,gD C φ f N c κ tm H=some x->Fin C f acs (.next ⟨⟨.code (kH c)::k,tm,R⟩,acs,H⟩) x:=by
 intro c;induction c with
 | skip=>
  intro κ k hκ tm H h;refine .step ?_
  rw[cL hR];exact hκ.norm _ _ h
 | region id ops d=>
  intro κ k hκ tm H h;refine .step ?_
  rw[cL hR]
  cases d with
  | false=>exact zqo hφ hR hN hκ.norm _ _ _ h
  | true=>
   have h:(ob (ob (C.plans.get f) fun t=>t.get id) fun p=>sB (uO ops p) (fH C H ops N tm.cut p.olds (fun tm'=>wI C φ ops N tm.cut p.olds κ.norm p.stages tm' H) p.first tm.cut))=some x:=h
   rw[lA]at h;obtain⟨p,h1,h⟩:=h
   rw[lB]at h;obtain⟨tm',hl1,hl2⟩:=qZ _ _ h.2
   show Fin C f acs (zr4 id ops C k tm R acs H) x
   unfold zr4;rw[hfn,h1,sA,h.1,hN,hl1];exact zgp hφ hR hN hκ.norm _ _ _ hl2
 | seq a b iha ihb=>
  intro κ k hκ tm H h;refine zj1 hR (t1:=.code (kH (.seq a b))::k) rfl (t2:=.code (kH a)::.code (kH b)::k) (fun _ _=>rfl) ?_
  refine iha ⟨gD C φ f N b κ,κ.exit,κ.ret⟩ _ ⟨fun tm H h=>ihb _ _ hκ tm H h,fun i tm H h=>?_,hκ.ret⟩ tm H h
  obtain⟨k',h1,h2⟩:=hκ.exit i tm H h
  exact⟨k',h1,h2⟩
 | cond c a b iha ihb=>
  intro κ k hκ tm H h;have h:(ob (ob (ev c (.now tm)) zA.asBool) fun t=>Bool.rec (motive:=fun _=>kB) (gD C φ f N b κ tm H) (gD C φ f N a κ tm H) t)=some x:=h
  rw[lA]at h;obtain⟨t,h1,h⟩:=h
  refine .step ?_
  rw[cL hR];show Fin C f acs (zr5 c (kH a) (kH b) C k tm R acs H) x
  unfold zr5;rw[h1]
  cases t with
  | true=>exact iha _ _ hκ _ _ h
  | false=>exact ihb _ _ hκ _ _ h
 | block id c ih=>
  intro κ k hκ tm H h;refine .step ?_
  rw[cL hR];have nx:∀tm H,κ.norm tm H=some x->Fin C f acs (.next ⟨⟨.inBlock id::k,tm,R⟩,acs,H⟩) x:=by
   intro tm H h;refine .step ?_
   rw[cL hR];exact hκ.norm _ _ h
  refine ih ⟨κ.norm,fun i tm H=>Bool.rec (motive:=fun _=>kB) (κ.exit i tm H) (κ.norm tm H) (Nat.beq id i),κ.ret⟩ _ ⟨nx,fun i tm H h=>?_,hκ.ret⟩ tm H h
  simp only[jH]at h;unfold mO;simp only[fD.blockId];rw[iC];split at h
  ·rename_i e;rw[if_pos e];exact⟨k,rfl,hκ.norm _ _ h⟩
  ·rename_i e;rw[if_neg e];exact hκ.exit _ _ _ h
 | loop live c ih=>
  intro κ k hκ tm H h;obtain⟨m,hm⟩:=zvx h
  have it:∀(m:Nat) tm H,(Nat.rec (motive:=fun _=>Tm->qA->kB) (fun _ _=>none) (fun _ r tm H=>gD C φ f N c ⟨r,κ.exit,κ.ret⟩ (keep live.kept tm) H) m:Tm->qA->kB) tm H=some x->Fin C f acs (.next ⟨⟨.inLoop (kH c)::k,tm,R⟩,acs,H⟩) x:=by
   intro m;induction m with
   | zero=>intro tm H h;cases h
   | succ m ihm=>
    intro tm H h;refine zf1 (live:=live.kept) rfl (.step ?_)
    rw[cL hR];exact ih ⟨_,κ.exit,κ.ret⟩ _ ⟨ihm,fun i tm H h=>hκ.exit i tm H h,hκ.ret⟩ _ _ h
  exact zj1 hR (t1:=.code (kH (.loop live c))::k) rfl (t2:=.inLoop (kH c)::k) (fun _ _=>rfl) (it m tm H hm)
 | exit id=>
  intro κ k hκ tm H h;obtain⟨k',h1,h2⟩:=hκ.exit id tm H h
  refine .step ?_
  rw[cL hR];show Fin C f acs (zr3 id C k tm R acs H) x
  unfold zr3;rw[h1];exact h2
 | ret=>exact fun κ k hκ tm H h=>hκ.ret tm H h k
 | cut live c ih=>exact fun κ k hκ tm H h=>zf1 rfl (ih κ k hκ _ _ h)
end
end Go.Am
namespace Go.Am
open Go Go.RowKit
def endK (C:iA)(fn:Func)(tm:Tm)(H:qA):kB:=ob (xU C H tm fn.results.toList) fun l=>some (gT l,H)
def zy7 (C:iA)(fn:Func):Kt:=⟨endK C fn,fun _ _ _=>none,endK C fn⟩
def uN(C:iA)(A:Tr fF)(φ:Ora):Ora:=fun f args H=>ob (A.get f) fun c=>ob (C.fns.get f) fun fn=>ob (vJ C f args false) fun g=>gD C φ f fn.ntmps c (zy7 C fn) g.tm H
def z23 (C:iA)(A:Tr fF):Nat->Ora
 | 0=>fun _ _ _=>none
 | n+1=>uN C A (z23 C A n)
def wF (C:iA)(A:Tr fF):Ora:=fun f args H=>lim fun n=>z23 C A n f args H
section
variable {C:iA}{A:Tr fF}
theorem ze4{φ φ':Ora}(h:OLe φ φ'):OLe (uN C A φ) (uN C A φ'):=by
 intro f args H x hx;unfold uN at hx ⊢
 rw[lA]at hx ⊢
 obtain⟨c,h1,hx⟩:=hx
 refine⟨c,h1,?_⟩
 rw[lA]at hx ⊢
 obtain⟨fn,h2,hx⟩:=hx
 refine⟨fn,h2,?_⟩
 rw[lA]at hx ⊢
 obtain⟨g,h3,hx⟩:=hx
 exact⟨g,h3,dV h c _ _ (KLe.refl _) _ _ _ hx⟩
theorem zvg:∀n,OLe (z23 C A n) (z23 C A (n+1)):=by
 intro n;induction n with
 | zero=>intro f args H x h;cases h
 | succ n ih=>exact ze4 ih
theorem wX{f:Nat}{args:List zA}{H:qA}{x:zA × qA}:wF C A f args H=some x ↔ ∃n,z23 C A n f args H=some x:=
 zbv fun n _ hy=>zvg n _ _ _ _ hy
theorem z6u:z39 (z23 C A) (wF C A):=⟨zvg,fun _ _ _ _ h=>wX.1 h⟩
theorem fnV_eq(f:Nat)(args:List zA)(H:qA):wF C A f args H=uN C A (wF C A) f args H:=by
 have key:∀x,wF C A f args H=some x ↔ uN C A (wF C A) f args H=some x:=by
  intro x;constructor
  ·intro h
   obtain⟨n,hn⟩:=wX.1 h
   cases n with
   | zero=>cases hn
   | succ n=>exact ze4 (fun f a H y hy=>wX.2 ⟨n,hy⟩) _ _ _ _ hn
  ·intro h
   unfold uN at h;rw[lA]at h;obtain⟨c,h1,h⟩:=h
   rw[lA]at h;obtain⟨fn,h2,h⟩:=h
   rw[lA]at h;obtain⟨g,h3,h⟩:=h
   have sup:SupK (fun _=>zy7 C fn) (zy7 C fn):=⟨⟨fun _ _ _ _ h=>h,fun _ _ _ h=>⟨0,h⟩⟩,fun i=>⟨fun _ _ _ _ h=>h,fun _ _ _ h=>⟨0,h⟩⟩,⟨fun _ _ _ _ h=>h,fun _ _ _ h=>⟨0,h⟩⟩⟩
   obtain⟨n,hn⟩:=(zxq z6u c _ _ sup).ex _ _ _ h
   refine wX.2 ⟨n+1,?_⟩
   show uN C A (z23 C A n) f args H=some x
   unfold uN;rw[h1,sA,h2,sA,h3,sA];exact hn
 cases h:wF C A f args H with
 | some x=>exact((key x).1 h).symm
 | none=>
  cases h2:uN C A (wF C A) f args H with
  | none=>rfl
  | some x=>rw[(key x).2 h2]at h;cases h
def eU(C:iA)(A:Tr fF):Prop:=∀f c,A.get f=some c->∃fn,C.fns.get f=some fn/\fn.body=some (kH c)
theorem zmm{f:Nat}{args:List zA}{g:xC}(h:vJ C f args false=some g):∃fn c,C.fns.get f=some fn/\fn.body=some c/\g.todo=[.code c]/\g.R=⟨f,fn.ntmps,[],.run,false,none⟩:=by
 unfold vJ at h;simp only[lA,lB]at h;obtain⟨fn,h1,c,h2,k,h3,_,h⟩:=h
 cases h;exact⟨fn,c,h1,h2,rfl,rfl⟩
theorem zpi{f:Nat}{fn:Func}{acs:List xC}{x:zA × qA}(hf:C.fns.get f=some fn){tm:Tm}{H:qA}(h:endK C fn tm H=some x){todo:List fD}{R:jI}(hR:R=⟨f,fn.ntmps,[],.run,false,none⟩)
  (hs:zho C todo tm R acs H=.next ⟨zcx ⟨todo,tm,R⟩ .returning,acs,H⟩):Fin C f acs (.next ⟨⟨todo,tm,R⟩,acs,H⟩) x:=by
 unfold endK at h;rw[lA]at h;obtain⟨l,h1,h2⟩:=h
 cases h2;refine .step ?_
 rw[cL (by rw[hR];rfl),hs]
 subst hR;exact⟨_,.refl _,rfl,rfl,rfl,rfl,fn,l,hf,h1,rfl⟩
theorem zlf(hA:eU C A){φ:Ora}(hφ:nT C φ):nT C (uN C A φ):=by
 intro f args H x h;unfold uN at h;rw[lA]at h;obtain⟨c,h1,h⟩:=h
 rw[lA]at h;obtain⟨fn,h2,h⟩:=h
 rw[lA]at h;obtain⟨g,h3,h⟩:=h
 refine⟨g,h3,fun acs=>?_⟩
 obtain⟨fn',c',e1,e2,e3,e4⟩:=zmm h3
 rw[h2]at e1;cases e1
 obtain⟨fn',e5,e6⟩:=hA f c h1
 rw[h2]at e5;cases e5
 rw[e2]at e6;cases e6
 obtain⟨gt,gtm,gR⟩:=g
 simp only at e3 e4 h
 subst e3;have:=zxr (acs:=acs) (R:=gR) (x:=x) hφ (by rw[e4];rfl) (by rw[e4]) (by rw[e4]) c (zy7 C fn) [] ⟨?_,?_,?_⟩ gtm H h
 ·exact this
 ·intro tm H h
  exact zpi h2 h e4 (by rw[e4];rfl)
 ·intro i tm H h
  cases h
 ·intro tm H h k'
  exact zpi h2 h e4 (by rw[e4];rfl)
theorem zqr(hA:eU C A):∀n,nT C (z23 C A n):=by
 intro n;induction n with
 | zero=>intro f args H x h;cases h
 | succ n ih=>exact zlf hA ih
theorem zw7(hA:eU C A):nT C (wF C A):=by
 intro f args H x h;obtain⟨n,hn⟩:=wX.1 h
 exact zqr hA n _ _ _ _ hn
theorem zka{P:Program}{B N:Nat}{I:World->Prop}{μ:Mu}{w:World}(hS:Sim P C B N I)(hI:I w)(hA:eU C A){f:Nat}{args:List zA}{args':Array Value}{H H':qA}{v:zA}(hH:oB B N μ H w)(hl:qB μ args args'.toList)
  (h:wF C A f args H=some (v,H')):Calls P f args' w fun e w'=>∃v' μ',e=.returned v'/\μ.lw μ'/\rA μ' v v'/\oB B N μ' H' w'/\Below N w w':=by
 intro base;obtain⟨g,he,hr⟩:=zw7 hA _ _ _ _ h
 obtain⟨fr',r1,h1,h2,h3,h4,fn,l,h5,h6,rfl⟩:=hr []
 have h0:qD P C B N μ base (lone (Frame.enter P f args' .normal) base w) w (.next ⟨g,[],H⟩):=zzi hS.fns hH hl he
 obtain⟨μ',b,cs,w',s1,s2,s3,s4,s5,s6⟩:=qD.reach hS hI r1 h0
 cases s6
 have hb:=s5.body
 rw[if_neg (by rw[h1];simp[zes.running])]at hb
 obtain⟨v',q1,q2⟩:=zfd hS.tys s4 hb h6
 have hm:=s5.rest.mode
 rw[h1]at hm;have hbm:b.mode=.returning:=by
  cases hb:b.mode with
  | returning=>rfl
  | _=>rw[hb]at hm;exact hm.elim
 have hd:=s5.rest.defers
 rw[h2]at hd;have hbd:b.defers=[]:=by
  generalize hx:b.defers=bd at hd
  cases hd;rfl
 have hk:=s5.rest.kind
 rw[h3]at hk;have hfn:b.fn=f:=by rw[s5.rest.fn,h4]
 exact⟨.returned v',w',b,⟨v',μ',rfl,s2,q2,s4,s3⟩,s1,hfn,hbm,hbd,hk,fn,by rw[hfn];exact(hS.fns _ _ h5).1,q1⟩
end
end Go.Am
namespace Go.Am
open Go Go.RowKit
def mA(C:iA)(t:Nat)(H:qA)(v:zA):Option zA:=ob v.asPtr fun p=>ob (C.tys.get t) fun ty=>ob (nD H p.1) fun c=>oN ty c.1 p.2
def tM(C:iA)(s d:Nat)(H:qA)(a:zA):Option zA:=ob (C.tys.get s) fun s=>ob (C.tys.get d) fun d=>iN C s d a H
def yH(C:iA)(t:Nat)(H:qA)(a:zA)(l h:Option zA):Option zA:=ob (C.tys.get t) fun ty=>pK C H ty a l h
def sS(C:iA)(s f:Nat):Option Nat:=ob (C.tys.get s) fun ty=>ob ty.desc.asStruct fun fs=>ob (oD fs f) fun fd=>sB (!Nat.beq fd.2.2 0) (some fd.1)
def pB(C:iA)(s f:Nat)(v:zA):Option zA:=ob (sS C s f) fun k=>ob v.asPtr fun p=>some (.ptr p.1 (p.2+k))
def zB(C:iA)(t:Nat)(v i:zA):Option zA:=
 ob (C.tys.get t) fun ty=>ob i.asNat fun i=>
  match v.asSlice with
  | some s=>ob ty.desc.asSlice fun el=>ob (C.tys.get el) fun et=>sB (Nat.blt i s.2.2.1) (some (.ptr s.1 (s.2.1+i*et.size)))
  | none=>ob v.asPtr fun p=>ob ty.desc.asArr fun a=>ob (C.tys.get a.2) fun et=>sB (Nat.blt i a.1) (some (.ptr p.1 (p.2+i*et.size)))
def zni(C:iA)(t i:Nat):Option Nat:=ob (C.tys.get t) fun ty=>ob ty.desc.asArr fun a=>ob (C.tys.get a.2) fun et=>sB (Nat.blt i a.1) (some (i*et.size))
def aN(C:iA)(t:Nat)(v i:zA):Option zA:=
 ob (C.tys.get t) fun ty=>ob i.asNat fun i=>
  match v.asStr with
  | some s=>sB ty.desc.isString (ob (oD s i) fun b=>some (.int .u8 (.ofNat b)))
  | none=>ob v.asAgg fun l=>ob ty.desc.asArr fun a=>ob (C.tys.get a.2) fun et=>sB (Nat.blt i a.1) (vO C a.2 l (i*et.size))
def vC(i:Nat)(v:zA):Option zA:=ob v.asTup fun l=>oD l i
def zrv (C:iA)(t:Nat)(H:qA)(v:zA):Option zA:=ob (C.tys.get t) fun ty=>ob (zv1 H ty v) fun n=>some (.int .i64 (.ofNat n))
def uB(v:zA):Option zA:=
 match v.asSlice with
 | some s=>some (.int .i64 (.ofNat s.2.2.1))
 | none=>sB (Nat.beq v.tag 5) (some (.int .i64 (.ofNat 0)))
def fG (v:zA):Option zA:=sB (Nat.beq v.tag 4||Nat.beq v.tag 9) (some v)
def zk2(C:iA)(u:Nat)(ok:Bool)(v:zA):Option zA:=
 ob (C.tys.get u) fun ty=>sB (Nat.blt ty.desc.tag 9) (
  match v.asIface with
  | some p=>bif Nat.beq p.1 u then some (bif ok then .tup [p.2,.bool true]else p.2)else sB ok (some (.tup [zef ty,.bool false]))
  | none=>sB (Nat.beq v.tag 12&&ok) (some (.tup [zef ty,.bool false])))
def cP(C:iA)(t:Nat)(H:qA)(m k:zA)(ok:Bool):Option zA:=
 ob (C.tys.get t) fun ty=>ob ty.desc.asMap fun ke=>ob (C.tys.get ke.1) fun kty=>sB (jV kty.desc) (ob (C.tys.get ke.2) fun ety=>
  ob (zeo H m) fun es=>sB (zfw kty.desc k) (ob (zhk k es) fun r=>
   match r with
   | some v=>some (bif ok then .tup [v,.bool true]else v)
   | none=>some (bif ok then .tup [zef ety,.bool false]else zef ety)))
def sM(C:iA)(t:Nat)(H:qA):Option (zA × qA):=ob (C.tys.get t) fun ty=>some (.ptr H.next 0,jF H ty.zero none)
def zsj (v:zA)(H:qA):Option (zA × qA):=some (.ptr H.next 0,jF H v.cells none)
def oF(C:iA)(t len:Nat)(ps:List (Nat × zA))(H:qA):Option (zA × qA):=
 ob (C.tys.get t) fun ty=>ob ty.desc.asSlice fun el=>ob (C.tys.get el) fun et=>
  sB (Nat.blt (len*et.size) 1000000&&Nat.beq (wB et.zero) et.size) (ob (iM (fun i=>some (i*et.size,et.size)) ps (rJ et.zero len)) fun l=>some (.slice H.next 0 len len,jF H l none))
def xE(C:iA)(t:Nat)(a v:zA)(H:qA):Option (zA × qA):=ob (C.tys.get t) fun ty=>ob a.asPtr fun p=>sB (Nat.beq (wB v.cells) ty.size) (ob (fK C H p.1 p.2 v.cells) fun H'=>some (rE,H'))
def aU(H:qA):Option (zA × qA):=some (.map H.next,newBlk H (.map []))
def tS(C:iA)(t:Nat)(m k v:zA)(H:qA):Option (zA × qA):=
 ob (C.tys.get t) fun ty=>ob ty.desc.asMap fun ke=>ob (C.tys.get ke.1) fun kty=>sB (jV kty.desc)
  (ob m.asMap fun b=>sB (!Nat.blt b C.base) (ob (kL H b) fun l=>sB (zfw kty.desc k) (ob (rR k v l) fun l'=>some (rE,setBlk H b (.map l')))))
def sL(C:iA)(t:Nat)(l c:zA)(H:qA):Option (zA × qA):=
 ob (C.tys.get t) fun ty=>ob ty.desc.asSlice fun el=>ob (C.tys.get el) fun et=>ob l.asNat fun l=>ob c.asNat fun c=>
  sB (Nat.ble l c&&Nat.blt c 1000000&&Nat.blt (c*et.bytes) 1000000000&&Nat.beq (wB et.zero) et.size) (some (.slice H.next 0 l c,jF H (rJ et.zero c) none))
def zgd(C:iA)(s d:Nat)(v:zA)(H:qA):Option (zA × qA):=
 ob (C.tys.get s) fun _=>ob (C.tys.get d) fun ty=>ob ty.desc.asSlice fun el=>ob (C.tys.get el) fun et=>ob et.desc.asInt fun k=>sB (kEq k .u8) (ob v.asStr fun l=>
  some (.slice H.next 0 (wB l) (wB l),jF H (lP l) (some 1)))
def eE(C:iA)(t u:Nat)(a b:zA)(H:qA):Option (zA × qA):=ob (C.tys.get t) fun ty=>ob (C.tys.get u) fun uty=>sB (!Nat.beq uty.desc.tag 1) (bM C H ty a b)
def vNext(v:zA)(H:qA):Option (zA × qA):=ob v.asPtr fun p=>sB (Nat.beq p.2 0) (ob (ob (H.t.get p.1) jA.asIter) fun x=>
 match oD x.1 x.2 with
 | some c=>sB (Nat.blt c 128) (some (.tup [.bool true,.int .i64 (.ofNat x.2),.int .i32 (.ofNat c)],setBlk H p.1 (.siter x.1 (x.2+1))))
 | none=>some (.tup [.bool false],H))
structure znb where
 b:Nat->Bool
 i:Nat->Int
 s:Nat->List Nat
 v:Nat->zA
inductive T where
 | ret (v:zA)
 | fail
 | ite (b:Bool) (x y:T)
 | opt (x:Option zA) (K:zA->T)
 | light (x:Tr jA->Option zA) (K:zA->T)
 | heavy (x:qA->Option (zA × qA)) (K:zA->T)
 | call (f:Nat) (args:List zA) (K:zA->T)
 | callv (f:zA) (args:List zA) (K:zA->T)
 | asI (k:IntKind) (v:zA) (K:Int->T)
 | asB (v:zA) (K:Bool->T)
 | asS (v:zA) (K:List Nat->T)
 | asG (zs:List zA) (v:zA) (K:znb->T)
 | jump (i:Nat) (vals:List zA)
def zvh(z:zA)(X:znb)(j:Nat):zA:=
 match z with
 | .bool _=>.bool (X.b j)
 | .int k _=>.int k (X.i j)
 | .str _=>.str (X.s j)
 | _=>X.v j
def lV(zs:List zA)(X:znb):Nat->List zA:=
 List.rec (motive:=fun _=>Nat->List zA) (fun _=>[]) (fun z _ g j=>zvh z X j::g (j+1)) zs
def lF(l:List zA)(j:Nat):Bool:=match l[j]? with | some (.bool b)=>b | _=>false
def yG(l:List zA)(j:Nat):Int:=match l[j]? with | some (.int _ n)=>n | _=>0
def dG(l:List zA)(j:Nat):List Nat:=match l[j]? with | some (.str s)=>s | _=>[]
def sF(l:List zA)(j:Nat):zA:=match l[j]? with | some v=>v | _=>.nilptr
def cellsOf(l:List zA):znb:=⟨lF l,yG l,dG l,sF l⟩
def gG (z a:zA):Bool:=
 match z with
 | .bool _=>Nat.beq a.tag 0
 | .int k _=>match a.asIntK with | some p=>kEq p.1 k | none=>false
 | .str _=>Nat.beq a.tag 2
 | .nilptr=>Nat.beq a.tag 3||Nat.beq a.tag 4
 | .nilslice=>Nat.beq a.tag 5||Nat.beq a.tag 6
 | .nilmap=>Nat.beq a.tag 7||Nat.beq a.tag 8
 | .nilfunc=>Nat.beq a.tag 10||Nat.beq a.tag 9
 | .niliface=>Nat.beq a.tag 12||Nat.beq a.tag 11
 | _=>false
def jM:List zA->List zA->Bool
 | [],[]=>true
 | z::zs,a::l=>gG z a&&jM zs l
 | _,_=>false
structure TSt where
 tm:Tm
 ad:List (Nat × Nat × Nat)
 lo:Tr (List zA)
 lit:List Nat
abbrev KT:=TSt->T
structure KtT where
 norm:KT
 exit:Nat->KT
 ret:KT
def wC {α:Type}(x:Option α)(K:α->T):T:=Option.rec (motive:=fun _=>T) .fail K x
def gdT (b:Bool)(K:T):T:=Bool.rec (motive:=fun _=>T) .fail K b
def sI(i:Nat)(l:List (Nat × Nat × Nat)):Option (Nat × Nat):=
 List.rec (motive:=fun _=>Option (Nat × Nat)) none (fun a _ g=>Bool.rec (motive:=fun _=>Option (Nat × Nat)) g (some a.2) (Nat.beq i a.1)) l
inductive zkt where
 | now (ad:List (Nat × Nat × Nat))
 | mixed (ad old:List (Nat × Nat × Nat)) (olds names:List Nat)
def tAd (e:zkt)(t:Nat):Option (Nat × Nat):=
 match e with
 | .now ad=>sI t ad
 | .mixed ad old olds names=>bif pH t names then sI t (bif pH t olds then old else ad)else none
def xAd (e:zkt)(x:Operand):Option (Nat × Nat):=
 match x with
 | .tmp t=>tAd e t
 | _=>none
def H0A:qA:=⟨0,.leaf⟩
def rH (C:iA)(t:Nat):Nat:=
 match C.tys.get t with
 | some ty=>ty.desc.tag
 | none=>10
def zg9(x:Operand):Bool:=
 match x with
 | .const _=>true
 | _=>false
def zxv(x:Operand):Bool:=
 match x with
 | .const (.int _ n) => !wA n 0
 | _=>false
def binDir(C:iA)(op:BinOp)(t:Nat)(y:Operand):Bool:=
 match op with
 | .add=>Nat.beq (rH C t) 1
 | .sub=>true
 | .mul=>true
 | .quo=>zxv y
 | .rem=>zxv y
 | .shl=>zg9 y
 | .shr=>zg9 y
 | .eql=>Nat.ble (rH C t) 2
 | .neq=>Nat.ble (rH C t) 2
 | .lss=>Nat.ble (rH C t) 2
 | .leq=>Nat.ble (rH C t) 2
 | .gtr=>Nat.ble (rH C t) 2
 | .geq=>Nat.ble (rH C t) 2
 | _=>false
structure KOp where
 K:zA->T
 Kd:zA->T
 KA:Nat->Nat->T
def zno (C:iA)(op:Op)(e:wD)(k:KOp):T:=wC ((iF op).f C e H0A) k.Kd
def zza(C:iA)(op:Op)(x:Operand)(e:wD)(ae:zkt)(k:KOp):T:=
 match xAd ae x with
 | some p=>k.KA p.1 p.2
 | none=>zno C op e k
def tLoad(C:iA)(t:Nat)(a:Operand)(e:wD)(ae:zkt)(lo:Tr (List zA))(k:KOp):T:=
 match xAd ae a with
 | some p=>wC (lo.get p.1) fun l=>wC (C.tys.get t) fun ty=>gdT (Nat.ble (p.2+ty.size) (wB l)) (wC (vO C t l p.2) k.Kd)
 | none=>wC (ev a e) fun v=>.light (fun m=>mA C t ⟨0,m⟩ v) k.K
def ze3(C:iA)(s:Nat)(x:Operand)(f:Nat)(e:wD)(ae:zkt)(k:KOp):T:=
 match xAd ae x with
 | some p=>wC (sS C s f) fun o=>k.KA p.1 (p.2+o)
 | none=>wC (ev x e) fun v=>.opt (pB C s f v) k.K
def ze2(C:iA)(t:Nat)(x i:Operand)(e:wD)(ae:zkt)(k:KOp):T:=
 match xAd ae x with
 | some p=>wC (ev i e) fun i=>wC i.asNat fun i=>wC (zni C t i) fun o=>k.KA p.1 (p.2+o)
 | none=>wC (ev x e) fun v=>wC (ev i e) fun i=>.opt (zB C t v i) k.K
def tNil (x:Operand)(e:wD)(ae:zkt)(k:KOp):T:=
 match xAd ae x with
 | some p=>k.KA p.1 p.2
 | none=>wC (ev x e) fun v=>.opt (fG v) k.K
def tLen (C:iA)(c:Call)(e:wD)(k:KOp):T:=
 wC (oD c.argTypes.toList 0) fun t=>wC (oD c.args.toList 0) fun x=>wC (ev x e) fun v=>
  bif Nat.beq (rH C t) 4 then .opt (uB v) k.K else bif Nat.beq (rH C t) 6 then .light (fun m=>zrv C t ⟨0,m⟩ v) k.K else wC (zrv C t H0A v) k.Kd
def tBin (C:iA)(op:BinOp)(t:Nat)(x y:Operand)(u:Nat)(e:wD)(k:KOp):T:=
 bif binDir C op t y then zno C (.binOp op t x y u) e k else wC (ev x e) fun a=>wC (ev y e) fun b=>.opt ((wL op).f C t x y a b) k.K
def z4r(C:iA)(s d:Nat)(x:Operand)(e:wD)(k:KOp):T:=
 bif Nat.beq (rH C d) 2 then(bif Nat.beq (rH C s) 2 then zno C (.convert s d x) e k else wC (ev x e) fun v=>.light (fun m=>tM C s d ⟨0,m⟩ v) k.K)else bif Nat.beq (rH C d) 1 then zno C (.convert s d x) e k else .fail
def z2i(C:iA)(t:Nat)(x:Operand)(lo hi:Option Operand)(e:wD)(k:KOp):T:=
 wC (ev x e) fun a=>wC (evo lo e) fun l=>wC (evo hi e) fun h=>
  bif Nat.beq (rH C t) 2 then .opt (yH C t H0A a l h) k.K else .light (fun m=>yH C t ⟨0,m⟩ a l h) k.K
def tW(C:iA)(c:Call)(e:wD)(k:KOp):Builtin->T
 | .len=>tLen C c e k
 | .max=>zno C (.call c) e k
 | .min=>zno C (.call c) e k
 | _=>.fail
def zf5(ty:vD)(v:zA):List zA:=bif ty.desc.isAgg then v.cells else [v]
def z1e(cells:List zA)(off size:Nat)(vc:List zA):Option (List zA):=
 sB (Nat.beq (wB vc) size&&Nat.ble (off+wB vc) (wB cells)) (some (cF (xP cells off) (cF vc (lK cells (off+wB vc)))))
def zu2(C:iA)(tyAt:Nat->Option Nat):List (Nat × zA)->Option (List (Nat × zA × List zA) × List zA):=
 List.rec (motive:=fun _=>Option (List (Nat × zA × List zA) × List zA)) (some ([],[]))
  (fun p _ g=>ob (tyAt p.1) fun t=>ob (C.tys.get t) fun ty=>ob g fun r=>some (bif ty.desc.isAgg then((p.1,p.2,p.2.cells)::r.1,r.2)else((p.1,p.2,[p.2])::r.1,p.2::r.2)))
def z1f(place:Nat->Option (Nat × Nat)):List (Nat × zA × List zA)->List zA->Option (List zA):=
 List.rec (motive:=fun _=>List zA->Option (List zA)) (fun cells=>some cells) (fun p _ g cells=>ob (place p.1) fun q=>ob (z1e cells q.1 q.2 p.2.2) fun cells=>g cells)
def tyAtS(ty:vD)(i:Nat):Option Nat:=
 match ty.desc.asStruct with
 | some fs=>ob (oD fs i) fun x=>some x.2.1
 | none=>ob ty.desc.asArr fun a=>some a.2
def zfj(C:iA)(ty:vD)(i:Nat):Option (Nat × Nat):=
 match ty.desc.asStruct with
 | some fs=>ob (oD fs i) fun x=>some (x.1,x.2.2)
 | none=>ob ty.desc.asArr fun a=>ob (C.tys.get a.2) fun et=>some (i*et.size,et.size)
def zkg(C:iA)(ty:vD):Bool:=
 match ty.desc.asStruct with
 | some _=>true
 | none=>match ty.desc.asArr with
  | some a=>(match C.tys.get a.2 with | some _=>true | none=>false)
  | none=>false
def z2k(C:iA)(t:Nat)(ps:Array (Nat × Operand))(e:wD)(k:KOp):T:=
 wC (C.tys.get t) fun ty=>gdT (zkg C ty) <| wC (evp ps.toList e) fun vs=>wC (zu2 C (tyAtS ty) vs) fun q=>wC (z1f (zfj C ty) q.1 ty.zero) fun l=>.ite (bB zA.one q.2) (k.Kd (.agg l)) .fail
def tL (C:iA)(op:Op)(e:wD)(ae:zkt)(lo:Tr (List zA))(k:KOp):T:=
 match op with
 | .move x=>zza C (.move x) x e ae k
 | .assign x=>zza C (.assign x) x e ae k
 | .load t a=>tLoad C t a e ae lo k
 | .fieldAddr s x f=>ze3 C s x f e ae k
 | .indexAddr t x i=>ze2 C t x i e ae k
 | .nilCheck x=>tNil x e ae k
 | .binOp op t x y u=>tBin C op t x y u e k
 | .convert s d x=>z4r C s d x e k
 | .slice t x lo hi none=>z2i C t x lo hi e k
 | .index t x i=>bif zg9 i&&Nat.beq (rH C t) 5 then zno C (.index t x i) e k else wC (ev x e) fun v=>wC (ev i e) fun i=>.opt (aN C t v i) k.K
 | .extract t i=>wC (ev t e) fun v=>.opt (vC i v) k.K
 | .typeAssert x _ u ok=>wC (ev x e) fun v=>.opt (zk2 C u ok v) k.K
 | .lookup t x i ok=>wC (ev x e) fun m=>wC (ev i e) fun key=>.light (fun h=>cP C t ⟨0,h⟩ m key ok) k.K
 | .call c=>match c.callee with
  | .builtin b=>tW C c e k b
  | _=>.fail
 | .pick c a b=>zno C (.pick c a b) e k
 | .unOp o t x=>(match o with
  | .xor=>wC (ev x e) fun v=>.opt (zk4 v) k.K
  | o=>zno C (.unOp o t x) e k)
 | .makeInterface t x=>zno C (.makeInterface t x) e k
 | .makeFunc fn a b=>zno C (.makeFunc fn a b) e k
 | .field t x f=>zno C (.field t x f) e k
 | .build t ps=>z2k C t ps e k
 | _=>.fail
def laOf (la:List Nat)(dst:Option Nat):Option Nat:=
 match dst with
 | some d=>bif pH d la then some d else none
 | none=>none
structure KLo where
 new:Nat->List zA->T
 set:Nat->List zA->T
def z2j(f:Operand)(args:Array Operand)(e:wD)(k:KOp):T:=
 match f with
 | .func g=>wC (evs args.toList e) fun as=>.call g as k.K
 | f=>wC (ev f e) fun fv=>wC (evs args.toList e) fun as=>.callv fv as k.K
def two' (c:Call)(e:wD)(K:zA->zA->T):T:=wC (two c e) fun p=>K p.1 p.2
def zii(C:iA)(c:Call)(e:wD)(k:KOp):Builtin->T
 | .append=>wC (oD c.argTypes.toList 0) fun t=>wC (oD c.argTypes.toList 1) fun u=>two' c e fun a b=>.heavy (eE C t u a b) k.K
 | b=>tW C c e k b
def z2h(C:iA)(t:Nat)(a x:Operand)(e:wD)(ae:zkt)(lo:Tr (List zA))(k:KOp)(kl:KLo):T:=
 match xAd ae a with
 | some p=>wC (ev x e) fun v=>wC (C.tys.get t) fun ty=>wC (lo.get p.1) fun l=>wC (z1e l p.2 ty.size (zf5 ty v)) fun l'=>.ite (bB zA.one (zf5 ty v)) (kl.set p.1 l') .fail
 | none=>wC (ev a e) fun a=>wC (ev x e) fun v=>.heavy (xE C t a v) k.Kd
def tH (C:iA)(la:List Nat)(dst:Option Nat)(op:Op)(e:wD)(ae:zkt)(lo:Tr (List zA))(k:KOp)(kl:KLo):T:=
 match op with
 | .box t x=>wC (ev x e) fun v=>(match laOf la dst with
  | some d=>wC (C.tys.get t) fun ty=>bif ty.desc.isAgg then kl.new d v.cells else .ite (zA.one v) (kl.new d [v]) .fail
  | none=>.heavy (zsj v) k.K)
 | .alloc t=>(match laOf la dst with
  | some d=>wC (C.tys.get t) fun ty=>kl.new d ty.zero
  | none=>.heavy (sM C t) k.K)
 | .store t a x=>z2h C t a x e ae lo k kl
 | .buildSlice t len ps=>wC (evp ps.toList e) fun ps=>.heavy (oF C t len ps) k.K
 | .makeMap _ none=>.heavy aU k.K
 | .insert t m key x=>wC (ev m e) fun m=>wC (ev key e) fun key=>wC (ev x e) fun v=>.heavy (tS C t m key v) k.Kd
 | .mapUpdate t m key x=>wC (ev m e) fun m=>wC (ev key e) fun key=>wC (ev x e) fun v=>.heavy (tS C t m key v) k.Kd
 | .makeSlice t l c=>wC (ev l e) fun l=>wC (ev c e) fun c=>.heavy (sL C t l c) k.K
 | .convert s d x=>bif Nat.beq (rH C d) 4 then wC (ev x e) fun v=>.heavy (zgd C s d v) k.K else z4r C s d x e k
 | .call c=>match c.callee with
  | .value f=>z2j f c.args e k
  | .builtin b=>zii C c e k b
  | _=>.fail
 | op=>tL C op e ae lo k
def rmNat(i:Nat)(l:List Nat):List Nat:=List.rec (motive:=fun _=>List Nat) [] (fun j _ g=>bif Nat.beq i j then g else j::g) l
def zp9 (n:Nat)(dst:Option Nat)(v:zA)(lt:Bool)(st:TSt)(κ:KT):T:=
 match dst with
 | none=>κ st
 | some d=>bif Nat.blt d n then gdT (yL (sI d st.ad)) (κ ⟨st.tm.set d v,st.ad,st.lo,bif lt then d::rmNat d st.lit else rmNat d st.lit⟩)else κ st
def z4p(n:Nat)(dst:Option Nat)(d off:Nat)(st:TSt)(κ:KT):T:=
 wC dst fun i=>gdT (Nat.blt i n) (gdT (yL (st.tm.get i)) (κ ⟨st.tm,(i,d,off)::st.ad,st.lo,st.lit⟩))
def z24(d:Nat)(ad:List (Nat × Nat × Nat)):Bool:=bB (fun a=>bif Nat.beq a.2.1 d then Nat.beq a.1 d else true) ad
def tNew (n:Nat)(d:Nat)(l:List zA)(st:TSt)(κ:KT):T:=
 gdT (Nat.blt d n) (gdT (yL (st.tm.get d)) (gdT (z24 d st.ad) (κ ⟨st.tm,(d,d,0)::st.ad,st.lo.set d l,st.lit⟩)))
def fitB (C:iA)(t:Nat)(v:zA):Bool:=
 match C.tys.get t with
 | some ty=>(match ty.desc with
  | .bool=>Nat.beq v.tag 0
  | .int k=>(match v.asIntK with | some p=>kEq p.1 k | none=>false)
  | .string=>Nat.beq v.tag 2
  | _=>true)
 | none=>true
def zs3(C:iA)(t:Nat)(v:zA)(K:zA->T):T:=
 match C.tys.get t with
 | some ty=>(match ty.desc with
  | .bool=>.asB v fun b=>K (.bool b)
  | .int k=>.asI k v fun n=>K (.int k n)
  | .string=>.asS v fun s=>K (.str s)
  | .struct _=>bif Nat.ble (wB ty.zero) 40 then .asG ty.zero v fun X=>K (.agg (lV ty.zero X 0))else K v
  | .arr _ _=>bif Nat.ble (wB ty.zero) 40 then .asG ty.zero v fun X=>K (.agg (lV ty.zero X 0))else K v
  | _=>K v)
 | none=>K v
def z26 (x:Operand)(lit:List Nat):Bool:=
 match x with
 | .tmp t=>lit.contains t
 | .const _=>true
 | _=>false
def z0n(op:Op)(e:wD)(lit:List Nat):Bool:=
 match op with
 | .move x=>z26 x lit
 | .assign x=>z26 x lit
 | .unOp _ _ x=>z26 x lit
 | .pick c a b=>bif z26 c lit then(match ob (ev c e) zA.asBool with
  | some w=>bif w then z26 a lit else z26 b lit
  | none=>false)else false
 | _=>false
def zg8(all:List Oper)(dst:Option Nat)(l:List Oper):Bool:=
 match dst with
 | none=>false
 | some d => !bB (fun o=>match o.guard with
  | some g=>(match ob (oD all g.1) fun p=>p.dst with | some i => !Nat.beq i d | none=>true)
  | none=>true) l
def ze1(g lt:Bool)(v:zA)(K:zA->Bool->T):T:=
 bif g then(bif lt then K v true else wC v.asBool fun b=>.ite b (K (.bool true) true) (K (.bool false) true))else K v lt
def kop (C:iA)(all:Array Oper)(n:Nat)(o:Oper)(e:wD)(st:TSt)(κ:KT):KOp:=
 ⟨fun v=>zs3 C o.type v fun v=>ze1 (zg8 all.toList o.dst all.toList) (z0n o.op e st.lit) v fun v lt=>zp9 n o.dst v lt st κ,
  fun v=>gdT (fitB C o.type v) (ze1 (zg8 all.toList o.dst all.toList) (z0n o.op e st.lit) v fun v lt=>zp9 n o.dst v lt st κ),
  fun d off=>gdT (!Nat.ble (rH C o.type) 2) (z4p n o.dst d off st κ)⟩
def klo (C:iA)(n:Nat)(o:Oper)(st:TSt)(κ:KT):KLo:=
 ⟨fun d l=>gdT (!Nat.ble (rH C o.type) 2) (tNew n d l st κ),
  fun d l=>gdT (fitB C o.type rE) (zp9 n o.dst rE false ⟨st.tm,st.ad,st.lo.set d l,st.lit⟩ κ)⟩
def wD.adCut(k:Nat)(l:List (Nat × Nat × Nat)):List (Nat × Nat × Nat):=l.filter fun a=>Nat.blt a.1 k
def TSt.cut(st:TSt):TSt:=⟨st.tm.cut,wD.adCut st.tm.k st.ad,st.lo,st.lit⟩
def tops (C:iA)(la:List Nat)(all:Array Oper)(n:Nat)(κ:KT)(l:List Oper):KT:=
 List.rec (motive:=fun _=>KT) κ
  (fun o _ g st=>wC (kF o.guard all st.tm) fun w=>Bool.rec (motive:=fun _=>T) (zp9 n o.dst rE false st g)
   (tH C la o.dst o.op (.now st.tm) (.now st.ad) st.lo (kop C all n o (.now st.tm) st g) (klo C n o st g)) w) l
def zry (st old:TSt)(olds:List Nat)(op:Op):wD:=.mixed st.tm old.tm olds (aG op)
def z5u (st old:TSt)(olds:List Nat)(op:Op):zkt:=.mixed st.ad old.ad olds (aG op)
def wR(C:iA)(all:Array Oper)(n:Nat)(old:TSt)(olds:List (Nat × List Nat))(κ:KT)(l:List Nat):KT:=
 List.rec (motive:=fun _=>KT) κ
  (fun i _ g st=>wC (oD all.toList i) fun o=>wC (kF o.guard all st.tm) fun w=>Bool.rec (motive:=fun _=>T) (zp9 n o.dst rE false st g)
   (tL C o.op (zry st old (iE i olds) o.op) (z5u st old (iE i olds) o.op) st.lo (kop C all n o (zry st old (iE i olds) o.op) st g)) w) l
def uR(C:iA)(all:Array Oper)(old:TSt)(olds:List (Nat × List Nat))(st:TSt)(k:T)(l:List Nat):T:=
 List.rec (motive:=fun _=>T) k
  (fun i _ g=>wC (oD all.toList i) fun o=>wC o.dst fun d=>wC (kF o.guard all st.tm) fun w=>Bool.rec (motive:=fun _=>T) g
   (wC (st.tm.get d) fun u=>gdT (fitB C o.type u) (tL C o.op (zry st old (iE i olds) o.op) (z5u st old (iE i olds) o.op) st.lo ⟨fun v=>.ite (same 10 v u) g .fail,fun v=>.ite (same 10 v u) g .fail,fun _ _=>.fail⟩)) w) l
def zch(C:iA)(all:Array Oper)(n:Nat)(old:TSt)(olds:List (Nat × List Nat))(κ:KT)(l:List lG):KT:=
 List.rec (motive:=fun _=>KT) κ
  (fun s _ g st=>wC (oD all.toList (hvI all s.heavy)) fun o=>wC (fP all s.heavy o st.tm) fun w=>
   (fun cont:KT=>Bool.rec (motive:=fun _=>T) (zp9 n o.dst rE false st cont)
    (tH C [] o.dst o.op (zry st old (iE (hvI all s.heavy) olds) o.op) (z5u st old (iE (hvI all s.heavy) olds) o.op) st.lo (kop C all n o (zry st old (iE (hvI all s.heavy) olds) o.op) st cont) (klo C n o st cont)) w)
   (fun st'=>uR C all old olds st' (wR C all n old olds g s.lights st') s.again)) l
def zsu(C:iA)(la:List Nat)(fn n:Nat)(κ:KT)(id:Nat)(all:Array Oper)(draw:Bool):KT:=
 Bool.rec (motive:=fun _=>KT) (fun st=>tops C la all n κ all.toList st.cut)
  (fun st=>wC (ob (C.plans.get fn) fun t=>t.get id) fun p=>gdT (uO all p) (wR C all n st.cut p.olds (zch C all n st.cut p.olds κ p.stages) p.first st.cut)) draw
def zev(st:TSt)(ll:List (Nat × Nat)):Option (List zA):=
 List.rec (motive:=fun _=>Option (List zA)) (some []) (fun p _ g=>ob (sI p.1 st.ad) fun a=>sB (Nat.beq a.1 p.1&&Nat.beq a.2 0) (ob (st.lo.get p.1) fun l=>sB (Nat.beq (wB l) p.2) (ob g fun r=>some (cF l r)))) ll
def zeu(p:PI)(st:TSt):Option (List zA):=ob (oI (fun i=>st.tm.get i) p.pl) fun a=>ob (zev st p.ll) fun b=>some (cF a b)
def zys (ll:List (Nat × Nat)):List zA->Tr (List zA):=
 List.rec (motive:=fun _=>List zA->Tr (List zA)) (fun _=>.leaf) (fun p _ g vals=>(g (lK vals p.2)).set p.1 (xP vals p.2)) ll
def z2p (pl:List Nat):List zA->Tr zA:=
 List.rec (motive:=fun _=>List zA->Tr zA) (fun _=>.leaf) (fun i _ g vals=>List.rec (motive:=fun _=>Tr zA) .leaf (fun v vals _=>(g vals).set i v) vals) pl
def stAd (ll:List (Nat × Nat)):List (Nat × Nat × Nat):=List.rec (motive:=fun _=>List (Nat × Nat × Nat)) [] (fun p _ g=>(p.1,p.1,0)::g) ll
def stAt (k:Nat)(p:PI)(vals:List zA):TSt:=⟨⟨k,z2p p.pl vals,[]⟩,stAd p.ll,zys p.ll (lK vals (wB p.pl)),[]⟩
def znk (C:iA)(la:List Nat)(fn n:Nat)(c:fF):KtT->KT:=
 fF.rec (motive:=fun _=>KtT->KT)
  (fun κ st=>κ.norm st)
  (fun id all draw κ=>zsu C la fn n κ.norm id all draw)
  (fun _ _ ga gb κ=>ga ⟨gb κ,κ.exit,κ.ret⟩)
  (fun c _ _ gx gy κ st=>wC (ob (ev c (.now st.tm)) zA.asBool) fun b=>bif z26 c st.lit then Bool.rec (motive:=fun _=>T) (gy κ st) (gx κ st) b else .ite b (gx κ st) (gy κ st))
  (fun id _ g κ=>g ⟨κ.norm,fun i st=>Bool.rec (motive:=fun _=>T) (κ.exit i st) (κ.norm st) (Nat.beq id i),κ.ret⟩)
  (fun p _ _ _ st=>wC (zeu p st) fun vals=>.jump p.id vals)
  (fun id κ st=>κ.exit id st)
  (fun κ st=>κ.ret st)
  (fun p _ _ _ st=>wC (zeu p st) fun vals=>.jump p.id vals) c
structure PtT where
 p:PI
 tree:List zA->T
def zq0(p:PI):KT:=fun st=>wC (zeu p st) fun vals=>.jump p.id vals
def mS(C:iA)(la:List Nat)(fn n k:Nat)(c:fF):KtT->List PtT:=
 fF.rec (motive:=fun _=>KtT->List PtT)
  (fun _=>[])
  (fun _ _ _ _=>[])
  (fun _ b ga gb κ=>cF (ga ⟨znk C la fn n b κ,κ.exit,κ.ret⟩) (gb κ))
  (fun _ _ _ gx gy κ=>cF (gx κ) (gy κ))
  (fun id _ g κ=>g ⟨κ.norm,fun i st=>Bool.rec (motive:=fun _=>T) (κ.exit i st) (κ.norm st) (Nat.beq id i),κ.ret⟩)
  (fun p c g κ=>⟨p,fun vals=>znk C la fn n c ⟨zq0 p,κ.exit,κ.ret⟩ (stAt k p vals)⟩::g ⟨zq0 p,κ.exit,κ.ret⟩)
  (fun _ _=>[])
  (fun _=>[])
  (fun p c g κ=>⟨p,fun vals=>znk C la fn n c κ (stAt k p vals)⟩::g κ) c
def resT (C:iA)(st:TSt)(l:List ResultVar):(List zA->T)->T:=
 List.rec (motive:=fun _=>(List zA->T)->T) (fun K=>K [])
  (fun r _ g K=>match r with
   | .tmp t=>wC (st.tm.get t) fun v=>g fun l=>K (v::l)
   | .cell a t=>match sI a st.ad with
    | some p=>wC (st.lo.get p.1) fun l=>wC (C.tys.get t) fun ty=>gdT (Nat.ble (p.2+ty.size) (wB l)) (wC (vO C t l p.2) fun v=>g fun l=>K (v::l))
    | none=>wC (st.tm.get a) fun a=>.light (fun m=>mA C t ⟨0,m⟩ a) fun v=>g fun l=>K (v::l)) l
def endT (C:iA)(fn:Func):KT:=fun st=>resT C st fn.results.toList fun l=>.ret (gT l)
def topT (C:iA)(fn:Func):KtT:=⟨endT C fn,fun _ _=>.fail,endT C fn⟩
structure jB where
 code:fF
 la:List Nat
def entT (C:iA)(fn:Func)(k:Nat)(f:Nat)(A:jB)(args:List zA):T:=znk C A.la f fn.ntmps A.code (topT C fn) ⟨⟨k,Tr.ofList args,[]⟩,[],.leaf,[]⟩
def ptsT (C:iA)(fn:Func)(k:Nat)(f:Nat)(A:jB):List PtT:=mS C A.la f fn.ntmps k A.code (topT C fn)
def zqn(l:List PtT)(i:Nat)(vals:List zA):List T:=List.rec (motive:=fun _=>List T) [] (fun p _ g=>bif Nat.beq p.p.id i then p.tree vals::g else g) l
end Go.Am
