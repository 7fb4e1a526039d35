/- The simulation: ranges over functions, all code. -/
import Derived.Test.YtjiklgloidlihaaGreatDoorAmSim6
namespace Go.Am
open Go Go.RowKit
section
variable {P : Program} {C : Ctx} {N : Nat} {I : World → Prop} {μ ν : Mu} {H H' : AHeap} {w : World} {tm : Tm} {R : FRest} {acs : List AFrame} {base cs : List Frame}
variable {b : Frame} {tmps : Array Value} {ds : List Deferred} {k : List AItem} {k' : List Item} {all : Array Oper}
theorem begin_ok (hH : HRel N μ H w) (hcs : All2 (FrRel C μ none) acs cs) (hR : RestRel μ R (b.atR ⟨tmps, ds⟩ [])) (ht : TmRel μ R.n tm tmps) (hk : All2 (ItemRel μ) k k') :
    OutOk P C N μ base (lone (b.atR ⟨tmps, ds⟩ (.beginRound :: k')) (cs ++ base) w) w (xBegin C k tm R acs H) := by
  unfold xBegin
  cases hr : R.roundOf with
  | none => exact trivial
  | some l =>
    obtain ⟨i, hi, hb⟩ : ∃ i, μ l = some i ∧ b.roundOf = some i.b := by
      have := hR.round
      rw [hr] at this
      exact round_some this
    rw [ob_some']
    cases hx : loopAt H l with
    | none => exact trivial
    | some r =>
      rw [ob_some']
      cases hst : Nat.beq (LoopState.tag r.state) 0 with
      | false => exact trivial
      | true =>
        obtain ⟨hl, i', r', hg, hi', hw, rel⟩ := loopAt_ok hH hx
        rw [hi] at hi'; cases hi'
        have ready : r'.state = .ready := by
          rw [rel.state]
          cases hs : r.state <;> rw [hs] at hst <;> first | rfl | simp [LoopState.tag, Nat.beq] at hst
        have run : (Instr.beginRound i.b).run P w = .ok () (World.setBlk w i.b (.loop { r' with state := .busy })) := by
          simp only [Instr.beginRound, Sem.run_bind, run_getLoop hw, Result.andThen_ok, run_setObj hw notCells_loop, ready, Sem.run_pure]
        refine ⟨μ, _, cs, _, .one (stepR_beginRound hb run), fun _ _ h => h, below_setBlk (hH.own l i hl hi).1, ?_, ⟨?_, ?_⟩, hcs⟩
        · refine hH.upd hg hi hl ?_
          rw [BRel]
          exact ⟨_, rfl, rfl, rel.pending, rel.fn, rel.tm, rel.params, rel.assign, rel.body, rel.defers⟩
        · refine ⟨hR.fn, hR.size, hR.defers, hR.mode, hR.kind, ?_⟩
          exact hR.round
        · show if R.mode.running = true then BodyRel C μ R.n _ k tm k' tmps else TmRel μ R.n tm tmps
          rw [if_pos hR.running]
          exact .plain hk ht
theorem stepR_endRange {l : Nat} {jump : Option Code} {w' : World} {cs : List Frame} (hr : (Instr.endLoop l).run P w = .ok jump w') :
    step P (lone (b.atR ⟨tmps, ds⟩ (.endRangeFunc l :: k')) cs w) = .next (lone (b.atR ⟨tmps, ds⟩ ((jump.map Item.code).toList ++ k')) cs w') :=
  step_lone_go (by simp [stepG, stepG.exec, Frame.atR, Sem.runT_eq, hr])
theorem endRange_ok (hH : HRel N μ H w) (hcs : All2 (FrRel C μ none) acs cs) (hR : RestRel μ R (b.atR ⟨tmps, ds⟩ [])) (ht : TmRel μ R.n tm tmps) (hk : All2 (ItemRel μ) k k') {l : Nat} {i : BI} (hi : μ l = some i) :
    OutOk P C N μ base (lone (b.atR ⟨tmps, ds⟩ (.endRangeFunc i.b :: k')) (cs ++ base) w) w (xEndRange l C k tm R acs H) := by
  unfold xEndRange
  cases hx : loopAt H l with
  | none => exact trivial
  | some r =>
    rw [ob_some']
    cases hst : Nat.beq (LoopState.tag r.state) 1 with
    | true => exact trivial
    | false =>
      obtain ⟨hl, i', r', hg, hi', hw, rel⟩ := loopAt_ok hH hx
      rw [hi] at hi'; cases hi'
      have busy : r'.state ≠ .busy := by
        intro e
        rw [rel.state] at e
        rw [e] at hst
        cases hst
      have run : (Instr.endLoop i.b).run P w = .ok r'.pending (World.setBlk w i.b (.loop { r' with state := .exhausted })) := by
        simp [Instr.endLoop, Sem.run_bind, run_getLoop hw, Result.andThen_ok, run_setObj hw notCells_loop, busy]
      refine ⟨μ, _, cs, _, .one (stepR_endRange run), fun _ _ h => h, below_setBlk (hH.own l i hl hi).1, ?_, ⟨?_, ?_⟩, hcs⟩
      · refine hH.upd hg hi hl ?_
        rw [BRel]
        exact ⟨_, rfl, rfl, rel.pending, rel.fn, rel.tm, rel.params, rel.assign, rel.body, rel.defers⟩
      · exact ⟨hR.fn, hR.size, hR.defers, hR.mode, hR.kind, hR.round⟩
      · show if R.mode.running = true then BodyRel C μ R.n _ (match r.pending with | some c => .code c :: k | none => k) tm ((r'.pending.map Item.code).toList ++ k') tmps else TmRel μ R.n tm tmps
        rw [if_pos hR.running, rel.pending]
        cases r.pending with
        | none => exact .plain hk ht
        | some c => exact .plain (.cons (.code c) hk) ht
theorem stepR_range {f : Operand} {params : Array Nat} {assign body : Code} {l : Nat} {mark : List Deferred} {w1 : World} {g : Nat} {args' : Array Value} {cs : List Frame}
    (hE : (Instr.enterLoop b.fn tmps params assign body b.roundOf).run P w = .ok (l, mark) w1)
    (hA : (do let d ← resolve (Act.eval ⟨tmps, ds⟩) { callee := .value f, args := #[.const (.func (.yield l) #[] #[])], argTypes := #[] } 0; invoke d.target d.args : Sem Next).run P w1 = .ok (.enter g args') w1) :
    step P (lone (b.atR ⟨tmps, ds⟩ (.code (.rangeFunc f params assign body) :: k')) cs w) = .next (lone (Frame.enter P g args' .normal) (b.atR ⟨tmps, mark ++ ds⟩ (.inRangeFunc l :: k') :: cs) w1) := by
  refine step_lone_go ?_
  have he : (Frame.eval { b.atR ⟨tmps, ds⟩ (.code (.rangeFunc f params assign body) :: k') with todo := .inRangeFunc l :: k', defers := mark ++ ds }) = Act.eval ⟨tmps, ds⟩ := funext fun x => by cases x <;> rfl
  simp only [Frame.atR] at he
  simp only [stepG, stepG.exec, Frame.atR, Sem.runT_eq, hE, GStep.bare_after, stepG.apply, he, hA, if_true]
  rfl
theorem rangeIn_ok {l : Nat} {v : AVal} {h : AFrame} (e : rangeIn C l v = some h) : ∃ g first cap, v = .func (.func g) first cap ∧ C.prims.get g = none ∧ enterA C g (lapp first (.func (.yld l) [] [] :: cap)) false = some h := by
  unfold rangeIn at e
  rw [ob_some] at e
  obtain ⟨p, h1, h2⟩ := e
  obtain ⟨fn, first, cap⟩ := p
  rw [asFunc_some] at h1
  cases fn with
  | yld m => cases h2
  | func g =>
    cases hp : C.prims.get g with
    | some x => simp only [hp] at h2; cases h2
    | none => simp only [hp] at h2; exact ⟨g, first, cap, h1, hp, h2⟩
theorem range_call (hS : Sim P C N I) {l : Nat} {i : BI} {v : AVal} {h : AFrame} (e : rangeIn C l v = some h) (hi : μ l = some i) {f : Operand} (hv : VRel μ v (Act.eval ⟨tmps, ds⟩ f)) {cur : Option AHeap} :
    ∃ g args', (∀ w, (do let d ← resolve (Act.eval ⟨tmps, ds⟩) { callee := .value f, args := #[.const (.func (.yield i.b) #[] #[])], argTypes := #[] } 0; invoke d.target d.args : Sem Next).run P w = .ok (.enter g args') w) ∧
      FrRel C μ cur h (Frame.enter P g args' .normal) := by
  obtain ⟨g, first, cap, rfl, hp, he⟩ := rangeIn_ok e
  rw [VRel] at hv
  obtain ⟨fn, a', c', hv, hf, h1, h2⟩ := hv
  cases hf
  have hl : LRel μ (lapp first (.func (.yld l) [] [] :: cap)) (a' ++ #[Value.func (.yield i.b) #[] #[]] ++ c').toList := by
    rw [lapp_eq]
    have : LRel μ (AVal.func (.yld l) [] [] :: cap) (Value.func (.yield i.b) #[] #[] :: c'.toList) := .cons (by rw [VRel]; exact ⟨_, _, _, rfl, ⟨i, hi, rfl⟩, .nil, .nil⟩) h2
    simpa using h1.append this
  obtain ⟨fr, fn, hfn, hb⟩ := enter_ok (cur := cur) hS.fns he hl
  refine ⟨g, _, fun w => ?_, fr⟩
  simp only [Sem.run_bind, resolve, hv, Deferred.ofValue, Sem.run_pure, Result.andThen_ok, invoke]
  have : Array.map (Act.eval ⟨tmps, ds⟩) #[Operand.const (Value.func (.yield i.b) #[] #[])] = #[Value.func (.yield i.b) #[] #[]] := by simp [Act.eval]
  rw [this]
  exact run_callFunc hS.fns hfn hb
theorem range_ok (hS : Sim P C N I) (hH : HRel N μ H w) (hcs : All2 (FrRel C μ none) acs cs) (hR : RestRel μ R (b.atR ⟨tmps, ds⟩ [])) (ht : TmRel μ R.n tm tmps) (hk : All2 (ItemRel μ) k k') {f : Operand} {params : Array Nat} {assign body : Code} :
    OutOk P C N μ base (lone (b.atR ⟨tmps, ds⟩ (.code (.rangeFunc f params assign body) :: k')) (cs ++ base) w) w (xRange f params assign body C k tm R acs H) := by
  unfold xRange
  cases hv : ev f (.now tm) with
  | none => exact trivial
  | some v =>
    have hvr := ht.erel (ds := ds) hH.glob f _ hv
    rw [ob_some']
    cases hr : R.roundOf with
    | none =>
      have hb : b.roundOf = none := by
        have := hR.round
        rw [hr] at this
        exact round_none this
      simp only []
      cases hx : rangeIn C (H.next + 1) v with
      | none => exact trivial
      | some h =>
        have h1 := hH.newBlk (x := .deferred (some [])) (o := .deferred (some [])) (i := ⟨w.heap.size, true, 0, 0⟩) rfl (by rw [BRel]; exact ⟨_, rfl, .nil⟩)
        have le1 : μ.le (μ.ext H.next ⟨w.heap.size, true, 0, 0⟩) := hH.ext_le
        have le2 : (μ.ext H.next ⟨w.heap.size, true, 0, 0⟩).le ((μ.ext H.next ⟨w.heap.size, true, 0, 0⟩).ext (newBlk H (.deferred (some []))).next ⟨w.heap.size + 1, true, 0, 0⟩) := h1.ext_le
        have sz : (w.alloc (.deferred (some []))).heap.size = w.heap.size + 1 := Array.size_push ..
        have h2 := h1.newBlk (x := .loop ⟨.ready, none, R.fn, R.n, tm, params.toList, assign, body, H.next⟩) (o := .loop { state := .ready, pending := none, fn := b.fn, tmps, params, assign, body, defers := w.heap.size })
          (i := ⟨w.heap.size + 1, true, 0, 0⟩) sz.symm (by
            rw [BRel]
            exact ⟨_, rfl, rfl, rfl, hR.fn, (ht.mono le1).mono le2, rfl, rfl, rfl, ⟨_, le2 _ _ Mu.ext_same, rfl⟩⟩)
        have le := Mu.le_trans le1 le2
        have hi2 : ((μ.ext H.next ⟨w.heap.size, true, 0, 0⟩).ext (newBlk H (.deferred (some []))).next ⟨w.heap.size + 1, true, 0, 0⟩) (H.next + 1) = some ⟨w.heap.size + 1, true, 0, 0⟩ := Mu.ext_same
        obtain ⟨g, args', hA, hfr⟩ := range_call (ds := ds) hS hx hi2 (hvr.mono le _ _) (cur := some (newBlk (newBlk H (.deferred (some []))) (.loop ⟨.ready, none, R.fn, R.n, tm, params.toList, assign, body, H.next⟩)))
        have run : (Instr.enterLoop b.fn tmps params assign body b.roundOf).run P w = .ok (w.heap.size + 1, [{ target := .collected w.heap.size, args := #[] }]) ((w.alloc (.deferred (some []))).alloc (.loop { state := .ready, pending := none, fn := b.fn, tmps, params, assign, body, defers := w.heap.size })) := by
          rw [hb]
          simp [Instr.enterLoop, Sem.run_bind, Result.andThen_ok]
        refine ⟨_, _, b.atR ⟨tmps, { target := .collected w.heap.size, args := #[] } :: ds⟩ (.inRangeFunc (w.heap.size + 1) :: k') :: cs, _, .one (stepR_range run (hA _)), le, ?_, h2, hfr, .cons ⟨?_, ?_⟩ (hcs.mono fun _ _ r => r.mono le)⟩
        · refine (below_alloc hH.size _).trans (below_alloc ?_ _)
          rw [sz]; have := hH.size; omega
        · have := hR.mono le
          exact ⟨this.fn, this.size, .cons ⟨⟨_, le2 _ _ Mu.ext_same, rfl⟩⟩ this.defers, this.mode, this.kind, by have := this.round; rw [hr] at this; exact this⟩
        · show if R.mode.running = true then BodyRel C _ R.n none (.inRange (H.next + 1) :: k) tm (.inRangeFunc (w.heap.size + 1) :: k') tmps else _
          rw [if_pos hR.running]
          exact .plain (.cons (.inRange _ ⟨w.heap.size + 1, true, 0, 0⟩ hi2) (hk.mono fun _ _ r => r.mono le)) (ht.mono le)
    | some outer =>
      obtain ⟨io, hio, hb⟩ : ∃ i, μ outer = some i ∧ b.roundOf = some i.b := by
        have := hR.round
        rw [hr] at this
        exact round_some this
      simp only []
      cases hlo : loopAt H outer with
      | none => exact trivial
      | some o =>
        rw [ob_some']
        cases hx : rangeIn C H.next v with
        | none => exact trivial
        | some h =>
          obtain ⟨hl, i', r', hg, hi', hw, rel⟩ := loopAt_ok hH hlo
          rw [hio] at hi'; cases hi'
          obtain ⟨idf, hdf, hdf'⟩ := rel.defers
          have le : μ.le (μ.ext H.next ⟨w.heap.size, true, 0, 0⟩) := hH.ext_le
          have h2 := hH.newBlk (x := .loop ⟨.ready, none, R.fn, R.n, tm, params.toList, assign, body, o.defers⟩) (o := .loop { state := .ready, pending := none, fn := b.fn, tmps, params, assign, body, defers := r'.defers })
            (i := ⟨w.heap.size, true, 0, 0⟩) rfl (by
              rw [BRel]
              exact ⟨_, rfl, rfl, rfl, hR.fn, ht.mono le, rfl, rfl, rfl, ⟨idf, le _ _ hdf, hdf'⟩⟩)
          have hi2 : (μ.ext H.next ⟨w.heap.size, true, 0, 0⟩) H.next = some ⟨w.heap.size, true, 0, 0⟩ := Mu.ext_same
          obtain ⟨g, args', hA, hfr⟩ := range_call (ds := ds) hS hx hi2 (hvr.mono le _ _) (cur := some (newBlk H (.loop ⟨.ready, none, R.fn, R.n, tm, params.toList, assign, body, o.defers⟩)))
          have run : (Instr.enterLoop b.fn tmps params assign body b.roundOf).run P w = .ok (w.heap.size, []) (w.alloc (.loop { state := .ready, pending := none, fn := b.fn, tmps, params, assign, body, defers := r'.defers })) := by
            rw [hb]
            simp [Instr.enterLoop, Sem.run_bind, run_getLoop hw, Result.andThen_ok]
          refine ⟨_, _, b.atR ⟨tmps, ds⟩ (.inRangeFunc w.heap.size :: k') :: cs, _, .one (stepR_range run (hA _)), le, below_alloc hH.size _, h2, hfr, .cons ⟨?_, ?_⟩ (hcs.mono fun _ _ r => r.mono le)⟩
          · have := hR.mono le
            exact ⟨this.fn, this.size, this.defers, this.mode, this.kind, this.round⟩
          · show if R.mode.running = true then BodyRel C _ R.n none (.inRange H.next :: k) tm (.inRangeFunc w.heap.size :: k') tmps else _
            rw [if_pos hR.running]
            exact .plain (.cons (.inRange _ ⟨w.heap.size, true, 0, 0⟩ hi2) (hk.mono fun _ _ r => r.mono le)) (ht.mono le)
theorem stepR_scope {c : Code} : step P (lone (b.atR ⟨tmps, ds⟩ (.code (.scope c) :: k')) cs w) = .next (lone (b.atR ⟨tmps, ds⟩ (.code c :: .inScope c :: k')) cs w) :=
  step_lone_go (by simp [stepG, stepG.exec, Frame.atR])
theorem stepR_inScope {c : Code} : step P (lone (b.atR ⟨tmps, ds⟩ (.inScope c :: k')) cs w) = .next (lone (b.atR ⟨tmps, ds⟩ k') cs w) :=
  step_lone_go (by simp [stepG, stepG.exec, Frame.atR])
theorem code_ok (hS : Sim P C N I) (hI : I w) (hH : HRel N μ H w) (hcs : All2 (FrRel C μ none) acs cs) (hR : RestRel μ R (b.atR ⟨tmps, ds⟩ [])) (ht : TmRel μ R.n tm tmps) : ∀ (c : Code) {k : List AItem} {k' : List Item}, All2 (ItemRel μ) k k' →
    OutOk P C N μ base (lone (b.atR ⟨tmps, ds⟩ (.code c :: k')) (cs ++ base) w) w ((xCode c).f C k tm R acs H) := by
  intro c
  induction c with
  | skip => intro k k' hk; exact pass_ok hH hcs hR ht hk stepR_skip
  | region id ops d =>
    intro k k' hk
    cases d with
    | true => exact draw_ok hS hH hcs hR ht hk
    | false =>
      refine OutOk.of_steps (.one stepR_region) (fun _ _ h => h) (Below.refl N w) ?_
      have := runOps_ok (base := base) (all := ops) hS ops.toList 0 tm.cut H w μ tmps (by simp) (Nat.zero_le _) hI hH hcs hR ht.cut hk
      rw [List.drop_zero] at this
      exact this
  | seq x y ihx _ =>
    intro k k' hk
    exact OutOk.of_steps (.one stepR_seq) (fun _ _ h => h) (Below.refl N w) (ihx (.cons (.code y) hk))
  | cond c x y _ _ => intro k k' hk; exact cond_ok hH hcs hR ht hk
  | block id c _ => intro k k' hk; exact block_ok hH hcs hR ht hk
  | loop c _ => intro k k' hk; exact loop_ok hH hcs hR ht hk
  | rangeFunc f ps a c _ _ => intro k k' hk; exact range_ok hS hH hcs hR ht hk
  | exit id => intro k k' hk; exact exit_ok hH hcs hR ht hk
  | scope c _ => intro k k' hk; exact out_next hH hcs hR ht (.cons (.code _) (.cons (.inScope _) hk)) (.one stepR_scope)
  | label l => intro k k' hk; exact pass_ok hH hcs hR ht hk stepR_label
  | goto l => intro k k' _; exact trivial
  | ret => intro k k' _; exact ret_ok hH hcs hR ht
  | refuse s => intro k k' _; exact trivial
/-- a frame that runs -/
theorem exec_ok (hS : Sim P C N I) (hI : I w) (hH : HRel N μ H w) (hcs : All2 (FrRel C μ none) acs cs) (hR : RestRel μ R (b.atR ⟨tmps, ds⟩ [])) {todo : List AItem} {btodo : List Item} (hb : BodyRel C μ R.n (some H) todo tm btodo tmps) :
    OutOk P C N μ base (lone (b.atR ⟨tmps, ds⟩ btodo) (cs ++ base) w) w (execA C todo tm R acs H) := by
  generalize hc : some H = cur at hb
  cases hb with
  | plain a t =>
    cases a with
    | nil => exact end_ok hH hcs hR t
    | cons i hk =>
      cases i with
      | code c => exact code_ok hS hI hH hcs hR t c hk
      | inBlock id => exact pass_ok hH hcs hR t hk stepR_inBlock
      | inLoop c => exact out_next hH hcs hR t (.cons (.code _) (.cons (.inLoop _) hk)) (.one stepR_inLoop)
      | inScope c => exact pass_ok hH hcs hR t hk stepR_inScope
      | ops all i hi => exact runOps_ok hS _ i _ _ _ _ _ rfl hi hI hH hcs hR t hk
      | inRange l i hl => exact trivial
      | endRange l i hl => exact endRange_ok hH hcs hR t hk hl
      | beginRound => exact begin_ok hH hcs hR t hk
  | @reg _ all old _ olds stages _ order _ _ anc D S hr hst hp hk =>
    cases hc
    show OutOk P C N μ base _ w (xReg all old olds stages C _ tm R acs H)
    unfold xReg
    cases stages with
    | nil => exact regNil_ok hS hH hcs hR hk hr hst hp
    | cons st stages =>
      obtain ⟨_, _, D1, D2, h1, _⟩ := okStages_cons hst
      obtain ⟨o, ho, _⟩ := oneDone_ok h1
      have : lget all.toList st.heavy = some o := by rw [lget_eq]; simpa using ho
      simp only [this]
      exact heavy_ok hS hI hH hcs hR hk hr hst hp ho
  | @mid _ all old _ olds lights again stages _ order _ _ anc D D2 S hr h1 h2 hw hk =>
    show OutOk P C N μ base _ w (xReg all old olds (⟨all.size, lights, again⟩ :: stages) C _ tm R acs H)
    unfold xReg
    have : lget all.toList all.size = none := by rw [lget_eq]; simp
    simp only [this]
    exact lights_ok hH hcs hR hk (st := ⟨all.size, lights, again⟩) hr h1 h2 hw
  | wait _ _ _ _ => cases hc
end
end Go.Am
