/- The simulation: regions that draw. -/
import Derived.Test.YtjiklgloidlihaaGreatDoorAmSim2
namespace Go.Am
open Go Go.RowKit
section
variable {P : Program} {C : Ctx} {N : Nat} {I : World → Prop} {μ ν : Mu} {H H' : AHeap} {w : World} {tm : Tm} {R : FRest} {acs : List AFrame} {base cs : List Frame}
variable {b : Frame} {tmps : Array Value} {ds : List Deferred} {k : List AItem} {k' : List Item} {all : Array Oper} {olds : List (Nat × List Nat)} {anc : Tr Nat} {old : Tm} {D : Nat} {S : Nat → Bool} {order : List Nat}
theorem RestRel.slots {tmps' : Array Value} {todo : List Item} (h : RestRel μ R (b.atR ⟨tmps, ds⟩ todo)) (hs : tmps'.size = R.n) : RestRel μ R (b.atR ⟨tmps', ds⟩ todo) := ⟨h.fn, hs, h.defers, h.mode, h.kind, h.round⟩
theorem TmRel.cut {n : Nat} (h : TmRel μ n tm tmps) : TmRel μ n tm.cut tmps := by
  refine ⟨h.1, fun i v hv => h.2 i v ?_⟩
  unfold Tm.cut Tm.get at hv
  unfold Tm.get
  simp only [brec] at hv ⊢
  split at hv
  · rename_i e; rw [if_pos e]; exact hv
  · cases hv
theorem regNil_ok (hS : Sim P C N I) (hH : HRel N μ H w) (hcs : All2 (FrRel C μ none) acs cs) (hR : RestRel μ R (b.atR ⟨tmps, ds⟩ [])) (hk : All2 (ItemRel μ) k k')
    (hr : RegRel μ all olds anc R.n old tm D S order tmps) (hst : okStages all.toList anc [] D = true) (hp : PendAll C H all olds R.n old tm D S) :
    OutOk P C N μ base (lone (b.atR ⟨tmps, ds⟩ (.inRegion all order :: k')) (cs ++ base) w) w (xPass C k tm R acs H) := by
  obtain ⟨tmps', s, t⟩ := regEnd (b := b) (k := k') (cs := cs ++ base) (ds := ds) hS.tys hH hst order S tmps hr hp
  exact out_next hH hcs (hR.slots t.1) t hk s
theorem draw_ok (hS : Sim P C N I) (hH : HRel N μ H w) (hcs : All2 (FrRel C μ none) acs cs) (hR : RestRel μ R (b.atR ⟨tmps, ds⟩ [])) (ht : TmRel μ R.n tm tmps) (hk : All2 (ItemRel μ) k k') {id : Nat} :
    OutOk P C N μ base (lone (b.atR ⟨tmps, ds⟩ (.code (.region id all true) :: k')) (cs ++ base) w) w (xDraw id all C k tm R acs H) := by
  unfold xDraw
  cases hx : ob (ob (C.plans.get R.fn) fun t => t.get id) fun p => guardO (okPlan all p) <| ob (lightsA C H all R.n tm.cut p.olds p.first tm.cut) fun tm' => some (⟨⟨.reg all tm.cut p.olds p.stages :: k, tm', R⟩, acs, H⟩ : AState) with
  | none => exact trivial
  | some s =>
    simp only [ob_some, guardO_some] at hx
    obtain ⟨p, _, hok, tm', hl, hx⟩ := hx
    cases hx
    obtain ⟨anc, D, ro, h1, h2⟩ := okPlan_ok hok
    obtain ⟨r0, p0⟩ := regStart (C := C) (H := H) hS.mixed ro ht.cut (w.tape w.drawn (.order b.fn id))
    obtain ⟨r1, p1⟩ := lightsA_ok _ _ _ hl h1 r0 p0
    exact ⟨μ, _, cs, _, .one stepR_region_draw, fun _ _ h => h, (Below.refl N w).drew, hH.drew, ⟨hR.todo, by rw [if_pos hR.running]; exact .reg r1 h2 p1 hk⟩, hcs⟩
theorem lights_ok (hH : HRel N μ H w) (hcs : All2 (FrRel C μ none) acs cs) (hR : RestRel μ R (b.atR ⟨tmps, ds⟩ [])) (hk : All2 (ItemRel μ) k k') {st : Stage} {stages : List Stage} {D2 : Nat}
    (hr : RegRel μ all olds anc R.n old tm D S order tmps) (h1 : okLights all.toList st.lights D = some D2) (h2 : okStages all.toList anc stages D2 = true) (hw : WeakAll C all olds R.n old tm D S st.again) :
    OutOk P C N μ base (lone (b.atR ⟨tmps, ds⟩ (.inRegion all order :: k')) (cs ++ base) w) w (xLights all old olds st stages C k tm R acs H) := by
  unfold xLights
  cases hx : guardO (againA C H all old olds tm st.again) (ob (lightsA C H all R.n old olds st.lights tm) fun tm => some (⟨⟨.reg all old olds stages :: k, tm, R⟩, acs, H⟩ : AState)) with
  | none => exact trivial
  | some s =>
    simp only [ob_some, guardO_some] at hx
    obtain ⟨ha, tm', hl, hx⟩ := hx
    cases hx
    obtain ⟨r1, p1⟩ := lightsA_ok _ _ _ hl h1 hr (weak_pend hw ha)
    exact ⟨μ, _, cs, w, .refl _ _, fun _ _ h => h, Below.refl N w, hH, ⟨hR.todo, by rw [if_pos hR.running]; exact .reg r1 h2 p1 hk⟩, hcs⟩
/-- a frame that is no round begins to return -/
theorem returning_ok (hH : HRel N μ H w) (hcs : All2 (FrRel C μ none) acs cs) (hR : RestRel μ R (b.atR ⟨tmps, ds⟩ [])) (ht : TmRel μ R.n tm tmps) {m : Machine} {todo : List AItem} {btodo : List Item}
    (hs : Steps P m (lone { b.atR ⟨tmps, ds⟩ btodo with mode := .returning } (cs ++ base) w)) : OutOk P C N μ base m w (.next ⟨setMode ⟨todo, tm, R⟩ .returning, acs, H⟩) :=
  ⟨μ, _, cs, w, hs, fun _ _ h => h, Below.refl N w, hH, ⟨⟨hR.fn, hR.size, hR.defers, trivial, hR.kind, hR.round⟩, ht⟩, hcs⟩
theorem put_acts {dst : Option Tmp} {v : Value} : Act.put ⟨tmps, ds⟩ dst v = ⟨(Act.put ⟨tmps, ds⟩ dst v).tmps, ds⟩ := by unfold Act.put; cases dst <;> rfl
/-- an operation that comes to a value without a call -/
theorem value_step {i : Nat} {rest : List Nat} {o : Oper} {v : AVal} {cs : List Frame} (ho : all[i]? = some o) (hw : Region.wanted o (yielded all tmps) = true) (hd : ∀ c, o.op ≠ .defer c)
    (h : HvOk P N μ w (Act.eval ⟨tmps, ds⟩) o v H') :
    ∃ v' w' μ', step P (lone (b.atR ⟨tmps, ds⟩ (.inRegion all (i :: rest) :: k')) cs w) = .next (lone (b.atR ⟨(Act.put ⟨tmps, ds⟩ o.dst v').tmps, ds⟩ (.inRegion all rest :: k')) cs w') ∧
      μ.le μ' ∧ HRel N μ' H' w' ∧ Below N w w' ∧ VRel μ' v v' := by
  obtain ⟨v', w', μ', h1, h2, h3, h4, h5⟩ := h
  refine ⟨v', w', μ', ?_, h2, h3, h4, h5⟩
  rw [← put_acts]
  rcases h1 with h1 | ⟨h1, rfl⟩
  · exact stepR_value (a := ⟨tmps, ds⟩) ho hw (by rw [Oper.semAt_eq _ _ _ hd]; exact h1)
  · exact stepR_skipped (a := ⟨tmps, ds⟩) ho hw (by rw [Oper.semAt_eq _ _ _ hd]; exact h1)
theorem stepR_enter {i : Nat} {rest : List Nat} {o : Oper} {f : FuncId} {args : Array Value} {cs : List Frame} {w' : World} (ho : all[i]? = some o) (hw : Region.wanted o (yielded all tmps) = true) (hd : ∀ c, o.op ≠ .defer c)
    (h : (execOp (Act.eval ⟨tmps, ds⟩) o).run P w = .ok (.enter f args) w') :
    step P (lone (b.atR ⟨tmps, ds⟩ (.inRegion all (i :: rest) :: k')) cs w) = .next (lone (Frame.enter P f args .normal) (b.atR ⟨tmps, ds⟩ (.inRegion all (i :: rest) :: k') :: cs) w') :=
  step_lone_go (by
    rw [stepGR_op (a := ⟨tmps, ds⟩) ho hw, Oper.semAt_eq _ _ _ hd]
    simp [stepG.apply, Sem.runT_eq, h, Frame.atR])
/-- an operation that comes to a value by a call that is known -/
theorem call_steps {i : Nat} {rest : List Nat} {o : Oper} {f : FuncId} {args : Array Value} {cs : List Frame} {v : AVal} (ho : all[i]? = some o) (hw : Region.wanted o (yielded all tmps) = true) (hd : ∀ c, o.op ≠ .defer c)
    (h : (execOp (Act.eval ⟨tmps, ds⟩) o).run P w = .ok (.enter f args) w) (hc : Calls P f args w fun e w' => ∃ v', e = .returned v' ∧ VRel μ v v' ∧ Below w.heap.size w w') :
    ∃ v' w', Steps P (lone (b.atR ⟨tmps, ds⟩ (.inRegion all (i :: rest) :: k')) cs w) (lone (b.atR ⟨(Act.put ⟨tmps, ds⟩ o.dst v').tmps, ds⟩ (.inRegion all rest :: k')) cs w') ∧ VRel μ v v' ∧ Below w.heap.size w w' := by
  obtain ⟨e, w', fr, ⟨v', rfl, h1, h2⟩, h3, _, h5⟩ := hc (b.atR ⟨tmps, ds⟩ (.inRegion all (i :: rest) :: k') :: cs)
  refine ⟨v', w', ?_, h1, h2⟩
  refine .head (stepR_enter ho hw hd h) (Steps.trans h3 (.one ?_))
  rw [step_leave_returned h5, Frame.finish_atR, ho, ← put_acts]
  rfl
theorem HRel.below {w' : World} (hH : HRel N μ H w) (hb : Below w.heap.size w w') : HRel N μ H w' := by
  refine ⟨hH.glob, hH.low, hH.next, Nat.le_trans hH.size hb.size, hH.fresh, fun a x hx => ?_, fun a i ha hi => ?_, hH.inj⟩
  · obtain ⟨i, o, h1, h2, h3⟩ := hH.blk a x hx
    have hlt : i.b < w.heap.size := (Array.getElem?_eq_some_iff.1 h2).1
    exact ⟨i, o, h1, by rw [hb.block _ hlt]; exact h2, h3⟩
  · obtain ⟨h1, h2⟩ := hH.own a i ha hi
    exact ⟨h1, Nat.lt_of_lt_of_le h2 hb.size⟩
theorem TmRel.wanted {n : Nat} (R : TmRel μ n tm tmps) {o : Oper} {w : Bool} (h : wantedG o.guard all tm = some w) : Region.wanted o (yielded all tmps) = w := by
  unfold wantedG wantB at h
  unfold Region.wanted
  cases hg : o.guard with
  | none => rw [hg] at h; cases h; rfl
  | some jw =>
    obtain ⟨j, want⟩ := jw
    rw [hg] at h
    simp only [wantIf, ob_some, lget_eq] at h
    obtain ⟨d, ⟨u, hu, hud⟩, v, hv, h⟩ := h
    have hu' : all[j]? = some u := by simpa using hu
    have hy : yielded all tmps j = match tmps[d]? with | some (.bool b) => some b | _ => none := by
      unfold yielded
      rw [hu']
      simp [hud]
      rfl
    simp only []
    rw [hy]
    have rel := R.2 d v hv
    by_cases hd : d < n
    · have hs : d < tmps.size := by rw [R.1]; exact hd
      have e1 : tmps[d]? = some (tmps.getD d undef) := by simp [Array.getD, hs]
      rw [e1]
      generalize tmps.getD d undef = x at rel
      cases hb : v.asBool with
      | some b =>
        rw [hb] at h
        have : v = .bool b := by cases v <;> simp [AVal.asBool] at hb; rw [hb]
        rw [this, VRel] at rel
        subst rel
        simp only [Option.some.injEq] at h
        rw [← h, bEq_eq]
        cases b <;> cases want <;> rfl
      | none =>
        rw [hb] at h
        cases h
        cases x with
        | bool b => rw [vrel_bool rel] at hb; cases hb
        | _ => rfl
    · have e1 : tmps[d]? = none := by simp [R.1]; omega
      rw [e1]
      rw [getD_big (by rw [R.1]; omega)] at rel
      cases hb : v.asBool with
      | some b =>
        have : v = .bool b := by cases v <;> simp [AVal.asBool] at hb; rw [hb]
        rw [this, VRel] at rel
        cases rel
      | none => rw [hb] at h; cases h; rfl
theorem rVal_ok {fr : AFrame} {c : Frame} {w' : World} {v : AVal} {v' : Value} {m : Machine} (hw : FrRel C μ none fr c) (hcs : All2 (FrRel C μ none) acs cs) (hm : μ.le ν) (hH : HRel N ν H' w') (hb : Below N w w') (hv : VRel ν v v')
    (hs : Steps P m (lone (c.finish v') (cs ++ base) w')) : OutOk P C N μ base m w (rVal v H' C fr acs H) := by
  unfold rVal
  cases hx : ob (finishA fr v) fun fr => some (⟨fr, acs, H'⟩ : AState) with
  | none => exact trivial
  | some s =>
    rw [ob_some] at hx
    obtain ⟨fr', hf, hx⟩ := hx
    cases hx
    exact ⟨ν, _, cs, w', hs, hm, hb, hH, finish_ok (hw.mono hm) hf hv, hcs.mono fun _ _ r => r.mono hm⟩
theorem enter_ok (hF : FnsOk P C) {f : Nat} {args : List AVal} {args' : Array Value} {d : Bool} {g : AFrame} {cur : Option AHeap} (h : enterA C f args d = some g) (hl : LRel μ args args'.toList) :
    FrRel C μ cur g (Frame.enter P f args' (if d then .deferred else .normal)) ∧ ∃ fn, C.fns.get f = some fn ∧ fn.body.isSome = true := by
  unfold enterA at h
  simp only [ob_some, guardO_some, Bool.and_eq_true, bles] at h
  obtain ⟨fn, hfn, c, hc, k, hk, ⟨h1, h2⟩, h3⟩ := h
  cases h3
  obtain ⟨h4, _⟩ := hF f fn hfn
  have hsz : args'.size = args.length := by have := hl.length; simpa using this
  rw [llen_eq] at h1 h2
  have size : (Frame.enter P f args' (if d then .deferred else .normal)).tmps.size = fn.ntmps := by
    simp only [Frame.enter, h4, Option.map_some, Option.getD_some, Array.size_append, Array.size_replicate]
    omega
  refine ⟨⟨⟨rfl, size, .nil, trivial, rfl, trivial⟩, ?_⟩, fn, hfn, by rw [hc]; rfl⟩
  show BodyRel C μ fn.ntmps cur [.code c] ⟨k, Tr.ofList args, []⟩ (Frame.enter P f args' (if d then .deferred else .normal)).todo (Frame.enter P f args' (if d then .deferred else .normal)).tmps
  have todo : (Frame.enter P f args' (if d then .deferred else .normal)).todo = [.code c] := by simp [Frame.enter, h4, hc]
  rw [todo]
  refine .plain (.cons (.code c) .nil) ⟨size, fun i v hv => ?_⟩
  unfold Tm.get at hv
  simp only [brec] at hv
  split at hv
  · rw [Tr.get_ofList] at hv
    obtain ⟨x, hx, hr⟩ := hl.get hv
    have hi : i < args'.size := by have := (List.getElem?_eq_some_iff.1 hx).1; simpa using this
    have : (Frame.enter P f args' (if d then .deferred else .normal)).tmps.getD i undef = x := by
      simp only [Frame.enter, Array.getD_eq_getD_getElem?]
      rw [Array.getElem?_append_left hi]
      have : args'[i]? = some x := by simpa using hx
      rw [this]; rfl
    rw [this]; exact hr
  · cases hv
theorem rEnter_ok (hF : FnsOk P C) {fr : AFrame} {c : Frame} {f : Nat} {args : List AVal} {m : Machine} (hw : FrRel C μ none fr c) (hcs : All2 (FrRel C μ none) acs cs) (hH : HRel N μ H w)
    (hs : ∀ fn, C.fns.get f = some fn → fn.body.isSome = true → ∃ args', LRel μ args args'.toList ∧ Steps P m (lone (Frame.enter P f args' .normal) (c :: (cs ++ base)) w)) :
    OutOk P C N μ base m w (rEnter f args C fr acs H) := by
  unfold rEnter
  cases hx : enterA C f args false with
  | none => exact trivial
  | some g =>
    obtain ⟨fn, h1, h2⟩ : ∃ fn, C.fns.get f = some fn ∧ fn.body.isSome = true := by
      unfold enterA at hx
      simp only [ob_some] at hx
      obtain ⟨fn, hfn, c, hc, _⟩ := hx
      exact ⟨fn, hfn, by rw [hc]; rfl⟩
    obtain ⟨args', h3, h4⟩ := hs fn h1 h2
    exact ⟨μ, _, c :: cs, w, h4, fun _ _ h => h, Below.refl N w, hH, (enter_ok hF hx h3).1, .cons hw hcs⟩
end
end Go.Am
