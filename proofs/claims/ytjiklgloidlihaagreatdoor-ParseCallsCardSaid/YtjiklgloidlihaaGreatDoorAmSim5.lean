/- The simulation: what an operation comes to. -/
import Derived.Test.YtjiklgloidlihaaGreatDoorAmSim4
namespace Go.Am
open Go Go.RowKit
section
variable {P : Program} {C : Ctx} {N : Nat} {I : World → Prop} {μ ν : Mu} {H H' : AHeap} {w : World} {tm : Tm} {R : FRest} {acs : List AFrame} {base cs : List Frame}
variable {b : Frame} {tmps : Array Value} {ds : List Deferred} {k : List AItem} {k' : List Item} {all : Array Oper}
theorem rPanic_ok {fr : AFrame} {c : Frame} {v : AVal} {v' : Value} {m : Machine} {cur : Option AHeap} (hw : FrRel C μ cur fr c) (hcs : All2 (FrRel C μ none) acs cs) (hH : HRel N μ H w) (hv : VRel μ v v')
    (hs : Steps P m (lone (c.raise [{ v := v', recovered := false }]) (cs ++ base) w)) : OutOk P C N μ base m w (rPanic v C fr acs H) :=
  ⟨μ, _, cs, w, hs, fun _ _ h => h, Below.refl N w, hH, raise_ok hw (.cons ⟨hv, rfl, rfl⟩ .nil), hcs⟩
theorem stepR_panic {i : Nat} {rest : List Nat} {o : Oper} {v : Value} {cs : List Frame} {w' : World} (ho : all[i]? = some o) (hw : Region.wanted o (yielded all tmps) = true) (hd : ∀ c, o.op ≠ .defer c)
    (h : (execOp (Act.eval ⟨tmps, ds⟩) o).run P w = .halt (.panic v) w') :
    step P (lone (b.atR ⟨tmps, ds⟩ (.inRegion all (i :: rest) :: k')) cs w) = .next (lone ((b.atR ⟨tmps, ds⟩ (.inRegion all (i :: rest) :: k')).raise [{ v, recovered := false }]) cs w') :=
  step_lone_go (by
    rw [stepGR_op (a := ⟨tmps, ds⟩) ho hw, Oper.semAt_eq _ _ _ hd]
    simp [stepG.apply, Sem.runT_eq, h])
theorem loopAt_ok (hH : HRel N μ H w) {l : Nat} {r : ALoop} (h : loopAt H l = some r) : 256 ≤ l ∧ ∃ i r', H.t.get l = some (.loop r) ∧ μ l = some i ∧ w.heap[i.b]? = some (.loop r') ∧ LoopRel μ r r' := by
  unfold loopAt at h
  rw [guardO_some, bles, ob_some] at h
  obtain ⟨h1, x, h2, h3⟩ := h
  have : x = .loop r := by cases x <;> simp [ABlk.asLoop] at h3; rw [h3]
  subst this
  obtain ⟨i, o, h4, h5, h6⟩ := hH.blk l _ h2
  rw [BRel] at h6
  obtain ⟨r', rfl, h7⟩ := h6
  exact ⟨h1, i, r', h2, h4, h5, h7⟩
theorem run_getLoop {l : Nat} {r : Loop} (h : w.heap[l]? = some (.loop r)) : (Instr.getLoop l).run P w = .ok r w := by
  simp [Instr.getLoop, getObj, Sem.run_bind, Sem.run, h]
theorem aop_defer {o : Op} (h : ∃ c, o = .defer c) (C : Ctx) (e : Env) (H : AHeap) : (aop o).f C e H = .fail ∨ ∃ d, (aop o).f C e H = .defer d := by
  obtain ⟨c, rfl⟩ := h
  show (hDeferOf c c.callee).f C e H = .fail ∨ ∃ d, (hDeferOf c c.callee).f C e H = .defer d
  cases c.callee with
  | value f =>
    show resR (ob (resolveA f c.args e) fun p => some (.defer ⟨some p.1, 0, lapp p.2.1 p.2.2⟩)) = .fail ∨ ∃ d, resR (ob (resolveA f c.args e) fun p => some (.defer ⟨some p.1, 0, lapp p.2.1 p.2.2⟩)) = .defer d
    cases resolveA f c.args e with
    | none => exact .inl rfl
    | some p => exact .inr ⟨_, rfl⟩
  | _ => exact .inl rfl
theorem setParams_ok {n : Nat} : ∀ (ps : List Nat) (args : List AVal) (tm tm' : Tm) (args' : List Value) (tmps : Array Value), setParamsA n ps args tm = some tm' → LRel μ args args' → TmRel μ n tm tmps →
    args'.length = ps.length ∧ TmRel μ n tm' ((ps.zip args').foldl (fun tmps x => tmps.setIfInBounds x.1 x.2) tmps) := by
  intro ps
  induction ps with
  | nil =>
    intro args tm tm' args' tmps h hl ht
    cases args with
    | nil => rw [LRel] at hl; subst hl; cases h; exact ⟨rfl, ht⟩
    | cons a as => cases h
  | cons p ps ih =>
    intro args tm tm' args' tmps h hl ht
    cases args with
    | nil => cases h
    | cons a as =>
      rw [LRel] at hl
      obtain ⟨v, r, rfl, hv, hl⟩ := hl
      have := ih as _ _ r (tmps.setIfInBounds p v) h hl (ht.put (ds := []) (dst := some p) hv)
      exact ⟨by simp [this.1], this.2⟩
theorem stepR_round {i : Nat} {rest : List Nat} {o : Oper} {cs : List Frame} {l : Nat} {f : FuncId} {t : Array Value} {as bd : Code} {w' : World} (ho : all[i]? = some o) (hw : Region.wanted o (yielded all tmps) = true) (hd : ∀ c, o.op ≠ .defer c)
    (h : (execOp (Act.eval ⟨tmps, ds⟩) o).run P w = .ok (.round l f t as bd) w') :
    step P (lone (b.atR ⟨tmps, ds⟩ (.inRegion all (i :: rest) :: k')) cs w) = .next (lone (Frame.round l f t as bd .normal) (b.atR ⟨tmps, ds⟩ (.inRegion all (i :: rest) :: k') :: cs) w') :=
  step_lone_go (by
    rw [stepGR_op (a := ⟨tmps, ds⟩) ho hw, Oper.semAt_eq _ _ _ hd]
    simp [stepG.apply, Sem.runT_eq, h, Frame.atR])
theorem stepR_defer {i : Nat} {rest : List Nat} {o : Oper} {cs : List Frame} {d : Deferred} {w' : World} (ho : all[i]? = some o) (hw : Region.wanted o (yielded all tmps) = true) (hb : b.roundOf = none)
    (h : (execOp (Act.eval ⟨tmps, ds⟩) o).run P w = .ok (.defer d) w') :
    step P (lone (b.atR ⟨tmps, ds⟩ (.inRegion all (i :: rest) :: k')) cs w) = .next (lone ((b.atR ⟨tmps, d :: ds⟩ (.inRegion all (i :: rest) :: k')).finish undef) cs w') :=
  step_lone_go (by
    rw [stepGR_op (a := ⟨tmps, ds⟩) ho hw, hb, Oper.semAt_none]
    simp [stepG.apply, Sem.runT_eq, h, Frame.atR])
theorem stepR_recover {i : Nat} {rest : List Nat} {o : Oper} {cs : List Frame} {w' : World} (ho : all[i]? = some o) (hw : Region.wanted o (yielded all tmps) = true) (hd : ∀ c, o.op ≠ .defer c) (hb : b.roundOf = none)
    (h : (execOp (Act.eval ⟨tmps, ds⟩) o).run P w = .ok .recover w') :
    step P (lone (b.atR ⟨tmps, ds⟩ (.inRegion all (i :: rest) :: k')) cs w) = .next (match tryRecover (b.atR ⟨tmps, ds⟩ (.inRegion all (i :: rest) :: k')) cs with
      | some (v, cs) => lone ((b.atR ⟨tmps, ds⟩ (.inRegion all (i :: rest) :: k')).finish v) cs w'
      | none => lone ((b.atR ⟨tmps, ds⟩ (.inRegion all (i :: rest) :: k')).finish .nilIface) cs w') := by
  have e : (stepG P true { frame := b.atR ⟨tmps, ds⟩ (.inRegion all (i :: rest) :: k'), callers := cs, status := .running, dying := none } w).bare = match tryRecover (b.atR ⟨tmps, ds⟩ (.inRegion all (i :: rest) :: k')) cs with
      | some (v, cs) => .go { frame := (b.atR ⟨tmps, ds⟩ (.inRegion all (i :: rest) :: k')).finish v, callers := cs, status := .running, dying := none } w'
      | none => .go { frame := (b.atR ⟨tmps, ds⟩ (.inRegion all (i :: rest) :: k')).finish .nilIface, callers := cs, status := .running, dying := none } w' := by
    rw [stepGR_op (a := ⟨tmps, ds⟩) ho hw, Oper.semAt_eq _ _ _ hd]
    have hb' : (b.atR ⟨tmps, ds⟩ (.inRegion all (i :: rest) :: k')).roundOf = none := hb
    simp only [stepG.apply, Sem.runT_eq, h, GStep.bare_after, hb', if_true]
    cases tryRecover (b.atR ⟨tmps, ds⟩ (.inRegion all (i :: rest) :: k')) cs with
    | none => rfl
    | some p => obtain ⟨v, c⟩ := p; rfl
  cases ht : tryRecover (b.atR ⟨tmps, ds⟩ (.inRegion all (i :: rest) :: k')) cs with
  | none => rw [ht] at e; exact step_lone_go e
  | some p => obtain ⟨v, c⟩ := p; rw [ht] at e; exact step_lone_go e
theorem rRound_ok {fr : AFrame} {c : Frame} {l : Nat} {i : BI} {args : List AVal} {args' : Array Value} {m : Machine} (hw : FrRel C μ none fr c) (hcs : All2 (FrRel C μ none) acs cs) (hH : HRel N μ H w) (hi : μ l = some i) (hl : LRel μ args args'.toList)
    (hs : ∀ f t as bd, (Instr.yield i.b args').run P w = .ok (.round i.b f t as bd) w → Steps P m (lone (Frame.round i.b f t as bd .normal) (c :: (cs ++ base)) w)) : OutOk P C N μ base m w (rRound l args C fr acs H) := by
  unfold rRound
  cases hx : ob (loopAt H l) fun r => ob (setParamsA r.n r.params args r.tm) fun tm => some (⟨⟨[.code r.assign, .beginRound, .code r.body], tm, ⟨r.fn, r.n, [], .run, false, some l⟩⟩, fr :: acs, H⟩ : AState) with
  | none => exact trivial
  | some s =>
    simp only [ob_some] at hx
    obtain ⟨r, hr, tm', htm, hx⟩ := hx
    cases hx
    obtain ⟨_, i', r', _, h2, h3, h4⟩ := loopAt_ok hH hr
    rw [hi] at h2; cases h2
    obtain ⟨h5, h6⟩ := setParams_ok r.params args r.tm tm' args'.toList r'.tmps htm hl h4.tm
    rw [← h4.params] at h5 h6
    have sz : args'.size = r'.params.size := by simpa using h5
    have e : (r'.params.zip args').foldl (fun tmps x => tmps.setIfInBounds x.1 x.2) r'.tmps = (r'.params.toList.zip args'.toList).foldl (fun tmps x => tmps.setIfInBounds x.1 x.2) r'.tmps := by
      rw [← Array.foldl_toList, Array.toList_zip]
    rw [← e] at h6
    refine ⟨μ, _, c :: cs, w, hs r'.fn ((r'.params.zip args').foldl (fun tmps x => tmps.setIfInBounds x.1 x.2) r'.tmps) r'.assign r'.body ?_, fun _ _ h => h, Below.refl N w, hH, ?_, .cons hw hcs⟩
    · simp only [Instr.yield, Sem.run_bind, run_getLoop h3, Result.andThen_ok, sz]
      simp
    · refine ⟨⟨h4.fn, h6.1, .nil, trivial, rfl, ⟨i, hi, rfl⟩⟩, ?_⟩
      show BodyRel C μ r.n _ _ _ [.code r'.assign, .beginRound, .code r'.body] _
      rw [h4.assign, h4.body]
      exact .plain (.cons (.code _) (.cons .beginRound (.cons (.code _) .nil))) h6
/-- an operation of a frame that waits for its value -/
theorem afterOp_ok (hS : Sim P C N I) (hH : HRel N μ H w) (hcs : All2 (FrRel C μ none) acs cs) {fr : AFrame} {i : Nat} {rest : List Nat} {o : Oper} {r : ARes}
    (hfr : FrRel C μ none fr (b.atR ⟨tmps, ds⟩ (.inRegion all (i :: rest) :: k'))) (ho : all[i]? = some o) (hw : Region.wanted o (yielded all tmps) = true)
    (hdef : (∃ c, o.op = .defer c) → r = .fail ∨ ∃ d, r = .defer d) (h : OpOk P C N μ H w (Act.eval ⟨tmps, ds⟩) o r) :
    OutOk P C N μ base (lone (b.atR ⟨tmps, ds⟩ (.inRegion all (i :: rest) :: k')) (cs ++ base) w) w (afterOp r C fr acs H) := by
  have hd : (∀ d, r ≠ .defer d) → r ≠ .fail → ∀ c, o.op ≠ .defer c := by
    intro h1 h2 c e
    rcases hdef ⟨c, e⟩ with h | ⟨d, h⟩
    · exact h2 h
    · exact h1 d h
  cases r with
  | fail => exact trivial
  | val v H' =>
    have hd := hd (fun _ h => by cases h) (fun h => by cases h)
    rcases h with h | ⟨rfl, f, args', h1, h2⟩
    · obtain ⟨v', w', μ', s, hm, hH', hb, hv⟩ := value_step (b := b) (k' := k') (rest := rest) (cs := cs ++ base) ho hw hd h
      refine rVal_ok (H := H) hfr hcs hm hH' hb hv ?_
      rw [Frame.finish_atR, ho, Option.bind_some, put_acts]
      exact .one s
    · obtain ⟨v', w', s, hv, hb⟩ := call_steps (b := b) (k' := k') (rest := rest) (cs := cs ++ base) ho hw hd h1 h2
      refine rVal_ok (H := H') hfr hcs (fun _ _ h => h) (hH.below hb) (hb.mono hH.size) hv ?_
      rw [Frame.finish_atR, ho, Option.bind_some, put_acts]
      exact s
  | enter f args =>
    have hd := hd (fun _ h => by cases h) (fun h => by cases h)
    exact rEnter_ok hS.fns hfr hcs hH fun fn h1 h2 => by
      obtain ⟨args', h3, h4⟩ := h fn h1 h2
      exact ⟨args', h4, .one (stepR_enter ho hw hd h3)⟩
  | round l args =>
    have hd := hd (fun _ h => by cases h) (fun h => by cases h)
    obtain ⟨i0, args', hi, hl, hrun⟩ := h
    exact rRound_ok hfr hcs hH hi hl fun f t as bd hy => .one (stepR_round ho hw hd (by rw [hrun]; exact hy))
  | defer d =>
    obtain ⟨_, d', h1, h2⟩ := h
    show OutOk P C N μ base _ w (rDefer d C fr acs H)
    unfold rDefer
    cases hr : fr.R.roundOf with
    | some l => exact trivial
    | none =>
      have hb : b.roundOf = none := by
        have := hfr.rest.round
        rw [hr] at this
        change RoundRel μ none b.roundOf at this
        cases hb : b.roundOf with
        | none => rfl
        | some l => rw [hb] at this; exact this.elim
      simp only []
      cases hf : finishA fr undefA with
      | none => exact trivial
      | some g =>
        have := finish_ok (cur := some H) hfr hf vrel_undef
        refine ⟨μ, _, cs, w, .one (stepR_defer ho hw hb h1), fun _ _ h => h, Below.refl N w, hH, ?_, hcs⟩
        rw [Frame.finish_atR] at this ⊢
        rw [put_acts] at this ⊢
        have e : ∀ x, (Act.put ⟨tmps, d' :: ds⟩ x undef).tmps = (Act.put ⟨tmps, ds⟩ x undef).tmps := fun x => by cases x <;> rfl
        rw [e]
        exact ⟨⟨this.rest.fn, this.rest.size, .cons h2 this.rest.defers, this.rest.mode, this.rest.kind, this.rest.round⟩, this.body⟩
  | panic v =>
    have hd := hd (fun _ h => by cases h) (fun h => by cases h)
    obtain ⟨v', h1, h2⟩ := h
    exact rPanic_ok hfr hcs hH h2 (.one (stepR_panic ho hw hd h1))
  | recover =>
    have hd := hd (fun _ h => by cases h) (fun h => by cases h)
    show OutOk P C N μ base _ w (rRecover C fr acs H)
    unfold rRecover
    cases hr : fr.R.roundOf with
    | some l => exact trivial
    | none =>
      have hb : b.roundOf = none := by
        have := hfr.rest.round
        rw [hr] at this
        change RoundRel μ none b.roundOf at this
        cases hb : b.roundOf with
        | none => rfl
        | some l => rw [hb] at this; exact this.elim
      cases hk : fr.R.deferred with
      | false => exact trivial
      | true =>
        have hkind : b.kind = .deferred := by have := hfr.rest.kind; rw [hk] at this; exact this
        cases hcs with
        | nil => exact trivial
        | @cons c b1 acs1 cs1 hc hcs1 =>
          have st := stepR_recover (P := P) (b := b) (k' := k') (rest := rest) (cs := b1 :: (cs1 ++ base)) ho hw hd hb h
          have hm := hc.rest.mode
          have tr : ∀ todo, tryRecover (b.atR ⟨tmps, ds⟩ todo) (b1 :: (cs1 ++ base)) = match b1.mode with
              | .panicking ({ v, recovered := false, goexit := false } :: older) => some (v, { b1 with mode := .panicking ({ v, recovered := true } :: older) } :: (cs1 ++ base))
              | _ => none := by
            intro todo
            obtain ⟨bfn, btmps, btodo, bdefers, bmode, bkind, bround⟩ := b
            simp only at hkind
            subst hkind
            rfl
          rw [tr] at st
          simp only []
          cases hcm : c.R.mode with
          | run =>
            rw [hcm] at hm
            cases hbm : b1.mode with
            | run =>
              rw [hbm] at st
              simp only []
              cases hf : finishA fr .niliface with
              | none => exact trivial
              | some g => exact ⟨μ, _, b1 :: cs1, w, .one st, fun _ _ h => h, Below.refl N w, hH, finish_ok hfr hf (by rw [VRel]), .cons hc hcs1⟩
            | _ => rw [hbm] at hm; exact hm.elim
          | returning =>
            rw [hcm] at hm
            cases hbm : b1.mode with
            | returning =>
              rw [hbm] at st
              simp only []
              cases hf : finishA fr .niliface with
              | none => exact trivial
              | some g => exact ⟨μ, _, b1 :: cs1, w, .one st, fun _ _ h => h, Below.refl N w, hH, finish_ok hfr hf (by rw [VRel]), .cons hc hcs1⟩
            | _ => rw [hbm] at hm; exact hm.elim
          | panicking ch =>
            rw [hcm] at hm
            cases hbm : b1.mode with
            | run => rw [hbm] at hm; exact hm.elim
            | returning => rw [hbm] at hm; exact hm.elim
            | panicking ch' =>
              rw [hbm] at hm st
              cases hm with
              | nil => exact trivial
              | @cons p e older older' hp hold =>
                obtain ⟨pv, pr⟩ := p
                cases pr with
                | true => exact trivial
                | false =>
                  obtain ⟨ev', er, eg⟩ := e
                  obtain ⟨q1, q2, q3⟩ := hp
                  simp only at q1 q2 q3
                  subst q2 q3
                  simp only []
                  cases hf : finishA fr pv with
                  | none => exact trivial
                  | some g =>
                    have fin := finish_ok (cur := some H) hfr hf q1
                    refine ⟨μ, _, { b1 with mode := .panicking ({ v := ev', recovered := true } :: older') } :: cs1, w, .one st, fun _ _ h => h, Below.refl N w, hH, fin, .cons ?_ hcs1⟩
                    refine ⟨⟨hc.rest.fn, hc.rest.size, hc.rest.defers, .cons ⟨q1, rfl, rfl⟩ hold, hc.rest.kind, hc.rest.round⟩, ?_⟩
                    have := hc.body
                    rw [hcm] at this
                    exact this
end
end Go.Am
