/- The simulation: leaving, rounds, regions in order, heavy operations. -/
import Derived.Test.YtjiklgloidlihaaGreatDoorAmSim5
namespace Go.Am
open Go Go.RowKit
section
variable {P : Program} {C : Ctx} {N : Nat} {I : World → Prop} {μ ν : Mu} {H H' : AHeap} {w : World} {tm : Tm} {R : FRest} {acs : List AFrame} {base cs : List Frame}
variable {b : Frame} {tmps : Array Value} {ds : List Deferred} {k : List AItem} {k' : List Item} {all : Array Oper}
theorem round_none {m : Option Nat} (h : RoundRel μ none m) : m = none := by
  cases m with
  | none => rfl
  | some l => exact h.elim
theorem round_some {l : Nat} {m : Option Nat} (h : RoundRel μ (some l) m) : ∃ i, μ l = some i ∧ m = some i.b := by
  cases m with
  | none => exact h.elim
  | some m => obtain ⟨i, h1, h2⟩ := h; exact ⟨i, h1, by rw [h2]⟩
theorem notCells_loop {r : Loop} (a : Array Value) (b : TypeId) (c : Nat × Nat) : Obj.loop r ≠ .cells a b c := by intro h; cases h
theorem leaveA_ok (hH : HRel N μ H w) (hcs : All2 (FrRel C μ none) acs cs) (hR : RestRel μ R (b.atR ⟨tmps, ds⟩ [])) (ht : TmRel μ R.n tm tmps) {todo : List AItem} {btodo : List Item} {jump : Option Code}
    (h0 : b.roundOf = none → retNow jump = true → step P (lone (b.atR ⟨tmps, ds⟩ btodo) (cs ++ base) w) = .next (lone { b.atR ⟨tmps, ds⟩ btodo with mode := .returning } (cs ++ base) w))
    (h1 : ∀ l c rest v w', b.roundOf = some l → b.kind = .normal → (Instr.endRound l jump).run P w = .ok v w' → step P (lone (b.atR ⟨tmps, ds⟩ btodo) (c :: rest) w) = .next (lone (c.finish v) rest w')) :
    OutOk P C N μ base (lone (b.atR ⟨tmps, ds⟩ btodo) (cs ++ base) w) w (leaveA jump C ⟨todo, tm, R⟩ acs H) := by
  unfold leaveA
  simp only []
  cases hr : R.roundOf with
  | none =>
    have hb : b.roundOf = none := by
      have := hR.round
      rw [hr] at this
      exact round_none this
    cases hj : retNow jump with
    | false => exact trivial
    | true => exact returning_ok hH hcs hR ht (.one (h0 hb hj))
  | some l =>
    obtain ⟨i, hi, hb⟩ : ∃ i, μ l = some i ∧ b.roundOf = some i.b := by
      have := hR.round
      rw [hr] at this
      exact round_some this
    simp only []
    cases hx : loopAt H l with
    | none => exact trivial
    | some r =>
      rw [ob_some']
      cases hcs with
      | nil => exact trivial
      | @cons c b1 acs1 cs1 hc hcs1 =>
        simp only []
        cases hd : R.deferred with
        | true => exact trivial
        | false =>
          have hkind : b.kind = .normal := by have := hR.kind; rw [hd] at this; exact this
          cases hf : finishA c (.bool jump.isNone) with
          | none => exact trivial
          | some c' =>
            obtain ⟨hl, i', r', hg, hi', hw, rel⟩ := loopAt_ok hH hx
            rw [hi] at hi'; cases hi'
            have run : (Instr.endRound i.b jump).run P w = .ok (.bool jump.isNone) (World.setBlk w i.b (.loop { r' with state := if jump.isNone then .ready else .done, pending := jump })) := by
              simp only [Instr.endRound, Sem.run_bind, run_getLoop hw, Result.andThen_ok, run_setObj hw notCells_loop, Sem.run_pure]
            refine ⟨μ, _, cs1, _, .one (h1 i.b b1 (cs1 ++ base) _ _ hb hkind run), fun _ _ h => h, below_setBlk (hH.own l i hl hi).1, ?_, finish_ok hc hf (by rw [VRel]), hcs1⟩
            refine hH.upd hg hi hl ?_
            rw [BRel]
            exact ⟨_, rfl, rfl, rfl, rel.fn, rel.tm, rel.params, rel.assign, rel.body, rel.defers⟩
theorem exitTo_none {id : Nat} : ∀ {k : List AItem} {k' : List Item}, All2 (ItemRel μ) k k' → exitToA id k = none → exitTo id k' = none := by
  intro k k' h
  induction h with
  | nil => intro _; rfl
  | cons a l ih =>
    intro e
    cases a with
    | inBlock i =>
      unfold exitToA at e
      simp only [AItem.blockId] at e
      rw [cond_if] at e
      unfold exitTo
      by_cases hi : i = id
      · subst hi
        rw [if_pos (beqs.2 rfl)] at e
        cases e
      · rw [if_neg fun h => hi (beqs.1 h)] at e
        simp [hi, ih e]
    | _ =>
      unfold exitToA at e
      unfold exitTo
      exact ih e
theorem exit_ok (hH : HRel N μ H w) (hcs : All2 (FrRel C μ none) acs cs) (hR : RestRel μ R (b.atR ⟨tmps, ds⟩ [])) (ht : TmRel μ R.n tm tmps) (hk : All2 (ItemRel μ) k k') {id : Nat} :
    OutOk P C N μ base (lone (b.atR ⟨tmps, ds⟩ (.code (.exit id) :: k')) (cs ++ base) w) w (xExit id C k tm R acs H) := by
  unfold xExit
  cases he : exitToA id k with
  | some r =>
    obtain ⟨r', h1, h2⟩ := exitTo_ok hk he
    exact out_next hH hcs hR ht h2 (.one (stepR_exit h1))
  | none =>
    exact leaveA_ok hH hcs hR ht (fun _ h => by cases h) fun l c rest v w' hb hkd hr => stepR_round_exit hb hkd (exitTo_none hk he) hr
theorem ret_ok (hH : HRel N μ H w) (hcs : All2 (FrRel C μ none) acs cs) (hR : RestRel μ R (b.atR ⟨tmps, ds⟩ [])) (ht : TmRel μ R.n tm tmps) :
    OutOk P C N μ base (lone (b.atR ⟨tmps, ds⟩ (.code .ret :: k')) (cs ++ base) w) w (xRet C k tm R acs H) :=
  leaveA_ok hH hcs hR ht (fun hb _ => stepR_ret hb) fun _ _ _ _ _ hb hkd hr => stepR_round_ret hb hkd hr
theorem end_ok (hH : HRel N μ H w) (hcs : All2 (FrRel C μ none) acs cs) (hR : RestRel μ R (b.atR ⟨tmps, ds⟩ [])) (ht : TmRel μ R.n tm tmps) :
    OutOk P C N μ base (lone (b.atR ⟨tmps, ds⟩ []) (cs ++ base) w) w (leaveA none C ⟨[], tm, R⟩ acs H) :=
  leaveA_ok hH hcs hR ht (fun hb _ => stepR_end hb) fun _ _ _ _ _ hb hkd hr => stepR_round_end hb hkd hr
/- regions whose operations come one behind the other -/
theorem runOps_cons {o : Oper} {rest : List Oper} : runOps C all k R acs (o :: rest) tm H = match wantedG o.guard all tm with
    | none => .fail 20
    | some false => runOps C all k R acs rest (putA R.n tm o.dst undefA) H
    | some true => match ((aop o.op).f C (.now tm) H).asVal with
      | some p => runOps C all k R acs rest (putA R.n tm o.dst p.1) p.2
      | none => afterOp ((aop o.op).f C (.now tm) H) C ⟨.ops all (o :: rest) :: k, tm, R⟩ acs H := by
  show (match wantedG o.guard all tm with
    | some w => Bool.rec (motive := fun _ => AOut) (runOps C all k R acs rest (putA R.n tm o.dst undefA) H)
          (let r := (aop o.op).f C (.now tm) H
          match r.asVal with
          | some p => runOps C all k R acs rest (putA R.n tm o.dst p.1) p.2
          | none => afterOp r C ⟨.ops all (o :: rest) :: k, tm, R⟩ acs H) w
    | none => .fail 20) = _
  cases wantedG o.guard all tm with
  | none => rfl
  | some w => cases w <;> rfl
theorem range_drop {n i : Nat} (h : i < n) : (List.range n).drop i = i :: (List.range n).drop (i + 1) := by
  rw [List.drop_eq_getElem_cons (by simpa using h)]; simp
theorem runOps_ok (hS : Sim P C N I) : ∀ (rest : List Oper) (i : Nat) (tm : Tm) (H : AHeap) (w : World) (μ : Mu) (tmps : Array Value), rest = all.toList.drop i → i ≤ all.size → I w → HRel N μ H w → All2 (FrRel C μ none) acs cs →
    RestRel μ R (b.atR ⟨tmps, ds⟩ []) → TmRel μ R.n tm tmps → All2 (ItemRel μ) k k' →
    OutOk P C N μ base (lone (b.atR ⟨tmps, ds⟩ (.inRegion all ((List.range all.size).drop i) :: k')) (cs ++ base) w) w (runOps C all k R acs rest tm H) := by
  intro rest
  induction rest with
  | nil =>
    intro i tm H w μ tmps hi hle hI hH hcs hR ht hk
    have : all.size ≤ i := by
      have := congrArg List.length hi
      simp at this
      omega
    rw [List.drop_eq_nil_of_le (by simpa using this)]
    exact out_next hH hcs hR ht hk (.one stepR_region_end)
  | cons o rest ih =>
    intro i tm H w μ tmps hi hle hI hH hcs hR ht hk
    obtain ⟨h1, h2⟩ := drop_cons hi
    have hlt : i < all.size := by have := (List.getElem?_eq_some_iff.1 h1).1; simpa using this
    have ho : all[i]? = some o := by simpa using h1
    rw [runOps_cons, range_drop hlt]
    cases hw : wantedG o.guard all tm with
    | none => exact trivial
    | some wn =>
      have hwn := ht.wanted (all := all) hw
      cases wn with
      | false =>
        refine OutOk.of_steps (.one (stepR_notwanted ho hwn)) (fun _ _ h => h) (Below.refl N w) ?_
        rw [put_acts]
        have t := ht.put (ds := ds) (dst := o.dst) vrel_undef
        exact ih (i + 1) _ _ _ _ _ h2 hlt hI hH hcs (hR.slots t.1) t hk
      | true =>
        have hop := aop_ok hS.tys hS.base hS.fns hS.prims hH hI (ht.erel (ds := ds) hH.glob) o
        simp only []
        generalize hr : (aop o.op).f C (.now tm) H = r at hop
        have hdef : (∃ c, o.op = .defer c) → r = .fail ∨ ∃ d, r = .defer d := fun h => by rw [← hr]; exact aop_defer h _ _ _
        have hfr : FrRel C μ none ⟨.ops all (o :: rest) :: k, tm, R⟩ (b.atR ⟨tmps, ds⟩ (.inRegion all (i :: (List.range all.size).drop (i + 1)) :: k')) := by
          refine ⟨hR.todo, ?_⟩
          rw [if_pos hR.running, ← range_drop hlt, hi]
          exact .plain (.cons (.ops all i hle) hk) ht
        cases hv : r.asVal with
        | none => exact afterOp_ok hS hH hcs hfr ho hwn hdef hop
        | some p =>
          have : r = .val p.1 p.2 := by cases r <;> simp [ARes.asVal] at hv; rw [← hv]
          subst this
          simp only []
          have hd : ∀ c, o.op ≠ .defer c := fun c e => by
            rcases hdef ⟨c, e⟩ with h | ⟨d, h⟩ <;> cases h
          rcases hop with h | ⟨he, f, args', h3, h4⟩
          · obtain ⟨v', w', μ', s, hm, hH', hb, hv⟩ := value_step (b := b) (k' := k') (rest := (List.range all.size).drop (i + 1)) (cs := cs ++ base) ho hwn hd h
            refine OutOk.of_steps (.one s) hm hb ?_
            have t := (ht.mono hm).put (ds := ds) (dst := o.dst) hv
            exact ih (i + 1) _ _ _ _ _ h2 hlt (hS.inv _ _ hb hI) hH' (hcs.mono fun _ _ r => r.mono hm) ((hR.mono hm).slots t.1) t (hk.mono fun _ _ r => r.mono hm)
          · obtain ⟨v', w', s, hv, hb⟩ := call_steps (b := b) (k' := k') (rest := (List.range all.size).drop (i + 1)) (cs := cs ++ base) ho hwn hd h3 h4
            have hbN := hb.mono hH.size
            refine OutOk.of_steps s (fun _ _ h => h) hbN ?_
            have t := ht.put (ds := ds) (dst := o.dst) hv
            rw [he]
            exact ih (i + 1) _ _ _ _ _ h2 hlt (hS.inv _ _ hbN hI) (hH.below hb) hcs (hR.slots t.1) t hk
/-- the heavy operation of a region that draws -/
theorem heavy_ok (hS : Sim P C N I) (hI : I w) (hH : HRel N μ H w) (hcs : All2 (FrRel C μ none) acs cs) (hR : RestRel μ R (b.atR ⟨tmps, ds⟩ [])) (hk : All2 (ItemRel μ) k k') {olds : List (Nat × List Nat)} {anc : Tr Nat} {old : Tm} {D : Nat} {S : Nat → Bool} {order : List Nat} {st : Stage} {stages : List Stage} {o : Oper}
    (hr : RegRel μ all olds anc R.n old tm D S order tmps) (hst : okStages all.toList anc (st :: stages) D = true) (hp : PendAll C H all olds R.n old tm D S) (ho : all[st.heavy]? = some o) :
    OutOk P C N μ base (lone (b.atR ⟨tmps, ds⟩ (.inRegion all order :: k')) (cs ++ base) w) w (xHeavy all old olds st stages o C k tm R acs H) := by
  obtain ⟨S', order', tmps', s, r1, p1⟩ := reach (b := b) (k := k') (cs := cs ++ base) (ds := ds) hS.tys hH hst order S tmps hr hp
  refine OutOk.of_steps s (fun _ _ h => h) (Below.refl N w) ?_
  unfold xHeavy
  cases hw : wantedG o.guard all tm with
  | none => exact trivial
  | some wn =>
    obtain ⟨o', ho', hS', hb', _⟩ := r1.sched
    rw [ho] at ho'; cases ho'
    have hwn := r1.wanted ho hb' hw
    have hfr : FrRel C μ none ⟨.reg all old olds (st :: stages) :: k, tm, R⟩ (b.atR ⟨tmps', ds⟩ (.inRegion all (st.heavy :: order') :: k')) := by
      refine ⟨(hR.slots r1.size).todo, ?_⟩
      rw [if_pos hR.running]
      exact .wait r1 hst (toWeak hst r1 p1) hk
    cases wn with
    | false =>
      refine rVal_ok (H := H) hfr hcs (fun _ _ h => h) hH (Below.refl N w) vrel_undef ?_
      rw [Frame.finish_atR, ho, Option.bind_some]
      exact .one (stepR_notwanted ho hwn)
    | true =>
      have hop := aop_ok hS.tys hS.base hS.fns hS.prims hH hI (r1.erel (ds := ds) hH.glob ho hS' hb') o
      exact afterOp_ok hS hH hcs hfr ho hwn (fun h => aop_defer h _ _ _) hop
end
end Go.Am
