/- The simulation: frames that end; the run whole. -/
import Derived.Test.YtjiklgloidlihaaGreatDoorAmSim7
namespace Go.Am
open Go Go.RowKit
section
variable {P : Program} {C : Ctx} {N : Nat} {I : World → Prop} {μ ν : Mu} {H H' : AHeap} {w : World} {tm : Tm} {R : FRest} {acs : List AFrame} {base cs : List Frame}
variable {b : Frame} {tmps : Array Value}
theorem stepU_collected {block : Nat} {es calls : List Deferred} {w' : World} (hm : b.mode ≠ .run) (hd : b.defers = { target := .collected block, args := #[] } :: es) (hr : (Instr.takeDeferred block).run P w = .ok calls w') :
    step P (lone b cs w) = .next (lone { b with defers := calls ++ es } cs w') := by
  obtain ⟨fn, tmps, todo, defers, mode, kind, round⟩ := b
  simp only at hm hd
  subst hd
  refine step_lone_go ?_
  cases mode with
  | run => exact absurd rfl hm
  | returning => simp [stepG, unwind, Sem.runT_eq, hr]
  | panicking c => simp [stepG, unwind, Sem.runT_eq, hr]
theorem stepU_call {f : Nat} {cap as : Array Value} {es : List Deferred} (hm : b.mode ≠ .run) (hd : b.defers = { target := .fn (.func f) cap, args := as } :: es) (hr : (callFunc f (as ++ cap)).run P w = .ok (.enter f (as ++ cap)) w) :
    step P (lone b cs w) = .next (lone (Frame.enter P f (as ++ cap) .deferred) ({ b with defers := es } :: cs) w) := by
  obtain ⟨fn, tmps, todo, defers, mode, kind, round⟩ := b
  simp only at hm hd
  subst hd
  refine step_lone_go ?_
  cases mode with
  | run => exact absurd rfl hm
  | returning => simp [stepG, unwind, callDeferred, invoke, Sem.runT_eq, hr]
  | panicking c => simp [stepG, unwind, callDeferred, invoke, Sem.runT_eq, hr]
/-- what a caller does when a deferred call returns -/
def backTo (c : Frame) : Frame :=
  match c.mode with
  | .panicking ({ recovered := true, .. } :: older) =>
    match older.dropWhile (!·.goexit) with
    | [] => { c with mode := .returning }
    | rest => { c with mode := .panicking rest }
  | _ => c
theorem stepU_deferred {fn : Func} {v : Value} {c : Frame} (hm : b.mode = .returning) (hd : b.defers = []) (hk : b.kind = .deferred) (hf : P.funcs[b.fn]? = some fn) (hr : (results fn b.tmps).run P w = .ok v w) :
    step P (lone b (c :: cs) w) = .next (lone (backTo c) cs w) := by
  refine step_lone_go ?_
  simp only [stepG, unwind, doReturn, hm, hd, hk, hf, Sem.runT_eq, hr, GStep.bare_after]
  rfl
def resOne (tmps : Array Value) (r : ResultVar) : Sem Value :=
  match r with
  | .tmp t => pure (tmps.getD t undef)
  | .cell a t => do loadVar t (← asAddr (tmps.getD a undef))
theorem results_eq (fn : Func) (tmps : Array Value) : results fn tmps = (do let vs ← fn.results.mapM (resOne tmps); pure (if h : vs.size = 1 then vs[0] else .tuple vs)) := rfl
theorem run_results_list (hT : TysOk P C) (hH : HRel N μ H w) {n : Nat} (ht : TmRel μ n tm tmps) : ∀ (rs : List ResultVar) (l : List AVal), lmapM (resultA C H tm) rs = some l →
    ∃ vs, (rs.mapM (resOne tmps)).run P w = .ok vs w ∧ LRel μ l vs := by
  intro rs
  induction rs with
  | nil => intro l h; rw [lmapM_nil] at h; cases h; exact ⟨[], by simp [Sem.run_pure], .nil⟩
  | cons r rs ih =>
    intro l h
    rw [lmapM_cons, ob_some] at h
    obtain ⟨a, ha, h⟩ := h
    rw [ob_some] at h
    obtain ⟨m, hm, h⟩ := h
    cases h
    obtain ⟨vs, h1, h2⟩ := ih m hm
    rw [List.mapM_cons]
    cases r with
    | tmp t =>
      refine ⟨_, ?_, .cons (ht.2 t a ha) h2⟩
      simp only [resOne, Sem.run_bind, Sem.run_pure, Result.andThen_ok, h1]
    | cell x t =>
      simp only [resultA, ob_some, asPtr_some] at ha
      obtain ⟨p, ⟨av, hav, rfl⟩, ty, hty, c, hc, hl⟩ := ha
      have hv := ht.2 x _ hav
      rw [VRel] at hv
      obtain ⟨i, hi, hv⟩ := hv
      obtain ⟨v', h3, h4⟩ := loadA_ok (P := P) hH (hT.facts hty) hc hi hl
      refine ⟨_, ?_, .cons h4 h2⟩
      have ha : (asAddr (Value.pointer (some ⟨i.b, p.2, none⟩))).run P w = .ok ⟨i.b, p.2, none⟩ w := rfl
      have one : (resOne tmps (.cell x t)).run P w = .ok v' w := by
        show ((asAddr (tmps.getD x undef)).bind fun a => loadVar t a).run P w = _
        rw [hv]
        exact h3
      simp only [Sem.run_bind, Sem.run_pure, Result.andThen_ok, one, h1]
theorem results_ok (hT : TysOk P C) (hH : HRel N μ H w) {n : Nat} (ht : TmRel μ n tm tmps) {fn : Func} {l : List AVal} (h : resultsA C H tm fn.results.toList = some l) :
    ∃ v, (results fn tmps).run P w = .ok v w ∧ VRel μ (tupleOf l) v := by
  obtain ⟨vs, h1, h2⟩ := run_results_list hT hH ht _ _ h
  refine ⟨if h : vs.toArray.size = 1 then vs.toArray[0] else .tuple vs.toArray, ?_, ?_⟩
  · rw [results_eq, Array.mapM_eq_mapM_toList]
    simp only [Sem.run_bind, map_eq_pure_bind, h1, Result.andThen_ok, Sem.run_pure]
  · have hl := h2.length
    cases l with
    | nil =>
      rw [LRel] at h2; subst h2
      rw [dif_neg (by simp)]
      show VRel μ (.tup []) _
      rw [VRel]; exact ⟨_, rfl, .nil⟩
    | cons a m =>
      cases m with
      | nil =>
        rw [LRel] at h2
        obtain ⟨v, r, rfl, hv, hr⟩ := h2
        rw [LRel] at hr; subst hr
        rw [dif_pos (by simp)]
        exact hv
      | cons a2 m =>
        rw [dif_neg (by simp [hl])]
        show VRel μ (.tup (a :: a2 :: m)) _
        rw [VRel]; exact ⟨_, rfl, by simpa using h2⟩
def DefRel (μ : Mu) : Option (List ADef) → Option (List Deferred) → Prop
  | none, none => True
  | some a, some b => All2 (ADefRel μ) a b
  | _, _ => False
theorem defersAt_ok (hH : HRel N μ H w) {l : Nat} {x : Option (List ADef)} (h : defersAt H l = some x) : 256 ≤ l ∧ ∃ i x', H.t.get l = some (.deferred x) ∧ μ l = some i ∧ w.heap[i.b]? = some (.deferred x') ∧ DefRel μ x x' := by
  unfold defersAt at h
  rw [guardO_some, bles, ob_some] at h
  obtain ⟨h1, y, h2, h3⟩ := h
  have : y = .deferred x := by cases y <;> simp [ABlk.asDeferred] at h3; rw [h3]
  subst this
  obtain ⟨i, o, h4, h5, h6⟩ := hH.blk l _ h2
  rw [BRel] at h6
  obtain ⟨r', rfl, h7⟩ := h6
  refine ⟨h1, i, r', h2, h4, h5, ?_⟩
  cases x <;> cases r' <;> exact h7
theorem notRunning {μ : Mu} {m : AMode} {m' : FrameMode} (h : ModeRel μ m m') (hm : m.running = false) : m' ≠ .run := by
  rintro rfl
  cases m <;> first | exact h.elim | cases hm
theorem uDefer_ok (hS : Sim P C N I) (hH : HRel N μ H w) (hcs : All2 (FrRel C μ none) acs cs) {fr : AFrame} (hr : RestRel μ fr.R b) (hm : fr.R.mode.running = false) (ht : TmRel μ fr.R.n fr.tm b.tmps) {d : ADef} {l : List ADef} (hd : fr.R.defers = d :: l) :
    OutOk P C N μ base (lone b (cs ++ base) w) w (uDefer C d l fr acs H) := by
  have hrun := notRunning hr.mode hm
  have hds := hr.defers
  rw [hd] at hds
  generalize hbd : b.defers = bd at hds
  cases hds with
  | @cons _ e _ es h1 h2 =>
    obtain ⟨dfn, dr, dargs⟩ := d
    have h1 := h1.rel
    unfold uDefer
    cases dfn with
    | none =>
      obtain ⟨i, hi, rfl⟩ := h1
      simp only []
      cases hx : defersAt H dr with
      | none => exact trivial
      | some x =>
        rw [ob_some']
        cases x with
        | none => exact trivial
        | some calls =>
          obtain ⟨hl, i', x', hg, hi', hw, rel⟩ := defersAt_ok hH hx
          rw [hi] at hi'; cases hi'
          cases x' with
          | none => exact rel.elim
          | some calls' =>
            have run : (Instr.takeDeferred i.b).run P w = .ok calls' (World.setBlk w i.b (.deferred none)) := by
              have : (setObj i.b (.deferred none)).run P w = .ok () (World.setBlk w i.b (.deferred none)) := run_setObj hw (by intro a b c h; cases h)
              have hg : (getObj i.b).run P w = .ok (.deferred (some calls')) w := by simp [getObj, Sem.run, hw]
              simp only [Instr.takeDeferred, Sem.run_bind, hg, Result.andThen_ok, this, Sem.run_pure]
            refine ⟨μ, _, cs, _, .one (stepU_collected hrun hbd run), fun _ _ h => h, below_setBlk (hH.own dr i hl hi).1, ?_, ⟨?_, ?_⟩, hcs⟩
            · refine hH.upd hg hi hl ?_
              rw [BRel]
              exact ⟨none, rfl, trivial⟩
            · refine ⟨hr.fn, hr.size, ?_, hr.mode, hr.kind, hr.round⟩
              show All2 (ADefRel μ) (lapp calls l) (calls' ++ es)
              rw [lapp_eq]
              exact All2.append rel h2
            · show if fr.R.mode.running = true then BodyRel C _ _ _ _ _ _ _ else _
              rw [if_neg (by rw [hm]; simp)]
              exact ht
    | some fn =>
      cases fn with
      | yld m => exact trivial
      | func f =>
        obtain ⟨fn, cap, as, rfl, hfn, hl⟩ := h1
        cases hfn
        simp only []
        cases hp : C.prims.get f with
        | some x => exact trivial
        | none =>
          simp only []
          cases he : enterA C f dargs true with
          | none => exact trivial
          | some g =>
            obtain ⟨h3, fn, hfn, hb⟩ := enter_ok (cur := some H) hS.fns he hl
            refine ⟨μ, _, { b with defers := es } :: cs, w, .one (stepU_call hrun hbd (run_callFunc hS.fns hfn hb)), fun _ _ h => h, Below.refl N w, hH, h3, .cons ⟨⟨hr.fn, hr.size, h2, hr.mode, hr.kind, hr.round⟩, ?_⟩ hcs⟩
            show if fr.R.mode.running = true then BodyRel C _ _ _ _ _ _ _ else _
            rw [if_neg (by rw [hm]; simp)]
            exact ht
theorem FrRel.still {cur cur' : Option AHeap} {fr : AFrame} (h : FrRel C μ cur fr b) (hm : fr.R.mode.running = false) : FrRel C μ cur' fr b := by
  refine ⟨h.rest, ?_⟩
  have := h.body
  rw [if_neg (by rw [hm]; simp)] at this ⊢
  exact this
theorem dropWhile_all {l : List PanicEntry} {m : List APanic} (h : All2 (PanicRel μ) m l) : l.dropWhile (!·.goexit) = [] := by
  induction h with
  | nil => rfl
  | cons a _ ih => simp [a.goexit, ih]
noncomputable def backA (c : AFrame) (rest : List AFrame) (H : AHeap) : Option AState :=
  match c.R.mode with
  | .panicking (⟨_, true⟩ :: _) => some (⟨setMode c .returning, rest, H⟩ : AState)
  | _ => guardO (!c.R.mode.running) (some ⟨c, rest, H⟩)
noncomputable def raiseTop (C : Ctx) (fr : AFrame) (ch : List APanic) (cs : List AFrame) (H : AHeap) : AOut :=
  nextO (ob (C.fns.get fr.R.fn) fun _ => match cs with | c :: rest => some ⟨raiseA c ch, rest, H⟩ | [] => none) 19
theorem back_ok {c : AFrame} {c' : Frame} (hc : FrRel C μ none c c') {x : AState} {rest : List AFrame} (h : backA c rest H = some x) : x.cs = rest ∧ x.H = H ∧ FrRel C μ (some H) x.fr (backTo c') := by
  have hm := hc.rest.mode
  have stay : c'.mode = c'.mode → (backTo c' = c') → c.R.mode.running = false → x = ⟨c, rest, H⟩ → x.cs = rest ∧ x.H = H ∧ FrRel C μ (some H) x.fr (backTo c') := by
    intro _ h1 h2 h3
    subst h3
    rw [h1]
    exact ⟨rfl, rfl, hc.still h2⟩
  obtain ⟨ct, ctm, cR⟩ := c
  obtain ⟨f, n, de, mode, dd, ro⟩ := cR
  unfold backA at h
  simp only at h hm
  cases mode with
  | run => cases h
  | returning =>
    cases hcm : c'.mode with
    | returning => exact stay rfl (by unfold backTo; rw [hcm]) rfl (Option.some.inj h).symm
    | _ => rw [hcm] at hm; exact hm.elim
  | panicking ch =>
    cases hcm : c'.mode with
    | run => rw [hcm] at hm; exact hm.elim
    | returning => rw [hcm] at hm; exact hm.elim
    | panicking ch' =>
      rw [hcm] at hm
      cases hm with
      | nil => exact stay rfl (by unfold backTo; rw [hcm]) rfl (Option.some.inj h).symm
      | @cons p e older older' hp hold =>
        obtain ⟨pv, pr⟩ := p
        obtain ⟨ev', er, eg⟩ := e
        obtain ⟨q1, q2, q3⟩ := hp
        simp only at q1 q2 q3
        subst q2 q3
        cases er with
        | false => exact stay rfl (by unfold backTo; rw [hcm]) rfl (Option.some.inj h).symm
        | true =>
          cases Option.some.inj h
          refine ⟨rfl, rfl, ?_⟩
          have : backTo c' = { c' with mode := .returning } := by
            unfold backTo
            rw [hcm]
            simp only [dropWhile_all hold]
          rw [this]
          have hb := hc.body
          exact ⟨⟨hc.rest.fn, hc.rest.size, hc.rest.defers, trivial, hc.rest.kind, hc.rest.round⟩, hb⟩
theorem uReturn_ok (hS : Sim P C N I) (hH : HRel N μ H w) (hcs : All2 (FrRel C μ none) acs cs) {fr : AFrame} (hr : RestRel μ fr.R b) (hm : b.mode = .returning) (hd : b.defers = []) (ht : TmRel μ fr.R.n fr.tm b.tmps) :
    OutOk P C N μ base (lone b (cs ++ base) w) w (uReturn C fr acs H) := by
  unfold uReturn
  cases hx : ob (C.fns.get fr.R.fn) fun fn => resultsA C H fr.tm fn.results.toList with
  | none => exact trivial
  | some l =>
    rw [ob_some] at hx
    obtain ⟨fn, hfn, hres⟩ := hx
    obtain ⟨v, h1, h2⟩ := results_ok hS.tys hH ht hres
    have hf : P.funcs[b.fn]? = some fn := by rw [hr.fn]; exact (hS.fns _ _ hfn).1
    have hk := hr.kind
    simp only []
    cases hcs with
    | nil =>
      simp only [cond_if]
      cases hdf : fr.R.deferred with
      | true => exact trivial
      | false =>
        rw [hdf] at hk
        rw [if_neg (by simp)]
        split
        · rename_i hroot
          exact ⟨μ, b, w, v, .refl _ _, fun _ _ h => h, Below.refl N w, hH, h2, by rw [hr.fn]; exact beqs.1 hroot, hm, hd, hk, fn, hf, h1⟩
        · exact trivial
    | @cons c c' acs1 cs1 hc hcs1 =>
      simp only []
      cases hdf : fr.R.deferred with
      | true =>
        rw [hdf] at hk
        simp only [cond_true]
        show OutOk P C N μ base _ w (nextO (backA c acs1 H) 18)
        generalize hx : backA c acs1 H = x
        cases x with
        | none => exact trivial
        | some x =>
          obtain ⟨h3, h4, h5⟩ := back_ok hc hx
          obtain ⟨xf, xc, xh⟩ := x
          simp only at h3 h4 h5
          subst h3 h4
          exact ⟨μ, _, cs1, w, .one (stepU_deferred hm hd hk hf h1), fun _ _ h => h, Below.refl N w, hH, h5, hcs1⟩
      | false =>
        rw [hdf] at hk
        simp only [cond_false]
        cases hfi : finishA c (tupleOf l) with
        | none => exact trivial
        | some g =>
          exact ⟨μ, _, cs1, w, .one (step_leave_returned ⟨hm, hd, hk, fn, hf, h1⟩), fun _ _ h => h, Below.refl N w, hH, finish_ok hc hfi h2, hcs1⟩
theorem unwind_ok (hS : Sim P C N I) (hH : HRel N μ H w) (hcs : All2 (FrRel C μ none) acs cs) {fr : AFrame} (hfr : FrRel C μ (some H) fr b) (hm : fr.R.mode.running = false) :
    OutOk P C N μ base (lone b (cs ++ base) w) w (unwindA C fr acs H) := by
  have ht : TmRel μ fr.R.n fr.tm b.tmps := by
    have := hfr.body
    rw [if_neg (by rw [hm]; simp)] at this
    exact this
  have hr := hfr.rest
  unfold unwindA
  cases hd : fr.R.defers with
  | cons d l => exact uDefer_ok hS hH hcs hr hm ht hd
  | nil =>
    have hbd : b.defers = [] := by
      have := hr.defers
      rw [hd] at this
      generalize hbd : b.defers = bd at this
      cases this
      rfl
    have hmode := hr.mode
    simp only []
    cases hmo : fr.R.mode with
    | run => rw [hmo] at hm; cases hm
    | returning =>
      rw [hmo] at hmode
      have : b.mode = .returning := by
        cases hb : b.mode with
        | returning => rfl
        | _ => rw [hb] at hmode; exact hmode.elim
      exact uReturn_ok hS hH hcs hr this hbd ht
    | panicking ch =>
      rw [hmo] at hmode
      cases hb : b.mode with
      | run => rw [hb] at hmode; exact hmode.elim
      | returning => rw [hb] at hmode; exact hmode.elim
      | panicking ch' =>
        rw [hb] at hmode
        show OutOk P C N μ base _ w (raiseTop C fr ch acs H)
        unfold raiseTop
        cases hfn : C.fns.get fr.R.fn with
        | none => exact trivial
        | some fn =>
          rw [ob_some']
          have hf : P.funcs[b.fn]? = some fn := by rw [hr.fn]; exact (hS.fns _ _ hfn).1
          cases hcs with
          | nil => exact trivial
          | @cons c c' acs1 cs1 hc hcs1 =>
            exact ⟨μ, _, cs1, w, .one (step_leave_panicked ⟨hb, hbd, fn, hf⟩), fun _ _ h => h, Below.refl N w, hH, raise_ok hc hmode, hcs1⟩
theorem stepA_ok (hS : Sim P C N I) (hI : I w) {s : AState} (hH : HRel N μ s.H w) (hcs : All2 (FrRel C μ none) s.cs cs) (hfr : FrRel C μ (some s.H) s.fr b) : OutOk P C N μ base (lone b (cs ++ base) w) w (stepA C s) := by
  obtain ⟨⟨todo, tm, R⟩, acs, H⟩ := s
  show OutOk P C N μ base _ w (bif R.mode.running then execA C todo tm R acs H else unwindA C ⟨todo, tm, R⟩ acs H)
  cases hm : R.mode.running with
  | false => exact unwind_ok hS hH hcs hfr hm
  | true =>
    have hb := hfr.body
    have hr := hfr.rest
    simp only at hb hr
    rw [if_pos hm] at hb
    have hbm : b.mode = .run := by
      have h := hr.mode
      cases hmo : R.mode with
      | run =>
        rw [hmo] at h
        cases hb : b.mode with
        | run => rfl
        | _ => rw [hb] at h; exact h.elim
      | _ => rw [hmo] at hm; cases hm
    have e := atR_self hbm
    have := exec_ok (b := b) (tmps := b.tmps) (ds := b.defers) (base := base) hS hI hH hcs ⟨hr.fn, hr.size, hr.defers, by have := hr.mode; rw [hbm] at this; exact this, hr.kind, hr.round⟩ hb
    rw [e] at this
    exact this
theorem stepO_ok (hS : Sim P C N I) (hI : I w) {m : Machine} {o : AOut} (h : OutOk P C N μ base m w o) : OutOk P C N μ base m w (stepO C o) := by
  cases o with
  | fail n => exact trivial
  | done v H => exact h
  | next s =>
    obtain ⟨μ', b, cs, w', h1, h2, h3, h4, h5, h6⟩ := h
    exact OutOk.of_steps h1 h2 h3 (stepA_ok hS (hS.inv _ _ h3 hI) h4 h6 h5)
theorem runA_ok (hS : Sim P C N I) (hI : I w) {m : Machine} : ∀ (n : Nat) {o : AOut}, OutOk P C N μ base m w o → OutOk P C N μ base m w (runA C n o) := by
  intro n
  induction n with
  | zero => intro o h; exact stepO_ok hS hI h
  | succ n ih => intro o h; exact ih (ih h)
/-- what a closed run is worth -/
theorem calls_of_run (hS : Sim P C N I) (hI : I w) {f : Nat} (hroot : C.root = f) {args : List AVal} {args' : Array Value} (hH : HRel N μ H w) (hl : LRel μ args args'.toList) {g : AFrame} (he : enterA C f args false = some g) {n : Nat} {v : AVal} {H' : AHeap}
    (hrun : runA C n (.next ⟨g, [], H⟩) = .done v H') :
    Calls P f args' w fun e w' => ∃ v' μ', e = .returned v' ∧ μ.le μ' ∧ VRel μ' v v' ∧ HRel N μ' H' w' ∧ Below N w w' := by
  intro base
  have h0 : OutOk P C N μ base (lone (Frame.enter P f args' .normal) base w) w (.next ⟨g, [], H⟩) :=
    ⟨μ, _, [], w, .refl _ _, fun _ _ h => h, Below.refl N w, hH, (enter_ok (cur := some H) hS.fns he hl).1, .nil⟩
  have h1 := runA_ok hS hI n h0
  rw [hrun] at h1
  obtain ⟨μ', b, w', v', h2, h3, h4, h5, h6, h7, h8⟩ := h1
  exact ⟨.returned v', w', b, ⟨v', μ', rfl, h3, h6, h5, h4⟩, h2, by rw [h7, hroot], h8⟩
end
end Go.Am
