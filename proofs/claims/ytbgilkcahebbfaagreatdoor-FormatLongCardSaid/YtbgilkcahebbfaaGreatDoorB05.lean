/- The simulation: ranges over functions, all code. -/
import Derived.Test.YtbgilkcahebbfaaGreatDoorB04
set_option linter.all false
noncomputable section
namespace Go.Am
open Go Go.RowKit
section
variable {P : Program} {C : Ctx} {B N : Nat} {I : World -> Prop} {μ ν : Mu} {H H' : zaf} {w : World} {tm : Tm} {R : zgv} {acs : List zap} {base cs : List Frame}
variable {b : Frame} {tmps : Array Value} {ds : List Deferred} {k : List zcj} {k' : List Item} {all : Array Oper}
theorem zzgd (hH : zbf B N μ H w) (hcs : Frs C μ acs cs) (hR : zbq μ R (b.atR ⟨tmps, ds⟩ [])) (ht : zct μ R.n tm tmps) (hk : zex (zbj μ) k k') :
  zb8 P C B N μ base (lone (b.atR ⟨tmps, ds⟩ (.beginRound :: k')) (cs ++ base) w) w (zxa C k tm R acs H) := by
 unfold zxa
 cases hr : R.roundOf with
 | none => exact trivial
 | some l =>
  obtain ⟨i, hi, hb⟩ : ∃ i, μ l = some i /\ b.roundOf = some i.b := by
   have := hR.round
   rw [hr] at this; exact zn0 this
  rw [zac]
  cases hx : zd7 H l with
  | none => exact trivial
  | some r =>
   rw [zac]
   cases hst : Nat.beq (LoopState.tag r.state) 0 with
   | false => exact trivial
   | true =>
    obtain ⟨hl, r', hg, hw, rel⟩ := zj6 hH hx hi
    have ready : r'.state = .ready := by
     rw [rel.state]
     cases hs : r.state <;> rw [hs] at hst <;> first | rfl | simp [LoopState.tag, Nat.beq] at hst
    have run : (Instr.beginRound i.b).run P w = .ok () (World.setBlk w i.b (.loop { r' with state := .busy })) := by
     simp only [Instr.beginRound, Sem.run_bind, zg5 hw, Result.andThen_ok, zgw hw zi6, ready, Sem.run_pure]
    refine ⟨μ, _, cs, _, .one (stepR_beginRound hb run), fun _ _ h => h, zc0 (hH.own l i hl hi).1, ?_, ⟨?_, ?_⟩, hcs⟩
    ·refine hH.upd hg hi hl ?_
     rw [znt]; exact ⟨_, rfl, rfl, rel.pending, rel.fn, rel.tm, rel.params, rel.assign, rel.body, rel.defers⟩
    ·refine ⟨hR.fn, hR.size, hR.defers, hR.mode, hR.kind, ?_⟩
     exact hR.round
    ·show if R.mode.running = true then zdw C μ acs.length R.n _ k tm k' tmps else zct μ R.n tm tmps
     rw [if_pos hR.running]; exact .plain hk ht
theorem zs9 {l : Nat} {jump : Option Code} {w' : World} {cs : List Frame} (hr : (Instr.endLoop l).run P w = .ok jump w') :
  step P (lone (b.atR ⟨tmps, ds⟩ (.endRangeFunc l :: k')) cs w) = .next (lone (b.atR ⟨tmps, ds⟩ ((jump.map Item.code).toList ++ k')) cs w') :=
 step_lone_go (by simp [stepG, stepG.exec, Frame.atR, Sem.runT_eq, hr])
theorem z11 (hH : zbf B N μ H w) (hcs : Frs C μ acs cs) (hR : zbq μ R (b.atR ⟨tmps, ds⟩ [])) (ht : zct μ R.n tm tmps) (hk : zex (zbj μ) k k') {l : Nat} {i : BI} (hi : μ l = some i) :
  zb8 P C B N μ base (lone (b.atR ⟨tmps, ds⟩ (.endRangeFunc i.b :: k')) (cs ++ base) w) w (zjz l C k tm R acs H) := by
 unfold zjz
 cases hx : zd7 H l with
 | none => exact trivial
 | some r =>
  rw [zac]
  cases hst : Nat.beq (LoopState.tag r.state) 1 with
  | true => exact trivial
  | false =>
   obtain ⟨hl, r', hg, hw, rel⟩ := zj6 hH hx hi
   have busy : r'.state ≠ .busy := by
    intro e; rw [rel.state] at e; rw [e] at hst
    cases hst
   have run : (Instr.endLoop i.b).run P w = .ok r'.pending (World.setBlk w i.b (.loop { r' with state := .exhausted })) := by
    simp [Instr.endLoop, Sem.run_bind, zg5 hw, Result.andThen_ok, zgw hw zi6, busy]
   refine ⟨μ, _, cs, _, .one (zs9 run), fun _ _ h => h, zc0 (hH.own l i hl hi).1, ?_, ⟨?_, ?_⟩, hcs⟩
   ·refine hH.upd hg hi hl ?_
    rw [znt]; exact ⟨_, rfl, rfl, rel.pending, rel.fn, rel.tm, rel.params, rel.assign, rel.body, rel.defers⟩
   ·exact ⟨hR.fn, hR.size, hR.defers, hR.mode, hR.kind, hR.round⟩
   ·show if R.mode.running = true then zdw C μ acs.length R.n _ (match r.pending with | some c => .code c :: k | none => k) tm ((r'.pending.map Item.code).toList ++ k') tmps else zct μ R.n tm tmps
    rw [if_pos hR.running, rel.pending]
    cases r.pending with
    | none => exact .plain hk ht
    | some c => exact .plain (.cons (.code c) hk) ht
theorem zqw {f : Operand} {params : Array Nat} {assign body : Code} {l : Nat} {mark : List Deferred} {w1 : World} {g : Nat} {args' : Array Value} {cs : List Frame}
  (hE : (Instr.enterLoop b.fn tmps params assign body b.roundOf).run P w = .ok (l, mark) w1)
  (hA : (do let d <- resolve (Act.eval ⟨tmps, ds⟩) { callee := .value f, args := #[.const (.func (.yield l) #[] #[])], argTypes := #[] } 0; invoke d.target d.args : Sem Next).run P w1 = .ok (.enter g args') w1) :
  step P (lone (b.atR ⟨tmps, ds⟩ (.code (.rangeFunc f params assign body) :: k')) cs w) = .next (lone (Frame.enter P g args' .normal) (b.atR ⟨tmps, mark ++ ds⟩ (.inRangeFunc l :: k') :: cs) w1) := by
 refine step_lone_go ?_
 have he : (Frame.eval { b.atR ⟨tmps, ds⟩ (.code (.rangeFunc f params assign body) :: k') with todo := .inRangeFunc l :: k', defers := mark ++ ds }) = Act.eval ⟨tmps, ds⟩ := funext fun x => by cases x <;> rfl
 simp only [Frame.atR] at he; simp only [stepG, stepG.exec, Frame.atR, Sem.runT_eq, hE, GStep.bare_after, stepG.apply, he, hA, if_true]; rfl
theorem z5o {l : Nat} {v : zab} {h : zap} (e : zi4 C l v = some h) : ∃ g first cap, v = .func (.func g) first cap /\ C.prims.get g = none /\ zfl C g (ze3 first (.func (.yld l) [] [] :: cap)) false = some h := by
 unfold zi4 at e; rw [zad] at e; obtain ⟨p, h1, h2⟩ := e
 obtain ⟨fn, first, cap⟩ := p
 rw [zsp] at h1
 cases fn with
 | yld m => cases h2
 | func g =>
  cases hp : C.prims.get g with
  | some x => simp only [hp] at h2; cases h2
  | none => simp only [hp] at h2; exact ⟨g, first, cap, h1, hp, h2⟩
theorem zud {dp : Nat} (hS : Sim P C B N I) {l : Nat} {i : BI} {v : zab} {h : zap} (e : zi4 C l v = some h) (hi : μ l = some i) {f : Operand} (hv : zan μ v (Act.eval ⟨tmps, ds⟩ f)) {cur : Option zaf} :
  ∃ g args', (∀ w, (do let d <- resolve (Act.eval ⟨tmps, ds⟩) { callee := .value f, args := #[.const (.func (.yield i.b) #[] #[])], argTypes := #[] } 0; invoke d.target d.args : Sem Next).run P w = .ok (.enter g args') w) ∧
   zgf C μ dp cur h (Frame.enter P g args' .normal) := by
 obtain ⟨g, first, cap, rfl, hp, he⟩ := z5o e
 rw [zan] at hv; obtain ⟨fn, a', c', hv, hf, h1, h2⟩ := hv
 cases hf; have hl : zbk μ (ze3 first (.func (.yld l) [] [] :: cap)) (a' ++ #[Value.func (.yield i.b) #[] #[]] ++ c').toList := by
  rw [zb7]; have : zbk μ (zab.func (.yld l) [] [] :: cap) (Value.func (.yield i.b) #[] #[] :: c'.toList) := .cons (by rw [zan]; exact ⟨_, _, _, rfl, ⟨i, hi, rfl⟩, .nil, .nil⟩) h2
  simpa using h1.append this
 obtain ⟨fr, fn, hfn, hb⟩ := zm8 (cur := cur) hS.fns he hl
 refine ⟨g, _, fun w => ?_, fr⟩
 simp only [Sem.run_bind, resolve, hv, Deferred.ofValue, Sem.run_pure, Result.andThen_ok, invoke]; have : Array.map (Act.eval ⟨tmps, ds⟩) #[Operand.const (Value.func (.yield i.b) #[] #[])] = #[Value.func (.yield i.b) #[] #[]] := by simp [Act.eval]
 rw [this]; exact zhs hS.fns hfn hb
theorem zzef (hS : Sim P C B N I) (hH : zbf B N μ H w) (hcs : Frs C μ acs cs) (hR : zbq μ R (b.atR ⟨tmps, ds⟩ [])) (ht : zct μ R.n tm tmps) (hk : zex (zbj μ) k k') {f : Operand} {params : Array Nat} {assign body : Code} :
  zb8 P C B N μ base (lone (b.atR ⟨tmps, ds⟩ (.code (.rangeFunc f params assign body) :: k')) (cs ++ base) w) w (zw8 f params assign body C k tm R acs H) := by
 unfold zw8
 cases hv : ev f (.now tm) with
 | none => exact trivial
 | some v =>
  have hvr := ht.erel (ds := ds) hH.glob f _ hv
  rw [zac]
  cases hr : R.roundOf with
  | none =>
   have hb : b.roundOf = none := by
    have := hR.round
    rw [hr] at this; exact zt6 this
   simp only []
   cases hx : zi4 C (H.next + 1) v with
   | none => exact trivial
   | some h =>
    have h1 := hH.newBlk (x := .deferred (some [])) (o := .deferred (some [])) (i := ⟨w.heap.size, true, 0, 0, false⟩) rfl rfl (by rw [znt]; exact ⟨_, rfl, .nil⟩)
    have le1 : μ.le (μ.ext H.next ⟨w.heap.size, true, 0, 0, false⟩) := hH.ext_le
    have le2 : (μ.ext H.next ⟨w.heap.size, true, 0, 0, false⟩).le ((μ.ext H.next ⟨w.heap.size, true, 0, 0, false⟩).ext (newBlk H (.deferred (some []))).next ⟨w.heap.size + 1, true, 0, 0, false⟩) := h1.ext_le
    have sz : (w.alloc (.deferred (some []))).heap.size = w.heap.size + 1 := Array.size_push ..
    have h2 := h1.newBlk (x := .loop ⟨.ready, none, R.fn, R.n, tm, params.toList, assign, body, H.next⟩) (o := .loop { state := .ready, pending := none, fn := b.fn, tmps, params, assign, body, defers := w.heap.size })
     (i := ⟨w.heap.size + 1, true, 0, 0, false⟩) sz.symm rfl (by
      rw [znt]; exact ⟨_, rfl, rfl, rfl, hR.fn, (ht.mono le1.f).mono le2.f, rfl, rfl, rfl, ⟨_, le2 _ _ Mu.ext_same, rfl⟩⟩)
    have le := Mu.le_trans le1 le2
    have hi2 : ((μ.ext H.next ⟨w.heap.size, true, 0, 0, false⟩).ext (newBlk H (.deferred (some []))).next ⟨w.heap.size + 1, true, 0, 0, false⟩) (H.next + 1) = some ⟨w.heap.size + 1, true, 0, 0, false⟩ := Mu.ext_same
    obtain ⟨g, args', hA, hfr⟩ := zud (ds := ds) hS hx hi2 (hvr.mono le.f _ _) (cur := some (newBlk (newBlk H (.deferred (some []))) (.loop ⟨.ready, none, R.fn, R.n, tm, params.toList, assign, body, H.next⟩)))
    have run : (Instr.enterLoop b.fn tmps params assign body b.roundOf).run P w = .ok (w.heap.size + 1, [{ target := .collected w.heap.size, args := #[] }]) ((w.alloc (.deferred (some []))).alloc (.loop { state := .ready, pending := none, fn := b.fn, tmps, params, assign, body, defers := w.heap.size })) := by
     rw [hb]; simp [Instr.enterLoop, Sem.run_bind, Result.andThen_ok]
    refine ⟨_, _, b.atR ⟨tmps, { target := .collected w.heap.size, args := #[] } :: ds⟩ (.inRangeFunc (w.heap.size + 1) :: k') :: cs, _, .one (zqw run (hA _)), le, ?_, h2, hfr, .cons ⟨?_, ?_⟩ (hcs.mono le)⟩
    ·refine (zcd hH.size _).trans (zcd ?_ _)
     rw [sz]; have := hH.size; omega
    ·have := hR.mono le.f
     exact ⟨this.fn, this.size, .cons ⟨⟨_, le2 _ _ Mu.ext_same, rfl⟩⟩ this.defers, this.mode, this.kind, by have := this.round; rw [hr] at this; exact this⟩
    ·show if R.mode.running = true then zdw C _ acs.length R.n none (.inRange (H.next + 1) :: k) tm (.inRangeFunc (w.heap.size + 1) :: k') tmps else _
     rw [if_pos hR.running]; exact .plain (.cons (.inRange _ ⟨w.heap.size + 1, true, 0, 0, false⟩ hi2) (hk.mono fun _ _ r => r.mono le.f)) (ht.mono le.f)
  | some outer =>
   obtain ⟨io, hio, hb⟩ : ∃ i, μ outer = some i /\ b.roundOf = some i.b := by
    have := hR.round
    rw [hr] at this; exact zn0 this
   simp only []
   cases hlo : zd7 H outer with
   | none => exact trivial
   | some o =>
    rw [zac]
    cases hx : zi4 C H.next v with
    | none => exact trivial
    | some h =>
     obtain ⟨hl, r', hg, hw, rel⟩ := zj6 hH hlo hio
     obtain ⟨idf, hdf, hdf'⟩ := rel.defers
     have le : μ.le (μ.ext H.next ⟨w.heap.size, true, 0, 0, false⟩) := hH.ext_le
     have h2 := hH.newBlk (x := .loop ⟨.ready, none, R.fn, R.n, tm, params.toList, assign, body, o.defers⟩) (o := .loop { state := .ready, pending := none, fn := b.fn, tmps, params, assign, body, defers := r'.defers })
      (i := ⟨w.heap.size, true, 0, 0, false⟩) rfl rfl (by
       rw [znt]; exact ⟨_, rfl, rfl, rfl, hR.fn, ht.mono le, rfl, rfl, rfl, ⟨idf, le _ _ hdf, hdf'⟩⟩)
     have hi2 : (μ.ext H.next ⟨w.heap.size, true, 0, 0, false⟩) H.next = some ⟨w.heap.size, true, 0, 0, false⟩ := Mu.ext_same
     obtain ⟨g, args', hA, hfr⟩ := zud (ds := ds) hS hx hi2 (hvr.mono le.f _ _) (cur := some (newBlk H (.loop ⟨.ready, none, R.fn, R.n, tm, params.toList, assign, body, o.defers⟩)))
     have run : (Instr.enterLoop b.fn tmps params assign body b.roundOf).run P w = .ok (w.heap.size, []) (w.alloc (.loop { state := .ready, pending := none, fn := b.fn, tmps, params, assign, body, defers := r'.defers })) := by
      rw [hb]; simp [Instr.enterLoop, Sem.run_bind, zg5 hw, Result.andThen_ok]
     refine ⟨_, _, b.atR ⟨tmps, ds⟩ (.inRangeFunc w.heap.size :: k') :: cs, _, .one (zqw run (hA _)), le, zcd hH.size _, h2, hfr, .cons ⟨?_, ?_⟩ (hcs.mono le)⟩
     ·have := hR.mono le.f
      exact ⟨this.fn, this.size, this.defers, this.mode, this.kind, this.round⟩
     ·show if R.mode.running = true then zdw C _ acs.length R.n none (.inRange H.next :: k) tm (.inRangeFunc w.heap.size :: k') tmps else _
      rw [if_pos hR.running]; exact .plain (.cons (.inRange _ ⟨w.heap.size, true, 0, 0, false⟩ hi2) (hk.mono fun _ _ r => r.mono le.f)) (ht.mono le.f)
theorem z0l {c : Code} : step P (lone (b.atR ⟨tmps, ds⟩ (.code (.scope c) :: k')) cs w) = .next (lone (b.atR ⟨tmps, ds⟩ (.code c :: .inScope c :: k')) cs w) :=
 step_lone_go (by simp [stepG, stepG.exec, Frame.atR])
theorem zvk {c : Code} : step P (lone (b.atR ⟨tmps, ds⟩ (.inScope c :: k')) cs w) = .next (lone (b.atR ⟨tmps, ds⟩ k') cs w) :=
 step_lone_go (by simp [stepG, stepG.exec, Frame.atR])
theorem zzko (hS : Sim P C B N I) (hI : I w) (hH : zbf B N μ H w) (hcs : Frs C μ acs cs) (hR : zbq μ R (b.atR ⟨tmps, ds⟩ [])) (ht : zct μ R.n tm tmps) : ∀ (c : Code) {k : List zcj} {k' : List Item}, zex (zbj μ) k k' →
  zb8 P C B N μ base (lone (b.atR ⟨tmps, ds⟩ (.code c :: k')) (cs ++ base) w) w ((zzih c).f C k tm R acs H) := by
 intro c; induction c with
 | skip => intro k k' hk; exact zv2 hH hcs hR ht hk stepR_skip
 | region id ops d =>
  intro k k' hk
  cases d with
  | true => exact zzki hS hH hcs hR ht hk
  | false =>
   refine zb8.of_steps (.one stepR_region) (fun _ _ h => h) (Below.refl N w) ?_
   have := zxy (base := base) (all := ops) hS ops.toList 0 tm.cut H w μ tmps (by simp) (Nat.zero_le _) hI hH hcs hR ht.cut hk
   rw [ybs] at this; exact this
 | seq x y ihx _ =>
  intro k k' hk; exact zb8.of_steps (.one stepR_seq) (fun _ _ h => h) (Below.refl N w) (ihx (.cons (.code y) hk))
 | cond c x y _ _ => intro k k' hk; exact zzkm hH hcs hR ht hk
 | block id c _ => intro k k' hk; exact zzgc hH hcs hR ht hk
 | loop c _ => intro k k' hk; exact zzji hH hcs hR ht hk
 | rangeFunc f ps a c _ _ => intro k k' hk; exact zzef hS hH hcs hR ht hk
 | exit id => intro k k' hk; exact zzkc hH hcs hR ht hk
 | scope c _ => intro k k' hk; exact zgq hH hcs hR ht (.cons (.code _) (.cons (.inScope _) hk)) (.one z0l)
 | label l => intro k k' hk; exact zv2 hH hcs hR ht hk stepR_label
 | goto l => intro k k' _; exact trivial
 | ret => intro k k' _; exact ret_ok hH hcs hR ht
 | refuse s => intro k k' _; exact trivial
theorem zzkd (hS : Sim P C B N I) (hI : I w) (hH : zbf B N μ H w) (hcs : Frs C μ acs cs) (hR : zbq μ R (b.atR ⟨tmps, ds⟩ [])) {todo : List zcj} {btodo : List Item} (hb : zdw C μ acs.length R.n (some H) todo tm btodo tmps) :
  zb8 P C B N μ base (lone (b.atR ⟨tmps, ds⟩ btodo) (cs ++ base) w) w (zm7 C todo tm R acs H) := by
 generalize hc : some H = cur at hb
 cases hb with
 | plain a t =>
  cases a with
  | nil => exact z4m hH hcs hR t
  | cons i hk =>
   cases i with
   | code c => exact zzko hS hI hH hcs hR t c hk
   | inBlock id => exact zv2 hH hcs hR t hk stepR_inBlock
   | inLoop c => exact zgq hH hcs hR t (.cons (.code _) (.cons (.inLoop _) hk)) (.one stepR_inLoop)
   | inScope c => exact zv2 hH hcs hR t hk zvk
   | ops all i hi => exact zxy hS _ i _ _ _ _ _ rfl hi hI hH hcs hR t hk
   | inRange l i hl => exact trivial
   | endRange l i hl => exact z11 hH hcs hR t hk hl
   | beginRound => exact zzgd hH hcs hR t hk
 | @reg _ all old _ olds stages _ order _ _ anc D S hr hst hp hk =>
  cases hc; show zb8 P C B N μ base _ w (z4z all old olds stages C _ tm R acs H)
  unfold z4z
  cases stages with
  | nil => exact z9e hS hH hcs hR hk hr hst hp
  | cons st stages =>
   by_cases hlt : st.heavy <= all.size
   ·obtain ⟨_, _, D1, D2, h1, _⟩ := zgr hst hlt
    obtain ⟨o, ho, _⟩ := zin h1
    have : zd8 all.toList st.heavy = some o := by rw [zbn]; simpa using ho
    simp only [this]; exact zzfj hS hI hH hcs hR hk hr hst hp ho
   ·have : zd8 all.toList st.heavy = none := by rw [zbn]; simp; omega
    simp only [this]; rw [zal, if_pos (zc8.2 (by rw [za1]; simp; omega))]
    by_cases hlt2 : all.size + all.size < st.heavy
    ·rw [zal, if_pos (zc8.2 (by rw [za1]; simpa using hlt2))]
     exact z6g hS hH hcs hR hk hr hst hp hlt2
    rw [zal, if_neg (fun e => by have := zc8.1 e; rw [za1] at this; simp at this; omega)]
    have e0 : Nat.sub st.heavy (Nat.succ (zbw all.toList)) = st.heavy - (all.size + 1) := by rw [za1]; simp
    rw [e0]; exact z6h hS hH hcs hR hk hr hst hp (by omega) (by omega)
 | @mid _ all old _ olds lights again stages _ order _ _ anc D D2 S hr h1 h2 hw hk =>
  show zb8 P C B N μ base _ w (z4z all old olds (⟨all.size, lights, again⟩ :: stages) C _ tm R acs H)
  unfold z4z; have : zd8 all.toList all.size = none := by rw [zbn]; simp
  simp only [this]; rw [zal, if_neg fun e => by have := zc8.1 e; rw [za1] at this; simp at this]
  exact zzam hH hcs hR hk (st := ⟨all.size, lights, again⟩) hr h1 h2 hw
 | wait _ _ _ _ _ => cases hc
end
end Go.Am
namespace Go.Am
open Go Go.RowKit
section
variable {P : Program} {C : Ctx} {B N : Nat} {I : World -> Prop} {μ ν : Mu} {H H' : zaf} {w : World} {tm : Tm} {R : zgv} {acs : List zap} {base cs : List Frame}
variable {b : Frame} {tmps : Array Value}
theorem zqv {block : Nat} {es calls : List Deferred} {w' : World} (hm : b.mode ≠ .run) (hd : b.defers = { target := .collected block, args := #[] } :: es) (hr : (Instr.takeDeferred block).run P w = .ok calls w') :
  step P (lone b cs w) = .next (lone { b with defers := calls ++ es } cs w') := by
 obtain ⟨fn, tmps, todo, defers, mode, kind, round⟩ := b
 simp only at hm hd
 subst hd; refine step_lone_go ?_
 cases mode with
 | run => exact absurd rfl hm
 | returning => simp [stepG, unwind, Sem.runT_eq, hr]
 | panicking c => simp [stepG, unwind, Sem.runT_eq, hr]
theorem z5f {f : Nat} {cap as : Array Value} {es : List Deferred} (hm : b.mode ≠ .run) (hd : b.defers = { target := .fn (.func f) cap, args := as } :: es) (hr : (callFunc f (as ++ cap)).run P w = .ok (.enter f (as ++ cap)) w) :
  step P (lone b cs w) = .next (lone (Frame.enter P f (as ++ cap) .deferred) ({ b with defers := es } :: cs) w) := by
 obtain ⟨fn, tmps, todo, defers, mode, kind, round⟩ := b
 simp only at hm hd
 subst hd; refine step_lone_go ?_
 cases mode with
 | run => exact absurd rfl hm
 | returning => simp [stepG, unwind, callDeferred, invoke, Sem.runT_eq, hr]
 | panicking c => simp [stepG, unwind, callDeferred, invoke, Sem.runT_eq, hr]
def zng (c : Frame) : Frame :=
 match c.mode with
 | .panicking ({ recovered := true, .. } :: older) =>
  match older.dropWhile (!·.goexit) with
  | [] => { c with mode := .returning }
  | rest => { c with mode := .panicking rest }
 | _ => c
theorem zs8 {fn : Func} {v : Value} {c : Frame} (hm : b.mode = .returning) (hd : b.defers = []) (hk : b.kind = .deferred) (hf : P.funcs[b.fn]? = some fn) (hr : (results fn b.tmps).run P w = .ok v w) :
  step P (lone b (c :: cs) w) = .next (lone (zng c) cs w) := by
 refine step_lone_go ?_
 simp only [stepG, unwind, doReturn, hm, hd, hk, hf, Sem.runT_eq, hr, GStep.bare_after]; rfl
def z3c (tmps : Array Value) (r : ResultVar) : Sem Value :=
 match r with
 | .tmp t => pure (tmps.getD t undef)
 | .cell a t => do loadVar t (<- asAddr (tmps.getD a undef))
theorem z5m (fn : Func) (tmps : Array Value) : results fn tmps = (do let vs <- fn.results.mapM (z3c tmps); pure (if h : vs.size = 1 then vs[0] else .tuple vs)) := rfl
theorem zpm (hT : zc6 P C) (hH : zbf B N μ H w) {n : Nat} (ht : zct μ n tm tmps) : ∀ (rs : List ResultVar) (l : List zab), zd4 (zj3 C H tm) rs = some l →
  ∃ vs, (rs.mapM (z3c tmps)).run P w = .ok vs w /\ zbk μ l vs := by
 intro rs; induction rs with
 | nil => intro l h; rw [zg9] at h; cases h; exact ⟨[], by simp [Sem.run_pure], .nil⟩
 | cons r rs ih =>
  intro l h; rw [zch, zad] at h; obtain ⟨a, ha, h⟩ := h
  rw [zad] at h; obtain ⟨m, hm, h⟩ := h
  cases h; obtain ⟨vs, h1, h2⟩ := ih m hm
  rw [List.mapM_cons]
  cases r with
  | tmp t =>
   refine ⟨_, ?_, .cons (ht.2 t a ha) h2⟩
   simp only [z3c, Sem.run_bind, Sem.run_pure, Result.andThen_ok, h1]
  | cell x t =>
   simp only [zj3, zad, zf1] at ha; obtain ⟨p, ⟨av, hav, rfl⟩, ty, hty, c, hc, hl⟩ := ha
   have hv := ht.2 x _ hav
   rw [zan] at hv; obtain ⟨i, hi, hv⟩ := hv
   obtain ⟨v', h3, h4⟩ := z3s (P := P) hH (hT.facts hty) hc hi hl
   refine ⟨_, ?_, .cons h4 h2⟩
   have ha : (asAddr (Value.pointer (some ⟨i.b, p.2, none⟩))).run P w = .ok ⟨i.b, p.2, none⟩ w := rfl
   have one : (z3c tmps (.cell x t)).run P w = .ok v' w := by
    show ((asAddr (tmps.getD x undef)).bind fun a => loadVar t a).run P w = _
    rw [hv]; exact h3
   simp only [Sem.run_bind, Sem.run_pure, Result.andThen_ok, one, h1]
theorem zt7 (hT : zc6 P C) (hH : zbf B N μ H w) {n : Nat} (ht : zct μ n tm tmps) {fn : Func} {l : List zab} (h : zgp C H tm fn.results.toList = some l) :
  ∃ v, (results fn tmps).run P w = .ok v w /\ zan μ (zlq l) v := by
 obtain ⟨vs, h1, h2⟩ := zpm hT hH ht _ _ h
 refine ⟨if h : vs.toArray.size = 1 then vs.toArray[0] else .tuple vs.toArray, ?_, ?_⟩
 ·rw [z5m, Array.mapM_eq_mapM_toList]
  simp only [Sem.run_bind, map_eq_pure_bind, h1, Result.andThen_ok, Sem.run_pure]
 ·have hl := h2.length
  cases l with
  | nil =>
   rw [zbk] at h2; subst h2; rw [dif_neg (by simp)]
   show zan μ (.tup []) _
   rw [zan]; exact ⟨_, rfl, .nil⟩
  | cons a m =>
   cases m with
   | nil =>
    rw [zbk] at h2; obtain ⟨v, r, rfl, hv, hr⟩ := h2
    rw [zbk] at hr; subst hr; rw [dif_pos (by simp)]
    exact hv
   | cons a2 m =>
    rw [dif_neg (by simp [hl])]
    show zan μ (.tup (a :: a2 :: m)) _
    rw [zan]; exact ⟨_, rfl, by simpa using h2⟩
def DefRel (μ : Mu) : Option (List zps) -> Option (List Deferred) -> Prop
 | none, none => True
 | some a, some b => zex (zjo μ) a b
 | _, _ => False
theorem z17 (hH : zbf B N μ H w) {l : Nat} {x : Option (List zps)} (h : zf6 H l = some x) {i : BI} (h4 : μ l = some i) : B <= l /\ ∃ x', H.t.get l = some (.deferred x) /\ w.heap[i.b]? = some (.deferred x') /\ DefRel μ x x' := by
 unfold zf6 at h; rw [zae, zh2, zad] at h; obtain ⟨h1, y, h2, h3⟩ := h
 have : y = .deferred x := by cases y <;> simp [zak.asDeferred] at h3; rw [h3]
 subst this; obtain ⟨o, h5, h6⟩ := hH.blk l _ i h2 h4
 rw [znt] at h6; obtain ⟨r', rfl, h7⟩ := h6
 refine ⟨Nat.le_of_not_lt fun hlt => ?_, r', h2, h5, ?_⟩
 ·have := (hH.low l _ i hlt h2 h4).2.2
  cases this
 cases x <;> cases r' <;> exact h7
theorem z5y {μ : Mu} {m : zto} {m' : FrameMode} (h : zs0 μ m m') (hm : m.running = false) : m' ≠ .run := by
 rintro rfl
 cases m <;> first | exact h.elim | cases hm
theorem z77 (hS : Sim P C B N I) (hH : zbf B N μ H w) (hcs : Frs C μ acs cs) {fr : zap} (hr : zbq μ fr.R b) (hm : fr.R.mode.running = false) (ht : zct μ fr.R.n fr.tm b.tmps) {d : zps} {l : List zps} (hd : fr.R.defers = d :: l) :
  zb8 P C B N μ base (lone b (cs ++ base) w) w (zxl C d l fr acs H) := by
 have hrun := z5y hr.mode hm
 have hds := hr.defers
 rw [hd] at hds; generalize hbd : b.defers = bd at hds
 cases hds with
 | @cons _ e _ es h1 h2 =>
  obtain ⟨dfn, dr, dargs⟩ := d
  have h1 := h1.rel
  unfold zxl
  cases dfn with
  | none =>
   obtain ⟨i, hi, rfl⟩ := h1
   simp only []
   cases hx : zf6 H dr with
   | none => exact trivial
   | some x =>
    rw [zac]
    cases x with
    | none => exact trivial
    | some calls =>
     obtain ⟨hl, x', hg, hw, rel⟩ := z17 hH hx hi
     cases x' with
     | none => exact rel.elim
     | some calls' =>
      have run : (Instr.takeDeferred i.b).run P w = .ok calls' (World.setBlk w i.b (.deferred none)) := by
       have : (setObj i.b (.deferred none)).run P w = .ok () (World.setBlk w i.b (.deferred none)) := zgw hw (by intro a b c h; cases h)
       have hg : (getObj i.b).run P w = .ok (.deferred (some calls')) w := by simp [getObj, Sem.run, hw]
       simp only [Instr.takeDeferred, Sem.run_bind, hg, Result.andThen_ok, this, Sem.run_pure]
      refine ⟨μ, _, cs, _, .one (zqv hrun hbd run), fun _ _ h => h, zc0 (hH.own dr i hl hi).1, ?_, ⟨?_, ?_⟩, hcs⟩
      ·refine hH.upd hg hi hl ?_
       rw [znt]; exact ⟨none, rfl, trivial⟩
      ·refine ⟨hr.fn, hr.size, ?_, hr.mode, hr.kind, hr.round⟩
       show zex (zjo μ) (ze3 calls l) (calls' ++ es)
       rw [zb7]; exact zex.append rel h2
      ·show if fr.R.mode.running = true then zdw C _ _ _ _ _ _ _ _ else _
       rw [if_neg (by rw [hm]; simp)]
       exact ht
  | some fn =>
   cases fn with
   | yld m => exact trivial
   | func f =>
    obtain ⟨fn, cap, as, rfl, hfn, hl⟩ := h1
    cases hfn; simp only []
    cases hp : C.prims.get f with
    | some x => exact trivial
    | none =>
     simp only []
     cases he : zfl C f dargs true with
     | none => exact trivial
     | some g =>
      obtain ⟨h3, fn, hfn, hb⟩ := zm8 (cur := some H) hS.fns he hl
      refine ⟨μ, _, { b with defers := es } :: cs, w, .one (z5f hrun hbd (zhs hS.fns hfn hb)), fun _ _ h => h, Below.refl N w, hH, h3, .cons ⟨⟨hr.fn, hr.size, h2, hr.mode, hr.kind, hr.round⟩, ?_⟩ hcs⟩
      show if fr.R.mode.running = true then zdw C _ _ _ _ _ _ _ _ else _
      rw [if_neg (by rw [hm]; simp)]
      exact ht
theorem zgf.still {dp : Nat} {cur cur' : Option zaf} {fr : zap} (h : zgf C μ dp cur fr b) (hm : fr.R.mode.running = false) : zgf C μ dp cur' fr b := by
 refine ⟨h.rest, ?_⟩
 have := h.body
 rw [if_neg (by rw [hm]; simp)] at this ⊢
 exact this
theorem zwt {l : List PanicEntry} {m : List zpk} (h : zex (zh4 μ) m l) : l.dropWhile (!·.goexit) = [] := by
 induction h with
 | nil => rfl
 | cons a _ ih => simp [a.goexit, ih]
def zzge (c : zap) (rest : List zap) (H : zaf) : Option zh5 :=
 match c.R.mode with
 | .panicking (⟨_, true⟩ :: _) => some (⟨zq1 c .returning, rest, H⟩ : zh5)
 | _ => zaj (!c.R.mode.running) (some ⟨c, rest, H⟩)
def z3g (C : Ctx) (fr : zap) (ch : List zpk) (cs : List zap) (H : zaf) : zho :=
 zia (ob (C.fns.get fr.R.fn) fun _ => match cs with | c :: rest => some ⟨z3h c ch, rest, H⟩ | [] => none) 19
theorem zzkt {dp : Nat} {c : zap} {c' : Frame} (hc : zgf C μ dp none c c') {x : zh5} {rest : List zap} (h : zzge c rest H = some x) : x.cs = rest /\ x.H = H /\ zgf C μ dp (some H) x.fr (zng c') := by
 have hm := hc.rest.mode
 have stay : c'.mode = c'.mode -> (zng c' = c') -> c.R.mode.running = false -> x = ⟨c, rest, H⟩ -> x.cs = rest /\ x.H = H /\ zgf C μ dp (some H) x.fr (zng c') := by
  intro _ h1 h2 h3; subst h3; rw [h1]; exact ⟨rfl, rfl, hc.still h2⟩
 obtain ⟨ct, ctm, cR⟩ := c
 obtain ⟨f, n, de, mode, dd, ro⟩ := cR
 unfold zzge at h; simp only at h hm
 cases mode with
 | run => cases h
 | returning =>
  cases hcm : c'.mode with
  | returning => exact stay rfl (by unfold zng; rw [hcm]) rfl (ybj h).symm
  | _ => rw [hcm] at hm; exact hm.elim
 | panicking ch =>
  cases hcm : c'.mode with
  | run => rw [hcm] at hm; exact hm.elim
  | returning => rw [hcm] at hm; exact hm.elim
  | panicking ch' =>
   rw [hcm] at hm
   cases hm with
   | nil => exact stay rfl (by unfold zng; rw [hcm]) rfl (ybj h).symm
   | @cons p e older older' hp hold =>
    obtain ⟨pv, pr⟩ := p
    obtain ⟨ev', er, eg⟩ := e
    obtain ⟨q1, q2, q3⟩ := hp
    simp only at q1 q2 q3
    subst q2 q3
    cases er with
    | false => exact stay rfl (by unfold zng; rw [hcm]) rfl (ybj h).symm
    | true =>
     cases ybj h
     refine ⟨rfl, rfl, ?_⟩
     have : zng c' = { c' with mode := .returning } := by
      unfold zng; rw [hcm]; simp only [zwt hold]
     rw [this]; have hb := hc.body
     exact ⟨⟨hc.rest.fn, hc.rest.size, hc.rest.defers, trivial, hc.rest.kind, hc.rest.round⟩, hb⟩
theorem z49 (hS : Sim P C B N I) (hH : zbf B N μ H w) (hcs : Frs C μ acs cs) {fr : zap} (hr : zbq μ fr.R b) (hm : b.mode = .returning) (hd : b.defers = []) (ht : zct μ fr.R.n fr.tm b.tmps) :
  zb8 P C B N μ base (lone b (cs ++ base) w) w (zqo C fr acs H) := by
 unfold zqo
 cases hx : ob (C.fns.get fr.R.fn) fun fn => zgp C H fr.tm fn.results.toList with
 | none => exact trivial
 | some l =>
  rw [zad] at hx; obtain ⟨fn, hfn, hres⟩ := hx
  obtain ⟨v, h1, h2⟩ := zt7 hS.tys hH ht hres
  have hf : P.funcs[b.fn]? = some fn := by rw [hr.fn]; exact (hS.fns _ _ hfn).1
  have hk := hr.kind
  simp only []
  cases hcs with
  | nil =>
   simp only [zal]
   cases hdf : fr.R.deferred with
   | true => exact trivial
   | false =>
    rw [hdf] at hk; rw [if_neg (by simp)]
    split
    ·rename_i hroot
     exact ⟨μ, b, w, v, .refl _ _, fun _ _ h => h, Below.refl N w, hH, h2, by rw [hr.fn]; exact zcy.1 hroot, hm, hd, hk, fn, hf, h1⟩
    ·exact trivial
  | @cons c c' acs1 cs1 hc hcs1 =>
   simp only []
   cases hdf : fr.R.deferred with
   | true =>
    rw [hdf] at hk; simp only [cond_true]; show zb8 P C B N μ base _ w (zia (zzge c acs1 H) 18)
    generalize hx : zzge c acs1 H = x
    cases x with
    | none => exact trivial
    | some x =>
     obtain ⟨h3, h4, h5⟩ := zzkt hc hx
     obtain ⟨xf, xc, xh⟩ := x
     simp only at h3 h4 h5
     subst h3 h4
     exact ⟨μ, _, cs1, w, .one (zs8 hm hd hk hf h1), fun _ _ h => h, Below.refl N w, hH, h5, hcs1⟩
   | false =>
    rw [hdf] at hk; simp only [cond_false]
    cases hfi : zb4 c (zlq l) with
    | none => exact trivial
    | some g =>
     exact ⟨μ, _, cs1, w, .one (step_leave_returned ⟨hm, hd, hk, fn, hf, h1⟩), fun _ _ h => h, Below.refl N w, hH, zhf hc hfi h2, hcs1⟩
theorem z75 (hS : Sim P C B N I) (hH : zbf B N μ H w) (hcs : Frs C μ acs cs) {fr : zap} (hfr : zgf C μ acs.length (some H) fr b) (hm : fr.R.mode.running = false) :
  zb8 P C B N μ base (lone b (cs ++ base) w) w (zvb C fr acs H) := by
 have ht : zct μ fr.R.n fr.tm b.tmps := by
  have := hfr.body
  rw [if_neg (by rw [hm]; simp)] at this
  exact this
 have hr := hfr.rest
 unfold zvb
 cases hd : fr.R.defers with
 | cons d l => exact z77 hS hH hcs hr hm ht hd
 | nil =>
  have hbd : b.defers = [] := by
   have := hr.defers
   rw [hd] at this; generalize hbd : b.defers = bd at this
   cases this
   rfl
  have hmode := hr.mode
  simp only []
  cases hmo : fr.R.mode with
  | run => rw [hmo] at hm; cases hm
  | returning =>
   rw [hmo] at hmode; have : b.mode = .returning := by
    cases hb : b.mode with
    | returning => rfl
    | _ => rw [hb] at hmode; exact hmode.elim
   exact z49 hS hH hcs hr this hbd ht
  | panicking ch =>
   rw [hmo] at hmode
   cases hb : b.mode with
   | run => rw [hb] at hmode; exact hmode.elim
   | returning => rw [hb] at hmode; exact hmode.elim
   | panicking ch' =>
    rw [hb] at hmode; show zb8 P C B N μ base _ w (z3g C fr ch acs H)
    unfold z3g
    cases hfn : C.fns.get fr.R.fn with
    | none => exact trivial
    | some fn =>
     rw [zac]; have hf : P.funcs[b.fn]? = some fn := by rw [hr.fn]; exact (hS.fns _ _ hfn).1
     cases hcs with
     | nil => exact trivial
     | @cons c c' acs1 cs1 hc hcs1 =>
      exact ⟨μ, _, cs1, w, .one (step_leave_panicked ⟨hb, hbd, fn, hf⟩), fun _ _ h => h, Below.refl N w, hH, z3f hc hmode, hcs1⟩
theorem zzdy (hS : Sim P C B N I) (hI : I w) {s : zh5} (hH : zbf B N μ s.H w) (hcs : Frs C μ s.cs cs) (hfr : zgf C μ s.cs.length (some s.H) s.fr b) : zb8 P C B N μ base (lone b (cs ++ base) w) w (stepA C s) := by
 obtain ⟨⟨todo, tm, R⟩, acs, H⟩ := s
 show zb8 P C B N μ base _ w (bif R.mode.running then zm7 C todo tm R acs H else zvb C ⟨todo, tm, R⟩ acs H)
 cases hm : R.mode.running with
 | false => exact z75 hS hH hcs hfr hm
 | true =>
  have hb := hfr.body
  have hr := hfr.rest
  simp only at hb hr
  rw [if_pos hm] at hb; have hbm : b.mode = .run := by
   have h := hr.mode
   cases hmo : R.mode with
   | run =>
    rw [hmo] at h
    cases hb : b.mode with
    | run => rfl
    | _ => rw [hb] at h; exact h.elim
   | _ => rw [hmo] at hm; cases hm
  have e := zzgf hbm
  have := zzkd (b := b) (tmps := b.tmps) (ds := b.defers) (base := base) hS hI hH hcs ⟨hr.fn, hr.size, hr.defers, by have := hr.mode; rw [hbm] at this; exact this, hr.kind, hr.round⟩ hb
  rw [e] at this; exact this
theorem z27 (hS : Sim P C B N I) (hI : I w) {m : Machine} {o : zho} (h : zb8 P C B N μ base m w o) : zb8 P C B N μ base m w (z5g C o) := by
 cases o with
 | fail n => exact trivial
 | done v H => exact h
 | next s =>
  obtain ⟨μ', b, cs, w', h1, h2, h3, h4, h5, h6⟩ := h
  exact zb8.of_steps h1 h2 h3 (zzdy hS (hS.inv _ _ h3 hI) h4 h6 h5)
theorem zzi1 (hS : Sim P C B N I) (hI : I w) {m : Machine} : ∀ (n : Nat) {o : zho}, zb8 P C B N μ base m w o -> zb8 P C B N μ base m w (z5k C n o) := by
 intro n; induction n with
 | zero => intro o h; exact z27 hS hI h
 | succ n ih => intro o h; exact ih (ih h)
theorem zze (hS : Sim P C B N I) (hI : I w) {f : Nat} (hroot : C.root = f) {args : List zab} {args' : Array Value} (hH : zbf B N μ H w) (hl : zbk μ args args'.toList) {g : zap} (he : zfl C f args false = some g) {n : Nat} {v : zab} {H' : zaf}
  (hrun : z5k C n (.next ⟨g, [], H⟩) = .done v H') :
  Calls P f args' w fun e w' => ∃ v' μ', e = .returned v' /\ μ.lw μ' /\ zan μ' v v' /\ zbf B N μ' H' w' /\ Below N w w' := by
 intro base; have h0 : zb8 P C B N μ base (lone (Frame.enter P f args' .normal) base w) w (.next ⟨g, [], H⟩) :=
  ⟨μ, _, [], w, .refl _ _, fun _ _ h => h, Below.refl N w, hH, (zm8 (cur := some H) hS.fns he hl).1, .nil⟩
 have h1 := zzi1 hS hI n h0
 rw [hrun] at h1; obtain ⟨μ', b, w', v', h2, h3, h4, h5, h6, h7, h8⟩ := h1
 exact ⟨.returned v', w', b, ⟨v', μ', rfl, h3, h6, h5, h4⟩, h2, by rw [h7, hroot], h8⟩
end
end Go.Am
namespace Go.Am
open Go Go.RowKit
abbrev zbs := Option (zab × zaf)
abbrev Ora := AFn -> List zab -> zaf -> zbs
structure Kt where
 norm : Tm -> zaf -> zbs
 exit : Nat -> Tm -> zaf -> zbs
 ret : Tm -> zaf -> zbs
structure PI where
 id : Nat
 pl : List Nat
 ll : List (Nat × Nat)
def PI.kept (p : PI) : List Nat := ze3 p.pl (List.rec (motive := fun _ => List Nat) [] (fun a _ r => a.1 :: r) p.ll)
inductive zcc where
 | skip
 | region (id : Nat) (ops : Array Oper) (draw : Bool)
 | seq (a b : zcc)
 | cond (c : Operand) (x y : zcc)
 | block (id : Nat) (c : zcc)
 | loop (p : PI) (c : zcc)
 | exit (id : Nat)
 | ret
 | cut (p : PI) (c : zcc)
 | range (i : Nat) (pl : List Nat) (f : Operand) (ps : Array Nat) (id : Nat) (ops : Array Oper) (c : zcc)
def zdh : zcc -> Code
 | .skip => .skip
 | .region id ops d => .region id ops d
 | .seq a b => .seq (zdh a) (zdh b)
 | .cond c x y => .cond c (zdh x) (zdh y)
 | .block id c => .block id (zdh c)
 | .loop _ c => .loop (zdh c)
 | .exit id => .exit id
 | .ret => .ret
 | .cut _ c => zdh c
 | .range _ _ f ps id ops c => .rangeFunc f ps (.region id ops false) (zdh c)
def lim {α : Type} (f : Nat -> Option α) : Option α := @dite _ (∃ n r, f n = some r) (Classical.propDecidable _) (fun h => f h.choose) (fun _ => none)
def Mono {α : Type} (f : Nat -> Option α) : Prop := ∀ n r, f n = some r -> f (n + 1) = some r
theorem Mono.le {α : Type} {f : Nat -> Option α} (h : Mono f) {n m : Nat} {r : α} (hr : f n = some r) (hnm : n <= m) : f m = some r := by
 induction hnm with
 | refl => exact hr
 | step _ ih => exact h _ _ ih
theorem zp3 {α : Type} {f : Nat -> Option α} (h : Mono f) {r : α} : lim f = some r ↔ ∃ n, f n = some r := by
 unfold lim; by_cases hx : ∃ n r, f n = some r
 ·rw [dif_pos hx]
  obtain ⟨r0, h0⟩ := hx.choose_spec
  constructor
  ·intro e; exact ⟨_, e⟩
  ·rintro ⟨n, hn⟩
   have a := h.le h0 (Nat.le_max_left hx.choose n)
   have b := h.le hn (Nat.le_max_right hx.choose n)
   rw [a] at b; rw [h0]; exact b
 ·rw [dif_neg hx]
  constructor
  ·intro e; cases e
  ·rintro ⟨n, hn⟩; exact absurd ⟨n, r, hn⟩ hx
def zzje : zce -> zab -> (zab -> zbs) -> zbs
 | .bool, v, K => ob v.asBool fun b => K (.bool b)
 | .int k, v, K => ob v.asIntK fun p => zaj (kEq p.1 k) (K (.int k p.2))
 | .string, v, K => ob v.asStr fun l => K (.str l)
 | .ptr _, v, K => K v
 | .slice _, v, K => K v
 | .arr _ _, v, K => K v
 | .map _ _, v, K => K v
 | .struct _, v, K => K v
 | .func, v, K => K v
 | .iface, v, K => K v
 | .other, v, K => K v
def fitD : zce -> zab -> Prop
 | .bool, v => ∃ b, v = .bool b
 | .int k, v => ∃ n, v = .int k n
 | .string, v => ∃ l, v = .str l
 | _, _ => True
theorem z5z {d : zce} {v : zab} {K : zab -> zbs} {x : zab × zaf} : zzje d v K = some x ↔ fitD d v /\ K v = some x := by
 cases d <;> simp only [zzje, fitD, zad, zae, true_and]
 case bool =>
  constructor
  ·rintro ⟨b, h1, h2⟩; have := zdv.1 h1; subst this; exact ⟨⟨b, rfl⟩, h2⟩
  ·rintro ⟨⟨b, rfl⟩, h⟩; exact ⟨b, rfl, h⟩
 case int k =>
  constructor
  ·rintro ⟨p, h1, h2, h3⟩; have := zc5.1 h1; subst this; rw [zev.1 h2]; exact ⟨⟨p.2, rfl⟩, h3⟩
  ·rintro ⟨⟨n, rfl⟩, h⟩; exact ⟨(k, n), rfl, zev.2 rfl, h⟩
 case string =>
  constructor
  ·rintro ⟨b, h1, h2⟩; have := zdp.1 h1; subst this; exact ⟨⟨b, rfl⟩, h2⟩
  ·rintro ⟨⟨b, rfl⟩, h⟩; exact ⟨b, rfl, h⟩
def zh9 (C : Ctx) (t : Nat) (v : zab) (K : zab -> zbs) : zbs :=
 match C.tys.get t with
 | some ty => zzje ty.desc v K
 | none => K v
def zzfu (C : Ctx) (t : Nat) (v : zab) : Prop :=
 match C.tys.get t with
 | some ty => fitD ty.desc v
 | none => True
theorem zcg {C : Ctx} {t : Nat} {v : zab} {K : zab -> zbs} {x : zab × zaf} : zh9 C t v K = some x ↔ zzfu C t v /\ K v = some x := by
 unfold zh9 zzfu; split
 ·exact z5z
 ·simp
def zjr (φ : Ora) (r : zs4) (H : zaf) (k : zab -> zaf -> zbs) : zbs :=
 match r with
 | .val v H' => k v H'
 | .enter f args => ob (φ (.func f) args H) fun p => k p.1 p.2
 | .round l args => ob (φ (.yld l) args H) fun p => k p.1 p.2
 | _ => none
def zw4 (C : Ctx) (φ : Ora) (all : Array Oper) (n : Nat) (κ : Tm -> zaf -> zbs) (l : List Oper) : Tm -> zaf -> zbs :=
 List.rec (motive := fun _ => Tm -> zaf -> zbs) κ
  (fun o _ g tm H => ob (zbb o.guard all tm) fun w => Bool.rec (motive := fun _ => zbs) (g (putA n tm o.dst zbh) H)
   (zjr φ ((aop o.op).f C (.now tm) H) H fun v H' => zh9 C o.type v fun v => g (putA n tm o.dst v) H') w) l
def zb6 (C : Ctx) (H : zaf) (all : Array Oper) (n : Nat) (old : Tm) (olds : List (Nat × List Nat)) (k : Tm -> zbs) (l : List Nat) : Tm -> zbs :=
 List.rec (motive := fun _ => Tm -> zbs) k
  (fun i _ g tm => ob (zd8 all.toList i) fun o => ob (zbb o.guard all tm) fun w => Bool.rec (motive := fun _ => zbs) (g (putA n tm o.dst zbh))
   (ob ((zbx o.op).f C (.mixed tm old (zcq i olds) (zbt o.op)) H) fun v => zh9 C o.type v fun v => g (putA n tm o.dst v)) w) l
def ze5 (C : Ctx) (H : zaf) (all : Array Oper) (old : Tm) (olds : List (Nat × List Nat)) (tm : Tm) (k : zbs) (l : List Nat) : zbs :=
 List.rec (motive := fun _ => zbs) k
  (fun i _ g => ob (zd8 all.toList i) fun o => ob o.dst fun d => ob (zbb o.guard all tm) fun w => Bool.rec (motive := fun _ => zbs) g
   (ob ((zbx o.op).f C (.mixed tm old (zcq i olds) (zbt o.op)) H) fun v => zh9 C o.type v fun v => ob (tm.get d) fun u => zaj (same 10 v u) g) w) l
def hvI (all : Array Oper) (h : Nat) : Nat := bif Nat.blt (zbw all.toList) h then Nat.sub h (Nat.succ (zbw all.toList)) else h
def zg0 (C : Ctx) (all : Array Oper) (h : Nat) (o : Oper) (tm : Tm) : Option Bool := ob (zbb o.guard all tm) fun w => bif Nat.blt (zbw all.toList) h then zaj (w && zeo o.op && zcm (zzeu C o.op)) (some w) else some w
def zgg (all : Array Oper) (st : zcz) : Bool := Nat.blt (zbw all.toList + zbw all.toList) st.heavy
def zy0 (C : Ctx) (all : Array Oper) (n : Nat) (old : Tm) (olds : List (Nat × List Nat)) (st : zcz) (g : Tm -> zaf -> zbs) (tm : Tm) (H : zaf) : zbs :=
 zaj (zle C all) (ob (z6t all old olds tm st.again) fun es => ob (zm3 C es H) fun H' => zb6 C H' all n old olds (fun tm => g tm H') st.lights tm)
def zca (C : Ctx) (φ : Ora) (all : Array Oper) (n : Nat) (old : Tm) (olds : List (Nat × List Nat)) (κ : Tm -> zaf -> zbs) (l : List zcz) : Tm -> zaf -> zbs :=
 List.rec (motive := fun _ => Tm -> zaf -> zbs) κ
  (fun st _ g tm H => Bool.rec (motive := fun _ => zbs) (ob (zd8 all.toList (hvI all st.heavy)) fun o => ob (zg0 C all st.heavy o tm) fun w =>
   (fun cont : zab -> zaf -> zbs => Bool.rec (motive := fun _ => zbs) (cont zbh H)
    (zjr φ ((aop o.op).f C (.mixed tm old (zcq (hvI all st.heavy) olds) (zbt o.op)) H) H fun v H' => zh9 C o.type v fun v => cont v H') w)
   (fun v H' => ze5 C H' all old olds (putA n tm o.dst v) (zb6 C H' all n old olds (fun tm => g tm H') st.lights (putA n tm o.dst v)) st.again)) (zy0 C all n old olds st g tm H) (zgg all st)) l
def zn1 (C : Ctx) (φ : Ora) (fn n : Nat) (κ : Tm -> zaf -> zbs) (id : Nat) (all : Array Oper) (draw : Bool) : Tm -> zaf -> zbs :=
 Bool.rec (motive := fun _ => Tm -> zaf -> zbs) (fun tm H => zw4 C φ all n κ all.toList tm.cut H)
  (fun tm H => ob (ob (C.plans.get fn) fun t => t.get id) fun p => zaj (zjt all p) (zb6 C H all n tm.cut p.olds (fun tm' => zca C φ all n tm.cut p.olds κ p.stages tm' H) p.first tm.cut)) draw
def zyv (tm : Tm) (live : List Nat) : Tr zab :=
 List.rec (motive := fun _ => Tr zab) .leaf (fun i _ t => match tm.get i with | some v => t.set i v | none => t) live
def keep (live : List Nat) (tm : Tm) : Tm := ⟨tm.k, zyv tm live, []⟩
def isDef0 : Option (List zps) -> Bool
 | some [] => true
 | _ => false
def zno (κ : Kt) (p : Option Code) (tm : Tm) (H : zaf) : zbs :=
 match p with
 | none => κ.norm tm H
 | some .ret => κ.ret tm H
 | _ => none
def endLoop (H : zaf) (l : Nat) (r : zk5) : zaf := setBlk H l (.loop ⟨.exhausted, r.pending, r.fn, r.n, r.tm, r.params, r.assign, r.body, r.defers⟩)
def zhv (C : Ctx) (φ : Ora) (fn n : Nat) (κ : Kt) (f : Operand) (ps : List Nat) (a b : Code) (tm : Tm) (H : zaf) : zbs :=
 ob (ev f (.now tm)) fun v => ob v.asFunc fun q => match q.1 with
  | .yld _ => none
  | .func g => zaj (zcm (C.prims.get g)) (ob (φ (.func g) (ze3 q.2.1 (.func (.yld (H.next + 1)) [] [] :: q.2.2)) (newBlk (newBlk H (.deferred (some []))) (.loop ⟨.ready, none, fn, n, tm, ps, a, b, H.next⟩))) fun y =>
   ob (zd7 y.2 (H.next + 1)) fun r => zaj (!Nat.beq (LoopState.tag r.state) 1) (ob (zno κ r.pending tm (endLoop y.2 (H.next + 1) r)) fun z =>
    ob (zf6 z.2 H.next) fun d => zaj (isDef0 d) (some (z.1, setBlk z.2 H.next (.deferred none)))))
def den (C : Ctx) (φ : Ora) (fn n : Nat) (c : zcc) : Kt -> Tm -> zaf -> zbs :=
 zcc.rec (motive := fun _ => Kt -> Tm -> zaf -> zbs)
  (fun κ tm H => κ.norm tm H)
  (fun id all draw κ => zn1 C φ fn n κ.norm id all draw)
  (fun _ _ ga gb κ => ga ⟨gb κ, κ.exit, κ.ret⟩)
  (fun c _ _ gx gy κ tm H => ob (ob (ev c (.now tm)) zab.asBool) fun b => Bool.rec (motive := fun _ => zbs) (gy κ tm H) (gx κ tm H) b)
  (fun id _ g κ => g ⟨κ.norm, fun i tm H => Bool.rec (motive := fun _ => zbs) (κ.exit i tm H) (κ.norm tm H) (Nat.beq id i), κ.ret⟩)
  (fun live _ g κ tm H => lim fun m => Nat.rec (motive := fun _ => Tm -> zaf -> zbs) (fun _ _ => none) (fun _ r tm H => g ⟨r, κ.exit, κ.ret⟩ (keep live.kept tm) H) m tm H)
  (fun id κ tm H => κ.exit id tm H)
  (fun κ tm H => κ.ret tm H)
  (fun live _ g κ tm H => g κ (keep live.kept tm) H)
  (fun _ _ f ps id ops c _ κ tm H => zhv C φ fn n κ f ps.toList (.region id ops false) (zdh c) tm H) c
end Go.Am
namespace Go.Am
open Go Go.RowKit
def Le2 {α β γ : Type} (k k' : α -> β -> Option γ) : Prop := ∀ a b x, k a b = some x -> k' a b = some x
def OLe (φ φ' : Ora) : Prop := ∀ f a H x, φ f a H = some x -> φ' f a H = some x
structure KLe (κ κ' : Kt) : Prop where
 norm : Le2 κ.norm κ'.norm
 exit : ∀ i, Le2 (κ.exit i) (κ'.exit i)
 ret : Le2 κ.ret κ'.ret
section
variable {C : Ctx} {φ φ' : Ora} {all : Array Oper} {n : Nat} {x : zab × zaf}
theorem zx1 (hφ : OLe φ φ') {r : zs4} {H : zaf} {k k' : zab -> zaf -> zbs} (hk : Le2 k k') (h : zjr φ r H k = some x) : zjr φ' r H k' = some x := by
 cases r <;> simp only [zjr] at h ⊢ <;> try (cases h; done)
 case val v H' => exact hk _ _ _ h
 case enter f args =>
  rw [zad] at h ⊢
  obtain ⟨p, h1, h2⟩ := h
  exact ⟨p, hφ _ _ _ _ h1, hk _ _ _ h2⟩
 case round l args =>
  rw [zad] at h ⊢
  obtain ⟨p, h1, h2⟩ := h
  exact ⟨p, hφ _ _ _ _ h1, hk _ _ _ h2⟩
theorem zn6 {t : Nat} {k k' : zab -> zaf -> zbs} (hk : Le2 k k') : Le2 (fun v H => zh9 C t v fun v => k v H) (fun v H => zh9 C t v fun v => k' v H) := by
 intro v H x h; rw [zcg] at h ⊢
 exact ⟨h.1, hk _ _ _ h.2⟩
theorem zg7 {κ : Tm -> zaf -> zbs} {o : Oper} {l : List Oper} {tm : Tm} {H : zaf} : zw4 C φ all n κ (o :: l) tm H = ob (zbb o.guard all tm) fun w => if w = true then
   (zjr φ ((aop o.op).f C (.now tm) H) H fun v H' => zh9 C o.type v fun v => zw4 C φ all n κ l (putA n tm o.dst v) H') else zw4 C φ all n κ l (putA n tm o.dst zbh) H := by
 show (ob (zbb o.guard all tm) fun w => Bool.rec (motive := fun _ => zbs) _ _ w) = _
 congr 1; funext w; rw [zns]; rfl
theorem zrf (hφ : OLe φ φ') {κ κ' : Tm -> zaf -> zbs} (hκ : Le2 κ κ') : ∀ (l : List Oper), Le2 (zw4 C φ all n κ l) (zw4 C φ' all n κ' l) := by
 intro l; induction l with
 | nil => exact hκ
 | cons o l ih =>
  intro tm H x h; rw [zg7, zad] at h ⊢
  obtain ⟨w, h1, h2⟩ := h
  refine ⟨w, h1, ?_⟩
  split at h2
  ·rename_i e; rw [if_pos e]; exact zx1 hφ (zn6 (k := fun v H' => zw4 C φ all n κ l (putA n tm o.dst v) H') (k' := fun v H' => zw4 C φ' all n κ' l (putA n tm o.dst v) H') fun v H' y hy => ih _ _ _ hy) h2
  ·rename_i e; rw [if_neg e]; exact ih _ _ _ h2
variable {H : zaf} {old : Tm} {olds : List (Nat × List Nat)}
theorem zhy {k : Tm -> zbs} {i : Nat} {l : List Nat} {tm : Tm} : zb6 C H all n old olds k (i :: l) tm = ob (zd8 all.toList i) fun o => ob (zbb o.guard all tm) fun w => if w = true then
   (ob ((zbx o.op).f C (.mixed tm old (zcq i olds) (zbt o.op)) H) fun v => zh9 C o.type v fun v => zb6 C H all n old olds k l (putA n tm o.dst v)) else zb6 C H all n old olds k l (putA n tm o.dst zbh) := by
 show (ob (zd8 all.toList i) fun o => ob (zbb o.guard all tm) fun w => Bool.rec (motive := fun _ => zbs) _ _ w) = _
 congr 1; funext o; congr 1; funext w; rw [zns]; rfl
theorem zhx {k k' : Tm -> zbs} (hk : ∀ tm x, k tm = some x -> k' tm = some x) : ∀ (l : List Nat) tm x, zb6 C H all n old olds k l tm = some x -> zb6 C H all n old olds k' l tm = some x := by
 intro l; induction l with
 | nil => exact hk
 | cons i l ih =>
  intro tm x h; rw [zhy, zad] at h ⊢
  obtain ⟨o, h1, h2⟩ := h
  refine ⟨o, h1, ?_⟩
  rw [zad] at h2 ⊢
  obtain ⟨w, h3, h4⟩ := h2
  refine ⟨w, h3, ?_⟩
  split at h4
  ·rename_i e
   rw [if_pos e]; rw [zad] at h4 ⊢
   obtain ⟨v, h5, h6⟩ := h4
   rw [zcg] at h6; exact ⟨v, h5, by rw [zcg]; exact ⟨h6.1, ih _ _ h6.2⟩⟩
  ·rename_i e; rw [if_neg e]; exact ih _ _ h4
theorem zl6 {tm : Tm} {k : zbs} {i : Nat} {l : List Nat} : ze5 C H all old olds tm k (i :: l) = ob (zd8 all.toList i) fun o => ob o.dst fun d => ob (zbb o.guard all tm) fun w => if w = true then
   (ob ((zbx o.op).f C (.mixed tm old (zcq i olds) (zbt o.op)) H) fun v => zh9 C o.type v fun v => ob (tm.get d) fun u => zaj (same 10 v u) (ze5 C H all old olds tm k l)) else ze5 C H all old olds tm k l := by
 show (ob (zd8 all.toList i) fun o => ob o.dst fun d => ob (zbb o.guard all tm) fun w => Bool.rec (motive := fun _ => zbs) _ _ w) = _
 congr 1; funext o; congr 1; funext d; congr 1; funext w; rw [zns]; rfl
theorem zhm {tm : Tm} {k : zbs} : ∀ (l : List Nat), ze5 C H all old olds tm k l = some x -> zph C H all old olds tm l = true /\ k = some x := by
 intro l; induction l with
 | nil => intro h; exact ⟨rfl, h⟩
 | cons i l ih =>
  intro h; rw [zl6, zad] at h; obtain ⟨o, h1, h⟩ := h
  rw [zad] at h; obtain ⟨d, h2, h⟩ := h
  rw [zad] at h; obtain ⟨w, h3, h⟩ := h
  unfold zph; simp only [h1, zac, h2, h3]
  cases w with
  | false => exact ih h
  | true =>
   rw [if_pos rfl, zad] at h; obtain ⟨v, h4, h⟩ := h
   rw [zcg] at h; obtain ⟨h5, h⟩ := h
   rw [zad] at h; obtain ⟨y, h6, h⟩ := h
   rw [zae] at h; simp only [cond_true, h4, zac, h6, h.1]; exact ih h.2
theorem zsv {tm : Tm} {k k' : zbs} (hk : k' = some x) : ∀ (l : List Nat), ze5 C H all old olds tm k l = some x -> ze5 C H all old olds tm k' l = some x := by
 intro l; induction l with
 | nil => intro _; exact hk
 | cons i l ih =>
  intro h; rw [zl6, zad] at h ⊢
  obtain ⟨o, h1, h⟩ := h
  refine ⟨o, h1, ?_⟩
  rw [zad] at h ⊢
  obtain ⟨d, h2, h⟩ := h
  refine ⟨d, h2, ?_⟩
  rw [zad] at h ⊢
  obtain ⟨w, h3, h⟩ := h
  refine ⟨w, h3, ?_⟩
  split at h
  ·rename_i e
   rw [if_pos e]; rw [zad] at h ⊢
   obtain ⟨v, h4, h⟩ := h
   refine ⟨v, h4, ?_⟩
   rw [zcg] at h ⊢
   obtain ⟨h5, h⟩ := h
   refine ⟨h5, ?_⟩
   rw [zad] at h ⊢
   obtain ⟨y, h6, h⟩ := h
   refine ⟨y, h6, ?_⟩
   rw [zae] at h ⊢
   exact ⟨h.1, ih h.2⟩
  ·rename_i e; rw [if_neg e]; exact ih h
theorem ze2 {κ : Tm -> zaf -> zbs} {st : zcz} {l : List zcz} {tm : Tm} (hg : zgg all st = false) : zca C φ all n old olds κ (st :: l) tm H = ob (zd8 all.toList (hvI all st.heavy)) fun o => ob (zg0 C all st.heavy o tm) fun w =>
   (fun cont : zab -> zaf -> zbs => if w = true then (zjr φ ((aop o.op).f C (.mixed tm old (zcq (hvI all st.heavy) olds) (zbt o.op)) H) H fun v H' => zh9 C o.type v fun v => cont v H') else cont zbh H)
   (fun v H' => ze5 C H' all old olds (putA n tm o.dst v) (zb6 C H' all n old olds (fun tm => zca C φ all n old olds κ l tm H') st.lights (putA n tm o.dst v)) st.again) := by
 show Bool.rec (motive := fun _ => zbs) _ _ (zgg all st) = _
 rw [hg]; show (ob (zd8 all.toList (hvI all st.heavy)) fun o => ob (zg0 C all st.heavy o tm) fun w => (fun cont : zab -> zaf -> zbs => Bool.rec (motive := fun _ => zbs) _ _ w) _) = _
 congr 1; funext o; congr 1; funext w; cases w <;> rfl
theorem ze9 {κ : Tm -> zaf -> zbs} {st : zcz} {l : List zcz} {tm : Tm} (hg : zgg all st = true) : zca C φ all n old olds κ (st :: l) tm H = zy0 C all n old olds st (zca C φ all n old olds κ l) tm H := by
 show Bool.rec (motive := fun _ => zbs) _ _ (zgg all st) = _
 rw [hg]; rfl
theorem zjb {st : zcz} {g : Tm -> zaf -> zbs} {tm : Tm} {x : zab × zaf} : zy0 C all n old olds st g tm H = some x ↔ zle C all = true /\ ∃ es H', z6t all old olds tm st.again = some es /\ zm3 C es H = some H' /\ zb6 C H' all n old olds (fun tm => g tm H') st.lights tm = some x := by
 unfold zy0; simp only [zad, zae]; constructor
 ·rintro ⟨h0, es, h1, H', h2, h3⟩; exact ⟨h0, es, H', h1, h2, h3⟩
 ·rintro ⟨h0, es, H', h1, h2, h3⟩; exact ⟨h0, es, h1, H', h2, h3⟩
theorem zj1 (hφ : OLe φ φ') {κ κ' : Tm -> zaf -> zbs} (hκ : Le2 κ κ') : ∀ (l : List zcz), Le2 (zca C φ all n old olds κ l) (zca C φ' all n old olds κ' l) := by
 intro l; induction l with
 | nil => exact hκ
 | cons st l ih =>
  intro tm H x h
  cases hg : zgg all st with
  | true =>
   rw [ze9 hg, zjb] at h ⊢
   obtain ⟨h0, es, H', h1, h2, h3⟩ := h
   exact ⟨h0, es, H', h1, h2, zhx (fun tm x hx => ih _ _ _ hx) _ _ _ h3⟩
  | false =>
  rw [ze2 hg, zad] at h ⊢
  obtain ⟨o, h1, h⟩ := h
  refine ⟨o, h1, ?_⟩
  rw [zad] at h ⊢
  obtain ⟨w, h2, h⟩ := h
  refine ⟨w, h2, ?_⟩
  have cont : ∀ v H' y, ze5 C H' all old olds (putA n tm o.dst v) (zb6 C H' all n old olds (fun tm => zca C φ all n old olds κ l tm H') st.lights (putA n tm o.dst v)) st.again = some y →
    ze5 C H' all old olds (putA n tm o.dst v) (zb6 C H' all n old olds (fun tm => zca C φ' all n old olds κ' l tm H') st.lights (putA n tm o.dst v)) st.again = some y := by
   intro v H' y hy; exact zsv (zhx (fun tm x hx => ih _ _ _ hx) _ _ _ (zhm _ hy).2) _ hy
  simp only [] at h ⊢
  split at h
  ·rename_i e; rw [if_pos e]; exact zx1 hφ (zn6 cont) h
  ·rename_i e; rw [if_neg e]; exact cont _ _ _ h
theorem zoy (hφ : OLe φ φ') {κ κ' : Tm -> zaf -> zbs} (hκ : Le2 κ κ') {fn id : Nat} {draw : Bool} : Le2 (zn1 C φ fn n κ id all draw) (zn1 C φ' fn n κ' id all draw) := by
 intro tm H x h
 cases draw with
 | false => exact zrf hφ hκ _ _ _ _ h
 | true =>
  have h : (ob (ob (C.plans.get fn) fun t => t.get id) fun p => zaj (zjt all p) (zb6 C H all n tm.cut p.olds (fun tm' => zca C φ all n tm.cut p.olds κ p.stages tm' H) p.first tm.cut)) = some x := h
  show (ob (ob (C.plans.get fn) fun t => t.get id) fun p => zaj (zjt all p) (zb6 C H all n tm.cut p.olds (fun tm' => zca C φ' all n tm.cut p.olds κ' p.stages tm' H) p.first tm.cut)) = some x
  rw [zad] at h ⊢
  obtain ⟨p, h1, h⟩ := h
  refine ⟨p, h1, ?_⟩
  rw [zae] at h ⊢
  exact ⟨h.1, zhx (fun tm x hx => zj1 hφ hκ _ _ _ _ hx) _ _ _ h.2⟩
theorem zsw {κ κ' : Kt} (hκ : KLe κ κ') {p : Option Code} : Le2 (zno κ p) (zno κ' p) := by
 intro tm H x h; unfold zno at h ⊢
 split at h
 ·exact hκ.norm _ _ _ h
 ·exact hκ.ret _ _ _ h
 ·cases h
theorem zq9 (hφ : OLe φ φ') {κ κ' : Kt} (hκ : KLe κ κ') {fn : Nat} {f : Operand} {ps : List Nat} {a b : Code} : Le2 (zhv C φ fn n κ f ps a b) (zhv C φ' fn n κ' f ps a b) := by
 intro tm H x h; unfold zhv at h ⊢
 rw [zad] at h ⊢
 obtain ⟨v, h1, h⟩ := h
 refine ⟨v, h1, ?_⟩
 rw [zad] at h ⊢
 obtain ⟨q, h2, h⟩ := h
 refine ⟨q, h2, ?_⟩
 split at h
 ·cases h
 ·rw [zae, zad] at h ⊢
  obtain ⟨h3, y, h4, h⟩ := h
  refine ⟨h3, y, hφ _ _ _ _ h4, ?_⟩
  rw [zad] at h ⊢
  obtain ⟨r, h5, h⟩ := h
  refine ⟨r, h5, ?_⟩
  rw [zae, zad] at h ⊢
  obtain ⟨h6, z, h7, h⟩ := h
  exact ⟨h6, z, zsw hκ _ _ _ h7, h⟩
end
end Go.Am
namespace Go.Am
open Go Go.RowKit
theorem zzal {α : Type} {f : Nat -> Option α} {r : α} (h : lim f = some r) : ∃ n, f n = some r := by
 unfold lim at h; by_cases hx : ∃ n r, f n = some r
 ·rw [dif_pos hx] at h; exact ⟨_, h⟩
 ·rw [dif_neg hx] at h; cases h
structure zzz {α β γ : Type} (ks : Nat -> α -> β -> Option γ) (k : α -> β -> Option γ) : Prop where
 up : ∀ n, Le2 (ks n) (ks (n + 1))
 ex : ∀ a b x, k a b = some x -> ∃ n, ks n a b = some x
theorem z74 {α β γ : Type} {ks : Nat -> α -> β -> Option γ} (h : ∀ n, Le2 (ks n) (ks (n + 1))) {n m : Nat} (hnm : n <= m) : Le2 (ks n) (ks m) := by
 induction hnm with
 | refl => exact fun _ _ _ h => h
 | step _ ih => exact fun a b x hx => h _ _ _ _ (ih a b x hx)
structure zzgn (φs : Nat -> Ora) (φ : Ora) : Prop where
 up : ∀ n, OLe (φs n) (φs (n + 1))
 ex : ∀ f a H x, φ f a H = some x -> ∃ n, φs n f a H = some x
theorem zzgn.le {φs : Nat -> Ora} {φ : Ora} (h : zzgn φs φ) {n m : Nat} (hnm : n <= m) : OLe (φs n) (φs m) := by
 induction hnm with
 | refl => exact fun _ _ _ _ h => h
 | step _ ih => exact fun f a H x hx => h.up _ _ _ _ _ (ih f a H x hx)
structure zzky (κs : Nat -> Kt) (κ : Kt) : Prop where
 norm : zzz (fun n => (κs n).norm) κ.norm
 exit : ∀ i, zzz (fun n => (κs n).exit i) (κ.exit i)
 ret : zzz (fun n => (κs n).ret) κ.ret
section
variable {C : Ctx} {φ φ' : Ora} {φs : Nat -> Ora} {all : Array Oper} {N fn : Nat}
theorem zzbf {g g' : Kt -> Tm -> zaf -> zbs} {κ κ' : Kt} (hκ : KLe κ κ') (hg : ∀ κ κ', KLe κ κ' -> Le2 (g κ) (g' κ')) (live : List Nat) : ∀ m, Le2 (Nat.rec (motive := fun _ => Tm -> zaf -> zbs) (fun _ _ => none) (fun _ r tm H => g ⟨r, κ.exit, κ.ret⟩ (keep live tm) H) m)
  (Nat.rec (motive := fun _ => Tm -> zaf -> zbs) (fun _ _ => none) (fun _ r tm H => g' ⟨r, κ'.exit, κ'.ret⟩ (keep live tm) H) m) := by
 intro m; induction m with
 | zero => intro a b x h; cases h
 | succ m ih => exact fun a b x h => hg ⟨_, _, _⟩ ⟨_, _, _⟩ ⟨ih, hκ.exit, hκ.ret⟩ _ _ _ h
theorem KLe.refl (κ : Kt) : KLe κ κ := ⟨fun _ _ _ h => h, fun _ _ _ _ h => h, fun _ _ _ h => h⟩
theorem z1m {g : Kt -> Tm -> zaf -> zbs} {κ : Kt} (hg : ∀ κ κ', KLe κ κ' -> Le2 (g κ) (g κ')) (live : List Nat) : ∀ m, Le2 (Nat.rec (motive := fun _ => Tm -> zaf -> zbs) (fun _ _ => none) (fun _ r tm H => g ⟨r, κ.exit, κ.ret⟩ (keep live tm) H) m)
  (Nat.rec (motive := fun _ => Tm -> zaf -> zbs) (fun _ _ => none) (fun _ r tm H => g ⟨r, κ.exit, κ.ret⟩ (keep live tm) H) (m + 1)) := by
 intro m; induction m with
 | zero => intro a b x h; cases h
 | succ m ih => exact fun a b x h => hg ⟨_, _, _⟩ ⟨_, _, _⟩ ⟨ih, (KLe.refl κ).exit, (KLe.refl κ).ret⟩ _ _ _ h
theorem zjf (hφ : OLe φ φ') : ∀ (c : zcc) (κ κ' : Kt), KLe κ κ' -> Le2 (den C φ fn N c κ) (den C φ' fn N c κ') := by
 have self : ∀ (ψ : Ora), OLe ψ ψ := fun _ _ _ _ _ h => h
 intro c; suffices h : ∀ φ φ', OLe φ φ' -> ∀ (κ κ' : Kt), KLe κ κ' -> Le2 (den C φ fn N c κ) (den C φ' fn N c κ') from h φ φ' hφ
 induction c with
 | skip => exact fun _ _ _ κ κ' hκ => hκ.norm
 | region id ops d => exact fun _ _ hφ κ κ' hκ => zoy hφ hκ.norm
 | seq a b iha ihb => exact fun _ _ hφ κ κ' hκ => iha _ _ hφ _ _ ⟨ihb _ _ hφ _ _ hκ, hκ.exit, hκ.ret⟩
 | cond c a b iha ihb =>
  intro φ φ' hφ κ κ' hκ tm H x h; have h : (ob (ob (ev c (.now tm)) zab.asBool) fun t => Bool.rec (motive := fun _ => zbs) (den C φ fn N b κ tm H) (den C φ fn N a κ tm H) t) = some x := h
  show (ob (ob (ev c (.now tm)) zab.asBool) fun t => Bool.rec (motive := fun _ => zbs) (den C φ' fn N b κ' tm H) (den C φ' fn N a κ' tm H) t) = some x
  rw [zad] at h ⊢
  obtain ⟨t, h1, h2⟩ := h
  refine ⟨t, h1, ?_⟩
  cases t with
  | true => exact iha _ _ hφ _ _ hκ _ _ _ h2
  | false => exact ihb _ _ hφ _ _ hκ _ _ _ h2
 | block id c ih =>
  intro φ φ' hφ κ κ' hκ; refine ih _ _ hφ _ _ ⟨hκ.norm, fun i tm H x h => ?_, hκ.ret⟩
  simp only [zns] at h ⊢
  split at h
  ·rename_i e; rw [if_pos e]; exact hκ.norm _ _ _ h
  ·rename_i e; rw [if_neg e]; exact hκ.exit _ _ _ _ h
 | loop live c ih =>
  intro φ φ' hφ κ κ' hκ tm H x h; obtain ⟨m, hm⟩ := zzal h
  refine (zp3 fun m y hy => z1m (ih _ _ (self φ')) live.kept m _ _ _ hy).2 ⟨m, ?_⟩
  exact zzbf hκ (ih _ _ hφ) live.kept m _ _ _ hm
 | exit id => exact fun _ _ _ κ κ' hκ => hκ.exit id
 | ret => exact fun _ _ _ κ κ' hκ => hκ.ret
 | cut live c ih => exact fun _ _ hφ κ κ' hκ tm H x h => ih _ _ hφ _ _ hκ _ _ _ h
 | range i pl f ps id ops c ih => exact fun _ _ hφ κ κ' hκ tm H x h => zq9 hφ hκ _ _ _ h
theorem z3d (hφ : zzgn φs φ) {r : zs4} {H : zaf} {ks : Nat -> zab -> zaf -> zbs} {k : zab -> zaf -> zbs} (hk : zzz ks k) {x : zab × zaf} (h : zjr φ r H k = some x) : ∃ n, zjr (φs n) r H (ks n) = some x := by
 cases r <;> simp only [zjr] at h ⊢ <;> try (cases h; done)
 case val v H' => exact hk.ex _ _ _ h
 case enter f args =>
  rw [zad] at h; obtain ⟨p, h1, h2⟩ := h
  obtain ⟨n, hn⟩ := hφ.ex _ _ _ _ h1
  obtain ⟨m, hm⟩ := hk.ex _ _ _ h2
  exact ⟨max n m, by rw [zad]; exact ⟨p, hφ.le (Nat.le_max_left n m) _ _ _ _ hn, z74 hk.up (Nat.le_max_right n m) _ _ _ hm⟩⟩
 case round l args =>
  rw [zad] at h; obtain ⟨p, h1, h2⟩ := h
  obtain ⟨n, hn⟩ := hφ.ex _ _ _ _ h1
  obtain ⟨m, hm⟩ := hk.ex _ _ _ h2
  exact ⟨max n m, by rw [zad]; exact ⟨p, hφ.le (Nat.le_max_left n m) _ _ _ _ hn, z74 hk.up (Nat.le_max_right n m) _ _ _ hm⟩⟩
theorem zyg {t : Nat} {ks : Nat -> zab -> zaf -> zbs} {k : zab -> zaf -> zbs} (hk : zzz ks k) : zzz (fun n v H => zh9 C t v fun v => ks n v H) (fun v H => zh9 C t v fun v => k v H) := by
 refine ⟨fun n => zn6 (hk.up n), fun v H x h => ?_⟩
 rw [zcg] at h; obtain ⟨n, hn⟩ := hk.ex _ _ _ h.2
 exact ⟨n, by rw [zcg]; exact ⟨h.1, hn⟩⟩
theorem zzek (hφ : zzgn φs φ) {κs : Nat -> Tm -> zaf -> zbs} {κ : Tm -> zaf -> zbs} (hκ : zzz κs κ) : ∀ (l : List Oper), zzz (fun n => zw4 C (φs n) all N (κs n) l) (zw4 C φ all N κ l) := by
 intro l; refine ⟨fun n => zrf (hφ.up n) (hκ.up n) l, ?_⟩
 induction l with
 | nil => exact hκ.ex
 | cons o l ih =>
  intro tm H x h; rw [zg7, zad] at h; obtain ⟨w, h1, h2⟩ := h
  split at h2
  ·rename_i e
   obtain ⟨n, hn⟩ := z3d hφ (zyg (ks := fun n v H' => zw4 C (φs n) all N (κs n) l (putA N tm o.dst v) H') (k := fun v H' => zw4 C φ all N κ l (putA N tm o.dst v) H') ⟨fun n v H' y hy => zrf (hφ.up n) (hκ.up n) l _ _ _ hy, fun v H' y hy => ih _ _ _ hy⟩) h2
   exact ⟨n, by show zw4 C (φs n) all N (κs n) (o :: l) tm H = some x; rw [zg7, zad]; exact ⟨w, h1, by rw [if_pos e]; exact hn⟩⟩
  ·rename_i e
   obtain ⟨n, hn⟩ := ih _ _ _ h2
   exact ⟨n, by show zw4 C (φs n) all N (κs n) (o :: l) tm H = some x; rw [zg7, zad]; exact ⟨w, h1, by rw [if_neg e]; exact hn⟩⟩
variable {old : Tm} {olds : List (Nat × List Nat)}
theorem zl0 {H : zaf} {ks : Nat -> Tm -> zbs} {k : Tm -> zbs} (hk : ∀ tm x, k tm = some x -> ∃ n, ks n tm = some x) : ∀ (l : List Nat) tm x, zb6 C H all N old olds k l tm = some x -> ∃ n, zb6 C H all N old olds (ks n) l tm = some x := by
 intro l; induction l with
 | nil => exact hk
 | cons i l ih =>
  intro tm x h; simp only [zhy] at h ⊢
  rw [zad] at h; obtain ⟨o, h1, h⟩ := h
  rw [zad] at h; obtain ⟨w, h3, h4⟩ := h
  split at h4
  ·rename_i e
   rw [zad] at h4; obtain ⟨v, h5, h6⟩ := h4
   rw [zcg] at h6; obtain ⟨n, hn⟩ := ih _ _ h6.2
   exact ⟨n, by rw [h1, zac, h3, zac, if_pos e, h5, zac, zcg]; exact ⟨h6.1, hn⟩⟩
  ·rename_i e
   obtain ⟨n, hn⟩ := ih _ _ h4
   exact ⟨n, by rw [h1, zac, h3, zac, if_neg e]; exact hn⟩
theorem z0r (hφ : zzgn φs φ) {κs : Nat -> Tm -> zaf -> zbs} {κ : Tm -> zaf -> zbs} (hκ : zzz κs κ) : ∀ (l : List zcz), zzz (fun n => zca C (φs n) all N old olds (κs n) l) (zca C φ all N old olds κ l) := by
 intro l; refine ⟨fun n => zj1 (hφ.up n) (hκ.up n) l, ?_⟩
 induction l with
 | nil => exact hκ.ex
 | cons st l ih =>
  intro tm H x h
  cases hg : zgg all st with
  | true =>
   rw [ze9 hg, zjb] at h; obtain ⟨h0, es, H', h1, h2, h3⟩ := h
   obtain ⟨n, hn⟩ := zl0 (fun tm x hx => ih tm H' x hx) _ _ _ h3
   exact ⟨n, by show zca C (φs n) all N old olds (κs n) (st :: l) tm H = some x; rw [ze9 hg, zjb]; exact ⟨h0, es, H', h1, h2, hn⟩⟩
  | false =>
  rw [ze2 hg, zad] at h; obtain ⟨o, h1, h⟩ := h
  rw [zad] at h; obtain ⟨w, h2, h⟩ := h
  have cont : zzz (fun n v H' => ze5 C H' all old olds (putA N tm o.dst v) (zb6 C H' all N old olds (fun tm => zca C (φs n) all N old olds (κs n) l tm H') st.lights (putA N tm o.dst v)) st.again)
    (fun v H' => ze5 C H' all old olds (putA N tm o.dst v) (zb6 C H' all N old olds (fun tm => zca C φ all N old olds κ l tm H') st.lights (putA N tm o.dst v)) st.again) := by
   refine ⟨fun n v H' y hy => zsv (zhx (fun tm x hx => zj1 (hφ.up n) (hκ.up n) l _ _ _ hx) _ _ _ (zhm _ hy).2) _ hy, fun v H' y hy => ?_⟩
   obtain ⟨n, hn⟩ := zl0 (fun tm x hx => ih tm H' x hx) _ _ _ (zhm _ hy).2
   exact ⟨n, zsv hn _ hy⟩
  simp only [] at h; split at h
  ·rename_i e
   obtain ⟨n, hn⟩ := z3d hφ (zyg cont) h
   exact ⟨n, by show zca C (φs n) all N old olds (κs n) (st :: l) tm H = some x; rw [ze2 hg, h1, zac, h2, zac]; simp only []; rw [if_pos e]; exact hn⟩
  ·rename_i e
   obtain ⟨n, hn⟩ := cont.ex _ _ _ h
   exact ⟨n, by show zca C (φs n) all N old olds (κs n) (st :: l) tm H = some x; rw [ze2 hg, h1, zac, h2, zac]; simp only []; rw [if_neg e]; exact hn⟩
theorem z0z (hφ : zzgn φs φ) {κs : Nat -> Tm -> zaf -> zbs} {κ : Tm -> zaf -> zbs} (hκ : zzz κs κ) {id : Nat} {draw : Bool} : zzz (fun n => zn1 C (φs n) fn N (κs n) id all draw) (zn1 C φ fn N κ id all draw) := by
 refine ⟨fun n => zoy (hφ.up n) (hκ.up n), fun tm H x h => ?_⟩
 cases draw with
 | false => exact (zzek hφ hκ _).ex _ _ _ h
 | true =>
  have h : (ob (ob (C.plans.get fn) fun t => t.get id) fun p => zaj (zjt all p) (zb6 C H all N tm.cut p.olds (fun tm' => zca C φ all N tm.cut p.olds κ p.stages tm' H) p.first tm.cut)) = some x := h
  rw [zad] at h; obtain ⟨p, h1, h⟩ := h
  rw [zae] at h; obtain ⟨n, hn⟩ := zl0 (fun tm' x hx => (z0r hφ hκ p.stages).ex tm' H x hx) _ _ _ h.2
  refine ⟨n, ?_⟩
  show (ob (ob (C.plans.get fn) fun t => t.get id) fun p => zaj (zjt all p) (zb6 C H all N tm.cut p.olds (fun tm' => zca C (φs n) all N tm.cut p.olds (κs n) p.stages tm' H) p.first tm.cut)) = some x
  rw [h1, zac, zae]; exact ⟨h.1, hn⟩
theorem zue (hφ : zzgn φs φ) {κs : Nat -> Kt} {κ : Kt} (hκ : zzky κs κ) {f : Operand} {ps : List Nat} {a b : Code} : zzz (fun n => zhv C (φs n) fn N (κs n) f ps a b) (zhv C φ fn N κ f ps a b) := by
 have kle : ∀ n, KLe (κs n) (κs (n + 1)) := fun n => ⟨hκ.norm.up n, fun i => (hκ.exit i).up n, hκ.ret.up n⟩
 have klm : ∀ n m, n <= m -> KLe (κs n) (κs m) := fun n m h => ⟨z74 hκ.norm.up h, fun i => z74 (hκ.exit i).up h, z74 hκ.ret.up h⟩
 refine ⟨fun n => zq9 (hφ.up n) (kle n), fun tm H x h => ?_⟩
 unfold zhv at h; rw [zad] at h; obtain ⟨v, h1, h⟩ := h
 rw [zad] at h; obtain ⟨q, h2, h⟩ := h
 split at h
 ·cases h
 ·rename_i g hg
  rw [zae, zad] at h; obtain ⟨h3, y, h4, h⟩ := h
  rw [zad] at h; obtain ⟨r, h5, h⟩ := h
  rw [zae, zad] at h; obtain ⟨h6, z, h7, h⟩ := h
  obtain ⟨n, hn⟩ := hφ.ex _ _ _ _ h4
  have : ∃ m, zno (κs m) r.pending (tm) (endLoop y.2 (H.next + 1) r) = some z := by
   unfold zno at h7 ⊢
   split at h7
   ·exact hκ.norm.ex _ _ _ h7
   ·exact hκ.ret.ex _ _ _ h7
   ·cases h7
  obtain ⟨m, hm⟩ := this
  refine ⟨max n m, ?_⟩
  show zhv C (φs (max n m)) fn N (κs (max n m)) f ps a b tm H = some x
  unfold zhv; rw [h1, zac, h2, zac, hg]; simp only []; rw [zae, zad]; refine ⟨h3, y, hφ.le (Nat.le_max_left n m) _ _ _ _ hn, ?_⟩
  rw [h5, zac, zae, zad]; exact ⟨h6, z, zsw (klm _ _ (Nat.le_max_right n m)) _ _ _ hm, h⟩
theorem z16 (hφ : zzgn φs φ) : ∀ (c : zcc) (κs : Nat -> Kt) (κ : Kt), zzky κs κ -> zzz (fun n => den C (φs n) fn N c (κs n)) (den C φ fn N c κ) := by
 have kle : ∀ {κs : Nat -> Kt} {κ : Kt}, zzky κs κ -> ∀ n, KLe (κs n) (κs (n + 1)) := fun h n => ⟨h.norm.up n, fun i => (h.exit i).up n, h.ret.up n⟩
 intro c; induction c with
 | skip => exact fun κs κ hκ => hκ.norm
 | region id ops d => exact fun κs κ hκ => z0z hφ hκ.norm
 | seq a b iha ihb => exact fun κs κ hκ => iha (fun n => ⟨den C (φs n) fn N b (κs n), (κs n).exit, (κs n).ret⟩) _ ⟨ihb _ _ hκ, hκ.exit, hκ.ret⟩
 | cond c a b iha ihb =>
  intro κs κ hκ; refine ⟨fun n => zjf (hφ.up n) (.cond c a b) _ _ (kle hκ n), fun tm H x h => ?_⟩
  have h : (ob (ob (ev c (.now tm)) zab.asBool) fun t => Bool.rec (motive := fun _ => zbs) (den C φ fn N b κ tm H) (den C φ fn N a κ tm H) t) = some x := h
  rw [zad] at h; obtain ⟨t, h1, h2⟩ := h
  have key : ∀ n, (Bool.rec (motive := fun _ => zbs) (den C (φs n) fn N b (κs n) tm H) (den C (φs n) fn N a (κs n) tm H) t : zbs) = some x -> den C (φs n) fn N (.cond c a b) (κs n) tm H = some x := by
   intro n hn; show (ob (ob (ev c (.now tm)) zab.asBool) fun t => Bool.rec (motive := fun _ => zbs) (den C (φs n) fn N b (κs n) tm H) (den C (φs n) fn N a (κs n) tm H) t) = some x
   rw [h1, zac]; exact hn
  cases t with
  | true => obtain ⟨n, hn⟩ := (iha _ _ hκ).ex _ _ _ h2; exact ⟨n, key n hn⟩
  | false => obtain ⟨n, hn⟩ := (ihb _ _ hκ).ex _ _ _ h2; exact ⟨n, key n hn⟩
 | block id c ih =>
  intro κs κ hκ; refine ih (fun n => ⟨(κs n).norm, fun i tm H => Bool.rec (motive := fun _ => zbs) ((κs n).exit i tm H) ((κs n).norm tm H) (Nat.beq id i), (κs n).ret⟩) _ ⟨hκ.norm, fun i => ⟨fun n tm H x h => ?_, fun tm H x h => ?_⟩, hκ.ret⟩
  ·simp only [zns] at h ⊢
   split at h
   ·rename_i e; rw [if_pos e]; exact hκ.norm.up n _ _ _ h
   ·rename_i e; rw [if_neg e]; exact (hκ.exit i).up n _ _ _ h
  ·simp only [zns] at h ⊢
   split at h
   ·rename_i e; obtain ⟨n, hn⟩ := hκ.norm.ex _ _ _ h; exact ⟨n, by rw [if_pos e]; exact hn⟩
   ·rename_i e; obtain ⟨n, hn⟩ := (hκ.exit i).ex _ _ _ h; exact ⟨n, by rw [if_neg e]; exact hn⟩
 | loop live c ih =>
  intro κs κ hκ; refine ⟨fun n => zjf (hφ.up n) (.loop live c) _ _ (kle hκ n), fun tm H x h => ?_⟩
  obtain ⟨m, hm⟩ := zzal h
  have it : ∀ m, zzz (fun n => (Nat.rec (motive := fun _ => Tm -> zaf -> zbs) (fun _ _ => none) (fun _ r tm H => den C (φs n) fn N c ⟨r, (κs n).exit, (κs n).ret⟩ (keep live.kept tm) H) m : Tm -> zaf -> zbs))
    (Nat.rec (motive := fun _ => Tm -> zaf -> zbs) (fun _ _ => none) (fun _ r tm H => den C φ fn N c ⟨r, κ.exit, κ.ret⟩ (keep live.kept tm) H) m) := by
   intro m; induction m with
   | zero => exact ⟨fun _ _ _ _ h => h, fun _ _ _ h => by cases h⟩
   | succ m ihm =>
    have := ih _ _ (⟨ihm, hκ.exit, hκ.ret⟩ : zzky (fun n => ⟨(Nat.rec (motive := fun _ => Tm -> zaf -> zbs) (fun _ _ => none) (fun _ r tm H => den C (φs n) fn N c ⟨r, (κs n).exit, (κs n).ret⟩ (keep live.kept tm) H) m : Tm -> zaf -> zbs), (κs n).exit, (κs n).ret⟩) ⟨(Nat.rec (motive := fun _ => Tm -> zaf -> zbs) (fun _ _ => none) (fun _ r tm H => den C φ fn N c ⟨r, κ.exit, κ.ret⟩ (keep live.kept tm) H) m : Tm -> zaf -> zbs), κ.exit, κ.ret⟩)
    exact ⟨fun n tm H x h => this.up n _ _ _ h, fun tm H x h => this.ex _ _ _ h⟩
  obtain ⟨n, hn⟩ := (it m).ex _ _ _ hm
  exact ⟨n, (zp3 fun m y hy => z1m (fun κ κ' h => zjf (fun _ _ _ _ h => h) c κ κ' h) live.kept m _ _ _ hy).2 ⟨m, hn⟩⟩
 | exit id => exact fun κs κ hκ => hκ.exit id
 | ret => exact fun κs κ hκ => hκ.ret
 | cut live c ih => exact fun κs κ hκ => ⟨fun n tm H x h => (ih _ _ hκ).up n _ _ _ h, fun tm H x h => (ih _ _ hκ).ex _ _ _ h⟩
 | range i pl f ps id ops c ih => exact fun κs κ hκ => ⟨fun n tm H x h => (zue hφ hκ).up n _ _ _ h, fun tm H x h => (zue hφ hκ).ex _ _ _ h⟩
theorem zzf5 {live : PI} {c : zcc} {κ : Kt} {tm : Tm} {H : zaf} : den C φ fn N (.loop live c) κ tm H = den C φ fn N c ⟨den C φ fn N (.loop live c) κ, κ.exit, κ.ret⟩ (keep live.kept tm) H := by
 have self : OLe φ φ := fun _ _ _ _ h => h
 have up : ∀ m, Le2 (Nat.rec (motive := fun _ => Tm -> zaf -> zbs) (fun _ _ => none) (fun _ r tm H => den C φ fn N c ⟨r, κ.exit, κ.ret⟩ (keep live.kept tm) H) m)
   (Nat.rec (motive := fun _ => Tm -> zaf -> zbs) (fun _ _ => none) (fun _ r tm H => den C φ fn N c ⟨r, κ.exit, κ.ret⟩ (keep live.kept tm) H) (m + 1)) := z1m (zjf self c) live.kept
 have some_iff : ∀ tm H x, den C φ fn N (.loop live c) κ tm H = some x ↔ ∃ m, (Nat.rec (motive := fun _ => Tm -> zaf -> zbs) (fun _ _ => none) (fun _ r tm H => den C φ fn N c ⟨r, κ.exit, κ.ret⟩ (keep live.kept tm) H) m : Tm -> zaf -> zbs) tm H = some x :=
  fun tm H x => zp3 fun m y hy => up m _ _ _ hy
 have sup : zzky (fun m => ⟨(Nat.rec (motive := fun _ => Tm -> zaf -> zbs) (fun _ _ => none) (fun _ r tm H => den C φ fn N c ⟨r, κ.exit, κ.ret⟩ (keep live.kept tm) H) m : Tm -> zaf -> zbs), κ.exit, κ.ret⟩) ⟨den C φ fn N (.loop live c) κ, κ.exit, κ.ret⟩ :=
  ⟨⟨up, fun tm H x h => (some_iff tm H x).1 h⟩, fun i => ⟨fun _ _ _ _ h => h, fun _ _ _ h => ⟨0, h⟩⟩, ⟨fun _ _ _ _ h => h, fun _ _ _ h => ⟨0, h⟩⟩⟩
 have key : ∀ x, den C φ fn N (.loop live c) κ tm H = some x ↔ den C φ fn N c ⟨den C φ fn N (.loop live c) κ, κ.exit, κ.ret⟩ (keep live.kept tm) H = some x := by
  intro x; rw [some_iff]; constructor
  ·rintro ⟨m, hm⟩
   cases m with
   | zero => cases hm
   | succ m => exact zjf self c ⟨(Nat.rec (motive := fun _ => Tm -> zaf -> zbs) (fun _ _ => none) (fun _ r tm H => den C φ fn N c ⟨r, κ.exit, κ.ret⟩ (keep live.kept tm) H) m : Tm -> zaf -> zbs), κ.exit, κ.ret⟩ ⟨den C φ fn N (.loop live c) κ, κ.exit, κ.ret⟩ ⟨fun tm H y hy => (some_iff tm H y).2 ⟨m, hy⟩, fun _ _ _ _ h => h, fun _ _ _ h => h⟩ _ _ _ hm
  ·intro h
   obtain ⟨m, hm⟩ := (z16 (φs := fun _ => φ) ⟨fun _ => self, fun _ _ _ _ h => ⟨0, h⟩⟩ c _ _ sup).ex _ _ _ h
   exact ⟨m + 1, hm⟩
 cases h : den C φ fn N (.loop live c) κ tm H with
 | some x => exact ((key x).1 h).symm
 | none =>
  cases h2 : den C φ fn N c ⟨den C φ fn N (.loop live c) κ, κ.exit, κ.ret⟩ (keep live.kept tm) H with
  | none => rfl
  | some x => rw [(key x).2 h2] at h; cases h
end
end Go.Am
namespace Go.Am
open Go Go.RowKit
def zzfd : List zcj -> Bool
 | .reg .. :: _ => true
 | _ => false
section
variable {P : Program} {C : Ctx} {B N : Nat} {I : World -> Prop} {μ : Mu} {w : World} {base : List Frame} {m : Machine}
theorem zpy (hF : zzv P C) {f : Nat} {args : List zab} {args' : Array Value} {H : zaf} (hH : zbf B N μ H w) (hl : zbk μ args args'.toList) {g : zap} (he : zfl C f args false = some g) :
  zb8 P C B N μ base (lone (Frame.enter P f args' .normal) base w) w (.next ⟨g, [], H⟩) :=
 ⟨μ, _, [], w, .refl _ _, fun _ _ h => h, Below.refl N w, hH, (zm8 (cur := some H) hF he hl).1, .nil⟩
end
end Go.Am
namespace Go.Am
open Go Go.RowKit
inductive zjn (C : Ctx) : zho -> zho -> Prop
 | refl (o : zho) : zjn C o o
 | step {o o' : zho} : zjn C (z5g C o) o' -> zjn C o o'
 | forget {todo : List zcj} {tm tm' : Tm} {R : zgv} {cs : List zap} {H : zaf} {o' : zho} : zzfd todo = false -> (∀ i v, tm'.get i = some v -> tm.get i = some v) -> zjn C (.next ⟨⟨todo, tm', R⟩, cs, H⟩) o' -> zjn C (.next ⟨⟨todo, tm, R⟩, cs, H⟩) o'
theorem zjn.trans {C : Ctx} {a b c : zho} (h : zjn C a b) (k : zjn C b c) : zjn C a c := by
 induction h with
 | refl => exact k
 | step _ ih => exact .step (ih k)
 | forget h1 h2 _ ih => exact .forget h1 h2 (ih k)
section
variable {P : Program} {C : Ctx} {B N : Nat} {I : World -> Prop} {μ : Mu} {w : World} {base : List Frame} {m : Machine}
theorem zct.forget {n : Nat} {tm tm' : Tm} {tmps : Array Value} (h : zct μ n tm tmps) (hs : ∀ i v, tm'.get i = some v -> tm.get i = some v) : zct μ n tm' tmps := ⟨h.1, fun i v hv => h.2 i v (hs i v hv)⟩
theorem zzbx {todo : List zcj} {tm tm' : Tm} {R : zgv} {acs : List zap} {H : zaf} (hr : zzfd todo = false) (hs : ∀ i v, tm'.get i = some v -> tm.get i = some v) (h : zb8 P C B N μ base m w (.next ⟨⟨todo, tm, R⟩, acs, H⟩)) :
  zb8 P C B N μ base m w (.next ⟨⟨todo, tm', R⟩, acs, H⟩) := by
 obtain ⟨μ', b, cs, w', h1, h2, h3, h4, h5, h6⟩ := h
 obtain ⟨bfn, btmps, btodo, bdefers, bmode, bkind, bround⟩ := b
 refine ⟨μ', _, cs, w', h1, h2, h3, h4, ⟨h5.rest, ?_⟩, h6⟩
 have hb := h5.body
 simp only at hb ⊢
 split at hb
 ·rename_i hm
  rw [if_pos hm]
  cases hb with
  | plain a t => exact .plain a (t.forget hs)
  | reg _ _ _ _ => cases hr
  | mid _ _ _ _ _ => cases hr
 ·rename_i hm
  rw [if_neg hm]; exact hb.forget hs
theorem zb8.reach (hS : Sim P C B N I) (hI : I w) {o o' : zho} (h : zjn C o o') : zb8 P C B N μ base m w o -> zb8 P C B N μ base m w o' := by
 induction h with
 | refl => exact id
 | step _ ih => exact fun h => ih (z27 hS hI h)
 | forget hr hs _ ih => exact fun h => ih (zzbx hr hs h)
end
def zw2 (C : Ctx) (f : Nat) (ds : List zps) (fr : zap) (H : zaf) (v : zab) : Prop :=
 fr.R.mode = .returning /\ fr.R.defers = ds /\ fr.R.deferred = false /\ fr.R.fn = f /\ ∃ fn l, C.fns.get f = some fn /\ zgp C H fr.tm fn.results.toList = some l /\ v = zlq l
def z0v (r : zk5) (l : Nat) (tm : Tm) : zap := ⟨[.code r.assign, .beginRound, .code r.body], tm, ⟨r.fn, r.n, [], .run, false, some l⟩⟩
structure zlm (C : Ctx) (φ : Ora) : Prop where
 fn : ∀ f args H x, φ (.func f) args H = some x -> ∃ g, zfl C f args false = some g /\ ∀ acs, ∃ fr', zjn C (.next ⟨g, acs, H⟩) (.next ⟨fr', acs, x.2⟩) /\ zw2 C f [] fr' x.2 x.1
 rd : ∀ l args H x, φ (.yld l) args H = some x -> ∃ r tm, zd7 H l = some r /\ zeg r.n r.params args r.tm = some tm /\ ∀ c acs c', zb4 c x.1 = some c' -> zjn C (.next ⟨z0v r l tm, c :: acs, H⟩) (.next ⟨c', acs, x.2⟩)
abbrev zzic := List zps -> zho -> zab × zaf -> Prop
def Fin (C : Ctx) (E : zzic) (ds : List zps) (o : zho) (x : zab × zaf) : Prop := ∃ o', zjn C o o' /\ E ds o' x
theorem Fin.step {C : Ctx} {E : zzic} {ds : List zps} {o : zho} {x : zab × zaf} (h : Fin C E ds (z5g C o) x) : Fin C E ds o x := by
 obtain ⟨fr, h1, h2⟩ := h; exact ⟨fr, .step h1, h2⟩
theorem Fin.of {C : Ctx} {E : zzic} {ds : List zps} {o o' : zho} {x : zab × zaf} (hr : zjn C o o') (h : Fin C E ds o' x) : Fin C E ds o x := by
 obtain ⟨fr, h1, h2⟩ := h; exact ⟨fr, hr.trans h1, h2⟩
abbrev RR (f N : Nat) (ro : Option Nat) (ds : List zps) : zgv := ⟨f, N, ds, .run, false, ro⟩
structure z7g (C : Ctx) (E : zzic) (G : zab × zaf -> Prop) (f N : Nat) (ro : Option Nat) (acs : List zap) : Prop where
 not : ∀ ds todo tm H x, ¬ E ds (.next ⟨⟨todo, tm, RR f N ro ds⟩, acs, H⟩) x
 all : ro = none -> ∀ x, G x
 pop : ro = none -> ∀ r ds o x, E (⟨none, r, []⟩ :: ds) o x -> zf6 x.2 r = some (some []) -> ∃ o', zjn C o o' /\ E ds o' (x.1, setBlk x.2 r (.deferred none))
structure z4x (C : Ctx) (E : zzic) (G : zab × zaf -> Prop) (f N : Nat) (ro : Option Nat) (acs : List zap) (κ : Kt) (k : List zcj) : Prop where
 norm : ∀ ds x tm H, G x -> κ.norm tm H = some x -> Fin C E ds (.next ⟨⟨k, tm, RR f N ro ds⟩, acs, H⟩) x
 exit : ∀ ds x i tm H, G x -> κ.exit i tm H = some x -> Fin C E ds (.next ⟨⟨.code (.exit i) :: k, tm, RR f N ro ds⟩, acs, H⟩) x
 ret : ∀ ds x tm H, G x -> κ.ret tm H = some x -> ∀ k', Fin C E ds (.next ⟨⟨.code .ret :: k', tm, RR f N ro ds⟩, acs, H⟩) x
structure z2m where
 i : Nat
 pl : List Nat
 f : Operand
 ps : Array Nat
 id : Nat
 ops : Array Oper
 c : zcc
def zej (c : zcc) : List z2m :=
 zcc.rec (motive := fun _ => List z2m) [] (fun _ _ _ => []) (fun _ _ a b => ze3 a b) (fun _ _ _ a b => ze3 a b) (fun _ _ a => a) (fun _ _ a => a) (fun _ => []) [] (fun _ _ a => a)
  (fun i pl f ps id ops c a => ⟨i, pl, f, ps, id, ops, c⟩ :: a) c
section
variable {C : Ctx} {φ : Ora} {E : zzic} {G : zab × zaf -> Prop} {ds : List zps} {ro : Option Nat} {f N : Nat} {acs : List zap} {R : zgv} {κ : Kt} {k : List zcj} {x : zab × zaf} {all : Array Oper}
theorem zco (hR : R.mode.running = true) {todo : List zcj} {tm : Tm} {H : zaf} : z5g C (.next ⟨⟨todo, tm, R⟩, acs, H⟩) = zm7 C todo tm R acs H := by
 show (bif R.mode.running then zm7 C todo tm R acs H else _) = _
 rw [hR]; rfl
theorem zzbn {fr c c' : zap} {H : zaf} {v : zab} (hr : zw2 C f [] fr H v) (hf : zb4 c v = some c') : z5g C (.next ⟨fr, c :: acs, H⟩) = .next ⟨c', acs, H⟩ := by
 obtain ⟨h1, h2, h3, h4, fn, l, h5, h6, rfl⟩ := hr
 obtain ⟨todo, tm, ffn, n, defers, mode, deferred, round⟩ := fr
 simp only at h1 h2 h3 h4 h6
 subst h1 h2 h3 h4
 show zqo C ⟨todo, tm, _⟩ (c :: acs) H = _
 unfold zqo; rw [h5, zac, h6]; simp only [cond_false]; rw [hf]; rfl
theorem zt9 (hφ : zlm C φ) {r : zs4} {H : zaf} {K : zab -> zaf -> zbs} (h : zjr φ r H K = some x) {fr : zap}
  (hK : ∀ v H' c', zb4 fr v = some c' -> K v H' = some x -> Fin C E ds (.next ⟨c', acs, H'⟩) x) (hfin : ∀ v, ∃ c', zb4 fr v = some c') : Fin C E ds (zop r C fr acs H) x := by
 cases r <;> simp only [zjr] at h <;> try (cases h; done)
 case val v H' =>
  have h2 : K v H' = some x := h
  obtain ⟨c', hc⟩ := hfin v
  show Fin C E ds (zzi7 v H' C fr acs H) x
  unfold zzi7; rw [hc]; exact hK _ _ _ hc h2
 case enter g args =>
  rw [zad] at h; obtain ⟨p, h1, h4⟩ := h
  obtain ⟨c', hc⟩ := hfin p.1
  show Fin C E ds (zx4 g args C fr acs H) x
  unfold zx4; obtain ⟨ge, he, r0⟩ := hφ.fn _ _ _ _ h1
  obtain ⟨fr', r1, r2⟩ := r0 (fr :: acs)
  rw [he]; refine Fin.of (r1.trans (.step ?_)) (hK _ _ _ hc h4)
  rw [zzbn r2 hc]; exact .refl _
 case round l args =>
  rw [zad] at h; obtain ⟨p, h1, h4⟩ := h
  obtain ⟨c', hc⟩ := hfin p.1
  obtain ⟨r, tm, e1, e2, r0⟩ := hφ.rd _ _ _ _ h1
  show Fin C E ds (zx3 l args C fr acs H) x
  unfold zx3; rw [e1, zac, e2, zac]; exact Fin.of (r0 _ _ _ hc) (hK _ _ _ hc h4)
theorem z5w (hφ : zlm C φ) (hR : R.mode.running = true) (hN : R.n = N) {κn : Tm -> zaf -> zbs} (hκ : ∀ tm H, κn tm H = some x -> Fin C E ds (.next ⟨⟨k, tm, R⟩, acs, H⟩) x) :
  ∀ (l : List Oper) (tm : Tm) (H : zaf), zw4 C φ all N κn l tm H = some x -> Fin C E ds (zj2 C all k R acs l tm H) x := by
 intro l; induction l with
 | nil => exact fun tm H h => hκ tm H h
 | cons o l ih =>
  intro tm H h; rw [zg7, zad] at h; obtain ⟨w, h1, h⟩ := h
  rw [zlw, h1]
  cases w with
  | false => rw [if_neg (by simp)] at h; simp only []; rw [hN]; exact ih _ _ h
  | true =>
   rw [if_pos rfl] at h; simp only []; generalize (aop o.op).f C (.now tm) H = r at h
   cases hv : r.asVal with
   | some p =>
    have : r = .val p.1 p.2 := by cases r <;> simp [zs4.asVal] at hv; rw [<- hv]
    subst this; simp only [zjr, zcg] at h; obtain ⟨h2, h3⟩ := h
    simp only []; rw [hN]; exact ih _ _ h3
   | none =>
    refine zt9 hφ h (fun v H' c' hc hK => ?_) fun v => ⟨⟨.ops all l :: k, putA R.n tm o.dst v, R⟩, by unfold zb4; simp only [hR, cond_true]; rfl⟩
    unfold zb4 at hc; simp only [hR, cond_true] at hc; have hc : some (⟨.ops all l :: k, putA R.n tm o.dst v, R⟩ : zap) = some c' := hc
    cases hc; refine .step ?_
    rw [zco hR, hN]; rw [zcg] at hK; exact ih _ _ hK.2
theorem zhw {H : zaf} {old : Tm} {olds : List (Nat × List Nat)} {K : Tm -> zbs} : ∀ (l : List Nat) (tm : Tm), zb6 C H all N old olds K l tm = some x -> ∃ tm', zfh C H all N old olds l tm = some tm' /\ K tm' = some x := by
 intro l; induction l with
 | nil => exact fun tm h => ⟨tm, rfl, h⟩
 | cons i l ih =>
  intro tm h; rw [zhy, zad] at h; obtain ⟨o, h1, h⟩ := h
  rw [zad] at h; obtain ⟨w, h2, h⟩ := h
  unfold zfh; rw [h1, zac, h2, zac]
  cases w with
  | false => rw [if_neg (by simp)] at h; simp only [cond_false, zac]; exact ih _ h
  | true =>
   rw [if_pos rfl, zad] at h; obtain ⟨v, h3, h⟩ := h
   rw [zcg] at h; obtain ⟨h4, h⟩ := h
   simp only [cond_true]; rw [h3, zac]; exact ih _ h
theorem z4f {C : Ctx} {o : Op} {e : Env} {H : zaf} {r : zs4} (hf : zeo o = true) (h : (aop o).f C e H = r) (h1 : ∀ q, r ≠ zvw q) : False := by
 have key : ∀ q : Option (zab × zaf), zvw q = r -> False := fun q e => h1 q e.symm
 cases o <;> simp only [zeo] at hf <;> first
  | (cases hf; done)
  | exact key _ h
theorem zvl (hφ : zlm C φ) (hR : R.mode.running = true) (hN : R.n = N) {κn : Tm -> zaf -> zbs} (hκ : ∀ tm H, κn tm H = some x -> Fin C E ds (.next ⟨⟨k, tm, R⟩, acs, H⟩) x) {old : Tm} {olds : List (Nat × List Nat)} :
  ∀ (l : List zcz) (tm : Tm) (H : zaf), zca C φ all N old olds κn l tm H = some x -> Fin C E ds (.next ⟨⟨.reg all old olds l :: k, tm, R⟩, acs, H⟩) x := by
 intro l; induction l with
 | nil =>
  intro tm H h; refine .step ?_
  rw [zco hR]; exact hκ tm H h
 | cons st l ih =>
  intro tm H h
  cases hg : zgg all st with
  | true =>
   rw [ze9 hg, zjb] at h; obtain ⟨h0, es, H', h1, h2, h3⟩ := h
   obtain ⟨tm', hl1, hl2⟩ := zhw _ _ h3
   refine .step ?_
   rw [zco hR]; show Fin C E ds (z4z all old olds (st :: l) C k tm R acs H) x
   unfold z4z; have hg0 := zc8.1 hg
   rw [za1] at hg0; have hnone : zd8 all.toList st.heavy = none := by
    rw [zbn]; exact List.getElem?_eq_none (by omega)
   simp only [hnone]; rw [zal, if_pos (zc8.2 (by rw [za1]; omega)), zal, if_pos (show Nat.blt (zbw all.toList + zbw all.toList) st.heavy = true from hg)]
   unfold z2s; rw [h0, show ∀ (x : Option zh5), zaj true x = x from fun _ => rfl, h1, zac, h2, zac, hN, hl1, zac]
   exact ih _ _ hl2
  | false =>
  rw [ze2 hg, zad] at h; obtain ⟨o, h1, h⟩ := h
  rw [zad] at h; obtain ⟨w, h2', h⟩ := h
  have hgn : Nat.blt (zbw all.toList + zbw all.toList) st.heavy = false := hg
  by_cases hfl : Nat.blt (zbw all.toList) st.heavy = true
  ·-- an operation that is done early
   unfold zg0 at h2'; unfold hvI at h1 h; rw [hfl] at h1 h2' h
   simp only [cond_true, zad, zae, yac] at h1 h2'
   obtain ⟨w', h2, ⟨⟨hw, hfo⟩, hlo⟩, h2'⟩ := h2'
   cases h2'
   subst hw; simp only [if_true, cond_true] at h; have hval : ∃ v H', (aop o.op).f C (.mixed tm old (zcq (Nat.sub st.heavy (Nat.succ (zbw all.toList))) olds) (zbt o.op)) H = .val v H' := by
    cases hr : (aop o.op).f C (.mixed tm old (zcq (Nat.sub st.heavy (Nat.succ (zbw all.toList))) olds) (zbt o.op)) H with
    | val v H' => exact ⟨v, H', rfl⟩
    | enter g args => exact (z4f hfo hr fun q => by cases q <;> simp [zvw]).elim
    | round g args => exact (z4f hfo hr fun q => by cases q <;> simp [zvw]).elim
    | _ => rw [hr] at h; cases h
   obtain ⟨v, H', hv⟩ := hval
   rw [hv] at h; have h : (zh9 C o.type v fun v => ze5 C H' all old olds (putA N tm o.dst v) (zb6 C H' all N old olds (fun tm => zca C φ all N old olds κn l tm H') st.lights (putA N tm o.dst v)) st.again) = some x := h
   rw [zcg] at h; obtain ⟨ha, hl⟩ := zhm _ h.2
   obtain ⟨tm', hl1, hl2⟩ := zhw _ _ hl
   refine .step ?_
   rw [zco hR]; show Fin C E ds (z4z all old olds (st :: l) C k tm R acs H) x
   unfold z4z; have hnone : zd8 all.toList st.heavy = none := by
    rw [zbn]; have := zc8.1 hfl
    rw [za1] at this; exact List.getElem?_eq_none (by omega)
   simp only [hnone]; rw [hfl, cond_true, hgn, cond_false]; unfold z2t; rw [h1, zac, h2, zac, hv, hlo]; show Fin C E ds (zia (ob (zfh C H' all R.n old olds st.lights (putA R.n tm o.dst v)) fun tm' => some ⟨⟨.reg all old olds l :: k, tm', R⟩, acs, H'⟩) 23) x
   rw [hN, hl1, zac]; exact ih _ _ hl2
  have hfl : Nat.blt (zbw all.toList) st.heavy = false := Bool.eq_false_iff.2 hfl
  unfold zg0 at h2'; unfold hvI at h1 h; rw [hfl] at h1 h2' h
  simp only [cond_false, zad] at h1 h2'
  obtain ⟨w', h2, h2'⟩ := h2'
  cases h2'
  simp only [cond_false] at h; have back0 : ∀ v H' c', zb4 (⟨.reg all old olds (st :: l) :: k, tm, R⟩ : zap) v = some c' →
    ze5 C H' all old olds (putA N tm o.dst v) (zb6 C H' all N old olds (fun tm => zca C φ all N old olds κn l tm H') st.lights (putA N tm o.dst v)) st.again = some x -> Fin C E ds (.next ⟨c', acs, H'⟩) x := by
   intro v H' c' hc hK; unfold zb4 at hc; simp only [hR, cond_true] at hc; have hc : (ob (zd8 all.toList st.heavy) fun o => some (⟨.reg all old olds (⟨all.size, st.lights, st.again⟩ :: l) :: k, putA R.n tm o.dst v, R⟩ : zap)) = some c' := hc
   rw [h1, zac] at hc
   cases hc; refine .step ?_
   rw [zco hR, hN]; obtain ⟨ha, hl⟩ := zhm _ hK
   obtain ⟨tm', hl1, hl2⟩ := zhw _ _ hl
   show Fin C E ds (z4z all old olds (⟨all.size, st.lights, st.again⟩ :: l) C k (putA N tm o.dst v) R acs H') x
   unfold z4z; have : zd8 all.toList all.size = none := by rw [zbn]; simp
   simp only [this]; rw [zal, if_neg fun e => by have := zc8.1 e; rw [za1] at this; simp at this]
   show Fin C E ds (zqg all old olds ⟨all.size, st.lights, st.again⟩ l C k (putA N tm o.dst v) R acs H') x
   unfold zqg; simp only [ha, hN, hl1, zac]; exact ih _ _ hl2
  have back : ∀ v H' c', zb4 (⟨.reg all old olds (st :: l) :: k, tm, R⟩ : zap) v = some c' →
    (zh9 C o.type v fun v => ze5 C H' all old olds (putA N tm o.dst v) (zb6 C H' all N old olds (fun tm => zca C φ all N old olds κn l tm H') st.lights (putA N tm o.dst v)) st.again) = some x -> Fin C E ds (.next ⟨c', acs, H'⟩) x := by
   intro v H' c' hc hK; rw [zcg] at hK; exact back0 v H' c' hc hK.2
  refine .step ?_
  rw [zco hR]; show Fin C E ds (z4z all old olds (st :: l) C k tm R acs H) x
  unfold z4z; simp only [h1]; unfold z2r; rw [h2]; simp only []; have hfin : ∀ v, ∃ c', zb4 (⟨.reg all old olds (st :: l) :: k, tm, R⟩ : zap) v = some c' := fun v => ⟨⟨.reg all old olds (⟨all.size, st.lights, st.again⟩ :: l) :: k, putA R.n tm o.dst v, R⟩, by
   unfold zb4; simp only [hR, cond_true]; show (ob (zd8 all.toList st.heavy) fun o => some (⟨.reg all old olds (⟨all.size, st.lights, st.again⟩ :: l) :: k, putA R.n tm o.dst v, R⟩ : zap)) = _
   rw [h1]; rfl⟩
  cases w with
  | true =>
   simp only [if_true] at h; exact zt9 hφ h back hfin
  | false =>
   simp only [yar, if_false] at h; obtain ⟨c', hc⟩ := hfin zbh
   show Fin C E ds (zzi7 zbh H C _ acs H) x
   unfold zzi7; rw [hc]; exact back0 _ _ _ hc h
theorem zzfa {live : List Nat} {tm : Tm} {i : Nat} {v : zab} (h : (keep live tm).get i = some v) : tm.get i = some v := by
 unfold keep Tm.get at h; simp only [zns] at h; split at h
 case isFalse => cases h
 rename_i hk; have key : ∀ live : List Nat, (zyv tm live).get i = some v -> tm.get i = some v := by
  intro live; induction live with
  | nil => intro h; rw [show zyv tm [] = .leaf from rfl, Tr.get_leaf] at h; cases h
  | cons j live ih =>
   intro h; have h : (match tm.get j with | some v => (zyv tm live).set j v | none => zyv tm live : Tr zab).get i = some v := h
   cases hj : tm.get j with
   | none => rw [hj] at h; exact ih h
   | some u =>
    rw [hj] at h; simp only [] at h; rw [Tr.get_set] at h; split at h
    ·rename_i e; rw [e, hj]; exact h
    ·exact ih h
 exact key live h
theorem zut {todo : List zcj} (hr : zzfd todo = false) {live : List Nat} {tm : Tm} {H : zaf} (h : Fin C E ds (.next ⟨⟨todo, keep live tm, R⟩, acs, H⟩) x) : Fin C E ds (.next ⟨⟨todo, tm, R⟩, acs, H⟩) x :=
 Fin.of (.forget hr (fun _ _ => zzfa) (.refl _)) h
theorem zsd (hE : z7g C E G f N ro acs) {t1 t2 : List zcj} (h1 : zzfd t1 = false) (hs : ∀ tm H, zm7 C t1 tm (RR f N ro ds) acs H = zm7 C t2 tm (RR f N ro ds) acs H) {tm : Tm} {H : zaf} (h : Fin C E ds (.next ⟨⟨t2, tm, RR f N ro ds⟩, acs, H⟩) x) : Fin C E ds (.next ⟨⟨t1, tm, RR f N ro ds⟩, acs, H⟩) x := by
 obtain ⟨o', hr, hv⟩ := h
 refine ⟨o', ?_, hv⟩
 generalize ho : (.next ⟨⟨t2, tm, RR f N ro ds⟩, acs, H⟩ : zho) = o at hr
 induction hr generalizing tm with
 | refl =>
  subst ho; exact (hE.not _ _ _ _ _ hv).elim
 | step h ih =>
  subst ho; refine .step ?_
  rw [zco rfl, hs, <- zco rfl]; exact h
 | forget hr2 hs2 h ih =>
  cases ho; exact .forget h1 hs2 (ih hv rfl)
theorem z57 {i : Nat} {t1 t2 : List zcj} {tm : Tm} {H : zaf} : zit (some (.exit i)) C ⟨t1, tm, R⟩ acs H = zit (some (.exit i)) C ⟨t2, tm, R⟩ acs H := by
 obtain ⟨a, b, c, d, e, ro⟩ := R
 unfold zit
 cases ro <;> rfl
theorem zsf (hE : z7g C E G f N ro acs) {i : Nat} {y : zcj} (hy : ∀ j, y.blockId = some j -> Nat.beq j i = false) {tm : Tm} {H : zaf} (h : Fin C E ds (.next ⟨⟨.code (.exit i) :: k, tm, RR f N ro ds⟩, acs, H⟩) x) : Fin C E ds (.next ⟨⟨.code (.exit i) :: y :: k, tm, RR f N ro ds⟩, acs, H⟩) x := by
 refine zsd hE rfl (fun tm H => ?_) h
 show zw9 i C (y :: k) tm (RR f N ro ds) acs H = zw9 i C k tm (RR f N ro ds) acs H
 have e : zec i (y :: k) = zec i k := by
  show (match y.blockId with | some j => bif Nat.beq j i then some k else zec i k | none => zec i k) = _
  cases hb : y.blockId with
  | none => rfl
  | some j => simp only [hy j hb, cond_false]
 unfold zw9; rw [e]
 cases zec i k with
 | some k' => rfl
 | none => exact z57
theorem zx2 (hφ : zlm C φ) (hE : z7g C E G f N none acs) {κ : Kt} (hκ : z4x C E G f N none acs κ k) {fo : Operand} {ps : Array Nat} {a b : Code} {tm : Tm} {H : zaf} (h : zhv C φ f N κ fo ps.toList a b tm H = some x) : Fin C E ds (.next ⟨⟨.code (.rangeFunc fo ps a b) :: k, tm, RR f N none ds⟩, acs, H⟩) x := by
 unfold zhv at h; rw [zad] at h; obtain ⟨v, h1, h⟩ := h
 rw [zad] at h; obtain ⟨⟨qf, q1, q2⟩, h2, h⟩ := h
 cases qf with
 | yld l => cases h
 | func g =>
  simp only [zae, zad] at h; obtain ⟨h3, y, h4, r, h5, h6, z, h7, d, h8, h9, h10⟩ := h
  have hp : C.prims.get g = none := by
   cases hx : C.prims.get g with
   | none => rfl
   | some u => rw [hx] at h3; cases h3
  obtain ⟨ge, he, r0⟩ := hφ.fn _ _ _ _ h4
  obtain ⟨fr', r1, r2⟩ := r0 (⟨.inRange (H.next + 1) :: k, tm, RR f N none (⟨none, H.next, []⟩ :: ds)⟩ :: acs)
  refine .step ?_
  rw [zco rfl]; show Fin C E ds (zw8 fo ps a b C k tm (RR f N none ds) acs H) x
  have hin : zi4 C (H.next + 1) v = some ge := by
   unfold zi4; rw [h2, zac]; simp only [hp]; exact he
  unfold zw8; rw [h1, zac]; simp only [hin, zac]; refine Fin.of (r1.trans (.step ?_)) (?_ : Fin C E ds (.next ⟨⟨.endRange (H.next + 1) :: k, tm, RR f N none (⟨none, H.next, []⟩ :: ds)⟩, acs, y.2⟩) x)
  ·rw [zzbn r2 (c' := ⟨.endRange (H.next + 1) :: k, tm, RR f N none (⟨none, H.next, []⟩ :: ds)⟩) rfl]
   exact .refl _
  refine .step ?_
  rw [zco rfl]; show Fin C E ds (zjz (H.next + 1) C k tm (RR f N none (⟨none, H.next, []⟩ :: ds)) acs y.2) x
  unfold zjz; rw [h5, zac, h6]; have key : Fin C E (⟨none, H.next, []⟩ :: ds) (.next ⟨⟨(match r.pending with | some c => .code c :: k | none => k), tm, RR f N none (⟨none, H.next, []⟩ :: ds)⟩, acs, endLoop y.2 (H.next + 1) r⟩) z := by
   unfold zno at h7; split at h7
   ·rename_i e; rw [e]; exact hκ.norm _ _ _ _ (hE.all rfl _) h7
   ·rename_i e; rw [e]; exact hκ.ret _ _ _ _ (hE.all rfl _) h7 k
   ·cases h7
  obtain ⟨o', k1, k2⟩ := key
  have hd : zf6 z.2 H.next = some (some []) := by
   rw [h8]
   cases d with
   | none => cases h9
   | some l => cases l with | nil => rfl | cons _ _ => cases h9
  obtain ⟨o'', k3, k4⟩ := hE.pop rfl _ _ _ _ k2 hd
  cases h10; exact ⟨o'', k1.trans k3, k4⟩
theorem zhu {α : Type} {a b : List α} (h : ze3 a b = []) : a = [] /\ b = [] := by rw [zb7] at h; exact List.append_eq_nil_iff.1 h
theorem zy8 (hφ : zlm C φ) (hE : z7g C E G f N ro acs) : ∀ (c : zcc) (κ : Kt) (k : List zcj), (ro = none \/ zej c = []) -> z4x C E G f N ro acs κ k -> ∀ ds x tm H, G x -> den C φ f N c κ tm H = some x -> Fin C E ds (.next ⟨⟨.code (zdh c) :: k, tm, RR f N ro ds⟩, acs, H⟩) x := by
 intro c; induction c with
 | skip =>
  intro κ k _ hκ ds x tm H hG h; refine .step ?_
  rw [zco rfl]; exact hκ.norm _ _ _ _ hG h
 | region id ops d =>
  intro κ k _ hκ ds x tm H hG h; refine .step ?_
  rw [zco rfl]
  cases d with
  | false => exact z5w hφ rfl rfl (fun tm H h => hκ.norm _ _ _ _ hG h) _ _ _ h
  | true =>
   have h : (ob (ob (C.plans.get f) fun t => t.get id) fun p => zaj (zjt ops p) (zb6 C H ops N tm.cut p.olds (fun tm' => zca C φ ops N tm.cut p.olds κ.norm p.stages tm' H) p.first tm.cut)) = some x := h
   rw [zad] at h; obtain ⟨p, h1, h⟩ := h
   rw [zae] at h; obtain ⟨tm', hl1, hl2⟩ := zhw _ _ h.2
   show Fin C E ds (z7n id ops C k tm (RR f N ro ds) acs H) x
   unfold z7n; rw [h1, zac, h.1, hl1]; exact zvl hφ rfl rfl (fun tm H h => hκ.norm _ _ _ _ hG h) _ _ _ hl2
 | seq a b iha ihb =>
  intro κ k hn hκ ds x tm H hG h; have hna : ro = none \/ zej a = [] := hn.imp id fun e => (zhu e).1
  have hnb : ro = none \/ zej b = [] := hn.imp id fun e => (zhu e).2
  refine zsd hE (t1 := .code (zdh (.seq a b)) :: k) rfl (t2 := .code (zdh a) :: .code (zdh b) :: k) (fun _ _ => rfl) ?_
  exact iha ⟨den C φ f N b κ, κ.exit, κ.ret⟩ _ hna ⟨fun ds x tm H hG h => ihb _ _ hnb hκ ds x tm H hG h, fun ds x i tm H hG h => zsf hE (fun _ e => by cases e) (hκ.exit _ _ _ _ _ hG h), hκ.ret⟩ ds x tm H hG h
 | cond c a b iha ihb =>
  intro κ k hn hκ ds x tm H hG h; have hna : ro = none \/ zej a = [] := hn.imp id fun e => (zhu e).1
  have hnb : ro = none \/ zej b = [] := hn.imp id fun e => (zhu e).2
  have h : (ob (ob (ev c (.now tm)) zab.asBool) fun t => Bool.rec (motive := fun _ => zbs) (den C φ f N b κ tm H) (den C φ f N a κ tm H) t) = some x := h
  rw [zad] at h; obtain ⟨t, h1, h⟩ := h
  refine .step ?_
  rw [zco rfl]; show Fin C E ds (z7o c (zdh a) (zdh b) C k tm (RR f N ro ds) acs H) x
  unfold z7o; rw [h1]
  cases t with
  | true => exact iha _ _ hna hκ _ _ _ _ hG h
  | false => exact ihb _ _ hnb hκ _ _ _ _ hG h
 | block id c ih =>
  intro κ k hn hκ ds x tm H hG h; refine .step ?_
  rw [zco rfl]; have nx : ∀ ds x tm H, G x -> κ.norm tm H = some x -> Fin C E ds (.next ⟨⟨.inBlock id :: k, tm, RR f N ro ds⟩, acs, H⟩) x := by
   intro ds x tm H hG h; refine .step ?_
   rw [zco rfl]; exact hκ.norm _ _ _ _ hG h
  refine ih ⟨κ.norm, fun i tm H => Bool.rec (motive := fun _ => zbs) (κ.exit i tm H) (κ.norm tm H) (Nat.beq id i), κ.ret⟩ _ hn ⟨nx, fun ds x i tm H hG h => ?_, hκ.ret⟩ ds x tm H hG h
  dsimp only at h
  cases hb : Nat.beq id i with
  | true =>
   rw [hb] at h; refine .step ?_
   rw [zco rfl]; show Fin C E ds (zw9 i C (.inBlock id :: k) tm (RR f N ro ds) acs H) x
   have e : zec i (.inBlock id :: k) = some k := by
    show (bif Nat.beq id i then some k else zec i k) = _
    rw [hb]; rfl
   unfold zw9; rw [e]; exact hκ.norm _ _ _ _ hG h
  | false =>
   rw [hb] at h; exact zsf hE (fun j e => by cases e; exact hb) (hκ.exit _ _ _ _ _ hG h)
 | loop live c ih =>
  intro κ k hn hκ ds x tm H hG h; obtain ⟨m, hm⟩ := zzal h
  have it : ∀ (m : Nat) ds x tm H, G x -> (Nat.rec (motive := fun _ => Tm -> zaf -> zbs) (fun _ _ => none) (fun _ r tm H => den C φ f N c ⟨r, κ.exit, κ.ret⟩ (keep live.kept tm) H) m : Tm -> zaf -> zbs) tm H = some x -> Fin C E ds (.next ⟨⟨.inLoop (zdh c) :: k, tm, RR f N ro ds⟩, acs, H⟩) x := by
   intro m; induction m with
   | zero => intro ds x tm H _ h; cases h
   | succ m ihm =>
    intro ds x tm H hG h; refine zut (live := live.kept) rfl (.step ?_)
    rw [zco rfl]; exact ih ⟨_, κ.exit, κ.ret⟩ _ hn ⟨ihm, fun ds x i tm H hG h => zsf hE (fun _ e => by cases e) (hκ.exit _ _ _ _ _ hG h), hκ.ret⟩ _ _ _ _ hG h
  exact zsd hE (t1 := .code (zdh (.loop live c)) :: k) rfl (t2 := .inLoop (zdh c) :: k) (fun _ _ => rfl) (it m _ _ tm H hG hm)
 | exit id => exact fun κ k _ hκ ds x tm H hG h => hκ.exit _ _ _ _ _ hG h
 | ret => exact fun κ k _ hκ ds x tm H hG h => hκ.ret _ _ _ _ hG h k
 | cut live c ih => exact fun κ k hn hκ ds x tm H hG h => zut rfl (ih κ k hn hκ _ _ _ _ hG h)
 | range i pl fo ps id ops c ih =>
  intro κ k hn hκ ds x tm H hG h; rcases hn with rfl | e
  ·exact zx2 hφ hE hκ h
  ·cases e
end
end Go.Am
