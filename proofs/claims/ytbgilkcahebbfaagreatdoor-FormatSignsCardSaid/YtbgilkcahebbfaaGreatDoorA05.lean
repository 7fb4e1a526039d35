/- The simulation: ranges over functions, all code. -/
import Derived.Test.YtbgilkcahebbfaaGreatDoorA04
set_option linter.all false
noncomputable section
namespace Go.Am
open Go Go.RowKit
section
variable {P : Program} {C : Ctx} {B N : Nat} {I : World -> Prop} {μ ν : Mu} {H H' : zaf} {w : World} {tm : Tm} {R : zf8} {acs : List zan} {base cs : List Frame}
variable {b : Frame} {tmps : Array Value} {ds : List Deferred} {k : List zb0} {k' : List Item} {all : Array Oper}
theorem zzcv (hH : za3 B N μ H w) (hcs : Frs C μ acs cs) (hR : zbf μ R (b.atR ⟨tmps, ds⟩ [])) (ht : zb8 μ R.n tm tmps) (hk : zd9 (za5 μ) k k') :
  zbt P C B N μ base (lone (b.atR ⟨tmps, ds⟩ (.beginRound :: k')) (cs ++ base) w) w (zu0 C k tm R acs H) := by
 unfold zu0
 cases hr : R.roundOf with
 | none => exact trivial
 | some l =>
  obtain ⟨i, hi, hb⟩ : ∃ i, μ l = some i /\ b.roundOf = some i.b := by
   have := hR.round
   rw [hr] at this; exact zmn this
  rw [zad]
  cases hx : zdr H l with
  | none => exact trivial
  | some r =>
   rw [zad]
   cases hst : Nat.beq (LoopState.tag r.state) 0 with
   | false => exact trivial
   | true =>
    obtain ⟨hl, r', hg, hw, rel⟩ := zi3 hH hx hi
    have ready : r'.state = .ready := by
     rw [rel.state]
     cases hs : r.state <;> rw [hs] at hst <;> first | rfl | simp [LoopState.tag, Nat.beq] at hst
    have run : (Instr.beginRound i.b).run P w = .ok () (World.setBlk w i.b (.loop { r' with state := .busy })) := by
     simp only [Instr.beginRound, Sem.run_bind, zgh hw, Result.andThen_ok, zf9 hw zh4, ready, Sem.run_pure]
    refine ⟨μ, _, cs, _, .one (stepR_beginRound hb run), fun _ _ h => h, zci (hH.own l i hl hi).1, ?_, ⟨?_, ?_⟩, hcs⟩
    ·refine hH.upd hg hi hl ?_
     rw [zmh]; exact ⟨_, rfl, rfl, rel.pending, rel.fn, rel.tm, rel.params, rel.assign, rel.body, rel.defers⟩
    ·refine ⟨hR.fn, hR.size, hR.defers, hR.mode, hR.kind, ?_⟩
     exact hR.round
    ·show if R.mode.running = true then zde C μ acs.length R.n _ k tm k' tmps else zb8 μ R.n tm tmps
     rw [if_pos hR.running]; exact .plain hk ht
theorem zq7 {l : Nat} {jump : Option Code} {w' : World} {cs : List Frame} (hr : (Instr.endLoop l).run P w = .ok jump w') :
  step P (lone (b.atR ⟨tmps, ds⟩ (.endRangeFunc l :: k')) cs w) = .next (lone (b.atR ⟨tmps, ds⟩ ((jump.map Item.code).toList ++ k')) cs w') :=
 step_lone_go (by simp [stepG, stepG.exec, Frame.atR, Sem.runT_eq, hr])
theorem zzg (hH : za3 B N μ H w) (hcs : Frs C μ acs cs) (hR : zbf μ R (b.atR ⟨tmps, ds⟩ [])) (ht : zb8 μ R.n tm tmps) (hk : zd9 (za5 μ) k k') {l : Nat} {i : BI} (hi : μ l = some i) :
  zbt P C B N μ base (lone (b.atR ⟨tmps, ds⟩ (.endRangeFunc i.b :: k')) (cs ++ base) w) w (ziw l C k tm R acs H) := by
 unfold ziw
 cases hx : zdr H l with
 | none => exact trivial
 | some r =>
  rw [zad]
  cases hst : Nat.beq (LoopState.tag r.state) 1 with
  | true => exact trivial
  | false =>
   obtain ⟨hl, r', hg, hw, rel⟩ := zi3 hH hx hi
   have busy : r'.state ≠ .busy := by
    intro e; rw [rel.state] at e; rw [e] at hst
    cases hst
   have run : (Instr.endLoop i.b).run P w = .ok r'.pending (World.setBlk w i.b (.loop { r' with state := .exhausted })) := by
    simp [Instr.endLoop, Sem.run_bind, zgh hw, Result.andThen_ok, zf9 hw zh4, busy]
   refine ⟨μ, _, cs, _, .one (zq7 run), fun _ _ h => h, zci (hH.own l i hl hi).1, ?_, ⟨?_, ?_⟩, hcs⟩
   ·refine hH.upd hg hi hl ?_
    rw [zmh]; exact ⟨_, rfl, rfl, rel.pending, rel.fn, rel.tm, rel.params, rel.assign, rel.body, rel.defers⟩
   ·exact ⟨hR.fn, hR.size, hR.defers, hR.mode, hR.kind, hR.round⟩
   ·show if R.mode.running = true then zde C μ acs.length R.n _ (match r.pending with | some c => .code c :: k | none => k) tm ((r'.pending.map Item.code).toList ++ k') tmps else zb8 μ R.n tm tmps
    rw [if_pos hR.running, rel.pending]
    cases r.pending with
    | none => exact .plain hk ht
    | some c => exact .plain (.cons (.code c) hk) ht
theorem zo9 {f : Operand} {params : Array Nat} {assign body : Code} {l : Nat} {mark : List Deferred} {w1 : World} {g : Nat} {args' : Array Value} {cs : List Frame}
  (hE : (Instr.enterLoop b.fn tmps params assign body b.roundOf).run P w = .ok (l, mark) w1)
  (hA : (do let d <- resolve (Act.eval ⟨tmps, ds⟩) { callee := .value f, args := #[.const (.func (.yield l) #[] #[])], argTypes := #[] } 0; invoke d.target d.args : Sem Next).run P w1 = .ok (.enter g args') w1) :
  step P (lone (b.atR ⟨tmps, ds⟩ (.code (.rangeFunc f params assign body) :: k')) cs w) = .next (lone (Frame.enter P g args' .normal) (b.atR ⟨tmps, mark ++ ds⟩ (.inRangeFunc l :: k') :: cs) w1) := by
 refine step_lone_go ?_
 have he : (Frame.eval { b.atR ⟨tmps, ds⟩ (.code (.rangeFunc f params assign body) :: k') with todo := .inRangeFunc l :: k', defers := mark ++ ds }) = Act.eval ⟨tmps, ds⟩ := funext fun x => by cases x <;> rfl
 simp only [Frame.atR] at he; simp only [stepG, stepG.exec, Frame.atR, Sem.runT_eq, hE, GStep.bare_after, stepG.apply, he, hA, if_true]; rfl
theorem z2q {l : Nat} {v : zab} {h : zan} (e : zh2 C l v = some h) : ∃ g first cap, v = .func (.func g) first cap /\ C.prims.get g = none /\ zey C g (zem first (.func (.yld l) [] [] :: cap)) false = some h := by
 unfold zh2 at e; rw [zac] at e; obtain ⟨p, h1, h2⟩ := e
 obtain ⟨fn, first, cap⟩ := p
 rw [zqq] at h1
 cases fn with
 | yld m => cases h2
 | func g =>
  cases hp : C.prims.get g with
  | some x => simp only [hp] at h2; cases h2
  | none => simp only [hp] at h2; exact ⟨g, first, cap, h1, hp, h2⟩
theorem zr7 {dp : Nat} (hS : Sim P C B N I) {l : Nat} {i : BI} {v : zab} {h : zan} (e : zh2 C l v = some h) (hi : μ l = some i) {f : Operand} (hv : zal μ v (Act.eval ⟨tmps, ds⟩ f)) {cur : Option zaf} :
  ∃ g args', (∀ w, (do let d <- resolve (Act.eval ⟨tmps, ds⟩) { callee := .value f, args := #[.const (.func (.yield i.b) #[] #[])], argTypes := #[] } 0; invoke d.target d.args : Sem Next).run P w = .ok (.enter g args') w) ∧
   zfs C μ dp cur h (Frame.enter P g args' .normal) := by
 obtain ⟨g, first, cap, rfl, hp, he⟩ := z2q e
 rw [zal] at hv; obtain ⟨fn, a', c', hv, hf, h1, h2⟩ := hv
 cases hf; have hl : za9 μ (zem first (.func (.yld l) [] [] :: cap)) (a' ++ #[Value.func (.yield i.b) #[] #[]] ++ c').toList := by
  rw [zbx]; have : za9 μ (zab.func (.yld l) [] [] :: cap) (Value.func (.yield i.b) #[] #[] :: c'.toList) := .cons (by rw [zal]; exact ⟨_, _, _, rfl, ⟨i, hi, rfl⟩, .nil, .nil⟩) h2
  simpa using h1.append this
 obtain ⟨fr, fn, hfn, hb⟩ := zl0 (cur := cur) hS.fns he hl
 refine ⟨g, _, fun w => ?_, fr⟩
 simp only [Sem.run_bind, resolve, hv, Deferred.ofValue, Sem.run_pure, Result.andThen_ok, invoke]; have : Array.map (Act.eval ⟨tmps, ds⟩) #[Operand.const (Value.func (.yield i.b) #[] #[])] = #[Value.func (.yield i.b) #[] #[]] := by simp [Act.eval]
 rw [this]; exact zg2 hS.fns hfn hb
theorem zza7 (hS : Sim P C B N I) (hH : za3 B N μ H w) (hcs : Frs C μ acs cs) (hR : zbf μ R (b.atR ⟨tmps, ds⟩ [])) (ht : zb8 μ R.n tm tmps) (hk : zd9 (za5 μ) k k') {f : Operand} {params : Array Nat} {assign body : Code} :
  zbt P C B N μ base (lone (b.atR ⟨tmps, ds⟩ (.code (.rangeFunc f params assign body) :: k')) (cs ++ base) w) w (zuy f params assign body C k tm R acs H) := by
 unfold zuy
 cases hv : ev f (.now tm) with
 | none => exact trivial
 | some v =>
  have hvr := ht.erel (ds := ds) hH.glob f _ hv
  rw [zad]
  cases hr : R.roundOf with
  | none =>
   have hb : b.roundOf = none := by
    have := hR.round
    rw [hr] at this; exact zr0 this
   simp only []
   cases hx : zh2 C (H.next + 1) v with
   | none => exact trivial
   | some h =>
    have h1 := hH.newBlk (x := .deferred (some [])) (o := .deferred (some [])) (i := ⟨w.heap.size, true, 0, 0, false⟩) rfl rfl (by rw [zmh]; exact ⟨_, rfl, .nil⟩)
    have le1 : μ.le (μ.ext H.next ⟨w.heap.size, true, 0, 0, false⟩) := hH.ext_le
    have le2 : (μ.ext H.next ⟨w.heap.size, true, 0, 0, false⟩).le ((μ.ext H.next ⟨w.heap.size, true, 0, 0, false⟩).ext (newBlk H (.deferred (some []))).next ⟨w.heap.size + 1, true, 0, 0, false⟩) := h1.ext_le
    have sz : (w.alloc (.deferred (some []))).heap.size = w.heap.size + 1 := Array.size_push ..
    have h2 := h1.newBlk (x := .loop ⟨.ready, none, R.fn, R.n, tm, params.toList, assign, body, H.next⟩) (o := .loop { state := .ready, pending := none, fn := b.fn, tmps, params, assign, body, defers := w.heap.size })
     (i := ⟨w.heap.size + 1, true, 0, 0, false⟩) sz.symm rfl (by
      rw [zmh]; exact ⟨_, rfl, rfl, rfl, hR.fn, (ht.mono le1.f).mono le2.f, rfl, rfl, rfl, ⟨_, le2 _ _ Mu.ext_same, rfl⟩⟩)
    have le := Mu.le_trans le1 le2
    have hi2 : ((μ.ext H.next ⟨w.heap.size, true, 0, 0, false⟩).ext (newBlk H (.deferred (some []))).next ⟨w.heap.size + 1, true, 0, 0, false⟩) (H.next + 1) = some ⟨w.heap.size + 1, true, 0, 0, false⟩ := Mu.ext_same
    obtain ⟨g, args', hA, hfr⟩ := zr7 (ds := ds) hS hx hi2 (hvr.mono le.f _ _) (cur := some (newBlk (newBlk H (.deferred (some []))) (.loop ⟨.ready, none, R.fn, R.n, tm, params.toList, assign, body, H.next⟩)))
    have run : (Instr.enterLoop b.fn tmps params assign body b.roundOf).run P w = .ok (w.heap.size + 1, [{ target := .collected w.heap.size, args := #[] }]) ((w.alloc (.deferred (some []))).alloc (.loop { state := .ready, pending := none, fn := b.fn, tmps, params, assign, body, defers := w.heap.size })) := by
     rw [hb]; simp [Instr.enterLoop, Sem.run_bind, Result.andThen_ok]
    refine ⟨_, _, b.atR ⟨tmps, { target := .collected w.heap.size, args := #[] } :: ds⟩ (.inRangeFunc (w.heap.size + 1) :: k') :: cs, _, .one (zo9 run (hA _)), le, ?_, h2, hfr, .cons ⟨?_, ?_⟩ (hcs.mono le)⟩
    ·refine (zby hH.size _).trans (zby ?_ _)
     rw [sz]; have := hH.size; omega
    ·have := hR.mono le.f
     exact ⟨this.fn, this.size, .cons ⟨⟨_, le2 _ _ Mu.ext_same, rfl⟩⟩ this.defers, this.mode, this.kind, by have := this.round; rw [hr] at this; exact this⟩
    ·show if R.mode.running = true then zde C _ acs.length R.n none (.inRange (H.next + 1) :: k) tm (.inRangeFunc (w.heap.size + 1) :: k') tmps else _
     rw [if_pos hR.running]; exact .plain (.cons (.inRange _ ⟨w.heap.size + 1, true, 0, 0, false⟩ hi2) (hk.mono fun _ _ r => r.mono le.f)) (ht.mono le.f)
  | some outer =>
   obtain ⟨io, hio, hb⟩ : ∃ i, μ outer = some i /\ b.roundOf = some i.b := by
    have := hR.round
    rw [hr] at this; exact zmn this
   simp only []
   cases hlo : zdr H outer with
   | none => exact trivial
   | some o =>
    rw [zad]
    cases hx : zh2 C H.next v with
    | none => exact trivial
    | some h =>
     obtain ⟨hl, r', hg, hw, rel⟩ := zi3 hH hlo hio
     obtain ⟨idf, hdf, hdf'⟩ := rel.defers
     have le : μ.le (μ.ext H.next ⟨w.heap.size, true, 0, 0, false⟩) := hH.ext_le
     have h2 := hH.newBlk (x := .loop ⟨.ready, none, R.fn, R.n, tm, params.toList, assign, body, o.defers⟩) (o := .loop { state := .ready, pending := none, fn := b.fn, tmps, params, assign, body, defers := r'.defers })
      (i := ⟨w.heap.size, true, 0, 0, false⟩) rfl rfl (by
       rw [zmh]; exact ⟨_, rfl, rfl, rfl, hR.fn, ht.mono le, rfl, rfl, rfl, ⟨idf, le _ _ hdf, hdf'⟩⟩)
     have hi2 : (μ.ext H.next ⟨w.heap.size, true, 0, 0, false⟩) H.next = some ⟨w.heap.size, true, 0, 0, false⟩ := Mu.ext_same
     obtain ⟨g, args', hA, hfr⟩ := zr7 (ds := ds) hS hx hi2 (hvr.mono le.f _ _) (cur := some (newBlk H (.loop ⟨.ready, none, R.fn, R.n, tm, params.toList, assign, body, o.defers⟩)))
     have run : (Instr.enterLoop b.fn tmps params assign body b.roundOf).run P w = .ok (w.heap.size, []) (w.alloc (.loop { state := .ready, pending := none, fn := b.fn, tmps, params, assign, body, defers := r'.defers })) := by
      rw [hb]; simp [Instr.enterLoop, Sem.run_bind, zgh hw, Result.andThen_ok]
     refine ⟨_, _, b.atR ⟨tmps, ds⟩ (.inRangeFunc w.heap.size :: k') :: cs, _, .one (zo9 run (hA _)), le, zby hH.size _, h2, hfr, .cons ⟨?_, ?_⟩ (hcs.mono le)⟩
     ·have := hR.mono le.f
      exact ⟨this.fn, this.size, this.defers, this.mode, this.kind, this.round⟩
     ·show if R.mode.running = true then zde C _ acs.length R.n none (.inRange H.next :: k) tm (.inRangeFunc w.heap.size :: k') tmps else _
      rw [if_pos hR.running]; exact .plain (.cons (.inRange _ ⟨w.heap.size, true, 0, 0, false⟩ hi2) (hk.mono fun _ _ r => r.mono le.f)) (ht.mono le.f)
theorem zx5 {c : Code} : step P (lone (b.atR ⟨tmps, ds⟩ (.code (.scope c) :: k')) cs w) = .next (lone (b.atR ⟨tmps, ds⟩ (.code c :: .inScope c :: k')) cs w) :=
 step_lone_go (by simp [stepG, stepG.exec, Frame.atR])
theorem ztd {c : Code} : step P (lone (b.atR ⟨tmps, ds⟩ (.inScope c :: k')) cs w) = .next (lone (b.atR ⟨tmps, ds⟩ k') cs w) :=
 step_lone_go (by simp [stepG, stepG.exec, Frame.atR])
theorem zzgj (hS : Sim P C B N I) (hI : I w) (hH : za3 B N μ H w) (hcs : Frs C μ acs cs) (hR : zbf μ R (b.atR ⟨tmps, ds⟩ [])) (ht : zb8 μ R.n tm tmps) : ∀ (c : Code) {k : List zb0} {k' : List Item}, zd9 (za5 μ) k k' →
  zbt P C B N μ base (lone (b.atR ⟨tmps, ds⟩ (.code c :: k')) (cs ++ base) w) w ((zzer c).f C k tm R acs H) := by
 intro c; induction c with
 | skip => intro k k' hk; exact ztp hH hcs hR ht hk stepR_skip
 | region id ops d =>
  intro k k' hk
  cases d with
  | true => exact zzgd hS hH hcs hR ht hk
  | false =>
   refine zbt.of_steps (.one stepR_region) (fun _ _ h => h) (Below.refl N w) ?_
   have := zvo (base := base) (all := ops) hS ops.toList 0 tm.cut H w μ tmps (by simp) (Nat.zero_le _) hI hH hcs hR ht.cut hk
   rw [ybs] at this; exact this
 | seq x y ihx _ =>
  intro k k' hk; exact zbt.of_steps (.one stepR_seq) (fun _ _ h => h) (Below.refl N w) (ihx (.cons (.code y) hk))
 | cond c x y _ _ => intro k k' hk; exact zzgh hH hcs hR ht hk
 | block id c _ => intro k k' hk; exact zzcu hH hcs hR ht hk
 | loop c _ => intro k k' hk; exact zzfl hH hcs hR ht hk
 | rangeFunc f ps a c _ _ => intro k k' hk; exact zza7 hS hH hcs hR ht hk
 | exit id => intro k k' hk; exact zzf7 hH hcs hR ht hk
 | scope c _ => intro k k' hk; exact zf3 hH hcs hR ht (.cons (.code _) (.cons (.inScope _) hk)) (.one zx5)
 | label l => intro k k' hk; exact ztp hH hcs hR ht hk stepR_label
 | goto l => intro k k' _; exact trivial
 | ret => intro k k' _; exact ret_ok hH hcs hR ht
 | refuse s => intro k k' _; exact trivial
theorem zzf8 (hS : Sim P C B N I) (hI : I w) (hH : za3 B N μ H w) (hcs : Frs C μ acs cs) (hR : zbf μ R (b.atR ⟨tmps, ds⟩ [])) {todo : List zb0} {btodo : List Item} (hb : zde C μ acs.length R.n (some H) todo tm btodo tmps) :
  zbt P C B N μ base (lone (b.atR ⟨tmps, ds⟩ btodo) (cs ++ base) w) w (zlz C todo tm R acs H) := by
 generalize hc : some H = cur at hb
 cases hb with
 | plain a t =>
  cases a with
  | nil => exact end_ok hH hcs hR t
  | cons i hk =>
   cases i with
   | code c => exact zzgj hS hI hH hcs hR t c hk
   | inBlock id => exact ztp hH hcs hR t hk stepR_inBlock
   | inLoop c => exact zf3 hH hcs hR t (.cons (.code _) (.cons (.inLoop _) hk)) (.one stepR_inLoop)
   | inScope c => exact ztp hH hcs hR t hk ztd
   | ops all i hi => exact zvo hS _ i _ _ _ _ _ rfl hi hI hH hcs hR t hk
   | inRange l i hl => exact trivial
   | endRange l i hl => exact zzg hH hcs hR t hk hl
   | beginRound => exact zzcv hH hcs hR t hk
 | @reg _ all old _ olds stages _ order _ _ anc D S hr hst hp hk =>
  cases hc; show zbt P C B N μ base _ w (z14 all old olds stages C _ tm R acs H)
  unfold z14
  cases stages with
  | nil => exact z56 hS hH hcs hR hk hr hst hp
  | cons st stages =>
   by_cases hlt : st.heavy <= all.size
   ·obtain ⟨_, _, D1, D2, h1, _⟩ := zf4 hst hlt
    obtain ⟨o, ho, _⟩ := zhs h1
    have : zds all.toList st.heavy = some o := by rw [zbe]; simpa using ho
    simp only [this]; exact zzb4 hS hI hH hcs hR hk hr hst hp ho
   ·have : zds all.toList st.heavy = none := by rw [zbe]; simp; omega
    simp only [this]; rw [zak, if_pos (zcz.2 (by rw [zav]; simp; omega))]
    by_cases hlt2 : all.size + all.size < st.heavy
    ·rw [zak, if_pos (zcz.2 (by rw [zav]; simpa using hlt2))]
     exact z3h hS hH hcs hR hk hr hst hp hlt2
    rw [zak, if_neg (fun e => by have := zcz.1 e; rw [zav] at this; simp at this; omega)]
    have e0 : Nat.sub st.heavy (Nat.succ (zbp all.toList)) = st.heavy - (all.size + 1) := by rw [zav]; simp
    rw [e0]; exact z3j hS hH hcs hR hk hr hst hp (by omega) (by omega)
 | @mid _ all old _ olds lights again stages _ order _ _ anc D D2 S hr h1 h2 hw hk =>
  show zbt P C B N μ base _ w (z14 all old olds (⟨all.size, lights, again⟩ :: stages) C _ tm R acs H)
  unfold z14; have : zds all.toList all.size = none := by rw [zbe]; simp
  simp only [this]; rw [zak, if_neg fun e => by have := zcz.1 e; rw [zav] at this; simp at this]
  exact z7b hH hcs hR hk (st := ⟨all.size, lights, again⟩) hr h1 h2 hw
 | wait _ _ _ _ _ => cases hc
end
end Go.Am
namespace Go.Am
open Go Go.RowKit
section
variable {P : Program} {C : Ctx} {B N : Nat} {I : World -> Prop} {μ ν : Mu} {H H' : zaf} {w : World} {tm : Tm} {R : zf8} {acs : List zan} {base cs : List Frame}
variable {b : Frame} {tmps : Array Value}
theorem zo8 {block : Nat} {es calls : List Deferred} {w' : World} (hm : b.mode ≠ .run) (hd : b.defers = { target := .collected block, args := #[] } :: es) (hr : (Instr.takeDeferred block).run P w = .ok calls w') :
  step P (lone b cs w) = .next (lone { b with defers := calls ++ es } cs w') := by
 obtain ⟨fn, tmps, todo, defers, mode, kind, round⟩ := b
 simp only at hm hd
 subst hd; refine step_lone_go ?_
 cases mode with
 | run => exact absurd rfl hm
 | returning => simp [stepG, unwind, Sem.runT_eq, hr]
 | panicking c => simp [stepG, unwind, Sem.runT_eq, hr]
theorem z2i {f : Nat} {cap as : Array Value} {es : List Deferred} (hm : b.mode ≠ .run) (hd : b.defers = { target := .fn (.func f) cap, args := as } :: es) (hr : (callFunc f (as ++ cap)).run P w = .ok (.enter f (as ++ cap)) w) :
  step P (lone b cs w) = .next (lone (Frame.enter P f (as ++ cap) .deferred) ({ b with defers := es } :: cs) w) := by
 obtain ⟨fn, tmps, todo, defers, mode, kind, round⟩ := b
 simp only at hm hd
 subst hd; refine step_lone_go ?_
 cases mode with
 | run => exact absurd rfl hm
 | returning => simp [stepG, unwind, callDeferred, invoke, Sem.runT_eq, hr]
 | panicking c => simp [stepG, unwind, callDeferred, invoke, Sem.runT_eq, hr]
def zl8 (c : Frame) : Frame :=
 match c.mode with
 | .panicking ({ recovered := true, .. } :: older) =>
  match older.dropWhile (!·.goexit) with
  | [] => { c with mode := .returning }
  | rest => { c with mode := .panicking rest }
 | _ => c
theorem zq6 {fn : Func} {v : Value} {c : Frame} (hm : b.mode = .returning) (hd : b.defers = []) (hk : b.kind = .deferred) (hf : P.funcs[b.fn]? = some fn) (hr : (results fn b.tmps).run P w = .ok v w) :
  step P (lone b (c :: cs) w) = .next (lone (zl8 c) cs w) := by
 refine step_lone_go ?_
 simp only [stepG, unwind, doReturn, hm, hd, hk, hf, Sem.runT_eq, hr, GStep.bare_after]; rfl
def z0p (tmps : Array Value) (r : ResultVar) : Sem Value :=
 match r with
 | .tmp t => pure (tmps.getD t undef)
 | .cell a t => do loadVar t (<- asAddr (tmps.getD a undef))
theorem z2o (fn : Func) (tmps : Array Value) : results fn tmps = (do let vs <- fn.results.mapM (z0p tmps); pure (if h : vs.size = 1 then vs[0] else .tuple vs)) := rfl
theorem zn8 (hT : zcm P C) (hH : za3 B N μ H w) {n : Nat} (ht : zb8 μ n tm tmps) : ∀ (rs : List ResultVar) (l : List zab), zd7 (zi1 C H tm) rs = some l →
  ∃ vs, (rs.mapM (z0p tmps)).run P w = .ok vs w /\ za9 μ l vs := by
 intro rs; induction rs with
 | nil => intro l h; rw [zgk] at h; cases h; exact ⟨[], by simp [Sem.run_pure], .nil⟩
 | cons r rs ih =>
  intro l h; rw [zcb, zac] at h; obtain ⟨a, ha, h⟩ := h
  rw [zac] at h; obtain ⟨m, hm, h⟩ := h
  cases h; obtain ⟨vs, h1, h2⟩ := ih m hm
  rw [List.mapM_cons]
  cases r with
  | tmp t =>
   refine ⟨_, ?_, .cons (ht.2 t a ha) h2⟩
   simp only [z0p, Sem.run_bind, Sem.run_pure, Result.andThen_ok, h1]
  | cell x t =>
   simp only [zi1, zac, zff] at ha; obtain ⟨p, ⟨av, hav, rfl⟩, ty, hty, c, hc, hl⟩ := ha
   have hv := ht.2 x _ hav
   rw [zal] at hv; obtain ⟨i, hi, hv⟩ := hv
   obtain ⟨v', h3, h4⟩ := z05 (P := P) hH (hT.facts hty) hc hi hl
   refine ⟨_, ?_, .cons h4 h2⟩
   have ha : (asAddr (Value.pointer (some ⟨i.b, p.2, none⟩))).run P w = .ok ⟨i.b, p.2, none⟩ w := rfl
   have one : (z0p tmps (.cell x t)).run P w = .ok v' w := by
    show ((asAddr (tmps.getD x undef)).bind fun a => loadVar t a).run P w = _
    rw [hv]; exact h3
   simp only [Sem.run_bind, Sem.run_pure, Result.andThen_ok, one, h1]
theorem zr1 (hT : zcm P C) (hH : za3 B N μ H w) {n : Nat} (ht : zb8 μ n tm tmps) {fn : Func} {l : List zab} (h : zf2 C H tm fn.results.toList = some l) :
  ∃ v, (results fn tmps).run P w = .ok v w /\ zal μ (zkl l) v := by
 obtain ⟨vs, h1, h2⟩ := zn8 hT hH ht _ _ h
 refine ⟨if h : vs.toArray.size = 1 then vs.toArray[0] else .tuple vs.toArray, ?_, ?_⟩
 ·rw [z2o, Array.mapM_eq_mapM_toList]
  simp only [Sem.run_bind, map_eq_pure_bind, h1, Result.andThen_ok, Sem.run_pure]
 ·have hl := h2.length
  cases l with
  | nil =>
   rw [za9] at h2; subst h2; rw [dif_neg (by simp)]
   show zal μ (.tup []) _
   rw [zal]; exact ⟨_, rfl, .nil⟩
  | cons a m =>
   cases m with
   | nil =>
    rw [za9] at h2; obtain ⟨v, r, rfl, hv, hr⟩ := h2
    rw [za9] at hr; subst hr; rw [dif_pos (by simp)]
    exact hv
   | cons a2 m =>
    rw [dif_neg (by simp [hl])]
    show zal μ (.tup (a :: a2 :: m)) _
    rw [zal]; exact ⟨_, rfl, by simpa using h2⟩
def DefRel (μ : Mu) : Option (List zod) -> Option (List Deferred) -> Prop
 | none, none => True
 | some a, some b => zd9 (zin μ) a b
 | _, _ => False
theorem zzm (hH : za3 B N μ H w) {l : Nat} {x : Option (List zod)} (h : zfk H l = some x) {i : BI} (h4 : μ l = some i) : B <= l /\ ∃ x', H.t.get l = some (.deferred x) /\ w.heap[i.b]? = some (.deferred x') /\ DefRel μ x x' := by
 unfold zfk at h; rw [zae, zhm, zac] at h; obtain ⟨h1, y, h2, h3⟩ := h
 have : y = .deferred x := by cases y <;> simp [zam.asDeferred] at h3; rw [h3]
 subst this; obtain ⟨o, h5, h6⟩ := hH.blk l _ i h2 h4
 rw [zmh] at h6; obtain ⟨r', rfl, h7⟩ := h6
 refine ⟨Nat.le_of_not_lt fun hlt => ?_, r', h2, h5, ?_⟩
 ·have := (hH.low l _ i hlt h2 h4).2.2
  cases this
 cases x <;> cases r' <;> exact h7
theorem z23 {μ : Mu} {m : zri} {m' : FrameMode} (h : zqy μ m m') (hm : m.running = false) : m' ≠ .run := by
 rintro rfl
 cases m <;> first | exact h.elim | cases hm
theorem z4y (hS : Sim P C B N I) (hH : za3 B N μ H w) (hcs : Frs C μ acs cs) {fr : zan} (hr : zbf μ fr.R b) (hm : fr.R.mode.running = false) (ht : zb8 μ fr.R.n fr.tm b.tmps) {d : zod} {l : List zod} (hd : fr.R.defers = d :: l) :
  zbt P C B N μ base (lone b (cs ++ base) w) w (zvd C d l fr acs H) := by
 have hrun := z23 hr.mode hm
 have hds := hr.defers
 rw [hd] at hds; generalize hbd : b.defers = bd at hds
 cases hds with
 | @cons _ e _ es h1 h2 =>
  obtain ⟨dfn, dr, dargs⟩ := d
  have h1 := h1.rel
  unfold zvd
  cases dfn with
  | none =>
   obtain ⟨i, hi, rfl⟩ := h1
   simp only []
   cases hx : zfk H dr with
   | none => exact trivial
   | some x =>
    rw [zad]
    cases x with
    | none => exact trivial
    | some calls =>
     obtain ⟨hl, x', hg, hw, rel⟩ := zzm hH hx hi
     cases x' with
     | none => exact rel.elim
     | some calls' =>
      have run : (Instr.takeDeferred i.b).run P w = .ok calls' (World.setBlk w i.b (.deferred none)) := by
       have : (setObj i.b (.deferred none)).run P w = .ok () (World.setBlk w i.b (.deferred none)) := zf9 hw (by intro a b c h; cases h)
       have hg : (getObj i.b).run P w = .ok (.deferred (some calls')) w := by simp [getObj, Sem.run, hw]
       simp only [Instr.takeDeferred, Sem.run_bind, hg, Result.andThen_ok, this, Sem.run_pure]
      refine ⟨μ, _, cs, _, .one (zo8 hrun hbd run), fun _ _ h => h, zci (hH.own dr i hl hi).1, ?_, ⟨?_, ?_⟩, hcs⟩
      ·refine hH.upd hg hi hl ?_
       rw [zmh]; exact ⟨none, rfl, trivial⟩
      ·refine ⟨hr.fn, hr.size, ?_, hr.mode, hr.kind, hr.round⟩
       show zd9 (zin μ) (zem calls l) (calls' ++ es)
       rw [zbx]; exact zd9.append rel h2
      ·show if fr.R.mode.running = true then zde C _ _ _ _ _ _ _ _ else _
       rw [if_neg (by rw [hm]; simp)]
       exact ht
  | some fn =>
   cases fn with
   | yld m => exact trivial
   | func f =>
    obtain ⟨fn, cap, as, rfl, hfn, hl⟩ := h1
    cases hfn; simp only []
    cases hp : C.prims.get f with
    | some x => exact trivial
    | none =>
     simp only []
     cases he : zey C f dargs true with
     | none => exact trivial
     | some g =>
      obtain ⟨h3, fn, hfn, hb⟩ := zl0 (cur := some H) hS.fns he hl
      refine ⟨μ, _, { b with defers := es } :: cs, w, .one (z2i hrun hbd (zg2 hS.fns hfn hb)), fun _ _ h => h, Below.refl N w, hH, h3, .cons ⟨⟨hr.fn, hr.size, h2, hr.mode, hr.kind, hr.round⟩, ?_⟩ hcs⟩
      show if fr.R.mode.running = true then zde C _ _ _ _ _ _ _ _ else _
      rw [if_neg (by rw [hm]; simp)]
      exact ht
theorem zfs.still {dp : Nat} {cur cur' : Option zaf} {fr : zan} (h : zfs C μ dp cur fr b) (hm : fr.R.mode.running = false) : zfs C μ dp cur' fr b := by
 refine ⟨h.rest, ?_⟩
 have := h.body
 rw [if_neg (by rw [hm]; simp)] at this ⊢
 exact this
theorem zug {l : List PanicEntry} {m : List zn6} (h : zd9 (zhb μ) m l) : l.dropWhile (!·.goexit) = [] := by
 induction h with
 | nil => rfl
 | cons a _ ih => simp [a.goexit, ih]
def zzcw (c : zan) (rest : List zan) (H : zaf) : Option zhc :=
 match c.R.mode with
 | .panicking (⟨_, true⟩ :: _) => some (⟨zpf c .returning, rest, H⟩ : zhc)
 | _ => zah (!c.R.mode.running) (some ⟨c, rest, H⟩)
def z0s (C : Ctx) (fr : zan) (ch : List zn6) (cs : List zan) (H : zaf) : zgu :=
 zhf (ob (C.fns.get fr.R.fn) fun _ => match cs with | c :: rest => some ⟨z0t c ch, rest, H⟩ | [] => none) 19
theorem zzgo {dp : Nat} {c : zan} {c' : Frame} (hc : zfs C μ dp none c c') {x : zhc} {rest : List zan} (h : zzcw c rest H = some x) : x.cs = rest /\ x.H = H /\ zfs C μ dp (some H) x.fr (zl8 c') := by
 have hm := hc.rest.mode
 have stay : c'.mode = c'.mode -> (zl8 c' = c') -> c.R.mode.running = false -> x = ⟨c, rest, H⟩ -> x.cs = rest /\ x.H = H /\ zfs C μ dp (some H) x.fr (zl8 c') := by
  intro _ h1 h2 h3; subst h3; rw [h1]; exact ⟨rfl, rfl, hc.still h2⟩
 obtain ⟨ct, ctm, cR⟩ := c
 obtain ⟨f, n, de, mode, dd, ro⟩ := cR
 unfold zzcw at h; simp only at h hm
 cases mode with
 | run => cases h
 | returning =>
  cases hcm : c'.mode with
  | returning => exact stay rfl (by unfold zl8; rw [hcm]) rfl (ybj h).symm
  | _ => rw [hcm] at hm; exact hm.elim
 | panicking ch =>
  cases hcm : c'.mode with
  | run => rw [hcm] at hm; exact hm.elim
  | returning => rw [hcm] at hm; exact hm.elim
  | panicking ch' =>
   rw [hcm] at hm
   cases hm with
   | nil => exact stay rfl (by unfold zl8; rw [hcm]) rfl (ybj h).symm
   | @cons p e older older' hp hold =>
    obtain ⟨pv, pr⟩ := p
    obtain ⟨ev', er, eg⟩ := e
    obtain ⟨q1, q2, q3⟩ := hp
    simp only at q1 q2 q3
    subst q2 q3
    cases er with
    | false => exact stay rfl (by unfold zl8; rw [hcm]) rfl (ybj h).symm
    | true =>
     cases ybj h
     refine ⟨rfl, rfl, ?_⟩
     have : zl8 c' = { c' with mode := .returning } := by
      unfold zl8; rw [hcm]; simp only [zug hold]
     rw [this]; have hb := hc.body
     exact ⟨⟨hc.rest.fn, hc.rest.size, hc.rest.defers, trivial, hc.rest.kind, hc.rest.round⟩, hb⟩
theorem z2c (hS : Sim P C B N I) (hH : za3 B N μ H w) (hcs : Frs C μ acs cs) {fr : zan} (hr : zbf μ fr.R b) (hm : b.mode = .returning) (hd : b.defers = []) (ht : zb8 μ fr.R.n fr.tm b.tmps) :
  zbt P C B N μ base (lone b (cs ++ base) w) w (zo3 C fr acs H) := by
 unfold zo3
 cases hx : ob (C.fns.get fr.R.fn) fun fn => zf2 C H fr.tm fn.results.toList with
 | none => exact trivial
 | some l =>
  rw [zac] at hx; obtain ⟨fn, hfn, hres⟩ := hx
  obtain ⟨v, h1, h2⟩ := zr1 hS.tys hH ht hres
  have hf : P.funcs[b.fn]? = some fn := by rw [hr.fn]; exact (hS.fns _ _ hfn).1
  have hk := hr.kind
  simp only []
  cases hcs with
  | nil =>
   simp only [zak]
   cases hdf : fr.R.deferred with
   | true => exact trivial
   | false =>
    rw [hdf] at hk; rw [if_neg (by simp)]
    split
    ·rename_i hroot
     exact ⟨μ, b, w, v, .refl _ _, fun _ _ h => h, Below.refl N w, hH, h2, by rw [hr.fn]; exact zck.1 hroot, hm, hd, hk, fn, hf, h1⟩
    ·exact trivial
  | @cons c c' acs1 cs1 hc hcs1 =>
   simp only []
   cases hdf : fr.R.deferred with
   | true =>
    rw [hdf] at hk; simp only [cond_true]; show zbt P C B N μ base _ w (zhf (zzcw c acs1 H) 18)
    generalize hx : zzcw c acs1 H = x
    cases x with
    | none => exact trivial
    | some x =>
     obtain ⟨h3, h4, h5⟩ := zzgo hc hx
     obtain ⟨xf, xc, xh⟩ := x
     simp only at h3 h4 h5
     subst h3 h4
     exact ⟨μ, _, cs1, w, .one (zq6 hm hd hk hf h1), fun _ _ h => h, Below.refl N w, hH, h5, hcs1⟩
   | false =>
    rw [hdf] at hk; simp only [cond_false]
    cases hfi : zbr c (zkl l) with
    | none => exact trivial
    | some g =>
     exact ⟨μ, _, cs1, w, .one (step_leave_returned ⟨hm, hd, hk, fn, hf, h1⟩), fun _ _ h => h, Below.refl N w, hH, zgp hc hfi h2, hcs1⟩
theorem z4w (hS : Sim P C B N I) (hH : za3 B N μ H w) (hcs : Frs C μ acs cs) {fr : zan} (hfr : zfs C μ acs.length (some H) fr b) (hm : fr.R.mode.running = false) :
  zbt P C B N μ base (lone b (cs ++ base) w) w (zs4 C fr acs H) := by
 have ht : zb8 μ fr.R.n fr.tm b.tmps := by
  have := hfr.body
  rw [if_neg (by rw [hm]; simp)] at this
  exact this
 have hr := hfr.rest
 unfold zs4
 cases hd : fr.R.defers with
 | cons d l => exact z4y hS hH hcs hr hm ht hd
 | nil =>
  have hbd : b.defers = [] := by
   have := hr.defers
   rw [hd] at this; generalize hbd : b.defers = bd at this
   cases this
   rfl
  have hmode := hr.mode
  simp only []
  cases hmo : fr.R.mode with
  | run => rw [hmo] at hm; cases hm
  | returning =>
   rw [hmo] at hmode; have : b.mode = .returning := by
    cases hb : b.mode with
    | returning => rfl
    | _ => rw [hb] at hmode; exact hmode.elim
   exact z2c hS hH hcs hr this hbd ht
  | panicking ch =>
   rw [hmo] at hmode
   cases hb : b.mode with
   | run => rw [hb] at hmode; exact hmode.elim
   | returning => rw [hb] at hmode; exact hmode.elim
   | panicking ch' =>
    rw [hb] at hmode; show zbt P C B N μ base _ w (z0s C fr ch acs H)
    unfold z0s
    cases hfn : C.fns.get fr.R.fn with
    | none => exact trivial
    | some fn =>
     rw [zad]; have hf : P.funcs[b.fn]? = some fn := by rw [hr.fn]; exact (hS.fns _ _ hfn).1
     cases hcs with
     | nil => exact trivial
     | @cons c c' acs1 cs1 hc hcs1 =>
      exact ⟨μ, _, cs1, w, .one (step_leave_panicked ⟨hb, hbd, fn, hf⟩), fun _ _ h => h, Below.refl N w, hH, z0r hc hmode, hcs1⟩
theorem zzao (hS : Sim P C B N I) (hI : I w) {s : zhc} (hH : za3 B N μ s.H w) (hcs : Frs C μ s.cs cs) (hfr : zfs C μ s.cs.length (some s.H) s.fr b) : zbt P C B N μ base (lone b (cs ++ base) w) w (stepA C s) := by
 obtain ⟨⟨todo, tm, R⟩, acs, H⟩ := s
 show zbt P C B N μ base _ w (bif R.mode.running then zlz C todo tm R acs H else zs4 C ⟨todo, tm, R⟩ acs H)
 cases hm : R.mode.running with
 | false => exact z4w hS hH hcs hfr hm
 | true =>
  have hb := hfr.body
  have hr := hfr.rest
  simp only at hb hr
  rw [if_pos hm] at hb; have hbm : b.mode = .run := by
   have h := hr.mode
   cases hmo : R.mode with
   | run =>
    rw [hmo] at h
    cases hb : b.mode with
    | run => rfl
    | _ => rw [hb] at h; exact h.elim
   | _ => rw [hmo] at hm; cases hm
  have e := zzcx hbm
  have := zzf8 (b := b) (tmps := b.tmps) (ds := b.defers) (base := base) hS hI hH hcs ⟨hr.fn, hr.size, hr.defers, by have := hr.mode; rw [hbm] at this; exact this, hr.kind, hr.round⟩ hb
  rw [e] at this; exact this
theorem z0l (hS : Sim P C B N I) (hI : I w) {m : Machine} {o : zgu} (h : zbt P C B N μ base m w o) : zbt P C B N μ base m w (z2j C o) := by
 cases o with
 | fail n => exact trivial
 | done v H => exact h
 | next s =>
  obtain ⟨μ', b, cs, w', h1, h2, h3, h4, h5, h6⟩ := h
  exact zbt.of_steps h1 h2 h3 (zzao hS (hS.inv _ _ h3 hI) h4 h6 h5)
theorem zze6 (hS : Sim P C B N I) (hI : I w) {m : Machine} : ∀ (n : Nat) {o : zgu}, zbt P C B N μ base m w o -> zbt P C B N μ base m w (z2n C n o) := by
 intro n; induction n with
 | zero => intro o h; exact z0l hS hI h
 | succ n ih => intro o h; exact ih (ih h)
theorem zw1 (hS : Sim P C B N I) (hI : I w) {f : Nat} (hroot : C.root = f) {args : List zab} {args' : Array Value} (hH : za3 B N μ H w) (hl : za9 μ args args'.toList) {g : zan} (he : zey C f args false = some g) {n : Nat} {v : zab} {H' : zaf}
  (hrun : z2n C n (.next ⟨g, [], H⟩) = .done v H') :
  Calls P f args' w fun e w' => ∃ v' μ', e = .returned v' /\ μ.lw μ' /\ zal μ' v v' /\ za3 B N μ' H' w' /\ Below N w w' := by
 intro base; have h0 : zbt P C B N μ base (lone (Frame.enter P f args' .normal) base w) w (.next ⟨g, [], H⟩) :=
  ⟨μ, _, [], w, .refl _ _, fun _ _ h => h, Below.refl N w, hH, (zl0 (cur := some H) hS.fns he hl).1, .nil⟩
 have h1 := zze6 hS hI n h0
 rw [hrun] at h1; obtain ⟨μ', b, w', v', h2, h3, h4, h5, h6, h7, h8⟩ := h1
 exact ⟨.returned v', w', b, ⟨v', μ', rfl, h3, h6, h5, h4⟩, h2, by rw [h7, hroot], h8⟩
end
end Go.Am
namespace Go.Am
open Go Go.RowKit
abbrev zbg := Option (zab × zaf)
abbrev Ora := AFn -> List zab -> zaf -> zbg
structure Kt where
 norm : Tm -> zaf -> zbg
 exit : Nat -> Tm -> zaf -> zbg
 ret : Tm -> zaf -> zbg
structure PI where
 id : Nat
 pl : List Nat
 ll : List (Nat × Nat)
def PI.kept (p : PI) : List Nat := zem p.pl (List.rec (motive := fun _ => List Nat) [] (fun a _ r => a.1 :: r) p.ll)
inductive zbv where
 | skip
 | region (id : Nat) (ops : Array Oper) (draw : Bool)
 | seq (a b : zbv)
 | cond (c : Operand) (x y : zbv)
 | block (id : Nat) (c : zbv)
 | loop (p : PI) (c : zbv)
 | exit (id : Nat)
 | ret
 | cut (p : PI) (c : zbv)
 | range (i : Nat) (pl : List Nat) (f : Operand) (ps : Array Nat) (id : Nat) (ops : Array Oper) (c : zbv)
def zcw : zbv -> Code
 | .skip => .skip
 | .region id ops d => .region id ops d
 | .seq a b => .seq (zcw a) (zcw b)
 | .cond c x y => .cond c (zcw x) (zcw y)
 | .block id c => .block id (zcw c)
 | .loop _ c => .loop (zcw c)
 | .exit id => .exit id
 | .ret => .ret
 | .cut _ c => zcw c
 | .range _ _ f ps id ops c => .rangeFunc f ps (.region id ops false) (zcw c)
def lim {α : Type} (f : Nat -> Option α) : Option α := @dite _ (∃ n r, f n = some r) (Classical.propDecidable _) (fun h => f h.choose) (fun _ => none)
def Mono {α : Type} (f : Nat -> Option α) : Prop := ∀ n r, f n = some r -> f (n + 1) = some r
theorem Mono.le {α : Type} {f : Nat -> Option α} (h : Mono f) {n m : Nat} {r : α} (hr : f n = some r) (hnm : n <= m) : f m = some r := by
 induction hnm with
 | refl => exact hr
 | step _ ih => exact h _ _ ih
theorem zom {α : Type} {f : Nat -> Option α} (h : Mono f) {r : α} : lim f = some r ↔ ∃ n, f n = some r := by
 unfold lim; by_cases hx : ∃ n r, f n = some r
 ·rw [dif_pos hx]
  obtain ⟨r0, h0⟩ := hx.choose_spec
  constructor
  ·intro e; exact ⟨_, e⟩
  ·rintro ⟨n, hn⟩
   have a := h.le h0 (Nat.le_max_left hx.choose n)
   have b := h.le hn (Nat.le_max_right hx.choose n)
   rw [a] at b; rw [h0]; exact b
 ·rw [dif_neg hx]
  constructor
  ·intro e; cases e
  ·rintro ⟨n, hn⟩; exact absurd ⟨n, r, hn⟩ hx
def zzff : zb9 -> zab -> (zab -> zbg) -> zbg
 | .bool, v, K => ob v.asBool fun b => K (.bool b)
 | .int k, v, K => ob v.asIntK fun p => zah (kEq p.1 k) (K (.int k p.2))
 | .string, v, K => ob v.asStr fun l => K (.str l)
 | .ptr _, v, K => K v
 | .slice _, v, K => K v
 | .arr _ _, v, K => K v
 | .map _ _, v, K => K v
 | .struct _, v, K => K v
 | .func, v, K => K v
 | .iface, v, K => K v
 | .other, v, K => K v
def fitD : zb9 -> zab -> Prop
 | .bool, v => ∃ b, v = .bool b
 | .int k, v => ∃ n, v = .int k n
 | .string, v => ∃ l, v = .str l
 | _, _ => True
theorem z24 {d : zb9} {v : zab} {K : zab -> zbg} {x : zab × zaf} : zzff d v K = some x ↔ fitD d v /\ K v = some x := by
 cases d <;> simp only [zzff, fitD, zac, zae, true_and]
 case bool =>
  constructor
  ·rintro ⟨b, h1, h2⟩; have := zdd.1 h1; subst this; exact ⟨⟨b, rfl⟩, h2⟩
  ·rintro ⟨⟨b, rfl⟩, h⟩; exact ⟨b, rfl, h⟩
 case int k =>
  constructor
  ·rintro ⟨p, h1, h2, h3⟩; have := zcl.1 h1; subst this; rw [zev.1 h2]; exact ⟨⟨p.2, rfl⟩, h3⟩
  ·rintro ⟨⟨n, rfl⟩, h⟩; exact ⟨(k, n), rfl, zev.2 rfl, h⟩
 case string =>
  constructor
  ·rintro ⟨b, h1, h2⟩; have := zc5.1 h1; subst this; exact ⟨⟨b, rfl⟩, h2⟩
  ·rintro ⟨⟨b, rfl⟩, h⟩; exact ⟨b, rfl, h⟩
def zhe (C : Ctx) (t : Nat) (v : zab) (K : zab -> zbg) : zbg :=
 match C.tys.get t with
 | some ty => zzff ty.desc v K
 | none => K v
def zzcd (C : Ctx) (t : Nat) (v : zab) : Prop :=
 match C.tys.get t with
 | some ty => fitD ty.desc v
 | none => True
theorem zbz {C : Ctx} {t : Nat} {v : zab} {K : zab -> zbg} {x : zab × zaf} : zhe C t v K = some x ↔ zzcd C t v /\ K v = some x := by
 unfold zhe zzcd; split
 ·exact z24
 ·simp
def zio (φ : Ora) (r : zq3) (H : zaf) (k : zab -> zaf -> zbg) : zbg :=
 match r with
 | .val v H' => k v H'
 | .enter f args => ob (φ (.func f) args H) fun p => k p.1 p.2
 | .round l args => ob (φ (.yld l) args H) fun p => k p.1 p.2
 | _ => none
def zuu (C : Ctx) (φ : Ora) (all : Array Oper) (n : Nat) (κ : Tm -> zaf -> zbg) (l : List Oper) : Tm -> zaf -> zbg :=
 List.rec (motive := fun _ => Tm -> zaf -> zbg) κ
  (fun o _ g tm H => ob (za1 o.guard all tm) fun w => Bool.rec (motive := fun _ => zbg) (g (putA n tm o.dst zba) H)
   (zio φ ((aop o.op).f C (.now tm) H) H fun v H' => zhe C o.type v fun v => g (putA n tm o.dst v) H') w) l
def zbs (C : Ctx) (H : zaf) (all : Array Oper) (n : Nat) (old : Tm) (olds : List (Nat × List Nat)) (k : Tm -> zbg) (l : List Nat) : Tm -> zbg :=
 List.rec (motive := fun _ => Tm -> zbg) k
  (fun i _ g tm => ob (zds all.toList i) fun o => ob (za1 o.guard all tm) fun w => Bool.rec (motive := fun _ => zbg) (g (putA n tm o.dst zba))
   (ob ((zbj o.op).f C (.mixed tm old (zb5 i olds) (zbh o.op)) H) fun v => zhe C o.type v fun v => g (putA n tm o.dst v)) w) l
def zek (C : Ctx) (H : zaf) (all : Array Oper) (old : Tm) (olds : List (Nat × List Nat)) (tm : Tm) (k : zbg) (l : List Nat) : zbg :=
 List.rec (motive := fun _ => zbg) k
  (fun i _ g => ob (zds all.toList i) fun o => ob o.dst fun d => ob (za1 o.guard all tm) fun w => Bool.rec (motive := fun _ => zbg) g
   (ob ((zbj o.op).f C (.mixed tm old (zb5 i olds) (zbh o.op)) H) fun v => zhe C o.type v fun v => ob (tm.get d) fun u => zah (same 10 v u) g) w) l
def hvI (all : Array Oper) (h : Nat) : Nat := bif Nat.blt (zbp all.toList) h then Nat.sub h (Nat.succ (zbp all.toList)) else h
def zgd (C : Ctx) (all : Array Oper) (h : Nat) (o : Oper) (tm : Tm) : Option Bool := ob (za1 o.guard all tm) fun w => bif Nat.blt (zbp all.toList) h then zah (w && zd4 o.op && zb2 (zzbl C o.op)) (some w) else some w
def zfu (all : Array Oper) (st : zch) : Bool := Nat.blt (zbp all.toList + zbp all.toList) st.heavy
def zwn (C : Ctx) (all : Array Oper) (n : Nat) (old : Tm) (olds : List (Nat × List Nat)) (st : zch) (g : Tm -> zaf -> zbg) (tm : Tm) (H : zaf) : zbg :=
 zah (zka C all) (ob (z3u all old olds tm st.again) fun es => ob (zlv C es H) fun H' => zbs C H' all n old olds (fun tm => g tm H') st.lights tm)
def zbu (C : Ctx) (φ : Ora) (all : Array Oper) (n : Nat) (old : Tm) (olds : List (Nat × List Nat)) (κ : Tm -> zaf -> zbg) (l : List zch) : Tm -> zaf -> zbg :=
 List.rec (motive := fun _ => Tm -> zaf -> zbg) κ
  (fun st _ g tm H => Bool.rec (motive := fun _ => zbg) (ob (zds all.toList (hvI all st.heavy)) fun o => ob (zgd C all st.heavy o tm) fun w =>
   (fun cont : zab -> zaf -> zbg => Bool.rec (motive := fun _ => zbg) (cont zba H)
    (zio φ ((aop o.op).f C (.mixed tm old (zb5 (hvI all st.heavy) olds) (zbh o.op)) H) H fun v H' => zhe C o.type v fun v => cont v H') w)
   (fun v H' => zek C H' all old olds (putA n tm o.dst v) (zbs C H' all n old olds (fun tm => g tm H') st.lights (putA n tm o.dst v)) st.again)) (zwn C all n old olds st g tm H) (zfu all st)) l
def zmo (C : Ctx) (φ : Ora) (fn n : Nat) (κ : Tm -> zaf -> zbg) (id : Nat) (all : Array Oper) (draw : Bool) : Tm -> zaf -> zbg :=
 Bool.rec (motive := fun _ => Tm -> zaf -> zbg) (fun tm H => zuu C φ all n κ all.toList tm.cut H)
  (fun tm H => ob (ob (C.plans.get fn) fun t => t.get id) fun p => zah (ziq all p) (zbs C H all n tm.cut p.olds (fun tm' => zbu C φ all n tm.cut p.olds κ p.stages tm' H) p.first tm.cut)) draw
def zwh (tm : Tm) (live : List Nat) : Tr zab :=
 List.rec (motive := fun _ => Tr zab) .leaf (fun i _ t => match tm.get i with | some v => t.set i v | none => t) live
def keep (live : List Nat) (tm : Tm) : Tm := ⟨tm.k, zwh tm live, []⟩
def isDef0 : Option (List zod) -> Bool
 | some [] => true
 | _ => false
def zme (κ : Kt) (p : Option Code) (tm : Tm) (H : zaf) : zbg :=
 match p with
 | none => κ.norm tm H
 | some .ret => κ.ret tm H
 | _ => none
def endLoop (H : zaf) (l : Nat) (r : zk2) : zaf := setBlk H l (.loop ⟨.exhausted, r.pending, r.fn, r.n, r.tm, r.params, r.assign, r.body, r.defers⟩)
def zg5 (C : Ctx) (φ : Ora) (fn n : Nat) (κ : Kt) (f : Operand) (ps : List Nat) (a b : Code) (tm : Tm) (H : zaf) : zbg :=
 ob (ev f (.now tm)) fun v => ob v.asFunc fun q => match q.1 with
  | .yld _ => none
  | .func g => zah (zb2 (C.prims.get g)) (ob (φ (.func g) (zem q.2.1 (.func (.yld (H.next + 1)) [] [] :: q.2.2)) (newBlk (newBlk H (.deferred (some []))) (.loop ⟨.ready, none, fn, n, tm, ps, a, b, H.next⟩))) fun y =>
   ob (zdr y.2 (H.next + 1)) fun r => zah (!Nat.beq (LoopState.tag r.state) 1) (ob (zme κ r.pending tm (endLoop y.2 (H.next + 1) r)) fun z =>
    ob (zfk z.2 H.next) fun d => zah (isDef0 d) (some (z.1, setBlk z.2 H.next (.deferred none)))))
def den (C : Ctx) (φ : Ora) (fn n : Nat) (c : zbv) : Kt -> Tm -> zaf -> zbg :=
 zbv.rec (motive := fun _ => Kt -> Tm -> zaf -> zbg)
  (fun κ tm H => κ.norm tm H)
  (fun id all draw κ => zmo C φ fn n κ.norm id all draw)
  (fun _ _ ga gb κ => ga ⟨gb κ, κ.exit, κ.ret⟩)
  (fun c _ _ gx gy κ tm H => ob (ob (ev c (.now tm)) zab.asBool) fun b => Bool.rec (motive := fun _ => zbg) (gy κ tm H) (gx κ tm H) b)
  (fun id _ g κ => g ⟨κ.norm, fun i tm H => Bool.rec (motive := fun _ => zbg) (κ.exit i tm H) (κ.norm tm H) (Nat.beq id i), κ.ret⟩)
  (fun live _ g κ tm H => lim fun m => Nat.rec (motive := fun _ => Tm -> zaf -> zbg) (fun _ _ => none) (fun _ r tm H => g ⟨r, κ.exit, κ.ret⟩ (keep live.kept tm) H) m tm H)
  (fun id κ tm H => κ.exit id tm H)
  (fun κ tm H => κ.ret tm H)
  (fun live _ g κ tm H => g κ (keep live.kept tm) H)
  (fun _ _ f ps id ops c _ κ tm H => zg5 C φ fn n κ f ps.toList (.region id ops false) (zcw c) tm H) c
end Go.Am
namespace Go.Am
open Go Go.RowKit
def Le2 {α β γ : Type} (k k' : α -> β -> Option γ) : Prop := ∀ a b x, k a b = some x -> k' a b = some x
def OLe (φ φ' : Ora) : Prop := ∀ f a H x, φ f a H = some x -> φ' f a H = some x
structure KLe (κ κ' : Kt) : Prop where
 norm : Le2 κ.norm κ'.norm
 exit : ∀ i, Le2 (κ.exit i) (κ'.exit i)
 ret : Le2 κ.ret κ'.ret
section
variable {C : Ctx} {φ φ' : Ora} {all : Array Oper} {n : Nat} {x : zab × zaf}
theorem zvr (hφ : OLe φ φ') {r : zq3} {H : zaf} {k k' : zab -> zaf -> zbg} (hk : Le2 k k') (h : zio φ r H k = some x) : zio φ' r H k' = some x := by
 cases r <;> simp only [zio] at h ⊢ <;> try (cases h; done)
 case val v H' => exact hk _ _ _ h
 case enter f args =>
  rw [zac] at h ⊢
  obtain ⟨p, h1, h2⟩ := h
  exact ⟨p, hφ _ _ _ _ h1, hk _ _ _ h2⟩
 case round l args =>
  rw [zac] at h ⊢
  obtain ⟨p, h1, h2⟩ := h
  exact ⟨p, hφ _ _ _ _ h1, hk _ _ _ h2⟩
theorem zms {t : Nat} {k k' : zab -> zaf -> zbg} (hk : Le2 k k') : Le2 (fun v H => zhe C t v fun v => k v H) (fun v H => zhe C t v fun v => k' v H) := by
 intro v H x h; rw [zbz] at h ⊢
 exact ⟨h.1, hk _ _ _ h.2⟩
theorem zgj {κ : Tm -> zaf -> zbg} {o : Oper} {l : List Oper} {tm : Tm} {H : zaf} : zuu C φ all n κ (o :: l) tm H = ob (za1 o.guard all tm) fun w => if w = true then
   (zio φ ((aop o.op).f C (.now tm) H) H fun v H' => zhe C o.type v fun v => zuu C φ all n κ l (putA n tm o.dst v) H') else zuu C φ all n κ l (putA n tm o.dst zba) H := by
 show (ob (za1 o.guard all tm) fun w => Bool.rec (motive := fun _ => zbg) _ _ w) = _
 congr 1; funext w; rw [zmg]; rfl
theorem zpo (hφ : OLe φ φ') {κ κ' : Tm -> zaf -> zbg} (hκ : Le2 κ κ') : ∀ (l : List Oper), Le2 (zuu C φ all n κ l) (zuu C φ' all n κ' l) := by
 intro l; induction l with
 | nil => exact hκ
 | cons o l ih =>
  intro tm H x h; rw [zgj, zac] at h ⊢
  obtain ⟨w, h1, h2⟩ := h
  refine ⟨w, h1, ?_⟩
  split at h2
  ·rename_i e; rw [if_pos e]; exact zvr hφ (zms (k := fun v H' => zuu C φ all n κ l (putA n tm o.dst v) H') (k' := fun v H' => zuu C φ' all n κ' l (putA n tm o.dst v) H') fun v H' y hy => ih _ _ _ hy) h2
  ·rename_i e; rw [if_neg e]; exact ih _ _ _ h2
variable {H : zaf} {old : Tm} {olds : List (Nat × List Nat)}
theorem zg8 {k : Tm -> zbg} {i : Nat} {l : List Nat} {tm : Tm} : zbs C H all n old olds k (i :: l) tm = ob (zds all.toList i) fun o => ob (za1 o.guard all tm) fun w => if w = true then
   (ob ((zbj o.op).f C (.mixed tm old (zb5 i olds) (zbh o.op)) H) fun v => zhe C o.type v fun v => zbs C H all n old olds k l (putA n tm o.dst v)) else zbs C H all n old olds k l (putA n tm o.dst zba) := by
 show (ob (zds all.toList i) fun o => ob (za1 o.guard all tm) fun w => Bool.rec (motive := fun _ => zbg) _ _ w) = _
 congr 1; funext o; congr 1; funext w; rw [zmg]; rfl
theorem zg7 {k k' : Tm -> zbg} (hk : ∀ tm x, k tm = some x -> k' tm = some x) : ∀ (l : List Nat) tm x, zbs C H all n old olds k l tm = some x -> zbs C H all n old olds k' l tm = some x := by
 intro l; induction l with
 | nil => exact hk
 | cons i l ih =>
  intro tm x h; rw [zg8, zac] at h ⊢
  obtain ⟨o, h1, h2⟩ := h
  refine ⟨o, h1, ?_⟩
  rw [zac] at h2 ⊢
  obtain ⟨w, h3, h4⟩ := h2
  refine ⟨w, h3, ?_⟩
  split at h4
  ·rename_i e
   rw [if_pos e]; rw [zac] at h4 ⊢
   obtain ⟨v, h5, h6⟩ := h4
   rw [zbz] at h6; exact ⟨v, h5, by rw [zbz]; exact ⟨h6.1, ih _ _ h6.2⟩⟩
  ·rename_i e; rw [if_neg e]; exact ih _ _ h4
theorem zk0 {tm : Tm} {k : zbg} {i : Nat} {l : List Nat} : zek C H all old olds tm k (i :: l) = ob (zds all.toList i) fun o => ob o.dst fun d => ob (za1 o.guard all tm) fun w => if w = true then
   (ob ((zbj o.op).f C (.mixed tm old (zb5 i olds) (zbh o.op)) H) fun v => zhe C o.type v fun v => ob (tm.get d) fun u => zah (same 10 v u) (zek C H all old olds tm k l)) else zek C H all old olds tm k l := by
 show (ob (zds all.toList i) fun o => ob o.dst fun d => ob (za1 o.guard all tm) fun w => Bool.rec (motive := fun _ => zbg) _ _ w) = _
 congr 1; funext o; congr 1; funext d; congr 1; funext w; rw [zmg]; rfl
theorem zgt {tm : Tm} {k : zbg} : ∀ (l : List Nat), zek C H all old olds tm k l = some x -> zn5 C H all old olds tm l = true /\ k = some x := by
 intro l; induction l with
 | nil => intro h; exact ⟨rfl, h⟩
 | cons i l ih =>
  intro h; rw [zk0, zac] at h; obtain ⟨o, h1, h⟩ := h
  rw [zac] at h; obtain ⟨d, h2, h⟩ := h
  rw [zac] at h; obtain ⟨w, h3, h⟩ := h
  unfold zn5; simp only [h1, zad, h2, h3]
  cases w with
  | false => exact ih h
  | true =>
   rw [if_pos rfl, zac] at h; obtain ⟨v, h4, h⟩ := h
   rw [zbz] at h; obtain ⟨h5, h⟩ := h
   rw [zac] at h; obtain ⟨y, h6, h⟩ := h
   rw [zae] at h; simp only [cond_true, h4, zad, h6, h.1]; exact ih h.2
theorem zqt {tm : Tm} {k k' : zbg} (hk : k' = some x) : ∀ (l : List Nat), zek C H all old olds tm k l = some x -> zek C H all old olds tm k' l = some x := by
 intro l; induction l with
 | nil => intro _; exact hk
 | cons i l ih =>
  intro h; rw [zk0, zac] at h ⊢
  obtain ⟨o, h1, h⟩ := h
  refine ⟨o, h1, ?_⟩
  rw [zac] at h ⊢
  obtain ⟨d, h2, h⟩ := h
  refine ⟨d, h2, ?_⟩
  rw [zac] at h ⊢
  obtain ⟨w, h3, h⟩ := h
  refine ⟨w, h3, ?_⟩
  split at h
  ·rename_i e
   rw [if_pos e]; rw [zac] at h ⊢
   obtain ⟨v, h4, h⟩ := h
   refine ⟨v, h4, ?_⟩
   rw [zbz] at h ⊢
   obtain ⟨h5, h⟩ := h
   refine ⟨h5, ?_⟩
   rw [zac] at h ⊢
   obtain ⟨y, h6, h⟩ := h
   refine ⟨y, h6, ?_⟩
   rw [zae] at h ⊢
   exact ⟨h.1, ih h.2⟩
  ·rename_i e; rw [if_neg e]; exact ih h
theorem zei {κ : Tm -> zaf -> zbg} {st : zch} {l : List zch} {tm : Tm} (hg : zfu all st = false) : zbu C φ all n old olds κ (st :: l) tm H = ob (zds all.toList (hvI all st.heavy)) fun o => ob (zgd C all st.heavy o tm) fun w =>
   (fun cont : zab -> zaf -> zbg => if w = true then (zio φ ((aop o.op).f C (.mixed tm old (zb5 (hvI all st.heavy) olds) (zbh o.op)) H) H fun v H' => zhe C o.type v fun v => cont v H') else cont zba H)
   (fun v H' => zek C H' all old olds (putA n tm o.dst v) (zbs C H' all n old olds (fun tm => zbu C φ all n old olds κ l tm H') st.lights (putA n tm o.dst v)) st.again) := by
 show Bool.rec (motive := fun _ => zbg) _ _ (zfu all st) = _
 rw [hg]; show (ob (zds all.toList (hvI all st.heavy)) fun o => ob (zgd C all st.heavy o tm) fun w => (fun cont : zab -> zaf -> zbg => Bool.rec (motive := fun _ => zbg) _ _ w) _) = _
 congr 1; funext o; congr 1; funext w; cases w <;> rfl
theorem zeo {κ : Tm -> zaf -> zbg} {st : zch} {l : List zch} {tm : Tm} (hg : zfu all st = true) : zbu C φ all n old olds κ (st :: l) tm H = zwn C all n old olds st (zbu C φ all n old olds κ l) tm H := by
 show Bool.rec (motive := fun _ => zbg) _ _ (zfu all st) = _
 rw [hg]; rfl
theorem zh8 {st : zch} {g : Tm -> zaf -> zbg} {tm : Tm} {x : zab × zaf} : zwn C all n old olds st g tm H = some x ↔ zka C all = true /\ ∃ es H', z3u all old olds tm st.again = some es /\ zlv C es H = some H' /\ zbs C H' all n old olds (fun tm => g tm H') st.lights tm = some x := by
 unfold zwn; simp only [zac, zae]; constructor
 ·rintro ⟨h0, es, h1, H', h2, h3⟩; exact ⟨h0, es, H', h1, h2, h3⟩
 ·rintro ⟨h0, es, H', h1, h2, h3⟩; exact ⟨h0, es, h1, H', h2, h3⟩
theorem ziz (hφ : OLe φ φ') {κ κ' : Tm -> zaf -> zbg} (hκ : Le2 κ κ') : ∀ (l : List zch), Le2 (zbu C φ all n old olds κ l) (zbu C φ' all n old olds κ' l) := by
 intro l; induction l with
 | nil => exact hκ
 | cons st l ih =>
  intro tm H x h
  cases hg : zfu all st with
  | true =>
   rw [zeo hg, zh8] at h ⊢
   obtain ⟨h0, es, H', h1, h2, h3⟩ := h
   exact ⟨h0, es, H', h1, h2, zg7 (fun tm x hx => ih _ _ _ hx) _ _ _ h3⟩
  | false =>
  rw [zei hg, zac] at h ⊢
  obtain ⟨o, h1, h⟩ := h
  refine ⟨o, h1, ?_⟩
  rw [zac] at h ⊢
  obtain ⟨w, h2, h⟩ := h
  refine ⟨w, h2, ?_⟩
  have cont : ∀ v H' y, zek C H' all old olds (putA n tm o.dst v) (zbs C H' all n old olds (fun tm => zbu C φ all n old olds κ l tm H') st.lights (putA n tm o.dst v)) st.again = some y →
    zek C H' all old olds (putA n tm o.dst v) (zbs C H' all n old olds (fun tm => zbu C φ' all n old olds κ' l tm H') st.lights (putA n tm o.dst v)) st.again = some y := by
   intro v H' y hy; exact zqt (zg7 (fun tm x hx => ih _ _ _ hx) _ _ _ (zgt _ hy).2) _ hy
  simp only [] at h ⊢
  split at h
  ·rename_i e; rw [if_pos e]; exact zvr hφ (zms cont) h
  ·rename_i e; rw [if_neg e]; exact cont _ _ _ h
theorem zno (hφ : OLe φ φ') {κ κ' : Tm -> zaf -> zbg} (hκ : Le2 κ κ') {fn id : Nat} {draw : Bool} : Le2 (zmo C φ fn n κ id all draw) (zmo C φ' fn n κ' id all draw) := by
 intro tm H x h
 cases draw with
 | false => exact zpo hφ hκ _ _ _ _ h
 | true =>
  have h : (ob (ob (C.plans.get fn) fun t => t.get id) fun p => zah (ziq all p) (zbs C H all n tm.cut p.olds (fun tm' => zbu C φ all n tm.cut p.olds κ p.stages tm' H) p.first tm.cut)) = some x := h
  show (ob (ob (C.plans.get fn) fun t => t.get id) fun p => zah (ziq all p) (zbs C H all n tm.cut p.olds (fun tm' => zbu C φ' all n tm.cut p.olds κ' p.stages tm' H) p.first tm.cut)) = some x
  rw [zac] at h ⊢
  obtain ⟨p, h1, h⟩ := h
  refine ⟨p, h1, ?_⟩
  rw [zae] at h ⊢
  exact ⟨h.1, zg7 (fun tm x hx => ziz hφ hκ _ _ _ _ hx) _ _ _ h.2⟩
theorem zqu {κ κ' : Kt} (hκ : KLe κ κ') {p : Option Code} : Le2 (zme κ p) (zme κ' p) := by
 intro tm H x h; unfold zme at h ⊢
 split at h
 ·exact hκ.norm _ _ _ h
 ·exact hκ.ret _ _ _ h
 ·cases h
theorem zpk (hφ : OLe φ φ') {κ κ' : Kt} (hκ : KLe κ κ') {fn : Nat} {f : Operand} {ps : List Nat} {a b : Code} : Le2 (zg5 C φ fn n κ f ps a b) (zg5 C φ' fn n κ' f ps a b) := by
 intro tm H x h; unfold zg5 at h ⊢
 rw [zac] at h ⊢
 obtain ⟨v, h1, h⟩ := h
 refine ⟨v, h1, ?_⟩
 rw [zac] at h ⊢
 obtain ⟨q, h2, h⟩ := h
 refine ⟨q, h2, ?_⟩
 split at h
 ·cases h
 ·rw [zae, zac] at h ⊢
  obtain ⟨h3, y, h4, h⟩ := h
  refine ⟨h3, y, hφ _ _ _ _ h4, ?_⟩
  rw [zac] at h ⊢
  obtain ⟨r, h5, h⟩ := h
  refine ⟨r, h5, ?_⟩
  rw [zae, zac] at h ⊢
  obtain ⟨h6, z, h7, h⟩ := h
  exact ⟨h6, z, zqu hκ _ _ _ h7, h⟩
end
end Go.Am
namespace Go.Am
open Go Go.RowKit
theorem z7a {α : Type} {f : Nat -> Option α} {r : α} (h : lim f = some r) : ∃ n, f n = some r := by
 unfold lim at h; by_cases hx : ∃ n r, f n = some r
 ·rw [dif_pos hx] at h; exact ⟨_, h⟩
 ·rw [dif_neg hx] at h; cases h
structure zxk {α β γ : Type} (ks : Nat -> α -> β -> Option γ) (k : α -> β -> Option γ) : Prop where
 up : ∀ n, Le2 (ks n) (ks (n + 1))
 ex : ∀ a b x, k a b = some x -> ∃ n, ks n a b = some x
theorem z4v {α β γ : Type} {ks : Nat -> α -> β -> Option γ} (h : ∀ n, Le2 (ks n) (ks (n + 1))) {n m : Nat} (hnm : n <= m) : Le2 (ks n) (ks m) := by
 induction hnm with
 | refl => exact fun _ _ _ h => h
 | step _ ih => exact fun a b x hx => h _ _ _ _ (ih a b x hx)
structure zzc4 (φs : Nat -> Ora) (φ : Ora) : Prop where
 up : ∀ n, OLe (φs n) (φs (n + 1))
 ex : ∀ f a H x, φ f a H = some x -> ∃ n, φs n f a H = some x
theorem zzc4.le {φs : Nat -> Ora} {φ : Ora} (h : zzc4 φs φ) {n m : Nat} (hnm : n <= m) : OLe (φs n) (φs m) := by
 induction hnm with
 | refl => exact fun _ _ _ _ h => h
 | step _ ih => exact fun f a H x hx => h.up _ _ _ _ _ (ih f a H x hx)
structure zzgt (κs : Nat -> Kt) (κ : Kt) : Prop where
 norm : zxk (fun n => (κs n).norm) κ.norm
 exit : ∀ i, zxk (fun n => (κs n).exit i) (κ.exit i)
 ret : zxk (fun n => (κs n).ret) κ.ret
section
variable {C : Ctx} {φ φ' : Ora} {φs : Nat -> Ora} {all : Array Oper} {N fn : Nat}
theorem z71 {g g' : Kt -> Tm -> zaf -> zbg} {κ κ' : Kt} (hκ : KLe κ κ') (hg : ∀ κ κ', KLe κ κ' -> Le2 (g κ) (g' κ')) (live : List Nat) : ∀ m, Le2 (Nat.rec (motive := fun _ => Tm -> zaf -> zbg) (fun _ _ => none) (fun _ r tm H => g ⟨r, κ.exit, κ.ret⟩ (keep live tm) H) m)
  (Nat.rec (motive := fun _ => Tm -> zaf -> zbg) (fun _ _ => none) (fun _ r tm H => g' ⟨r, κ'.exit, κ'.ret⟩ (keep live tm) H) m) := by
 intro m; induction m with
 | zero => intro a b x h; cases h
 | succ m ih => exact fun a b x h => hg ⟨_, _, _⟩ ⟨_, _, _⟩ ⟨ih, hκ.exit, hκ.ret⟩ _ _ _ h
theorem KLe.refl (κ : Kt) : KLe κ κ := ⟨fun _ _ _ h => h, fun _ _ _ _ h => h, fun _ _ _ h => h⟩
theorem zy3 {g : Kt -> Tm -> zaf -> zbg} {κ : Kt} (hg : ∀ κ κ', KLe κ κ' -> Le2 (g κ) (g κ')) (live : List Nat) : ∀ m, Le2 (Nat.rec (motive := fun _ => Tm -> zaf -> zbg) (fun _ _ => none) (fun _ r tm H => g ⟨r, κ.exit, κ.ret⟩ (keep live tm) H) m)
  (Nat.rec (motive := fun _ => Tm -> zaf -> zbg) (fun _ _ => none) (fun _ r tm H => g ⟨r, κ.exit, κ.ret⟩ (keep live tm) H) (m + 1)) := by
 intro m; induction m with
 | zero => intro a b x h; cases h
 | succ m ih => exact fun a b x h => hg ⟨_, _, _⟩ ⟨_, _, _⟩ ⟨ih, (KLe.refl κ).exit, (KLe.refl κ).ret⟩ _ _ _ h
theorem zic (hφ : OLe φ φ') : ∀ (c : zbv) (κ κ' : Kt), KLe κ κ' -> Le2 (den C φ fn N c κ) (den C φ' fn N c κ') := by
 have self : ∀ (ψ : Ora), OLe ψ ψ := fun _ _ _ _ _ h => h
 intro c; suffices h : ∀ φ φ', OLe φ φ' -> ∀ (κ κ' : Kt), KLe κ κ' -> Le2 (den C φ fn N c κ) (den C φ' fn N c κ') from h φ φ' hφ
 induction c with
 | skip => exact fun _ _ _ κ κ' hκ => hκ.norm
 | region id ops d => exact fun _ _ hφ κ κ' hκ => zno hφ hκ.norm
 | seq a b iha ihb => exact fun _ _ hφ κ κ' hκ => iha _ _ hφ _ _ ⟨ihb _ _ hφ _ _ hκ, hκ.exit, hκ.ret⟩
 | cond c a b iha ihb =>
  intro φ φ' hφ κ κ' hκ tm H x h; have h : (ob (ob (ev c (.now tm)) zab.asBool) fun t => Bool.rec (motive := fun _ => zbg) (den C φ fn N b κ tm H) (den C φ fn N a κ tm H) t) = some x := h
  show (ob (ob (ev c (.now tm)) zab.asBool) fun t => Bool.rec (motive := fun _ => zbg) (den C φ' fn N b κ' tm H) (den C φ' fn N a κ' tm H) t) = some x
  rw [zac] at h ⊢
  obtain ⟨t, h1, h2⟩ := h
  refine ⟨t, h1, ?_⟩
  cases t with
  | true => exact iha _ _ hφ _ _ hκ _ _ _ h2
  | false => exact ihb _ _ hφ _ _ hκ _ _ _ h2
 | block id c ih =>
  intro φ φ' hφ κ κ' hκ; refine ih _ _ hφ _ _ ⟨hκ.norm, fun i tm H x h => ?_, hκ.ret⟩
  simp only [zmg] at h ⊢
  split at h
  ·rename_i e; rw [if_pos e]; exact hκ.norm _ _ _ h
  ·rename_i e; rw [if_neg e]; exact hκ.exit _ _ _ _ h
 | loop live c ih =>
  intro φ φ' hφ κ κ' hκ tm H x h; obtain ⟨m, hm⟩ := z7a h
  refine (zom fun m y hy => zy3 (ih _ _ (self φ')) live.kept m _ _ _ hy).2 ⟨m, ?_⟩
  exact z71 hκ (ih _ _ hφ) live.kept m _ _ _ hm
 | exit id => exact fun _ _ _ κ κ' hκ => hκ.exit id
 | ret => exact fun _ _ _ κ κ' hκ => hκ.ret
 | cut live c ih => exact fun _ _ hφ κ κ' hκ tm H x h => ih _ _ hφ _ _ hκ _ _ _ h
 | range i pl f ps id ops c ih => exact fun _ _ hφ κ κ' hκ tm H x h => zpk hφ hκ _ _ _ h
theorem z0q (hφ : zzc4 φs φ) {r : zq3} {H : zaf} {ks : Nat -> zab -> zaf -> zbg} {k : zab -> zaf -> zbg} (hk : zxk ks k) {x : zab × zaf} (h : zio φ r H k = some x) : ∃ n, zio (φs n) r H (ks n) = some x := by
 cases r <;> simp only [zio] at h ⊢ <;> try (cases h; done)
 case val v H' => exact hk.ex _ _ _ h
 case enter f args =>
  rw [zac] at h; obtain ⟨p, h1, h2⟩ := h
  obtain ⟨n, hn⟩ := hφ.ex _ _ _ _ h1
  obtain ⟨m, hm⟩ := hk.ex _ _ _ h2
  exact ⟨max n m, by rw [zac]; exact ⟨p, hφ.le (Nat.le_max_left n m) _ _ _ _ hn, z4v hk.up (Nat.le_max_right n m) _ _ _ hm⟩⟩
 case round l args =>
  rw [zac] at h; obtain ⟨p, h1, h2⟩ := h
  obtain ⟨n, hn⟩ := hφ.ex _ _ _ _ h1
  obtain ⟨m, hm⟩ := hk.ex _ _ _ h2
  exact ⟨max n m, by rw [zac]; exact ⟨p, hφ.le (Nat.le_max_left n m) _ _ _ _ hn, z4v hk.up (Nat.le_max_right n m) _ _ _ hm⟩⟩
theorem zv4 {t : Nat} {ks : Nat -> zab -> zaf -> zbg} {k : zab -> zaf -> zbg} (hk : zxk ks k) : zxk (fun n v H => zhe C t v fun v => ks n v H) (fun v H => zhe C t v fun v => k v H) := by
 refine ⟨fun n => zms (hk.up n), fun v H x h => ?_⟩
 rw [zbz] at h; obtain ⟨n, hn⟩ := hk.ex _ _ _ h.2
 exact ⟨n, by rw [zbz]; exact ⟨h.1, hn⟩⟩
theorem zzbc (hφ : zzc4 φs φ) {κs : Nat -> Tm -> zaf -> zbg} {κ : Tm -> zaf -> zbg} (hκ : zxk κs κ) : ∀ (l : List Oper), zxk (fun n => zuu C (φs n) all N (κs n) l) (zuu C φ all N κ l) := by
 intro l; refine ⟨fun n => zpo (hφ.up n) (hκ.up n) l, ?_⟩
 induction l with
 | nil => exact hκ.ex
 | cons o l ih =>
  intro tm H x h; rw [zgj, zac] at h; obtain ⟨w, h1, h2⟩ := h
  split at h2
  ·rename_i e
   obtain ⟨n, hn⟩ := z0q hφ (zv4 (ks := fun n v H' => zuu C (φs n) all N (κs n) l (putA N tm o.dst v) H') (k := fun v H' => zuu C φ all N κ l (putA N tm o.dst v) H') ⟨fun n v H' y hy => zpo (hφ.up n) (hκ.up n) l _ _ _ hy, fun v H' y hy => ih _ _ _ hy⟩) h2
   exact ⟨n, by show zuu C (φs n) all N (κs n) (o :: l) tm H = some x; rw [zgj, zac]; exact ⟨w, h1, by rw [if_pos e]; exact hn⟩⟩
  ·rename_i e
   obtain ⟨n, hn⟩ := ih _ _ _ h2
   exact ⟨n, by show zuu C (φs n) all N (κs n) (o :: l) tm H = some x; rw [zgj, zac]; exact ⟨w, h1, by rw [if_neg e]; exact hn⟩⟩
variable {old : Tm} {olds : List (Nat × List Nat)}
theorem zkv {H : zaf} {ks : Nat -> Tm -> zbg} {k : Tm -> zbg} (hk : ∀ tm x, k tm = some x -> ∃ n, ks n tm = some x) : ∀ (l : List Nat) tm x, zbs C H all N old olds k l tm = some x -> ∃ n, zbs C H all N old olds (ks n) l tm = some x := by
 intro l; induction l with
 | nil => exact hk
 | cons i l ih =>
  intro tm x h; simp only [zg8] at h ⊢
  rw [zac] at h; obtain ⟨o, h1, h⟩ := h
  rw [zac] at h; obtain ⟨w, h3, h4⟩ := h
  split at h4
  ·rename_i e
   rw [zac] at h4; obtain ⟨v, h5, h6⟩ := h4
   rw [zbz] at h6; obtain ⟨n, hn⟩ := ih _ _ h6.2
   exact ⟨n, by rw [h1, zad, h3, zad, if_pos e, h5, zad, zbz]; exact ⟨h6.1, hn⟩⟩
  ·rename_i e
   obtain ⟨n, hn⟩ := ih _ _ h4
   exact ⟨n, by rw [h1, zad, h3, zad, if_neg e]; exact hn⟩
theorem zyb (hφ : zzc4 φs φ) {κs : Nat -> Tm -> zaf -> zbg} {κ : Tm -> zaf -> zbg} (hκ : zxk κs κ) : ∀ (l : List zch), zxk (fun n => zbu C (φs n) all N old olds (κs n) l) (zbu C φ all N old olds κ l) := by
 intro l; refine ⟨fun n => ziz (hφ.up n) (hκ.up n) l, ?_⟩
 induction l with
 | nil => exact hκ.ex
 | cons st l ih =>
  intro tm H x h
  cases hg : zfu all st with
  | true =>
   rw [zeo hg, zh8] at h; obtain ⟨h0, es, H', h1, h2, h3⟩ := h
   obtain ⟨n, hn⟩ := zkv (fun tm x hx => ih tm H' x hx) _ _ _ h3
   exact ⟨n, by show zbu C (φs n) all N old olds (κs n) (st :: l) tm H = some x; rw [zeo hg, zh8]; exact ⟨h0, es, H', h1, h2, hn⟩⟩
  | false =>
  rw [zei hg, zac] at h; obtain ⟨o, h1, h⟩ := h
  rw [zac] at h; obtain ⟨w, h2, h⟩ := h
  have cont : zxk (fun n v H' => zek C H' all old olds (putA N tm o.dst v) (zbs C H' all N old olds (fun tm => zbu C (φs n) all N old olds (κs n) l tm H') st.lights (putA N tm o.dst v)) st.again)
    (fun v H' => zek C H' all old olds (putA N tm o.dst v) (zbs C H' all N old olds (fun tm => zbu C φ all N old olds κ l tm H') st.lights (putA N tm o.dst v)) st.again) := by
   refine ⟨fun n v H' y hy => zqt (zg7 (fun tm x hx => ziz (hφ.up n) (hκ.up n) l _ _ _ hx) _ _ _ (zgt _ hy).2) _ hy, fun v H' y hy => ?_⟩
   obtain ⟨n, hn⟩ := zkv (fun tm x hx => ih tm H' x hx) _ _ _ (zgt _ hy).2
   exact ⟨n, zqt hn _ hy⟩
  simp only [] at h; split at h
  ·rename_i e
   obtain ⟨n, hn⟩ := z0q hφ (zv4 cont) h
   exact ⟨n, by show zbu C (φs n) all N old olds (κs n) (st :: l) tm H = some x; rw [zei hg, h1, zad, h2, zad]; simp only []; rw [if_pos e]; exact hn⟩
  ·rename_i e
   obtain ⟨n, hn⟩ := cont.ex _ _ _ h
   exact ⟨n, by show zbu C (φs n) all N old olds (κs n) (st :: l) tm H = some x; rw [zei hg, h1, zad, h2, zad]; simp only []; rw [if_neg e]; exact hn⟩
theorem zyh (hφ : zzc4 φs φ) {κs : Nat -> Tm -> zaf -> zbg} {κ : Tm -> zaf -> zbg} (hκ : zxk κs κ) {id : Nat} {draw : Bool} : zxk (fun n => zmo C (φs n) fn N (κs n) id all draw) (zmo C φ fn N κ id all draw) := by
 refine ⟨fun n => zno (hφ.up n) (hκ.up n), fun tm H x h => ?_⟩
 cases draw with
 | false => exact (zzbc hφ hκ _).ex _ _ _ h
 | true =>
  have h : (ob (ob (C.plans.get fn) fun t => t.get id) fun p => zah (ziq all p) (zbs C H all N tm.cut p.olds (fun tm' => zbu C φ all N tm.cut p.olds κ p.stages tm' H) p.first tm.cut)) = some x := h
  rw [zac] at h; obtain ⟨p, h1, h⟩ := h
  rw [zae] at h; obtain ⟨n, hn⟩ := zkv (fun tm' x hx => (zyb hφ hκ p.stages).ex tm' H x hx) _ _ _ h.2
  refine ⟨n, ?_⟩
  show (ob (ob (C.plans.get fn) fun t => t.get id) fun p => zah (ziq all p) (zbs C H all N tm.cut p.olds (fun tm' => zbu C (φs n) all N tm.cut p.olds (κs n) p.stages tm' H) p.first tm.cut)) = some x
  rw [h1, zad, zae]; exact ⟨h.1, hn⟩
theorem zr8 (hφ : zzc4 φs φ) {κs : Nat -> Kt} {κ : Kt} (hκ : zzgt κs κ) {f : Operand} {ps : List Nat} {a b : Code} : zxk (fun n => zg5 C (φs n) fn N (κs n) f ps a b) (zg5 C φ fn N κ f ps a b) := by
 have kle : ∀ n, KLe (κs n) (κs (n + 1)) := fun n => ⟨hκ.norm.up n, fun i => (hκ.exit i).up n, hκ.ret.up n⟩
 have klm : ∀ n m, n <= m -> KLe (κs n) (κs m) := fun n m h => ⟨z4v hκ.norm.up h, fun i => z4v (hκ.exit i).up h, z4v hκ.ret.up h⟩
 refine ⟨fun n => zpk (hφ.up n) (kle n), fun tm H x h => ?_⟩
 unfold zg5 at h; rw [zac] at h; obtain ⟨v, h1, h⟩ := h
 rw [zac] at h; obtain ⟨q, h2, h⟩ := h
 split at h
 ·cases h
 ·rename_i g hg
  rw [zae, zac] at h; obtain ⟨h3, y, h4, h⟩ := h
  rw [zac] at h; obtain ⟨r, h5, h⟩ := h
  rw [zae, zac] at h; obtain ⟨h6, z, h7, h⟩ := h
  obtain ⟨n, hn⟩ := hφ.ex _ _ _ _ h4
  have : ∃ m, zme (κs m) r.pending (tm) (endLoop y.2 (H.next + 1) r) = some z := by
   unfold zme at h7 ⊢
   split at h7
   ·exact hκ.norm.ex _ _ _ h7
   ·exact hκ.ret.ex _ _ _ h7
   ·cases h7
  obtain ⟨m, hm⟩ := this
  refine ⟨max n m, ?_⟩
  show zg5 C (φs (max n m)) fn N (κs (max n m)) f ps a b tm H = some x
  unfold zg5; rw [h1, zad, h2, zad, hg]; simp only []; rw [zae, zac]; refine ⟨h3, y, hφ.le (Nat.le_max_left n m) _ _ _ _ hn, ?_⟩
  rw [h5, zad, zae, zac]; exact ⟨h6, z, zqu (klm _ _ (Nat.le_max_right n m)) _ _ _ hm, h⟩
theorem zzl (hφ : zzc4 φs φ) : ∀ (c : zbv) (κs : Nat -> Kt) (κ : Kt), zzgt κs κ -> zxk (fun n => den C (φs n) fn N c (κs n)) (den C φ fn N c κ) := by
 have kle : ∀ {κs : Nat -> Kt} {κ : Kt}, zzgt κs κ -> ∀ n, KLe (κs n) (κs (n + 1)) := fun h n => ⟨h.norm.up n, fun i => (h.exit i).up n, h.ret.up n⟩
 intro c; induction c with
 | skip => exact fun κs κ hκ => hκ.norm
 | region id ops d => exact fun κs κ hκ => zyh hφ hκ.norm
 | seq a b iha ihb => exact fun κs κ hκ => iha (fun n => ⟨den C (φs n) fn N b (κs n), (κs n).exit, (κs n).ret⟩) _ ⟨ihb _ _ hκ, hκ.exit, hκ.ret⟩
 | cond c a b iha ihb =>
  intro κs κ hκ; refine ⟨fun n => zic (hφ.up n) (.cond c a b) _ _ (kle hκ n), fun tm H x h => ?_⟩
  have h : (ob (ob (ev c (.now tm)) zab.asBool) fun t => Bool.rec (motive := fun _ => zbg) (den C φ fn N b κ tm H) (den C φ fn N a κ tm H) t) = some x := h
  rw [zac] at h; obtain ⟨t, h1, h2⟩ := h
  have key : ∀ n, (Bool.rec (motive := fun _ => zbg) (den C (φs n) fn N b (κs n) tm H) (den C (φs n) fn N a (κs n) tm H) t : zbg) = some x -> den C (φs n) fn N (.cond c a b) (κs n) tm H = some x := by
   intro n hn; show (ob (ob (ev c (.now tm)) zab.asBool) fun t => Bool.rec (motive := fun _ => zbg) (den C (φs n) fn N b (κs n) tm H) (den C (φs n) fn N a (κs n) tm H) t) = some x
   rw [h1, zad]; exact hn
  cases t with
  | true => obtain ⟨n, hn⟩ := (iha _ _ hκ).ex _ _ _ h2; exact ⟨n, key n hn⟩
  | false => obtain ⟨n, hn⟩ := (ihb _ _ hκ).ex _ _ _ h2; exact ⟨n, key n hn⟩
 | block id c ih =>
  intro κs κ hκ; refine ih (fun n => ⟨(κs n).norm, fun i tm H => Bool.rec (motive := fun _ => zbg) ((κs n).exit i tm H) ((κs n).norm tm H) (Nat.beq id i), (κs n).ret⟩) _ ⟨hκ.norm, fun i => ⟨fun n tm H x h => ?_, fun tm H x h => ?_⟩, hκ.ret⟩
  ·simp only [zmg] at h ⊢
   split at h
   ·rename_i e; rw [if_pos e]; exact hκ.norm.up n _ _ _ h
   ·rename_i e; rw [if_neg e]; exact (hκ.exit i).up n _ _ _ h
  ·simp only [zmg] at h ⊢
   split at h
   ·rename_i e; obtain ⟨n, hn⟩ := hκ.norm.ex _ _ _ h; exact ⟨n, by rw [if_pos e]; exact hn⟩
   ·rename_i e; obtain ⟨n, hn⟩ := (hκ.exit i).ex _ _ _ h; exact ⟨n, by rw [if_neg e]; exact hn⟩
 | loop live c ih =>
  intro κs κ hκ; refine ⟨fun n => zic (hφ.up n) (.loop live c) _ _ (kle hκ n), fun tm H x h => ?_⟩
  obtain ⟨m, hm⟩ := z7a h
  have it : ∀ m, zxk (fun n => (Nat.rec (motive := fun _ => Tm -> zaf -> zbg) (fun _ _ => none) (fun _ r tm H => den C (φs n) fn N c ⟨r, (κs n).exit, (κs n).ret⟩ (keep live.kept tm) H) m : Tm -> zaf -> zbg))
    (Nat.rec (motive := fun _ => Tm -> zaf -> zbg) (fun _ _ => none) (fun _ r tm H => den C φ fn N c ⟨r, κ.exit, κ.ret⟩ (keep live.kept tm) H) m) := by
   intro m; induction m with
   | zero => exact ⟨fun _ _ _ _ h => h, fun _ _ _ h => by cases h⟩
   | succ m ihm =>
    have := ih _ _ (⟨ihm, hκ.exit, hκ.ret⟩ : zzgt (fun n => ⟨(Nat.rec (motive := fun _ => Tm -> zaf -> zbg) (fun _ _ => none) (fun _ r tm H => den C (φs n) fn N c ⟨r, (κs n).exit, (κs n).ret⟩ (keep live.kept tm) H) m : Tm -> zaf -> zbg), (κs n).exit, (κs n).ret⟩) ⟨(Nat.rec (motive := fun _ => Tm -> zaf -> zbg) (fun _ _ => none) (fun _ r tm H => den C φ fn N c ⟨r, κ.exit, κ.ret⟩ (keep live.kept tm) H) m : Tm -> zaf -> zbg), κ.exit, κ.ret⟩)
    exact ⟨fun n tm H x h => this.up n _ _ _ h, fun tm H x h => this.ex _ _ _ h⟩
  obtain ⟨n, hn⟩ := (it m).ex _ _ _ hm
  exact ⟨n, (zom fun m y hy => zy3 (fun κ κ' h => zic (fun _ _ _ _ h => h) c κ κ' h) live.kept m _ _ _ hy).2 ⟨m, hn⟩⟩
 | exit id => exact fun κs κ hκ => hκ.exit id
 | ret => exact fun κs κ hκ => hκ.ret
 | cut live c ih => exact fun κs κ hκ => ⟨fun n tm H x h => (ih _ _ hκ).up n _ _ _ h, fun tm H x h => (ih _ _ hκ).ex _ _ _ h⟩
 | range i pl f ps id ops c ih => exact fun κs κ hκ => ⟨fun n tm H x h => (zr8 hφ hκ).up n _ _ _ h, fun tm H x h => (zr8 hφ hκ).ex _ _ _ h⟩
theorem zzco {live : PI} {c : zbv} {κ : Kt} {tm : Tm} {H : zaf} : den C φ fn N (.loop live c) κ tm H = den C φ fn N c ⟨den C φ fn N (.loop live c) κ, κ.exit, κ.ret⟩ (keep live.kept tm) H := by
 have self : OLe φ φ := fun _ _ _ _ h => h
 have up : ∀ m, Le2 (Nat.rec (motive := fun _ => Tm -> zaf -> zbg) (fun _ _ => none) (fun _ r tm H => den C φ fn N c ⟨r, κ.exit, κ.ret⟩ (keep live.kept tm) H) m)
   (Nat.rec (motive := fun _ => Tm -> zaf -> zbg) (fun _ _ => none) (fun _ r tm H => den C φ fn N c ⟨r, κ.exit, κ.ret⟩ (keep live.kept tm) H) (m + 1)) := zy3 (zic self c) live.kept
 have some_iff : ∀ tm H x, den C φ fn N (.loop live c) κ tm H = some x ↔ ∃ m, (Nat.rec (motive := fun _ => Tm -> zaf -> zbg) (fun _ _ => none) (fun _ r tm H => den C φ fn N c ⟨r, κ.exit, κ.ret⟩ (keep live.kept tm) H) m : Tm -> zaf -> zbg) tm H = some x :=
  fun tm H x => zom fun m y hy => up m _ _ _ hy
 have sup : zzgt (fun m => ⟨(Nat.rec (motive := fun _ => Tm -> zaf -> zbg) (fun _ _ => none) (fun _ r tm H => den C φ fn N c ⟨r, κ.exit, κ.ret⟩ (keep live.kept tm) H) m : Tm -> zaf -> zbg), κ.exit, κ.ret⟩) ⟨den C φ fn N (.loop live c) κ, κ.exit, κ.ret⟩ :=
  ⟨⟨up, fun tm H x h => (some_iff tm H x).1 h⟩, fun i => ⟨fun _ _ _ _ h => h, fun _ _ _ h => ⟨0, h⟩⟩, ⟨fun _ _ _ _ h => h, fun _ _ _ h => ⟨0, h⟩⟩⟩
 have key : ∀ x, den C φ fn N (.loop live c) κ tm H = some x ↔ den C φ fn N c ⟨den C φ fn N (.loop live c) κ, κ.exit, κ.ret⟩ (keep live.kept tm) H = some x := by
  intro x; rw [some_iff]; constructor
  ·rintro ⟨m, hm⟩
   cases m with
   | zero => cases hm
   | succ m => exact zic self c ⟨(Nat.rec (motive := fun _ => Tm -> zaf -> zbg) (fun _ _ => none) (fun _ r tm H => den C φ fn N c ⟨r, κ.exit, κ.ret⟩ (keep live.kept tm) H) m : Tm -> zaf -> zbg), κ.exit, κ.ret⟩ ⟨den C φ fn N (.loop live c) κ, κ.exit, κ.ret⟩ ⟨fun tm H y hy => (some_iff tm H y).2 ⟨m, hy⟩, fun _ _ _ _ h => h, fun _ _ _ h => h⟩ _ _ _ hm
  ·intro h
   obtain ⟨m, hm⟩ := (zzl (φs := fun _ => φ) ⟨fun _ => self, fun _ _ _ _ h => ⟨0, h⟩⟩ c _ _ sup).ex _ _ _ h
   exact ⟨m + 1, hm⟩
 cases h : den C φ fn N (.loop live c) κ tm H with
 | some x => exact ((key x).1 h).symm
 | none =>
  cases h2 : den C φ fn N c ⟨den C φ fn N (.loop live c) κ, κ.exit, κ.ret⟩ (keep live.kept tm) H with
  | none => rfl
  | some x => rw [(key x).2 h2] at h; cases h
end
end Go.Am
namespace Go.Am
open Go Go.RowKit
def zzbx : List zb0 -> Bool
 | .reg .. :: _ => true
 | _ => false
section
variable {P : Program} {C : Ctx} {B N : Nat} {I : World -> Prop} {μ : Mu} {w : World} {base : List Frame} {m : Machine}
theorem zzap (hF : zxh P C) {f : Nat} {args : List zab} {args' : Array Value} {H : zaf} (hH : za3 B N μ H w) (hl : za9 μ args args'.toList) {g : zan} (he : zey C f args false = some g) :
  zbt P C B N μ base (lone (Frame.enter P f args' .normal) base w) w (.next ⟨g, [], H⟩) :=
 ⟨μ, _, [], w, .refl _ _, fun _ _ h => h, Below.refl N w, hH, (zl0 (cur := some H) hF he hl).1, .nil⟩
end
end Go.Am
namespace Go.Am
open Go Go.RowKit
inductive zij (C : Ctx) : zgu -> zgu -> Prop
 | refl (o : zgu) : zij C o o
 | step {o o' : zgu} : zij C (z2j C o) o' -> zij C o o'
 | forget {todo : List zb0} {tm tm' : Tm} {R : zf8} {cs : List zan} {H : zaf} {o' : zgu} : zzbx todo = false -> (∀ i v, tm'.get i = some v -> tm.get i = some v) -> zij C (.next ⟨⟨todo, tm', R⟩, cs, H⟩) o' -> zij C (.next ⟨⟨todo, tm, R⟩, cs, H⟩) o'
theorem zij.trans {C : Ctx} {a b c : zgu} (h : zij C a b) (k : zij C b c) : zij C a c := by
 induction h with
 | refl => exact k
 | step _ ih => exact .step (ih k)
 | forget h1 h2 _ ih => exact .forget h1 h2 (ih k)
section
variable {P : Program} {C : Ctx} {B N : Nat} {I : World -> Prop} {μ : Mu} {w : World} {base : List Frame} {m : Machine}
theorem zb8.forget {n : Nat} {tm tm' : Tm} {tmps : Array Value} (h : zb8 μ n tm tmps) (hs : ∀ i v, tm'.get i = some v -> tm.get i = some v) : zb8 μ n tm' tmps := ⟨h.1, fun i v hv => h.2 i v (hs i v hv)⟩
theorem z8i {todo : List zb0} {tm tm' : Tm} {R : zf8} {acs : List zan} {H : zaf} (hr : zzbx todo = false) (hs : ∀ i v, tm'.get i = some v -> tm.get i = some v) (h : zbt P C B N μ base m w (.next ⟨⟨todo, tm, R⟩, acs, H⟩)) :
  zbt P C B N μ base m w (.next ⟨⟨todo, tm', R⟩, acs, H⟩) := by
 obtain ⟨μ', b, cs, w', h1, h2, h3, h4, h5, h6⟩ := h
 obtain ⟨bfn, btmps, btodo, bdefers, bmode, bkind, bround⟩ := b
 refine ⟨μ', _, cs, w', h1, h2, h3, h4, ⟨h5.rest, ?_⟩, h6⟩
 have hb := h5.body
 simp only at hb ⊢
 split at hb
 ·rename_i hm
  rw [if_pos hm]
  cases hb with
  | plain a t => exact .plain a (t.forget hs)
  | reg _ _ _ _ => cases hr
  | mid _ _ _ _ _ => cases hr
 ·rename_i hm
  rw [if_neg hm]; exact hb.forget hs
theorem zbt.reach (hS : Sim P C B N I) (hI : I w) {o o' : zgu} (h : zij C o o') : zbt P C B N μ base m w o -> zbt P C B N μ base m w o' := by
 induction h with
 | refl => exact id
 | step _ ih => exact fun h => ih (z0l hS hI h)
 | forget hr hs _ ih => exact fun h => ih (z8i hr hs h)
end
def zur (C : Ctx) (f : Nat) (ds : List zod) (fr : zan) (H : zaf) (v : zab) : Prop :=
 fr.R.mode = .returning /\ fr.R.defers = ds /\ fr.R.deferred = false /\ fr.R.fn = f /\ ∃ fn l, C.fns.get f = some fn /\ zf2 C H fr.tm fn.results.toList = some l /\ v = zkl l
def zye (r : zk2) (l : Nat) (tm : Tm) : zan := ⟨[.code r.assign, .beginRound, .code r.body], tm, ⟨r.fn, r.n, [], .run, false, some l⟩⟩
structure zki (C : Ctx) (φ : Ora) : Prop where
 fn : ∀ f args H x, φ (.func f) args H = some x -> ∃ g, zey C f args false = some g /\ ∀ acs, ∃ fr', zij C (.next ⟨g, acs, H⟩) (.next ⟨fr', acs, x.2⟩) /\ zur C f [] fr' x.2 x.1
 rd : ∀ l args H x, φ (.yld l) args H = some x -> ∃ r tm, zdr H l = some r /\ zdx r.n r.params args r.tm = some tm /\ ∀ c acs c', zbr c x.1 = some c' -> zij C (.next ⟨zye r l tm, c :: acs, H⟩) (.next ⟨c', acs, x.2⟩)
abbrev zzem := List zod -> zgu -> zab × zaf -> Prop
def Fin (C : Ctx) (E : zzem) (ds : List zod) (o : zgu) (x : zab × zaf) : Prop := ∃ o', zij C o o' /\ E ds o' x
theorem Fin.step {C : Ctx} {E : zzem} {ds : List zod} {o : zgu} {x : zab × zaf} (h : Fin C E ds (z2j C o) x) : Fin C E ds o x := by
 obtain ⟨fr, h1, h2⟩ := h; exact ⟨fr, .step h1, h2⟩
theorem Fin.of {C : Ctx} {E : zzem} {ds : List zod} {o o' : zgu} {x : zab × zaf} (hr : zij C o o') (h : Fin C E ds o' x) : Fin C E ds o x := by
 obtain ⟨fr, h1, h2⟩ := h; exact ⟨fr, hr.trans h1, h2⟩
abbrev RR (f N : Nat) (ro : Option Nat) (ds : List zod) : zf8 := ⟨f, N, ds, .run, false, ro⟩
structure z4b (C : Ctx) (E : zzem) (G : zab × zaf -> Prop) (f N : Nat) (ro : Option Nat) (acs : List zan) : Prop where
 not : ∀ ds todo tm H x, ¬ E ds (.next ⟨⟨todo, tm, RR f N ro ds⟩, acs, H⟩) x
 all : ro = none -> ∀ x, G x
 pop : ro = none -> ∀ r ds o x, E (⟨none, r, []⟩ :: ds) o x -> zfk x.2 r = some (some []) -> ∃ o', zij C o o' /\ E ds o' (x.1, setBlk x.2 r (.deferred none))
structure z12 (C : Ctx) (E : zzem) (G : zab × zaf -> Prop) (f N : Nat) (ro : Option Nat) (acs : List zan) (κ : Kt) (k : List zb0) : Prop where
 norm : ∀ ds x tm H, G x -> κ.norm tm H = some x -> Fin C E ds (.next ⟨⟨k, tm, RR f N ro ds⟩, acs, H⟩) x
 exit : ∀ ds x i tm H, G x -> κ.exit i tm H = some x -> Fin C E ds (.next ⟨⟨.code (.exit i) :: k, tm, RR f N ro ds⟩, acs, H⟩) x
 ret : ∀ ds x tm H, G x -> κ.ret tm H = some x -> ∀ k', Fin C E ds (.next ⟨⟨.code .ret :: k', tm, RR f N ro ds⟩, acs, H⟩) x
structure zz0 where
 i : Nat
 pl : List Nat
 f : Operand
 ps : Array Nat
 id : Nat
 ops : Array Oper
 c : zbv
def zdz (c : zbv) : List zz0 :=
 zbv.rec (motive := fun _ => List zz0) [] (fun _ _ _ => []) (fun _ _ a b => zem a b) (fun _ _ _ a b => zem a b) (fun _ _ a => a) (fun _ _ a => a) (fun _ => []) [] (fun _ _ a => a)
  (fun i pl f ps id ops c a => ⟨i, pl, f, ps, id, ops, c⟩ :: a) c
section
variable {C : Ctx} {φ : Ora} {E : zzem} {G : zab × zaf -> Prop} {ds : List zod} {ro : Option Nat} {f N : Nat} {acs : List zan} {R : zf8} {κ : Kt} {k : List zb0} {x : zab × zaf} {all : Array Oper}
theorem zb4 (hR : R.mode.running = true) {todo : List zb0} {tm : Tm} {H : zaf} : z2j C (.next ⟨⟨todo, tm, R⟩, acs, H⟩) = zlz C todo tm R acs H := by
 show (bif R.mode.running then zlz C todo tm R acs H else _) = _
 rw [hR]; rfl
theorem z79 {fr c c' : zan} {H : zaf} {v : zab} (hr : zur C f [] fr H v) (hf : zbr c v = some c') : z2j C (.next ⟨fr, c :: acs, H⟩) = .next ⟨c', acs, H⟩ := by
 obtain ⟨h1, h2, h3, h4, fn, l, h5, h6, rfl⟩ := hr
 obtain ⟨todo, tm, ffn, n, defers, mode, deferred, round⟩ := fr
 simp only at h1 h2 h3 h4 h6
 subst h1 h2 h3 h4
 show zo3 C ⟨todo, tm, _⟩ (c :: acs) H = _
 unfold zo3; rw [h5, zad, h6]; simp only [cond_false]; rw [hf]; rfl
theorem zr3 (hφ : zki C φ) {r : zq3} {H : zaf} {K : zab -> zaf -> zbg} (h : zio φ r H K = some x) {fr : zan}
  (hK : ∀ v H' c', zbr fr v = some c' -> K v H' = some x -> Fin C E ds (.next ⟨c', acs, H'⟩) x) (hfin : ∀ v, ∃ c', zbr fr v = some c') : Fin C E ds (znf r C fr acs H) x := by
 cases r <;> simp only [zio] at h <;> try (cases h; done)
 case val v H' =>
  have h2 : K v H' = some x := h
  obtain ⟨c', hc⟩ := hfin v
  show Fin C E ds (zze9 v H' C fr acs H) x
  unfold zze9; rw [hc]; exact hK _ _ _ hc h2
 case enter g args =>
  rw [zac] at h; obtain ⟨p, h1, h4⟩ := h
  obtain ⟨c', hc⟩ := hfin p.1
  show Fin C E ds (zvu g args C fr acs H) x
  unfold zvu; obtain ⟨ge, he, r0⟩ := hφ.fn _ _ _ _ h1
  obtain ⟨fr', r1, r2⟩ := r0 (fr :: acs)
  rw [he]; refine Fin.of (r1.trans (.step ?_)) (hK _ _ _ hc h4)
  rw [z79 r2 hc]; exact .refl _
 case round l args =>
  rw [zac] at h; obtain ⟨p, h1, h4⟩ := h
  obtain ⟨c', hc⟩ := hfin p.1
  obtain ⟨r, tm, e1, e2, r0⟩ := hφ.rd _ _ _ _ h1
  show Fin C E ds (zvt l args C fr acs H) x
  unfold zvt; rw [e1, zad, e2, zad]; exact Fin.of (r0 _ _ _ hc) (hK _ _ _ hc h4)
theorem z2z (hφ : zki C φ) (hR : R.mode.running = true) (hN : R.n = N) {κn : Tm -> zaf -> zbg} (hκ : ∀ tm H, κn tm H = some x -> Fin C E ds (.next ⟨⟨k, tm, R⟩, acs, H⟩) x) :
  ∀ (l : List Oper) (tm : Tm) (H : zaf), zuu C φ all N κn l tm H = some x -> Fin C E ds (zi0 C all k R acs l tm H) x := by
 intro l; induction l with
 | nil => exact fun tm H h => hκ tm H h
 | cons o l ih =>
  intro tm H h; rw [zgj, zac] at h; obtain ⟨w, h1, h⟩ := h
  rw [zkr, h1]
  cases w with
  | false => rw [if_neg (by simp)] at h; simp only []; rw [hN]; exact ih _ _ h
  | true =>
   rw [if_pos rfl] at h; simp only []; generalize (aop o.op).f C (.now tm) H = r at h
   cases hv : r.asVal with
   | some p =>
    have : r = .val p.1 p.2 := by cases r <;> simp [zq3.asVal] at hv; rw [<- hv]
    subst this; simp only [zio, zbz] at h; obtain ⟨h2, h3⟩ := h
    simp only []; rw [hN]; exact ih _ _ h3
   | none =>
    refine zr3 hφ h (fun v H' c' hc hK => ?_) fun v => ⟨⟨.ops all l :: k, putA R.n tm o.dst v, R⟩, by unfold zbr; simp only [hR, cond_true]; rfl⟩
    unfold zbr at hc; simp only [hR, cond_true] at hc; have hc : some (⟨.ops all l :: k, putA R.n tm o.dst v, R⟩ : zan) = some c' := hc
    cases hc; refine .step ?_
    rw [zb4 hR, hN]; rw [zbz] at hK; exact ih _ _ hK.2
theorem zg6 {H : zaf} {old : Tm} {olds : List (Nat × List Nat)} {K : Tm -> zbg} : ∀ (l : List Nat) (tm : Tm), zbs C H all N old olds K l tm = some x -> ∃ tm', zet C H all N old olds l tm = some tm' /\ K tm' = some x := by
 intro l; induction l with
 | nil => exact fun tm h => ⟨tm, rfl, h⟩
 | cons i l ih =>
  intro tm h; rw [zg8, zac] at h; obtain ⟨o, h1, h⟩ := h
  rw [zac] at h; obtain ⟨w, h2, h⟩ := h
  unfold zet; rw [h1, zad, h2, zad]
  cases w with
  | false => rw [if_neg (by simp)] at h; simp only [cond_false, zad]; exact ih _ h
  | true =>
   rw [if_pos rfl, zac] at h; obtain ⟨v, h3, h⟩ := h
   rw [zbz] at h; obtain ⟨h4, h⟩ := h
   simp only [cond_true]; rw [h3, zad]; exact ih _ h
theorem z1o {C : Ctx} {o : Op} {e : Env} {H : zaf} {r : zq3} (hf : zd4 o = true) (h : (aop o).f C e H = r) (h1 : ∀ q, r ≠ ztk q) : False := by
 have key : ∀ q : Option (zab × zaf), ztk q = r -> False := fun q e => h1 q e.symm
 cases o <;> simp only [zd4] at hf <;> first
  | (cases hf; done)
  | exact key _ h
theorem zte (hφ : zki C φ) (hR : R.mode.running = true) (hN : R.n = N) {κn : Tm -> zaf -> zbg} (hκ : ∀ tm H, κn tm H = some x -> Fin C E ds (.next ⟨⟨k, tm, R⟩, acs, H⟩) x) {old : Tm} {olds : List (Nat × List Nat)} :
  ∀ (l : List zch) (tm : Tm) (H : zaf), zbu C φ all N old olds κn l tm H = some x -> Fin C E ds (.next ⟨⟨.reg all old olds l :: k, tm, R⟩, acs, H⟩) x := by
 intro l; induction l with
 | nil =>
  intro tm H h; refine .step ?_
  rw [zb4 hR]; exact hκ tm H h
 | cons st l ih =>
  intro tm H h
  cases hg : zfu all st with
  | true =>
   rw [zeo hg, zh8] at h; obtain ⟨h0, es, H', h1, h2, h3⟩ := h
   obtain ⟨tm', hl1, hl2⟩ := zg6 _ _ h3
   refine .step ?_
   rw [zb4 hR]; show Fin C E ds (z14 all old olds (st :: l) C k tm R acs H) x
   unfold z14; have hg0 := zcz.1 hg
   rw [zav] at hg0; have hnone : zds all.toList st.heavy = none := by
    rw [zbe]; exact List.getElem?_eq_none (by omega)
   simp only [hnone]; rw [zak, if_pos (zcz.2 (by rw [zav]; omega)), zak, if_pos (show Nat.blt (zbp all.toList + zbp all.toList) st.heavy = true from hg)]
   unfold zz7; rw [h0, show ∀ (x : Option zhc), zah true x = x from fun _ => rfl, h1, zad, h2, zad, hN, hl1, zad]
   exact ih _ _ hl2
  | false =>
  rw [zei hg, zac] at h; obtain ⟨o, h1, h⟩ := h
  rw [zac] at h; obtain ⟨w, h2', h⟩ := h
  have hgn : Nat.blt (zbp all.toList + zbp all.toList) st.heavy = false := hg
  by_cases hfl : Nat.blt (zbp all.toList) st.heavy = true
  ·-- an operation that is done early
   unfold zgd at h2'; unfold hvI at h1 h; rw [hfl] at h1 h2' h
   simp only [cond_true, zac, zae, yac] at h1 h2'
   obtain ⟨w', h2, ⟨⟨hw, hfo⟩, hlo⟩, h2'⟩ := h2'
   cases h2'
   subst hw; simp only [if_true, cond_true] at h; have hval : ∃ v H', (aop o.op).f C (.mixed tm old (zb5 (Nat.sub st.heavy (Nat.succ (zbp all.toList))) olds) (zbh o.op)) H = .val v H' := by
    cases hr : (aop o.op).f C (.mixed tm old (zb5 (Nat.sub st.heavy (Nat.succ (zbp all.toList))) olds) (zbh o.op)) H with
    | val v H' => exact ⟨v, H', rfl⟩
    | enter g args => exact (z1o hfo hr fun q => by cases q <;> simp [ztk]).elim
    | round g args => exact (z1o hfo hr fun q => by cases q <;> simp [ztk]).elim
    | _ => rw [hr] at h; cases h
   obtain ⟨v, H', hv⟩ := hval
   rw [hv] at h; have h : (zhe C o.type v fun v => zek C H' all old olds (putA N tm o.dst v) (zbs C H' all N old olds (fun tm => zbu C φ all N old olds κn l tm H') st.lights (putA N tm o.dst v)) st.again) = some x := h
   rw [zbz] at h; obtain ⟨ha, hl⟩ := zgt _ h.2
   obtain ⟨tm', hl1, hl2⟩ := zg6 _ _ hl
   refine .step ?_
   rw [zb4 hR]; show Fin C E ds (z14 all old olds (st :: l) C k tm R acs H) x
   unfold z14; have hnone : zds all.toList st.heavy = none := by
    rw [zbe]; have := zcz.1 hfl
    rw [zav] at this; exact List.getElem?_eq_none (by omega)
   simp only [hnone]; rw [hfl, cond_true, hgn, cond_false]; unfold zz8; rw [h1, zad, h2, zad, hv, hlo]; show Fin C E ds (zhf (ob (zet C H' all R.n old olds st.lights (putA R.n tm o.dst v)) fun tm' => some ⟨⟨.reg all old olds l :: k, tm', R⟩, acs, H'⟩) 23) x
   rw [hN, hl1, zad]; exact ih _ _ hl2
  have hfl : Nat.blt (zbp all.toList) st.heavy = false := Bool.eq_false_iff.2 hfl
  unfold zgd at h2'; unfold hvI at h1 h; rw [hfl] at h1 h2' h
  simp only [cond_false, zac] at h1 h2'
  obtain ⟨w', h2, h2'⟩ := h2'
  cases h2'
  simp only [cond_false] at h; have back0 : ∀ v H' c', zbr (⟨.reg all old olds (st :: l) :: k, tm, R⟩ : zan) v = some c' →
    zek C H' all old olds (putA N tm o.dst v) (zbs C H' all N old olds (fun tm => zbu C φ all N old olds κn l tm H') st.lights (putA N tm o.dst v)) st.again = some x -> Fin C E ds (.next ⟨c', acs, H'⟩) x := by
   intro v H' c' hc hK; unfold zbr at hc; simp only [hR, cond_true] at hc; have hc : (ob (zds all.toList st.heavy) fun o => some (⟨.reg all old olds (⟨all.size, st.lights, st.again⟩ :: l) :: k, putA R.n tm o.dst v, R⟩ : zan)) = some c' := hc
   rw [h1, zad] at hc
   cases hc; refine .step ?_
   rw [zb4 hR, hN]; obtain ⟨ha, hl⟩ := zgt _ hK
   obtain ⟨tm', hl1, hl2⟩ := zg6 _ _ hl
   show Fin C E ds (z14 all old olds (⟨all.size, st.lights, st.again⟩ :: l) C k (putA N tm o.dst v) R acs H') x
   unfold z14; have : zds all.toList all.size = none := by rw [zbe]; simp
   simp only [this]; rw [zak, if_neg fun e => by have := zcz.1 e; rw [zav] at this; simp at this]
   show Fin C E ds (zow all old olds ⟨all.size, st.lights, st.again⟩ l C k (putA N tm o.dst v) R acs H') x
   unfold zow; simp only [ha, hN, hl1, zad]; exact ih _ _ hl2
  have back : ∀ v H' c', zbr (⟨.reg all old olds (st :: l) :: k, tm, R⟩ : zan) v = some c' →
    (zhe C o.type v fun v => zek C H' all old olds (putA N tm o.dst v) (zbs C H' all N old olds (fun tm => zbu C φ all N old olds κn l tm H') st.lights (putA N tm o.dst v)) st.again) = some x -> Fin C E ds (.next ⟨c', acs, H'⟩) x := by
   intro v H' c' hc hK; rw [zbz] at hK; exact back0 v H' c' hc hK.2
  refine .step ?_
  rw [zb4 hR]; show Fin C E ds (z14 all old olds (st :: l) C k tm R acs H) x
  unfold z14; simp only [h1]; unfold zz6; rw [h2]; simp only []; have hfin : ∀ v, ∃ c', zbr (⟨.reg all old olds (st :: l) :: k, tm, R⟩ : zan) v = some c' := fun v => ⟨⟨.reg all old olds (⟨all.size, st.lights, st.again⟩ :: l) :: k, putA R.n tm o.dst v, R⟩, by
   unfold zbr; simp only [hR, cond_true]; show (ob (zds all.toList st.heavy) fun o => some (⟨.reg all old olds (⟨all.size, st.lights, st.again⟩ :: l) :: k, putA R.n tm o.dst v, R⟩ : zan)) = _
   rw [h1]; rfl⟩
  cases w with
  | true =>
   simp only [if_true] at h; exact zr3 hφ h back hfin
  | false =>
   simp only [yar, if_false] at h; obtain ⟨c', hc⟩ := hfin zba
   show Fin C E ds (zze9 zba H C _ acs H) x
   unfold zze9; rw [hc]; exact back0 _ _ _ hc h
theorem zzbw {live : List Nat} {tm : Tm} {i : Nat} {v : zab} (h : (keep live tm).get i = some v) : tm.get i = some v := by
 unfold keep Tm.get at h; simp only [zmg] at h; split at h
 case isFalse => cases h
 rename_i hk; have key : ∀ live : List Nat, (zwh tm live).get i = some v -> tm.get i = some v := by
  intro live; induction live with
  | nil => intro h; rw [show zwh tm [] = .leaf from rfl, Tr.get_leaf] at h; cases h
  | cons j live ih =>
   intro h; have h : (match tm.get j with | some v => (zwh tm live).set j v | none => zwh tm live : Tr zab).get i = some v := h
   cases hj : tm.get j with
   | none => rw [hj] at h; exact ih h
   | some u =>
    rw [hj] at h; simp only [] at h; rw [Tr.get_set] at h; split at h
    ·rename_i e; rw [e, hj]; exact h
    ·exact ih h
 exact key live h
theorem zsl {todo : List zb0} (hr : zzbx todo = false) {live : List Nat} {tm : Tm} {H : zaf} (h : Fin C E ds (.next ⟨⟨todo, keep live tm, R⟩, acs, H⟩) x) : Fin C E ds (.next ⟨⟨todo, tm, R⟩, acs, H⟩) x :=
 Fin.of (.forget hr (fun _ _ => zzbw) (.refl _)) h
theorem zqg (hE : z4b C E G f N ro acs) {t1 t2 : List zb0} (h1 : zzbx t1 = false) (hs : ∀ tm H, zlz C t1 tm (RR f N ro ds) acs H = zlz C t2 tm (RR f N ro ds) acs H) {tm : Tm} {H : zaf} (h : Fin C E ds (.next ⟨⟨t2, tm, RR f N ro ds⟩, acs, H⟩) x) : Fin C E ds (.next ⟨⟨t1, tm, RR f N ro ds⟩, acs, H⟩) x := by
 obtain ⟨o', hr, hv⟩ := h
 refine ⟨o', ?_, hv⟩
 generalize ho : (.next ⟨⟨t2, tm, RR f N ro ds⟩, acs, H⟩ : zgu) = o at hr
 induction hr generalizing tm with
 | refl =>
  subst ho; exact (hE.not _ _ _ _ _ hv).elim
 | step h ih =>
  subst ho; refine .step ?_
  rw [zb4 rfl, hs, <- zb4 rfl]; exact h
 | forget hr2 hs2 h ih =>
  cases ho; exact .forget h1 hs2 (ih hv rfl)
theorem z29 {i : Nat} {t1 t2 : List zb0} {tm : Tm} {H : zaf} : zhu (some (.exit i)) C ⟨t1, tm, R⟩ acs H = zhu (some (.exit i)) C ⟨t2, tm, R⟩ acs H := by
 obtain ⟨a, b, c, d, e, ro⟩ := R
 unfold zhu
 cases ro <;> rfl
theorem zqi (hE : z4b C E G f N ro acs) {i : Nat} {y : zb0} (hy : ∀ j, y.blockId = some j -> Nat.beq j i = false) {tm : Tm} {H : zaf} (h : Fin C E ds (.next ⟨⟨.code (.exit i) :: k, tm, RR f N ro ds⟩, acs, H⟩) x) : Fin C E ds (.next ⟨⟨.code (.exit i) :: y :: k, tm, RR f N ro ds⟩, acs, H⟩) x := by
 refine zqg hE rfl (fun tm H => ?_) h
 show zuz i C (y :: k) tm (RR f N ro ds) acs H = zuz i C k tm (RR f N ro ds) acs H
 have e : zdu i (y :: k) = zdu i k := by
  show (match y.blockId with | some j => bif Nat.beq j i then some k else zdu i k | none => zdu i k) = _
  cases hb : y.blockId with
  | none => rfl
  | some j => simp only [hy j hb, cond_false]
 unfold zuz; rw [e]
 cases zdu i k with
 | some k' => rfl
 | none => exact z29
theorem zvs (hφ : zki C φ) (hE : z4b C E G f N none acs) {κ : Kt} (hκ : z12 C E G f N none acs κ k) {fo : Operand} {ps : Array Nat} {a b : Code} {tm : Tm} {H : zaf} (h : zg5 C φ f N κ fo ps.toList a b tm H = some x) : Fin C E ds (.next ⟨⟨.code (.rangeFunc fo ps a b) :: k, tm, RR f N none ds⟩, acs, H⟩) x := by
 unfold zg5 at h; rw [zac] at h; obtain ⟨v, h1, h⟩ := h
 rw [zac] at h; obtain ⟨⟨qf, q1, q2⟩, h2, h⟩ := h
 cases qf with
 | yld l => cases h
 | func g =>
  simp only [zae, zac] at h; obtain ⟨h3, y, h4, r, h5, h6, z, h7, d, h8, h9, h10⟩ := h
  have hp : C.prims.get g = none := by
   cases hx : C.prims.get g with
   | none => rfl
   | some u => rw [hx] at h3; cases h3
  obtain ⟨ge, he, r0⟩ := hφ.fn _ _ _ _ h4
  obtain ⟨fr', r1, r2⟩ := r0 (⟨.inRange (H.next + 1) :: k, tm, RR f N none (⟨none, H.next, []⟩ :: ds)⟩ :: acs)
  refine .step ?_
  rw [zb4 rfl]; show Fin C E ds (zuy fo ps a b C k tm (RR f N none ds) acs H) x
  have hin : zh2 C (H.next + 1) v = some ge := by
   unfold zh2; rw [h2, zad]; simp only [hp]; exact he
  unfold zuy; rw [h1, zad]; simp only [hin, zad]; refine Fin.of (r1.trans (.step ?_)) (?_ : Fin C E ds (.next ⟨⟨.endRange (H.next + 1) :: k, tm, RR f N none (⟨none, H.next, []⟩ :: ds)⟩, acs, y.2⟩) x)
  ·rw [z79 r2 (c' := ⟨.endRange (H.next + 1) :: k, tm, RR f N none (⟨none, H.next, []⟩ :: ds)⟩) rfl]
   exact .refl _
  refine .step ?_
  rw [zb4 rfl]; show Fin C E ds (ziw (H.next + 1) C k tm (RR f N none (⟨none, H.next, []⟩ :: ds)) acs y.2) x
  unfold ziw; rw [h5, zad, h6]; have key : Fin C E (⟨none, H.next, []⟩ :: ds) (.next ⟨⟨(match r.pending with | some c => .code c :: k | none => k), tm, RR f N none (⟨none, H.next, []⟩ :: ds)⟩, acs, endLoop y.2 (H.next + 1) r⟩) z := by
   unfold zme at h7; split at h7
   ·rename_i e; rw [e]; exact hκ.norm _ _ _ _ (hE.all rfl _) h7
   ·rename_i e; rw [e]; exact hκ.ret _ _ _ _ (hE.all rfl _) h7 k
   ·cases h7
  obtain ⟨o', k1, k2⟩ := key
  have hd : zfk z.2 H.next = some (some []) := by
   rw [h8]
   cases d with
   | none => cases h9
   | some l => cases l with | nil => rfl | cons _ _ => cases h9
  obtain ⟨o'', k3, k4⟩ := hE.pop rfl _ _ _ _ k2 hd
  cases h10; exact ⟨o'', k1.trans k3, k4⟩
theorem zg4 {α : Type} {a b : List α} (h : zem a b = []) : a = [] /\ b = [] := by rw [zbx] at h; exact List.append_eq_nil_iff.1 h
theorem zwv (hφ : zki C φ) (hE : z4b C E G f N ro acs) : ∀ (c : zbv) (κ : Kt) (k : List zb0), (ro = none \/ zdz c = []) -> z12 C E G f N ro acs κ k -> ∀ ds x tm H, G x -> den C φ f N c κ tm H = some x -> Fin C E ds (.next ⟨⟨.code (zcw c) :: k, tm, RR f N ro ds⟩, acs, H⟩) x := by
 intro c; induction c with
 | skip =>
  intro κ k _ hκ ds x tm H hG h; refine .step ?_
  rw [zb4 rfl]; exact hκ.norm _ _ _ _ hG h
 | region id ops d =>
  intro κ k _ hκ ds x tm H hG h; refine .step ?_
  rw [zb4 rfl]
  cases d with
  | false => exact z2z hφ rfl rfl (fun tm H h => hκ.norm _ _ _ _ hG h) _ _ _ h
  | true =>
   have h : (ob (ob (C.plans.get f) fun t => t.get id) fun p => zah (ziq ops p) (zbs C H ops N tm.cut p.olds (fun tm' => zbu C φ ops N tm.cut p.olds κ.norm p.stages tm' H) p.first tm.cut)) = some x := h
   rw [zac] at h; obtain ⟨p, h1, h⟩ := h
   rw [zae] at h; obtain ⟨tm', hl1, hl2⟩ := zg6 _ _ h.2
   show Fin C E ds (z4i id ops C k tm (RR f N ro ds) acs H) x
   unfold z4i; rw [h1, zad, h.1, hl1]; exact zte hφ rfl rfl (fun tm H h => hκ.norm _ _ _ _ hG h) _ _ _ hl2
 | seq a b iha ihb =>
  intro κ k hn hκ ds x tm H hG h; have hna : ro = none \/ zdz a = [] := hn.imp id fun e => (zg4 e).1
  have hnb : ro = none \/ zdz b = [] := hn.imp id fun e => (zg4 e).2
  refine zqg hE (t1 := .code (zcw (.seq a b)) :: k) rfl (t2 := .code (zcw a) :: .code (zcw b) :: k) (fun _ _ => rfl) ?_
  exact iha ⟨den C φ f N b κ, κ.exit, κ.ret⟩ _ hna ⟨fun ds x tm H hG h => ihb _ _ hnb hκ ds x tm H hG h, fun ds x i tm H hG h => zqi hE (fun _ e => by cases e) (hκ.exit _ _ _ _ _ hG h), hκ.ret⟩ ds x tm H hG h
 | cond c a b iha ihb =>
  intro κ k hn hκ ds x tm H hG h; have hna : ro = none \/ zdz a = [] := hn.imp id fun e => (zg4 e).1
  have hnb : ro = none \/ zdz b = [] := hn.imp id fun e => (zg4 e).2
  have h : (ob (ob (ev c (.now tm)) zab.asBool) fun t => Bool.rec (motive := fun _ => zbg) (den C φ f N b κ tm H) (den C φ f N a κ tm H) t) = some x := h
  rw [zac] at h; obtain ⟨t, h1, h⟩ := h
  refine .step ?_
  rw [zb4 rfl]; show Fin C E ds (z4j c (zcw a) (zcw b) C k tm (RR f N ro ds) acs H) x
  unfold z4j; rw [h1]
  cases t with
  | true => exact iha _ _ hna hκ _ _ _ _ hG h
  | false => exact ihb _ _ hnb hκ _ _ _ _ hG h
 | block id c ih =>
  intro κ k hn hκ ds x tm H hG h; refine .step ?_
  rw [zb4 rfl]; have nx : ∀ ds x tm H, G x -> κ.norm tm H = some x -> Fin C E ds (.next ⟨⟨.inBlock id :: k, tm, RR f N ro ds⟩, acs, H⟩) x := by
   intro ds x tm H hG h; refine .step ?_
   rw [zb4 rfl]; exact hκ.norm _ _ _ _ hG h
  refine ih ⟨κ.norm, fun i tm H => Bool.rec (motive := fun _ => zbg) (κ.exit i tm H) (κ.norm tm H) (Nat.beq id i), κ.ret⟩ _ hn ⟨nx, fun ds x i tm H hG h => ?_, hκ.ret⟩ ds x tm H hG h
  dsimp only at h
  cases hb : Nat.beq id i with
  | true =>
   rw [hb] at h; refine .step ?_
   rw [zb4 rfl]; show Fin C E ds (zuz i C (.inBlock id :: k) tm (RR f N ro ds) acs H) x
   have e : zdu i (.inBlock id :: k) = some k := by
    show (bif Nat.beq id i then some k else zdu i k) = _
    rw [hb]; rfl
   unfold zuz; rw [e]; exact hκ.norm _ _ _ _ hG h
  | false =>
   rw [hb] at h; exact zqi hE (fun j e => by cases e; exact hb) (hκ.exit _ _ _ _ _ hG h)
 | loop live c ih =>
  intro κ k hn hκ ds x tm H hG h; obtain ⟨m, hm⟩ := z7a h
  have it : ∀ (m : Nat) ds x tm H, G x -> (Nat.rec (motive := fun _ => Tm -> zaf -> zbg) (fun _ _ => none) (fun _ r tm H => den C φ f N c ⟨r, κ.exit, κ.ret⟩ (keep live.kept tm) H) m : Tm -> zaf -> zbg) tm H = some x -> Fin C E ds (.next ⟨⟨.inLoop (zcw c) :: k, tm, RR f N ro ds⟩, acs, H⟩) x := by
   intro m; induction m with
   | zero => intro ds x tm H _ h; cases h
   | succ m ihm =>
    intro ds x tm H hG h; refine zsl (live := live.kept) rfl (.step ?_)
    rw [zb4 rfl]; exact ih ⟨_, κ.exit, κ.ret⟩ _ hn ⟨ihm, fun ds x i tm H hG h => zqi hE (fun _ e => by cases e) (hκ.exit _ _ _ _ _ hG h), hκ.ret⟩ _ _ _ _ hG h
  exact zqg hE (t1 := .code (zcw (.loop live c)) :: k) rfl (t2 := .inLoop (zcw c) :: k) (fun _ _ => rfl) (it m _ _ tm H hG hm)
 | exit id => exact fun κ k _ hκ ds x tm H hG h => hκ.exit _ _ _ _ _ hG h
 | ret => exact fun κ k _ hκ ds x tm H hG h => hκ.ret _ _ _ _ hG h k
 | cut live c ih => exact fun κ k hn hκ ds x tm H hG h => zsl rfl (ih κ k hn hκ _ _ _ _ hG h)
 | range i pl fo ps id ops c ih =>
  intro κ k hn hκ ds x tm H hG h; rcases hn with rfl | e
  ·exact zvs hφ hE hκ h
  ·cases e
end
end Go.Am
