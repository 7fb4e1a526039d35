/- The simulation: regions that draw. -/
import Derived.Test.YtfmlbimokklmgaaGreatDoorA03
set_option linter.all false
noncomputable section
namespace Go.Am
open Go Go.RowKit
section
variable {P : Program} {C : Ctx} {B N : Nat} {I : World -> Prop} {μ ν : Mu} {H H' : zaf} {w : World} {tm : Tm} {R : zgz} {acs : List zap} {base cs : List Frame}
variable {b : Frame} {tmps : Array Value} {ds : List Deferred} {k : List zcj} {k' : List Item} {all : Array Oper} {olds : List (Nat × List Nat)} {anc : Tr Nat} {old : Tm} {D : Nat} {S : Nat -> Bool} {order : List Nat}
theorem zbv.slots {tmps' : Array Value} {todo : List Item} (h : zbv μ R (b.atR ⟨tmps, ds⟩ todo)) (hs : tmps'.size = R.n) : zbv μ R (b.atR ⟨tmps', ds⟩ todo) := ⟨h.fn, hs, h.defers, h.mode, h.kind, h.round⟩
theorem zc3.cut {n : Nat} (h : zc3 μ n tm tmps) : zc3 μ n tm.cut tmps := by
 refine ⟨h.1, fun i v hv => h.2 i v ?_⟩
 unfold Tm.cut Tm.get at hv; unfold Tm.get; simp only [zqk] at hv ⊢
 split at hv
 ·simp_all
 ·cases hv
theorem zzav (hS : Sim P C B N I) (hH : zbp B N μ H w) (hcs : Frs C μ acs cs) (hR : zbv μ R (b.atR ⟨tmps, ds⟩ [])) (hk : zfd (zbr μ) k k')
  (hr : zce μ all olds anc R.n old tm D S order tmps) (hst : zcd all.toList anc [] D = true) (hp : zb5 C μ acs.length H all olds R.n old tm D S) :
  zci P C B N μ base (lone (b.atR ⟨tmps, ds⟩ (.inRegion all order :: k')) (cs ++ base) w) w (z1b C k tm R acs H) := by
 obtain ⟨tmps', μ', w', s, g, t⟩ := regEnd (b := b) (k := k') (cs := cs ++ base) (ds := ds) hS.tys hst order S tmps μ w hH hr hp
 refine zci.of_steps s g.le g.below ?_
 exact zhg g.heap (hcs.monoD fun d hd => g.pd d (by omega)) ((hR.mono g.le).slots t.1) t (hk.mono fun _ _ r => r.mono g.le) (.refl _ _)
theorem zznv (hS : Sim P C B N I) (hH : zbp B N μ H w) (hcs : Frs C μ acs cs) (hR : zbv μ R (b.atR ⟨tmps, ds⟩ [])) (ht : zc3 μ R.n tm tmps) (hk : zfd (zbr μ) k k') {id : Nat} :
  zci P C B N μ base (lone (b.atR ⟨tmps, ds⟩ (.code (.region id all true) :: k')) (cs ++ base) w) w (z8m id all C k tm R acs H) := by
 unfold z8m
 cases hx : ob (ob (C.plans.get R.fn) fun t => t.get id) fun p => zaj (zkr all p) <| ob (zf0 C H all R.n tm.cut p.olds p.first tm.cut) fun tm' => some (⟨⟨.reg all tm.cut p.olds p.stages :: k, tm', R⟩, acs, H⟩ : zij) with
 | none => exact trivial
 | some s =>
  simp only [zac, zae] at hx; obtain ⟨p, _, hok, tm', hl, hx⟩ := hx
  cases hx; obtain ⟨anc, D, ro, h1, h2⟩ := zzbh hok
  obtain ⟨r0, p0⟩ := zzgt (C := C) (H := H) (dp := acs.length) hS.mixed ro ht.cut (w.tape w.drawn (.order b.fn id))
  obtain ⟨r1, p1⟩ := zlz _ _ _ hl h1 r0 p0
  exact ⟨μ, _, cs, _, .one stepR_region_draw, fun _ _ h => h, (Below.refl N w).drew, hH.drew, ⟨hR.todo, by rw [yab hR.running]; exact .reg r1 h2 p1 hk⟩, hcs⟩
theorem zzb4 (hH : zbp B N μ H w) (hcs : Frs C μ acs cs) (hR : zbv μ R (b.atR ⟨tmps, ds⟩ [])) (hk : zfd (zbr μ) k k') {st : zc7} {stages : List zc7} {D2 : Nat}
  (hr : zce μ all olds anc R.n old tm D S order tmps) (h1 : zd9 all.toList st.lights D = some D2) (h2 : zcd all.toList anc stages D2 = true) (hw : zjf C μ acs.length all olds R.n old tm D S st.again) :
  zci P C B N μ base (lone (b.atR ⟨tmps, ds⟩ (.inRegion all order :: k')) (cs ++ base) w) w (zq8 all old olds st stages C k tm R acs H) := by
 unfold zq8
 cases hx : zaj (zp9 C H all old olds tm st.again) (ob (zf0 C H all R.n old olds st.lights tm) fun tm => some (⟨⟨.reg all old olds stages :: k, tm, R⟩, acs, H⟩ : zij)) with
 | none => exact trivial
 | some s =>
  simp only [zac, zae] at hx; obtain ⟨ha, tm', hl, hx⟩ := hx
  cases hx; obtain ⟨r1, p1⟩ := zlz _ _ _ hl h1 hr (z8p hw ha)
  exact ⟨μ, _, cs, w, .refl _ _, fun _ _ h => h, Below.refl N w, hH, ⟨hR.todo, by rw [yab hR.running]; exact .reg r1 h2 p1 hk⟩, hcs⟩
theorem zy9 (hH : zbp B N μ H w) (hcs : Frs C μ acs cs) (hR : zbv μ R (b.atR ⟨tmps, ds⟩ [])) (ht : zc3 μ R.n tm tmps) {m : Machine} {todo : List zcj} {btodo : List Item}
  (hs : Steps P m (lone { b.atR ⟨tmps, ds⟩ btodo with mode := .returning } (cs ++ base) w)) : zci P C B N μ base m w (.next ⟨zj5 ⟨todo, tm, R⟩ .returning, acs, H⟩) :=
 ⟨μ, _, cs, w, hs, fun _ _ h => h, Below.refl N w, hH, ⟨⟨hR.fn, hR.size, hR.defers, trivial, hR.kind, hR.round⟩, ht⟩, hcs⟩
theorem zlx {dst : Option Tmp} {v : Value} : Act.put ⟨tmps, ds⟩ dst v = ⟨(Act.put ⟨tmps, ds⟩ dst v).tmps, ds⟩ := by unfold Act.put; cases dst <;> rfl
theorem zow {i : Nat} {rest : List Nat} {o : Oper} {v : zab} {cs : List Frame} (ho : all[i]? = some o) (hw : Region.wanted o (yielded all tmps) = true) (hd : ∀ c, o.op ≠ .defer c)
  (h : z3s P B N μ w (Act.eval ⟨tmps, ds⟩) o v H') :
  ∃ v' w' μ', step P (lone (b.atR ⟨tmps, ds⟩ (.inRegion all (i :: rest) :: k')) cs w) = .next (lone (b.atR ⟨(Act.put ⟨tmps, ds⟩ o.dst v').tmps, ds⟩ (.inRegion all rest :: k')) cs w') ∧
   μ.le μ' /\ zbp B N μ' H' w' /\ Below N w w' /\ zaq μ' v v' := by
 obtain ⟨v', w', μ', h1, h2, h3, h4, h5⟩ := h
 refine ⟨v', w', μ', ?_, h2, h3, h4, h5⟩
 rw [<- zlx]; grind [zmy, Oper.semAt_eq, zv8]
theorem zrl {i : Nat} {rest : List Nat} {o : Oper} {f : FuncId} {args : Array Value} {cs : List Frame} {w' : World} (ho : all[i]? = some o) (hw : Region.wanted o (yielded all tmps) = true) (hd : ∀ c, o.op ≠ .defer c)
  (h : (execOp (Act.eval ⟨tmps, ds⟩) o).run P w = .ok (.enter f args) w') :
  step P (lone (b.atR ⟨tmps, ds⟩ (.inRegion all (i :: rest) :: k')) cs w) = .next (lone (Frame.enter P f args .normal) (b.atR ⟨tmps, ds⟩ (.inRegion all (i :: rest) :: k') :: cs) w') :=
 step_lone_go (by
  rw [stepGR_op (a := ⟨tmps, ds⟩) ho hw, Oper.semAt_eq _ _ _ hd]
  simp_all [stepG.apply, Frame.atR])
theorem zvj {i : Nat} {rest : List Nat} {o : Oper} {f : FuncId} {args : Array Value} {cs : List Frame} (ho : all[i]? = some o) (hw : Region.wanted o (yielded all tmps) = true) (hd : ∀ c, o.op ≠ .defer c)
  (h : (execOp (Act.eval ⟨tmps, ds⟩) o).run P w = .ok (.enter f args) w) {R : Value -> World -> Prop} (hc : Calls P f args w fun e w' => ∃ v', e = .returned v' /\ R v' w') :
  ∃ v' w', Steps P (lone (b.atR ⟨tmps, ds⟩ (.inRegion all (i :: rest) :: k')) cs w) (lone (b.atR ⟨(Act.put ⟨tmps, ds⟩ o.dst v').tmps, ds⟩ (.inRegion all rest :: k')) cs w') /\ R v' w' := by
 obtain ⟨e, w', fr, ⟨v', rfl, h1⟩, h3, _, h5⟩ := hc (b.atR ⟨tmps, ds⟩ (.inRegion all (i :: rest) :: k') :: cs)
 refine ⟨v', w', ?_, h1⟩
 refine .head (zrl ho hw hd h) (Steps.trans h3 (.one ?_))
 rw [step_leave_returned h5, Frame.finish_atR, ho, <- zlx]; rfl
theorem zbp.below {w' : World} (hH : zbp B N μ H w) (hb : Below w.heap.size w w') : zbp B N μ H w' := by
 refine ⟨hH.base, hH.glob, hH.low, hH.next, Nat.le_trans hH.size hb.size, hH.fresh, fun a x i hx h1 => ?_, fun a i ha hi => ?_, hH.inj, hH.pnd⟩
 ·obtain ⟨o, h2, h3⟩ := hH.blk a x i hx h1
  have hlt : i.b < w.heap.size := (ybe.1 h2).1
  exact ⟨o, by rw [hb.block _ hlt]; exact h2, h3⟩
 ·obtain ⟨h1, h2, h3⟩ := hH.own a i ha hi
  exact ⟨h1, Nat.lt_of_lt_of_le h2 hb.size, h3⟩
theorem zfx {g : List zab -> zaf -> Option zab} {f : FuncId} {al : List zab} {args' : Array Value} {v : zab} {H' : zaf} (hv : zk9 g al H = some (v, H')) (hH : zbp B N μ H w)
  (k : g al H = some v -> (callFunc f args').run P w = .ok (.enter f args') w /\ Calls P f args' w fun e w' => ∃ v', e = .returned v' /\ zaq μ v v' /\ Below w.heap.size w w') :
  (H' = H /\ ∃ v', (callFunc f args').run P w = .ok (.value v') w /\ zaq μ v v') ∨
   ((callFunc f args').run P w = .ok (.enter f args') w /\ Calls P f args' w fun e w' => ∃ v' μ', e = .returned v' /\ μ.le μ' /\ zbp B N μ' H' w' /\ Below N w w' /\ zaq μ' v v') := by
 unfold zk9 at hv; rw [zac] at hv; obtain ⟨u, h1, h2⟩ := hv
 cases h2; obtain ⟨h3, h4⟩ := k h1
 exact .inr ⟨h3, h4.mono fun e w' hh => by obtain ⟨v', g1, g2, g3⟩ := hh; exact ⟨v', μ, g1, μ.le_refl, hH.below g3, g3.mono hH.size, g2⟩⟩
theorem zc3.wanted {n : Nat} (R : zc3 μ n tm tmps) {o : Oper} {w : Bool} (h : zbi o.guard all tm = some w) : Region.wanted o (yielded all tmps) = w := by
 unfold zbi z8q at h; unfold Region.wanted
 cases hg : o.guard with
 | none => rw [hg] at h; cases h; rfl
 | some jw =>
  obtain ⟨j, want⟩ := jw
  rw [hg] at h; simp only [zyk, zac, zbs] at h; obtain ⟨d, ⟨u, hu, hud⟩, v, hv, h⟩ := h
  have hu' : all[j]? = some u := by simp_all
  have hy : yielded all tmps j = match tmps[d]? with | some (.bool b) => some b | _ => none := by
   grind [yielded]
  simp only []; rw [hy]; have rel := R.2 d v hv
  by_cases hd : d < n
  ·have hs : d < tmps.size := by rw [R.1]; exact hd
   have e1 : tmps[d]? = some (tmps.getD d undef) := by simp_all
   rw [e1]; generalize tmps.getD d undef = x at rel
   cases hb : v.asBool with
   | some b =>
    rw [hb] at h; have : v = .bool b := by cases v <;> simp [zab.asBool] at hb; rw [hb]
    rw [this, zaq] at rel; subst rel; simp only [Option.some.injEq] at h; rw [<- h, zoq]
    cases b <;> cases want <;> rfl
   | none =>
    rw [hb] at h
    cases h
    cases x with
    | bool b => rw [zyl rel] at hb; cases hb
    | _ => rfl
  ·have e1 : tmps[d]? = none := by simp [R.1]; omega
   rw [e1]; rw [zl2 (by simp_all)] at rel
   cases hb : v.asBool with
   | some b =>
    have : v = .bool b := by cases v <;> simp [zab.asBool] at hb; rw [hb]
    rw [this, zaq] at rel
    cases rel
   | none => simp_all
theorem z17 {fr : zap} {c : Frame} {w' : World} {v : zab} {v' : Value} {m : Machine} (hw : zgy C μ acs.length none fr c) (hcs : Frs C μ acs cs) (hm : μ.le ν) (hH : zbp B N ν H' w') (hb : Below N w w') (hv : zaq ν v v')
  (hs : Steps P m (lone (c.finish v') (cs ++ base) w')) : zci P C B N μ base m w (zzmc v H' C fr acs H) := by
 unfold zzmc
 cases hx : ob (zb4 fr v) fun fr => some (⟨fr, acs, H'⟩ : zij) with
 | none => exact trivial
 | some s =>
  rw [zac] at hx; obtain ⟨fr', hf, hx⟩ := hx
  cases hx; exact ⟨ν, _, cs, w', hs, hm, hb, hH, zic (hw.mono hm) hf hv, hcs.mono hm⟩
theorem zoe {dp : Nat} (hF : z06 P C) {f : Nat} {args : List zab} {args' : Array Value} {d : Bool} {g : zap} {cur : Option zaf} (h : zeg C f args d = some g) (hl : zbw μ args args'.toList) :
  zgy C μ dp cur g (Frame.enter P f args' (if d then .deferred else .normal)) /\ ∃ fn, C.fns.get f = some fn /\ fn.body.isSome = true := by
 unfold zeg at h; simp only [zac, zae, ybb, zg3] at h; obtain ⟨fn, hfn, c, hc, k, hk, ⟨h1, h2⟩, h3⟩ := h
 cases h3; obtain ⟨h4, _⟩ := hF f fn hfn
 have hsz : args'.size = args.length := by have := hl.length; omega
 rw [za1] at h1 h2; have size : (Frame.enter P f args' (if d then .deferred else .normal)).tmps.size = fn.ntmps := by
  grind [Frame.enter]
 refine ⟨⟨⟨rfl, size, .nil, trivial, rfl, trivial⟩, ?_⟩, fn, hfn, by grind⟩
 show zea C μ dp fn.ntmps cur [.code c] ⟨k, Tr.ofList args, []⟩ (Frame.enter P f args' (if d then .deferred else .normal)).todo (Frame.enter P f args' (if d then .deferred else .normal)).tmps
 have todo : (Frame.enter P f args' (if d then .deferred else .normal)).todo = [.code c] := by grind [Frame.enter]
 rw [todo]; refine .plain (.cons (.code c) .nil) ⟨size, fun i v hv => ?_⟩
 unfold Tm.get at hv; simp only [zqk] at hv; split at hv
 ·rw [Tr.get_ofList] at hv
  obtain ⟨x, hx, hr⟩ := hl.get hv
  have hi : i < args'.size := by grind
  simp_all [Frame.enter, yaj]
 ·cases hv
theorem zza6 (hF : z06 P C) {fr : zap} {c : Frame} {f : Nat} {args : List zab} {m : Machine} (hw : zgy C μ acs.length none fr c) (hcs : Frs C μ acs cs) (hH : zbp B N μ H w)
  (hs : ∀ fn, C.fns.get f = some fn -> fn.body.isSome = true -> ∃ args', zbw μ args args'.toList /\ Steps P m (lone (Frame.enter P f args' .normal) (c :: (cs ++ base)) w)) :
  zci P C B N μ base m w (zzg f args C fr acs H) := by
 unfold zzg
 cases hx : zeg C f args false with
 | none => exact trivial
 | some g =>
  obtain ⟨fn, h1, h2⟩ : ∃ fn, C.fns.get f = some fn /\ fn.body.isSome = true := by
   grind [zeg, zac]
  obtain ⟨args', h3, h4⟩ := hs fn h1 h2
  exact ⟨μ, _, c :: cs, w, h4, fun _ _ h => h, Below.refl N w, hH, (zoe hF hx h3).1, .cons hw hcs⟩
end
end Go.Am
namespace Go.Am
open Go Go.RowKit
theorem zu8 : ∀ (l : List Oper) (t : Tr zab) (i : Nat) (v : zab), (zve l t).get i = some v -> t.get i = some v /\ ∀ o ∈ l, o.dst ≠ some i := by
 intro l; induction l with
 | nil => intro t i v h; exact ⟨h, fun _ ho => by cases ho⟩
 | cons o l ih =>
  grind [zve, Tr.get_del]
theorem zce.left {μ : Mu} {all : Array Oper} {olds : List (Nat × List Nat)} {anc : Tr Nat} {n : Nat} {old tm : Tm} {D : Nat} {S : Nat -> Bool} {order : List Nat} {tmps : Array Value} (R : zce μ all olds anc n old tm D S order tmps) :
  zc3 μ n ⟨tm.k, zve all.toList tm.v, []⟩ tmps := by
 refine ⟨R.size, fun t v hv => ?_⟩
 unfold Tm.get at hv; simp only [zqk] at hv; split at hv
 case isFalse => cases hv
 rename_i hk; obtain ⟨h1, h2⟩ := zu8 _ _ _ _ hv
 have hv : tm.get t = some v := by grind [Tm.get, zqk]
 have hw : ∀ (i : Nat) (o : Oper), all[i]? = some o -> o.dst = some t -> False := fun i o ho hd => h2 o (by
  grind) hd
 by_cases hn : t < n
 ·have k := R.keep t hn fun i o a b => (hw i o a b).elim
  exact R.past t v hn (fun i o a b => (hw i o a b).elim) (by simp_all)
 ·rw [zl2 (by rw [R.size]; omega)]
  exact R.big t v (by omega) (.inl hv)
theorem zea.left {C : Ctx} {μ : Mu} {dp n : Nat} {cur : Option zaf} {todo : List zcj} {tm : Tm} {btodo : List Item} {tmps : Array Value} (h : zea C μ dp n cur todo tm btodo tmps) : zc3 μ n (zz0 todo tm) tmps := by
 cases h with
 | plain a t =>
  cases a with
  | nil => exact t
  | cons x l => cases x <;> exact t
 | reg a _ _ _ => exact a.left
 | mid a _ _ _ _ => exact a.left
 | wait a _ _ _ _ => exact a.left
theorem zfd.append {α β : Type} {R : α -> β -> Prop} {l l' : List α} {m m' : List β} (h : zfd R l m) (h' : zfd R l' m') : zfd R (l ++ l') (m ++ m') := by
 induction h with
 | nil => exact h'
 | cons a _ ih => exact .cons a ih
theorem zc3.left {μ : Mu} {n : Nat} {tm : Tm} {tmps : Array Value} (h : zc3 μ n tm tmps) (todo : List zcj) : zc3 μ n (zz0 todo tm) tmps := by
 unfold zz0; split
 ·refine ⟨h.1, fun t v hv => h.2 t v ?_⟩
  unfold Tm.get at hv ⊢
  simp only [zqk] at hv ⊢
  split at hv
  ·grind [zu8]
  ·cases hv
 ·exact h
theorem z4k {C : Ctx} {μ : Mu} {dp : Nat} {cur cur' : Option zaf} {fr : zap} {b : Frame} {l : List zqc} {l' : List PanicEntry} (h : zgy C μ dp cur fr b) (hl : zfd (zi4 μ) l l') : zgy C μ dp cur' (zk8 fr l) (b.raise l') := by
 have t : zc3 μ fr.R.n (zz0 fr.todo fr.tm) b.tmps := by
  have := h.body
  split at this
  ·exact this.left
  ·exact this.left _
 have r := h.rest
 obtain ⟨todo, tm, fn, n, defers, mode, deferred, round⟩ := fr
 obtain ⟨bfn, btmps, btodo, bdefers, bmode, bkind, bround⟩ := b
 have m := r.mode
 cases mode <;> cases bmode <;> first | exact m.elim | skip
 ·exact ⟨⟨r.fn, r.size, r.defers, hl, r.kind, r.round⟩, t⟩
 ·exact ⟨⟨r.fn, r.size, r.defers, hl, r.kind, r.round⟩, t⟩
 ·refine ⟨⟨r.fn, r.size, r.defers, ?_, r.kind, r.round⟩, t⟩
  show zfd (zi4 μ) (zfp l _) _
  rw [zca]; exact hl.append m
end Go.Am
namespace Go.Am
open Go Go.RowKit
section
variable {P : Program} {C : Ctx} {B N : Nat} {I : World -> Prop} {μ ν : Mu} {H H' : zaf} {w : World} {tm : Tm} {R : zgz} {acs : List zap} {base cs : List Frame}
variable {b : Frame} {tmps : Array Value} {ds : List Deferred} {k : List zcj} {k' : List Item} {all : Array Oper}
theorem zza5 {fr : zap} {c : Frame} {v : zab} {v' : Value} {m : Machine} {cur : Option zaf} (hw : zgy C μ acs.length cur fr c) (hcs : Frs C μ acs cs) (hH : zbp B N μ H w) (hv : zaq μ v v')
  (hs : Steps P m (lone (c.raise [{ v := v', recovered := false }]) (cs ++ base) w)) : zci P C B N μ base m w (zzju v C fr acs H) :=
 ⟨μ, _, cs, w, hs, fun _ _ h => h, Below.refl N w, hH, z4k hw (.cons ⟨hv, rfl, rfl⟩ .nil), hcs⟩
theorem z1q {i : Nat} {rest : List Nat} {o : Oper} {v : Value} {cs : List Frame} {w' : World} (ho : all[i]? = some o) (hw : Region.wanted o (yielded all tmps) = true) (hd : ∀ c, o.op ≠ .defer c)
  (h : (execOp (Act.eval ⟨tmps, ds⟩) o).run P w = .halt (.panic v) w') :
  step P (lone (b.atR ⟨tmps, ds⟩ (.inRegion all (i :: rest) :: k')) cs w) = .next (lone ((b.atR ⟨tmps, ds⟩ (.inRegion all (i :: rest) :: k')).raise [{ v, recovered := false }]) cs w') :=
 step_lone_go (by
  simp_all [stepGR_op, Oper.semAt_eq, stepG.apply])
theorem zlc (hH : zbp B N μ H w) {l : Nat} {r : zj1} (h : zdr H l = some r) {i : BI} (h4 : μ l = some i) : B <= l /\ ∃ r', H.t.get l = some (.loop r) /\ w.heap[i.b]? = some (.loop r') /\ ztk μ r r' := by
 unfold zdr at h; rw [zae, zg3, zac] at h; obtain ⟨h1, x, h2, h3⟩ := h
 have : x = .loop r := by cases x <;> simp [zav.asLoop] at h3; rw [h3]
 subst this; obtain ⟨o, h5, h6⟩ := hH.blk l _ i h2 h4
 rw [zou] at h6; obtain ⟨r', rfl, h7⟩ := h6
 refine ⟨Nat.le_of_not_lt fun hlt => ?_, r', h2, h5, h7⟩
 have := (hH.low l _ i hlt h2 h4).2.1
 cases this
theorem zh2 {l : Nat} {r : Loop} (h : w.heap[l]? = some (.loop r)) : (Instr.getLoop l).run P w = .ok r w := by
 simp_all [Instr.getLoop, getObj, Sem.run]
theorem z00 {o : Op} (h : ∃ c, o = .defer c) (C : Ctx) (e : Env) (H : zaf) : (aop o).f C e H = .fail \/ ∃ d, (aop o).f C e H = .defer d := by
 obtain ⟨c, rfl⟩ := h
 show (zqy c c.callee).f C e H = .fail \/ ∃ d, (zqy c c.callee).f C e H = .defer d
 cases c.callee with
 | value f =>
  show zzgr (ob (zeo f c.args e) fun p => some (.defer ⟨some p.1, 0, zfp p.2.1 p.2.2⟩)) = .fail \/ ∃ d, zzgr (ob (zeo f c.args e) fun p => some (.defer ⟨some p.1, 0, zfp p.2.1 p.2.2⟩)) = .defer d
  cases zeo f c.args e with
  | none => exact .inl rfl
  | some p => exact .inr ⟨_, rfl⟩
 | _ => exact .inl rfl
theorem zy1 {n : Nat} : ∀ (ps : List Nat) (args : List zab) (tm tm' : Tm) (args' : List Value) (tmps : Array Value), ze1 n ps args tm = some tm' -> zbw μ args args' -> zc3 μ n tm tmps →
  args'.length = ps.length /\ zc3 μ n tm' ((ps.zip args').foldl (fun tmps x => tmps.setIfInBounds x.1 x.2) tmps) := by
 intro ps; induction ps with
 | nil =>
  intro args tm tm' args' tmps h hl ht
  cases args with
  | nil => rw [zbw] at hl; subst hl; cases h; simp_all
  | cons a as => cases h
 | cons p ps ih =>
  intro args tm tm' args' tmps h hl ht
  cases args with
  | nil => cases h
  | cons a as =>
   rw [zbw] at hl; obtain ⟨v, r, rfl, hv, hl⟩ := hl
   have := ih as _ _ r (tmps.setIfInBounds p v) h hl (ht.put (ds := []) (dst := some p) hv)
   simp_all
theorem z1p {i : Nat} {rest : List Nat} {o : Oper} {cs : List Frame} {l : Nat} {f : FuncId} {t : Array Value} {as bd : Code} {w' : World} (ho : all[i]? = some o) (hw : Region.wanted o (yielded all tmps) = true) (hd : ∀ c, o.op ≠ .defer c)
  (h : (execOp (Act.eval ⟨tmps, ds⟩) o).run P w = .ok (.round l f t as bd) w') :
  step P (lone (b.atR ⟨tmps, ds⟩ (.inRegion all (i :: rest) :: k')) cs w) = .next (lone (Frame.round l f t as bd .normal) (b.atR ⟨tmps, ds⟩ (.inRegion all (i :: rest) :: k') :: cs) w') :=
 step_lone_go (by
  rw [stepGR_op (a := ⟨tmps, ds⟩) ho hw, Oper.semAt_eq _ _ _ hd]
  simp_all [stepG.apply])
theorem z1r {i : Nat} {rest : List Nat} {o : Oper} {cs : List Frame} {d : Deferred} {w' : World} (ho : all[i]? = some o) (hw : Region.wanted o (yielded all tmps) = true) (hb : b.roundOf = none)
  (h : (execOp (Act.eval ⟨tmps, ds⟩) o).run P w = .ok (.defer d) w') :
  step P (lone (b.atR ⟨tmps, ds⟩ (.inRegion all (i :: rest) :: k')) cs w) = .next (lone ((b.atR ⟨tmps, d :: ds⟩ (.inRegion all (i :: rest) :: k')).finish undef) cs w') :=
 step_lone_go (by
  rw [stepGR_op (a := ⟨tmps, ds⟩) ho hw, hb, Oper.semAt_none]
  simp_all [stepG.apply, Frame.atR])
theorem zv9 {i : Nat} {rest : List Nat} {o : Oper} {cs : List Frame} {w' : World} (ho : all[i]? = some o) (hw : Region.wanted o (yielded all tmps) = true) (hd : ∀ c, o.op ≠ .defer c) (hb : b.roundOf = none)
  (h : (execOp (Act.eval ⟨tmps, ds⟩) o).run P w = .ok .recover w') :
  step P (lone (b.atR ⟨tmps, ds⟩ (.inRegion all (i :: rest) :: k')) cs w) = .next (match tryRecover (b.atR ⟨tmps, ds⟩ (.inRegion all (i :: rest) :: k')) cs with
   | some (v, cs) => lone ((b.atR ⟨tmps, ds⟩ (.inRegion all (i :: rest) :: k')).finish v) cs w'
   | none => lone ((b.atR ⟨tmps, ds⟩ (.inRegion all (i :: rest) :: k')).finish .nilIface) cs w') := by
 have e : (stepG P true { frame := b.atR ⟨tmps, ds⟩ (.inRegion all (i :: rest) :: k'), callers := cs, status := .running, dying := none } w).bare = match tryRecover (b.atR ⟨tmps, ds⟩ (.inRegion all (i :: rest) :: k')) cs with
   | some (v, cs) => .go { frame := (b.atR ⟨tmps, ds⟩ (.inRegion all (i :: rest) :: k')).finish v, callers := cs, status := .running, dying := none } w'
   | none => .go { frame := (b.atR ⟨tmps, ds⟩ (.inRegion all (i :: rest) :: k')).finish .nilIface, callers := cs, status := .running, dying := none } w' := by
  rw [stepGR_op (a := ⟨tmps, ds⟩) ho hw, Oper.semAt_eq _ _ _ hd]
  have hb' : (b.atR ⟨tmps, ds⟩ (.inRegion all (i :: rest) :: k')).roundOf = none := hb
  simp only [stepG.apply, Sem.runT_eq, h, GStep.bare_after, hb', if_true]
  cases tryRecover (b.atR ⟨tmps, ds⟩ (.inRegion all (i :: rest) :: k')) cs with
  | none => rfl
  | some p => simp_all
 grind [step_lone_go]
theorem zza4 {fr : zap} {c : Frame} {l : Nat} {i : BI} {args : List zab} {args' : Array Value} {m : Machine} (hw : zgy C μ acs.length none fr c) (hcs : Frs C μ acs cs) (hH : zbp B N μ H w) (hi : μ l = some i) (hl : zbw μ args args'.toList)
  (hs : ∀ f t as bd, (Instr.yield i.b args').run P w = .ok (.round i.b f t as bd) w -> Steps P m (lone (Frame.round i.b f t as bd .normal) (c :: (cs ++ base)) w)) : zci P C B N μ base m w (zzf l args C fr acs H) := by
 unfold zzf
 cases hx : ob (zdr H l) fun r => ob (ze1 r.n r.params args r.tm) fun tm => some (⟨⟨[.code r.assign, .beginRound, .code r.body], tm, ⟨r.fn, r.n, [], .run, false, some l⟩⟩, fr :: acs, H⟩ : zij) with
 | none => exact trivial
 | some s =>
  simp only [zac] at hx; obtain ⟨r, hr, tm', htm, hx⟩ := hx
  cases hx; obtain ⟨_, r', _, h3, h4⟩ := zlc hH hr hi
  obtain ⟨h5, h6⟩ := zy1 r.params args r.tm tm' args'.toList r'.tmps htm hl h4.tm
  rw [<- h4.params] at h5 h6; have sz : args'.size = r'.params.size := by omega
  have e : (r'.params.zip args').foldl (fun tmps x => tmps.setIfInBounds x.1 x.2) r'.tmps = (r'.params.toList.zip args'.toList).foldl (fun tmps x => tmps.setIfInBounds x.1 x.2) r'.tmps := by
   rw [<- Array.foldl_toList, Array.toList_zip]
  rw [<- e] at h6; refine ⟨μ, _, c :: cs, w, hs r'.fn ((r'.params.zip args').foldl (fun tmps x => tmps.setIfInBounds x.1 x.2) r'.tmps) r'.assign r'.body ?_, fun _ _ h => h, Below.refl N w, hH, ?_, .cons hw hcs⟩
  ·simp_all [Instr.yield, zh2]
  ·refine ⟨⟨h4.fn, h6.1, .nil, trivial, rfl, ⟨i, hi, rfl⟩⟩, ?_⟩
   show zea C μ (acs.length + 1) r.n _ _ _ [.code r'.assign, .beginRound, .code r'.body] _
   rw [h4.assign, h4.body]; exact .plain (.cons (.code _) (.cons .beginRound (.cons (.code _) .nil))) h6
theorem zvm (hS : Sim P C B N I) (hH : zbp B N μ H w) (hcs : Frs C μ acs cs) {fr : zap} {i : Nat} {rest : List Nat} {o : Oper} {r : zqb}
  (hfr : zgy C μ acs.length none fr (b.atR ⟨tmps, ds⟩ (.inRegion all (i :: rest) :: k'))) (ho : all[i]? = some o) (hw : Region.wanted o (yielded all tmps) = true)
  (hdef : (∃ c, o.op = .defer c) -> r = .fail \/ ∃ d, r = .defer d) (h : zyf P C B N μ H w (Act.eval ⟨tmps, ds⟩) o r) :
  zci P C B N μ base (lone (b.atR ⟨tmps, ds⟩ (.inRegion all (i :: rest) :: k')) (cs ++ base) w) w (zpo r C fr acs H) := by
 have hd : (∀ d, r ≠ .defer d) -> r ≠ .fail -> ∀ c, o.op ≠ .defer c := by
  intro h1 h2 c e; simp_all
 cases r with
 | fail => exact trivial
 | val v H' =>
  have hd := hd (fun _ h => by cases h) (fun h => by cases h)
  rcases h with h | ⟨f, args', h1, h2⟩
  ·obtain ⟨v', w', μ', s, hm, hH', hb, hv⟩ := zow (b := b) (k' := k') (rest := rest) (cs := cs ++ base) ho hw hd h
   refine z17 (H := H) hfr hcs hm hH' hb hv ?_
   rw [Frame.finish_atR, ho, yai, zlx]; exact .one s
  ·obtain ⟨v', w', s, μ', hm, hH', hb, hv⟩ := zvj (b := b) (k' := k') (rest := rest) (cs := cs ++ base) (R := fun v' w' => ∃ μ', μ.le μ' /\ zbp B N μ' H' w' /\ Below N w w' /\ zaq μ' v v') ho hw hd h1 (h2.mono fun e w' hh => by simp_all)
   refine z17 (H := H) hfr hcs hm hH' hb hv ?_
   grind [Frame.finish_atR, zlx]
 | enter f args =>
  have hd := hd (fun _ h => by cases h) (fun h => by cases h)
  exact zza6 hS.fns hfr hcs hH fun fn h1 h2 => by
   obtain ⟨args', h3, h4⟩ := h fn h1 h2
   exact ⟨args', h4, .one (zrl ho hw hd h3)⟩
 | round l args =>
  have hd := hd (fun _ h => by cases h) (fun h => by cases h)
  obtain ⟨i0, args', hi, hl, hrun⟩ := h
  exact zza4 hfr hcs hH hi hl fun f t as bd hy => .one (z1p ho hw hd (by simp_all))
 | defer d =>
  obtain ⟨_, d', h1, h2⟩ := h
  show zci P C B N μ base _ w (zza7 d C fr acs H)
  unfold zza7
  cases hr : fr.R.roundOf with
  | some l => exact trivial
  | none =>
   have hb : b.roundOf = none := by
    have := hfr.rest.round
    rw [hr] at this; change zi3 μ none b.roundOf at this
    cases hb : b.roundOf with
    | none => rfl
    | some l => rw [hb] at this; exact this.elim
   simp only []
   cases hf : zb4 fr zbj with
   | none => exact trivial
   | some g =>
    have := zic (cur := some H) hfr hf zlt
    refine ⟨μ, _, cs, w, .one (z1r ho hw hb h1), fun _ _ h => h, Below.refl N w, hH, ?_, hcs⟩
    rw [Frame.finish_atR] at this ⊢
    rw [zlx] at this ⊢
    have e : ∀ x, (Act.put ⟨tmps, d' :: ds⟩ x undef).tmps = (Act.put ⟨tmps, ds⟩ x undef).tmps := fun x => by cases x <;> rfl
    rw [e]; exact ⟨⟨this.rest.fn, this.rest.size, .cons h2 this.rest.defers, this.rest.mode, this.rest.kind, this.rest.round⟩, this.body⟩
 | panic v =>
  have hd := hd (fun _ h => by cases h) (fun h => by cases h)
  obtain ⟨v', h1, h2⟩ := h
  exact zza5 hfr hcs hH h2 (.one (z1q ho hw hd h1))
 | recover =>
  have hd := hd (fun _ h => by cases h) (fun h => by cases h)
  show zci P C B N μ base _ w (znn C fr acs H)
  unfold znn
  cases hr : fr.R.roundOf with
  | some l => exact trivial
  | none =>
   have hb : b.roundOf = none := by
    have := hfr.rest.round
    rw [hr] at this; change zi3 μ none b.roundOf at this
    cases hb : b.roundOf with
    | none => rfl
    | some l => rw [hb] at this; exact this.elim
   cases hk : fr.R.deferred with
   | false => exact trivial
   | true =>
    have hkind : b.kind = .deferred := by have := hfr.rest.kind; rw [hk] at this; exact this
    cases hcs with
    | nil => exact trivial
    | @cons c b1 acs1 cs1 hc hcs1 =>
     have st := zv9 (P := P) (b := b) (k' := k') (rest := rest) (cs := b1 :: (cs1 ++ base)) ho hw hd hb h
     have hm := hc.rest.mode
     have tr : ∀ todo, tryRecover (b.atR ⟨tmps, ds⟩ todo) (b1 :: (cs1 ++ base)) = match b1.mode with
       | .panicking ({ v, recovered := false, goexit := false } :: older) => some (v, { b1 with mode := .panicking ({ v, recovered := true } :: older) } :: (cs1 ++ base))
       | _ => none := by
      intro todo; obtain ⟨bfn, btmps, btodo, bdefers, bmode, bkind, bround⟩ := b
      simp only at hkind
      subst hkind; rfl
     rw [tr] at st; simp only []
     cases hcm : c.R.mode with
     | run =>
      rw [hcm] at hm
      cases hbm : b1.mode with
      | run =>
       rw [hbm] at st; simp only []
       cases hf : zb4 fr .niliface with
       | none => exact trivial
       | some g => exact ⟨μ, _, b1 :: cs1, w, .one st, fun _ _ h => h, Below.refl N w, hH, zic hfr hf (by rw [zaq]), .cons hc hcs1⟩
      | _ => rw [hbm] at hm; exact hm.elim
     | returning =>
      rw [hcm] at hm
      cases hbm : b1.mode with
      | returning =>
       rw [hbm] at st; simp only []
       cases hf : zb4 fr .niliface with
       | none => exact trivial
       | some g => exact ⟨μ, _, b1 :: cs1, w, .one st, fun _ _ h => h, Below.refl N w, hH, zic hfr hf (by rw [zaq]), .cons hc hcs1⟩
      | _ => rw [hbm] at hm; exact hm.elim
     | panicking ch =>
      rw [hcm] at hm
      cases hbm : b1.mode with
      | run => rw [hbm] at hm; exact hm.elim
      | returning => rw [hbm] at hm; exact hm.elim
      | panicking ch' =>
       rw [hbm] at hm st
       cases hm with
       | nil => exact trivial
       | @cons p e older older' hp hold =>
        obtain ⟨pv, pr⟩ := p
        cases pr with
        | true => exact trivial
        | false =>
         obtain ⟨ev', er, eg⟩ := e
         obtain ⟨q1, q2, q3⟩ := hp
         simp only at q1 q2 q3
         subst q2 q3
         simp only []
         cases hf : zb4 fr pv with
         | none => exact trivial
         | some g =>
          have fin := zic (cur := some H) hfr hf q1
          refine ⟨μ, _, { b1 with mode := .panicking ({ v := ev', recovered := true } :: older') } :: cs1, w, .one st, fun _ _ h => h, Below.refl N w, hH, fin, .cons ?_ hcs1⟩
          refine ⟨⟨hc.rest.fn, hc.rest.size, hc.rest.defers, .cons ⟨q1, rfl, rfl⟩ hold, hc.rest.kind, hc.rest.round⟩, ?_⟩
          have := hc.body
          rw [hcm] at this; exact this
end
end Go.Am
namespace Go.Am
open Go Go.RowKit
section
variable {P : Program} {C : Ctx} {B N : Nat} {μ : Mu} {H H' Hs : zaf} {w : World}
def RE.on (C : Ctx) (e : RE) (x : zav) : Option zav :=
 match e with
 | .st b off l => zaj (!Nat.blt b C.base) (ob x.asCells fun c => zaj (Nat.ble (off + zbf l) c.2.1 && zfh zab.one l) (some (.cells (c.1.setMany l off) c.2.1 c.2.2)))
 | .up b k v => zaj (!Nat.blt b C.base) (ob x.asMap fun m => some (.map (zfp m [(k, v)])))
theorem zid {e : RE} : zor C H e = some H' ↔ ∃ x y, H.t.get e.blk = some x /\ e.on C x = some y /\ H' = setBlk H e.blk y := by
 cases e with
 | st b off l =>
  grind [zor, zdw, zax, RE.on, RE.blk, zac, zae]
 | up b k v =>
  grind [zor, zf6, RE.on, RE.blk, zac, zae]
theorem zgl {b a : Nat} {x : zav} : (setBlk H b x).t.get a = if a = b then some x else H.t.get a := Tr.get_set _ _ _ _
def zot (a b : RE) : Prop := a.blk ≠ b.blk \/ ∃ c k v k' v', a = .up c k v /\ b = .up c k' v' /\ zfq k k' = some false
theorem zot.symm {a b : RE} (h : zot a b) : zot b a := by
 rcases h with h | ⟨c, k, v, k', v', rfl, rfl, h⟩
 ·exact .inl fun e => h e.symm
 ·exact .inr ⟨c, k', v', k, v, rfl, rfl, zjs h⟩
theorem zzev {a b : RE} (h : zzew a b = true) : zot a b := by
 unfold zzew at h; rw [zay] at h; split at h
 ·rename_i e
  cases a with
  | st => cases h
  | up c k v =>
   cases b with
   | st => cases h
   | up c' k' v' =>
    have e : c = c' := zds.1 e
    subst e; simp only [zzbq] at h; split at h
    ·rename_i r hr
     cases r with
     | true => cases h
     | false => exact .inr ⟨c, k, v, k', v', rfl, rfl, hr⟩
    ·cases h
 ·rename_i e
  exact .inl fun k => e (zds.2 k)
theorem z0z : ∀ {l : List RE}, z5w l = true -> l.Pairwise zot
 | [], _ => .nil
 | a :: l, h => by
  unfold z5w at h; rw [ybb, zc5, ycb] at h; exact .cons (fun b hb => zzev (h.1 b hb)) (z0z h.2)
def zph (b : Nat) : List RE -> List (zab × zab)
 | [] => []
 | .st _ _ _ :: l => zph b l
 | .up c k v :: l => if c = b then (k, v) :: zph b l else zph b l
theorem zki {b : Nat} : ∀ {l m : List RE}, zph b (l ++ m) = zph b l ++ zph b m
 | [], _ => rfl
 | .st _ _ _ :: l, m => zki (l := l)
 | .up c k v :: l, m => by
  rw [List.cons_append, zph, zph, zki (l := l)]
  split <;> simp
theorem zl3 {b : Nat} {p : zab × zab} : ∀ {l : List RE}, p ∈ zph b l -> .up b p.1 p.2 ∈ l
 | .st _ _ _ :: l, h => .tail _ (zl3 (l := l) h)
 | .up c k v :: l, h => by
  rw [zph] at h; split at h
  ·rename_i e
   subst e; rcases ybs.1 h with rfl | h
   ·grind
   ·exact .tail _ (zl3 h)
  ·exact .tail _ (zl3 h)
theorem zzdr {b : Nat} {l : List RE} (h : ∀ e ∈ l, e.blk ≠ b) : zph b l = [] := by
 cases hx : zph b l with
 | nil => rfl
 | cons p r =>
  have : p ∈ zph b l := by simp_all
  exact absurd rfl (h _ (zl3 this))
theorem zzdq {b : Nat} {l m : List RE} (p : l.Perm m) : (zph b l).Perm (zph b m) := by
 induction p with
 | nil => exact .refl _
 | cons x _ ih =>
  cases x with
  | st => exact ih
  | up c k v =>
   rw [zph, zph]; split
   all_goals simp_all
 | swap x y l =>
  cases x with
  | st => cases y <;> exact .refl _
  | up c k v =>
   cases y with
   | st => exact .refl _
   | up c' k' v' =>
    simp only [zph]; split <;> split <;> first | exact .refl _ | exact .swap _ _ _
 | trans _ _ h1 h2 => exact h1.trans h2
theorem zznt {b : Nat} {l : List RE} (h : l.Pairwise zot) : DK (zph b l) := by
 unfold DK; induction l with
 | nil => exact .nil
 | cons x l ih =>
  rw [List.pairwise_cons] at h
  cases x with
  | st => exact ih h.2
  | up c k v =>
   rw [zph]; split
   ·rename_i e
    subst e; refine .cons (fun p hp => ?_) (ih h.2)
    rcases h.1 _ (zl3 hp) with h1 | ⟨_, _, _, _, _, e1, e2, h1⟩
    ·exact absurd rfl h1
    simp_all
   simp_all
structure zx8 (C : Ctx) (H : zaf) (s : List RE) (Hs : zaf) : Prop where
 next : Hs.next = H.next
 st : ∀ b off l, RE.st b off l ∈ s -> ∃ x y, H.t.get b = some x /\ (RE.st b off l).on C x = some y /\ Hs.t.get b = some y
 up : ∀ b k v, RE.up b k v ∈ s -> Hs.t.get b = some (.map (zph b s))
 no : ∀ a, (∀ e ∈ s, e.blk ≠ a) -> Hs.t.get a = H.t.get a
theorem zx8.nil : zx8 C H [] H := ⟨rfl, fun _ _ _ h => (by cases h), fun _ _ _ h => (by cases h), fun _ _ => rfl⟩
def zze3 (C : Ctx) (H : zaf) (e : RE) : Prop :=
 match e with
 | .st _ _ _ => ∃ H', zor C H e = some H'
 | .up b _ _ => Nat.blt b C.base = false /\ H.t.get b = some (.map [])
theorem zzaz {e : RE} (h : zur C H e = true) : zze3 C H e := by
 cases e with
 | st b off l =>
  change (!za4 (zdw C H b off l)) = true at h
  cases hs : zdw C H b off l with
  | none => rw [hs] at h; cases h
  | some H' => exact ⟨H', hs⟩
 | up b k v =>
  unfold zur at h; simp only [ybb, ycp] at h; refine ⟨h.1, ?_⟩
  grind [zkm]
theorem zx8.step {s : List RE} {e : RE} (h : zx8 C H s Hs) (hr : zze3 C H e) (ha : ∀ x ∈ s, zot x e) : ∃ H', zor C Hs e = some H' /\ zx8 C H (s ++ [e]) H' /\ (∀ b k v, e = .up b k v -> ∃ m, Hs.t.get b = some (.map m) /\ Nat.blt b C.base = false /\ (∀ p ∈ m, zfq k p.1 = some false) /\ H' = setBlk Hs b (.map (m ++ [(k, v)]))) := by
 cases e with
 | st b off l =>
  have hne : ∀ x ∈ s, x.blk ≠ b := fun x hx => by
   rcases ha x hx with h1 | ⟨_, _, _, _, _, _, h1, _⟩
   ·exact h1
   grind
  obtain ⟨H1, h1⟩ := hr
  obtain ⟨x, y, hx, hy, rfl⟩ := zid.1 h1
  have hx : H.t.get b = some x := hx
  have hg := h.no b hne
  refine ⟨setBlk Hs b y, zid.2 ⟨x, y, by show Hs.t.get b = _; simp_all, hy, rfl⟩, ⟨h.next, fun b' off' l' hm => ?_, fun b' k v hm => ?_, fun a ha' => ?_⟩, fun _ _ _ e => by cases e⟩
  ·rcases yaf.1 hm with hm | hm
   ·obtain ⟨u, v, g1, g2, g3⟩ := h.st b' off' l' hm
    refine ⟨u, v, g1, g2, ?_⟩
    rw [zgl, yaa (show ¬ b' = b from hne _ hm)]
    exact g3
   grind [zgl]
  ·rcases yaf.1 hm with hm | hm
   ·rw [zgl, yaa (show ¬ b' = b from hne _ hm), h.up b' k v hm, zki]
    simp [zph]
   grind
  ·rw [zgl, yaa (fun e => ha' (.st b off l) (by simp) e.symm)]
   exact h.no a fun e he => ha' e (by simp [he])
 | up b k v =>
  obtain ⟨hb, hm⟩ := hr
  have hst : ∀ b' off l, RE.st b' off l ∈ s -> b' ≠ b := fun b' off l hx => by
   rcases ha _ hx with h1 | ⟨_, _, _, _, _, h1, _, _⟩
   ·exact h1
   grind
  have hg : Hs.t.get b = some (.map (zph b s)) := by
   by_cases hex : ∃ e ∈ s, e.blk = b
   ·obtain ⟨e, he, hb'⟩ := hex
    cases e with
    | st b' off l => exact absurd hb' (hst _ _ _ he)
    | up b' k' v' =>
     have hb' : b' = b := hb'
     subst hb'
     exact h.up _ _ _ he
   ·have hn : ∀ e ∈ s, e.blk ≠ b := fun e he hb' => hex ⟨e, he, hb'⟩
    rw [h.no b hn, hm, zzdr hn]
  refine ⟨setBlk Hs b (.map (zph b s ++ [(k, v)])), zid.2 ⟨_, _, hg, ?_, rfl⟩, ⟨h.next, fun b' off' l' hm' => ?_, fun b' k' v' hm' => ?_, fun a ha' => ?_⟩, fun b' k' v' e => ?_⟩
  ·simp_all [RE.on, zaj, zav.asMap, zca]
  ·rcases yaf.1 hm' with hm' | hm'
   ·obtain ⟨u, x, g1, g2, g3⟩ := h.st b' off' l' hm'
    grind [zgl]
   simp_all
  ·rw [zgl, zki]
   by_cases e : b' = b
   ·grind [zph]
   ·rw [yaa e]
    have : zph b' [RE.up b k v] = [] := by grind [zph]
    rw [this, ycd]; rcases yaf.1 hm' with hm' | hm'
    ·exact h.up b' k' v' hm'
    simp_all
  ·rw [zgl, yaa (fun e => ha' (.up b k v) (by simp) e.symm)]
   exact h.no a fun e he => ha' e (by simp [he])
  ·cases e
   refine ⟨_, hg, hb, fun p hp => ?_, rfl⟩
   rcases ha _ (zl3 hp) with h1 | ⟨_, _, _, _, _, e1, e2, h1⟩
   ·exact absurd rfl h1
   grind [zjs]
theorem zx8.list {s l : List RE} (h : zx8 C H s Hs) (hr : ∀ e ∈ l, zze3 C H e) (ha : (s ++ l).Pairwise zot) : ∀ {H'}, zs9 C l Hs = some H' -> zx8 C H (s ++ l) H' := by
 induction l generalizing s Hs with
 | nil => intro H' hl; cases hl; simp_all
 | cons e l ih =>
  intro H' hl; unfold zs9 at hl; rw [zac] at hl; obtain ⟨H1, h1, hl⟩ := hl
  have hap : ∀ x ∈ s, zot x e := fun x hx => by
   grind
  obtain ⟨H2, g1, g2, _⟩ := h.step (hr e (.head _)) hap
  rw [h1] at g1; cases g1
  have := ih g2 (fun x hx => hr x (.tail _ hx)) (by simp_all) hl
  rwa [ybz] at this
structure HEq' (μ : Mu) (H H' : zaf) : Prop where
 next : H'.next = H.next
 get : ∀ a, H'.t.get a = H.t.get a \/ ((∃ i, μ a = some i) /\ ∃ m m', H.t.get a = some (.map m) /\ H'.t.get a = some (.map m') /\ m.Perm m' /\ DK m)
theorem zx8.perm {s s' : List RE} {H1 H2 : zaf} (h : zx8 C H s H1) (h' : zx8 C H s' H2) (p : s.Perm s') (ha : s.Pairwise zot) (hm : ∀ e ∈ s, ∃ i, μ e.blk = some i) : HEq' μ H1 H2 := by
 refine ⟨h'.next.trans h.next.symm, fun a => ?_⟩
 by_cases hex : ∃ e ∈ s, e.blk = a
 ·obtain ⟨e, he, rfl⟩ := hex
  cases e with
  | st b off l =>
   obtain ⟨x, y, g1, g2, g3⟩ := h.st b off l he
   obtain ⟨x', y', g1', g2', g3'⟩ := h'.st b off l (p.mem_iff.1 he)
   rw [g1] at g1'; cases g1'
   rw [g2] at g2'; cases g2'
   exact .inl (g3'.trans g3.symm)
  | up b k v => exact .inr ⟨hm _ he, _, _, h.up b k v he, h'.up b k v (p.mem_iff.1 he), zzdq p, zznt ha⟩
 ·left
  rw [h.no a fun e he hb => hex ⟨e, he, hb⟩, h'.no a fun e he hb => hex ⟨e, p.mem_iff.2 he, hb⟩]
theorem zbp.congr' (hH : zbp B N μ H w) (h : HEq' μ H H') : zbp B N μ H' w := by
 have hle : ∀ a y, H'.t.get a = some y -> ∃ x, H.t.get a = some x /\ (y = x \/ ∃ m m', x = .map m /\ y = .map m' /\ m.Perm m' /\ DK m) := by
  intro a y hy; rcases h.get a with e | ⟨_, m, m', h1, h2, h3⟩
  all_goals grind
 refine ⟨hH.base, hH.glob, fun a x i ha hx hi => ?_, by rw [h.next]; exact hH.next, hH.size, fun a ha => ?_, fun a x i hx hi => ?_, hH.own, fun a b x y i j hx hy hi hj ha hb e => ?_, fun a x t hp => ?_⟩
 ·obtain ⟨y, hy, hxy⟩ := hle a x hx
  obtain ⟨g1, g2, g3⟩ := hH.low a y i ha hy hi
  rcases hxy with rfl | ⟨m, m', rfl, rfl, _⟩
  ·simp_all
  ·exact ⟨g1, rfl, rfl⟩
 ·rw [h.next] at ha
  obtain ⟨g1, g2⟩ := hH.fresh a ha
  refine ⟨g1, ?_⟩
  rcases h.get a with e | ⟨_, m, m', h1, _⟩
  all_goals simp_all
 ·obtain ⟨y, hy, hxy⟩ := hle a x hx
  obtain ⟨o, g1, g2⟩ := hH.blk a y i hy hi
  refine ⟨o, g1, ?_⟩
  rcases hxy with rfl | ⟨m, m', rfl, rfl, hp, hd⟩
  ·exact g2
  ·obtain ⟨es, clock, l', h1, h2, h3⟩ := g2
   refine ⟨es, clock, l', h1, ?_, h3⟩
   rcases h2 with rfl | ⟨h2, _⟩
   ·exact .inr ⟨hp.symm, hd.perm hp⟩
   ·exact .inr ⟨hp.symm.trans h2, hd.perm hp⟩
 ·obtain ⟨x', hx', _⟩ := hle a x hx
  obtain ⟨y', hy', _⟩ := hle b y hy
  exact hH.inj a b x' y' i j hx' hy' hi hj ha hb e
 ·obtain ⟨g1, g2, g3⟩ := hH.pnd a x t hp
  refine ⟨g1, ?_, g3⟩
  rcases h.get a with e | ⟨⟨i, hi⟩, _⟩
  all_goals simp_all
theorem zzdt (hT : zdh P C) (hbase : B <= C.base) (hH : zbp B N μ Hs w) {e : Env} {ρ : Operand -> Value} (hE : zil μ e ρ) {o : Oper} {ef : Eff} {re : RE} (h1 : zxm o.op e = some ef) (h2 : zzau C ef = some re)
  (h3 : zor C Hs re = some H') (h4 : ∀ b k v, re = .up b k v -> ∃ m, Hs.t.get b = some (.map m) /\ Nat.blt b C.base = false /\ (∀ p ∈ m, zfq k p.1 = some false) /\ H' = setBlk Hs b (.map (m ++ [(k, v)]))) :
  z3s P B N μ w ρ o zbj H' /\ ∃ i, μ re.blk = some i := by
 obtain ⟨dst, op, type, pos, after, guard⟩ := o
 have ups : ∀ {t : Nat} {m k x : Operand}, (ob (ev m e) fun m => ob (ev k e) fun k => ob (ev x e) fun v => some (Eff.upd t m k v)) = some ef -> zlk t m k x C e Hs = .val zbj H' /\ ∃ i, μ re.blk = some i := by
  intro t m k x h1; simp only [zac] at h1; obtain ⟨mv, hm, kv, hk, xv, hx, h1⟩ := h1
  cases h1; simp only [zzau, zac, zae, ybb] at h2; obtain ⟨ty, hty, ke, hke, kty, hkty, ⟨hkd, hfit⟩, b, hb, h2⟩ := h2
  cases h2; obtain ⟨l, hl, hbb, hfr, rfl⟩ := h4 b kv xv rfl
  have hbm : zf6 Hs b = some l := by unfold zf6; rw [hl]; rfl
  constructor
  ·unfold zlk
   simp only [hty, hke, hkty, hkd, hm, hb, hbb, hbm, hk, hfit, hx, zad, zaj, cond_true, ycl, zm0 hfr]; rfl
  ·have := hE _ _ hm
   rw [zl7] at hb; subst hb; rw [zaq] at this; obtain ⟨i, hi, _⟩ := this
   exact ⟨i, hi⟩
 cases op <;> try (cases h1; done)
 case insert t m k x =>
  obtain ⟨g1, g2⟩ := ups h1
  exact ⟨(zl1 (P := P) hT hbase hH hE g1).2, g2⟩
 case mapUpdate t m k x =>
  obtain ⟨g1, g2⟩ := ups h1
  grind [zl1]
 case store t a x =>
  simp only [zxm, zac] at h1; obtain ⟨av, ha, xv, hx, h1⟩ := h1
  cases h1; simp only [zzau, zac, zae] at h2; obtain ⟨ty, hty, p, hp, hsz, h2⟩ := h2
  cases h2; constructor
  ·refine zz9 (P := P) hT hbase hH hE ?_
   unfold z0a; have h3' : zdw C Hs p.1 p.2 xv.cells = some H' := h3
   simp only [hty, ha, hp, hx, zad, hsz, zaj, cond_true, h3']; rfl
  ·have := hE _ _ ha
   rw [zgo] at hp; subst hp; rw [zaq] at this; obtain ⟨i, hi, _⟩ := this
   exact ⟨i, hi⟩
end
end Go.Am
namespace Go.Am
open Go Go.RowKit
section
variable {P : Program} {C : Ctx} {B N : Nat} {μ : Mu} {H H' H1 : zaf} {w : World} {all : Array Oper} {olds : List (Nat × List Nat)} {anc : Tr Nat} {n : Nat} {old tm tm' : Tm} {D D' D1 : Nat} {S : Nat -> Bool} {order : List Nat} {tmps : Array Value} {ds : List Deferred} {dp : Nat}
variable {b : Frame} {k : List Item} {cs : List Frame}
theorem zce.congrD (h : ∀ k, tb D k = tb D' k) (R : zce μ all olds anc n old tm D S order tmps) : zce μ all olds anc n old tm D' S order tmps := by
 have e : tb D = tb D' := funext h
 exact ⟨R.reg, R.sched, fun i hi => by rw [<- h]; exact R.sub i hi, R.closed, by rw [<- e]; exact R.dclosed, R.size, R.now, R.past, fun d hd hw => R.keep d hd fun i o h1 h2 => by simp_all, R.big⟩
theorem zb5.congrD (h : ∀ k, tb D k = tb D' k) (p : zb5 C μ dp H all olds n old tm D S) : zb5 C μ dp H all olds n old tm D' S := fun i hi => p i (by simp_all)
theorem zrw {α : Type} {R : α -> α -> Prop} (hs : ∀ a b, R a b -> R b a) : ∀ {l : List α}, l.Pairwise R -> ∀ a ∈ l, ∀ b ∈ l, a ≠ b -> R a b
 | [], _, a, ha, _, _, _ => by cases ha
 | x :: l, h, a, ha, b, hb, hne => by
  rw [List.pairwise_cons] at h; rcases ybs.1 ha with rfl | ha'
  ·grind
  ·rcases ybs.1 hb with rfl | hb'
   ·simp_all
   ·exact zrw hs h.2 a ha' b hb' hne
theorem zzmf {l m : List Nat} (h1 : l.Nodup) (h2 : m.Nodup) (h : ∀ i, i ∈ l ↔ i ∈ m) : l.Perm m := (List.perm_ext_iff_of_nodup h1 h2).2 h
theorem zzhj {o : Oper} (hl : zz7 o.op = true) (ho : z4z C o = true) (e : Env) (H2 : zaf) : (zb2 o.op).f C e H = (zb2 o.op).f C e H2 := by
 obtain ⟨dst, op, type, pos, after, guard⟩ := o
 cases op <;> try (cases hl; done)
 rename_i c; simp only [zz7] at hl; split at hl
 case h_2 => cases hl
 rename_i hc; simp only [z4z, hc] at ho; simp only [zb2, zzmy, hc, zgj, zqx, z2q]
 cases ht : zev c.argTypes.toList 0 with
 | none => rfl
 | some t =>
  rw [ht, zad] at ho; simp only [zad]
  cases hx : zev c.args.toList 0 with
  | none => rfl
  | some x =>
   simp only [zad]
   cases hy : C.tys.get t with
   | none => rfl
   | some ty =>
    rw [hy] at ho; simp only [zad]
    cases hv : ev x e with
    | none => rfl
    | some v =>
     simp only [zad]; have h6 : Nat.beq ty.desc.tag 6 = false := by simp_all
     unfold z8i; split
     ·rfl
     ·split
      ·rfl
      ·split
       ·rfl
       ·split
        ·rw [h6]; rfl
        ·rfl
theorem z4o {G : List Nat} (hG : z3t all anc D G D1) (hlen : zmk C all = true) {Ds : Nat} {seq : List Nat} (hDs : ∀ k, tb Ds k = (tb D k || decide (k ∈ seq))) (hseq : ∀ i ∈ seq, S i = true) {g : Nat} (hg : g ∈ G) (hup : ∀ k, tb (zpf anc g) k = true -> S k = true)
  (hp : zb5 C μ dp H all olds n old tm Ds S) (H2 : zaf) : zb5 C μ dp H2 all olds n old tm Ds S := by
 intro j hj hSj; rcases hp j hj hSj with ⟨u, wu, vu, pu⟩ | h
 ·refine .inl ⟨u, wu, vu, ?_⟩
  rw [hDs] at hj; simp only [ycq, decide_eq_true_eq] at hj; rcases hj with hj | hj
  ·rcases hG.again j u pu.op hj with h | h | h | h
   ·exact pu.pure h H2
   ·exact pu.float h H2
   ·refine ⟨pu.op, pu.want, ?_, pu.put⟩
    have hlo : z4z C u = true := by
     unfold zmk at hlen; rw [zc5, ycb] at hlen; exact hlen u (ycv (by simpa using pu.op))
    have := pu.val
    grind [zzhj]
   simp_all
  simp_all
 simp_all
theorem zzhv (hT : zdh P C) (hbase : B <= C.base) {G : List Nat} (hG : z3t all anc D G D1) (hlen : zmk C all = true) {ef : Nat -> Eff} {re : Nat -> RE} (hef : ∀ i ∈ G, zt3 all old olds tm i = some (ef i) /\ zzau C (ef i) = some (re i))
  (hap : (G.map re).Pairwise zot) (hrd : ∀ i ∈ G, zze3 C H (re i)) : ∀ (order : List Nat) (S : Nat -> Bool) (tmps : Array Value) (μ : Mu) (w : World) (seq : List Nat) (Hs : zaf) (Ds : Nat),
  seq.Nodup -> (∀ i ∈ seq, i ∈ G /\ S i = true) -> zx8 C H (seq.map re) Hs -> (∀ i ∈ seq, ∃ j, μ (re i).blk = some j) -> (∀ k, tb Ds k = (tb D k || decide (k ∈ seq))) -> zbp B N μ Hs w →
  zce μ all olds anc n old tm Ds S order tmps -> zb5 C μ dp Hs all olds n old tm Ds S →
  ∃ (S' : Nat -> Bool) (order' : List Nat) (tmps' : Array Value) (μ' : Mu) (w' : World) (seq' : List Nat) (Hs' : zaf), Steps P (lone (b.atR ⟨tmps, ds⟩ (.inRegion all order :: k)) cs w) (lone (b.atR ⟨tmps', ds⟩ (.inRegion all order' :: k)) cs w') /\ Below N w w' /\ μ.lw μ' /\ (∀ d, d ≠ dp -> μ.ln d μ') ∧
   seq'.Perm G /\ zx8 C H (seq'.map re) Hs' /\ (∀ i ∈ seq', ∃ j, μ' (re i).blk = some j) /\ zbp B N μ' Hs' w' /\ zce μ' all olds anc n old tm D1 S' order' tmps' /\ zb5 C μ' dp Hs' all olds n old tm D1 S' /\ (∀ i ∈ seq', S' i = true) := by
 have hapG : ∀ i ∈ G, ∀ j ∈ G, i ≠ j -> zot (re i) (re j) := by
  rw [List.pairwise_map] at hap; exact zrw (fun a b h => h.symm) hap
 have fin : ∀ (order : List Nat) (S : Nat -> Bool) (tmps : Array Value) (μ : Mu) (w : World) (seq : List Nat) (Hs : zaf) (Ds : Nat),
  seq.Nodup -> (∀ i ∈ seq, i ∈ G /\ S i = true) -> zx8 C H (seq.map re) Hs -> (∀ i ∈ seq, ∃ j, μ (re i).blk = some j) -> (∀ k, tb Ds k = (tb D k || decide (k ∈ seq))) -> zbp B N μ Hs w →
  zce μ all olds anc n old tm Ds S order tmps -> zb5 C μ dp Hs all olds n old tm Ds S -> (∀ i ∈ G, i ∈ seq) →
  ∃ (S' : Nat -> Bool) (order' : List Nat) (tmps' : Array Value) (μ' : Mu) (w' : World) (seq' : List Nat) (Hs' : zaf), Steps P (lone (b.atR ⟨tmps, ds⟩ (.inRegion all order :: k)) cs w) (lone (b.atR ⟨tmps', ds⟩ (.inRegion all order' :: k)) cs w') /\ Below N w w' /\ μ.lw μ' /\ (∀ d, d ≠ dp -> μ.ln d μ') ∧
   seq'.Perm G /\ zx8 C H (seq'.map re) Hs' /\ (∀ i ∈ seq', ∃ j, μ' (re i).blk = some j) /\ zbp B N μ' Hs' w' /\ zce μ' all olds anc n old tm D1 S' order' tmps' /\ zb5 C μ' dp Hs' all olds n old tm D1 S' /\ (∀ i ∈ seq', S' i = true) := by
  intro order S tmps μ w seq Hs Ds h1 h2 h3 h4 h5 h6 h7 h8 h9; have hD : ∀ k, tb Ds k = tb D1 k := fun k => by
   rw [h5, hG.done]; grind
  exact ⟨S, order, tmps, μ, w, seq, Hs, .refl _ _, Below.refl _ _, fun _ _ h => h, fun d _ => μ.ln_refl d, zzmf h1 hG.nodup fun i => ⟨fun h => (h2 i h).1, h9 i⟩, h3, h4, h6, h7.congrD hD, h8.congrD hD, fun i hi => (h2 i hi).2⟩
 intro order; induction order with
 | nil =>
  intro S tmps μ w seq Hs Ds h1 h2 h3 h4 h5 h6 h7 h8; refine fin _ S tmps μ w seq Hs Ds h1 h2 h3 h4 h5 h6 h7 h8 fun i hi => ?_
  obtain ⟨o, ho, hi2, _⟩ := hG.op i hi
  have := h7.sub _ (h7.sched i (ybe.1 ho).1)
  simp_all
 | cons i order ih =>
  intro S tmps μ w seq Hs Ds h1 h2 h3 h4 h5 h6 h7 h8; by_cases hall : ∀ i ∈ G, i ∈ seq
  ·grind
  cases hi : tb Ds i with
  | true =>
   obtain ⟨o, ho, hS, hb, hs⟩ := h7.sched
   obtain ⟨S', tmps', μ1, w1, s1, g1, r1, p1, up⟩ := zzj (b := b) (k := k) (cs := cs) (ds := ds) hT h6 h7 h8 hi
   obtain ⟨S2, order', tmps2, μ2, w2, seq2, Hs2, s2, b2, l2, d2, rest⟩ := ih S' tmps' μ1 w1 seq Hs Ds h1 (fun j hj => ⟨(h2 j hj).1, up j (h2 j hj).2⟩) h3 (fun j hj => by obtain ⟨x, hx⟩ := h4 j hj; exact ⟨x, g1.le _ _ hx⟩) h5 g1.heap r1 p1
   exact ⟨S2, order', tmps2, μ2, w2, seq2, Hs2, .head s1 s2, g1.below.trans b2, fun a x hx => l2 a x (g1.le a x hx), fun d hd => Mu.ln_trans (g1.pd d hd) (d2 d hd), rest⟩
  | false =>
   obtain ⟨o, ho, hS, hb, hs⟩ := h7.sched
   have hiG : i ∈ G := by
    cases hd1 : tb D1 i with
    | false =>
     exfalso
     rcases hG.rest i o ho hd1 with h | h
     ·refine hall fun g hg => ?_
      have := h7.sub g (h7.reg.up h7.closed ho hb (h g hg))
      obtain ⟨_, _, hg2, _⟩ := hG.op g hg
      grind
     ·refine h fun j hj => ?_
      have := h7.sub j (hb j hj)
      rw [h5] at this; rw [hG.done]; grind
    | true =>
     rw [hG.done] at hd1; grind
   have hiseq : i ∉ seq := fun h => by
    grind
   obtain ⟨o', ho', _, _, hdst⟩ := hG.op i hiG
   rw [ho] at ho'; cases ho'
   obtain ⟨e1, e2⟩ := hef i hiG
   unfold zt3 at e1; simp only [zac, zae, zbs] at e1; obtain ⟨o', ho', wn, hw, hwn, e1⟩ := e1
   have : o' = o := by
    grind
   subst this; subst hwn; have hwn := h7.wanted ho hb hw
   obtain ⟨Hn, a1, a2, a3⟩ := h3.step (hrd i hiG) (fun x hx => by
    grind)
   obtain ⟨hv, j0, hj0⟩ := zzdt (P := P) (o := o') hT hbase h6 (h7.erel (ds := ds) h6.glob ho hS hb) e1 e2 a1 a3
   have hdf : ∀ c, o'.op ≠ .defer c := fun c e => by rw [e] at e1; cases e1
   obtain ⟨v', w', μ', s1, m1, m2, m3, m4⟩ := zow (b := b) (k' := k) (rest := order) (cs := cs) ho hwn hdf hv
   have hD2 : ∀ k, tb (Nat.lor Ds (zxy i)) k = (tb Ds k || k == i) := fun k => by grind [z35, zqo]
   have r1 := (h7.mono m1.f).did (D' := Nat.lor Ds (zxy i)) (tm' := tm) ho hD2 (fun d hd => by grind) (fun _ _ => rfl) m4 (ds := ds)
   have p0 := z4o hG hlen h5 (fun j hj => (h2 j hj).2) hiG (fun k hk => h7.reg.up h7.closed ho hb hk) h8 Hn
   have p1 : zb5 C μ' dp Hn all olds n old tm (Nat.lor Ds (zxy i)) (fun k => S k || k == i) := by
    intro j hj hSj; rw [hD2] at hj; simp only [yal, ycq] at hj hSj; exact (zb5.mono (m1.ln dp) p0) j (hj.resolve_right (by grind)) hSj.1
   obtain ⟨S2, order', tmps2, μ2, w2, seq2, Hs2, s2, b2, l2, d2, rest⟩ := ih (fun k => S k || k == i) (Act.put ⟨tmps, ds⟩ o'.dst v').tmps μ' w' (seq ++ [i]) Hn (Nat.lor Ds (zxy i))
    (by grind)
    (fun j hj => by
     grind)
    (by grind)
    (fun j hj => by
     rcases yaf.1 hj with hj | hj
     ·obtain ⟨x, hx⟩ := h4 j hj; exact ⟨x, m1.f _ _ hx⟩
     ·simp at hj; subst hj; exact ⟨j0, m1.f _ _ hj0⟩)
    (fun k => by
     grind)
    m2 r1 p1
   exact ⟨S2, order', tmps2, μ2, w2, seq2, Hs2, .head s1 s2, m3.trans b2, fun a x hx => l2 a x (m1.f a x hx), fun d hd => Mu.ln_trans (m1.ln d) (d2 d hd), rest⟩
end
end Go.Am
namespace Go.Am
open Go Go.RowKit
section
variable {P : Program} {C : Ctx} {B N : Nat} {I : World -> Prop} {μ ν : Mu} {H H' : zaf} {w : World} {tm : Tm} {R : zgz} {acs : List zap} {base cs : List Frame}
variable {b : Frame} {tmps : Array Value} {ds : List Deferred} {k : List zcj} {k' : List Item} {all : Array Oper}
theorem zuo {m : Option Nat} (h : zi3 μ none m) : m = none := by
 cases m with
 | none => rfl
 | some l => exact h.elim
theorem zo1 {l : Nat} {m : Option Nat} (h : zi3 μ (some l) m) : ∃ i, μ l = some i /\ m = some i.b := by
 cases m with
 | none => exact h.elim
 | some m => obtain ⟨i, h1, h2⟩ := h; simp_all
theorem zr4 (hH : zbp B N μ H w) (hcs : Frs C μ acs cs) (hR : zbv μ R (b.atR ⟨tmps, ds⟩ [])) (ht : zc3 μ R.n tm tmps) {todo : List zcj} {btodo : List Item} {jump : Option Code}
  (h0 : b.roundOf = none -> zzar jump = true -> step P (lone (b.atR ⟨tmps, ds⟩ btodo) (cs ++ base) w) = .next (lone { b.atR ⟨tmps, ds⟩ btodo with mode := .returning } (cs ++ base) w))
  (h1 : ∀ l c rest v w', b.roundOf = some l -> b.kind = .normal -> (Instr.endRound l jump).run P w = .ok v w' -> step P (lone (b.atR ⟨tmps, ds⟩ btodo) (c :: rest) w) = .next (lone (c.finish v) rest w')) :
  zci P C B N μ base (lone (b.atR ⟨tmps, ds⟩ btodo) (cs ++ base) w) w (zjr jump C ⟨todo, tm, R⟩ acs H) := by
 unfold zjr; simp only []
 cases hr : R.roundOf with
 | none =>
  have hb : b.roundOf = none := by
   have := hR.round
   rw [hr] at this; exact zuo this
  cases hj : zzar jump with
  | false => exact trivial
  | true => exact zy9 hH hcs hR ht (.one (h0 hb hj))
 | some l =>
  obtain ⟨i, hi, hb⟩ : ∃ i, μ l = some i /\ b.roundOf = some i.b := by
   have := hR.round
   rw [hr] at this; exact zo1 this
  simp only []
  cases hx : zdr H l with
  | none => exact trivial
  | some r =>
   rw [zad]
   cases hcs with
   | nil => exact trivial
   | @cons c b1 acs1 cs1 hc hcs1 =>
    simp only []
    cases hd : R.deferred with
    | true => exact trivial
    | false =>
     have hkind : b.kind = .normal := by have := hR.kind; rw [hd] at this; exact this
     cases hf : zb4 c (.bool jump.isNone) with
     | none => exact trivial
     | some c' =>
      obtain ⟨hl, r', hg, hw, rel⟩ := zlc hH hx hi
      have run : (Instr.endRound i.b jump).run P w = .ok (.bool jump.isNone) (World.setBlk w i.b (.loop { r' with state := if jump.isNone then .ready else .done, pending := jump })) := by
       simp_all [Instr.endRound, zh2, zhp]
      refine ⟨μ, _, cs1, _, .one (h1 i.b b1 (cs1 ++ base) _ _ hb hkind run), fun _ _ h => h, zc9 (hH.own l i hl hi).1, ?_, zic hc hf (by rw [zaq]), hcs1⟩
      refine hH.upd hg hi hl ?_
      rw [zou]; exact ⟨_, rfl, rfl, rfl, rel.fn, rel.tm, rel.params, rel.assign, rel.body, rel.defers⟩
theorem z20 {id : Nat} : ∀ {k : List zcj} {k' : List Item}, zfd (zbr μ) k k' -> zgm id k = none -> exitTo id k' = none := by
 intro k k' h; induction h with
 | nil => intro _; rfl
 | cons a l ih =>
  intro e
  cases a with
  | inBlock i =>
   grind [zgm, zcj.blockId, exitTo, zds]
  | _ =>
   grind [zgm, exitTo]
theorem zznp (hH : zbp B N μ H w) (hcs : Frs C μ acs cs) (hR : zbv μ R (b.atR ⟨tmps, ds⟩ [])) (ht : zc3 μ R.n tm tmps) (hk : zfd (zbr μ) k k') {id : Nat} :
  zci P C B N μ base (lone (b.atR ⟨tmps, ds⟩ (.code (.exit id) :: k')) (cs ++ base) w) w (zyi id C k tm R acs H) := by
 unfold zyi
 cases he : zgm id k with
 | some r =>
  obtain ⟨r', h1, h2⟩ := zzdk hk he
  exact zhg hH hcs hR ht h2 (.one (stepR_exit h1))
 | none =>
  exact zr4 hH hcs hR ht (fun _ h => by cases h) fun l c rest v w' hb hkd hr => stepR_round_exit hb hkd (z20 hk he) hr
theorem ret_ok (hH : zbp B N μ H w) (hcs : Frs C μ acs cs) (hR : zbv μ R (b.atR ⟨tmps, ds⟩ [])) (ht : zc3 μ R.n tm tmps) :
  zci P C B N μ base (lone (b.atR ⟨tmps, ds⟩ (.code .ret :: k')) (cs ++ base) w) w (xRet C k tm R acs H) :=
 zr4 hH hcs hR ht (fun hb _ => stepR_ret hb) fun _ _ _ _ _ hb hkd hr => stepR_round_ret hb hkd hr
theorem zzds (hH : zbp B N μ H w) (hcs : Frs C μ acs cs) (hR : zbv μ R (b.atR ⟨tmps, ds⟩ [])) (ht : zc3 μ R.n tm tmps) :
  zci P C B N μ base (lone (b.atR ⟨tmps, ds⟩ []) (cs ++ base) w) w (zjr none C ⟨[], tm, R⟩ acs H) :=
 zr4 hH hcs hR ht (fun hb _ => stepR_end hb) fun _ _ _ _ _ hb hkd hr => stepR_round_end hb hkd hr
theorem zeu {o : Oper} {rest : List Oper} : zfb C all k R acs (o :: rest) tm H = match zbi o.guard all tm with
  | none => .fail 20
  | some false => zfb C all k R acs rest (putA R.n tm o.dst zbj) H
  | some true => match ((aop o.op).f C (.now tm) H).asVal with
   | some p => zfb C all k R acs rest (putA R.n tm o.dst p.1) p.2
   | none => zpo ((aop o.op).f C (.now tm) H) C ⟨.ops all (o :: rest) :: k, tm, R⟩ acs H := by
 show (match zbi o.guard all tm with
  | some w => Bool.rec (motive := fun _ => zik) (zfb C all k R acs rest (putA R.n tm o.dst zbj) H)
     (let r := (aop o.op).f C (.now tm) H
     match r.asVal with
     | some p => zfb C all k R acs rest (putA R.n tm o.dst p.1) p.2
     | none => zpo r C ⟨.ops all (o :: rest) :: k, tm, R⟩ acs H) w
  | none => .fail 20) = _
 grind
theorem zus {n i : Nat} (h : i < n) : (List.range n).drop i = i :: (List.range n).drop (i + 1) := by
 grind [List.drop_eq_getElem_cons]
theorem zy7 (hS : Sim P C B N I) : ∀ (rest : List Oper) (i : Nat) (tm : Tm) (H : zaf) (w : World) (μ : Mu) (tmps : Array Value), rest = all.toList.drop i -> i <= all.size -> I w -> zbp B N μ H w -> Frs C μ acs cs →
  zbv μ R (b.atR ⟨tmps, ds⟩ []) -> zc3 μ R.n tm tmps -> zfd (zbr μ) k k' →
  zci P C B N μ base (lone (b.atR ⟨tmps, ds⟩ (.inRegion all ((List.range all.size).drop i) :: k')) (cs ++ base) w) w (zfb C all k R acs rest tm H) := by
 intro rest; induction rest with
 | nil =>
  intro i tm H w μ tmps hi hle hI hH hcs hR ht hk; have : all.size <= i := by
   simp_all
  rw [ybt (by simp_all)]
  exact zhg hH hcs hR ht hk (.one stepR_region_end)
 | cons o rest ih =>
  intro i tm H w μ tmps hi hle hI hH hcs hR ht hk; obtain ⟨h1, h2⟩ := zey hi
  have hlt : i < all.size := by grind
  have ho : all[i]? = some o := by simp_all
  rw [zeu, zus hlt]
  cases hw : zbi o.guard all tm with
  | none => exact trivial
  | some wn =>
   have hwn := ht.wanted (all := all) hw
   cases wn with
   | false =>
    refine zci.of_steps (.one (zh0 ho hwn)) (fun _ _ h => h) (Below.refl N w) ?_
    rw [zlx]; have t := ht.put (ds := ds) (dst := o.dst) zlt
    exact ih (i + 1) _ _ _ _ _ h2 hlt hI hH hcs (hR.slots t.1) t hk
   | true =>
    have hop := zzk2 hS.tys hS.base hS.fns hS.prims hH hI (ht.erel (ds := ds) hH.glob) o
    simp only []; generalize hr : (aop o.op).f C (.now tm) H = r at hop
    have hdef : (∃ c, o.op = .defer c) -> r = .fail \/ ∃ d, r = .defer d := fun h => by grind [z00]
    have hfr : zgy C μ acs.length none ⟨.ops all (o :: rest) :: k, tm, R⟩ (b.atR ⟨tmps, ds⟩ (.inRegion all (i :: (List.range all.size).drop (i + 1)) :: k')) := by
     refine ⟨hR.todo, ?_⟩
     rw [yab hR.running, <- zus hlt, hi]; exact .plain (.cons (.ops all i hle) hk) ht
    cases hv : r.asVal with
    | none => grind [zvm]
    | some p =>
     have : r = .val p.1 p.2 := by cases r <;> simp [zqb.asVal] at hv; rw [<- hv]
     subst this; simp only []; have hd : ∀ c, o.op ≠ .defer c := fun c e => by
      rcases hdef ⟨c, e⟩ with h | ⟨d, h⟩ <;> cases h
     rcases hop with h | ⟨f, args', h3, h4⟩
     ·obtain ⟨v', w', μ', s, hm, hH', hb, hv⟩ := zow (b := b) (k' := k') (rest := (List.range all.size).drop (i + 1)) (cs := cs ++ base) ho hwn hd h
      refine zci.of_steps (.one s) hm.f hb ?_
      have t := (ht.mono hm).put (ds := ds) (dst := o.dst) hv
      exact ih (i + 1) _ _ _ _ _ h2 hlt (hS.inv _ _ hb hI) hH' (hcs.mono hm) ((hR.mono hm).slots t.1) t (hk.mono fun _ _ r => r.mono hm)
     ·obtain ⟨v', w', s, μ', hm, hH', hb, hv⟩ := zvj (b := b) (k' := k') (rest := (List.range all.size).drop (i + 1)) (cs := cs ++ base) (R := fun v' w' => ∃ μ', μ.le μ' /\ zbp B N μ' p.2 w' /\ Below N w w' /\ zaq μ' p.1 v') ho hwn hd h3 (h4.mono fun e w' hh => by simp_all)
      refine zci.of_steps s hm.f hb ?_
      have t := (ht.mono hm).put (ds := ds) (dst := o.dst) hv
      exact ih (i + 1) _ _ _ _ _ h2 hlt (hS.inv _ _ hb hI) hH' (hcs.mono hm) ((hR.mono hm).slots t.1) t (hk.mono fun _ _ r => r.mono hm)
theorem zzhr (hS : Sim P C B N I) (hI : I w) (hH : zbp B N μ H w) (hcs : Frs C μ acs cs) (hR : zbv μ R (b.atR ⟨tmps, ds⟩ [])) (hk : zfd (zbr μ) k k') {olds : List (Nat × List Nat)} {anc : Tr Nat} {old : Tm} {D : Nat} {S : Nat -> Bool} {order : List Nat} {st : zc7} {stages : List zc7} {o : Oper}
  (hr : zce μ all olds anc R.n old tm D S order tmps) (hst : zcd all.toList anc (st :: stages) D = true) (hp : zb5 C μ acs.length H all olds R.n old tm D S) (ho : all[st.heavy]? = some o) :
  zci P C B N μ base (lone (b.atR ⟨tmps, ds⟩ (.inRegion all order :: k')) (cs ++ base) w) w (z3v all old olds st stages o C k tm R acs H) := by
 have hlt : st.heavy <= all.size := Nat.le_of_lt (ybe.1 ho).1
 obtain ⟨S', order', tmps', μ', w', s, g, r1, p1⟩ := reach (b := b) (k := k') (cs := cs ++ base) (ds := ds) hS.tys hst hlt order S tmps μ w hH hr hp
 refine zci.of_steps s g.le g.below ?_
 replace hI := hS.inv _ _ g.below hI
 replace hH := g.heap
 replace hcs := hcs.monoD fun d hd => g.pd d (by omega)
 replace hR := hR.mono g.le
 replace hk : zfd (zbr μ') k k' := hk.mono fun _ _ r => r.mono g.le
 unfold z3v
 cases hw : zbi o.guard all tm with
 | none => exact trivial
 | some wn =>
  obtain ⟨o', ho', hS', hb', _⟩ := r1.sched
  rw [ho] at ho'; cases ho'
  have hwn := r1.wanted ho hb' hw
  have hfr : zgy C μ' acs.length none ⟨.reg all old olds (st :: stages) :: k, tm, R⟩ (b.atR ⟨tmps', ds⟩ (.inRegion all (st.heavy :: order') :: k')) := by
   refine ⟨(hR.slots r1.size).todo, ?_⟩
   rw [yab hR.running]; exact .wait r1 hst hlt (toWeak hst hlt r1 p1) hk
  cases wn with
  | false =>
   refine z17 (H := H) hfr hcs μ'.le_refl hH (Below.refl N w') zlt ?_
   rw [Frame.finish_atR, ho, yai]; exact .one (zh0 ho hwn)
  | true =>
   have hop := zzk2 hS.tys hS.base hS.fns hS.prims hH hI (r1.erel (ds := ds) hH.glob ho hS' hb') o
   exact zvm hS hH hcs hfr ho hwn (fun h => z00 h _ _ _) hop
theorem z7e (hS : Sim P C B N I) (hH : zbp B N μ H w) (hcs : Frs C μ acs cs) (hR : zbv μ R (b.atR ⟨tmps, ds⟩ [])) (hk : zfd (zbr μ) k k') {olds : List (Nat × List Nat)} {anc : Tr Nat} {old : Tm} {D : Nat} {S : Nat -> Bool} {order : List Nat} {st : zc7} {stages : List zc7}
  (hr : zce μ all olds anc R.n old tm D S order tmps) (hst : zcd all.toList anc (st :: stages) D = true) (hp : zb5 C μ acs.length H all olds R.n old tm D S) (hlt : all.size < st.heavy) (hle2 : st.heavy <= all.size + all.size) :
  zci P C B N μ base (lone (b.atR ⟨tmps, ds⟩ (.inRegion all order :: k')) (cs ++ base) w) w (z3x all old olds st stages (st.heavy - (all.size + 1)) C k tm R acs H) := by
 obtain ⟨o, D1, D2, ho, hf, h1, h2, h3⟩ := ztz hst hlt hle2
 generalize st.heavy - (all.size + 1) = i at *
 obtain ⟨o', ho', hi, hb, hD1⟩ := zjn h1
 rw [ho] at ho'; cases ho'
 unfold z3x; generalize hx : (ob (zev all.toList i) fun o => ob (zbi o.guard all tm) fun w => zaj (w && za4 (zzg7 C o.op)) (ob ((aop o.op).f C (.mixed tm old (zda i olds) (zb9 o.op)) H).asVal fun p =>
  ob (zf0 C p.2 all R.n old olds st.lights (putA R.n tm o.dst p.1)) fun tm' => some (⟨⟨.reg all old olds stages :: k, tm', R⟩, acs, p.2⟩ : zij))) = x
 cases x with
 | none => exact trivial
 | some x =>
  simp only [zac, zae, zbs, ybb] at hx; obtain ⟨o', ho', wn, hw, ⟨hwn, hlo⟩, p, hv, tm', hl, hx⟩ := hx
  have hlo : zzg7 C o'.op = none := by
   cases hx : zzg7 C o'.op with
   | none => rfl
   | some _ => rw [hx] at hlo; cases hlo
  have : o' = o := by
   simp_all
  subst this; subst hwn
  cases hx; have hop : (aop o'.op).f C (znr tm old olds i o') H = .val p.1 p.2 := by
   show (aop o'.op).f C (.mixed tm old (zda i olds) (zb9 o'.op)) H = _
   generalize (aop o'.op).f C (.mixed tm old (zda i olds) (zb9 o'.op)) H = r at hv
   cases r <;> simp [zqb.asVal] at hv
   rw [<- hv]
  obtain ⟨l, hl2⟩ : ∃ l, p.2 = za7 H l none := z7f hf hlo hop
  have hH' : zbp B N (μ.wait H.next (.cells (Tr.ofList l) (zbf l) none, acs.length, i)) p.2 w := by rw [hl2]; exact hH.early
  have hle : μ.lw (μ.wait H.next (.cells (Tr.ofList l) (zbf l) none, acs.length, i)) := fun _ _ h => h
  have hpd : ∀ d, μ.ln d (μ.wait H.next (.cells (Tr.ofList l) (zbf l) none, acs.length, i)) := fun d => ⟨hle, fun a x j ha => by
   show (if a = H.next then _ else μ.pd a) = _
   rw [yaa]
   ·exact ha
   ·intro e
    have := (hH.pnd _ _ _ ha).2.1
    rw [e, (hH.fresh _ (ybk _)).2] at this
    cases this⟩
  have hgrow : HM.HLe H p.2 := by
   intro b y hb; rw [hl2]; show (H.t.set H.next _).get b = some y
   rw [Tr.get_set, yaa]
   ·exact hb
   ·intro e
    rw [e, (hH.fresh _ (ybk _)).2] at hb
    cases hb
  have r1 := (hr.light (v := p.1) ho hi hb hD1).mono hle
  have p1 : zb5 C (μ.wait H.next (.cells (Tr.ofList l) (zbf l) none, acs.length, i)) acs.length p.2 all olds R.n old (putA R.n tm o'.dst p.1) D1 S := by
   intro j hj hSj; rw [hD1] at hj; simp only [ycq, beq_iff_eq] at hj; rcases hj with hj | rfl
   ·rcases hp j hj hSj with ⟨u, wu, vu, pu⟩ | ⟨u, vu, pu⟩
    ·exact .inl ⟨u, wu, vu, (pu.keep hr.reg hr.dclosed hj ho hi).grow hgrow⟩
    ·exact .inr ⟨u, vu, (pu.keep hr.reg hr.dclosed hj ho hi).mono (hpd _)⟩
   ·refine .inr ⟨o', p.1, zth.fresh hr.reg hr.dclosed ho hb hi hf hlo hw ⟨H, l, by rw [hop, hl2], ?_⟩⟩
    show (if H.next = H.next then _ else μ.pd H.next) = _
    rw [yab rfl]
  obtain ⟨r2, p2⟩ := zlz _ _ _ hl h2 r1 p1
  exact ⟨_, _, cs, w, .refl _ _, hle, Below.refl N w, hH', ⟨(hR.mono hle).todo, by rw [yab hR.running]; exact .reg r2 h3 p2 (hk.mono fun _ _ r => r.mono hle)⟩, hcs.monoD fun d _ => hpd d⟩
theorem zpa {α β : Type} {f : α -> Option β} (d : β) : ∀ {l : List α} {r : List β}, zel f l = some r -> (∀ x ∈ l, f x = some ((f x).getD d)) /\ r = l.map fun x => (f x).getD d
 | [], r, h => by grind [zh4]
 | a :: l, r, h => by
  rw [zcq, zac] at h; obtain ⟨v, hv, h⟩ := h
  rw [zac] at h; obtain ⟨m, hm, h⟩ := h
  cases h; obtain ⟨h1, h2⟩ := zpa d hm
  grind
theorem z7c (hS : Sim P C B N I) (hH : zbp B N μ H w) (hcs : Frs C μ acs cs) (hR : zbv μ R (b.atR ⟨tmps, ds⟩ [])) (hk : zfd (zbr μ) k k') {olds : List (Nat × List Nat)} {anc : Tr Nat} {old : Tm} {D : Nat} {S : Nat -> Bool} {order : List Nat} {st : zc7} {stages : List zc7}
  (hr : zce μ all olds anc R.n old tm D S order tmps) (hst : zcd all.toList anc (st :: stages) D = true) (hp : zb5 C μ acs.length H all olds R.n old tm D S) (hlt : all.size + all.size < st.heavy) :
  zci P C B N μ base (lone (b.atR ⟨tmps, ds⟩ (.inRegion all order :: k')) (cs ++ base) w) w (z3w all old olds st stages C k tm R acs H) := by
 obtain ⟨D1, D2, hG, h2, h3⟩ := zty hst hlt
 unfold z3w; generalize hx : (zaj (zmk C all) (ob (z7n all old olds tm st.again) fun es => ob (zn8 C es H) fun H' => ob (zf0 C H' all R.n old olds st.lights tm) fun tm' => some (⟨⟨.reg all old olds stages :: k, tm', R⟩, acs, H'⟩ : zij))) = x
 cases x with
 | none => exact trivial
 | some x =>
  simp only [zac, zae] at hx; obtain ⟨hlen, es, he, H1, hg, tm', hl, hx⟩ := hx
  cases hx; unfold zn8 at hg; simp only [zac, zae, ybb] at hg; obtain ⟨rs, hrs, ⟨hap, hrd⟩, hg⟩ := hg
  obtain ⟨e1, e2⟩ := zpa (Eff.store 0 .nilptr .nilptr) he
  obtain ⟨e3, e4⟩ := zpa (RE.st 0 0 []) hrs
  have hef : ∀ i ∈ st.again, zt3 all old olds tm i = some ((zt3 all old olds tm i).getD (Eff.store 0 .nilptr .nilptr)) /\ zzau C ((zt3 all old olds tm i).getD (Eff.store 0 .nilptr .nilptr)) = some ((zzau C ((zt3 all old olds tm i).getD (Eff.store 0 .nilptr .nilptr))).getD (RE.st 0 0 [])) :=
   fun i hi => ⟨e1 i hi, e3 _ (by grind)⟩
  generalize hE : (fun i => (zt3 all old olds tm i).getD (Eff.store 0 .nilptr .nilptr)) = ef at e2
  have hef : ∀ i ∈ st.again, zt3 all old olds tm i = some (ef i) /\ zzau C (ef i) = some ((fun i => (zzau C (ef i)).getD (RE.st 0 0 [])) i) := by
   grind
  have hrs' : rs = st.again.map fun i => (zzau C (ef i)).getD (RE.st 0 0 []) := by rw [e4, e2, List.map_map]; rfl
  generalize (fun i => (zzau C (ef i)).getD (RE.st 0 0 [])) = re at hef hrs'
  subst hrs'
  have hap := z0z hap
  have hrd : ∀ i ∈ st.again, zze3 C H (re i) := by
   grind [zc5, zzaz]
  have hd1 : zx8 C H (st.again.map re) H1 := by
   have := zx8.list zx8.nil (l := st.again.map re) (fun e he => by grind) (by grind) hg
   rwa [yah] at this
  obtain ⟨S', order', tmps', μ', w', seq, Hs, s1, b1, l1, d1, pm, dn, hm, hH', r1, p1, hin⟩ := zzhv (b := b) (k := k') (cs := cs ++ base) (ds := ds) (H := H) hS.tys hS.base hG hlen hef hap hrd order S tmps μ w [] H D List.nodup_nil (fun i hi => by cases hi) zx8.nil (fun i hi => by cases hi) (fun k => by simp) hH hr hp
  have hapS : (seq.map re).Pairwise zot := ((pm.map re).symm.pairwise_iff (fun h => zot.symm h)).1 hap
  have heq : HEq' μ' Hs H1 := dn.perm hd1 (pm.map re) hapS fun e he => by grind
  have hH1 := hH'.congr' heq
  have p2 : zb5 C μ' acs.length H1 all olds R.n old tm D1 S' := by
   cases hG0 : st.again with
   | nil =>
    rw [hG0] at pm hd1; have hs0 : seq = [] := List.Perm.eq_nil pm
    subst hs0; have hle : HM.HLe Hs H1 := fun a y hy => by rw [hd1.no a (fun e he => by cases he), <- dn.no a (fun e he => by cases he)]; exact hy
    intro j hj hSj; rcases p1 j hj hSj with ⟨u, wu, vu, pu⟩ | h
    ·exact .inl ⟨u, wu, vu, pu.grow hle⟩
    grind
   | cons g l =>
    have hg : g ∈ st.again := by grind
    have hSg : S' g = true := hin g (pm.mem_iff.2 hg)
    obtain ⟨o, ho, _⟩ := hG.op g hg
    refine z4o hG hlen (seq := st.again) hG.done (fun i hi => hin i (pm.mem_iff.2 hi)) hg (fun k hk => r1.reg.up r1.closed ho (fun j hj => r1.closed g o ho hSg j hj) hk) p1 H1
  obtain ⟨r2, p3⟩ := zlz _ _ _ hl h2 r1 p2
  exact ⟨_, _, cs, w', s1, l1, b1, hH1, ⟨((hR.mono l1).slots r1.size).todo, by rw [yab hR.running]; exact .reg r2 h3 p3 (hk.mono fun _ _ r => r.mono l1)⟩, hcs.monoD fun d hd => d1 d (by omega)⟩
end
end Go.Am
namespace Go.Am
open Go Go.RowKit
section
variable {P : Program} {C : Ctx} {B N : Nat} {I : World -> Prop} {μ ν : Mu} {H H' : zaf} {w : World} {tm : Tm} {R : zgz} {acs : List zap} {base cs : List Frame}
variable {b : Frame} {tmps : Array Value} {ds : List Deferred} {k : List zcj} {k' : List Item} {all : Array Oper}
theorem zzir (hH : zbp B N μ H w) (hcs : Frs C μ acs cs) (hR : zbv μ R (b.atR ⟨tmps, ds⟩ [])) (ht : zc3 μ R.n tm tmps) (hk : zfd (zbr μ) k k') :
  zci P C B N μ base (lone (b.atR ⟨tmps, ds⟩ (.beginRound :: k')) (cs ++ base) w) w (zyj C k tm R acs H) := by
 unfold zyj
 cases hr : R.roundOf with
 | none => exact trivial
 | some l =>
  obtain ⟨i, hi, hb⟩ : ∃ i, μ l = some i /\ b.roundOf = some i.b := by
   have := hR.round
   rw [hr] at this; exact zo1 this
  rw [zad]
  cases hx : zdr H l with
  | none => exact trivial
  | some r =>
   rw [zad]
   cases hst : Nat.beq (LoopState.tag r.state) 0 with
   | false => exact trivial
   | true =>
    obtain ⟨hl, r', hg, hw, rel⟩ := zlc hH hx hi
    have ready : r'.state = .ready := by
     rw [rel.state]
     cases hs : r.state <;> rw [hs] at hst <;> first | rfl | grind [LoopState.tag, Nat.beq]
    have run : (Instr.beginRound i.b).run P w = .ok () (World.setBlk w i.b (.loop { r' with state := .busy })) := by
     simp_all [Instr.beginRound, zh2, zhp]
    refine ⟨μ, _, cs, _, .one (stepR_beginRound hb run), fun _ _ h => h, zc9 (hH.own l i hl hi).1, ?_, ⟨?_, ?_⟩, hcs⟩
    ·refine hH.upd hg hi hl ?_
     rw [zou]; exact ⟨_, rfl, rfl, rel.pending, rel.fn, rel.tm, rel.params, rel.assign, rel.body, rel.defers⟩
    ·refine ⟨hR.fn, hR.size, hR.defers, hR.mode, hR.kind, ?_⟩
     exact hR.round
    ·show if R.mode.running = true then zea C μ acs.length R.n _ k tm k' tmps else zc3 μ R.n tm tmps
     rw [yab hR.running]; exact .plain hk ht
theorem ztu {l : Nat} {jump : Option Code} {w' : World} {cs : List Frame} (hr : (Instr.endLoop l).run P w = .ok jump w') :
  step P (lone (b.atR ⟨tmps, ds⟩ (.endRangeFunc l :: k')) cs w) = .next (lone (b.atR ⟨tmps, ds⟩ ((jump.map Item.code).toList ++ k')) cs w') :=
 step_lone_go (by simp_all [stepG, stepG.exec, Frame.atR])
theorem z26 (hH : zbp B N μ H w) (hcs : Frs C μ acs cs) (hR : zbv μ R (b.atR ⟨tmps, ds⟩ [])) (ht : zc3 μ R.n tm tmps) (hk : zfd (zbr μ) k k') {l : Nat} {i : BI} (hi : μ l = some i) :
  zci P C B N μ base (lone (b.atR ⟨tmps, ds⟩ (.endRangeFunc i.b :: k')) (cs ++ base) w) w (zkz l C k tm R acs H) := by
 unfold zkz
 cases hx : zdr H l with
 | none => exact trivial
 | some r =>
  rw [zad]
  cases hst : Nat.beq (LoopState.tag r.state) 1 with
  | true => exact trivial
  | false =>
   obtain ⟨hl, r', hg, hw, rel⟩ := zlc hH hx hi
   have busy : r'.state ≠ .busy := by
    intro e; rw [rel.state] at e; rw [e] at hst
    cases hst
   have run : (Instr.endLoop i.b).run P w = .ok r'.pending (World.setBlk w i.b (.loop { r' with state := .exhausted })) := by
    simp_all [Instr.endLoop, zh2, zhp]
   refine ⟨μ, _, cs, _, .one (ztu run), fun _ _ h => h, zc9 (hH.own l i hl hi).1, ?_, ⟨?_, ?_⟩, hcs⟩
   ·refine hH.upd hg hi hl ?_
    rw [zou]; exact ⟨_, rfl, rfl, rel.pending, rel.fn, rel.tm, rel.params, rel.assign, rel.body, rel.defers⟩
   ·exact ⟨hR.fn, hR.size, hR.defers, hR.mode, hR.kind, hR.round⟩
   ·show if R.mode.running = true then zea C μ acs.length R.n _ (match r.pending with | some c => .code c :: k | none => k) tm ((r'.pending.map Item.code).toList ++ k') tmps else zc3 μ R.n tm tmps
    rw [yab hR.running, rel.pending]
    cases r.pending with
    | none => exact .plain hk ht
    | some c => exact .plain (.cons (.code c) hk) ht
theorem zrk {f : Operand} {params : Array Nat} {assign body : Code} {l : Nat} {mark : List Deferred} {w1 : World} {g : Nat} {args' : Array Value} {cs : List Frame}
  (hE : (Instr.enterLoop b.fn tmps params assign body b.roundOf).run P w = .ok (l, mark) w1)
  (hA : (do let d <- resolve (Act.eval ⟨tmps, ds⟩) { callee := .value f, args := #[.const (.func (.yield l) #[] #[])], argTypes := #[] } 0; invoke d.target d.args : Sem Next).run P w1 = .ok (.enter g args') w1) :
  step P (lone (b.atR ⟨tmps, ds⟩ (.code (.rangeFunc f params assign body) :: k')) cs w) = .next (lone (Frame.enter P g args' .normal) (b.atR ⟨tmps, mark ++ ds⟩ (.inRangeFunc l :: k') :: cs) w1) := by
 refine step_lone_go ?_
 have he : (Frame.eval { b.atR ⟨tmps, ds⟩ (.code (.rangeFunc f params assign body) :: k') with todo := .inRangeFunc l :: k', defers := mark ++ ds }) = Act.eval ⟨tmps, ds⟩ := funext fun x => by cases x <;> rfl
 simp_all [Frame.atR, stepG, stepG.exec, stepG.apply]
theorem z6p {l : Nat} {v : zab} {h : zap} (e : zj9 C l v = some h) : ∃ g first cap, v = .func (.func g) first cap /\ C.prims.get g = none /\ zeg C g (zfp first (.func (.yld l) [] [] :: cap)) false = some h := by
 grind [zj9, zac, zs7]
theorem zut {dp : Nat} (hS : Sim P C B N I) {l : Nat} {i : BI} {v : zab} {h : zap} (e : zj9 C l v = some h) (hi : μ l = some i) {f : Operand} (hv : zaq μ v (Act.eval ⟨tmps, ds⟩ f)) {cur : Option zaf} :
  ∃ g args', (∀ w, (do let d <- resolve (Act.eval ⟨tmps, ds⟩) { callee := .value f, args := #[.const (.func (.yield i.b) #[] #[])], argTypes := #[] } 0; invoke d.target d.args : Sem Next).run P w = .ok (.enter g args') w) ∧
   zgy C μ dp cur h (Frame.enter P g args' .normal) := by
 obtain ⟨g, first, cap, rfl, hp, he⟩ := z6p e
 rw [zaq] at hv; obtain ⟨fn, a', c', hv, hf, h1, h2⟩ := hv
 cases hf; have hl : zbw μ (zfp first (.func (.yld l) [] [] :: cap)) (a' ++ #[Value.func (.yield i.b) #[] #[]] ++ c').toList := by
  rw [zca]; have : zbw μ (zab.func (.yld l) [] [] :: cap) (Value.func (.yield i.b) #[] #[] :: c'.toList) := .cons (by rw [zaq]; exact ⟨_, _, _, rfl, ⟨i, hi, rfl⟩, .nil, .nil⟩) h2
  simpa using h1.append this
 obtain ⟨fr, fn, hfn, hb⟩ := zoe (cur := cur) hS.fns he hl
 refine ⟨g, _, fun w => ?_, fr⟩
 simp only [yad, resolve, hv, Deferred.ofValue, yae, yac, invoke]; have : Array.map (Act.eval ⟨tmps, ds⟩) #[Operand.const (Value.func (.yield i.b) #[] #[])] = #[Value.func (.yield i.b) #[] #[]] := by simp [Act.eval]
 rw [this]; exact zis hS.fns hfn hb
theorem zzgv (hS : Sim P C B N I) (hH : zbp B N μ H w) (hcs : Frs C μ acs cs) (hR : zbv μ R (b.atR ⟨tmps, ds⟩ [])) (ht : zc3 μ R.n tm tmps) (hk : zfd (zbr μ) k k') {f : Operand} {params : Array Nat} {assign body : Code} :
  zci P C B N μ base (lone (b.atR ⟨tmps, ds⟩ (.code (.rangeFunc f params assign body) :: k')) (cs ++ base) w) w (zyh f params assign body C k tm R acs H) := by
 unfold zyh
 cases hv : ev f (.now tm) with
 | none => exact trivial
 | some v =>
  have hvr := ht.erel (ds := ds) hH.glob f _ hv
  rw [zad]
  cases hr : R.roundOf with
  | none =>
   have hb : b.roundOf = none := by
    have := hR.round
    rw [hr] at this; exact zuo this
   simp only []
   cases hx : zj9 C (H.next + 1) v with
   | none => exact trivial
   | some h =>
    have h1 := hH.newBlk (x := .deferred (some [])) (o := .deferred (some [])) (i := ⟨w.heap.size, true, 0, 0, false⟩) rfl rfl (by rw [zou]; exact ⟨_, rfl, .nil⟩)
    have le1 : μ.le (μ.ext H.next ⟨w.heap.size, true, 0, 0, false⟩) := hH.ext_le
    have le2 : (μ.ext H.next ⟨w.heap.size, true, 0, 0, false⟩).le ((μ.ext H.next ⟨w.heap.size, true, 0, 0, false⟩).ext (newBlk H (.deferred (some []))).next ⟨w.heap.size + 1, true, 0, 0, false⟩) := h1.ext_le
    have sz : (w.alloc (.deferred (some []))).heap.size = w.heap.size + 1 := Array.size_push ..
    have h2 := h1.newBlk (x := .loop ⟨.ready, none, R.fn, R.n, tm, params.toList, assign, body, H.next⟩) (o := .loop { state := .ready, pending := none, fn := b.fn, tmps, params, assign, body, defers := w.heap.size })
     (i := ⟨w.heap.size + 1, true, 0, 0, false⟩) sz.symm rfl (by
      rw [zou]; exact ⟨_, rfl, rfl, rfl, hR.fn, (ht.mono le1.f).mono le2.f, rfl, rfl, rfl, ⟨_, le2 _ _ Mu.ext_same, rfl⟩⟩)
    have le := Mu.le_trans le1 le2
    have hi2 : ((μ.ext H.next ⟨w.heap.size, true, 0, 0, false⟩).ext (newBlk H (.deferred (some []))).next ⟨w.heap.size + 1, true, 0, 0, false⟩) (H.next + 1) = some ⟨w.heap.size + 1, true, 0, 0, false⟩ := Mu.ext_same
    obtain ⟨g, args', hA, hfr⟩ := zut (ds := ds) hS hx hi2 (hvr.mono le.f _ _) (cur := some (newBlk (newBlk H (.deferred (some []))) (.loop ⟨.ready, none, R.fn, R.n, tm, params.toList, assign, body, H.next⟩)))
    have run : (Instr.enterLoop b.fn tmps params assign body b.roundOf).run P w = .ok (w.heap.size + 1, [{ target := .collected w.heap.size, args := #[] }]) ((w.alloc (.deferred (some []))).alloc (.loop { state := .ready, pending := none, fn := b.fn, tmps, params, assign, body, defers := w.heap.size })) := by
     simp_all [Instr.enterLoop]
    refine ⟨_, _, b.atR ⟨tmps, { target := .collected w.heap.size, args := #[] } :: ds⟩ (.inRangeFunc (w.heap.size + 1) :: k') :: cs, _, .one (zrk run (hA _)), le, ?_, h2, hfr, .cons ⟨?_, ?_⟩ (hcs.mono le)⟩
    ·refine (zcn hH.size _).trans (zcn ?_ _)
     rw [sz]; have := hH.size; omega
    ·have := hR.mono le.f
     exact ⟨this.fn, this.size, .cons ⟨⟨_, le2 _ _ Mu.ext_same, rfl⟩⟩ this.defers, this.mode, this.kind, by have := this.round; rw [hr] at this; exact this⟩
    ·show if R.mode.running = true then zea C _ acs.length R.n none (.inRange (H.next + 1) :: k) tm (.inRangeFunc (w.heap.size + 1) :: k') tmps else _
     rw [yab hR.running]; exact .plain (.cons (.inRange _ ⟨w.heap.size + 1, true, 0, 0, false⟩ hi2) (hk.mono fun _ _ r => r.mono le.f)) (ht.mono le.f)
  | some outer =>
   obtain ⟨io, hio, hb⟩ : ∃ i, μ outer = some i /\ b.roundOf = some i.b := by
    have := hR.round
    rw [hr] at this; exact zo1 this
   simp only []
   cases hlo : zdr H outer with
   | none => exact trivial
   | some o =>
    rw [zad]
    cases hx : zj9 C H.next v with
    | none => exact trivial
    | some h =>
     obtain ⟨hl, r', hg, hw, rel⟩ := zlc hH hlo hio
     obtain ⟨idf, hdf, hdf'⟩ := rel.defers
     have le : μ.le (μ.ext H.next ⟨w.heap.size, true, 0, 0, false⟩) := hH.ext_le
     have h2 := hH.newBlk (x := .loop ⟨.ready, none, R.fn, R.n, tm, params.toList, assign, body, o.defers⟩) (o := .loop { state := .ready, pending := none, fn := b.fn, tmps, params, assign, body, defers := r'.defers })
      (i := ⟨w.heap.size, true, 0, 0, false⟩) rfl rfl (by
       rw [zou]; exact ⟨_, rfl, rfl, rfl, hR.fn, ht.mono le, rfl, rfl, rfl, ⟨idf, le _ _ hdf, hdf'⟩⟩)
     have hi2 : (μ.ext H.next ⟨w.heap.size, true, 0, 0, false⟩) H.next = some ⟨w.heap.size, true, 0, 0, false⟩ := Mu.ext_same
     obtain ⟨g, args', hA, hfr⟩ := zut (ds := ds) hS hx hi2 (hvr.mono le.f _ _) (cur := some (newBlk H (.loop ⟨.ready, none, R.fn, R.n, tm, params.toList, assign, body, o.defers⟩)))
     have run : (Instr.enterLoop b.fn tmps params assign body b.roundOf).run P w = .ok (w.heap.size, []) (w.alloc (.loop { state := .ready, pending := none, fn := b.fn, tmps, params, assign, body, defers := r'.defers })) := by
      simp_all [Instr.enterLoop, zh2]
     refine ⟨_, _, b.atR ⟨tmps, ds⟩ (.inRangeFunc w.heap.size :: k') :: cs, _, .one (zrk run (hA _)), le, zcn hH.size _, h2, hfr, .cons ⟨?_, ?_⟩ (hcs.mono le)⟩
     ·have := hR.mono le.f
      exact ⟨this.fn, this.size, this.defers, this.mode, this.kind, this.round⟩
     ·show if R.mode.running = true then zea C _ acs.length R.n none (.inRange H.next :: k) tm (.inRangeFunc w.heap.size :: k') tmps else _
      rw [yab hR.running]; exact .plain (.cons (.inRange _ ⟨w.heap.size, true, 0, 0, false⟩ hi2) (hk.mono fun _ _ r => r.mono le.f)) (ht.mono le.f)
theorem z1o {c : Code} : step P (lone (b.atR ⟨tmps, ds⟩ (.code (.scope c) :: k')) cs w) = .next (lone (b.atR ⟨tmps, ds⟩ (.code c :: .inScope c :: k')) cs w) :=
 step_lone_go (by simp [stepG, stepG.exec, Frame.atR])
theorem zwa {c : Code} : step P (lone (b.atR ⟨tmps, ds⟩ (.inScope c :: k')) cs w) = .next (lone (b.atR ⟨tmps, ds⟩ k') cs w) :=
 step_lone_go (by simp [stepG, stepG.exec, Frame.atR])
theorem zzn4 (hS : Sim P C B N I) (hI : I w) (hH : zbp B N μ H w) (hcs : Frs C μ acs cs) (hR : zbv μ R (b.atR ⟨tmps, ds⟩ [])) (ht : zc3 μ R.n tm tmps) : ∀ (c : Code) {k : List zcj} {k' : List Item}, zfd (zbr μ) k k' →
  zci P C B N μ base (lone (b.atR ⟨tmps, ds⟩ (.code c :: k')) (cs ++ base) w) w ((zzld c).f C k tm R acs H) := by
 intro c; induction c with
 | skip => intro k k' hk; exact zwn hH hcs hR ht hk stepR_skip
 | region id ops d =>
  intro k k' hk
  cases d with
  | true => exact zznv hS hH hcs hR ht hk
  | false =>
   refine zci.of_steps (.one stepR_region) (fun _ _ h => h) (Below.refl N w) ?_
   have := zy7 (base := base) (all := ops) hS ops.toList 0 tm.cut H w μ tmps (by simp) (yaw _) hI hH hcs hR ht.cut hk
   rw [ycr] at this; exact this
 | seq x y ihx _ =>
  intro k k' hk; exact zci.of_steps (.one stepR_seq) (fun _ _ h => h) (Below.refl N w) (ihx (.cons (.code y) hk))
 | cond c x y _ _ => intro k k' hk; exact zzn2 hH hcs hR ht hk
 | block id c _ => intro k k' hk; exact zziq hH hcs hR ht hk
 | loop c _ => intro k k' hk; exact zzmo hH hcs hR ht hk
 | rangeFunc f ps a c _ _ => intro k k' hk; exact zzgv hS hH hcs hR ht hk
 | exit id => intro k k' hk; exact zznp hH hcs hR ht hk
 | scope c _ => intro k k' hk; exact zhg hH hcs hR ht (.cons (.code _) (.cons (.inScope _) hk)) (.one z1o)
 | label l => intro k k' hk; exact zwn hH hcs hR ht hk stepR_label
 | goto l => intro k k' _; exact trivial
 | ret => intro k k' _; exact ret_ok hH hcs hR ht
 | refuse s => intro k k' _; exact trivial
theorem zznq (hS : Sim P C B N I) (hI : I w) (hH : zbp B N μ H w) (hcs : Frs C μ acs cs) (hR : zbv μ R (b.atR ⟨tmps, ds⟩ [])) {todo : List zcj} {btodo : List Item} (hb : zea C μ acs.length R.n (some H) todo tm btodo tmps) :
  zci P C B N μ base (lone (b.atR ⟨tmps, ds⟩ btodo) (cs ++ base) w) w (zod C todo tm R acs H) := by
 generalize hc : some H = cur at hb
 cases hb with
 | plain a t =>
  cases a with
  | nil => exact zzds hH hcs hR t
  | cons i hk =>
   cases i with
   | code c => exact zzn4 hS hI hH hcs hR t c hk
   | inBlock id => exact zwn hH hcs hR t hk stepR_inBlock
   | inLoop c => exact zhg hH hcs hR t (.cons (.code _) (.cons (.inLoop _) hk)) (.one stepR_inLoop)
   | inScope c => exact zwn hH hcs hR t hk zwa
   | ops all i hi => exact zy7 hS _ i _ _ _ _ _ rfl hi hI hH hcs hR t hk
   | inRange l i hl => exact trivial
   | endRange l i hl => exact z26 hH hcs hR t hk hl
   | beginRound => exact zzir hH hcs hR t hk
 | @reg _ all old _ olds stages _ order _ _ anc D S hr hst hp hk =>
  cases hc; show zci P C B N μ base _ w (z5z all old olds stages C _ tm R acs H)
  unfold z5z
  cases stages with
  | nil => grind [zzav]
  | cons st stages =>
   by_cases hlt : st.heavy <= all.size
   ·obtain ⟨_, _, D1, D2, h1, _⟩ := zhi hst hlt
    obtain ⟨o, ho, _⟩ := zjn h1
    have : zev all.toList st.heavy = some o := by grind [zbs]
    simp only [this]; grind [zzhr]
   ·have : zev all.toList st.heavy = none := by grind [zbs]
    simp only [this]; grind [zdk, za1, z7c, z7e]
 | @mid _ all old _ olds lights again stages _ order _ _ anc D D2 S hr h1 h2 hw hk =>
  show zci P C B N μ base _ w (z5z all old olds (⟨all.size, lights, again⟩ :: stages) C _ tm R acs H)
  unfold z5z; have : zev all.toList all.size = none := by rw [zbs]; simp
  simp only [this]; grind [zdk, za1, zzb4]
 | wait _ _ _ _ _ => cases hc
end
end Go.Am
namespace Go.Am
open Go Go.RowKit
section
variable {P : Program} {C : Ctx} {B N : Nat} {I : World -> Prop} {μ ν : Mu} {H H' : zaf} {w : World} {tm : Tm} {R : zgz} {acs : List zap} {base cs : List Frame}
variable {b : Frame} {tmps : Array Value}
theorem zrj {block : Nat} {es calls : List Deferred} {w' : World} (hm : b.mode ≠ .run) (hd : b.defers = { target := .collected block, args := #[] } :: es) (hr : (Instr.takeDeferred block).run P w = .ok calls w') :
  step P (lone b cs w) = .next (lone { b with defers := calls ++ es } cs w') := by
 obtain ⟨fn, tmps, todo, defers, mode, kind, round⟩ := b
 simp only at hm hd
 subst hd; refine step_lone_go ?_
 simp_all [stepG, unwind]
theorem z6j {f : Nat} {cap as : Array Value} {es : List Deferred} (hm : b.mode ≠ .run) (hd : b.defers = { target := .fn (.func f) cap, args := as } :: es) (hr : (callFunc f (as ++ cap)).run P w = .ok (.enter f (as ++ cap)) w) :
  step P (lone b cs w) = .next (lone (Frame.enter P f (as ++ cap) .deferred) ({ b with defers := es } :: cs) w) := by
 obtain ⟨fn, tmps, todo, defers, mode, kind, round⟩ := b
 simp only at hm hd
 subst hd; refine step_lone_go ?_
 simp_all [stepG, unwind, callDeferred, invoke]
def zop (c : Frame) : Frame :=
 match c.mode with
 | .panicking ({ recovered := true, .. } :: older) =>
  match older.dropWhile (!·.goexit) with
  | [] => { c with mode := .returning }
  | rest => { c with mode := .panicking rest }
 | _ => c
theorem ztt {fn : Func} {v : Value} {c : Frame} (hm : b.mode = .returning) (hd : b.defers = []) (hk : b.kind = .deferred) (hf : P.funcs[b.fn]? = some fn) (hr : (results fn b.tmps).run P w = .ok v w) :
  step P (lone b (c :: cs) w) = .next (lone (zop c) cs w) := by
 refine step_lone_go ?_
 simp only [stepG, unwind, doReturn, hm, hd, hk, hf, Sem.runT_eq, hr, GStep.bare_after]; rfl
def z4h (tmps : Array Value) (r : ResultVar) : Sem Value :=
 match r with
 | .tmp t => pure (tmps.getD t undef)
 | .cell a t => do loadVar t (<- asAddr (tmps.getD a undef))
theorem z6m (fn : Func) (tmps : Array Value) : results fn tmps = (do let vs <- fn.results.mapM (z4h tmps); pure (if h : vs.size = 1 then vs[0] else .tuple vs)) := rfl
theorem zqf (hT : zdh P C) (hH : zbp B N μ H w) {n : Nat} (ht : zc3 μ n tm tmps) : ∀ (rs : List ResultVar) (l : List zab), zel (zfw C H tm) rs = some l →
  ∃ vs, (rs.mapM (z4h tmps)).run P w = .ok vs w /\ zbw μ l vs := by
 intro rs; induction rs with
 | nil => intro l h; rw [zh4] at h; cases h; exact ⟨[], by simp_all, .nil⟩
 | cons r rs ih =>
  intro l h; rw [zcq, zac] at h; obtain ⟨a, ha, h⟩ := h
  rw [zac] at h; obtain ⟨m, hm, h⟩ := h
  cases h; obtain ⟨vs, h1, h2⟩ := ih m hm
  rw [List.mapM_cons]
  cases r with
  | tmp t =>
   refine ⟨_, ?_, .cons (ht.2 t a ha) h2⟩
   grind [z4h, Sem.run_bind, Sem.run_pure, Result.andThen_ok]
  | cell x t =>
   simp only [zfw, zac, zgo] at ha; obtain ⟨p, ⟨av, hav, rfl⟩, ty, hty, c, hc, hl⟩ := ha
   have hv := ht.2 x _ hav
   rw [zaq] at hv; obtain ⟨i, hi, hv⟩ := hv
   obtain ⟨v', h3, h4⟩ := z4x (P := P) hH (hT.facts hty) hc hi hl
   refine ⟨_, ?_, .cons h4 h2⟩
   grind [asAddr, z4h, Sem.run_bind, Sem.run_pure, Result.andThen_ok]
theorem zup (hT : zdh P C) (hH : zbp B N μ H w) {n : Nat} (ht : zc3 μ n tm tmps) {fn : Func} {l : List zab} (h : zfe C H tm fn.results.toList = some l) :
  ∃ v, (results fn tmps).run P w = .ok v w /\ zaq μ (zmw l) v := by
 obtain ⟨vs, h1, h2⟩ := zqf hT hH ht _ _ h
 refine ⟨if h : vs.toArray.size = 1 then vs.toArray[0] else .tuple vs.toArray, ?_, ?_⟩
 ·grind [z6m, Array.mapM_eq_mapM_toList, Sem.run_bind, map_eq_pure_bind, Result.andThen_ok, Sem.run_pure]
 ·have hl := h2.length
  cases l with
  | nil =>
   rw [zbw] at h2; subst h2; rw [dif_neg (by simp)]
   show zaq μ (.tup []) _
   rw [zaq]; exact ⟨_, rfl, .nil⟩
  | cons a m =>
   cases m with
   | nil =>
    rw [zbw] at h2; obtain ⟨v, r, rfl, hv, hr⟩ := h2
    rw [zbw] at hr; subst hr; rw [dif_pos (by simp)]
    exact hv
   | cons a2 m =>
    rw [dif_neg (by simp [hl])]
    show zaq μ (.tup (a :: a2 :: m)) _
    grind [zaq]
def DefRel (μ : Mu) : Option (List zlr) -> Option (List Deferred) -> Prop
 | none, none => True
 | some a, some b => zfd (zkp μ) a b
 | _, _ => False
theorem z3b (hH : zbp B N μ H w) {l : Nat} {x : Option (List zlr)} (h : zf4 H l = some x) {i : BI} (h4 : μ l = some i) : B <= l /\ ∃ x', H.t.get l = some (.deferred x) /\ w.heap[i.b]? = some (.deferred x') /\ DefRel μ x x' := by
 unfold zf4 at h; rw [zae, zg3, zac] at h; obtain ⟨h1, y, h2, h3⟩ := h
 have : y = .deferred x := by cases y <;> simp [zav.asDeferred] at h3; rw [h3]
 subst this; obtain ⟨o, h5, h6⟩ := hH.blk l _ i h2 h4
 rw [zou] at h6; obtain ⟨r', rfl, h7⟩ := h6
 refine ⟨Nat.le_of_not_lt fun hlt => ?_, r', h2, h5, ?_⟩
 ·have := (hH.low l _ i hlt h2 h4).2.2
  cases this
 cases x <;> cases r' <;> exact h7
theorem z6y {μ : Mu} {m : zqm} {m' : FrameMode} (h : zti μ m m') (hm : m.running = false) : m' ≠ .run := by
 rintro rfl
 cases m <;> first | exact h.elim | cases hm
theorem z83 (hS : Sim P C B N I) (hH : zbp B N μ H w) (hcs : Frs C μ acs cs) {fr : zap} (hr : zbv μ fr.R b) (hm : fr.R.mode.running = false) (ht : zc3 μ fr.R.n fr.tm b.tmps) {d : zlr} {l : List zlr} (hd : fr.R.defers = d :: l) :
  zci P C B N μ base (lone b (cs ++ base) w) w (zrh C d l fr acs H) := by
 have hrun := z6y hr.mode hm
 have hds := hr.defers
 rw [hd] at hds; generalize hbd : b.defers = bd at hds
 cases hds with
 | @cons _ e _ es h1 h2 =>
  obtain ⟨dfn, dr, dargs⟩ := d
  have h1 := h1.rel
  unfold zrh
  cases dfn with
  | none =>
   obtain ⟨i, hi, rfl⟩ := h1
   simp only []
   cases hx : zf4 H dr with
   | none => exact trivial
   | some x =>
    rw [zad]
    cases x with
    | none => exact trivial
    | some calls =>
     obtain ⟨hl, x', hg, hw, rel⟩ := z3b hH hx hi
     cases x' with
     | none => exact rel.elim
     | some calls' =>
      have run : (Instr.takeDeferred i.b).run P w = .ok calls' (World.setBlk w i.b (.deferred none)) := by
       simp_all [zhp, getObj, Sem.run, Instr.takeDeferred]
      refine ⟨μ, _, cs, _, .one (zrj hrun hbd run), fun _ _ h => h, zc9 (hH.own dr i hl hi).1, ?_, ⟨?_, ?_⟩, hcs⟩
      ·refine hH.upd hg hi hl ?_
       grind [zou]
      ·refine ⟨hr.fn, hr.size, ?_, hr.mode, hr.kind, hr.round⟩
       show zfd (zkp μ) (zfp calls l) (calls' ++ es)
       rw [zca]; exact zfd.append rel h2
      ·show if fr.R.mode.running = true then zea C _ _ _ _ _ _ _ _ else _
       rw [yaa (by grind)]
       exact ht
  | some fn =>
   cases fn with
   | yld m => exact trivial
   | func f =>
    obtain ⟨fn, cap, as, rfl, hfn, hl⟩ := h1
    cases hfn; simp only []
    cases hp : C.prims.get f with
    | some x => exact trivial
    | none =>
     simp only []
     cases he : zeg C f dargs true with
     | none => exact trivial
     | some g =>
      obtain ⟨h3, fn, hfn, hb⟩ := zoe (cur := some H) hS.fns he hl
      refine ⟨μ, _, { b with defers := es } :: cs, w, .one (z6j hrun hbd (zis hS.fns hfn hb)), fun _ _ h => h, Below.refl N w, hH, h3, .cons ⟨⟨hr.fn, hr.size, h2, hr.mode, hr.kind, hr.round⟩, ?_⟩ hcs⟩
      show if fr.R.mode.running = true then zea C _ _ _ _ _ _ _ _ else _
      rw [yaa (by grind)]
      exact ht
theorem zgy.still {dp : Nat} {cur cur' : Option zaf} {fr : zap} (h : zgy C μ dp cur fr b) (hm : fr.R.mode.running = false) : zgy C μ dp cur' fr b := by
 refine ⟨h.rest, ?_⟩
 have := h.body
 simp_all
theorem zxp {l : List PanicEntry} {m : List zqc} (h : zfd (zi4 μ) m l) : l.dropWhile (!·.goexit) = [] := by
 induction h with
 | nil => rfl
 | cons a _ ih => simp [a.goexit, ih]
def zzis (c : zap) (rest : List zap) (H : zaf) : Option zij :=
 match c.R.mode with
 | .panicking (⟨_, true⟩ :: _) => some (⟨zj5 c .returning, rest, H⟩ : zij)
 | _ => zaj (!c.R.mode.running) (some ⟨c, rest, H⟩)
def z4l (C : Ctx) (fr : zap) (ch : List zqc) (cs : List zap) (H : zaf) : zik :=
 zin (ob (C.fns.get fr.R.fn) fun _ => match cs with | c :: rest => some ⟨zk8 c ch, rest, H⟩ | [] => none) 19
theorem zzob {dp : Nat} {c : zap} {c' : Frame} (hc : zgy C μ dp none c c') {x : zij} {rest : List zap} (h : zzis c rest H = some x) : x.cs = rest /\ x.H = H /\ zgy C μ dp (some H) x.fr (zop c') := by
 have hm := hc.rest.mode
 have stay : c'.mode = c'.mode -> (zop c' = c') -> c.R.mode.running = false -> x = ⟨c, rest, H⟩ -> x.cs = rest /\ x.H = H /\ zgy C μ dp (some H) x.fr (zop c') := by
  intro _ h1 h2 h3; subst h3; rw [h1]; exact ⟨rfl, rfl, hc.still h2⟩
 obtain ⟨ct, ctm, cR⟩ := c
 obtain ⟨f, n, de, mode, dd, ro⟩ := cR
 unfold zzis at h; simp only at h hm
 cases mode with
 | run => cases h
 | returning =>
  cases hcm : c'.mode with
  | returning => exact stay rfl (by unfold zop; rw [hcm]) rfl (yci h).symm
  | _ => rw [hcm] at hm; exact hm.elim
 | panicking ch =>
  cases hcm : c'.mode with
  | run => rw [hcm] at hm; exact hm.elim
  | returning => rw [hcm] at hm; exact hm.elim
  | panicking ch' =>
   rw [hcm] at hm
   cases hm with
   | nil => exact stay rfl (by unfold zop; rw [hcm]) rfl (yci h).symm
   | @cons p e older older' hp hold =>
    obtain ⟨pv, pr⟩ := p
    obtain ⟨ev', er, eg⟩ := e
    obtain ⟨q1, q2, q3⟩ := hp
    simp only at q1 q2 q3
    subst q2 q3
    cases er with
    | false => exact stay rfl (by unfold zop; rw [hcm]) rfl (yci h).symm
    | true =>
     cases yci h
     refine ⟨rfl, rfl, ?_⟩
     have : zop c' = { c' with mode := .returning } := by
      grind [zop, zxp]
     rw [this]; have hb := hc.body
     exact ⟨⟨hc.rest.fn, hc.rest.size, hc.rest.defers, trivial, hc.rest.kind, hc.rest.round⟩, hb⟩
theorem z58 (hS : Sim P C B N I) (hH : zbp B N μ H w) (hcs : Frs C μ acs cs) {fr : zap} (hr : zbv μ fr.R b) (hm : b.mode = .returning) (hd : b.defers = []) (ht : zc3 μ fr.R.n fr.tm b.tmps) :
  zci P C B N μ base (lone b (cs ++ base) w) w (zmu C fr acs H) := by
 unfold zmu
 cases hx : ob (C.fns.get fr.R.fn) fun fn => zfe C H fr.tm fn.results.toList with
 | none => exact trivial
 | some l =>
  rw [zac] at hx; obtain ⟨fn, hfn, hres⟩ := hx
  obtain ⟨v, h1, h2⟩ := zup hS.tys hH ht hres
  have hf : P.funcs[b.fn]? = some fn := by rw [hr.fn]; exact (hS.fns _ _ hfn).1
  have hk := hr.kind
  simp only []
  cases hcs with
  | nil =>
   simp only [zay]
   cases hdf : fr.R.deferred with
   | true => exact trivial
   | false =>
    rw [hdf] at hk; rw [yaa (by simp)]
    split
    ·rename_i hroot
     exact ⟨μ, b, w, v, .refl _ _, fun _ _ h => h, Below.refl N w, hH, h2, by rw [hr.fn]; simp_all, hm, hd, hk, fn, hf, h1⟩
    ·exact trivial
  | @cons c c' acs1 cs1 hc hcs1 =>
   simp only []
   cases hdf : fr.R.deferred with
   | true =>
    rw [hdf] at hk; simp only [cond_true]; show zci P C B N μ base _ w (zin (zzis c acs1 H) 18)
    generalize hx : zzis c acs1 H = x
    cases x with
    | none => exact trivial
    | some x =>
     obtain ⟨h3, h4, h5⟩ := zzob hc hx
     obtain ⟨xf, xc, xh⟩ := x
     simp only at h3 h4 h5
     subst h3 h4
     exact ⟨μ, _, cs1, w, .one (ztt hm hd hk hf h1), fun _ _ h => h, Below.refl N w, hH, h5, hcs1⟩
   | false =>
    rw [hdf] at hk; simp only [cond_false]
    cases hfi : zb4 c (zmw l) with
    | none => exact trivial
    | some g =>
     exact ⟨μ, _, cs1, w, .one (step_leave_returned ⟨hm, hd, hk, fn, hf, h1⟩), fun _ _ h => h, Below.refl N w, hH, zic hc hfi h2, hcs1⟩
theorem z82 (hS : Sim P C B N I) (hH : zbp B N μ H w) (hcs : Frs C μ acs cs) {fr : zap} (hfr : zgy C μ acs.length (some H) fr b) (hm : fr.R.mode.running = false) :
  zci P C B N μ base (lone b (cs ++ base) w) w (zvz C fr acs H) := by
 have ht : zc3 μ fr.R.n fr.tm b.tmps := by
  have := hfr.body
  simp_all
 have hr := hfr.rest
 unfold zvz
 cases hd : fr.R.defers with
 | cons d l => grind [z83]
 | nil =>
  have hbd : b.defers = [] := by
   have := hr.defers
   rw [hd] at this; generalize hbd : b.defers = bd at this
   cases this
   rfl
  have hmode := hr.mode
  simp only []
  cases hmo : fr.R.mode with
  | run => rw [hmo] at hm; cases hm
  | returning =>
   rw [hmo] at hmode; have : b.mode = .returning := by
    cases hb : b.mode with
    | returning => rfl
    | _ => rw [hb] at hmode; exact hmode.elim
   exact z58 hS hH hcs hr this hbd ht
  | panicking ch =>
   rw [hmo] at hmode
   cases hb : b.mode with
   | run => rw [hb] at hmode; exact hmode.elim
   | returning => rw [hb] at hmode; exact hmode.elim
   | panicking ch' =>
    rw [hb] at hmode; show zci P C B N μ base _ w (z4l C fr ch acs H)
    unfold z4l
    cases hfn : C.fns.get fr.R.fn with
    | none => exact trivial
    | some fn =>
     rw [zad]; have hf : P.funcs[b.fn]? = some fn := by rw [hr.fn]; exact (hS.fns _ _ hfn).1
     cases hcs with
     | nil => exact trivial
     | @cons c c' acs1 cs1 hc hcs1 =>
      exact ⟨μ, _, cs1, w, .one (step_leave_panicked ⟨hb, hbd, fn, hf⟩), fun _ _ h => h, Below.refl N w, hH, z4k hc hmode, hcs1⟩
theorem zzgc (hS : Sim P C B N I) (hI : I w) {s : zij} (hH : zbp B N μ s.H w) (hcs : Frs C μ s.cs cs) (hfr : zgy C μ s.cs.length (some s.H) s.fr b) : zci P C B N μ base (lone b (cs ++ base) w) w (stepA C s) := by
 obtain ⟨⟨todo, tm, R⟩, acs, H⟩ := s
 show zci P C B N μ base _ w (bif R.mode.running then zod C todo tm R acs H else zvz C ⟨todo, tm, R⟩ acs H)
 cases hm : R.mode.running with
 | false => grind [z82]
 | true =>
  have hb := hfr.body
  have hr := hfr.rest
  simp only at hb hr
  rw [yab hm] at hb; have hbm : b.mode = .run := by
   have h := hr.mode
   cases hmo : R.mode with
   | run =>
    rw [hmo] at h
    cases hb : b.mode with
    | run => rfl
    | _ => rw [hb] at h; exact h.elim
   | _ => rw [hmo] at hm; cases hm
  have e := zziu hbm
  have := zznq (b := b) (tmps := b.tmps) (ds := b.defers) (base := base) hS hI hH hcs ⟨hr.fn, hr.size, hr.defers, by have := hr.mode; rw [hbm] at this; exact this, hr.kind, hr.round⟩ hb
  simp_all
theorem z4d (hS : Sim P C B N I) (hI : I w) {m : Machine} {o : zik} (h : zci P C B N μ base m w o) : zci P C B N μ base m w (zqe C o) := by
 cases o with
 | fail n => exact trivial
 | done v H => exact h
 | next s =>
  obtain ⟨μ', b, cs, w', h1, h2, h3, h4, h5, h6⟩ := h
  exact zci.of_steps h1 h2 h3 (zzgc hS (hS.inv _ _ h3 hI) h4 h6 h5)
theorem zzl7 (hS : Sim P C B N I) (hI : I w) {m : Machine} : ∀ (n : Nat) {o : zik}, zci P C B N μ base m w o -> zci P C B N μ base m w (zzl8 C n o) := by
 intro n; induction n with
 | zero => intro o h; exact z4d hS hI h
 | succ n ih => intro o h; exact ih (ih h)
theorem z0r (hS : Sim P C B N I) (hI : I w) {f : Nat} (hroot : C.root = f) {args : List zab} {args' : Array Value} (hH : zbp B N μ H w) (hl : zbw μ args args'.toList) {g : zap} (he : zeg C f args false = some g) {n : Nat} {v : zab} {H' : zaf}
  (hrun : zzl8 C n (.next ⟨g, [], H⟩) = .done v H') :
  Calls P f args' w fun e w' => ∃ v' μ', e = .returned v' /\ μ.lw μ' /\ zaq μ' v v' /\ zbp B N μ' H' w' /\ Below N w w' := by
 intro base; have h0 : zci P C B N μ base (lone (Frame.enter P f args' .normal) base w) w (.next ⟨g, [], H⟩) :=
  ⟨μ, _, [], w, .refl _ _, fun _ _ h => h, Below.refl N w, hH, (zoe (cur := some H) hS.fns he hl).1, .nil⟩
 have h1 := zzl7 hS hI n h0
 rw [hrun] at h1; obtain ⟨μ', b, w', v', h2, h3, h4, h5, h6, h7, h8⟩ := h1
 exact ⟨.returned v', w', b, ⟨v', μ', rfl, h3, h6, h5, h4⟩, h2, by rw [h7, hroot], h8⟩
end
end Go.Am
namespace Go.Am
open Go Go.RowKit
structure Out where
 v : zab
 p : Bool
abbrev zbt := Option (Out × zaf)
abbrev Ora := AFn -> List zab -> zaf -> zbt
structure Kt where
 norm : Tm -> zaf -> zbt
 exit : Nat -> Tm -> zaf -> zbt
 ret : Tm -> zaf -> zbt
structure PI where
 id : Nat
 pl : List Nat
 ll : List (Nat × Nat)
def PI.kept (p : PI) : List Nat := zfp p.pl (List.rec (motive := fun _ => List Nat) [] (fun a _ r => a.1 :: r) p.ll)
inductive zbb where
 | skip
 | region (id : Nat) (ops : Array Oper) (draw : Bool)
 | seq (a b : zbb)
 | cond (c : Operand) (x y : zbb)
 | block (id : Nat) (c : zbb)
 | loop (p : PI) (c : zbb)
 | exit (id : Nat)
 | ret
 | cut (p : PI) (c : zbb)
 | range (i : Nat) (pl : List Nat) (f : Operand) (ps : Array Nat) (as : List (Nat × Array Oper)) (c : zbb)
def asC (l : List (Nat × Array Oper)) : Code := List.rec (motive := fun _ => Code) .skip (fun x r g => match r with | [] => .region x.1 x.2 false | _ :: _ => .seq (.region x.1 x.2 false) g) l
def asA (c : zbb) (l : List (Nat × Array Oper)) : zbb := List.rec (motive := fun _ => zbb) c (fun x _ g => .seq (.region x.1 x.2 false) g) l
def zck : zbb -> Code
 | .skip => .skip
 | .region id ops d => .region id ops d
 | .seq a b => .seq (zck a) (zck b)
 | .cond c x y => .cond c (zck x) (zck y)
 | .block id c => .block id (zck c)
 | .loop _ c => .loop (zck c)
 | .exit id => .exit id
 | .ret => .ret
 | .cut _ c => zck c
 | .range _ _ f ps as c => .rangeFunc f ps (asC as) (zck c)
def lim {α : Type} (f : Nat -> Option α) : Option α := @dite _ (∃ n r, f n = some r) (Classical.propDecidable _) (fun h => f h.choose) (fun _ => none)
def Mono {α : Type} (f : Nat -> Option α) : Prop := ∀ n r, f n = some r -> f (n + 1) = some r
theorem Mono.le {α : Type} {f : Nat -> Option α} (h : Mono f) {n m : Nat} {r : α} (hr : f n = some r) (hnm : n <= m) : f m = some r := by
 induction hnm with
 | refl => exact hr
 | step _ ih => exact h _ _ ih
theorem zqv {α : Type} {f : Nat -> Option α} (h : Mono f) {r : α} : lim f = some r ↔ ∃ n, f n = some r := by
 unfold lim; by_cases hx : ∃ n r, f n = some r
 ·rw [dif_pos hx]
  obtain ⟨r0, h0⟩ := hx.choose_spec
  constructor
  ·grind
  ·rintro ⟨n, hn⟩
   have a := h.le h0 (Nat.le_max_left hx.choose n)
   have b := h.le hn (Nat.le_max_right hx.choose n)
   simp_all
 simp_all
def zzmj : zcy -> zab -> (zab -> zbt) -> zbt
 | .bool, v, K => ob v.asBool fun b => K (.bool b)
 | .int k, v, K => ob v.asIntK fun p => zaj (kEq p.1 k) (K (.int k p.2))
 | .string, v, K => ob v.asStr fun l => K (.str l)
 | .ptr _, v, K => K v
 | .slice _, v, K => K v
 | .arr _ _, v, K => K v
 | .map _ _, v, K => K v
 | .struct _, v, K => K v
 | .func, v, K => K v
 | .iface, v, K => K v
 | .other, v, K => K v
def fitD : zcy -> zab -> Prop
 | .bool, v => ∃ b, v = .bool b
 | .int k, v => ∃ n, v = .int k n
 | .string, v => ∃ l, v = .str l
 | _, _ => True
theorem z6z {d : zcy} {v : zab} {K : zab -> zbt} {x : Out × zaf} : zzmj d v K = some x ↔ fitD d v /\ K v = some x := by
 cases d <;> simp only [zzmj, fitD, zac, zae, true_and]
 case bool =>
  grind [zez]
 case int k =>
  constructor
  ·grind [zdg, zf2]
  ·rintro ⟨⟨n, rfl⟩, h⟩; exact ⟨(k, n), rfl, zf2.2 rfl, h⟩
 grind [zd1]
def zim (C : Ctx) (t : Nat) (v : zab) (K : zab -> zbt) : zbt :=
 match C.tys.get t with
 | some ty => zzmj ty.desc v K
 | none => K v
def zzh1 (C : Ctx) (t : Nat) (v : zab) : Prop :=
 match C.tys.get t with
 | some ty => fitD ty.desc v
 | none => True
theorem zcp {C : Ctx} {t : Nat} {v : zab} {K : zab -> zbt} {x : Out × zaf} : zim C t v K = some x ↔ zzh1 C t v /\ K v = some x := by
 grind [zim, zzh1, z6z]
def zj8 (φ : Ora) (r : zqb) (H : zaf) (k : zab -> zaf -> zbt) : zbt :=
 match r with
 | .val v H' => k v H'
 | .enter f args => ob (φ (.func f) args H) fun p => bif p.1.p then some p else k p.1.v p.2
 | .round l args => ob (φ (.yld l) args H) fun p => zaj (!p.1.p) (k p.1.v p.2)
 | .panic v => some (⟨v, true⟩, H)
 | _ => none
def ztx (C : Ctx) (φ : Ora) (all : Array Oper) (n : Nat) (κ : Tm -> zaf -> zbt) (l : List Oper) : Tm -> zaf -> zbt :=
 List.rec (motive := fun _ => Tm -> zaf -> zbt) κ
  (fun o _ g tm H => ob (zbi o.guard all tm) fun w => Bool.rec (motive := fun _ => zbt) (g (putA n tm o.dst zbj) H)
   (zj8 φ ((aop o.op).f C (.now tm) H) H fun v H' => zim C o.type v fun v => g (putA n tm o.dst v) H') w) l
def zch (C : Ctx) (H : zaf) (all : Array Oper) (n : Nat) (old : Tm) (olds : List (Nat × List Nat)) (k : Tm -> zbt) (l : List Nat) : Tm -> zbt :=
 List.rec (motive := fun _ => Tm -> zbt) k
  (fun i _ g tm => ob (zev all.toList i) fun o => ob (zbi o.guard all tm) fun w => Bool.rec (motive := fun _ => zbt) (g (putA n tm o.dst zbj))
   (ob ((zb2 o.op).f C (.mixed tm old (zda i olds) (zb9 o.op)) H) fun v => zim C o.type v fun v => g (putA n tm o.dst v)) w) l
def zfn (C : Ctx) (H : zaf) (all : Array Oper) (old : Tm) (olds : List (Nat × List Nat)) (tm : Tm) (k : zbt) (l : List Nat) : zbt :=
 List.rec (motive := fun _ => zbt) k
  (fun i _ g => ob (zev all.toList i) fun o => ob o.dst fun d => ob (zbi o.guard all tm) fun w => Bool.rec (motive := fun _ => zbt) g
   (ob ((zb2 o.op).f C (.mixed tm old (zda i olds) (zb9 o.op)) H) fun v => zim C o.type v fun v => ob (tm.get d) fun u => zaj (same 10 v u) g) w) l
def hvI (all : Array Oper) (h : Nat) : Nat := bif Nat.blt (zbf all.toList) h then Nat.sub h (Nat.succ (zbf all.toList)) else h
def zht (C : Ctx) (all : Array Oper) (h : Nat) (o : Oper) (tm : Tm) : Option Bool := ob (zbi o.guard all tm) fun w => bif Nat.blt (zbf all.toList) h then zaj (w && ze5 o.op && za4 (zzg7 C o.op)) (some w) else some w
def zg1 (all : Array Oper) (st : zc7) : Bool := Nat.blt (zbf all.toList + zbf all.toList) st.heavy
def z0c (C : Ctx) (all : Array Oper) (n : Nat) (old : Tm) (olds : List (Nat × List Nat)) (st : zc7) (g : Tm -> zaf -> zbt) (tm : Tm) (H : zaf) : zbt :=
 zaj (zmk C all) (ob (z7n all old olds tm st.again) fun es => ob (zn8 C es H) fun H' => zch C H' all n old olds (fun tm => g tm H') st.lights tm)
def zcv (C : Ctx) (φ : Ora) (all : Array Oper) (n : Nat) (old : Tm) (olds : List (Nat × List Nat)) (κ : Tm -> zaf -> zbt) (l : List zc7) : Tm -> zaf -> zbt :=
 List.rec (motive := fun _ => Tm -> zaf -> zbt) κ
  (fun st _ g tm H => Bool.rec (motive := fun _ => zbt) (ob (zev all.toList (hvI all st.heavy)) fun o => ob (zht C all st.heavy o tm) fun w =>
   (fun cont : zab -> zaf -> zbt => Bool.rec (motive := fun _ => zbt) (cont zbj H)
    (zj8 φ ((aop o.op).f C (.mixed tm old (zda (hvI all st.heavy) olds) (zb9 o.op)) H) H fun v H' => zim C o.type v fun v => cont v H') w)
   (fun v H' => zfn C H' all old olds (putA n tm o.dst v) (zch C H' all n old olds (fun tm => g tm H') st.lights (putA n tm o.dst v)) st.again)) (z0c C all n old olds st g tm H) (zg1 all st)) l
def zo4 (C : Ctx) (φ : Ora) (fn n : Nat) (κ : Tm -> zaf -> zbt) (id : Nat) (all : Array Oper) (draw : Bool) : Tm -> zaf -> zbt :=
 Bool.rec (motive := fun _ => Tm -> zaf -> zbt) (fun tm H => ztx C φ all n κ all.toList tm.cut H)
  (fun tm H => ob (ob (C.plans.get fn) fun t => t.get id) fun p => zaj (zkr all p) (zch C H all n tm.cut p.olds (fun tm' => zcv C φ all n tm.cut p.olds κ p.stages tm' H) p.first tm.cut)) draw
def z69 (tm : Tm) (live : List Nat) : Tr zab :=
 List.rec (motive := fun _ => Tr zab) .leaf (fun i _ t => match tm.get i with | some v => t.set i v | none => t) live
def keep (live : List Nat) (tm : Tm) : Tm := ⟨tm.k, z69 tm live, []⟩
def isDef0 : Option (List zlr) -> Bool
 | some [] => true
 | _ => false
def zos (κ : Kt) (p : Option Code) (tm : Tm) (H : zaf) : zbt :=
 match p with
 | none => κ.norm tm H
 | some .ret => κ.ret tm H
 | _ => none
def endLoop (H : zaf) (l : Nat) (r : zj1) : zaf := setBlk H l (.loop ⟨.exhausted, r.pending, r.fn, r.n, r.tm, r.params, r.assign, r.body, r.defers⟩)
def ziw (C : Ctx) (φ : Ora) (fn n : Nat) (κ : Kt) (f : Operand) (ps : List Nat) (a b : Code) (tm : Tm) (H : zaf) : zbt :=
 ob (ev f (.now tm)) fun v => ob v.asFunc fun q => match q.1 with
  | .yld _ => none
  | .func g => zaj (za4 (C.prims.get g)) (ob (φ (.func g) (zfp q.2.1 (.func (.yld (H.next + 1)) [] [] :: q.2.2)) (newBlk (newBlk H (.deferred (some []))) (.loop ⟨.ready, none, fn, n, tm, ps, a, b, H.next⟩))) fun y =>
   zaj (!y.1.p) (ob (zdr y.2 (H.next + 1)) fun r => zaj (!Nat.beq (LoopState.tag r.state) 1) (ob (zos κ r.pending tm (endLoop y.2 (H.next + 1) r)) fun z =>
    zaj (!z.1.p) (ob (zf4 z.2 H.next) fun d => zaj (isDef0 d) (some (z.1, setBlk z.2 H.next (.deferred none)))))))
def den (C : Ctx) (φ : Ora) (fn n : Nat) (c : zbb) : Kt -> Tm -> zaf -> zbt :=
 zbb.rec (motive := fun _ => Kt -> Tm -> zaf -> zbt)
  (fun κ tm H => κ.norm tm H)
  (fun id all draw κ => zo4 C φ fn n κ.norm id all draw)
  (fun _ _ ga gb κ => ga ⟨gb κ, κ.exit, κ.ret⟩)
  (fun c _ _ gx gy κ tm H => ob (ob (ev c (.now tm)) zab.asBool) fun b => Bool.rec (motive := fun _ => zbt) (gy κ tm H) (gx κ tm H) b)
  (fun id _ g κ => g ⟨κ.norm, fun i tm H => Bool.rec (motive := fun _ => zbt) (κ.exit i tm H) (κ.norm tm H) (Nat.beq id i), κ.ret⟩)
  (fun live _ g κ tm H => lim fun m => Nat.rec (motive := fun _ => Tm -> zaf -> zbt) (fun _ _ => none) (fun _ r tm H => g ⟨r, κ.exit, κ.ret⟩ (keep live.kept tm) H) m tm H)
  (fun id κ tm H => κ.exit id tm H)
  (fun κ tm H => κ.ret tm H)
  (fun live _ g κ tm H => g κ (keep live.kept tm) H)
  (fun _ _ f ps as c _ κ tm H => ziw C φ fn n κ f ps.toList (asC as) (zck c) tm H) c
end Go.Am
