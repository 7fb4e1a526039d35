/- What a light operation hangs on. -/
import Derived.Test.YtjiklgloidlihaaGreatDoorAmReg
namespace Go.Am
open Go Go.RowKit
theorem alight_pure {o : Op} (h : pureO o = true) (C : Ctx) (e : Env) (H H' : AHeap) : (alight o).f C e H = (alight o).f C e H' := by
  cases o <;> first | (simp [pureO] at h; done) | rfl | skip
  case makeFunc fn a b => cases fn <;> rfl
theorem alight_congr {e e' : Env} (h : ∀ x, ev x e = ev x e') (o : Op) (C : Ctx) (H : AHeap) : (alight o).f C e H = (alight o).f C e' H := by
  have hs : ∀ l, evs l e = evs l e' := fun l => by unfold evs; rw [funext h]
  have hp : ∀ l, evp l e = evp l e' := fun l => by unfold evp; simp only [h]
  have ho : ∀ x, evo x e = evo x e' := fun x => by cases x <;> simp [evo, h]
  cases o <;> first | rfl | skip
  case move x => exact h x
  case assign x => exact h x
  case pick c a b => simp only [alight, lPick, h]
  case load t a => simp only [alight, lLoad, h]
  case nilCheck x => simp only [alight, lNil, h]
  case binOp op t x y z => simp only [alight, lBin, h]
  case unOp op t x => simp only [alight, lUn, h]
  case convert s d x => simp only [alight, lConv, h]
  case makeInterface t x => simp only [alight, lIface, h]
  case makeFunc fn a b => cases fn <;> simp only [alight, lFuncOf, lFunc, lNone, hs]
  case slice t x lo hi mx => cases mx <;> simp only [alight, lSliceOf, lSlice, lNone, h, ho]
  case fieldAddr s x f => simp only [alight, lFieldAddr, h]
  case field t x f => simp only [alight, lField, h]
  case indexAddr t x i => simp only [alight, lIndexAddr, h]
  case index t x i => simp only [alight, lIndex, h]
  case extract t i => simp only [alight, lExtract, h]
  case build t ps => simp only [alight, lBuild, hp]
  case typeAssert x a u ok => simp only [alight, lAssert, h]
  case lookup t x i ok => simp only [alight, lLookup, h]
  case call c =>
    have h2 : two c e = two c e' := by unfold two; split <;> simp only [h]
    simp only [alight, lCall]
    cases c.callee with
    | builtin b => cases b <;> simp only [lCallee, lBuiltin, lNone, lLen, lMax, lMin, h, h2]
    | _ => rfl
theorem ev_congr {e e' : Env} (h : ∀ t, xTmp t e = xTmp t e') (x : Operand) : ev x e = ev x e' := by
  cases x with
  | tmp t => exact h t
  | _ => rfl
theorem opEnv_congr {tm tm' old : Tm} {olds : List (Nat × List Nat)} {i : Nat} {o : Oper} (h : ∀ t ∈ namesOf o.op, t ∉ oldOf i olds → tm'.get t = tm.get t) (C : Ctx) (H : AHeap) :
    (alight o.op).f C (opEnv tm' old olds i o) H = (alight o.op).f C (opEnv tm old olds i o) H := by
  refine alight_congr (ev_congr fun t => ?_) _ _ _
  simp only [opEnv, xTmp]
  cases hn : memNat t (namesOf o.op) with
  | false => rfl
  | true =>
    cases hm : memNat t (oldOf i olds) with
    | true => rfl
    | false => exact h t ((memNat_eq _ _).1 hn) fun k => by rw [(memNat_eq _ _).2 k] at hm; cases hm

section
variable {P : Program} {C : Ctx} {μ : Mu} {H H' : AHeap} {all : Array Oper} {olds : List (Nat × List Nat)} {anc : Tr Nat} {n : Nat} {old tm tm' : Tm} {D : Nat} {S : Nat → Bool} {order : List Nat} {tmps : Array Value} {ds : List Deferred}
/-- the value of a light operation, as it stands in the slots -/
structure Pend (C : Ctx) (H : AHeap) (all : Array Oper) (olds : List (Nat × List Nat)) (n : Nat) (old tm : Tm) (i : Nat) (o : Oper) (w : Bool) (v : AVal) : Prop where
  op : all[i]? = some o
  want : wantedG o.guard all tm = some w
  val : if w = true then (alight o.op).f C (opEnv tm old olds i o) H = some v else v = undefA
  put : ∀ d, o.dst = some d → d < n → tm.get d = some v
theorem Pend.pure {i : Nat} {o : Oper} {w : Bool} {v : AVal} (h : Pend C H all olds n old tm i o w v) (hp : pureO o.op = true) (H' : AHeap) : Pend C H' all olds n old tm i o w v :=
  ⟨h.op, h.want, by have := h.val; cases w with | false => exact this | true => rw [if_pos rfl] at this ⊢; rw [← this]; exact alight_pure hp _ _ _ _, h.put⟩
/-- what an operation of D reads is not touched by a new one -/
theorem reads_of (R : RegOk all olds anc) (hD : Closed all (tb D)) {i k : Nat} {o u : Oper} (ho : all[i]? = some o) (hi : tb D i = true ∨ (i = k ∧ ∀ j, Binds o j → tb D j = true)) (hu : all[k]? = some u) (hk : tb D k = false) :
    (∀ t ∈ namesOf o.op, t ∉ oldOf i olds → u.dst ≠ some t) ∧ (∀ j w, o.guard = some (j, w) → ∀ g, all[j]? = some g → ∀ d, g.dst = some d → u.dst ≠ some d) := by
  have up : ∀ j, tb (getN anc i) j = true → tb D j = true := fun j hj => R.up hD ho (by
    rcases hi with hi | ⟨_, hi⟩
    · exact fun j hj => hD i o ho hi j hj
    · exact hi) hj
  constructor
  · intro t ht hto e
    have := R.name i o k u t ho hu e ht
    rw [if_neg hto] at this
    have := up k this
    rw [hk] at this; cases this
  · intro j w hg g hgj d hd e
    have h1 := R.guard i o ho
    rw [hg] at h1
    have h2 := up j h1
    have := R.one j k g u d hgj hu hd e
    rw [this, hk] at h2; cases h2
theorem wanted_congr {o : Oper} (h : ∀ j w, o.guard = some (j, w) → ∀ g, all[j]? = some g → ∀ d, g.dst = some d → tm'.get d = tm.get d) : wantedG o.guard all tm' = wantedG o.guard all tm := by
  unfold wantedG wantB
  cases hg : o.guard with
  | none => rfl
  | some jw =>
    obtain ⟨j, w⟩ := jw
    simp only [wantIf, lget_eq]
    cases hj : all.toList[j]? with
    | none => rfl
    | some g =>
      simp only [ob_some']
      cases hd : g.dst with
      | none => rfl
      | some d => simp only [ob_some']; rw [h j w hg g (by simpa using hj) d hd]
theorem Pend.keep (R : RegOk all olds anc) (hD : Closed all (tb D)) {i k : Nat} {o u : Oper} {w : Bool} {v x : AVal} (h : Pend C H all olds n old tm i o w v) (hi : tb D i = true) (hu : all[k]? = some u) (hk : tb D k = false) :
    Pend C H all olds n old (putA n tm u.dst x) i o w v := by
  obtain ⟨r1, r2⟩ := reads_of R hD h.op (.inl hi) hu hk
  refine ⟨h.op, ?_, ?_, ?_⟩
  · rw [wanted_congr (tm := tm) fun j w hg g hj d hd => by rw [get_putA, if_neg fun e => r2 j w hg g hj d hd e.1]]
    exact h.want
  · have := h.val
    cases w with
    | false => exact this
    | true =>
      rw [if_pos rfl] at this ⊢
      rw [opEnv_congr (tm := tm) fun t ht hto => by rw [get_putA, if_neg fun e => r1 t ht hto e.1]]
      exact this
  · intro d hd hn
    rw [get_putA, if_neg]
    · exact h.put d hd hn
    · rintro ⟨e, _⟩
      have := R.one i k o u d h.op hu hd e
      rw [this, hk] at hi; cases hi
/-- a new light operation -/
theorem Pend.fresh (R : RegOk all olds anc) (hD : Closed all (tb D)) {i : Nat} {o : Oper} {w : Bool} {v : AVal} (ho : all[i]? = some o) (hp : ∀ j, Binds o j → tb D j = true) (hi : tb D i = false)
    (hw : wantedG o.guard all tm = some w) (hv : if w = true then (alight o.op).f C (opEnv tm old olds i o) H = some v else v = undefA) :
    Pend C H all olds n old (putA n tm o.dst v) i o w v := by
  obtain ⟨r1, r2⟩ := reads_of R hD ho (.inr ⟨rfl, hp⟩) ho hi
  refine ⟨ho, ?_, ?_, ?_⟩
  · rw [wanted_congr (tm := tm) fun j w hg g hj d hd => by rw [get_putA, if_neg fun e => r2 j w hg g hj d hd e.1]]
    exact hw
  · cases w with
    | false => exact hv
    | true =>
      rw [if_pos rfl] at hv ⊢
      rw [opEnv_congr (tm := tm) fun t ht hto => by rw [get_putA, if_neg fun e => r1 t ht hto e.1]]
      exact hv
  · intro d hd hn
    rw [get_putA, if_pos ⟨hd, hn⟩]
/-- a light operation done in the first machine alone -/
theorem RegRel.light {i : Nat} {o : Oper} {v : AVal} {D' : Nat} (R : RegRel μ all olds anc n old tm D S order tmps) (ho : all[i]? = some o) (hi : tb D i = false) (hp : ∀ j, Binds o j → tb D j = true) (hD : ∀ k, tb D' k = (tb D k || k == i)) :
    RegRel μ all olds anc n old (putA n tm o.dst v) D' S order tmps := by
  refine ⟨R.reg, R.sched, fun k hk => by rw [hD, R.sub k hk]; rfl, R.closed, ?_, R.size, ?_, R.past, ?_, ?_⟩
  · intro k u hu hk j hj
    rw [hD] at hk ⊢
    simp only [Bool.or_eq_true, beq_iff_eq] at hk ⊢
    rcases hk with hk | rfl
    · exact .inl (R.dclosed k u hu hk j hj)
    · rw [ho] at hu; cases hu
      exact .inl (hp j hj)
  · intro k u d x hu hud hk hd hx
    rw [get_putA, if_neg] at hx
    · exact R.now k u d x hu hud hk hd hx
    · rintro ⟨e, _⟩
      have := R.reg.one k i u o d hu ho hud e
      have hk' := R.sub k hk
      rw [this, hi] at hk'; cases hk'
  · intro d hd hw
    rw [get_putA, if_neg]
    · refine R.keep d hd fun k u hu hud => ?_
      have := hw k u hu hud
      rw [hD] at this
      simp only [Bool.or_eq_false_iff] at this
      exact this.1
    · rintro ⟨e, _⟩
      have := hw i o ho e
      rw [hD] at this
      simp at this
  · intro d x hd hx
    refine R.big d x hd ?_
    rw [get_putA, if_neg fun e => absurd e.2 (by omega)] at hx
    exact hx
theorem RegRel.mono {ν : Mu} (hm : μ.le ν) (R : RegRel μ all olds anc n old tm D S order tmps) : RegRel ν all olds anc n old tm D S order tmps :=
  ⟨R.reg, R.sched, R.sub, R.closed, R.dclosed, R.size, fun i o d v a b c e f => (R.now i o d v a b c e f).mono hm _ _, fun d v a b c => (R.past d v a b c).mono hm _ _, R.keep, fun d v a b => (R.big d v a b).mono hm _ _⟩
end
end Go.Am
