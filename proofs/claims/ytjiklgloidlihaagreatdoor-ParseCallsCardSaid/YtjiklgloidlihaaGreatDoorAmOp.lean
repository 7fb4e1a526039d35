/- What every operation comes to. -/
import Derived.Test.YtjiklgloidlihaaGreatDoorAmAppend
namespace Go.Am
open Go Go.RowKit
section
variable {P : Program} {C : Ctx} {N : Nat} {μ : Mu} {H H' : AHeap} {w : World} {I : World → Prop}
variable {e : Env} {ρ : Operand → Value} {dst : Option Tmp} {type : TypeId} {pos : String} {after : Array Edge} {guard : Option (Nat × Bool)} {v : AVal}

/-- the context's functions are the program's -/
def FnsOk (P : Program) (C : Ctx) : Prop := ∀ f fn, C.fns.get f = some fn → P.funcs[f]? = some fn ∧ (fn.name == "runtime.NumGoroutine") = false
/-- a function that is not walked: what it computes, in every world that fits -/
def PrimsOk (P : Program) (C : Ctx) (N : Nat) (I : World → Prop) : Prop := ∀ f g, C.prims.get f = some g → ∀ args H v, g args H = some v → ∀ μ w args', HRel N μ H w → I w → LRel μ args args'.toList →
  (∃ v', (callFunc f args').run P w = .ok (.value v') w ∧ VRel μ v v') ∨
  ((callFunc f args').run P w = .ok (.enter f args') w ∧ Calls P f args' w fun e w' => ∃ v', e = .returned v' ∧ VRel μ v v' ∧ Below w.heap.size w w')

theorem resR_some {x : Option ARes} {r : ARes} (h : resR x = r) (hr : r ≠ .fail) : x = some r := by
  unfold resR at h
  split at h
  · rw [h]
  · exact absurd h.symm hr
theorem resolve_ok (hE : ERel μ e ρ) {c : Call} {f : Operand} (hc : c.callee = .value f) {p : AFn × List AVal × List AVal} (h : resolveA f c.args e = some p) :
    ∃ fn cap as, (resolve ρ c type).run P w = .ok { target := .fn fn cap, args := as } w ∧ FnRel μ p.1 fn ∧ LRel μ p.2.1 as.toList ∧ LRel μ p.2.2 cap.toList := by
  unfold resolveA at h
  simp only [ob_some, asFunc_some, lapp_eq] at h
  obtain ⟨a, ha, q, rfl, as, has, h⟩ := h
  cases h
  have hv := hE _ _ ha
  rw [VRel] at hv
  obtain ⟨fn, first, cap, hfv, hfn, h1, h2⟩ := hv
  refine ⟨fn, cap, first ++ c.args.map ρ, ?_, hfn, ?_, h2⟩
  · simp only [resolve, hc, hfv, Deferred.ofValue, Sem.run_pure]
  · have h3 := hE.many has
    have := h1.append h3
    simpa using this
theorem run_callFunc (hF : FnsOk P C) {f : Nat} {fn : Func} (hf : C.fns.get f = some fn) (hb : fn.body.isSome = true) {args : Array Value} : (callFunc f args).run P w = .ok (.enter f args) w := by
  obtain ⟨h1, h2⟩ := hF f fn hf
  unfold callFunc
  simp only [Sem.run_bind, run_program, Result.andThen_ok, h1, h2]
  have : fn.body.isNone = false := by cases h : fn.body <;> simp [h] at hb ⊢
  simp [this]
/-- what an operation of the abstract machine comes to, in the model -/
def OpOk (P : Program) (C : Ctx) (N : Nat) (μ : Mu) (H : AHeap) (w : World) (ρ : Operand → Value) (o : Oper) : ARes → Prop
  | .val v H' => HvOk P N μ w ρ o v H' ∨ (H' = H ∧ ∃ f args', (execOp ρ o).run P w = .ok (.enter f args') w ∧ Calls P f args' w fun e w' => ∃ v', e = .returned v' ∧ VRel μ v v' ∧ Below w.heap.size w w')
  | .enter f args => ∀ fn, C.fns.get f = some fn → fn.body.isSome = true → ∃ args', (execOp ρ o).run P w = .ok (.enter f args') w ∧ LRel μ args args'.toList
  | .round l args => ∃ i args', μ l = some i ∧ LRel μ args args'.toList ∧ (execOp ρ o).run P w = (Instr.yield i.b args').run P w
  | .defer d => (∃ c, o.op = .defer c) ∧ ∃ d', (execOp ρ o).run P w = .ok (.defer d') w ∧ ADefRel μ d d'
  | .panic v => ∃ v', (execOp ρ o).run P w = .halt (.panic v') w ∧ VRel μ v v'
  | .recover => (execOp ρ o).run P w = .ok .recover w
  | .fail => True
theorem hValue_ok (hF : FnsOk P C) (hP : PrimsOk P C N I) (hH : HRel N μ H w) (hI : I w) (hE : ERel μ e ρ) {c : Call} {f : Operand} (hc : c.callee = .value f) :
    OpOk P C N μ H w ρ ⟨dst, .call c, type, pos, after, guard⟩ (hValue f c.args C e H) := by
  unfold hValue
  cases hr : resolveA f c.args e with
  | none => exact trivial
  | some p =>
    obtain ⟨fn, cap, as, h1, h2, h3, h3'⟩ := resolve_ok (P := P) (w := w) (type := type) hE hc hr
    have run : (execOp ρ ⟨dst, .call c, type, pos, after, guard⟩).run P w = (invoke (.fn fn cap) as).run P w := by
      simp only [execOp, Sem.run_bind, h1, Result.andThen_ok]
    show OpOk P C N μ H w ρ _ (callA C H p.2.1 p.2.2 p.1)
    obtain ⟨fa, args, caps⟩ := p
    cases fa with
    | func g =>
      cases h2
      have run2 : (execOp ρ ⟨dst, .call c, type, pos, after, guard⟩).run P w = (callFunc g (as ++ cap)).run P w := by rw [run]; rfl
      have hl : LRel μ (lapp args caps) (as ++ cap).toList := by rw [lapp_eq]; simpa using h3.append h3'
      show OpOk P C N μ H w ρ _ (callFn C H (lapp args caps) g (C.prims.get g))
      cases hp : C.prims.get g with
      | none =>
        show ∀ fn, C.fns.get g = some fn → _
        intro fn hfn hb
        exact ⟨as ++ cap, by rw [run2]; exact run_callFunc hF hfn hb, hl⟩
      | some pr =>
        cases hv : pr (lapp args caps) H with
        | none => simp only [callFn, hv]; exact trivial
        | some v =>
          simp only [callFn, hv]
          rcases hP g pr hp _ H v hv μ w (as ++ cap) hH hI hl with ⟨v', h4, h5⟩ | ⟨h4, h5⟩
          · exact Or.inl ⟨v', w, μ, .inl (by rw [run2]; exact h4), μ.le_refl, hH, Below.refl _ _, h5⟩
          · exact Or.inr ⟨rfl, g, as ++ cap, by rw [run2]; exact h4, h5⟩
    | yld l =>
      obtain ⟨i, hi, rfl⟩ := h2
      show OpOk P C N μ H w ρ _ (callYield l args caps)
      cases caps with
      | cons a b => exact trivial
      | nil => exact ⟨i, as, hi, h3, by rw [run]; rfl⟩
theorem aop_ok (hT : TysOk P C) (hbase : 256 ≤ C.base) (hF : FnsOk P C) (hP : PrimsOk P C N I) (hH : HRel N μ H w) (hI : I w) (hE : ERel μ e ρ) (o : Oper) : OpOk P C N μ H w ρ o ((aop o.op).f C e H) := by
  have light : (∃ l : LOp, (aop o.op).f = lv l ∧ ∀ v, l C e H = some v → LOk P μ w ρ o v) → OpOk P C N μ H w ρ o ((aop o.op).f C e H) := by
    rintro ⟨l, h1, h2⟩
    rw [h1]
    unfold lv
    cases h : l C e H with
    | none => exact trivial
    | some v => exact Or.inl ((h2 v h).hv hH)
  have val : ∀ x : Option (AVal × AHeap), (aop o.op).f C e H = resV x → (∀ v H', resV x = .val v H' → HvOk P N μ w ρ o v H') → OpOk P C N μ H w ρ o ((aop o.op).f C e H) := by
    intro x h1 h2
    rw [h1]
    cases x with
    | none => exact trivial
    | some p => exact Or.inl (h2 p.1 p.2 rfl)
  obtain ⟨dst, op, type, pos, after, guard⟩ := o
  cases op
  case move => exact light ⟨_, rfl, fun v h => lMove_ok (C := C) (H := H) hE h⟩
  case assign => exact light ⟨_, rfl, fun v h => lAssign_ok (C := C) (H := H) hE h⟩
  case pick => exact light ⟨_, rfl, fun v h => lPick_ok (C := C) (H := H) hE h⟩
  case load => exact light ⟨_, rfl, fun v h => lLoad_ok hT hH hE h⟩
  case nilCheck => exact light ⟨_, rfl, fun v h => lNil_ok (C := C) (H := H) hE h⟩
  case binOp => exact light ⟨_, rfl, fun v h => lBin_ok (H := H) hT hE h⟩
  case unOp => exact light ⟨_, rfl, fun v h => lUn_ok (C := C) (H := H) hE h⟩
  case makeInterface => exact light ⟨_, rfl, fun v h => lIface_ok (H := H) hT hE h⟩
  case makeFunc => exact light ⟨_, rfl, fun v h => lFunc_ok (C := C) (H := H) hE h⟩
  case slice => exact light ⟨_, rfl, fun v h => lSlice_ok hT hH hE h⟩
  case fieldAddr => exact light ⟨_, rfl, fun v h => lFieldAddr_ok (H := H) hT hE h⟩
  case field => exact light ⟨_, rfl, fun v h => lField_ok (H := H) hT hE h⟩
  case indexAddr => exact light ⟨_, rfl, fun v h => lIndexAddr_ok (H := H) hT hE h⟩
  case index => exact light ⟨_, rfl, fun v h => lIndex_ok (H := H) hT hE h⟩
  case extract => exact light ⟨_, rfl, fun v h => lExtract_ok (C := C) (H := H) hE h⟩
  case build => exact light ⟨_, rfl, fun v h => lBuild_ok (H := H) hT hE h⟩
  case typeAssert => exact light ⟨_, rfl, fun v h => lAssert_ok (H := H) hT hE h⟩
  case lookup => exact light ⟨_, rfl, fun v h => lLookup_ok hT hH hE h⟩
  case convert s d x =>
    show OpOk P C N μ H w ρ _ (hConvert s d x C e H)
    cases h : hConvert s d x C e H with
    | val v H' => exact Or.inl (hConvert_ok hT hH hE h)
    | fail => exact trivial
    | _ =>
      exfalso
      unfold hConvert at h
      split at h
      · cases h
      · revert h; unfold resV; split <;> intro h <;> cases h
  case alloc => exact val _ rfl fun v H' h => hAlloc_ok (e := e) hT hH h
  case box => exact val _ rfl fun v H' h => hBox_ok (C := C) hH hE h
  case buildSlice => exact val _ rfl fun v H' h => hBuildSlice_ok hT hH hE h
  case store => exact val _ rfl fun v H' h => hStore_ok hT hbase hH hE h
  case makeMap t r =>
    show OpOk P C N μ H w ρ _ (hMakeMap r C e H)
    cases r with
    | none => exact Or.inl (hMakeMap_ok (C := C) (e := e) hH rfl)
    | some x => exact trivial
  case insert => exact val _ rfl fun v H' h => (hUpdate_ok hT hbase hH hE h).2
  case mapUpdate => exact val _ rfl fun v H' h => (hUpdate_ok hT hbase hH hE h).1
  case makeSlice => exact val _ rfl fun v H' h => hMakeSlice_ok hT hH hE h
  case panic x =>
    show OpOk P C N μ H w ρ _ (hPanic x C e H)
    unfold hPanic
    cases hx : ev x e with
    | none => exact trivial
    | some a =>
      cases hf : a.asIface with
      | none => simp only [ob_some', hf, ob_none, resR]; exact trivial
      | some p =>
        simp only [ob_some', hf, resR]
        have h1 := hE _ _ hx
        rw [asIface_some.1 hf, VRel] at h1
        obtain ⟨x', h2, h3⟩ := h1
        refine ⟨.iface p.1 x', ?_, by rw [VRel]; exact ⟨_, rfl, h3⟩⟩
        simp [execOp, h2, Instr.panic]
  case defer c =>
    show OpOk P C N μ H w ρ _ ((hDeferOf c c.callee).f C e H)
    cases hc : c.callee with
    | value f =>
      show OpOk P C N μ H w ρ _ (resR (ob (resolveA f c.args e) fun p => some (.defer ⟨some p.1, 0, lapp p.2.1 p.2.2⟩)))
      cases hr : resolveA f c.args e with
      | none => exact trivial
      | some p =>
        obtain ⟨fn, cap, as, h1, h2, h3, h3'⟩ := resolve_ok (P := P) (w := w) (type := type) hE hc hr
        refine ⟨⟨c, rfl⟩, { target := .fn fn cap, args := as }, by simp only [execOp, Sem.run_bind, h1, Result.andThen_ok, Sem.run_pure], ⟨?_⟩⟩
        refine ⟨fn, cap, as, rfl, h2, ?_⟩
        show LRel μ (lapp p.2.1 p.2.2) _
        rw [lapp_eq]; simpa using h3.append h3'
    | _ => exact trivial
  case call c =>
    show OpOk P C N μ H w ρ _ ((hCallee c c.callee).f C e H)
    cases hc : c.callee with
    | value f => exact hValue_ok hF hP hH hI hE hc
    | builtin b =>
      cases b
      case append =>
        show OpOk P C N μ H w ρ _ (hAppend c C e H)
        cases h : hAppend c C e H with
        | val v H' => exact Or.inl (hAppend_ok hT hbase hH hE hc h)
        | fail => exact trivial
        | _ => exfalso; revert h; unfold hAppend resV; split <;> intro h <;> cases h
      case len =>
        show OpOk P C N μ H w ρ _ (lv (lLen c) C e H)
        unfold lv
        cases h : lLen c C e H with
        | none => exact trivial
        | some v => exact Or.inl ((lLen_ok hT hH hE hc h).hv hH)
      case max =>
        show OpOk P C N μ H w ρ _ (lv (lMax c) C e H)
        unfold lv
        cases h : lMax c C e H with
        | none => exact trivial
        | some v => exact Or.inl ((lMax_ok (C := C) (H := H) hE hc h).hv hH)
      case min =>
        show OpOk P C N μ H w ρ _ (lv (lMin c) C e H)
        unfold lv
        cases h : lMin c C e H with
        | none => exact trivial
        | some v => exact Or.inl ((lMin_ok (C := C) (H := H) hE hc h).hv hH)
      case recover =>
        show (execOp ρ ⟨dst, .call c, type, pos, after, guard⟩).run P w = _
        rw [run_builtin hc]; rfl
      all_goals exact trivial
    | invoke r m => exact trivial
  all_goals exact trivial
end
end Go.Am
