/- A region that draws, under way. -/
import Derived.Test.YtjiklgloidlihaaGreatDoorAmPlan
import Derived.AtR
namespace Go.Am
open Go Go.RowKit
section
variable {P : Program} {C : Ctx} {μ : Mu} {all : Array Oper} {olds : List (Nat × List Nat)} {anc : Tr Nat} {n : Nat} {old tm : Tm} {D : Nat} {S : Nat → Bool} {order : List Nat} {tmps : Array Value} {ds : List Deferred}

theorem vrel_undef : VRel μ undefA undef := by rw [undefA, VRel]; exact ⟨#[], rfl, rfl⟩
theorem erel_of {e : Env} (hg : ∀ g, g < 256 → μ g = some ⟨g, true, 0, 0⟩) (ht : ∀ t v, xTmp t e = some v → VRel μ v (tmps.getD t undef)) : ERel μ e (Act.eval ⟨tmps, ds⟩) := by
  intro x v h
  cases x with
  | tmp t => exact ht t v h
  | const c => exact ofConst_rel h
  | global g =>
    change xGlobal g e = some v at h
    unfold xGlobal at h
    rw [cond_if] at h
    split at h
    · rename_i hlt
      cases h
      rw [VRel]
      exact ⟨_, hg g (blts.1 hlt), rfl⟩
    · cases h
  | func f =>
    change xFunc f e = some v at h
    cases h
    rw [VRel]
    exact ⟨.func f, #[], #[], rfl, rfl, rfl, rfl⟩
theorem TmRel.erel (hg : ∀ g, g < 256 → μ g = some ⟨g, true, 0, 0⟩) (h : TmRel μ n tm tmps) : ERel μ (.now tm) (Act.eval ⟨tmps, ds⟩) :=
  erel_of hg fun t v hv => h.2 t v hv
theorem Tm.get_set {t : Tm} {i j : Nat} {x : AVal} : (t.set i x).get j = if j = i then some x else t.get j := by
  unfold Tm.set Tm.get
  simp only [brec]
  by_cases h : Nat.blt i t.k = true
  · rw [if_pos h]
    simp only []
    by_cases hj : j = i
    · subst hj; rw [if_pos h, if_pos rfl, Tr.get_set, if_pos rfl]
    · rw [if_neg hj, Tr.get_set, if_neg hj]
  · rw [if_neg h]
    simp only []
    have as : assoc j ((i, x) :: t.t) = if j = i then some x else assoc j t.t := by
      show (Bool.rec (motive := fun _ => Option AVal) (assoc j t.t) (some x) (Nat.beq j i)) = _
      rw [brec]
      by_cases hj : j = i
      · rw [if_pos (beqs.2 hj), if_pos hj]
      · rw [if_neg (fun e => hj (beqs.1 e)), if_neg hj]
    by_cases hj : j = i
    · subst hj; rw [if_neg h, if_pos rfl, as, if_pos rfl]
    · rw [if_neg hj]
      rw [as, if_neg hj]
theorem get_putA {dst : Option Nat} {v : AVal} {t : Nat} : (putA n tm dst v).get t = if dst = some t ∧ t < n then some v else tm.get t := by
  unfold putA putB
  cases dst with
  | none => simp [putNo]
  | some d =>
    simp only [putAt]
    rw [cond_if]
    by_cases h : Nat.blt d n = true
    · rw [if_pos h, Tm.get_set]
      by_cases e : t = d
      · subst e; rw [if_pos rfl, if_pos ⟨rfl, blts.1 h⟩]
      · rw [if_neg e, if_neg fun k => e (Option.some.inj k.1).symm]
    · rw [if_neg h, if_neg]
      rintro ⟨e, h2⟩
      cases e
      exact h (blts.2 h2)
/-- what an operation reads -/
noncomputable def opEnv (tm old : Tm) (olds : List (Nat × List Nat)) (i : Nat) (o : Oper) : Env := .mixed tm old (oldOf i olds) (namesOf o.op)
structure RegRel (μ : Mu) (all : Array Oper) (olds : List (Nat × List Nat)) (anc : Tr Nat) (n : Nat) (old tm : Tm) (D : Nat) (S : Nat → Bool) (order : List Nat) (tmps : Array Value) : Prop where
  reg : RegOk all olds anc
  sched : Sched all S order
  sub : ∀ i, S i = true → tb D i = true
  closed : Closed all S
  dclosed : Closed all (tb D)
  size : tmps.size = n
  now : ∀ (i : Nat) (o : Oper) (d : Nat) (v : AVal), all[i]? = some o → o.dst = some d → S i = true → d < n → tm.get d = some v → VRel μ v (tmps.getD d undef)
  past : ∀ (d : Nat) (v : AVal), d < n → (∀ (i : Nat) (o : Oper), all[i]? = some o → o.dst = some d → S i = false) → old.get d = some v → VRel μ v (tmps.getD d undef)
  keep : ∀ d : Nat, d < n → (∀ (i : Nat) (o : Oper), all[i]? = some o → o.dst = some d → tb D i = false) → tm.get d = old.get d
  big : ∀ (d : Nat) (v : AVal), n ≤ d → (tm.get d = some v ∨ old.get d = some v) → VRel μ v undef
theorem RegOk.up (R : RegOk all olds anc) (hS : Closed all S) {i j : Nat} {o : Oper} (ho : all[i]? = some o) (hp : ∀ j, Binds o j → S j = true) (h : tb (getN anc i) j = true) : S j = true :=
  R.before i S hS (fun o' ho' => by rw [ho] at ho'; cases ho'; exact hp) j h
theorem getD_big {d : Nat} (h : tmps.size ≤ d) : tmps.getD d undef = undef := by
  simp [Array.getD, Nat.not_lt.2 h]
theorem RegRel.erel (R : RegRel μ all olds anc n old tm D S order tmps) (hg : ∀ g, g < 256 → μ g = some ⟨g, true, 0, 0⟩) {i : Nat} {o : Oper} (ho : all[i]? = some o) (hi : S i = false) (hp : ∀ j, Binds o j → S j = true) :
    ERel μ (opEnv tm old olds i o) (Act.eval ⟨tmps, ds⟩) := by
  refine erel_of hg fun t v h => ?_
  unfold opEnv at h
  simp only [xTmp] at h
  rw [cond_if] at h
  split at h
  case isFalse => cases h
  rename_i hn
  have hn := (memNat_eq _ _).1 hn
  by_cases hd : t < n
  · by_cases hw : ∃ (j : Nat) (u : Oper), all[j]? = some u ∧ u.dst = some t
    · obtain ⟨j, u, hu, hud⟩ := hw
      have nm := R.reg.name i o j u t ho hu hud hn
      by_cases hold : t ∈ oldOf i olds
      · rw [if_pos hold] at nm
        rw [(memNat_eq _ _).2 hold] at h
        simp only [cond_true] at h
        have hj : S j = false := by
          rcases nm with rfl | nm
          · exact hi
          · cases hj : S j with
            | false => rfl
            | true =>
              have := R.reg.up R.closed hu (fun k hk => R.closed j u hu hj k hk) nm
              rw [hi] at this; cases this
        refine R.past t v hd (fun i' o' ho' hd' => ?_) h
        have := R.reg.one i' j o' u t ho' hu hd' hud
        rw [this]; exact hj
      · rw [if_neg hold] at nm
        have : memNat t (oldOf i olds) = false := by
          cases hm : memNat t (oldOf i olds) with
          | false => rfl
          | true => exact absurd ((memNat_eq _ _).1 hm) hold
        rw [this] at h
        simp only [cond_false] at h
        exact R.now j u t v hu hud (R.reg.up R.closed ho hp nm) hd h
    · have none1 : ∀ (i : Nat) (o : Oper), all[i]? = some o → o.dst = some t → S i = false := fun i o h1 h2 => absurd ⟨i, o, h1, h2⟩ hw
      have k := R.keep t hd fun i o h1 h2 => absurd ⟨i, o, h1, h2⟩ hw
      refine R.past t v hd none1 ?_
      cases hm : memNat t (oldOf i olds) with
      | false => rw [hm] at h; rw [← k]; exact h
      | true => rw [hm] at h; exact h
  · rw [getD_big (by rw [R.size]; omega)]
    refine R.big t v (by omega) ?_
    cases hm : memNat t (oldOf i olds) with
    | false => rw [hm] at h; exact .inl h
    | true => rw [hm] at h; exact .inr h
theorem vrel_bool {v : AVal} {b : Bool} (h : VRel μ v (.bool b)) : v = .bool b := by
  cases v <;> rw [VRel] at h
  case bool => cases h; rfl
  all_goals simp at h
theorem RegRel.wanted (R : RegRel μ all olds anc n old tm D S order tmps) {i : Nat} {o : Oper} {w : Bool} (ho : all[i]? = some o) (hp : ∀ j, Binds o j → S j = true) (h : wantedG o.guard all tm = some w) :
    Region.wanted o (yielded all tmps) = w := by
  have hgd := R.reg.guard i o ho
  unfold wantedG wantB at h
  unfold Region.wanted
  cases hg : o.guard with
  | none => rw [hg] at h; cases h; rfl
  | some jw =>
    obtain ⟨j, want⟩ := jw
    rw [hg] at h hgd
    simp only [wantIf, ob_some, lget_eq] at h
    obtain ⟨d, ⟨u, hu, hud⟩, v, hv, h⟩ := h
    have hu' : all[j]? = some u := by simpa using hu
    have hj : S j = true := R.reg.up R.closed ho hp hgd
    have hy : yielded all tmps j = match tmps[d]? with | some (.bool b) => some b | _ => none := by
      unfold yielded
      rw [hu']
      simp [hud]
      rfl
    simp only []
    rw [hy]
    by_cases hd : d < n
    · have hs : d < tmps.size := by rw [R.size]; exact hd
      have rel := R.now j u d v hu' hud hj hd hv
      have e1 : tmps[d]? = some (tmps.getD d undef) := by simp [Array.getD, hs]
      rw [e1]
      generalize tmps.getD d undef = x at rel
      cases hb : v.asBool with
      | some b =>
        rw [hb] at h
        have : v = .bool b := by cases v <;> simp [AVal.asBool] at hb; rw [hb]
        rw [this, VRel] at rel
        subst rel
        simp only [Option.some.injEq] at h
        rw [← h, bEq_eq]
        cases b <;> cases want <;> rfl
      | none =>
        rw [hb] at h
        cases h
        cases x with
        | bool b => rw [vrel_bool rel] at hb; cases hb
        | _ => rfl
    · have e1 : tmps[d]? = none := by simp [R.size]; omega
      rw [e1]
      have rel := R.big d v (by omega) (.inl hv)
      cases hb : v.asBool with
      | some b =>
        have : v = .bool b := by cases v <;> simp [AVal.asBool] at hb; rw [hb]
        rw [this, VRel] at rel
        cases rel
      | none => rw [hb] at h; cases h; rfl
/-- the operation i is done, in both or in the second alone -/
theorem RegRel.did {i : Nat} {D' : Nat} {tm' : Tm} {v : AVal} {v' : Value} {o : Oper} (R : RegRel μ all olds anc n old tm D S (i :: order) tmps) (ho : all[i]? = some o)
    (hD : ∀ k, tb D' k = (tb D k || k == i)) (hput : ∀ d, o.dst = some d → d < n → tm'.get d = some v) (hother : ∀ d, (o.dst = some d → n ≤ d) → tm'.get d = tm.get d) (hv : VRel μ v v') :
    RegRel μ all olds anc n old tm' D' (fun k => S k || k == i) order (Act.put ⟨tmps, ds⟩ o.dst v').tmps := by
  obtain ⟨o', ho', hi, hp, hs⟩ := R.sched
  rw [ho] at ho'; cases ho'
  have htm : ∀ d, (Act.put ⟨tmps, ds⟩ o.dst v').tmps.getD d undef = if o.dst = some d ∧ d < n then v' else tmps.getD d undef := by
    intro d
    unfold Act.put
    cases hd : o.dst with
    | none => simp
    | some d0 =>
      simp only [Array.getD_eq_getD_getElem?, Array.getElem?_setIfInBounds]
      by_cases e : d0 = d
      · subst e
        by_cases hn : d0 < n
        · simp [hn, R.size]
        · simp [hn, R.size]
      · simp [e]
  have hsz : (Act.put ⟨tmps, ds⟩ o.dst v').tmps.size = n := by
    unfold Act.put
    cases o.dst <;> simp [R.size]
  refine ⟨R.reg, hs, fun k hk => ?_, ?_, ?_, hsz, ?_, ?_, ?_, ?_⟩
  · rw [hD]
    simp only [Bool.or_eq_true] at hk ⊢
    exact hk.imp (R.sub k) id
  · intro k u hu hk j hj
    simp only [Bool.or_eq_true, beq_iff_eq] at hk ⊢
    rcases hk with hk | rfl
    · exact .inl (R.closed k u hu hk j hj)
    · rw [ho] at hu; cases hu
      exact .inl (hp j hj)
  · intro k u hu hk j hj
    rw [hD] at hk ⊢
    simp only [Bool.or_eq_true, beq_iff_eq] at hk ⊢
    rcases hk with hk | rfl
    · exact .inl (R.dclosed k u hu hk j hj)
    · rw [ho] at hu; cases hu
      exact .inl (R.sub j (hp j hj))
  · intro k u d x hu hud hk hd hx
    rw [htm]
    by_cases e : o.dst = some d
    · rw [if_pos ⟨e, hd⟩]
      rw [hput d e hd] at hx; cases hx
      exact hv
    · rw [if_neg fun h => e h.1]
      rw [hother d fun h => absurd h e] at hx
      refine R.now k u d x hu hud ?_ hd hx
      simp only [Bool.or_eq_true, beq_iff_eq] at hk
      rcases hk with hk | rfl
      · exact hk
      · rw [ho] at hu; cases hu; exact absurd hud e
  · intro d x hd hw hx
    rw [htm]
    have e : o.dst ≠ some d := fun e => by
      have := hw i o ho e
      simp at this
    rw [if_neg fun h => e h.1]
    refine R.past d x hd (fun k u hu hud => ?_) hx
    have := hw k u hu hud
    simp only [Bool.or_eq_false_iff] at this
    exact this.1
  · intro d hd hw
    have e : o.dst ≠ some d := fun e => by
      have := hw i o ho e
      rw [hD] at this
      simp at this
    rw [hother d fun h => absurd h e]
    refine R.keep d hd fun k u hu hud => ?_
    have := hw k u hu hud
    rw [hD] at this
    simp only [Bool.or_eq_false_iff] at this
    exact this.1
  · intro d x hd hx
    refine R.big d x hd ?_
    rw [hother d fun _ => hd] at hx
    exact hx
end
end Go.Am
