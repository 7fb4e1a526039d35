/- The simulation: states. -/
import Derived.Test.YtjiklgloidlihaaGreatDoorAmRegion3
namespace Go.Am
open Go Go.RowKit
section
variable {P : Program} {C : Ctx} {N : Nat} {μ ν : Mu} {H H' : AHeap} {w : World} {n : Nat} {tm : Tm} {tmps : Array Value} {ds : List Deferred}
theorem TmRel.put {v : AVal} {v' : Value} {dst : Option Nat} (h : TmRel μ n tm tmps) (hv : VRel μ v v') : TmRel μ n (putA n tm dst v) (Act.put ⟨tmps, ds⟩ dst v').tmps := by
  cases dst with
  | none => exact h
  | some d =>
    refine ⟨by simp [Act.put, h.1], fun t x hx => ?_⟩
    rw [get_putA] at hx
    simp only [Act.put, Array.getD_eq_getD_getElem?, Array.getElem?_setIfInBounds]
    by_cases e : d = t
    · subst e
      by_cases hn : d < n
      · rw [if_pos ⟨rfl, hn⟩] at hx
        cases hx
        simp [h.1, hn, hv]
      · rw [if_neg fun k => hn k.2] at hx
        have := h.2 d x hx
        rw [getD_big (by rw [h.1]; omega)] at this
        simp [h.1, hn, this]
    · rw [if_neg fun k => e (Option.some.inj k.1)] at hx
      have := h.2 t x hx
      rw [Array.getD_eq_getD_getElem?] at this
      simpa [e] using this
structure FrRel (C : Ctx) (μ : Mu) (cur : Option AHeap) (fr : AFrame) (b : Frame) : Prop where
  rest : RestRel μ fr.R b
  body : if fr.R.mode.running = true then BodyRel C μ fr.R.n cur fr.todo fr.tm b.todo b.tmps else TmRel μ fr.R.n fr.tm b.tmps
theorem FrRel.mono (h : μ.le ν) {cur : Option AHeap} {fr : AFrame} {b : Frame} (r : FrRel C μ cur fr b) : FrRel C ν cur fr b := by
  refine ⟨r.rest.mono h, ?_⟩
  have := r.body
  split at this
  · rename_i e; rw [if_pos e]; exact this.mono h
  · rename_i e; rw [if_neg e]; exact this.mono h
theorem finish_ok {fr fr' : AFrame} {b : Frame} {v : AVal} {v' : Value} {cur : Option AHeap} (r : FrRel C μ none fr b) (h : finishA fr v = some fr') (hv : VRel μ v v') : FrRel C μ cur fr' (b.finish v') := by
  obtain ⟨todo, tm, R⟩ := fr
  unfold finishA at h
  cases todo with
  | nil => cases h
  | cons x k =>
    simp only [cond_if] at h
    split at h
    case isFalse => cases h
    rename_i hm
    have body := r.body
    rw [if_pos hm] at body
    have rest := r.rest
    obtain ⟨fn, btmps, btodo, bdefers, bmode, bkind, bround⟩ := b
    simp only at body rest
    cases body with
    | plain a t =>
      cases a with
      | cons i l =>
        cases i with
        | ops all i hi =>
          simp only [finItem] at h
          unfold finOps at h
          split at h
          case h_2 => cases h
          rename_i o rest' ho
          cases h
          obtain ⟨h1, h2⟩ := drop_cons ho.symm
          have hlt : i < all.size := by have := (List.getElem?_eq_some_iff.1 h1).1; simpa using this
          have hr : (List.range all.size).drop i = i :: (List.range all.size).drop (i + 1) := by
            rw [List.drop_eq_getElem_cons (by simpa using hlt)]; simp
          have ho2 : all[i]? = some o := by simpa using h1
          have e : ∀ k', Frame.finish ⟨fn, btmps, .inRegion all ((List.range all.size).drop i) :: k', bdefers, bmode, bkind, bround⟩ v' = ⟨fn, (Act.put ⟨btmps, bdefers⟩ o.dst v').tmps, .inRegion all ((List.range all.size).drop (i + 1)) :: k', bdefers, bmode, bkind, bround⟩ := by
            intro k'
            simp only [Frame.finish, hr, ho2, Option.bind_some]
            unfold Act.put
            cases o.dst <;> rfl
          rw [e]
          refine ⟨⟨rest.fn, ?_, rest.defers, rest.mode, rest.kind, rest.round⟩, ?_⟩
          · exact (t.put (ds := bdefers) (dst := o.dst) hv).1
          · rw [if_pos hm]
            rw [h2]
            exact .plain (.cons (.ops all (i + 1) hlt) l) (t.put hv)
        | inRange l' i hl =>
          cases h
          refine ⟨⟨rest.fn, rest.size, rest.defers, rest.mode, rest.kind, rest.round⟩, ?_⟩
          simp only [Frame.finish]
          rw [if_pos hm]
          exact .plain (.cons (.endRange l' i hl) l) t
        | beginRound =>
          cases h
          refine ⟨⟨rest.fn, rest.size, rest.defers, rest.mode, rest.kind, rest.round⟩, ?_⟩
          simp only [Frame.finish]
          rw [if_pos hm]
          exact .plain l t
        | _ => cases h
    | mid a b c d e =>
      exfalso
      simp only [finItem] at h
      unfold finReg at h
      simp only [ob_some, lget_eq] at h
      obtain ⟨o, ho, _⟩ := h
      have := (List.getElem?_eq_some_iff.1 ho).1
      simp at this
    | @wait all old _ olds st stages _ order _ _ anc D S a b c d =>
      simp only [finItem] at h
      unfold finReg at h
      simp only [ob_some, lget_eq] at h
      obtain ⟨o, ho, h⟩ := h
      cases h
      have ho2 : all[st.heavy]? = some o := by simpa using ho
      obtain ⟨_, _, D1, D2, h1, h2, h3⟩ := okStages_cons b
      obtain ⟨r1, r2⟩ := waitDone (ds := bdefers) h1 ho2 a c hv
      have e : ∀ k', Frame.finish ⟨fn, btmps, .inRegion all (st.heavy :: order) :: k', bdefers, bmode, bkind, bround⟩ v' = ⟨fn, (Act.put ⟨btmps, bdefers⟩ o.dst v').tmps, .inRegion all order :: k', bdefers, bmode, bkind, bround⟩ := by
        intro k'
        simp only [Frame.finish, ho2, Option.bind_some]
        unfold Act.put
        cases o.dst <;> rfl
      rw [e]
      refine ⟨⟨rest.fn, r1.size, rest.defers, rest.mode, rest.kind, rest.round⟩, ?_⟩
      rw [if_pos hm]
      exact .mid r1 h2 h3 r2 d
/-- what a step of the abstract machine is worth -/
def OutOk (P : Program) (C : Ctx) (N : Nat) (μ : Mu) (base : List Frame) (m : Machine) (w : World) : AOut → Prop
  | .next s => ∃ μ' b cs w', Steps P m (lone b (cs ++ base) w') ∧ μ.le μ' ∧ Below N w w' ∧ HRel N μ' s.H w' ∧ FrRel C μ' (some s.H) s.fr b ∧ All2 (FrRel C μ' none) s.cs cs
  | .done v H => ∃ μ' b w' v', Steps P m (lone b base w') ∧ μ.le μ' ∧ Below N w w' ∧ HRel N μ' H w' ∧ VRel μ' v v' ∧ b.fn = C.root ∧ b.leaving P w' (.returned v')
  | .fail _ => True
theorem OutOk.of_steps {base : List Frame} {m m1 : Machine} {o : AOut} {w w1 : World} (hs : Steps P m m1) (hm : μ.le ν) (hb : Below N w w1) (h : OutOk P C N ν base m1 w1 o) : OutOk P C N μ base m w o := by
  cases o with
  | fail => exact trivial
  | next s =>
    obtain ⟨μ', b, cs, w', h1, h2, h3, h4⟩ := h
    exact ⟨μ', b, cs, w', hs.trans h1, fun a i k => h2 a i (hm a i k), hb.trans h3, h4⟩
  | done v H =>
    obtain ⟨μ', b, w', v', h1, h2, h3, h4⟩ := h
    exact ⟨μ', b, w', v', hs.trans h1, fun a i k => h2 a i (hm a i k), hb.trans h3, h4⟩
theorem atR_self {b : Frame} (h : b.mode = .run) : b.atR ⟨b.tmps, b.defers⟩ b.todo = b := by
  obtain ⟨fn, tmps, todo, defers, mode, kind, round⟩ := b
  simp only at h
  subst h
  rfl
end
end Go.Am
