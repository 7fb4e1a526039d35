/- Runs in which a number stays open: the run goes on to the place where what hangs on it has been reckoned, and that is laid as a literal. -/
import Derived.Test.YtjiklgloidlihaaGreatDoorAmSim8
namespace Go.Am
open Go Go.RowKit
noncomputable def hasSlot (i : Nat) : AOut → Bool
  | .next s => bif s.cs.isEmpty then (match s.fr.tm.get i with | some _ => true | none => false) else false
  | _ => true
/-- step till the bottom frame has the slot i -/
noncomputable def runTo (C : Ctx) (i : Nat) (n : Nat) : AOut → AOut :=
  Nat.rec (motive := fun _ => AOut → AOut) (fun o => o) (fun _ g o => Bool.rec (motive := fun _ => AOut) (g (stepO C o)) o (hasSlot i o)) n
noncomputable def slotOf (i : Nat) : AOut → Option AVal
  | .next s => s.fr.tm.get i
  | _ => none
def isReg : List AItem → Bool
  | .reg .. :: _ => true
  | _ => false
noncomputable def patchS (dead i : Nat) (v : AVal) (s : AState) : AOut :=
  match s with
  | ⟨⟨todo, tm, R⟩, cs, H⟩ => bif isReg todo then .fail 50 else .next ⟨⟨todo, ⟨tm.k, (tm.v.del dead).set i v, []⟩, R⟩, cs, H⟩
/-- a slot is forgotten, another one is laid as it is -/
noncomputable def patch (dead i : Nat) (v : AVal) : AOut → AOut
  | .next s => patchS dead i v s
  | .done v H => .done v H
  | .fail n => .fail n
section
variable {P : Program} {C : Ctx} {N : Nat} {I : World → Prop} {μ : Mu} {w : World} {base : List Frame} {m : Machine}
theorem runTo_ok (hS : Sim P C N I) (hI : I w) {i : Nat} : ∀ (n : Nat) {o : AOut}, OutOk P C N μ base m w o → OutOk P C N μ base m w (runTo C i n o) := by
  intro n
  induction n with
  | zero => intro o h; exact h
  | succ n ih =>
    intro o h
    show OutOk P C N μ base m w (Bool.rec (motive := fun _ => AOut) (runTo C i n (stepO C o)) o (hasSlot i o))
    cases hasSlot i o with
    | true => exact h
    | false => exact ih (stepO_ok hS hI h)
theorem TmRel.patch {n : Nat} {tm : Tm} {tmps : Array Value} (h : TmRel μ n tm tmps) {dead i : Nat} {v : AVal} (hv : tm.get i = some v) : TmRel μ n ⟨tm.k, (tm.v.del dead).set i v, []⟩ tmps := by
  refine ⟨h.1, fun j x hx => ?_⟩
  unfold Tm.get at hx
  simp only [brec] at hx
  split at hx
  · rename_i hk
    rw [Tr.get_set] at hx
    split at hx
    · rename_i e
      rw [← Option.some.inj hx, e]
      exact h.2 i v hv
    · rw [Tr.get_del] at hx
      split at hx
      · cases hx
      · refine h.2 j x ?_
        unfold Tm.get
        simp only [brec]
        rw [if_pos hk]
        exact hx
  · cases hx
theorem patch_ok {o : AOut} (h : OutOk P C N μ base m w o) {dead i : Nat} {v : AVal} (hv : slotOf i o = some v) : OutOk P C N μ base m w (patch dead i v o) := by
  cases o with
  | fail n => exact trivial
  | done v H => exact h
  | next s =>
    obtain ⟨⟨todo, tm, R⟩, acs, H⟩ := s
    show OutOk P C N μ base m w (bif isReg todo then .fail 50 else .next ⟨⟨todo, ⟨tm.k, (tm.v.del dead).set i v, []⟩, R⟩, acs, H⟩)
    cases hr : isReg todo with
    | true => exact trivial
    | false =>
      obtain ⟨μ', b, cs, w', h1, h2, h3, h4, h5, h6⟩ := h
      obtain ⟨bfn, btmps, btodo, bdefers, bmode, bkind, bround⟩ := b
      have hv : tm.get i = some v := hv
      refine ⟨μ', _, cs, w', h1, h2, h3, h4, ⟨h5.rest, ?_⟩, h6⟩
      have hb := h5.body
      simp only at hb ⊢
      split at hb
      · rename_i hm
        rw [if_pos hm]
        cases hb with
        | plain a t => exact .plain a (t.patch hv)
        | reg _ _ _ _ => cases hr
        | mid _ _ _ _ _ => cases hr
      · rename_i hm
        rw [if_neg hm]
        exact hb.patch hv
theorem start_ok (hF : FnsOk P C) {f : Nat} {args : List AVal} {args' : Array Value} {H : AHeap} (hH : HRel N μ H w) (hl : LRel μ args args'.toList) {g : AFrame} (he : enterA C f args false = some g) :
    OutOk P C N μ base (lone (Frame.enter P f args' .normal) base w) w (.next ⟨g, [], H⟩) :=
  ⟨μ, _, [], w, .refl _ _, fun _ _ h => h, Below.refl N w, hH, (enter_ok (cur := some H) hF he hl).1, .nil⟩
/-- what a run that is known to end is worth -/
theorem calls_of_out {f : Nat} (hroot : C.root = f) {args' : Array Value} {R : Ending → World → Prop} {o : AOut} {v : AVal} {H' : AHeap}
    (h : ∀ base, OutOk P C N μ base (lone (Frame.enter P f args' .normal) base w) w o) (ho : o = .done v H')
    (hR : ∀ μ' v' w', μ.le μ' → VRel μ' v v' → HRel N μ' H' w' → Below N w w' → R (.returned v') w') : Calls P f args' w R := by
  intro base
  have h1 := h base
  rw [ho] at h1
  obtain ⟨μ', b, w', v', h2, h3, h4, h5, h6, h7, h8⟩ := h1
  exact ⟨.returned v', w', b, hR μ' v' w' h3 h6 h5 h4, h2, by rw [h7, hroot], h8⟩
end
end Go.Am
