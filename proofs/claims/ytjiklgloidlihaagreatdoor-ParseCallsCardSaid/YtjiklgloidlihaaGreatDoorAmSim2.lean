/- The simulation: the control items. -/
import Derived.Test.YtjiklgloidlihaaGreatDoorAmSim
namespace Go.Am
open Go Go.RowKit
/-- what the simulation stands on -/
structure Sim (P : Program) (C : Ctx) (N : Nat) (I : World → Prop) : Prop where
  tys : TysOk P C
  fns : FnsOk P C
  prims : PrimsOk P C N I
  base : 256 ≤ C.base
  mixed : P.follows .mixedOrders = true
  inv : ∀ w w', Below N w w' → I w → I w'
section
variable {P : Program} {C : Ctx} {N : Nat} {I : World → Prop} {μ ν : Mu} {H H' : AHeap} {w : World} {tm : Tm} {R : FRest} {acs : List AFrame} {base cs : List Frame}
variable {b : Frame} {tmps : Array Value} {ds : List Deferred} {k : List AItem} {k' : List Item}
theorem RestRel.todo {todo : List Item} (h : RestRel μ R (b.atR ⟨tmps, ds⟩ [])) : RestRel μ R (b.atR ⟨tmps, ds⟩ todo) := ⟨h.fn, h.size, h.defers, h.mode, h.kind, h.round⟩
theorem RestRel.running {todo : List Item} (h : RestRel μ R (b.atR ⟨tmps, ds⟩ todo)) : R.mode.running = true := by
  have := h.mode
  cases hm : R.mode with
  | run => rfl
  | _ => rw [hm] at this; exact this.elim
/-- the frame that runs has come to other items -/
theorem out_next {m : Machine} {todo : List AItem} {btodo : List Item} (hH : HRel N μ H w) (hcs : All2 (FrRel C μ none) acs cs) (hR : RestRel μ R (b.atR ⟨tmps, ds⟩ [])) (ht : TmRel μ R.n tm tmps)
    (hk : All2 (ItemRel μ) todo btodo) (hs : Steps P m (lone (b.atR ⟨tmps, ds⟩ btodo) (cs ++ base) w)) : OutOk P C N μ base m w (xGo todo tm R acs H) :=
  ⟨μ, _, cs, w, hs, fun _ _ h => h, Below.refl _ _, hH, ⟨hR.todo, by rw [if_pos hR.running]; exact .plain hk ht⟩, hcs⟩
theorem pass_ok (hH : HRel N μ H w) (hcs : All2 (FrRel C μ none) acs cs) (hR : RestRel μ R (b.atR ⟨tmps, ds⟩ [])) (ht : TmRel μ R.n tm tmps) (hk : All2 (ItemRel μ) k k') {m : Machine}
    (hs : step P m = .next (lone (b.atR ⟨tmps, ds⟩ k') (cs ++ base) w)) : OutOk P C N μ base m w (xPass C k tm R acs H) :=
  out_next hH hcs hR ht hk (.one hs)
theorem cond_ok (hH : HRel N μ H w) (hcs : All2 (FrRel C μ none) acs cs) (hR : RestRel μ R (b.atR ⟨tmps, ds⟩ [])) (ht : TmRel μ R.n tm tmps) (hk : All2 (ItemRel μ) k k') {c : Operand} {x y : Code} :
    OutOk P C N μ base (lone (b.atR ⟨tmps, ds⟩ (.code (.cond c x y) :: k')) (cs ++ base) w) w (xCond c x y C k tm R acs H) := by
  unfold xCond
  cases hc : ob (ev c (.now tm)) AVal.asBool with
  | none => exact trivial
  | some t =>
    rw [ob_some] at hc
    obtain ⟨v, hv, ht'⟩ := hc
    have : v = .bool t := by cases v <;> simp [AVal.asBool] at ht'; rw [ht']
    subst this
    have hr := ht.erel (ds := ds) hH.glob c _ hv
    rw [VRel] at hr
    refine out_next hH hcs hR ht (.cons (.code _) hk) (.one ?_)
    rw [stepR_cond hr]
    cases t <;> rfl
theorem block_ok (hH : HRel N μ H w) (hcs : All2 (FrRel C μ none) acs cs) (hR : RestRel μ R (b.atR ⟨tmps, ds⟩ [])) (ht : TmRel μ R.n tm tmps) (hk : All2 (ItemRel μ) k k') {id : Nat} {c : Code} :
    OutOk P C N μ base (lone (b.atR ⟨tmps, ds⟩ (.code (.block id c) :: k')) (cs ++ base) w) w (xBlock id c C k tm R acs H) :=
  out_next hH hcs hR ht (.cons (.code _) (.cons (.inBlock _) hk)) (.one stepR_block)
theorem loop_ok (hH : HRel N μ H w) (hcs : All2 (FrRel C μ none) acs cs) (hR : RestRel μ R (b.atR ⟨tmps, ds⟩ [])) (ht : TmRel μ R.n tm tmps) (hk : All2 (ItemRel μ) k k') {c : Code} :
    OutOk P C N μ base (lone (b.atR ⟨tmps, ds⟩ (.code (.loop c) :: k')) (cs ++ base) w) w (xLoop c C k tm R acs H) :=
  out_next hH hcs hR ht (.cons (.code _) (.cons (.inLoop _) hk)) (.one stepR_loop)
theorem exitTo_ok {id : Nat} : ∀ {k : List AItem} {k' : List Item} {r : List AItem}, All2 (ItemRel μ) k k' → exitToA id k = some r → ∃ r', exitTo id k' = some r' ∧ All2 (ItemRel μ) r r' := by
  intro k k' r h
  induction h with
  | nil => intro e; cases e
  | cons a l ih =>
    intro e
    cases a with
    | inBlock i =>
      unfold exitToA at e
      simp only [AItem.blockId] at e
      rw [cond_if] at e
      unfold exitTo
      by_cases hi : i = id
      · subst hi
        rw [if_pos (beqs.2 rfl)] at e
        cases e
        exact ⟨_, by simp, l⟩
      · rw [if_neg fun h => hi (beqs.1 h)] at e
        obtain ⟨r', h1, h2⟩ := ih e
        exact ⟨r', by simp [hi, h1], h2⟩
    | _ =>
      unfold exitToA at e
      obtain ⟨r', h1, h2⟩ := ih e
      exact ⟨r', by unfold exitTo; exact h1, h2⟩
end
end Go.Am
