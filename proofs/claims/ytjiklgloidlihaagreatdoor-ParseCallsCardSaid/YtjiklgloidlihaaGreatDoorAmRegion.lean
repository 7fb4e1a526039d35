/- The steps of a region that draws. -/
import Derived.Test.YtjiklgloidlihaaGreatDoorAmPure
namespace Go.Am
open Go Go.RowKit
section steps
variable {P : Program} {fr b : Frame} {a : Act} {k : List Item} {cs : List Frame} {w w' : World} {s : Sem Next} {ops : Array Oper}
theorem apply_value {v : Value} (hr : s.run P w = .ok (.value v) w') :
    (stepG.apply P true fr cs none s w).bare = .go { frame := fr.finish v, callers := cs, status := .running, dying := none } w' := by
  simp [stepG.apply, Sem.runT_eq, hr]
theorem apply_skip (hr : s.run P w = .ok .skip w') :
    (stepG.apply P true fr cs none s w).bare = .go { frame := fr.finish undef, callers := cs, status := .running, dying := none } w' := by
  simp [stepG.apply, Sem.runT_eq, hr]
theorem stepR_value {i : Nat} {rest : List Nat} {o : Oper} {v : Value} (ho : ops[i]? = some o) (hw : Region.wanted o (yielded ops a.tmps) = true)
    (hr : (o.semAt b.roundOf a.eval).run P w = .ok (.value v) w') :
    step P (lone (b.atR a (.inRegion ops (i :: rest) :: k)) cs w) = .next (lone (b.atR (a.put o.dst v) (.inRegion ops rest :: k)) cs w') := by
  have := Frame.finish_atR b a ops i rest k v
  rw [ho] at this
  simp only [Option.bind_some] at this
  rw [← this]
  exact step_lone_go (by rw [stepGR_op ho hw]; exact apply_value hr)
theorem stepR_skipped {i : Nat} {rest : List Nat} {o : Oper} (ho : ops[i]? = some o) (hw : Region.wanted o (yielded ops a.tmps) = true)
    (hr : (o.semAt b.roundOf a.eval).run P w = .ok .skip w') :
    step P (lone (b.atR a (.inRegion ops (i :: rest) :: k)) cs w) = .next (lone (b.atR (a.put o.dst undef) (.inRegion ops rest :: k)) cs w') := by
  have := Frame.finish_atR b a ops i rest k undef
  rw [ho] at this
  simp only [Option.bind_some] at this
  rw [← this]
  exact step_lone_go (by rw [stepGR_op ho hw]; exact apply_skip hr)
theorem stepR_notwanted {i : Nat} {rest : List Nat} {o : Oper} (ho : ops[i]? = some o) (hw : Region.wanted o (yielded ops a.tmps) = false) :
    step P (lone (b.atR a (.inRegion ops (i :: rest) :: k)) cs w) = .next (lone (b.atR (a.put o.dst undef) (.inRegion ops rest :: k)) cs w) := by
  have := stepR_op_skip (P := P) (b := b) (a := a) (k := k) (cs := cs) (w := w) (ops := ops) (i := i) (rest := rest) (by rw [ho]; simpa using hw)
  rw [this, ho]; rfl
end steps
mutual
theorem same_eq : ∀ (d : Nat) (a b : AVal), same d a b = true → a = b
  | d, a, b, h => by
    cases a <;> cases b <;> cases d <;> simp [same, bEq_eq, kEq_eq, iEq_eq, eqStr_eq, Nat.beq_eq] at h ⊢
    all_goals first
      | exact h
      | (obtain ⟨h1, h2⟩ := h; exact ⟨h1, h2⟩)
      | exact sames_eq _ _ _ h
      | (obtain ⟨⟨⟨h1, h2⟩, h3⟩, h4⟩ := h; exact ⟨h1, h2, h3, h4⟩)
theorem sames_eq : ∀ (d : Nat) (a b : List AVal), same.sames d a b = true → a = b
  | d, [], [], _ => rfl
  | d, a :: x, b :: y, h => by
    simp only [same.sames, Bool.and_eq_true] at h
    rw [same_eq d a b h.1, sames_eq d x y h.2]
  | d, [], b :: y, h => by simp [same.sames] at h
  | d, a :: x, [], h => by simp [same.sames] at h
end
section
variable {P : Program} {C : Ctx} {N : Nat} {μ : Mu} {H H' : AHeap} {w : World} {all : Array Oper} {olds : List (Nat × List Nat)} {anc : Tr Nat} {n : Nat} {old tm tm' : Tm} {D D' : Nat} {S : Nat → Bool} {order : List Nat} {tmps : Array Value} {ds : List Deferred}
def PendAll (C : Ctx) (H : AHeap) (all : Array Oper) (olds : List (Nat × List Nat)) (n : Nat) (old tm : Tm) (D : Nat) (S : Nat → Bool) : Prop :=
  ∀ i, tb D i = true → S i = false → ∃ o w v, Pend C H all olds n old tm i o w v
theorem lightsA_ok : ∀ (l : List Nat) (tm : Tm) (D : Nat), lightsA C H all n old olds l tm = some tm' → okLights all.toList l D = some D' → RegRel μ all olds anc n old tm D S order tmps → PendAll C H all olds n old tm D S →
    RegRel μ all olds anc n old tm' D' S order tmps ∧ PendAll C H all olds n old tm' D' S := by
  intro l
  induction l with
  | nil => intro tm D h hD R hp; cases h; cases hD; exact ⟨R, hp⟩
  | cons i l ih =>
    intro tm D h hD R hp
    unfold lightsA at h
    unfold okLights at hD
    rw [ob_some] at hD
    obtain ⟨D1, h1, hD⟩ := hD
    simp only [ob_some, lget_eq] at h
    obtain ⟨o, ho, wn, hw, v, hv, h⟩ := h
    obtain ⟨o', ho', hi, hb, hD1⟩ := oneDone_ok h1
    have ho2 : all[i]? = some o := by simpa using ho
    rw [ho2] at ho'; cases ho'
    have hval : if wn = true then (alight o.op).f C (opEnv tm old olds i o) H = some v else v = undefA := by
      cases wn with
      | true => rw [if_pos rfl]; exact hv
      | false => rw [if_neg (by simp)]; exact (Option.some.inj hv).symm
    refine ih _ _ h hD (R.light ho2 hi hb hD1) fun j hj hSj => ?_
    rw [hD1] at hj
    simp only [Bool.or_eq_true, beq_iff_eq] at hj
    rcases hj with hj | rfl
    · obtain ⟨u, wu, vu, pu⟩ := hp j hj hSj
      exact ⟨u, wu, vu, pu.keep R.reg R.dclosed hj ho2 hi⟩
    · exact ⟨o, wn, v, Pend.fresh R.reg R.dclosed ho2 hb hi hw hval⟩
/-- what is left of a pending operation while the heap changes -/
structure Weak (all : Array Oper) (n : Nat) (tm : Tm) (i : Nat) (o : Oper) (w : Bool) (v : AVal) : Prop where
  op : all[i]? = some o
  want : wantedG o.guard all tm = some w
  val : w = false → v = undefA
  put : ∀ d, o.dst = some d → d < n → tm.get d = some v
theorem againA_ok : ∀ (l : List Nat), againA C H all old olds tm l = true → ∀ i ∈ l, ∀ o w v, Weak all n tm i o w v → ∃ v, Pend C H all olds n old tm i o w v := by
  intro l
  induction l with
  | nil => intro _ i hi; cases hi
  | cons j l ih =>
    intro h i hi o w v W
    unfold againA at h
    split at h
    case h_2 => cases h
    rename_i hx
    rcases List.mem_cons.1 hi with rfl | hi
    · simp only [ob_some, lget_eq] at hx
      obtain ⟨o', ho', d, hd, wn, hw, hx⟩ := hx
      have ho2 : all[i]? = some o' := by simpa using ho'
      rw [W.op] at ho2; cases ho2
      rw [W.want] at hw; cases hw
      cases w with
      | false => exact ⟨v, W.op, W.want, by rw [if_neg (by simp)]; exact W.val rfl, W.put⟩
      | true =>
        simp only [cond_true, ob_some] at hx
        obtain ⟨v1, hv1, u, hu, hs⟩ := hx
        have e := same_eq _ _ _ (Option.some.inj hs)
        refine ⟨v1, W.op, W.want, by rw [if_pos rfl]; exact hv1, fun d' hd' hn => ?_⟩
        rw [hd] at hd'; cases hd'
        rw [hu, e]
    · exact ih h i hi o w v W
end
end Go.Am
