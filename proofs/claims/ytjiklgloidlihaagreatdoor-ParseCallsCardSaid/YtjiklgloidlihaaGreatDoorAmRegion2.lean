/- A region that draws, from its head to its end. -/
import Derived.Test.YtjiklgloidlihaaGreatDoorAmRegion
namespace Go.Am
open Go Go.RowKit
section
variable {P : Program} {C : Ctx} {N : Nat} {μ : Mu} {H H' : AHeap} {w : World} {all : Array Oper} {olds : List (Nat × List Nat)} {anc : Tr Nat} {n : Nat} {old tm tm' : Tm} {D D' : Nat} {S : Nat → Bool} {order : List Nat} {tmps : Array Value} {ds : List Deferred}
variable {b : Frame} {k : List Item} {cs : List Frame}
theorem pendStep (hT : TysOk P C) (hH : HRel N μ H w) {i : Nat} (R : RegRel μ all olds anc n old tm D S (i :: order) tmps) (hp : PendAll C H all olds n old tm D S) (hi : tb D i = true) :
    ∃ S' tmps', step P (lone (b.atR ⟨tmps, ds⟩ (.inRegion all (i :: order) :: k)) cs w) = .next (lone (b.atR ⟨tmps', ds⟩ (.inRegion all order :: k)) cs w) ∧
      RegRel μ all olds anc n old tm D S' order tmps' ∧ PendAll C H all olds n old tm D S' := by
  obtain ⟨o, ho, hS, hb, _⟩ := R.sched
  obtain ⟨o', wn, v, pd⟩ := hp i hi hS
  have := pd.op
  rw [ho] at this; cases this
  have hw := R.wanted ho hb pd.want
  have hDD : ∀ k, tb D k = (tb D k || k == i) := by
    intro k
    by_cases e : k = i
    · subst e; rw [hi]; rfl
    · have : (k == i) = false := by simpa using e
      rw [this, Bool.or_false]
  have rest : ∀ v', VRel μ v v' → RegRel μ all olds anc n old tm D (fun k => S k || k == i) order (Act.put ⟨tmps, ds⟩ o.dst v').tmps ∧ PendAll C H all olds n old tm D (fun k => S k || k == i) := by
    intro v' hv
    refine ⟨R.did ho hDD pd.put (fun _ _ => rfl) hv, fun j hj hSj => hp j hj ?_⟩
    simp only [Bool.or_eq_false_iff] at hSj
    exact hSj.1
  have ds' : ∀ v', Act.put ⟨tmps, ds⟩ o.dst v' = ⟨(Act.put ⟨tmps, ds⟩ o.dst v').tmps, ds⟩ := by intro v'; unfold Act.put; cases o.dst <;> rfl
  cases wn with
  | false =>
    have hv := pd.val
    rw [if_neg (by simp)] at hv
    subst hv
    obtain ⟨r1, r2⟩ := rest undef vrel_undef
    refine ⟨_, _, ?_, r1, r2⟩
    rw [← ds']
    exact stepR_notwanted (a := ⟨tmps, ds⟩) ho hw
  | true =>
    have hv := pd.val
    rw [if_pos rfl] at hv
    obtain ⟨v', h1, h2⟩ := alight_ok hT hH (R.erel (ds := ds) hH.glob ho hS hb) hv
    obtain ⟨r1, r2⟩ := rest v' h2
    refine ⟨_, _, ?_, r1, r2⟩
    rw [← ds']
    refine stepR_value (a := ⟨tmps, ds⟩) ho hw ?_
    rw [Oper.semAt_eq]
    · exact h1
    · intro c e
      rw [e] at hv
      cases hv
theorem reach (hT : TysOk P C) (hH : HRel N μ H w) {st : Stage} {r : List Stage} (hst : okStages all.toList anc (st :: r) D = true) : ∀ (order : List Nat) (S : Nat → Bool) (tmps : Array Value),
    RegRel μ all olds anc n old tm D S order tmps → PendAll C H all olds n old tm D S →
    ∃ S' order' tmps', Steps P (lone (b.atR ⟨tmps, ds⟩ (.inRegion all order :: k)) cs w) (lone (b.atR ⟨tmps', ds⟩ (.inRegion all (st.heavy :: order') :: k)) cs w) ∧
      RegRel μ all olds anc n old tm D S' (st.heavy :: order') tmps' ∧ PendAll C H all olds n old tm D S' := by
  obtain ⟨only, _, D1, D2, h1, _⟩ := okStages_cons hst
  obtain ⟨oh, hoh, hh, hbh, _⟩ := oneDone_ok h1
  intro order
  induction order with
  | nil =>
    intro S tmps R hp
    have := R.sub _ (R.sched st.heavy (Array.getElem?_eq_some_iff.1 hoh).1)
    rw [hh] at this; cases this
  | cons i order ih =>
    intro S tmps R hp
    cases hi : tb D i with
    | true =>
      obtain ⟨S', tmps', s1, r1, p1⟩ := pendStep (b := b) (k := k) (cs := cs) (ds := ds) hT hH R hp hi
      obtain ⟨S2, order', tmps2, s2, r2⟩ := ih S' tmps' r1 p1
      exact ⟨S2, order', tmps2, .head s1 s2, r2⟩
    | false =>
      obtain ⟨o, ho, hS, hb, _⟩ := R.sched
      have := only i o ho hi fun j hj => R.sub j (hb j hj)
      subst this
      exact ⟨S, order, tmps, .refl _ _, R, hp⟩
theorem regEnd (hT : TysOk P C) (hH : HRel N μ H w) (hst : okStages all.toList anc [] D = true) : ∀ (order : List Nat) (S : Nat → Bool) (tmps : Array Value),
    RegRel μ all olds anc n old tm D S order tmps → PendAll C H all olds n old tm D S →
    ∃ tmps', Steps P (lone (b.atR ⟨tmps, ds⟩ (.inRegion all order :: k)) cs w) (lone (b.atR ⟨tmps', ds⟩ k) cs w) ∧ TmRel μ n tm tmps' := by
  have full := okStages_nil hst
  intro order
  induction order with
  | nil =>
    intro S tmps R hp
    refine ⟨tmps, .one stepR_region_end, R.size, fun t v hv => ?_⟩
    by_cases hn : t < n
    · by_cases hw : ∃ (j : Nat) (u : Oper), all[j]? = some u ∧ u.dst = some t
      · obtain ⟨j, u, hu, hud⟩ := hw
        exact R.now j u t v hu hud (R.sched j (Array.getElem?_eq_some_iff.1 hu).1) hn hv
      · have k := R.keep t hn fun i o h1 h2 => absurd ⟨i, o, h1, h2⟩ hw
        exact R.past t v hn (fun i o h1 h2 => absurd ⟨i, o, h1, h2⟩ hw) (by rw [← k]; exact hv)
    · rw [getD_big (by rw [R.size]; omega)]
      exact R.big t v (by omega) (.inl hv)
  | cons i order ih =>
    intro S tmps R hp
    obtain ⟨o, ho, _⟩ := R.sched
    obtain ⟨S', tmps', s1, r1, p1⟩ := pendStep (b := b) (k := k) (cs := cs) (ds := ds) hT hH R hp (full i (Array.getElem?_eq_some_iff.1 ho).1)
    obtain ⟨tmps2, s2, r2⟩ := ih S' tmps' r1 p1
    exact ⟨tmps2, .head s1 s2, r2⟩
theorem regStart (hM : P.follows .mixedOrders = true) {anc : Tr Nat} (hR : RegOk all olds anc) (ht : TmRel μ n old tmps) (t : Nat) :
    RegRel μ all olds anc n old old 0 (fun _ => false) (Region.schedule (P.follows .mixedOrders) all t) tmps ∧ PendAll C H all olds n old old 0 (fun _ => false) := by
  refine ⟨⟨hR, ?_, fun i h => (by cases h), fun i o _ h => (by cases h), fun i o _ h => (by rw [tb_zero] at h; cases h), ht.1, fun i o d v _ _ h => (by cases h), fun d v _ _ h => ht.2 d v h, fun _ _ _ => rfl, fun d v hd h => ?_⟩, fun i h => (by rw [tb_zero] at h; cases h)⟩
  · rw [hM]
    unfold Region.schedule
    simp only [Bool.true_or, if_true]
    have := sched_go hR.back all.size t (Array.replicate all.size false) (by simp) (by
      refine Nat.le_trans (List.countP_le_length) ?_
      simp)
    have e : (fun i => (Array.replicate all.size false).getD i false) = fun _ => false := by
      funext i
      simp only [Array.getD_eq_getD_getElem?, Array.getElem?_replicate]
      split <;> rfl
    rw [e] at this
    exact this
  · have h' : old.get d = some v := h.elim id id
    have := ht.2 d v h'
    rw [getD_big (by rw [ht.1]; exact hd)] at this
    exact this
/-- between two heavy operations: what is pending is weak -/
def WeakAll (C : Ctx) (all : Array Oper) (olds : List (Nat × List Nat)) (n : Nat) (old tm : Tm) (D : Nat) (S : Nat → Bool) (again : List Nat) : Prop :=
  ∀ i, tb D i = true → S i = false → ∃ o w v, (∀ H, Pend C H all olds n old tm i o w v) ∨ (i ∈ again ∧ Weak all n tm i o w v)
/-- the heavy operation is done -/
theorem heavyDone {st : Stage} {r : List Stage} {D1 : Nat} {o : Oper} {v : AVal} {v' : Value} (hst : okStages all.toList anc (st :: r) D = true) (h1 : oneDone all.toList st.heavy D = some D1) (ho : all[st.heavy]? = some o)
    (R : RegRel μ all olds anc n old tm D S (st.heavy :: order) tmps) (hp : PendAll C H all olds n old tm D S) (hv : VRel μ v v') :
    RegRel μ all olds anc n old (putA n tm o.dst v) D1 (fun k => S k || k == st.heavy) order (Act.put ⟨tmps, ds⟩ o.dst v').tmps ∧ WeakAll C all olds n old (putA n tm o.dst v) D1 (fun k => S k || k == st.heavy) st.again := by
  obtain ⟨o', ho', hi, hb, hD1⟩ := oneDone_ok h1
  rw [ho] at ho'; cases ho'
  obtain ⟨_, ag, _⟩ := okStages_cons hst
  obtain ⟨_, _, hS, hbS, _⟩ := R.sched
  refine ⟨R.did ho hD1 (fun d hd hn => by rw [get_putA, if_pos ⟨hd, hn⟩]) (fun d hd => by rw [get_putA, if_neg fun e => absurd (hd e.1) (by omega)]) hv, fun i hDi hSi => ?_⟩
  simp only [Bool.or_eq_false_iff, beq_eq_false_iff_ne] at hSi
  rw [hD1] at hDi
  simp only [Bool.or_eq_true, beq_iff_eq] at hDi
  have hDi := hDi.resolve_right hSi.2
  obtain ⟨u, wu, vu, pu⟩ := hp i hDi hSi.1
  have pu := pu.keep (x := v) R.reg R.dclosed hDi ho hi
  refine ⟨u, wu, vu, ?_⟩
  rcases ag i u pu.op hDi with h | h | h
  · have := R.reg.up R.closed ho (fun j hj => ?_) h
    · rw [hSi.1] at this; cases this
    · obtain ⟨o2, ho2, _, hb2, _⟩ := R.sched
      rw [ho] at ho2; cases ho2
      exact hb2 j hj
  · exact .inl fun H => pu.pure h H
  · exact .inr ⟨h, pu.op, pu.want, fun e => by have := pu.val; rw [e] at this; simpa using this, pu.put⟩
/-- the light ones behind it -/
theorem weak_pend {again : List Nat} (hw : WeakAll C all olds n old tm D S again) (ha : againA C H all old olds tm again = true) : PendAll C H all olds n old tm D S := by
  intro i hi hS
  obtain ⟨o, w, v, h | ⟨h1, h2⟩⟩ := hw i hi hS
  · exact ⟨o, w, v, h H⟩
  · obtain ⟨v, h⟩ := againA_ok (C := C) (H := H) (olds := olds) (old := old) again ha i h1 o w v h2
    exact ⟨o, w, v, h⟩
end
end Go.Am
