/- A region that draws and waits for a call. -/
import Derived.Test.YtjiklgloidlihaaGreatDoorAmRegion2
namespace Go.Am
open Go Go.RowKit
section
variable {P : Program} {C : Ctx} {N : Nat} {μ : Mu} {H H' : AHeap} {w : World} {all : Array Oper} {olds : List (Nat × List Nat)} {anc : Tr Nat} {n : Nat} {old tm tm' : Tm} {D D' : Nat} {S : Nat → Bool} {order : List Nat} {tmps : Array Value} {ds : List Deferred}
theorem Weak.keep (R : RegOk all olds anc) (hD : Closed all (tb D)) {i k : Nat} {o u : Oper} {w : Bool} {v x : AVal} (h : Weak all n tm i o w v) (hi : tb D i = true) (hu : all[k]? = some u) (hk : tb D k = false) :
    Weak all n (putA n tm u.dst x) i o w v := by
  obtain ⟨_, r2⟩ := reads_of R hD h.op (.inl hi) hu hk
  refine ⟨h.op, ?_, h.val, ?_⟩
  · rw [wanted_congr (tm := tm) fun j w hg g hj d hd => by rw [get_putA, if_neg fun e => r2 j w hg g hj d hd e.1]]
    exact h.want
  · intro d hd hn
    rw [get_putA, if_neg]
    · exact h.put d hd hn
    · rintro ⟨e, _⟩
      have := R.one i k o u d h.op hu hd e
      rw [this, hk] at hi; cases hi
/-- at the heavy operation: what is pending is pure, or will be looked at again -/
theorem toWeak {st : Stage} {r : List Stage} (hst : okStages all.toList anc (st :: r) D = true) (R : RegRel μ all olds anc n old tm D S (st.heavy :: order) tmps) (hp : PendAll C H all olds n old tm D S) :
    WeakAll C all olds n old tm D S st.again := by
  obtain ⟨_, ag, _⟩ := okStages_cons hst
  intro i hDi hSi
  obtain ⟨u, wu, vu, pu⟩ := hp i hDi hSi
  refine ⟨u, wu, vu, ?_⟩
  rcases ag i u pu.op hDi with h | h | h
  · obtain ⟨o, ho, _, hb, _⟩ := R.sched
    have := R.reg.up R.closed ho hb h
    rw [hSi] at this; cases this
  · exact .inl fun H => pu.pure h H
  · exact .inr ⟨h, pu.op, pu.want, fun e => by have := pu.val; rw [e] at this; simpa using this, pu.put⟩
/-- its value has come -/
theorem waitDone {h : Nat} {again : List Nat} {D1 : Nat} {o : Oper} {v : AVal} {v' : Value} (h1 : oneDone all.toList h D = some D1) (ho : all[h]? = some o)
    (R : RegRel μ all olds anc n old tm D S (h :: order) tmps) (hp : WeakAll C all olds n old tm D S again) (hv : VRel μ v v') :
    RegRel μ all olds anc n old (putA n tm o.dst v) D1 (fun k => S k || k == h) order (Act.put ⟨tmps, ds⟩ o.dst v').tmps ∧ WeakAll C all olds n old (putA n tm o.dst v) D1 (fun k => S k || k == h) again := by
  obtain ⟨o', ho', hi, hb, hD1⟩ := oneDone_ok h1
  rw [ho] at ho'; cases ho'
  refine ⟨R.did ho hD1 (fun d hd hn => by rw [get_putA, if_pos ⟨hd, hn⟩]) (fun d hd => by rw [get_putA, if_neg fun e => absurd (hd e.1) (by omega)]) hv, fun i hDi hSi => ?_⟩
  simp only [Bool.or_eq_false_iff, beq_eq_false_iff_ne] at hSi
  rw [hD1] at hDi
  simp only [Bool.or_eq_true, beq_iff_eq] at hDi
  have hDi := hDi.resolve_right hSi.2
  obtain ⟨u, wu, vu, pu⟩ := hp i hDi hSi.1
  refine ⟨u, wu, vu, pu.imp (fun pu H => (pu H).keep R.reg R.dclosed hDi ho hi) (fun pu => ⟨pu.1, pu.2.keep R.reg R.dclosed hDi ho hi⟩)⟩

/-- a frame's items and slots: 'cur' is the heap, where the frame is the one that runs -/
inductive BodyRel (C : Ctx) (μ : Mu) (n : Nat) : Option AHeap → List AItem → Tm → List Item → Array Value → Prop
  | plain {cur : Option AHeap} {todo : List AItem} {tm : Tm} {btodo : List Item} {tmps : Array Value} : All2 (ItemRel μ) todo btodo → TmRel μ n tm tmps → BodyRel C μ n cur todo tm btodo tmps
  | reg {H : AHeap} {all : Array Oper} {old tm : Tm} {olds : List (Nat × List Nat)} {stages : List Stage} {k : List AItem} {order : List Nat} {k' : List Item} {tmps : Array Value} {anc : Tr Nat} {D : Nat} {S : Nat → Bool} :
      RegRel μ all olds anc n old tm D S order tmps → okStages all.toList anc stages D = true → PendAll C H all olds n old tm D S → All2 (ItemRel μ) k k' →
      BodyRel C μ n (some H) (.reg all old olds stages :: k) tm (.inRegion all order :: k') tmps
  | mid {cur : Option AHeap} {all : Array Oper} {old tm : Tm} {olds : List (Nat × List Nat)} {lights again : List Nat} {stages : List Stage} {k : List AItem} {order : List Nat} {k' : List Item} {tmps : Array Value} {anc : Tr Nat} {D D2 : Nat} {S : Nat → Bool} :
      RegRel μ all olds anc n old tm D S order tmps → okLights all.toList lights D = some D2 → okStages all.toList anc stages D2 = true → WeakAll C all olds n old tm D S again → All2 (ItemRel μ) k k' →
      BodyRel C μ n cur (.reg all old olds (⟨all.size, lights, again⟩ :: stages) :: k) tm (.inRegion all order :: k') tmps
  | wait {all : Array Oper} {old tm : Tm} {olds : List (Nat × List Nat)} {st : Stage} {stages : List Stage} {k : List AItem} {order : List Nat} {k' : List Item} {tmps : Array Value} {anc : Tr Nat} {D : Nat} {S : Nat → Bool} :
      RegRel μ all olds anc n old tm D S (st.heavy :: order) tmps → okStages all.toList anc (st :: stages) D = true → WeakAll C all olds n old tm D S st.again → All2 (ItemRel μ) k k' →
      BodyRel C μ n none (.reg all old olds (st :: stages) :: k) tm (.inRegion all (st.heavy :: order) :: k') tmps
theorem BodyRel.mono {ν : Mu} (h : μ.le ν) {cur : Option AHeap} {todo : List AItem} {btodo : List Item} (R : BodyRel C μ n cur todo tm btodo tmps) : BodyRel C ν n cur todo tm btodo tmps := by
  have mk : ∀ {k : List AItem} {k' : List Item}, All2 (ItemRel μ) k k' → All2 (ItemRel ν) k k' := fun k => All2.mono (fun _ _ r => ItemRel.mono h r) k
  cases R with
  | plain a b => exact .plain (mk a) (b.mono h)
  | reg a b c d => exact .reg (a.mono h) b c (mk d)
  | mid a b c d e => exact .mid (a.mono h) b c d (mk e)
  | wait a b c d => exact .wait (a.mono h) b c (mk d)
end
end Go.Am
