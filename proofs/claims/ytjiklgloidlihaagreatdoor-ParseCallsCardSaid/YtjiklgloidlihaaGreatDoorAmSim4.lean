/- The simulation: a frame that is left midway. -/
import Derived.Test.YtjiklgloidlihaaGreatDoorAmSim3
namespace Go.Am
open Go Go.RowKit
theorem get_delAll : ∀ (l : List Oper) (t : Tr AVal) (i : Nat) (v : AVal), (delAll l t).get i = some v → t.get i = some v ∧ ∀ o ∈ l, o.dst ≠ some i := by
  intro l
  induction l with
  | nil => intro t i v h; exact ⟨h, fun _ ho => by cases ho⟩
  | cons o l ih =>
    intro t i v h
    unfold delAll at h
    cases hd : o.dst with
    | none =>
      rw [hd] at h
      obtain ⟨h1, h2⟩ := ih t i v h
      refine ⟨h1, fun u hu => ?_⟩
      rcases List.mem_cons.1 hu with rfl | hu
      · rw [hd]; simp
      · exact h2 u hu
    | some j =>
      rw [hd] at h
      obtain ⟨h1, h2⟩ := ih _ i v h
      rw [Tr.get_del] at h1
      split at h1
      · cases h1
      · rename_i e
        refine ⟨h1, fun u hu => ?_⟩
        rcases List.mem_cons.1 hu with rfl | hu
        · rw [hd]; exact fun k => e (Option.some.inj k).symm
        · exact h2 u hu
theorem RegRel.left {μ : Mu} {all : Array Oper} {olds : List (Nat × List Nat)} {anc : Tr Nat} {n : Nat} {old tm : Tm} {D : Nat} {S : Nat → Bool} {order : List Nat} {tmps : Array Value} (R : RegRel μ all olds anc n old tm D S order tmps) :
    TmRel μ n ⟨tm.k, delAll all.toList tm.v, []⟩ tmps := by
  refine ⟨R.size, fun t v hv => ?_⟩
  unfold Tm.get at hv
  simp only [brec] at hv
  split at hv
  case isFalse => cases hv
  rename_i hk
  obtain ⟨h1, h2⟩ := get_delAll _ _ _ _ hv
  have hv : tm.get t = some v := by unfold Tm.get; simp only [brec]; rw [if_pos hk]; exact h1
  have hw : ∀ (i : Nat) (o : Oper), all[i]? = some o → o.dst = some t → False := fun i o ho hd => h2 o (by
    have : all.toList[i]? = some o := by simpa using ho
    exact List.mem_of_getElem? this) hd
  by_cases hn : t < n
  · have k := R.keep t hn fun i o a b => (hw i o a b).elim
    exact R.past t v hn (fun i o a b => (hw i o a b).elim) (by rw [← k]; exact hv)
  · rw [getD_big (by rw [R.size]; omega)]
    exact R.big t v (by omega) (.inl hv)
theorem BodyRel.left {C : Ctx} {μ : Mu} {n : Nat} {cur : Option AHeap} {todo : List AItem} {tm : Tm} {btodo : List Item} {tmps : Array Value} (h : BodyRel C μ n cur todo tm btodo tmps) : TmRel μ n (leftTm todo tm) tmps := by
  cases h with
  | plain a t =>
    cases a with
    | nil => exact t
    | cons x l => cases x <;> exact t
  | reg a _ _ _ => exact a.left
  | mid a _ _ _ _ => exact a.left
  | wait a _ _ _ => exact a.left
theorem All2.append {α β : Type} {R : α → β → Prop} {l l' : List α} {m m' : List β} (h : All2 R l m) (h' : All2 R l' m') : All2 R (l ++ l') (m ++ m') := by
  induction h with
  | nil => exact h'
  | cons a _ ih => exact .cons a ih
theorem TmRel.left {μ : Mu} {n : Nat} {tm : Tm} {tmps : Array Value} (h : TmRel μ n tm tmps) (todo : List AItem) : TmRel μ n (leftTm todo tm) tmps := by
  unfold leftTm
  split
  · refine ⟨h.1, fun t v hv => h.2 t v ?_⟩
    unfold Tm.get at hv ⊢
    simp only [brec] at hv ⊢
    split at hv
    · rename_i e; rw [if_pos e]; exact (get_delAll _ _ _ _ hv).1
    · cases hv
  · exact h
theorem raise_ok {C : Ctx} {μ : Mu} {cur cur' : Option AHeap} {fr : AFrame} {b : Frame} {l : List APanic} {l' : List PanicEntry} (h : FrRel C μ cur fr b) (hl : All2 (PanicRel μ) l l') : FrRel C μ cur' (raiseA fr l) (b.raise l') := by
  have t : TmRel μ fr.R.n (leftTm fr.todo fr.tm) b.tmps := by
    have := h.body
    split at this
    · exact this.left
    · exact this.left _
  have r := h.rest
  obtain ⟨todo, tm, fn, n, defers, mode, deferred, round⟩ := fr
  obtain ⟨bfn, btmps, btodo, bdefers, bmode, bkind, bround⟩ := b
  have m := r.mode
  cases mode <;> cases bmode <;> first | exact m.elim | skip
  · exact ⟨⟨r.fn, r.size, r.defers, hl, r.kind, r.round⟩, t⟩
  · exact ⟨⟨r.fn, r.size, r.defers, hl, r.kind, r.round⟩, t⟩
  · refine ⟨⟨r.fn, r.size, r.defers, ?_, r.kind, r.round⟩, t⟩
    show All2 (PanicRel μ) (lapp l _) _
    rw [lapp_eq]
    exact hl.append m
end Go.Am
