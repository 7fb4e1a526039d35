/- Frames: how the abstract machine's stand to the model's. -/
import Derived.Test.YtjiklgloidlihaaGreatDoorAmOp
import Derived.Orders
namespace Go.Am
open Go Go.RowKit

inductive ItemRel (μ : Mu) : AItem → Item → Prop
  | code (c : Code) : ItemRel μ (.code c) (.code c)
  | inBlock (id : Nat) : ItemRel μ (.inBlock id) (.inBlock id)
  | inLoop (c : Code) : ItemRel μ (.inLoop c) (.inLoop c)
  | inScope (c : Code) : ItemRel μ (.inScope c) (.inScope c)
  | ops (all : Array Oper) (i : Nat) (h : i ≤ all.size) : ItemRel μ (.ops all (all.toList.drop i)) (.inRegion all ((List.range all.size).drop i))
  | inRange (l : Nat) (i : BI) (h : μ l = some i) : ItemRel μ (.inRange l) (.inRangeFunc i.b)
  | endRange (l : Nat) (i : BI) (h : μ l = some i) : ItemRel μ (.endRange l) (.endRangeFunc i.b)
  | beginRound : ItemRel μ .beginRound .beginRound
theorem ItemRel.mono {μ ν : Mu} (h : μ.le ν) {a : AItem} {b : Item} (k : ItemRel μ a b) : ItemRel ν a b := by
  cases k with
  | code c => exact .code c
  | inBlock id => exact .inBlock id
  | inLoop c => exact .inLoop c
  | inScope c => exact .inScope c
  | ops all i hi => exact .ops all i hi
  | inRange l i hl => exact .inRange l i (h _ _ hl)
  | endRange l i hl => exact .endRange l i (h _ _ hl)
  | beginRound => exact .beginRound
structure PanicRel (μ : Mu) (p : APanic) (e : PanicEntry) : Prop where
  v : VRel μ p.v e.v
  recovered : e.recovered = p.recovered
  goexit : e.goexit = false
theorem PanicRel.mono {μ ν : Mu} (h : μ.le ν) {p : APanic} {e : PanicEntry} (k : PanicRel μ p e) : PanicRel ν p e := ⟨k.v.mono h _ _, k.recovered, k.goexit⟩
def ModeRel (μ : Mu) : AMode → FrameMode → Prop
  | .run, .run => True
  | .returning, .returning => True
  | .panicking c, .panicking d => All2 (PanicRel μ) c d
  | _, _ => False
theorem ModeRel.mono {μ ν : Mu} (h : μ.le ν) {a : AMode} {b : FrameMode} (k : ModeRel μ a b) : ModeRel ν a b := by
  cases a <;> cases b <;> first | exact All2.mono (fun _ _ r => PanicRel.mono h r) k | exact k
def RoundRel (μ : Mu) : Option Nat → Option Nat → Prop
  | none, none => True
  | some l, some m => ∃ i, μ l = some i ∧ m = i.b
  | _, _ => False
theorem RoundRel.mono {μ ν : Mu} (h : μ.le ν) {a b : Option Nat} (k : RoundRel μ a b) : RoundRel ν a b := by
  cases a <;> cases b <;> first | (obtain ⟨i, h1, h2⟩ := k; exact ⟨i, h _ _ h1, h2⟩) | exact k
structure RestRel (μ : Mu) (R : FRest) (fr : Frame) : Prop where
  fn : fr.fn = R.fn
  size : fr.tmps.size = R.n
  defers : All2 (ADefRel μ) R.defers fr.defers
  mode : ModeRel μ R.mode fr.mode
  kind : fr.kind = if R.deferred then .deferred else .normal
  round : RoundRel μ R.roundOf fr.roundOf
theorem RestRel.mono {μ ν : Mu} (h : μ.le ν) {R : FRest} {fr : Frame} (k : RestRel μ R fr) : RestRel ν R fr :=
  ⟨k.fn, k.size, k.defers.mono fun _ _ r => r.mono h, k.mode.mono h, k.kind, k.round.mono h⟩

/- regions that draw -/
def Binds (o : Oper) (j : Nat) : Prop := ∃ e ∈ o.after.toList, Region.binds .any e = true ∧ e.on = j
/-- what is left of a schedule, when the operations of S are done -/
def Sched (ops : Array Oper) : (Nat → Bool) → List Nat → Prop
  | S, [] => ∀ i, i < ops.size → S i = true
  | S, i :: rest => ∃ o, ops[i]? = some o ∧ S i = false ∧ (∀ j, Binds o j → S j = true) ∧ Sched ops (fun k => S k || k == i) rest
theorem ready_mem {ops : Array Oper} {listed : Array Bool} {i : Nat} (h : i ∈ Region.ready .any ops listed) : ∃ o, ops[i]? = some o ∧ listed.getD i true = false ∧ ∀ j, Binds o j → listed.getD j false = true := by
  unfold Region.ready at h
  rw [List.mem_filter] at h
  obtain ⟨h1, h2⟩ := h
  simp only [Bool.and_eq_true, Bool.not_eq_true'] at h2
  obtain ⟨h2, h3⟩ := h2
  cases ho : ops[i]? with
  | none => rw [ho] at h3; simp at h3
  | some o =>
    rw [ho] at h3
    refine ⟨o, rfl, h2, ?_⟩
    rintro j ⟨e, he, hb, rfl⟩
    simp only [Option.map_some, Option.getD_some, Array.all_eq_true'] at h3
    have := h3 e (by simpa using he)
    rw [hb] at this
    simpa using this
theorem ready_of {ops : Array Oper} {listed : Array Bool} {i : Nat} {o : Oper} (ho : ops[i]? = some o) (h1 : listed.getD i true = false) (h2 : ∀ j, Binds o j → listed.getD j false = true) : i ∈ Region.ready .any ops listed := by
  unfold Region.ready
  rw [List.mem_filter]
  refine ⟨by rw [List.mem_range]; exact (Array.getElem?_eq_some_iff.1 ho).1, ?_⟩
  rw [h1, ho]
  simp only [Bool.not_false, Bool.true_and, Option.map_some, Option.getD_some, Array.all_eq_true']
  intro e he
  cases hb : Region.binds .any e with
  | false => rfl
  | true => simpa using h2 e.on ⟨e, by simpa using he, hb, rfl⟩
/-- the edges of a region lead back -/
def Back (ops : Array Oper) : Prop := ∀ i o, ops[i]? = some o → ∀ j, Binds o j → j < i
theorem countP_lt {p q : Nat → Bool} (hqp : ∀ k, q k = true → p k = true) {i : Nat} (hp : p i = true) (hq : q i = false) : ∀ l : List Nat, i ∈ l → l.countP q + 1 ≤ l.countP p := by
  have le : ∀ l : List Nat, l.countP q ≤ l.countP p := fun l => List.countP_mono_left fun k _ h => hqp k h
  intro l
  induction l with
  | nil => intro h; cases h
  | cons k l ih =>
    intro h
    rw [List.countP_cons, List.countP_cons]
    rcases List.mem_cons.1 h with rfl | h
    · rw [hp, hq]; have := le l; simp; omega
    · have := ih h
      cases hk : q k with
      | true => rw [hqp k hk]; simp; omega
      | false => simp; omega
theorem sched_go {ops : Array Oper} (hb : Back ops) : ∀ (fuel t : Nat) (listed : Array Bool), listed.size = ops.size →
    (List.range ops.size).countP (fun i => !listed.getD i true) ≤ fuel →
    Sched ops (fun i => listed.getD i false) (Region.linearise.go .any ops fuel t listed []) := by
  intro fuel
  induction fuel with
  | zero =>
    intro t listed hs hc
    simp only [Region.linearise.go, List.reverse_nil]
    intro i hi
    have h0 := Nat.le_zero.1 hc
    rw [List.countP_eq_zero] at h0
    have := h0 i (List.mem_range.2 hi)
    simp only [Bool.not_eq_true, Bool.not_eq_false'] at this
    have hi' : i < listed.size := by omega
    simpa [Array.getD, hi'] using this
  | succ fuel ih =>
    intro t listed hs hc
    simp only [Region.linearise.go]
    change Sched ops _ (match (Region.ready .any ops listed)[t % (Region.ready .any ops listed).length]? with
      | some i => Region.linearise.go .any ops fuel (t / (Region.ready .any ops listed).length) (listed.setIfInBounds i true) [i]
      | none => [].reverse)
    cases hi : (Region.ready .any ops listed)[t % (Region.ready .any ops listed).length]? with
    | none =>
      have hnil : Region.ready .any ops listed = [] := by
        cases hr : Region.ready .any ops listed with
        | nil => rfl
        | cons x xs =>
          rw [hr] at hi
          have hlt : t % (x :: xs).length < (x :: xs).length := Nat.mod_lt _ (by simp)
          rw [List.getElem?_eq_none_iff] at hi
          omega
      show ∀ i, i < ops.size → listed.getD i false = true
      intro i
      induction i using Nat.strongRecOn with
      | _ i ihi =>
        intro hlt
        refine Classical.byContradiction fun hne => ?_
        have ho : ops[i]? = some ops[i] := by simp [hlt]
        have hil : i < listed.size := by omega
        have h1 : listed.getD i true = false := by
          have : listed.getD i false = false := by simpa using hne
          simpa [Array.getD, hil] using this
        have := ready_of ho h1 fun j hj => ihi j (hb i _ ho j hj) (Nat.lt_trans (hb i _ ho j hj) hlt)
        rw [hnil] at this; cases this
    | some i =>
      simp only []
      rw [linearise_go_acc, List.reverse_singleton, List.singleton_append]
      obtain ⟨o, ho, h1, h2⟩ := ready_mem (List.mem_of_getElem? hi)
      have hlt : i < ops.size := (Array.getElem?_eq_some_iff.1 ho).1
      have hil : i < listed.size := by omega
      refine ⟨o, ho, by simpa [Array.getD, hil] using h1, h2, ?_⟩
      have key : (fun k => listed.getD k false || k == i) = fun k => (listed.setIfInBounds i true).getD k false := by
        funext k
        simp only [Array.getD_eq_getD_getElem?, Array.getElem?_setIfInBounds]
        by_cases e : i = k
        · subst e; simp [hil]
        · rw [if_neg e]
          have : (k == i) = false := by simp; exact fun h => e h.symm
          simp [this]
      rw [key]
      refine ih _ _ (by simpa using hs) ?_
      have hcnt : (List.range ops.size).countP (fun k => !(listed.setIfInBounds i true).getD k true) + 1 ≤ (List.range ops.size).countP (fun k => !listed.getD k true) := by
        refine countP_lt (fun k hk => ?_) (i := i) ?_ ?_ _ (List.mem_range.2 hlt)
        · simp only [Bool.not_eq_true', Array.getD_eq_getD_getElem?, Array.getElem?_setIfInBounds] at hk ⊢
          split at hk
          · rename_i e; subst e; simp at hk
          · exact hk
        · simpa using h1
        · simp [Array.getD_eq_getD_getElem?, hil]
      omega
end Go.Am
