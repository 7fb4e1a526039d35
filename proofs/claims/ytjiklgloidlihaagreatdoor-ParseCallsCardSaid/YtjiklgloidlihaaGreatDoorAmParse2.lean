/- The abstract machine over the parse seat: types, functions, variables. -/
import Derived.Test.YtjiklgloidlihaaGreatDoorAmParse
set_option maxRecDepth 100000
namespace Go.Am
open Go Go.RowKit Go.Proofs
noncomputable def eqDesc : ADesc → ADesc → Bool
  | .bool, .bool => true
  | .int k, .int j => kEq k j
  | .string, .string => true
  | .ptr a, .ptr b => Nat.beq a b
  | .slice a, .slice b => Nat.beq a b
  | .arr a c, .arr b d => Nat.beq a b && Nat.beq c d
  | .map a c, .map b d => Nat.beq a b && Nat.beq c d
  | .struct f, .struct g => decide (f = g)
  | .func, .func => true
  | .iface, .iface => true
  | .other, .other => true
  | _, _ => false
theorem eqDesc_eq {a b : ADesc} (h : eqDesc a b = true) : a = b := by
  cases a <;> cases b <;> simp [eqDesc, kEq_eq] at h ⊢ <;> first | exact h | exact ⟨h.1, h.2⟩
noncomputable def eqTy (a b : ATy) : Bool := eqDesc a.desc b.desc && Nat.beq a.size b.size && Nat.beq a.bytes b.bytes && same.sames 10 a.zero b.zero && bEq a.eqOk b.eqOk
theorem eqTy_eq {a b : ATy} (h : eqTy a b = true) : a = b := by
  obtain ⟨d, s, y, z, e⟩ := a
  obtain ⟨d', s', y', z', e'⟩ := b
  simp only [eqTy, Bool.and_eq_true, beqs, bEq_eq, beq_iff_eq] at h
  obtain ⟨⟨⟨⟨h1, h2⟩, h3⟩, h4⟩, h5⟩ := h
  rw [eqDesc_eq h1, h2, h3, sames_eq _ _ _ h4, h5]
noncomputable def allT {α : Type} (p : Nat → α → Bool) : Tr α → (Nat → Nat) → Bool
  | .leaf, _ => true
  | .node l v r, f => (match v with | some v => p (f 0) v | none => true) && allT p l (fun m => f (2 * m + 1)) && allT p r (fun m => f (2 * m + 2))
theorem allT_ok {α : Type} {p : Nat → α → Bool} : ∀ (t : Tr α) (f : Nat → Nat), allT p t f = true → ∀ (n : Nat) v, t.get n = some v → p (f n) v = true := by
  intro t
  induction t with
  | leaf => intro f _ n v h; rw [Tr.get_leaf] at h; cases h
  | node l x r ihl ihr =>
    intro f h n v hv
    simp only [allT, Bool.and_eq_true] at h
    rw [Tr.get_node] at hv
    split at hv
    · rename_i e; subst e
      have := h.1.1
      rw [hv] at this
      exact this
    · rename_i hn
      split at hv
      · rename_i e
        have := ihl _ h.1.2 _ v hv
        rw [show 2 * (n / 2) + 1 = n by omega] at this
        exact this
      · rename_i e
        have := ihr _ h.2 _ v hv
        rw [show 2 * (n / 2 - 1) + 2 = n by omega] at this
        exact this
theorem tys_check : allT (fun t ty => match tyOf Tryz.prog t with | some u => eqTy u ty | none => false) tys (fun n => n) = true := by kernel_rfl
theorem tys_ok : TysOk Tryz.prog (ctx0 0) := by
  intro t ty h
  have := allT_ok tys _ tys_check t ty h
  cases hu : tyOf Tryz.prog t with
  | none => rw [hu] at this; cases this
  | some u => rw [hu] at this; rw [eqTy_eq this]
theorem names_check : (Tryz.funcs.toList.all fun fn => !(fn.name == "runtime.NumGoroutine")) = true := by kernel_rfl
theorem fns_ok : FnsOk Tryz.prog (ctx0 0) := by
  intro f fn h
  have h : fns.get f = some fn := h
  unfold fns at h
  rw [Tr.get_ofList] at h
  have h2 : Tryz.prog.funcs[f]? = some fn := by
    show Tryz.funcs[f]? = some fn
    simpa using h
  refine ⟨h2, ?_⟩
  have := List.all_eq_true.1 names_check fn (List.mem_of_getElem? h)
  simpa using this

/- the package-level variables -/
def strs (l : List (List UInt8)) : List Value := l.map fun b => .string ⟨b.toArray⟩
def ints (l : List Int) : List Value := l.map fun n => .int .i64 n
def kindL : List (List UInt8) := [[], [116, 114, 117, 116, 104], [110, 117, 109, 98, 101, 114], [109, 111, 110, 101, 121], [100, 97, 116, 101], [100, 97, 121, 115], [109, 111, 110, 116, 104, 115]]
def modeL : List (List UInt8) := [[], [100, 111, 119, 110], [117, 112], [102, 108, 111, 111, 114], [99, 101, 105, 108], [104, 97, 108, 102], [101, 118, 101, 110]]
def lenL : List Int := [31, 28, 31, 30, 31, 30, 31, 31, 30, 31, 30, 31]
/-- the variables stand in the world -/
structure LaidW (w : World) : Prop where
  kinds : ∃ t, w.heap[0]? = some (.cells (strs kindL).toArray t (0, 0))
  modes : ∃ t, w.heap[1]? = some (.cells (strs modeL).toArray t (0, 0))
  most : ∃ m, w.cell? ⟨2, 0, none⟩ = some (.int .i64 m)
  lens : ∃ t, w.heap[3]? = some (.cells (ints lenL).toArray t (0, 0))
theorem LaidW.size {w : World} (h : LaidW w) : 4 ≤ w.heap.size := by
  obtain ⟨t, h⟩ := h.lens
  have := (Array.getElem?_eq_some_iff.1 h).1
  omega
theorem LaidW.below {w w' : World} {N : Nat} (hN : 4 ≤ N) (h : LaidW w) (hb : Below N w w') : LaidW w' := by
  refine ⟨?_, ?_, ?_, ?_⟩
  · obtain ⟨t, h⟩ := h.kinds; exact ⟨t, by rw [hb.block 0 (by omega)]; exact h⟩
  · obtain ⟨t, h⟩ := h.modes; exact ⟨t, by rw [hb.block 1 (by omega)]; exact h⟩
  · obtain ⟨m, h⟩ := h.most; exact ⟨m, by rw [hb.cell (p := ⟨2, 0, none⟩) (by show 2 < N; omega)]; exact h⟩
  · obtain ⟨t, h⟩ := h.lens; exact ⟨t, by rw [hb.block 3 (by omega)]; exact h⟩

noncomputable def mu0 : Mu := fun g => if g < 256 then some ⟨g, true, 0, 0⟩ else none
theorem strs_rel {μ : Mu} : ∀ l : List (List UInt8), LRel μ (l.map fun b => AVal.str (b.map UInt8.toNat)) (strs l)
  | [] => .nil
  | b :: l => .cons (by rw [VRel]; exact ⟨⟨b.toArray⟩, rfl, by simp [bytesN]⟩) (strs_rel l)
theorem ints_rel {μ : Mu} : ∀ l : List Int, LRel μ (l.map fun n => AVal.int .i64 n) (ints l)
  | [] => .nil
  | b :: l => .cons (by rw [VRel]) (ints_rel l)
theorem cells_blk {μ : Mu} {g : Nat} {l : List AVal} {vs : List Value} (h : LRel μ l vs) (t : TypeId) : BRel μ ⟨g, true, 0, 0⟩ (.cells (Tr.ofList l) (llen l) none) (.cells vs.toArray t (0, 0)) := h.rel_one rfl
theorem hrel0 {w : World} (h : LaidW w) : HRel w.heap.size mu0 H0 w := by
  have hget : ∀ a x, H0.t.get a = some x → (a = 0 ∧ x = .cells (Tr.ofList kindWordsA) (llen kindWordsA) none) ∨ (a = 1 ∧ x = .cells (Tr.ofList modeWordsA) (llen modeWordsA) none) ∨ (a = 3 ∧ x = .cells (Tr.ofList lengthsA) (llen lengthsA) none) := by
    intro a x hx
    have hx : G0.get a = some x := hx
    unfold G0 glob at hx
    rw [Tr.get_set, Tr.get_set, Tr.get_set] at hx
    split at hx
    · rename_i e; exact .inl ⟨e, (Option.some.inj hx).symm⟩
    · split at hx
      · rename_i e; exact .inr (.inl ⟨e, (Option.some.inj hx).symm⟩)
      · split at hx
        · rename_i e; exact .inr (.inr ⟨e, (Option.some.inj hx).symm⟩)
        · rw [Tr.get_leaf] at hx; cases hx
  have hsz := h.size
  refine ⟨fun g hg => by simp [mu0, hg], fun a x _ hx => ?_, Nat.le_refl _, Nat.le_refl _, fun a ha => ?_, fun a x hx => ?_, fun a i ha hi => ?_, fun a b x y i j hx _ _ _ ha _ _ => ?_⟩
  · rcases hget a x hx with ⟨rfl, _⟩ | ⟨rfl, _⟩ | ⟨rfl, _⟩ <;> omega
  · have ha : 256 ≤ a := ha
    refine ⟨by simp [mu0]; omega, ?_⟩
    cases hx : H0.t.get a with
    | none => rfl
    | some x => rcases hget a x hx with ⟨rfl, _⟩ | ⟨rfl, _⟩ | ⟨rfl, _⟩ <;> omega
  · rcases hget a x hx with ⟨rfl, rfl⟩ | ⟨rfl, rfl⟩ | ⟨rfl, rfl⟩
    · obtain ⟨t, h⟩ := h.kinds
      exact ⟨⟨0, true, 0, 0⟩, _, rfl, h, cells_blk (strs_rel kindL) t⟩
    · obtain ⟨t, h⟩ := h.modes
      exact ⟨⟨1, true, 0, 0⟩, _, rfl, h, cells_blk (strs_rel modeL) t⟩
    · obtain ⟨t, h⟩ := h.lens
      exact ⟨⟨3, true, 0, 0⟩, _, rfl, h, cells_blk (ints_rel lenL) t⟩
  · simp [mu0] at hi; omega
  · rcases hget a x hx with ⟨rfl, _⟩ | ⟨rfl, _⟩ | ⟨rfl, _⟩ <;> omega
end Go.Am
