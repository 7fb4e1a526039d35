/- How the abstract machine's values and types stand to the model's. -/
import Derived.Test.YtjiklgloidlihaaGreatDoorAmBase
import Derived.Laws.Sem
import Derived.Laws.Cells
import Derived.Laws.World
import Derived.Laws.StructEq
namespace Go.Am
open Go

/-- where an abstract block lies -/
structure BI where
  b : Nat
  tight : Bool
  es : Nat
  room : Nat
abbrev Mu := Nat → Option BI
def Mu.le (μ ν : Mu) : Prop := ∀ a i, μ a = some i → ν a = some i
theorem Mu.le_refl (μ : Mu) : μ.le μ := fun _ _ h => h
theorem Mu.le_trans {a b c : Mu} (h : a.le b) (k : b.le c) : a.le c := fun x i hx => k x i (h x i hx)

def FnRel (μ : Mu) : AFn → Fn → Prop
  | .func f, fn => fn = .func f
  | .yld l, fn => ∃ i, μ l = some i ∧ fn = .yield i.b

mutual
def VRel (μ : Mu) : AVal → Value → Prop
  | .bool b, v => v = .bool b
  | .int k n, v => v = .int k n
  | .str l, v => ∃ s, v = .string s ∧ bytesN s = l
  | .nilptr, v => v = .pointer none
  | .ptr b off, v => ∃ i, μ b = some i ∧ v = .pointer (some ⟨i.b, off, none⟩)
  | .nilslice, v => v = .slice none 0 0
  | .slice b off len cap, v => ∃ i cap', μ b = some i ∧ v = .slice (some ⟨i.b, off, none⟩) len cap' ∧ cap ≤ cap' ∧ (i.tight = true → cap' = cap) ∧ (i.tight = false → off + cap' * i.es ≤ i.room)
  | .nilmap, v => v = .map none
  | .map b, v => ∃ i, μ b = some i ∧ v = .map (some i.b)
  | .func f a c, v => ∃ fn a' c', v = .func fn a' c' ∧ FnRel μ f fn ∧ LRel μ a a'.toList ∧ LRel μ c c'.toList
  | .nilfunc, v => v = .nilFunc
  | .iface t x, v => ∃ x', v = .iface t x' ∧ VRel μ x x'
  | .niliface, v => v = .nilIface
  | .agg l, v => ∃ cs, v = .agg cs ∧ LRel μ l cs.toList
  | .tup l, v => ∃ cs, v = .tuple cs ∧ LRel μ l cs.toList
def LRel (μ : Mu) : List AVal → List Value → Prop
  | [], m => m = []
  | a :: l, m => ∃ v r, m = v :: r ∧ VRel μ a v ∧ LRel μ l r
end

theorem FnRel.mono {μ ν : Mu} (h : μ.le ν) {f : AFn} {g : Fn} (k : FnRel μ f g) : FnRel ν f g := by
  cases f with
  | func f => exact k
  | yld l => obtain ⟨i, h1, h2⟩ := k; exact ⟨i, h _ _ h1, h2⟩
mutual
theorem VRel.mono {μ ν : Mu} (h : μ.le ν) : ∀ (a : AVal) (v : Value), VRel μ a v → VRel ν a v
  | .bool _, _, k => k
  | .int _ _, _, k => k
  | .str _, _, k => k
  | .nilptr, _, k => k
  | .ptr _ _, _, ⟨i, h1, h2⟩ => ⟨i, h _ _ h1, h2⟩
  | .nilslice, _, k => k
  | .slice _ _ _ _, _, ⟨i, c, h1, h2⟩ => ⟨i, c, h _ _ h1, h2⟩
  | .nilmap, _, k => k
  | .map _, _, ⟨i, h1, h2⟩ => ⟨i, h _ _ h1, h2⟩
  | .func _ a c, _, ⟨fn, a', c', h1, h2, h3, h4⟩ => ⟨fn, a', c', h1, h2.mono h, LRel.mono h a _ h3, LRel.mono h c _ h4⟩
  | .nilfunc, _, k => k
  | .iface _ x, _, ⟨x', h1, h2⟩ => ⟨x', h1, VRel.mono h x _ h2⟩
  | .niliface, _, k => k
  | .agg l, _, ⟨cs, h1, h2⟩ => ⟨cs, h1, LRel.mono h l _ h2⟩
  | .tup l, _, ⟨cs, h1, h2⟩ => ⟨cs, h1, LRel.mono h l _ h2⟩
theorem LRel.mono {μ ν : Mu} (h : μ.le ν) : ∀ (l : List AVal) (m : List Value), LRel μ l m → LRel ν l m
  | [], _, k => k
  | a :: l, _, ⟨v, r, h1, h2, h3⟩ => ⟨v, r, h1, VRel.mono h a v h2, LRel.mono h l r h3⟩
end

theorem LRel.length {μ : Mu} {l : List AVal} : ∀ {m : List Value}, LRel μ l m → m.length = l.length := by
  induction l with
  | nil => intro m h; rw [LRel] at h; rw [h]; rfl
  | cons a l ih => intro m h; rw [LRel] at h; obtain ⟨v, r, rfl, _, h3⟩ := h; simp [ih h3]
theorem LRel.get {μ : Mu} {l : List AVal} : ∀ {m : List Value} {i : Nat} {a : AVal}, LRel μ l m → l[i]? = some a → ∃ v, m[i]? = some v ∧ VRel μ a v := by
  induction l with
  | nil => intro m i a _ h; simp at h
  | cons b l ih =>
    intro m i a h hi
    rw [LRel] at h
    obtain ⟨v, r, rfl, h2, h3⟩ := h
    cases i with
    | zero => simp at hi; subst hi; exact ⟨v, by simp, h2⟩
    | succ i => simp at hi; obtain ⟨u, hu, hr⟩ := ih h3 hi; exact ⟨u, by simpa using hu, hr⟩
theorem LRel.mk {μ : Mu} {l : List AVal} : ∀ {m : List Value}, m.length = l.length → (∀ (i : Nat) a v, l[i]? = some a → m[i]? = some v → VRel μ a v) → LRel μ l m := by
  induction l with
  | nil => intro m h _; rw [LRel]; simpa using h
  | cons a l ih =>
    intro m h k
    cases m with
    | nil => simp at h
    | cons v r =>
      rw [LRel]
      exact ⟨v, r, rfl, k 0 a v (by simp) (by simp), ih (by simpa using h) fun i a v h1 h2 => k (i + 1) a v (by simpa using h1) (by simpa using h2)⟩
theorem LRel.append {μ : Mu} {l l' : List AVal} : ∀ {m m' : List Value}, LRel μ l m → LRel μ l' m' → LRel μ (l ++ l') (m ++ m') := by
  induction l with
  | nil => intro m m' h h'; rw [LRel] at h; subst h; exact h'
  | cons a l ih => intro m m' h h'; rw [LRel] at h; obtain ⟨v, r, rfl, h2, h3⟩ := h; rw [List.cons_append, LRel]; exact ⟨v, r ++ m', rfl, h2, ih h3 h'⟩
theorem LRel.drop {μ : Mu} {l : List AVal} {m : List Value} (h : LRel μ l m) (n : Nat) : LRel μ (l.drop n) (m.drop n) := by
  refine LRel.mk (by simp [h.length]) fun i a v h1 h2 => ?_
  rw [List.getElem?_drop] at h1 h2
  obtain ⟨u, hu, hr⟩ := h.get h1
  rw [hu] at h2; cases h2; exact hr
theorem LRel.take {μ : Mu} {l : List AVal} {m : List Value} (h : LRel μ l m) (n : Nat) : LRel μ (l.take n) (m.take n) := by
  refine LRel.mk (by simp [h.length]) fun i a v h1 h2 => ?_
  rw [List.getElem?_take] at h1 h2
  split at h1
  · rename_i hi
    rw [if_pos hi] at h2
    obtain ⟨u, hu, hr⟩ := h.get h1
    rw [hu] at h2; cases h2; exact hr
  · cases h1
theorem LRel.nil {μ : Mu} : LRel μ [] [] := by rw [LRel]
theorem LRel.cons {μ : Mu} {a : AVal} {l : List AVal} {v : Value} {m : List Value} (h : VRel μ a v) (k : LRel μ l m) : LRel μ (a :: l) (v :: m) := by rw [LRel]; exact ⟨v, m, rfl, h, k⟩
theorem LRel.single {μ : Mu} {a : AVal} {v : Value} (h : VRel μ a v) : LRel μ [a] [v] := .cons h .nil

/- looks -/
theorem asBool_some {v : AVal} {b : Bool} : v.asBool = some b ↔ v = .bool b := by cases v <;> simp [AVal.asBool]
theorem asInt_some {v : AVal} {n : Int} : v.asInt = some n ↔ ∃ k, v = .int k n := by cases v <;> simp [AVal.asInt]
theorem asIntK_some {v : AVal} {p : IntKind × Int} : v.asIntK = some p ↔ v = .int p.1 p.2 := by cases v <;> simp [AVal.asIntK, Prod.ext_iff]
theorem asStr_some {v : AVal} {l : List Nat} : v.asStr = some l ↔ v = .str l := by cases v <;> simp [AVal.asStr]
theorem asPtr_some {v : AVal} {p : Nat × Nat} : v.asPtr = some p ↔ v = .ptr p.1 p.2 := by cases v <;> simp [AVal.asPtr, Prod.ext_iff]
theorem asSlice_some {v : AVal} {p : Nat × Nat × Nat × Nat} : v.asSlice = some p ↔ v = .slice p.1 p.2.1 p.2.2.1 p.2.2.2 := by cases v <;> simp [AVal.asSlice, Prod.ext_iff]
theorem asMap_some {v : AVal} {b : Nat} : v.asMap = some b ↔ v = .map b := by cases v <;> simp [AVal.asMap]
theorem asAgg_some {v : AVal} {l : List AVal} : v.asAgg = some l ↔ v = .agg l := by cases v <;> simp [AVal.asAgg]
theorem asTup_some {v : AVal} {l : List AVal} : v.asTup = some l ↔ v = .tup l := by cases v <;> simp [AVal.asTup]
theorem asFunc_some {v : AVal} {p : AFn × List AVal × List AVal} : v.asFunc = some p ↔ v = .func p.1 p.2.1 p.2.2 := by cases v <;> simp [AVal.asFunc, Prod.ext_iff]
theorem asIface_some {v : AVal} {p : Nat × AVal} : v.asIface = some p ↔ v = .iface p.1 p.2 := by cases v <;> simp [AVal.asIface, Prod.ext_iff]
theorem asNat_some {v : AVal} {n : Nat} : v.asNat = some n ↔ ∃ k, v = .int k (n : Int) := by
  unfold AVal.asNat; rw [ob_some]
  constructor
  · rintro ⟨a, h1, h2⟩; rw [asInt_some] at h1; obtain ⟨k, rfl⟩ := h1; exact ⟨k, by rw [natOf_some.1 h2]⟩
  · rintro ⟨k, rfl⟩; exact ⟨n, rfl, rfl⟩
theorem tag_eq {v : AVal} : (v.tag = 3 ↔ v = .nilptr) ∧ (v.tag = 5 ↔ v = .nilslice) ∧ (v.tag = 7 ↔ v = .nilmap) ∧ (v.tag = 10 ↔ v = .nilfunc) ∧ (v.tag = 12 ↔ v = .niliface) := by
  cases v <;> simp [AVal.tag]

theorem VRel.notAgg {μ : Mu} {a : AVal} {v : Value} (h : VRel μ a v) (ha : a.asAgg = none) : v.cells = #[v] := by
  cases a <;> rw [VRel] at h <;> first
    | (subst h; rfl)
    | (obtain ⟨_, rfl, _⟩ := h; rfl)
    | (obtain ⟨_, _, rfl⟩ := h; rfl)
    | (obtain ⟨_, _, _, rfl, _⟩ := h; rfl)
    | (simp [AVal.asAgg] at ha)
theorem VRel.one {μ : Mu} {a : AVal} {v : Value} (h : VRel μ a v) (ha : a.one = true) : v.oneCell' = true := by
  cases a <;> rw [VRel] at h <;> first
    | (subst h; rfl)
    | (obtain ⟨_, rfl, _⟩ := h; rfl)
    | (obtain ⟨_, _, rfl⟩ := h; rfl)
    | (obtain ⟨_, _, _, rfl, _⟩ := h; rfl)
    | (revert ha; decide)
    | (have := blts.1 ha; simp [AVal.tag] at this)
theorem cells_rel {μ : Mu} {a : AVal} {v : Value} (h : VRel μ a v) : LRel μ a.cells v.cells.toList := by
  unfold AVal.cells
  cases ha : a.asAgg with
  | none => rw [h.notAgg ha]; exact LRel.single h
  | some l => rw [asAgg_some.1 ha, VRel] at h; obtain ⟨cs, rfl, h⟩ := h; exact h

/- TYPES -/
def descOf (P : Program) (t : Nat) : ADesc :=
  match P.underlying t with
  | some .bool => .bool
  | some (.int k) => .int k
  | some .string => .string
  | some (.pointer e) => .ptr e
  | some (.slice e) => .slice e
  | some (.array n e) => .arr n e
  | some (.map k e) => .map k e
  | some (.struct fs) => .struct (fs.toList.map fun f => (f.offset, f.type, P.cellsOf f.type))
  | some (.func ..) => .func
  | some (.interface _) => .iface
  | _ => .other
def isAggV : Value → Bool
  | .agg _ => true
  | _ => false
def structOk (P : Program) (t : Nat) : Bool := (P.fieldsOf t).toList.all fun f => (P.info? f.type).isSome
noncomputable def tyOf (P : Program) (t : Nat) : Option ATy :=
  match P.info? t with
  | some i => match i.zero with
    | some z => ob (lmapM ofScalar z.cells.toList) fun l => guardO (bEq (isAggV z) (descOf P t).isAgg && (P.underlying t).isSome && structOk P t)
        (some ⟨descOf P t, i.size, i.bytes, l, !P.stoodInHeld t && !P.eqGuardType P.depth t && (P.fieldsOf t).toList.all (fun f => f.name != "_")⟩)
    | none => none
  | none => none
/-- the context's types are the program's -/
def TysOk (P : Program) (C : Ctx) : Prop := ∀ t ty, C.tys.get t = some ty → tyOf P t = some ty

theorem bytesN_inj {a b : ByteArray} (h : bytesN a = bytesN b) : a = b := by
  have h1 : a.data.toList = b.data.toList := by
    unfold bytesN at h
    exact (List.map_inj_right (fun x y hxy => UInt8.toNat_inj.1 hxy)).1 h
  have h2 : a.data = b.data := Array.toList_inj.1 h1
  cases a; cases b; simpa using h2
theorem ofScalar_rel {μ : Mu} {v : Value} {a : AVal} (h : ofScalar v = some a) : VRel μ a v ∧ a.one = true := by
  unfold ofScalar at h
  split at h <;> cases h <;> refine ⟨?_, rfl⟩ <;> rw [VRel]
  exact ⟨_, rfl, rfl⟩
theorem ofScalars_rel {μ : Mu} {m : List Value} : ∀ {l : List AVal}, lmapM ofScalar m = some l → LRel μ l m := by
  induction m with
  | nil => intro l h; rw [lmapM_nil] at h; cases h; exact LRel.nil
  | cons v m ih =>
    intro l h
    rw [lmapM_cons, ob_some] at h
    obtain ⟨a, ha, h⟩ := h
    rw [ob_some] at h
    obtain ⟨r, hr, h⟩ := h
    cases h
    exact .cons (ofScalar_rel ha).1 (ih hr)
theorem ofConst_rel {μ : Mu} {v : Value} {a : AVal} (h : ofConst v = some a) : VRel μ a v := by
  unfold ofConst at h
  split at h
  · rename_i cs hc
    rw [ob_some] at h
    obtain ⟨l, hl, h⟩ := h
    cases h
    cases v <;> simp [asAggV] at hc
    subst hc
    rw [VRel]; exact ⟨_, rfl, ofScalars_rel hl⟩
  · exact (ofScalar_rel h).1

structure TyFacts (P : Program) (t : Nat) (ty : ATy) : Prop where
  info : ∃ i, P.info? t = some i ∧ i.size = ty.size ∧ i.bytes = ty.bytes ∧ ∃ z, i.zero = some z ∧ lmapM ofScalar z.cells.toList = some ty.zero ∧ isAggV z = ty.desc.isAgg
  desc : descOf P t = ty.desc
  und : ∃ d, P.underlying t = some d
  fields : ∀ f ∈ (P.fieldsOf t).toList, ∃ i, P.info? f.type = some i
  eqOk : ty.eqOk = true → P.stoodInHeld t = false ∧ P.eqGuardType P.depth t = false ∧ ∀ f ∈ (P.fieldsOf t).toList, f.name ≠ "_"
theorem tyOf_facts {P : Program} {t : Nat} {ty : ATy} (h : tyOf P t = some ty) : TyFacts P t ty := by
  unfold tyOf at h
  split at h
  · rename_i i hi
    split at h
    · rename_i z hz
      rw [ob_some] at h
      obtain ⟨l, hl, h⟩ := h
      rw [guardO_some] at h
      obtain ⟨hb, h⟩ := h
      cases h
      rw [Bool.and_eq_true, Bool.and_eq_true] at hb
      refine ⟨⟨i, hi, rfl, rfl, z, hz, hl, ?_⟩, rfl, Option.isSome_iff_exists.1 hb.1.2, fun f hf => Option.isSome_iff_exists.1 (List.all_eq_true.1 hb.2 f hf), fun h => ?_⟩
      · have := hb.1.1; rw [bEq_eq] at this; simpa using this
      · simp only [Bool.and_eq_true, Bool.not_eq_true', List.all_eq_true, bne_iff_ne] at h; exact ⟨h.1.1, h.1.2, h.2⟩
    · cases h
  · cases h
theorem TysOk.facts {P : Program} {C : Ctx} (h : TysOk P C) {t : Nat} {ty : ATy} (k : C.tys.get t = some ty) : TyFacts P t ty := tyOf_facts (h t ty k)

/- runs of the model's looks at types -/
section
variable {P : Program} {w : World} {t : Nat} {ty : ATy}
theorem run_info {i : TypeInfo} (h : P.info? t = some i) : (typeInfo t).run P w = .ok i w := by
  simp [typeInfo, h]
theorem run_und {d : TypeDesc} (h : P.underlying t = some d) : (underlying t).run P w = .ok d w := by
  simp [underlying, h]
theorem TyFacts.size (h : TyFacts P t ty) : (sizeOf t).run P w = .ok ty.size w := by
  obtain ⟨i, h1, h2, _⟩ := h.info
  simp [sizeOf, run_info h1, h2]
theorem TyFacts.zero (h : TyFacts P t ty) {μ : Mu} : ∃ z, (∀ w, (zeroValue t).run P w = .ok z w) ∧ VRel μ (zeroA ty) z ∧ LRel μ ty.zero z.cells.toList := by
  obtain ⟨i, h1, _, _, z, h2, h3, h4⟩ := h.info
  have hl : LRel μ ty.zero z.cells.toList := ofScalars_rel h3
  refine ⟨z, fun w => by simp [zeroValue, run_info h1, h2], ?_, hl⟩
  unfold zeroA
  cases hd : ty.desc.isAgg with
  | true =>
    rw [hd] at h4
    cases z <;> simp [isAggV] at h4
    show VRel μ (.agg ty.zero) _
    rw [VRel]; exact ⟨_, rfl, hl⟩
  | false =>
    rw [hd] at h4
    have hc : z.cells = #[z] := by cases z <;> first | rfl | simp [isAggV] at h4
    rw [hc] at hl
    cases hz : ty.zero with
    | nil => rw [hz, LRel] at hl; simp at hl
    | cons a l => rw [hz, LRel] at hl; obtain ⟨v, r, hv, hr, _⟩ := hl; simp at hv; rw [← hv.1] at hr; exact hr
theorem TyFacts.isAgg (h : TyFacts P t ty) : (Go.isAgg t).run P w = .ok ty.desc.isAgg w := by
  obtain ⟨d, hd⟩ := h.und
  have h0 := h.desc
  unfold descOf at h0
  rw [hd] at h0
  unfold Go.isAgg
  rw [Sem.run_bind, run_und hd, Result.andThen_ok, ← h0]
  cases d <;> rfl
theorem desc_struct (h : TyFacts P t ty) {fs : List (Nat × Nat × Nat)} (k : ty.desc.asStruct = some fs) : ∃ g, P.underlying t = some (.struct g) ∧ fs = g.toList.map fun f => (f.offset, f.type, P.cellsOf f.type) := by
  obtain ⟨d, hd⟩ := h.und
  have h0 := h.desc
  unfold descOf at h0
  rw [hd] at h0
  rw [← h0] at k
  cases d <;> simp [ADesc.asStruct] at k
  exact ⟨_, hd, k.symm⟩
theorem desc_slice (h : TyFacts P t ty) {e : Nat} (k : ty.desc.asSlice = some e) : P.underlying t = some (.slice e) := by
  obtain ⟨d, hd⟩ := h.und
  have h0 := h.desc
  unfold descOf at h0
  rw [hd] at h0
  rw [← h0] at k
  cases d <;> simp [ADesc.asSlice] at k
  rw [hd, k]
theorem desc_arr (h : TyFacts P t ty) {p : Nat × Nat} (k : ty.desc.asArr = some p) : P.underlying t = some (.array p.1 p.2) := by
  obtain ⟨d, hd⟩ := h.und
  have h0 := h.desc
  unfold descOf at h0
  rw [hd] at h0
  rw [← h0] at k
  cases d <;> simp [ADesc.asArr] at k
  rw [hd, ← k]
theorem desc_map (h : TyFacts P t ty) {p : Nat × Nat} (k : ty.desc.asMap = some p) : P.underlying t = some (.map p.1 p.2) := by
  obtain ⟨d, hd⟩ := h.und
  have h0 := h.desc
  unfold descOf at h0
  rw [hd] at h0
  rw [← h0] at k
  cases d <;> simp [ADesc.asMap] at k
  rw [hd, ← k]
theorem desc_int (h : TyFacts P t ty) {k : IntKind} (e : ty.desc.asInt = some k) : P.underlying t = some (.int k) := by
  obtain ⟨d, hd⟩ := h.und
  have h0 := h.desc
  unfold descOf at h0
  rw [hd] at h0
  rw [← h0] at e
  cases d <;> simp [ADesc.asInt] at e
  rw [hd, e]
theorem desc_string (h : TyFacts P t ty) (e : ty.desc.isString = true) : P.underlying t = some .string := by
  obtain ⟨d, hd⟩ := h.und
  have h0 := h.desc
  unfold descOf at h0
  rw [hd] at h0
  rw [← h0] at e
  cases d <;> simp [ADesc.isString, ADesc.tag, Nat.beq] at e
  exact hd
theorem desc_notIface (h : TyFacts P t ty) (e : Nat.blt ty.desc.tag 9 = true) : ∃ d, P.underlying t = some d ∧ ∀ ms, d ≠ .interface ms := by
  obtain ⟨d, hd⟩ := h.und
  refine ⟨d, hd, fun ms hm => ?_⟩
  subst hm
  have h0 := h.desc
  unfold descOf at h0
  rw [hd] at h0
  rw [← h0] at e
  exact absurd (blts.1 e) (by simp [ADesc.tag])
end

/- MEMORY -/
structure ADefRel (μ : Mu) (d : ADef) (e : Deferred) : Prop where
  rel : match d.fn with
    | none => ∃ i, μ d.r = some i ∧ e = { target := .collected i.b, args := #[] }
    | some f => ∃ fn cap as, e = { target := .fn fn cap, args := as } ∧ FnRel μ f fn ∧ LRel μ d.args (as ++ cap).toList
def TmRel (μ : Mu) (n : Nat) (tm : Tm) (tmps : Array Value) : Prop := tmps.size = n ∧ ∀ i v, tm.get i = some v → VRel μ v (tmps.getD i undef)
structure LoopRel (μ : Mu) (l : ALoop) (r : Loop) : Prop where
  state : r.state = l.state
  pending : r.pending = l.pending
  fn : r.fn = l.fn
  tm : TmRel μ l.n l.tm r.tmps
  params : r.params.toList = l.params
  assign : r.assign = l.assign
  body : r.body = l.body
  defers : ∃ i, μ l.defers = some i ∧ r.defers = i.b
inductive All2 {α β : Type} (R : α → β → Prop) : List α → List β → Prop
  | nil : All2 R [] []
  | cons {a b l m} : R a b → All2 R l m → All2 R (a :: l) (b :: m)
def BRel (μ : Mu) (i : BI) : ABlk → Obj → Prop
  | .cells c n loose, o => ∃ cs elem fr, o = .cells cs elem fr ∧ n ≤ cs.size ∧ (fr.2 ≤ fr.1 ∨ cs.size ≤ fr.1) ∧ (∀ (j : Nat) v, c.get j = some v → j < n ∧ ∃ v', cs[j]? = some v' ∧ VRel μ v v') ∧
      (match loose with | none => i.tight = true | some es => i.tight = false ∧ i.es = es ∧ i.room = cs.size ∧ n % es = 0)
  | .map l, o => ∃ es clock, o = .map es clock ∧ All2 (fun p e => VRel μ p.1 e.key ∧ VRel μ p.2 e.val) l es.toList
  | .loop l, o => ∃ r, o = .loop r ∧ LoopRel μ l r
  | .deferred l, o => ∃ l', o = .deferred l' ∧ (match l, l' with | none, none => True | some a, some b => All2 (ADefRel μ) a b | _, _ => False)
  | .siter s pos, o => ∃ s', o = .stringIter s' pos ∧ bytesN s' = s
/-- the abstract heap stands in the world -/
structure HRel (N : Nat) (μ : Mu) (H : AHeap) (w : World) : Prop where
  glob : ∀ g, g < 256 → μ g = some ⟨g, true, 0, 0⟩
  low : ∀ a x, a < 256 → H.t.get a = some x → a < N
  next : 256 ≤ H.next
  size : N ≤ w.heap.size
  fresh : ∀ a, H.next ≤ a → μ a = none ∧ H.t.get a = none
  blk : ∀ a x, H.t.get a = some x → ∃ i o, μ a = some i ∧ w.heap[i.b]? = some o ∧ BRel μ i x o
  own : ∀ a i, 256 ≤ a → μ a = some i → N ≤ i.b ∧ i.b < w.heap.size
  inj : ∀ a b x y i j, H.t.get a = some x → H.t.get b = some y → μ a = some i → μ b = some j → 256 ≤ a → 256 ≤ b → i.b = j.b → a = b
end Go.Am
