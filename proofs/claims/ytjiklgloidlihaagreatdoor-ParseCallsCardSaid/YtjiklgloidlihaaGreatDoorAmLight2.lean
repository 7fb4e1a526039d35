/- Arithmetic, comparisons, conversions, slices. -/
import Derived.Test.YtjiklgloidlihaaGreatDoorAmLight
import Derived.Lib.Strings
namespace Go.Am
open Go
section
variable {P : Program} {C : Ctx} {N : Nat} {μ : Mu} {H : AHeap} {w : World}
variable {e : Env} {ρ : Operand → Value} {dst : Option Tmp} {type : TypeId} {pos : String} {after : Array Edge} {guard : Option (Nat × Bool)} {v : AVal}

theorem wrap_small {k : IntKind} {n : Nat} (h : n < kHi k) : k.wrap (n : Int) = n := by
  rw [← wrapF_eq]
  show (bif Nat.blt n (kHi k) then Int.ofNat n else _) = _
  rw [cond_if, if_pos (blts.2 h)]; rfl
theorem kHi_pow (k : IntKind) : ∃ m, kHi k = 2 ^ m ∧ m ≤ k.bits := by
  cases k
  · exact ⟨7, rfl, by decide⟩
  · exact ⟨15, rfl, by decide⟩
  · exact ⟨31, rfl, by decide⟩
  · exact ⟨63, rfl, by decide⟩
  · exact ⟨8, rfl, by decide⟩
  · exact ⟨16, rfl, by decide⟩
  · exact ⟨32, rfl, by decide⟩
  · exact ⟨64, rfl, by decide⟩
theorem bv_small {k : IntKind} {n : Nat} (h : n < kHi k) : (BitVec.ofInt k.bits (n : Int)).toNat = n := by
  obtain ⟨m, hm, hle⟩ := kHi_pow k
  rw [BitVec.toNat_ofInt]
  have : n < 2 ^ k.bits := Nat.lt_of_lt_of_le (hm ▸ h) (Nat.pow_le_pow_right (by omega) hle)
  rw [← Int.natCast_emod, Int.toNat_natCast, Nat.mod_eq_of_lt this]

theorem iBits_some {f : Nat → Nat → Nat} {k : IntKind} {a b : Int} {v : AVal} (h : iBits f k a b = some v) : ∃ x y : Nat, a = x ∧ b = y ∧ x < kHi k ∧ y < kHi k ∧ v = .int k (f x y : Nat) := by
  unfold iBits at h
  simp only [ob_some, natOf_some, guardO_some, Bool.and_eq_true, blts] at h
  obtain ⟨x, rfl, y, rfl, ⟨h1, h2⟩, h⟩ := h
  cases h
  exact ⟨x, y, rfl, rfl, h1, h2, rfl⟩
theorem binInt_ok {op : BinOp} {k : IntKind} {a b : Int} (h : (binInt op).f k a b = some v) : op ≠ .shl ∧ op ≠ .shr ∧ ∀ t, ∃ v', (binOp op t (.int k a) (.int k b)).run P w = .ok v' w ∧ VRel μ v v' := by
  cases op <;> simp only [binInt] at h
  case add => cases h; exact ⟨by simp, by simp, fun t => ⟨.int k (k.wrap (a + b)), by simp [binOp, Op.intArith], by rw [VRel, wrapF_eq]⟩⟩
  case sub => cases h; exact ⟨by simp, by simp, fun t => ⟨.int k (k.wrap (a - b)), by simp [binOp, Op.intArith], by rw [VRel, wrapF_eq]⟩⟩
  case mul => cases h; exact ⟨by simp, by simp, fun t => ⟨.int k (k.wrap (a * b)), by simp [binOp, Op.intArith], by rw [VRel, wrapF_eq]⟩⟩
  case quo =>
    unfold iQuo at h
    simp only [cond_if, iEq_iff] at h
    split at h
    · cases h
    · rename_i hb; cases h
      refine ⟨by simp, by simp, fun t => ⟨.int k (k.wrap (a.tdiv b)), ?_, by rw [VRel, wrapF_eq]⟩⟩
      simp [binOp, Op.intDiv, hb]
  case rem =>
    unfold iRem at h
    simp only [cond_if, iEq_iff] at h
    split at h
    · cases h
    · rename_i hb; cases h
      refine ⟨by simp, by simp, fun t => ⟨.int k (a.tmod b), ?_, by rw [VRel]⟩⟩
      simp [binOp, Op.intDiv, hb]
  case and =>
    obtain ⟨x, y, rfl, rfl, hx, hy, rfl⟩ := iBits_some h
    refine ⟨by simp, by simp, fun t => ⟨.int k ((x &&& y : Nat) : Int), ?_, by rw [VRel]; rfl⟩⟩
    have h1 : x &&& y < kHi k := Nat.lt_of_le_of_lt Nat.and_le_left hx
    simp only [binOp, Op.intBits, BitVec.toNat_and, bv_small hx, bv_small hy, wrap_small h1]
    simp
  case or =>
    obtain ⟨x, y, rfl, rfl, hx, hy, rfl⟩ := iBits_some h
    obtain ⟨m, hm, _⟩ := kHi_pow k
    refine ⟨by simp, by simp, fun t => ⟨.int k ((x ||| y : Nat) : Int), ?_, by rw [VRel]; rfl⟩⟩
    have h1 : x ||| y < kHi k := by rw [hm]; exact Nat.or_lt_two_pow (hm ▸ hx) (hm ▸ hy)
    simp only [binOp, Op.intBits, BitVec.toNat_or, bv_small hx, bv_small hy, wrap_small h1]
    simp
  case xor =>
    obtain ⟨x, y, rfl, rfl, hx, hy, rfl⟩ := iBits_some h
    obtain ⟨m, hm, _⟩ := kHi_pow k
    refine ⟨by simp, by simp, fun t => ⟨.int k ((x ^^^ y : Nat) : Int), ?_, by rw [VRel]; rfl⟩⟩
    have h1 : x ^^^ y < kHi k := by rw [hm]; exact Nat.xor_lt_two_pow (hm ▸ hx) (hm ▸ hy)
    simp only [binOp, Op.intBits, BitVec.toNat_xor, bv_small hx, bv_small hy, wrap_small h1]
    simp
  case eql => cases h; exact ⟨by simp, by simp, fun t => ⟨.bool (a == b), by simp [binOp, Op.intCmp], by rw [VRel, iEq_eq]⟩⟩
  case neq => cases h; exact ⟨by simp, by simp, fun t => ⟨.bool (a != b), by simp [binOp, Op.intCmp], by rw [VRel, iEq_eq]; rfl⟩⟩
  case lss => cases h; exact ⟨by simp, by simp, fun t => ⟨.bool (a < b), by simp [binOp, Op.intCmp], by rw [VRel, iLt_eq]⟩⟩
  case leq => cases h; exact ⟨by simp, by simp, fun t => ⟨.bool (a ≤ b), by simp [binOp, Op.intCmp], by rw [VRel, iLe_eq]⟩⟩
  case gtr => cases h; exact ⟨by simp, by simp, fun t => ⟨.bool (a > b), by simp [binOp, Op.intCmp], by rw [VRel, iLt_eq]⟩⟩
  case geq => cases h; exact ⟨by simp, by simp, fun t => ⟨.bool (a ≥ b), by simp [binOp, Op.intCmp], by rw [VRel, iLe_eq]⟩⟩
  all_goals cases h

theorem bytesN_length (s : ByteArray) : (bytesN s).length = s.size := by simp [bytesN]
theorem bytesN_append (a b : ByteArray) : bytesN (a ++ b) = bytesN a ++ bytesN b := by simp [bytesN]
theorem bytesN_get (s : ByteArray) (i : Nat) : (bytesN s)[i]? = (s[i]?).map UInt8.toNat := by
  unfold bytesN
  rw [List.getElem?_map]
  congr 1
  by_cases h : i < s.size
  · rw [getElem?_pos s i h]
    simp [ByteArray.getElem_eq_getElem_data]
  · rw [getElem?_neg s i h]
    simp; exact Nat.le_of_not_lt h
theorem bytesN_extract (s : ByteArray) (l h : Nat) : bytesN (s.extract l h) = ((bytesN s).take h).drop l := by
  unfold bytesN
  rw [ByteArray.data_extract, Array.toList_extract, List.extract_eq_take_drop, ← List.map_take, ← List.map_drop, List.drop_take]
theorem bytesN_eq {a b : ByteArray} : (a.toList == b.toList) = (eqStr (bytesN a) (bytesN b)) := by
  rw [Lib.toList_data, Lib.toList_data, Bool.eq_iff_iff, eqStr_eq]
  constructor
  · intro h; simp at h; unfold bytesN; rw [h]
  · intro h; rw [bytesN_inj h]; simp
theorem lessStr_eq (a : List UInt8) : ∀ b : List UInt8, Op.bytesLess a b = lessStr (a.map UInt8.toNat) (b.map UInt8.toNat) := by
  induction a with
  | nil => intro b; cases b <;> rfl
  | cons x a ih =>
    intro b
    cases b with
    | nil => rfl
    | cons y b =>
      show _ = (bif Nat.blt x.toNat y.toNat then true else bif Nat.beq x.toNat y.toNat then lessStr (a.map UInt8.toNat) (b.map UInt8.toNat) else false)
      rw [Op.bytesLess, ih, cond_if, cond_if]
      by_cases h : x < y
      · have : Nat.blt x.toNat y.toNat = true := blts.2 (by exact UInt8.lt_iff_toNat_lt.1 h)
        rw [if_pos this]; simp [h]
      · have h1 : ¬ Nat.blt x.toNat y.toNat = true := fun k => h (UInt8.lt_iff_toNat_lt.2 (blts.1 k))
        rw [if_neg h1]
        by_cases he : x = y
        · subst he; rw [if_pos (Nat.beq_refl _)]; simp [h]
        · have h2 : ¬ Nat.beq x.toNat y.toNat = true := fun k => he (UInt8.toNat_inj.1 (beqs.1 k))
          rw [if_neg h2]; simp [h, he]
theorem binStr_ok {op : BinOp} {a b : ByteArray} (h : (binStr op).f (bytesN a) (bytesN b) = some v) : op ≠ .shl ∧ op ≠ .shr ∧ ∀ t, ∃ v', (binOp op t (.string a) (.string b)).run P w = .ok v' w ∧ VRel μ v v' := by
  cases op <;> simp only [binStr] at h
  case add =>
    simp only [sAdd, guardO_some, blts, llen_eq, lapp_eq, bytesN_length] at h
    obtain ⟨h1, h⟩ := h
    cases h
    refine ⟨by simp, by simp, fun t => ⟨.string (a ++ b), ?_, by rw [VRel]; exact ⟨_, rfl, bytesN_append a b⟩⟩⟩
    have h2 : ¬ (((a.size + b.size : Nat) : Int) > IntKind.i64.max) := by
      have : IntKind.i64.max = 9223372036854775807 := by decide
      rw [this]; omega
    simp only [binOp, Op.stringOp, if_neg h2]; rfl
  case eql => cases h; exact ⟨by simp, by simp, fun t => ⟨.bool (a.toList == b.toList), rfl, by rw [VRel, bytesN_eq]⟩⟩
  case neq => cases h; exact ⟨by simp, by simp, fun t => ⟨.bool !(a.toList == b.toList), rfl, by rw [VRel, bytesN_eq]⟩⟩
  case lss => cases h; exact ⟨by simp, by simp, fun t => ⟨.bool (Op.bytesLess a.toList b.toList), rfl, by rw [VRel, Lib.toList_data, Lib.toList_data, lessStr_eq]; rfl⟩⟩
  all_goals cases h

theorem eqGuard_ok {op : BinOp} {t : TypeId} {x y : Operand} {a b : Value} (h1 : ¬ (a = .nilIface ∧ b = .nilIface) ∨ (isConstO x || isConstO y) = true) (h2 : ∀ l m, ¬ (a = .agg l ∧ b = .agg m)) : (eqGuard op t x y a b).run P w = .ok () w := by
  unfold eqGuard
  cases op
  case eql | neq =>
    rw [if_neg (by simp)]
    split
    · rcases h1 with h1 | h1
      · exact absurd ⟨rfl, rfl⟩ h1
      · cases x <;> cases y <;> simp [isConstO] at h1 ⊢
    · exact absurd ⟨rfl, rfl⟩ (h2 _ _)
    · rfl
  all_goals rfl
theorem eqGuard_agg {op : BinOp} {t : TypeId} {x y : Operand} {l m : Array Value} (h : P.eqGuardType P.depth t = false) : (eqGuard op t x y (.agg l) (.agg m)).run P w = .ok () w := by
  unfold eqGuard
  cases op
  case eql | neq => rw [if_neg (by simp)]; simp [h]
  all_goals rfl
theorem run_binOp {op : BinOp} {t yt : TypeId} {x y : Operand} {v' : Value} (h1 : (eqGuard op t x y (ρ x) (ρ y)).run P w = .ok () w) (h2 : (binOp op t (ρ x) (ρ y)).run P w = .ok v' w) :
    (execOp ρ ⟨dst, .binOp op t x y yt, type, pos, after, guard⟩).run P w = .ok (.value v') w := by
  simp only [execOp, Sem.run_bind, h1, Result.andThen_ok, h2, Sem.run_pure]

theorem shiftN_some {k : IntKind} {b : Int} {n : Nat} (h : shiftN k b = some n) : ¬ b < 0 ∧ n = min b.toNat k.bits := by
  unfold shiftN at h
  simp only [ob_some, natOf_some] at h
  obtain ⟨m, rfl, h⟩ := h
  cases h
  exact ⟨by omega, by simp⟩
theorem int_not {k : IntKind} {n : Int} : (Value.int k n) ≠ .nilIface ∧ ∀ l, (Value.int k n) ≠ .agg l := ⟨by simp, by simp⟩
theorem binShift_ok {op : BinOp} {t yt : TypeId} {x y : Operand} {a b : AVal} (hx : VRel μ a (ρ x)) (hy : VRel μ b (ρ y))
    (h : (op = .shl ∧ binShift iShl a b = some v) ∨ (op = .shr ∧ binShift iShr a b = some v)) : LOk P μ w ρ ⟨dst, .binOp op t x y yt, type, pos, after, guard⟩ v := by
  rcases h with ⟨rfl, h⟩ | ⟨rfl, h⟩
  all_goals
    unfold binShift at h
    simp only [ob_some, asIntK_some, asInt_some] at h
    obtain ⟨p, rfl, n, ⟨k', rfl⟩, h⟩ := h
    rw [VRel] at hx hy
  · unfold iShl at h
    rw [ob_some] at h
    obtain ⟨m, hm, h⟩ := h
    cases h
    obtain ⟨h1, rfl⟩ := shiftN_some hm
    refine ⟨.int p.1 (p.1.wrap (p.2 * 2 ^ (min n.toNat p.1.bits))), run_binOp (eqGuard_ok (.inl (by rw [hx]; simp)) (by rw [hx]; simp)) ?_, by rw [VRel, wrapF_eq]; simp⟩
    rw [hx, hy]
    simp [binOp, Op.shift, h1]
  · unfold iShr at h
    rw [ob_some] at h
    obtain ⟨m, hm, h⟩ := h
    cases h
    obtain ⟨h1, rfl⟩ := shiftN_some hm
    refine ⟨.int p.1 (p.2.fdiv (2 ^ (min n.toNat p.1.bits))), run_binOp (eqGuard_ok (.inl (by rw [hx]; simp)) (by rw [hx]; simp)) ?_, by rw [VRel]; simp⟩
    rw [hx, hy]
    simp [binOp, Op.shift, h1]

/- equality -/
theorem eqNil_some {n m : Nat} {a b : AVal} {r : Bool} (h : eqNil n m a b = some r) : (a.tag = n ∧ b.tag = n ∧ r = true) ∨ (a.tag = n ∧ b.tag = m ∧ r = false) ∨ (a.tag = m ∧ b.tag = n ∧ r = false) := by
  unfold eqNil at h
  simp only [cond_if, beqs] at h
  split at h
  · split at h
    · cases h; rename_i h1 h2; exact .inl ⟨h1, h2, rfl⟩
    · rw [guardO_some, beqs] at h; obtain ⟨h1, h⟩ := h; cases h; rename_i h2 _; exact .inr (.inl ⟨h2, h1, rfl⟩)
  · rw [guardO_some, Bool.and_eq_true, beqs, beqs] at h; obtain ⟨⟨h1, h2⟩, h⟩ := h; cases h; exact .inr (.inr ⟨h1, h2, rfl⟩)
theorem eqBase_ok {t : Nat} {ty : ATy} (hF : TyFacts P t ty) {a b : AVal} {va vb : Value} (ha : VRel μ a va) (hb : VRel μ b vb) {r : Bool} {d : Nat} (h : eqBase ty.desc a b = some r) :
    (Op.equalIn (d + 1) t va vb).run P w = .ok r w := by
  obtain ⟨D, hD⟩ := hF.und
  have h0 := hF.desc
  unfold descOf at h0
  rw [hD] at h0
  unfold Op.equalIn
  rw [Sem.run_bind, run_und hD, Result.andThen_ok]
  rw [← h0] at h
  cases D <;> simp only [eqBase] at h <;> try (cases h; done)
  case bool =>
    simp only [eqBool, ob_some, asBool_some] at h
    obtain ⟨x, rfl, y, rfl, h⟩ := h
    cases h
    rw [VRel] at ha hb
    rw [ha, hb, bEq_eq]; rfl
  case int k =>
    simp only [eqInt, ob_some, asIntK_some, guardO_some, kEq_eq] at h
    obtain ⟨x, rfl, y, rfl, hk, h⟩ := h
    cases h
    rw [VRel] at ha hb
    rw [ha, hb, iEq_eq]
    simp [hk]
  case string =>
    simp only [eqString, ob_some, asStr_some] at h
    obtain ⟨x, rfl, y, rfl, h⟩ := h
    cases h
    rw [VRel] at ha hb
    obtain ⟨s, rfl, rfl⟩ := ha
    obtain ⟨u, rfl, rfl⟩ := hb
    have : (s == u) = eqStr (bytesN s) (bytesN u) := by
      rw [Bool.eq_iff_iff, eqStr_eq]
      have h1 : (s == u) = (s.data == u.data) := rfl
      rw [h1]
      exact ⟨fun h => (by unfold bytesN; rw [eq_of_beq h]), fun h => (by rw [bytesN_inj h]; exact beq_self_eq_true u.data)⟩
    rw [← this]; rfl
  case pointer el =>
    rcases eqNil_some h with ⟨h1, h2, rfl⟩ | ⟨h1, h2, rfl⟩ | ⟨h1, h2, rfl⟩ <;> cases a <;> simp [AVal.tag] at h1 <;> cases b <;> simp [AVal.tag] at h2 <;> rw [VRel] at ha <;> rw [VRel] at hb
    · rw [ha, hb]; rfl
    · obtain ⟨i, _, hb⟩ := hb; rw [ha, hb]; rfl
    · obtain ⟨i, _, ha⟩ := ha; rw [ha, hb]; rfl
  case slice el =>
    rcases eqNil_some h with ⟨h1, h2, rfl⟩ | ⟨h1, h2, rfl⟩ | ⟨h1, h2, rfl⟩ <;> cases a <;> simp [AVal.tag] at h1 <;> cases b <;> simp [AVal.tag] at h2 <;> rw [VRel] at ha <;> rw [VRel] at hb
    · rw [ha, hb]; rfl
    · obtain ⟨i, _, _, hb, _⟩ := hb; rw [ha, hb]; rfl
    · obtain ⟨i, _, _, ha, _⟩ := ha; rw [ha, hb]; rfl
  case map k el =>
    rcases eqNil_some h with ⟨h1, h2, rfl⟩ | ⟨h1, h2, rfl⟩ | ⟨h1, h2, rfl⟩ <;> cases a <;> simp [AVal.tag] at h1 <;> cases b <;> simp [AVal.tag] at h2 <;> rw [VRel] at ha <;> rw [VRel] at hb
    · rw [ha, hb]; rfl
    · obtain ⟨i, _, hb⟩ := hb; rw [ha, hb]; rfl
    · obtain ⟨i, _, ha⟩ := ha; rw [ha, hb]; rfl
  case func ps rs vd =>
    rcases eqNil_some h with ⟨h1, h2, rfl⟩ | ⟨h1, h2, rfl⟩ | ⟨h1, h2, rfl⟩ <;> cases a <;> simp [AVal.tag] at h1 <;> cases b <;> simp [AVal.tag] at h2 <;> rw [VRel] at ha <;> rw [VRel] at hb
    · rw [ha, hb]; rfl
    · obtain ⟨i, _, _, hb, _⟩ := hb; rw [ha, hb]; rfl
    · obtain ⟨i, _, _, ha, _⟩ := ha; rw [ha, hb]; rfl
  case interface ms =>
    rcases eqNil_some h with ⟨h1, h2, rfl⟩ | ⟨h1, h2, rfl⟩ | ⟨h1, h2, rfl⟩ <;> cases a <;> simp [AVal.tag] at h1 <;> cases b <;> simp [AVal.tag] at h2 <;> rw [VRel] at ha <;> rw [VRel] at hb
    · rw [ha, hb]; rfl
    · obtain ⟨i, hb, _⟩ := hb; rw [ha, hb]; rfl
    · obtain ⟨i, ha, _⟩ := ha; rw [ha, hb]; rfl

theorem fieldsOf_eq {t : Nat} {g : Array Field} (h : P.underlying t = some (.struct g)) : P.fieldsOf t = g := by unfold Program.fieldsOf; rw [h]
theorem aeqFs_ok (hT : TysOk P C) {D : Nat} {eq : Nat → AVal → AVal → Option Bool} (heq : ∀ t a b va vb r, VRel μ a va → VRel μ b vb → eq t a b = some r → (Op.equalIn D t va vb).run P w = .ok r w)
    {xs ys : List AVal} {vx vy : Array Value} (hx : LRel μ xs vx.toList) (hy : LRel μ ys vy.toList) : ∀ (g : List Field) (r : Bool), (∀ f ∈ g, f.name ≠ "_") → aeqFs C eq xs ys (g.map fun f => (f.offset, f.type, P.cellsOf f.type)) = some r →
      (Op.eqFields D vx vy g).run P w = .ok r w := by
  intro g
  induction g with
  | nil => intro r _ h; cases h; rfl
  | cons f g ih =>
    intro r hn h
    rw [List.map_cons, aeqFs] at h
    simp only [ob_some] at h
    obtain ⟨a, ha, b, hb, q, hq, h⟩ := h
    obtain ⟨va, h1, h2⟩ := partA_ok (P := P) (w := w) hT hx ha
    obtain ⟨vb, h3, h4⟩ := partA_ok (P := P) (w := w) hT hy hb
    have h5 := heq _ _ _ _ _ _ h2 h4 hq
    rw [Op.eqFields, if_pos (hn f (by simp))]
    simp only [Sem.run_bind, h1, Result.andThen_ok, h3, h5]
    cases q with
    | true => rw [cond_true] at h; simpa using ih r (fun f hf => hn f (by simp [hf])) h
    | false => rw [cond_false] at h; cases h; simp
theorem aeq_ok (hT : TysOk P C) : ∀ (d D t : Nat) (a b : AVal) (va vb : Value) (r : Bool), d ≤ D → VRel μ a va → VRel μ b vb → aeq C d t a b = some r → (Op.equalIn D t va vb).run P w = .ok r w := by
  intro d
  induction d with
  | zero => intro D t a b va vb r _ _ _ h; cases h
  | succ d ih =>
    intro D t a b va vb r hD ha hb h
    cases D with
    | zero => omega
    | succ D =>
      rw [aeq, ob_some] at h
      obtain ⟨ty, hty, h⟩ := h
      have hF := hT.facts hty
      split at h
      · rename_i fs hfs
        simp only [guardO_some, ob_some, asAgg_some] at h
        obtain ⟨hok, xs, rfl, ys, rfl, h⟩ := h
        obtain ⟨g, hg, rfl⟩ := desc_struct hF hfs
        obtain ⟨h1, _, h3⟩ := hF.eqOk hok
        rw [VRel] at ha
        rw [VRel] at hb
        obtain ⟨cx, rfl, hx⟩ := ha
        obtain ⟨cy, rfl, hy⟩ := hb
        have hfo := fieldsOf_eq hg
        rw [run_equalIn_struct w D t cx cy (by rw [hfo]; exact hg) h1, hfo]
        exact aeqFs_ok hT (fun t a b va vb r h1 h2 h3 => ih D t a b va vb r (by omega) h1 h2 h3) hx hy g.toList r (hfo ▸ h3) h
      · exact eqBase_ok hF ha hb h
theorem aeq_agg (hT : TysOk P C) {d t : Nat} {a b : AVal} {l m : Array Value} {r : Bool} (ha : VRel μ a (.agg l)) (hb : VRel μ b (.agg m)) (h : aeq C d t a b = some r) : P.eqGuardType P.depth t = false := by
  cases d with
  | zero => cases h
  | succ d =>
    rw [aeq, ob_some] at h
    obtain ⟨ty, hty, h⟩ := h
    split at h
    · rw [guardO_some] at h; exact ((hT.facts hty).eqOk h.1).2.1
    · exfalso
      have hag : ∀ (a : AVal) (l : Array Value), VRel μ a (.agg l) → a.tag = 13 := by
        intro a l ha
        cases a <;> rw [VRel] at ha <;> first | rfl | (exfalso; revert ha; simp)
      have h1 := hag _ _ ha
      have h2 := hag _ _ hb
      cases a <;> simp [AVal.tag] at h1
      cases b <;> simp [AVal.tag] at h2
      revert h
      cases ty.desc <;> simp [eqBase, eqBool, AVal.asBool, eqInt, AVal.asIntK, eqString, AVal.asStr, eqNil, eqNone, AVal.tag, guardO, Nat.beq]
theorem tag_nilIface {a : AVal} {v : Value} (h : VRel μ a v) : v = .nilIface → a.tag = 12 := by
  intro hv
  subst hv
  cases a <;> rw [VRel] at h <;> first | rfl | (exfalso; revert h; simp)
theorem binOther_ok (hT : TysOk P C) {op : BinOp} {t yt : TypeId} {x y : Operand} {a b : AVal} {neg : Bool} (hx : VRel μ a (ρ x)) (hy : VRel μ b (ρ y)) (ha : a.asIntK = none) (hs : a.asStr = none)
    (hop : (neg = false ∧ op = .eql) ∨ (neg = true ∧ op = .neq)) (h : binOther neg C t x y a b = some v) : LOk P μ w ρ ⟨dst, .binOp op t x y yt, type, pos, after, guard⟩ v := by
  unfold binOther at h
  simp only [guardO_some, ob_some] at h
  obtain ⟨hg, r, hr, h⟩ := h
  cases h
  have h1 : (Op.equal t (ρ x) (ρ y)).run P w = .ok r w := aeq_ok hT 20 10000 t a b _ _ r (by decide) hx hy hr
  have hG : (eqGuard op t x y (ρ x) (ρ y)).run P w = .ok () w := by
    by_cases hag : ∃ l m, ρ x = .agg l ∧ ρ y = .agg m
    · obtain ⟨l, m, h2, h3⟩ := hag
      rw [h2] at hx; rw [h3] at hy
      rw [h2, h3]; exact eqGuard_agg (aeq_agg hT hx hy hr)
    · refine eqGuard_ok ?_ fun l m hlm => hag ⟨l, m, hlm⟩
      by_cases hn : ρ x = .nilIface ∧ ρ y = .nilIface
      · right
        have h2 := tag_nilIface hx hn.1
        have h3 := tag_nilIface hy hn.2
        unfold eqlGuard at hg
        rw [h2, h3] at hg
        simpa [Nat.beq] using hg
      · exact .inl hn
  have hnx : ∀ k n, ρ x ≠ .int k n := by
    intro k n hv
    rw [hv] at hx
    cases a <;> rw [VRel] at hx <;> first | (simp [AVal.asIntK] at ha; done) | (revert hx; simp)
  have hsx : ∀ s, ρ x ≠ .string s := by
    intro s hv
    rw [hv] at hx
    cases a <;> rw [VRel] at hx <;> first | (simp [AVal.asStr] at hs; done) | (revert hx; simp)
  have hfx : ∀ k n, ρ x ≠ .float k n := by
    intro k n hv
    rw [hv] at hx
    cases a <;> rw [VRel] at hx <;> revert hx <;> simp
  have hcx : ∀ k n m, ρ x ≠ .complex k n m := by
    intro k n m hv
    rw [hv] at hx
    cases a <;> rw [VRel] at hx <;> revert hx <;> simp
  rcases hop with ⟨rfl, rfl⟩ | ⟨rfl, rfl⟩
  · refine ⟨.bool r, run_binOp hG ?_, by rw [VRel]; rfl⟩
    revert h1 hnx hsx hfx hcx
    generalize ρ x = vx
    generalize ρ y = vy
    intro h1 hnx hsx hfx hcx
    cases vx <;> first
      | exact absurd rfl (hnx _ _)
      | exact absurd rfl (hsx _)
      | exact absurd rfl (hfx _ _)
      | exact absurd rfl (hcx _ _ _)
      | simp [binOp, h1]
  · refine ⟨.bool (!r), run_binOp hG ?_, by rw [VRel]; rfl⟩
    revert h1 hnx hsx hfx hcx
    generalize ρ x = vx
    generalize ρ y = vy
    intro h1 hnx hsx hfx hcx
    cases vx <;> first
      | exact absurd rfl (hnx _ _)
      | exact absurd rfl (hsx _)
      | exact absurd rfl (hfx _ _)
      | exact absurd rfl (hcx _ _ _)
      | simp [binOp, h1]
theorem lBin_ok (hT : TysOk P C) (hE : ERel μ e ρ) {op : BinOp} {t yt : Nat} {x y : Operand} (h : lBin op t x y C e H = some v) : LOk P μ w ρ ⟨dst, .binOp op t x y yt, type, pos, after, guard⟩ v := by
  unfold lBin at h
  simp only [ob_some] at h
  obtain ⟨a, ha, b, hb, h⟩ := h
  have hx := hE _ _ ha
  have hy := hE _ _ hb
  clear ha hb
  revert h
  have plain : ∀ op, op ≠ .shl → op ≠ .shr → binPlain op C t x y a b = some v → LOk P μ w ρ ⟨dst, .binOp op t x y yt, type, pos, after, guard⟩ v := by
    intro op _ _ h
    unfold binPlain at h
    split at h
    · rename_i i hi
      simp only [ob_some, asIntK_some, guardO_some, kEq_eq] at h
      obtain ⟨j, rfl, hk, h⟩ := h
      rw [asIntK_some] at hi
      subst hi
      rw [VRel] at hx
      rw [VRel] at hy
      obtain ⟨_, _, h2⟩ := binInt_ok (P := P) (μ := μ) (w := w) h
      obtain ⟨v', h3, h4⟩ := h2 t
      refine ⟨v', run_binOp (eqGuard_ok (.inl (by rw [hx]; simp)) (by rw [hx]; simp)) ?_, h4⟩
      rw [hx, hy, ← hk]; exact h3
    · rename_i hi
      split at h
      · rename_i s hs
        simp only [ob_some, asStr_some] at h
        obtain ⟨u, rfl, h⟩ := h
        rw [asStr_some] at hs
        subst hs
        rw [VRel] at hx
        rw [VRel] at hy
        obtain ⟨sx, hx, rfl⟩ := hx
        obtain ⟨sy, hy, rfl⟩ := hy
        obtain ⟨_, _, h2⟩ := binStr_ok (P := P) (μ := μ) (w := w) h
        obtain ⟨v', h3, h4⟩ := h2 t
        refine ⟨v', run_binOp (eqGuard_ok (.inl (by rw [hx]; simp)) (by rw [hx]; simp)) ?_, h4⟩
        rw [hx, hy]; exact h3
      · rename_i hs
        cases op <;> simp only [binRest] at h <;> first
          | exact binOther_ok hT hx hy hi hs (.inl ⟨rfl, rfl⟩) h
          | exact binOther_ok hT hx hy hi hs (.inr ⟨rfl, rfl⟩) h
          | (cases h; done)
  intro h
  cases op <;> simp only [binA] at h <;> first
    | exact binShift_ok hx hy (.inl ⟨rfl, h⟩)
    | exact binShift_ok hx hy (.inr ⟨rfl, h⟩)
    | exact plain _ (by simp) (by simp) h
theorem lUn_ok (hE : ERel μ e ρ) {op : UnOp} {t : Nat} {x : Operand} (h : lUn op x C e H = some v) : LOk P μ w ρ ⟨dst, .unOp op t x, type, pos, after, guard⟩ v := by
  unfold lUn at h
  simp only [ob_some] at h
  obtain ⟨a, ha, h⟩ := h
  have hx := hE _ _ ha
  cases op <;> simp only [unA] at h <;> try (cases h; done)
  case neg =>
    simp only [unNeg, ob_some, asIntK_some] at h
    obtain ⟨p, rfl, h⟩ := h
    cases h
    rw [VRel] at hx
    refine ⟨.int p.1 (p.1.wrap (0 - p.2)), ?_, by rw [VRel, wrapF_eq]⟩
    simp [execOp, hx, Op.unary, Op.intArith]
  case not =>
    simp only [unNot, ob_some, asBool_some] at h
    obtain ⟨b, rfl, h⟩ := h
    cases h
    rw [VRel] at hx
    refine ⟨.bool (!b), ?_, by rw [VRel]⟩
    simp [execOp, hx, Op.unary]
end
end Go.Am
