/- The operations that change no memory: what the abstract machine computes, the model computes. -/
import Derived.Test.YtjiklgloidlihaaGreatDoorAmRel
namespace Go.Am
open Go

def ERel (μ : Mu) (e : Env) (ρ : Operand → Value) : Prop := ∀ x v, ev x e = some v → VRel μ v (ρ x)
theorem ERel.many {μ : Mu} {e : Env} {ρ : Operand → Value} (h : ERel μ e ρ) : ∀ {l : List Operand} {r : List AVal}, evs l e = some r → LRel μ r (l.map ρ) := by
  intro l
  induction l with
  | nil => intro r k; unfold evs at k; rw [lmapM_nil] at k; cases k; exact .nil
  | cons x l ih =>
    intro r k
    unfold evs at k
    rw [lmapM_cons, ob_some] at k
    obtain ⟨a, ha, k⟩ := k
    rw [ob_some] at k
    obtain ⟨b, hb, k⟩ := k
    cases k
    exact .cons (h _ _ ha) (ih hb)
theorem ERel.parts {μ : Mu} {e : Env} {ρ : Operand → Value} (h : ERel μ e ρ) : ∀ {l : List (Nat × Operand)} {r : List (Nat × AVal)}, evp l e = some r →
    All2 (fun p q => p.1 = q.1 ∧ VRel μ p.2 q.2) r (l.map fun x => (x.1, ρ x.2)) := by
  intro l
  induction l with
  | nil => intro r k; unfold evp at k; rw [lmapM_nil] at k; cases k; exact .nil
  | cons x l ih =>
    intro r k
    unfold evp at k
    rw [lmapM_cons, ob_some] at k
    obtain ⟨a, ha, k⟩ := k
    rw [ob_some] at ha
    obtain ⟨a', ha, ha'⟩ := ha
    cases ha'
    rw [ob_some] at k
    obtain ⟨b, hb, k⟩ := k
    cases k
    exact .cons ⟨rfl, h _ _ ha⟩ (ih hb)
def OptRel (μ : Mu) : Option AVal → Option Value → Prop
  | none, none => True
  | some a, some v => VRel μ a v
  | _, _ => False
theorem ERel.opt {μ : Mu} {e : Env} {ρ : Operand → Value} (h : ERel μ e ρ) {x : Option Operand} {r : Option AVal} (k : evo x e = some r) : OptRel μ r (x.map ρ) := by
  cases x with
  | none => cases k; trivial
  | some x => unfold evo at k; simp only [] at k; rw [ob_some] at k; obtain ⟨a, ha, k⟩ := k; cases k; exact h _ _ ha

theorem add_eq (b off n : Nat) : Addr.add ⟨b, off, none⟩ n = ⟨b, off + n, none⟩ := by
  unfold Addr.add; split
  · rename_i h; subst h; rfl
  · rfl

section
variable {P : Program} {C : Ctx} {N : Nat} {μ : Mu} {H : AHeap} {w : World}

theorem blkCells_some {b : Nat} {p : Tr AVal × Nat × Option Nat} (h : blkCells H b = some p) : H.t.get b = some (.cells p.1 p.2.1 p.2.2) := by
  unfold blkCells at h
  rw [ob_some] at h
  obtain ⟨x, hx, h⟩ := h
  cases x <;> simp [ABlk.asCells] at h
  subst h; exact hx
theorem HRel.cellAt (hH : HRel N μ H w) {b : Nat} {p : Tr AVal × Nat × Option Nat} (h : blkCells H b = some p) {i : BI} (hi : μ b = some i) {j : Nat} {v : AVal} (hv : p.1.get j = some v) :
    ∃ v', w.cell? ⟨i.b, j, none⟩ = some v' ∧ VRel μ v v' := by
  obtain ⟨i', o, h1, h2, h3⟩ := hH.blk _ _ (blkCells_some h)
  rw [hi] at h1; cases h1
  obtain ⟨cs, elem, fr, rfl, _, _, h4, _⟩ := h3
  obtain ⟨_, v', h6, h7⟩ := h4 j v hv
  exact ⟨v', by simp [World.cell?, h2, h6], h7⟩
theorem HRel.manyAt (hH : HRel N μ H w) {b : Nat} {p : Tr AVal × Nat × Option Nat} (h : blkCells H b = some p) {i : BI} (hi : μ b = some i) {n off : Nat} {l : List AVal} (hl : p.1.many n off = some l) :
    ∃ vs : List Value, vs.length = n ∧ LRel μ l vs ∧ (loadCells ⟨i.b, off, none⟩ n).run P w = .ok vs.toArray w ∧ ∀ j, j < n → w.cell? ⟨i.b, off + j, none⟩ = vs[j]? := by
  obtain ⟨h1, h2⟩ := Tr.many_some _ _ _ _ hl
  have key : ∀ j, j < n → ∃ v', w.cell? ⟨i.b, off + j, none⟩ = some v' ∧ ∃ a, l[j]? = some a ∧ VRel μ a v' := by
    intro j hj
    have h3 := h2 j hj
    cases hlj : l[j]? with
    | none => rw [List.getElem?_eq_none_iff] at hlj; omega
    | some a =>
      rw [hlj] at h3
      obtain ⟨v', h4, h5⟩ := hH.cellAt h hi h3
      exact ⟨v', h4, a, rfl, h5⟩
  let f : Nat → Value := fun j => (w.cell? ⟨i.b, off + j, none⟩).getD undef
  have hf : ∀ j, j < n → w.cell? ⟨i.b, off + j, none⟩ = some (f j) := by
    intro j hj
    obtain ⟨v', h3, _⟩ := key j hj
    simp [f, h3]
  refine ⟨(List.range n).map f, by simp, ?_, ?_, ?_⟩
  · refine LRel.mk (by simp [h1]) fun j a v ha hv => ?_
    have hj : j < n := by rw [← h1]; exact (List.getElem?_eq_some_iff.1 ha).1
    obtain ⟨v', h3, a', h4, h5⟩ := key j hj
    rw [ha] at h4; cases h4
    rw [List.getElem?_map, List.getElem?_range hj] at hv
    have h6 := hf j hj
    rw [h3] at h6; cases h6
    simp at hv; rw [← hv]; exact h5
  · exact run_loadCells w _ n f fun j hj => by rw [add_eq]; exact hf j hj
  · intro j hj; rw [hf j hj, List.getElem?_map, List.getElem?_range hj]; rfl
theorem loadA_ok (hH : HRel N μ H w) {t : Nat} {ty : ATy} (hty : TyFacts P t ty) {b : Nat} {p : Tr AVal × Nat × Option Nat} (h : blkCells H b = some p) {i : BI} (hi : μ b = some i) {off : Nat} {v : AVal}
    (hv : loadA ty p.1 off = some v) : ∃ v', (loadVar t ⟨i.b, off, none⟩).run P w = .ok v' w ∧ VRel μ v v' := by
  unfold loadA at hv
  unfold loadVar
  rw [Sem.run_bind, hty.isAgg, Result.andThen_ok]
  cases ha : ty.desc.isAgg with
  | true =>
    rw [ha, cond_true, ob_some] at hv
    obtain ⟨l, hl, hv⟩ := hv
    cases hv
    obtain ⟨vs, _, h2, h3, _⟩ := hH.manyAt (P := P) h hi hl
    refine ⟨.agg vs.toArray, ?_, by rw [VRel]; exact ⟨_, rfl, h2⟩⟩
    rw [if_pos rfl, Sem.run_bind, hty.size, Result.andThen_ok, Sem.run_bind, h3]; rfl
  | false =>
    rw [ha, cond_false] at hv
    obtain ⟨v', h1, h2⟩ := hH.cellAt h hi hv
    refine ⟨v', ?_, h2⟩
    rw [if_neg (by simp), run_load, h1]
theorem partA_ok (hT : TysOk P C) {t : Nat} {l : List AVal} {cs : Array Value} (hl : LRel μ l cs.toList) {off : Nat} {v : AVal} (hv : partA C t l off = some v) :
    ∃ v', (part t cs off).run P w = .ok v' w ∧ VRel μ v v' := by
  unfold partA at hv
  rw [ob_some] at hv
  obtain ⟨ty, hty, hv⟩ := hv
  have hF := hT.facts hty
  unfold part
  rw [Sem.run_bind, hF.isAgg, Result.andThen_ok]
  cases ha : ty.desc.isAgg with
  | true =>
    rw [ha, cond_true] at hv
    cases hv
    refine ⟨.agg (cs.extract off (off + ty.size)), ?_, ?_⟩
    · rw [if_pos rfl, Sem.run_bind, hF.size]; rfl
    · rw [VRel]; refine ⟨_, rfl, ?_⟩
      rw [ltake_eq, ldrop_eq, Array.toList_extract, List.extract_eq_take_drop, Nat.add_sub_cancel_left]
      exact (hl.drop _).take _
  | false =>
    rw [ha, cond_false, lget_eq] at hv
    obtain ⟨v', h1, h2⟩ := hl.get hv
    refine ⟨v', ?_, h2⟩
    rw [if_neg (by simp)]
    have : cs[off]? = some v' := by simpa using h1
    rw [this]; rfl

/-- what is to be shown of each -/
def LOk (P : Program) (μ : Mu) (w : World) (ρ : Operand → Value) (o : Oper) (v : AVal) : Prop := ∃ v', (execOp ρ o).run P w = .ok (.value v') w ∧ VRel μ v v'

variable {e : Env} {ρ : Operand → Value} {dst : Option Tmp} {type : TypeId} {pos : String} {after : Array Edge} {guard : Option (Nat × Bool)} {v : AVal}

theorem lMove_ok (hE : ERel μ e ρ) {x : Operand} (h : lMove x C e H = some v) : LOk P μ w ρ ⟨dst, .move x, type, pos, after, guard⟩ v := ⟨ρ x, rfl, hE x v h⟩
theorem lAssign_ok (hE : ERel μ e ρ) {x : Operand} (h : lMove x C e H = some v) : LOk P μ w ρ ⟨dst, .assign x, type, pos, after, guard⟩ v := ⟨ρ x, rfl, hE x v h⟩
theorem lPick_ok (hE : ERel μ e ρ) {c a b : Operand} (h : lPick c a b C e H = some v) : LOk P μ w ρ ⟨dst, .pick c a b, type, pos, after, guard⟩ v := by
  unfold lPick at h
  rw [ob_some] at h
  obtain ⟨cv, hc, h⟩ := h
  rw [ob_some] at h
  obtain ⟨cb, hb, h⟩ := h
  have h1 := hE _ _ hc
  rw [asBool_some.1 hb, VRel] at h1
  unfold LOk execOp
  simp only [h1, asBool]
  cases cb with
  | true => exact ⟨ρ a, rfl, hE _ _ h⟩
  | false => exact ⟨ρ b, rfl, hE _ _ h⟩
theorem lLoad_ok (hT : TysOk P C) (hH : HRel N μ H w) (hE : ERel μ e ρ) {t : Nat} {a : Operand} (h : lLoad t a C e H = some v) : LOk P μ w ρ ⟨dst, .load t a, type, pos, after, guard⟩ v := by
  unfold lLoad at h
  simp only [ob_some, asPtr_some] at h
  obtain ⟨av, ha, p, rfl, ty, hty, c, hc, h⟩ := h
  have h1 := hE _ _ ha
  rw [VRel] at h1
  obtain ⟨i, hi, hv⟩ := h1
  obtain ⟨v', h2, h3⟩ := loadA_ok (P := P) hH (hT.facts hty) hc hi h
  refine ⟨v', ?_, h3⟩
  simp only [execOp, Instr.loadAt, hv, Instr.sureAddr, Sem.run_bind, Sem.run_pure, Result.andThen_ok, h2]
theorem lNil_ok (hE : ERel μ e ρ) {x : Operand} (h : lNil x C e H = some v) : LOk P μ w ρ ⟨dst, .nilCheck x, type, pos, after, guard⟩ v := by
  unfold lNil at h
  rw [ob_some] at h
  obtain ⟨a, ha, h⟩ := h
  rw [guardO_some] at h
  obtain ⟨hb, h⟩ := h
  cases h
  have h1 := hE _ _ ha
  refine ⟨ρ x, ?_, h1⟩
  cases v <;> simp [AVal.tag, Nat.beq] at hb
  · rw [VRel] at h1
    obtain ⟨i, _, hv⟩ := h1
    simp only [execOp, hv]; rfl
  · rename_i fn a b
    rw [VRel] at h1
    obtain ⟨fn', a', c', hv, hf, _⟩ := h1
    cases fn with
    | func f => cases hf; simp only [execOp, hv]; rfl
    | yld l => obtain ⟨i, _, rfl⟩ := hf; simp only [execOp, hv]; rfl
theorem lFunc_ok (hE : ERel μ e ρ) {fn : Fn} {a b : Array Operand} (h : (lFuncOf fn a b).f C e H = some v) : LOk P μ w ρ ⟨dst, .makeFunc fn a b, type, pos, after, guard⟩ v := by
  unfold lFuncOf at h
  split at h
  · rename_i f
    simp only [lFunc, ob_some] at h
    obtain ⟨as, ha, bs, hb, h⟩ := h
    cases h
    refine ⟨.func (.func f) (a.map ρ) (b.map ρ), rfl, ?_⟩
    rw [VRel]
    exact ⟨_, _, _, rfl, rfl, by simpa using hE.many ha, by simpa using hE.many hb⟩
  · cases h
theorem lIface_ok (hT : TysOk P C) (hE : ERel μ e ρ) {t : Nat} {x : Operand} (h : lIface t x C e H = some v) : LOk P μ w ρ ⟨dst, .makeInterface t x, type, pos, after, guard⟩ v := by
  unfold lIface at h
  simp only [ob_some, guardO_some] at h
  obtain ⟨ty, hty, hb, a, ha, h⟩ := h
  cases h
  obtain ⟨d, hd, hn⟩ := desc_notIface (hT.facts hty) hb
  refine ⟨.iface t (ρ x), ?_, by rw [VRel]; exact ⟨_, rfl, hE _ _ ha⟩⟩
  simp only [execOp, Instr.makeInterface, Sem.run_bind, run_und hd, Result.andThen_ok]
  cases d <;> first | rfl | exact absurd rfl (hn _)
theorem lExtract_ok (hE : ERel μ e ρ) {t : Operand} {i : Nat} (h : lExtract t i C e H = some v) : LOk P μ w ρ ⟨dst, .extract t i, type, pos, after, guard⟩ v := by
  unfold lExtract at h
  simp only [ob_some, asTup_some, lget_eq] at h
  obtain ⟨a, ha, l, rfl, h⟩ := h
  have h1 := hE _ _ ha
  rw [VRel] at h1
  obtain ⟨cs, hv, hl⟩ := h1
  obtain ⟨v', h2, h3⟩ := hl.get h
  refine ⟨v', ?_, h3⟩
  have h4 : cs[i]? = some v' := by simpa using h2
  simp only [execOp, hv, Instr.extract, h4]; rfl
theorem lField_ok (hT : TysOk P C) (hE : ERel μ e ρ) {t : Nat} {x : Operand} {f : Nat} (h : lField t x f C e H = some v) : LOk P μ w ρ ⟨dst, .field t x f, type, pos, after, guard⟩ v := by
  unfold lField at h
  simp only [ob_some, asAgg_some, lget_eq] at h
  obtain ⟨ty, hty, fs, hfs, fd, hfd, a, ha, l, rfl, h⟩ := h
  obtain ⟨g, hg, rfl⟩ := desc_struct (hT.facts hty) hfs
  have h1 := hE _ _ ha
  rw [VRel] at h1
  obtain ⟨cs, hv, hl⟩ := h1
  rw [List.getElem?_map] at hfd
  cases hgf : g.toList[f]? with
  | none => rw [hgf] at hfd; cases hfd
  | some fld =>
    rw [hgf] at hfd
    simp at hfd
    subst hfd
    obtain ⟨v', h2, h3⟩ := partA_ok (w := w) hT hl h
    refine ⟨v', ?_, h3⟩
    have h4 : g[f]? = some fld := by simpa using hgf
    simp only [execOp, hv, Instr.field, Sem.run_bind, run_und hg, Result.andThen_ok, h4, asAgg, Sem.run_pure, h2]
theorem lFieldAddr_ok (hT : TysOk P C) (hE : ERel μ e ρ) {s : Nat} {x : Operand} {f : Nat} (h : lFieldAddr s x f C e H = some v) : LOk P μ w ρ ⟨dst, .fieldAddr s x f, type, pos, after, guard⟩ v := by
  unfold lFieldAddr at h
  simp only [ob_some, asPtr_some, lget_eq, guardO_some] at h
  obtain ⟨ty, hty, fs, hfs, fd, hfd, hz, a, ha, p, rfl, h⟩ := h
  cases h
  obtain ⟨g, hg, rfl⟩ := desc_struct (hT.facts hty) hfs
  have h1 := hE _ _ ha
  rw [VRel] at h1
  obtain ⟨i, hi, hv⟩ := h1
  rw [List.getElem?_map] at hfd
  cases hgf : g.toList[f]? with
  | none => rw [hgf] at hfd; cases hfd
  | some fld =>
    rw [hgf] at hfd
    simp at hfd
    subst hfd
    refine ⟨.pointer (some ⟨i.b, p.2 + fld.offset, none⟩), ?_, by rw [VRel]; exact ⟨i, hi, rfl⟩⟩
    have h4 : g[f]? = some fld := by simpa using hgf
    have h5 : P.cellsOf fld.type ≠ 0 := by
      have h6 : Nat.beq (P.cellsOf fld.type) 0 = false := by simpa using hz
      exact beqf.1 h6
    have h6 : (sizeOf fld.type).run P w = .ok (P.cellsOf fld.type) w := by
      unfold Program.cellsOf at h5 ⊢
      cases hinf : P.info? fld.type with
      | none => rw [hinf] at h5; exact absurd rfl h5
      | some inf => simp [sizeOf, run_info hinf]
    simp only [execOp, hv, Instr.fieldAt, Sem.run_bind, run_und hg, Result.andThen_ok, h4, Instr.sureAddr, Sem.run_pure, fieldPlace, h6, Sem.run_ite, if_neg h5, add_eq]
end
end Go.Am
