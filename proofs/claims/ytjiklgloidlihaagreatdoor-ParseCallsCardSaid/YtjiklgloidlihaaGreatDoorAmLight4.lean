/- Indexes, builds, assertions, maps, lengths; all the light operations together. -/
import Derived.Test.YtjiklgloidlihaaGreatDoorAmLight3
namespace Go.Am
open Go
section
variable {P : Program} {C : Ctx} {N : Nat} {μ : Mu} {H : AHeap} {w : World}
variable {e : Env} {ρ : Operand → Value} {dst : Option Tmp} {type : TypeId} {pos : String} {after : Array Edge} {guard : Option (Nat × Bool)} {v : AVal}

theorem lIndexAddr_ok (hT : TysOk P C) (hE : ERel μ e ρ) {t : Nat} {x i : Operand} (h : lIndexAddr t x i C e H = some v) : LOk P μ w ρ ⟨dst, .indexAddr t x i, type, pos, after, guard⟩ v := by
  unfold lIndexAddr at h
  simp only [ob_some, asNat_some] at h
  obtain ⟨ty, hty, a, ha, iv, hi, n, ⟨k, rfl⟩, h⟩ := h
  have hF := hT.facts hty
  have hx := hE _ _ ha
  have hiv := hE _ _ hi
  rw [VRel] at hiv
  split at h
  · rename_i s hs
    rw [asSlice_some] at hs
    subst hs
    simp only [ob_some, guardO_some, blts] at h
    obtain ⟨el, hel, et, het, hlt, h⟩ := h
    cases h
    rw [VRel] at hx
    obtain ⟨j, cap', hj, hxv, _⟩ := hx
    refine ⟨.pointer (some ⟨j.b, s.2.1 + n * et.size, none⟩), ?_, by rw [VRel]; exact ⟨j, hj, rfl⟩⟩
    have h1 : (0 : Int) ≤ (n : Int) ∧ (n : Int) < (s.2.2.1 : Int) := ⟨by omega, by omega⟩
    simp only [execOp, Instr.indexAt, hiv, hxv, asIntOf, Sem.run_bind, Sem.run_pure, Result.andThen_ok, run_und (desc_slice hF hel), (hT.facts het).size, Sem.run_ite, if_pos h1, Int.toNat_natCast, add_eq]
  · simp only [ob_some, asPtr_some, guardO_some, blts] at h
    obtain ⟨p, rfl, ar, har, et, het, hlt, h⟩ := h
    cases h
    rw [VRel] at hx
    obtain ⟨j, hj, hxv⟩ := hx
    refine ⟨.pointer (some ⟨j.b, p.2 + n * et.size, none⟩), ?_, by rw [VRel]; exact ⟨j, hj, rfl⟩⟩
    have h1 : (0 : Int) ≤ (n : Int) ∧ (n : Int) < (ar.1 : Int) := ⟨by omega, by omega⟩
    simp only [execOp, Instr.indexAt, hiv, hxv, asIntOf, Sem.run_bind, Sem.run_pure, Result.andThen_ok, run_und (desc_arr hF har), Instr.sureAddr, (hT.facts het).size, Sem.run_ite, if_pos h1, Int.toNat_natCast, add_eq]
theorem lIndex_ok (hT : TysOk P C) (hE : ERel μ e ρ) {t : Nat} {x i : Operand} (h : lIndex t x i C e H = some v) : LOk P μ w ρ ⟨dst, .index t x i, type, pos, after, guard⟩ v := by
  unfold lIndex at h
  simp only [ob_some, asNat_some] at h
  obtain ⟨ty, hty, a, ha, iv, hi, n, ⟨k, rfl⟩, h⟩ := h
  have hF := hT.facts hty
  have hx := hE _ _ ha
  have hiv := hE _ _ hi
  rw [VRel] at hiv
  split at h
  · rename_i s hs
    rw [asStr_some] at hs
    subst hs
    simp only [guardO_some, ob_some, lget_eq] at h
    obtain ⟨hstr, b, hb, h⟩ := h
    cases h
    rw [VRel] at hx
    obtain ⟨str, hxv, rfl⟩ := hx
    rw [bytesN_get, Option.map_eq_some_iff] at hb
    obtain ⟨u, hu, rfl⟩ := hb
    refine ⟨.int .u8 u.toNat, ?_, by rw [VRel]; rfl⟩
    simp only [execOp, Instr.index, hiv, hxv, asIntOf, Sem.run_bind, Sem.run_pure, Result.andThen_ok, run_und (desc_string hF hstr), Int.natCast_nonneg, if_true, Int.toNat_natCast, hu]
  · simp only [ob_some, asAgg_some, guardO_some, blts] at h
    obtain ⟨l, rfl, ar, har, et, het, hlt, h⟩ := h
    rw [VRel] at hx
    obtain ⟨cs, hxv, hl⟩ := hx
    obtain ⟨v', h2, h3⟩ := partA_ok (P := P) (w := w) hT hl h
    refine ⟨v', ?_, h3⟩
    have h1 : (0 : Int) ≤ (n : Int) ∧ (n : Int) < (ar.1 : Int) := ⟨by omega, by omega⟩
    simp only [execOp, Instr.index, hiv, hxv, asIntOf, Sem.run_bind, Sem.run_pure, Result.andThen_ok, run_und (desc_arr hF har), (hT.facts het).size, Sem.run_ite, if_pos h1, Int.toNat_natCast, h2]

/- builds -/
theorem setMany_toList (l : List Value) : ∀ (off k : Nat) (cs : Array Value), off + k + l.length ≤ cs.size →
    ((l.zipIdx k).foldl (fun cs (c, j) => cs.setIfInBounds (off + j) c) cs).toList = cs.toList.take (off + k) ++ l ++ cs.toList.drop (off + k + l.length) := by
  induction l with
  | nil => intro off k cs _; simp
  | cons a l ih =>
    intro off k cs h
    rw [List.zipIdx_cons, List.foldl_cons, ih off (k + 1) _ (by simp at h ⊢; omega)]
    have hk : off + k < cs.toList.length := by simp at h ⊢; omega
    simp only [Array.toList_setIfInBounds]
    rw [List.take_set, List.drop_set_of_lt (by omega)]
    rw [show off + (k + 1) = off + k + 1 by omega, List.take_succ_eq_append_getElem hk, List.set_append_right _ _ (by simp; omega)]
    simp only [List.append_assoc, List.length_take, Array.length_toList, List.length_cons]
    rw [Nat.min_eq_left (by simpa using Nat.le_of_lt hk), Nat.sub_self]
    rw [show off + k + (l.length + 1) = off + k + 1 + l.length by omega]
    rfl
theorem fillA_ok {place : Nat → Option (Nat × Nat)} {ps : List (Nat × AVal)} {qs : List (Nat × Value)} (hp : All2 (fun p q => p.1 = q.1 ∧ VRel μ p.2 q.2) ps qs) :
    ∀ {cells r : List AVal} {cs : Array Value}, LRel μ cells cs.toList → fillA place ps cells = some r → ∃ out, Instr.fill place cs qs = some out ∧ LRel μ r out.toList := by
  induction hp with
  | nil => intro cells r cs hc h; rw [fillA] at h; cases h; exact ⟨cs, rfl, hc⟩
  | @cons p q ps qs hpq _ ih =>
    intro cells r cs hc h
    rw [fillA] at h
    simp only [ob_some] at h
    obtain ⟨pl, hpl, mid, hmid, h⟩ := h
    unfold fillOne at hmid
    simp only [guardO_some, Bool.and_eq_true, beqs, bles, llen_eq, lapp_eq, ltake_eq, ldrop_eq] at hmid
    obtain ⟨⟨h1, h2⟩, hmid⟩ := hmid
    cases hmid
    obtain ⟨i, vq⟩ := q
    obtain ⟨rfl, hv⟩ := hpq
    have hvc := cells_rel hv
    have hlen := hvc.length
    have hcl := hc.length
    simp only [Array.length_toList] at hlen hcl
    rw [Instr.fill, hpl]
    simp only []
    have h3 : ¬ (vq.cells.size ≠ pl.2 || decide (pl.1 + vq.cells.size > cs.size)) = true := by
      simp; exact ⟨by omega, by omega⟩
    have h4 : ¬ ((decide (vq.cells.size ≠ pl.2) || decide (pl.1 + vq.cells.size > cs.size)) = true) := by simpa using h3
    obtain ⟨off, sz⟩ := pl
    rw [if_neg h4]
    refine ih ?_ h
    have h5 := setMany_toList vq.cells.toList off 0 cs (by simp; omega)
    rw [← Array.foldl_toList, Array.toList_zipIdx, h5]
    simp only [Nat.add_zero, Array.length_toList]
    have := ((hc.take off).append hvc).append (hc.drop (off + p.2.cells.length))
    rw [List.append_assoc] at this
    rw [hlen]
    simpa using this

theorem run_places {g : Array Field} (h : ∀ f ∈ g.toList, ∃ i, P.info? f.type = some i) : (g.mapM fun f => (do pure (f.offset, ← sizeOf f.type) : Sem (Nat × Nat))).run P w = .ok (g.map fun f => (f.offset, P.cellsOf f.type)) w := by
  obtain ⟨l⟩ := g
  rw [List.mapM_toArray]
  simp only [Sem.run_map, List.map_toArray]
  have key : ∀ l : List Field, (∀ f ∈ l, ∃ i, P.info? f.type = some i) → (l.mapM fun f => (do pure (f.offset, ← sizeOf f.type) : Sem (Nat × Nat))).run P w = .ok (l.map fun f => (f.offset, P.cellsOf f.type)) w := by
    intro l
    induction l with
    | nil => intro _; rfl
    | cons f l ih =>
      intro h
      obtain ⟨i, hi⟩ := h f (by simp)
      have h1 : (sizeOf f.type).run P w = .ok (P.cellsOf f.type) w := by simp [sizeOf, run_info hi, Program.cellsOf, hi]
      rw [List.mapM_cons]
      simp only [Sem.run_bind, h1, Result.andThen_ok, Sem.run_pure, ih fun f hf => h f (by simp [hf])]
      rfl
  rw [key l (by simpa using h)]
  rfl
theorem lBuild_ok (hT : TysOk P C) (hE : ERel μ e ρ) {t : Nat} {parts : Array (Nat × Operand)} (h : lBuild t parts C e H = some v) : LOk P μ w ρ ⟨dst, .build t parts, type, pos, after, guard⟩ v := by
  unfold lBuild at h
  simp only [ob_some] at h
  obtain ⟨ty, hty, ps, hps, h⟩ := h
  have hF := hT.facts hty
  have hq := hE.parts hps
  obtain ⟨z, hz, _, hzl⟩ := hF.zero (μ := μ)
  split at h
  · rename_i fs hfs
    simp only [ob_some, lget_eq] at h
    obtain ⟨l, hl, h⟩ := h
    cases h
    obtain ⟨g, hg, rfl⟩ := desc_struct hF hfs
    have hpl : (fun i : Nat => ob ((g.toList.map fun f => (f.offset, f.type, P.cellsOf f.type))[i]?) fun (x : Nat × Nat × Nat) => some (x.1, x.2.2)) = fun i => (g.map fun f => (f.offset, P.cellsOf f.type))[i]? := by
      funext i
      rw [List.getElem?_map]
      simp only [Array.getElem?_map]
      have : g.toList[i]? = g[i]? := by simp
      rw [this]
      cases g[i]? <;> rfl
    rw [hpl] at hl
    obtain ⟨out, ho, hr⟩ := fillA_ok hq hzl hl
    refine ⟨.agg out, ?_, by rw [VRel]; exact ⟨_, rfl, hr⟩⟩
    have hpr := run_places (P := P) (w := w) (g := g) (by have := hF.fields; rwa [fieldsOf_eq hg] at this)
    simp only [execOp, Instr.build, Sem.run_bind, hz, Result.andThen_ok, run_und hg, hpr, Array.toList_map, ho, Sem.run_pure]
  · simp only [ob_some] at h
    obtain ⟨ar, har, et, het, l, hl, h⟩ := h
    cases h
    obtain ⟨out, ho, hr⟩ := fillA_ok hq hzl hl
    refine ⟨.agg out, ?_, by rw [VRel]; exact ⟨_, rfl, hr⟩⟩
    simp only [execOp, Instr.build, Sem.run_bind, hz, Result.andThen_ok, run_und (desc_arr hF har), (hT.facts het).size, Array.toList_map, ho, Sem.run_pure]
theorem lAssert_ok (hT : TysOk P C) (hE : ERel μ e ρ) {x : Operand} {xt asserted : Nat} {ok : Bool} (h : lAssert x asserted ok C e H = some v) : LOk P μ w ρ ⟨dst, .typeAssert x xt asserted ok, type, pos, after, guard⟩ v := by
  unfold lAssert at h
  simp only [ob_some, guardO_some] at h
  obtain ⟨ty, hty, hb, a, ha, h⟩ := h
  have hF := hT.facts hty
  have hx := hE _ _ ha
  obtain ⟨d, hd, hn⟩ := desc_notIface hF hb
  obtain ⟨z, hz, hzr, _⟩ := hF.zero (μ := μ)
  split at h
  · rename_i p hp
    rw [asIface_some] at hp
    subst hp
    rw [VRel] at hx
    obtain ⟨x', hxv, hr⟩ := hx
    rw [cond_if] at h
    split at h
    · rename_i heq
      rw [beqs] at heq
      cases h
      refine ⟨if ok then .tuple #[x', .bool true] else x', ?_, ?_⟩
      · simp only [execOp, Instr.typeAssert, hxv, Sem.run_bind, run_und hd, Result.andThen_ok]
        cases d <;> first | exact absurd rfl (hn _) | simp [heq]
      · cases ok
        · exact hr
        · rw [cond_true, if_pos rfl, VRel]; exact ⟨_, rfl, .cons hr (.single (by rw [VRel]))⟩
    · rename_i hne
      rw [beqs] at hne
      rw [guardO_some] at h
      obtain ⟨rfl, h⟩ := h
      cases h
      refine ⟨.tuple #[z, .bool false], ?_, by rw [VRel]; exact ⟨_, rfl, .cons hzr (.single (by rw [VRel]))⟩⟩
      simp only [execOp, Instr.typeAssert, hxv, Sem.run_bind, run_und hd, Result.andThen_ok]
      cases d <;> first | exact absurd rfl (hn _) | simp [hne, hz]
  · simp only [guardO_some, Bool.and_eq_true, beqs] at h
    obtain ⟨⟨htag, rfl⟩, h⟩ := h
    cases h
    rw [tag_eq.2.2.2.2] at htag
    subst htag
    rw [VRel] at hx
    refine ⟨.tuple #[z, .bool false], ?_, by rw [VRel]; exact ⟨_, rfl, .cons hzr (.single (by rw [VRel]))⟩⟩
    simp only [execOp, Instr.typeAssert, hx, Sem.run_bind, run_und hd, Result.andThen_ok]
    cases d <;> first | exact absurd rfl (hn _) | simp [hz]

/- maps -/
theorem isKeyDesc_ok {t : Nat} {ty : ATy} (hF : TyFacts P t ty) (h : isKeyDesc ty.desc = true) : P.underlying t = some .bool ∨ P.underlying t = some .string ∨ ∃ k, P.underlying t = some (.int k) := by
  obtain ⟨D, hD⟩ := hF.und
  have h0 := hF.desc
  unfold descOf at h0
  rw [hD] at h0
  rw [← h0] at h
  have h1 := bles.1 h
  cases D <;> simp [ADesc.tag] at h1
  · exact .inl hD
  · exact .inr (.inr ⟨_, hD⟩)
  · exact .inr (.inl hD)
theorem keyEq_some {a b : AVal} {r : Bool} (h : keyEq a b = some r) :
    (∃ k x y, a = .int k x ∧ b = .int k y ∧ r = (x == y)) ∨ (∃ x y, a = .str x ∧ b = .str y ∧ r = eqStr x y) ∨ (∃ x y, a = .bool x ∧ b = .bool y ∧ r = (x == y)) := by
  unfold keyEq at h
  split at h
  · rename_i x hx
    simp only [ob_some, asIntK_some, guardO_some, kEq_eq] at h
    obtain ⟨y, rfl, hk, h⟩ := h
    cases h
    rw [asIntK_some] at hx
    exact .inl ⟨x.1, x.2, y.2, hx, by rw [hk], iEq_eq _ _⟩
  · split at h
    · rename_i x hx
      simp only [ob_some, asStr_some] at h
      obtain ⟨y, rfl, h⟩ := h
      cases h
      rw [asStr_some] at hx
      exact .inr (.inl ⟨x, y, hx, rfl, rfl⟩)
    · simp only [eqBool, ob_some, asBool_some] at h
      obtain ⟨x, rfl, y, rfl, h⟩ := h
      cases h
      exact .inr (.inr ⟨x, y, rfl, rfl, bEq_eq _ _⟩)
/-- the key's type fits the key -/
def KeyFits (D : TypeDesc) (a : AVal) : Prop := (∃ k, D = .int k ∧ a.tag = 1) ∨ (D = .string ∧ a.tag = 2) ∨ (D = .bool ∧ a.tag = 0)
theorem sameNow_ok {D : TypeDesc} {a b : AVal} {va vb : Value} (hD : KeyFits D a) (ha : VRel μ a va) (hb : VRel μ b vb) {r : Bool} (h : keyEq a b = some r) : Instr.sameNow D va vb = some r := by
  rcases keyEq_some h with ⟨k, x, y, rfl, rfl, rfl⟩ | ⟨x, y, rfl, rfl, rfl⟩ | ⟨x, y, rfl, rfl, rfl⟩ <;> rw [VRel] at ha <;> rw [VRel] at hb <;>
    rcases hD with ⟨k', rfl, ht⟩ | ⟨rfl, ht⟩ | ⟨rfl, ht⟩ <;> simp [AVal.tag] at ht
  · rw [ha, hb]; simp [Instr.sameNow]
  · obtain ⟨s, rfl, rfl⟩ := ha
    obtain ⟨u, rfl, rfl⟩ := hb
    have : (s == u) = eqStr (bytesN s) (bytesN u) := by
      rw [Bool.eq_iff_iff, eqStr_eq]
      have h1 : (s == u) = (s.data == u.data) := rfl
      rw [h1]
      exact ⟨fun h => (by unfold bytesN; rw [eq_of_beq h]), fun h => (by rw [bytesN_inj h]; exact beq_self_eq_true u.data)⟩
    simp only [Instr.sameNow, this]
  · rw [ha, hb]; rfl
theorem findNow_ok {D : TypeDesc} {k : AVal} {kv : Value} (hD : KeyFits D k) (hk : VRel μ k kv) {l : List (AVal × AVal)} {es : List MapEntry} (hl : All2 (fun p e => VRel μ p.1 e.key ∧ VRel μ p.2 e.val) l es) :
    ∀ {i : Nat} {r : Option AVal}, findA k l = some r → match r with
      | none => Instr.findNow D kv es i = some none
      | some v => ∃ j v', Instr.findNow D kv es i = some (some (j, v')) ∧ VRel μ v v' := by
  induction hl with
  | nil => intro i r h; rw [findA] at h; cases h; rfl
  | @cons p e l es hpe _ ih =>
    intro i r h
    rw [findA, ob_some] at h
    obtain ⟨q, hq, h⟩ := h
    have h1 := sameNow_ok hD hk hpe.1 hq
    cases q with
    | true =>
      rw [cond_true] at h
      cases h
      exact ⟨i, e.val, by rw [Instr.findNow, h1], hpe.2⟩
    | false =>
      rw [cond_false] at h
      have := ih (i := i + 1) h
      rw [Instr.findNow, h1]
      exact this
theorem checkKey_ok {D : TypeDesc} {t : Nat} {empty : Bool} {d : Nat} {kv : Value} (hu : P.underlying t = some D) (hD : (∃ k, D = .int k) ∨ D = .string ∨ D = .bool) : (Instr.checkKey empty (d + 1) t kv).run P w = .ok () w := by
  rw [Instr.checkKey, Sem.run_bind, run_und hu, Result.andThen_ok]
  rcases hD with ⟨k, rfl⟩ | rfl | rfl <;> rfl
theorem blkMap_some {b : Nat} {l : List (AVal × AVal)} (h : blkMap H b = some l) : H.t.get b = some (.map l) := by
  unfold blkMap at h
  rw [ob_some] at h
  obtain ⟨x, hx, h⟩ := h
  cases x <;> simp [ABlk.asMap] at h
  subst h; exact hx
theorem HRel.mapAt (hH : HRel N μ H w) {b : Nat} {l : List (AVal × AVal)} (h : blkMap H b = some l) {i : BI} (hi : μ b = some i) :
    ∃ es clock, w.heap[i.b]? = some (.map es clock) ∧ All2 (fun p e => VRel μ p.1 e.key ∧ VRel μ p.2 e.val) l es.toList := by
  obtain ⟨i', o, h1, h2, h3⟩ := hH.blk _ _ (blkMap_some h)
  rw [hi] at h1; cases h1
  obtain ⟨es, clock, rfl, h4⟩ := h3
  exact ⟨es, clock, h2, h4⟩
theorem run_getObj {r : Nat} {o : Obj} (h : w.heap[r]? = some o) (hc : ∀ a b c, o ≠ .cells a b c) : (getObj r).run P w = .ok o w := by
  simp only [getObj, Sem.run, h]
theorem keyFits_of {t : Nat} {ty : ATy} {D : TypeDesc} (hF : TyFacts P t ty) (hu : P.underlying t = some D) (hk : isKeyDesc ty.desc = true) {k : AVal} (h : keyFit ty.desc k = true) : KeyFits D k := by
  have h0 := hF.desc
  unfold descOf at h0
  rw [hu] at h0
  rw [← h0] at h
  unfold keyFit at h
  rw [beqs] at h
  rcases isKeyDesc_ok hF hk with h1 | h1 | ⟨kk, h1⟩
  · rw [hu] at h1; cases h1; exact .inr (.inr ⟨rfl, h.symm⟩)
  · rw [hu] at h1; cases h1; exact .inr (.inl ⟨rfl, h.symm⟩)
  · rw [hu] at h1; cases h1; exact .inl ⟨kk, rfl, h.symm⟩
theorem lLookup_ok (hT : TysOk P C) (hH : HRel N μ H w) (hE : ERel μ e ρ) {t : Nat} {x i : Operand} {ok : Bool} (h : lLookup t x i ok C e H = some v) : LOk P μ w ρ ⟨dst, .lookup t x i ok, type, pos, after, guard⟩ v := by
  unfold lLookup at h
  simp only [ob_some, guardO_some] at h
  obtain ⟨ty, hty, ke, hke, kty, hkty, hkd, ety, hety, m, hm, es, hes, k, hk, hfit, r, hr, h⟩ := h
  have hF := hT.facts hty
  have hKF := hT.facts hkty
  have hEF := hT.facts hety
  obtain ⟨D, hD⟩ := hKF.und
  have hfits := keyFits_of hKF hD hkd hfit
  have hD' : (∃ k, D = .int k) ∨ D = .string ∨ D = .bool := by
    rcases hfits with ⟨k, h, _⟩ | ⟨h, _⟩ | ⟨h, _⟩
    · exact .inl ⟨k, h⟩
    · exact .inr (.inl h)
    · exact .inr (.inr h)
  have hx := hE _ _ hm
  have hkv := hE _ _ hk
  have hmap : ∃ rs : Array MapEntry, All2 (fun p e => VRel μ p.1 e.key ∧ VRel μ p.2 e.val) es rs.toList ∧ ((ρ x = .map none ∧ rs = #[]) ∨ ∃ b clock, ρ x = .map (some b) ∧ w.heap[b]? = some (.map rs clock)) := by
    unfold mapOf at hes
    split at hes
    · rename_i b hb
      rw [asMap_some] at hb
      subst hb
      rw [VRel] at hx
      obtain ⟨j, hj, hxv⟩ := hx
      obtain ⟨rs, clock, h1, h2⟩ := hH.mapAt hes hj
      exact ⟨rs, h2, .inr ⟨_, _, hxv, h1⟩⟩
    · simp only [guardO_some, beqs] at hes
      obtain ⟨htag, hes⟩ := hes
      cases hes
      rw [tag_eq.2.2.1] at htag
      subst htag
      rw [VRel] at hx
      exact ⟨#[], .nil, .inl ⟨hx, rfl⟩⟩
  obtain ⟨rs, h1, h2⟩ := hmap
  have hfk : ∀ (q : Option (Nat × Value)), Instr.findNow D (ρ i) rs.toList 0 = some q → (Instr.findKey ke.1 (ρ i) rs.toList).run P w = .ok q w := by
    intro q hq
    unfold Instr.findKey
    simp only [Sem.run_bind, run_und hD, Result.andThen_ok, hq, Sem.run_pure]
  have h3 := findNow_ok hfits hkv h1 (i := 0) hr
  have hu := desc_map hF hke
  obtain ⟨z, hz, hzr, _⟩ := hEF.zero (μ := μ)
  have hck := fun b => checkKey_ok (P := P) (w := w) (empty := b) (d := 9999) (kv := ρ i) hD hD'
  cases r with
  | none =>
    cases h
    refine ⟨if ok then .tuple #[z, .bool false] else z, ?_, ?_⟩
    · have h4 := hfk _ h3
      simp only [execOp, Instr.lookup]
      rcases h2 with ⟨h5, rfl⟩ | ⟨b, clock, h5, h6⟩
      · simp only [Sem.run_bind, run_und hu, Result.andThen_ok, h5, Sem.run_pure, hck, h4, hz]
      · simp only [Sem.run_bind, run_und hu, Result.andThen_ok, h5, run_getObj h6 (by simp), Sem.run_pure, hck, h4, hz]
    · cases ok
      · exact hzr
      · rw [cond_true, if_pos rfl, VRel]; exact ⟨_, rfl, .cons hzr (.single (by rw [VRel]))⟩
  | some u =>
    obtain ⟨j, v', h4, h5⟩ := h3
    have h6 := hfk _ h4
    cases h
    refine ⟨if ok then .tuple #[v', .bool true] else v', ?_, ?_⟩
    · simp only [execOp, Instr.lookup]
      rcases h2 with ⟨h7, rfl⟩ | ⟨b, clock, h7, h8⟩
      · simp only [Sem.run_bind, run_und hu, Result.andThen_ok, h7, Sem.run_pure, hck, h6]
      · simp only [Sem.run_bind, run_und hu, Result.andThen_ok, h7, run_getObj h8 (by simp), Sem.run_pure, hck, h6]
    · cases ok
      · exact h5
      · rw [cond_true, if_pos rfl, VRel]; exact ⟨_, rfl, .cons h5 (.single (by rw [VRel]))⟩

/- lengths, max, min -/
theorem run_value {s : Sem Value} {v' : Value} (h : s.run P w = .ok v' w) : (do pure (Next.value (← s)) : Sem Next).run P w = .ok (.value v') w := by
  simp only [Sem.run_bind, h, Result.andThen_ok, Sem.run_pure]
theorem run_builtin {b : Builtin} {c : Call} (hc : c.callee = .builtin b) : (execOp ρ ⟨dst, .call c, type, pos, after, guard⟩).run P w = (builtin b c.argTypes type (c.args.map fun | .const _ => true | _ => false) (c.args.map ρ)).run P w := by
  simp only [execOp, resolve, hc, Sem.run_bind, Sem.run_pure, Result.andThen_ok, invoke]
  rfl
theorem All2.length {α β : Type} {R : α → β → Prop} {l : List α} {m : List β} (h : All2 R l m) : m.length = l.length := by
  induction h with
  | nil => rfl
  | cons _ _ ih => simp [ih]
theorem lLen_ok (hT : TysOk P C) (hH : HRel N μ H w) (hE : ERel μ e ρ) {c : Call} (hc : c.callee = .builtin .len) (h : lLen c C e H = some v) : LOk P μ w ρ ⟨dst, .call c, type, pos, after, guard⟩ v := by
  unfold lLen at h
  simp only [ob_some, lget_eq] at h
  obtain ⟨t, ht, x, hx, ty, hty, a, ha, n, hn, h⟩ := h
  cases h
  have hF := hT.facts hty
  have hv := hE _ _ ha
  obtain ⟨D, hD⟩ := hF.und
  have h0 := hF.desc
  unfold descOf at h0
  rw [hD] at h0
  have ht' : c.argTypes[0]? = some t := by simpa using ht
  have hx' : (c.args.map ρ)[0]? = some (ρ x) := by
    have : c.args[0]? = some x := by simpa using hx
    simp [this]
  refine ⟨.int .i64 n, ?_, by rw [VRel]; rfl⟩
  rw [run_builtin hc]
  refine run_value ?_
  simp only [Builtin.len_, ht', hx', Sem.run_bind, run_und hD, Result.andThen_ok]
  unfold lenA at hn
  rw [← h0] at hn
  split at hn
  · rename_i s hs
    rw [asStr_some] at hs
    subst hs
    simp only [guardO_some, llen_eq] at hn
    obtain ⟨hb, hn⟩ := hn
    cases hn
    rw [VRel] at hv
    obtain ⟨str, hxv, rfl⟩ := hv
    rw [hxv, bytesN_length]
    cases D <;> simp [ADesc.isString, ADesc.tag, Nat.beq] at hb
    rfl
  · split at hn
    · rename_i s hs
      rw [asSlice_some] at hs
      subst hs
      simp only [guardO_some, beqs] at hn
      obtain ⟨hb, hn⟩ := hn
      cases hn
      rw [VRel] at hv
      obtain ⟨j, cap', hj, hxv, _⟩ := hv
      rw [hxv]
      cases D <;> simp [ADesc.tag] at hb
      rfl
    · split at hn
      · rename_i ar har
        cases hn
        cases D <;> simp [ADesc.asArr] at har
        subst har
        rfl
      · split at hn
        · rename_i b hb
          rw [asMap_some] at hb
          subst hb
          simp only [guardO_some, beqs, ob_some, llen_eq] at hn
          obtain ⟨hb, l, hl, hn⟩ := hn
          cases hn
          rw [VRel] at hv
          obtain ⟨j, hj, hxv⟩ := hv
          obtain ⟨rs, clock, h1, h2⟩ := hH.mapAt hl hj
          rw [hxv]
          have h3 := h2.length
          simp only [Array.length_toList] at h3
          cases D <;> simp [ADesc.tag] at hb
          simp only [Sem.run_bind, run_getObj h1 (by simp), Result.andThen_ok, h3]
          rfl
        · simp only [guardO_some, Bool.or_eq_true, Bool.and_eq_true, beqs] at hn
          obtain ⟨hb, hn⟩ := hn
          cases hn
          rcases hb with ⟨hb, htag⟩ | ⟨hb, htag⟩
          · rw [tag_eq.2.1] at htag
            subst htag
            rw [VRel] at hv
            rw [hv]
            cases D <;> simp [ADesc.tag] at hb
            rfl
          · rw [tag_eq.2.2.1] at htag
            subst htag
            rw [VRel] at hv
            rw [hv]
            cases D <;> simp [ADesc.tag] at hb
            rfl
theorem two_some {c : Call} {p : AVal × AVal} (hE : ERel μ e ρ) (h : two c e = some p) : ∃ x y, c.args = #[x, y] ∧ VRel μ p.1 (ρ x) ∧ VRel μ p.2 (ρ y) := by
  unfold two at h
  split at h
  · rename_i x y hxy
    simp only [ob_some] at h
    obtain ⟨a, ha, b, hb, h⟩ := h
    cases h
    refine ⟨x, y, ?_, hE _ _ ha, hE _ _ hb⟩
    rw [← Array.toList_inj, hxy]
  · cases h
theorem lMax_ok (hE : ERel μ e ρ) {c : Call} (hc : c.callee = .builtin .max) (h : lMax c C e H = some v) : LOk P μ w ρ ⟨dst, .call c, type, pos, after, guard⟩ v := by
  unfold lMax at h
  simp only [ob_some, asIntK_some] at h
  obtain ⟨p, hp, a, ha, b, hb, h⟩ := h
  cases h
  obtain ⟨x, y, hxy, h1, h2⟩ := two_some hE hp
  rw [ha, VRel] at h1
  rw [hb, VRel] at h2
  refine ⟨.int a.1 (if b.2 > a.2 then b.2 else a.2), ?_, ?_⟩
  · rw [run_builtin hc, hxy]
    refine run_value ?_
    simp [Builtin.max_, h1, h2, Builtin.max2]
  · rw [VRel, cond_if]; simp only [iLt_iff]
theorem lMin_ok (hE : ERel μ e ρ) {c : Call} (hc : c.callee = .builtin .min) (h : lMin c C e H = some v) : LOk P μ w ρ ⟨dst, .call c, type, pos, after, guard⟩ v := by
  unfold lMin at h
  simp only [ob_some, asIntK_some] at h
  obtain ⟨p, hp, a, ha, b, hb, h⟩ := h
  cases h
  obtain ⟨x, y, hxy, h1, h2⟩ := two_some hE hp
  rw [ha, VRel] at h1
  rw [hb, VRel] at h2
  refine ⟨.int a.1 (if b.2 < a.2 then b.2 else a.2), ?_, ?_⟩
  · rw [run_builtin hc, hxy]
    refine run_value ?_
    simp [Builtin.min_, h1, h2, Builtin.min2]
  · rw [VRel, cond_if]; simp only [iLt_iff]
theorem alight_ok (hT : TysOk P C) (hH : HRel N μ H w) (hE : ERel μ e ρ) {o : Oper} (h : (alight o.op).f C e H = some v) : LOk P μ w ρ o v := by
  obtain ⟨dst, op, type, pos, after, guard⟩ := o
  cases op
  case move => exact lMove_ok (C := C) (H := H) hE h
  case assign => exact lAssign_ok (C := C) (H := H) hE h
  case pick => exact lPick_ok (C := C) (H := H) hE h
  case load => exact lLoad_ok (C := C) (H := H) hT hH hE h
  case nilCheck => exact lNil_ok (C := C) (H := H) hE h
  case binOp => exact lBin_ok (C := C) (H := H) hT hE h
  case unOp => exact lUn_ok (C := C) (H := H) hE h
  case convert => exact lConv_ok (C := C) (H := H) hT hH hE h
  case makeInterface => exact lIface_ok (C := C) (H := H) hT hE h
  case makeFunc => exact lFunc_ok (C := C) (H := H) hE h
  case slice => exact lSlice_ok (C := C) (H := H) hT hH hE h
  case fieldAddr => exact lFieldAddr_ok (C := C) (H := H) hT hE h
  case field => exact lField_ok (C := C) (H := H) hT hE h
  case indexAddr => exact lIndexAddr_ok (C := C) (H := H) hT hE h
  case index => exact lIndex_ok (C := C) (H := H) hT hE h
  case extract => exact lExtract_ok (C := C) (H := H) hE h
  case build => exact lBuild_ok (C := C) (H := H) hT hE h
  case typeAssert => exact lAssert_ok (C := C) (H := H) hT hE h
  case lookup => exact lLookup_ok (C := C) (H := H) hT hH hE h
  case call c =>
    have h : (lCallee c c.callee).f C e H = some v := h
    unfold lCallee at h
    split at h
    · rename_i b hb
      cases b <;> simp only [lBuiltin] at h
      case len => exact lLen_ok (C := C) (H := H) hT hH hE hb h
      case max => exact lMax_ok (C := C) (H := H) hE hb h
      case min => exact lMin_ok (C := C) (H := H) hE hb h
      all_goals cases h
    · cases h
  all_goals
    have h : lNone C e H = some v := h
    cases h
end
end Go.Am
