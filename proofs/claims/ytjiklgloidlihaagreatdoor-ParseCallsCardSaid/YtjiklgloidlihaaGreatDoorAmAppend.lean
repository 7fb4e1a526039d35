/- append: in the room, into new memory, and both ways where the room is not known. -/
import Derived.Test.YtjiklgloidlihaaGreatDoorAmHeavy2
namespace Go.Am
open Go Go.RowKit
section
variable {P : Program} {C : Ctx} {N : Nat} {μ : Mu} {H H' : AHeap} {w : World}
variable {e : Env} {ρ : Operand → Value} {dst : Option Tmp} {type : TypeId} {pos : String} {after : Array Edge} {guard : Option (Nat × Bool)} {v : AVal}

theorem HRel.drop (hH : HRel N μ H w) (b : Nat) : HRel N μ ⟨H.next, H.t.del b⟩ w := by
  have hget : ∀ a, (H.t.del b).get a = if a = b then none else H.t.get a := fun a => Tr.get_del _ _ _
  have key : ∀ a x, (H.t.del b).get a = some x → a ≠ b ∧ H.t.get a = some x := by
    intro a x h
    rw [hget] at h
    split at h
    · cases h
    · exact ⟨‹_›, h⟩
  refine ⟨hH.glob, fun a x ha hx => hH.low a x ha (key a x hx).2, hH.next, hH.size, fun a ha => ⟨(hH.fresh a ha).1, ?_⟩, fun a x hx => hH.blk a x (key a x hx).2, hH.own, fun a c x y i j hx hy => hH.inj a c x y i j (key a x hx).2 (key c y hy).2⟩
  rw [hget]; split
  · rfl
  · exact (hH.fresh a ha).2
theorem HRel.adopt (hH : HRel N μ H w) {y : ABlk} {o' : Obj} {i : BI} (hN : N ≤ i.b ∧ i.b < w.heap.size) (hfree : ∀ a x j, 256 ≤ a → H.t.get a = some x → μ a = some j → j.b ≠ i.b) (hy : BRel (μ.ext H.next i) i y o') :
    HRel N (μ.ext H.next i) (Am.newBlk H y) (World.setBlk w i.b o') := by
  have hle : μ.le (μ.ext H.next i) := hH.ext_le
  have hget : ∀ a, (Am.newBlk H y).t.get a = if a = H.next then some y else H.t.get a := fun a => Tr.get_set _ _ _ _
  have hsz : (World.setBlk w i.b o').heap.size = w.heap.size := by simp [World.setBlk]
  refine ⟨?_, ?_, ?_, ?_, ?_, ?_, ?_, ?_⟩
  · intro g hg; unfold Mu.ext; rw [if_neg (by have := hH.next; omega)]; exact hH.glob g hg
  · intro a x ha hx; rw [hget, if_neg (by have := hH.next; omega)] at hx; exact hH.low a x ha hx
  · have := hH.next; show 256 ≤ H.next + 1; omega
  · rw [hsz]; exact hH.size
  · intro a ha
    have ha' : H.next + 1 ≤ a := ha
    rw [hget, if_neg (by omega)]
    unfold Mu.ext; rw [if_neg (by omega)]
    exact hH.fresh a (by omega)
  · intro a x hx
    rw [hget] at hx
    split at hx
    · rename_i e; subst e; cases hx
      exact ⟨i, o', Mu.ext_same, by rw [setBlk_get, if_pos ⟨rfl, hN.2⟩], hy⟩
    · obtain ⟨j, q, h1, h2, h3⟩ := hH.blk a x hx
      refine ⟨j, q, hle _ _ h1, ?_, h3.mono hle⟩
      rw [setBlk_get, if_neg]
      · exact h2
      · rintro ⟨e, _⟩
        by_cases hb : 256 ≤ a
        · exact hfree a x j hb hx h1 e
        · have h4 := hH.glob a (by omega)
          rw [h4] at h1; cases h1
          have h5 := hH.low a x (by omega) hx
          have : a = i.b := e
          omega
  · intro a j ha hj
    unfold Mu.ext at hj
    rw [hsz]
    split at hj
    · cases hj; exact hN
    · exact hH.own a j ha hj
  · intro a b x z j k hx hz hj hk ha hb hjk
    rw [hget] at hx hz
    unfold Mu.ext at hj hk
    by_cases ea : a = H.next
    · by_cases eb : b = H.next
      · rw [ea, eb]
      · exfalso
        rw [if_pos ea] at hj; rw [if_neg eb] at hk hz
        cases hj
        exact hfree b z k hb hz hk hjk.symm
    · by_cases eb : b = H.next
      · exfalso
        rw [if_neg ea] at hj hx; rw [if_pos eb] at hk
        cases hk
        exact hfree a x j ha hx hj hjk
      · rw [if_neg ea] at hx hj; rw [if_neg eb] at hz hk
        exact hH.inj a b x z j k hx hz hj hk ha hb hjk

theorem lenOfA_ok {a : AVal} {x : Value} (hx : VRel μ a x) {n : Nat} (h : lenOfA a = some n) : (Builtin.lenOf x).run P w = .ok n w := by
  unfold lenOfA at h
  split at h
  · rename_i s hs
    cases h
    rw [asSlice_some] at hs
    subst hs
    rw [VRel] at hx
    obtain ⟨i, c, _, rfl, _⟩ := hx
    rfl
  · split at h
    · rename_i s hs
      rw [asStr_some] at hs
      subst hs
      rw [VRel] at hx
      obtain ⟨str, rfl, rfl⟩ := hx
      rw [llen_eq, bytesN_length] at h
      cases h; rfl
    · rw [guardO_some, beqs, tag_eq.2.1] at h
      obtain ⟨rfl, h⟩ := h
      cases h
      rw [VRel] at hx
      subst hx; rfl
theorem firstA_ok (hH : HRel N μ H w) {a : AVal} {x : Value} (hx : VRel μ a x) {size n : Nat} {l : List AVal} (h : firstA H size n a = some l) :
    ∃ vs : List Value, (Builtin.firstCells size n x).run P w = .ok vs.toArray w ∧ LRel μ l vs := by
  unfold firstA at h
  split at h
  · rename_i s hs
    rw [asSlice_some] at hs
    subst hs
    simp only [ob_some] at h
    obtain ⟨c, hc, h⟩ := h
    rw [VRel] at hx
    obtain ⟨i, c', hi, rfl, _⟩ := hx
    obtain ⟨vs, _, h2, h3, _⟩ := hH.manyAt (P := P) hc hi h
    exact ⟨vs, h3, h2⟩
  · split at h
    · rename_i s hs
      rw [asStr_some] at hs
      subst hs
      cases h
      rw [VRel] at hx
      obtain ⟨str, rfl, rfl⟩ := hx
      refine ⟨((str.extract 0 n).data.map fun b => Value.int .u8 b.toNat).toList, by rw [Array.toArray_toList]; rfl, ?_⟩
      have h1 : ltake (bytesN str) n = bytesN (str.extract 0 n) := by rw [ltake_eq, bytesN_extract]; simp
      rw [h1]; exact byteVals_rel _
    · rw [guardO_some, beqs, tag_eq.2.1] at h
      obtain ⟨rfl, h⟩ := h
      cases h
      rw [VRel] at hx
      subst hx
      exact ⟨[], rfl, .nil⟩
theorem growBy_le (newLen : Nat) : ∀ (r c : Nat), c < newLen → Builtin.growBy newLen r c ≤ newLen + (newLen + 768) / 4 := by
  intro r
  induction r with
  | zero => intro c h; rw [Builtin.growBy]; omega
  | succ r ih =>
    intro c h
    rw [Builtin.growBy, if_neg (by omega)]
    by_cases h2 : c + (c + 768) / 4 < newLen
    · exact ih _ h2
    · cases r with
      | zero => rw [Builtin.growBy]; omega
      | succ r => rw [Builtin.growBy, if_pos (by omega)]; omega
theorem nextcap_le (need cap : Nat) (h : cap < need) : Builtin.nextslicecap need cap ≤ 2 * need + 192 := by
  unfold Builtin.nextslicecap
  split
  · omega
  · split
    · omega
    · have := growBy_le need 4 cap h; omega
structure GrowFacts (et : ATy) (len cap n : Nat) (new : List AVal) : Prop where
  small : len + n + cap < 1000000000
  bytes : (len + n + cap) * et.bytes < 1000000000
  b : et.bytes < 1000000000
  size : et.size ≠ 0
  new : new.length = n * et.size
  zero : et.zero.length = et.size
theorem growOk_some {et : ATy} {len cap n : Nat} {new : List AVal} (h : growOk et len cap n new = true) : GrowFacts et len cap n new := by
  unfold growOk at h
  simp only [Bool.and_eq_true, blts, Bool.not_eq_true', beqf, beqs, llen_eq] at h
  obtain ⟨⟨⟨⟨⟨h1, h2⟩, h3⟩, h4⟩, h5⟩, h6⟩ := h
  exact ⟨h1, h2, h3, h4, h5, h6⟩
theorem zeroCells_size (z : Array Value) (n : Nat) : (Builtin.zeroCells z n).size = n * z.size := by simp [Builtin.zeroCells]

theorem notInt {u : TypeDesc} (hu : ∀ k, u ≠ .int k) : (match u with | .int _ => true | _ => false) = false := by
  cases u <;> first | rfl | exact absurd rfl (hu _)
theorem run_append_new {st ut el : Nat} {u : TypeDesc} {et : ATy} (hst : P.underlying st = some (.slice el)) (hut : P.underlying ut = some u) (hu : ∀ k, u ≠ .int k) (hF : TyFacts P el et) {base : Option Addr} {len cap n : Nat} {x : Value} {tys : Array TypeId} {args : Array Value}
    (ht0 : tys[0]? = some st) (ht1 : tys[1]? = some ut) (ha0 : args[0]? = some (.slice base len cap)) (ha1 : args[1]? = some x) (hn : (Builtin.lenOf x).run P w = .ok n w) (hlt : ¬ len + n ≤ cap)
    (hs : len + n < 1000000000) (hb : (len + n) * et.bytes < 1000000000) (hbb : et.bytes < 1000000000) {old new : Array Value} {z : Value} (hold : (Builtin.firstCells et.size len (.slice base len cap)).run P w.drew = .ok old w.drew) (hnew : (Builtin.firstCells et.size n x).run P w.drew = .ok new w.drew)
    (hz : ∀ w, (zeroValue el).run P w = .ok z w) :
    ∃ newCap, len + n ≤ newCap ∧ (Builtin.append_ tys type args).run P w = .ok (.slice (some ⟨w.heap.size, 0, none⟩) (len + n) newCap) (w.drew.alloc (.cells (old ++ new ++ Builtin.zeroCells z.cells (newCap - (len + n))) el)) := by
  obtain ⟨inf, hinf, hsz, hby, _⟩ := hF.info
  obtain ⟨newCap, hcap, hc⟩ := run_chooseCap (P := P) (w := w) (len + n) cap el
  refine ⟨newCap, hcap, ?_⟩
  have h1 : ¬ (((len + n : Nat) : Int) > IntKind.i64.max ∧ (False ∨ et.bytes = 0)) := by
    have : IntKind.i64.max = 9223372036854775807 := by decide
    rw [this]; omega
  have h2 : ¬ Builtin.nextslicecap (len + n) cap * et.bytes > 2 ^ 48 := by
    have h3 := nextcap_le (len + n) cap (by omega)
    have h4 : Builtin.nextslicecap (len + n) cap * et.bytes ≤ (2 * (len + n) + 192) * et.bytes := Nat.mul_le_mul_right _ h3
    have h5 : (2 * (len + n) + 192) * et.bytes = 2 * ((len + n) * et.bytes) + 192 * et.bytes := by rw [Nat.add_mul, Nat.mul_assoc]
    omega
  unfold Builtin.append_
  simp only [ht0, ht1, ha0, ha1, Sem.run_bind, run_und hst, run_und hut, Result.andThen_ok, hF.size, Sem.run_pure]
  cases u <;> first
    | exact absurd rfl (hu _)
    | simp only [Bool.false_eq_true, if_false, Bool.not_false, if_true, hn, if_neg hlt, Result.andThen_ok, run_info hinf, hby, Sem.run_bind, Sem.run_ite, Sem.run_pure, if_neg h1, if_neg h2, hc, run_askRoom, hold, hnew, hz, run_newRow, World.size_drew]

theorem run_append_room {st ut el : Nat} {u : TypeDesc} {et : ATy} (hst : P.underlying st = some (.slice el)) (hut : P.underlying ut = some u) (hu : ∀ k, u ≠ .int k) (hF : TyFacts P el et) {base : Option Addr} {len cap n : Nat} {x : Value} {tys : Array TypeId} {args : Array Value}
    (ht0 : tys[0]? = some st) (ht1 : tys[1]? = some ut) (ha0 : args[0]? = some (.slice base len cap)) (ha1 : args[1]? = some x) (hn : (Builtin.lenOf x).run P w = .ok n w) (hlt : len + n ≤ cap)
    {new : Array Value} {w' : World} (hnew : (Builtin.firstCells et.size n x).run P w = .ok new w) (hst' : (match base with | some a => storeCells (a.add (len * et.size)) new.toList | none => pure () : Sem Unit).run P w = .ok () w') :
    (Builtin.append_ tys type args).run P w = .ok (.slice base (len + n) cap) w' := by
  unfold Builtin.append_
  simp only [ht0, ht1, ha0, ha1, Sem.run_bind, run_und hst, run_und hut, Result.andThen_ok, hF.size, Sem.run_pure]
  cases base with
  | none =>
    have e : w = w' := by simpa using hst'
    subst e
    cases u <;> first
      | exact absurd rfl (hu _)
      | simp only [Bool.false_eq_true, if_false, Bool.not_false, if_true, hn, if_pos hlt, Result.andThen_ok, Sem.run_bind, Sem.run_ite, Sem.run_pure, hnew]
  | some a =>
    simp only [] at hst'
    cases u <;> first
      | exact absurd rfl (hu _)
      | simp only [Bool.false_eq_true, if_false, Bool.not_false, if_true, hn, if_pos hlt, Result.andThen_ok, Sem.run_bind, Sem.run_ite, Sem.run_pure, hnew, hst']
/-- a new loose block out of old cells, new cells and zeros -/
theorem HRel.newGrown (hH : HRel N μ H w) {et : ATy} {len cap n newCap : Nat} {new old : List AVal} {vo vn : List Value} {z : Array Value} (hg : GrowFacts et len cap n new) (hz : LRel μ et.zero z.toList) (hcap : len + n ≤ newCap) (ho : LRel μ old vo) (hol : old.length = len * et.size) (hn : LRel μ new vn) (el : TypeId) :
    HRel N (μ.ext H.next ⟨w.heap.size, false, et.size, newCap * et.size⟩) (newCells H (old ++ new) (some et.size)) (w.alloc (.cells (vo.toArray ++ vn.toArray ++ Builtin.zeroCells z (newCap - (len + n))) el)) := by
  have hzs := hz.length
  simp only [Array.length_toList] at hzs
  have h1 := ho.length
  have h2 := hn.length
  have hsz : (vo.toArray ++ vn.toArray ++ Builtin.zeroCells z (newCap - (len + n))).size = newCap * et.size := by
    simp only [Array.size_append, List.size_toArray, zeroCells_size, h1, h2, hol, hg.new, hzs, hg.zero]
    rw [← Nat.add_mul, ← Nat.add_mul]; congr 1; omega
  have := hH.newLoose (l := old ++ new) (cs := vo.toArray ++ vn.toArray ++ Builtin.zeroCells z (newCap - (len + n))) (es := et.size) ?_ ?_ el (0, 0) (.inl (Nat.le_refl _)) ?_
  · rw [hsz] at this; exact this
  · rw [hsz, List.length_append, hol, hg.new, ← Nat.add_mul]; exact Nat.mul_le_mul_right _ hcap
  · intro j a ha
    obtain ⟨v, hv, hr⟩ := (ho.append hn).get ha
    refine ⟨v, ?_, hr⟩
    have hj : j < (vo ++ vn).length := (List.getElem?_eq_some_iff.1 hv).1
    rw [Array.getElem?_append_left (by simpa using hj)]
    simpa using hv
  · rw [List.length_append, hol, hg.new, ← Nat.add_mul]; exact Nat.mul_mod_left _ _

theorem room_ok (hbase : 256 ≤ C.base) (hH : HRel N μ H w) {et : ATy} {n : Nat} {new : List AVal} {s : Nat × Nat × Nat × Nat} (h : growRoom C H et n new s = some (v, H')) {i : BI} (hi : μ s.1 = some i) {vs : List Value} (hl : LRel μ new vs) :
    v = .slice s.1 s.2.1 (s.2.2.1 + n) s.2.2.2 ∧ ∃ w', (storeCells (Addr.add ⟨i.b, s.2.1, none⟩ (s.2.2.1 * et.size)) vs.toArray.toList).run P w = .ok () w' ∧ HRel N μ H' w' ∧ Below N w w' := by
  unfold growRoom at h
  split at h
  · cases h
    rw [LRel] at hl
    subst hl
    exact ⟨rfl, w, rfl, hH, Below.refl _ _⟩
  · rw [ob_some] at h
    obtain ⟨H1, h1, h⟩ := h
    cases h
    obtain ⟨w', h2, h3, h4⟩ := storeA_ok (P := P) hbase hH h1 hi hl
    rw [add_eq]
    exact ⟨rfl, w', h2, h3, h4⟩
theorem tight_of {b : Nat} {p : Tr AVal × Nat × Option Nat} (hH : HRel N μ H w) (h : blkCells H b = some p) {i : BI} (hi : μ b = some i) (hl : p.2.2 = none) : i.tight = true := by
  obtain ⟨i', o, h1, h2, h3⟩ := hH.blk _ _ (blkCells_some h)
  rw [hi] at h1; cases h1
  obtain ⟨cs, elem, fr, _, _, _, _, h4⟩ := h3
  rw [hl] at h4; exact h4
theorem loadCells_ex {b : Nat} {cs : Array Value} {elem : TypeId} {fr : Nat × Nat} (h : w.heap[b]? = some (.cells cs elem fr)) {n : Nat} (hn : n ≤ cs.size) : (loadCells ⟨b, 0, none⟩ n).run P w = .ok (cs.toList.take n).toArray w := by
  have := run_loadCells_list (P := P) w ⟨b, 0, none⟩ (cs.toList.take n) fun j v hv => by
    rw [add_eq]
    rw [List.getElem?_take] at hv
    split at hv
    · simp only [World.cell?, h]; simpa using hv
    · cases hv
  rwa [List.length_take, Array.length_toList, Nat.min_eq_left hn] at this
/-- the cells of the grown block, wherever it lies -/
theorem loose_cells {μ' : Mu} {i j : BI} {c : Tr AVal} {m es L : Nat} {cs cs2 : Array Value} {elem el : TypeId} {fr fr2 : Nat × Nat} (hle : μ.le μ') (h : BRel μ i (.cells c m (some es)) (.cells cs elem fr)) {new : List AVal} {vn : List Value} (hn : LRel μ new vn)
    {tot : Nat} (hm : m ≤ tot) (htot : L + new.length = tot) (hsz : tot ≤ cs2.size) (hfr : fr2.2 ≤ fr2.1 ∨ cs2.size ≤ fr2.1) (hold : ∀ k, k < L → cs2[k]? = cs[k]?) (hnew : ∀ k, k < new.length → cs2[L + k]? = vn[k]?)
    (hj : j.tight = false ∧ j.es = es ∧ j.room = cs2.size) (hmod : tot % es = 0) : BRel μ' j (.cells (c.setMany new L) tot (some es)) (.cells cs2 el fr2) := by
  obtain ⟨cs0, elem0, fr0, e, h2, h3, h4, h5⟩ := h
  cases e
  refine ⟨cs2, el, fr2, rfl, hsz, hfr, fun k v hv => ?_, hj.1, hj.2.1, hj.2.2, hmod⟩
  rw [Tr.get_setMany] at hv
  split at hv
  · rename_i hk
    obtain ⟨u, hu, hr⟩ := hn.get hv
    refine ⟨by omega, u, ?_, hr.mono hle _ _⟩
    have := hnew (k - L) (by omega)
    rw [show L + (k - L) = k by omega] at this
    rw [this]; exact hu
  · rename_i hk
    obtain ⟨a, u, hu, hr⟩ := h4 k v hv
    refine ⟨by omega, u, ?_, hr.mono hle _ _⟩
    rw [hold k (by omega)]; exact hu
theorem hAppend_ok (hT : TysOk P C) (hbase : 256 ≤ C.base) (hH : HRel N μ H w) (hE : ERel μ e ρ) {c : Call} (hc : c.callee = .builtin .append) (h : hAppend c C e H = .val v H') : HvOk P N μ w ρ ⟨dst, .call c, type, pos, after, guard⟩ v H' := by
  have h := resV_val h
  simp only [ob_some, guardO_some, lget_eq, Bool.not_eq_true', beqf] at h
  obtain ⟨st, hst, ty, hty, ut, hut, uty, huty, htag, p, hp, h⟩ := h
  obtain ⟨X, Y, hXY, hX, hY⟩ := two_some hE hp
  unfold appendA at h
  simp only [ob_some] at h
  obtain ⟨el, hel, et, het, n, hn, new, hnew, h⟩ := h
  have hF := hT.facts het
  obtain ⟨z, hz, _, hzl⟩ := hF.zero (μ := μ)
  have hU := hT.facts huty
  obtain ⟨U, hUu⟩ := hU.und
  have hU2 : ∀ k, U ≠ .int k := by
    intro k e
    subst e
    have h0 := hU.desc
    unfold descOf at h0
    rw [hUu] at h0
    rw [← h0] at htag
    exact htag rfl
  have ht0 : c.argTypes[0]? = some st := by simpa using hst
  have ht1 : c.argTypes[1]? = some ut := by simpa using hut
  have ha0 : (c.args.map ρ)[0]? = some (ρ X) := by rw [hXY]; simp
  have ha1 : (c.args.map ρ)[1]? = some (ρ Y) := by rw [hXY]; simp
  have hln := lenOfA_ok (P := P) (w := w) hY hn
  obtain ⟨vn, hvn, hvl⟩ := firstA_ok (P := P) hH hY hnew
  obtain ⟨vn2, hvn2, hvl2⟩ := firstA_ok (P := P) hH.drew hY hnew
  have run : ∀ {v' w'}, (Builtin.append_ c.argTypes type (c.args.map ρ)).run P w = .ok v' w' → (execOp ρ ⟨dst, .call c, type, pos, after, guard⟩).run P w = .ok (.value v') w' := by
    intro v' w' hr
    rw [run_builtin hc]
    simp only [builtin, Sem.run_bind, hr, Result.andThen_ok, Sem.run_pure]
  have hsl := desc_slice (hT.facts hty) hel
  split at h
  · rename_i s hs
    rw [asSlice_some] at hs
    rw [hs, VRel] at hX
    obtain ⟨i, cap', hi, hxv, hcap, htt, hrm⟩ := hX
    rw [hxv] at ha0
    rw [cond_if] at h
    simp only [bles] at h
    split at h
    · rename_i hle
      obtain ⟨rfl, w', h1, h2, h3⟩ := room_ok (P := P) hbase hH h hi hvl
      refine ⟨.slice (some ⟨i.b, s.2.1, none⟩) (s.2.2.1 + n) cap', w', μ, .inl (run ?_), μ.le_refl, h2, h3, ?_⟩
      · exact run_append_room hsl hUu hU2 hF ht0 ht1 ha0 ha1 hln (by omega) hvn h1
      · rw [VRel]; exact ⟨i, cap', hi, rfl, hcap, htt, hrm⟩
    · rename_i hgt
      unfold growNew at h
      simp only [guardO_some, ob_some] at h
      obtain ⟨hg, cc, hcc, h⟩ := h
      have hG := growOk_some hg
      have hb1 : (s.2.2.1 + n) * et.bytes < 1000000000 := Nat.lt_of_le_of_lt (Nat.mul_le_mul_right _ (by omega)) hG.bytes
      split at h
      · rename_i hnone
        unfold growTight at h
        rw [ob_some] at h
        obtain ⟨old, hold, h⟩ := h
        cases h
        have hti := tight_of hH hcc hi hnone
        obtain ⟨vo, _, hvo, hlo, _⟩ := hH.drew.manyAt (P := P) hcc hi hold
        have hcc' := htt hti
        obtain ⟨nc, hnc, hr⟩ := run_append_new (w := w) hsl hUu hU2 hF ht0 ht1 ha0 ha1 hln (by omega) (by have := hG.small; omega) hb1 hG.b (old := vo.toArray) (new := vn2.toArray) (z := z) hlo hvn2 hz
        rw [lapp_eq]
        refine ⟨_, _, _, .inl (run hr), hH.ext_le, hH.drew.newGrown hG hzl hnc hvo (Tr.many_some _ _ _ _ hold).1 hvl2 el, below_drew.trans (below_alloc hH.drew.size _), ?_⟩
        rw [VRel]
        exact ⟨_, nc, Mu.ext_same, rfl, hnc, (fun h => by cases h), (fun _ => by simp)⟩
      · rename_i es hsome
        unfold growLoose at h
        simp only [guardO_some, Bool.and_eq_true, beqs, bles, lall_eq, Bool.not_eq_true'] at h
        obtain ⟨⟨⟨⟨⟨⟨h1, h2⟩, h3⟩, h4⟩, h5⟩, h6⟩, h⟩ := h
        subst h2
        have hown : 256 ≤ s.1 := by
          have : ¬ s.1 < C.base := fun k => by rw [blts.2 k] at h6; cases h6
          omega
        have hNb := hH.own s.1 i hown hi
        have hxs := blkCells_some hcc
        obtain ⟨i', o, g1, g2, g3⟩ := hH.blk _ _ hxs
        rw [hi] at g1; cases g1
        have g3' := g3
        obtain ⟨cs, elem, fr, rfl, g4, g5, g6, g7⟩ := g3
        rw [hsome] at g7
        obtain ⟨g8, g9, g10, _⟩ := g7
        have hone : ∀ a ∈ new, a.one = true := fun a ha => List.all_eq_true.1 h5 a ha
        have hrm' := hrm g8
        rw [h1, g9, g10] at hrm'
        rw [hsome] at g3'
        have hlen1 := hvl.length
        have hlen2 := hvl2.length
        have htotal : s.2.2.1 * et.size + new.length = (s.2.2.1 + n) * et.size := by rw [hG.new, ← Nat.add_mul]
        have hH2 := hH.drop s.1
        by_cases hroom : s.2.2.1 + n ≤ cap'
        · have hfit : (s.2.2.1 + n) * et.size ≤ cs.size := by
            have : (s.2.2.1 + n) * et.size ≤ cap' * et.size := Nat.mul_le_mul_right _ hroom
            omega
          obtain ⟨cs', hs', hj', hr'⟩ := run_storeCells_mid (P := P) (o := s.2.2.1 * et.size) vn 0 cs w g2 g5 (by omega) (hvl.one hone)
          have hst' : (storeCells (Addr.add ⟨i.b, s.2.1, none⟩ (s.2.2.1 * et.size)) vn.toArray.toList).run P w = .ok () (World.setBlk w i.b (.cells cs' elem fr)) := by
            rw [add_eq, h1, Nat.zero_add]; exact hr'
          have hr := run_append_room (type := type) hsl hUu hU2 hF ht0 ht1 ha0 ha1 hln hroom hvn (w' := World.setBlk w i.b (.cells cs' elem fr)) hst'
          simp only [Option.some.injEq, Prod.mk.injEq] at h
          obtain ⟨rfl, rfl⟩ := h
          refine ⟨_, _, μ.ext H.next i, .inl (run hr), hH.ext_le, ?_, below_setBlk hNb.1, ?_⟩
          · refine hH2.adopt hNb ?_ (loose_cells hH.ext_le g3' hvl h4 htotal (by omega) (by rw [hs']; exact g5) ?_ ?_ ⟨g8, g9, by rw [hs']; exact g10⟩ (Nat.mul_mod_left _ _))
            · intro a x j ha hx hj hb
              have hx' : (if a = s.1 then none else H.t.get a) = some x := by rw [← Tr.get_del]; exact hx
              split at hx'
              · cases hx'
              · rename_i hne
                exact hne (hH.inj a s.1 x _ j i hx' hxs hj hi ha hown hb)
            · intro k hk
              rw [hj', if_neg (by omega)]
            · intro k hk
              rw [hj', if_pos (by omega)]
              congr 1; omega
          · rw [VRel]
            refine ⟨i, cap', Mu.ext_same, by rw [h1], hroom, (fun h => by rw [g8] at h; cases h), (fun _ => ?_)⟩
            rw [g9, g10]; omega
        · have hlo : (Builtin.firstCells et.size s.2.2.1 (.slice (some ⟨i.b, s.2.1, none⟩) s.2.2.1 cap')).run P w.drew = .ok (cs.toList.take (s.2.2.1 * et.size)).toArray w.drew := by
            rw [h1]; exact loadCells_ex (w := w.drew) g2 (by omega)
          obtain ⟨nc, hnc, hr⟩ := run_append_new (w := w) (type := type) hsl hUu hU2 hF ht0 ht1 ha0 ha1 hln hroom (by have := hG.small; omega) hb1 hG.b (new := vn2.toArray) (z := z) hlo hvn2 hz
          have hzs := hzl.length
          simp only [Array.length_toList] at hzs
          have hol : (cs.toList.take (s.2.2.1 * et.size)).length = s.2.2.1 * et.size := by rw [List.length_take, Array.length_toList]; omega
          have hsz2 : ((cs.toList.take (s.2.2.1 * et.size)).toArray ++ vn2.toArray ++ Builtin.zeroCells z.cells (nc - (s.2.2.1 + n))).size = nc * et.size := by
            simp only [Array.size_append, List.size_toArray, zeroCells_size, hol, hlen2, hG.new, hzs, hG.zero]
            rw [← Nat.add_mul, ← Nat.add_mul]; congr 1; omega
          simp only [Option.some.injEq, Prod.mk.injEq] at h
          obtain ⟨rfl, rfl⟩ := h
          refine ⟨_, _, μ.ext H.next ⟨w.heap.size, false, et.size, nc * et.size⟩, .inl (run hr), hH.ext_le, ?_, below_drew.trans (below_alloc hH.drew.size _), ?_⟩
          · refine hH2.drew.newBlk (H := ⟨H.next, H.t.del s.1⟩) rfl (loose_cells hH.ext_le g3' hvl2 h4 htotal ?_ (.inl (Nat.le_refl _)) ?_ ?_ ⟨rfl, rfl, hsz2.symm⟩ (Nat.mul_mod_left _ _))
            · rw [hsz2]; exact Nat.mul_le_mul_right _ hnc
            · intro k hk
              rw [Array.getElem?_append_left (by simp [hol]; omega), Array.getElem?_append_left (by simp [hol]; omega)]
              simp [hk]
            · intro k hk
              rw [Array.getElem?_append_left (by simp only [Array.size_append, List.size_toArray, hol, hlen2]; omega), Array.getElem?_append_right (by simp only [List.size_toArray, hol]; omega)]
              simp only [List.size_toArray, hol, Nat.add_sub_cancel_left]
              simp
          · rw [VRel]
            exact ⟨_, nc, Mu.ext_same, rfl, hnc, (fun h => by cases h), (fun _ => by simp)⟩
  · simp only [guardO_some, beqs, tag_eq.2.1] at h
    obtain ⟨hs, h⟩ := h
    rw [hs, VRel] at hX
    rw [hX] at ha0
    unfold growNil at h
    rw [cond_if] at h
    simp only [beqs] at h
    split at h
    · rename_i hn0
      subst hn0
      cases h
      refine ⟨.slice none 0 0, w, μ, .inl (run ?_), μ.le_refl, hH, Below.refl _ _, by rw [VRel]⟩
      have := run_append_room (type := type) (w' := w) hsl hUu hU2 hF ht0 ht1 ha0 ha1 hln (by omega) hvn rfl
      simpa using this
    · rename_i hn0
      simp only [guardO_some] at h
      obtain ⟨hg, h⟩ := h
      cases h
      have hG := growOk_some hg
      have hb1 : (0 + n) * et.bytes < 1000000000 := Nat.lt_of_le_of_lt (Nat.mul_le_mul_right _ (by omega)) hG.bytes
      obtain ⟨nc, hnc, hr⟩ := run_append_new (w := w) hsl hUu hU2 hF ht0 ht1 ha0 ha1 hln (by omega) (by have := hG.small; omega) hb1 hG.b (old := #[]) (new := vn2.toArray) (z := z) rfl hvn2 hz
      rw [Nat.zero_add] at hr hnc
      have hgr := hH.drew.newGrown hG hzl (by omega) (LRel.nil (μ := μ)) (by simp) hvl2 el (newCap := nc)
      simp only [Nat.zero_add] at hgr
      refine ⟨_, _, _, .inl (run hr), hH.ext_le, hgr, below_drew.trans (below_alloc hH.drew.size _), ?_⟩
      rw [VRel]
      exact ⟨_, nc, Mu.ext_same, rfl, hnc, (fun h => by cases h), (fun _ => by simp)⟩
end
end Go.Am
