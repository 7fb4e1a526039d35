/- The operations that make or change memory. -/
import Derived.Test.YtjiklgloidlihaaGreatDoorAmHeap
namespace Go.Am
open Go Go.RowKit
section
variable {P : Program} {C : Ctx} {N : Nat} {μ : Mu} {H H' : AHeap} {w : World}
variable {e : Env} {ρ : Operand → Value} {dst : Option Tmp} {type : TypeId} {pos : String} {after : Array Edge} {guard : Option (Nat × Bool)} {v : AVal}

/-- what is to be shown of an operation that comes to a value -/
def HvOk (P : Program) (N : Nat) (μ : Mu) (w : World) (ρ : Operand → Value) (o : Oper) (v : AVal) (H' : AHeap) : Prop :=
  ∃ v' w' μ', ((execOp ρ o).run P w = .ok (.value v') w' ∨ ((execOp ρ o).run P w = .ok .skip w' ∧ v' = undef)) ∧ μ.le μ' ∧ HRel N μ' H' w' ∧ Below N w w' ∧ VRel μ' v v'
theorem LOk.hv (hH : HRel N μ H w) {o : Oper} (h : LOk P μ w ρ o v) : HvOk P N μ w ρ o v H := by
  obtain ⟨v', h1, h2⟩ := h
  exact ⟨v', w, μ, .inl h1, μ.le_refl, hH, Below.refl _ _, h2⟩
theorem resV_val {x : Option (AVal × AHeap)} {v : AVal} {H' : AHeap} (h : resV x = .val v H') : x = some (v, H') := by
  unfold resV at h
  split at h
  · injection h with h1 h2; rw [← h1, ← h2]
  · cases h
theorem lv_val {f : LOp} (h : lv f C e H = .val v H') : f C e H = some v ∧ H' = H := by
  unfold lv at h
  split at h
  · rename_i u hu; injection h with h1 h2; exact ⟨by rw [hu, h1], h2.symm⟩
  · cases h
theorem run_newRow {elem : TypeId} {cs : Array Value} : (newRow elem cs).run P w = .ok ⟨w.heap.size, 0, none⟩ (w.alloc (.cells cs elem)) := by
  simp [newRow]
theorem run_newVar {elem : TypeId} {v : Value} : (newVar elem v).run P w = .ok ⟨w.heap.size, 0, none⟩ (w.alloc (.cells v.cells elem)) := run_newRow
theorem undef_rel : VRel μ undefA undef := by rw [undefA, VRel]; exact ⟨_, rfl, .nil⟩

theorem hAlloc_ok (hT : TysOk P C) (hH : HRel N μ H w) {t : Nat} (h : hAlloc t C e H = .val v H') : HvOk P N μ w ρ ⟨dst, .alloc t, type, pos, after, guard⟩ v H' := by
  have h := resV_val h
  simp only [ob_some] at h
  obtain ⟨ty, hty, h⟩ := h
  cases h
  obtain ⟨z, hz, _, hzl⟩ := (hT.facts hty).zero (μ := μ)
  refine ⟨.pointer (some ⟨w.heap.size, 0, none⟩), w.alloc (.cells z.cells t), _, .inl ?_, hH.ext_le, by have := hH.newTight hzl t; rwa [Array.toArray_toList] at this, below_alloc hH.size _, by rw [VRel]; exact ⟨_, Mu.ext_same, rfl⟩⟩
  simp only [execOp, Instr.alloc, Sem.run_bind, hz, Result.andThen_ok, run_newVar, Sem.run_pure]
theorem hBox_ok (hH : HRel N μ H w) (hE : ERel μ e ρ) {t : Nat} {x : Operand} (h : hBox x C e H = .val v H') : HvOk P N μ w ρ ⟨dst, .box t x, type, pos, after, guard⟩ v H' := by
  have h := resV_val h
  simp only [ob_some] at h
  obtain ⟨a, ha, h⟩ := h
  cases h
  refine ⟨.pointer (some ⟨w.heap.size, 0, none⟩), w.alloc (.cells (ρ x).cells t), _, .inl ?_, hH.ext_le, by have := hH.newTight (cells_rel (hE _ _ ha)) t; rwa [Array.toArray_toList] at this, below_alloc hH.size _, by rw [VRel]; exact ⟨_, Mu.ext_same, rfl⟩⟩
  simp only [execOp, Instr.box, Sem.run_bind, run_newVar, Result.andThen_ok, Sem.run_pure]
theorem repA_length (z : List AVal) : ∀ n, (repA z n).length = n * z.length := by
  intro n
  induction n with
  | zero => simp [repA]
  | succ n ih => rw [repA, lapp_eq, List.length_append, ih, Nat.add_mul]; omega
theorem repA_get (z : List AVal) : ∀ (n j : Nat), j < n * z.length → (repA z n)[j]? = z[j % z.length]? := by
  intro n
  induction n with
  | zero => intro j hj; simp at hj
  | succ n ih =>
    intro j hj
    rw [repA, lapp_eq]
    by_cases h : j < z.length
    · rw [List.getElem?_append_left h, Nat.mod_eq_of_lt h]
    · rw [List.getElem?_append_right (by omega), ih _ (by rw [Nat.add_mul] at hj; omega)]
      congr 1
      rw [Nat.mod_eq_sub_mod (by omega : z.length ≤ j)]
theorem rep_rel {z : List AVal} {zv : Array Value} (hz : LRel μ z zv.toList) (n : Nat) : LRel μ (repA z n) ((Array.range (n * z.length)).map (zv[· % zv.size]!)).toList := by
  have hl := hz.length
  simp only [Array.length_toList] at hl
  refine LRel.mk (by simp [repA_length]) fun j a v ha hv => ?_
  have hj : j < n * z.length := by rw [← repA_length]; exact (List.getElem?_eq_some_iff.1 ha).1
  rw [repA_get z n j hj] at ha
  obtain ⟨u, hu, hr⟩ := hz.get ha
  have hpos : 0 < z.length := by
    rcases Nat.eq_zero_or_pos z.length with h0 | h0
    · rw [h0] at hj; simp at hj
    · exact h0
  have hm : j % z.length < z.length := Nat.mod_lt _ hpos
  simp only [Array.toList_map, List.getElem?_map, Array.toList_range, List.getElem?_range hj, Option.map_some, Option.some.injEq] at hv
  rw [← hv, hl]
  have : zv[j % z.length]! = u := by
    have h1 : zv[j % z.length]? = some u := by simpa using hu
    rw [getElem!_def, h1]
  rw [this]; exact hr
theorem hBuildSlice_ok (hT : TysOk P C) (hH : HRel N μ H w) (hE : ERel μ e ρ) {t len : Nat} {parts : Array (Nat × Operand)} (h : hBuildSlice t len parts C e H = .val v H') : HvOk P N μ w ρ ⟨dst, .buildSlice t len parts, type, pos, after, guard⟩ v H' := by
  have h := resV_val h
  simp only [ob_some, guardO_some, Bool.and_eq_true, blts, beqs, llen_eq] at h
  obtain ⟨ty, hty, el, hel, et, het, ⟨hlt, hzs⟩, ps, hps, l, hl, h⟩ := h
  cases h
  have hF := hT.facts het
  obtain ⟨z, hz, _, hzl⟩ := hF.zero (μ := μ)
  have hzlen := hzl.length
  simp only [Array.length_toList] at hzlen
  have hrel := rep_rel hzl len
  rw [hzs] at hrel
  obtain ⟨out, ho, hr⟩ := fillA_ok (hE.parts hps) hrel hl
  have hol : out.size = l.length := by simpa using hr.length
  refine ⟨.slice (some ⟨w.heap.size, 0, none⟩) len len, w.alloc (.cells out el), _, .inl ?_, hH.ext_le, by have := hH.newTight hr el; rwa [Array.toArray_toList] at this, below_alloc hH.size _, ?_⟩
  · have h1 : ¬ len * et.size > 2 ^ 24 := by omega
    by_cases h0 : len * et.size = 0
    · have harr : ((Array.range (len * et.size)).map ((#[] : Array Value)[· % (#[] : Array Value).size]!)) = (Array.range (len * et.size)).map (z.cells[· % z.cells.size]!) := by rw [h0]; simp
      simp only [execOp, Instr.buildSlice, Sem.run_bind, run_und (desc_slice (hT.facts hty) hel), Result.andThen_ok, hF.size, if_neg h1, if_pos h0, Sem.run_pure, harr, Array.toList_map, ho, run_newRow]
    · simp only [execOp, Instr.buildSlice, Sem.run_bind, run_und (desc_slice (hT.facts hty) hel), Result.andThen_ok, hF.size, if_neg h1, if_neg h0, Sem.run_pure, hz, Array.toList_map, ho, run_newRow]
  · rw [VRel]; exact ⟨_, len, Mu.ext_same, rfl, Nat.le_refl _, fun _ => rfl, fun h => by cases h⟩
theorem hStore_ok (hT : TysOk P C) (hbase : 256 ≤ C.base) (hH : HRel N μ H w) (hE : ERel μ e ρ) {t : Nat} {a x : Operand} (h : hStore t a x C e H = .val v H') : HvOk P N μ w ρ ⟨dst, .store t a x, type, pos, after, guard⟩ v H' := by
  have h := resV_val h
  simp only [ob_some, guardO_some, beqs, llen_eq, asPtr_some] at h
  obtain ⟨ty, hty, av, ha, p, rfl, xv, hx, hs, H1, h1, h⟩ := h
  cases h
  have hF := hT.facts hty
  have hp := hE _ _ ha
  rw [VRel] at hp
  obtain ⟨i, hi, hpv⟩ := hp
  have hc := cells_rel (hE _ _ hx)
  obtain ⟨w', h2, h3, h4⟩ := storeA_ok (P := P) hbase hH h1 hi hc
  have hcl := hc.length
  simp only [Array.length_toList] at hcl
  refine ⟨undef, w', μ, .inr ⟨?_, rfl⟩, μ.le_refl, h3, h4, undef_rel⟩
  have h5 : ¬ (ρ x).cells.size ≠ ty.size := by omega
  simp only [execOp, Instr.storeAt, hpv, Instr.sureAddr, Sem.run_bind, Sem.run_pure, Result.andThen_ok, storeVar, hF.size, Sem.run_ite, if_neg h5, h2]
theorem hMakeMap_ok (hH : HRel N μ H w) {t : Nat} {r : Option Operand} (h : hMakeMap r C e H = .val v H') : HvOk P N μ w ρ ⟨dst, .makeMap t r, type, pos, after, guard⟩ v H' := by
  unfold hMakeMap at h
  split at h
  · injection h with h1 h2
    subst h1 h2
    refine ⟨.map (some w.heap.size), w.alloc (.map #[] 0), _, .inl ?_, hH.ext_le, hH.newBlk (i := ⟨w.heap.size, true, 0, 0⟩) rfl ⟨#[], 0, rfl, .nil⟩, below_alloc hH.size _, by rw [VRel]; exact ⟨_, Mu.ext_same, rfl⟩⟩
    simp [execOp, Instr.makeMap]
  · cases h
theorem hMakeSlice_ok (hT : TysOk P C) (hH : HRel N μ H w) (hE : ERel μ e ρ) {t : Nat} {l c : Operand} (h : hMakeSlice t l c C e H = .val v H') : HvOk P N μ w ρ ⟨dst, .makeSlice t l c, type, pos, after, guard⟩ v H' := by
  have h := resV_val h
  simp only [ob_some, guardO_some, Bool.and_eq_true, bles, blts, beqs, llen_eq, asNat_some] at h
  obtain ⟨ty, hty, el, hel, et, het, lv', hl, ln, ⟨k1, rfl⟩, cv, hc, cn, ⟨k2, rfl⟩, ⟨⟨⟨h1, h2⟩, h3⟩, h4⟩, h⟩ := h
  cases h
  have hF := hT.facts het
  obtain ⟨z, hz, _, hzl⟩ := hF.zero (μ := μ)
  have hrel := rep_rel hzl cn
  rw [h4] at hrel
  have hlv := hE _ _ hl
  rw [VRel] at hlv
  have hcv := hE _ _ hc
  rw [VRel] at hcv
  obtain ⟨inf, hinf, hsz, hby, _⟩ := hF.info
  refine ⟨.slice (some ⟨w.heap.size, 0, none⟩) ln cn, w.alloc (.cells ((Array.range (cn * et.size)).map (z.cells[· % z.cells.size]!)) el), _, .inl ?_, hH.ext_le, by have := hH.newTight hrel el; rwa [Array.toArray_toList] at this, below_alloc hH.size _, ?_⟩
  · have hw1 : IntKind.i64.wrap (ln : Int) = ln := wrap_small (by simp [kHi]; omega)
    have hw2 : IntKind.i64.wrap (cn : Int) = cn := wrap_small (by simp [kHi]; omega)
    have hb : (et.bytes : Int) * (cn : Int) = ((cn * et.bytes : Nat) : Int) := by rw [Int.mul_comm]; simp
    have hc1 : (((cn : Int) < 0 || decide ((et.bytes : Int) * (cn : Int) > 2 ^ 48)) || decide ((ln : Int) < 0) || decide ((ln : Int) > (cn : Int))) = false := by
      rw [hb]; simp; omega
    have hnn : ¬ ((((cn : Int) < 0 || decide ((et.bytes : Int) * (cn : Int) > 2 ^ 48)) || decide ((ln : Int) < 0) || decide ((ln : Int) > (cn : Int))) = true) := by rw [hc1]; simp
    by_cases h0 : cn * et.size = 0
    · have harr : ((Array.range (cn * et.size)).map ((#[] : Array Value)[· % (#[] : Array Value).size]!)) = (Array.range (cn * et.size)).map (z.cells[· % z.cells.size]!) := by rw [h0]; simp
      simp only [execOp, Instr.makeSlice, Sem.run_bind, run_und (desc_slice (hT.facts hty) hel), Result.andThen_ok, hlv, hcv, asInt, asIntOf, Sem.run_pure, run_info hinf, hby, hw1, hw2, if_neg hnn, run_askRoom, hF.size, Int.toNat_natCast, if_pos h0, harr, run_newRow]
    · simp only [execOp, Instr.makeSlice, Sem.run_bind, run_und (desc_slice (hT.facts hty) hel), Result.andThen_ok, hlv, hcv, asInt, asIntOf, Sem.run_pure, run_info hinf, hby, hw1, hw2, if_neg hnn, run_askRoom, hF.size, Int.toNat_natCast, if_neg h0, hz, run_newRow]
  · rw [VRel]; exact ⟨_, cn, Mu.ext_same, rfl, Nat.le_refl _, fun _ => rfl, fun h => by cases h⟩
end
end Go.Am
