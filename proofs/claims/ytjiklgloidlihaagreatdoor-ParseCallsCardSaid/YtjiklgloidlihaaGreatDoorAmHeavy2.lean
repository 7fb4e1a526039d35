/- Maps, conversions, appends. -/
import Derived.Test.YtjiklgloidlihaaGreatDoorAmHeavy
namespace Go.Am
open Go Go.RowKit
section
variable {P : Program} {C : Ctx} {N : Nat} {μ : Mu} {H H' : AHeap} {w : World}
variable {e : Env} {ρ : Operand → Value} {dst : Option Tmp} {type : TypeId} {pos : String} {after : Array Edge} {guard : Option (Nat × Bool)} {v : AVal}

def ERelM (μ : Mu) (p : AVal × AVal) (e : MapEntry) : Prop := VRel μ p.1 e.key ∧ VRel μ p.2 e.val
theorem keyEq_bits {a b : AVal} {va vb : Value} (ha : VRel μ a va) (hb : VRel μ b vb) (h : keyEq a b = some true) : Instr.sameBits 10000 vb va = true := by
  rcases keyEq_some h with ⟨k, x, y, rfl, rfl, hr⟩ | ⟨x, y, rfl, rfl, hr⟩ | ⟨x, y, rfl, rfl, hr⟩ <;> rw [VRel] at ha <;> rw [VRel] at hb
  · have : x = y := by simpa using hr.symm
    rw [ha, hb, this]; simp [Instr.sameBits]
  · obtain ⟨s, rfl, rfl⟩ := ha
    obtain ⟨u, rfl, rfl⟩ := hb
    have h1 := bytesN_inj ((eqStr_eq _ _).1 hr.symm)
    rw [h1]
    show (u == u) = true
    show (u.data == u.data) = true
    simp
  · have : x = y := by simpa using hr.symm
    rw [ha, hb, this]; simp [Instr.sameBits]
theorem setMapA_ok {D : TypeDesc} {k v : AVal} {kv vv : Value} (hD : KeyFits D k) (hk : VRel μ k kv) (hv : VRel μ v vv) {l : List (AVal × AVal)} {es : List MapEntry} (hl : All2 (ERelM μ) l es) :
    ∀ {i : Nat} {l' : List (AVal × AVal)}, setMapA k v l = some l' →
      (∃ (j : Nat) (e0 : MapEntry), Instr.findNow D kv es i = some (some (i + j, e0.val)) ∧ es[j]? = some e0 ∧ Instr.sameBits 10000 e0.key kv = true ∧ All2 (ERelM μ) l' (es.set j { e0 with key := kv, val := vv })) ∨
      (Instr.findNow D kv es i = some none ∧ ∀ born, All2 (ERelM μ) l' (es ++ [⟨kv, vv, born⟩])) := by
  induction hl with
  | nil => intro i l' h; rw [setMapA] at h; cases h; exact .inr ⟨rfl, fun born => .cons ⟨hk, hv⟩ .nil⟩
  | @cons p e l es hpe hrest ih =>
    intro i l' h
    rw [setMapA, ob_some] at h
    obtain ⟨q, hq, h⟩ := h
    have h1 := sameNow_ok hD hk hpe.1 hq
    cases q with
    | true =>
      rw [cond_true] at h
      cases h
      refine .inl ⟨0, e, by rw [Instr.findNow, h1]; simp, by simp, keyEq_bits hk hpe.1 hq, ?_⟩
      exact .cons ⟨hk, hv⟩ hrest
    | false =>
      rw [cond_false, ob_some] at h
      obtain ⟨r, hr, h⟩ := h
      cases h
      rcases ih (i := i + 1) hr with ⟨j, e0, h2, h3, h4, h5⟩ | ⟨h2, h3⟩
      · refine .inl ⟨j + 1, e0, ?_, by simpa using h3, h4, ?_⟩
        · rw [Instr.findNow, h1]; simp only []; rw [h2, show i + 1 + j = i + (j + 1) by omega]
        · exact .cons hpe h5
      · exact .inr ⟨by rw [Instr.findNow, h1]; exact h2, fun born => .cons hpe (h3 born)⟩
theorem run_setObj {r : Nat} {o o' : Obj} (h : w.heap[r]? = some o) (hc : ∀ a b c, o ≠ .cells a b c) : (setObj r o').run P w = .ok () (World.setBlk w r o') := by
  simp only [setObj, Sem.run, h]
  rfl
theorem mapUpdate_ok (hT : TysOk P C) (hbase : 256 ≤ C.base) (hH : HRel N μ H w) (hE : ERel μ e ρ) {t : Nat} {m k x : Operand} (h : hUpdate t m k x C e H = .val v H') :
    ∃ w', (Instr.mapUpdate t (ρ m) (ρ k) (ρ x)).run P w = .ok () w' ∧ HRel N μ H' w' ∧ Below N w w' ∧ v = undefA := by
  have h := resV_val h
  simp only [ob_some, guardO_some, asMap_some, Bool.not_eq_true'] at h
  obtain ⟨ty, hty, ke, hke, kty, hkty, hkd, mv, hm, b, rfl, hbb, l, hl, kv, hk, hfit, xv, hx, l', hl', h⟩ := h
  cases h
  have hKF := hT.facts hkty
  obtain ⟨D, hD⟩ := hKF.und
  have hfits := keyFits_of hKF hD hkd hfit
  have hD' : (∃ k, D = .int k) ∨ D = .string ∨ D = .bool := by
    rcases hfits with ⟨k, h, _⟩ | ⟨h, _⟩ | ⟨h, _⟩
    · exact .inl ⟨k, h⟩
    · exact .inr (.inl h)
    · exact .inr (.inr h)
  have hmv := hE _ _ hm
  rw [VRel] at hmv
  obtain ⟨i, hi, hmv⟩ := hmv
  obtain ⟨es, clock, h1, h2⟩ := hH.mapAt hl hi
  have hb : 256 ≤ b := by
    have : ¬ b < C.base := fun k => by rw [blts.2 k] at hbb; cases hbb
    omega
  have hown := hH.own b i hb hi
  have hu := desc_map (hT.facts hty) hke
  have hck := checkKey_ok (P := P) (w := w) (empty := false) (d := 9999) (kv := ρ k) hD hD'
  have hfk : ∀ (q : Option (Nat × Value)), Instr.findNow D (ρ k) es.toList 0 = some q → (Instr.findKey ke.1 (ρ k) es.toList).run P w = .ok q w := by
    intro q hq
    unfold Instr.findKey
    simp only [Sem.run_bind, run_und hD, Result.andThen_ok, hq, Sem.run_pure]
  rcases setMapA_ok (i := 0) hfits (hE _ _ hk) (hE _ _ hx) h2 hl' with ⟨j, e0, h3, h4, h5, h6⟩ | ⟨h3, h4⟩
  · have h4' : es[j]? = some e0 := by simpa using h4
    have hj : j < es.size := (Array.getElem?_eq_some_iff.1 h4').1
    refine ⟨World.setBlk w i.b (.map (es.modify j fun e => { e with key := ρ k, val := ρ x }) clock), ?_, hH.upd (blkMap_some hl) hi hb ⟨_, clock, rfl, ?_⟩, below_setBlk hown.1, rfl⟩
    · have h7 := hfk _ h3
      simp only [Nat.zero_add] at h7
      simp only [Instr.mapUpdate, Sem.run_bind, run_und hu, Result.andThen_ok, hmv, run_getObj h1 (by simp), hck, h7, h4', Option.map_some, Option.getD_some, Instr.keyThatStays, h5, if_true, Sem.run_pure, run_setObj h1 (by simp)]
    · have : (es.modify j fun e => { e with key := ρ k, val := ρ x }).toList = es.toList.set j { e0 with key := ρ k, val := ρ x } := by
        apply List.ext_getElem?
        intro n
        rw [Array.getElem?_toList, Array.getElem?_modify, List.getElem?_set]
        by_cases e : j = n
        · subst e
          rw [if_pos rfl, if_pos rfl, h4', if_pos (by simpa using hj)]; rfl
        · rw [if_neg e, if_neg e]; simp
      rw [this]; exact h6
  · refine ⟨World.setBlk w i.b (.map (es.push { key := ρ k, val := ρ x, born := clock }) (clock + 1)), ?_, hH.upd (blkMap_some hl) hi hb ⟨_, clock + 1, rfl, ?_⟩, below_setBlk hown.1, rfl⟩
    · have h7 := hfk _ h3
      simp only [Instr.mapUpdate, Sem.run_bind, run_und hu, Result.andThen_ok, hmv, run_getObj h1 (by simp), hck, h7, run_setObj h1 (by simp)]
    · rw [Array.toList_push]; exact h4 clock

theorem hUpdate_ok (hT : TysOk P C) (hbase : 256 ≤ C.base) (hH : HRel N μ H w) (hE : ERel μ e ρ) {t : Nat} {m k x : Operand} (h : hUpdate t m k x C e H = .val v H') :
    HvOk P N μ w ρ ⟨dst, .mapUpdate t m k x, type, pos, after, guard⟩ v H' ∧ HvOk P N μ w ρ ⟨dst, .insert t m k x, type, pos, after, guard⟩ v H' := by
  obtain ⟨w', h1, h2, h3, rfl⟩ := mapUpdate_ok (P := P) hT hbase hH hE h
  constructor
  all_goals
    refine ⟨undef, w', μ, .inr ⟨?_, rfl⟩, μ.le_refl, h2, h3, undef_rel⟩
    simp only [execOp, Sem.run_bind, h1, Result.andThen_ok, Sem.run_pure]
theorem byteVals_rel (s : ByteArray) : LRel μ (byteVals (bytesN s)) (s.data.map fun b => Value.int .u8 b.toNat).toList := by
  refine LRel.mk (by simp [byteVals, bytesN]) fun j a v ha hv => ?_
  unfold byteVals bytesN at ha
  simp only [List.getElem?_map, Array.toList_map] at ha hv
  cases h : s.data.toList[j]? with
  | none => rw [h] at ha; cases ha
  | some b =>
    rw [h] at ha hv
    simp at ha hv
    rw [← ha, ← hv, VRel]
theorem byteVals_length (l : List Nat) : (byteVals l).length = l.length := by simp [byteVals]
/-- a new loose block: what is known of it lies at its head -/
theorem HRel.newLoose (hH : HRel N μ H w) {l : List AVal} {cs : Array Value} {es : Nat} (hlen : l.length ≤ cs.size) (hl : ∀ (j : Nat) a, l[j]? = some a → ∃ v, cs[j]? = some v ∧ VRel μ a v) (elem : TypeId) (fr : Nat × Nat) (hfr : fr.2 ≤ fr.1 ∨ cs.size ≤ fr.1) (hmod : l.length % es = 0) :
    HRel N (μ.ext H.next ⟨w.heap.size, false, es, cs.size⟩) (newCells H l (some es)) (w.alloc (.cells cs elem fr)) := by
  refine hH.newBlk rfl ⟨cs, elem, fr, rfl, by rw [llen_eq]; exact hlen, hfr, fun j v hv => ?_, rfl, rfl, rfl, by rw [llen_eq]; exact hmod⟩
  rw [Tr.get_ofList] at hv
  obtain ⟨u, hu, hr⟩ := hl j v hv
  exact ⟨by rw [llen_eq]; exact (List.getElem?_eq_some_iff.1 hv).1, u, hu, hr.mono hH.ext_le _ _⟩
theorem cut_cap (need old : Nat) (elem : TypeId) (t : Nat) : need ≤ (Question.appendCap need old elem).cut t := by simp [Question.cut]
theorem run_chooseCap (need old : Nat) (elem : TypeId) : ∃ c, need ≤ c ∧ (choose (.appendCap need old elem)).run P w = .ok c w.drew := by
  refine ⟨(Question.appendCap need old elem).cut (w.tape w.drawn (.appendCap need old elem)), cut_cap _ _ _ _, ?_⟩
  rw [run_choose]
  simp [Question.forced]
theorem below_drew : Below N w w.drew := (Below.refl N w).drew
theorem stringToBytes_ok (hH : HRel N μ H w) {el : Nat} (s : ByteArray) : ∃ w' cap, (Conv.stringToBytes el s).run P w = .ok (.slice (some ⟨w.heap.size, 0, none⟩) s.size cap) w' ∧ s.size ≤ cap ∧
    HRel N (μ.ext H.next ⟨w.heap.size, false, 1, cap⟩) (newCells H (byteVals (bytesN s)) (some 1)) w' ∧ Below N w w' := by
  obtain ⟨cap, hcap, hc⟩ := run_chooseCap (P := P) (w := w) s.size 0 el
  let cs : Array Value := (s.data.map fun b => Value.int .u8 b.toNat) ++ Array.replicate (cap - s.size) (.int .u8 0)
  have hsz : cs.size = cap := by simp [cs]; show s.data.size + (cap - s.size) = cap; have : s.data.size = s.size := rfl; omega
  have hdat : (s.data.map fun b => Value.int .u8 b.toNat).size = s.size := by simp
  have hpush : ∀ X : Obj, (w.drew.heap.push X)[w.heap.size]? = some X := fun X => by show (w.heap.push X)[w.heap.size]? = _; simp
  refine ⟨w.drew.alloc (.cells cs el (cap, cap + 1)), cap, ?_, hcap, ?_, (below_drew).trans (below_alloc (by simpa using hH.size) _)⟩
  · unfold Conv.stringToBytes
    have hfz : (w.drew.alloc (.cells cs el)).freeze ⟨w.heap.size, cap, none⟩ 1 = w.drew.alloc (.cells cs el (cap, cap + 1)) := by
      unfold World.freeze
      rw [if_neg (by simp)]
      unfold World.alloc
      congr 1
      apply Array.ext_getElem?
      intro k
      rw [Array.getElem?_modify]
      by_cases e : k = w.heap.size
      · subst e; rw [if_pos rfl, hpush, hpush]; rfl
      · rw [if_neg (fun h => e h.symm)]
        simp only [Array.getElem?_push]
        rw [if_neg (by simpa using e), if_neg (by simpa using e)]
    have hshape : (w.drew.alloc (.cells cs el)).shape? w.heap.size = some (el, cs.size) := by
      unfold World.shape? World.alloc
      simp only [hpush]
    simp only [Sem.run_bind, hc, Result.andThen_ok, run_newRow, markStringish, run_shape]
    have h2 : (w.drew.alloc (.cells cs el)).shape? w.drew.heap.size = some (el, cap) := by rw [← hsz]; exact hshape
    simp only [show ((s.data.map fun b => Value.int .u8 (b.toNat : Int)) ++ Array.replicate (cap - s.size) (Value.int .u8 0)) = cs from rfl, h2, run_freeze, Result.andThen_ok, Sem.run_pure]
    rw [show (⟨w.drew.heap.size, cap, none⟩ : Addr) = ⟨w.heap.size, cap, none⟩ from rfl, hfz]
    rfl
  · have := (hH.drew).newLoose (l := byteVals (bytesN s)) (cs := cs) (es := 1) (by rw [byteVals_length, bytesN_length, hsz]; exact hcap) (fun j a ha => ?_) el (cap, cap + 1) (.inr (by rw [hsz]; exact Nat.le_refl _)) (Nat.mod_one _)
    · rw [hsz] at this; exact this
    · obtain ⟨u, hu, hr⟩ := (byteVals_rel (μ := μ) s).get ha
      refine ⟨u, ?_, hr⟩
      have hj : j < s.size := by
        have := (List.getElem?_eq_some_iff.1 ha).1
        rw [byteVals_length, bytesN_length] at this; exact this
      show ((s.data.map fun b => Value.int .u8 (b.toNat : Int)) ++ _)[j]? = _
      rw [Array.getElem?_append_left (by rw [hdat]; exact hj)]
      simpa using hu
theorem hConvert_ok (hT : TysOk P C) (hH : HRel N μ H w) (hE : ERel μ e ρ) {s d : Nat} {x : Operand} (h : hConvert s d x C e H = .val v H') : HvOk P N μ w ρ ⟨dst, .convert s d x, type, pos, after, guard⟩ v H' := by
  unfold hConvert at h
  split at h
  · rename_i u hu
    injection h with h1 h2
    subst h1 h2
    exact (lConv_ok hT hH hE hu).hv hH
  · have h := resV_val h
    simp only [ob_some, guardO_some, kEq_eq, asStr_some, llen_eq] at h
    obtain ⟨sy, hsy, ty, hty, el, hel, et, het, k, hk, rfl, a, ha, l, rfl, h⟩ := h
    cases h
    have hv := hE _ _ ha
    rw [VRel] at hv
    obtain ⟨str, hxv, rfl⟩ := hv
    obtain ⟨w', cap, h1, h2, h3, h4⟩ := stringToBytes_ok (P := P) (el := el) hH str
    obtain ⟨su, hsu⟩ := (hT.facts hsy).und
    refine ⟨.slice (some ⟨w.heap.size, 0, none⟩) str.size cap, w', _, .inl ?_, hH.ext_le, h3, h4, ?_⟩
    · have h5 : (convert s d (ρ x)).run P w = .ok (.slice (some ⟨w.heap.size, 0, none⟩) str.size cap) w' := by
        rw [hxv]
        simp only [convert, Sem.run_bind, run_und hsu, run_und (desc_slice (hT.facts hty) hel), Result.andThen_ok]
        cases su <;> simp only [run_und (desc_int (hT.facts het) hk), Result.andThen_ok, h1]
      simp only [execOp, Sem.run_bind, h5, Result.andThen_ok, Sem.run_pure]
    · rw [VRel, bytesN_length]
      exact ⟨_, cap, Mu.ext_same, rfl, h2, (fun h => by cases h), (fun _ => by simp)⟩
end
end Go.Am
